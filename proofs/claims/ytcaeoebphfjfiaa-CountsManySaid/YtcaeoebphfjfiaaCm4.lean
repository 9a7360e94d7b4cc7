/- Texts that the proof rests on, part 4: lemmas for every heap that is related to a world, no condition beyond each lemma's own. -/
import Derived.Test.YtcaeoebphfjfiaaCm3
import Derived.Test.YtcaeoebphfjfiaaCmOwnL
import Derived.Test.YtcaeoebphfjfiaaCm2
import Derived.Test.YtcaeoebphfjfiaaCm1
import Derived.Test.YtcaeoebphfjfiaaCmRow

/- Variables that hang from nobody. -/
namespace Go.Proofs.Ytcaeoebphfjfiaa.Am
open Go Go.RowKit
set_option maxRecDepth 100000
set_option linter.unusedVariables false
set_option linter.unusedSimpArgs false

def Zz (ways : Int) (m : Nat) : List Link := (List.range m).map fun (k : Nat) => ⟨k, k, k, ways⟩
def Y2 (k : Nat) : Forest := ⟨List.replicate k ⟨#[120]⟩, (List.range k).map fun (i : Nat) => (i : Int), List.replicate k (-1), List.replicate k [], List.replicate k []⟩
def Zi (ways : Int) (sizes : List Int) : Parts := ⟨sizes.map fun m => Zz ways m.toNat, sizes.map fun _ => []⟩
theorem apartL_next (ways : Int) (m : Nat) : Zz ways (m + 1) = Zz ways m ++ [⟨m, m, m, ways⟩] := by
  unfold Zz
  rw [List.range_succ, List.map_append]; rfl
theorem Z2 (ways : Int) (m : Nat) : (Zz ways m).length = m := by unfold Zz; simp
structure ApartR (G : Hp) (ways : Int) (sizes : List Int) (i : Nat) (nds : List (List Value)) : Prop where
  len : nds.length = i
  at_ : ∀ (j : Nat) (h : j < nds.length) (h' : j < sizes.length), ∃ w, nds[j] = [w] ∧ Sl kLink G w (Zz ways sizes[j].toNat)
theorem ApartR.mono {G G' : Hp} (h : G.sees G') {ways : Int} {sizes : List Int} {i : Nat} {nds : List (List Value)} (hr : ApartR G ways sizes i nds) : ApartR G' ways sizes i nds :=
  ⟨hr.len, fun j a b => let ⟨w, h1, h2⟩ := hr.at_ j a b; ⟨w, h1, h2.mono h⟩⟩
theorem ApartR.snoc {G : Hp} {ways : Int} {sizes : List Int} {i : Nat} {nds : List (List Value)} (hr : ApartR G ways sizes i nds) (hi : i < sizes.length) {w : Value} (hs : Sl kLink G w (Zz ways sizes[i].toNat)) : ApartR G ways sizes (i + 1) (nds ++ [[w]]) := by
  have hl := hr.len
  refine ⟨by simp [hl], fun j a b => ?_⟩
  rw [List.length_append, List.length_singleton] at a
  by_cases h : j < nds.length
  · rw [List.getElem_append_left h]; exact hr.at_ j h b
  · obtain rfl : j = nds.length := by omega
    rw [List.getElem_append_right (Nat.le_refl _)]
    simp only [Nat.sub_self, List.getElem_cons_zero]
    subst hl
    exact ⟨w, rfl, hs⟩
theorem rep_next {α : Type} (n : Nat) (x : α) : List.replicate n x ++ [x] = List.replicate (n + 1) x := by rw [List.replicate_succ']
def eStr (v : Value) (i : Nat) : Ent := ⟨1, by decide, v, List.replicate i [.string ⟨#[120]⟩]⟩
def eInt (v : Value) (i : Nat) : Ent := ⟨1, by decide, v, (List.range i).map fun (k : Nat) => [.int .i64 k]⟩
def eNeg (v : Value) (i : Nat) : Ent := ⟨1, by decide, v, List.replicate i [.int .i64 (-1)]⟩
def V9 (v : Value) (i : Nat) : Ent := ⟨1, by decide, v, List.replicate i [.slice none 0 0]⟩
def eNds (v : Value) (nds : List (List Value)) : Ent := ⟨1, by decide, v, nds⟩
theorem range_cells (i : Nat) : ((List.range i).map fun (k : Nat) => [Value.int .i64 k]) ++ [[.int .i64 i]] = (List.range (i + 1)).map fun (k : Nat) => [Value.int .i64 k] := by rw [List.range_succ, List.map_append]; rfl
theorem eStr_next (v w : Value) (i : Nat) : (⟨(eStr v i).sz, (eStr v i).pos, w, (eStr v i).raws ++ [[.string ⟨#[120]⟩]]⟩ : Ent) = eStr w (i + 1) := by unfold eStr; simp only [rep_next]
theorem eInt_next (v w : Value) (i : Nat) : (⟨(eInt v i).sz, (eInt v i).pos, w, (eInt v i).raws ++ [[.int .i64 i]]⟩ : Ent) = eInt w (i + 1) := by unfold eInt; simp only [range_cells]
theorem eNeg_next (v w : Value) (i : Nat) : (⟨(eNeg v i).sz, (eNeg v i).pos, w, (eNeg v i).raws ++ [[.int .i64 (-1)]]⟩ : Ent) = eNeg w (i + 1) := by unfold eNeg; simp only [rep_next]
theorem eNil_next (v w : Value) (i : Nat) : (⟨(V9 v i).sz, (V9 v i).pos, w, (V9 v i).raws ++ [[.slice none 0 0]]⟩ : Ent) = V9 w (i + 1) := by unfold V9; simp only [rep_next]
theorem eNds_next (v w : Value) (nds : List (List Value)) (x : List Value) : (⟨(eNds v nds).sz, (eNds v nds).pos, w, (eNds v nds).raws ++ [x]⟩ : Ent) = eNds w (nds ++ [x]) := rfl
def BxP (H G : Hp) (b2 b3 : List Value) : Prop := H.le G ∧ H.size + 4 ≤ G.size ∧ G.get H.size = .own 0 [.slice none 0 0, .slice none 0 0, .slice none 0 0, .slice none 0 0, .slice none 0 0] ∧ G.get (H.size + 1) = .own 0 [.slice none 0 0, .slice none 0 0] ∧ G.get (H.size + 2) = .own 0 b2 ∧ G.get (H.size + 3) = .own 0 b3
theorem BxP.le {H G G' : Hp} {b2 b3 : List Value} (h : BxP H G b2 b3) (hle : G.le G') : BxP H G' b2 b3 :=
  ⟨Hp.le_trans h.1 hle, Nat.le_trans h.2.1 hle.1, Xz hle (by have := h.2.1; omega) (by intro e; cases e) h.2.2.1, Xz hle (by have := h.2.1; omega) (by intro e; cases e) h.2.2.2.1, Xz hle (by have := h.2.1; omega) (by intro e; cases e) h.2.2.2.2.1, Xz hle (by have := h.2.1; omega) (by intro e; cases e) h.2.2.2.2.2⟩
theorem BxP.put2 {H G : Hp} {b2 b3 : List Value} (h : BxP H G b2 b3) (b2' : List Value) : BxP H (G.put (H.size + 2) (.own 0 b2')) b2' b3 :=
  ⟨Hp.le_put_new h.1 (by omega) _, h.2.1, by rw [Hp.put_other _ _ (by omega)]; exact h.2.2.1, by rw [Hp.put_other _ _ (by omega)]; exact h.2.2.2.1, Hp.put_same _ _ _, by rw [Hp.put_other _ _ (by omega)]; exact h.2.2.2.2.2⟩
theorem BxP.put3 {H G : Hp} {b2 b3 : List Value} (h : BxP H G b2 b3) (b3' : List Value) : BxP H (G.put (H.size + 3) (.own 0 b3')) b2 b3' :=
  ⟨Hp.le_put_new h.1 (by omega) _, h.2.1, by rw [Hp.put_other _ _ (by omega)]; exact h.2.2.1, by rw [Hp.put_other _ _ (by omega)]; exact h.2.2.2.1, by rw [Hp.put_other _ _ (by omega)]; exact h.2.2.2.2.1, Hp.put_same _ _ _⟩
theorem Zm {H : Hp} {h : 1 ≠ 0} {v : Value} {raws : List (List Value)} {i : Nat} (hs : Sl (kCel 1 h) H v raws) (hl : raws.length = i) : ∃ A c, v = .slice A i c := by
  obtain ⟨A, c, e⟩ := hs.shape
  exact ⟨A, c, by rw [e, hl]⟩
set_option maxHeartbeats 4000000 in
theorem Apart_ok (ways : Int) (sizes : List Int) (u : Value) (H : Hp) (hs : Sl (Ze .i64) H u sizes) (hl : sizes.length ≤ 1000) (hm : ∀ m ∈ sizes, m ≤ 100000) :
    ACalls Try.prog 30 #[.int .u64 ways, u] H (fun r H' => ∃ cs ds, r = .tuple #[.agg cs.toArray, .agg ds.toArray] ∧ kForest.rep H' (Y2 sizes.length) cs ∧ kParts.rep H' (Zi ways sizes) ds ∧ H.le H') := by
  obtain ⟨Au, cu, rfl⟩ := hs.shape
  refine Xr Try.func30 rfl rfl rfl (by simp) ?_
  refine Xd ?_
  refine Xb (by kernel_rfl) ?_
  refine X3 (Y8 (l := [.slice none 0 0, .slice none 0 0, .slice none 0 0, .slice none 0 0, .slice none 0 0]) inf26.zero rfl (by decide)) ?_
  refine X3 (Y8 (l := [.slice none 0 0, .slice none 0 0]) inf29.zero rfl (by decide)) ?_
  refine Xd ?_
  refine Xb (by kernel_rfl) ?_
  refine Xa (Y7 (pl := [(0, 1), (1, 1), (2, 1), (3, 1), (4, 1)]) (r := [.slice _ _ _, .slice _ _ _, .slice _ _ _, .slice _ _ _, .slice _ _ _]) Try.underlying26 inf26.zero (by decide) rfl rfl) ?_
  refine Xa (Y7 (pl := [(0, 1), (1, 1)]) (r := [.slice _ _ _, .slice _ _ _]) Try.underlying29 inf29.zero (by decide) rfl rfl) ?_
  refine X3 (Y8 (l := [.slice none 0 0, .slice none 0 0, .slice none 0 0, .slice none 0 0, .slice none 0 0]) inf26.zero rfl (by decide)) ?_
  refine X3 (Y8 (l := [.slice none 0 0, .slice none 0 0]) inf29.zero rfl (by decide)) ?_
  refine X1 (Ys (vs := [.slice _ _ _, .slice _ _ _, .slice _ _ _, .slice _ _ _, .slice _ _ _]) rfl rfl inf26.size Yk Yr rfl rfl ?_)
  refine X1 (Ys (vs := [.slice _ _ _, .slice _ _ _]) rfl rfl inf29.size Yk Yr rfl rfl ?_)
  refine Xd ?_
  refine Xd ?_
  refine Xb (by kernel_rfl) ?_
  refine Xa (Xg rfl) ?_
  refine Ya ?_
  refine Za (fun n t H' => ∃ (i : Nat) (G : Hp) (v0 v1 v2 v3 v4 v5 v6 : Value) (nds : List (List Value)), i ≤ sizes.length ∧ n = sizes.length - i ∧ BxP H G [v0, v1, v2, v3, v4] [v5, v6] ∧ OwnL G [eStr v0 i, eInt v1 i, eNeg v2 i, V9 v3 i, V9 v4 i, eNds v5 nds, V9 v6 i] H' ∧ ApartR G ways sizes i nds ∧ t 0 = .int .u64 ways ∧ t 1 = .slice Au sizes.length cu ∧ t 4 = .pointer (some ⟨H.size, 0, none⟩) ∧ t 5 = .pointer (some ⟨H.size + 1, 0, none⟩) ∧ t 6 = .pointer (some ⟨H.size + 2, 0, none⟩) ∧ t 7 = .pointer (some ⟨H.size + 3, 0, none⟩) ∧ t 8 = .int .i64 i) (sizes.length) (⟨0, _, .slice none 0 0, .slice none 0 0, .slice none 0 0, .slice none 0 0, .slice none 0 0, .slice none 0 0, .slice none 0 0, [], by omega, rfl, ⟨t_le, by simp, Yk, Yk, Yk, Yk⟩, ⟨_, OwnP.nil _ _, _, OwnP.nil _ _, _, OwnP.nil _ _, _, OwnP.nil _ _, _, OwnP.nil _ _, _, OwnP.nil _ _, _, OwnP.nil _ _, rfl⟩, ⟨rfl, fun j h _ => absurd h (Nat.not_lt_zero _)⟩, rfl, rfl, rfl, rfl, rfl, rfl, rfl⟩) ?_
  rintro n t H1 ⟨i, G, v0, v1, v2, v3, v4, v5, v6, nds, hi, rfl, hb, hown, hr, e0, e1, e4, e5, e6, e7, e8⟩
  obtain ⟨A0, k0, rfl⟩ := Zm (hown.sl (eStr v0 i) (by simp)) (List.length_replicate)
  obtain ⟨A1, k1, rfl⟩ := Zm (hown.sl (eInt v1 i) (by simp)) (show ((List.range i).map fun (k : Nat) => [Value.int .i64 k]).length = i by simp)
  obtain ⟨A2, k2, rfl⟩ := Zm (hown.sl (eNeg v2 i) (by simp)) (List.length_replicate)
  obtain ⟨A3, k3, rfl⟩ := Zm (hown.sl (V9 v3 i) (by simp)) (List.length_replicate)
  obtain ⟨A4, k4, rfl⟩ := Zm (hown.sl (V9 v4 i) (by simp)) (List.length_replicate)
  obtain ⟨A5, k5, rfl⟩ := Zm (hown.sl (eNds v5 nds) (by simp)) hr.len
  obtain ⟨A6, k6, rfl⟩ := Zm (hown.sl (V9 v6 i) (by simp)) (List.length_replicate)
  have bH := hb.le hown.le
  obtain ⟨leH1, zH1, q0, q1, q2, q3⟩ := id bH
  have zz := hown.size
  refine Xd ?_
  refine Xd ?_
  refine Xb (by kernel_rfl) ?_
  refine Xa (Xc Xl) ?_
  refine Xa (X2 Xl) ?_
  refine Xa (Yy rfl Try.underlying23) ?_
  refine Xa (Zg rfl rfl) ?_
  refine X5 rfl rfl ?_ ?_
  intro hc1
  (try simp only [decide_eq_true_eq, decide_eq_false_iff_not, Bool.not_eq_true', Bool.not_eq_false'] at hc1)
  refine X9 ?_
  refine Xd ?_
  refine Ya ?_
  refine Xd ?_
  have hix : i < sizes.length := by omega
  have zz5 := hown.size
  have hL := (((hown.push (.own 1 [.string ⟨#[120]⟩])).push (.own 1 [.int .i64 i])).push (.own 1 [.int .i64 (-1)]))
  have leP : G.le (((G.push (.own 1 [.string ⟨#[120]⟩])).push (.own 1 [.int .i64 i])).push (.own 1 [.int .i64 (-1)])) := Hp.le_trans (Hp.le_trans (Hp.le_push (G) (.own 1 [.string ⟨#[120]⟩])) (Hp.le_push ((G.push (.own 1 [.string ⟨#[120]⟩]))) (.own 1 [.int .i64 i]))) (Hp.le_push (((G.push (.own 1 [.string ⟨#[120]⟩])).push (.own 1 [.int .i64 i]))) (.own 1 [.int .i64 (-1)]))
  have bL := hb.le leP
  have rL := hr.mono leP.sees
  have l0 : (((G.push (.own 1 [.string ⟨#[120]⟩])).push (.own 1 [.int .i64 i])).push (.own 1 [.int .i64 (-1)])).get (H1.size) = .own 1 [.string ⟨#[120]⟩] := by rw [zz5]; exact Yk
  have l1 : (((G.push (.own 1 [.string ⟨#[120]⟩])).push (.own 1 [.int .i64 i])).push (.own 1 [.int .i64 (-1)])).get (H1.size + 1) = .own 1 [.int .i64 i] := by rw [zz5]; exact Yk
  have l2 : (((G.push (.own 1 [.string ⟨#[120]⟩])).push (.own 1 [.int .i64 i])).push (.own 1 [.int .i64 (-1)])).get (H1.size + 2) = .own 1 [.int .i64 (-1)] := by rw [zz5]; exact Yk
  have zL : H1.size + 3 ≤ (((G.push (.own 1 [.string ⟨#[120]⟩])).push (.own 1 [.int .i64 i])).push (.own 1 [.int .i64 (-1)])).size := by simp; omega
  obtain ⟨GP, hGP⟩ : ∃ GP, GP = (((G.push (.own 1 [.string ⟨#[120]⟩])).push (.own 1 [.int .i64 i])).push (.own 1 [.int .i64 (-1)])) := ⟨_, rfl⟩
  rw [← hGP] at hL bL rL zL l0 l1 l2
  clear hGP leP
  refine Yz (by kernel_rfl) (Zd (B := [0, 1, 0, 7, 0, 16, 0, 64, 255, 0, 512, 0, 4095, 1599, 16383, 32767, 65535, 131071, 262143]) (π := [0, 1, 2, 4, 5, 6, 7, 9, 10, 11, 3, 13, 8, 12, 14, 15, 16, 17, 18]) (by kernel_rfl)) ?_
  refine Xe rfl rfl (Xi (off := 0) Xl Try.underlying26 Xl inf22.size (by decide) Xl) Xp ?_
  refine Xe rfl rfl (Xk rfl Try.underlying22 rfl Xs) Xp ?_
  first | refine Zl rfl rfl (Yb (r := [.string _]) Try.underlying22 inf9.size inf9.zero rfl (by decide) (by decide) (by decide) rfl) ?_
  refine Xe rfl rfl (Xi (off := 1) Xl Try.underlying26 Xl inf23.size (by decide) Xl) Xp ?_
  refine Xe rfl rfl (Xk rfl Try.underlying23 rfl Xs) Xp ?_
  refine Xe rfl rfl (Xc Xl) Xp ?_
  first | refine Zl rfl rfl (Yb (r := [.int .i64 _]) Try.underlying23 inf3.size inf3.zero rfl (by decide) (by decide) (by decide) rfl) ?_
  refine Xe rfl rfl (Xi (off := 2) Xl Try.underlying26 Xl inf23.size (by decide) Xl) Xp ?_
  refine Xe rfl rfl (Xk rfl Try.underlying23 rfl Xs) Xp ?_
  first | refine Zl rfl rfl (Yb (r := [.int .i64 _]) Try.underlying23 inf3.size inf3.zero rfl (by decide) (by decide) (by decide) rfl) ?_
  obtain ⟨Ga0, leGa0, ha0, back0⟩ := hL.rot.last
  have zGa := leGa0.1
  obtain ⟨_, zA, qa, qb, qc, qd⟩ := bL.le leGa0
  have m0 := Xz leGa0 (by omega) (by intro e; cases e) l0
  have m1 := Xz leGa0 (by omega) (by intro e; cases e) l1
  have m2 := Xz leGa0 (by omega) (by intro e; cases e) l2
  refine Ym rfl rfl (Ent.append ha0 Try.underlying22 inf9 Xl Xl rfl (lb := H1.size) (by omega) m0 rfl (by intro v hv; simp at hv; subst hv; rfl) (by simp only [eStr, List.length_replicate]; omega) (by decide) ?_)
  rintro w0 Gb0 Hb0 leb0 hb0
  have hsameO := Ent.sameO ha0 leb0 hb0
  obtain ⟨Gc0, lec0, hc0⟩ := back0 Gb0 Hb0 _ leb0 hb0
  rw [eStr_next] at hc0 hb0
  obtain ⟨W0, cw0, rfl⟩ : ∃ A c, w0 = Value.slice A (i + 1) c := Zm (i := i + 1) (OwnP.sl hb0) (by simp [eStr])
  have bb0 := (bL.le lec0).le hc0.le
  obtain ⟨_, zb, qa0, qb0, qc0, qd0⟩ := id bb0
  have l1b := Xz hc0.le (by have := lec0.1; omega) (by intro e; cases e) (Xz lec0 (by omega) (by intro e; cases e) l1)
  have l2b := Xz hc0.le (by have := lec0.1; omega) (by intro e; cases e) (Xz lec0 (by omega) (by intro e; cases e) l2)
  refine ⟨Yh, ?_⟩
  clear hsameO qa qb qc qd m0 m1 m2
  clear l1b
  have l1 := Xz lec0 (by omega) (by intro e; cases e) l1
  clear l2b
  have l2 := Xz lec0 (by omega) (by intro e; cases e) l2
  replace bL := bL.le lec0
  replace rL := rL.mono lec0.sees
  replace zL := Nat.le_trans zL lec0.1
  clear hL
  have hL := hc0
  have zH0 := hL.size
  refine Xe rfl rfl (Xi (off := 0) Xl Try.underlying26 Xl inf22.size (by decide) Xl) Xp ?_
  obtain ⟨Ga1, leGa1, ha1, back1⟩ := hL.rot.last
  have zGa := leGa1.1
  obtain ⟨_, zA, qa, qb, qc, qd⟩ := bL.le leGa1
  have m0 := Xz leGa1 (by omega) (by intro e; cases e) l1
  have m1 := Xz leGa1 (by omega) (by intro e; cases e) l2
  refine Ym rfl rfl (Ent.append ha1 Try.underlying23 inf3 Xl Xl rfl (lb := H1.size + 1) (by omega) m0 rfl (by intro v hv; simp at hv; subst hv; rfl) (by simp only [eInt, List.length_map, List.length_range]; omega) (by decide) ?_)
  rintro w1 Gb1 Hb1 leb1 hb1
  have hsameO := Ent.sameO ha1 leb1 hb1
  obtain ⟨Gc1, lec1, hc1⟩ := back1 Gb1 Hb1 _ leb1 hb1
  rw [eInt_next] at hc1 hb1
  obtain ⟨W1, cw1, rfl⟩ : ∃ A c, w1 = Value.slice A (i + 1) c := Zm (i := i + 1) (OwnP.sl hb1) (by simp [eInt])
  have bb1 := (bL.le lec1).le hc1.le
  obtain ⟨_, zb, qa1, qb1, qc1, qd1⟩ := id bb1
  have l2b := Xz hc1.le (by have := lec1.1; omega) (by intro e; cases e) (Xz lec1 (by omega) (by intro e; cases e) l2)
  refine ⟨Yh, ?_⟩
  clear hsameO qa qb qc qd m0 m1
  clear l2b
  have l2 := Xz lec1 (by omega) (by intro e; cases e) l2
  replace bL := bL.le lec1
  replace rL := rL.mono lec1.sees
  replace zL := Nat.le_trans zL lec1.1
  clear hL
  have hL := hc1
  have zH1 := hL.size
  obtain ⟨Ga2, leGa2, ha2, back2⟩ := hL.rot.last
  have zGa := leGa2.1
  obtain ⟨_, zA, qa, qb, qc, qd⟩ := bL.le leGa2
  have m0 := Xz leGa2 (by omega) (by intro e; cases e) l2
  refine Ym rfl rfl (Ent.append ha2 Try.underlying23 inf3 Xl Xl rfl (lb := H1.size + 2) (by omega) m0 rfl (by intro v hv; simp at hv; subst hv; rfl) (by simp only [eNeg, List.length_replicate]; omega) (by decide) ?_)
  rintro w2 Gb2 Hb2 leb2 hb2
  have hsameO := Ent.sameO ha2 leb2 hb2
  obtain ⟨Gc2, lec2, hc2⟩ := back2 Gb2 Hb2 _ leb2 hb2
  rw [eNeg_next] at hc2 hb2
  obtain ⟨W2, cw2, rfl⟩ : ∃ A c, w2 = Value.slice A (i + 1) c := Zm (i := i + 1) (OwnP.sl hb2) (by simp [eNeg])
  have bb2 := (bL.le lec2).le hc2.le
  obtain ⟨_, zb, qa2, qb2, qc2, qd2⟩ := id bb2
  refine ⟨Yh, ?_⟩
  clear hsameO qa qb qc qd m0
  replace bL := bL.le lec2
  replace rL := rL.mono lec2.sees
  replace zL := Nat.le_trans zL lec2.1
  clear hL
  have hL := hc2
  have zH2 := hL.size
  first | refine Ym rfl rfl (Zh rfl rfl rfl inf22.size Yk Yr rfl ?_)
  refine ⟨Yh, ?_⟩
  refine Xe rfl rfl (Xi (off := 1) Xl Try.underlying26 Xl inf23.size (by decide) Xl) Xp ?_
  first | refine Ym rfl rfl (Zh rfl rfl rfl inf23.size Yk Yr rfl ?_)
  refine ⟨Yh, ?_⟩
  refine Xe rfl rfl (Xi (off := 2) Xl Try.underlying26 Xl inf23.size (by decide) Xl) Xp ?_
  first | refine Ym rfl rfl (Zh rfl rfl rfl inf23.size Yk Yr rfl ?_)
  refine ⟨Yh, ?_⟩
  refine Xd ?_
  obtain ⟨H6, hH6⟩ : ∃ H6, H6 = Hb2.put (H.size + 2) (.own 0 [.slice W0 (i + 1) cw0, .slice W1 (i + 1) cw1, .slice W2 (i + 1) cw2, .slice A3 i k3, .slice A4 i k4]) := ⟨_, rfl⟩
  obtain ⟨G6, hG6⟩ : ∃ G6, G6 = Gc2.put (H.size + 2) (.own 0 [.slice W0 (i + 1) cw0, .slice W1 (i + 1) cw1, .slice W2 (i + 1) cw2, .slice A3 i k3, .slice A4 i k4]) := ⟨_, rfl⟩
  have ownG6 := hL.put_box (by have := bL.2.1; omega) bL.2.2.2.2.1 [.slice W0 (i + 1) cw0, .slice W1 (i + 1) cw1, .slice W2 (i + 1) cw2, .slice A3 i k3, .slice A4 i k4]
  have bG6 := bL.put2 [.slice W0 (i + 1) cw0, .slice W1 (i + 1) cw1, .slice W2 (i + 1) cw2, .slice A3 i k3, .slice A4 i k4]
  have rG6 := rL.mono (Hp.sees_box (cs' := [.slice W0 (i + 1) cw0, .slice W1 (i + 1) cw1, .slice W2 (i + 1) cw2, .slice A3 i k3, .slice A4 i k4]) _ bL.2.2.2.2.1)
  rw [← hG6] at ownG6 bG6 rG6
  rw [← hH6] at ownG6
  change ACode true _ _ _ _ _ (((Hb2.put (H.size + 2) (.own 0 [.slice W0 (i + 1) cw0, .slice A1 i k1, .slice A2 i k2, .slice A3 i k3, .slice A4 i k4])).put (H.size + 2) (.own 0 [.slice W0 (i + 1) cw0, .slice W1 (i + 1) cw1, .slice A2 i k2, .slice A3 i k3, .slice A4 i k4])).put (H.size + 2) (.own 0 [.slice W0 (i + 1) cw0, .slice W1 (i + 1) cw1, .slice W2 (i + 1) cw2, .slice A3 i k3, .slice A4 i k4]))
  rw [Hp.put_put]
  rw [Hp.put_put]
  rw [← hH6]
  clear hH6 hG6 hL bL rL zL
  have bbH6 := bG6.le ownG6.le
  obtain ⟨_, zzH6, s0H6, s1H6, s2H6, s3H6⟩ := id bbH6
  have zz6 := ownG6.size
  have hL := ((ownG6.push (.own 1 [.slice none 0 0])).push (.own 1 [.slice none 0 0]))
  have leP : G6.le ((G6.push (.own 1 [.slice none 0 0])).push (.own 1 [.slice none 0 0])) := Hp.le_trans (Hp.le_push (G6) (.own 1 [.slice none 0 0])) (Hp.le_push ((G6.push (.own 1 [.slice none 0 0]))) (.own 1 [.slice none 0 0]))
  have bL := bG6.le leP
  have rL := rG6.mono leP.sees
  have l0 : ((G6.push (.own 1 [.slice none 0 0])).push (.own 1 [.slice none 0 0])).get (H6.size) = .own 1 [.slice none 0 0] := by rw [zz6]; exact Yk
  have l1 : ((G6.push (.own 1 [.slice none 0 0])).push (.own 1 [.slice none 0 0])).get (H6.size + 1) = .own 1 [.slice none 0 0] := by rw [zz6]; exact Yk
  have zL : H6.size + 2 ≤ ((G6.push (.own 1 [.slice none 0 0])).push (.own 1 [.slice none 0 0])).size := by simp; omega
  obtain ⟨GP, hGP⟩ : ∃ GP, GP = ((G6.push (.own 1 [.slice none 0 0])).push (.own 1 [.slice none 0 0])) := ⟨_, rfl⟩
  rw [← hGP] at hL bL rL zL l0 l1
  clear hGP leP
  refine Yz (by kernel_rfl) (Zd (B := [0, 1, 0, 7, 0, 16, 0, 127, 63, 511, 1023, 2047]) (π := [0, 1, 2, 4, 5, 6, 3, 8, 7, 9, 10, 11]) (by kernel_rfl)) ?_
  refine Xe rfl rfl (Xi (off := 3) Xl Try.underlying26 Xl inf24.size (by decide) Xl) Xp ?_
  refine Xe rfl rfl (Xk rfl Try.underlying24 rfl Xs) Xp ?_
  refine Zl rfl rfl (Yb (r := [.slice _ _ _]) Try.underlying24 inf23.size inf23.zero rfl (by decide) (by decide) (by decide) rfl) ?_
  refine Xe rfl rfl (Xi (off := 4) Xl Try.underlying26 Xl inf24.size (by decide) Xl) Xp ?_
  refine Xe rfl rfl (Xk rfl Try.underlying24 rfl Xs) Xp ?_
  refine Zl rfl rfl (Yb (r := [.slice _ _ _]) Try.underlying24 inf23.size inf23.zero rfl (by decide) (by decide) (by decide) rfl) ?_
  obtain ⟨Ga3, leGa3, ha3, back3⟩ := hL.rot.last
  have zGa := leGa3.1
  obtain ⟨_, zA, qa, qb, qc, qd⟩ := bL.le leGa3
  have m0 := Xz leGa3 (by omega) (by intro e; cases e) l0
  have m1 := Xz leGa3 (by omega) (by intro e; cases e) l1
  refine Ym rfl rfl (Ent.append ha3 Try.underlying24 inf23 Xl Xl rfl (lb := H6.size) (by omega) m0 rfl (by intro v hv; simp at hv; subst hv; rfl) (by simp only [V9, List.length_replicate]; omega) (by decide) ?_)
  rintro w3 Gb3 Hb3 leb3 hb3
  have hsameO := Ent.sameO ha3 leb3 hb3
  obtain ⟨Gc3, lec3, hc3⟩ := back3 Gb3 Hb3 _ leb3 hb3
  rw [eNil_next] at hc3 hb3
  obtain ⟨W3, cw3, rfl⟩ : ∃ A c, w3 = Value.slice A (i + 1) c := Zm (i := i + 1) (OwnP.sl hb3) (by simp [V9])
  have bb3 := (bL.le lec3).le hc3.le
  obtain ⟨_, zb, qa3, qb3, qc3, qd3⟩ := id bb3
  have l1b := Xz hc3.le (by have := lec3.1; omega) (by intro e; cases e) (Xz lec3 (by omega) (by intro e; cases e) l1)
  refine ⟨Yh, ?_⟩
  clear hsameO qa qb qc qd m0 m1
  clear l1b
  have l1 := Xz lec3 (by omega) (by intro e; cases e) l1
  replace bL := bL.le lec3
  replace rL := rL.mono lec3.sees
  replace zL := Nat.le_trans zL lec3.1
  clear hL
  have hL := hc3
  have zH3 := hL.size
  refine Xe rfl rfl (Xi (off := 3) Xl Try.underlying26 Xl inf24.size (by decide) Xl) Xp ?_
  obtain ⟨Ga4, leGa4, ha4, back4⟩ := hL.rot.last
  have zGa := leGa4.1
  obtain ⟨_, zA, qa, qb, qc, qd⟩ := bL.le leGa4
  have m0 := Xz leGa4 (by omega) (by intro e; cases e) l1
  refine Ym rfl rfl (Ent.append ha4 Try.underlying24 inf23 Xl Xl rfl (lb := H6.size + 1) (by omega) m0 rfl (by intro v hv; simp at hv; subst hv; rfl) (by simp only [V9, List.length_replicate]; omega) (by decide) ?_)
  rintro w4 Gb4 Hb4 leb4 hb4
  have hsameO := Ent.sameO ha4 leb4 hb4
  obtain ⟨Gc4, lec4, hc4⟩ := back4 Gb4 Hb4 _ leb4 hb4
  rw [eNil_next] at hc4 hb4
  obtain ⟨W4, cw4, rfl⟩ : ∃ A c, w4 = Value.slice A (i + 1) c := Zm (i := i + 1) (OwnP.sl hb4) (by simp [V9])
  have bb4 := (bL.le lec4).le hc4.le
  obtain ⟨_, zb, qa4, qb4, qc4, qd4⟩ := id bb4
  refine ⟨Yh, ?_⟩
  clear hsameO qa qb qc qd m0
  replace bL := bL.le lec4
  replace rL := rL.mono lec4.sees
  replace zL := Nat.le_trans zL lec4.1
  clear hL
  have hL := hc4
  have zH4 := hL.size
  first | refine Ym rfl rfl (Zh rfl rfl rfl inf24.size Yk Yr rfl ?_)
  refine ⟨Yh, ?_⟩
  refine Xe rfl rfl (Xi (off := 4) Xl Try.underlying26 Xl inf24.size (by decide) Xl) Xp ?_
  first | refine Ym rfl rfl (Zh rfl rfl rfl inf24.size Yk Yr rfl ?_)
  refine ⟨Yh, ?_⟩
  refine Xd ?_
  obtain ⟨H7, hH7⟩ : ∃ H7, H7 = Hb4.put (H.size + 2) (.own 0 [.slice W0 (i + 1) cw0, .slice W1 (i + 1) cw1, .slice W2 (i + 1) cw2, .slice W3 (i + 1) cw3, .slice W4 (i + 1) cw4]) := ⟨_, rfl⟩
  obtain ⟨G7, hG7⟩ : ∃ G7, G7 = Gc4.put (H.size + 2) (.own 0 [.slice W0 (i + 1) cw0, .slice W1 (i + 1) cw1, .slice W2 (i + 1) cw2, .slice W3 (i + 1) cw3, .slice W4 (i + 1) cw4]) := ⟨_, rfl⟩
  have ownG7 := hL.put_box (by have := bL.2.1; omega) bL.2.2.2.2.1 [.slice W0 (i + 1) cw0, .slice W1 (i + 1) cw1, .slice W2 (i + 1) cw2, .slice W3 (i + 1) cw3, .slice W4 (i + 1) cw4]
  have bG7 := bL.put2 [.slice W0 (i + 1) cw0, .slice W1 (i + 1) cw1, .slice W2 (i + 1) cw2, .slice W3 (i + 1) cw3, .slice W4 (i + 1) cw4]
  have rG7 := rL.mono (Hp.sees_box (cs' := [.slice W0 (i + 1) cw0, .slice W1 (i + 1) cw1, .slice W2 (i + 1) cw2, .slice W3 (i + 1) cw3, .slice W4 (i + 1) cw4]) _ bL.2.2.2.2.1)
  rw [← hG7] at ownG7 bG7 rG7
  rw [← hH7] at ownG7
  change ACode true _ _ _ _ _ ((Hb4.put (H.size + 2) (.own 0 [.slice W0 (i + 1) cw0, .slice W1 (i + 1) cw1, .slice W2 (i + 1) cw2, .slice W3 (i + 1) cw3, .slice A4 i k4])).put (H.size + 2) (.own 0 [.slice W0 (i + 1) cw0, .slice W1 (i + 1) cw1, .slice W2 (i + 1) cw2, .slice W3 (i + 1) cw3, .slice W4 (i + 1) cw4]))
  rw [Hp.put_put]
  rw [← hH7]
  clear hH7 hG7 hL bL rL zL
  have bbH7 := bG7.le ownG7.le
  obtain ⟨_, zzH7, s0H7, s1H7, s2H7, s3H7⟩ := id bbH7
  have lit7 := OwnP.lit kLink H7 (cs := [])
  have own7 := ownG7.push .dead
  have b7 := bG7.le (G7.le_push .dead)
  have r7 := rG7.mono (G7.le_push .dead).sees
  obtain ⟨bs, os, es, hbs, hcs⟩ := (hs.mono leH1.sees).int_at (i := (i : Int)) (by omega) (by omega)
  subst es
  rw [Int.toNat_natCast, Zc hix] at hcs
  have hmi := hm _ (List.getElem_mem hix)
  have hcs0 : H.cell? bs (os + i * 1) = some (.int .i64 sizes[i]) := by
    obtain ⟨b9, o9, e9, hb9, hc9⟩ := hs.int_at (i := (i : Int)) (by omega) (by omega)
    simp only [Option.some.injEq, Addr.mk.injEq, and_true] at e9
    obtain ⟨rfl, rfl⟩ := e9
    rwa [Int.toNat_natCast, Zc hix] at hc9
  have hbs0 : bs < H.size := by
    obtain ⟨b9, o9, e9, hb9, hc9⟩ := hs.int_at (i := (i : Int)) (by omega) (by omega)
    simp only [Option.some.injEq, Addr.mk.injEq, and_true] at e9
    obtain ⟨rfl, rfl⟩ := e9
    exact hb9
  have hlen7 : nds.length = i := hr.len
  refine Xb (by kernel_rfl) ?_
  first | refine X3 (Yb (r := []) Try.underlying50 inf54.size inf54.zero rfl (by decide) (by decide) (by decide) rfl) ?_
  refine Xa (X4 rfl) ?_
  refine Xd ?_
  refine Xd ?_
  refine Xb (by kernel_rfl) ?_
  refine Xa (Xg rfl) ?_
  refine Ya ?_
  refine Za (fun n t H' => ∃ (k : Nat) (Gx Gm : Hp) (C : Option Addr) (c9 : Nat), k ≤ sizes[i].toNat ∧ n = sizes[i].toNat - k ∧ BxP H Gx [.slice W0 (i + 1) cw0, .slice W1 (i + 1) cw1, .slice W2 (i + 1) cw2, .slice W3 (i + 1) cw3, .slice W4 (i + 1) cw4] [.slice A5 i k5, .slice A6 i k6] ∧ OwnL Gx [eNds (.slice A5 i k5) nds, V9 (.slice A6 i k6) i, eStr (.slice W0 (i + 1) cw0) (i + 1), eInt (.slice W1 (i + 1) cw1) (i + 1), eNeg (.slice W2 (i + 1) cw2) (i + 1), V9 (.slice W3 (i + 1) cw3) (i + 1), V9 (.slice W4 (i + 1) cw4) (i + 1)] Gm ∧ ApartR Gx ways sizes i nds ∧ OwnP kLink Gm H' (.slice C k c9) (Zz ways k) ∧ t 0 = .int .u64 ways ∧ t 1 = .slice (some ⟨bs, os, none⟩) sizes.length cu ∧ t 4 = .pointer (some ⟨H.size, 0, none⟩) ∧ t 5 = .pointer (some ⟨H.size + 1, 0, none⟩) ∧ t 6 = .pointer (some ⟨H.size + 2, 0, none⟩) ∧ t 7 = .pointer (some ⟨H.size + 3, 0, none⟩) ∧ t 8 = .int .i64 i ∧ t 9 = .slice C k c9 ∧ t 10 = .int .i64 k) (sizes[i].toNat) (⟨0, _, _, _, _, by omega, rfl, b7, own7, r7, lit7, e0, e1, e4, e5, e6, e7, e8, rfl, rfl⟩) ?_
  rintro n t H8 ⟨k, Gx, Gm, C, c9, hk, rfl, bx, ownx, rx, ownl, e0, e1, e4, e5, e6, e7, e8, e9, e10⟩
  have leH8 := (bx.le (Hp.le_trans ownx.le ownl.le)).1
  have hcs8 := leH8.cell1 hbs0 hcs0
  have hll := Z2 ways k
  have zl := ownl.size
  refine Xd ?_
  refine Xd ?_
  refine Xb (by kernel_rfl) ?_
  refine Xa (Xc Xl) ?_
  refine Xa (X2 Xl) ?_
  refine Xa (Xc Xl) ?_
  refine Xa (Xt rfl rfl Try.underlying23 inf3.size X7 X7) ?_
  refine Xa (Xk rfl Try.underlying3 rfl Xs) ?_
  refine Xa (Zg rfl rfl) ?_
  refine X5 rfl rfl ?_ ?_
  intro hc2
  (try simp only [decide_eq_true_eq, decide_eq_false_iff_not, Bool.not_eq_true', Bool.not_eq_false'] at hc2)
  refine X9 ?_
  refine Xd ?_
  refine Ya ?_
  refine Xb (by kernel_rfl) ?_
  refine Xa (X2 Xl) ?_
  refine Xa (Xc Xl) ?_
  refine Xa (Xc Xl) ?_
  refine Xa (Xc Xl) ?_
  refine Xa (Xc Xl) ?_
  refine Xa (Y7 (pl := [(0, 1), (1, 1), (2, 1), (3, 1)]) (r := [.int .i64 _, .int .i64 _, .int .i64 _, .int .u64 _]) Try.underlying54 inf54.zero (by decide) rfl rfl) ?_
  first | refine X3 (Yb (r := [.int .i64 _, .int .i64 _, .int .i64 _, .int .u64 _]) Try.underlying50 inf54.size inf54.zero rfl (by decide) (by decide) (by decide) rfl) ?_
  refine X1 (OwnP.append (ys := [⟨k, k, k, ways⟩]) (ownl.push _) Try.underlying50 inf54 Xl Xl rfl (V8 (k := kLink) rfl rfl ownl.size rfl) (by rw [hll]; simp only [List.length_singleton]; omega) (by rw [hll]; simp only [List.length_singleton]; omega) ?_)
  rintro w9 G9 H9 le9 own9
  obtain ⟨C9, c99, e99⟩ := own9.shape
  rw [← apartL_next] at own9
  rw [List.length_append, hll, List.length_singleton] at e99
  subst e99
  obtain ⟨Gy, ley, owny⟩ := ownx.later (Hp.le_trans (Gm.le_push _) le9)
  refine Xa (X4 rfl) ?_
  refine Xb (by kernel_rfl) ?_
  refine Xa (Xc Xl) ?_
  refine Xa (Yj rfl rfl Yx) ?_
  refine Xa (Xg rfl) ?_
  exact ⟨sizes[i].toNat - (k + 1), by omega, k + 1, Gy, G9, C9, c99, by omega, rfl, bx.le ley, owny, rx.mono ley.sees, own9, e0, e1, e4, e5, e6, e7, e8, rfl, rfl⟩
  intro hc2
  (try simp only [decide_eq_true_eq, decide_eq_false_iff_not, Bool.not_eq_true', Bool.not_eq_false'] at hc2)
  refine Y5 ?_
  obtain rfl : k = sizes[i].toNat := by omega
  obtain ⟨Gy, ley, owny⟩ := ownx.later ownl.le
  have by' := bx.le ley
  have slN := owny.below (k' := kLink) (fun st => Y3 st) (by intro e he; simp at he; rcases he with rfl | rfl | rfl | rfl | rfl | rfl | rfl <;> exact (show (1 : Nat) ≠ 4 by decide)) ownl.sl
  have ry := rx.mono ley.sees
  obtain ⟨_, zz8, s08, s18, s28, s38⟩ := by'.le owny.le
  have zz12 := owny.size
  have hL := ((owny.push (.own 1 [.slice C sizes[i].toNat c9])).push (.own 1 [.slice none 0 0]))
  have leP : Gy.le ((Gy.push (.own 1 [.slice C sizes[i].toNat c9])).push (.own 1 [.slice none 0 0])) := Hp.le_trans (Hp.le_push (Gy) (.own 1 [.slice C sizes[i].toNat c9])) (Hp.le_push ((Gy.push (.own 1 [.slice C sizes[i].toNat c9]))) (.own 1 [.slice none 0 0]))
  have bL := by'.le leP
  have rL := ry.mono leP.sees
  have sN := slN.mono leP.sees
  have l0 : ((Gy.push (.own 1 [.slice C sizes[i].toNat c9])).push (.own 1 [.slice none 0 0])).get (H8.size) = .own 1 [.slice C sizes[i].toNat c9] := by rw [zz12]; exact Yk
  have l1 : ((Gy.push (.own 1 [.slice C sizes[i].toNat c9])).push (.own 1 [.slice none 0 0])).get (H8.size + 1) = .own 1 [.slice none 0 0] := by rw [zz12]; exact Yk
  have zL : H8.size + 2 ≤ ((Gy.push (.own 1 [.slice C sizes[i].toNat c9])).push (.own 1 [.slice none 0 0])).size := by simp; omega
  obtain ⟨GP, hGP⟩ : ∃ GP, GP = ((Gy.push (.own 1 [.slice C sizes[i].toNat c9])).push (.own 1 [.slice none 0 0])) := ⟨_, rfl⟩
  rw [← hGP] at hL bL rL zL sN l0 l1
  clear hGP leP
  refine Yz (by kernel_rfl) (Zd (B := [0, 1, 0, 4, 15, 0, 32, 0, 255, 127, 1023, 2047, 4095]) (π := [0, 1, 2, 3, 5, 6, 7, 4, 9, 8, 10, 11, 12]) (by kernel_rfl)) ?_
  refine Xe rfl rfl (Xi (off := 0) Xl Try.underlying29 Xl inf27.size (by decide) Xl) Xp ?_
  refine Xe rfl rfl (Xk rfl Try.underlying27 rfl Xs) Xp ?_
  refine Xe rfl rfl (X2 Xl) Xp ?_
  refine Zl rfl rfl (Yb (r := [.slice _ _ _]) Try.underlying27 inf50.size inf50.zero rfl (by decide) (by decide) (by decide) rfl) ?_
  refine Xe rfl rfl (Xi (off := 1) Xl Try.underlying29 Xl inf27.size (by decide) Xl) Xp ?_
  refine Xe rfl rfl (Xk rfl Try.underlying27 rfl Xs) Xp ?_
  refine Zl rfl rfl (Yb (r := [.slice _ _ _]) Try.underlying27 inf50.size inf50.zero rfl (by decide) (by decide) (by decide) rfl) ?_
  obtain ⟨Ga5, leGa5, ha5, back5⟩ := hL.rot.last
  have zGa := leGa5.1
  obtain ⟨_, zA, qa, qb, qc, qd⟩ := bL.le leGa5
  have m0 := Xz leGa5 (by omega) (by intro e; cases e) l0
  have m1 := Xz leGa5 (by omega) (by intro e; cases e) l1
  refine Ym rfl rfl (Ent.append ha5 Try.underlying27 inf50 Xl Xl rfl (lb := H8.size) (by omega) m0 rfl (by intro v hv; simp at hv; subst hv; rfl) (by simp only [eNds, rL.len]; omega) (by decide) ?_)
  rintro w5 Gb5 Hb5 leb5 hb5
  have hsameO := Ent.sameO ha5 leb5 hb5
  obtain ⟨Gc5, lec5, hc5⟩ := back5 Gb5 Hb5 _ leb5 hb5
  rw [eNds_next] at hc5 hb5
  obtain ⟨W5, cw5, rfl⟩ : ∃ A c, w5 = Value.slice A (i + 1) c := Zm (i := i + 1) (OwnP.sl hb5) (by simp [eNds, rL.len])
  have bb5 := (bL.le lec5).le hc5.le
  obtain ⟨_, zb, qa5, qb5, qc5, qd5⟩ := id bb5
  have l1b := Xz hc5.le (by have := lec5.1; omega) (by intro e; cases e) (Xz lec5 (by omega) (by intro e; cases e) l1)
  refine ⟨Yh, ?_⟩
  clear hsameO qa qb qc qd m0 m1
  clear l1b
  have l1 := Xz lec5 (by omega) (by intro e; cases e) l1
  replace bL := bL.le lec5
  replace sN := sN.mono lec5.sees
  replace rL := rL.mono lec5.sees
  replace zL := Nat.le_trans zL lec5.1
  clear hL
  have hL := hc5
  have zH5 := hL.size
  refine Xe rfl rfl (Xi (off := 0) Xl Try.underlying29 Xl inf27.size (by decide) Xl) Xp ?_
  obtain ⟨Ga6, leGa6, ha6, back6⟩ := hL.rot.last
  have zGa := leGa6.1
  obtain ⟨_, zA, qa, qb, qc, qd⟩ := bL.le leGa6
  have m0 := Xz leGa6 (by omega) (by intro e; cases e) l1
  refine Ym rfl rfl (Ent.append ha6 Try.underlying27 inf50 Xl Xl rfl (lb := H8.size + 1) (by omega) m0 rfl (by intro v hv; simp at hv; subst hv; rfl) (by simp only [V9, List.length_replicate]; omega) (by decide) ?_)
  rintro w6 Gb6 Hb6 leb6 hb6
  have hsameO := Ent.sameO ha6 leb6 hb6
  obtain ⟨Gc6, lec6, hc6⟩ := back6 Gb6 Hb6 _ leb6 hb6
  rw [eNil_next] at hc6 hb6
  obtain ⟨W6, cw6, rfl⟩ : ∃ A c, w6 = Value.slice A (i + 1) c := Zm (i := i + 1) (OwnP.sl hb6) (by simp [V9])
  have bb6 := (bL.le lec6).le hc6.le
  obtain ⟨_, zb, qa6, qb6, qc6, qd6⟩ := id bb6
  refine ⟨Yh, ?_⟩
  clear hsameO qa qb qc qd m0
  replace bL := bL.le lec6
  replace sN := sN.mono lec6.sees
  replace rL := rL.mono lec6.sees
  replace zL := Nat.le_trans zL lec6.1
  clear hL
  have hL := hc6
  have zH6 := hL.size
  first | refine Ym rfl rfl (Zh rfl rfl rfl inf27.size Yk Yr rfl ?_)
  refine ⟨Yh, ?_⟩
  refine Xe rfl rfl (Xi (off := 1) Xl Try.underlying29 Xl inf27.size (by decide) Xl) Xp ?_
  first | refine Ym rfl rfl (Zh rfl rfl rfl inf27.size Yk Yr rfl ?_)
  refine ⟨Yh, ?_⟩
  obtain ⟨H4, hH4⟩ : ∃ H4, H4 = Hb6.put (H.size + 3) (.own 0 [.slice W5 (i + 1) cw5, .slice W6 (i + 1) cw6]) := ⟨_, rfl⟩
  obtain ⟨G4, hG4⟩ : ∃ G4, G4 = Gc6.put (H.size + 3) (.own 0 [.slice W5 (i + 1) cw5, .slice W6 (i + 1) cw6]) := ⟨_, rfl⟩
  have ownG4 := hL.put_box (by have := bL.2.1; omega) bL.2.2.2.2.2 [.slice W5 (i + 1) cw5, .slice W6 (i + 1) cw6]
  have bG4 := bL.put3 [.slice W5 (i + 1) cw5, .slice W6 (i + 1) cw6]
  have rG4 := rL.mono (Hp.sees_box (cs' := [.slice W5 (i + 1) cw5, .slice W6 (i + 1) cw6]) _ bL.2.2.2.2.2)
  rw [← hG4] at ownG4 bG4 rG4
  rw [← hH4] at ownG4
  change ACode true _ _ _ _ _ ((Hb6.put (H.size + 3) (.own 0 [.slice W5 (i + 1) cw5, .slice A6 i k6])).put (H.size + 3) (.own 0 [.slice W5 (i + 1) cw5, .slice W6 (i + 1) cw6]))
  rw [Hp.put_put]
  rw [← hH4]
  have sN4 := sN.mono (Hp.sees_box (cs' := [.slice W5 (i + 1) cw5, .slice W6 (i + 1) cw6]) _ bL.2.2.2.2.2)
  rw [← hG4] at sN4
  clear hH4 hG4 hL bL rL zL
  have bbH4 := bG4.le ownG4.le
  obtain ⟨_, zzH4, s0H4, s1H4, s2H4, s3H4⟩ := id bbH4
  refine Xb (by kernel_rfl) ?_
  refine Xa (Xc Xl) ?_
  refine Xa (Yj rfl rfl Yx) ?_
  refine Xa (Xg rfl) ?_
  exact ⟨sizes.length - (i + 1), by omega, i + 1, G4, _, _, _, _, _, _, _, (nds ++ [[Value.slice C sizes[i].toNat c9]] : List (List Value)), by omega, rfl, bG4, ownG4, rG4.snoc hix sN4, e0, e1, e4, e5, e6, e7, rfl⟩
  intro hc1
  (try simp only [decide_eq_true_eq, decide_eq_false_iff_not, Bool.not_eq_true', Bool.not_eq_false'] at hc1)
  refine Y5 ?_
  refine Xd ?_
  refine Yz (by kernel_rfl) (Zd (B := [0, 0, 1, 7]) (π := [0, 1, 2, 3]) (by kernel_rfl)) ?_
  refine Xe rfl rfl (Yn (cs := [.slice _ _ _, .slice _ _ _, .slice _ _ _, .slice _ _ _, .slice _ _ _]) Xl Try.underlying26 Xl inf26.size Yf) Xp ?_
  refine Xe rfl rfl (Yn (cs := [.slice _ _ _, .slice _ _ _]) Xl Try.underlying29 Xl inf29.size Yf) Xp ?_
  refine Ym rfl rfl (Ys (vs := [.slice _ _ _, .slice _ _ _, .slice _ _ _, .slice _ _ _, .slice _ _ _]) Xl Xl inf26.size Yk Yr Xl Xl ?_)
  refine ⟨Yh, ?_⟩
  refine Ym rfl rfl (Ys (vs := [.slice _ _ _, .slice _ _ _]) Xl Xl inf29.size Yk Yr Xl Xl ?_)
  refine ⟨Yh, ?_⟩
  refine X6 ?_
  obtain rfl : i = sizes.length := by omega
  have se := hown.le.sees
  have p0 := hown.sl (eStr (.slice A0 sizes.length k0) sizes.length) (by simp)
  have p1 := hown.sl (eInt (.slice A1 sizes.length k1) sizes.length) (by simp)
  have p2 := hown.sl (eNeg (.slice A2 sizes.length k2) sizes.length) (by simp)
  have p3 := hown.sl (V9 (.slice A3 sizes.length k3) sizes.length) (by simp)
  have p4 := hown.sl (V9 (.slice A4 sizes.length k4) sizes.length) (by simp)
  have p5 := hown.sl (eNds (.slice A5 sizes.length k5) nds) (by simp)
  have p6 := hown.sl (V9 (.slice A6 sizes.length k6) sizes.length) (by simp)
  have hrl := hr.len
  have hz1 : H1.sees (H1.put H.size (.own 0 [.slice A0 sizes.length k0, .slice A1 sizes.length k1, .slice A2 sizes.length k2, .slice A3 sizes.length k3, .slice A4 sizes.length k4])) := Hp.sees_box _ q0
  have hz2 : (H1.put H.size (.own 0 [.slice A0 sizes.length k0, .slice A1 sizes.length k1, .slice A2 sizes.length k2, .slice A3 sizes.length k3, .slice A4 sizes.length k4])).sees ((H1.put H.size (.own 0 [.slice A0 sizes.length k0, .slice A1 sizes.length k1, .slice A2 sizes.length k2, .slice A3 sizes.length k3, .slice A4 sizes.length k4])).put (H.size + 1) (.own 0 [.slice A5 sizes.length k5, .slice A6 sizes.length k6])) := Hp.sees_box (cs := [.slice none 0 0, .slice none 0 0]) _ (by rw [Hp.put_other _ _ (by omega)]; exact q1)
  have hz := hz1.trans hz2
  refine ⟨_, Va (Zs Xl (Zn (cs := [.slice A0 sizes.length k0, .slice A1 sizes.length k1, .slice A2 sizes.length k2, .slice A3 sizes.length k3, .slice A4 sizes.length k4]) Try.underlying26 rfl inf26.size Yf)) (Zs Xl (Zn (cs := [.slice A5 sizes.length k5, .slice A6 sizes.length k6]) Try.underlying29 rfl inf29.size Yf)), [_, _, _, _, _], [_, _], rfl, ⟨_, _, _, _, _, rfl, ?_, ?_, ?_, ?_, ?_⟩, ⟨_, _, rfl, ?_, ?_⟩, Hp.le_put_new (Hp.le_put_new leH1 (Nat.le_refl _) _) (by omega) _⟩
  · exact Sl.conv (k := kStr) (p0.mono hz) (by simp [eStr, Y2]) (fun j a b => by simp [eStr, Y2, kStr])
  · exact Sl.conv (k := Ze .i64) (p1.mono hz) (by simp [eInt, Y2]) (fun j a b => by simp [eInt, Y2, Ze])
  · exact Sl.conv (k := Ze .i64) (p2.mono hz) (by simp [eNeg, Y2]) (fun j a b => by simp [eNeg, Y2, Ze])
  · exact Sl.conv (k := kSl (Ze .i64)) (p3.mono hz) (by simp [V9, Y2]) (fun j a b => by simp only [V9, Y2, List.getElem_replicate]; exact ⟨_, rfl, Sl.nil _ _⟩)
  · exact Sl.conv (k := kSl (Ze .i64)) (p4.mono hz) (by simp [V9, Y2]) (fun j a b => by simp only [V9, Y2, List.getElem_replicate]; exact ⟨_, rfl, Sl.nil _ _⟩)
  · exact Sl.conv (k := kSl kLink) (p5.mono hz) (by simp [eNds, Zi, hrl]) (fun j a b => by
      obtain ⟨w, h1, h2⟩ := hr.at_ j a (by simpa [Zi] using b)
      simp only [Zi, List.getElem_map]
      exact ⟨w, h1, (h2.mono se).mono hz⟩)
  · exact Sl.conv (k := kSl kLink) (p6.mono hz) (by simp [V9, Zi]) (fun j a b => by simp only [V9, Zi, List.getElem_replicate, List.getElem_map]; exact ⟨_, rfl, Sl.nil _ _⟩)
end Go.Proofs.Ytcaeoebphfjfiaa.Am


/- The small living call of the statements on reducing. -/
namespace Go.Proofs.Ytcaeoebphfjfiaa.Am
open Go Go.RowKit
set_option maxRecDepth 100000
set_option linter.unusedVariables false
set_option linter.unusedSimpArgs false

end Go.Proofs.Ytcaeoebphfjfiaa.Am


/- Forests of few variables: cut once is cut twice; the statements' own words. -/
namespace Go.Proofs.Ytcaeoebphfjfiaa.Am
open Go Go.RowKit
set_option maxRecDepth 100000
set_option linter.unusedVariables false
set_option linter.unusedSimpArgs false

structure BigF (f : Forest) : Prop where
  l0 : f.vars.length ≤ 9223372036854775807
  l1 : f.order.length ≤ 9223372036854775807
  l2 : f.parent.length ≤ 9223372036854775807
  l3 : f.links.length ≤ 9223372036854775807
  l4 : f.loops.length ≤ 9223372036854775807
  s3 : ∀ l ∈ f.links, l.length ≤ 9223372036854775807
  s4 : ∀ l ∈ f.loops, l.length ≤ 9223372036854775807
structure BigP (p : Parts) : Prop where
  l0 : p.nodes.length ≤ 9223372036854775807
  l1 : p.links.length ≤ 9223372036854775807
  s0 : ∀ l ∈ p.nodes, l.length ≤ 9223372036854775807
  s1 : ∀ l ∈ p.links, l.length ≤ 9223372036854775807
theorem Link.few_few (x : Link) : x.few.few = x.few := by
  unfold Link.few
  by_cases h : 1000000000 < x.cost
  · rw [if_pos h]; simp
  · rw [if_neg h, if_neg h]
end Go.Proofs.Ytcaeoebphfjfiaa.Am


/- The statement ReduceTwice, as the abstract machine runs it. -/
namespace Go.Proofs.Ytcaeoebphfjfiaa.Am
open Go Go.RowKit
set_option maxRecDepth 100000
set_option linter.unusedVariables false
set_option linter.unusedSimpArgs false

theorem small_sub {f : Forest} {p q : Parts} (h : Small f p) (hl : Lens f.vars.length q) (hs : Sub q p) : Small f q :=
  ⟨h.s0, h.s1, h.s2, by rw [hl.1]; exact h.s0, by rw [hl.2]; exact h.s0, fun l hm => by
    obtain ⟨i, hi, rfl⟩ := List.getElem_of_mem hm
    have k1 := (hs i).1.length_le
    unfold nd at k1
    rw [Y1 hi] at k1
    exact Nat.le_trans k1 (Vh h.s5 i), fun l hm => by
    obtain ⟨i, hi, rfl⟩ := List.getElem_of_mem hm
    have k1 := (hs i).2.length_le
    unfold lk at k1
    rw [Y1 hi] at k1
    exact Nat.le_trans k1 (Vh h.s6 i)⟩
end Go.Proofs.Ytcaeoebphfjfiaa.Am


/- What stands behind any first nodes, plain; of variables that hang from nobody. -/
namespace Go.Proofs.Ytcaeoebphfjfiaa.Am
open Go Go.RowKit
set_option maxRecDepth 100000
set_option linter.unusedVariables false
set_option linter.unusedSimpArgs false

def okP (T : TreeT) (ns : List Int) : Bool := (List.range ns.length).all fun i => (Zp (T.group i (Yp T ns i)) (ns.getD i 0)).isSome
def mulT (T : TreeT) (ns : List Int) (k : Nat) : Int := (List.range k).foldl (fun n i => if ns.length ≤ i ∧ T.parent.getD i 0 < ns.length then Yi n (Vp T T.vars.length i (Yp T ns i)) else n) 1
def behT (T : TreeT) (ns : List Int) : Int := if ns.length ≤ T.vars.length ∧ okP T ns = true then mulT T ns T.vars.length else 0
theorem mulT_succ (T : TreeT) (ns : List Int) (k : Nat) : mulT T ns (k + 1) = if ns.length ≤ k ∧ T.parent.getD k 0 < ns.length then Yi (mulT T ns k) (Vp T T.vars.length k (Yp T ns k)) else mulT T ns k := by
  unfold mulT
  rw [List.range_succ, List.foldl_append]; rfl
theorem mulT_nonneg {T : TreeT} (hT : GoodT T) (ns : List Int) : ∀ k, 0 ≤ mulT T ns k
  | 0 => by show (0 : Int) ≤ 1; decide
  | k + 1 => by
    rw [mulT_succ]
    split
    · exact (timesI_le (mulT_nonneg hT ns k) (Vl hT _ _ _)).1
    · exact mulT_nonneg hT ns k
theorem okP_bad {T : TreeT} {ns : List Int} {i : Nat} (hi : i < ns.length) (h : Zp (T.group i (Yp T ns i)) (ns.getD i 0) = none) : okP T ns = false := by
  cases hk : okP T ns with
  | false => rfl
  | true =>
    unfold okP at hk
    have := List.all_eq_true.1 hk i (List.mem_range.2 hi)
    rw [h] at this; cases this
def addN (n : Int) : Nat → Int
  | 0 => 0
  | m + 1 => addI (addN n m) n
theorem Vi {n : Int} (h : 0 ≤ n) : ∀ m, 0 ≤ addN n m ∧ addN n m ≤ Yu
  | 0 => by show (0 : Int) ≤ 0 ∧ (0 : Int) ≤ Yu; decide
  | m + 1 => by
    have h1 := Vi h m
    refine ⟨addI_nonneg h1.1 h, ?_⟩
    rw [addN]; unfold addI; omega
theorem timesI_one {n : Int} (h : 0 ≤ n) (h2 : n ≤ Yu) : Yi n 1 = n ∧ Yi 1 n = n := by
  have hM : min 1 Yu = 1 := by decide
  unfold Yi
  rw [hM, Int.mul_one, Int.one_mul]
  omega
theorem apart_fold {n : Int} (h : 0 ≤ n) (h2 : n ≤ Yu) : ∀ m, (Zz n m).foldl (fun s x => addI s (Yi x.n 1)) 0 = addN n m
  | 0 => rfl
  | m + 1 => by
    rw [apartL_next, List.foldl_append, apart_fold h h2 m, addN]
    show addI (addN n m) (Yi n 1) = _
    rw [(timesI_one h h2).1]
theorem goodL_apart {n : Int} (h1 : 1 ≤ n) (h2 : n ≤ 4611686018427387904) {m : Nat} (hm : m ≤ 1000) : GoodL (Zz n m) := fun i hi => by
  rw [Z2] at hi
  have at_ : ∀ j (hj : j < (Zz n m).length), (Zz n m)[j] = ⟨j, j, j, n⟩ := by
    unfold Zz
    intro j hj
    rw [List.getElem_map, List.getElem_range]
  rw [at_]
  refine ⟨⟨by simp only; omega, by simp only; omega, by simp only; omega, by simp only; omega, by simp only; omega, h1, h2⟩, fun h0 => ?_⟩
  rw [at_]
  unfold lessL
  simp only [Bool.or_eq_true, decide_eq_true_eq]
  left; omega
theorem apart_nd (n : Int) (sa sb : Int) : nd (Zi n [sa, sb]) 0 = Zz n sa.toNat ∧ nd (Zi n [sa, sb]) 1 = Zz n sb.toNat ∧ (∀ v, lk (Zi n [sa, sb]) v = []) ∧ ∀ v, nd (Zi n [sa, sb]) (v + 2) = [] := by
  refine ⟨rfl, rfl, fun v => ?_, fun v => rfl⟩
  match v with
  | 0 => rfl
  | 1 => rfl
  | v + 2 => rfl
theorem Vy {n : Int} (h1 : 1 ≤ n) (h2 : n ≤ 4611686018427387904) {sa sb : Int} (ha : sa ≤ 1000) (hb : sb ≤ 1000) : GoodP (Y2 2) (Zi n [sa, sb]) := by
  obtain ⟨e0, e1, el, _⟩ := apart_nd n sa sb
  refine ⟨⟨rfl, rfl, rfl, rfl, fun i hi => ?_⟩, rfl, rfl, fun v hv => ?_⟩
  · have hi' : i < 2 := hi
    rcases (by omega : i = 0 ∨ i = 1) with rfl | rfl <;> (unfold OkF; decide)
  · have hv' : v < 2 := hv
    have heq : ∀ m, ∀ x ∈ Zz n m, x.a = x.b := fun m x hx => by
      unfold Zz at hx
      obtain ⟨k, _, rfl⟩ := List.mem_map.1 hx
      rfl
    have hnil : GoodL [] := fun i hi => by cases hi
    rcases (by omega : v = 0 ∨ v = 1) with rfl | rfl
    · exact ⟨goodL_apart h1 h2 (by omega), hnil, heq _, fun _ => rfl⟩
    · exact ⟨goodL_apart h1 h2 (by omega), hnil, heq _, fun _ => rfl⟩
theorem small_apart {n : Int} {sa sb : Int} (ha : sa ≤ 1000) (hb : sb ≤ 1000) : Small (Y2 2) (Zi n [sa, sb]) := by
  refine ⟨by decide, by decide, by decide, by simp [Zi], by simp [Zi], fun l hl => ?_, fun l hl => ?_⟩
  · rcases List.mem_cons.1 (show l ∈ [Zz n sa.toNat, Zz n sb.toNat] from hl) with rfl | hl
    · rw [Z2]; omega
    · rw [List.mem_singleton.1 hl, Z2]; omega
  · rcases List.mem_cons.1 (show l ∈ [[], []] from hl) with rfl | hl
    · simp
    · rw [List.mem_singleton.1 hl]; simp
theorem cheap_apart {n : Int} (h1 : 1 ≤ n) {sa sb : Int} (ha : sa ≤ 1000) (hb : sb ≤ 1000) : Cheap (Zi n [sa, sb]) := by
  obtain ⟨e0, e1, el, e2⟩ := apart_nd n sa sb
  have h : ∀ m : Nat, m ≤ 1000 → ∀ x ∈ Zz n m, 0 ≤ x.cost ∧ x.cost ≤ 1000000000 ∧ 0 ≤ x.n := fun m hm x hx => by
    unfold Zz at hx
    obtain ⟨k, hk, rfl⟩ := List.mem_map.1 hx
    rw [List.mem_range] at hk
    exact ⟨by simp only; omega, by simp only; omega, by simp only; omega⟩
  refine ⟨fun v => ?_, fun v x hx => ?_⟩
  · match v with
    | 0 => rw [e0]; exact h _ (by omega)
    | 1 => rw [e1]; exact h _ (by omega)
    | v + 2 => rw [e2]; intro x hx; cases hx
  · rw [el] at hx; cases hx
theorem two_roots (x : Parts) : (Ye (Y2 2) x).vars.length = 2 ∧ (Ye (Y2 2) x).parent = [-1, -1] ∧ (Ye (Y2 2) x).links = [nd x 0, nd x 1] := ⟨rfl, rfl, rfl⟩
theorem two_group (x : Parts) (i : Nat) (hi : i < 2) : (Ye (Y2 2) x).group i (-1) = nd x i := by
  rcases (by omega : i = 0 ∨ i = 1) with rfl | rfl <;> rfl
theorem two_kids (x : Parts) (i : Nat) : kidsT (Ye (Y2 2) x) i = [] := by
  unfold kidsT
  rw [List.filter_eq_nil_iff]
  intro k hk
  rw [(two_roots x).2.1] at hk ⊢
  have hk : k < 2 := List.mem_range.1 hk
  rw [decide_eq_true_eq]
  rcases (by omega : k = 0 ∨ k = 1) with rfl | rfl <;> (show ¬ (-1 : Int) = i; omega)
theorem two_sum (x : Parts) (i : Nat) (hi : i < 2) : Vp (Ye (Y2 2) x) 2 i (-1) = (nd x i).foldl (fun s x => addI s (Yi x.n 1)) 0 := by
  rw [sumT_succ, two_group x i hi]
  refine foldl_same fun s y _ => ?_
  unfold Vo
  rw [two_kids]; rfl
theorem two_beh (x : Parts) : behT (Ye (Y2 2) x) [] = Yi (Yi 1 ((nd x 0).foldl (fun s x => addI s (Yi x.n 1)) 0)) ((nd x 1).foldl (fun s x => addI s (Yi x.n 1)) 0) := by
  rw [← two_sum x 0 (by omega), ← two_sum x 1 (by omega)]
  rfl
theorem apart_of {n : Int} (h1 : 1 ≤ n) (h2 : n ≤ 4611686018427387904) {sa sb : Int} (ha : sa ≤ 1000) (hb : sb ≤ 1000) : (0 < sa ∧ 0 < sb ∧ Vq (Y2 2) (Zi n [sa, sb]) = Zi n [sa, sb]) ∨ ((sa ≤ 0 ∨ sb ≤ 0) ∧ Vq (Y2 2) (Zi n [sa, sb]) = Ua 2) := by
  have hG := Vy h1 h2 ha hb
  obtain ⟨k1, k2, k3, k4⟩ := Vm hG
  obtain ⟨e0, e1, el, e2⟩ := apart_nd n sa sb
  by_cases h : 0 < sa ∧ 0 < sb
  · refine .inl ⟨h.1, h.2, ofP_fix hG.gf hG.lens hG.nb (fun v hv hp => ?_) (fun h3 => ?_)⟩
    · have hv' : v < 2 := hv
      rcases (by omega : v = 0 ∨ v = 1) with rfl | rfl <;> exact absurd rfl hp
    · obtain ⟨v, hv, h4⟩ := List.any_eq_true.1 h3
      unfold Zo at h4
      rw [Bool.and_eq_true, decide_eq_true_eq, decide_eq_true_eq] at h4
      have hv : v ∈ [(0 : Int), 1] := hv
      rcases List.mem_cons.1 hv with rfl | hv
      · have h5 : (nd (Zi n [sa, sb]) 0).length = 0 := h4.2
        rw [e0, Z2] at h5; omega
      · rw [List.mem_singleton] at hv
        subst hv
        have h5 : (nd (Zi n [sa, sb]) 1).length = 0 := h4.2
        rw [e1, Z2] at h5; omega
  · refine .inr ⟨by omega, k4 (List.any_eq_true.2 ?_)⟩
    rcases (by omega : sa ≤ 0 ∨ sb ≤ 0) with hs | hs
    · refine ⟨0, (by decide : (0 : Int) ∈ (Y2 2).order), ?_⟩
      unfold Zo
      rw [Bool.and_eq_true, decide_eq_true_eq, decide_eq_true_eq]
      refine ⟨rfl, ?_⟩
      have h5 := ((k2 0).1).length_le
      rw [e0, Z2] at h5
      show (nd (Vq (Y2 2) (Zi n [sa, sb])) 0).length = 0
      omega
    · refine ⟨1, (by decide : (1 : Int) ∈ (Y2 2).order), ?_⟩
      unfold Zo
      rw [Bool.and_eq_true, decide_eq_true_eq, decide_eq_true_eq]
      refine ⟨rfl, ?_⟩
      have h5 := ((k2 1).1).length_le
      rw [e1, Z2] at h5
      show (nd (Vq (Y2 2) (Zi n [sa, sb])) 1).length = 0
      omega
theorem addN_zero {n : Int} {m : Int} (h : m ≤ 0) : addN n m.toNat = 0 := by
  rw [show m.toNat = 0 by omega]; rfl
theorem timesI_zero (a : Int) : Yi 0 a = 0 ∧ Yi a 0 = 0 := by
  have hM : min 0 Yu = 0 := by decide
  unfold Yi
  rw [hM, Int.zero_mul, Int.mul_zero]
  exact ⟨hM, hM⟩
theorem apart_beh {n : Int} (h1 : 1 ≤ n) (h2 : n ≤ 4611686018427387904) {sa sb : Int} (ha : sa ≤ 1000) (hb : sb ≤ 1000) : behT (Ye (Y2 2) (Vq (Y2 2) (Zi n [sa, sb]))) [] = Yi (addN n sa.toNat) (addN n sb.toNat) := by
  have hn : 0 ≤ n := by omega
  obtain ⟨e0, e1, el, e2⟩ := apart_nd n sa sb
  rw [two_beh]
  rcases apart_of h1 h2 ha hb with ⟨_, _, h⟩ | ⟨h0, h⟩
  · rw [h, e0, e1, apart_fold hn h2, apart_fold hn h2, (timesI_one (Vi hn _).1 (Vi hn _).2).2]
  · rw [h, Vv, Vv]
    simp only [List.foldl_nil]
    rw [(timesI_zero _).2]
    rcases h0 with h0 | h0
    · rw [addN_zero h0, (timesI_zero _).1]
    · rw [addN_zero h0, (timesI_zero _).2]
theorem apart_goodT {n : Int} (h1 : 1 ≤ n) (h2 : n ≤ 4611686018427387904) {sa sb : Int} (ha : sa ≤ 1000) (hb : sb ≤ 1000) : GoodT (Ye (Y2 2) (Vq (Y2 2) (Zi n [sa, sb]))) := by
  have hG := Vy h1 h2 ha hb
  obtain ⟨k1, k2, k3, k4⟩ := Vm hG
  exact good_tree (ofP_good hG) (small_sub (small_apart ha hb) k1 k2) ((cheap_apart h1 ha hb).sub k2) (by decide)
theorem apart_fewA {n : Int} (h1 : 1 ≤ n) (h2 : n ≤ 4611686018427387904) {sa sb : Int} (ha : sa ≤ 1000) (hb : sb ≤ 1000) : FewA (Ye (Y2 2) (Vq (Y2 2) (Zi n [sa, sb]))) := by
  obtain ⟨k1, k2, k3, k4⟩ := Vm (Vy h1 h2 ha hb)
  obtain ⟨e0, e1, el, e2⟩ := apart_nd n sa sb
  refine fewA_of fun l hl => ?_
  rw [(two_roots _).2.2] at hl
  rcases List.mem_cons.1 hl with rfl | hl
  · have := (k2 0).1.length_le
    rw [e0, Z2] at this; omega
  · rw [List.mem_singleton.1 hl]
    have := (k2 1).1.length_le
    rw [e1, Z2] at this; omega
end Go.Proofs.Ytcaeoebphfjfiaa.Am


/- Trees of good parts: who is reached, how often, and which nodes a place has. -/
namespace Go.Proofs.Ytcaeoebphfjfiaa.Am
open Go Go.RowKit
set_option maxRecDepth 100000
set_option linter.unusedVariables false
set_option linter.unusedSimpArgs false

theorem reach_path {T : TreeT} (hT : GoodT T) {ns : List Int} (hp : Path T ns) (hl : ns.length = T.vars.length) : ∀ d i, i < d → i < T.vars.length → Yp T ns i ∈ Zj T d i
  | 0, i, h, _ => by omega
  | d + 1, i, h, hi => by
    rw [Zj]
    rcases hT.par i hi with hp0 | hp0
    · rw [if_pos hp0]; unfold Yp; rw [if_pos hp0]; simp
    · obtain ⟨p, hpp⟩ : ∃ p : Nat, T.parent.getD i 0 = p := ⟨(T.parent.getD i 0).toNat, by omega⟩
      rw [if_neg (by omega), mem_once, hpp, Int.toNat_natCast]
      have ih := reach_path hT hp hl d p (by omega) (by omega)
      obtain ⟨l, h1, h2⟩ := hp p (by omega)
      refine .inr (List.mem_flatMap.2 ⟨_, ih, List.mem_map.2 ⟨l, h1, ?_⟩⟩)
      unfold Yp
      rw [if_neg (by omega), hpp, Int.toNat_natCast]
      exact h2
def Reach (T : TreeT) : Prop := ∀ (i : Nat) (a : Int), i < T.vars.length → T.group i a ≠ [] → (T.parent.getD i 0 = -1 → a = -1) → a ∈ Zj T T.vars.length i
theorem reach_tree {f : Forest} {p : Parts} (hG : GoodP f p) (hT : GoodT (Ye f (Vq f p))) : Reach (Ye f (Vq f p)) := fun i a hi hne hr => by
  obtain ⟨k1, k2, k3, k4⟩ := Vm hG
  have hol : f.order.length = f.vars.length := hG.gf.l1
  have hvl : (Ye f (Vq f p)).vars.length = f.vars.length := (Vx _).1.trans hol
  obtain ⟨l, hl⟩ := List.exists_mem_of_ne_nil _ hne
  rw [hvl] at hi
  obtain ⟨r, hr1, hr2, hr3⟩ := group_row hG hi hl
  obtain ⟨x1, x2⟩ := rows_ext hG
  have hmem : r.nodes ∈ extN (Ye f (Vq f p)) f.vars.length [] := by rw [← x1]; exact List.mem_map.2 ⟨r, hr1, rfl⟩
  obtain ⟨m1, m2⟩ := mem_ext _ _ _ hmem
  have hlen : r.nodes.length = (Ye f (Vq f p)).vars.length := by rw [m1, hvl]; simp
  have hP : Path (Ye f (Vq f p)) r.nodes := ext_path hT f.vars.length [] r.nodes (by simp [hvl]) (fun i hi => by simp at hi) hmem
  have hgo := reach_path hT hP hlen (Ye f (Vq f p)).vars.length i (by omega) (by omega)
  have ha : Yp (Ye f (Vq f p)) r.nodes i = a := by
    unfold Yp
    rcases hT.par i (by omega) with h | h
    · rw [if_pos h, hr h]
    · rw [if_neg (by omega)]
      rcases hr3 with h3 | h3
      · omega
      · exact h3
  rw [ha] at hgo
  exact hgo
def hasB (T : TreeT) (i : Nat) (b : Int) : Prop := ∃ a, ∃ x ∈ T.group i a, x.b = b
end Go.Proofs.Ytcaeoebphfjfiaa.Am


/- Counts are made. -/
namespace Go.Proofs.Ytcaeoebphfjfiaa.Am
open Go Go.RowKit
set_option maxRecDepth 100000
set_option linter.unusedVariables false
set_option linter.unusedSimpArgs false

structure NewS (T : TreeT) (K : Hp) (tb cb mb ms m : Nat) (H : Hp) (es1 es2 : List (Value × Value)) : Prop where
  le : K.le H
  hc : H.get cb = .own 0 [.pointer (some ⟨tb, 0, none⟩), .map (some mb), .map (some ms)]
  lc : cb < H.size
  hb : H.get mb = .map es1
  lb : mb < H.size
  hs : H.get ms = .map es2
  ls : ms < H.size
  i1 : IntsM es1
  i2 : IntsM es2
  no : ∀ (k : Nat) b, k < m → Yd es1 (Yq k b) = none ∧ Yd es2 (Yq k b) = none
  c1 : ∀ (k : Nat) b, m ≤ k → k < T.vars.length → Yd es1 (Yq k b) = none ∨ (Yd es1 (Yq k b) = some (.int .u64 (Vo T T.vars.length k b)) ∧ hasB T k b)
  c2 : ∀ (k : Nat) b, m ≤ k → k < T.vars.length → Yd es2 (Yq k b) = none ∨ Yd es2 (Yq k b) = some (.int .u64 (Vp T T.vars.length k b))
  d1 : ∀ (k : Nat), m ≤ k → k < T.vars.length → ∀ a ∈ Zj T T.vars.length k, ∀ x ∈ T.group k a, Yd es1 (Yq k x.b) = some (.int .u64 (Vo T T.vars.length k x.b))
  d2 : ∀ (k : Nat), m ≤ k → k < T.vars.length → ∀ a ∈ Zj T T.vars.length k, Yd es2 (Yq k a) = some (.int .u64 (Vp T T.vars.length k a))
theorem NewS.fill {T : TreeT} {K : Hp} {tb cb mb ms i : Nat} {H : Hp} {es1 es2 : List (Value × Value)} (h : NewS T K tb cb mb ms (i + 1) H es1 es2) : FillS T K tb cb mb ms i es1 es2 H es1 es2 :=
  ⟨h.le, h.hc, h.lc, h.hb, h.lb, h.hs, h.ls, h.i1, h.i2, fun _ _ _ => rfl, fun _ _ _ => rfl, fun b => .inl (h.no i b (Nat.lt_succ_self i)).1, fun b => .inl (h.no i b (Nat.lt_succ_self i)).2⟩
theorem NewS.step {T : TreeT} {K : Hp} {tb cb mb ms i : Nat} {H H' : Hp} {es1 es2 es1' es2' : List (Value × Value)} (h : NewS T K tb cb mb ms (i + 1) H es1 es2) (hf : FillS T K tb cb mb ms i es1 es2 H' es1' es2')
    (h2 : ∀ a ∈ Zj T T.vars.length i, Yd es2' (Yq i a) = some (.int .u64 (Vp T T.vars.length i a))) (h1 : ∀ a ∈ Zj T T.vars.length i, ∀ x ∈ T.group i a, Yd es1' (Yq i x.b) = some (.int .u64 (Vo T T.vars.length i x.b))) : NewS T K tb cb mb ms i H' es1' es2' := by
  refine ⟨hf.le, hf.hc, hf.lc, hf.hb, hf.lb, hf.hs, hf.ls, hf.i1, hf.i2, fun k b hk => ?_, fun k b hk hk2 => ?_, fun k b hk hk2 => ?_, fun k hk hk2 a ha x hx => ?_, fun k hk hk2 a ha => ?_⟩
  · rw [hf.o1 k b (by omega), hf.o2 k b (by omega)]; exact h.no k b (by omega)
  · by_cases he : k = i
    · subst he; exact hf.v1 b
    · rw [hf.o1 k b (by omega)]; exact h.c1 k b (by omega) hk2
  · by_cases he : k = i
    · subst he; exact hf.v2 b
    · rw [hf.o2 k b (by omega)]; exact h.c2 k b (by omega) hk2
  · by_cases he : k = i
    · subst he; exact h1 a ha x hx
    · rw [hf.o1 k _ (by omega)]; exact h.d1 k (by omega) hk2 a ha x hx
  · by_cases he : k = i
    · subst he; exact h2 a ha
    · rw [hf.o2 k _ (by omega)]; exact h.d2 k (by omega) hk2 a ha
structure CntsV (T : TreeT) (es1 es2 : List (Value × Value)) : Prop where
  i1 : IntsM es1
  i2 : IntsM es2
  sum : ∀ (i : Nat) (a : Int), i < T.vars.length → cntAt es2 i (if T.parent.getD i 0 = -1 then -1 else a) = Vp T T.vars.length i a
  bel : ∀ (i : Nat) (b : Int), i < T.vars.length → (hasB T i b → cntAt es1 i b = Vo T T.vars.length i b) ∧ (¬ hasB T i b → cntAt es1 i b = 0)
theorem cntAt_some {es : List (Value × Value)} {i a n : Int} (h : Yd es (Yq i a) = some (.int .u64 n)) : cntAt es i a = n := by unfold cntAt; rw [h]
theorem cntAt_none {es : List (Value × Value)} {i a : Int} (h : Yd es (Yq i a) = none) : cntAt es i a = 0 := by unfold cntAt; rw [h]
theorem group_root {T : TreeT} {i : Nat} (h : T.parent.getD i 0 = -1) (a b : Int) : T.group i a = T.group i b := by
  unfold TreeT.group TreeT.row
  rw [Int.toNat_natCast, if_pos h, if_pos h]
theorem sumT_root {T : TreeT} (hT : GoodT T) {i : Nat} (hi : i < T.vars.length) (h : T.parent.getD i 0 = -1) (a b : Int) : Vp T T.vars.length i a = Vp T T.vars.length i b := by
  rw [sum_is hT hi, sum_is hT hi, group_root h a b]
theorem NewS.done {T : TreeT} (hT : GoodT T) (hR : Reach T) {K : Hp} {tb cb mb ms : Nat} {H : Hp} {es1 es2 : List (Value × Value)} (h : NewS T K tb cb mb ms 0 H es1 es2) : CntsV T es1 es2 := by
  refine ⟨h.i1, h.i2, fun i a hi => ?_, fun i b hi => ⟨fun ⟨a, x, hx, hb⟩ => ?_, fun hno => ?_⟩⟩
  · obtain ⟨a', ha'⟩ : ∃ a', a' = if T.parent.getD i 0 = -1 then -1 else a := ⟨_, rfl⟩
    have hr : T.parent.getD i 0 = -1 → a' = -1 := fun e => by rw [ha', if_pos e]
    have hs : Vp T T.vars.length i a = Vp T T.vars.length i a' := by
      by_cases e : T.parent.getD i 0 = -1
      · exact sumT_root hT hi e a a'
      · rw [ha', if_neg e]
    rw [← ha', hs]
    by_cases hg : T.group i a' = []
    · have h0 : Vp T T.vars.length i a' = 0 := by rw [sum_is hT hi, hg]; rfl
      rw [h0]
      rcases h.c2 i a' (Nat.zero_le _) hi with h2 | h2
      · exact cntAt_none h2
      · rw [cntAt_some h2, h0]
    · exact cntAt_some (h.d2 i (Nat.zero_le _) hi a' (hR i a' hi hg hr))
  · obtain ⟨a', ha'⟩ : ∃ a', a' = if T.parent.getD i 0 = -1 then -1 else a := ⟨_, rfl⟩
    have hr : T.parent.getD i 0 = -1 → a' = -1 := fun e => by rw [ha', if_pos e]
    have hg : T.group i a = T.group i a' := by
      by_cases e : T.parent.getD i 0 = -1
      · exact group_root e a a'
      · rw [ha', if_neg e]
    rw [hg] at hx
    rw [← hb]
    exact cntAt_some (h.d1 i (Nat.zero_le _) hi a' (hR i a' hi (List.ne_nil_of_mem hx) hr) x hx)
  · rcases h.c1 i b (Nat.zero_le _) hi with h1 | h1
    · exact cntAt_none h1
    · exact absurd h1.2 hno
def CntR (H : Hp) (cb tb : Nat) (T : TreeT) : Prop := ∃ mb ms es1 es2, cb < H.size ∧ mb < H.size ∧ ms < H.size ∧ H.get cb = .own 0 [.pointer (some ⟨tb, 0, none⟩), .map (some mb), .map (some ms)] ∧ H.get mb = .map es1 ∧ H.get ms = .map es2 ∧ TreeR H (.pointer (some ⟨tb, 0, none⟩)) T ∧ CntsV T es1 es2
theorem CntR.mono {H H' : Hp} (hle : H.le H') {cb tb : Nat} {T : TreeT} (h : CntR H cb tb T) : CntR H' cb tb T := by
  obtain ⟨mb, ms, es1, es2, h1, h2, h3, h4, h5, h6, h7, h8⟩ := h
  exact ⟨mb, ms, es1, es2, Nat.lt_of_lt_of_le h1 hle.1, Nat.lt_of_lt_of_le h2 hle.1, Nat.lt_of_lt_of_le h3 hle.1, Xz hle h1 (by intro e; cases e) h4, Xz hle h2 (by intro e; cases e) h5, Xz hle h3 (by intro e; cases e) h6, h7.mono hle, h8⟩
set_option maxHeartbeats 1000000 in
theorem New_cnt {T : TreeT} (hT : GoodT T) (hF : FewA T) (hR : Reach T) {tb : Nat} (H : Hp) (ht : TreeR H (.pointer (some ⟨tb, 0, none⟩)) T) :
    ACalls Try.prog 31 #[.pointer (some ⟨tb, 0, none⟩)] H (fun r H' => H.le H' ∧ ∃ cb, r = .pointer (some ⟨cb, 0, none⟩) ∧ CntR H' cb tb T) := by
  have hfew := hT.few
  refine Xr Try.func31 rfl rfl rfl (by simp) ?_
  refine Xd ?_
  refine Xb (by kernel_rfl) ?_
  refine Xa (Zf rfl) ?_
  refine Xd ?_
  refine Xd ?_
  refine Xb (by kernel_rfl) ?_
  refine Xa (Xv rfl) ?_
  refine Xa (Vr rfl t_spot rfl Try.underlying33) ?_
  refine X5 rfl rfl ?_ ?_
  intro hc1
  (have h := hc1; simp at h)
  intro hc1
  (try simp only [decide_eq_true_eq, decide_eq_false_iff_not, Bool.not_eq_true', Bool.not_eq_false'] at hc1)
  refine X9 ?_
  refine Xd ?_
  refine Xb (by kernel_rfl) ?_
  refine Xa (Xv rfl) ?_
  refine X3 (am_makeMap) ?_
  refine X3 (am_makeMap) ?_
  refine Xa (Y7 (pl := [(0, 1), (1, 1), (2, 1)]) (r := [.pointer _, .map _, .map _]) Try.underlying101 inf101.zero (by decide) rfl rfl) ?_
  refine X3 (Yv rfl) ?_
  refine Xa (Zf rfl) ?_
  refine Xd ?_
  refine Xd ?_
  refine Xb (by kernel_rfl) ?_
  refine Xa (Xv rfl) ?_
  refine X1 (Xy (Len_tree (ht.mono t_le)) rfl Try.func21 rfl rfl rfl ?_)
  rintro v13 H1 ⟨rfl, hH1⟩; have h1 : NewS T H tb (H.size + 2) H.size (H.size + 1) T.vars.length H1 [] [] := by
      rw [hH1]
      exact ⟨t_le, Yk, by simp, Yk, by simp <;> omega, Yk, by simp, .nil, .nil, fun k b hk => ⟨rfl, rfl⟩, fun k b hk hk2 => by omega, fun k b hk hk2 => by omega, fun k hk hk2 => by omega, fun k hk hk2 => by omega⟩
  refine Xa (av_sub64 rfl rfl Yx) ?_
  refine Xa (Xg rfl) ?_
  refine Ya ?_
  refine Za (fun n t H' => ∃ (m : Nat) (es1 es2 : List (Value × Value)), n = m ∧ m ≤ T.vars.length ∧ NewS T H tb (H.size + 2) H.size (H.size + 1) m H' es1 es2 ∧ t 0 = .pointer (some ⟨tb, 0, none⟩) ∧ t 3 = .pointer (some ⟨H.size + 2, 0, none⟩) ∧ t 4 = .int .i64 ((m : Int) - 1)) (T.vars.length) (⟨T.vars.length, [], [], rfl, Nat.le_refl _, h1, rfl, rfl, rfl⟩) ?_
  rintro n t H2 ⟨m, es1, es2, rfl, hm, hS, e0, e3, e4⟩
  refine Xd ?_
  refine Xd ?_
  refine Xb (by kernel_rfl) ?_
  refine Xa (Xc Xl) ?_
  refine Xa (av_ge rfl rfl) ?_
  refine X5 rfl rfl ?_ ?_
  intro hc2
  obtain ⟨i, rfl⟩ : ∃ i, n = i + 1 := ⟨n - 1, by have := of_decide_eq_true hc2; omega⟩
  rw [show (((i + 1 : Nat) : Int) - 1) = (i : Int) by omega] at e4
  refine X9 ?_
  refine Xd ?_
  refine Ya ?_
  refine Xb (by kernel_rfl) ?_
  refine Xa (Xv Xl) ?_
  refine Xa (Xc Xl) ?_
  refine X1 (Xy (fill_cnt hT hF ht T.vars.length i (by omega) (by omega) (Nat.le_refl _) (Nat.le_succ _) (by omega) (by omega) hS.fill (fun k hk b hb => by obtain ⟨h3, h4⟩ := kids_lt hT hk; rw [← above_deep hT _ k h4 h4] at hb; exact cntAt_some (hS.d2 k (by omega) h4 b hb))) rfl Try.func64 rfl rfl rfl ?_)
  rintro v21 H3 ⟨es1', es2', hf, hf2, hf1⟩
  refine Xb (by kernel_rfl) ?_
  refine Xa (Xc Xl) ?_
  refine Xa (av_sub64 rfl rfl Yx) ?_
  refine Xa (Xg rfl) ?_
  exact ⟨i, by omega, i, es1', es2', rfl, by omega, hS.step hf hf2 hf1, e0, e3, rfl⟩
  intro hc2
  obtain rfl : n = 0 := by have := of_decide_eq_false hc2; omega
  refine Y5 ?_
  refine Xd ?_
  refine Xb (by kernel_rfl) ?_
  refine Xa (Xv Xl) ?_
  refine Xa (Zf rfl) ?_
  refine X6 ?_
  · exact ⟨_, X0 (Xw rfl), hS.le, _, rfl, _, _, es1, es2, hS.lc, hS.lb, hS.ls, hS.hc, hS.hb, hS.hs, ht.mono hS.le, hS.done hT hR⟩
end Go.Proofs.Ytcaeoebphfjfiaa.Am


/- What counts tell. -/
namespace Go.Proofs.Ytcaeoebphfjfiaa.Am
open Go Go.RowKit
set_option maxRecDepth 100000
set_option linter.unusedVariables false
set_option linter.unusedSimpArgs false

theorem sum_cntR {T : TreeT} (hT : GoodT T) {cb tb : Nat} {H : Hp} (hc : CntR H cb tb T) (i : Nat) (hi : i < T.vars.length) (a : Int) :
    ACalls Try.prog 86 #[.pointer (some ⟨cb, 0, none⟩), .int .i64 i, .int .i64 a] H (fun r H' => r = .int .u64 (Vp T T.vars.length i a) ∧ H' = H) := by
  obtain ⟨mb, ms, es1, es2, h1, h2, h3, h4, h5, h6, h7, h8⟩ := hc
  have h := sum_cnt hT h4 h7 h6 h8.i2 i hi a
  rw [h8.sum i a hi] at h
  exact h
set_option maxHeartbeats 2000000 in
theorem behind_cnt {T : TreeT} (hT : GoodT T) {cb tb : Nat} {ns : List Int} {v : Value} {H : Hp} (hc : CntR H cb tb T) (hn : Sl (Ze .i64) H v ns) (hnl : ns.length ≤ 1000000) :
    ACalls Try.prog 66 #[.pointer (some ⟨cb, 0, none⟩), v] H (fun r H' => r = .int .u64 (behT T ns) ∧ H.le H') := by
  obtain ⟨A, c, rfl⟩ := hn.shape
  have hfew := hT.few
  have hc0 := hc
  obtain ⟨mb, ms, es1, es2, h1, h2, h3, h4, h5, h6, h7, h8⟩ := hc
  refine Xr Try.func66 rfl rfl rfl (by simp) ?_
  refine Xd ?_
  refine Xb (by kernel_rfl) ?_
  refine Xa (Xg rfl) ?_
  refine Xd ?_
  refine Xb (by kernel_rfl) ?_
  refine Xa (Xg rfl) ?_
  refine Xd ?_
  refine Xd ?_
  refine Xb (by kernel_rfl) ?_
  refine Xa (X2 rfl) ?_
  refine Xa (Yy rfl Try.underlying23) ?_
  refine Xa (Xv rfl) ?_
  refine Xa (X8 rfl) ?_
  refine Xa (Xi (off := 0) rfl Try.underlying101 rfl inf33.size (by decide) rfl) ?_
  refine Xa (Xk rfl Try.underlying33 rfl Xs) ?_
  refine X1 (Xy (Len_tree h7) rfl Try.func21 rfl rfl rfl ?_)
  rintro v17 H ⟨rfl, rfl⟩
  refine Xa (av_gt rfl rfl) ?_
  refine X5 rfl rfl ?_ ?_
  intro hc1
  have hlong : T.vars.length < ns.length := by have := of_decide_eq_true hc1; omega
  refine Xd ?_
  refine Xb (by kernel_rfl) ?_
  refine Xa (Xg rfl) ?_
  refine X6 ?_
  exact ⟨.int .u64 0, X0 (Xw rfl), by rw [behT, if_neg (by omega)], Hp.le_refl _⟩
  intro hc1
  have hshort : ns.length ≤ T.vars.length := by have := of_decide_eq_false hc1; omega
  refine X9 ?_
  refine Xd ?_
  refine Xd ?_
  refine Xb (by kernel_rfl) ?_
  refine Xa (Xv rfl) ?_
  refine Xa (X8 rfl) ?_
  refine Xa (Xi (off := 0) rfl Try.underlying101 rfl inf33.size (by decide) rfl) ?_
  refine Xa (Xk rfl Try.underlying33 rfl Xs) ?_
  refine X1 (Xy (Len_tree h7) rfl Try.func21 rfl rfl rfl ?_)
  rintro v23 H ⟨rfl, rfl⟩
  refine Xa (Xc rfl) ?_
  refine Ya ?_
  refine Za (fun n t H' => ∃ (i : Nat) (A : Option Addr), n = T.vars.length - i ∧ i ≤ T.vars.length ∧ H.le H' ∧ Sl (Ze .i64) H (.slice A ns.length c) ns ∧ (∀ j, j < i → j < ns.length → (Zp (T.group j (Yp T ns j)) (ns.getD j 0)).isSome = true) ∧ t 0 = .pointer (some ⟨cb, 0, none⟩) ∧ t 1 = .slice A ns.length c ∧ t 5 = .int .u64 (mulT T ns i) ∧ t 23 = .int .i64 T.vars.length ∧ t 24 = .int .i64 i) (T.vars.length) (⟨0, _, rfl, Nat.zero_le _, Hp.le_refl _, hn, fun j h => by omega, rfl, rfl, rfl, rfl, rfl⟩) ?_
  rintro n t H1 ⟨i, A, rfl, hi, le1, hnA, hok, e0, e1, e5, e23, e24⟩
  have hc1 := hc0.mono le1
  have h41 := Xz le1 h1 (by intro e; cases e) h4
  have hcb1 := Nat.lt_of_lt_of_le h1 le1.1
  have hn1 := hnA.mono le1.sees
  refine Xd ?_
  refine Xb (by kernel_rfl) ?_
  refine Xa (Zg Xl Xl) ?_
  refine Xd ?_
  refine X5 rfl rfl ?_ ?_
  intro hc2
  have hil : i < T.vars.length := by have := of_decide_eq_true hc2; omega
  have hpar := hT.par i hil
  obtain ⟨p, hp⟩ : ∃ p, p = T.parent.getD i 0 := ⟨_, rfl⟩
  rw [← hp] at hpar
  obtain ⟨ab, hab⟩ : ∃ ab, ab = if p ≠ -1 ∧ p < ns.length then ns.getD p.toNat 0 else -1 := ⟨_, rfl⟩
  have habv : p < ns.length → ab = Yp T ns i := fun h => by
    unfold Yp
    rw [hab, ← hp]
    by_cases e : p = -1
    · rw [if_neg (fun h => h.1 e), if_pos e]
    · rw [if_pos ⟨e, h⟩, if_neg e]
  have hms := mulT_succ T ns i
  rw [← hp] at hms
  refine X9 ?_
  refine Xd ?_
  refine Ya ?_
  refine Xd ?_
  refine Xb (by kernel_rfl) ?_
  refine Xa (Xc Xl) ?_
  refine Xa (Xg rfl) ?_
  refine Xd ?_
  refine Xb (by kernel_rfl) ?_
  refine Xa (Xv Xl) ?_
  refine Xa (X8 rfl) ?_
  refine Xa (Xi (off := 0) rfl Try.underlying101 rfl inf33.size (by decide) rfl) ?_
  refine Xa (Xk rfl Try.underlying33 rfl Xs) ?_
  refine Xa (Xc rfl) ?_
  refine X1 (Xy (Parent_tree (h7.mono le1) hT.l1 (i : Int)) rfl Try.func20 rfl rfl rfl ?_)
  rintro v32 H1 ⟨rfl, rfl⟩; rw [if_pos ⟨by omega, by omega⟩, Int.toNat_natCast, ← hp]
  refine Xa (Xg rfl) ?_
  refine Xd ?_
  refine Xb (by kernel_rfl) ?_
  refine Xa (Xg rfl) ?_
  refine Xd ?_
  refine Xd ?_
  refine ac_cut (fun t H' => H' = H1 ∧ t 0 = .pointer (some ⟨cb, 0, none⟩) ∧ t 1 = .slice A ns.length c ∧ t 5 = .int .u64 (mulT T ns i) ∧ t 6 = .int .i64 i ∧ t 7 = .int .i64 p ∧ t 8 = .int .i64 (-1) ∧ t 23 = .int .i64 T.vars.length ∧ t 24 = .int .i64 i ∧ t 40 = .bool (decide (p ≠ -1 ∧ p < ns.length))) ?_ ?_
  refine Xb (by kernel_rfl) ?_
  refine Xa (Xc rfl) ?_
  refine Xa (av_ne rfl rfl) ?_
  refine Xa (Xu rfl) ?_
  refine Yc rfl rfl rfl ?_ ?_
  intro hg3
  have hp1 : p ≠ -1 := by have h := hg3; simpa using h
  refine Xn (Xj rfl rfl rfl hg3) (Xc rfl) ?_
  refine Xn (Xj rfl rfl rfl hg3) (X2 Xl) ?_
  refine Xn (Xj rfl rfl rfl hg3) (Yy rfl Try.underlying23) ?_
  refine Xn (Xj rfl rfl rfl hg3) (Zg rfl rfl) ?_
  refine Xa (Xm (congrArg Value.bool hg3) rfl) ?_
  first
    | exact ⟨rfl, e0, e1, e5, rfl, rfl, rfl, e23, e24, congrArg Value.bool (by rw [decide_eq_decide]; exact ⟨fun h => ⟨hp1, h⟩, fun h => h.2⟩)⟩
    | exact ⟨rfl, e0, e1, e5, rfl, rfl, rfl, e23, e24, congrArg Value.bool (by simp [hp1])⟩
  intro hg3
  have hp1 : p = -1 := by have h := hg3; simpa using h
  refine Xf (Xh rfl rfl rfl hg3 rfl) ?_
  refine Xf (Xh rfl rfl rfl hg3 rfl) ?_
  refine Xf (Xh rfl rfl rfl hg3 rfl) ?_
  refine Xf (Xh rfl rfl rfl hg3 rfl) ?_
  refine Xa (Xm (congrArg Value.bool hg3) Xl) ?_
  first
    | exact ⟨rfl, e0, e1, e5, rfl, rfl, rfl, e23, e24, congrArg Value.bool (by rw [decide_eq_decide]; exact ⟨fun h => ⟨hp1, h⟩, fun h => h.2⟩)⟩
    | exact ⟨rfl, e0, e1, e5, rfl, rfl, rfl, e23, e24, congrArg Value.bool (by simp [hp1])⟩
  rintro t H1 ⟨rfl, e0, e1, e5, e6, e7, e8, e23, e24, e40⟩
  refine ac_cut (fun t H' => H' = H1 ∧ ∃ A, Sl (Ze .i64) H (.slice A ns.length c) ns ∧ t 0 = .pointer (some ⟨cb, 0, none⟩) ∧ t 1 = .slice A ns.length c ∧ t 5 = .int .u64 (mulT T ns i) ∧ t 6 = .int .i64 i ∧ t 7 = .int .i64 p ∧ t 8 = .int .i64 ab ∧ t 23 = .int .i64 T.vars.length ∧ t 24 = .int .i64 i) ?_ ?_
  refine X5 Xl rfl ?_ ?_
  intro hc4
  have hp2 : p ≠ -1 ∧ p < ns.length := of_decide_eq_true hc4
  obtain ⟨bN, oN, eN, hbN, hcN⟩ := hn1.int_at (i := p) (by omega) (by omega)
  subst eN
  refine Xb (by kernel_rfl) ?_
  refine Xa (X2 Xl) ?_
  refine Xa (Xc Xl) ?_
  refine Xa (Xt rfl rfl Try.underlying23 inf3.size X7 X7) ?_
  refine Xa (Xk rfl Try.underlying3 rfl Xs) ?_
  refine Xa (Xg rfl) ?_
  first
    | exact ⟨rfl, _, hnA, e0, e1, e5, e6, e7, congrArg (Value.int .i64) (by rw [hab, if_pos hp2]), e23, e24⟩
    | exact ⟨rfl, _, hnA, e0, e1, e5, e6, e7, by rw [hab, if_neg hp2]; exact e8, e23, e24⟩
  intro hc4
  have hp2 : ¬ (p ≠ -1 ∧ p < ns.length) := of_decide_eq_false hc4
  refine X9 ?_
  first
    | exact ⟨rfl, _, hnA, e0, e1, e5, e6, e7, congrArg (Value.int .i64) (by rw [hab, if_pos hp2]), e23, e24⟩
    | exact ⟨rfl, _, hnA, e0, e1, e5, e6, e7, by rw [hab, if_neg hp2]; exact e8, e23, e24⟩
  rintro t H1 ⟨rfl, A, hnA, e0, e1, e5, e6, e7, e8, e23, e24⟩
  have hn1 := hnA.mono le1.sees
  refine Ya ?_
  refine Xd ?_
  refine Xb (by kernel_rfl) ?_
  refine Xa (Xc Xl) ?_
  refine Xa (X2 Xl) ?_
  refine Xa (Yy rfl Try.underlying23) ?_
  refine Xa (Zg rfl rfl) ?_
  refine Xa (Xo rfl) ?_
  refine X5 rfl rfl ?_ ?_
  intro hc5
  have hin : i < ns.length := by have := of_decide_eq_true hc5; omega
  obtain ⟨bM, oM, eM, hbM, hcM⟩ := hn1.int_at (i := (i : Int)) (by omega) (by omega)
  rw [Int.toNat_natCast] at hcM
  subst eM
  refine Xd ?_
  refine Yz (by kernel_rfl) (Zd (B := [0, 1, 3, 7, 0, 0, 0, 0, 192, 448, 1023, 2047, 4095, 4095, 0, 24575, 65535]) (π := [0, 1, 2, 3, 4, 5, 6, 7, 8, 9, 14, 10, 11, 12, 13, 15, 16]) (by kernel_rfl)) ?_
  refine Xe rfl rfl (Xv Xl) Xp ?_
  refine Xe rfl rfl (X8 rfl) Xp ?_
  refine Xe rfl rfl (Xi (off := 0) rfl Try.underlying101 rfl inf33.size (by decide) rfl) Xp ?_
  refine Xe rfl rfl (Xk rfl Try.underlying33 rfl Xs) Xp ?_
  refine Xe rfl rfl (Xc Xl) Xp ?_
  refine Xe rfl rfl (Xc Xl) Xp ?_
  refine Xe rfl rfl (X2 Xl) Xp ?_
  refine Xe rfl rfl (Xc Xl) Xp ?_
  refine Xe rfl rfl (Xt rfl rfl Try.underlying23 inf3.size X7 X7) Xp ?_
  refine Xe rfl rfl (Xk rfl Try.underlying3 rfl Xs) Xp ?_
  refine Zl rfl rfl (Y8 (l := [.int .i64 0, .int .i64 0, .int .i64 0, .int .u64 0]) inf54.zero rfl (by decide)) ?_
  refine Ym rfl rfl (Xy (Find_tree (h7.mono t_le) hT.l1 hT.l2 hT.lens (i : Int) ab (ns.getD i 0) (hT.sort _ _)) rfl Try.func26 rfl rfl rfl ?_)
  rintro v61 H2 ⟨le2, rfl⟩; rw [habv (by omega)]; have z2 := le2.1
  refine ⟨Yh, ?_⟩
  refine Xe rfl rfl (Zw rfl) Xp ?_
  refine Xe rfl rfl (Y0 rfl rfl) Xp ?_
  refine Xe rfl rfl (Y0 rfl rfl) Xp ?_
  first | refine Ym rfl rfl (Ys (vs := [.int .i64 _, .int .i64 _, .int .i64 _, .int .u64 _]) rfl rfl inf54.size Yk Yr rfl rfl ?_)
  refine ⟨Yh, ?_⟩
  refine Xe rfl rfl (Xo rfl) Xp ?_
  refine Xd ?_
  refine Xb (by kernel_rfl) ?_
  refine Xa (Xu rfl) ?_
  refine Xa (av_not rfl) ?_
  refine X5 rfl rfl ?_ ?_
  intro hc6
  have hno : (Zp (T.group i (Yp T ns i)) (ns.getD i 0)).isSome = false := by have h := hc6; simpa using h
  refine Xd ?_
  refine Xb (by kernel_rfl) ?_
  refine Xa (Xg rfl) ?_
  refine X6 ?_
  exact ⟨.int .u64 0, X0 (Xw rfl), by rw [behT, if_neg (fun h => by rw [okP_bad hin (by simpa using hno)] at h; exact absurd h.2 (by simp))], t_le⟩
  intro hc6
  have hyes : (Zp (T.group i (Yp T ns i)) (ns.getD i 0)).isSome = true := by have h := hc6; simpa using h
  refine X9 ?_
  refine Xb (by kernel_rfl) ?_
  refine Xa (Yj Xl Xl Yx) ?_
  refine Xa (Xc rfl) ?_
  have hok2 : ∀ j, j < i + 1 → j < ns.length → (j = i → (Zp (T.group i (Yp T ns i)) (ns.getD i 0)).isSome = true) → (Zp (T.group j (Yp T ns j)) (ns.getD j 0)).isSome = true := fun j h1 h2 h3 => by
      by_cases h : j = i
      · subst h; exact h3 rfl
      · exact hok j (by omega) h2
  first
    | exact ⟨T.vars.length - (i + 1), by omega, i + 1, _, rfl, by omega, t_le, hnA, fun j a b => hok2 j a b (fun _ => hyes), e0, e1, by rw [hms, if_neg (fun h => by omega)]; exact e5, e23, rfl⟩
    | exact ⟨T.vars.length - (i + 1), by omega, i + 1, _, rfl, by omega, le1, hnA, fun j a b => hok2 j a b (fun h => by omega), e0, e1, by rw [hms]; rfl, e23, rfl⟩
    | exact ⟨T.vars.length - (i + 1), by omega, i + 1, _, rfl, by omega, le1, hnA, fun j a b => hok2 j a b (fun h => by omega), e0, e1, by rw [hms]; exact e5, e23, rfl⟩
  intro hc5
  have hin : ¬ i < ns.length := by have := of_decide_eq_false hc5; omega
  refine Xd ?_
  refine ac_cut (fun t H' => H' = H1 ∧ t 0 = .pointer (some ⟨cb, 0, none⟩) ∧ t 1 = .slice A ns.length c ∧ t 5 = .int .u64 (mulT T ns i) ∧ t 6 = .int .i64 i ∧ t 8 = .int .i64 ab ∧ t 23 = .int .i64 T.vars.length ∧ t 24 = .int .i64 i ∧ t 66 = .bool (decide (p < ns.length))) ?_ ?_
  refine Xb (by kernel_rfl) ?_
  refine Xa (Xc Xl) ?_
  refine Xa (Vt rfl rfl) ?_
  refine Xa (Xu rfl) ?_
  refine Yc rfl rfl rfl ?_ ?_
  intro hg7
  have hp1 : p = -1 := by have h := hg7; simpa using h
  refine Xf (Xh rfl rfl rfl hg7 rfl) ?_
  refine Xf (Xh rfl rfl rfl hg7 rfl) ?_
  refine Xf (Xh rfl rfl rfl hg7 rfl) ?_
  refine Xf (Xh rfl rfl rfl hg7 rfl) ?_
  refine Xa (Xm (congrArg Value.bool hg7) Xl) ?_
  refine Xa (Xo rfl) ?_
  first
    | exact ⟨rfl, e0, e1, e5, e6, e8, e23, e24, rfl⟩
    | exact ⟨rfl, e0, e1, e5, e6, e8, e23, e24, congrArg Value.bool (by symm; apply decide_eq_true; omega)⟩
  intro hg7
  have hp1 : p ≠ -1 := by have h := hg7; simpa using h
  refine Xn (Xj rfl rfl rfl hg7) (Xc Xl) ?_
  refine Xn (Xj rfl rfl rfl hg7) (X2 Xl) ?_
  refine Xn (Xj rfl rfl rfl hg7) (Yy rfl Try.underlying23) ?_
  refine Xn (Xj rfl rfl rfl hg7) (Zg rfl rfl) ?_
  refine Xa (Xm (congrArg Value.bool hg7) rfl) ?_
  refine Xa (Xo rfl) ?_
  first
    | exact ⟨rfl, e0, e1, e5, e6, e8, e23, e24, rfl⟩
    | exact ⟨rfl, e0, e1, e5, e6, e8, e23, e24, congrArg Value.bool (by symm; apply decide_eq_true; omega)⟩
  rintro t H1 ⟨rfl, e0, e1, e5, e6, e8, e23, e24, e66⟩
  refine X5 Xl rfl ?_ ?_
  intro hc8
  have hpn : p < ns.length := of_decide_eq_true hc8
  rw [if_pos ⟨by omega, hpn⟩] at hms
  refine Xb (by kernel_rfl) ?_
  refine Xa (Xc Xl) ?_
  refine Xa (Xv Xl) ?_
  refine Xa (Xc Xl) ?_
  refine Xa (Xc Xl) ?_
  refine X1 (Xy (sum_cntR hT hc1 i hil ab) rfl Try.func86 rfl rfl rfl ?_)
  rintro v79 H1 ⟨rfl, rfl⟩; rw [habv hpn]
  refine X1 (Xy (Times_u64 _ _ (mulT_nonneg hT ns i) (Vl hT _ _ _) _) rfl Try.func61 rfl rfl rfl ?_)
  rintro v80 H1 ⟨rfl, rfl⟩
  refine Xa (Xg rfl) ?_
  refine Xb (by kernel_rfl) ?_
  refine Xa (Yj Xl Xl Yx) ?_
  refine Xa (Xc rfl) ?_
  have hok2 : ∀ j, j < i + 1 → j < ns.length → (j = i → (Zp (T.group i (Yp T ns i)) (ns.getD i 0)).isSome = true) → (Zp (T.group j (Yp T ns j)) (ns.getD j 0)).isSome = true := fun j h1 h2 h3 => by
      by_cases h : j = i
      · subst h; exact h3 rfl
      · exact hok j (by omega) h2
  first
    | exact ⟨T.vars.length - (i + 1), by omega, i + 1, _, rfl, by omega, t_le, hnA, fun j a b => hok2 j a b (fun _ => hyes), e0, e1, by rw [hms, if_neg (fun h => by omega)]; exact e5, e23, rfl⟩
    | exact ⟨T.vars.length - (i + 1), by omega, i + 1, _, rfl, by omega, le1, hnA, fun j a b => hok2 j a b (fun h => by omega), e0, e1, by rw [hms]; rfl, e23, rfl⟩
    | exact ⟨T.vars.length - (i + 1), by omega, i + 1, _, rfl, by omega, le1, hnA, fun j a b => hok2 j a b (fun h => by omega), e0, e1, by rw [hms]; exact e5, e23, rfl⟩
  intro hc8
  have hpn : ¬ p < ns.length := of_decide_eq_false hc8
  rw [if_neg (fun h => hpn h.2)] at hms
  refine X9 ?_
  refine Xb (by kernel_rfl) ?_
  refine Xa (Yj Xl Xl Yx) ?_
  refine Xa (Xc rfl) ?_
  have hok2 : ∀ j, j < i + 1 → j < ns.length → (j = i → (Zp (T.group i (Yp T ns i)) (ns.getD i 0)).isSome = true) → (Zp (T.group j (Yp T ns j)) (ns.getD j 0)).isSome = true := fun j h1 h2 h3 => by
      by_cases h : j = i
      · subst h; exact h3 rfl
      · exact hok j (by omega) h2
  first
    | exact ⟨T.vars.length - (i + 1), by omega, i + 1, _, rfl, by omega, t_le, hnA, fun j a b => hok2 j a b (fun _ => hyes), e0, e1, by rw [hms, if_neg (fun h => by omega)]; exact e5, e23, rfl⟩
    | exact ⟨T.vars.length - (i + 1), by omega, i + 1, _, rfl, by omega, le1, hnA, fun j a b => hok2 j a b (fun h => by omega), e0, e1, by rw [hms]; rfl, e23, rfl⟩
    | exact ⟨T.vars.length - (i + 1), by omega, i + 1, _, rfl, by omega, le1, hnA, fun j a b => hok2 j a b (fun h => by omega), e0, e1, by rw [hms]; exact e5, e23, rfl⟩
  intro hc2
  have hil : ¬ i < T.vars.length := by have := of_decide_eq_false hc2; omega
  refine Y5 ?_
  refine Xd ?_
  refine Xb (by kernel_rfl) ?_
  refine Xa (Xc Xl) ?_
  refine Xa (Xg rfl) ?_
  refine X6 ?_
  have hiv : i = T.vars.length := by omega
  subst hiv
  suffices hokp : okP T ns = true from ⟨.int .u64 (mulT T ns T.vars.length), X0 (Xw rfl), by rw [behT, if_pos ⟨hshort, hokp⟩], le1⟩
  unfold okP
  rw [List.all_eq_true]
  intro j hj
  rw [List.mem_range] at hj
  exact hok j (by omega) hj
theorem All_cnt {T : TreeT} (hT : GoodT T) {cb tb : Nat} {H : Hp} (hc : CntR H cb tb T) :
    ACalls Try.prog 34 #[.pointer (some ⟨cb, 0, none⟩)] H (fun r H' => r = .int .u64 (behT T []) ∧ H.le H') := by
  refine Xr Try.func34 rfl rfl rfl (by simp) ?_
  refine Xd ?_
  refine Xb (by kernel_rfl) ?_
  refine Xa (Xg rfl) ?_
  refine Xd ?_
  refine Xd ?_
  refine Xb (by kernel_rfl) ?_
  refine Xa (Xv rfl) ?_
  refine Xa (Vr rfl t_spot rfl Try.underlying71) ?_
  refine X5 rfl rfl ?_ ?_
  intro hc1
  (have h := hc1; simp at h)
  intro hc1
  (try simp only [decide_eq_true_eq, decide_eq_false_iff_not, Bool.not_eq_true', Bool.not_eq_false'] at hc1)
  refine X9 ?_
  refine Xd ?_
  refine Xb (by kernel_rfl) ?_
  refine Xa (Xv rfl) ?_
  refine X1 (Xy (behind_cnt hT hc (Sl.nil _ _) (by simp)) rfl Try.func66 rfl rfl rfl ?_)
  rintro v6 H6 ⟨rfl, hle6⟩
  refine Xa (Xg rfl) ?_
  refine X6 ?_
  exact ⟨_, X0 (Xw rfl), rfl, hle6⟩
theorem Exact_cnt {T : TreeT} (hT : GoodT T) {cb tb : Nat} {H : Hp} (hc : CntR H cb tb T) :
    ACalls Try.prog 35 #[.pointer (some ⟨cb, 0, none⟩)] H (fun r H' => r = .bool (decide (behT T [] < 4611686018427387904)) ∧ H.le H') := by
  refine Xr Try.func35 rfl rfl rfl (by simp) ?_
  refine Xd ?_
  refine Xb (by kernel_rfl) ?_
  refine Xa (Xo rfl) ?_
  refine Xd ?_
  refine Xb (by kernel_rfl) ?_
  refine Xa (Xv rfl) ?_
  refine Xa (av_ptr_ne_nil rfl rfl Try.underlying71) ?_
  refine Xa (Xu rfl) ?_
  refine Yc rfl rfl rfl ?_ ?_
  intro hg1
  have hp1 := hg1; try simp only [decide_eq_true_eq, decide_eq_false_iff_not, Bool.not_eq_true', Bool.not_eq_false'] at hp1
  refine Xn (Xj rfl rfl rfl hg1) (Xv rfl) ?_
  refine Zr (Xj rfl rfl rfl hg1) (Xy (behind_cnt hT hc (Sl.nil _ _) (by simp)) rfl Try.func66 rfl rfl rfl ?_)
  rintro v7 H7 ⟨rfl, hle7⟩
  refine Xn (Xj rfl rfl rfl hg1) (Zg rfl rfl) ?_
  refine Xa (Xm (congrArg Value.bool hg1) rfl) ?_
  refine Xa (Xo rfl) ?_
  refine X6 ?_
  exact ⟨_, X0 (Xw rfl), rfl, hle7⟩
  intro hg1
  (have h := hg1; simp at h)
theorem Behind_cnt {T : TreeT} (hT : GoodT T) {cb tb : Nat} {ns : List Int} {v : Value} {H : Hp} (hc : CntR H cb tb T) (hn : Sl (Ze .i64) H v ns) (hnl : ns.length ≤ 1000000) :
    ACalls Try.prog 67 #[.pointer (some ⟨cb, 0, none⟩), v] H (fun r H' => r = .int .u64 (behT T ns) ∧ H.le H') := by
  obtain ⟨A, c, rfl⟩ := hn.shape
  refine Xr Try.func67 rfl rfl rfl (by simp) ?_
  refine Xd ?_
  refine Xb (by kernel_rfl) ?_
  refine Xa (Xg rfl) ?_
  refine Xd ?_
  refine Xd ?_
  refine Xb (by kernel_rfl) ?_
  refine Xa (Xv rfl) ?_
  refine Xa (Vr rfl t_spot rfl Try.underlying71) ?_
  refine X5 rfl rfl ?_ ?_
  intro hc1
  (have h := hc1; simp at h)
  intro hc1
  (try simp only [decide_eq_true_eq, decide_eq_false_iff_not, Bool.not_eq_true', Bool.not_eq_false'] at hc1)
  refine X9 ?_
  refine Xd ?_
  refine Xb (by kernel_rfl) ?_
  refine Xa (Xv rfl) ?_
  refine Xa (X2 rfl) ?_
  refine X1 (Xy (behind_cnt hT hc hn hnl) rfl Try.func66 rfl rfl rfl ?_)
  rintro v9 H9 ⟨rfl, hle9⟩
  refine Xa (Xg rfl) ?_
  refine X6 ?_
  exact ⟨_, X0 (Xw rfl), rfl, hle9⟩
end Go.Proofs.Ytcaeoebphfjfiaa.Am


/- The statement CountsMany, as the abstract machine runs it; the small living call of the statements on counts. -/
namespace Go.Proofs.Ytcaeoebphfjfiaa.Am
open Go Go.RowKit
set_option maxRecDepth 100000
set_option linter.unusedVariables false
set_option linter.unusedSimpArgs false

theorem addR_u64 (a b : Int) (ha : 0 ≤ a) (hb : 0 ≤ b) (H : Hp) : ACalls Try.prog 32 #[.int .u64 a, .int .u64 b] H (fun r H' => r = .int .u64 (addI a b) ∧ H' = H) := by
  have hw : IntKind.u64.wrap (min a Yu + min b Yu) = min a Yu + min b Yu := by
    have : min a Yu + min b Yu < 18446744073709551616 := by unfold Yu; omega
    have h0 : 0 ≤ min a Yu + min b Yu := by unfold Yu; omega
    simp only [IntKind.wrap, IntKind.bits, IntKind.signed]
    generalize min a Yu + min b Yu = x at *
    simp
    omega
  refine Xr Try.func32 rfl rfl rfl (by simp) ?_
  refine Xd ?_
  refine Xb (by kernel_rfl) ?_
  refine Xa (Xg rfl) ?_
  refine Xd ?_
  refine Xb (by kernel_rfl) ?_
  refine Xa (Xc rfl) ?_
  refine X1 (Xy (top_u64 a _) rfl Try.func65 rfl rfl rfl ?_)
  rintro v6 H1 ⟨rfl, rfl⟩
  refine Xa (Xc rfl) ?_
  refine X1 (Xy (top_u64 b _) rfl Try.func65 rfl rfl rfl ?_)
  rintro v8 H1 ⟨rfl, rfl⟩
  refine Xa (av_add rfl rfl) ?_
  refine X1 (Xy (top_u64 _ _) rfl Try.func65 rfl rfl rfl ?_)
  rintro v10 H1 ⟨rfl, rfl⟩; rw [hw]
  refine Xa (Xg rfl) ?_
  refine X6 ?_
  exact ⟨_, X0 (Xw rfl), rfl, rfl⟩
theorem av_conv_is {P : Program} {t : Fr} {H : Hp} {d : Option Tmp} {ty : TypeId} {pos : String} {after : Array Edge} {guard : Option (Nat × Bool)} {x : Operand} {src dst : TypeId} {k k' : IntKind} {a v : Int} (hv : k'.wrap a = v) (hx : t.eval x = .int k a) (hs : (P.underlying src).isSome = true) (hd : P.underlying dst = some (.int k')) : AVal P ⟨d, .convert src dst x, ty, pos, after, guard⟩ t [] H (.int k' v) := by
  subst hv; exact av_conv hx hs hd
theorem av_addn_is {P : Program} {t : Fr} {H : Hp} {d : Option Tmp} {ty : TypeId} {pos : String} {after : Array Edge} {guard : Option (Nat × Bool)} {x y : Operand} {xt yt : TypeId} {k : IntKind} {a b v : Int} (hv : k.wrap (a + b) = v) (hx : t.eval x = .int k a) (hy : t.eval y = .int k b) : AVal P ⟨d, .binOp .add xt x y yt, ty, pos, after, guard⟩ t [] H (.int k v) := by
  subst hv; exact av_add hx hy
theorem lit_u64 {n : Int} (h : (Lit.int .u64 n).wf = true) : 0 ≤ n ∧ n ≤ 18446744073709551615 := by
  unfold Lit.wf at h
  rw [Bool.and_eq_true, decide_eq_true_eq, decide_eq_true_eq] at h
  exact h
theorem lit_u8 {n : Int} (h : (Lit.int .u8 n).wf = true) : 0 ≤ n ∧ n ≤ 255 := by
  unfold Lit.wf at h
  rw [Bool.and_eq_true, decide_eq_true_eq, decide_eq_true_eq] at h
  exact h
def live30 : TreeT := Ye (Y2 2) (Vq (Y2 2) (Zi 1 [2, 3]))
theorem live30_is : live30 = Ye (Y2 2) (Zi 1 [2, 3]) := by
  unfold live30
  rcases apart_of (n := 1) (by decide) (by decide) (sa := 2) (sb := 3) (by decide) (by decide) with ⟨_, _, h⟩ | ⟨h, _⟩
  · rw [h]
  · omega
theorem live30_all : behT live30 [] = 6 := by rw [live30_is]; decide +kernel
theorem live30_beh : behT live30 [1] = 3 := by rw [live30_is]; decide +kernel
theorem live30_good : GoodT live30 := apart_goodT (by decide) (by decide) (by decide) (by decide)
theorem live30_few : FewA live30 := apart_fewA (by decide) (by decide) (by decide) (by decide)
theorem live30_reach : Reach live30 := reach_tree (Vy (by decide) (by decide) (by decide) (by decide)) live30_good
set_option maxHeartbeats 1000000 in
theorem lives30_ok (H : Hp) : ACalls Try.prog 36 #[] H (fun r H' => r = .bool true ∧ H.le H') := by
  refine Xr Try.func36 rfl rfl rfl (by simp) ?_
  refine Xd ?_
  refine Xb (by kernel_rfl) ?_
  refine Xa (Xo rfl) ?_
  refine Xd ?_
  refine Xb (by kernel_rfl) ?_
  first | refine X3 (Yb (r := [.int .i64 _, .int .i64 _]) Try.underlying23 inf3.size inf3.zero rfl (by decide) (by decide) (by decide) rfl) ?_
  refine X1 (Xy (Apart_ok 1 [2, 3] (.slice (some ⟨H.size, 0, none⟩) 2 2) _ (sl_two (k := Ze .i64) Yk (by simp) rfl rfl rfl) (by decide) (by decide)) rfl Try.func30 rfl rfl rfl ?_)
  rintro v1 H1 ⟨cs1, ds1, rfl, hf1, hp1, hle1⟩; have hf10 := hf1; have hp10 := hp1; obtain ⟨a0, a1, a2, a3, a4, rfl, hs0, hs1, hs2, hs3, hs4⟩ := hf1; obtain ⟨A0, c0, rfl⟩ := hs0.shape; obtain ⟨A1, c1, rfl⟩ := hs1.shape; obtain ⟨A2, c2, rfl⟩ := hs2.shape; obtain ⟨A3, c3, rfl⟩ := hs3.shape; obtain ⟨A4, c4, rfl⟩ := hs4.shape; obtain ⟨u0, u1, rfl, hn0, hn1⟩ := hp1; obtain ⟨B0, d0, rfl⟩ := hn0.shape; obtain ⟨B1, d1, rfl⟩ := hn1.shape; have hz1 := hle1.1; simp only [Hp.push_size] at hz1
  refine Xa (Zw rfl) ?_
  refine Xa (Y0 rfl rfl) ?_
  refine Xa (Y0 rfl rfl) ?_
  refine X3 (Y8 (l := [.slice none 0 0, .slice none 0 0, .slice none 0 0, .slice none 0 0, .slice none 0 0]) inf26.zero rfl (by decide)) ?_
  refine X3 (Y8 (l := [.slice none 0 0, .slice none 0 0]) inf29.zero rfl (by decide)) ?_
  refine X1 (Ys (vs := [.slice _ _ _, .slice _ _ _, .slice _ _ _, .slice _ _ _, .slice _ _ _]) rfl rfl inf26.size Yk Yr rfl rfl ?_)
  refine X1 (Ys (vs := [.slice _ _ _, .slice _ _ _]) rfl rfl inf29.size Yk Yr rfl rfl ?_)
  refine Xd ?_
  refine Xb (by kernel_rfl) ?_
  refine Xa (Yn (cs := [.slice _ _ _, .slice _ _ _, .slice _ _ _, .slice _ _ _, .slice _ _ _]) rfl Try.underlying26 rfl inf26.size Yf) ?_
  refine Xa (Yn (cs := [.slice _ _ _, .slice _ _ _]) rfl Try.underlying29 rfl inf29.size Yf) ?_
  refine X1 (Xy (New_good (Y2 2) (Zi 1 [2, 3]) _ _ _ (kForest.mono Zk hf10) (kParts.mono Zk hp10) (small_apart (by decide) (by decide)) (cheap_apart (by decide) (by decide) (by decide)) (Vy (by decide) (by decide) (by decide) (by decide))) rfl Try.func11 rfl rfl rfl ?_)
  rintro v2 H2 ⟨hle2, tb, rfl, htr⟩; change TreeR H2 _ live30 at htr
  refine Xa (Zw rfl) ?_
  refine Xa (Y0 rfl rfl) ?_
  refine Xa (Y0 rfl rfl) ?_
  refine Xa (Zf rfl) ?_
  refine Xa (Xg rfl) ?_
  refine Xd ?_
  have leH1 : H.le H1 := Hp.le_trans (H.le_push _) hle1
  have leH2 : H.le H2 := Hp.le_trans t_le hle2
  clear hle2
  refine Xb (by kernel_rfl) ?_
  refine Xa (Xv rfl) ?_
  refine X1 (Xy (New_cnt live30_good live30_few live30_reach _ htr) rfl Try.func31 rfl rfl rfl ?_)
  rintro v3 H3 ⟨hle3, cb, rfl, hc3⟩
  refine Xa (Zf rfl) ?_
  refine Xd ?_
  refine Xb (by kernel_rfl) ?_
  refine Xa (Xc rfl) ?_
  refine Xa (Vt rfl rfl) ?_
  refine Xa (Xu rfl) ?_
  refine Yc rfl rfl rfl ?_ ?_
  intro hg1
  have hp1 := hg1; try simp only [decide_eq_true_eq, decide_eq_false_iff_not, Bool.not_eq_true', Bool.not_eq_false'] at hp1
  refine Xn (Xj rfl rfl rfl hg1) (Xv rfl) ?_
  refine Xn (Xj rfl rfl rfl hg1) (av_ptr_ne_nil rfl rfl Try.underlying71) ?_
  refine Xa (Xm (congrArg Value.bool hg1) rfl) ?_
  refine Xa (Xu rfl) ?_
  refine Yc rfl rfl rfl ?_ ?_
  intro hg2
  have hp2 := hg2; try simp only [decide_eq_true_eq, decide_eq_false_iff_not, Bool.not_eq_true', Bool.not_eq_false'] at hp2
  refine Xn (Xj rfl rfl rfl hg2) (Xv rfl) ?_
  refine Zr (Xj rfl rfl rfl hg2) (Xy (All_cnt live30_good hc3) rfl Try.func34 rfl rfl rfl ?_)
  rintro v4 H4 ⟨rfl, hle4⟩; rw [live30_all]
  refine Xn (Xj rfl rfl rfl hg2) (Vt rfl rfl) ?_
  refine Xa (Xm (congrArg Value.bool hg2) rfl) ?_
  refine Xa (Xu rfl) ?_
  refine Yc rfl rfl rfl ?_ ?_
  intro hg3
  have hp3 := hg3; try simp only [decide_eq_true_eq, decide_eq_false_iff_not, Bool.not_eq_true', Bool.not_eq_false'] at hp3
  refine Xn (Xj rfl rfl rfl hg3) (Xv rfl) ?_
  first | refine Zr (Xj rfl rfl rfl hg3) (.make (Yb (r := [.int .i64 _]) Try.underlying23 inf3.size inf3.zero rfl (by decide) (by decide) (by decide) rfl) ?_)
  refine Zr (Xj rfl rfl rfl hg3) (Xy (Behind_cnt (ns := [1]) (v := .slice (some ⟨H4.size, 0, none⟩) 1 1) live30_good ((hc3.mono hle4).mono (H4.le_push _)) (sl_one1 (k := Ze .i64) Yk (by simp) rfl rfl) (by simp)) rfl Try.func67 rfl rfl rfl ?_)
  rintro v5 H5 ⟨rfl, hle5⟩; rw [live30_beh]
  refine Xn (Xj rfl rfl rfl hg3) (Vt rfl rfl) ?_
  refine Xa (Xm (congrArg Value.bool hg3) rfl) ?_
  refine Xa (Xu rfl) ?_
  refine Yc rfl rfl rfl ?_ ?_
  intro hg4
  have hp4 := hg4; try simp only [decide_eq_true_eq, decide_eq_false_iff_not, Bool.not_eq_true', Bool.not_eq_false'] at hp4
  refine Xn (Xj rfl rfl rfl hg4) (Xv rfl) ?_
  refine Zr (Xj rfl rfl rfl hg4) (Xy (Exact_cnt live30_good (((hc3.mono hle4).mono (H4.le_push _)).mono hle5)) rfl Try.func35 rfl rfl rfl ?_)
  rintro v6 H6 ⟨rfl, hle6⟩; rw [live30_all]
  refine Xa (Xm (congrArg Value.bool hg4) rfl) ?_
  refine Xa (Xo rfl) ?_
  refine X6 ?_
  exact ⟨_, X0 (Xw rfl), rfl, Hp.le_trans (Hp.le_trans (Hp.le_trans leH2 hle3) hle4) (Hp.le_trans (Hp.le_trans (H4.le_push _) hle5) hle6)⟩
  intro hg4
  exact absurd hg4 (by decide)
  intro hg3
  exact absurd hg3 (by decide)
  intro hg2
  (have h := hg2; simp at h)
  intro hg1
  exact absurd hg1 (by decide)
set_option maxHeartbeats 2000000 in
theorem CountsMany_ok (ways a b : Int) (H : Hp) (hw : 0 ≤ ways) (ha : 0 ≤ a ∧ a ≤ 255) (hb : 0 ≤ b ∧ b ≤ 255) :
    ACalls Try.prog 6 #[.int .u64 ways, .int .u8 a, .int .u8 b] H (fun r H' => r = .bool true ∧ H.le H') := by
  obtain ⟨n, hn⟩ : ∃ n, IntKind.u64.wrap (1 + ways.tmod 4611686018427387904) = n := ⟨_, rfl⟩
  obtain ⟨sa, hsa⟩ : ∃ sa, IntKind.i64.wrap (a.tmod 9) = sa := ⟨_, rfl⟩
  obtain ⟨sb, hsb⟩ : ∃ sb, IntKind.i64.wrap (b.tmod 9) = sb := ⟨_, rfl⟩
  have hn2 : 1 ≤ n ∧ n ≤ 4611686018427387904 := by
    rw [← hn, Int.tmod_eq_emod_of_nonneg hw]
    simp [IntKind.wrap, IntKind.bits, IntKind.signed]
    omega
  have hsa2 : 0 ≤ sa ∧ sa ≤ 8 := by
    rw [← hsa, Int.tmod_eq_emod_of_nonneg ha.1]
    simp [IntKind.wrap, IntKind.bits, IntKind.signed]
    omega
  have hsb2 : 0 ≤ sb ∧ sb ≤ 8 := by
    rw [← hsb, Int.tmod_eq_emod_of_nonneg hb.1]
    simp [IntKind.wrap, IntKind.bits, IntKind.signed]
    omega
  have hGT := apart_goodT hn2.1 hn2.2 (sa := sa) (sb := sb) (by omega) (by omega)
  have hFA := apart_fewA hn2.1 hn2.2 (sa := sa) (sb := sb) (by omega) (by omega)
  have hRE := reach_tree (Vy hn2.1 hn2.2 (sa := sa) (sb := sb) (by omega) (by omega)) hGT
  have hall := apart_beh hn2.1 hn2.2 (sa := sa) (sb := sb) (by omega) (by omega)
  obtain ⟨T, hTe⟩ : ∃ T, T = Ye (Y2 2) (Vq (Y2 2) (Zi n [sa, sb])) := ⟨_, rfl⟩
  rw [← hTe] at hGT hFA hRE hall
  have hna := Vi (n := n) (by omega) sa.toNat
  have hnb := Vi (n := n) (by omega) sb.toNat
  refine Xr Try.func6 rfl rfl rfl (by simp) ?_
  refine Xd ?_
  refine Xb (by kernel_rfl) ?_
  refine Xa (Xo rfl) ?_
  refine Xd ?_
  refine Xb (by kernel_rfl) ?_
  refine Xa (Xc rfl) ?_
  refine Xa (av_rem rfl rfl (by omega)) ?_
  refine Xa (av_addn_is hn rfl rfl) ?_
  refine Xa (Xg rfl) ?_
  refine Xd ?_
  refine Xb (by kernel_rfl) ?_
  refine Xa (Xc rfl) ?_
  refine Xa (Xc rfl) ?_
  refine Xa (av_rem rfl rfl (by omega)) ?_
  refine Xa (av_conv_is hsa rfl (by rw [Try.underlying5]; rfl) Try.underlying3) ?_
  refine Xa (Xc rfl) ?_
  refine Xa (av_rem rfl rfl (by omega)) ?_
  refine Xa (av_conv_is hsb rfl (by rw [Try.underlying5]; rfl) Try.underlying3) ?_
  first | refine X3 (Yb (r := [.int .i64 _, .int .i64 _]) Try.underlying23 inf3.size inf3.zero rfl (by decide) (by decide) (by decide) rfl) ?_
  refine X1 (Xy (Apart_ok n [sa, sb] (.slice (some ⟨H.size, 0, none⟩) 2 2) _ (sl_two (k := Ze .i64) Yk (by simp) rfl rfl rfl) (by simp) (by intro m hm; simp at hm; omega)) rfl Try.func30 rfl rfl rfl ?_)
  rintro v1 H1 ⟨cs1, ds1, rfl, hf1, hp1, hle1⟩; have hf10 := hf1; have hp10 := hp1; obtain ⟨a0, a1, a2, a3, a4, rfl, hs0, hs1, hs2, hs3, hs4⟩ := hf1; obtain ⟨A0, c0, rfl⟩ := hs0.shape; obtain ⟨A1, c1, rfl⟩ := hs1.shape; obtain ⟨A2, c2, rfl⟩ := hs2.shape; obtain ⟨A3, c3, rfl⟩ := hs3.shape; obtain ⟨A4, c4, rfl⟩ := hs4.shape; obtain ⟨u0, u1, rfl, hn0, hn1⟩ := hp1; obtain ⟨B0, d0, rfl⟩ := hn0.shape; obtain ⟨B1, d1, rfl⟩ := hn1.shape; have hz1 := hle1.1; simp only [Hp.push_size] at hz1
  refine Xa (Zw rfl) ?_
  refine Xa (Y0 rfl rfl) ?_
  refine Xa (Y0 rfl rfl) ?_
  refine X3 (Y8 (l := [.slice none 0 0, .slice none 0 0, .slice none 0 0, .slice none 0 0, .slice none 0 0]) inf26.zero rfl (by decide)) ?_
  refine X3 (Y8 (l := [.slice none 0 0, .slice none 0 0]) inf29.zero rfl (by decide)) ?_
  refine X1 (Ys (vs := [.slice _ _ _, .slice _ _ _, .slice _ _ _, .slice _ _ _, .slice _ _ _]) rfl rfl inf26.size Yk Yr rfl rfl ?_)
  refine X1 (Ys (vs := [.slice _ _ _, .slice _ _ _]) rfl rfl inf29.size Yk Yr rfl rfl ?_)
  refine Xd ?_
  refine Xb (by kernel_rfl) ?_
  refine Xa (Yn (cs := [.slice _ _ _, .slice _ _ _, .slice _ _ _, .slice _ _ _, .slice _ _ _]) rfl Try.underlying26 rfl inf26.size Yf) ?_
  refine Xa (Yn (cs := [.slice _ _ _, .slice _ _ _]) rfl Try.underlying29 rfl inf29.size Yf) ?_
  refine X1 (Xy (New_good (Y2 2) (Zi n [sa, sb]) _ _ _ (kForest.mono Zk hf10) (kParts.mono Zk hp10) (small_apart (by omega) (by omega)) (cheap_apart hn2.1 (by omega) (by omega)) (Vy hn2.1 hn2.2 (by omega) (by omega))) rfl Try.func11 rfl rfl rfl ?_)
  rintro v2 H2 ⟨hle2, tb, rfl, htr⟩; rw [← hTe] at htr
  refine Xa (Zw rfl) ?_
  refine Xa (Y0 rfl rfl) ?_
  refine Xa (Y0 rfl rfl) ?_
  refine Xa (Zf rfl) ?_
  refine Xa (Xg rfl) ?_
  refine Xd ?_
  have leH2 : H.le H2 := Hp.le_trans t_le hle2
  clear hle2
  refine Xb (by kernel_rfl) ?_
  refine Xa (Xv rfl) ?_
  refine X1 (Xy (New_cnt hGT hFA hRE _ htr) rfl Try.func31 rfl rfl rfl ?_)
  rintro v3 H3 ⟨hle3, cb, rfl, hc3⟩
  refine Xa (Zf rfl) ?_
  refine Xd ?_
  refine Xb (by kernel_rfl) ?_
  refine Xa (Xg rfl) ?_
  refine Xa (Xg rfl) ?_
  refine Xd ?_
  refine Xd ?_
  refine Xb (by kernel_rfl) ?_
  refine Xa (Xg rfl) ?_
  refine Ya ?_
  refine Za (fun k t H' => ∃ (i : Nat), k = sa.toNat - i ∧ i ≤ sa.toNat ∧ H' = H3 ∧ t 1 = .int .u8 a ∧ t 2 = .int .u8 b ∧ t 7 = .int .u64 n ∧ t 11 = .int .i64 0 ∧ t 12 = .pointer (some ⟨cb, 0, none⟩) ∧ t 13 = .int .u64 (addN n i) ∧ t 14 = .int .u64 0 ∧ t 15 = .int .i64 i) (sa.toNat) (⟨0, rfl, Nat.zero_le _, rfl, rfl, rfl, rfl, rfl, rfl, rfl, rfl, rfl⟩) ?_
  rintro k t H3 ⟨i, rfl, hi, rfl, e1, e2, e7, e11, e12, e13, e14, e15⟩
  refine Xd ?_
  refine Xd ?_
  refine Xb (by kernel_rfl) ?_
  refine Xa (Xc Xl) ?_
  refine Xa (Xc Xl) ?_
  refine Xa (av_rem rfl rfl (by omega)) ?_
  refine Xa (av_conv_is hsa rfl (by rw [Try.underlying5]; rfl) Try.underlying3) ?_
  refine Xa (Zg rfl rfl) ?_
  refine X5 rfl rfl ?_ ?_
  intro hc1
  have hil : i < sa.toNat := by have := of_decide_eq_true hc1; omega
  refine X9 ?_
  refine Xd ?_
  refine Ya ?_
  refine Xb (by kernel_rfl) ?_
  refine Xa (Xc Xl) ?_
  refine Xa (Xc Xl) ?_
  refine X1 (Xy (addR_u64 _ _ (Vi (by omega) i).1 (by omega) _) rfl Try.func32 rfl rfl rfl ?_)
  rintro v50 H3 ⟨rfl, rfl⟩
  refine Xa (Xg rfl) ?_
  refine Xb (by kernel_rfl) ?_
  refine Xa (Xc Xl) ?_
  refine Xa (Yj rfl rfl Yx) ?_
  refine Xa (Xg rfl) ?_
  exact ⟨sa.toNat - (i + 1), by omega, i + 1, rfl, by omega, rfl, e1, e2, e7, e11, e12, rfl, e14, rfl⟩
  intro hc1
  have hil : i = sa.toNat := by have := of_decide_eq_false hc1; omega
  refine Y5 ?_
  refine Xd ?_
  refine Xd ?_
  refine Xb (by kernel_rfl) ?_
  refine Xa (Xg rfl) ?_
  refine Ya ?_
  refine Za (fun k t H' => ∃ (i : Nat), k = sb.toNat - i ∧ i ≤ sb.toNat ∧ H' = H3 ∧ t 2 = .int .u8 b ∧ t 7 = .int .u64 n ∧ t 11 = .int .i64 0 ∧ t 12 = .pointer (some ⟨cb, 0, none⟩) ∧ t 13 = .int .u64 (addN n sa.toNat) ∧ t 14 = .int .u64 (addN n i) ∧ t 16 = .int .i64 i) (sb.toNat) (⟨0, rfl, Nat.zero_le _, rfl, e2, e7, e11, e12, by rw [← hil]; exact e13, e14, rfl⟩) ?_
  rintro k t H3 ⟨j, rfl, hj, rfl, e2, e7, e11, e12, e13, e14, e16⟩
  refine Xd ?_
  refine Xd ?_
  refine Xb (by kernel_rfl) ?_
  refine Xa (Xc Xl) ?_
  refine Xa (Xc Xl) ?_
  refine Xa (av_rem rfl rfl (by omega)) ?_
  refine Xa (av_conv_is hsb rfl (by rw [Try.underlying5]; rfl) Try.underlying3) ?_
  refine Xa (Zg rfl rfl) ?_
  refine X5 rfl rfl ?_ ?_
  intro hc2
  have hjl : j < sb.toNat := by have := of_decide_eq_true hc2; omega
  refine X9 ?_
  refine Xd ?_
  refine Ya ?_
  refine Xb (by kernel_rfl) ?_
  refine Xa (Xc Xl) ?_
  refine Xa (Xc Xl) ?_
  refine X1 (Xy (addR_u64 _ _ (Vi (by omega) j).1 (by omega) _) rfl Try.func32 rfl rfl rfl ?_)
  rintro v60 H3 ⟨rfl, rfl⟩
  refine Xa (Xg rfl) ?_
  refine Xb (by kernel_rfl) ?_
  refine Xa (Xc Xl) ?_
  refine Xa (Yj rfl rfl Yx) ?_
  refine Xa (Xg rfl) ?_
  exact ⟨sb.toNat - (j + 1), by omega, j + 1, rfl, by omega, rfl, e2, e7, e11, e12, e13, rfl, rfl⟩
  intro hc2
  have hjl : j = sb.toNat := by have := of_decide_eq_false hc2; omega
  rw [hjl] at e14
  refine Y5 ?_
  refine Xd ?_
  refine Xb (by kernel_rfl) ?_
  refine Xa (Xc Xl) ?_
  refine Xa (Xc Xl) ?_
  refine X1 (Xy (timesR_u64 _ _ hna.1 hnb.1 _) rfl Try.func33 rfl rfl rfl ?_)
  rintro v63 H3 ⟨rfl, rfl⟩; rw [← hall]
  refine Xa (Xg rfl) ?_
  refine Xd ?_
  refine Xb (by kernel_rfl) ?_
  refine Xa (Xc Xl) ?_
  refine Xa (Vt rfl rfl) ?_
  refine Xa (Xu rfl) ?_
  refine Yc rfl rfl rfl ?_ ?_
  intro hg3
  have hp3 := hg3; try simp only [decide_eq_true_eq, decide_eq_false_iff_not, Bool.not_eq_true', Bool.not_eq_false'] at hp3
  refine Xn (Xj rfl rfl rfl hg3) (Xv Xl) ?_
  refine Zr (Xj rfl rfl rfl hg3) (Xy (All_cnt hGT hc3) rfl Try.func34 rfl rfl rfl ?_)
  rintro v68 H4 ⟨rfl, hle4⟩
  refine Xn (Xj rfl rfl rfl hg3) (Xc rfl) ?_
  refine Xn (Xj rfl rfl rfl hg3) (Vt rfl rfl) ?_
  refine Xa (Xm (congrArg Value.bool hg3) rfl) ?_
  refine Xa (Xu rfl) ?_
  refine Yc rfl rfl rfl ?_ ?_
  intro hg4
  have hp4 := hg4; try simp only [decide_eq_true_eq, decide_eq_false_iff_not, Bool.not_eq_true', Bool.not_eq_false'] at hp4
  refine Xn (Xj rfl rfl rfl hg4) (Xv Xl) ?_
  refine Zr (Xj rfl rfl rfl hg4) (Xy (Exact_cnt hGT (hc3.mono hle4)) rfl Try.func35 rfl rfl rfl ?_)
  rintro v74 H5 ⟨rfl, hle5⟩
  refine Xn (Xj rfl rfl rfl hg4) (Xc rfl) ?_
  refine Xn (Xj rfl rfl rfl hg4) (Zg rfl rfl) ?_
  refine Xn (Xj rfl rfl rfl hg4) (av_beq rfl rfl Try.underlying4) ?_
  refine Xa (Xm (congrArg Value.bool hg4) rfl) ?_
  refine Xa (Xu rfl) ?_
  refine Yc rfl rfl rfl ?_ ?_
  intro hg5
  have hp5 := hg5; try simp only [decide_eq_true_eq, decide_eq_false_iff_not, Bool.not_eq_true', Bool.not_eq_false'] at hp5
  refine Zr (Xj rfl rfl rfl hg5) (Xy (lives30_ok _) rfl Try.func36 rfl rfl rfl ?_)
  rintro v H' ⟨rfl, hlv⟩
  refine Xa (Xm (congrArg Value.bool hg5) rfl) ?_
  refine Xa (Xo rfl) ?_
  refine X6 ?_
  exact ⟨.bool true, X0 (Xw rfl), rfl, Hp.le_trans (Hp.le_trans leH2 (Hp.le_trans hle3 (Hp.le_trans hle4 hle5))) hlv⟩
  intro hg5
  (have h := hg5; simp at h)
  intro hg4
  exact absurd rfl (of_decide_eq_false hg4)
  intro hg3
  exact absurd hg3 (by decide)
end Go.Proofs.Ytcaeoebphfjfiaa.Am


/- Links among the arguments of a statement. -/
namespace Go.Proofs.Ytcaeoebphfjfiaa.Am
open Go Go.RowKit
set_option maxRecDepth 100000
end Go.Proofs.Ytcaeoebphfjfiaa.Am


/- Forests and parts among the arguments of a statement. -/
namespace Go.Proofs.Ytcaeoebphfjfiaa.Am
open Go Go.RowKit
set_option maxRecDepth 100000
end Go.Proofs.Ytcaeoebphfjfiaa.Am
