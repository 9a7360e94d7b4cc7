/- Texts that the proof rests on, part 4: lemmas for every heap that is related to a world, no condition beyond each lemma's own. -/
import Derived.Test.YtmakkmcjocjgmaaAo3
import Derived.Test.YtmakkmcjocjgmaaAoOwnL
import Derived.Test.YtmakkmcjocjgmaaAo2
import Derived.Test.YtmakkmcjocjgmaaAoGrow
import Derived.Test.YtmakkmcjocjgmaaAoSlice3

/- Variables that hang from nobody. -/
namespace Go.Proofs.Ytmakkmcjocjgmaa.Am
open Go Go.RowKit
set_option maxRecDepth 100000
set_option linter.unusedVariables false
set_option linter.unusedSimpArgs false

def Z5 (ways : Int) (m : Nat) : List Link := (List.range m).map fun (k : Nat) => ⟨k, k, k, ways⟩
def Zm (k : Nat) : Forest := ⟨List.replicate k ⟨#[120]⟩, (List.range k).map fun (i : Nat) => (i : Int), List.replicate k (-1), List.replicate k [], List.replicate k []⟩
def Zr (ways : Int) (sizes : List Int) : Parts := ⟨sizes.map fun m => Z5 ways m.toNat, sizes.map fun _ => []⟩
theorem apartL_next (ways : Int) (m : Nat) : Z5 ways (m + 1) = Z5 ways m ++ [⟨m, m, m, ways⟩] := by
  unfold Z5
  rw [List.range_succ, List.map_append]; rfl
theorem Z6 (ways : Int) (m : Nat) : (Z5 ways m).length = m := by unfold Z5; simp
structure ApartR (G : Hp) (ways : Int) (sizes : List Int) (i : Nat) (nds : List (List Value)) : Prop where
  len : nds.length = i
  at_ : ∀ (j : Nat) (h : j < nds.length) (h' : j < sizes.length), ∃ w, nds[j] = [w] ∧ Sl kLink G w (Z5 ways sizes[j].toNat)
theorem ApartR.mono {G G' : Hp} (h : G.sees G') {ways : Int} {sizes : List Int} {i : Nat} {nds : List (List Value)} (hr : ApartR G ways sizes i nds) : ApartR G' ways sizes i nds :=
  ⟨hr.len, fun j a b => let ⟨w, h1, h2⟩ := hr.at_ j a b; ⟨w, h1, h2.mono h⟩⟩
theorem ApartR.snoc {G : Hp} {ways : Int} {sizes : List Int} {i : Nat} {nds : List (List Value)} (hr : ApartR G ways sizes i nds) (hi : i < sizes.length) {w : Value} (hs : Sl kLink G w (Z5 ways sizes[i].toNat)) : ApartR G ways sizes (i + 1) (nds ++ [[w]]) := by
  have hl := hr.len
  refine ⟨by simp [hl], fun j a b => ?_⟩
  rw [List.length_append, List.length_singleton] at a
  by_cases h : j < nds.length
  · rw [List.getElem_append_left h]; exact hr.at_ j h b
  · obtain rfl : j = nds.length := by omega
    rw [List.getElem_append_right (Nat.le_refl _)]
    simp only [Nat.sub_self, List.getElem_cons_zero]
    subst hl
    exact ⟨w, rfl, hs⟩
theorem rep_next {α : Type} (n : Nat) (x : α) : List.replicate n x ++ [x] = List.replicate (n + 1) x := by rw [List.replicate_succ']
def eStr (v : Value) (i : Nat) : Ent := ⟨1, by decide, v, List.replicate i [.string ⟨#[120]⟩]⟩
def eInt (v : Value) (i : Nat) : Ent := ⟨1, by decide, v, (List.range i).map fun (k : Nat) => [.int .i64 k]⟩
def eNeg (v : Value) (i : Nat) : Ent := ⟨1, by decide, v, List.replicate i [.int .i64 (-1)]⟩
def Uh (v : Value) (i : Nat) : Ent := ⟨1, by decide, v, List.replicate i [.slice none 0 0]⟩
def eNds (v : Value) (nds : List (List Value)) : Ent := ⟨1, by decide, v, nds⟩
theorem range_cells (i : Nat) : ((List.range i).map fun (k : Nat) => [Value.int .i64 k]) ++ [[.int .i64 i]] = (List.range (i + 1)).map fun (k : Nat) => [Value.int .i64 k] := by rw [List.range_succ, List.map_append]; rfl
theorem eStr_next (v w : Value) (i : Nat) : (⟨(eStr v i).sz, (eStr v i).pos, w, (eStr v i).raws ++ [[.string ⟨#[120]⟩]]⟩ : Ent) = eStr w (i + 1) := by unfold eStr; simp only [rep_next]
theorem eInt_next (v w : Value) (i : Nat) : (⟨(eInt v i).sz, (eInt v i).pos, w, (eInt v i).raws ++ [[.int .i64 i]]⟩ : Ent) = eInt w (i + 1) := by unfold eInt; simp only [range_cells]
theorem eNeg_next (v w : Value) (i : Nat) : (⟨(eNeg v i).sz, (eNeg v i).pos, w, (eNeg v i).raws ++ [[.int .i64 (-1)]]⟩ : Ent) = eNeg w (i + 1) := by unfold eNeg; simp only [rep_next]
theorem eNil_next (v w : Value) (i : Nat) : (⟨(Uh v i).sz, (Uh v i).pos, w, (Uh v i).raws ++ [[.slice none 0 0]]⟩ : Ent) = Uh w (i + 1) := by unfold Uh; simp only [rep_next]
theorem eNds_next (v w : Value) (nds : List (List Value)) (x : List Value) : (⟨(eNds v nds).sz, (eNds v nds).pos, w, (eNds v nds).raws ++ [x]⟩ : Ent) = eNds w (nds ++ [x]) := rfl
def BxP (H G : Hp) (b2 b3 : List Value) : Prop := H.le G ∧ H.size + 4 ≤ G.size ∧ G.get H.size = .own 0 [.slice none 0 0, .slice none 0 0, .slice none 0 0, .slice none 0 0, .slice none 0 0] ∧ G.get (H.size + 1) = .own 0 [.slice none 0 0, .slice none 0 0] ∧ G.get (H.size + 2) = .own 0 b2 ∧ G.get (H.size + 3) = .own 0 b3
theorem BxP.le {H G G' : Hp} {b2 b3 : List Value} (h : BxP H G b2 b3) (hle : G.le G') : BxP H G' b2 b3 :=
  ⟨Hp.le_trans h.1 hle, Nat.le_trans h.2.1 hle.1, Xz hle (by have := h.2.1; omega) (by intro e; cases e) h.2.2.1, Xz hle (by have := h.2.1; omega) (by intro e; cases e) h.2.2.2.1, Xz hle (by have := h.2.1; omega) (by intro e; cases e) h.2.2.2.2.1, Xz hle (by have := h.2.1; omega) (by intro e; cases e) h.2.2.2.2.2⟩
theorem BxP.put2 {H G : Hp} {b2 b3 : List Value} (h : BxP H G b2 b3) (b2' : List Value) : BxP H (G.put (H.size + 2) (.own 0 b2')) b2' b3 :=
  ⟨Hp.le_put_new h.1 (by omega) _, h.2.1, by rw [Hp.put_other _ _ (by omega)]; exact h.2.2.1, by rw [Hp.put_other _ _ (by omega)]; exact h.2.2.2.1, Hp.put_same _ _ _, by rw [Hp.put_other _ _ (by omega)]; exact h.2.2.2.2.2⟩
theorem BxP.put3 {H G : Hp} {b2 b3 : List Value} (h : BxP H G b2 b3) (b3' : List Value) : BxP H (G.put (H.size + 3) (.own 0 b3')) b2 b3' :=
  ⟨Hp.le_put_new h.1 (by omega) _, h.2.1, by rw [Hp.put_other _ _ (by omega)]; exact h.2.2.1, by rw [Hp.put_other _ _ (by omega)]; exact h.2.2.2.1, by rw [Hp.put_other _ _ (by omega)]; exact h.2.2.2.2.1, Hp.put_same _ _ _⟩
theorem Zu {H : Hp} {h : 1 ≠ 0} {v : Value} {raws : List (List Value)} {i : Nat} (hs : Sl (kCel 1 h) H v raws) (hl : raws.length = i) : ∃ A c, v = .slice A i c := by
  obtain ⟨A, c, e⟩ := hs.shape
  exact ⟨A, c, by rw [e, hl]⟩
set_option maxHeartbeats 4000000 in
theorem Apart_ok (ways : Int) (sizes : List Int) (u : Value) (H : Hp) (hs : Sl (Yy .i64) H u sizes) (hl : sizes.length ≤ 1000) (hm : ∀ m ∈ sizes, m ≤ 100000) :
    ACalls Try.prog 19 #[.int .u64 ways, u] H (fun r H' => ∃ cs ds, r = .tuple #[.agg cs.toArray, .agg ds.toArray] ∧ kForest.rep H' (Zm sizes.length) cs ∧ kParts.rep H' (Zr ways sizes) ds ∧ H.le H') := by
  obtain ⟨Au, cu, rfl⟩ := hs.shape
  refine Xr Try.func19 rfl rfl rfl (by simp) ?_
  refine Xd ?_
  refine Xb (by kernel_rfl) ?_
  refine X5 (Y3 (l := [.slice none 0 0, .slice none 0 0, .slice none 0 0, .slice none 0 0, .slice none 0 0]) inf47.zero rfl (by decide)) ?_
  refine X5 (Y3 (l := [.slice none 0 0, .slice none 0 0]) inf50.zero rfl (by decide)) ?_
  refine Xd ?_
  refine Xb (by kernel_rfl) ?_
  refine Xa (Y0 (pl := [(0, 1), (1, 1), (2, 1), (3, 1), (4, 1)]) (r := [.slice _ _ _, .slice _ _ _, .slice _ _ _, .slice _ _ _, .slice _ _ _]) Try.underlying47 inf47.zero (by decide) rfl rfl) ?_
  refine Xa (Y0 (pl := [(0, 1), (1, 1)]) (r := [.slice _ _ _, .slice _ _ _]) Try.underlying50 inf50.zero (by decide) rfl rfl) ?_
  refine X5 (Y3 (l := [.slice none 0 0, .slice none 0 0, .slice none 0 0, .slice none 0 0, .slice none 0 0]) inf47.zero rfl (by decide)) ?_
  refine X5 (Y3 (l := [.slice none 0 0, .slice none 0 0]) inf50.zero rfl (by decide)) ?_
  refine X0 (Ym (vs := [.slice _ _ _, .slice _ _ _, .slice _ _ _, .slice _ _ _, .slice _ _ _]) rfl rfl inf47.size Ye Yk rfl rfl ?_)
  refine X0 (Ym (vs := [.slice _ _ _, .slice _ _ _]) rfl rfl inf50.size Ye Yk rfl rfl ?_)
  refine Xd ?_
  refine Xd ?_
  refine Xb (by kernel_rfl) ?_
  refine Xa (Xf rfl) ?_
  refine Ya ?_
  refine Y9 (fun n t H' => ∃ (i : Nat) (G : Hp) (v0 v1 v2 v3 v4 v5 v6 : Value) (nds : List (List Value)), i ≤ sizes.length ∧ n = sizes.length - i ∧ BxP H G [v0, v1, v2, v3, v4] [v5, v6] ∧ OwnL G [eStr v0 i, eInt v1 i, eNeg v2 i, Uh v3 i, Uh v4 i, eNds v5 nds, Uh v6 i] H' ∧ ApartR G ways sizes i nds ∧ t 0 = .int .u64 ways ∧ t 1 = .slice Au sizes.length cu ∧ t 4 = .pointer (some ⟨H.size, 0, none⟩) ∧ t 5 = .pointer (some ⟨H.size + 1, 0, none⟩) ∧ t 6 = .pointer (some ⟨H.size + 2, 0, none⟩) ∧ t 7 = .pointer (some ⟨H.size + 3, 0, none⟩) ∧ t 8 = .int .i64 i) (sizes.length) (⟨0, _, .slice none 0 0, .slice none 0 0, .slice none 0 0, .slice none 0 0, .slice none 0 0, .slice none 0 0, .slice none 0 0, [], by omega, rfl, ⟨t_le, by simp, Ye, Ye, Ye, Ye⟩, ⟨_, OwnP.nil _ _, _, OwnP.nil _ _, _, OwnP.nil _ _, _, OwnP.nil _ _, _, OwnP.nil _ _, _, OwnP.nil _ _, _, OwnP.nil _ _, rfl⟩, ⟨rfl, fun j h _ => absurd h (Nat.not_lt_zero _)⟩, rfl, rfl, rfl, rfl, rfl, rfl, rfl⟩) ?_
  rintro n t H1 ⟨i, G, v0, v1, v2, v3, v4, v5, v6, nds, hi, rfl, hb, hown, hr, e0, e1, e4, e5, e6, e7, e8⟩
  obtain ⟨A0, k0, rfl⟩ := Zu (hown.sl (eStr v0 i) (by simp)) (List.length_replicate)
  obtain ⟨A1, k1, rfl⟩ := Zu (hown.sl (eInt v1 i) (by simp)) (show ((List.range i).map fun (k : Nat) => [Value.int .i64 k]).length = i by simp)
  obtain ⟨A2, k2, rfl⟩ := Zu (hown.sl (eNeg v2 i) (by simp)) (List.length_replicate)
  obtain ⟨A3, k3, rfl⟩ := Zu (hown.sl (Uh v3 i) (by simp)) (List.length_replicate)
  obtain ⟨A4, k4, rfl⟩ := Zu (hown.sl (Uh v4 i) (by simp)) (List.length_replicate)
  obtain ⟨A5, k5, rfl⟩ := Zu (hown.sl (eNds v5 nds) (by simp)) hr.len
  obtain ⟨A6, k6, rfl⟩ := Zu (hown.sl (Uh v6 i) (by simp)) (List.length_replicate)
  have bH := hb.le hown.le
  obtain ⟨leH1, zH1, q0, q1, q2, q3⟩ := id bH
  have zz := hown.size
  refine Xd ?_
  refine Xd ?_
  refine Xb (by kernel_rfl) ?_
  refine Xa (Xc Xl) ?_
  refine Xa (Xx Xl) ?_
  refine Xa (Ys rfl Try.underlying33) ?_
  refine Xa (Zj rfl rfl) ?_
  refine X6 rfl rfl ?_ ?_
  intro hc1
  (try simp only [decide_eq_true_eq, decide_eq_false_iff_not, Bool.not_eq_true', Bool.not_eq_false'] at hc1)
  refine X9 ?_
  refine Xd ?_
  refine Ya ?_
  refine Xd ?_
  have hix : i < sizes.length := by omega
  have zz5 := hown.size
  have hL := (((hown.push (.own 1 [.string ⟨#[120]⟩])).push (.own 1 [.int .i64 i])).push (.own 1 [.int .i64 (-1)]))
  have leP : G.le (((G.push (.own 1 [.string ⟨#[120]⟩])).push (.own 1 [.int .i64 i])).push (.own 1 [.int .i64 (-1)])) := Hp.le_trans (Hp.le_trans (Hp.le_push (G) (.own 1 [.string ⟨#[120]⟩])) (Hp.le_push ((G.push (.own 1 [.string ⟨#[120]⟩]))) (.own 1 [.int .i64 i]))) (Hp.le_push (((G.push (.own 1 [.string ⟨#[120]⟩])).push (.own 1 [.int .i64 i]))) (.own 1 [.int .i64 (-1)]))
  have bL := hb.le leP
  have rL := hr.mono leP.sees
  have l0 : (((G.push (.own 1 [.string ⟨#[120]⟩])).push (.own 1 [.int .i64 i])).push (.own 1 [.int .i64 (-1)])).get (H1.size) = .own 1 [.string ⟨#[120]⟩] := by rw [zz5]; exact Ye
  have l1 : (((G.push (.own 1 [.string ⟨#[120]⟩])).push (.own 1 [.int .i64 i])).push (.own 1 [.int .i64 (-1)])).get (H1.size + 1) = .own 1 [.int .i64 i] := by rw [zz5]; exact Ye
  have l2 : (((G.push (.own 1 [.string ⟨#[120]⟩])).push (.own 1 [.int .i64 i])).push (.own 1 [.int .i64 (-1)])).get (H1.size + 2) = .own 1 [.int .i64 (-1)] := by rw [zz5]; exact Ye
  have zL : H1.size + 3 ≤ (((G.push (.own 1 [.string ⟨#[120]⟩])).push (.own 1 [.int .i64 i])).push (.own 1 [.int .i64 (-1)])).size := by simp; omega
  obtain ⟨GP, hGP⟩ : ∃ GP, GP = (((G.push (.own 1 [.string ⟨#[120]⟩])).push (.own 1 [.int .i64 i])).push (.own 1 [.int .i64 (-1)])) := ⟨_, rfl⟩
  rw [← hGP] at hL bL rL zL l0 l1 l2
  clear hGP leP
  refine Yw (by kernel_rfl) (Zb (B := [0, 1, 0, 7, 0, 16, 0, 64, 255, 0, 512, 0, 4095, 1599, 16383, 32767, 65535, 131071, 262143]) (π := [0, 1, 2, 4, 5, 6, 7, 9, 10, 11, 3, 13, 8, 12, 14, 15, 16, 17, 18]) (by kernel_rfl)) ?_
  refine Xe rfl rfl (Xg (off := 0) Xl Try.underlying47 Xl inf44.size (by decide) Xl) Xp ?_
  refine Xe rfl rfl (Xi rfl Try.underlying44 rfl Xs) Xp ?_
  first | refine Zk rfl rfl (Yb (r := [.string _]) Try.underlying44 inf9.size inf9.zero rfl (by decide) (by decide) (by decide) rfl) ?_
  refine Xe rfl rfl (Xg (off := 1) Xl Try.underlying47 Xl inf33.size (by decide) Xl) Xp ?_
  refine Xe rfl rfl (Xi rfl Try.underlying33 rfl Xs) Xp ?_
  refine Xe rfl rfl (Xc Xl) Xp ?_
  first | refine Zk rfl rfl (Yb (r := [.int .i64 _]) Try.underlying33 inf3.size inf3.zero rfl (by decide) (by decide) (by decide) rfl) ?_
  refine Xe rfl rfl (Xg (off := 2) Xl Try.underlying47 Xl inf33.size (by decide) Xl) Xp ?_
  refine Xe rfl rfl (Xi rfl Try.underlying33 rfl Xs) Xp ?_
  first | refine Zk rfl rfl (Yb (r := [.int .i64 _]) Try.underlying33 inf3.size inf3.zero rfl (by decide) (by decide) (by decide) rfl) ?_
  obtain ⟨Ga0, leGa0, ha0, back0⟩ := hL.rot.last
  have zGa := leGa0.1
  obtain ⟨_, zA, qa, qb, qc, qd⟩ := bL.le leGa0
  have m0 := Xz leGa0 (by omega) (by intro e; cases e) l0
  have m1 := Xz leGa0 (by omega) (by intro e; cases e) l1
  have m2 := Xz leGa0 (by omega) (by intro e; cases e) l2
  refine Yi rfl rfl (Ent.append ha0 Try.underlying44 inf9 Xl Xl rfl (lb := H1.size) (by omega) m0 rfl (by intro v hv; simp at hv; subst hv; rfl) (by simp only [eStr, List.length_replicate]; omega) (by decide) ?_)
  rintro w0 Gb0 Hb0 leb0 hb0
  have hsameO := Ent.sameO ha0 leb0 hb0
  obtain ⟨Gc0, lec0, hc0⟩ := back0 Gb0 Hb0 _ leb0 hb0
  rw [eStr_next] at hc0 hb0
  obtain ⟨W0, cw0, rfl⟩ : ∃ A c, w0 = Value.slice A (i + 1) c := Zu (i := i + 1) (OwnP.sl hb0) (by simp [eStr])
  have bb0 := (bL.le lec0).le hc0.le
  obtain ⟨_, zb, qa0, qb0, qc0, qd0⟩ := id bb0
  have l1b := Xz hc0.le (by have := lec0.1; omega) (by intro e; cases e) (Xz lec0 (by omega) (by intro e; cases e) l1)
  have l2b := Xz hc0.le (by have := lec0.1; omega) (by intro e; cases e) (Xz lec0 (by omega) (by intro e; cases e) l2)
  refine ⟨Yg, ?_⟩
  clear hsameO qa qb qc qd m0 m1 m2
  clear l1b
  have l1 := Xz lec0 (by omega) (by intro e; cases e) l1
  clear l2b
  have l2 := Xz lec0 (by omega) (by intro e; cases e) l2
  replace bL := bL.le lec0
  replace rL := rL.mono lec0.sees
  replace zL := Nat.le_trans zL lec0.1
  clear hL
  have hL := hc0
  have zH0 := hL.size
  refine Xe rfl rfl (Xg (off := 0) Xl Try.underlying47 Xl inf44.size (by decide) Xl) Xp ?_
  obtain ⟨Ga1, leGa1, ha1, back1⟩ := hL.rot.last
  have zGa := leGa1.1
  obtain ⟨_, zA, qa, qb, qc, qd⟩ := bL.le leGa1
  have m0 := Xz leGa1 (by omega) (by intro e; cases e) l1
  have m1 := Xz leGa1 (by omega) (by intro e; cases e) l2
  refine Yi rfl rfl (Ent.append ha1 Try.underlying33 inf3 Xl Xl rfl (lb := H1.size + 1) (by omega) m0 rfl (by intro v hv; simp at hv; subst hv; rfl) (by simp only [eInt, List.length_map, List.length_range]; omega) (by decide) ?_)
  rintro w1 Gb1 Hb1 leb1 hb1
  have hsameO := Ent.sameO ha1 leb1 hb1
  obtain ⟨Gc1, lec1, hc1⟩ := back1 Gb1 Hb1 _ leb1 hb1
  rw [eInt_next] at hc1 hb1
  obtain ⟨W1, cw1, rfl⟩ : ∃ A c, w1 = Value.slice A (i + 1) c := Zu (i := i + 1) (OwnP.sl hb1) (by simp [eInt])
  have bb1 := (bL.le lec1).le hc1.le
  obtain ⟨_, zb, qa1, qb1, qc1, qd1⟩ := id bb1
  have l2b := Xz hc1.le (by have := lec1.1; omega) (by intro e; cases e) (Xz lec1 (by omega) (by intro e; cases e) l2)
  refine ⟨Yg, ?_⟩
  clear hsameO qa qb qc qd m0 m1
  clear l2b
  have l2 := Xz lec1 (by omega) (by intro e; cases e) l2
  replace bL := bL.le lec1
  replace rL := rL.mono lec1.sees
  replace zL := Nat.le_trans zL lec1.1
  clear hL
  have hL := hc1
  have zH1 := hL.size
  obtain ⟨Ga2, leGa2, ha2, back2⟩ := hL.rot.last
  have zGa := leGa2.1
  obtain ⟨_, zA, qa, qb, qc, qd⟩ := bL.le leGa2
  have m0 := Xz leGa2 (by omega) (by intro e; cases e) l2
  refine Yi rfl rfl (Ent.append ha2 Try.underlying33 inf3 Xl Xl rfl (lb := H1.size + 2) (by omega) m0 rfl (by intro v hv; simp at hv; subst hv; rfl) (by simp only [eNeg, List.length_replicate]; omega) (by decide) ?_)
  rintro w2 Gb2 Hb2 leb2 hb2
  have hsameO := Ent.sameO ha2 leb2 hb2
  obtain ⟨Gc2, lec2, hc2⟩ := back2 Gb2 Hb2 _ leb2 hb2
  rw [eNeg_next] at hc2 hb2
  obtain ⟨W2, cw2, rfl⟩ : ∃ A c, w2 = Value.slice A (i + 1) c := Zu (i := i + 1) (OwnP.sl hb2) (by simp [eNeg])
  have bb2 := (bL.le lec2).le hc2.le
  obtain ⟨_, zb, qa2, qb2, qc2, qd2⟩ := id bb2
  refine ⟨Yg, ?_⟩
  clear hsameO qa qb qc qd m0
  replace bL := bL.le lec2
  replace rL := rL.mono lec2.sees
  replace zL := Nat.le_trans zL lec2.1
  clear hL
  have hL := hc2
  have zH2 := hL.size
  first | refine Yi rfl rfl (Y8 rfl rfl rfl inf44.size Ye Yk rfl ?_)
  refine ⟨Yg, ?_⟩
  refine Xe rfl rfl (Xg (off := 1) Xl Try.underlying47 Xl inf33.size (by decide) Xl) Xp ?_
  first | refine Yi rfl rfl (Y8 rfl rfl rfl inf33.size Ye Yk rfl ?_)
  refine ⟨Yg, ?_⟩
  refine Xe rfl rfl (Xg (off := 2) Xl Try.underlying47 Xl inf33.size (by decide) Xl) Xp ?_
  first | refine Yi rfl rfl (Y8 rfl rfl rfl inf33.size Ye Yk rfl ?_)
  refine ⟨Yg, ?_⟩
  refine Xd ?_
  obtain ⟨H6, hH6⟩ : ∃ H6, H6 = Hb2.put (H.size + 2) (.own 0 [.slice W0 (i + 1) cw0, .slice W1 (i + 1) cw1, .slice W2 (i + 1) cw2, .slice A3 i k3, .slice A4 i k4]) := ⟨_, rfl⟩
  obtain ⟨G6, hG6⟩ : ∃ G6, G6 = Gc2.put (H.size + 2) (.own 0 [.slice W0 (i + 1) cw0, .slice W1 (i + 1) cw1, .slice W2 (i + 1) cw2, .slice A3 i k3, .slice A4 i k4]) := ⟨_, rfl⟩
  have ownG6 := hL.put_box (by have := bL.2.1; omega) bL.2.2.2.2.1 [.slice W0 (i + 1) cw0, .slice W1 (i + 1) cw1, .slice W2 (i + 1) cw2, .slice A3 i k3, .slice A4 i k4]
  have bG6 := bL.put2 [.slice W0 (i + 1) cw0, .slice W1 (i + 1) cw1, .slice W2 (i + 1) cw2, .slice A3 i k3, .slice A4 i k4]
  have rG6 := rL.mono (Hp.sees_box (cs' := [.slice W0 (i + 1) cw0, .slice W1 (i + 1) cw1, .slice W2 (i + 1) cw2, .slice A3 i k3, .slice A4 i k4]) _ bL.2.2.2.2.1)
  rw [← hG6] at ownG6 bG6 rG6
  rw [← hH6] at ownG6
  change ACode true _ _ _ _ _ (((Hb2.put (H.size + 2) (.own 0 [.slice W0 (i + 1) cw0, .slice A1 i k1, .slice A2 i k2, .slice A3 i k3, .slice A4 i k4])).put (H.size + 2) (.own 0 [.slice W0 (i + 1) cw0, .slice W1 (i + 1) cw1, .slice A2 i k2, .slice A3 i k3, .slice A4 i k4])).put (H.size + 2) (.own 0 [.slice W0 (i + 1) cw0, .slice W1 (i + 1) cw1, .slice W2 (i + 1) cw2, .slice A3 i k3, .slice A4 i k4]))
  rw [Hp.put_put]
  rw [Hp.put_put]
  rw [← hH6]
  clear hH6 hG6 hL bL rL zL
  have bbH6 := bG6.le ownG6.le
  obtain ⟨_, zzH6, s0H6, s1H6, s2H6, s3H6⟩ := id bbH6
  have zz6 := ownG6.size
  have hL := ((ownG6.push (.own 1 [.slice none 0 0])).push (.own 1 [.slice none 0 0]))
  have leP : G6.le ((G6.push (.own 1 [.slice none 0 0])).push (.own 1 [.slice none 0 0])) := Hp.le_trans (Hp.le_push (G6) (.own 1 [.slice none 0 0])) (Hp.le_push ((G6.push (.own 1 [.slice none 0 0]))) (.own 1 [.slice none 0 0]))
  have bL := bG6.le leP
  have rL := rG6.mono leP.sees
  have l0 : ((G6.push (.own 1 [.slice none 0 0])).push (.own 1 [.slice none 0 0])).get (H6.size) = .own 1 [.slice none 0 0] := by rw [zz6]; exact Ye
  have l1 : ((G6.push (.own 1 [.slice none 0 0])).push (.own 1 [.slice none 0 0])).get (H6.size + 1) = .own 1 [.slice none 0 0] := by rw [zz6]; exact Ye
  have zL : H6.size + 2 ≤ ((G6.push (.own 1 [.slice none 0 0])).push (.own 1 [.slice none 0 0])).size := by simp; omega
  obtain ⟨GP, hGP⟩ : ∃ GP, GP = ((G6.push (.own 1 [.slice none 0 0])).push (.own 1 [.slice none 0 0])) := ⟨_, rfl⟩
  rw [← hGP] at hL bL rL zL l0 l1
  clear hGP leP
  refine Yw (by kernel_rfl) (Zb (B := [0, 1, 0, 7, 0, 16, 0, 127, 63, 511, 1023, 2047]) (π := [0, 1, 2, 4, 5, 6, 3, 8, 7, 9, 10, 11]) (by kernel_rfl)) ?_
  refine Xe rfl rfl (Xg (off := 3) Xl Try.underlying47 Xl inf45.size (by decide) Xl) Xp ?_
  refine Xe rfl rfl (Xi rfl Try.underlying45 rfl Xs) Xp ?_
  refine Zk rfl rfl (Yb (r := [.slice _ _ _]) Try.underlying45 inf33.size inf33.zero rfl (by decide) (by decide) (by decide) rfl) ?_
  refine Xe rfl rfl (Xg (off := 4) Xl Try.underlying47 Xl inf45.size (by decide) Xl) Xp ?_
  refine Xe rfl rfl (Xi rfl Try.underlying45 rfl Xs) Xp ?_
  refine Zk rfl rfl (Yb (r := [.slice _ _ _]) Try.underlying45 inf33.size inf33.zero rfl (by decide) (by decide) (by decide) rfl) ?_
  obtain ⟨Ga3, leGa3, ha3, back3⟩ := hL.rot.last
  have zGa := leGa3.1
  obtain ⟨_, zA, qa, qb, qc, qd⟩ := bL.le leGa3
  have m0 := Xz leGa3 (by omega) (by intro e; cases e) l0
  have m1 := Xz leGa3 (by omega) (by intro e; cases e) l1
  refine Yi rfl rfl (Ent.append ha3 Try.underlying45 inf33 Xl Xl rfl (lb := H6.size) (by omega) m0 rfl (by intro v hv; simp at hv; subst hv; rfl) (by simp only [Uh, List.length_replicate]; omega) (by decide) ?_)
  rintro w3 Gb3 Hb3 leb3 hb3
  have hsameO := Ent.sameO ha3 leb3 hb3
  obtain ⟨Gc3, lec3, hc3⟩ := back3 Gb3 Hb3 _ leb3 hb3
  rw [eNil_next] at hc3 hb3
  obtain ⟨W3, cw3, rfl⟩ : ∃ A c, w3 = Value.slice A (i + 1) c := Zu (i := i + 1) (OwnP.sl hb3) (by simp [Uh])
  have bb3 := (bL.le lec3).le hc3.le
  obtain ⟨_, zb, qa3, qb3, qc3, qd3⟩ := id bb3
  have l1b := Xz hc3.le (by have := lec3.1; omega) (by intro e; cases e) (Xz lec3 (by omega) (by intro e; cases e) l1)
  refine ⟨Yg, ?_⟩
  clear hsameO qa qb qc qd m0 m1
  clear l1b
  have l1 := Xz lec3 (by omega) (by intro e; cases e) l1
  replace bL := bL.le lec3
  replace rL := rL.mono lec3.sees
  replace zL := Nat.le_trans zL lec3.1
  clear hL
  have hL := hc3
  have zH3 := hL.size
  refine Xe rfl rfl (Xg (off := 3) Xl Try.underlying47 Xl inf45.size (by decide) Xl) Xp ?_
  obtain ⟨Ga4, leGa4, ha4, back4⟩ := hL.rot.last
  have zGa := leGa4.1
  obtain ⟨_, zA, qa, qb, qc, qd⟩ := bL.le leGa4
  have m0 := Xz leGa4 (by omega) (by intro e; cases e) l1
  refine Yi rfl rfl (Ent.append ha4 Try.underlying45 inf33 Xl Xl rfl (lb := H6.size + 1) (by omega) m0 rfl (by intro v hv; simp at hv; subst hv; rfl) (by simp only [Uh, List.length_replicate]; omega) (by decide) ?_)
  rintro w4 Gb4 Hb4 leb4 hb4
  have hsameO := Ent.sameO ha4 leb4 hb4
  obtain ⟨Gc4, lec4, hc4⟩ := back4 Gb4 Hb4 _ leb4 hb4
  rw [eNil_next] at hc4 hb4
  obtain ⟨W4, cw4, rfl⟩ : ∃ A c, w4 = Value.slice A (i + 1) c := Zu (i := i + 1) (OwnP.sl hb4) (by simp [Uh])
  have bb4 := (bL.le lec4).le hc4.le
  obtain ⟨_, zb, qa4, qb4, qc4, qd4⟩ := id bb4
  refine ⟨Yg, ?_⟩
  clear hsameO qa qb qc qd m0
  replace bL := bL.le lec4
  replace rL := rL.mono lec4.sees
  replace zL := Nat.le_trans zL lec4.1
  clear hL
  have hL := hc4
  have zH4 := hL.size
  first | refine Yi rfl rfl (Y8 rfl rfl rfl inf45.size Ye Yk rfl ?_)
  refine ⟨Yg, ?_⟩
  refine Xe rfl rfl (Xg (off := 4) Xl Try.underlying47 Xl inf45.size (by decide) Xl) Xp ?_
  first | refine Yi rfl rfl (Y8 rfl rfl rfl inf45.size Ye Yk rfl ?_)
  refine ⟨Yg, ?_⟩
  refine Xd ?_
  obtain ⟨H7, hH7⟩ : ∃ H7, H7 = Hb4.put (H.size + 2) (.own 0 [.slice W0 (i + 1) cw0, .slice W1 (i + 1) cw1, .slice W2 (i + 1) cw2, .slice W3 (i + 1) cw3, .slice W4 (i + 1) cw4]) := ⟨_, rfl⟩
  obtain ⟨G7, hG7⟩ : ∃ G7, G7 = Gc4.put (H.size + 2) (.own 0 [.slice W0 (i + 1) cw0, .slice W1 (i + 1) cw1, .slice W2 (i + 1) cw2, .slice W3 (i + 1) cw3, .slice W4 (i + 1) cw4]) := ⟨_, rfl⟩
  have ownG7 := hL.put_box (by have := bL.2.1; omega) bL.2.2.2.2.1 [.slice W0 (i + 1) cw0, .slice W1 (i + 1) cw1, .slice W2 (i + 1) cw2, .slice W3 (i + 1) cw3, .slice W4 (i + 1) cw4]
  have bG7 := bL.put2 [.slice W0 (i + 1) cw0, .slice W1 (i + 1) cw1, .slice W2 (i + 1) cw2, .slice W3 (i + 1) cw3, .slice W4 (i + 1) cw4]
  have rG7 := rL.mono (Hp.sees_box (cs' := [.slice W0 (i + 1) cw0, .slice W1 (i + 1) cw1, .slice W2 (i + 1) cw2, .slice W3 (i + 1) cw3, .slice W4 (i + 1) cw4]) _ bL.2.2.2.2.1)
  rw [← hG7] at ownG7 bG7 rG7
  rw [← hH7] at ownG7
  change ACode true _ _ _ _ _ ((Hb4.put (H.size + 2) (.own 0 [.slice W0 (i + 1) cw0, .slice W1 (i + 1) cw1, .slice W2 (i + 1) cw2, .slice W3 (i + 1) cw3, .slice A4 i k4])).put (H.size + 2) (.own 0 [.slice W0 (i + 1) cw0, .slice W1 (i + 1) cw1, .slice W2 (i + 1) cw2, .slice W3 (i + 1) cw3, .slice W4 (i + 1) cw4]))
  rw [Hp.put_put]
  rw [← hH7]
  clear hH7 hG7 hL bL rL zL
  have bbH7 := bG7.le ownG7.le
  obtain ⟨_, zzH7, s0H7, s1H7, s2H7, s3H7⟩ := id bbH7
  have lit7 := OwnP.lit kLink H7 (cs := [])
  have own7 := ownG7.push .dead
  have b7 := bG7.le (G7.le_push .dead)
  have r7 := rG7.mono (G7.le_push .dead).sees
  obtain ⟨bs, os, es, hbs, hcs⟩ := (hs.mono leH1.sees).int_at (i := (i : Int)) (by omega) (by omega)
  subst es
  rw [Int.toNat_natCast, Zc hix] at hcs
  have hmi := hm _ (List.getElem_mem hix)
  have hcs0 : H.cell? bs (os + i * 1) = some (.int .i64 sizes[i]) := by
    obtain ⟨b9, o9, e9, hb9, hc9⟩ := hs.int_at (i := (i : Int)) (by omega) (by omega)
    simp only [Option.some.injEq, Addr.mk.injEq, and_true] at e9
    obtain ⟨rfl, rfl⟩ := e9
    rwa [Int.toNat_natCast, Zc hix] at hc9
  have hbs0 : bs < H.size := by
    obtain ⟨b9, o9, e9, hb9, hc9⟩ := hs.int_at (i := (i : Int)) (by omega) (by omega)
    simp only [Option.some.injEq, Addr.mk.injEq, and_true] at e9
    obtain ⟨rfl, rfl⟩ := e9
    exact hb9
  have hlen7 : nds.length = i := hr.len
  refine Xb (by kernel_rfl) ?_
  first | refine X5 (Yb (r := []) Try.underlying68 inf70.size inf70.zero rfl (by decide) (by decide) (by decide) rfl) ?_
  refine Xa (X3 rfl) ?_
  refine Xd ?_
  refine Xd ?_
  refine Xb (by kernel_rfl) ?_
  refine Xa (Xf rfl) ?_
  refine Ya ?_
  refine Y9 (fun n t H' => ∃ (k : Nat) (Gx Gm : Hp) (C : Option Addr) (c9 : Nat), k ≤ sizes[i].toNat ∧ n = sizes[i].toNat - k ∧ BxP H Gx [.slice W0 (i + 1) cw0, .slice W1 (i + 1) cw1, .slice W2 (i + 1) cw2, .slice W3 (i + 1) cw3, .slice W4 (i + 1) cw4] [.slice A5 i k5, .slice A6 i k6] ∧ OwnL Gx [eNds (.slice A5 i k5) nds, Uh (.slice A6 i k6) i, eStr (.slice W0 (i + 1) cw0) (i + 1), eInt (.slice W1 (i + 1) cw1) (i + 1), eNeg (.slice W2 (i + 1) cw2) (i + 1), Uh (.slice W3 (i + 1) cw3) (i + 1), Uh (.slice W4 (i + 1) cw4) (i + 1)] Gm ∧ ApartR Gx ways sizes i nds ∧ OwnP kLink Gm H' (.slice C k c9) (Z5 ways k) ∧ t 0 = .int .u64 ways ∧ t 1 = .slice (some ⟨bs, os, none⟩) sizes.length cu ∧ t 4 = .pointer (some ⟨H.size, 0, none⟩) ∧ t 5 = .pointer (some ⟨H.size + 1, 0, none⟩) ∧ t 6 = .pointer (some ⟨H.size + 2, 0, none⟩) ∧ t 7 = .pointer (some ⟨H.size + 3, 0, none⟩) ∧ t 8 = .int .i64 i ∧ t 9 = .slice C k c9 ∧ t 10 = .int .i64 k) (sizes[i].toNat) (⟨0, _, _, _, _, by omega, rfl, b7, own7, r7, lit7, e0, e1, e4, e5, e6, e7, e8, rfl, rfl⟩) ?_
  rintro n t H8 ⟨k, Gx, Gm, C, c9, hk, rfl, bx, ownx, rx, ownl, e0, e1, e4, e5, e6, e7, e8, e9, e10⟩
  have leH8 := (bx.le (Hp.le_trans ownx.le ownl.le)).1
  have hcs8 := leH8.cell1 hbs0 hcs0
  have hll := Z6 ways k
  have zl := ownl.size
  refine Xd ?_
  refine Xd ?_
  refine Xb (by kernel_rfl) ?_
  refine Xa (Xc Xl) ?_
  refine Xa (Xx Xl) ?_
  refine Xa (Xc Xl) ?_
  refine Xa (Xt rfl rfl Try.underlying33 inf3.size X7 X7) ?_
  refine Xa (Xi rfl Try.underlying3 rfl Xs) ?_
  refine Xa (Zj rfl rfl) ?_
  refine X6 rfl rfl ?_ ?_
  intro hc2
  (try simp only [decide_eq_true_eq, decide_eq_false_iff_not, Bool.not_eq_true', Bool.not_eq_false'] at hc2)
  refine X9 ?_
  refine Xd ?_
  refine Ya ?_
  refine Xb (by kernel_rfl) ?_
  refine Xa (Xx Xl) ?_
  refine Xa (Xc Xl) ?_
  refine Xa (Xc Xl) ?_
  refine Xa (Xc Xl) ?_
  refine Xa (Xc Xl) ?_
  refine Xa (Y0 (pl := [(0, 1), (1, 1), (2, 1), (3, 1)]) (r := [.int .i64 _, .int .i64 _, .int .i64 _, .int .u64 _]) Try.underlying70 inf70.zero (by decide) rfl rfl) ?_
  first | refine X5 (Yb (r := [.int .i64 _, .int .i64 _, .int .i64 _, .int .u64 _]) Try.underlying68 inf70.size inf70.zero rfl (by decide) (by decide) (by decide) rfl) ?_
  refine X0 (OwnP.append (ys := [⟨k, k, k, ways⟩]) (ownl.push _) Try.underlying68 inf70 Xl Xl rfl (V3 (k := kLink) rfl rfl ownl.size rfl) (by rw [hll]; simp only [List.length_singleton]; omega) (by rw [hll]; simp only [List.length_singleton]; omega) ?_)
  rintro w9 G9 H9 le9 own9
  obtain ⟨C9, c99, e99⟩ := own9.shape
  rw [← apartL_next] at own9
  rw [List.length_append, hll, List.length_singleton] at e99
  subst e99
  obtain ⟨Gy, ley, owny⟩ := ownx.later (Hp.le_trans (Gm.le_push _) le9)
  refine Xa (X3 rfl) ?_
  refine Xb (by kernel_rfl) ?_
  refine Xa (Xc Xl) ?_
  refine Xa (Yj rfl rfl Yv) ?_
  refine Xa (Xf rfl) ?_
  exact ⟨sizes[i].toNat - (k + 1), by omega, k + 1, Gy, G9, C9, c99, by omega, rfl, bx.le ley, owny, rx.mono ley.sees, own9, e0, e1, e4, e5, e6, e7, e8, rfl, rfl⟩
  intro hc2
  (try simp only [decide_eq_true_eq, decide_eq_false_iff_not, Bool.not_eq_true', Bool.not_eq_false'] at hc2)
  refine Y5 ?_
  obtain rfl : k = sizes[i].toNat := by omega
  obtain ⟨Gy, ley, owny⟩ := ownx.later ownl.le
  have by' := bx.le ley
  have slN := owny.below (k' := kLink) (fun st => Za st) (by intro e he; simp at he; rcases he with rfl | rfl | rfl | rfl | rfl | rfl | rfl <;> exact (show (1 : Nat) ≠ 4 by decide)) ownl.sl
  have ry := rx.mono ley.sees
  obtain ⟨_, zz8, s08, s18, s28, s38⟩ := by'.le owny.le
  have zz12 := owny.size
  have hL := ((owny.push (.own 1 [.slice C sizes[i].toNat c9])).push (.own 1 [.slice none 0 0]))
  have leP : Gy.le ((Gy.push (.own 1 [.slice C sizes[i].toNat c9])).push (.own 1 [.slice none 0 0])) := Hp.le_trans (Hp.le_push (Gy) (.own 1 [.slice C sizes[i].toNat c9])) (Hp.le_push ((Gy.push (.own 1 [.slice C sizes[i].toNat c9]))) (.own 1 [.slice none 0 0]))
  have bL := by'.le leP
  have rL := ry.mono leP.sees
  have sN := slN.mono leP.sees
  have l0 : ((Gy.push (.own 1 [.slice C sizes[i].toNat c9])).push (.own 1 [.slice none 0 0])).get (H8.size) = .own 1 [.slice C sizes[i].toNat c9] := by rw [zz12]; exact Ye
  have l1 : ((Gy.push (.own 1 [.slice C sizes[i].toNat c9])).push (.own 1 [.slice none 0 0])).get (H8.size + 1) = .own 1 [.slice none 0 0] := by rw [zz12]; exact Ye
  have zL : H8.size + 2 ≤ ((Gy.push (.own 1 [.slice C sizes[i].toNat c9])).push (.own 1 [.slice none 0 0])).size := by simp; omega
  obtain ⟨GP, hGP⟩ : ∃ GP, GP = ((Gy.push (.own 1 [.slice C sizes[i].toNat c9])).push (.own 1 [.slice none 0 0])) := ⟨_, rfl⟩
  rw [← hGP] at hL bL rL zL sN l0 l1
  clear hGP leP
  refine Yw (by kernel_rfl) (Zb (B := [0, 1, 0, 4, 15, 0, 32, 0, 255, 127, 1023, 2047, 4095]) (π := [0, 1, 2, 3, 5, 6, 7, 4, 9, 8, 10, 11, 12]) (by kernel_rfl)) ?_
  refine Xe rfl rfl (Xg (off := 0) Xl Try.underlying50 Xl inf48.size (by decide) Xl) Xp ?_
  refine Xe rfl rfl (Xi rfl Try.underlying48 rfl Xs) Xp ?_
  refine Xe rfl rfl (Xx Xl) Xp ?_
  refine Zk rfl rfl (Yb (r := [.slice _ _ _]) Try.underlying48 inf68.size inf68.zero rfl (by decide) (by decide) (by decide) rfl) ?_
  refine Xe rfl rfl (Xg (off := 1) Xl Try.underlying50 Xl inf48.size (by decide) Xl) Xp ?_
  refine Xe rfl rfl (Xi rfl Try.underlying48 rfl Xs) Xp ?_
  refine Zk rfl rfl (Yb (r := [.slice _ _ _]) Try.underlying48 inf68.size inf68.zero rfl (by decide) (by decide) (by decide) rfl) ?_
  obtain ⟨Ga5, leGa5, ha5, back5⟩ := hL.rot.last
  have zGa := leGa5.1
  obtain ⟨_, zA, qa, qb, qc, qd⟩ := bL.le leGa5
  have m0 := Xz leGa5 (by omega) (by intro e; cases e) l0
  have m1 := Xz leGa5 (by omega) (by intro e; cases e) l1
  refine Yi rfl rfl (Ent.append ha5 Try.underlying48 inf68 Xl Xl rfl (lb := H8.size) (by omega) m0 rfl (by intro v hv; simp at hv; subst hv; rfl) (by simp only [eNds, rL.len]; omega) (by decide) ?_)
  rintro w5 Gb5 Hb5 leb5 hb5
  have hsameO := Ent.sameO ha5 leb5 hb5
  obtain ⟨Gc5, lec5, hc5⟩ := back5 Gb5 Hb5 _ leb5 hb5
  rw [eNds_next] at hc5 hb5
  obtain ⟨W5, cw5, rfl⟩ : ∃ A c, w5 = Value.slice A (i + 1) c := Zu (i := i + 1) (OwnP.sl hb5) (by simp [eNds, rL.len])
  have bb5 := (bL.le lec5).le hc5.le
  obtain ⟨_, zb, qa5, qb5, qc5, qd5⟩ := id bb5
  have l1b := Xz hc5.le (by have := lec5.1; omega) (by intro e; cases e) (Xz lec5 (by omega) (by intro e; cases e) l1)
  refine ⟨Yg, ?_⟩
  clear hsameO qa qb qc qd m0 m1
  clear l1b
  have l1 := Xz lec5 (by omega) (by intro e; cases e) l1
  replace bL := bL.le lec5
  replace sN := sN.mono lec5.sees
  replace rL := rL.mono lec5.sees
  replace zL := Nat.le_trans zL lec5.1
  clear hL
  have hL := hc5
  have zH5 := hL.size
  refine Xe rfl rfl (Xg (off := 0) Xl Try.underlying50 Xl inf48.size (by decide) Xl) Xp ?_
  obtain ⟨Ga6, leGa6, ha6, back6⟩ := hL.rot.last
  have zGa := leGa6.1
  obtain ⟨_, zA, qa, qb, qc, qd⟩ := bL.le leGa6
  have m0 := Xz leGa6 (by omega) (by intro e; cases e) l1
  refine Yi rfl rfl (Ent.append ha6 Try.underlying48 inf68 Xl Xl rfl (lb := H8.size + 1) (by omega) m0 rfl (by intro v hv; simp at hv; subst hv; rfl) (by simp only [Uh, List.length_replicate]; omega) (by decide) ?_)
  rintro w6 Gb6 Hb6 leb6 hb6
  have hsameO := Ent.sameO ha6 leb6 hb6
  obtain ⟨Gc6, lec6, hc6⟩ := back6 Gb6 Hb6 _ leb6 hb6
  rw [eNil_next] at hc6 hb6
  obtain ⟨W6, cw6, rfl⟩ : ∃ A c, w6 = Value.slice A (i + 1) c := Zu (i := i + 1) (OwnP.sl hb6) (by simp [Uh])
  have bb6 := (bL.le lec6).le hc6.le
  obtain ⟨_, zb, qa6, qb6, qc6, qd6⟩ := id bb6
  refine ⟨Yg, ?_⟩
  clear hsameO qa qb qc qd m0
  replace bL := bL.le lec6
  replace sN := sN.mono lec6.sees
  replace rL := rL.mono lec6.sees
  replace zL := Nat.le_trans zL lec6.1
  clear hL
  have hL := hc6
  have zH6 := hL.size
  first | refine Yi rfl rfl (Y8 rfl rfl rfl inf48.size Ye Yk rfl ?_)
  refine ⟨Yg, ?_⟩
  refine Xe rfl rfl (Xg (off := 1) Xl Try.underlying50 Xl inf48.size (by decide) Xl) Xp ?_
  first | refine Yi rfl rfl (Y8 rfl rfl rfl inf48.size Ye Yk rfl ?_)
  refine ⟨Yg, ?_⟩
  obtain ⟨H4, hH4⟩ : ∃ H4, H4 = Hb6.put (H.size + 3) (.own 0 [.slice W5 (i + 1) cw5, .slice W6 (i + 1) cw6]) := ⟨_, rfl⟩
  obtain ⟨G4, hG4⟩ : ∃ G4, G4 = Gc6.put (H.size + 3) (.own 0 [.slice W5 (i + 1) cw5, .slice W6 (i + 1) cw6]) := ⟨_, rfl⟩
  have ownG4 := hL.put_box (by have := bL.2.1; omega) bL.2.2.2.2.2 [.slice W5 (i + 1) cw5, .slice W6 (i + 1) cw6]
  have bG4 := bL.put3 [.slice W5 (i + 1) cw5, .slice W6 (i + 1) cw6]
  have rG4 := rL.mono (Hp.sees_box (cs' := [.slice W5 (i + 1) cw5, .slice W6 (i + 1) cw6]) _ bL.2.2.2.2.2)
  rw [← hG4] at ownG4 bG4 rG4
  rw [← hH4] at ownG4
  change ACode true _ _ _ _ _ ((Hb6.put (H.size + 3) (.own 0 [.slice W5 (i + 1) cw5, .slice A6 i k6])).put (H.size + 3) (.own 0 [.slice W5 (i + 1) cw5, .slice W6 (i + 1) cw6]))
  rw [Hp.put_put]
  rw [← hH4]
  have sN4 := sN.mono (Hp.sees_box (cs' := [.slice W5 (i + 1) cw5, .slice W6 (i + 1) cw6]) _ bL.2.2.2.2.2)
  rw [← hG4] at sN4
  clear hH4 hG4 hL bL rL zL
  have bbH4 := bG4.le ownG4.le
  obtain ⟨_, zzH4, s0H4, s1H4, s2H4, s3H4⟩ := id bbH4
  refine Xb (by kernel_rfl) ?_
  refine Xa (Xc Xl) ?_
  refine Xa (Yj rfl rfl Yv) ?_
  refine Xa (Xf rfl) ?_
  exact ⟨sizes.length - (i + 1), by omega, i + 1, G4, _, _, _, _, _, _, _, (nds ++ [[Value.slice C sizes[i].toNat c9]] : List (List Value)), by omega, rfl, bG4, ownG4, rG4.snoc hix sN4, e0, e1, e4, e5, e6, e7, rfl⟩
  intro hc1
  (try simp only [decide_eq_true_eq, decide_eq_false_iff_not, Bool.not_eq_true', Bool.not_eq_false'] at hc1)
  refine Y5 ?_
  refine Xd ?_
  refine Yw (by kernel_rfl) (Zb (B := [0, 0, 1, 7]) (π := [0, 1, 2, 3]) (by kernel_rfl)) ?_
  refine Xe rfl rfl (Yp (cs := [.slice _ _ _, .slice _ _ _, .slice _ _ _, .slice _ _ _, .slice _ _ _]) Xl Try.underlying47 Xl inf47.size Yf) Xp ?_
  refine Xe rfl rfl (Yp (cs := [.slice _ _ _, .slice _ _ _]) Xl Try.underlying50 Xl inf50.size Yf) Xp ?_
  refine Yi rfl rfl (Ym (vs := [.slice _ _ _, .slice _ _ _, .slice _ _ _, .slice _ _ _, .slice _ _ _]) Xl Xl inf47.size Ye Yk Xl Xl ?_)
  refine ⟨Yg, ?_⟩
  refine Yi rfl rfl (Ym (vs := [.slice _ _ _, .slice _ _ _]) Xl Xl inf50.size Ye Yk Xl Xl ?_)
  refine ⟨Yg, ?_⟩
  refine X8 ?_
  obtain rfl : i = sizes.length := by omega
  have se := hown.le.sees
  have p0 := hown.sl (eStr (.slice A0 sizes.length k0) sizes.length) (by simp)
  have p1 := hown.sl (eInt (.slice A1 sizes.length k1) sizes.length) (by simp)
  have p2 := hown.sl (eNeg (.slice A2 sizes.length k2) sizes.length) (by simp)
  have p3 := hown.sl (Uh (.slice A3 sizes.length k3) sizes.length) (by simp)
  have p4 := hown.sl (Uh (.slice A4 sizes.length k4) sizes.length) (by simp)
  have p5 := hown.sl (eNds (.slice A5 sizes.length k5) nds) (by simp)
  have p6 := hown.sl (Uh (.slice A6 sizes.length k6) sizes.length) (by simp)
  have hrl := hr.len
  have hz1 : H1.sees (H1.put H.size (.own 0 [.slice A0 sizes.length k0, .slice A1 sizes.length k1, .slice A2 sizes.length k2, .slice A3 sizes.length k3, .slice A4 sizes.length k4])) := Hp.sees_box _ q0
  have hz2 : (H1.put H.size (.own 0 [.slice A0 sizes.length k0, .slice A1 sizes.length k1, .slice A2 sizes.length k2, .slice A3 sizes.length k3, .slice A4 sizes.length k4])).sees ((H1.put H.size (.own 0 [.slice A0 sizes.length k0, .slice A1 sizes.length k1, .slice A2 sizes.length k2, .slice A3 sizes.length k3, .slice A4 sizes.length k4])).put (H.size + 1) (.own 0 [.slice A5 sizes.length k5, .slice A6 sizes.length k6])) := Hp.sees_box (cs := [.slice none 0 0, .slice none 0 0]) _ (by rw [Hp.put_other _ _ (by omega)]; exact q1)
  have hz := hz1.trans hz2
  refine ⟨_, Zl (Zg Xl (Ze (cs := [.slice A0 sizes.length k0, .slice A1 sizes.length k1, .slice A2 sizes.length k2, .slice A3 sizes.length k3, .slice A4 sizes.length k4]) Try.underlying47 rfl inf47.size Yf)) (Zg Xl (Ze (cs := [.slice A5 sizes.length k5, .slice A6 sizes.length k6]) Try.underlying50 rfl inf50.size Yf)), [_, _, _, _, _], [_, _], rfl, ⟨_, _, _, _, _, rfl, ?_, ?_, ?_, ?_, ?_⟩, ⟨_, _, rfl, ?_, ?_⟩, Hp.le_put_new (Hp.le_put_new leH1 (Nat.le_refl _) _) (by omega) _⟩
  · exact Sl.conv (k := kStr) (p0.mono hz) (by simp [eStr, Zm]) (fun j a b => by simp [eStr, Zm, kStr])
  · exact Sl.conv (k := Yy .i64) (p1.mono hz) (by simp [eInt, Zm]) (fun j a b => by simp [eInt, Zm, Yy])
  · exact Sl.conv (k := Yy .i64) (p2.mono hz) (by simp [eNeg, Zm]) (fun j a b => by simp [eNeg, Zm, Yy])
  · exact Sl.conv (k := kSl (Yy .i64)) (p3.mono hz) (by simp [Uh, Zm]) (fun j a b => by simp only [Uh, Zm, List.getElem_replicate]; exact ⟨_, rfl, Sl.nil _ _⟩)
  · exact Sl.conv (k := kSl (Yy .i64)) (p4.mono hz) (by simp [Uh, Zm]) (fun j a b => by simp only [Uh, Zm, List.getElem_replicate]; exact ⟨_, rfl, Sl.nil _ _⟩)
  · exact Sl.conv (k := kSl kLink) (p5.mono hz) (by simp [eNds, Zr, hrl]) (fun j a b => by
      obtain ⟨w, h1, h2⟩ := hr.at_ j a (by simpa [Zr] using b)
      simp only [Zr, List.getElem_map]
      exact ⟨w, h1, (h2.mono se).mono hz⟩)
  · exact Sl.conv (k := kSl kLink) (p6.mono hz) (by simp [Uh, Zr]) (fun j a b => by simp only [Uh, Zr, List.getElem_replicate, List.getElem_map]; exact ⟨_, rfl, Sl.nil _ _⟩)
end Go.Proofs.Ytmakkmcjocjgmaa.Am


/- The small living call of the statements on reducing. -/
namespace Go.Proofs.Ytmakkmcjocjgmaa.Am
open Go Go.RowKit
set_option maxRecDepth 100000
set_option linter.unusedVariables false
set_option linter.unusedSimpArgs false

end Go.Proofs.Ytmakkmcjocjgmaa.Am


/- Forests of few variables: cut once is cut twice; the statements' own words. -/
namespace Go.Proofs.Ytmakkmcjocjgmaa.Am
open Go Go.RowKit
set_option maxRecDepth 100000
set_option linter.unusedVariables false
set_option linter.unusedSimpArgs false

structure BigF (f : Forest) : Prop where
  l0 : f.vars.length ≤ 9223372036854775807
  l1 : f.order.length ≤ 9223372036854775807
  l2 : f.parent.length ≤ 9223372036854775807
  l3 : f.links.length ≤ 9223372036854775807
  l4 : f.loops.length ≤ 9223372036854775807
  s3 : ∀ l ∈ f.links, l.length ≤ 9223372036854775807
  s4 : ∀ l ∈ f.loops, l.length ≤ 9223372036854775807
structure BigP (p : Parts) : Prop where
  l0 : p.nodes.length ≤ 9223372036854775807
  l1 : p.links.length ≤ 9223372036854775807
  s0 : ∀ l ∈ p.nodes, l.length ≤ 9223372036854775807
  s1 : ∀ l ∈ p.links, l.length ≤ 9223372036854775807
theorem Link.few_few (x : Link) : x.few.few = x.few := by
  unfold Link.few
  by_cases h : 1000000000 < x.cost
  · rw [if_pos h]; simp
  · rw [if_neg h, if_neg h]
end Go.Proofs.Ytmakkmcjocjgmaa.Am


/- The statement ReduceTwice, as the abstract machine runs it. -/
namespace Go.Proofs.Ytmakkmcjocjgmaa.Am
open Go Go.RowKit
set_option maxRecDepth 100000
set_option linter.unusedVariables false
set_option linter.unusedSimpArgs false

theorem small_sub {f : Forest} {p q : Parts} (h : Small f p) (hl : Lens f.vars.length q) (hs : Sub q p) : Small f q :=
  ⟨h.s0, h.s1, h.s2, by rw [hl.1]; exact h.s0, by rw [hl.2]; exact h.s0, fun l hm => by
    obtain ⟨i, hi, rfl⟩ := List.getElem_of_mem hm
    have k1 := (hs i).1.length_le
    unfold nd at k1
    rw [Y6 hi] at k1
    exact Nat.le_trans k1 (Ve h.s5 i), fun l hm => by
    obtain ⟨i, hi, rfl⟩ := List.getElem_of_mem hm
    have k1 := (hs i).2.length_le
    unfold lk at k1
    rw [Y6 hi] at k1
    exact Nat.le_trans k1 (Ve h.s6 i)⟩
end Go.Proofs.Ytmakkmcjocjgmaa.Am


/- What stands behind any first nodes, plain; of variables that hang from nobody. -/
namespace Go.Proofs.Ytmakkmcjocjgmaa.Am
open Go Go.RowKit
set_option maxRecDepth 100000
set_option linter.unusedVariables false
set_option linter.unusedSimpArgs false

def okP (T : TreeT) (ns : List Int) : Bool := (List.range ns.length).all fun i => (Zt (T.group i (Yc T ns i)) (ns.getD i 0)).isSome
def mulT (T : TreeT) (ns : List Int) (k : Nat) : Int := (List.range k).foldl (fun n i => if ns.length ≤ i ∧ T.parent.getD i 0 < ns.length then Yh n (Vx T T.vars.length i (Yc T ns i)) else n) 1
def behT (T : TreeT) (ns : List Int) : Int := if ns.length ≤ T.vars.length ∧ okP T ns = true then mulT T ns T.vars.length else 0
theorem mulT_succ (T : TreeT) (ns : List Int) (k : Nat) : mulT T ns (k + 1) = if ns.length ≤ k ∧ T.parent.getD k 0 < ns.length then Yh (mulT T ns k) (Vx T T.vars.length k (Yc T ns k)) else mulT T ns k := by
  unfold mulT
  rw [List.range_succ, List.foldl_append]; rfl
theorem mulT_nonneg {T : TreeT} (hT : GoodT T) (ns : List Int) : ∀ k, 0 ≤ mulT T ns k
  | 0 => by show (0 : Int) ≤ 1; decide
  | k + 1 => by
    rw [mulT_succ]
    split
    · exact (Vi (mulT_nonneg hT ns k) (Vs hT _ _ _)).1
    · exact mulT_nonneg hT ns k
theorem mulT_cap {T : TreeT} (hT : GoodT T) (ns : List Int) : ∀ k, mulT T ns k = Y7 (Zq ((List.range k).map (openW T ns)))
  | 0 => cap_one
  | k + 1 => by
    rw [mulT_succ, List.range_succ, List.map_append, prod_append, List.map_singleton, Zq, Zq, Nat.mul_one, mulT_cap hT ns k]
    unfold openW
    split
    · rw [sumT_cap hT, timesI_cap]; rfl
    · rw [Nat.mul_one]
theorem okP_path {T : TreeT} (hT : GoodT T) {ns : List Int} : okP T ns = true ↔ Path T ns := by
  unfold okP Path
  rw [List.all_eq_true]
  constructor
  · intro h i hi
    obtain ⟨l, hl⟩ := Option.isSome_iff_exists.1 (h i (List.mem_range.2 hi))
    obtain ⟨h1, h2⟩ := (findB_iff (hT.sort _ _)).1 hl
    exact ⟨l, h1, h2⟩
  · intro h i hi
    obtain ⟨l, h1, h2⟩ := h i (List.mem_range.1 hi)
    rw [(findB_iff (hT.sort _ _)).2 ⟨h1, h2⟩]; rfl
theorem okP_bad {T : TreeT} {ns : List Int} {i : Nat} (hi : i < ns.length) (h : Zt (T.group i (Yc T ns i)) (ns.getD i 0) = none) : okP T ns = false := by
  cases hk : okP T ns with
  | false => rfl
  | true =>
    unfold okP at hk
    have := List.all_eq_true.1 hk i (List.mem_range.2 hi)
    rw [h] at this; cases this
theorem behT_cnt {T : TreeT} (hT : GoodT T) {ns : List Int} (hl : ns.length ≤ T.vars.length) (hp : Path T ns) : behT T ns = Y7 (cntW T ns) := by
  unfold behT cntW
  rw [if_pos ⟨hl, (okP_path hT).2 hp⟩, mulT_cap hT]
theorem goodL_apart {n : Int} (h1 : 1 ≤ n) (h2 : n ≤ 4611686018427387904) {m : Nat} (hm : m ≤ 1000) : GoodL (Z5 n m) := fun i hi => by
  rw [Z6] at hi
  have at_ : ∀ j (hj : j < (Z5 n m).length), (Z5 n m)[j] = ⟨j, j, j, n⟩ := by
    unfold Z5
    intro j hj
    rw [List.getElem_map, List.getElem_range]
  rw [at_]
  refine ⟨⟨by simp only; omega, by simp only; omega, by simp only; omega, by simp only; omega, by simp only; omega, h1, h2⟩, fun h0 => ?_⟩
  rw [at_]
  unfold lessL
  simp only [Bool.or_eq_true, decide_eq_true_eq]
  left; omega
theorem apart_nd (n : Int) (sa sb : Int) : nd (Zr n [sa, sb]) 0 = Z5 n sa.toNat ∧ nd (Zr n [sa, sb]) 1 = Z5 n sb.toNat ∧ (∀ v, lk (Zr n [sa, sb]) v = []) ∧ ∀ v, nd (Zr n [sa, sb]) (v + 2) = [] := by
  refine ⟨rfl, rfl, fun v => ?_, fun v => rfl⟩
  match v with
  | 0 => rfl
  | 1 => rfl
  | v + 2 => rfl
theorem good_apart {n : Int} (h1 : 1 ≤ n) (h2 : n ≤ 4611686018427387904) {sa sb : Int} (ha : sa ≤ 1000) (hb : sb ≤ 1000) : GoodP (Zm 2) (Zr n [sa, sb]) := by
  obtain ⟨e0, e1, el, _⟩ := apart_nd n sa sb
  refine ⟨⟨rfl, rfl, rfl, rfl, fun i hi => ?_⟩, rfl, rfl, fun v hv => ?_⟩
  · have hi' : i < 2 := hi
    rcases (by omega : i = 0 ∨ i = 1) with rfl | rfl <;> (unfold OkF; decide)
  · have hv' : v < 2 := hv
    have heq : ∀ m, ∀ x ∈ Z5 n m, x.a = x.b := fun m x hx => by
      unfold Z5 at hx
      obtain ⟨k, _, rfl⟩ := List.mem_map.1 hx
      rfl
    have hnil : GoodL [] := fun i hi => by cases hi
    rcases (by omega : v = 0 ∨ v = 1) with rfl | rfl
    · exact ⟨goodL_apart h1 h2 (by omega), hnil, heq _, fun _ => rfl⟩
    · exact ⟨goodL_apart h1 h2 (by omega), hnil, heq _, fun _ => rfl⟩
theorem small_apart {n : Int} {sa sb : Int} (ha : sa ≤ 1000) (hb : sb ≤ 1000) : Small (Zm 2) (Zr n [sa, sb]) := by
  refine ⟨by decide, by decide, by decide, by simp [Zr], by simp [Zr], fun l hl => ?_, fun l hl => ?_⟩
  · rcases List.mem_cons.1 (show l ∈ [Z5 n sa.toNat, Z5 n sb.toNat] from hl) with rfl | hl
    · rw [Z6]; omega
    · rw [List.mem_singleton.1 hl, Z6]; omega
  · rcases List.mem_cons.1 (show l ∈ [[], []] from hl) with rfl | hl
    · simp
    · rw [List.mem_singleton.1 hl]; simp
theorem cheap_apart {n : Int} (h1 : 1 ≤ n) {sa sb : Int} (ha : sa ≤ 1000) (hb : sb ≤ 1000) : Cheap (Zr n [sa, sb]) := by
  obtain ⟨e0, e1, el, e2⟩ := apart_nd n sa sb
  have h : ∀ m : Nat, m ≤ 1000 → ∀ x ∈ Z5 n m, 0 ≤ x.cost ∧ x.cost ≤ 1000000000 ∧ 0 ≤ x.n := fun m hm x hx => by
    unfold Z5 at hx
    obtain ⟨k, hk, rfl⟩ := List.mem_map.1 hx
    rw [List.mem_range] at hk
    exact ⟨by simp only; omega, by simp only; omega, by simp only; omega⟩
  refine ⟨fun v => ?_, fun v x hx => ?_⟩
  · match v with
    | 0 => rw [e0]; exact h _ (by omega)
    | 1 => rw [e1]; exact h _ (by omega)
    | v + 2 => rw [e2]; intro x hx; cases hx
  · rw [el] at hx; cases hx
theorem two_roots (x : Parts) : (Yr (Zm 2) x).vars.length = 2 ∧ (Yr (Zm 2) x).parent = [-1, -1] ∧ (Yr (Zm 2) x).links = [nd x 0, nd x 1] := ⟨rfl, rfl, rfl⟩
theorem apart_of {n : Int} (h1 : 1 ≤ n) (h2 : n ≤ 4611686018427387904) {sa sb : Int} (ha : sa ≤ 1000) (hb : sb ≤ 1000) : (0 < sa ∧ 0 < sb ∧ V1 (Zm 2) (Zr n [sa, sb]) = Zr n [sa, sb]) ∨ ((sa ≤ 0 ∨ sb ≤ 0) ∧ V1 (Zm 2) (Zr n [sa, sb]) = Ue 2) := by
  have hG := good_apart h1 h2 ha hb
  obtain ⟨k1, k2, k3, k4⟩ := Vv hG
  obtain ⟨e0, e1, el, e2⟩ := apart_nd n sa sb
  by_cases h : 0 < sa ∧ 0 < sb
  · refine .inl ⟨h.1, h.2, ofP_fix hG.gf hG.lens hG.nb (fun v hv hp => ?_) (fun h3 => ?_)⟩
    · have hv' : v < 2 := hv
      rcases (by omega : v = 0 ∨ v = 1) with rfl | rfl <;> exact absurd rfl hp
    · obtain ⟨v, hv, h4⟩ := List.any_eq_true.1 h3
      unfold Zv at h4
      rw [Bool.and_eq_true, decide_eq_true_eq, decide_eq_true_eq] at h4
      have hv : v ∈ [(0 : Int), 1] := hv
      rcases List.mem_cons.1 hv with rfl | hv
      · have h5 : (nd (Zr n [sa, sb]) 0).length = 0 := h4.2
        rw [e0, Z6] at h5; omega
      · rw [List.mem_singleton] at hv
        subst hv
        have h5 : (nd (Zr n [sa, sb]) 1).length = 0 := h4.2
        rw [e1, Z6] at h5; omega
  · refine .inr ⟨by omega, k4 (List.any_eq_true.2 ?_)⟩
    rcases (by omega : sa ≤ 0 ∨ sb ≤ 0) with hs | hs
    · refine ⟨0, (by decide : (0 : Int) ∈ (Zm 2).order), ?_⟩
      unfold Zv
      rw [Bool.and_eq_true, decide_eq_true_eq, decide_eq_true_eq]
      refine ⟨rfl, ?_⟩
      have h5 := ((k2 0).1).length_le
      rw [e0, Z6] at h5
      show (nd (V1 (Zm 2) (Zr n [sa, sb])) 0).length = 0
      omega
    · refine ⟨1, (by decide : (1 : Int) ∈ (Zm 2).order), ?_⟩
      unfold Zv
      rw [Bool.and_eq_true, decide_eq_true_eq, decide_eq_true_eq]
      refine ⟨rfl, ?_⟩
      have h5 := ((k2 1).1).length_le
      rw [e1, Z6] at h5
      show (nd (V1 (Zm 2) (Zr n [sa, sb])) 1).length = 0
      omega
theorem apart_goodT {n : Int} (h1 : 1 ≤ n) (h2 : n ≤ 4611686018427387904) {sa sb : Int} (ha : sa ≤ 1000) (hb : sb ≤ 1000) : GoodT (Yr (Zm 2) (V1 (Zm 2) (Zr n [sa, sb]))) := by
  have hG := good_apart h1 h2 ha hb
  obtain ⟨k1, k2, k3, k4⟩ := Vv hG
  exact good_tree (ofP_good hG) (small_sub (small_apart ha hb) k1 k2) ((cheap_apart h1 ha hb).sub k2) (by decide)
theorem apart_fewA {n : Int} (h1 : 1 ≤ n) (h2 : n ≤ 4611686018427387904) {sa sb : Int} (ha : sa ≤ 1000) (hb : sb ≤ 1000) : FewA (Yr (Zm 2) (V1 (Zm 2) (Zr n [sa, sb]))) := by
  obtain ⟨k1, k2, k3, k4⟩ := Vv (good_apart h1 h2 ha hb)
  obtain ⟨e0, e1, el, e2⟩ := apart_nd n sa sb
  refine fewA_of fun l hl => ?_
  rw [(two_roots _).2.2] at hl
  rcases List.mem_cons.1 hl with rfl | hl
  · have := (k2 0).1.length_le
    rw [e0, Z6] at this; omega
  · rw [List.mem_singleton.1 hl]
    have := (k2 1).1.length_le
    rw [e1, Z6] at this; omega
end Go.Proofs.Ytmakkmcjocjgmaa.Am


/- Trees of good parts: who is reached, how often, and which nodes a place has. -/
namespace Go.Proofs.Ytmakkmcjocjgmaa.Am
open Go Go.RowKit
set_option maxRecDepth 100000
set_option linter.unusedVariables false
set_option linter.unusedSimpArgs false

theorem reach_path {T : TreeT} (hT : GoodT T) {ns : List Int} (hp : Path T ns) (hl : ns.length = T.vars.length) : ∀ d i, i < d → i < T.vars.length → Yc T ns i ∈ Zp T d i
  | 0, i, h, _ => by omega
  | d + 1, i, h, hi => by
    rw [Zp]
    rcases hT.par i hi with hp0 | hp0
    · rw [if_pos hp0]; unfold Yc; rw [if_pos hp0]; simp
    · obtain ⟨p, hpp⟩ : ∃ p : Nat, T.parent.getD i 0 = p := ⟨(T.parent.getD i 0).toNat, by omega⟩
      rw [if_neg (by omega), mem_once, hpp, Int.toNat_natCast]
      have ih := reach_path hT hp hl d p (by omega) (by omega)
      obtain ⟨l, h1, h2⟩ := hp p (by omega)
      refine .inr (List.mem_flatMap.2 ⟨_, ih, List.mem_map.2 ⟨l, h1, ?_⟩⟩)
      unfold Yc
      rw [if_neg (by omega), hpp, Int.toNat_natCast]
      exact h2
def Reach (T : TreeT) : Prop := ∀ (i : Nat) (a : Int), i < T.vars.length → T.group i a ≠ [] → (T.parent.getD i 0 = -1 → a = -1) → a ∈ Zp T T.vars.length i
theorem reach_tree {f : Forest} {p : Parts} (hG : GoodP f p) (hT : GoodT (Yr f (V1 f p))) : Reach (Yr f (V1 f p)) := fun i a hi hne hr => by
  obtain ⟨k1, k2, k3, k4⟩ := Vv hG
  have hol : f.order.length = f.vars.length := hG.gf.l1
  have hvl : (Yr f (V1 f p)).vars.length = f.vars.length := (V4 _).1.trans hol
  obtain ⟨l, hl⟩ := List.exists_mem_of_ne_nil _ hne
  rw [hvl] at hi
  obtain ⟨r, hr1, hr2, hr3⟩ := group_row hG hi hl
  obtain ⟨x1, x2⟩ := rows_ext hG
  have hmem : r.nodes ∈ extN (Yr f (V1 f p)) f.vars.length [] := by rw [← x1]; exact List.mem_map.2 ⟨r, hr1, rfl⟩
  obtain ⟨m1, m2⟩ := mem_ext _ _ _ hmem
  have hlen : r.nodes.length = (Yr f (V1 f p)).vars.length := by rw [m1, hvl]; simp
  have hP : Path (Yr f (V1 f p)) r.nodes := ext_pathC hT f.vars.length [] r.nodes (by simp [hvl]) (fun i hi => by simp at hi) hmem
  have hgo := reach_path hT hP hlen (Yr f (V1 f p)).vars.length i (by omega) (by omega)
  have ha : Yc (Yr f (V1 f p)) r.nodes i = a := by
    unfold Yc
    rcases hT.par i (by omega) with h | h
    · rw [if_pos h, hr h]
    · rw [if_neg (by omega)]
      rcases hr3 with h3 | h3
      · omega
      · exact h3
  rw [ha] at hgo
  exact hgo
def hasB (T : TreeT) (i : Nat) (b : Int) : Prop := ∃ a, ∃ x ∈ T.group i a, x.b = b
end Go.Proofs.Ytmakkmcjocjgmaa.Am


/- What is told of no tree and of no walk; the small living call of the statements on walks. -/
namespace Go.Proofs.Ytmakkmcjocjgmaa.Am
open Go Go.RowKit
set_option maxRecDepth 100000
set_option linter.unusedVariables false
set_option linter.unusedSimpArgs false

end Go.Proofs.Ytmakkmcjocjgmaa.Am


/- Whether two lists of numbers are one; what a tree tells of nodes. -/
namespace Go.Proofs.Ytmakkmcjocjgmaa.Am
open Go Go.RowKit
set_option maxRecDepth 100000
set_option linter.unusedVariables false
set_option linter.unusedSimpArgs false

end Go.Proofs.Ytmakkmcjocjgmaa.Am


/- The document's Up and Down. -/
namespace Go.Proofs.Ytmakkmcjocjgmaa.Am
open Go Go.RowKit
set_option maxRecDepth 100000
set_option linter.unusedVariables false
set_option linter.unusedSimpArgs false

end Go.Proofs.Ytmakkmcjocjgmaa.Am


/- The statement ReduceHalves, as the abstract machine runs it. -/
namespace Go.Proofs.Ytmakkmcjocjgmaa.Am
open Go Go.RowKit
set_option maxRecDepth 100000
set_option linter.unusedVariables false
set_option linter.unusedSimpArgs false

end Go.Proofs.Ytmakkmcjocjgmaa.Am


/- How many nodes and links; whether nothing is left. -/
namespace Go.Proofs.Ytmakkmcjocjgmaa.Am
open Go Go.RowKit
set_option maxRecDepth 100000
set_option linter.unusedVariables false
set_option linter.unusedSimpArgs false

end Go.Proofs.Ytmakkmcjocjgmaa.Am


/- The statement ReduceRows, as the abstract machine runs it. -/
namespace Go.Proofs.Ytmakkmcjocjgmaa.Am
open Go Go.RowKit
set_option maxRecDepth 100000
set_option linter.unusedVariables false
set_option linter.unusedSimpArgs false

theorem Tiny.sub {f : Forest} {p q : Parts} (h : Tiny f p) (hs : Sub q p) : Tiny f q :=
  ⟨h.vars, fun v => Nat.le_trans (hs v).1.length_le (h.nodes v), fun v x hx => h.costN v x ((hs v).1.subset hx), fun v x hx => h.costL v x ((hs v).2.subset hx)⟩
end Go.Proofs.Ytmakkmcjocjgmaa.Am


/- The statement TreeRows, as the abstract machine runs it. -/
namespace Go.Proofs.Ytmakkmcjocjgmaa.Am
open Go Go.RowKit
set_option maxRecDepth 100000
set_option linter.unusedVariables false
set_option linter.unusedSimpArgs false

end Go.Proofs.Ytmakkmcjocjgmaa.Am


/- Rows as the document tells them. -/
namespace Go.Proofs.Ytmakkmcjocjgmaa.Am
open Go Go.RowKit
set_option maxRecDepth 100000
set_option linter.unusedVariables false
set_option linter.unusedSimpArgs false

end Go.Proofs.Ytmakkmcjocjgmaa.Am


/- Going down to the k-th answer, and how many stand ahead, plain. -/
namespace Go.Proofs.Ytmakkmcjocjgmaa.Am
open Go Go.RowKit
set_option maxRecDepth 100000
set_option linter.unusedVariables false
set_option linter.unusedSimpArgs false

def seek : List (List Int × Nat) → Int → Option (List Int × Int)
  | [], _ => none
  | x :: xs, k => if k < Y7 x.2 then some (x.1, k) else seek xs (k - Y7 x.2)
def wsum (xs : List (List Int × Nat)) : Nat := (xs.map Prod.snd).sum
def extW (T : TreeT) : Nat → List Int → Nat → List (List Int × Nat)
  | 0, ns, w => [(ns, w)]
  | d + 1, ns, w => (T.group ns.length (Yc T ns ns.length)).flatMap fun l => extW T d (ns ++ [l.b]) (w * l.n.toNat)
theorem wsum_append (xs ys : List (List Int × Nat)) : wsum (xs ++ ys) = wsum xs + wsum ys := by unfold wsum; rw [List.map_append, List.sum_append]
theorem wsum_flat {α : Type} {f : α → List (List Int × Nat)} : ∀ (xs : List α), wsum (xs.flatMap f) = (xs.map fun x => wsum (f x)).sum
  | [] => rfl
  | x :: xs => by rw [List.flatMap_cons, wsum_append, wsum_flat xs, List.map_cons, List.sum_cons]
theorem extW_sum {T : TreeT} (hT : GoodT T) : ∀ (d : Nat) (ns : List Int) (w : Nat), ns.length + d = T.vars.length → wsum (extW T d ns w) = w * cntW T ns
  | 0, ns, w, h => by rw [extW, cnt_full (by omega), Nat.mul_one]; simp [wsum]
  | d + 1, ns, w, h => by
    rw [extW, wsum_flat, cnt_step hT (by omega), sum_mul]
    refine Ui fun x _ => ?_
    rw [extW_sum hT d _ _ (by simp; omega), Nat.mul_assoc]
theorem seek_in {B : List (List Int × Nat)} : ∀ {A : List (List Int × Nat)} {k : Int}, 0 ≤ k → k < Y7 (wsum A) → seek (A ++ B) k = seek A k ∧ (seek A k).isSome = true
  | [], k, h0, h => by
    have : Y7 (wsum []) = 0 := by rw [show wsum [] = 0 from rfl]; exact cap_nil.symm
    omega
  | x :: A, k, h0, h => by
    have hM := most_pos
    have hw : wsum (x :: A) = x.2 + wsum A := by unfold wsum; rw [List.map_cons, List.sum_cons]
    rw [hw] at h
    show (if k < Y7 x.2 then _ else seek (A ++ B) (k - Y7 x.2)) = (if k < Y7 x.2 then _ else seek A (k - Y7 x.2)) ∧ (if k < Y7 x.2 then some (x.1, k) else seek A (k - Y7 x.2)).isSome = true
    by_cases h1 : k < Y7 x.2
    · rw [if_pos h1, if_pos h1]; exact ⟨rfl, rfl⟩
    · rw [if_neg h1, if_neg h1]
      refine seek_in (by omega) ?_
      unfold Y7 at *
      omega
theorem seek_out {B : List (List Int × Nat)} : ∀ {A : List (List Int × Nat)} {k : Int}, 0 ≤ k → k < Yz → Y7 (wsum A) ≤ k → seek (A ++ B) k = seek B (k - wsum A)
  | [], k, h0, hm, h => by
    rw [show wsum [] = 0 from rfl]
    show seek B k = seek B (k - ((0 : Nat) : Int))
    rw [show k - ((0 : Nat) : Int) = k by omega]
  | x :: A, k, h0, hm, h => by
    have hM := most_pos
    have hw : wsum (x :: A) = x.2 + wsum A := by unfold wsum; rw [List.map_cons, List.sum_cons]
    rw [hw] at h ⊢
    have e1 : Y7 x.2 = x.2 := by unfold Y7 at *; omega
    have e2 : (x.2 : Int) + wsum A ≤ k := by unfold Y7 at *; omega
    show (if k < Y7 x.2 then _ else seek (A ++ B) (k - Y7 x.2)) = _
    rw [if_neg (by omega), e1, seek_out (by omega) (by omega) (by unfold Y7; omega)]
    congr 1; omega
def atR : List RowT → Int → Option (Nat × Int)
  | [], _ => none
  | r :: rs, k => if k < r.n then some (0, k) else (atR rs (k - r.n)).map fun p => (p.1 + 1, p.2)
end Go.Proofs.Ytmakkmcjocjgmaa.Am


/- How many answers stand ahead of any nodes, row by row, plain. -/
namespace Go.Proofs.Ytmakkmcjocjgmaa.Am
open Go Go.RowKit
set_option maxRecDepth 100000
set_option linter.unusedVariables false
set_option linter.unusedSimpArgs false

end Go.Proofs.Ytmakkmcjocjgmaa.Am


/- Numbers split by sizes, plain. -/
namespace Go.Proofs.Ytmakkmcjocjgmaa.Am
open Go Go.RowKit
set_option maxRecDepth 100000
set_option linter.unusedVariables false
set_option linter.unusedSimpArgs false

def prodI : List Int → Int
  | [] => 1
  | s :: ss => s * prodI ss
def peel : List Int → Int → Int × List Int
  | [], k => (k, [])
  | s :: ss, k => ((peel ss k).1 / s, (peel ss k).1 % s :: (peel ss k).2)
theorem prodI_pos : ∀ {ss : List Int}, (∀ s ∈ ss, 0 < s) → 0 < prodI ss
  | [], _ => by decide
  | s :: ss, h => Int.mul_pos (h s (by simp)) (prodI_pos fun x hx => h x (by simp [hx]))
theorem prodI_zero : ∀ {ss : List Int}, (∀ s ∈ ss, 0 ≤ s) → ¬ (∀ s ∈ ss, 0 < s) → prodI ss = 0
  | [], _, h => absurd (fun s hs => by cases hs) h
  | s :: ss, h0, h => by
    rw [prodI]
    by_cases hs : s = 0
    · rw [hs, Int.zero_mul]
    · rw [prodI_zero (fun x hx => h0 x (by simp [hx])) (fun h2 => h fun x hx => by
        rcases List.mem_cons.1 hx with rfl | hx
        · have := h0 x (by simp); omega
        · exact h2 x hx), Int.mul_zero]
theorem peel_len : ∀ (ss : List Int) (k : Int), (peel ss k).2.length = ss.length
  | [], _ => rfl
  | s :: ss, k => by rw [peel]; simp [peel_len ss k]
theorem peel_fst : ∀ {ss : List Int} {k : Int}, (∀ s ∈ ss, 0 < s) → 0 ≤ k → (peel ss k).1 = k / prodI ss
  | [], k, _, _ => by rw [peel, prodI, Int.ediv_one]
  | s :: ss, k, h, h0 => by
    rw [peel, prodI, peel_fst (fun x hx => h x (by simp [hx])) h0, Int.mul_comm s, Int.ediv_ediv_of_nonneg (Int.le_of_lt (prodI_pos fun x hx => h x (by simp [hx])))]
theorem peel_le {ss : List Int} {k : Int} (h : ∀ s ∈ ss, 0 < s) (h0 : 0 ≤ k) : 0 ≤ (peel ss k).1 ∧ (peel ss k).1 ≤ k := by
  rw [peel_fst h h0]
  have := prodI_pos h
  exact ⟨Int.ediv_nonneg h0 (by omega), Int.ediv_le_self _ h0⟩
theorem wrap_u64a {x : Int} (h : 0 ≤ x) (h2 : x < 18446744073709551616) : IntKind.u64.wrap x = x := by
  simp [IntKind.wrap, IntKind.bits, IntKind.signed]; omega
def Ub (ss : List Int) : Int := ss.foldl Yh 1
theorem prodT_fold : ∀ {ss : List Int} {n : Nat}, (∀ s ∈ ss, 0 ≤ s) → ss.foldl Yh (Y7 n) = Y7 (n * (prodI ss).toNat)
  | [], n, _ => by rw [prodI]; simp
  | s :: ss, n, h => by
    have hs := h s (by simp)
    have h2 : 0 ≤ prodI ss := by
      by_cases hp : ∀ x ∈ ss, 0 < x
      · exact Int.le_of_lt (prodI_pos hp)
      · rw [prodI_zero (fun x hx => h x (by simp [hx])) hp]; decide
    rw [List.foldl_cons]
    have h3 : Yh (Y7 n) s = Y7 (n * s.toNat) := by
      rw [← timesI_cap, timesI_comm, timesI_comm (Y7 n), ← timesI_nat, Int.toNat_of_nonneg hs]
    rw [h3, prodT_fold (fun x hx => h x (by simp [hx])), prodI, Int.toNat_mul hs h2, Nat.mul_assoc]
theorem prodT_is {ss : List Int} (h : ∀ s ∈ ss, 0 ≤ s) : Ub ss = min (prodI ss) Yz ∧ 0 ≤ prodI ss := by
  have h2 : 0 ≤ prodI ss := by
    by_cases hp : ∀ x ∈ ss, 0 < x
    · exact Int.le_of_lt (prodI_pos hp)
    · rw [prodI_zero h hp]; decide
  refine ⟨?_, h2⟩
  unfold Ub
  rw [cap_one, prodT_fold h, Nat.one_mul]
  unfold Y7
  rw [Int.toNat_of_nonneg h2]
end Go.Proofs.Ytmakkmcjocjgmaa.Am


/- How large the places of a tree are. -/
namespace Go.Proofs.Ytmakkmcjocjgmaa.Am
open Go Go.RowKit
set_option maxRecDepth 100000
set_option linter.unusedVariables false
set_option linter.unusedSimpArgs false

def sizeTo (T : TreeT) (j : Nat) : Nat := ((T.links.take j).map List.length).sum
theorem sizeTo_next {T : TreeT} {j : Nat} (h : j < T.links.length) : sizeTo T (j + 1) = sizeTo T j + (T.links.getD j []).length := by
  unfold sizeTo
  rw [← Y2 h, List.map_append, List.sum_append, Y6 h]
  simp
theorem group_le (T : TreeT) (i : Nat) (a : Int) : (T.group i a).length ≤ (T.links.getD i []).length := by
  unfold TreeT.group
  split
  · unfold TreeT.row
    rw [Int.toNat_natCast]
    split
    · exact Nat.le_refl _
    · exact List.length_filter_le _ _
  · simp
theorem sizeTo_le {T : TreeT} (hT : GoodT T) : ∀ j, j ≤ T.vars.length → sizeTo T j ≤ j * 1000000
  | 0, _ => by simp [sizeTo]
  | j + 1, h => by
    have hl : j < T.links.length := by rw [hT.l2]; omega
    rw [sizeTo_next hl]
    have := sizeTo_le hT j (by omega)
    have h2 : (T.links.getD j []).length ≤ 1000000 := Ve hT.lens j
    omega
def belowW (T : TreeT) (d : Nat) (ns : List Int) (w : Nat) (g : List Link) : List (List Int × Nat) := g.flatMap fun l => extW T d (ns ++ [l.b]) (w * l.n.toNat)
theorem belowW_cons (T : TreeT) (d : Nat) (ns : List Int) (w : Nat) (l : Link) (g : List Link) : belowW T d ns w (l :: g) = extW T d (ns ++ [l.b]) (w * l.n.toNat) ++ belowW T d ns w g := rfl
theorem drop_next {α : Type} {g : List α} {m : Nat} (h : m < g.length) : g.drop m = g[m] :: g.drop (m + 1) := List.drop_eq_getElem_cons h
theorem seek_take {T : TreeT} (hT : GoodT T) {d : Nat} {ns : List Int} {w : Nat} {g : List Link} {m : Nat} {k : Int} (hm : m < g.length) (hd : ns.length + (d + 1) = T.vars.length) (h0 : 0 ≤ k) (h : k < Y7 (w * g[m].n.toNat * cntW T (ns ++ [g[m].b]))) : seek (belowW T d ns w (g.drop m)) k = seek (extW T d (ns ++ [g[m].b]) (w * g[m].n.toNat)) k := by
  rw [drop_next hm, belowW_cons]
  exact (seek_in h0 (by rw [extW_sum hT d _ _ (by simp; omega)]; exact h)).1
theorem seek_pass {T : TreeT} (hT : GoodT T) {d : Nat} {ns : List Int} {w : Nat} {g : List Link} {m : Nat} {k : Int} (hm : m < g.length) (hd : ns.length + (d + 1) = T.vars.length) (h0 : 0 ≤ k) (hk : k < Y7 (wsum (belowW T d ns w (g.drop m)))) (h : ¬ k < Y7 (w * g[m].n.toNat * cntW T (ns ++ [g[m].b]))) :
    seek (belowW T d ns w (g.drop m)) k = seek (belowW T d ns w (g.drop (m + 1))) (k - Y7 (w * g[m].n.toNat * cntW T (ns ++ [g[m].b]))) ∧ 0 ≤ k - Y7 (w * g[m].n.toNat * cntW T (ns ++ [g[m].b])) ∧ k - Y7 (w * g[m].n.toNat * cntW T (ns ++ [g[m].b])) < Y7 (wsum (belowW T d ns w (g.drop (m + 1)))) := by
  have hM := most_pos
  have hs := extW_sum hT d (ns ++ [g[m].b]) (w * g[m].n.toNat) (by simp; omega)
  rw [drop_next hm, belowW_cons] at hk ⊢
  rw [wsum_append, hs] at hk
  generalize hx : w * g[m].n.toNat * cntW T (ns ++ [g[m].b]) = X at *
  have e1 : Y7 X = X := by unfold Y7 at *; omega
  rw [seek_out h0 (by unfold Y7 at hk; omega) (by rw [hs]; omega), hs, e1]
  exact ⟨rfl, by omega, by unfold Y7 at *; omega⟩
end Go.Proofs.Ytmakkmcjocjgmaa.Am


/- A place is counted: the walk. -/
namespace Go.Proofs.Ytmakkmcjocjgmaa.Am
open Go Go.RowKit
set_option maxRecDepth 100000
set_option linter.unusedVariables false
set_option linter.unusedSimpArgs false

theorem av_lookup2_is {P : Program} {t : Fr} {H : Hp} {d : Option Tmp} {ty : TypeId} {pos : String} {after : Array Edge} {guard : Option (Nat × Bool)} {mt kt et : TypeId} {K : Value → Prop} {x y : Operand} {b : Nat} {es : List (Value × Value)} {k z v : Value} {is : Bool} (hv : (Yl es k).getD z = v) (hi : (Yl es k).isSome = is) (hu : P.underlying mt = some (.map kt et)) (hK : KeyTy P kt K) (hz : (P.info? et).map (·.zero) = some (some z)) (hp : ∀ φ : Inj, VRel φ z z)
    (hx : t.eval x = .map (some b)) (hy : t.eval y = k) (hk : K k) (hb : H.get b = .map es ∨ H.get b = .romap es) (hes : ∀ e ∈ es, K e.1) :
    AVal P ⟨d, .lookup mt x y true, ty, pos, after, guard⟩ t [b] H (.tuple #[v, .bool is]) := by
  subst hv hi
  exact av_lookup2 hu hK hz hp hx hy hk hb hes
set_option maxHeartbeats 4000000 in
theorem fill_cnt {T : TreeT} (hT : GoodT T) (hF : FewA T) {tb cb mb ms : Nat} {K : Hp} (htK : TreeR K (.pointer (some ⟨tb, 0, none⟩)) T) (d i : Nat) (hid : i < d) (hiv : i < T.vars.length) {H : Hp} (zb : K.size ≤ mb) (zs : K.size ≤ ms) (zc : K.size ≤ cb) (hne : mb ≠ ms) {es10 es20 : List (Value × Value)}
    (h0 : FillS T K tb cb mb ms i es10 es20 H es10 es20) (hkid : ∀ k ∈ kidsT T i, ∀ b ∈ Zp T (d + 1) k, cntAt es20 k b = Vx T T.vars.length k b) :
    ACalls Try.prog 36 #[.pointer (some ⟨cb, 0, none⟩), .int .i64 i] H (fun r H' => ∃ es1 es2, FillS T K tb cb mb ms i es10 es20 H' es1 es2 ∧ (∀ a ∈ Zp T d i, Yl es2 (Yu i a) = some (.int .u64 (Vx T T.vars.length i a))) ∧ (∀ a ∈ Zp T d i, ∀ x ∈ T.group i a, Yl es1 (Yu i x.b) = some (.int .u64 (Vu T T.vars.length i x.b)))) := by
  refine Xr Try.func36 rfl rfl rfl (by simp) ?_
  refine Xd ?_
  refine Xb (by kernel_rfl) ?_
  refine Xa (Xq rfl) ?_
  refine Xa (Xc rfl) ?_
  refine X0 (Xy (above_cnt hT hF d i hid hiv _ h0.hc h0.lc (htK.mono h0.le)) rfl Try.func49 rfl rfl rfl ?_)
  rintro v15 H1 ⟨le1, slL⟩; obtain ⟨L, hL⟩ : ∃ L, L = Zp T d i := ⟨_, rfl⟩; rw [← hL] at slL; have hLl := (hF d i).2; rw [← hL] at hLl; obtain ⟨AA, cA, rfl⟩ := slL.shape; have h1 := h0.later le1; have zL := le1.1; have hkidlen : (kidsT T i).length ≤ 1000 := Nat.le_trans (List.length_filter_le _ _) (by rw [List.length_range, hT.l1]; exact hT.few); have hbelow : belowL T.parent i = (kidsT T i).map (fun (k : Nat) => (k : Int)) := (by unfold belowL; rw [if_neg (by omega)]; rfl)
  refine Xa (Ys rfl Try.underlying33) ?_
  refine Xa (Xc rfl) ?_
  refine Ya ?_
  refine Y9 (fun n t H' => ∃ (j : Nat) (es1 es2 : List (Value × Value)) (D : Option Addr), n = L.length - j ∧ j ≤ L.length ∧ FillS T K tb cb mb ms i es10 es20 H' es1 es2 ∧ Sl (Yy .i64) H' (.slice D L.length cA) L ∧ (∀ a ∈ L.take j, Yl es2 (Yu i a) = some (.int .u64 (Vx T T.vars.length i a))) ∧ (∀ a ∈ L.take j, ∀ x ∈ T.group i a, Yl es1 (Yu i x.b) = some (.int .u64 (Vu T T.vars.length i x.b))) ∧ t 0 = .pointer (some ⟨cb, 0, none⟩) ∧ t 1 = .int .i64 i ∧ t 15 = .slice D L.length cA ∧ t 16 = .int .i64 L.length ∧ t 17 = .int .i64 j) (L.length) (⟨0, es10, es20, _, rfl, Nat.zero_le _, h1, slL, fun a h => (by simp at h), fun a h => (by simp at h), rfl, rfl, rfl, rfl, rfl⟩) ?_
  rintro n t H2 ⟨j, es1, es2, D, rfl, hj, hS, slA, hd2, hd1, e0, e1, e15, e16, e17⟩
  refine Xd ?_
  refine Xb (by kernel_rfl) ?_
  refine Xa (Zj Xl Xl) ?_
  refine Xd ?_
  refine X6 rfl rfl ?_ ?_
  intro hc1
  have hjl : j < L.length := by have := of_decide_eq_true hc1; omega
  obtain ⟨bA, oA, eA, hbA, hcA⟩ := slA.int_at (i := (j : Int)) (by omega) (by omega)
  rw [Int.toNat_natCast] at hcA
  obtain ⟨a, ha⟩ : ∃ a, a = L.getD j 0 := ⟨_, rfl⟩
  rw [← ha] at hcA
  subst eA
  have haL : a ∈ Zp T d i := by rw [← hL, ha, Zc hjl]; exact List.getElem_mem hjl
  have hcb2 := hS.hc
  refine X9 ?_
  refine Xd ?_
  refine Ya ?_
  refine Xd ?_
  refine Xb (by kernel_rfl) ?_
  refine Xa (Xt Xl Xl Try.underlying33 inf3.size X7 X7) ?_
  refine Xa (Xi rfl Try.underlying3 rfl Xs) ?_
  refine Xa (Xf rfl) ?_
  refine Xd ?_
  refine Xb (by kernel_rfl) ?_
  refine Xa (Xf rfl) ?_
  refine Xd ?_
  refine Xd ?_
  refine Xb (by kernel_rfl) ?_
  refine Xa (Xq Xl) ?_
  refine Xa (X4 rfl) ?_
  refine Xa (Xg (off := 0) rfl Try.underlying82 rfl inf53.size (by decide) rfl) ?_
  refine Xa (Xi rfl Try.underlying53 rfl Xs) ?_
  refine Xa (Xc Xl) ?_
  refine Xa (Xc rfl) ?_
  refine X0 (Xy (Group_tree (htK.mono hS.le) hT.l1 hT.l2 hT.lens (i : Int) _) rfl Try.func50 rfl rfl rfl ?_)
  rintro v27 H5 ⟨GL, leL, hownL⟩; obtain ⟨g, hg⟩ : ∃ g, g = T.group i a := ⟨_, rfl⟩; rw [← hg] at hownL; have slg := hownL.sl; obtain ⟨AG, cG, rfl⟩ := slg.shape; have le25 := Hp.le_trans leL hownL.le; have hS5 := hS.later le25; have slA5 := slA.mono le25.sees; have hgl := group_len hT.lens (i : Int) a; rw [← hg] at hgl
  refine Xa (Ys rfl Try.underlying68) ?_
  refine Xa (Xc rfl) ?_
  refine Ya ?_
  refine Y9 (fun n t H' => ∃ (m : Nat) (es1' : List (Value × Value)) (D1 D2 : Option Addr), n = g.length - m ∧ m ≤ g.length ∧ FillS T K tb cb mb ms i es10 es20 H' es1' es2 ∧ Sl (Yy .i64) H' (.slice D1 L.length cA) L ∧ Sl kLink H' (.slice D2 g.length cG) g ∧ (∀ b v, Yl es1 (Yu i b) = some v → Yl es1' (Yu i b) = some v) ∧ (∀ x ∈ g.take m, Yl es1' (Yu i x.b) = some (.int .u64 (Vu T T.vars.length i x.b))) ∧ t 0 = .pointer (some ⟨cb, 0, none⟩) ∧ t 1 = .int .i64 i ∧ t 5 = .int .i64 a ∧ t 6 = .int .u64 ((g.take m).foldl (fun s x => addI s (Yh x.n (Vu T T.vars.length i x.b))) 0) ∧ t 15 = .slice D1 L.length cA ∧ t 16 = .int .i64 L.length ∧ t 17 = .int .i64 j ∧ t 27 = .slice D2 g.length cG ∧ t 28 = .int .i64 g.length ∧ t 29 = .int .i64 m) (g.length) (⟨0, es1, _, _, rfl, Nat.zero_le _, hS5, slA5, slg, fun b v h => h, fun x h => (by simp at h), e0, e1, rfl, rfl, e15, e16, e17, rfl, rfl, rfl⟩) ?_
  rintro n t H6 ⟨m, es1', D1, D2, rfl, hm, hS6, slA6, slg6, hmo, hd6, e0, e1, e5, e6, e15, e16, e17, e27, e28, e29⟩
  have hcb6 := hS6.hc
  refine Xd ?_
  refine Xb (by kernel_rfl) ?_
  refine Xa (Zj Xl Xl) ?_
  refine Xd ?_
  refine X6 rfl rfl ?_ ?_
  intro hc2
  have hml : m < g.length := by have := of_decide_eq_true hc2; omega
  obtain ⟨bg, og, eg, hbg, hcg⟩ := slg6.link_at hml
  obtain ⟨l, hl⟩ : ∃ l, l = g[m] := ⟨_, rfl⟩
  rw [← hl] at hcg
  subst eg
  refine X9 ?_
  refine Xd ?_
  refine Ya ?_
  refine Xd ?_
  refine Xb (by kernel_rfl) ?_
  refine Xa (Xt Xl Xl Try.underlying68 inf70.size X7 X7) ?_
  refine Xa (Yp (cs := [.int .i64 _, .int .i64 _, .int .i64 _, .int .u64 _]) rfl Try.underlying70 rfl inf70.size Yf) ?_
  refine X5 (Y3 (l := [.int .i64 0, .int .i64 0, .int .i64 0, .int .u64 0]) inf70.zero rfl (by decide)) ?_
  first | refine X0 (Ym (vs := [.int .i64 _, .int .i64 _, .int .i64 _, .int .u64 _]) rfl rfl inf70.size Ye Yk rfl rfl ?_)
  refine Xd ?_
  obtain ⟨H7, hH7⟩ : ∃ H7, H7 = (H6.push (.own 0 [.int .i64 0, .int .i64 0, .int .i64 0, .int .u64 0])).put H6.size (.own 0 [.int .i64 l.a, .int .i64 l.b, .int .i64 l.cost, .int .u64 l.n]) := ⟨_, rfl⟩
  have le67 : H6.le H7 := by rw [hH7]; exact Hp.le_put_new (H6.le_push _) (Nat.le_refl _) _
  have hb7 : H7.get H6.size = .own 0 [.int .i64 l.a, .int .i64 l.b, .int .i64 l.cost, .int .u64 l.n] := by rw [hH7]; exact Hp.put_same _ _ _
  have z7 : H7.size = H6.size + 1 := by rw [hH7]; simp
  change ACode true _ _ _ _ _ ((H6.push (.own 0 [.int .i64 0, .int .i64 0, .int .i64 0, .int .u64 0])).put H6.size (.own 0 [.int .i64 l.a, .int .i64 l.b, .int .i64 l.cost, .int .u64 l.n]))
  rw [← hH7]
  clear hH7
  have hS7 := hS6.later le67
  have hcb7 := hS7.hc
  have hlc7 := hS7.lc
  have hms7 := hS7.hs
  have hmb7 := hS7.hb
  have hlb7 := hS7.lb
  have hlb6 := hS6.lb
  have hls7 := hS7.ls
  have slA7 := slA6.mono le67.sees
  have slg7 := slg6.mono le67.sees
  obtain ⟨is, v0, hv0, his, hisv⟩ : ∃ (is : Bool) (v0 : Int), (Yl es1' (Yu i l.b)).getD (.int .u64 0) = .int .u64 v0 ∧ (Yl es1' (Yu i l.b)).isSome = is ∧ (is = true → v0 = Vu T T.vars.length i l.b ∧ Yl es1' (Yu i l.b) = some (.int .u64 (Vu T T.vars.length i l.b))) := by
    rcases hS7.v1 l.b with h | h
    · exact ⟨false, 0, by rw [h]; rfl, by rw [h]; rfl, fun h => (by cases h)⟩
    · exact ⟨true, _, by rw [h.1]; rfl, by rw [h.1]; rfl, fun _ => ⟨rfl, h.1⟩⟩
  have hlg : l ∈ T.group i a := by rw [← hg, hl]; exact List.getElem_mem hml
  have hbel := belT_nonneg hT T.vars.length i l.b
  refine Yw (by kernel_rfl) (Zb (B := [0, 1, 3, 7, 0, 0, 32, 112, 255, 511, 1023, 1023, 2047, 8191]) (π := [0, 1, 2, 3, 4, 5, 6, 7, 8, 9, 10, 11, 12, 13]) (by kernel_rfl)) ?_
  refine Xe rfl rfl (Xq Xl) Xp ?_
  refine Xe rfl rfl (X4 rfl) Xp ?_
  refine Xe rfl rfl (Xg (off := 1) rfl Try.underlying82 rfl inf80.size (by decide) rfl) Xp ?_
  refine Xe rfl rfl (Xi rfl Try.underlying80 rfl Xs) Xp ?_
  refine Xe rfl rfl (Xc Xl) Xp ?_
  refine Xe rfl rfl (Xg (off := 1) rfl Try.underlying70 rfl inf3.size (by decide) rfl) Xp ?_
  refine Xe rfl rfl (Xi rfl Try.underlying3 rfl Xs) Xp ?_
  refine Xe rfl rfl (Y0 (pl := [(0, 1), (1, 1)]) (r := [.int .i64 _, .int .i64 _]) Try.underlying105 inf105.zero (by decide) rfl rfl) Xp ?_
  refine Xe rfl rfl (av_lookup2_is hv0 his Try.underlying80 V9 inf22.zero (fun φ => .int _ _) rfl rfl ⟨_, _, rfl⟩ (.inl hmb7) hS7.i1.keys) Xp ?_
  refine Xe rfl rfl (Zo rfl) Xp ?_
  refine Xe rfl rfl (Yo rfl rfl) Xp ?_
  refine Xe rfl rfl (Yo rfl rfl) Xp ?_
  refine Xe rfl rfl (Xf rfl) Xp ?_
  refine Xe rfl rfl (Xm rfl) Xp ?_
  refine Xd ?_
  refine Xd ?_
  refine Xb (by kernel_rfl) ?_
  refine Xa (Xu rfl) ?_
  refine Xa (Vm rfl) ?_
  refine ac_cut (fun t H' => ∃ (es1'' : List (Value × Value)), FillS T K tb cb mb ms i es10 es20 H' es1'' es2 ∧ Sl (Yy .i64) H' (.slice D1 L.length cA) L ∧ Sl kLink H' (.slice (some ⟨bg, og, none⟩) g.length cG) g ∧ (∀ b v, Yl es1' (Yu i b) = some v → Yl es1'' (Yu i b) = some v) ∧ Yl es1'' (Yu i l.b) = some (.int .u64 (Vu T T.vars.length i l.b)) ∧ H6.size < H'.size ∧ H'.get H6.size = .own 0 [.int .i64 l.a, .int .i64 l.b, .int .i64 l.cost, .int .u64 l.n] ∧ t 0 = .pointer (some ⟨cb, 0, none⟩) ∧ t 1 = .int .i64 i ∧ t 5 = .int .i64 a ∧ t 6 = .int .u64 ((g.take m).foldl (fun s x => addI s (Yh x.n (Vu T T.vars.length i x.b))) 0) ∧ t 8 = .pointer (some ⟨H6.size, 0, none⟩) ∧ t 9 = .int .u64 (Vu T T.vars.length i l.b) ∧ t 15 = .slice D1 L.length cA ∧ t 16 = .int .i64 L.length ∧ t 17 = .int .i64 j ∧ t 27 = .slice (some ⟨bg, og, none⟩) g.length cG ∧ t 28 = .int .i64 g.length ∧ t 29 = .int .i64 m) ?_ ?_
  refine X6 rfl rfl ?_ ?_
  intro hc3
  have hno : is = false := by have h := hc3; simpa using h
  refine Xd ?_
  refine Xb (by kernel_rfl) ?_
  refine Xa (Xf rfl) ?_
  refine Xd ?_
  refine Xd ?_
  refine Xb (by kernel_rfl) ?_
  refine Xa (Xq Xl) ?_
  refine Xa (X4 rfl) ?_
  refine Xa (Xg (off := 0) rfl Try.underlying82 rfl inf53.size (by decide) rfl) ?_
  refine Xa (Xi rfl Try.underlying53 rfl Xs) ?_
  refine Xa (Xc Xl) ?_
  refine X0 (Xy (Below_tree (htK.mono hS7.le) (by rw [hT.l1]; exact Nat.le_trans hT.few (by decide)) (i : Int)) rfl Try.func51 rfl rfl rfl ?_)
  rintro v52 H8 ⟨GK, leK8, hownK⟩; rw [hbelow] at hownK; have slK := hownK.sl; obtain ⟨DK, cK, rfl⟩ := slK.shape; have le78 := Hp.le_trans leK8 hownK.le; have z8 := le78.1; have hS8 := hS7.later le78; have slA8 := slA7.mono le78.sees; have slg8 := slg7.mono le78.sees; have hb8 := Xz le78 (by omega) (by intro e; cases e) hb7; obtain ⟨kids, hkids⟩ : ∃ kids, kids = kidsT T i := ⟨_, rfl⟩; rw [← hkids] at slK hkidlen; rw [← hkids]; have hmapl : (kids.map (fun (k : Nat) => (k : Int))).length = kids.length := List.length_map _; rw [hmapl] at slK; rw [hmapl]; have hlb8 := hS8.lb; have hls8 := hS8.ls; have hcb8 := hS8.hc; have hlc8 := hS8.lc
  refine Xa (Ys rfl Try.underlying33) ?_
  refine Xa (Xc rfl) ?_
  refine Ya ?_
  refine Y9 (fun n t H' => ∃ (q : Nat) (D3 : Option Addr), n = kids.length - q ∧ q ≤ kids.length ∧ H' = H8 ∧ Sl (Yy .i64) H8 (.slice D3 kids.length cK) (kids.map (fun (k : Nat) => (k : Int))) ∧ t 0 = .pointer (some ⟨cb, 0, none⟩) ∧ t 1 = .int .i64 i ∧ t 5 = .int .i64 a ∧ t 6 = .int .u64 ((g.take m).foldl (fun s x => addI s (Yh x.n (Vu T T.vars.length i x.b))) 0) ∧ t 8 = .pointer (some ⟨H6.size, 0, none⟩) ∧ t 9 = .int .u64 ((kids.take q).foldl (fun n k => Yh n (Vx T T.vars.length k l.b)) 1) ∧ t 15 = .slice D1 L.length cA ∧ t 16 = .int .i64 L.length ∧ t 17 = .int .i64 j ∧ t 27 = .slice (some ⟨bg, og, none⟩) g.length cG ∧ t 28 = .int .i64 g.length ∧ t 29 = .int .i64 m ∧ t 52 = .slice D3 kids.length cK ∧ t 53 = .int .i64 kids.length ∧ t 54 = .int .i64 q) (kids.length) (⟨0, _, rfl, Nat.zero_le _, rfl, slK, e0, e1, e5, e6, rfl, rfl, e15, e16, e17, e27, e28, e29, rfl, rfl, rfl⟩) ?_
  rintro n t H8 ⟨q, D3, rfl, hq, rfl, slK, e0, e1, e5, e6, e8, e9, e15, e16, e17, e27, e28, e29, e52, e53, e54⟩
  refine Xd ?_
  refine Xb (by kernel_rfl) ?_
  refine Xa (Zj Xl Xl) ?_
  refine Xd ?_
  refine X6 rfl rfl ?_ ?_
  intro hc4
  have hql : q < kids.length := by have := of_decide_eq_true hc4; omega
  obtain ⟨bK, oK, eK, hbK, hcK⟩ := slK.int_at (i := (q : Int)) (by omega) (by omega)
  rw [Int.toNat_natCast] at hcK
  obtain ⟨k, hk⟩ : ∃ k, k = kids[q] := ⟨_, rfl⟩
  have hkq : (kids.map (fun (k : Nat) => (k : Int))).getD q 0 = (k : Int) := by rw [List.getD_eq_getElem?_getD, List.getElem?_map, List.getElem?_eq_getElem hql, ← hk]; rfl
  rw [hkq] at hcK
  subst eK
  have hkm : k ∈ kidsT T i := by rw [← hkids, hk]; exact List.getElem_mem hql
  obtain ⟨hik, hkv⟩ := kids_lt hT hkm
  have hkp : T.parent.getD k 0 = (i : Int) := by unfold kidsT at hkm; exact of_decide_eq_true (List.mem_filter.1 hkm).2
  have hget : (Yl es2 (Yu k l.b)).getD (.int .u64 0) = .int .u64 (Vx T T.vars.length k l.b) := by
    rw [(hS8.i2.get k l.b).1, ← hkid k hkm l.b ((above_child d hkp l.b).2 ⟨a, haL, l, hlg, rfl⟩)]
    unfold cntAt
    rw [hS8.o2 k l.b (by omega)]
  have hsk := Vs hT T.vars.length k l.b
  have hfk : 0 ≤ (kids.take q).foldl (fun n k => Yh n (Vx T T.vars.length k l.b)) 1 := fold_times (by decide) fun k _ => Vs hT _ _ _
  have hnextk : Yh ((kids.take q).foldl (fun n k => Yh n (Vx T T.vars.length k l.b)) 1) (Vx T T.vars.length k l.b) = (kids.take (q + 1)).foldl (fun n k => Yh n (Vx T T.vars.length k l.b)) 1 := by
    rw [← Y2 hql, List.foldl_append, ← hk]; rfl
  refine X9 ?_
  refine Xd ?_
  refine Ya ?_
  refine Xd ?_
  refine Xb (by kernel_rfl) ?_
  refine Xa (Xt Xl Xl Try.underlying33 inf3.size X7 X7) ?_
  refine Xa (Xi rfl Try.underlying3 rfl Xs) ?_
  refine Xa (Xf rfl) ?_
  refine Yw (by kernel_rfl) (Zb (B := [0, 0, 2, 6, 14, 0, 0, 64, 224, 510, 1023, 2047]) (π := [0, 1, 2, 3, 4, 5, 6, 7, 8, 9, 10, 11]) (by kernel_rfl)) ?_
  refine Xe rfl rfl (Xc Xl) Xp ?_
  refine Xe rfl rfl (Xq Xl) Xp ?_
  refine Xe rfl rfl (X4 rfl) Xp ?_
  refine Xe rfl rfl (Xg (off := 2) rfl Try.underlying82 rfl inf80.size (by decide) rfl) Xp ?_
  refine Xe rfl rfl (Xi rfl Try.underlying80 rfl Xs) Xp ?_
  refine Xe rfl rfl (Xc rfl) Xp ?_
  refine Xe rfl rfl (Xg (off := 1) Xl Try.underlying70 Xl inf3.size (by decide) Xl) Xp ?_
  refine Xe rfl rfl (Xi rfl Try.underlying3 rfl Xs) Xp ?_
  refine Xe rfl rfl (Y0 (pl := [(0, 1), (1, 1)]) (r := [.int .i64 _, .int .i64 _]) Try.underlying105 inf105.zero (by decide) rfl rfl) Xp ?_
  refine Xe rfl rfl (av_lookup_is hget Try.underlying80 V9 inf22.zero (fun φ => .int _ _) rfl rfl ⟨_, _, rfl⟩ (.inl hS8.hs) hS8.i2.keys) Xp ?_
  refine Yi rfl rfl (Xy (Vj _ _ hfk hsk _) rfl Try.func28 rfl rfl rfl ?_)
  rintro v68 H8 ⟨rfl, rfl⟩
  refine ⟨Yg, ?_⟩
  refine Xe rfl rfl (Xf rfl) Xp ?_
  refine Xb (by kernel_rfl) ?_
  refine Xa (Yj Xl Xl Yv) ?_
  refine Xa (Xc rfl) ?_
  exact ⟨kids.length - (q + 1), by omega, q + 1, _, rfl, by omega, rfl, slK, e0, e1, e5, e6, e8, congrArg (Value.int .u64) hnextk, e15, e16, e17, e27, e28, e29, e52, e53, rfl⟩
  intro hc4
  have hql : ¬ q < kids.length := by have := of_decide_eq_false hc4; omega
  have hbv : (kids.take q).foldl (fun n k => Yh n (Vx T T.vars.length k l.b)) 1 = Vu T T.vars.length i l.b := by rw [List.take_of_length_le (by omega), hkids]; rfl
  rw [hbv] at e9
  refine Y5 ?_
  refine Yw (by kernel_rfl) (Zb (B := [0, 1, 3, 7, 0, 0, 32, 112, 0, 511]) (π := [0, 1, 2, 3, 4, 5, 6, 7, 8, 9]) (by kernel_rfl)) ?_
  refine Xe rfl rfl (Xq Xl) Xp ?_
  refine Xe rfl rfl (X4 rfl) Xp ?_
  refine Xe rfl rfl (Xg (off := 1) rfl Try.underlying82 rfl inf80.size (by decide) rfl) Xp ?_
  refine Xe rfl rfl (Xi rfl Try.underlying80 rfl Xs) Xp ?_
  refine Xe rfl rfl (Xc Xl) Xp ?_
  refine Xe rfl rfl (Xg (off := 1) Xl Try.underlying70 Xl inf3.size (by decide) Xl) Xp ?_
  refine Xe rfl rfl (Xi rfl Try.underlying3 rfl Xs) Xp ?_
  refine Xe rfl rfl (Y0 (pl := [(0, 1), (1, 1)]) (r := [.int .i64 _, .int .i64 _]) Try.underlying105 inf105.zero (by decide) rfl rfl) Xp ?_
  refine Xe rfl rfl (Xc Xl) Xp ?_
  refine Yi rfl rfl (Vk Try.underlying80 V9 rfl rfl rfl ⟨_, _, rfl⟩ hS8.hb hS8.i1.keys ?_)
  refine ⟨Yg, ?_⟩
  first
    | exact ⟨es1', hS7, slA7, slg7, fun b v h => h, (hisv hyes).2, by omega, hb7, e0, e1, e5, e6, rfl, congrArg (Value.int .u64) (hisv hyes).1, e15, e16, e17, e27, e28, e29⟩
    | exact ⟨_, hS8.put1 zb hne l.b hbel ⟨a, l, hlg, rfl⟩, slA8.mono (Hp.sees_map _ hS8.hb _), slg8.mono (Hp.sees_map _ hS8.hb _), fun b v h => by
          have hbl : b ≠ l.b := fun e => by subst e; rw [h, hno] at his; cases his
          rw [Zi (fun e => hbl (Zx e).2)]; exact h, Vd, by simp only [Hp.put_size]; omega, by rw [Hp.put_other _ _ (by omega)]; exact hb8, e0, e1, e5, e6, e8, e9, e15, e16, e17, e27, e28, e29⟩
  intro hc3
  have hyes : is = true := by have h := hc3; simpa using h
  refine X9 ?_
  first
    | exact ⟨es1', hS7, slA7, slg7, fun b v h => h, (hisv hyes).2, by omega, hb7, e0, e1, e5, e6, rfl, congrArg (Value.int .u64) (hisv hyes).1, e15, e16, e17, e27, e28, e29⟩
    | exact ⟨_, hS8.put1 zb hne l.b hbel ⟨a, l, hlg, rfl⟩, slA8.mono (Hp.sees_map _ hS8.hb _), slg8.mono (Hp.sees_map _ hS8.hb _), fun b v h => by
          have hbl : b ≠ l.b := fun e => by subst e; rw [h, hno] at his; cases his
          rw [Zi (fun e => hbl (Zx e).2)]; exact h, Vd, by simp only [Hp.put_size]; omega, by rw [Hp.put_other _ _ (by omega)]; exact hb8, e0, e1, e5, e6, e8, e9, e15, e16, e17, e27, e28, e29⟩
  rintro t H9 ⟨es1'', hS9, slA9, slg9, hmo9, hat9, hlt9, hb9, e0, e1, e5, e6, e8, e9, e15, e16, e17, e27, e28, e29⟩
  have hcb9 := hS9.hc
  have hfg : 0 ≤ (g.take m).foldl (fun s x => addI s (Yh x.n (Vu T T.vars.length i x.b))) 0 := fold_add (f := fun (x : Link) => Yh x.n (Vu T T.vars.length i x.b)) (Int.le_refl 0) fun x hx => (Vi (hT.group_mem (i := (i : Int)) (above := a) (by rw [← hg]; exact List.mem_of_mem_take hx)).2.2 (belT_nonneg hT _ _ _)).1
  have hln := (hT.group_mem hlg).2.2
  have hnextg : addI ((g.take m).foldl (fun s x => addI s (Yh x.n (Vu T T.vars.length i x.b))) 0) (Yh l.n (Vu T T.vars.length i l.b)) = (g.take (m + 1)).foldl (fun s x => addI s (Yh x.n (Vu T T.vars.length i x.b))) 0 := by
    rw [← Y2 hml, List.foldl_append, ← hl]; rfl
  have hdn9 : ∀ x ∈ g.take (m + 1), Yl es1'' (Yu i x.b) = some (.int .u64 (Vu T T.vars.length i x.b)) := fun x hx => by
    rw [← Y2 hml, List.mem_append, List.mem_singleton] at hx
    rcases hx with hx | hx
    · exact hmo9 _ _ (hd6 x hx)
    · rw [hx, ← hl]; exact hat9
  refine Xb (by kernel_rfl) ?_
  refine Xa (Xc Xl) ?_
  refine Xa (Xg (off := 3) Xl Try.underlying70 Xl inf22.size (by decide) Xl) ?_
  refine Xa (Xi rfl Try.underlying22 rfl Xs) ?_
  refine Xa (Xc Xl) ?_
  refine X0 (Xy (Vj _ _ hln hbel _) rfl Try.func28 rfl rfl rfl ?_)
  rintro v83 H9 ⟨rfl, rfl⟩
  refine X0 (Xy (Add_u64 _ _ hfg (Vi hln hbel).1 _) rfl Try.func52 rfl rfl rfl ?_)
  rintro v84 H9 ⟨rfl, rfl⟩
  refine Xa (Xf rfl) ?_
  refine Xb (by kernel_rfl) ?_
  refine Xa (Yj Xl Xl Yv) ?_
  refine Xa (Xc rfl) ?_
  exact ⟨g.length - (m + 1), by omega, m + 1, es1'', _, _, rfl, by omega, hS9, slA9, slg9, fun b v h => hmo9 b v (hmo b v h), hdn9, e0, e1, e5, congrArg (Value.int .u64) hnextg, e15, e16, e17, e27, e28, rfl⟩
  intro hc2
  have hml : ¬ m < g.length := by have := of_decide_eq_false hc2; omega
  refine Y5 ?_
  have hsv : (g.take m).foldl (fun s x => addI s (Yh x.n (Vu T T.vars.length i x.b))) 0 = Vx T T.vars.length i a := by rw [List.take_of_length_le (by omega), sum_is hT hiv, hg]
  rw [hsv] at e6
  have hS10 := hS6.put2 zs hne a _ (Vs hT _ _ _) rfl
  have slA10 := slA6.mono (Hp.sees_map _ hS6.hs (.map (Zy es2 (Yu i a) (.int .u64 (Vx T T.vars.length i a)))))
  refine Xb (by kernel_rfl) ?_
  refine Xa (Xq Xl) ?_
  refine Xa (X4 rfl) ?_
  refine Xa (Xg (off := 2) rfl Try.underlying82 rfl inf80.size (by decide) rfl) ?_
  refine Xa (Xi rfl Try.underlying80 rfl Xs) ?_
  refine Xa (Xc Xl) ?_
  refine Xa (Xc Xl) ?_
  refine Xa (Y0 (pl := [(0, 1), (1, 1)]) (r := [.int .i64 _, .int .i64 _]) Try.underlying105 inf105.zero (by decide) rfl rfl) ?_
  refine Xa (Xc Xl) ?_
  refine X0 (Vk Try.underlying80 V9 rfl rfl rfl ⟨_, _, rfl⟩ hS6.hs hS6.i2.keys ?_)
  refine Xb (by kernel_rfl) ?_
  refine Xa (Yj Xl Xl Yv) ?_
  refine Xa (Xc rfl) ?_
  refine ⟨L.length - (j + 1), by omega, j + 1, es1', _, _, rfl, by omega, hS10, slA10, fun c hc => ?_, fun c hc x hx => ?_, e0, e1, e15, e16, rfl⟩
  · by_cases h : c = a
    · subst h; exact Vd
    · rw [Zi (fun e => h (Zx e).2)]
      rw [← Y2 hjl, List.mem_append, List.mem_singleton, ← Zc hjl, ← ha] at hc
      exact hd2 c (hc.resolve_right h)
  · rw [← Y2 hjl, List.mem_append, List.mem_singleton, ← Zc hjl, ← ha] at hc
    rcases hc with hc | hc
    · exact hmo _ _ (hd1 c hc x hx)
    · subst hc
      rw [← hg] at hx
      exact hd6 x (by rw [List.take_of_length_le (by omega)]; exact hx)
  intro hc1
  have hjl : ¬ j < L.length := by have := of_decide_eq_false hc1; omega
  refine Y5 ?_
  rw [List.take_of_length_le (by omega)] at hd1 hd2
  exact ⟨_, aresult0, es1, es2, hS, fun a h => hd2 a (by rw [hL]; exact h), fun a h => hd1 a (by rw [hL]; exact h)⟩
end Go.Proofs.Ytmakkmcjocjgmaa.Am


/- Counts are made. -/
namespace Go.Proofs.Ytmakkmcjocjgmaa.Am
open Go Go.RowKit
set_option maxRecDepth 100000
set_option linter.unusedVariables false
set_option linter.unusedSimpArgs false

structure NewS (T : TreeT) (K : Hp) (tb cb mb ms m : Nat) (H : Hp) (es1 es2 : List (Value × Value)) : Prop where
  le : K.le H
  hc : H.get cb = .own 0 [.pointer (some ⟨tb, 0, none⟩), .map (some mb), .map (some ms)]
  lc : cb < H.size
  hb : H.get mb = .map es1
  lb : mb < H.size
  hs : H.get ms = .map es2
  ls : ms < H.size
  i1 : IntsM es1
  i2 : IntsM es2
  no : ∀ (k : Nat) b, k < m → Yl es1 (Yu k b) = none ∧ Yl es2 (Yu k b) = none
  c1 : ∀ (k : Nat) b, m ≤ k → k < T.vars.length → Yl es1 (Yu k b) = none ∨ (Yl es1 (Yu k b) = some (.int .u64 (Vu T T.vars.length k b)) ∧ hasB T k b)
  c2 : ∀ (k : Nat) b, m ≤ k → k < T.vars.length → Yl es2 (Yu k b) = none ∨ Yl es2 (Yu k b) = some (.int .u64 (Vx T T.vars.length k b))
  d1 : ∀ (k : Nat), m ≤ k → k < T.vars.length → ∀ a ∈ Zp T T.vars.length k, ∀ x ∈ T.group k a, Yl es1 (Yu k x.b) = some (.int .u64 (Vu T T.vars.length k x.b))
  d2 : ∀ (k : Nat), m ≤ k → k < T.vars.length → ∀ a ∈ Zp T T.vars.length k, Yl es2 (Yu k a) = some (.int .u64 (Vx T T.vars.length k a))
theorem NewS.fill {T : TreeT} {K : Hp} {tb cb mb ms i : Nat} {H : Hp} {es1 es2 : List (Value × Value)} (h : NewS T K tb cb mb ms (i + 1) H es1 es2) : FillS T K tb cb mb ms i es1 es2 H es1 es2 :=
  ⟨h.le, h.hc, h.lc, h.hb, h.lb, h.hs, h.ls, h.i1, h.i2, fun _ _ _ => rfl, fun _ _ _ => rfl, fun b => .inl (h.no i b (Nat.lt_succ_self i)).1, fun b => .inl (h.no i b (Nat.lt_succ_self i)).2⟩
theorem NewS.step {T : TreeT} {K : Hp} {tb cb mb ms i : Nat} {H H' : Hp} {es1 es2 es1' es2' : List (Value × Value)} (h : NewS T K tb cb mb ms (i + 1) H es1 es2) (hf : FillS T K tb cb mb ms i es1 es2 H' es1' es2')
    (h2 : ∀ a ∈ Zp T T.vars.length i, Yl es2' (Yu i a) = some (.int .u64 (Vx T T.vars.length i a))) (h1 : ∀ a ∈ Zp T T.vars.length i, ∀ x ∈ T.group i a, Yl es1' (Yu i x.b) = some (.int .u64 (Vu T T.vars.length i x.b))) : NewS T K tb cb mb ms i H' es1' es2' := by
  refine ⟨hf.le, hf.hc, hf.lc, hf.hb, hf.lb, hf.hs, hf.ls, hf.i1, hf.i2, fun k b hk => ?_, fun k b hk hk2 => ?_, fun k b hk hk2 => ?_, fun k hk hk2 a ha x hx => ?_, fun k hk hk2 a ha => ?_⟩
  · rw [hf.o1 k b (by omega), hf.o2 k b (by omega)]; exact h.no k b (by omega)
  · by_cases he : k = i
    · subst he; exact hf.v1 b
    · rw [hf.o1 k b (by omega)]; exact h.c1 k b (by omega) hk2
  · by_cases he : k = i
    · subst he; exact hf.v2 b
    · rw [hf.o2 k b (by omega)]; exact h.c2 k b (by omega) hk2
  · by_cases he : k = i
    · subst he; exact h1 a ha x hx
    · rw [hf.o1 k _ (by omega)]; exact h.d1 k (by omega) hk2 a ha x hx
  · by_cases he : k = i
    · subst he; exact h2 a ha
    · rw [hf.o2 k _ (by omega)]; exact h.d2 k (by omega) hk2 a ha
structure CntsV (T : TreeT) (es1 es2 : List (Value × Value)) : Prop where
  i1 : IntsM es1
  i2 : IntsM es2
  sum : ∀ (i : Nat) (a : Int), i < T.vars.length → cntAt es2 i (if T.parent.getD i 0 = -1 then -1 else a) = Vx T T.vars.length i a
  bel : ∀ (i : Nat) (b : Int), i < T.vars.length → (hasB T i b → cntAt es1 i b = Vu T T.vars.length i b) ∧ (¬ hasB T i b → cntAt es1 i b = 0)
theorem cntAt_some {es : List (Value × Value)} {i a n : Int} (h : Yl es (Yu i a) = some (.int .u64 n)) : cntAt es i a = n := by unfold cntAt; rw [h]
theorem cntAt_none {es : List (Value × Value)} {i a : Int} (h : Yl es (Yu i a) = none) : cntAt es i a = 0 := by unfold cntAt; rw [h]
theorem group_root {T : TreeT} {i : Nat} (h : T.parent.getD i 0 = -1) (a b : Int) : T.group i a = T.group i b := by
  unfold TreeT.group TreeT.row
  rw [Int.toNat_natCast, if_pos h, if_pos h]
theorem sumT_root {T : TreeT} (hT : GoodT T) {i : Nat} (hi : i < T.vars.length) (h : T.parent.getD i 0 = -1) (a b : Int) : Vx T T.vars.length i a = Vx T T.vars.length i b := by
  rw [sum_is hT hi, sum_is hT hi, group_root h a b]
theorem NewS.done {T : TreeT} (hT : GoodT T) (hR : Reach T) {K : Hp} {tb cb mb ms : Nat} {H : Hp} {es1 es2 : List (Value × Value)} (h : NewS T K tb cb mb ms 0 H es1 es2) : CntsV T es1 es2 := by
  refine ⟨h.i1, h.i2, fun i a hi => ?_, fun i b hi => ⟨fun ⟨a, x, hx, hb⟩ => ?_, fun hno => ?_⟩⟩
  · obtain ⟨a', ha'⟩ : ∃ a', a' = if T.parent.getD i 0 = -1 then -1 else a := ⟨_, rfl⟩
    have hr : T.parent.getD i 0 = -1 → a' = -1 := fun e => by rw [ha', if_pos e]
    have hs : Vx T T.vars.length i a = Vx T T.vars.length i a' := by
      by_cases e : T.parent.getD i 0 = -1
      · exact sumT_root hT hi e a a'
      · rw [ha', if_neg e]
    rw [← ha', hs]
    by_cases hg : T.group i a' = []
    · have h0 : Vx T T.vars.length i a' = 0 := by rw [sum_is hT hi, hg]; rfl
      rw [h0]
      rcases h.c2 i a' (Nat.zero_le _) hi with h2 | h2
      · exact cntAt_none h2
      · rw [cntAt_some h2, h0]
    · exact cntAt_some (h.d2 i (Nat.zero_le _) hi a' (hR i a' hi hg hr))
  · obtain ⟨a', ha'⟩ : ∃ a', a' = if T.parent.getD i 0 = -1 then -1 else a := ⟨_, rfl⟩
    have hr : T.parent.getD i 0 = -1 → a' = -1 := fun e => by rw [ha', if_pos e]
    have hg : T.group i a = T.group i a' := by
      by_cases e : T.parent.getD i 0 = -1
      · exact group_root e a a'
      · rw [ha', if_neg e]
    rw [hg] at hx
    rw [← hb]
    exact cntAt_some (h.d1 i (Nat.zero_le _) hi a' (hR i a' hi (List.ne_nil_of_mem hx) hr) x hx)
  · rcases h.c1 i b (Nat.zero_le _) hi with h1 | h1
    · exact cntAt_none h1
    · exact absurd h1.2 hno
def CntR (H : Hp) (cb tb : Nat) (T : TreeT) : Prop := ∃ mb ms es1 es2, cb < H.size ∧ mb < H.size ∧ ms < H.size ∧ H.get cb = .own 0 [.pointer (some ⟨tb, 0, none⟩), .map (some mb), .map (some ms)] ∧ H.get mb = .map es1 ∧ H.get ms = .map es2 ∧ TreeR H (.pointer (some ⟨tb, 0, none⟩)) T ∧ CntsV T es1 es2
theorem CntR.mono {H H' : Hp} (hle : H.le H') {cb tb : Nat} {T : TreeT} (h : CntR H cb tb T) : CntR H' cb tb T := by
  obtain ⟨mb, ms, es1, es2, h1, h2, h3, h4, h5, h6, h7, h8⟩ := h
  exact ⟨mb, ms, es1, es2, Nat.lt_of_lt_of_le h1 hle.1, Nat.lt_of_lt_of_le h2 hle.1, Nat.lt_of_lt_of_le h3 hle.1, Xz hle h1 (by intro e; cases e) h4, Xz hle h2 (by intro e; cases e) h5, Xz hle h3 (by intro e; cases e) h6, h7.mono hle, h8⟩
set_option maxHeartbeats 1000000 in
theorem New_cnt {T : TreeT} (hT : GoodT T) (hF : FewA T) (hR : Reach T) {tb : Nat} (H : Hp) (ht : TreeR H (.pointer (some ⟨tb, 0, none⟩)) T) :
    ACalls Try.prog 21 #[.pointer (some ⟨tb, 0, none⟩)] H (fun r H' => H.le H' ∧ ∃ cb, r = .pointer (some ⟨cb, 0, none⟩) ∧ CntR H' cb tb T) := by
  have hfew := hT.few
  refine Xr Try.func21 rfl rfl rfl (by simp) ?_
  refine Xd ?_
  refine Xb (by kernel_rfl) ?_
  refine Xa (Zd rfl) ?_
  refine Xd ?_
  refine Xd ?_
  refine Xb (by kernel_rfl) ?_
  refine Xa (Xq rfl) ?_
  refine Xa (Zw rfl t_spot rfl Try.underlying53) ?_
  refine X6 rfl rfl ?_ ?_
  intro hc1
  (have h := hc1; simp at h)
  intro hc1
  (try simp only [decide_eq_true_eq, decide_eq_false_iff_not, Bool.not_eq_true', Bool.not_eq_false'] at hc1)
  refine X9 ?_
  refine Xd ?_
  refine Xb (by kernel_rfl) ?_
  refine Xa (Xq rfl) ?_
  refine X5 (am_makeMap) ?_
  refine X5 (am_makeMap) ?_
  refine Xa (Y0 (pl := [(0, 1), (1, 1), (2, 1)]) (r := [.pointer _, .map _, .map _]) Try.underlying82 inf82.zero (by decide) rfl rfl) ?_
  refine X5 (Yx rfl) ?_
  refine Xa (Zd rfl) ?_
  refine Xd ?_
  refine Xd ?_
  refine Xb (by kernel_rfl) ?_
  refine Xa (Xq rfl) ?_
  refine X0 (Xy (Len_tree (ht.mono t_le)) rfl Try.func35 rfl rfl rfl ?_)
  rintro v13 H1 ⟨rfl, hH1⟩; have h1 : NewS T H tb (H.size + 2) H.size (H.size + 1) T.vars.length H1 [] [] := by
      rw [hH1]
      exact ⟨t_le, Ye, by simp, Ye, by simp <;> omega, Ye, by simp, .nil, .nil, fun k b hk => ⟨rfl, rfl⟩, fun k b hk hk2 => by omega, fun k b hk hk2 => by omega, fun k hk hk2 => by omega, fun k hk hk2 => by omega⟩
  refine Xa (av_sub64 rfl rfl Yv) ?_
  refine Xa (Xf rfl) ?_
  refine Ya ?_
  refine Y9 (fun n t H' => ∃ (m : Nat) (es1 es2 : List (Value × Value)), n = m ∧ m ≤ T.vars.length ∧ NewS T H tb (H.size + 2) H.size (H.size + 1) m H' es1 es2 ∧ t 0 = .pointer (some ⟨tb, 0, none⟩) ∧ t 3 = .pointer (some ⟨H.size + 2, 0, none⟩) ∧ t 4 = .int .i64 ((m : Int) - 1)) (T.vars.length) (⟨T.vars.length, [], [], rfl, Nat.le_refl _, h1, rfl, rfl, rfl⟩) ?_
  rintro n t H2 ⟨m, es1, es2, rfl, hm, hS, e0, e3, e4⟩
  refine Xd ?_
  refine Xd ?_
  refine Xb (by kernel_rfl) ?_
  refine Xa (Xc Xl) ?_
  refine Xa (av_ge rfl rfl) ?_
  refine X6 rfl rfl ?_ ?_
  intro hc2
  obtain ⟨i, rfl⟩ : ∃ i, n = i + 1 := ⟨n - 1, by have := of_decide_eq_true hc2; omega⟩
  rw [show (((i + 1 : Nat) : Int) - 1) = (i : Int) by omega] at e4
  refine X9 ?_
  refine Xd ?_
  refine Ya ?_
  refine Xb (by kernel_rfl) ?_
  refine Xa (Xq Xl) ?_
  refine Xa (Xc Xl) ?_
  refine X0 (Xy (fill_cnt hT hF ht T.vars.length i (by omega) (by omega) (Nat.le_refl _) (Nat.le_succ _) (by omega) (by omega) hS.fill (fun k hk b hb => by obtain ⟨h3, h4⟩ := kids_lt hT hk; rw [← above_deep hT _ k h4 h4] at hb; exact cntAt_some (hS.d2 k (by omega) h4 b hb))) rfl Try.func36 rfl rfl rfl ?_)
  rintro v21 H3 ⟨es1', es2', hf, hf2, hf1⟩
  refine Xb (by kernel_rfl) ?_
  refine Xa (Xc Xl) ?_
  refine Xa (av_sub64 rfl rfl Yv) ?_
  refine Xa (Xf rfl) ?_
  exact ⟨i, by omega, i, es1', es2', rfl, by omega, hS.step hf hf2 hf1, e0, e3, rfl⟩
  intro hc2
  obtain rfl : n = 0 := by have := of_decide_eq_false hc2; omega
  refine Y5 ?_
  refine Xd ?_
  refine Xb (by kernel_rfl) ?_
  refine Xa (Xq Xl) ?_
  refine Xa (Zd rfl) ?_
  refine X8 ?_
  · exact ⟨_, X1 (Xv rfl), hS.le, _, rfl, _, _, es1, es2, hS.lc, hS.lb, hS.ls, hS.hc, hS.hb, hS.hs, ht.mono hS.le, hS.done hT hR⟩
end Go.Proofs.Ytmakkmcjocjgmaa.Am


/- What counts tell. -/
namespace Go.Proofs.Ytmakkmcjocjgmaa.Am
open Go Go.RowKit
set_option maxRecDepth 100000
set_option linter.unusedVariables false
set_option linter.unusedSimpArgs false

theorem sum_cntR {T : TreeT} (hT : GoodT T) {cb tb : Nat} {H : Hp} (hc : CntR H cb tb T) (i : Nat) (hi : i < T.vars.length) (a : Int) :
    ACalls Try.prog 55 #[.pointer (some ⟨cb, 0, none⟩), .int .i64 i, .int .i64 a] H (fun r H' => r = .int .u64 (Vx T T.vars.length i a) ∧ H' = H) := by
  obtain ⟨mb, ms, es1, es2, h1, h2, h3, h4, h5, h6, h7, h8⟩ := hc
  have h := sum_cnt hT h4 h7 h6 h8.i2 i hi a
  rw [h8.sum i a hi] at h
  exact h
set_option maxHeartbeats 2000000 in
theorem behind_cnt {T : TreeT} (hT : GoodT T) {cb tb : Nat} {ns : List Int} {v : Value} {H : Hp} (hc : CntR H cb tb T) (hn : Sl (Yy .i64) H v ns) (hnl : ns.length ≤ 1000000) :
    ACalls Try.prog 37 #[.pointer (some ⟨cb, 0, none⟩), v] H (fun r H' => r = .int .u64 (behT T ns) ∧ H.le H') := by
  obtain ⟨A, c, rfl⟩ := hn.shape
  have hfew := hT.few
  have hc0 := hc
  obtain ⟨mb, ms, es1, es2, h1, h2, h3, h4, h5, h6, h7, h8⟩ := hc
  refine Xr Try.func37 rfl rfl rfl (by simp) ?_
  refine Xd ?_
  refine Xb (by kernel_rfl) ?_
  refine Xa (Xf rfl) ?_
  refine Xd ?_
  refine Xb (by kernel_rfl) ?_
  refine Xa (Xf rfl) ?_
  refine Xd ?_
  refine Xd ?_
  refine Xb (by kernel_rfl) ?_
  refine Xa (Xx rfl) ?_
  refine Xa (Ys rfl Try.underlying33) ?_
  refine Xa (Xq rfl) ?_
  refine Xa (X4 rfl) ?_
  refine Xa (Xg (off := 0) rfl Try.underlying82 rfl inf53.size (by decide) rfl) ?_
  refine Xa (Xi rfl Try.underlying53 rfl Xs) ?_
  refine X0 (Xy (Len_tree h7) rfl Try.func35 rfl rfl rfl ?_)
  rintro v17 H ⟨rfl, rfl⟩
  refine Xa (av_gt rfl rfl) ?_
  refine X6 rfl rfl ?_ ?_
  intro hc1
  have hlong : T.vars.length < ns.length := by have := of_decide_eq_true hc1; omega
  refine Xd ?_
  refine Xb (by kernel_rfl) ?_
  refine Xa (Xf rfl) ?_
  refine X8 ?_
  exact ⟨.int .u64 0, X1 (Xv rfl), by rw [behT, if_neg (by omega)], Hp.le_refl _⟩
  intro hc1
  have hshort : ns.length ≤ T.vars.length := by have := of_decide_eq_false hc1; omega
  refine X9 ?_
  refine Xd ?_
  refine Xd ?_
  refine Xb (by kernel_rfl) ?_
  refine Xa (Xq rfl) ?_
  refine Xa (X4 rfl) ?_
  refine Xa (Xg (off := 0) rfl Try.underlying82 rfl inf53.size (by decide) rfl) ?_
  refine Xa (Xi rfl Try.underlying53 rfl Xs) ?_
  refine X0 (Xy (Len_tree h7) rfl Try.func35 rfl rfl rfl ?_)
  rintro v23 H ⟨rfl, rfl⟩
  refine Xa (Xc rfl) ?_
  refine Ya ?_
  refine Y9 (fun n t H' => ∃ (i : Nat) (A : Option Addr), n = T.vars.length - i ∧ i ≤ T.vars.length ∧ H.le H' ∧ Sl (Yy .i64) H (.slice A ns.length c) ns ∧ (∀ j, j < i → j < ns.length → (Zt (T.group j (Yc T ns j)) (ns.getD j 0)).isSome = true) ∧ t 0 = .pointer (some ⟨cb, 0, none⟩) ∧ t 1 = .slice A ns.length c ∧ t 5 = .int .u64 (mulT T ns i) ∧ t 23 = .int .i64 T.vars.length ∧ t 24 = .int .i64 i) (T.vars.length) (⟨0, _, rfl, Nat.zero_le _, Hp.le_refl _, hn, fun j h => by omega, rfl, rfl, rfl, rfl, rfl⟩) ?_
  rintro n t H1 ⟨i, A, rfl, hi, le1, hnA, hok, e0, e1, e5, e23, e24⟩
  have hc1 := hc0.mono le1
  have h41 := Xz le1 h1 (by intro e; cases e) h4
  have hcb1 := Nat.lt_of_lt_of_le h1 le1.1
  have hn1 := hnA.mono le1.sees
  refine Xd ?_
  refine Xb (by kernel_rfl) ?_
  refine Xa (Zj Xl Xl) ?_
  refine Xd ?_
  refine X6 rfl rfl ?_ ?_
  intro hc2
  have hil : i < T.vars.length := by have := of_decide_eq_true hc2; omega
  have hpar := hT.par i hil
  obtain ⟨p, hp⟩ : ∃ p, p = T.parent.getD i 0 := ⟨_, rfl⟩
  rw [← hp] at hpar
  obtain ⟨ab, hab⟩ : ∃ ab, ab = if p ≠ -1 ∧ p < ns.length then ns.getD p.toNat 0 else -1 := ⟨_, rfl⟩
  have habv : p < ns.length → ab = Yc T ns i := fun h => by
    unfold Yc
    rw [hab, ← hp]
    by_cases e : p = -1
    · rw [if_neg (fun h => h.1 e), if_pos e]
    · rw [if_pos ⟨e, h⟩, if_neg e]
  have hms := mulT_succ T ns i
  rw [← hp] at hms
  refine X9 ?_
  refine Xd ?_
  refine Ya ?_
  refine Xd ?_
  refine Xb (by kernel_rfl) ?_
  refine Xa (Xc Xl) ?_
  refine Xa (Xf rfl) ?_
  refine Xd ?_
  refine Xb (by kernel_rfl) ?_
  refine Xa (Xq Xl) ?_
  refine Xa (X4 rfl) ?_
  refine Xa (Xg (off := 0) rfl Try.underlying82 rfl inf53.size (by decide) rfl) ?_
  refine Xa (Xi rfl Try.underlying53 rfl Xs) ?_
  refine Xa (Xc rfl) ?_
  refine X0 (Xy (Parent_tree (h7.mono le1) hT.l1 (i : Int)) rfl Try.func53 rfl rfl rfl ?_)
  rintro v32 H1 ⟨rfl, rfl⟩; rw [if_pos ⟨by omega, by omega⟩, Int.toNat_natCast, ← hp]
  refine Xa (Xf rfl) ?_
  refine Xd ?_
  refine Xb (by kernel_rfl) ?_
  refine Xa (Xf rfl) ?_
  refine Xd ?_
  refine Xd ?_
  refine ac_cut (fun t H' => H' = H1 ∧ t 0 = .pointer (some ⟨cb, 0, none⟩) ∧ t 1 = .slice A ns.length c ∧ t 5 = .int .u64 (mulT T ns i) ∧ t 6 = .int .i64 i ∧ t 7 = .int .i64 p ∧ t 8 = .int .i64 (-1) ∧ t 23 = .int .i64 T.vars.length ∧ t 24 = .int .i64 i ∧ t 40 = .bool (decide (p ≠ -1 ∧ p < ns.length))) ?_ ?_
  refine Xb (by kernel_rfl) ?_
  refine Xa (Xc rfl) ?_
  refine Xa (Vy rfl rfl) ?_
  refine Xa (Xu rfl) ?_
  refine Yd rfl rfl rfl ?_ ?_
  intro hg3
  have hp1 : p ≠ -1 := by have h := hg3; simpa using h
  refine Xn (Xj rfl rfl rfl hg3) (Xc rfl) ?_
  refine Xn (Xj rfl rfl rfl hg3) (Xx Xl) ?_
  refine Xn (Xj rfl rfl rfl hg3) (Ys rfl Try.underlying33) ?_
  refine Xn (Xj rfl rfl rfl hg3) (Zj rfl rfl) ?_
  refine Xa (Xo (congrArg Value.bool hg3) rfl) ?_
  first
    | exact ⟨rfl, e0, e1, e5, rfl, rfl, rfl, e23, e24, congrArg Value.bool (by rw [decide_eq_decide]; exact ⟨fun h => ⟨hp1, h⟩, fun h => h.2⟩)⟩
    | exact ⟨rfl, e0, e1, e5, rfl, rfl, rfl, e23, e24, congrArg Value.bool (by simp [hp1])⟩
  intro hg3
  have hp1 : p = -1 := by have h := hg3; simpa using h
  refine Xh (Xk rfl rfl rfl hg3 rfl) ?_
  refine Xh (Xk rfl rfl rfl hg3 rfl) ?_
  refine Xh (Xk rfl rfl rfl hg3 rfl) ?_
  refine Xh (Xk rfl rfl rfl hg3 rfl) ?_
  refine Xa (Xo (congrArg Value.bool hg3) Xl) ?_
  first
    | exact ⟨rfl, e0, e1, e5, rfl, rfl, rfl, e23, e24, congrArg Value.bool (by rw [decide_eq_decide]; exact ⟨fun h => ⟨hp1, h⟩, fun h => h.2⟩)⟩
    | exact ⟨rfl, e0, e1, e5, rfl, rfl, rfl, e23, e24, congrArg Value.bool (by simp [hp1])⟩
  rintro t H1 ⟨rfl, e0, e1, e5, e6, e7, e8, e23, e24, e40⟩
  refine ac_cut (fun t H' => H' = H1 ∧ ∃ A, Sl (Yy .i64) H (.slice A ns.length c) ns ∧ t 0 = .pointer (some ⟨cb, 0, none⟩) ∧ t 1 = .slice A ns.length c ∧ t 5 = .int .u64 (mulT T ns i) ∧ t 6 = .int .i64 i ∧ t 7 = .int .i64 p ∧ t 8 = .int .i64 ab ∧ t 23 = .int .i64 T.vars.length ∧ t 24 = .int .i64 i) ?_ ?_
  refine X6 Xl rfl ?_ ?_
  intro hc4
  have hp2 : p ≠ -1 ∧ p < ns.length := of_decide_eq_true hc4
  obtain ⟨bN, oN, eN, hbN, hcN⟩ := hn1.int_at (i := p) (by omega) (by omega)
  subst eN
  refine Xb (by kernel_rfl) ?_
  refine Xa (Xx Xl) ?_
  refine Xa (Xc Xl) ?_
  refine Xa (Xt rfl rfl Try.underlying33 inf3.size X7 X7) ?_
  refine Xa (Xi rfl Try.underlying3 rfl Xs) ?_
  refine Xa (Xf rfl) ?_
  first
    | exact ⟨rfl, _, hnA, e0, e1, e5, e6, e7, congrArg (Value.int .i64) (by rw [hab, if_pos hp2]), e23, e24⟩
    | exact ⟨rfl, _, hnA, e0, e1, e5, e6, e7, by rw [hab, if_neg hp2]; exact e8, e23, e24⟩
  intro hc4
  have hp2 : ¬ (p ≠ -1 ∧ p < ns.length) := of_decide_eq_false hc4
  refine X9 ?_
  first
    | exact ⟨rfl, _, hnA, e0, e1, e5, e6, e7, congrArg (Value.int .i64) (by rw [hab, if_pos hp2]), e23, e24⟩
    | exact ⟨rfl, _, hnA, e0, e1, e5, e6, e7, by rw [hab, if_neg hp2]; exact e8, e23, e24⟩
  rintro t H1 ⟨rfl, A, hnA, e0, e1, e5, e6, e7, e8, e23, e24⟩
  have hn1 := hnA.mono le1.sees
  refine Ya ?_
  refine Xd ?_
  refine Xb (by kernel_rfl) ?_
  refine Xa (Xc Xl) ?_
  refine Xa (Xx Xl) ?_
  refine Xa (Ys rfl Try.underlying33) ?_
  refine Xa (Zj rfl rfl) ?_
  refine Xa (Xm rfl) ?_
  refine X6 rfl rfl ?_ ?_
  intro hc5
  have hin : i < ns.length := by have := of_decide_eq_true hc5; omega
  obtain ⟨bM, oM, eM, hbM, hcM⟩ := hn1.int_at (i := (i : Int)) (by omega) (by omega)
  rw [Int.toNat_natCast] at hcM
  subst eM
  refine Xd ?_
  refine Yw (by kernel_rfl) (Zb (B := [0, 1, 3, 7, 0, 0, 0, 0, 192, 448, 1023, 2047, 4095, 4095, 0, 24575, 65535]) (π := [0, 1, 2, 3, 4, 5, 6, 7, 8, 9, 14, 10, 11, 12, 13, 15, 16]) (by kernel_rfl)) ?_
  refine Xe rfl rfl (Xq Xl) Xp ?_
  refine Xe rfl rfl (X4 rfl) Xp ?_
  refine Xe rfl rfl (Xg (off := 0) rfl Try.underlying82 rfl inf53.size (by decide) rfl) Xp ?_
  refine Xe rfl rfl (Xi rfl Try.underlying53 rfl Xs) Xp ?_
  refine Xe rfl rfl (Xc Xl) Xp ?_
  refine Xe rfl rfl (Xc Xl) Xp ?_
  refine Xe rfl rfl (Xx Xl) Xp ?_
  refine Xe rfl rfl (Xc Xl) Xp ?_
  refine Xe rfl rfl (Xt rfl rfl Try.underlying33 inf3.size X7 X7) Xp ?_
  refine Xe rfl rfl (Xi rfl Try.underlying3 rfl Xs) Xp ?_
  refine Zk rfl rfl (Y3 (l := [.int .i64 0, .int .i64 0, .int .i64 0, .int .u64 0]) inf70.zero rfl (by decide)) ?_
  refine Yi rfl rfl (Xy (Find_tree (h7.mono t_le) hT.l1 hT.l2 hT.lens (i : Int) ab (ns.getD i 0) (hT.sort _ _)) rfl Try.func54 rfl rfl rfl ?_)
  rintro v61 H2 ⟨le2, rfl⟩; rw [habv (by omega)]; have z2 := le2.1
  refine ⟨Yg, ?_⟩
  refine Xe rfl rfl (Zo rfl) Xp ?_
  refine Xe rfl rfl (Yo rfl rfl) Xp ?_
  refine Xe rfl rfl (Yo rfl rfl) Xp ?_
  first | refine Yi rfl rfl (Ym (vs := [.int .i64 _, .int .i64 _, .int .i64 _, .int .u64 _]) rfl rfl inf70.size Ye Yk rfl rfl ?_)
  refine ⟨Yg, ?_⟩
  refine Xe rfl rfl (Xm rfl) Xp ?_
  refine Xd ?_
  refine Xb (by kernel_rfl) ?_
  refine Xa (Xu rfl) ?_
  refine Xa (Vm rfl) ?_
  refine X6 rfl rfl ?_ ?_
  intro hc6
  have hno : (Zt (T.group i (Yc T ns i)) (ns.getD i 0)).isSome = false := by have h := hc6; simpa using h
  refine Xd ?_
  refine Xb (by kernel_rfl) ?_
  refine Xa (Xf rfl) ?_
  refine X8 ?_
  exact ⟨.int .u64 0, X1 (Xv rfl), by rw [behT, if_neg (fun h => by rw [okP_bad hin (by simpa using hno)] at h; exact absurd h.2 (by simp))], t_le⟩
  intro hc6
  have hyes : (Zt (T.group i (Yc T ns i)) (ns.getD i 0)).isSome = true := by have h := hc6; simpa using h
  refine X9 ?_
  refine Xb (by kernel_rfl) ?_
  refine Xa (Yj Xl Xl Yv) ?_
  refine Xa (Xc rfl) ?_
  have hok2 : ∀ j, j < i + 1 → j < ns.length → (j = i → (Zt (T.group i (Yc T ns i)) (ns.getD i 0)).isSome = true) → (Zt (T.group j (Yc T ns j)) (ns.getD j 0)).isSome = true := fun j h1 h2 h3 => by
      by_cases h : j = i
      · subst h; exact h3 rfl
      · exact hok j (by omega) h2
  first
    | exact ⟨T.vars.length - (i + 1), by omega, i + 1, _, rfl, by omega, t_le, hnA, fun j a b => hok2 j a b (fun _ => hyes), e0, e1, by rw [hms, if_neg (fun h => by omega)]; exact e5, e23, rfl⟩
    | exact ⟨T.vars.length - (i + 1), by omega, i + 1, _, rfl, by omega, le1, hnA, fun j a b => hok2 j a b (fun h => by omega), e0, e1, by rw [hms]; rfl, e23, rfl⟩
    | exact ⟨T.vars.length - (i + 1), by omega, i + 1, _, rfl, by omega, le1, hnA, fun j a b => hok2 j a b (fun h => by omega), e0, e1, by rw [hms]; exact e5, e23, rfl⟩
  intro hc5
  have hin : ¬ i < ns.length := by have := of_decide_eq_false hc5; omega
  refine Xd ?_
  refine ac_cut (fun t H' => H' = H1 ∧ t 0 = .pointer (some ⟨cb, 0, none⟩) ∧ t 1 = .slice A ns.length c ∧ t 5 = .int .u64 (mulT T ns i) ∧ t 6 = .int .i64 i ∧ t 8 = .int .i64 ab ∧ t 23 = .int .i64 T.vars.length ∧ t 24 = .int .i64 i ∧ t 66 = .bool (decide (p < ns.length))) ?_ ?_
  refine Xb (by kernel_rfl) ?_
  refine Xa (Xc Xl) ?_
  refine Xa (Vr rfl rfl) ?_
  refine Xa (Xu rfl) ?_
  refine Yd rfl rfl rfl ?_ ?_
  intro hg7
  have hp1 : p = -1 := by have h := hg7; simpa using h
  refine Xh (Xk rfl rfl rfl hg7 rfl) ?_
  refine Xh (Xk rfl rfl rfl hg7 rfl) ?_
  refine Xh (Xk rfl rfl rfl hg7 rfl) ?_
  refine Xh (Xk rfl rfl rfl hg7 rfl) ?_
  refine Xa (Xo (congrArg Value.bool hg7) Xl) ?_
  refine Xa (Xm rfl) ?_
  first
    | exact ⟨rfl, e0, e1, e5, e6, e8, e23, e24, rfl⟩
    | exact ⟨rfl, e0, e1, e5, e6, e8, e23, e24, congrArg Value.bool (by symm; apply decide_eq_true; omega)⟩
  intro hg7
  have hp1 : p ≠ -1 := by have h := hg7; simpa using h
  refine Xn (Xj rfl rfl rfl hg7) (Xc Xl) ?_
  refine Xn (Xj rfl rfl rfl hg7) (Xx Xl) ?_
  refine Xn (Xj rfl rfl rfl hg7) (Ys rfl Try.underlying33) ?_
  refine Xn (Xj rfl rfl rfl hg7) (Zj rfl rfl) ?_
  refine Xa (Xo (congrArg Value.bool hg7) rfl) ?_
  refine Xa (Xm rfl) ?_
  first
    | exact ⟨rfl, e0, e1, e5, e6, e8, e23, e24, rfl⟩
    | exact ⟨rfl, e0, e1, e5, e6, e8, e23, e24, congrArg Value.bool (by symm; apply decide_eq_true; omega)⟩
  rintro t H1 ⟨rfl, e0, e1, e5, e6, e8, e23, e24, e66⟩
  refine X6 Xl rfl ?_ ?_
  intro hc8
  have hpn : p < ns.length := of_decide_eq_true hc8
  rw [if_pos ⟨by omega, hpn⟩] at hms
  refine Xb (by kernel_rfl) ?_
  refine Xa (Xc Xl) ?_
  refine Xa (Xq Xl) ?_
  refine Xa (Xc Xl) ?_
  refine Xa (Xc Xl) ?_
  refine X0 (Xy (sum_cntR hT hc1 i hil ab) rfl Try.func55 rfl rfl rfl ?_)
  rintro v79 H1 ⟨rfl, rfl⟩; rw [habv hpn]
  refine X0 (Xy (Vj _ _ (mulT_nonneg hT ns i) (Vs hT _ _ _) _) rfl Try.func28 rfl rfl rfl ?_)
  rintro v80 H1 ⟨rfl, rfl⟩
  refine Xa (Xf rfl) ?_
  refine Xb (by kernel_rfl) ?_
  refine Xa (Yj Xl Xl Yv) ?_
  refine Xa (Xc rfl) ?_
  have hok2 : ∀ j, j < i + 1 → j < ns.length → (j = i → (Zt (T.group i (Yc T ns i)) (ns.getD i 0)).isSome = true) → (Zt (T.group j (Yc T ns j)) (ns.getD j 0)).isSome = true := fun j h1 h2 h3 => by
      by_cases h : j = i
      · subst h; exact h3 rfl
      · exact hok j (by omega) h2
  first
    | exact ⟨T.vars.length - (i + 1), by omega, i + 1, _, rfl, by omega, t_le, hnA, fun j a b => hok2 j a b (fun _ => hyes), e0, e1, by rw [hms, if_neg (fun h => by omega)]; exact e5, e23, rfl⟩
    | exact ⟨T.vars.length - (i + 1), by omega, i + 1, _, rfl, by omega, le1, hnA, fun j a b => hok2 j a b (fun h => by omega), e0, e1, by rw [hms]; rfl, e23, rfl⟩
    | exact ⟨T.vars.length - (i + 1), by omega, i + 1, _, rfl, by omega, le1, hnA, fun j a b => hok2 j a b (fun h => by omega), e0, e1, by rw [hms]; exact e5, e23, rfl⟩
  intro hc8
  have hpn : ¬ p < ns.length := of_decide_eq_false hc8
  rw [if_neg (fun h => hpn h.2)] at hms
  refine X9 ?_
  refine Xb (by kernel_rfl) ?_
  refine Xa (Yj Xl Xl Yv) ?_
  refine Xa (Xc rfl) ?_
  have hok2 : ∀ j, j < i + 1 → j < ns.length → (j = i → (Zt (T.group i (Yc T ns i)) (ns.getD i 0)).isSome = true) → (Zt (T.group j (Yc T ns j)) (ns.getD j 0)).isSome = true := fun j h1 h2 h3 => by
      by_cases h : j = i
      · subst h; exact h3 rfl
      · exact hok j (by omega) h2
  first
    | exact ⟨T.vars.length - (i + 1), by omega, i + 1, _, rfl, by omega, t_le, hnA, fun j a b => hok2 j a b (fun _ => hyes), e0, e1, by rw [hms, if_neg (fun h => by omega)]; exact e5, e23, rfl⟩
    | exact ⟨T.vars.length - (i + 1), by omega, i + 1, _, rfl, by omega, le1, hnA, fun j a b => hok2 j a b (fun h => by omega), e0, e1, by rw [hms]; rfl, e23, rfl⟩
    | exact ⟨T.vars.length - (i + 1), by omega, i + 1, _, rfl, by omega, le1, hnA, fun j a b => hok2 j a b (fun h => by omega), e0, e1, by rw [hms]; exact e5, e23, rfl⟩
  intro hc2
  have hil : ¬ i < T.vars.length := by have := of_decide_eq_false hc2; omega
  refine Y5 ?_
  refine Xd ?_
  refine Xb (by kernel_rfl) ?_
  refine Xa (Xc Xl) ?_
  refine Xa (Xf rfl) ?_
  refine X8 ?_
  have hiv : i = T.vars.length := by omega
  subst hiv
  suffices hokp : okP T ns = true from ⟨.int .u64 (mulT T ns T.vars.length), X1 (Xv rfl), by rw [behT, if_pos ⟨hshort, hokp⟩], le1⟩
  unfold okP
  rw [List.all_eq_true]
  intro j hj
  rw [List.mem_range] at hj
  exact hok j (by omega) hj
theorem All_cnt {T : TreeT} (hT : GoodT T) {cb tb : Nat} {H : Hp} (hc : CntR H cb tb T) :
    ACalls Try.prog 22 #[.pointer (some ⟨cb, 0, none⟩)] H (fun r H' => r = .int .u64 (behT T []) ∧ H.le H') := by
  refine Xr Try.func22 rfl rfl rfl (by simp) ?_
  refine Xd ?_
  refine Xb (by kernel_rfl) ?_
  refine Xa (Xf rfl) ?_
  refine Xd ?_
  refine Xd ?_
  refine Xb (by kernel_rfl) ?_
  refine Xa (Xq rfl) ?_
  refine Xa (Zw rfl t_spot rfl Try.underlying57) ?_
  refine X6 rfl rfl ?_ ?_
  intro hc1
  (have h := hc1; simp at h)
  intro hc1
  (try simp only [decide_eq_true_eq, decide_eq_false_iff_not, Bool.not_eq_true', Bool.not_eq_false'] at hc1)
  refine X9 ?_
  refine Xd ?_
  refine Xb (by kernel_rfl) ?_
  refine Xa (Xq rfl) ?_
  refine X0 (Xy (behind_cnt hT hc (Sl.nil _ _) (by simp)) rfl Try.func37 rfl rfl rfl ?_)
  rintro v6 H6 ⟨rfl, hle6⟩
  refine Xa (Xf rfl) ?_
  refine X8 ?_
  exact ⟨_, X1 (Xv rfl), rfl, hle6⟩
theorem Behind_cnt {T : TreeT} (hT : GoodT T) {cb tb : Nat} {ns : List Int} {v : Value} {H : Hp} (hc : CntR H cb tb T) (hn : Sl (Yy .i64) H v ns) (hnl : ns.length ≤ 1000000) :
    ACalls Try.prog 56 #[.pointer (some ⟨cb, 0, none⟩), v] H (fun r H' => r = .int .u64 (behT T ns) ∧ H.le H') := by
  obtain ⟨A, c, rfl⟩ := hn.shape
  refine Xr Try.func56 rfl rfl rfl (by simp) ?_
  refine Xd ?_
  refine Xb (by kernel_rfl) ?_
  refine Xa (Xf rfl) ?_
  refine Xd ?_
  refine Xd ?_
  refine Xb (by kernel_rfl) ?_
  refine Xa (Xq rfl) ?_
  refine Xa (Zw rfl t_spot rfl Try.underlying57) ?_
  refine X6 rfl rfl ?_ ?_
  intro hc1
  (have h := hc1; simp at h)
  intro hc1
  (try simp only [decide_eq_true_eq, decide_eq_false_iff_not, Bool.not_eq_true', Bool.not_eq_false'] at hc1)
  refine X9 ?_
  refine Xd ?_
  refine Xb (by kernel_rfl) ?_
  refine Xa (Xq rfl) ?_
  refine Xa (Xx rfl) ?_
  refine X0 (Xy (behind_cnt hT hc hn hnl) rfl Try.func37 rfl rfl rfl ?_)
  rintro v9 H9 ⟨rfl, hle9⟩
  refine Xa (Xf rfl) ?_
  refine X8 ?_
  exact ⟨_, X1 (Xv rfl), rfl, hle9⟩
end Go.Proofs.Ytmakkmcjocjgmaa.Am


/- The statement CountsMany, as the abstract machine runs it; the small living call of the statements on counts. -/
namespace Go.Proofs.Ytmakkmcjocjgmaa.Am
open Go Go.RowKit
set_option maxRecDepth 100000
set_option linter.unusedVariables false
set_option linter.unusedSimpArgs false

theorem lit_u64 {n : Int} (h : (Lit.int .u64 n).wf = true) : 0 ≤ n ∧ n ≤ 18446744073709551615 := by
  unfold Lit.wf at h
  rw [Bool.and_eq_true, decide_eq_true_eq, decide_eq_true_eq] at h
  exact h
end Go.Proofs.Ytmakkmcjocjgmaa.Am


/- Lists of numbers without sign: a few of them, whether two are one. -/
namespace Go.Proofs.Ytmakkmcjocjgmaa.Am
open Go Go.RowKit
set_option maxRecDepth 100000
set_option linter.unusedVariables false
set_option linter.unusedSimpArgs false

theorem SameU_raw (xs ys : List Int) (v u : Value) (H : Hp) (hs : Sl (Yy .u64) H v xs) (hu : Sl (Yy .u64) H u ys) (hl : xs.length ≤ 1000000000) :
    ACalls Try.prog 11 #[v, u] H (fun r _ => r = .bool (decide (xs = ys))) := by
  obtain ⟨A, c, rfl⟩ := hs.shape
  obtain ⟨B, c2, rfl⟩ := hu.shape
  refine Xr Try.func11 rfl rfl rfl (by simp) ?_
  refine Xd ?_
  refine Xb (by kernel_rfl) ?_
  refine Xa (Xm rfl) ?_
  refine Xd ?_
  refine Xd ?_
  refine Xb (by kernel_rfl) ?_
  refine Xa (Xx rfl) ?_
  refine Xa (Ys rfl Try.underlying23) ?_
  refine Xa (Xx rfl) ?_
  refine Xa (Ys rfl Try.underlying23) ?_
  refine Xa (Vy rfl rfl) ?_
  refine X6 rfl rfl ?_ ?_
  intro hc1
  have hne : xs.length ≠ ys.length := by have := of_decide_eq_true hc1; omega
  refine Xd ?_
  refine Xb (by kernel_rfl) ?_
  refine Xa (Xm rfl) ?_
  refine X8 ?_
  exact ⟨.bool false, X1 (Xv rfl), by rw [decide_eq_false (fun h => hne (by rw [h]))]⟩
  intro hc1
  have hlen : xs.length = ys.length := by have := of_decide_eq_false hc1; omega
  refine X9 ?_
  refine Xd ?_
  refine Xd ?_
  refine Xb (by kernel_rfl) ?_
  refine Xa (Xf rfl) ?_
  refine Ya ?_
  refine Y9 (fun n t H' => ∃ (i : Nat), i ≤ xs.length ∧ n = xs.length - i ∧ H' = H ∧ xs.take i = ys.take i ∧ t 0 = .slice A xs.length c ∧ t 1 = .slice B ys.length c2 ∧ t 5 = .int .i64 i) (xs.length) (⟨0, by omega, rfl, rfl, by simp, rfl, rfl, rfl⟩) ?_
  rintro n t H ⟨i, hi, rfl, rfl, hsame, e0, e1, e5⟩
  refine Xd ?_
  refine Xd ?_
  refine Xb (by kernel_rfl) ?_
  refine Xa (Xc Xl) ?_
  refine Xa (Xx Xl) ?_
  refine Xa (Ys rfl Try.underlying23) ?_
  refine Xa (Zj rfl rfl) ?_
  refine X6 rfl rfl ?_ ?_
  intro hc2
  (try simp only [decide_eq_true_eq, decide_eq_false_iff_not, Bool.not_eq_true', Bool.not_eq_false'] at hc2)
  refine X9 ?_
  refine Xd ?_
  refine Ya ?_
  refine Xd ?_
  have hix : i < xs.length := by omega
  obtain ⟨b, o, e6, hb, hcell⟩ := hs.int_at (i := (i : Int)) (by omega) (by omega)
  obtain ⟨b2, o2, e7, hb2, hcell2⟩ := hu.int_at (i := (i : Int)) (by omega) (by omega)
  subst e6 e7
  rw [Int.toNat_natCast, Zc hix] at hcell
  rw [Int.toNat_natCast, Zc (show i < ys.length by omega)] at hcell2
  refine Yw (by kernel_rfl) (Zb (B := [0, 0, 3, 7, 0, 0, 48, 112, 255]) (π := [0, 1, 2, 3, 4, 5, 6, 7, 8]) (by kernel_rfl)) ?_
  refine Xe rfl rfl (Xx Xl) Xp ?_
  refine Xe rfl rfl (Xc Xl) Xp ?_
  refine Xe rfl rfl (Xt rfl rfl Try.underlying23 inf22.size X7 X7) Xp ?_
  refine Xe rfl rfl (Xi rfl Try.underlying22 rfl Xs) Xp ?_
  refine Xe rfl rfl (Xx Xl) Xp ?_
  refine Xe rfl rfl (Xc Xl) Xp ?_
  refine Xe rfl rfl (Xt rfl rfl Try.underlying23 inf22.size X7 X7) Xp ?_
  refine Xe rfl rfl (Xi rfl Try.underlying22 rfl Xs) Xp ?_
  refine Xe rfl rfl (Vy rfl rfl) Xp ?_
  refine X6 rfl rfl ?_ ?_
  intro hc3
  have hne : xs[i] ≠ ys[i]'(by omega) := of_decide_eq_true hc3
  refine Xd ?_
  refine Xb (by kernel_rfl) ?_
  refine Xa (Xm rfl) ?_
  refine X8 ?_
  exact ⟨.bool false, X1 (Xv rfl), by rw [decide_eq_false (fun h => hne (by subst h; rfl))]⟩
  intro hc3
  have heq : xs[i] = ys[i]'(by omega) := Decidable.not_not.1 (of_decide_eq_false hc3)
  refine X9 ?_
  refine Xb (by kernel_rfl) ?_
  refine Xa (Xc Xl) ?_
  refine Xa (Yj rfl rfl Yv) ?_
  refine Xa (Xf rfl) ?_
  exact ⟨xs.length - (i + 1), by omega, i + 1, by omega, rfl, rfl, by rw [← Y2 hix, ← Y2 (show i < ys.length by omega), hsame, heq], e0, e1, rfl⟩
  intro hc2
  (try simp only [decide_eq_true_eq, decide_eq_false_iff_not, Bool.not_eq_true', Bool.not_eq_false'] at hc2)
  refine Y5 ?_
  refine Xd ?_
  refine Xb (by kernel_rfl) ?_
  refine Xa (Xm rfl) ?_
  refine X8 ?_
  rw [List.take_of_length_le (by omega), List.take_of_length_le (by omega)] at hsame
  exact ⟨.bool true, X1 (Xv rfl), by rw [decide_eq_true hsame]⟩
theorem SameU_u64 (xs ys : List Int) (v u : Value) (H : Hp) (hs : Sl (Yy .u64) H v xs) (hu : Sl (Yy .u64) H u ys) (hl : xs.length ≤ 1000000000) :
    ACalls Try.prog 11 #[v, u] H (fun r H' => r = .bool (decide (xs = ys)) ∧ H' = H) :=
  ACalls.pure (fun v h => by rw [h]; rfl) (SameU_raw xs ys v u H.ro (hs.mono H.sees_ro) (hu.mono H.sees_ro) hl)
end Go.Proofs.Ytmakkmcjocjgmaa.Am


/- A finder: made, asked, taken on. -/
namespace Go.Proofs.Ytmakkmcjocjgmaa.Am
open Go Go.RowKit
set_option maxRecDepth 100000
set_option linter.unusedVariables false
set_option linter.unusedSimpArgs false

def FindP (K G H : Hp) (fb cb tb : Nat) (ns : List Int) (w wk : Int) : Prop := ∃ B c, K.le G ∧ K.size ≤ fb ∧ fb < G.size ∧ G.get fb = .own 0 [.pointer (some ⟨cb, 0, none⟩), .pointer (some ⟨tb, 0, none⟩), .slice B ns.length c, .int .u64 w, .int .i64 wk] ∧ OwnP (Yy .i64) G H (.slice B ns.length c) ns
theorem FindP.later {K G H H' : Hp} {fb cb tb : Nat} {ns : List Int} {w wk : Int} (h : FindP K G H fb cb tb ns w wk) (hle : H.le H') : ∃ G', G.le G' ∧ FindP K G' H' fb cb tb ns w wk := by
  obtain ⟨B, c, h1, h2, h3, h4, h5⟩ := h
  obtain ⟨G', l1, o1⟩ := h5.later hle
  exact ⟨G', l1, B, c, Hp.le_trans h1 l1, h2, Nat.lt_of_lt_of_le h3 l1.1, Xz l1 h3 (by intro e; cases e) h4, o1⟩
theorem FindP.le {K G H : Hp} {fb cb tb : Nat} {ns : List Int} {w wk : Int} (h : FindP K G H fb cb tb ns w wk) : K.le H := by
  obtain ⟨B, c, h1, h2, h3, h4, h5⟩ := h
  exact Hp.le_trans h1 h5.le
theorem Tree_cnt {T : TreeT} {cb tb : Nat} {H : Hp} (hc : CntR H cb tb T) :
    ACalls Try.prog 38 #[.pointer (some ⟨cb, 0, none⟩)] H (fun r H' => r = .pointer (some ⟨tb, 0, none⟩) ∧ H' = H) := by
  obtain ⟨mb, ms, es1, es2, h1, h2, h3, h4, h5, h6, h7, h8⟩ := hc
  refine Xr Try.func38 rfl rfl rfl (by simp) ?_
  refine Xd ?_
  refine Xb (by kernel_rfl) ?_
  refine Xa (Zd rfl) ?_
  refine Xd ?_
  refine Xd ?_
  refine Xb (by kernel_rfl) ?_
  refine Xa (Xq rfl) ?_
  refine Xa (Zw rfl t_spot rfl Try.underlying57) ?_
  refine X6 rfl rfl ?_ ?_
  intro hc1
  (have h := hc1; simp at h)
  intro hc1
  (try simp only [decide_eq_true_eq, decide_eq_false_iff_not, Bool.not_eq_true', Bool.not_eq_false'] at hc1)
  refine X9 ?_
  refine Xd ?_
  refine Xb (by kernel_rfl) ?_
  refine Xa (Xq rfl) ?_
  refine Xa (X4 rfl) ?_
  refine Xa (Xg (off := 0) rfl Try.underlying82 rfl inf53.size (by decide) rfl) ?_
  refine Xa (Xi rfl Try.underlying53 rfl Xs) ?_
  refine Xa (Zd rfl) ?_
  refine X8 ?_
  exact ⟨_, X1 (Xv rfl), rfl, rfl⟩
theorem begin_find {T : TreeT} {cb tb : Nat} {H : Hp} (hc : CntR H cb tb T) :
    ACalls Try.prog 23 #[.pointer (some ⟨cb, 0, none⟩)] H (fun r H' => ∃ fb, r = .pointer (some ⟨fb, 0, none⟩) ∧ FindP H H' H' fb cb tb [] 1 0) := by
  refine Xr Try.func23 rfl rfl rfl (by simp) ?_
  refine Xd ?_
  refine Xb (by kernel_rfl) ?_
  refine Xa (Zd rfl) ?_
  refine Xd ?_
  refine Xb (by kernel_rfl) ?_
  refine Xa (Xq rfl) ?_
  refine Xa (Xq rfl) ?_
  refine X0 (Xy (Tree_cnt hc) rfl Try.func38 rfl rfl rfl ?_)
  rintro v5 H ⟨rfl, rfl⟩
  refine Xa (Y0 (pl := [(0, 1), (1, 1), (2, 1), (3, 1), (4, 1)]) (r := [.pointer _, .pointer _, .slice _ _ _, .int .u64 _, .int .i64 _]) Try.underlying65 inf65.zero (by decide) rfl rfl) ?_
  refine X5 (Yx rfl) ?_
  refine Xa (Zd rfl) ?_
  refine X8 ?_
  exact ⟨_, X1 (Xv rfl), H.size, rfl, none, 0, H.le_push _, Nat.le_refl _, by simp, Hp.push_new _ _, OwnP.nil _ _⟩
theorem group_find {T : TreeT} (hT : GoodT T) {K G H : Hp} {fb cb tb : Nat} {ns : List Int} {w wk : Int} (hc : CntR K cb tb T) (hf : FindP K G H fb cb tb ns w wk) (hl : ns.length < T.vars.length) :
    ACalls Try.prog 39 #[.pointer (some ⟨fb, 0, none⟩)] H (fun r H' => ∃ GL, H.le GL ∧ OwnP kLink GL H' r (T.group ns.length (Yc T ns ns.length))) := by
  have leK := hf.le
  obtain ⟨B, c, l1, l2, l3, gf, hown⟩ := hf
  have hfb := Xz hown.le l3 (by intro e; cases e) gf
  have zz := hown.size
  have hcH := hc.mono leK
  obtain ⟨mb, ms, es1, es2, h1, h2, h3, h4, h5, h6, h7, h8⟩ := hcH
  have hp := hT.par ns.length hl
  have hfew := hT.few
  refine Xr Try.func39 rfl rfl rfl (by simp) ?_
  refine Xd ?_
  refine Xb (by kernel_rfl) ?_
  refine Xa (X3 rfl) ?_
  refine Xd ?_
  refine Xb (by kernel_rfl) ?_
  refine Xa (Xq rfl) ?_
  refine Xa (X4 rfl) ?_
  refine Xa (Xg (off := 2) rfl Try.underlying65 rfl inf33.size (by decide) rfl) ?_
  refine Xa (Xi rfl Try.underlying33 rfl Xs) ?_
  refine Xa (Ys rfl Try.underlying33) ?_
  refine Xa (Xf rfl) ?_
  refine Xd ?_
  refine Xb (by kernel_rfl) ?_
  refine Xa (Xf rfl) ?_
  refine Xd ?_
  refine Xd ?_
  refine Xb (by kernel_rfl) ?_
  refine Xa (Xq rfl) ?_
  refine Xa (X4 rfl) ?_
  refine Xa (Xg (off := 1) rfl Try.underlying65 rfl inf53.size (by decide) rfl) ?_
  refine Xa (Xi rfl Try.underlying53 rfl Xs) ?_
  refine Xa (Xc rfl) ?_
  refine X0 (Xy (Parent_tree h7 hT.l1 (ns.length : Int)) rfl Try.func53 rfl rfl rfl ?_)
  rintro v16 H ⟨rfl, rfl⟩; rw [if_pos ⟨by omega, by omega⟩, Int.toNat_natCast]
  refine Xa (Xf rfl) ?_
  refine Xd ?_
  refine Xb (by kernel_rfl) ?_
  refine Xa (Xc rfl) ?_
  refine Xa (Vy rfl rfl) ?_
  refine X6 rfl rfl ?_ ?_
  intro hc1
  have hne : T.parent.getD ns.length 0 ≠ -1 := of_decide_eq_true hc1
  obtain ⟨bN, oN, eN, hbN, hcN⟩ := hown.sl.int_at (i := T.parent.getD ns.length 0) (by omega) (by omega)
  subst eN
  have hab : Yc T ns ns.length = ns.getD (T.parent.getD ns.length 0).toNat 0 := by unfold Yc; rw [if_neg hne]
  refine Xb (by kernel_rfl) ?_
  refine Xa (Xq rfl) ?_
  refine Xa (X4 rfl) ?_
  refine Xa (Xg (off := 2) rfl Try.underlying65 rfl inf33.size (by decide) rfl) ?_
  refine Xa (Xi rfl Try.underlying33 rfl Xs) ?_
  refine Xa (Xc rfl) ?_
  refine Xa (Xt rfl rfl Try.underlying33 inf3.size X7 X7) ?_
  refine Xa (Xi rfl Try.underlying3 rfl Xs) ?_
  refine Xa (Xf rfl) ?_
  refine Xd ?_
  refine Xb (by kernel_rfl) ?_
  refine Xa (Xq rfl) ?_
  refine Xa (X4 rfl) ?_
  refine Xa (Xg (off := 1) rfl Try.underlying65 rfl inf53.size (by decide) rfl) ?_
  refine Xa (Xi rfl Try.underlying53 rfl Xs) ?_
  refine Xa (Xc rfl) ?_
  refine Xa (Xc rfl) ?_
  refine X0 (Xy (Group_tree h7 hT.l1 hT.l2 hT.lens (ns.length : Int) _) rfl Try.func50 rfl rfl rfl ?_)
  rintro v32 H5 ⟨GL, leL, hownL⟩
  refine Xa (Z2 rfl) ?_
  refine X8 ?_
  exact ⟨_, X1 (Xv rfl), GL, leL, by rw [hab]; exact hownL⟩
  intro hc1
  have hne : T.parent.getD ns.length 0 = -1 := by have h := of_decide_eq_false hc1; simpa using h
  have hab : Yc T ns ns.length = -1 := by unfold Yc; rw [if_pos hne]
  refine X9 ?_
  refine Xd ?_
  refine Xb (by kernel_rfl) ?_
  refine Xa (Xq rfl) ?_
  refine Xa (X4 rfl) ?_
  refine Xa (Xg (off := 1) rfl Try.underlying65 rfl inf53.size (by decide) rfl) ?_
  refine Xa (Xi rfl Try.underlying53 rfl Xs) ?_
  refine Xa (Xc rfl) ?_
  refine Xa (Xc rfl) ?_
  refine X0 (Xy (Group_tree h7 hT.l1 hT.l2 hT.lens (ns.length : Int) _) rfl Try.func50 rfl rfl rfl ?_)
  rintro v32 H5 ⟨GL, leL, hownL⟩
  refine Xa (Z2 rfl) ?_
  refine X8 ?_
  exact ⟨_, X1 (Xv rfl), GL, leL, by rw [hab]; exact hownL⟩
set_option maxHeartbeats 1000000 in
theorem block_find {T : TreeT} (hT : GoodT T) {K G H : Hp} {fb cb tb : Nat} {ns : List Int} {w wk : Int} (hc : CntR K cb tb T) (hf : FindP K G H fb cb tb ns w wk) (hl : ns.length < T.vars.length) (hw : 0 ≤ w) (x : Link) (hx : 0 ≤ x.n) (hb : 0 ≤ behT T (ns ++ [x.b])) :
    ACalls Try.prog 40 #[.pointer (some ⟨fb, 0, none⟩), .agg #[.int .i64 x.a, .int .i64 x.b, .int .i64 x.cost, .int .u64 x.n]] H (fun r H' => r = .int .u64 (Yh (Yh w x.n) (behT T (ns ++ [x.b]))) ∧ H.le H') := by
  have leK := hf.le
  obtain ⟨B, c, l1, l2, l3, gf, hown⟩ := hf
  have hfb := Xz hown.le l3 (by intro e; cases e) gf
  have zz := hown.size
  have hcH := hc.mono leK
  have hfew := hT.few
  obtain ⟨A2, S2, sl2, hS2, hcut⟩ := (hown.sl.mono (H.le_push (.own 0 [.int .i64 x.a, .int .i64 x.b, .int .i64 x.cost, .int .u64 x.n])).sees).capsAll
  have hfbx := (Hp.push_old H (.own 0 [.int .i64 x.a, .int .i64 x.b, .int .i64 x.cost, .int .u64 x.n]) (show fb < H.size by omega)).trans hfb
  have hbx : (H.push (.own 0 [.int .i64 x.a, .int .i64 x.b, .int .i64 x.cost, .int .u64 x.n])).get H.size = .own 0 [.int .i64 x.a, .int .i64 x.b, .int .i64 x.cost, .int .u64 x.n] := Hp.push_new _ _
  obtain ⟨H1, hH1⟩ : ∃ H1, H1 = H.push (.own 0 [.int .i64 x.a, .int .i64 x.b, .int .i64 x.cost, .int .u64 x.n]) := ⟨_, rfl⟩
  have z1 : H1.size = H.size + 1 := by rw [hH1]; simp
  have leH1 : H.le H1 := by rw [hH1]; exact H.le_push _
  rw [← hH1] at sl2 hfbx hbx hS2 hcut
  refine Xr Try.func40 rfl rfl rfl (by simp) ?_
  refine Xd ?_
  refine Xb (by kernel_rfl) ?_
  refine X5 (Yx rfl) ?_
  refine Xa (Xf rfl) ?_
  refine Xd ?_
  change ACode true _ _ _ _ _ (H.push (.own 0 [.int .i64 x.a, .int .i64 x.b, .int .i64 x.cost, .int .u64 x.n]))
  rw [← hH1]
  refine Yw (by kernel_rfl) (Zb (B := [0, 1, 3, 7, 0, 16, 48, 112, 240, 0, 512, 1536, 3584, 7680, 16383, 0, 32768, 98304, 262143, 524287]) (π := [0, 1, 2, 3, 4, 5, 6, 7, 8, 9, 10, 11, 12, 13, 14, 15, 16, 17, 18, 19]) (by kernel_rfl)) ?_
  refine Xe rfl rfl (Xq rfl) Xp ?_
  refine Xe rfl rfl (X4 rfl) Xp ?_
  refine Xe rfl rfl (Xg (off := 2) rfl Try.underlying65 rfl inf33.size (by decide) rfl) Xp ?_
  refine Xe rfl rfl (Xi rfl Try.underlying33 rfl Xs) Xp ?_
  refine Xe rfl rfl (Xq rfl) Xp ?_
  refine Xe rfl rfl (X4 rfl) Xp ?_
  refine Xe rfl rfl (Xg (off := 2) rfl Try.underlying65 rfl inf33.size (by decide) rfl) Xp ?_
  refine Xe rfl rfl (Xi rfl Try.underlying33 rfl Xs) Xp ?_
  refine Xe rfl rfl (Ys rfl Try.underlying33) Xp ?_
  refine Xe rfl rfl (Xq rfl) Xp ?_
  refine Xe rfl rfl (X4 rfl) Xp ?_
  refine Xe rfl rfl (Xg (off := 2) rfl Try.underlying65 rfl inf33.size (by decide) rfl) Xp ?_
  refine Xe rfl rfl (Xi rfl Try.underlying33 rfl Xs) Xp ?_
  refine Xe rfl rfl (Ys rfl Try.underlying33) Xp ?_
  refine Xe rfl rfl (hcut _ _ _ _ _ _ _ _ _ _ _ _ _ _ _ (Hp.le_refl _) rfl Try.underlying33 inf3.size rfl rfl) (fun b hb => (hS2 b hb).1) ?_
  refine Xe rfl rfl (Xg (off := 1) rfl Try.underlying70 rfl inf3.size (by decide) rfl) Xp ?_
  refine Xe rfl rfl (Xi rfl Try.underlying3 rfl Xs) Xp ?_
  first | refine Zk rfl rfl (Yb (r := [.int .i64 _]) Try.underlying33 inf3.size inf3.zero rfl (by decide) (by decide) (by decide) rfl) ?_
  refine Yi rfl rfl (Sl.growAll (m := x.b) (sl2.mono (H1.le_push _).sees) Try.underlying33 inf3 rfl rfl rfl (Hp.push_new _ _) (by omega) (by omega) ?_)
  rintro H2 hH2 sl3
  have le12 : H1.le H2 := by rw [hH2]; exact Hp.le_push' (H1.le_push _) _
  have hsameS : ∀ b ∈ S2, H2.get b = (H1.push (.own 1 [.int .i64 x.b])).get b := fun b hb => by rw [hH2]; exact Hp.push_old _ _ (by have := (hS2 b hb).1; simp; omega)
  have hfb2 := Xz le12 (by omega) (by intro e; cases e) hfbx
  have hbx2 := Xz le12 (by omega) (by intro e; cases e) hbx
  have z2 := le12.1
  refine ⟨by first | exact Yg | (rw [hH2]; exact Yg), ?_⟩
  refine Xe rfl rfl (X3 rfl) Xp ?_
  refine Xd ?_
  refine Yw (by kernel_rfl) (Zb (B := [0, 1, 3, 7, 0, 16, 63, 0, 128, 384, 896, 0, 4095, 8191, 16383]) (π := [0, 1, 2, 3, 4, 5, 7, 8, 9, 10, 11, 6, 12, 13, 14]) (by kernel_rfl)) ?_
  refine Xe rfl rfl (Xq rfl) Xp ?_
  refine Xe rfl rfl (X4 rfl) Xp ?_
  refine Xe rfl rfl (Xg (off := 3) rfl Try.underlying65 rfl inf22.size (by decide) rfl) Xp ?_
  refine Xe rfl rfl (Xi rfl Try.underlying22 rfl Xs) Xp ?_
  refine Xe rfl rfl (Xg (off := 3) rfl Try.underlying70 rfl inf22.size (by decide) rfl) Xp ?_
  refine Xe rfl rfl (Xi rfl Try.underlying22 rfl Xs) Xp ?_
  refine Xe rfl rfl (Xq rfl) Xp ?_
  refine Xe rfl rfl (X4 rfl) Xp ?_
  refine Xe rfl rfl (Xg (off := 0) rfl Try.underlying65 rfl inf57.size (by decide) rfl) Xp ?_
  refine Xe rfl rfl (Xi rfl Try.underlying57 rfl Xs) Xp ?_
  refine Xe rfl rfl (Xx rfl) Xp ?_
  refine Yi rfl rfl (Xy (Vj _ _ hw hx _) rfl Try.func28 rfl rfl rfl ?_)
  rintro v31 H2 ⟨rfl, rfl⟩
  refine ⟨Yg, ?_⟩
  refine Yi rfl rfl (Xy (Behind_cnt (ns := ns ++ [x.b]) hT ((hcH.mono leH1).mono le12) (by rw [show ns.length + 1 = (ns ++ [x.b]).length by simp] at sl3 ⊢; exact sl3) (by simp; omega)) rfl Try.func56 rfl rfl rfl ?_)
  rintro v37 H3 ⟨rfl, le23⟩
  refine ⟨Yg, ?_⟩
  refine Yi rfl rfl (Xy (Vj _ _ (Vi hw hx).1 hb _) rfl Try.func28 rfl rfl rfl ?_)
  rintro v38 H3 ⟨rfl, rfl⟩
  refine ⟨Yg, ?_⟩
  refine Xe rfl rfl (Xf rfl) Xp ?_
  refine X8 ?_
  exact ⟨_, X1 (Xv rfl), rfl, Hp.le_trans leH1 (Hp.le_trans le12 le23)⟩
set_option maxHeartbeats 1000000 in
theorem take_find {K G H : Hp} {fb cb tb : Nat} {ns : List Int} {w wk : Int} (hf : FindP K G H fb cb tb ns w wk) (hl : ns.length ≤ 100000) (hw : 0 ≤ w) (x : Link) (hx : 0 ≤ x.n) :
    ACalls Try.prog 41 #[.pointer (some ⟨fb, 0, none⟩), .agg #[.int .i64 x.a, .int .i64 x.b, .int .i64 x.cost, .int .u64 x.n]] H (fun r H' => ∃ G', Away fb G G' ∧ FindP K G' H' fb cb tb (ns ++ [x.b]) (Yh w x.n) wk) := by
  have leK := hf.le
  obtain ⟨B, c, l1, l2, l3, gf, hown⟩ := hf
  have zz := hown.size
  obtain ⟨H1, hH1⟩ : ∃ H1, H1 = H.push (.own 0 [.int .i64 x.a, .int .i64 x.b, .int .i64 x.cost, .int .u64 x.n]) := ⟨_, rfl⟩
  obtain ⟨G1, hG1⟩ : ∃ G1, G1 = G.push (.own 0 [.int .i64 x.a, .int .i64 x.b, .int .i64 x.cost, .int .u64 x.n]) := ⟨_, rfl⟩
  have hown1 : OwnP (Yy .i64) G1 H1 (.slice B ns.length c) ns := by rw [hH1, hG1]; exact hown.push _
  have leG1 : G.le G1 := by rw [hG1]; exact G.le_push _
  have gx1 : G1.get H.size = .own 0 [.int .i64 x.a, .int .i64 x.b, .int .i64 x.cost, .int .u64 x.n] := by rw [hG1, zz]; exact Hp.push_new _ _
  have zG1 : G1.size = G.size + 1 := by rw [hG1]; simp
  have gf1 := Xz leG1 l3 (by intro e; cases e) gf
  have hf1 := Xz hown1.le (by omega) (by intro e; cases e) gf1
  have hx1 := Xz hown1.le (by omega) (by intro e; cases e) gx1
  have zz1 := hown1.size
  refine Xr Try.func41 rfl rfl rfl (by simp) ?_
  refine Xd ?_
  refine Xb (by kernel_rfl) ?_
  refine X5 (Yx rfl) ?_
  change ACode true _ _ _ _ _ (H.push (.own 0 [.int .i64 x.a, .int .i64 x.b, .int .i64 x.cost, .int .u64 x.n]))
  rw [← hH1]
  refine Yw (by kernel_rfl) (Zb (B := [0, 0, 0, 4, 12, 28, 0, 64, 192, 508, 0, 1024, 3072, 7168, 0, 16384, 65532, 131069, 262141, 524285, 1048575, 2097151, 4194303]) (π := [0, 1, 2, 3, 4, 5, 6, 7, 8, 10, 11, 12, 13, 14, 15, 9, 16, 17, 18, 19, 20, 21, 22]) (by kernel_rfl)) ?_
  refine Xe rfl rfl (Xq rfl) Xp ?_
  refine Xe rfl rfl (Xq rfl) Xp ?_
  refine Xe rfl rfl (Xq rfl) Xp ?_
  refine Xe rfl rfl (X4 rfl) Xp ?_
  refine Xe rfl rfl (Xg (off := 2) rfl Try.underlying65 rfl inf33.size (by decide) rfl) Xp ?_
  refine Xe rfl rfl (Xi rfl Try.underlying33 rfl Xs) Xp ?_
  refine Xe rfl rfl (Xg (off := 1) rfl Try.underlying70 rfl inf3.size (by decide) rfl) Xp ?_
  refine Xe rfl rfl (Xi rfl Try.underlying3 rfl Xs) Xp ?_
  first | refine Zk rfl rfl (Yb (r := [.int .i64 _]) Try.underlying33 inf3.size inf3.zero rfl (by decide) (by decide) (by decide) rfl) ?_
  refine Xe rfl rfl (Xq rfl) Xp ?_
  refine Xe rfl rfl (X4 rfl) Xp ?_
  refine Xe rfl rfl (Xg (off := 3) rfl Try.underlying65 rfl inf22.size (by decide) rfl) Xp ?_
  refine Xe rfl rfl (Xi rfl Try.underlying22 rfl Xs) Xp ?_
  refine Xe rfl rfl (Xg (off := 3) rfl Try.underlying70 rfl inf22.size (by decide) rfl) Xp ?_
  refine Xe rfl rfl (Xi rfl Try.underlying22 rfl Xs) Xp ?_
  refine Yi rfl rfl (OwnP.append (ys := [x.b]) (hown1.push _) Try.underlying33 inf3 rfl rfl rfl (V3 (k := Yy .i64) rfl rfl hown1.size rfl) (by simp only [List.length_singleton]; omega) (by simp only [List.length_singleton]; omega) ?_)
  rintro v13 G2 H2 hle2 hown2
  have hsameO := OwnP.sameO (hown1.push _) hle2 hown2
  obtain ⟨B2, c2, rfl⟩ := hown2.shape
  have le12 := Hp.le_trans (Hp.le_push _ _) hle2
  have z2 := le12.1
  have zz2 := hown2.size
  have gf2 := Xz le12 (by omega) (by intro e; cases e) gf1
  have gx2 := Xz le12 (by omega) (by intro e; cases e) gx1
  have hf2 := Xz hown2.le (by omega) (by intro e; cases e) gf2
  have hx2 := Xz hown2.le (by omega) (by intro e; cases e) gx2
  refine ⟨Yg, ?_⟩
  refine Yi rfl rfl (Xy (Vj _ _ hw hx _) rfl Try.func28 rfl rfl rfl ?_)
  rintro v20 H2 ⟨rfl, rfl⟩
  refine ⟨Yg, ?_⟩
  refine Xe rfl rfl (X4 rfl) Xp ?_
  refine Xe rfl rfl (Xg (off := 2) rfl Try.underlying65 rfl inf33.size (by decide) rfl) Xp ?_
  first | refine Yi rfl rfl (Y8 rfl rfl rfl inf33.size Ye Yk rfl ?_)
  refine ⟨Yg, ?_⟩
  refine Xe rfl rfl (X4 rfl) Xp ?_
  refine Xe rfl rfl (Xg (off := 3) rfl Try.underlying65 rfl inf22.size (by decide) rfl) Xp ?_
  first | refine Yi rfl rfl (Y8 rfl rfl rfl inf22.size Ye Yk rfl ?_)
  refine ⟨Yg, ?_⟩
  refine ⟨_, aresult0, (G2.put fb (.own 0 [.pointer (some ⟨cb, 0, none⟩), .pointer (some ⟨tb, 0, none⟩), .slice B2 (ns ++ [x.b]).length c2, .int .u64 w, .int .i64 wk])).put fb (.own 0 [.pointer (some ⟨cb, 0, none⟩), .pointer (some ⟨tb, 0, none⟩), .slice B2 (ns ++ [x.b]).length c2, .int .u64 (Yh w x.n), .int .i64 wk]), ((Away.of_le (Hp.le_trans leG1 le12)).put _).put _, B2, c2, Hp.le_put_new (Hp.le_put_new (Hp.le_trans l1 (Hp.le_trans leG1 le12)) l2 _) l2 _, l2, by simp; omega, Hp.put_same _ _ _, ?_⟩
  exact (hown2.put (by rw [gf2]; intro e; cases e) _ (Hp.sees_box _ gf2)).put (by rw [Hp.put_same]; intro e; cases e) _ (Hp.sees_box _ (Hp.put_same _ _ _))
end Go.Proofs.Ytmakkmcjocjgmaa.Am


/- A finder goes down to the k-th answer. -/
namespace Go.Proofs.Ytmakkmcjocjgmaa.Am
open Go Go.RowKit
set_option maxRecDepth 100000
set_option linter.unusedVariables false
set_option linter.unusedSimpArgs false

theorem av_subn_is {P : Program} {t : Fr} {H : Hp} {d : Option Tmp} {ty : TypeId} {pos : String} {after : Array Edge} {guard : Option (Nat × Bool)} {x y : Operand} {xt yt : TypeId} {k : IntKind} {a b v : Int} (hv : k.wrap (a - b) = v) (hx : t.eval x = .int k a) (hy : t.eval y = .int k b) : AVal P ⟨d, .binOp .sub xt x y yt, ty, pos, after, guard⟩ t [] H (.int k v) := by
  subst hv; exact av_sub hx hy
theorem block_is {T : TreeT} (hT : GoodT T) {ns : List Int} (hp : Path T ns) (hl : ns.length < T.vars.length) {l : Link} (hm : l ∈ T.group ns.length (Yc T ns ns.length)) (wN : Nat) : Yh (Yh (Y7 wN) l.n) (behT T (ns ++ [l.b])) = Y7 (wN * l.n.toNat * cntW T (ns ++ [l.b])) ∧ Yh (Y7 wN) l.n = Y7 (wN * l.n.toNat) ∧ 0 ≤ behT T (ns ++ [l.b]) := by
  have hn := (hT.group_mem hm).2.2
  have h1 : Yh (Y7 wN) l.n = Y7 (wN * l.n.toNat) := by
    rw [← timesI_cap, timesI_comm, timesI_comm (Y7 wN), ← timesI_nat, Int.toNat_of_nonneg hn]
  have h2 : behT T (ns ++ [l.b]) = Y7 (cntW T (ns ++ [l.b])) := behT_cnt hT (by simp; omega) (path_snoc hT hp hl hm)
  rw [h1, h2, timesI_cap]
  exact ⟨rfl, rfl, by have := most_pos; unfold Y7; omega⟩
theorem capI_nonneg (n : Nat) : 0 ≤ Y7 n ∧ Y7 n ≤ Yz := by have := most_pos; unfold Y7; omega
set_option maxHeartbeats 4000000 in
theorem find_find {T : TreeT} (hT : GoodT T) {K G H : Hp} {fb cb tb : Nat} (hc : CntR K cb tb T) (hf : FindP K G H fb cb tb [] 1 0) (k : Int) (h0 : 0 ≤ k) (hk : k < Y7 (cntW T [])) :
    ACalls Try.prog 24 #[.pointer (some ⟨fb, 0, none⟩), .int .u64 k] H (fun r H' => ∃ (G' : Hp) (ns : List Int) (left w' wk : Int), r = .int .u64 left ∧ FindP K G' H' fb cb tb ns w' wk ∧ seek (extW T T.vars.length [] 1) k = some (ns, left) ∧ ns.length = T.vars.length ∧ (T.vars.length : Int) ≤ wk ∧ wk ≤ sizeTo T T.vars.length ∧ Path T ns ∧ 0 ≤ left) := by
  have hfew := hT.few
  have hmost := most_pos
  rw [cap_one] at hf
  obtain ⟨R, hR⟩ : ∃ R, R = seek (extW T T.vars.length [] 1) k := ⟨_, rfl⟩
  rw [← hR]
  refine Xr Try.func24 rfl rfl rfl (by simp) ?_
  refine Xd ?_
  refine Xb (by kernel_rfl) ?_
  refine Xa (Xf rfl) ?_
  refine Xd ?_
  refine Ya ?_
  refine Y9 (fun n t H' => ∃ (G : Hp) (ns : List Int) (wN : Nat) (k' wk : Int), n = T.vars.length - ns.length ∧ ns.length ≤ T.vars.length ∧ FindP K G H' fb cb tb ns (Y7 wN) wk ∧ seek (extW T (T.vars.length - ns.length) ns wN) k' = R ∧ 0 ≤ k' ∧ k' < Y7 (wN * cntW T ns) ∧ Path T ns ∧ (ns.length : Int) ≤ wk ∧ wk ≤ sizeTo T ns.length ∧ t 0 = .pointer (some ⟨fb, 0, none⟩) ∧ t 1 = .int .u64 k') (T.vars.length) (⟨G, [], 1, k, 0, rfl, Nat.zero_le _, hf, hR.symm, h0, by rw [Nat.one_mul]; exact hk, fun i hi => by simp at hi, by simp, by simp [sizeTo], rfl, rfl⟩) ?_
  rintro n t H1 ⟨G1, ns, wN, k1, wk, rfl, hnl, hf1, hseek, hk0, hk1, hpath, hw1, hw2, e0, e1⟩
  have leK1 := hf1.le
  have hcH1 := hc.mono leK1
  obtain ⟨B1, c1, l11, l12, l13, gf1, hown1⟩ := id hf1
  have hf1' := Xz hown1.le l13 (by intro e; cases e) gf1
  have zz1 := hown1.size
  obtain ⟨mb, ms, es1, es2, d1, d2, d3, d4, d5, d6, d7, d8⟩ := hcH1
  refine Xd ?_
  refine Xd ?_
  refine Yw (by kernel_rfl) (Zb (B := [0, 1, 3, 7, 15, 0, 32, 96, 224, 480, 1023]) (π := [0, 1, 2, 3, 4, 5, 6, 7, 8, 9, 10]) (by kernel_rfl)) ?_
  refine Xe rfl rfl (Xq Xl) Xp ?_
  refine Xe rfl rfl (X4 rfl) Xp ?_
  refine Xe rfl rfl (Xg (off := 2) rfl Try.underlying65 rfl inf33.size (by decide) rfl) Xp ?_
  refine Xe rfl rfl (Xi rfl Try.underlying33 rfl Xs) Xp ?_
  refine Xe rfl rfl (Ys rfl Try.underlying33) Xp ?_
  refine Xe rfl rfl (Xq Xl) Xp ?_
  refine Xe rfl rfl (X4 rfl) Xp ?_
  refine Xe rfl rfl (Xg (off := 1) rfl Try.underlying65 rfl inf53.size (by decide) rfl) Xp ?_
  refine Xe rfl rfl (Xi rfl Try.underlying53 rfl Xs) Xp ?_
  refine Yi rfl rfl (Xy (Len_tree d7) rfl Try.func35 rfl rfl rfl ?_)
  rintro v17 H1 ⟨rfl, rfl⟩
  refine ⟨Yg, ?_⟩
  refine Xe rfl rfl (Zj rfl rfl) Xp ?_
  refine X6 rfl rfl ?_ ?_
  intro hc1
  have hlt : ns.length < T.vars.length := by have := of_decide_eq_true hc1; omega
  obtain ⟨d, hd⟩ : ∃ d, T.vars.length - ns.length = d + 1 := ⟨T.vars.length - ns.length - 1, by omega⟩
  have hdd : ns.length + (d + 1) = T.vars.length := by omega
  rw [hd] at hseek
  have hsz := sizeTo_le hT ns.length hnl
  have hszn := sizeTo_next (T := T) (j := ns.length) (by rw [hT.l2]; omega)
  refine X9 ?_
  refine Ya ?_
  refine Xd ?_
  refine Xb (by kernel_rfl) ?_
  refine Xa (Xq Xl) ?_
  refine X0 (Xy (group_find hT hc hf1 hlt) rfl Try.func39 rfl rfl rfl ?_)
  rintro v20 H3 ⟨GL, leL, hownL⟩; obtain ⟨g, hg⟩ : ∃ g, g = T.group ns.length (Yc T ns ns.length) := ⟨_, rfl⟩; rw [← hg] at hownL; have slL := hownL.sl; obtain ⟨AG, cG, rfl⟩ := slL.shape; obtain ⟨G3, le3, hf3⟩ := hf1.later (Hp.le_trans leL hownL.le); obtain ⟨B3, c3, l31, l32, l33, gf3, hown3⟩ := id hf3; have slG := hown3.below (Za _) (by decide) slL; have hgl := group_len hT.lens (ns.length : Int) (Yc T ns ns.length); rw [← hg] at hgl; have hgl2 := group_le T ns.length (Yc T ns ns.length); rw [← hg] at hgl2; have hbel : extW T (d + 1) ns wN = belowW T d ns wN g := (by rw [extW, hg]; rfl); rw [hbel] at hseek; have hsum : wsum (belowW T d ns wN g) = wN * cntW T ns := (by rw [← hbel]; exact extW_sum hT _ _ _ hdd); have hmem : ∀ l ∈ g, l ∈ T.group ns.length (Yc T ns ns.length) := (fun l hl => by rw [← hg]; exact hl)
  refine Xa (Ys rfl Try.underlying68) ?_
  refine Xa (Xc rfl) ?_
  refine Ya ?_
  refine Y9 (fun n t H' => ∃ (m : Nat) (G : Hp) (k2 : Int) (D : Option Addr), n = g.length - m ∧ m ≤ g.length ∧ Away fb G3 G ∧ FindP K G H' fb cb tb ns (Y7 wN) (wk + m) ∧ seek (belowW T d ns wN (g.drop m)) k2 = R ∧ 0 ≤ k2 ∧ k2 < Y7 (wsum (belowW T d ns wN (g.drop m))) ∧ Sl kLink G3 (.slice D g.length cG) g ∧ t 0 = .pointer (some ⟨fb, 0, none⟩) ∧ t 1 = .int .u64 k2 ∧ t 20 = .slice D g.length cG ∧ t 21 = .int .i64 g.length ∧ t 22 = .int .i64 m) (g.length) (⟨0, G3, k1, _, rfl, Nat.zero_le _, .refl _ _, by simpa using hf3, hseek, hk0, by rw [List.drop_zero, hsum]; exact hk1, slG, e0, e1, rfl, rfl, rfl⟩) ?_
  rintro n t H4 ⟨m, G4, k2, D, rfl, hm, aw4, hf4, hseek4, hk40, hk41, slD, e0, e1, e20, e21, e22⟩
  obtain ⟨B4, c4, l41, l42, l43, gf4, hown4⟩ := id hf4
  have slD4 := slD.mono (aw4.sees gf3)
  have zz4 := hown4.size
  have zz34 := aw4.size
  refine Xd ?_
  refine Xb (by kernel_rfl) ?_
  refine Xa (Zj Xl Xl) ?_
  refine Xd ?_
  refine X6 rfl rfl ?_ ?_
  intro hc2
  have hml : m < g.length := by have := of_decide_eq_true hc2; omega
  obtain ⟨bg, og, eg, hbg, hcg⟩ := (slD4.mono hown4.le.sees).link_at hml
  obtain ⟨l, hl⟩ : ∃ l, l = g[m] := ⟨_, rfl⟩
  have hlg : l ∈ g := by rw [hl]; exact List.getElem_mem hml
  have htake := seek_take (T := T) (ns := ns) (w := wN) (k := k2) hT hml hdd hk40
  have hpass := seek_pass (T := T) (ns := ns) (w := wN) (k := k2) hT hml hdd hk40 hk41
  rw [← hl] at hcg htake hpass
  subst eg
  obtain ⟨hblk, htk, hb0⟩ := block_is hT hpath hlt (hmem l hlg) wN
  have hln := (hT.group_mem (hmem l hlg)).2.2
  refine X9 ?_
  refine Xd ?_
  refine Ya ?_
  refine Xd ?_
  refine Xb (by kernel_rfl) ?_
  refine Xa (Xt Xl Xl Try.underlying68 inf70.size X7 X7) ?_
  refine Xa (Yp (cs := [.int .i64 _, .int .i64 _, .int .i64 _, .int .u64 _]) rfl Try.underlying70 rfl inf70.size Yf) ?_
  refine X5 (Y3 (l := [.int .i64 0, .int .i64 0, .int .i64 0, .int .u64 0]) inf70.zero rfl (by decide)) ?_
  first | refine X0 (Ym (vs := [.int .i64 _, .int .i64 _, .int .i64 _, .int .u64 _]) rfl rfl inf70.size Ye Yk rfl rfl ?_)
  refine Xd ?_
  obtain ⟨H5, hH5⟩ : ∃ H5, H5 = (H4.push (.own 0 [.int .i64 0, .int .i64 0, .int .i64 0, .int .u64 0])).put H4.size (.own 0 [.int .i64 l.a, .int .i64 l.b, .int .i64 l.cost, .int .u64 l.n]) := ⟨_, rfl⟩
  obtain ⟨G5, hG5⟩ : ∃ G5, G5 = (G4.push (.own 0 [.int .i64 0, .int .i64 0, .int .i64 0, .int .u64 0])).put H4.size (.own 0 [.int .i64 l.a, .int .i64 l.b, .int .i64 l.cost, .int .u64 l.n]) := ⟨_, rfl⟩
  have hown5 := hown4.boxed [.int .i64 0, .int .i64 0, .int .i64 0, .int .u64 0] [.int .i64 l.a, .int .i64 l.b, .int .i64 l.cost, .int .u64 l.n]
  rw [← hH5, ← hG5] at hown5
  have le45 : G4.le G5 := by rw [hG5]; exact Hp.le_put_new (G4.le_push _) (by omega) _
  have gx5 : G5.get H4.size = .own 0 [.int .i64 l.a, .int .i64 l.b, .int .i64 l.cost, .int .u64 l.n] := by rw [hG5]; exact Hp.put_same _ _ _
  have z5 : G5.size = G4.size + 1 := by rw [hG5]; simp
  have gf5 := Xz le45 (by omega) (by intro e; cases e) gf4
  have hx5 := Xz hown5.le (by omega) (by intro e; cases e) gx5
  have hf5 := Xz hown5.le (by omega) (by intro e; cases e) gf5
  have zz5 := hown5.size
  change ACode true _ _ _ _ _ ((H4.push (.own 0 [.int .i64 0, .int .i64 0, .int .i64 0, .int .u64 0])).put H4.size (.own 0 [.int .i64 l.a, .int .i64 l.b, .int .i64 l.cost, .int .u64 l.n]))
  rw [← hH5]
  clear hH5 hG5
  refine Xb (by kernel_rfl) ?_
  refine Xa (Xq Xl) ?_
  refine Xa (X4 rfl) ?_
  refine Xa (Xg (off := 4) rfl Try.underlying65 rfl inf3.size (by decide) rfl) ?_
  refine Xa (Xi rfl Try.underlying3 rfl Xs) ?_
  refine Xa (Yj rfl rfl Yv) ?_
  refine Xa (X4 rfl) ?_
  refine Xa (Xg (off := 4) rfl Try.underlying65 rfl inf3.size (by decide) rfl) ?_
  first | refine X0 (Y8 rfl rfl rfl inf3.size Ye Yk rfl ?_)
  refine Xd ?_
  obtain ⟨H6, hH6⟩ : ∃ H6, H6 = H5.put fb (.own 0 [.pointer (some ⟨cb, 0, none⟩), .pointer (some ⟨tb, 0, none⟩), .slice B4 ns.length c4, .int .u64 (Y7 wN), .int .i64 (wk + m + 1)]) := ⟨_, rfl⟩
  obtain ⟨G6, hG6⟩ : ∃ G6, G6 = G5.put fb (.own 0 [.pointer (some ⟨cb, 0, none⟩), .pointer (some ⟨tb, 0, none⟩), .slice B4 ns.length c4, .int .u64 (Y7 wN), .int .i64 (wk + m + 1)]) := ⟨_, rfl⟩
  have hown6 : OwnP (Yy .i64) G6 H6 (.slice B4 ns.length c4) ns := by rw [hG6, hH6]; exact hown5.put (by rw [gf5]; intro e; cases e) _ (Hp.sees_box _ gf5)
  have gf6 : G6.get fb = .own 0 [.pointer (some ⟨cb, 0, none⟩), .pointer (some ⟨tb, 0, none⟩), .slice B4 ns.length c4, .int .u64 (Y7 wN), .int .i64 (wk + m + 1)] := by rw [hG6]; exact Hp.put_same _ _ _
  have gx6 : G6.get H4.size = .own 0 [.int .i64 l.a, .int .i64 l.b, .int .i64 l.cost, .int .u64 l.n] := by rw [hG6, Hp.put_other _ _ (by omega)]; exact gx5
  have aw56 : Away fb G5 G6 := by rw [hG6]; exact Away.put (.refl _ _) _
  have aw6 := (aw4.trans (.of_le le45)).trans aw56
  have z6 := aw56.size
  have hf6P : FindP K G6 H6 fb cb tb ns (Y7 wN) (wk + m + 1) := ⟨B4, c4, by rw [hG6]; exact Hp.le_put_new (Hp.le_trans l41 le45) l42 _, l42, by omega, gf6, hown6⟩
  have hx6 := Xz hown6.le (by omega) (by intro e; cases e) gx6
  have zz6 := hown6.size
  change ACode true _ _ _ _ _ (H5.put fb (.own 0 [.pointer (some ⟨cb, 0, none⟩), .pointer (some ⟨tb, 0, none⟩), .slice B4 ns.length c4, .int .u64 (Y7 wN), .int .i64 (wk + m + 1)]))
  rw [← hH6]
  clear hH6 hG6
  refine Xb (by kernel_rfl) ?_
  refine Xa (Xq Xl) ?_
  refine Xa (Yp (cs := [.int .i64 _, .int .i64 _, .int .i64 _, .int .u64 _]) rfl Try.underlying70 rfl inf70.size Yf) ?_
  refine X0 (Xy (block_find hT hc hf6P hlt (capI_nonneg wN).1 l hln hb0) rfl Try.func40 rfl rfl rfl ?_)
  rintro v35 H7 ⟨rfl, le67⟩; rw [hblk]; obtain ⟨G7, leG67, hf7⟩ := hf6P.later le67; have hx7 := Xz le67 (by omega) (by intro e; cases e) hx6; have aw7 := aw6.trans (.of_le leG67)
  refine Xa (Xf rfl) ?_
  refine Xd ?_
  refine Xd ?_
  refine Xb (by kernel_rfl) ?_
  refine Xa (Xc Xl) ?_
  refine Xa (Xc rfl) ?_
  refine Xa (Zj rfl rfl) ?_
  refine X6 rfl rfl ?_ ?_
  intro hc3
  have hlt2 : k2 < Y7 (wN * l.n.toNat * cntW T (ns ++ [l.b])) := of_decide_eq_true hc3
  have hsk := htake hlt2
  refine Xd ?_
  refine Xb (by kernel_rfl) ?_
  refine Xa (Xq Xl) ?_
  refine Xa (Yp (cs := [.int .i64 _, .int .i64 _, .int .i64 _, .int .u64 _]) rfl Try.underlying70 rfl inf70.size Yf) ?_
  refine X0 (Xy (take_find hf7 (by omega) (capI_nonneg wN).1 l hln) rfl Try.func41 rfl rfl rfl ?_)
  rintro v41 H8 ⟨G8, aw8, hf8⟩; rw [htk] at hf8
  refine Y5 ?_
  have hlen : (ns ++ [l.b]).length = ns.length + 1 := by simp
  refine ⟨T.vars.length - (ns ++ [l.b]).length, by omega, G8, ns ++ [l.b], wN * l.n.toNat, k2, wk + m + 1, rfl, by omega, hf8, ?_, hk40, hlt2, path_snoc hT hpath hlt (hmem l hlg), by omega, by rw [hlen, hszn]; omega, e0, e1⟩
  rw [show T.vars.length - (ns ++ [l.b]).length = d by omega, ← hsk]
  exact hseek4
  intro hc3
  have hge2 : ¬ k2 < Y7 (wN * l.n.toNat * cntW T (ns ++ [l.b])) := of_decide_eq_false hc3
  obtain ⟨p1, p2, p3⟩ := hpass hge2
  have hkw : IntKind.u64.wrap (k2 - Y7 (wN * l.n.toNat * cntW T (ns ++ [l.b]))) = k2 - Y7 (wN * l.n.toNat * cntW T (ns ++ [l.b])) := wrap_u64a p2 (by have := (capI_nonneg (wsum (belowW T d ns wN (g.drop (m + 1))))).2; unfold Yz at this; omega)
  refine X9 ?_
  refine Xb (by kernel_rfl) ?_
  refine Xa (Xc Xl) ?_
  refine Xa (Xc rfl) ?_
  refine Xa (av_subn_is hkw rfl rfl) ?_
  refine Xa (Xf rfl) ?_
  refine Xb (by kernel_rfl) ?_
  refine Xa (Yj Xl Xl Yv) ?_
  refine Xa (Xc rfl) ?_
  exact ⟨g.length - (m + 1), by omega, m + 1, G7, _, _, rfl, by omega, aw7, by rw [show wk + ((m + 1 : Nat) : Int) = wk + m + 1 by omega]; exact hf7, by rw [← p1]; exact hseek4, p2, p3, slD, e0, rfl, e20, e21, rfl⟩
  intro hc2
  (have hml := of_decide_eq_false hc2; exfalso; rw [List.drop_eq_nil_of_le (by omega)] at hk41; rw [show wsum (belowW T d ns wN []) = 0 from rfl, ← cap_nil] at hk41; omega)
  intro hc1
  have hfull : ns.length = T.vars.length := by have := of_decide_eq_false hc1; omega
  refine Y5 ?_
  refine Xd ?_
  refine Xb (by kernel_rfl) ?_
  refine Xa (Xc Xl) ?_
  refine Xa (Xf rfl) ?_
  refine X8 ?_
  rw [show T.vars.length - ns.length = 0 by omega, extW] at hseek
  rw [cnt_full hfull, Nat.mul_one] at hk1
  rw [seek, if_pos hk1] at hseek
  exact ⟨_, X1 (Xv rfl), G1, ns, k1, Y7 wN, wk, rfl, hf1, hseek.symm, hfull, by omega, by rw [← hfull]; exact hw2, hpath, hk0⟩
theorem path_nil (T : TreeT) : Path T [] := fun i hi => by simp at hi
set_option maxHeartbeats 1000000 in
theorem At_acc {T : TreeT} (hT : GoodT T) {cb tb : Nat} {H : Hp} (hc : CntR H cb tb T) (k : Int) (h0 : 0 ≤ k) :
    ACalls Try.prog 12 #[.pointer (some ⟨cb, 0, none⟩), .int .u64 k] H (fun r H' => H.le H' ∧ ((behT T [] ≤ k ∧ r = .tuple #[.agg #[.slice none 0 0, .int .i64 0, .int .u64 0], .int .u64 0, .bool false]) ∨ (k < behT T [] ∧ ∃ (ns : List Int) (left : Int) (x : RowT) (A : Option Addr) (c : Nat), seek (extW T T.vars.length [] 1) k = some (ns, left) ∧ rowT T ns = some x ∧ x.nodes = ns ∧ r = .tuple #[.agg #[.slice A x.nodes.length c, .int .i64 x.cost, .int .u64 x.n], .int .u64 left, .bool true] ∧ Sl (Yy .i64) H' (.slice A x.nodes.length c) x.nodes ∧ 0 ≤ left))) := by
  have hfew := hT.few
  have hbeh : behT T [] = Y7 (cntW T []) := behT_cnt hT (Nat.zero_le _) (path_nil T)
  refine Xr Try.func12 rfl rfl rfl (by simp) ?_
  refine Xd ?_
  refine Xb (by kernel_rfl) ?_
  refine X5 (Y3 (l := [.slice none 0 0, .int .i64 0, .int .u64 0]) inf35.zero rfl (by decide)) ?_
  refine Xa (Xf rfl) ?_
  refine Xa (Xm rfl) ?_
  refine Xd ?_
  refine Xd ?_
  refine Xb (by kernel_rfl) ?_
  refine Xa (Xc rfl) ?_
  refine Xa (Xq rfl) ?_
  refine X0 (Xy (All_cnt hT (hc.mono (H.le_push _))) rfl Try.func22 rfl rfl rfl ?_)
  rintro v13 H1 ⟨rfl, le1⟩; have z1 := le1.1; simp only [Hp.push_size] at z1; have leH1 := Hp.le_trans (H.le_push (.own 0 [.slice none 0 0, .int .i64 0, .int .u64 0])) le1; have hcK1 := hc.mono leH1; have g14 : H1.get H.size = .own 0 [.slice none 0 0, .int .i64 0, .int .u64 0] := Xz le1 (by simp) (by intro e; cases e) (Hp.push_new _ _)
  refine Xa (av_ge rfl rfl) ?_
  refine X6 rfl rfl ?_ ?_
  intro hc1
  have hge : behT T [] ≤ k := by have := of_decide_eq_true hc1; omega
  refine Xd ?_
  refine Xb (by kernel_rfl) ?_
  refine Xa (Y0 (pl := [(0, 1), (1, 1), (2, 1)]) (r := [.slice _ _ _, .int .i64 _, .int .u64 _]) Try.underlying35 inf35.zero (by decide) rfl rfl) ?_
  refine X0 (Ym (vs := [.slice _ _ _, .int .i64 _, .int .u64 _]) rfl rfl inf35.size Ye Yk rfl rfl ?_)
  refine Xa (Xf rfl) ?_
  refine Xa (Xm rfl) ?_
  refine X8 ?_
  exact ⟨_, aresult3 (Zg Xl (Ze (cs := [_, _, _]) Try.underlying35 rfl inf35.size Yf)) (Xv rfl) (Xv rfl), Hp.le_put_new leH1 (Nat.le_refl _) _, .inl ⟨hge, rfl⟩⟩
  intro hc1
  have hlt : k < behT T [] := by have := of_decide_eq_false hc1; omega
  refine X9 ?_
  refine Xd ?_
  refine Xb (by kernel_rfl) ?_
  refine Xa (Xq rfl) ?_
  refine X0 (Xy (begin_find hcK1) rfl Try.func23 rfl rfl rfl ?_)
  rintro v17 H2 ⟨fb, rfl, hf2⟩; have le12 := hf2.le; have g24 := Xz le12 (by omega) (by intro e; cases e) g14
  refine Xa (Zd rfl) ?_
  refine Xd ?_
  refine Xb (by kernel_rfl) ?_
  refine Xa (Xq rfl) ?_
  refine Xa (Xc rfl) ?_
  refine X0 (Xy (find_find hT hcK1 hf2 k h0 (by rw [← hbeh]; exact hlt)) rfl Try.func24 rfl rfl rfl ?_)
  rintro v20 H3 ⟨G3, ns, left, w3, wk3, rfl, hf3, hsk, hnl, hw1, hw2, hpath, hl0⟩; have le13 := hf3.le; obtain ⟨B3, c3, l31, l32, l33, gf3, hown3⟩ := id hf3; have h3f := Xz hown3.le l33 (by intro e; cases e) gf3; have zz3 := hown3.size; obtain ⟨x, hx1, hx2⟩ := rowT_path hT hnl hpath; have g34 := Xz le13 (by omega) (by intro e; cases e) g14; obtain ⟨mb, ms, es1, es2, d1, d2, d3, d4, d5, d6, d7, d8⟩ := hcK1.mono le13; have z13 := le13.1
  refine Xa (Xf rfl) ?_
  refine Xd ?_
  refine Yw (by kernel_rfl) (Zb (B := [0, 1, 3, 7, 0, 16, 48, 112, 255, 511, 1023, 1023, 0, 6143, 16383]) (π := [0, 1, 2, 3, 4, 5, 6, 7, 12, 8, 9, 10, 11, 13, 14]) (by kernel_rfl)) ?_
  refine Xe rfl rfl (Xq rfl) Xp ?_
  refine Xe rfl rfl (X4 rfl) Xp ?_
  refine Xe rfl rfl (Xg (off := 1) rfl Try.underlying65 rfl inf53.size (by decide) rfl) Xp ?_
  refine Xe rfl rfl (Xi rfl Try.underlying53 rfl Xs) Xp ?_
  refine Xe rfl rfl (Xq rfl) Xp ?_
  refine Xe rfl rfl (X4 rfl) Xp ?_
  refine Xe rfl rfl (Xg (off := 2) rfl Try.underlying65 rfl inf33.size (by decide) rfl) Xp ?_
  refine Xe rfl rfl (Xi rfl Try.underlying33 rfl Xs) Xp ?_
  refine Zk rfl rfl (Y3 (l := [.slice none 0 0, .int .i64 0, .int .u64 0]) inf35.zero rfl (by decide)) ?_
  refine Yi rfl rfl (Xy (Row_rowT (d7.mono (H3.le_push _)) hT (hown3.sl.mono (H3.le_push _).sees) (by omega)) rfl Try.func25 rfl rfl rfl ?_)
  rintro v30 H4 ⟨G4, A4, c4, le4, rfl, hown4⟩; rw [hx1] at hown4 ⊢; have le34 := Hp.le_trans le4 hown4.le; have z4 := le34.1; simp only [Hp.push_size] at z4; have g44 := Xz (Hp.le_trans (H3.le_push _) le34) (by omega) (by intro e; cases e) g34; have g45 : H4.get H3.size = .own 0 [.slice none 0 0, .int .i64 0, .int .u64 0] := Xz le34 (by simp) (by intro e; cases e) (Hp.push_new _ _); have sl4 := hown4.sl; change Sl (Yy .i64) H4 (.slice A4 x.nodes.length c4) x.nodes at sl4; have le14 := Hp.le_trans (Hp.le_trans leH1 le13) (Hp.le_trans (H3.le_push _) le34)
  refine ⟨Yg, ?_⟩
  refine Xe rfl rfl (Zo rfl) Xp ?_
  refine Xe rfl rfl (Yo rfl rfl) Xp ?_
  refine Xe rfl rfl (Yo rfl rfl) Xp ?_
  refine Yi rfl rfl (Ym (vs := [.slice _ _ _, .int .i64 _, .int .u64 _]) rfl rfl inf35.size Ye Yk rfl rfl ?_)
  refine ⟨Yg, ?_⟩
  refine Xe rfl rfl (Xm rfl) Xp ?_
  refine Xd ?_
  refine Xb (by kernel_rfl) ?_
  refine Xa (Yp (cs := [.slice _ _ _, .int .i64 _, .int .u64 _]) rfl Try.underlying35 rfl inf35.size Yf) ?_
  refine Xa (Xc rfl) ?_
  refine Xa (Xu rfl) ?_
  refine X0 (Ym (vs := [.slice _ _ _, .int .i64 _, .int .u64 _]) rfl rfl inf35.size Ye Yk rfl rfl ?_)
  refine Xa (Xf rfl) ?_
  refine Xa (Xm rfl) ?_
  refine X8 ?_
  refine ⟨_, aresult3 (Zg Xl (Ze (cs := [_, _, _]) Try.underlying35 rfl inf35.size Yf)) (Xv rfl) (Xv rfl), Hp.le_put_new (Hp.le_put_new le14 (by omega) _) (Nat.le_refl _) _, .inr ⟨hlt, ns, left, x, A4, c4, hsk, hx1, hx2, rfl, ?_, hl0⟩⟩
  exact (sl4.mono (Hp.sees_box _ g45)).mono (Hp.sees_box (cs := [.slice none 0 0, .int .i64 0, .int .u64 0]) _ (by rw [Hp.put_other _ _ (by omega)]; exact g44))
end Go.Proofs.Ytmakkmcjocjgmaa.Am
