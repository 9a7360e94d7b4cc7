/- Texts that the proof rests on, part 6: lemmas for every heap that is related to a world, no condition beyond each lemma's own. -/
import Derived.Test.YtmakkmcjocjgmaaGreatAa5
import Derived.Test.YtmakkmcjocjgmaaGreatAaSlice3

/- Rows as the document tells them. -/
namespace Go.Proofs.YtmakkmcjocjgmaaGreat.Am
open Go Go.RowKit
set_option maxRecDepth 100000
set_option linter.unusedVariables false
set_option linter.unusedSimpArgs false

def Ui : List Int → List Int → Int
  | x :: xs, y :: ys => if x < y then -1 else if y < x then 1 else Ui xs ys
  | _, _ => 0
theorem cmpZ_self : ∀ xs : List Int, Ui xs xs = 0
  | [] => rfl
  | x :: xs => by rw [Ui, if_neg (by omega), if_neg (by omega)]; exact cmpZ_self xs
theorem cmpZ_end {xs ys : List Int} (h : xs = [] ∨ ys = []) : Ui xs ys = 0 := by
  rcases h with rfl | rfl
  · cases ys <;> rfl
  · cases xs <;> rfl
theorem Cmp_raw (xs ys : List Int) (v u : Value) (H : Hp) (hs : Sl (Yz .i64) H v xs) (hu : Sl (Yz .i64) H u ys) (hl : xs.length ≤ 1000000000) (hl2 : ys.length ≤ 1000000000) :
    ACalls Tryz.prog 61 #[v, u] H (fun r _ => r = .int .i64 (Ui xs ys)) := by
  obtain ⟨A, c, rfl⟩ := hs.shape
  obtain ⟨B, c2, rfl⟩ := hu.shape
  refine Xv Tryz.func61 rfl rfl rfl (by simp) ?_
  refine Xe ?_
  refine Xc (by kernel_rfl) ?_
  refine Xa (Xh rfl) ?_
  refine Xe ?_
  refine Xe ?_
  refine Xc (by kernel_rfl) ?_
  refine Xa (Xh rfl) ?_
  refine X8 ?_
  refine Yy (fun n t H' => ∃ i : Nat, i ≤ xs.length ∧ i ≤ ys.length ∧ n = xs.length - i ∧ H' = H ∧ Ui xs ys = Ui (xs.drop i) (ys.drop i) ∧ t 0 = .slice A xs.length c ∧ t 1 = .slice B ys.length c2 ∧ t 5 = .int .i64 i) (xs.length) (⟨0, by omega, by omega, rfl, rfl, rfl, rfl, rfl, rfl⟩) ?_
  rintro n t H ⟨i, hi, hi2, rfl, rfl, hor, e0, e1, e5⟩
  refine Xe ?_
  refine Xe ?_
  refine Xc (by kernel_rfl) ?_
  refine Xa (Xb Xj) ?_
  refine Xa (X0 Xj) ?_
  refine Xa (Yk rfl Tryz.underlying23) ?_
  refine Xa (Yx rfl rfl) ?_
  refine Xa (Xp rfl) ?_
  refine Yb rfl rfl rfl ?_ ?_
  intro hg1
  have hx : i < xs.length := by have := of_decide_eq_true hg1; omega
  refine Xn (Xf rfl rfl rfl hg1) (Xb Xj) ?_
  refine Xn (Xf rfl rfl rfl hg1) (X0 Xj) ?_
  refine Xn (Xf rfl rfl rfl hg1) (Yk rfl Tryz.underlying23) ?_
  refine Xn (Xf rfl rfl rfl hg1) (Yx rfl rfl) ?_
  refine Xa (Xl (congrArg Value.bool hg1) rfl) ?_
  refine X4 rfl rfl ?_ ?_
  intro hc2
  have hy : i < ys.length := by have := of_decide_eq_true hc2; omega
  have d1 : xs.drop i = xs[i] :: xs.drop (i + 1) := List.drop_eq_getElem_cons hx
  have d2 : ys.drop i = ys[i] :: ys.drop (i + 1) := List.drop_eq_getElem_cons hy
  rw [d1, d2, Ui] at hor
  refine X7 ?_
  refine Xe ?_
  refine X8 ?_
  refine Xe ?_
  refine Xe ?_
  obtain ⟨b, o, eb, hb, hcell⟩ := hs.int_at (i := (i : Int)) (by omega) (by omega)
  obtain ⟨b2, o2, eb2, hb2, hcell2⟩ := hu.int_at (i := (i : Int)) (by omega) (by omega)
  subst eb eb2
  rw [Int.toNat_natCast, Zf hx] at hcell
  rw [Int.toNat_natCast, Zf hy] at hcell2
  refine Yt (by kernel_rfl) (Y2 (B := [0, 0, 3, 7, 0, 0, 48, 112, 255]) (π := [0, 1, 2, 3, 4, 5, 6, 7, 8]) (by kernel_rfl)) ?_
  refine Xd rfl rfl (X0 Xj) Xq ?_
  refine Xd rfl rfl (Xb Xj) Xq ?_
  refine Xd rfl rfl (Xs rfl rfl Tryz.underlying23 inf3.size X3 X3) Xq ?_
  refine Xd rfl rfl (Xm rfl Tryz.underlying3 rfl Xr) Xq ?_
  refine Xd rfl rfl (X0 Xj) Xq ?_
  refine Xd rfl rfl (Xb Xj) Xq ?_
  refine Xd rfl rfl (Xs rfl rfl Tryz.underlying23 inf3.size X3 X3) Xq ?_
  refine Xd rfl rfl (Xm rfl Tryz.underlying3 rfl Xr) Xq ?_
  refine Xd rfl rfl (Yx rfl rfl) Xq ?_
  refine X4 rfl rfl ?_ ?_
  intro hc3
  have h1 : xs[i] < ys[i] := of_decide_eq_true hc3
  rw [if_pos h1] at hor
  refine Xe ?_
  refine Xc (by kernel_rfl) ?_
  refine Xa (Xh rfl) ?_
  refine X5 ?_
  exact ⟨.int .i64 (-1), Xz (Xu rfl), by rw [hor]⟩
  intro hc3
  have h1 : ¬ xs[i] < ys[i] := of_decide_eq_false hc3
  rw [if_neg h1] at hor
  refine X7 ?_
  refine Xe ?_
  refine Yt (by kernel_rfl) (Y2 (B := [0, 0, 3, 7, 0, 0, 48, 112, 255]) (π := [0, 1, 2, 3, 4, 5, 6, 7, 8]) (by kernel_rfl)) ?_
  refine Xd rfl rfl (X0 Xj) Xq ?_
  refine Xd rfl rfl (Xb Xj) Xq ?_
  refine Xd rfl rfl (Xs rfl rfl Tryz.underlying23 inf3.size X3 X3) Xq ?_
  refine Xd rfl rfl (Xm rfl Tryz.underlying3 rfl Xr) Xq ?_
  refine Xd rfl rfl (X0 Xj) Xq ?_
  refine Xd rfl rfl (Xb Xj) Xq ?_
  refine Xd rfl rfl (Xs rfl rfl Tryz.underlying23 inf3.size X3 X3) Xq ?_
  refine Xd rfl rfl (Xm rfl Tryz.underlying3 rfl Xr) Xq ?_
  refine Xd rfl rfl (av_gt rfl rfl) Xq ?_
  refine X4 rfl rfl ?_ ?_
  intro hc4
  have h2 : ys[i] < xs[i] := of_decide_eq_true hc4
  rw [if_pos h2] at hor
  refine Xe ?_
  refine Xc (by kernel_rfl) ?_
  refine Xa (Xh rfl) ?_
  refine X5 ?_
  exact ⟨.int .i64 1, Xz (Xu rfl), by rw [hor]⟩
  intro hc4
  have h2 : ¬ ys[i] < xs[i] := of_decide_eq_false hc4
  rw [if_neg h2] at hor
  refine X7 ?_
  refine Xc (by kernel_rfl) ?_
  refine Xa (Xb Xj) ?_
  refine Xa (Yg rfl rfl Yp) ?_
  refine Xa (Xh rfl) ?_
  exact ⟨xs.length - (i + 1), by omega, i + 1, by omega, by omega, rfl, rfl, hor, e0, e1, rfl⟩
  intro hc2
  have hy : ¬ i < ys.length := by have := of_decide_eq_false hc2; omega
  refine Yq ?_
  refine Xe ?_
  refine Xc (by kernel_rfl) ?_
  refine Xa (Xh rfl) ?_
  refine X5 ?_
  have h0 : Ui (xs.drop i) (ys.drop i) = 0 := cmpZ_end (by
    first
      | exact .inl (List.drop_of_length_le (by omega))
      | exact .inr (List.drop_of_length_le (by omega)))
  exact ⟨.int .i64 0, Xz (Xu rfl), by rw [hor, h0]⟩
  intro hg1
  have hx : ¬ i < xs.length := by have := of_decide_eq_false hg1; omega
  refine Xg (Xk rfl rfl rfl hg1 rfl) ?_
  refine Xg (Xk rfl rfl rfl hg1 rfl) ?_
  refine Xg (Xk rfl rfl rfl hg1 rfl) ?_
  refine Xg (Xk rfl rfl rfl hg1 rfl) ?_
  refine Xa (Xl (congrArg Value.bool hg1) Xj) ?_
  refine Yw rfl rfl ?_
  refine Yq ?_
  refine Xe ?_
  refine Xc (by kernel_rfl) ?_
  refine Xa (Xh rfl) ?_
  refine X5 ?_
  have h0 : Ui (xs.drop i) (ys.drop i) = 0 := cmpZ_end (by
    first
      | exact .inl (List.drop_of_length_le (by omega))
      | exact .inr (List.drop_of_length_le (by omega)))
  exact ⟨.int .i64 0, Xz (Xu rfl), by rw [hor, h0]⟩
theorem Cmp_ints (xs ys : List Int) (v u : Value) (H : Hp) (hs : Sl (Yz .i64) H v xs) (hu : Sl (Yz .i64) H u ys) (hl : xs.length ≤ 1000000000) (hl2 : ys.length ≤ 1000000000) :
    ACalls Tryz.prog 61 #[v, u] H (fun r H' => r = .int .i64 (Ui xs ys) ∧ H' = H) :=
  ACalls.pure (fun v h => by rw [h]; rfl) (Cmp_raw xs ys v u H.ro (hs.mono H.sees_ro) (hu.mono H.sees_ro) hl hl2)
theorem SameRow_raw (ns : List Int) (cost m : Int) (A B : Option Addr) (c c2 : Nat) (H : Hp) (hs : Sl (Yz .i64) H (.slice A ns.length c) ns) (hu : Sl (Yz .i64) H (.slice B ns.length c2) ns) (hl : ns.length ≤ 1000000000) :
    ACalls Tryz.prog 22 #[.agg #[.slice A ns.length c, .int .i64 cost, .int .u64 m], .agg #[.slice B ns.length c2, .int .i64 cost, .int .u64 m]] H (fun r _ => r = .bool true) := by
  refine Xv Tryz.func22 rfl rfl rfl (by simp) ?_
  refine Xe ?_
  refine Xc (by kernel_rfl) ?_
  refine X6 (Ys rfl) ?_
  refine X6 (Ys rfl) ?_
  refine Xa (Xo rfl) ?_
  refine Xe ?_
  refine Xe ?_
  refine Xc (by kernel_rfl) ?_
  refine Xa (Xi (off := 1) rfl Tryz.underlying46 rfl inf3.size (by decide) rfl) ?_
  refine Xa (Xm rfl Tryz.underlying3 rfl Xr) ?_
  refine Xa (Xi (off := 1) rfl Tryz.underlying46 rfl inf3.size (by decide) rfl) ?_
  refine Xa (Xm rfl Tryz.underlying3 rfl Xr) ?_
  refine Xa (Z8 rfl rfl) ?_
  refine Xa (Xp rfl) ?_
  refine Yb rfl rfl rfl ?_ ?_
  intro hg1
  (have h := hg1; simp at h)
  intro hg1
  have hp1 := hg1; try simp only [decide_eq_true_eq, decide_eq_false_iff_not, Bool.not_eq_true', Bool.not_eq_false'] at hp1
  refine Xn (Xf rfl rfl rfl hg1) (Xi (off := 2) rfl Tryz.underlying46 rfl inf30.size (by decide) rfl) ?_
  refine Xn (Xf rfl rfl rfl hg1) (Xm rfl Tryz.underlying30 rfl Xr) ?_
  refine Xn (Xf rfl rfl rfl hg1) (Xi (off := 2) rfl Tryz.underlying46 rfl inf30.size (by decide) rfl) ?_
  refine Xn (Xf rfl rfl rfl hg1) (Xm rfl Tryz.underlying30 rfl Xr) ?_
  refine Xn (Xf rfl rfl rfl hg1) (Z8 rfl rfl) ?_
  refine Xa (Xl (congrArg Value.bool hg1) rfl) ?_
  refine Xa (Xp rfl) ?_
  refine Yb rfl rfl rfl ?_ ?_
  intro hg2
  (have h := hg2; simp at h)
  intro hg2
  have hp2 := hg2; try simp only [decide_eq_true_eq, decide_eq_false_iff_not, Bool.not_eq_true', Bool.not_eq_false'] at hp2
  refine Xn (Xf rfl rfl rfl hg2) (Xi (off := 0) rfl Tryz.underlying46 rfl inf23.size (by decide) rfl) ?_
  refine Xn (Xf rfl rfl rfl hg2) (Xm rfl Tryz.underlying23 rfl Xr) ?_
  refine Xn (Xf rfl rfl rfl hg2) (Yk rfl Tryz.underlying23) ?_
  refine Xn (Xf rfl rfl rfl hg2) (Xi (off := 0) rfl Tryz.underlying46 rfl inf23.size (by decide) rfl) ?_
  refine Xn (Xf rfl rfl rfl hg2) (Xm rfl Tryz.underlying23 rfl Xr) ?_
  refine Xn (Xf rfl rfl rfl hg2) (Yk rfl Tryz.underlying23) ?_
  refine Xn (Xf rfl rfl rfl hg2) (Z8 rfl rfl) ?_
  refine Xa (Xl (congrArg Value.bool hg2) rfl) ?_
  refine X4 rfl rfl ?_ ?_
  intro hc3
  (have h := hc3; simp at h)
  intro hc3
  (try simp only [decide_eq_true_eq, decide_eq_false_iff_not, Bool.not_eq_true', Bool.not_eq_false'] at hc3)
  refine X7 ?_
  refine Xe ?_
  refine Xc (by kernel_rfl) ?_
  refine Xa (Xi (off := 0) rfl Tryz.underlying46 rfl inf23.size (by decide) rfl) ?_
  refine Xa (Xm rfl Tryz.underlying23 rfl Xr) ?_
  refine Xa (Xi (off := 0) rfl Tryz.underlying46 rfl inf23.size (by decide) rfl) ?_
  refine Xa (Xm rfl Tryz.underlying23 rfl Xr) ?_
  refine X1 (Xx (Cmp_ints ns ns _ _ _ (hs.mono Zq) (hu.mono Zq) hl hl) rfl Tryz.func61 rfl rfl rfl ?_)
  rintro v5 H5 ⟨rfl, rfl⟩; rw [cmpZ_self]
  refine Xa (Zr rfl rfl) ?_
  refine Xa (Xo rfl) ?_
  refine X5 ?_
  exact ⟨.bool true, Xz (Xu rfl), rfl⟩
theorem SameRow_true (ns : List Int) (cost m : Int) (A B : Option Addr) (c c2 : Nat) (H : Hp) (hs : Sl (Yz .i64) H (.slice A ns.length c) ns) (hu : Sl (Yz .i64) H (.slice B ns.length c2) ns) (hl : ns.length ≤ 1000000000) :
    ACalls Tryz.prog 22 #[.agg #[.slice A ns.length c, .int .i64 cost, .int .u64 m], .agg #[.slice B ns.length c2, .int .i64 cost, .int .u64 m]] H (fun r H' => r = .bool true ∧ H' = H) :=
  ACalls.pure (fun v h => by rw [h]; rfl) (SameRow_raw ns cost m A B c c2 H.ro (hs.mono H.sees_ro) (hu.mono H.sees_ro) hl)
theorem OfRow_ref (A : Option Addr) (n c : Nat) (cost m : Int) (H : Hp) :
    ACalls Tryz.prog 23 #[.agg #[.slice A n c, .int .i64 cost, .int .u64 m]] H (fun r H' => r = .agg #[.slice A n c, .int .i64 cost, .int .u64 m] ∧ H.le H') := by
  refine Xv Tryz.func23 rfl rfl rfl (by simp) ?_
  refine Xe ?_
  refine Xc (by kernel_rfl) ?_
  refine X6 (Ys rfl) ?_
  refine X6 (Y8 (l := [.slice none 0 0, .int .i64 0, .int .u64 0]) inf46.zero rfl (by decide)) ?_
  refine Xe ?_
  refine Xc (by kernel_rfl) ?_
  refine Xa (Xi (off := 0) rfl Tryz.underlying54 rfl inf23.size (by decide) rfl) ?_
  refine Xa (Xm rfl Tryz.underlying23 rfl Xr) ?_
  refine Xa (Xi (off := 1) rfl Tryz.underlying54 rfl inf3.size (by decide) rfl) ?_
  refine Xa (Xm rfl Tryz.underlying3 rfl Xr) ?_
  refine Xa (Xi (off := 2) rfl Tryz.underlying54 rfl inf30.size (by decide) rfl) ?_
  refine Xa (Xm rfl Tryz.underlying30 rfl Xr) ?_
  refine Xa (Zc (pl := [(0, 1), (1, 1), (2, 1)]) (r := [.slice _ _ _, .int .i64 _, .int .u64 _]) Tryz.underlying46 inf46.zero (by decide) rfl rfl) ?_
  refine X1 (Yo (vs := [.slice _ _ _, .int .i64 _, .int .u64 _]) rfl rfl inf46.size Yj Yl rfl rfl ?_)
  refine X5 ?_
  · exact ⟨_, Xz (Y9 Xj (Y6 (cs := [_, _, _]) Tryz.underlying46 rfl inf46.size Yd)), rfl, Hp.le_put_new (Hp.le_push' (H.le_push _) _) (by first | (simp; done) | (simp; omega) | omega) _⟩
theorem rows_eq {T : TreeT} {r s : RowT} (h : r.nodes = s.nodes) (hr : rowT T r.nodes = some r) (hs : rowT T s.nodes = some s) : r = s := by
  rw [h, hs] at hr
  exact (Option.some.inj hr).symm
end Go.Proofs.YtmakkmcjocjgmaaGreat.Am


/- Going down to the k-th answer, and how many stand ahead, plain. -/
namespace Go.Proofs.YtmakkmcjocjgmaaGreat.Am
open Go Go.RowKit
set_option maxRecDepth 100000
set_option linter.unusedVariables false
set_option linter.unusedSimpArgs false

def seek : List (List Int × Nat) → Int → Option (List Int × Int)
  | [], _ => none
  | x :: xs, k => if k < Zd x.2 then some (x.1, k) else seek xs (k - Zd x.2)
def V0 (xs : List (List Int × Nat)) : Nat := (xs.map Prod.snd).sum
def V2 (T : TreeT) : Nat → List Int → Nat → List (List Int × Nat)
  | 0, ns, w => [(ns, w)]
  | d + 1, ns, w => (T.group ns.length (Ym T ns ns.length)).flatMap fun l => V2 T d (ns ++ [l.b]) (w * l.n.toNat)
theorem wsum_append (xs ys : List (List Int × Nat)) : V0 (xs ++ ys) = V0 xs + V0 ys := by unfold V0; rw [List.map_append, List.sum_append]
theorem wsum_flat {α : Type} {f : α → List (List Int × Nat)} : ∀ (xs : List α), V0 (xs.flatMap f) = (xs.map fun x => V0 (f x)).sum
  | [] => rfl
  | x :: xs => by rw [List.flatMap_cons, wsum_append, wsum_flat xs, List.map_cons, List.sum_cons]
theorem extW_sum {T : TreeT} (hT : GoodT T) : ∀ (d : Nat) (ns : List Int) (w : Nat), ns.length + d = T.vars.length → V0 (V2 T d ns w) = w * V1 T ns
  | 0, ns, w, h => by rw [V2, cnt_full (by omega), Nat.mul_one]; simp [V0]
  | d + 1, ns, w, h => by
    rw [V2, wsum_flat, cnt_step hT (by omega), sum_mul]
    refine Uy fun x _ => ?_
    rw [extW_sum hT d _ _ (by simp; omega), Nat.mul_assoc]
theorem seek_in {B : List (List Int × Nat)} : ∀ {A : List (List Int × Nat)} {k : Int}, 0 ≤ k → k < Zd (V0 A) → seek (A ++ B) k = seek A k ∧ (seek A k).isSome = true
  | [], k, h0, h => by
    have : Zd (V0 []) = 0 := by rw [show V0 [] = 0 from rfl]; exact cap_nil.symm
    omega
  | x :: A, k, h0, h => by
    have hM := most_pos
    have hw : V0 (x :: A) = x.2 + V0 A := by unfold V0; rw [List.map_cons, List.sum_cons]
    rw [hw] at h
    show (if k < Zd x.2 then _ else seek (A ++ B) (k - Zd x.2)) = (if k < Zd x.2 then _ else seek A (k - Zd x.2)) ∧ (if k < Zd x.2 then some (x.1, k) else seek A (k - Zd x.2)).isSome = true
    by_cases h1 : k < Zd x.2
    · rw [if_pos h1, if_pos h1]; exact ⟨rfl, rfl⟩
    · rw [if_neg h1, if_neg h1]
      refine seek_in (by omega) ?_
      unfold Zd at *
      omega
theorem seek_out {B : List (List Int × Nat)} : ∀ {A : List (List Int × Nat)} {k : Int}, 0 ≤ k → k < Y0 → Zd (V0 A) ≤ k → seek (A ++ B) k = seek B (k - V0 A)
  | [], k, h0, hm, h => by
    rw [show V0 [] = 0 from rfl]
    show seek B k = seek B (k - ((0 : Nat) : Int))
    rw [show k - ((0 : Nat) : Int) = k by omega]
  | x :: A, k, h0, hm, h => by
    have hM := most_pos
    have hw : V0 (x :: A) = x.2 + V0 A := by unfold V0; rw [List.map_cons, List.sum_cons]
    rw [hw] at h ⊢
    have e1 : Zd x.2 = x.2 := by unfold Zd at *; omega
    have e2 : (x.2 : Int) + V0 A ≤ k := by unfold Zd at *; omega
    show (if k < Zd x.2 then _ else seek (A ++ B) (k - Zd x.2)) = _
    rw [if_neg (by omega), e1, seek_out (by omega) (by omega) (by unfold Zd; omega)]
    congr 1; omega
theorem extW_fst {T : TreeT} : ∀ (d : Nat) (ns : List Int) (w : Nat), (V2 T d ns w).map Prod.fst = U5 T d ns
  | 0, ns, w => rfl
  | d + 1, ns, w => by
    rw [V2, U5]
    generalize T.group ns.length (Ym T ns ns.length) = g
    induction g with
    | nil => rfl
    | cons l g ih => rw [List.flatMap_cons, List.flatMap_cons, List.map_append, extW_fst d, ih]
theorem rowAcc_left {T : TreeT} (hT : GoodT T) {q ms : List Int} : ∀ i, i ≤ q.length → i ≤ T.vars.length → Z6 T (q ++ ms) i = Z6 T q i
  | 0, _, _ => rfl
  | i + 1, h, h2 => by
    rw [Z6, Z6, rowAcc_left hT i (by omega) (by omega), above_ext hT (ns := q ++ ms) (ms := q) (by omega) (fun j hj => getD_left (by omega)), getD_left (by omega)]
theorem extW_row {T : TreeT} (hT : GoodT T) : ∀ (d : Nat) (q : List Int) (w : Nat) (c : Int), Z6 T q q.length = some (c, Zd w) → q.length + d = T.vars.length → ∀ x ∈ V2 T d q w, ∃ c', Z6 T x.1 T.vars.length = some (c', Zd x.2)
  | 0, q, w, c, h, h2, x, hx => by
    rw [V2, List.mem_singleton] at hx
    subst hx
    exact ⟨c, by rw [← h2]; exact h⟩
  | d + 1, q, w, c, h, h2, x, hx => by
    rw [V2] at hx
    obtain ⟨l, hl, hx⟩ := List.mem_flatMap.1 hx
    have hn := (hT.group_mem hl).2.2
    refine extW_row hT d (q ++ [l.b]) (w * l.n.toNat) (c + l.cost) ?_ (by simp; omega) x hx
    rw [List.length_append, List.length_singleton, Z6, rowAcc_left hT _ (Nat.le_refl _) (by omega), h]
    have hab : Ym T (q ++ [l.b]) q.length = Ym T q q.length := above_ext hT (by omega) fun j hj => getD_left hj
    rw [hab, Vl, (findB_iff (hT.sort _ _)).2 ⟨hl, rfl⟩]
    simp only [Option.bind_some, Option.map_some, Option.some.injEq, Prod.mk.injEq, true_and]
    rw [← Ur]
    conv => lhs; rw [show l.n = ((l.n.toNat : Nat) : Int) by omega]
    rw [Ug, timesI_nat, Ug]
theorem extW_rows {T : TreeT} (hT : GoodT T) {rows : List RowT} (hrm : rows.map RowT.nodes = U5 T T.vars.length []) (hrr : ∀ r ∈ rows, rowT T r.nodes = some r) : (rows.map fun r => (r.nodes, r.n)) = (V2 T T.vars.length [] 1).map fun x => (x.1, Zd x.2) := by
  have hf := extW_fst (T := T) T.vars.length [] 1
  rw [← hrm] at hf
  have hlen : rows.length = (V2 T T.vars.length [] 1).length := by
    have := congrArg List.length hf
    rw [List.length_map, List.length_map] at this
    exact this.symm
  refine List.ext_getElem (by rw [List.length_map, List.length_map, hlen]) fun i h1 h2 => ?_
  rw [List.length_map] at h1 h2
  rw [List.getElem_map, List.getElem_map]
  have e1 : (V2 T T.vars.length [] 1)[i].1 = rows[i].nodes := by
    have h3 : ((V2 T T.vars.length [] 1).map Prod.fst)[i]? = (rows.map RowT.nodes)[i]? := by rw [hf]
    rw [List.getElem?_map, List.getElem?_map, List.getElem?_eq_getElem h1, List.getElem?_eq_getElem h2] at h3
    exact Option.some.inj h3
  obtain ⟨c, hc⟩ := extW_row hT T.vars.length [] 1 0 (by rw [← cap_one]; rfl) (by simp) _ (List.getElem_mem h2)
  have hr := hrr _ (List.getElem_mem h1)
  rw [e1] at hc
  unfold rowT at hr
  split at hr
  · rw [hc] at hr
    have hr := Option.some.inj hr
    rw [e1, ← hr]
  · cases hr
def atR : List RowT → Int → Option (Nat × Int)
  | [], _ => none
  | r :: rs, k => if k < r.n then some (0, k) else (atR rs (k - r.n)).map fun p => (p.1 + 1, p.2)
theorem seek_rows : ∀ {rows : List RowT} {xs : List (List Int × Nat)} {k : Int}, (rows.map fun r => (r.nodes, r.n)) = (xs.map fun x => (x.1, Zd x.2)) → seek xs k = (atR rows k).map fun p => ((rows.getD p.1 ⟨[], 0, 0⟩).nodes, p.2)
  | [], [], k, _ => rfl
  | [], x :: xs, k, h => by simp at h
  | r :: rows, [], k, h => by simp at h
  | r :: rows, x :: xs, k, h => by
    simp only [List.map_cons, List.cons.injEq, Prod.mk.injEq] at h
    rw [seek, atR, ← h.1.1, ← h.1.2]
    by_cases h1 : k < r.n
    · rw [if_pos h1, if_pos h1]; rfl
    · rw [if_neg h1, if_neg h1, seek_rows h.2]
      cases atR rows (k - r.n) with
      | none => rfl
      | some p => rfl
theorem sum_rows : ∀ {rows : List RowT} {xs : List (List Int × Nat)} {n : Nat}, (rows.map fun r => (r.nodes, r.n)) = (xs.map fun x => (x.1, Zd x.2)) → rows.foldl (fun s r => U2 s r.n) (Zd n) = Zd (n + V0 xs)
  | [], [], n, _ => by simp [V0]
  | [], x :: xs, n, h => by simp at h
  | r :: rows, [], n, h => by simp at h
  | r :: rows, x :: xs, n, h => by
    simp only [List.map_cons, List.cons.injEq, Prod.mk.injEq] at h
    rw [List.foldl_cons, h.1.2, addI_cap, sum_rows h.2]
    unfold V0
    rw [List.map_cons, List.sum_cons, Nat.add_assoc]
def Un (xs : List (List Int × Nat)) (ns : List Int) : Nat := V0 (xs.filter fun x => decide (Ui x.1 ns < 0))
theorem lessW_append (xs ys : List (List Int × Nat)) (ns : List Int) : Un (xs ++ ys) ns = Un xs ns + Un ys ns := by unfold Un; rw [List.filter_append, wsum_append]
theorem lessW_all {xs : List (List Int × Nat)} {ns : List Int} (h : ∀ x ∈ xs, Ui x.1 ns < 0) : Un xs ns = V0 xs := by
  unfold Un; rw [List.filter_eq_self.2 fun x hx => decide_eq_true (h x hx)]
theorem lessW_none {xs : List (List Int × Nat)} {ns : List Int} (h : ∀ x ∈ xs, ¬ Ui x.1 ns < 0) : Un xs ns = 0 := by
  unfold Un; rw [List.filter_eq_nil_iff.2 fun x hx => by simpa using h x hx]; rfl
theorem cmpZ_app : ∀ (p xs ys : List Int), Ui (p ++ xs) (p ++ ys) = Ui xs ys
  | [], xs, ys => rfl
  | a :: p, xs, ys => by
    show Ui (a :: (p ++ xs)) (a :: (p ++ ys)) = _
    rw [Ui, if_neg (by omega), if_neg (by omega), cmpZ_app p]
theorem cmpZ_trans : ∀ {xs ys zs : List Int}, xs.length = ys.length → ys.length = zs.length → Ui xs ys < 0 → Ui ys zs < 0 → Ui xs zs < 0
  | [], ys, zs, _, _, h, _ => by
    cases ys with
    | nil => exact absurd h (by decide)
    | cons y ys => exact absurd h (by show ¬ ((0 : Int) < 0); decide)
  | x :: xs, [], zs, h, _, _, _ => by simp at h
  | x :: xs, y :: ys, [], _, h, _, _ => by simp at h
  | x :: xs, y :: ys, z :: zs, h1, h2, h3, h4 => by
    simp only [List.length_cons, Nat.add_right_cancel_iff] at h1 h2
    rw [Ui] at h3 h4 ⊢
    by_cases a1 : x < y
    · by_cases a2 : y < z
      · rw [if_pos (by omega)]; omega
      · rw [if_neg a2] at h4
        by_cases a3 : z < y
        · rw [if_pos a3] at h4; omega
        · rw [if_pos (by omega)]; omega
    · rw [if_neg a1] at h3
      by_cases a0 : y < x
      · rw [if_pos a0] at h3; omega
      · rw [if_neg a0] at h3
        by_cases a2 : y < z
        · rw [if_pos (by omega)]; omega
        · rw [if_neg a2] at h4
          by_cases a3 : z < y
          · rw [if_pos a3] at h4; omega
          · rw [if_neg a3] at h4
            rw [if_neg (by omega), if_neg (by omega)]
            exact cmpZ_trans h1 h2 h3 h4
theorem mem_extW {T : TreeT} {d : Nat} {ns : List Int} {w : Nat} {x : List Int × Nat} (h : x ∈ V2 T d ns w) : x.1 ∈ U5 T d ns := by
  rw [← extW_fst d ns w]; exact List.mem_map.2 ⟨x, h, rfl⟩
theorem ext_cmp {T : TreeT} {d : Nat} {q r ns : List Int} {b : Int} (h : r ∈ U5 T d (q ++ [b])) (hq : ns.take q.length = q) (hl : q.length < ns.length) : (b < ns.getD q.length 0 → Ui r ns < 0) ∧ (ns.getD q.length 0 < b → ¬ Ui r ns < 0) := by
  obtain ⟨h1, h2⟩ := mem_ext d _ r h
  have e1 : r = q ++ (b :: r.drop (q.length + 1)) := by
    conv => lhs; rw [← List.take_append_drop (q.length + 1) r]
    rw [List.length_append, List.length_singleton] at h2
    rw [h2, List.append_assoc]; rfl
  have e2 : ns = q ++ (ns.getD q.length 0 :: ns.drop (q.length + 1)) := by
    conv => lhs; rw [← List.take_append_drop q.length ns, hq]
    rw [List.drop_eq_getElem_cons hl, Zf hl]
  generalize r.drop (q.length + 1) = r' at e1
  generalize ns.drop (q.length + 1) = n' at e2
  generalize ns.getD q.length 0 = c at e2 ⊢
  rw [e1, e2, cmpZ_app, Ui]
  refine ⟨fun h => by rw [if_pos h]; decide, fun h => by rw [if_neg (by omega), if_pos h]; decide⟩
theorem ext_sorted {T : TreeT} (hT : GoodT T) : ∀ (d : Nat) (q : List Int), (U5 T d q).Pairwise fun a b => Ui a b < 0
  | 0, q => List.pairwise_singleton _ _
  | d + 1, q => by
    rw [U5]
    have hs := hT.sort q.length (Ym T q q.length)
    generalize T.group q.length (Ym T q q.length) = g at hs
    induction g with
    | nil => exact List.Pairwise.nil
    | cons l g ih =>
      rw [List.pairwise_cons] at hs
      rw [List.flatMap_cons, List.pairwise_append]
      refine ⟨ext_sorted hT d _, ih hs.2, fun a ha b hb => ?_⟩
      obtain ⟨m, hm, hb⟩ := List.mem_flatMap.1 hb
      obtain ⟨b1, b2⟩ := mem_ext d _ b hb
      rw [List.length_append, List.length_singleton] at b1 b2
      have hbq : b.take q.length = q := by
        have h4 := congrArg (List.take q.length) b2
        rw [List.take_take, Nat.min_eq_left (by omega), List.take_append_of_le_length (Nat.le_refl _), List.take_length] at h4
        exact h4
      refine (ext_cmp ha hbq (by omega)).1 ?_
      have : b.getD q.length 0 = m.b := by
        have h5 : (b.take (q.length + 1)).getD q.length 0 = m.b := by rw [b2, Vl]
        rwa [getD_take (by omega)] at h5
      rw [this]
      exact hs.1 m hm
end Go.Proofs.YtmakkmcjocjgmaaGreat.Am


/- How many answers stand ahead of any nodes, row by row, plain. -/
namespace Go.Proofs.YtmakkmcjocjgmaaGreat.Am
open Go Go.RowKit
set_option maxRecDepth 100000
set_option linter.unusedVariables false
set_option linter.unusedSimpArgs false

def aheadR (ns : List Int) : List RowT → Int
  | [] => 0
  | r :: rs => if Ui r.nodes ns < 0 then r.n + aheadR ns rs else 0
theorem wsum_cons (x : List Int × Nat) (xs : List (List Int × Nat)) : V0 (x :: xs) = x.2 + V0 xs := by unfold V0; rw [List.map_cons, List.sum_cons]
theorem lessW_cons (x : List Int × Nat) (xs : List (List Int × Nat)) (ns : List Int) : Un (x :: xs) ns = (if Ui x.1 ns < 0 then x.2 else 0) + Un xs ns := by
  unfold Un
  rw [List.filter_cons]
  by_cases h : Ui x.1 ns < 0
  · rw [if_pos (decide_eq_true h), if_pos h, wsum_cons]
  · rw [if_neg (by simpa using h), if_neg h, Nat.zero_add]
theorem lessW_le (xs : List (List Int × Nat)) (ns : List Int) : Un xs ns ≤ V0 xs := by
  induction xs with
  | nil => exact Nat.le_refl _
  | cons x xs ih =>
    rw [lessW_cons, wsum_cons]
    split <;> omega
theorem ahead_less {ns : List Int} : ∀ {rows : List RowT} {xs : List (List Int × Nat)}, (rows.map fun r => (r.nodes, r.n)) = (xs.map fun x => (x.1, Zd x.2)) → (V0 xs : Int) < Y0 → rows.Pairwise (fun a b => Ui a.nodes b.nodes < 0) → (∀ r ∈ rows, r.nodes.length = ns.length) → aheadR ns rows = (Un xs ns : Nat) := by
  intro rows
  induction rows with
  | nil =>
    intro xs h _ _ _
    cases xs with
    | nil => rfl
    | cons x xs => simp at h
  | cons r rows ih =>
    intro xs h hm hs hl
    cases xs with
    | nil => simp at h
    | cons x xs =>
    simp only [List.map_cons, List.cons.injEq, Prod.mk.injEq] at h
    rw [wsum_cons] at hm
    rw [List.pairwise_cons] at hs
    have hx : Zd x.2 = x.2 := by unfold Zd; omega
    rw [aheadR, lessW_cons, ← h.1.1]
    by_cases hc : Ui r.nodes ns < 0
    · rw [if_pos hc, if_pos hc, ih h.2 (by omega) hs.2 (fun r hr => hl r (by simp [hr])), h.1.2, hx]; omega
    · rw [if_neg hc, if_neg hc, lessW_none]
      · rfl
      · intro y hy hlt
        have h3 : (y.1, Zd y.2) ∈ rows.map fun r => (r.nodes, r.n) := by rw [h.2]; exact List.mem_map.2 ⟨y, hy, rfl⟩
        obtain ⟨r', hr', he⟩ := List.mem_map.1 h3
        simp only [Prod.mk.injEq] at he
        rw [← he.1] at hlt
        exact hc (cmpZ_trans (by rw [hl r (by simp), hl r' (by simp [hr'])]) (hl r' (by simp [hr'])) (hs.1 r' hr') hlt)
theorem atR_some : ∀ {rows : List RowT} {k : Int} {i : Nat} {left : Int}, (∀ r ∈ rows, 0 ≤ r.n) → 0 ≤ k → atR rows k = some (i, left) → ∃ h : i < rows.length, 0 ≤ left ∧ left < rows[i].n ∧ k = ((rows.take i).map RowT.n).sum + left
  | [], k, i, left, _, _, h => by cases h
  | r :: rows, k, i, left, hn, h0, h => by
    rw [atR] at h
    by_cases h1 : k < r.n
    · rw [if_pos h1] at h
      injection h with h
      injection h with h2 h3
      subst h2 h3
      exact ⟨by simp, h0, h1, by simp⟩
    · rw [if_neg h1] at h
      cases hq : atR rows (k - r.n) with
      | none => rw [hq] at h; cases h
      | some p =>
        obtain ⟨j, l⟩ := p
        rw [hq] at h
        injection h with h
        injection h with h2 h3
        simp only at h2 h3
        subst h2 h3
        obtain ⟨hj, a1, a2, a3⟩ := atR_some (fun r hr => hn r (by simp [hr])) (by omega) hq
        exact ⟨by simp; omega, a1, by simpa using a2, by rw [List.take_succ_cons, List.map_cons, List.sum_cons]; omega⟩
theorem ahead_self : ∀ {rows : List RowT} {i : Nat} (h : i < rows.length), rows.Pairwise (fun a b => Ui a.nodes b.nodes < 0) → aheadR (rows[i].nodes) rows = ((rows.take i).map RowT.n).sum
  | r :: rows, 0, h, hs => by
    rw [aheadR]
    simp only [List.getElem_cons_zero, List.take_zero, List.map_nil, List.sum_nil]
    rw [if_neg (by rw [cmpZ_self]; decide)]
  | r :: rows, i + 1, h, hs => by
    rw [List.pairwise_cons] at hs
    simp only [List.length_cons] at h
    rw [aheadR, List.getElem_cons_succ, if_pos (hs.1 _ (List.getElem_mem (by omega))), ahead_self (by omega) hs.2, List.take_succ_cons, List.map_cons, List.sum_cons]
theorem less_step {T : TreeT} (hT : GoodT T) {d : Nat} {q ns : List Int} {w : Nat} (hq : ns.take q.length = q) (hl : q.length < ns.length) (hd : q.length + (d + 1) = T.vars.length) :
    Un (V2 T (d + 1) q w) ns = ((T.group q.length (Ym T q q.length)).map fun l => if l.b < ns.getD q.length 0 then w * l.n.toNat * V1 T (q ++ [l.b]) else if l.b = ns.getD q.length 0 then Un (V2 T d (q ++ [l.b]) (w * l.n.toNat)) ns else 0).sum := by
  rw [V2]
  generalize T.group q.length (Ym T q q.length) = g
  induction g with
  | nil => rfl
  | cons l g ih =>
    rw [List.flatMap_cons, lessW_append, ih, List.map_cons, List.sum_cons]
    congr 1
    by_cases h1 : l.b < ns.getD q.length 0
    · rw [if_pos h1, lessW_all fun x hx => (ext_cmp (mem_extW hx) hq hl).1 h1, extW_sum hT d _ _ (by simp; omega)]
    · rw [if_neg h1]
      by_cases h2 : l.b = ns.getD q.length 0
      · rw [if_pos h2]
      · rw [if_neg h2, lessW_none fun x hx => (ext_cmp (mem_extW hx) hq hl).2 (by omega)]
theorem rows_sorted {T : TreeT} (hT : GoodT T) {rows : List RowT} (hrm : rows.map RowT.nodes = U5 T T.vars.length []) : rows.Pairwise (fun a b => Ui a.nodes b.nodes < 0) := by
  have h := ext_sorted hT T.vars.length []
  rw [← hrm, List.pairwise_map] at h
  exact h
end Go.Proofs.YtmakkmcjocjgmaaGreat.Am


/- Numbers split by sizes, plain. -/
namespace Go.Proofs.YtmakkmcjocjgmaaGreat.Am
open Go Go.RowKit
set_option maxRecDepth 100000
set_option linter.unusedVariables false
set_option linter.unusedSimpArgs false

def prodI : List Int → Int
  | [] => 1
  | s :: ss => s * prodI ss
def peel : List Int → Int → Int × List Int
  | [], k => (k, [])
  | s :: ss, k => ((peel ss k).1 / s, (peel ss k).1 % s :: (peel ss k).2)
theorem prodI_pos : ∀ {ss : List Int}, (∀ s ∈ ss, 0 < s) → 0 < prodI ss
  | [], _ => by decide
  | s :: ss, h => Int.mul_pos (h s (by simp)) (prodI_pos fun x hx => h x (by simp [hx]))
theorem prodI_zero : ∀ {ss : List Int}, (∀ s ∈ ss, 0 ≤ s) → ¬ (∀ s ∈ ss, 0 < s) → prodI ss = 0
  | [], _, h => absurd (fun s hs => by cases hs) h
  | s :: ss, h0, h => by
    rw [prodI]
    by_cases hs : s = 0
    · rw [hs, Int.zero_mul]
    · rw [prodI_zero (fun x hx => h0 x (by simp [hx])) (fun h2 => h fun x hx => by
        rcases List.mem_cons.1 hx with rfl | hx
        · have := h0 x (by simp); omega
        · exact h2 x hx), Int.mul_zero]
theorem peel_len : ∀ (ss : List Int) (k : Int), (peel ss k).2.length = ss.length
  | [], _ => rfl
  | s :: ss, k => by rw [peel]; simp [peel_len ss k]
theorem peel_fst : ∀ {ss : List Int} {k : Int}, (∀ s ∈ ss, 0 < s) → 0 ≤ k → (peel ss k).1 = k / prodI ss
  | [], k, _, _ => by rw [peel, prodI, Int.ediv_one]
  | s :: ss, k, h, h0 => by
    rw [peel, prodI, peel_fst (fun x hx => h x (by simp [hx])) h0, Int.mul_comm s, Int.ediv_ediv_of_nonneg (Int.le_of_lt (prodI_pos fun x hx => h x (by simp [hx])))]
theorem peel_le {ss : List Int} {k : Int} (h : ∀ s ∈ ss, 0 < s) (h0 : 0 ≤ k) : 0 ≤ (peel ss k).1 ∧ (peel ss k).1 ≤ k := by
  rw [peel_fst h h0]
  have := prodI_pos h
  exact ⟨Int.ediv_nonneg h0 (by omega), Int.ediv_le_self _ h0⟩
theorem wrap_u64a {x : Int} (h : 0 ≤ x) (h2 : x < 18446744073709551616) : IntKind.u64.wrap x = x := by
  simp [IntKind.wrap, IntKind.bits, IntKind.signed]; omega
def Us (ss : List Int) : Int := ss.foldl Yv 1
theorem prodT_fold : ∀ {ss : List Int} {n : Nat}, (∀ s ∈ ss, 0 ≤ s) → ss.foldl Yv (Zd n) = Zd (n * (prodI ss).toNat)
  | [], n, _ => by rw [prodI]; simp
  | s :: ss, n, h => by
    have hs := h s (by simp)
    have h2 : 0 ≤ prodI ss := by
      by_cases hp : ∀ x ∈ ss, 0 < x
      · exact Int.le_of_lt (prodI_pos hp)
      · rw [prodI_zero (fun x hx => h x (by simp [hx])) hp]; decide
    rw [List.foldl_cons]
    have h3 : Yv (Zd n) s = Zd (n * s.toNat) := by
      rw [← Ur, Ug, Ug (Zd n), ← timesI_nat, Int.toNat_of_nonneg hs]
    rw [h3, prodT_fold (fun x hx => h x (by simp [hx])), prodI, Int.toNat_mul hs h2, Nat.mul_assoc]
theorem prodT_is {ss : List Int} (h : ∀ s ∈ ss, 0 ≤ s) : Us ss = min (prodI ss) Y0 ∧ 0 ≤ prodI ss := by
  have h2 : 0 ≤ prodI ss := by
    by_cases hp : ∀ x ∈ ss, 0 < x
    · exact Int.le_of_lt (prodI_pos hp)
    · rw [prodI_zero h hp]; decide
  refine ⟨?_, h2⟩
  unfold Us
  rw [cap_one, prodT_fold h, Nat.one_mul]
  unfold Zd
  rw [Int.toNat_of_nonneg h2]
end Go.Proofs.YtmakkmcjocjgmaaGreat.Am


/- How large the places of a tree are. -/
namespace Go.Proofs.YtmakkmcjocjgmaaGreat.Am
open Go Go.RowKit
set_option maxRecDepth 100000
set_option linter.unusedVariables false
set_option linter.unusedSimpArgs false

def sizeTo (T : TreeT) (j : Nat) : Nat := ((T.links.take j).map List.length).sum
theorem sizeTo_next {T : TreeT} {j : Nat} (h : j < T.links.length) : sizeTo T (j + 1) = sizeTo T j + (T.links.getD j []).length := by
  unfold sizeTo
  rw [← Yu h, List.map_append, List.sum_append, Zb h]
  simp
theorem sizeTo_all {T : TreeT} : sizeTo T T.links.length = (T.links.map List.length).sum := by unfold sizeTo; rw [List.take_length]
theorem group_le (T : TreeT) (i : Nat) (a : Int) : (T.group i a).length ≤ (T.links.getD i []).length := by
  unfold TreeT.group
  split
  · unfold TreeT.row
    rw [Int.toNat_natCast]
    split
    · exact Nat.le_refl _
    · exact List.length_filter_le _ _
  · simp
theorem sizeTo_le {T : TreeT} (hT : GoodT T) : ∀ j, j ≤ T.vars.length → sizeTo T j ≤ j * 1000000
  | 0, _ => by simp [sizeTo]
  | j + 1, h => by
    have hl : j < T.links.length := by rw [hT.l2]; omega
    rw [sizeTo_next hl]
    have := sizeTo_le hT j (by omega)
    have h2 : (T.links.getD j []).length ≤ 1000000 := Vp hT.lens j
    omega
def belowW (T : TreeT) (d : Nat) (ns : List Int) (w : Nat) (g : List Link) : List (List Int × Nat) := g.flatMap fun l => V2 T d (ns ++ [l.b]) (w * l.n.toNat)
theorem belowW_cons (T : TreeT) (d : Nat) (ns : List Int) (w : Nat) (l : Link) (g : List Link) : belowW T d ns w (l :: g) = V2 T d (ns ++ [l.b]) (w * l.n.toNat) ++ belowW T d ns w g := rfl
theorem drop_next {α : Type} {g : List α} {m : Nat} (h : m < g.length) : g.drop m = g[m] :: g.drop (m + 1) := List.drop_eq_getElem_cons h
theorem seek_take {T : TreeT} (hT : GoodT T) {d : Nat} {ns : List Int} {w : Nat} {g : List Link} {m : Nat} {k : Int} (hm : m < g.length) (hd : ns.length + (d + 1) = T.vars.length) (h0 : 0 ≤ k) (h : k < Zd (w * g[m].n.toNat * V1 T (ns ++ [g[m].b]))) : seek (belowW T d ns w (g.drop m)) k = seek (V2 T d (ns ++ [g[m].b]) (w * g[m].n.toNat)) k := by
  rw [drop_next hm, belowW_cons]
  exact (seek_in h0 (by rw [extW_sum hT d _ _ (by simp; omega)]; exact h)).1
theorem seek_pass {T : TreeT} (hT : GoodT T) {d : Nat} {ns : List Int} {w : Nat} {g : List Link} {m : Nat} {k : Int} (hm : m < g.length) (hd : ns.length + (d + 1) = T.vars.length) (h0 : 0 ≤ k) (hk : k < Zd (V0 (belowW T d ns w (g.drop m)))) (h : ¬ k < Zd (w * g[m].n.toNat * V1 T (ns ++ [g[m].b]))) :
    seek (belowW T d ns w (g.drop m)) k = seek (belowW T d ns w (g.drop (m + 1))) (k - Zd (w * g[m].n.toNat * V1 T (ns ++ [g[m].b]))) ∧ 0 ≤ k - Zd (w * g[m].n.toNat * V1 T (ns ++ [g[m].b])) ∧ k - Zd (w * g[m].n.toNat * V1 T (ns ++ [g[m].b])) < Zd (V0 (belowW T d ns w (g.drop (m + 1)))) := by
  have hM := most_pos
  have hs := extW_sum hT d (ns ++ [g[m].b]) (w * g[m].n.toNat) (by simp; omega)
  rw [drop_next hm, belowW_cons] at hk ⊢
  rw [wsum_append, hs] at hk
  generalize hx : w * g[m].n.toNat * V1 T (ns ++ [g[m].b]) = X at *
  have e1 : Zd X = X := by unfold Zd at *; omega
  rw [seek_out h0 (by unfold Zd at hk; omega) (by rw [hs]; omega), hs, e1]
  exact ⟨rfl, by omega, by unfold Zd at *; omega⟩
end Go.Proofs.YtmakkmcjocjgmaaGreat.Am


/- A place is counted: the walk. -/
namespace Go.Proofs.YtmakkmcjocjgmaaGreat.Am
open Go Go.RowKit
set_option maxRecDepth 100000
set_option linter.unusedVariables false
set_option linter.unusedSimpArgs false

theorem av_lookup2_is {P : Program} {t : Fr} {H : Hp} {d : Option Tmp} {ty : TypeId} {pos : String} {after : Array Edge} {guard : Option (Nat × Bool)} {mt kt et : TypeId} {K : Value → Prop} {x y : Operand} {b : Nat} {es : List (Value × Value)} {k z v : Value} {is : Bool} (hv : (Y3 es k).getD z = v) (hi : (Y3 es k).isSome = is) (hu : P.underlying mt = some (.map kt et)) (hK : KeyTy P kt K) (hz : (P.info? et).map (·.zero) = some (some z)) (hp : ∀ φ : Inj, VRel φ z z)
    (hx : t.eval x = .map (some b)) (hy : t.eval y = k) (hk : K k) (hb : H.get b = .map es ∨ H.get b = .romap es) (hes : ∀ e ∈ es, K e.1) :
    AVal P ⟨d, .lookup mt x y true, ty, pos, after, guard⟩ t [b] H (.tuple #[v, .bool is]) := by
  subst hv hi
  exact av_lookup2 hu hK hz hp hx hy hk hb hes
set_option maxHeartbeats 4000000 in
theorem fill_cnt {T : TreeT} (hT : GoodT T) (hF : FewA T) {tb cb mb ms : Nat} {K : Hp} (htK : TreeR K (.pointer (some ⟨tb, 0, none⟩)) T) (d i : Nat) (hid : i < d) (hiv : i < T.vars.length) {H : Hp} (zb : K.size ≤ mb) (zs : K.size ≤ ms) (zc : K.size ≤ cb) (hne : mb ≠ ms) {es10 es20 : List (Value × Value)}
    (h0 : FillS T K tb cb mb ms i es10 es20 H es10 es20) (hkid : ∀ k ∈ kidsT T i, ∀ b ∈ Zy T (d + 1) k, cntAt es20 k b = Uj T T.vars.length k b) :
    ACalls Tryz.prog 63 #[.pointer (some ⟨cb, 0, none⟩), .int .i64 i] H (fun r H' => ∃ es1 es2, FillS T K tb cb mb ms i es10 es20 H' es1 es2 ∧ (∀ a ∈ Zy T d i, Y3 es2 (Ze i a) = some (.int .u64 (Uj T T.vars.length i a))) ∧ (∀ a ∈ Zy T d i, ∀ x ∈ T.group i a, Y3 es1 (Ze i x.b) = some (.int .u64 (Uh T T.vars.length i x.b)))) := by
  refine Xv Tryz.func63 rfl rfl rfl (by simp) ?_
  refine Xe ?_
  refine Xc (by kernel_rfl) ?_
  refine Xa (Xy rfl) ?_
  refine Xa (Xb rfl) ?_
  refine X1 (Xx (above_cnt hT hF d i hid hiv _ h0.hc h0.lc (htK.mono h0.le)) rfl Tryz.func90 rfl rfl rfl ?_)
  rintro v15 H1 ⟨le1, slL⟩; obtain ⟨L, hL⟩ : ∃ L, L = Zy T d i := ⟨_, rfl⟩; rw [← hL] at slL; have hLl := (hF d i).2; rw [← hL] at hLl; obtain ⟨AA, cA, rfl⟩ := slL.shape; have h1 := h0.later le1; have zL := le1.1; have hkidlen : (kidsT T i).length ≤ 1000 := Nat.le_trans (List.length_filter_le _ _) (by rw [List.length_range, hT.l1]; exact hT.few); have hbelow : belowL T.parent i = (kidsT T i).map (fun (k : Nat) => (k : Int)) := (by unfold belowL; rw [if_neg (by omega)]; rfl)
  refine Xa (Yk rfl Tryz.underlying23) ?_
  refine Xa (Xb rfl) ?_
  refine X8 ?_
  refine Yy (fun n t H' => ∃ (j : Nat) (es1 es2 : List (Value × Value)) (D : Option Addr), n = L.length - j ∧ j ≤ L.length ∧ FillS T K tb cb mb ms i es10 es20 H' es1 es2 ∧ Sl (Yz .i64) H' (.slice D L.length cA) L ∧ (∀ a ∈ L.take j, Y3 es2 (Ze i a) = some (.int .u64 (Uj T T.vars.length i a))) ∧ (∀ a ∈ L.take j, ∀ x ∈ T.group i a, Y3 es1 (Ze i x.b) = some (.int .u64 (Uh T T.vars.length i x.b))) ∧ t 0 = .pointer (some ⟨cb, 0, none⟩) ∧ t 1 = .int .i64 i ∧ t 15 = .slice D L.length cA ∧ t 16 = .int .i64 L.length ∧ t 17 = .int .i64 j) (L.length) (⟨0, es10, es20, _, rfl, Nat.zero_le _, h1, slL, fun a h => (by simp at h), fun a h => (by simp at h), rfl, rfl, rfl, rfl, rfl⟩) ?_
  rintro n t H2 ⟨j, es1, es2, D, rfl, hj, hS, slA, hd2, hd1, e0, e1, e15, e16, e17⟩
  refine Xe ?_
  refine Xc (by kernel_rfl) ?_
  refine Xa (Yx Xj Xj) ?_
  refine Xe ?_
  refine X4 rfl rfl ?_ ?_
  intro hc1
  have hjl : j < L.length := by have := of_decide_eq_true hc1; omega
  obtain ⟨bA, oA, eA, hbA, hcA⟩ := slA.int_at (i := (j : Int)) (by omega) (by omega)
  rw [Int.toNat_natCast] at hcA
  obtain ⟨a, ha⟩ : ∃ a, a = L.getD j 0 := ⟨_, rfl⟩
  rw [← ha] at hcA
  subst eA
  have haL : a ∈ Zy T d i := by rw [← hL, ha, Zf hjl]; exact List.getElem_mem hjl
  have hcb2 := hS.hc
  refine X7 ?_
  refine Xe ?_
  refine X8 ?_
  refine Xe ?_
  refine Xc (by kernel_rfl) ?_
  refine Xa (Xs Xj Xj Tryz.underlying23 inf3.size X3 X3) ?_
  refine Xa (Xm rfl Tryz.underlying3 rfl Xr) ?_
  refine Xa (Xh rfl) ?_
  refine Xe ?_
  refine Xc (by kernel_rfl) ?_
  refine Xa (Xh rfl) ?_
  refine Xe ?_
  refine Xe ?_
  refine Xc (by kernel_rfl) ?_
  refine Xa (Xy Xj) ?_
  refine Xa (Yc rfl) ?_
  refine Xa (Xi (off := 0) rfl Tryz.underlying108 rfl inf37.size (by decide) rfl) ?_
  refine Xa (Xm rfl Tryz.underlying37 rfl Xr) ?_
  refine Xa (Xb Xj) ?_
  refine Xa (Xb rfl) ?_
  refine X1 (Xx (Group_tree (htK.mono hS.le) hT.l1 hT.l2 hT.lens (i : Int) _) rfl Tryz.func91 rfl rfl rfl ?_)
  rintro v27 H5 ⟨GL, leL, hownL⟩; obtain ⟨g, hg⟩ : ∃ g, g = T.group i a := ⟨_, rfl⟩; rw [← hg] at hownL; have slg := hownL.sl; obtain ⟨AG, cG, rfl⟩ := slg.shape; have le25 := Hp.le_trans leL hownL.le; have hS5 := hS.later le25; have slA5 := slA.mono le25.sees; have hgl := group_len hT.lens (i : Int) a; rw [← hg] at hgl
  refine Xa (Yk rfl Tryz.underlying83) ?_
  refine Xa (Xb rfl) ?_
  refine X8 ?_
  refine Yy (fun n t H' => ∃ (m : Nat) (es1' : List (Value × Value)) (D1 D2 : Option Addr), n = g.length - m ∧ m ≤ g.length ∧ FillS T K tb cb mb ms i es10 es20 H' es1' es2 ∧ Sl (Yz .i64) H' (.slice D1 L.length cA) L ∧ Sl kLink H' (.slice D2 g.length cG) g ∧ (∀ b v, Y3 es1 (Ze i b) = some v → Y3 es1' (Ze i b) = some v) ∧ (∀ x ∈ g.take m, Y3 es1' (Ze i x.b) = some (.int .u64 (Uh T T.vars.length i x.b))) ∧ t 0 = .pointer (some ⟨cb, 0, none⟩) ∧ t 1 = .int .i64 i ∧ t 5 = .int .i64 a ∧ t 6 = .int .u64 ((g.take m).foldl (fun s x => U2 s (Yv x.n (Uh T T.vars.length i x.b))) 0) ∧ t 15 = .slice D1 L.length cA ∧ t 16 = .int .i64 L.length ∧ t 17 = .int .i64 j ∧ t 27 = .slice D2 g.length cG ∧ t 28 = .int .i64 g.length ∧ t 29 = .int .i64 m) (g.length) (⟨0, es1, _, _, rfl, Nat.zero_le _, hS5, slA5, slg, fun b v h => h, fun x h => (by simp at h), e0, e1, rfl, rfl, e15, e16, e17, rfl, rfl, rfl⟩) ?_
  rintro n t H6 ⟨m, es1', D1, D2, rfl, hm, hS6, slA6, slg6, hmo, hd6, e0, e1, e5, e6, e15, e16, e17, e27, e28, e29⟩
  have hcb6 := hS6.hc
  refine Xe ?_
  refine Xc (by kernel_rfl) ?_
  refine Xa (Yx Xj Xj) ?_
  refine Xe ?_
  refine X4 rfl rfl ?_ ?_
  intro hc2
  have hml : m < g.length := by have := of_decide_eq_true hc2; omega
  obtain ⟨bg, og, eg, hbg, hcg⟩ := slg6.link_at hml
  obtain ⟨l, hl⟩ : ∃ l, l = g[m] := ⟨_, rfl⟩
  rw [← hl] at hcg
  subst eg
  refine X7 ?_
  refine Xe ?_
  refine X8 ?_
  refine Xe ?_
  refine Xc (by kernel_rfl) ?_
  refine Xa (Xs Xj Xj Tryz.underlying83 inf96.size X3 X3) ?_
  refine Xa (Yh (cs := [.int .i64 _, .int .i64 _, .int .i64 _, .int .u64 _]) rfl Tryz.underlying96 rfl inf96.size Yd) ?_
  refine X6 (Y8 (l := [.int .i64 0, .int .i64 0, .int .i64 0, .int .u64 0]) inf96.zero rfl (by decide)) ?_
  first | refine X1 (Yo (vs := [.int .i64 _, .int .i64 _, .int .i64 _, .int .u64 _]) rfl rfl inf96.size Yj Yl rfl rfl ?_)
  refine Xe ?_
  obtain ⟨H7, hH7⟩ : ∃ H7, H7 = (H6.push (.own 0 [.int .i64 0, .int .i64 0, .int .i64 0, .int .u64 0])).put H6.size (.own 0 [.int .i64 l.a, .int .i64 l.b, .int .i64 l.cost, .int .u64 l.n]) := ⟨_, rfl⟩
  have le67 : H6.le H7 := by rw [hH7]; exact Hp.le_put_new (H6.le_push _) (Nat.le_refl _) _
  have hb7 : H7.get H6.size = .own 0 [.int .i64 l.a, .int .i64 l.b, .int .i64 l.cost, .int .u64 l.n] := by rw [hH7]; exact Hp.put_same _ _ _
  have z7 : H7.size = H6.size + 1 := by rw [hH7]; simp
  change ACode true _ _ _ _ _ ((H6.push (.own 0 [.int .i64 0, .int .i64 0, .int .i64 0, .int .u64 0])).put H6.size (.own 0 [.int .i64 l.a, .int .i64 l.b, .int .i64 l.cost, .int .u64 l.n]))
  rw [← hH7]
  clear hH7
  have hS7 := hS6.later le67
  have hcb7 := hS7.hc
  have hlc7 := hS7.lc
  have hms7 := hS7.hs
  have hmb7 := hS7.hb
  have hlb7 := hS7.lb
  have hlb6 := hS6.lb
  have hls7 := hS7.ls
  have slA7 := slA6.mono le67.sees
  have slg7 := slg6.mono le67.sees
  obtain ⟨is, v0, hv0, his, hisv⟩ : ∃ (is : Bool) (v0 : Int), (Y3 es1' (Ze i l.b)).getD (.int .u64 0) = .int .u64 v0 ∧ (Y3 es1' (Ze i l.b)).isSome = is ∧ (is = true → v0 = Uh T T.vars.length i l.b ∧ Y3 es1' (Ze i l.b) = some (.int .u64 (Uh T T.vars.length i l.b))) := by
    rcases hS7.v1 l.b with h | h
    · exact ⟨false, 0, by rw [h]; rfl, by rw [h]; rfl, fun h => (by cases h)⟩
    · exact ⟨true, _, by rw [h.1]; rfl, by rw [h.1]; rfl, fun _ => ⟨rfl, h.1⟩⟩
  have hlg : l ∈ T.group i a := by rw [← hg, hl]; exact List.getElem_mem hml
  have hbel := belT_nonneg hT T.vars.length i l.b
  refine Yt (by kernel_rfl) (Y2 (B := [0, 1, 3, 7, 0, 0, 32, 112, 255, 511, 1023, 1023, 2047, 8191]) (π := [0, 1, 2, 3, 4, 5, 6, 7, 8, 9, 10, 11, 12, 13]) (by kernel_rfl)) ?_
  refine Xd rfl rfl (Xy Xj) Xq ?_
  refine Xd rfl rfl (Yc rfl) Xq ?_
  refine Xd rfl rfl (Xi (off := 1) rfl Tryz.underlying108 rfl inf106.size (by decide) rfl) Xq ?_
  refine Xd rfl rfl (Xm rfl Tryz.underlying106 rfl Xr) Xq ?_
  refine Xd rfl rfl (Xb Xj) Xq ?_
  refine Xd rfl rfl (Xi (off := 1) rfl Tryz.underlying96 rfl inf3.size (by decide) rfl) Xq ?_
  refine Xd rfl rfl (Xm rfl Tryz.underlying3 rfl Xr) Xq ?_
  refine Xd rfl rfl (Zc (pl := [(0, 1), (1, 1)]) (r := [.int .i64 _, .int .i64 _]) Tryz.underlying141 inf141.zero (by decide) rfl rfl) Xq ?_
  refine Xd rfl rfl (av_lookup2_is hv0 his Tryz.underlying106 Uv inf30.zero (fun φ => .int _ _) rfl rfl ⟨_, _, rfl⟩ (.inl hmb7) hS7.i1.keys) Xq ?_
  refine Xd rfl rfl (Zk rfl) Xq ?_
  refine Xd rfl rfl (Yn rfl rfl) Xq ?_
  refine Xd rfl rfl (Yn rfl rfl) Xq ?_
  refine Xd rfl rfl (Xh rfl) Xq ?_
  refine Xd rfl rfl (Xo rfl) Xq ?_
  refine Xe ?_
  refine Xe ?_
  refine Xc (by kernel_rfl) ?_
  refine Xa (Xp rfl) ?_
  refine Xa (Zw rfl) ?_
  refine ac_cut (fun t H' => ∃ (es1'' : List (Value × Value)), FillS T K tb cb mb ms i es10 es20 H' es1'' es2 ∧ Sl (Yz .i64) H' (.slice D1 L.length cA) L ∧ Sl kLink H' (.slice (some ⟨bg, og, none⟩) g.length cG) g ∧ (∀ b v, Y3 es1' (Ze i b) = some v → Y3 es1'' (Ze i b) = some v) ∧ Y3 es1'' (Ze i l.b) = some (.int .u64 (Uh T T.vars.length i l.b)) ∧ H6.size < H'.size ∧ H'.get H6.size = .own 0 [.int .i64 l.a, .int .i64 l.b, .int .i64 l.cost, .int .u64 l.n] ∧ t 0 = .pointer (some ⟨cb, 0, none⟩) ∧ t 1 = .int .i64 i ∧ t 5 = .int .i64 a ∧ t 6 = .int .u64 ((g.take m).foldl (fun s x => U2 s (Yv x.n (Uh T T.vars.length i x.b))) 0) ∧ t 8 = .pointer (some ⟨H6.size, 0, none⟩) ∧ t 9 = .int .u64 (Uh T T.vars.length i l.b) ∧ t 15 = .slice D1 L.length cA ∧ t 16 = .int .i64 L.length ∧ t 17 = .int .i64 j ∧ t 27 = .slice (some ⟨bg, og, none⟩) g.length cG ∧ t 28 = .int .i64 g.length ∧ t 29 = .int .i64 m) ?_ ?_
  refine X4 rfl rfl ?_ ?_
  intro hc3
  have hno : is = false := by have h := hc3; simpa using h
  refine Xe ?_
  refine Xc (by kernel_rfl) ?_
  refine Xa (Xh rfl) ?_
  refine Xe ?_
  refine Xe ?_
  refine Xc (by kernel_rfl) ?_
  refine Xa (Xy Xj) ?_
  refine Xa (Yc rfl) ?_
  refine Xa (Xi (off := 0) rfl Tryz.underlying108 rfl inf37.size (by decide) rfl) ?_
  refine Xa (Xm rfl Tryz.underlying37 rfl Xr) ?_
  refine Xa (Xb Xj) ?_
  refine X1 (Xx (Below_tree (htK.mono hS7.le) (by rw [hT.l1]; exact Nat.le_trans hT.few (by decide)) (i : Int)) rfl Tryz.func92 rfl rfl rfl ?_)
  rintro v52 H8 ⟨GK, leK8, hownK⟩; rw [hbelow] at hownK; have slK := hownK.sl; obtain ⟨DK, cK, rfl⟩ := slK.shape; have le78 := Hp.le_trans leK8 hownK.le; have z8 := le78.1; have hS8 := hS7.later le78; have slA8 := slA7.mono le78.sees; have slg8 := slg7.mono le78.sees; have hb8 := Xt le78 (by omega) (by intro e; cases e) hb7; obtain ⟨kids, hkids⟩ : ∃ kids, kids = kidsT T i := ⟨_, rfl⟩; rw [← hkids] at slK hkidlen; rw [← hkids]; have hmapl : (kids.map (fun (k : Nat) => (k : Int))).length = kids.length := List.length_map _; rw [hmapl] at slK; rw [hmapl]; have hlb8 := hS8.lb; have hls8 := hS8.ls; have hcb8 := hS8.hc; have hlc8 := hS8.lc
  refine Xa (Yk rfl Tryz.underlying23) ?_
  refine Xa (Xb rfl) ?_
  refine X8 ?_
  refine Yy (fun n t H' => ∃ (q : Nat) (D3 : Option Addr), n = kids.length - q ∧ q ≤ kids.length ∧ H' = H8 ∧ Sl (Yz .i64) H8 (.slice D3 kids.length cK) (kids.map (fun (k : Nat) => (k : Int))) ∧ t 0 = .pointer (some ⟨cb, 0, none⟩) ∧ t 1 = .int .i64 i ∧ t 5 = .int .i64 a ∧ t 6 = .int .u64 ((g.take m).foldl (fun s x => U2 s (Yv x.n (Uh T T.vars.length i x.b))) 0) ∧ t 8 = .pointer (some ⟨H6.size, 0, none⟩) ∧ t 9 = .int .u64 ((kids.take q).foldl (fun n k => Yv n (Uj T T.vars.length k l.b)) 1) ∧ t 15 = .slice D1 L.length cA ∧ t 16 = .int .i64 L.length ∧ t 17 = .int .i64 j ∧ t 27 = .slice (some ⟨bg, og, none⟩) g.length cG ∧ t 28 = .int .i64 g.length ∧ t 29 = .int .i64 m ∧ t 52 = .slice D3 kids.length cK ∧ t 53 = .int .i64 kids.length ∧ t 54 = .int .i64 q) (kids.length) (⟨0, _, rfl, Nat.zero_le _, rfl, slK, e0, e1, e5, e6, rfl, rfl, e15, e16, e17, e27, e28, e29, rfl, rfl, rfl⟩) ?_
  rintro n t H8 ⟨q, D3, rfl, hq, rfl, slK, e0, e1, e5, e6, e8, e9, e15, e16, e17, e27, e28, e29, e52, e53, e54⟩
  refine Xe ?_
  refine Xc (by kernel_rfl) ?_
  refine Xa (Yx Xj Xj) ?_
  refine Xe ?_
  refine X4 rfl rfl ?_ ?_
  intro hc4
  have hql : q < kids.length := by have := of_decide_eq_true hc4; omega
  obtain ⟨bK, oK, eK, hbK, hcK⟩ := slK.int_at (i := (q : Int)) (by omega) (by omega)
  rw [Int.toNat_natCast] at hcK
  obtain ⟨k, hk⟩ : ∃ k, k = kids[q] := ⟨_, rfl⟩
  have hkq : (kids.map (fun (k : Nat) => (k : Int))).getD q 0 = (k : Int) := by rw [List.getD_eq_getElem?_getD, List.getElem?_map, List.getElem?_eq_getElem hql, ← hk]; rfl
  rw [hkq] at hcK
  subst eK
  have hkm : k ∈ kidsT T i := by rw [← hkids, hk]; exact List.getElem_mem hql
  obtain ⟨hik, hkv⟩ := kids_lt hT hkm
  have hkp : T.parent.getD k 0 = (i : Int) := by unfold kidsT at hkm; exact of_decide_eq_true (List.mem_filter.1 hkm).2
  have hget : (Y3 es2 (Ze k l.b)).getD (.int .u64 0) = .int .u64 (Uj T T.vars.length k l.b) := by
    rw [(hS8.i2.get k l.b).1, ← hkid k hkm l.b ((above_child d hkp l.b).2 ⟨a, haL, l, hlg, rfl⟩)]
    unfold cntAt
    rw [hS8.o2 k l.b (by omega)]
  have hsk := Ue hT T.vars.length k l.b
  have hfk : 0 ≤ (kids.take q).foldl (fun n k => Yv n (Uj T T.vars.length k l.b)) 1 := fold_times (by decide) fun k _ => Ue hT _ _ _
  have hnextk : Yv ((kids.take q).foldl (fun n k => Yv n (Uj T T.vars.length k l.b)) 1) (Uj T T.vars.length k l.b) = (kids.take (q + 1)).foldl (fun n k => Yv n (Uj T T.vars.length k l.b)) 1 := by
    rw [← Yu hql, List.foldl_append, ← hk]; rfl
  refine X7 ?_
  refine Xe ?_
  refine X8 ?_
  refine Xe ?_
  refine Xc (by kernel_rfl) ?_
  refine Xa (Xs Xj Xj Tryz.underlying23 inf3.size X3 X3) ?_
  refine Xa (Xm rfl Tryz.underlying3 rfl Xr) ?_
  refine Xa (Xh rfl) ?_
  refine Yt (by kernel_rfl) (Y2 (B := [0, 0, 2, 6, 14, 0, 0, 64, 224, 510, 1023, 2047]) (π := [0, 1, 2, 3, 4, 5, 6, 7, 8, 9, 10, 11]) (by kernel_rfl)) ?_
  refine Xd rfl rfl (Xb Xj) Xq ?_
  refine Xd rfl rfl (Xy Xj) Xq ?_
  refine Xd rfl rfl (Yc rfl) Xq ?_
  refine Xd rfl rfl (Xi (off := 2) rfl Tryz.underlying108 rfl inf106.size (by decide) rfl) Xq ?_
  refine Xd rfl rfl (Xm rfl Tryz.underlying106 rfl Xr) Xq ?_
  refine Xd rfl rfl (Xb rfl) Xq ?_
  refine Xd rfl rfl (Xi (off := 1) Xj Tryz.underlying96 Xj inf3.size (by decide) Xj) Xq ?_
  refine Xd rfl rfl (Xm rfl Tryz.underlying3 rfl Xr) Xq ?_
  refine Xd rfl rfl (Zc (pl := [(0, 1), (1, 1)]) (r := [.int .i64 _, .int .i64 _]) Tryz.underlying141 inf141.zero (by decide) rfl rfl) Xq ?_
  refine Xd rfl rfl (av_lookup_is hget Tryz.underlying106 Uv inf30.zero (fun φ => .int _ _) rfl rfl ⟨_, _, rfl⟩ (.inl hS8.hs) hS8.i2.keys) Xq ?_
  refine Yi rfl rfl (Xx (V4 _ _ hfk hsk _) rfl Tryz.func84 rfl rfl rfl ?_)
  rintro v68 H8 ⟨rfl, rfl⟩
  refine ⟨Ye, ?_⟩
  refine Xd rfl rfl (Xh rfl) Xq ?_
  refine Xc (by kernel_rfl) ?_
  refine Xa (Yg Xj Xj Yp) ?_
  refine Xa (Xb rfl) ?_
  exact ⟨kids.length - (q + 1), by omega, q + 1, _, rfl, by omega, rfl, slK, e0, e1, e5, e6, e8, congrArg (Value.int .u64) hnextk, e15, e16, e17, e27, e28, e29, e52, e53, rfl⟩
  intro hc4
  have hql : ¬ q < kids.length := by have := of_decide_eq_false hc4; omega
  have hbv : (kids.take q).foldl (fun n k => Yv n (Uj T T.vars.length k l.b)) 1 = Uh T T.vars.length i l.b := by rw [List.take_of_length_le (by omega), hkids]; rfl
  rw [hbv] at e9
  refine Yq ?_
  refine Yt (by kernel_rfl) (Y2 (B := [0, 1, 3, 7, 0, 0, 32, 112, 0, 511]) (π := [0, 1, 2, 3, 4, 5, 6, 7, 8, 9]) (by kernel_rfl)) ?_
  refine Xd rfl rfl (Xy Xj) Xq ?_
  refine Xd rfl rfl (Yc rfl) Xq ?_
  refine Xd rfl rfl (Xi (off := 1) rfl Tryz.underlying108 rfl inf106.size (by decide) rfl) Xq ?_
  refine Xd rfl rfl (Xm rfl Tryz.underlying106 rfl Xr) Xq ?_
  refine Xd rfl rfl (Xb Xj) Xq ?_
  refine Xd rfl rfl (Xi (off := 1) Xj Tryz.underlying96 Xj inf3.size (by decide) Xj) Xq ?_
  refine Xd rfl rfl (Xm rfl Tryz.underlying3 rfl Xr) Xq ?_
  refine Xd rfl rfl (Zc (pl := [(0, 1), (1, 1)]) (r := [.int .i64 _, .int .i64 _]) Tryz.underlying141 inf141.zero (by decide) rfl rfl) Xq ?_
  refine Xd rfl rfl (Xb Xj) Xq ?_
  refine Yi rfl rfl (V3 Tryz.underlying106 Uv rfl rfl rfl ⟨_, _, rfl⟩ hS8.hb hS8.i1.keys ?_)
  refine ⟨Ye, ?_⟩
  first
    | exact ⟨es1', hS7, slA7, slg7, fun b v h => h, (hisv hyes).2, by omega, hb7, e0, e1, e5, e6, rfl, congrArg (Value.int .u64) (hisv hyes).1, e15, e16, e17, e27, e28, e29⟩
    | exact ⟨_, hS8.put1 zb hne l.b hbel ⟨a, l, hlg, rfl⟩, slA8.mono (Hp.sees_map _ hS8.hb _), slg8.mono (Hp.sees_map _ hS8.hb _), fun b v h => by
          have hbl : b ≠ l.b := fun e => by subst e; rw [h, hno] at his; cases his
          rw [Zp (fun e => hbl (Vd e).2)]; exact h, Vv, by simp only [Hp.put_size]; omega, by rw [Hp.put_other _ _ (by omega)]; exact hb8, e0, e1, e5, e6, e8, e9, e15, e16, e17, e27, e28, e29⟩
  intro hc3
  have hyes : is = true := by have h := hc3; simpa using h
  refine X7 ?_
  first
    | exact ⟨es1', hS7, slA7, slg7, fun b v h => h, (hisv hyes).2, by omega, hb7, e0, e1, e5, e6, rfl, congrArg (Value.int .u64) (hisv hyes).1, e15, e16, e17, e27, e28, e29⟩
    | exact ⟨_, hS8.put1 zb hne l.b hbel ⟨a, l, hlg, rfl⟩, slA8.mono (Hp.sees_map _ hS8.hb _), slg8.mono (Hp.sees_map _ hS8.hb _), fun b v h => by
          have hbl : b ≠ l.b := fun e => by subst e; rw [h, hno] at his; cases his
          rw [Zp (fun e => hbl (Vd e).2)]; exact h, Vv, by simp only [Hp.put_size]; omega, by rw [Hp.put_other _ _ (by omega)]; exact hb8, e0, e1, e5, e6, e8, e9, e15, e16, e17, e27, e28, e29⟩
  rintro t H9 ⟨es1'', hS9, slA9, slg9, hmo9, hat9, hlt9, hb9, e0, e1, e5, e6, e8, e9, e15, e16, e17, e27, e28, e29⟩
  have hcb9 := hS9.hc
  have hfg : 0 ≤ (g.take m).foldl (fun s x => U2 s (Yv x.n (Uh T T.vars.length i x.b))) 0 := fold_add (f := fun (x : Link) => Yv x.n (Uh T T.vars.length i x.b)) (Int.le_refl 0) fun x hx => (Z1 (hT.group_mem (i := (i : Int)) (above := a) (by rw [← hg]; exact List.mem_of_mem_take hx)).2.2 (belT_nonneg hT _ _ _)).1
  have hln := (hT.group_mem hlg).2.2
  have hnextg : U2 ((g.take m).foldl (fun s x => U2 s (Yv x.n (Uh T T.vars.length i x.b))) 0) (Yv l.n (Uh T T.vars.length i l.b)) = (g.take (m + 1)).foldl (fun s x => U2 s (Yv x.n (Uh T T.vars.length i x.b))) 0 := by
    rw [← Yu hml, List.foldl_append, ← hl]; rfl
  have hdn9 : ∀ x ∈ g.take (m + 1), Y3 es1'' (Ze i x.b) = some (.int .u64 (Uh T T.vars.length i x.b)) := fun x hx => by
    rw [← Yu hml, List.mem_append, List.mem_singleton] at hx
    rcases hx with hx | hx
    · exact hmo9 _ _ (hd6 x hx)
    · rw [hx, ← hl]; exact hat9
  refine Xc (by kernel_rfl) ?_
  refine Xa (Xb Xj) ?_
  refine Xa (Xi (off := 3) Xj Tryz.underlying96 Xj inf30.size (by decide) Xj) ?_
  refine Xa (Xm rfl Tryz.underlying30 rfl Xr) ?_
  refine Xa (Xb Xj) ?_
  refine X1 (Xx (V4 _ _ hln hbel _) rfl Tryz.func84 rfl rfl rfl ?_)
  rintro v83 H9 ⟨rfl, rfl⟩
  refine X1 (Xx (Add_u64 _ _ hfg (Z1 hln hbel).1 _) rfl Tryz.func93 rfl rfl rfl ?_)
  rintro v84 H9 ⟨rfl, rfl⟩
  refine Xa (Xh rfl) ?_
  refine Xc (by kernel_rfl) ?_
  refine Xa (Yg Xj Xj Yp) ?_
  refine Xa (Xb rfl) ?_
  exact ⟨g.length - (m + 1), by omega, m + 1, es1'', _, _, rfl, by omega, hS9, slA9, slg9, fun b v h => hmo9 b v (hmo b v h), hdn9, e0, e1, e5, congrArg (Value.int .u64) hnextg, e15, e16, e17, e27, e28, rfl⟩
  intro hc2
  have hml : ¬ m < g.length := by have := of_decide_eq_false hc2; omega
  refine Yq ?_
  have hsv : (g.take m).foldl (fun s x => U2 s (Yv x.n (Uh T T.vars.length i x.b))) 0 = Uj T T.vars.length i a := by rw [List.take_of_length_le (by omega), sum_is hT hiv, hg]
  rw [hsv] at e6
  have hS10 := hS6.put2 zs hne a _ (Ue hT _ _ _) rfl
  have slA10 := slA6.mono (Hp.sees_map _ hS6.hs (.map (Vf es2 (Ze i a) (.int .u64 (Uj T T.vars.length i a)))))
  refine Xc (by kernel_rfl) ?_
  refine Xa (Xy Xj) ?_
  refine Xa (Yc rfl) ?_
  refine Xa (Xi (off := 2) rfl Tryz.underlying108 rfl inf106.size (by decide) rfl) ?_
  refine Xa (Xm rfl Tryz.underlying106 rfl Xr) ?_
  refine Xa (Xb Xj) ?_
  refine Xa (Xb Xj) ?_
  refine Xa (Zc (pl := [(0, 1), (1, 1)]) (r := [.int .i64 _, .int .i64 _]) Tryz.underlying141 inf141.zero (by decide) rfl rfl) ?_
  refine Xa (Xb Xj) ?_
  refine X1 (V3 Tryz.underlying106 Uv rfl rfl rfl ⟨_, _, rfl⟩ hS6.hs hS6.i2.keys ?_)
  refine Xc (by kernel_rfl) ?_
  refine Xa (Yg Xj Xj Yp) ?_
  refine Xa (Xb rfl) ?_
  refine ⟨L.length - (j + 1), by omega, j + 1, es1', _, _, rfl, by omega, hS10, slA10, fun c hc => ?_, fun c hc x hx => ?_, e0, e1, e15, e16, rfl⟩
  · by_cases h : c = a
    · subst h; exact Vv
    · rw [Zp (fun e => h (Vd e).2)]
      rw [← Yu hjl, List.mem_append, List.mem_singleton, ← Zf hjl, ← ha] at hc
      exact hd2 c (hc.resolve_right h)
  · rw [← Yu hjl, List.mem_append, List.mem_singleton, ← Zf hjl, ← ha] at hc
    rcases hc with hc | hc
    · exact hmo _ _ (hd1 c hc x hx)
    · subst hc
      rw [← hg] at hx
      exact hd6 x (by rw [List.take_of_length_le (by omega)]; exact hx)
  intro hc1
  have hjl : ¬ j < L.length := by have := of_decide_eq_false hc1; omega
  refine Yq ?_
  rw [List.take_of_length_le (by omega)] at hd1 hd2
  exact ⟨_, aresult0, es1, es2, hS, fun a h => hd2 a (by rw [hL]; exact h), fun a h => hd1 a (by rw [hL]; exact h)⟩
end Go.Proofs.YtmakkmcjocjgmaaGreat.Am


/- Counts are made. -/
namespace Go.Proofs.YtmakkmcjocjgmaaGreat.Am
open Go Go.RowKit
set_option maxRecDepth 100000
set_option linter.unusedVariables false
set_option linter.unusedSimpArgs false

structure NewS (T : TreeT) (K : Hp) (tb cb mb ms m : Nat) (H : Hp) (es1 es2 : List (Value × Value)) : Prop where
  le : K.le H
  hc : H.get cb = .own 0 [.pointer (some ⟨tb, 0, none⟩), .map (some mb), .map (some ms)]
  lc : cb < H.size
  hb : H.get mb = .map es1
  lb : mb < H.size
  hs : H.get ms = .map es2
  ls : ms < H.size
  i1 : IntsM es1
  i2 : IntsM es2
  no : ∀ (k : Nat) b, k < m → Y3 es1 (Ze k b) = none ∧ Y3 es2 (Ze k b) = none
  c1 : ∀ (k : Nat) b, m ≤ k → k < T.vars.length → Y3 es1 (Ze k b) = none ∨ (Y3 es1 (Ze k b) = some (.int .u64 (Uh T T.vars.length k b)) ∧ hasB T k b)
  c2 : ∀ (k : Nat) b, m ≤ k → k < T.vars.length → Y3 es2 (Ze k b) = none ∨ Y3 es2 (Ze k b) = some (.int .u64 (Uj T T.vars.length k b))
  d1 : ∀ (k : Nat), m ≤ k → k < T.vars.length → ∀ a ∈ Zy T T.vars.length k, ∀ x ∈ T.group k a, Y3 es1 (Ze k x.b) = some (.int .u64 (Uh T T.vars.length k x.b))
  d2 : ∀ (k : Nat), m ≤ k → k < T.vars.length → ∀ a ∈ Zy T T.vars.length k, Y3 es2 (Ze k a) = some (.int .u64 (Uj T T.vars.length k a))
theorem NewS.fill {T : TreeT} {K : Hp} {tb cb mb ms i : Nat} {H : Hp} {es1 es2 : List (Value × Value)} (h : NewS T K tb cb mb ms (i + 1) H es1 es2) : FillS T K tb cb mb ms i es1 es2 H es1 es2 :=
  ⟨h.le, h.hc, h.lc, h.hb, h.lb, h.hs, h.ls, h.i1, h.i2, fun _ _ _ => rfl, fun _ _ _ => rfl, fun b => .inl (h.no i b (Nat.lt_succ_self i)).1, fun b => .inl (h.no i b (Nat.lt_succ_self i)).2⟩
theorem NewS.step {T : TreeT} {K : Hp} {tb cb mb ms i : Nat} {H H' : Hp} {es1 es2 es1' es2' : List (Value × Value)} (h : NewS T K tb cb mb ms (i + 1) H es1 es2) (hf : FillS T K tb cb mb ms i es1 es2 H' es1' es2')
    (h2 : ∀ a ∈ Zy T T.vars.length i, Y3 es2' (Ze i a) = some (.int .u64 (Uj T T.vars.length i a))) (h1 : ∀ a ∈ Zy T T.vars.length i, ∀ x ∈ T.group i a, Y3 es1' (Ze i x.b) = some (.int .u64 (Uh T T.vars.length i x.b))) : NewS T K tb cb mb ms i H' es1' es2' := by
  refine ⟨hf.le, hf.hc, hf.lc, hf.hb, hf.lb, hf.hs, hf.ls, hf.i1, hf.i2, fun k b hk => ?_, fun k b hk hk2 => ?_, fun k b hk hk2 => ?_, fun k hk hk2 a ha x hx => ?_, fun k hk hk2 a ha => ?_⟩
  · rw [hf.o1 k b (by omega), hf.o2 k b (by omega)]; exact h.no k b (by omega)
  · by_cases he : k = i
    · subst he; exact hf.v1 b
    · rw [hf.o1 k b (by omega)]; exact h.c1 k b (by omega) hk2
  · by_cases he : k = i
    · subst he; exact hf.v2 b
    · rw [hf.o2 k b (by omega)]; exact h.c2 k b (by omega) hk2
  · by_cases he : k = i
    · subst he; exact h1 a ha x hx
    · rw [hf.o1 k _ (by omega)]; exact h.d1 k (by omega) hk2 a ha x hx
  · by_cases he : k = i
    · subst he; exact h2 a ha
    · rw [hf.o2 k _ (by omega)]; exact h.d2 k (by omega) hk2 a ha
structure CntsV (T : TreeT) (es1 es2 : List (Value × Value)) : Prop where
  i1 : IntsM es1
  i2 : IntsM es2
  sum : ∀ (i : Nat) (a : Int), i < T.vars.length → cntAt es2 i (if T.parent.getD i 0 = -1 then -1 else a) = Uj T T.vars.length i a
  bel : ∀ (i : Nat) (b : Int), i < T.vars.length → (hasB T i b → cntAt es1 i b = Uh T T.vars.length i b) ∧ (¬ hasB T i b → cntAt es1 i b = 0)
theorem cntAt_some {es : List (Value × Value)} {i a n : Int} (h : Y3 es (Ze i a) = some (.int .u64 n)) : cntAt es i a = n := by unfold cntAt; rw [h]
theorem cntAt_none {es : List (Value × Value)} {i a : Int} (h : Y3 es (Ze i a) = none) : cntAt es i a = 0 := by unfold cntAt; rw [h]
theorem group_root {T : TreeT} {i : Nat} (h : T.parent.getD i 0 = -1) (a b : Int) : T.group i a = T.group i b := by
  unfold TreeT.group TreeT.row
  rw [Int.toNat_natCast, if_pos h, if_pos h]
theorem sumT_root {T : TreeT} (hT : GoodT T) {i : Nat} (hi : i < T.vars.length) (h : T.parent.getD i 0 = -1) (a b : Int) : Uj T T.vars.length i a = Uj T T.vars.length i b := by
  rw [sum_is hT hi, sum_is hT hi, group_root h a b]
theorem NewS.done {T : TreeT} (hT : GoodT T) (hR : Reach T) {K : Hp} {tb cb mb ms : Nat} {H : Hp} {es1 es2 : List (Value × Value)} (h : NewS T K tb cb mb ms 0 H es1 es2) : CntsV T es1 es2 := by
  refine ⟨h.i1, h.i2, fun i a hi => ?_, fun i b hi => ⟨fun ⟨a, x, hx, hb⟩ => ?_, fun hno => ?_⟩⟩
  · obtain ⟨a', ha'⟩ : ∃ a', a' = if T.parent.getD i 0 = -1 then -1 else a := ⟨_, rfl⟩
    have hr : T.parent.getD i 0 = -1 → a' = -1 := fun e => by rw [ha', if_pos e]
    have hs : Uj T T.vars.length i a = Uj T T.vars.length i a' := by
      by_cases e : T.parent.getD i 0 = -1
      · exact sumT_root hT hi e a a'
      · rw [ha', if_neg e]
    rw [← ha', hs]
    by_cases hg : T.group i a' = []
    · have h0 : Uj T T.vars.length i a' = 0 := by rw [sum_is hT hi, hg]; rfl
      rw [h0]
      rcases h.c2 i a' (Nat.zero_le _) hi with h2 | h2
      · exact cntAt_none h2
      · rw [cntAt_some h2, h0]
    · exact cntAt_some (h.d2 i (Nat.zero_le _) hi a' (hR i a' hi hg hr))
  · obtain ⟨a', ha'⟩ : ∃ a', a' = if T.parent.getD i 0 = -1 then -1 else a := ⟨_, rfl⟩
    have hr : T.parent.getD i 0 = -1 → a' = -1 := fun e => by rw [ha', if_pos e]
    have hg : T.group i a = T.group i a' := by
      by_cases e : T.parent.getD i 0 = -1
      · exact group_root e a a'
      · rw [ha', if_neg e]
    rw [hg] at hx
    rw [← hb]
    exact cntAt_some (h.d1 i (Nat.zero_le _) hi a' (hR i a' hi (List.ne_nil_of_mem hx) hr) x hx)
  · rcases h.c1 i b (Nat.zero_le _) hi with h1 | h1
    · exact cntAt_none h1
    · exact absurd h1.2 hno
def CntR (H : Hp) (cb tb : Nat) (T : TreeT) : Prop := ∃ mb ms es1 es2, cb < H.size ∧ mb < H.size ∧ ms < H.size ∧ H.get cb = .own 0 [.pointer (some ⟨tb, 0, none⟩), .map (some mb), .map (some ms)] ∧ H.get mb = .map es1 ∧ H.get ms = .map es2 ∧ TreeR H (.pointer (some ⟨tb, 0, none⟩)) T ∧ CntsV T es1 es2
theorem CntR.mono {H H' : Hp} (hle : H.le H') {cb tb : Nat} {T : TreeT} (h : CntR H cb tb T) : CntR H' cb tb T := by
  obtain ⟨mb, ms, es1, es2, h1, h2, h3, h4, h5, h6, h7, h8⟩ := h
  exact ⟨mb, ms, es1, es2, Nat.lt_of_lt_of_le h1 hle.1, Nat.lt_of_lt_of_le h2 hle.1, Nat.lt_of_lt_of_le h3 hle.1, Xt hle h1 (by intro e; cases e) h4, Xt hle h2 (by intro e; cases e) h5, Xt hle h3 (by intro e; cases e) h6, h7.mono hle, h8⟩
set_option maxHeartbeats 1000000 in
theorem New_cnt {T : TreeT} (hT : GoodT T) (hF : FewA T) (hR : Reach T) {tb : Nat} (H : Hp) (ht : TreeR H (.pointer (some ⟨tb, 0, none⟩)) T) :
    ACalls Tryz.prog 26 #[.pointer (some ⟨tb, 0, none⟩)] H (fun r H' => H.le H' ∧ ∃ cb, r = .pointer (some ⟨cb, 0, none⟩) ∧ CntR H' cb tb T) := by
  have hfew := hT.few
  refine Xv Tryz.func26 rfl rfl rfl (by simp) ?_
  refine Xe ?_
  refine Xc (by kernel_rfl) ?_
  refine Xa (Zg rfl) ?_
  refine Xe ?_
  refine Xe ?_
  refine Xc (by kernel_rfl) ?_
  refine Xa (Xy rfl) ?_
  refine Xa (Z5 rfl t_spot rfl Tryz.underlying37) ?_
  refine X4 rfl rfl ?_ ?_
  intro hc1
  (have h := hc1; simp at h)
  intro hc1
  (try simp only [decide_eq_true_eq, decide_eq_false_iff_not, Bool.not_eq_true', Bool.not_eq_false'] at hc1)
  refine X7 ?_
  refine Xe ?_
  refine Xc (by kernel_rfl) ?_
  refine Xa (Xy rfl) ?_
  refine X6 (am_makeMap) ?_
  refine X6 (am_makeMap) ?_
  refine Xa (Zc (pl := [(0, 1), (1, 1), (2, 1)]) (r := [.pointer _, .map _, .map _]) Tryz.underlying108 inf108.zero (by decide) rfl rfl) ?_
  refine X6 (Ys rfl) ?_
  refine Xa (Zg rfl) ?_
  refine Xe ?_
  refine Xe ?_
  refine Xc (by kernel_rfl) ?_
  refine Xa (Xy rfl) ?_
  refine X1 (Xx (Len_tree (ht.mono t_le)) rfl Tryz.func62 rfl rfl rfl ?_)
  rintro v13 H1 ⟨rfl, hH1⟩; have h1 : NewS T H tb (H.size + 2) H.size (H.size + 1) T.vars.length H1 [] [] := by
      rw [hH1]
      exact ⟨t_le, Yj, by simp, Yj, by simp <;> omega, Yj, by simp, .nil, .nil, fun k b hk => ⟨rfl, rfl⟩, fun k b hk hk2 => by omega, fun k b hk hk2 => by omega, fun k hk hk2 => by omega, fun k hk hk2 => by omega⟩
  refine Xa (av_sub64 rfl rfl Yp) ?_
  refine Xa (Xh rfl) ?_
  refine X8 ?_
  refine Yy (fun n t H' => ∃ (m : Nat) (es1 es2 : List (Value × Value)), n = m ∧ m ≤ T.vars.length ∧ NewS T H tb (H.size + 2) H.size (H.size + 1) m H' es1 es2 ∧ t 0 = .pointer (some ⟨tb, 0, none⟩) ∧ t 3 = .pointer (some ⟨H.size + 2, 0, none⟩) ∧ t 4 = .int .i64 ((m : Int) - 1)) (T.vars.length) (⟨T.vars.length, [], [], rfl, Nat.le_refl _, h1, rfl, rfl, rfl⟩) ?_
  rintro n t H2 ⟨m, es1, es2, rfl, hm, hS, e0, e3, e4⟩
  refine Xe ?_
  refine Xe ?_
  refine Xc (by kernel_rfl) ?_
  refine Xa (Xb Xj) ?_
  refine Xa (Vy rfl rfl) ?_
  refine X4 rfl rfl ?_ ?_
  intro hc2
  obtain ⟨i, rfl⟩ : ∃ i, n = i + 1 := ⟨n - 1, by have := of_decide_eq_true hc2; omega⟩
  rw [show (((i + 1 : Nat) : Int) - 1) = (i : Int) by omega] at e4
  refine X7 ?_
  refine Xe ?_
  refine X8 ?_
  refine Xc (by kernel_rfl) ?_
  refine Xa (Xy Xj) ?_
  refine Xa (Xb Xj) ?_
  refine X1 (Xx (fill_cnt hT hF ht T.vars.length i (by omega) (by omega) (Nat.le_refl _) (Nat.le_succ _) (by omega) (by omega) hS.fill (fun k hk b hb => by obtain ⟨h3, h4⟩ := kids_lt hT hk; rw [← above_deep hT _ k h4 h4] at hb; exact cntAt_some (hS.d2 k (by omega) h4 b hb))) rfl Tryz.func63 rfl rfl rfl ?_)
  rintro v21 H3 ⟨es1', es2', hf, hf2, hf1⟩
  refine Xc (by kernel_rfl) ?_
  refine Xa (Xb Xj) ?_
  refine Xa (av_sub64 rfl rfl Yp) ?_
  refine Xa (Xh rfl) ?_
  exact ⟨i, by omega, i, es1', es2', rfl, by omega, hS.step hf hf2 hf1, e0, e3, rfl⟩
  intro hc2
  obtain rfl : n = 0 := by have := of_decide_eq_false hc2; omega
  refine Yq ?_
  refine Xe ?_
  refine Xc (by kernel_rfl) ?_
  refine Xa (Xy Xj) ?_
  refine Xa (Zg rfl) ?_
  refine X5 ?_
  · exact ⟨_, Xz (Xu rfl), hS.le, _, rfl, _, _, es1, es2, hS.lc, hS.lb, hS.ls, hS.hc, hS.hb, hS.hs, ht.mono hS.le, hS.done hT hR⟩
end Go.Proofs.YtmakkmcjocjgmaaGreat.Am


/- What counts tell. -/
namespace Go.Proofs.YtmakkmcjocjgmaaGreat.Am
open Go Go.RowKit
set_option maxRecDepth 100000
set_option linter.unusedVariables false
set_option linter.unusedSimpArgs false

theorem sum_cntR {T : TreeT} (hT : GoodT T) {cb tb : Nat} {H : Hp} (hc : CntR H cb tb T) (i : Nat) (hi : i < T.vars.length) (a : Int) :
    ACalls Tryz.prog 123 #[.pointer (some ⟨cb, 0, none⟩), .int .i64 i, .int .i64 a] H (fun r H' => r = .int .u64 (Uj T T.vars.length i a) ∧ H' = H) := by
  obtain ⟨mb, ms, es1, es2, h1, h2, h3, h4, h5, h6, h7, h8⟩ := hc
  have h := sum_cnt hT h4 h7 h6 h8.i2 i hi a
  rw [h8.sum i a hi] at h
  exact h
set_option maxHeartbeats 2000000 in
theorem behind_cnt {T : TreeT} (hT : GoodT T) {cb tb : Nat} {ns : List Int} {v : Value} {H : Hp} (hc : CntR H cb tb T) (hn : Sl (Yz .i64) H v ns) (hnl : ns.length ≤ 1000000) :
    ACalls Tryz.prog 95 #[.pointer (some ⟨cb, 0, none⟩), v] H (fun r H' => r = .int .u64 (Zu T ns) ∧ H.le H') := by
  obtain ⟨A, c, rfl⟩ := hn.shape
  have hfew := hT.few
  have hc0 := hc
  obtain ⟨mb, ms, es1, es2, h1, h2, h3, h4, h5, h6, h7, h8⟩ := hc
  refine Xv Tryz.func95 rfl rfl rfl (by simp) ?_
  refine Xe ?_
  refine Xc (by kernel_rfl) ?_
  refine Xa (Xh rfl) ?_
  refine Xe ?_
  refine Xc (by kernel_rfl) ?_
  refine Xa (Xh rfl) ?_
  refine Xe ?_
  refine Xe ?_
  refine Xc (by kernel_rfl) ?_
  refine Xa (X0 rfl) ?_
  refine Xa (Yk rfl Tryz.underlying23) ?_
  refine Xa (Xy rfl) ?_
  refine Xa (Yc rfl) ?_
  refine Xa (Xi (off := 0) rfl Tryz.underlying108 rfl inf37.size (by decide) rfl) ?_
  refine Xa (Xm rfl Tryz.underlying37 rfl Xr) ?_
  refine X1 (Xx (Len_tree h7) rfl Tryz.func62 rfl rfl rfl ?_)
  rintro v17 H ⟨rfl, rfl⟩
  refine Xa (av_gt rfl rfl) ?_
  refine X4 rfl rfl ?_ ?_
  intro hc1
  have hlong : T.vars.length < ns.length := by have := of_decide_eq_true hc1; omega
  refine Xe ?_
  refine Xc (by kernel_rfl) ?_
  refine Xa (Xh rfl) ?_
  refine X5 ?_
  exact ⟨.int .u64 0, Xz (Xu rfl), by rw [Zu, if_neg (by omega)], Hp.le_refl _⟩
  intro hc1
  have hshort : ns.length ≤ T.vars.length := by have := of_decide_eq_false hc1; omega
  refine X7 ?_
  refine Xe ?_
  refine Xe ?_
  refine Xc (by kernel_rfl) ?_
  refine Xa (Xy rfl) ?_
  refine Xa (Yc rfl) ?_
  refine Xa (Xi (off := 0) rfl Tryz.underlying108 rfl inf37.size (by decide) rfl) ?_
  refine Xa (Xm rfl Tryz.underlying37 rfl Xr) ?_
  refine X1 (Xx (Len_tree h7) rfl Tryz.func62 rfl rfl rfl ?_)
  rintro v23 H ⟨rfl, rfl⟩
  refine Xa (Xb rfl) ?_
  refine X8 ?_
  refine Yy (fun n t H' => ∃ (i : Nat) (A : Option Addr), n = T.vars.length - i ∧ i ≤ T.vars.length ∧ H.le H' ∧ Sl (Yz .i64) H (.slice A ns.length c) ns ∧ (∀ j, j < i → j < ns.length → (Z7 (T.group j (Ym T ns j)) (ns.getD j 0)).isSome = true) ∧ t 0 = .pointer (some ⟨cb, 0, none⟩) ∧ t 1 = .slice A ns.length c ∧ t 5 = .int .u64 (mulT T ns i) ∧ t 23 = .int .i64 T.vars.length ∧ t 24 = .int .i64 i) (T.vars.length) (⟨0, _, rfl, Nat.zero_le _, Hp.le_refl _, hn, fun j h => by omega, rfl, rfl, rfl, rfl, rfl⟩) ?_
  rintro n t H1 ⟨i, A, rfl, hi, le1, hnA, hok, e0, e1, e5, e23, e24⟩
  have hc1 := hc0.mono le1
  have h41 := Xt le1 h1 (by intro e; cases e) h4
  have hcb1 := Nat.lt_of_lt_of_le h1 le1.1
  have hn1 := hnA.mono le1.sees
  refine Xe ?_
  refine Xc (by kernel_rfl) ?_
  refine Xa (Yx Xj Xj) ?_
  refine Xe ?_
  refine X4 rfl rfl ?_ ?_
  intro hc2
  have hil : i < T.vars.length := by have := of_decide_eq_true hc2; omega
  have hpar := hT.par i hil
  obtain ⟨p, hp⟩ : ∃ p, p = T.parent.getD i 0 := ⟨_, rfl⟩
  rw [← hp] at hpar
  obtain ⟨ab, hab⟩ : ∃ ab, ab = if p ≠ -1 ∧ p < ns.length then ns.getD p.toNat 0 else -1 := ⟨_, rfl⟩
  have habv : p < ns.length → ab = Ym T ns i := fun h => by
    unfold Ym
    rw [hab, ← hp]
    by_cases e : p = -1
    · rw [if_neg (fun h => h.1 e), if_pos e]
    · rw [if_pos ⟨e, h⟩, if_neg e]
  have hms := mulT_succ T ns i
  rw [← hp] at hms
  refine X7 ?_
  refine Xe ?_
  refine X8 ?_
  refine Xe ?_
  refine Xc (by kernel_rfl) ?_
  refine Xa (Xb Xj) ?_
  refine Xa (Xh rfl) ?_
  refine Xe ?_
  refine Xc (by kernel_rfl) ?_
  refine Xa (Xy Xj) ?_
  refine Xa (Yc rfl) ?_
  refine Xa (Xi (off := 0) rfl Tryz.underlying108 rfl inf37.size (by decide) rfl) ?_
  refine Xa (Xm rfl Tryz.underlying37 rfl Xr) ?_
  refine Xa (Xb rfl) ?_
  refine X1 (Xx (Parent_tree (h7.mono le1) hT.l1 (i : Int)) rfl Tryz.func121 rfl rfl rfl ?_)
  rintro v32 H1 ⟨rfl, rfl⟩; rw [if_pos ⟨by omega, by omega⟩, Int.toNat_natCast, ← hp]
  refine Xa (Xh rfl) ?_
  refine Xe ?_
  refine Xc (by kernel_rfl) ?_
  refine Xa (Xh rfl) ?_
  refine Xe ?_
  refine Xe ?_
  refine ac_cut (fun t H' => H' = H1 ∧ t 0 = .pointer (some ⟨cb, 0, none⟩) ∧ t 1 = .slice A ns.length c ∧ t 5 = .int .u64 (mulT T ns i) ∧ t 6 = .int .i64 i ∧ t 7 = .int .i64 p ∧ t 8 = .int .i64 (-1) ∧ t 23 = .int .i64 T.vars.length ∧ t 24 = .int .i64 i ∧ t 40 = .bool (decide (p ≠ -1 ∧ p < ns.length))) ?_ ?_
  refine Xc (by kernel_rfl) ?_
  refine Xa (Xb rfl) ?_
  refine Xa (Z8 rfl rfl) ?_
  refine Xa (Xp rfl) ?_
  refine Yb rfl rfl rfl ?_ ?_
  intro hg3
  have hp1 : p ≠ -1 := by have h := hg3; simpa using h
  refine Xn (Xf rfl rfl rfl hg3) (Xb rfl) ?_
  refine Xn (Xf rfl rfl rfl hg3) (X0 Xj) ?_
  refine Xn (Xf rfl rfl rfl hg3) (Yk rfl Tryz.underlying23) ?_
  refine Xn (Xf rfl rfl rfl hg3) (Yx rfl rfl) ?_
  refine Xa (Xl (congrArg Value.bool hg3) rfl) ?_
  first
    | exact ⟨rfl, e0, e1, e5, rfl, rfl, rfl, e23, e24, congrArg Value.bool (by rw [decide_eq_decide]; exact ⟨fun h => ⟨hp1, h⟩, fun h => h.2⟩)⟩
    | exact ⟨rfl, e0, e1, e5, rfl, rfl, rfl, e23, e24, congrArg Value.bool (by simp [hp1])⟩
  intro hg3
  have hp1 : p = -1 := by have h := hg3; simpa using h
  refine Xg (Xk rfl rfl rfl hg3 rfl) ?_
  refine Xg (Xk rfl rfl rfl hg3 rfl) ?_
  refine Xg (Xk rfl rfl rfl hg3 rfl) ?_
  refine Xg (Xk rfl rfl rfl hg3 rfl) ?_
  refine Xa (Xl (congrArg Value.bool hg3) Xj) ?_
  first
    | exact ⟨rfl, e0, e1, e5, rfl, rfl, rfl, e23, e24, congrArg Value.bool (by rw [decide_eq_decide]; exact ⟨fun h => ⟨hp1, h⟩, fun h => h.2⟩)⟩
    | exact ⟨rfl, e0, e1, e5, rfl, rfl, rfl, e23, e24, congrArg Value.bool (by simp [hp1])⟩
  rintro t H1 ⟨rfl, e0, e1, e5, e6, e7, e8, e23, e24, e40⟩
  refine ac_cut (fun t H' => H' = H1 ∧ ∃ A, Sl (Yz .i64) H (.slice A ns.length c) ns ∧ t 0 = .pointer (some ⟨cb, 0, none⟩) ∧ t 1 = .slice A ns.length c ∧ t 5 = .int .u64 (mulT T ns i) ∧ t 6 = .int .i64 i ∧ t 7 = .int .i64 p ∧ t 8 = .int .i64 ab ∧ t 23 = .int .i64 T.vars.length ∧ t 24 = .int .i64 i) ?_ ?_
  refine X4 Xj rfl ?_ ?_
  intro hc4
  have hp2 : p ≠ -1 ∧ p < ns.length := of_decide_eq_true hc4
  obtain ⟨bN, oN, eN, hbN, hcN⟩ := hn1.int_at (i := p) (by omega) (by omega)
  subst eN
  refine Xc (by kernel_rfl) ?_
  refine Xa (X0 Xj) ?_
  refine Xa (Xb Xj) ?_
  refine Xa (Xs rfl rfl Tryz.underlying23 inf3.size X3 X3) ?_
  refine Xa (Xm rfl Tryz.underlying3 rfl Xr) ?_
  refine Xa (Xh rfl) ?_
  first
    | exact ⟨rfl, _, hnA, e0, e1, e5, e6, e7, congrArg (Value.int .i64) (by rw [hab, if_pos hp2]), e23, e24⟩
    | exact ⟨rfl, _, hnA, e0, e1, e5, e6, e7, by rw [hab, if_neg hp2]; exact e8, e23, e24⟩
  intro hc4
  have hp2 : ¬ (p ≠ -1 ∧ p < ns.length) := of_decide_eq_false hc4
  refine X7 ?_
  first
    | exact ⟨rfl, _, hnA, e0, e1, e5, e6, e7, congrArg (Value.int .i64) (by rw [hab, if_pos hp2]), e23, e24⟩
    | exact ⟨rfl, _, hnA, e0, e1, e5, e6, e7, by rw [hab, if_neg hp2]; exact e8, e23, e24⟩
  rintro t H1 ⟨rfl, A, hnA, e0, e1, e5, e6, e7, e8, e23, e24⟩
  have hn1 := hnA.mono le1.sees
  refine X8 ?_
  refine Xe ?_
  refine Xc (by kernel_rfl) ?_
  refine Xa (Xb Xj) ?_
  refine Xa (X0 Xj) ?_
  refine Xa (Yk rfl Tryz.underlying23) ?_
  refine Xa (Yx rfl rfl) ?_
  refine Xa (Xo rfl) ?_
  refine X4 rfl rfl ?_ ?_
  intro hc5
  have hin : i < ns.length := by have := of_decide_eq_true hc5; omega
  obtain ⟨bM, oM, eM, hbM, hcM⟩ := hn1.int_at (i := (i : Int)) (by omega) (by omega)
  rw [Int.toNat_natCast] at hcM
  subst eM
  refine Xe ?_
  refine Yt (by kernel_rfl) (Y2 (B := [0, 1, 3, 7, 0, 0, 0, 0, 192, 448, 1023, 2047, 4095, 4095, 0, 24575, 65535]) (π := [0, 1, 2, 3, 4, 5, 6, 7, 8, 9, 14, 10, 11, 12, 13, 15, 16]) (by kernel_rfl)) ?_
  refine Xd rfl rfl (Xy Xj) Xq ?_
  refine Xd rfl rfl (Yc rfl) Xq ?_
  refine Xd rfl rfl (Xi (off := 0) rfl Tryz.underlying108 rfl inf37.size (by decide) rfl) Xq ?_
  refine Xd rfl rfl (Xm rfl Tryz.underlying37 rfl Xr) Xq ?_
  refine Xd rfl rfl (Xb Xj) Xq ?_
  refine Xd rfl rfl (Xb Xj) Xq ?_
  refine Xd rfl rfl (X0 Xj) Xq ?_
  refine Xd rfl rfl (Xb Xj) Xq ?_
  refine Xd rfl rfl (Xs rfl rfl Tryz.underlying23 inf3.size X3 X3) Xq ?_
  refine Xd rfl rfl (Xm rfl Tryz.underlying3 rfl Xr) Xq ?_
  refine Za rfl rfl (Y8 (l := [.int .i64 0, .int .i64 0, .int .i64 0, .int .u64 0]) inf96.zero rfl (by decide)) ?_
  refine Yi rfl rfl (Xx (Find_tree (h7.mono t_le) hT.l1 hT.l2 hT.lens (i : Int) ab (ns.getD i 0) (hT.sort _ _)) rfl Tryz.func117 rfl rfl rfl ?_)
  rintro v61 H2 ⟨le2, rfl⟩; rw [habv (by omega)]; have z2 := le2.1
  refine ⟨Ye, ?_⟩
  refine Xd rfl rfl (Zk rfl) Xq ?_
  refine Xd rfl rfl (Yn rfl rfl) Xq ?_
  refine Xd rfl rfl (Yn rfl rfl) Xq ?_
  first | refine Yi rfl rfl (Yo (vs := [.int .i64 _, .int .i64 _, .int .i64 _, .int .u64 _]) rfl rfl inf96.size Yj Yl rfl rfl ?_)
  refine ⟨Ye, ?_⟩
  refine Xd rfl rfl (Xo rfl) Xq ?_
  refine Xe ?_
  refine Xc (by kernel_rfl) ?_
  refine Xa (Xp rfl) ?_
  refine Xa (Zw rfl) ?_
  refine X4 rfl rfl ?_ ?_
  intro hc6
  have hno : (Z7 (T.group i (Ym T ns i)) (ns.getD i 0)).isSome = false := by have h := hc6; simpa using h
  refine Xe ?_
  refine Xc (by kernel_rfl) ?_
  refine Xa (Xh rfl) ?_
  refine X5 ?_
  exact ⟨.int .u64 0, Xz (Xu rfl), by rw [Zu, if_neg (fun h => by rw [okP_bad hin (by simpa using hno)] at h; exact absurd h.2 (by simp))], t_le⟩
  intro hc6
  have hyes : (Z7 (T.group i (Ym T ns i)) (ns.getD i 0)).isSome = true := by have h := hc6; simpa using h
  refine X7 ?_
  refine Xc (by kernel_rfl) ?_
  refine Xa (Yg Xj Xj Yp) ?_
  refine Xa (Xb rfl) ?_
  have hok2 : ∀ j, j < i + 1 → j < ns.length → (j = i → (Z7 (T.group i (Ym T ns i)) (ns.getD i 0)).isSome = true) → (Z7 (T.group j (Ym T ns j)) (ns.getD j 0)).isSome = true := fun j h1 h2 h3 => by
      by_cases h : j = i
      · subst h; exact h3 rfl
      · exact hok j (by omega) h2
  first
    | exact ⟨T.vars.length - (i + 1), by omega, i + 1, _, rfl, by omega, t_le, hnA, fun j a b => hok2 j a b (fun _ => hyes), e0, e1, by rw [hms, if_neg (fun h => by omega)]; exact e5, e23, rfl⟩
    | exact ⟨T.vars.length - (i + 1), by omega, i + 1, _, rfl, by omega, le1, hnA, fun j a b => hok2 j a b (fun h => by omega), e0, e1, by rw [hms]; rfl, e23, rfl⟩
    | exact ⟨T.vars.length - (i + 1), by omega, i + 1, _, rfl, by omega, le1, hnA, fun j a b => hok2 j a b (fun h => by omega), e0, e1, by rw [hms]; exact e5, e23, rfl⟩
  intro hc5
  have hin : ¬ i < ns.length := by have := of_decide_eq_false hc5; omega
  refine Xe ?_
  refine ac_cut (fun t H' => H' = H1 ∧ t 0 = .pointer (some ⟨cb, 0, none⟩) ∧ t 1 = .slice A ns.length c ∧ t 5 = .int .u64 (mulT T ns i) ∧ t 6 = .int .i64 i ∧ t 8 = .int .i64 ab ∧ t 23 = .int .i64 T.vars.length ∧ t 24 = .int .i64 i ∧ t 66 = .bool (decide (p < ns.length))) ?_ ?_
  refine Xc (by kernel_rfl) ?_
  refine Xa (Xb Xj) ?_
  refine Xa (Zr rfl rfl) ?_
  refine Xa (Xp rfl) ?_
  refine Yb rfl rfl rfl ?_ ?_
  intro hg7
  have hp1 : p = -1 := by have h := hg7; simpa using h
  refine Xg (Xk rfl rfl rfl hg7 rfl) ?_
  refine Xg (Xk rfl rfl rfl hg7 rfl) ?_
  refine Xg (Xk rfl rfl rfl hg7 rfl) ?_
  refine Xg (Xk rfl rfl rfl hg7 rfl) ?_
  refine Xa (Xl (congrArg Value.bool hg7) Xj) ?_
  refine Xa (Xo rfl) ?_
  first
    | exact ⟨rfl, e0, e1, e5, e6, e8, e23, e24, rfl⟩
    | exact ⟨rfl, e0, e1, e5, e6, e8, e23, e24, congrArg Value.bool (by symm; apply decide_eq_true; omega)⟩
  intro hg7
  have hp1 : p ≠ -1 := by have h := hg7; simpa using h
  refine Xn (Xf rfl rfl rfl hg7) (Xb Xj) ?_
  refine Xn (Xf rfl rfl rfl hg7) (X0 Xj) ?_
  refine Xn (Xf rfl rfl rfl hg7) (Yk rfl Tryz.underlying23) ?_
  refine Xn (Xf rfl rfl rfl hg7) (Yx rfl rfl) ?_
  refine Xa (Xl (congrArg Value.bool hg7) rfl) ?_
  refine Xa (Xo rfl) ?_
  first
    | exact ⟨rfl, e0, e1, e5, e6, e8, e23, e24, rfl⟩
    | exact ⟨rfl, e0, e1, e5, e6, e8, e23, e24, congrArg Value.bool (by symm; apply decide_eq_true; omega)⟩
  rintro t H1 ⟨rfl, e0, e1, e5, e6, e8, e23, e24, e66⟩
  refine X4 Xj rfl ?_ ?_
  intro hc8
  have hpn : p < ns.length := of_decide_eq_true hc8
  rw [if_pos ⟨by omega, hpn⟩] at hms
  refine Xc (by kernel_rfl) ?_
  refine Xa (Xb Xj) ?_
  refine Xa (Xy Xj) ?_
  refine Xa (Xb Xj) ?_
  refine Xa (Xb Xj) ?_
  refine X1 (Xx (sum_cntR hT hc1 i hil ab) rfl Tryz.func123 rfl rfl rfl ?_)
  rintro v79 H1 ⟨rfl, rfl⟩; rw [habv hpn]
  refine X1 (Xx (V4 _ _ (mulT_nonneg hT ns i) (Ue hT _ _ _) _) rfl Tryz.func84 rfl rfl rfl ?_)
  rintro v80 H1 ⟨rfl, rfl⟩
  refine Xa (Xh rfl) ?_
  refine Xc (by kernel_rfl) ?_
  refine Xa (Yg Xj Xj Yp) ?_
  refine Xa (Xb rfl) ?_
  have hok2 : ∀ j, j < i + 1 → j < ns.length → (j = i → (Z7 (T.group i (Ym T ns i)) (ns.getD i 0)).isSome = true) → (Z7 (T.group j (Ym T ns j)) (ns.getD j 0)).isSome = true := fun j h1 h2 h3 => by
      by_cases h : j = i
      · subst h; exact h3 rfl
      · exact hok j (by omega) h2
  first
    | exact ⟨T.vars.length - (i + 1), by omega, i + 1, _, rfl, by omega, t_le, hnA, fun j a b => hok2 j a b (fun _ => hyes), e0, e1, by rw [hms, if_neg (fun h => by omega)]; exact e5, e23, rfl⟩
    | exact ⟨T.vars.length - (i + 1), by omega, i + 1, _, rfl, by omega, le1, hnA, fun j a b => hok2 j a b (fun h => by omega), e0, e1, by rw [hms]; rfl, e23, rfl⟩
    | exact ⟨T.vars.length - (i + 1), by omega, i + 1, _, rfl, by omega, le1, hnA, fun j a b => hok2 j a b (fun h => by omega), e0, e1, by rw [hms]; exact e5, e23, rfl⟩
  intro hc8
  have hpn : ¬ p < ns.length := of_decide_eq_false hc8
  rw [if_neg (fun h => hpn h.2)] at hms
  refine X7 ?_
  refine Xc (by kernel_rfl) ?_
  refine Xa (Yg Xj Xj Yp) ?_
  refine Xa (Xb rfl) ?_
  have hok2 : ∀ j, j < i + 1 → j < ns.length → (j = i → (Z7 (T.group i (Ym T ns i)) (ns.getD i 0)).isSome = true) → (Z7 (T.group j (Ym T ns j)) (ns.getD j 0)).isSome = true := fun j h1 h2 h3 => by
      by_cases h : j = i
      · subst h; exact h3 rfl
      · exact hok j (by omega) h2
  first
    | exact ⟨T.vars.length - (i + 1), by omega, i + 1, _, rfl, by omega, t_le, hnA, fun j a b => hok2 j a b (fun _ => hyes), e0, e1, by rw [hms, if_neg (fun h => by omega)]; exact e5, e23, rfl⟩
    | exact ⟨T.vars.length - (i + 1), by omega, i + 1, _, rfl, by omega, le1, hnA, fun j a b => hok2 j a b (fun h => by omega), e0, e1, by rw [hms]; rfl, e23, rfl⟩
    | exact ⟨T.vars.length - (i + 1), by omega, i + 1, _, rfl, by omega, le1, hnA, fun j a b => hok2 j a b (fun h => by omega), e0, e1, by rw [hms]; exact e5, e23, rfl⟩
  intro hc2
  have hil : ¬ i < T.vars.length := by have := of_decide_eq_false hc2; omega
  refine Yq ?_
  refine Xe ?_
  refine Xc (by kernel_rfl) ?_
  refine Xa (Xb Xj) ?_
  refine Xa (Xh rfl) ?_
  refine X5 ?_
  have hiv : i = T.vars.length := by omega
  subst hiv
  suffices hokp : okP T ns = true from ⟨.int .u64 (mulT T ns T.vars.length), Xz (Xu rfl), by rw [Zu, if_pos ⟨hshort, hokp⟩], le1⟩
  unfold okP
  rw [List.all_eq_true]
  intro j hj
  rw [List.mem_range] at hj
  exact hok j (by omega) hj
theorem All_cnt {T : TreeT} (hT : GoodT T) {cb tb : Nat} {H : Hp} (hc : CntR H cb tb T) :
    ACalls Tryz.prog 69 #[.pointer (some ⟨cb, 0, none⟩)] H (fun r H' => r = .int .u64 (Zu T []) ∧ H.le H') := by
  refine Xv Tryz.func69 rfl rfl rfl (by simp) ?_
  refine Xe ?_
  refine Xc (by kernel_rfl) ?_
  refine Xa (Xh rfl) ?_
  refine Xe ?_
  refine Xe ?_
  refine Xc (by kernel_rfl) ?_
  refine Xa (Xy rfl) ?_
  refine Xa (Z5 rfl t_spot rfl Tryz.underlying60) ?_
  refine X4 rfl rfl ?_ ?_
  intro hc1
  (have h := hc1; simp at h)
  intro hc1
  (try simp only [decide_eq_true_eq, decide_eq_false_iff_not, Bool.not_eq_true', Bool.not_eq_false'] at hc1)
  refine X7 ?_
  refine Xe ?_
  refine Xc (by kernel_rfl) ?_
  refine Xa (Xy rfl) ?_
  refine X1 (Xx (behind_cnt hT hc (Sl.nil _ _) (by simp)) rfl Tryz.func95 rfl rfl rfl ?_)
  rintro v6 H6 ⟨rfl, hle6⟩
  refine Xa (Xh rfl) ?_
  refine X5 ?_
  exact ⟨_, Xz (Xu rfl), rfl, hle6⟩
theorem Exact_cnt {T : TreeT} (hT : GoodT T) {cb tb : Nat} {H : Hp} (hc : CntR H cb tb T) :
    ACalls Tryz.prog 66 #[.pointer (some ⟨cb, 0, none⟩)] H (fun r H' => r = .bool (decide (Zu T [] < 4611686018427387904)) ∧ H.le H') := by
  refine Xv Tryz.func66 rfl rfl rfl (by simp) ?_
  refine Xe ?_
  refine Xc (by kernel_rfl) ?_
  refine Xa (Xo rfl) ?_
  refine Xe ?_
  refine Xc (by kernel_rfl) ?_
  refine Xa (Xy rfl) ?_
  refine Xa (av_ptr_ne_nil rfl rfl Tryz.underlying60) ?_
  refine Xa (Xp rfl) ?_
  refine Yb rfl rfl rfl ?_ ?_
  intro hg1
  have hp1 := hg1; try simp only [decide_eq_true_eq, decide_eq_false_iff_not, Bool.not_eq_true', Bool.not_eq_false'] at hp1
  refine Xn (Xf rfl rfl rfl hg1) (Xy rfl) ?_
  refine Z4 (Xf rfl rfl rfl hg1) (Xx (behind_cnt hT hc (Sl.nil _ _) (by simp)) rfl Tryz.func95 rfl rfl rfl ?_)
  rintro v7 H7 ⟨rfl, hle7⟩
  refine Xn (Xf rfl rfl rfl hg1) (Yx rfl rfl) ?_
  refine Xa (Xl (congrArg Value.bool hg1) rfl) ?_
  refine Xa (Xo rfl) ?_
  refine X5 ?_
  exact ⟨_, Xz (Xu rfl), rfl, hle7⟩
  intro hg1
  (have h := hg1; simp at h)
theorem Behind_cnt {T : TreeT} (hT : GoodT T) {cb tb : Nat} {ns : List Int} {v : Value} {H : Hp} (hc : CntR H cb tb T) (hn : Sl (Yz .i64) H v ns) (hnl : ns.length ≤ 1000000) :
    ACalls Tryz.prog 124 #[.pointer (some ⟨cb, 0, none⟩), v] H (fun r H' => r = .int .u64 (Zu T ns) ∧ H.le H') := by
  obtain ⟨A, c, rfl⟩ := hn.shape
  refine Xv Tryz.func124 rfl rfl rfl (by simp) ?_
  refine Xe ?_
  refine Xc (by kernel_rfl) ?_
  refine Xa (Xh rfl) ?_
  refine Xe ?_
  refine Xe ?_
  refine Xc (by kernel_rfl) ?_
  refine Xa (Xy rfl) ?_
  refine Xa (Z5 rfl t_spot rfl Tryz.underlying60) ?_
  refine X4 rfl rfl ?_ ?_
  intro hc1
  (have h := hc1; simp at h)
  intro hc1
  (try simp only [decide_eq_true_eq, decide_eq_false_iff_not, Bool.not_eq_true', Bool.not_eq_false'] at hc1)
  refine X7 ?_
  refine Xe ?_
  refine Xc (by kernel_rfl) ?_
  refine Xa (Xy rfl) ?_
  refine Xa (X0 rfl) ?_
  refine X1 (Xx (behind_cnt hT hc hn hnl) rfl Tryz.func95 rfl rfl rfl ?_)
  rintro v9 H9 ⟨rfl, hle9⟩
  refine Xa (Xh rfl) ?_
  refine X5 ?_
  exact ⟨_, Xz (Xu rfl), rfl, hle9⟩
end Go.Proofs.YtmakkmcjocjgmaaGreat.Am


/- The statement CountsMany, as the abstract machine runs it; the small living call of the statements on counts. -/
namespace Go.Proofs.YtmakkmcjocjgmaaGreat.Am
open Go Go.RowKit
set_option maxRecDepth 100000
set_option linter.unusedVariables false
set_option linter.unusedSimpArgs false

theorem addR_u64 (a b : Int) (ha : 0 ≤ a) (hb : 0 ≤ b) (H : Hp) : ACalls Tryz.prog 68 #[.int .u64 a, .int .u64 b] H (fun r H' => r = .int .u64 (U2 a b) ∧ H' = H) := by
  have hw : IntKind.u64.wrap (min a Y0 + min b Y0) = min a Y0 + min b Y0 := by
    have : min a Y0 + min b Y0 < 18446744073709551616 := by unfold Y0; omega
    have h0 : 0 ≤ min a Y0 + min b Y0 := by unfold Y0; omega
    simp only [IntKind.wrap, IntKind.bits, IntKind.signed]
    generalize min a Y0 + min b Y0 = x at *
    simp
    omega
  refine Xv Tryz.func68 rfl rfl rfl (by simp) ?_
  refine Xe ?_
  refine Xc (by kernel_rfl) ?_
  refine Xa (Xh rfl) ?_
  refine Xe ?_
  refine Xc (by kernel_rfl) ?_
  refine Xa (Xb rfl) ?_
  refine X1 (Xx (top_u64 a _) rfl Tryz.func87 rfl rfl rfl ?_)
  rintro v6 H1 ⟨rfl, rfl⟩
  refine Xa (Xb rfl) ?_
  refine X1 (Xx (top_u64 b _) rfl Tryz.func87 rfl rfl rfl ?_)
  rintro v8 H1 ⟨rfl, rfl⟩
  refine Xa (av_add rfl rfl) ?_
  refine X1 (Xx (top_u64 _ _) rfl Tryz.func87 rfl rfl rfl ?_)
  rintro v10 H1 ⟨rfl, rfl⟩; rw [hw]
  refine Xa (Xh rfl) ?_
  refine X5 ?_
  exact ⟨_, Xz (Xu rfl), rfl, rfl⟩
theorem av_addn_is {P : Program} {t : Fr} {H : Hp} {d : Option Tmp} {ty : TypeId} {pos : String} {after : Array Edge} {guard : Option (Nat × Bool)} {x y : Operand} {xt yt : TypeId} {k : IntKind} {a b v : Int} (hv : k.wrap (a + b) = v) (hx : t.eval x = .int k a) (hy : t.eval y = .int k b) : AVal P ⟨d, .binOp .add xt x y yt, ty, pos, after, guard⟩ t [] H (.int k v) := by
  subst hv; exact av_add hx hy
theorem lit_u64 {n : Int} (h : (Lit.int .u64 n).wf = true) : 0 ≤ n ∧ n ≤ 18446744073709551615 := by
  unfold Lit.wf at h
  rw [Bool.and_eq_true, decide_eq_true_eq, decide_eq_true_eq] at h
  exact h
end Go.Proofs.YtmakkmcjocjgmaaGreat.Am


/- Lists of numbers without sign: a few of them, whether two are one. -/
namespace Go.Proofs.YtmakkmcjocjgmaaGreat.Am
open Go Go.RowKit
set_option maxRecDepth 100000
set_option linter.unusedVariables false
set_option linter.unusedSimpArgs false

theorem SameU_raw (xs ys : List Int) (v u : Value) (H : Hp) (hs : Sl (Yz .u64) H v xs) (hu : Sl (Yz .u64) H u ys) (hl : xs.length ≤ 1000000000) :
    ACalls Tryz.prog 65 #[v, u] H (fun r _ => r = .bool (decide (xs = ys))) := by
  obtain ⟨A, c, rfl⟩ := hs.shape
  obtain ⟨B, c2, rfl⟩ := hu.shape
  refine Xv Tryz.func65 rfl rfl rfl (by simp) ?_
  refine Xe ?_
  refine Xc (by kernel_rfl) ?_
  refine Xa (Xo rfl) ?_
  refine Xe ?_
  refine Xe ?_
  refine Xc (by kernel_rfl) ?_
  refine Xa (X0 rfl) ?_
  refine Xa (Yk rfl Tryz.underlying109) ?_
  refine Xa (X0 rfl) ?_
  refine Xa (Yk rfl Tryz.underlying109) ?_
  refine Xa (Z8 rfl rfl) ?_
  refine X4 rfl rfl ?_ ?_
  intro hc1
  have hne : xs.length ≠ ys.length := by have := of_decide_eq_true hc1; omega
  refine Xe ?_
  refine Xc (by kernel_rfl) ?_
  refine Xa (Xo rfl) ?_
  refine X5 ?_
  exact ⟨.bool false, Xz (Xu rfl), by rw [decide_eq_false (fun h => hne (by rw [h]))]⟩
  intro hc1
  have hlen : xs.length = ys.length := by have := of_decide_eq_false hc1; omega
  refine X7 ?_
  refine Xe ?_
  refine Xe ?_
  refine Xc (by kernel_rfl) ?_
  refine Xa (Xh rfl) ?_
  refine X8 ?_
  refine Yy (fun n t H' => ∃ (i : Nat), i ≤ xs.length ∧ n = xs.length - i ∧ H' = H ∧ xs.take i = ys.take i ∧ t 0 = .slice A xs.length c ∧ t 1 = .slice B ys.length c2 ∧ t 5 = .int .i64 i) (xs.length) (⟨0, by omega, rfl, rfl, by simp, rfl, rfl, rfl⟩) ?_
  rintro n t H ⟨i, hi, rfl, rfl, hsame, e0, e1, e5⟩
  refine Xe ?_
  refine Xe ?_
  refine Xc (by kernel_rfl) ?_
  refine Xa (Xb Xj) ?_
  refine Xa (X0 Xj) ?_
  refine Xa (Yk rfl Tryz.underlying109) ?_
  refine Xa (Yx rfl rfl) ?_
  refine X4 rfl rfl ?_ ?_
  intro hc2
  (try simp only [decide_eq_true_eq, decide_eq_false_iff_not, Bool.not_eq_true', Bool.not_eq_false'] at hc2)
  refine X7 ?_
  refine Xe ?_
  refine X8 ?_
  refine Xe ?_
  have hix : i < xs.length := by omega
  obtain ⟨b, o, e6, hb, hcell⟩ := hs.int_at (i := (i : Int)) (by omega) (by omega)
  obtain ⟨b2, o2, e7, hb2, hcell2⟩ := hu.int_at (i := (i : Int)) (by omega) (by omega)
  subst e6 e7
  rw [Int.toNat_natCast, Zf hix] at hcell
  rw [Int.toNat_natCast, Zf (show i < ys.length by omega)] at hcell2
  refine Yt (by kernel_rfl) (Y2 (B := [0, 0, 3, 7, 0, 0, 48, 112, 255]) (π := [0, 1, 2, 3, 4, 5, 6, 7, 8]) (by kernel_rfl)) ?_
  refine Xd rfl rfl (X0 Xj) Xq ?_
  refine Xd rfl rfl (Xb Xj) Xq ?_
  refine Xd rfl rfl (Xs rfl rfl Tryz.underlying109 inf30.size X3 X3) Xq ?_
  refine Xd rfl rfl (Xm rfl Tryz.underlying30 rfl Xr) Xq ?_
  refine Xd rfl rfl (X0 Xj) Xq ?_
  refine Xd rfl rfl (Xb Xj) Xq ?_
  refine Xd rfl rfl (Xs rfl rfl Tryz.underlying109 inf30.size X3 X3) Xq ?_
  refine Xd rfl rfl (Xm rfl Tryz.underlying30 rfl Xr) Xq ?_
  refine Xd rfl rfl (Z8 rfl rfl) Xq ?_
  refine X4 rfl rfl ?_ ?_
  intro hc3
  have hne : xs[i] ≠ ys[i]'(by omega) := of_decide_eq_true hc3
  refine Xe ?_
  refine Xc (by kernel_rfl) ?_
  refine Xa (Xo rfl) ?_
  refine X5 ?_
  exact ⟨.bool false, Xz (Xu rfl), by rw [decide_eq_false (fun h => hne (by subst h; rfl))]⟩
  intro hc3
  have heq : xs[i] = ys[i]'(by omega) := Decidable.not_not.1 (of_decide_eq_false hc3)
  refine X7 ?_
  refine Xc (by kernel_rfl) ?_
  refine Xa (Xb Xj) ?_
  refine Xa (Yg rfl rfl Yp) ?_
  refine Xa (Xh rfl) ?_
  exact ⟨xs.length - (i + 1), by omega, i + 1, by omega, rfl, rfl, by rw [← Yu hix, ← Yu (show i < ys.length by omega), hsame, heq], e0, e1, rfl⟩
  intro hc2
  (try simp only [decide_eq_true_eq, decide_eq_false_iff_not, Bool.not_eq_true', Bool.not_eq_false'] at hc2)
  refine Yq ?_
  refine Xe ?_
  refine Xc (by kernel_rfl) ?_
  refine Xa (Xo rfl) ?_
  refine X5 ?_
  rw [List.take_of_length_le (by omega), List.take_of_length_le (by omega)] at hsame
  exact ⟨.bool true, Xz (Xu rfl), by rw [decide_eq_true hsame]⟩
theorem SameU_u64 (xs ys : List Int) (v u : Value) (H : Hp) (hs : Sl (Yz .u64) H v xs) (hu : Sl (Yz .u64) H u ys) (hl : xs.length ≤ 1000000000) :
    ACalls Tryz.prog 65 #[v, u] H (fun r H' => r = .bool (decide (xs = ys)) ∧ H' = H) :=
  ACalls.pure (fun v h => by rw [h]; rfl) (SameU_raw xs ys v u H.ro (hs.mono H.sees_ro) (hu.mono H.sees_ro) hl)
end Go.Proofs.YtmakkmcjocjgmaaGreat.Am


/- A finder: made, asked, taken on. -/
namespace Go.Proofs.YtmakkmcjocjgmaaGreat.Am
open Go Go.RowKit
set_option maxRecDepth 100000
set_option linter.unusedVariables false
set_option linter.unusedSimpArgs false

def FindP (K G H : Hp) (fb cb tb : Nat) (ns : List Int) (w wk : Int) : Prop := ∃ B c, K.le G ∧ K.size ≤ fb ∧ fb < G.size ∧ G.get fb = .own 0 [.pointer (some ⟨cb, 0, none⟩), .pointer (some ⟨tb, 0, none⟩), .slice B ns.length c, .int .u64 w, .int .i64 wk] ∧ OwnP (Yz .i64) G H (.slice B ns.length c) ns
theorem FindP.later {K G H H' : Hp} {fb cb tb : Nat} {ns : List Int} {w wk : Int} (h : FindP K G H fb cb tb ns w wk) (hle : H.le H') : ∃ G', G.le G' ∧ FindP K G' H' fb cb tb ns w wk := by
  obtain ⟨B, c, h1, h2, h3, h4, h5⟩ := h
  obtain ⟨G', l1, o1⟩ := h5.later hle
  exact ⟨G', l1, B, c, Hp.le_trans h1 l1, h2, Nat.lt_of_lt_of_le h3 l1.1, Xt l1 h3 (by intro e; cases e) h4, o1⟩
theorem FindP.le {K G H : Hp} {fb cb tb : Nat} {ns : List Int} {w wk : Int} (h : FindP K G H fb cb tb ns w wk) : K.le H := by
  obtain ⟨B, c, h1, h2, h3, h4, h5⟩ := h
  exact Hp.le_trans h1 h5.le
theorem Tree_cnt {T : TreeT} {cb tb : Nat} {H : Hp} (hc : CntR H cb tb T) :
    ACalls Tryz.prog 99 #[.pointer (some ⟨cb, 0, none⟩)] H (fun r H' => r = .pointer (some ⟨tb, 0, none⟩) ∧ H' = H) := by
  obtain ⟨mb, ms, es1, es2, h1, h2, h3, h4, h5, h6, h7, h8⟩ := hc
  refine Xv Tryz.func99 rfl rfl rfl (by simp) ?_
  refine Xe ?_
  refine Xc (by kernel_rfl) ?_
  refine Xa (Zg rfl) ?_
  refine Xe ?_
  refine Xe ?_
  refine Xc (by kernel_rfl) ?_
  refine Xa (Xy rfl) ?_
  refine Xa (Z5 rfl t_spot rfl Tryz.underlying60) ?_
  refine X4 rfl rfl ?_ ?_
  intro hc1
  (have h := hc1; simp at h)
  intro hc1
  (try simp only [decide_eq_true_eq, decide_eq_false_iff_not, Bool.not_eq_true', Bool.not_eq_false'] at hc1)
  refine X7 ?_
  refine Xe ?_
  refine Xc (by kernel_rfl) ?_
  refine Xa (Xy rfl) ?_
  refine Xa (Yc rfl) ?_
  refine Xa (Xi (off := 0) rfl Tryz.underlying108 rfl inf37.size (by decide) rfl) ?_
  refine Xa (Xm rfl Tryz.underlying37 rfl Xr) ?_
  refine Xa (Zg rfl) ?_
  refine X5 ?_
  exact ⟨_, Xz (Xu rfl), rfl, rfl⟩
theorem begin_find {T : TreeT} {cb tb : Nat} {H : Hp} (hc : CntR H cb tb T) :
    ACalls Tryz.prog 70 #[.pointer (some ⟨cb, 0, none⟩)] H (fun r H' => ∃ fb, r = .pointer (some ⟨fb, 0, none⟩) ∧ FindP H H' H' fb cb tb [] 1 0) := by
  refine Xv Tryz.func70 rfl rfl rfl (by simp) ?_
  refine Xe ?_
  refine Xc (by kernel_rfl) ?_
  refine Xa (Zg rfl) ?_
  refine Xe ?_
  refine Xc (by kernel_rfl) ?_
  refine Xa (Xy rfl) ?_
  refine Xa (Xy rfl) ?_
  refine X1 (Xx (Tree_cnt hc) rfl Tryz.func99 rfl rfl rfl ?_)
  rintro v5 H ⟨rfl, rfl⟩
  refine Xa (Zc (pl := [(0, 1), (1, 1), (2, 1), (3, 1), (4, 1)]) (r := [.pointer _, .pointer _, .slice _ _ _, .int .u64 _, .int .i64 _]) Tryz.underlying120 inf120.zero (by decide) rfl rfl) ?_
  refine X6 (Ys rfl) ?_
  refine Xa (Zg rfl) ?_
  refine X5 ?_
  exact ⟨_, Xz (Xu rfl), H.size, rfl, none, 0, H.le_push _, Nat.le_refl _, by simp, Hp.push_new _ _, OwnP.nil _ _⟩
theorem group_find {T : TreeT} (hT : GoodT T) {K G H : Hp} {fb cb tb : Nat} {ns : List Int} {w wk : Int} (hc : CntR K cb tb T) (hf : FindP K G H fb cb tb ns w wk) (hl : ns.length < T.vars.length) :
    ACalls Tryz.prog 96 #[.pointer (some ⟨fb, 0, none⟩)] H (fun r H' => ∃ GL, H.le GL ∧ OwnP kLink GL H' r (T.group ns.length (Ym T ns ns.length))) := by
  have leK := hf.le
  obtain ⟨B, c, l1, l2, l3, gf, hown⟩ := hf
  have hfb := Xt hown.le l3 (by intro e; cases e) gf
  have zz := hown.size
  have hcH := hc.mono leK
  obtain ⟨mb, ms, es1, es2, h1, h2, h3, h4, h5, h6, h7, h8⟩ := hcH
  have hp := hT.par ns.length hl
  have hfew := hT.few
  refine Xv Tryz.func96 rfl rfl rfl (by simp) ?_
  refine Xe ?_
  refine Xc (by kernel_rfl) ?_
  refine Xa (X9 rfl) ?_
  refine Xe ?_
  refine Xc (by kernel_rfl) ?_
  refine Xa (Xy rfl) ?_
  refine Xa (Yc rfl) ?_
  refine Xa (Xi (off := 2) rfl Tryz.underlying120 rfl inf23.size (by decide) rfl) ?_
  refine Xa (Xm rfl Tryz.underlying23 rfl Xr) ?_
  refine Xa (Yk rfl Tryz.underlying23) ?_
  refine Xa (Xh rfl) ?_
  refine Xe ?_
  refine Xc (by kernel_rfl) ?_
  refine Xa (Xh rfl) ?_
  refine Xe ?_
  refine Xe ?_
  refine Xc (by kernel_rfl) ?_
  refine Xa (Xy rfl) ?_
  refine Xa (Yc rfl) ?_
  refine Xa (Xi (off := 1) rfl Tryz.underlying120 rfl inf37.size (by decide) rfl) ?_
  refine Xa (Xm rfl Tryz.underlying37 rfl Xr) ?_
  refine Xa (Xb rfl) ?_
  refine X1 (Xx (Parent_tree h7 hT.l1 (ns.length : Int)) rfl Tryz.func121 rfl rfl rfl ?_)
  rintro v16 H ⟨rfl, rfl⟩; rw [if_pos ⟨by omega, by omega⟩, Int.toNat_natCast]
  refine Xa (Xh rfl) ?_
  refine Xe ?_
  refine Xc (by kernel_rfl) ?_
  refine Xa (Xb rfl) ?_
  refine Xa (Z8 rfl rfl) ?_
  refine X4 rfl rfl ?_ ?_
  intro hc1
  have hne : T.parent.getD ns.length 0 ≠ -1 := of_decide_eq_true hc1
  obtain ⟨bN, oN, eN, hbN, hcN⟩ := hown.sl.int_at (i := T.parent.getD ns.length 0) (by omega) (by omega)
  subst eN
  have hab : Ym T ns ns.length = ns.getD (T.parent.getD ns.length 0).toNat 0 := by unfold Ym; rw [if_neg hne]
  refine Xc (by kernel_rfl) ?_
  refine Xa (Xy rfl) ?_
  refine Xa (Yc rfl) ?_
  refine Xa (Xi (off := 2) rfl Tryz.underlying120 rfl inf23.size (by decide) rfl) ?_
  refine Xa (Xm rfl Tryz.underlying23 rfl Xr) ?_
  refine Xa (Xb rfl) ?_
  refine Xa (Xs rfl rfl Tryz.underlying23 inf3.size X3 X3) ?_
  refine Xa (Xm rfl Tryz.underlying3 rfl Xr) ?_
  refine Xa (Xh rfl) ?_
  refine Xe ?_
  refine Xc (by kernel_rfl) ?_
  refine Xa (Xy rfl) ?_
  refine Xa (Yc rfl) ?_
  refine Xa (Xi (off := 1) rfl Tryz.underlying120 rfl inf37.size (by decide) rfl) ?_
  refine Xa (Xm rfl Tryz.underlying37 rfl Xr) ?_
  refine Xa (Xb rfl) ?_
  refine Xa (Xb rfl) ?_
  refine X1 (Xx (Group_tree h7 hT.l1 hT.l2 hT.lens (ns.length : Int) _) rfl Tryz.func91 rfl rfl rfl ?_)
  rintro v32 H5 ⟨GL, leL, hownL⟩
  refine Xa (Z3 rfl) ?_
  refine X5 ?_
  exact ⟨_, Xz (Xu rfl), GL, leL, by rw [hab]; exact hownL⟩
  intro hc1
  have hne : T.parent.getD ns.length 0 = -1 := by have h := of_decide_eq_false hc1; simpa using h
  have hab : Ym T ns ns.length = -1 := by unfold Ym; rw [if_pos hne]
  refine X7 ?_
  refine Xe ?_
  refine Xc (by kernel_rfl) ?_
  refine Xa (Xy rfl) ?_
  refine Xa (Yc rfl) ?_
  refine Xa (Xi (off := 1) rfl Tryz.underlying120 rfl inf37.size (by decide) rfl) ?_
  refine Xa (Xm rfl Tryz.underlying37 rfl Xr) ?_
  refine Xa (Xb rfl) ?_
  refine Xa (Xb rfl) ?_
  refine X1 (Xx (Group_tree h7 hT.l1 hT.l2 hT.lens (ns.length : Int) _) rfl Tryz.func91 rfl rfl rfl ?_)
  rintro v32 H5 ⟨GL, leL, hownL⟩
  refine Xa (Z3 rfl) ?_
  refine X5 ?_
  exact ⟨_, Xz (Xu rfl), GL, leL, by rw [hab]; exact hownL⟩
set_option maxHeartbeats 1000000 in
theorem block_find {T : TreeT} (hT : GoodT T) {K G H : Hp} {fb cb tb : Nat} {ns : List Int} {w wk : Int} (hc : CntR K cb tb T) (hf : FindP K G H fb cb tb ns w wk) (hl : ns.length < T.vars.length) (hw : 0 ≤ w) (x : Link) (hx : 0 ≤ x.n) (hb : 0 ≤ Zu T (ns ++ [x.b])) :
    ACalls Tryz.prog 97 #[.pointer (some ⟨fb, 0, none⟩), .agg #[.int .i64 x.a, .int .i64 x.b, .int .i64 x.cost, .int .u64 x.n]] H (fun r H' => r = .int .u64 (Yv (Yv w x.n) (Zu T (ns ++ [x.b]))) ∧ H.le H') := by
  have leK := hf.le
  obtain ⟨B, c, l1, l2, l3, gf, hown⟩ := hf
  have hfb := Xt hown.le l3 (by intro e; cases e) gf
  have zz := hown.size
  have hcH := hc.mono leK
  have hfew := hT.few
  obtain ⟨A2, S2, sl2, hS2, hcut⟩ := (hown.sl.mono (H.le_push (.own 0 [.int .i64 x.a, .int .i64 x.b, .int .i64 x.cost, .int .u64 x.n])).sees).capsAll
  have hfbx := (Hp.push_old H (.own 0 [.int .i64 x.a, .int .i64 x.b, .int .i64 x.cost, .int .u64 x.n]) (show fb < H.size by omega)).trans hfb
  have hbx : (H.push (.own 0 [.int .i64 x.a, .int .i64 x.b, .int .i64 x.cost, .int .u64 x.n])).get H.size = .own 0 [.int .i64 x.a, .int .i64 x.b, .int .i64 x.cost, .int .u64 x.n] := Hp.push_new _ _
  obtain ⟨H1, hH1⟩ : ∃ H1, H1 = H.push (.own 0 [.int .i64 x.a, .int .i64 x.b, .int .i64 x.cost, .int .u64 x.n]) := ⟨_, rfl⟩
  have z1 : H1.size = H.size + 1 := by rw [hH1]; simp
  have leH1 : H.le H1 := by rw [hH1]; exact H.le_push _
  rw [← hH1] at sl2 hfbx hbx hS2 hcut
  refine Xv Tryz.func97 rfl rfl rfl (by simp) ?_
  refine Xe ?_
  refine Xc (by kernel_rfl) ?_
  refine X6 (Ys rfl) ?_
  refine Xa (Xh rfl) ?_
  refine Xe ?_
  change ACode true _ _ _ _ _ (H.push (.own 0 [.int .i64 x.a, .int .i64 x.b, .int .i64 x.cost, .int .u64 x.n]))
  rw [← hH1]
  refine Yt (by kernel_rfl) (Y2 (B := [0, 1, 3, 7, 0, 16, 48, 112, 240, 0, 512, 1536, 3584, 7680, 16383, 0, 32768, 98304, 262143, 524287]) (π := [0, 1, 2, 3, 4, 5, 6, 7, 8, 9, 10, 11, 12, 13, 14, 15, 16, 17, 18, 19]) (by kernel_rfl)) ?_
  refine Xd rfl rfl (Xy rfl) Xq ?_
  refine Xd rfl rfl (Yc rfl) Xq ?_
  refine Xd rfl rfl (Xi (off := 2) rfl Tryz.underlying120 rfl inf23.size (by decide) rfl) Xq ?_
  refine Xd rfl rfl (Xm rfl Tryz.underlying23 rfl Xr) Xq ?_
  refine Xd rfl rfl (Xy rfl) Xq ?_
  refine Xd rfl rfl (Yc rfl) Xq ?_
  refine Xd rfl rfl (Xi (off := 2) rfl Tryz.underlying120 rfl inf23.size (by decide) rfl) Xq ?_
  refine Xd rfl rfl (Xm rfl Tryz.underlying23 rfl Xr) Xq ?_
  refine Xd rfl rfl (Yk rfl Tryz.underlying23) Xq ?_
  refine Xd rfl rfl (Xy rfl) Xq ?_
  refine Xd rfl rfl (Yc rfl) Xq ?_
  refine Xd rfl rfl (Xi (off := 2) rfl Tryz.underlying120 rfl inf23.size (by decide) rfl) Xq ?_
  refine Xd rfl rfl (Xm rfl Tryz.underlying23 rfl Xr) Xq ?_
  refine Xd rfl rfl (Yk rfl Tryz.underlying23) Xq ?_
  refine Xd rfl rfl (hcut _ _ _ _ _ _ _ _ _ _ _ _ _ _ _ (Hp.le_refl _) rfl Tryz.underlying23 inf3.size rfl rfl) (fun b hb => (hS2 b hb).1) ?_
  refine Xd rfl rfl (Xi (off := 1) rfl Tryz.underlying96 rfl inf3.size (by decide) rfl) Xq ?_
  refine Xd rfl rfl (Xm rfl Tryz.underlying3 rfl Xr) Xq ?_
  first | refine Za rfl rfl (Yf (r := [.int .i64 _]) Tryz.underlying23 inf3.size inf3.zero rfl (by decide) (by decide) (by decide) rfl) ?_
  refine Yi rfl rfl (Sl.growAll (m := x.b) (sl2.mono (H1.le_push _).sees) Tryz.underlying23 inf3 rfl rfl rfl (Hp.push_new _ _) (by omega) (by omega) ?_)
  rintro H2 hH2 sl3
  have le12 : H1.le H2 := by rw [hH2]; exact Hp.le_push' (H1.le_push _) _
  have hsameS : ∀ b ∈ S2, H2.get b = (H1.push (.own 1 [.int .i64 x.b])).get b := fun b hb => by rw [hH2]; exact Hp.push_old _ _ (by have := (hS2 b hb).1; simp; omega)
  have hfb2 := Xt le12 (by omega) (by intro e; cases e) hfbx
  have hbx2 := Xt le12 (by omega) (by intro e; cases e) hbx
  have z2 := le12.1
  refine ⟨by first | exact Ye | (rw [hH2]; exact Ye), ?_⟩
  refine Xd rfl rfl (X9 rfl) Xq ?_
  refine Xe ?_
  refine Yt (by kernel_rfl) (Y2 (B := [0, 1, 3, 7, 0, 16, 63, 0, 128, 384, 896, 0, 4095, 8191, 16383]) (π := [0, 1, 2, 3, 4, 5, 7, 8, 9, 10, 11, 6, 12, 13, 14]) (by kernel_rfl)) ?_
  refine Xd rfl rfl (Xy rfl) Xq ?_
  refine Xd rfl rfl (Yc rfl) Xq ?_
  refine Xd rfl rfl (Xi (off := 3) rfl Tryz.underlying120 rfl inf30.size (by decide) rfl) Xq ?_
  refine Xd rfl rfl (Xm rfl Tryz.underlying30 rfl Xr) Xq ?_
  refine Xd rfl rfl (Xi (off := 3) rfl Tryz.underlying96 rfl inf30.size (by decide) rfl) Xq ?_
  refine Xd rfl rfl (Xm rfl Tryz.underlying30 rfl Xr) Xq ?_
  refine Xd rfl rfl (Xy rfl) Xq ?_
  refine Xd rfl rfl (Yc rfl) Xq ?_
  refine Xd rfl rfl (Xi (off := 0) rfl Tryz.underlying120 rfl inf60.size (by decide) rfl) Xq ?_
  refine Xd rfl rfl (Xm rfl Tryz.underlying60 rfl Xr) Xq ?_
  refine Xd rfl rfl (X0 rfl) Xq ?_
  refine Yi rfl rfl (Xx (V4 _ _ hw hx _) rfl Tryz.func84 rfl rfl rfl ?_)
  rintro v31 H2 ⟨rfl, rfl⟩
  refine ⟨Ye, ?_⟩
  refine Yi rfl rfl (Xx (Behind_cnt (ns := ns ++ [x.b]) hT ((hcH.mono leH1).mono le12) (by rw [show ns.length + 1 = (ns ++ [x.b]).length by simp] at sl3 ⊢; exact sl3) (by simp; omega)) rfl Tryz.func124 rfl rfl rfl ?_)
  rintro v37 H3 ⟨rfl, le23⟩
  refine ⟨Ye, ?_⟩
  refine Yi rfl rfl (Xx (V4 _ _ (Z1 hw hx).1 hb _) rfl Tryz.func84 rfl rfl rfl ?_)
  rintro v38 H3 ⟨rfl, rfl⟩
  refine ⟨Ye, ?_⟩
  refine Xd rfl rfl (Xh rfl) Xq ?_
  refine X5 ?_
  exact ⟨_, Xz (Xu rfl), rfl, Hp.le_trans leH1 (Hp.le_trans le12 le23)⟩
set_option maxHeartbeats 1000000 in
theorem take_find {K G H : Hp} {fb cb tb : Nat} {ns : List Int} {w wk : Int} (hf : FindP K G H fb cb tb ns w wk) (hl : ns.length ≤ 100000) (hw : 0 ≤ w) (x : Link) (hx : 0 ≤ x.n) :
    ACalls Tryz.prog 98 #[.pointer (some ⟨fb, 0, none⟩), .agg #[.int .i64 x.a, .int .i64 x.b, .int .i64 x.cost, .int .u64 x.n]] H (fun r H' => ∃ G', Away fb G G' ∧ FindP K G' H' fb cb tb (ns ++ [x.b]) (Yv w x.n) wk) := by
  have leK := hf.le
  obtain ⟨B, c, l1, l2, l3, gf, hown⟩ := hf
  have zz := hown.size
  obtain ⟨H1, hH1⟩ : ∃ H1, H1 = H.push (.own 0 [.int .i64 x.a, .int .i64 x.b, .int .i64 x.cost, .int .u64 x.n]) := ⟨_, rfl⟩
  obtain ⟨G1, hG1⟩ : ∃ G1, G1 = G.push (.own 0 [.int .i64 x.a, .int .i64 x.b, .int .i64 x.cost, .int .u64 x.n]) := ⟨_, rfl⟩
  have hown1 : OwnP (Yz .i64) G1 H1 (.slice B ns.length c) ns := by rw [hH1, hG1]; exact hown.push _
  have leG1 : G.le G1 := by rw [hG1]; exact G.le_push _
  have gx1 : G1.get H.size = .own 0 [.int .i64 x.a, .int .i64 x.b, .int .i64 x.cost, .int .u64 x.n] := by rw [hG1, zz]; exact Hp.push_new _ _
  have zG1 : G1.size = G.size + 1 := by rw [hG1]; simp
  have gf1 := Xt leG1 l3 (by intro e; cases e) gf
  have hf1 := Xt hown1.le (by omega) (by intro e; cases e) gf1
  have hx1 := Xt hown1.le (by omega) (by intro e; cases e) gx1
  have zz1 := hown1.size
  refine Xv Tryz.func98 rfl rfl rfl (by simp) ?_
  refine Xe ?_
  refine Xc (by kernel_rfl) ?_
  refine X6 (Ys rfl) ?_
  change ACode true _ _ _ _ _ (H.push (.own 0 [.int .i64 x.a, .int .i64 x.b, .int .i64 x.cost, .int .u64 x.n]))
  rw [← hH1]
  refine Yt (by kernel_rfl) (Y2 (B := [0, 0, 0, 4, 12, 28, 0, 64, 192, 508, 0, 1024, 3072, 7168, 0, 16384, 65532, 131069, 262141, 524285, 1048575, 2097151, 4194303]) (π := [0, 1, 2, 3, 4, 5, 6, 7, 8, 10, 11, 12, 13, 14, 15, 9, 16, 17, 18, 19, 20, 21, 22]) (by kernel_rfl)) ?_
  refine Xd rfl rfl (Xy rfl) Xq ?_
  refine Xd rfl rfl (Xy rfl) Xq ?_
  refine Xd rfl rfl (Xy rfl) Xq ?_
  refine Xd rfl rfl (Yc rfl) Xq ?_
  refine Xd rfl rfl (Xi (off := 2) rfl Tryz.underlying120 rfl inf23.size (by decide) rfl) Xq ?_
  refine Xd rfl rfl (Xm rfl Tryz.underlying23 rfl Xr) Xq ?_
  refine Xd rfl rfl (Xi (off := 1) rfl Tryz.underlying96 rfl inf3.size (by decide) rfl) Xq ?_
  refine Xd rfl rfl (Xm rfl Tryz.underlying3 rfl Xr) Xq ?_
  first | refine Za rfl rfl (Yf (r := [.int .i64 _]) Tryz.underlying23 inf3.size inf3.zero rfl (by decide) (by decide) (by decide) rfl) ?_
  refine Xd rfl rfl (Xy rfl) Xq ?_
  refine Xd rfl rfl (Yc rfl) Xq ?_
  refine Xd rfl rfl (Xi (off := 3) rfl Tryz.underlying120 rfl inf30.size (by decide) rfl) Xq ?_
  refine Xd rfl rfl (Xm rfl Tryz.underlying30 rfl Xr) Xq ?_
  refine Xd rfl rfl (Xi (off := 3) rfl Tryz.underlying96 rfl inf30.size (by decide) rfl) Xq ?_
  refine Xd rfl rfl (Xm rfl Tryz.underlying30 rfl Xr) Xq ?_
  refine Yi rfl rfl (OwnP.append (ys := [x.b]) (hown1.push _) Tryz.underlying23 inf3 rfl rfl rfl (Zt (k := Yz .i64) rfl rfl hown1.size rfl) (by simp only [List.length_singleton]; omega) (by simp only [List.length_singleton]; omega) ?_)
  rintro v13 G2 H2 hle2 hown2
  have hsameO := OwnP.sameO (hown1.push _) hle2 hown2
  obtain ⟨B2, c2, rfl⟩ := hown2.shape
  have le12 := Hp.le_trans (Hp.le_push _ _) hle2
  have z2 := le12.1
  have zz2 := hown2.size
  have gf2 := Xt le12 (by omega) (by intro e; cases e) gf1
  have gx2 := Xt le12 (by omega) (by intro e; cases e) gx1
  have hf2 := Xt hown2.le (by omega) (by intro e; cases e) gf2
  have hx2 := Xt hown2.le (by omega) (by intro e; cases e) gx2
  refine ⟨Ye, ?_⟩
  refine Yi rfl rfl (Xx (V4 _ _ hw hx _) rfl Tryz.func84 rfl rfl rfl ?_)
  rintro v20 H2 ⟨rfl, rfl⟩
  refine ⟨Ye, ?_⟩
  refine Xd rfl rfl (Yc rfl) Xq ?_
  refine Xd rfl rfl (Xi (off := 2) rfl Tryz.underlying120 rfl inf23.size (by decide) rfl) Xq ?_
  first | refine Yi rfl rfl (Y7 rfl rfl rfl inf23.size Yj Yl rfl ?_)
  refine ⟨Ye, ?_⟩
  refine Xd rfl rfl (Yc rfl) Xq ?_
  refine Xd rfl rfl (Xi (off := 3) rfl Tryz.underlying120 rfl inf30.size (by decide) rfl) Xq ?_
  first | refine Yi rfl rfl (Y7 rfl rfl rfl inf30.size Yj Yl rfl ?_)
  refine ⟨Ye, ?_⟩
  refine ⟨_, aresult0, (G2.put fb (.own 0 [.pointer (some ⟨cb, 0, none⟩), .pointer (some ⟨tb, 0, none⟩), .slice B2 (ns ++ [x.b]).length c2, .int .u64 w, .int .i64 wk])).put fb (.own 0 [.pointer (some ⟨cb, 0, none⟩), .pointer (some ⟨tb, 0, none⟩), .slice B2 (ns ++ [x.b]).length c2, .int .u64 (Yv w x.n), .int .i64 wk]), ((Away.of_le (Hp.le_trans leG1 le12)).put _).put _, B2, c2, Hp.le_put_new (Hp.le_put_new (Hp.le_trans l1 (Hp.le_trans leG1 le12)) l2 _) l2 _, l2, by simp; omega, Hp.put_same _ _ _, ?_⟩
  exact (hown2.put (by rw [gf2]; intro e; cases e) _ (Hp.sees_box _ gf2)).put (by rw [Hp.put_same]; intro e; cases e) _ (Hp.sees_box _ (Hp.put_same _ _ _))
end Go.Proofs.YtmakkmcjocjgmaaGreat.Am


/- A finder goes down to the k-th answer. -/
namespace Go.Proofs.YtmakkmcjocjgmaaGreat.Am
open Go Go.RowKit
set_option maxRecDepth 100000
set_option linter.unusedVariables false
set_option linter.unusedSimpArgs false

theorem av_subn_is {P : Program} {t : Fr} {H : Hp} {d : Option Tmp} {ty : TypeId} {pos : String} {after : Array Edge} {guard : Option (Nat × Bool)} {x y : Operand} {xt yt : TypeId} {k : IntKind} {a b v : Int} (hv : k.wrap (a - b) = v) (hx : t.eval x = .int k a) (hy : t.eval y = .int k b) : AVal P ⟨d, .binOp .sub xt x y yt, ty, pos, after, guard⟩ t [] H (.int k v) := by
  subst hv; exact av_sub hx hy
theorem block_is {T : TreeT} (hT : GoodT T) {ns : List Int} (hp : Path T ns) (hl : ns.length < T.vars.length) {l : Link} (hm : l ∈ T.group ns.length (Ym T ns ns.length)) (wN : Nat) : Yv (Yv (Zd wN) l.n) (Zu T (ns ++ [l.b])) = Zd (wN * l.n.toNat * V1 T (ns ++ [l.b])) ∧ Yv (Zd wN) l.n = Zd (wN * l.n.toNat) ∧ 0 ≤ Zu T (ns ++ [l.b]) := by
  have hn := (hT.group_mem hm).2.2
  have h1 : Yv (Zd wN) l.n = Zd (wN * l.n.toNat) := by
    rw [← Ur, Ug, Ug (Zd wN), ← timesI_nat, Int.toNat_of_nonneg hn]
  have h2 : Zu T (ns ++ [l.b]) = Zd (V1 T (ns ++ [l.b])) := behT_cnt hT (by simp; omega) (path_snoc hT hp hl hm)
  rw [h1, h2, Ur]
  exact ⟨rfl, rfl, by have := most_pos; unfold Zd; omega⟩
theorem Uc (n : Nat) : 0 ≤ Zd n ∧ Zd n ≤ Y0 := by have := most_pos; unfold Zd; omega
set_option maxHeartbeats 4000000 in
theorem find_find {T : TreeT} (hT : GoodT T) {K G H : Hp} {fb cb tb : Nat} (hc : CntR K cb tb T) (hf : FindP K G H fb cb tb [] 1 0) (k : Int) (h0 : 0 ≤ k) (hk : k < Zd (V1 T [])) :
    ACalls Tryz.prog 71 #[.pointer (some ⟨fb, 0, none⟩), .int .u64 k] H (fun r H' => ∃ (G' : Hp) (ns : List Int) (left w' wk : Int), r = .int .u64 left ∧ FindP K G' H' fb cb tb ns w' wk ∧ seek (V2 T T.vars.length [] 1) k = some (ns, left) ∧ ns.length = T.vars.length ∧ (T.vars.length : Int) ≤ wk ∧ wk ≤ sizeTo T T.vars.length ∧ Path T ns ∧ 0 ≤ left) := by
  have hfew := hT.few
  have hmost := most_pos
  rw [cap_one] at hf
  obtain ⟨R, hR⟩ : ∃ R, R = seek (V2 T T.vars.length [] 1) k := ⟨_, rfl⟩
  rw [← hR]
  refine Xv Tryz.func71 rfl rfl rfl (by simp) ?_
  refine Xe ?_
  refine Xc (by kernel_rfl) ?_
  refine Xa (Xh rfl) ?_
  refine Xe ?_
  refine X8 ?_
  refine Yy (fun n t H' => ∃ (G : Hp) (ns : List Int) (wN : Nat) (k' wk : Int), n = T.vars.length - ns.length ∧ ns.length ≤ T.vars.length ∧ FindP K G H' fb cb tb ns (Zd wN) wk ∧ seek (V2 T (T.vars.length - ns.length) ns wN) k' = R ∧ 0 ≤ k' ∧ k' < Zd (wN * V1 T ns) ∧ Path T ns ∧ (ns.length : Int) ≤ wk ∧ wk ≤ sizeTo T ns.length ∧ t 0 = .pointer (some ⟨fb, 0, none⟩) ∧ t 1 = .int .u64 k') (T.vars.length) (⟨G, [], 1, k, 0, rfl, Nat.zero_le _, hf, hR.symm, h0, by rw [Nat.one_mul]; exact hk, fun i hi => by simp at hi, by simp, by simp [sizeTo], rfl, rfl⟩) ?_
  rintro n t H1 ⟨G1, ns, wN, k1, wk, rfl, hnl, hf1, hseek, hk0, hk1, hpath, hw1, hw2, e0, e1⟩
  have leK1 := hf1.le
  have hcH1 := hc.mono leK1
  obtain ⟨B1, c1, l11, l12, l13, gf1, hown1⟩ := id hf1
  have hf1' := Xt hown1.le l13 (by intro e; cases e) gf1
  have zz1 := hown1.size
  obtain ⟨mb, ms, es1, es2, d1, d2, d3, d4, d5, d6, d7, d8⟩ := hcH1
  refine Xe ?_
  refine Xe ?_
  refine Yt (by kernel_rfl) (Y2 (B := [0, 1, 3, 7, 15, 0, 32, 96, 224, 480, 1023]) (π := [0, 1, 2, 3, 4, 5, 6, 7, 8, 9, 10]) (by kernel_rfl)) ?_
  refine Xd rfl rfl (Xy Xj) Xq ?_
  refine Xd rfl rfl (Yc rfl) Xq ?_
  refine Xd rfl rfl (Xi (off := 2) rfl Tryz.underlying120 rfl inf23.size (by decide) rfl) Xq ?_
  refine Xd rfl rfl (Xm rfl Tryz.underlying23 rfl Xr) Xq ?_
  refine Xd rfl rfl (Yk rfl Tryz.underlying23) Xq ?_
  refine Xd rfl rfl (Xy Xj) Xq ?_
  refine Xd rfl rfl (Yc rfl) Xq ?_
  refine Xd rfl rfl (Xi (off := 1) rfl Tryz.underlying120 rfl inf37.size (by decide) rfl) Xq ?_
  refine Xd rfl rfl (Xm rfl Tryz.underlying37 rfl Xr) Xq ?_
  refine Yi rfl rfl (Xx (Len_tree d7) rfl Tryz.func62 rfl rfl rfl ?_)
  rintro v17 H1 ⟨rfl, rfl⟩
  refine ⟨Ye, ?_⟩
  refine Xd rfl rfl (Yx rfl rfl) Xq ?_
  refine X4 rfl rfl ?_ ?_
  intro hc1
  have hlt : ns.length < T.vars.length := by have := of_decide_eq_true hc1; omega
  obtain ⟨d, hd⟩ : ∃ d, T.vars.length - ns.length = d + 1 := ⟨T.vars.length - ns.length - 1, by omega⟩
  have hdd : ns.length + (d + 1) = T.vars.length := by omega
  rw [hd] at hseek
  have hsz := sizeTo_le hT ns.length hnl
  have hszn := sizeTo_next (T := T) (j := ns.length) (by rw [hT.l2]; omega)
  refine X7 ?_
  refine X8 ?_
  refine Xe ?_
  refine Xc (by kernel_rfl) ?_
  refine Xa (Xy Xj) ?_
  refine X1 (Xx (group_find hT hc hf1 hlt) rfl Tryz.func96 rfl rfl rfl ?_)
  rintro v20 H3 ⟨GL, leL, hownL⟩; obtain ⟨g, hg⟩ : ∃ g, g = T.group ns.length (Ym T ns ns.length) := ⟨_, rfl⟩; rw [← hg] at hownL; have slL := hownL.sl; obtain ⟨AG, cG, rfl⟩ := slL.shape; obtain ⟨G3, le3, hf3⟩ := hf1.later (Hp.le_trans leL hownL.le); obtain ⟨B3, c3, l31, l32, l33, gf3, hown3⟩ := id hf3; have slG := hown3.below (Zj _) (by decide) slL; have hgl := group_len hT.lens (ns.length : Int) (Ym T ns ns.length); rw [← hg] at hgl; have hgl2 := group_le T ns.length (Ym T ns ns.length); rw [← hg] at hgl2; have hbel : V2 T (d + 1) ns wN = belowW T d ns wN g := (by rw [V2, hg]; rfl); rw [hbel] at hseek; have hsum : V0 (belowW T d ns wN g) = wN * V1 T ns := (by rw [← hbel]; exact extW_sum hT _ _ _ hdd); have hmem : ∀ l ∈ g, l ∈ T.group ns.length (Ym T ns ns.length) := (fun l hl => by rw [← hg]; exact hl)
  refine Xa (Yk rfl Tryz.underlying83) ?_
  refine Xa (Xb rfl) ?_
  refine X8 ?_
  refine Yy (fun n t H' => ∃ (m : Nat) (G : Hp) (k2 : Int) (D : Option Addr), n = g.length - m ∧ m ≤ g.length ∧ Away fb G3 G ∧ FindP K G H' fb cb tb ns (Zd wN) (wk + m) ∧ seek (belowW T d ns wN (g.drop m)) k2 = R ∧ 0 ≤ k2 ∧ k2 < Zd (V0 (belowW T d ns wN (g.drop m))) ∧ Sl kLink G3 (.slice D g.length cG) g ∧ t 0 = .pointer (some ⟨fb, 0, none⟩) ∧ t 1 = .int .u64 k2 ∧ t 20 = .slice D g.length cG ∧ t 21 = .int .i64 g.length ∧ t 22 = .int .i64 m) (g.length) (⟨0, G3, k1, _, rfl, Nat.zero_le _, .refl _ _, by simpa using hf3, hseek, hk0, by rw [List.drop_zero, hsum]; exact hk1, slG, e0, e1, rfl, rfl, rfl⟩) ?_
  rintro n t H4 ⟨m, G4, k2, D, rfl, hm, aw4, hf4, hseek4, hk40, hk41, slD, e0, e1, e20, e21, e22⟩
  obtain ⟨B4, c4, l41, l42, l43, gf4, hown4⟩ := id hf4
  have slD4 := slD.mono (aw4.sees gf3)
  have zz4 := hown4.size
  have zz34 := aw4.size
  refine Xe ?_
  refine Xc (by kernel_rfl) ?_
  refine Xa (Yx Xj Xj) ?_
  refine Xe ?_
  refine X4 rfl rfl ?_ ?_
  intro hc2
  have hml : m < g.length := by have := of_decide_eq_true hc2; omega
  obtain ⟨bg, og, eg, hbg, hcg⟩ := (slD4.mono hown4.le.sees).link_at hml
  obtain ⟨l, hl⟩ : ∃ l, l = g[m] := ⟨_, rfl⟩
  have hlg : l ∈ g := by rw [hl]; exact List.getElem_mem hml
  have htake := seek_take (T := T) (ns := ns) (w := wN) (k := k2) hT hml hdd hk40
  have hpass := seek_pass (T := T) (ns := ns) (w := wN) (k := k2) hT hml hdd hk40 hk41
  rw [← hl] at hcg htake hpass
  subst eg
  obtain ⟨hblk, htk, hb0⟩ := block_is hT hpath hlt (hmem l hlg) wN
  have hln := (hT.group_mem (hmem l hlg)).2.2
  refine X7 ?_
  refine Xe ?_
  refine X8 ?_
  refine Xe ?_
  refine Xc (by kernel_rfl) ?_
  refine Xa (Xs Xj Xj Tryz.underlying83 inf96.size X3 X3) ?_
  refine Xa (Yh (cs := [.int .i64 _, .int .i64 _, .int .i64 _, .int .u64 _]) rfl Tryz.underlying96 rfl inf96.size Yd) ?_
  refine X6 (Y8 (l := [.int .i64 0, .int .i64 0, .int .i64 0, .int .u64 0]) inf96.zero rfl (by decide)) ?_
  first | refine X1 (Yo (vs := [.int .i64 _, .int .i64 _, .int .i64 _, .int .u64 _]) rfl rfl inf96.size Yj Yl rfl rfl ?_)
  refine Xe ?_
  obtain ⟨H5, hH5⟩ : ∃ H5, H5 = (H4.push (.own 0 [.int .i64 0, .int .i64 0, .int .i64 0, .int .u64 0])).put H4.size (.own 0 [.int .i64 l.a, .int .i64 l.b, .int .i64 l.cost, .int .u64 l.n]) := ⟨_, rfl⟩
  obtain ⟨G5, hG5⟩ : ∃ G5, G5 = (G4.push (.own 0 [.int .i64 0, .int .i64 0, .int .i64 0, .int .u64 0])).put H4.size (.own 0 [.int .i64 l.a, .int .i64 l.b, .int .i64 l.cost, .int .u64 l.n]) := ⟨_, rfl⟩
  have hown5 := hown4.boxed [.int .i64 0, .int .i64 0, .int .i64 0, .int .u64 0] [.int .i64 l.a, .int .i64 l.b, .int .i64 l.cost, .int .u64 l.n]
  rw [← hH5, ← hG5] at hown5
  have le45 : G4.le G5 := by rw [hG5]; exact Hp.le_put_new (G4.le_push _) (by omega) _
  have gx5 : G5.get H4.size = .own 0 [.int .i64 l.a, .int .i64 l.b, .int .i64 l.cost, .int .u64 l.n] := by rw [hG5]; exact Hp.put_same _ _ _
  have z5 : G5.size = G4.size + 1 := by rw [hG5]; simp
  have gf5 := Xt le45 (by omega) (by intro e; cases e) gf4
  have hx5 := Xt hown5.le (by omega) (by intro e; cases e) gx5
  have hf5 := Xt hown5.le (by omega) (by intro e; cases e) gf5
  have zz5 := hown5.size
  change ACode true _ _ _ _ _ ((H4.push (.own 0 [.int .i64 0, .int .i64 0, .int .i64 0, .int .u64 0])).put H4.size (.own 0 [.int .i64 l.a, .int .i64 l.b, .int .i64 l.cost, .int .u64 l.n]))
  rw [← hH5]
  clear hH5 hG5
  refine Xc (by kernel_rfl) ?_
  refine Xa (Xy Xj) ?_
  refine Xa (Yc rfl) ?_
  refine Xa (Xi (off := 4) rfl Tryz.underlying120 rfl inf3.size (by decide) rfl) ?_
  refine Xa (Xm rfl Tryz.underlying3 rfl Xr) ?_
  refine Xa (Yg rfl rfl Yp) ?_
  refine Xa (Yc rfl) ?_
  refine Xa (Xi (off := 4) rfl Tryz.underlying120 rfl inf3.size (by decide) rfl) ?_
  first | refine X1 (Y7 rfl rfl rfl inf3.size Yj Yl rfl ?_)
  refine Xe ?_
  obtain ⟨H6, hH6⟩ : ∃ H6, H6 = H5.put fb (.own 0 [.pointer (some ⟨cb, 0, none⟩), .pointer (some ⟨tb, 0, none⟩), .slice B4 ns.length c4, .int .u64 (Zd wN), .int .i64 (wk + m + 1)]) := ⟨_, rfl⟩
  obtain ⟨G6, hG6⟩ : ∃ G6, G6 = G5.put fb (.own 0 [.pointer (some ⟨cb, 0, none⟩), .pointer (some ⟨tb, 0, none⟩), .slice B4 ns.length c4, .int .u64 (Zd wN), .int .i64 (wk + m + 1)]) := ⟨_, rfl⟩
  have hown6 : OwnP (Yz .i64) G6 H6 (.slice B4 ns.length c4) ns := by rw [hG6, hH6]; exact hown5.put (by rw [gf5]; intro e; cases e) _ (Hp.sees_box _ gf5)
  have gf6 : G6.get fb = .own 0 [.pointer (some ⟨cb, 0, none⟩), .pointer (some ⟨tb, 0, none⟩), .slice B4 ns.length c4, .int .u64 (Zd wN), .int .i64 (wk + m + 1)] := by rw [hG6]; exact Hp.put_same _ _ _
  have gx6 : G6.get H4.size = .own 0 [.int .i64 l.a, .int .i64 l.b, .int .i64 l.cost, .int .u64 l.n] := by rw [hG6, Hp.put_other _ _ (by omega)]; exact gx5
  have aw56 : Away fb G5 G6 := by rw [hG6]; exact Away.put (.refl _ _) _
  have aw6 := (aw4.trans (.of_le le45)).trans aw56
  have z6 := aw56.size
  have hf6P : FindP K G6 H6 fb cb tb ns (Zd wN) (wk + m + 1) := ⟨B4, c4, by rw [hG6]; exact Hp.le_put_new (Hp.le_trans l41 le45) l42 _, l42, by omega, gf6, hown6⟩
  have hx6 := Xt hown6.le (by omega) (by intro e; cases e) gx6
  have zz6 := hown6.size
  change ACode true _ _ _ _ _ (H5.put fb (.own 0 [.pointer (some ⟨cb, 0, none⟩), .pointer (some ⟨tb, 0, none⟩), .slice B4 ns.length c4, .int .u64 (Zd wN), .int .i64 (wk + m + 1)]))
  rw [← hH6]
  clear hH6 hG6
  refine Xc (by kernel_rfl) ?_
  refine Xa (Xy Xj) ?_
  refine Xa (Yh (cs := [.int .i64 _, .int .i64 _, .int .i64 _, .int .u64 _]) rfl Tryz.underlying96 rfl inf96.size Yd) ?_
  refine X1 (Xx (block_find hT hc hf6P hlt (Uc wN).1 l hln hb0) rfl Tryz.func97 rfl rfl rfl ?_)
  rintro v35 H7 ⟨rfl, le67⟩; rw [hblk]; obtain ⟨G7, leG67, hf7⟩ := hf6P.later le67; have hx7 := Xt le67 (by omega) (by intro e; cases e) hx6; have aw7 := aw6.trans (.of_le leG67)
  refine Xa (Xh rfl) ?_
  refine Xe ?_
  refine Xe ?_
  refine Xc (by kernel_rfl) ?_
  refine Xa (Xb Xj) ?_
  refine Xa (Xb rfl) ?_
  refine Xa (Yx rfl rfl) ?_
  refine X4 rfl rfl ?_ ?_
  intro hc3
  have hlt2 : k2 < Zd (wN * l.n.toNat * V1 T (ns ++ [l.b])) := of_decide_eq_true hc3
  have hsk := htake hlt2
  refine Xe ?_
  refine Xc (by kernel_rfl) ?_
  refine Xa (Xy Xj) ?_
  refine Xa (Yh (cs := [.int .i64 _, .int .i64 _, .int .i64 _, .int .u64 _]) rfl Tryz.underlying96 rfl inf96.size Yd) ?_
  refine X1 (Xx (take_find hf7 (by omega) (Uc wN).1 l hln) rfl Tryz.func98 rfl rfl rfl ?_)
  rintro v41 H8 ⟨G8, aw8, hf8⟩; rw [htk] at hf8
  refine Yq ?_
  have hlen : (ns ++ [l.b]).length = ns.length + 1 := by simp
  refine ⟨T.vars.length - (ns ++ [l.b]).length, by omega, G8, ns ++ [l.b], wN * l.n.toNat, k2, wk + m + 1, rfl, by omega, hf8, ?_, hk40, hlt2, path_snoc hT hpath hlt (hmem l hlg), by omega, by rw [hlen, hszn]; omega, e0, e1⟩
  rw [show T.vars.length - (ns ++ [l.b]).length = d by omega, ← hsk]
  exact hseek4
  intro hc3
  have hge2 : ¬ k2 < Zd (wN * l.n.toNat * V1 T (ns ++ [l.b])) := of_decide_eq_false hc3
  obtain ⟨p1, p2, p3⟩ := hpass hge2
  have hkw : IntKind.u64.wrap (k2 - Zd (wN * l.n.toNat * V1 T (ns ++ [l.b]))) = k2 - Zd (wN * l.n.toNat * V1 T (ns ++ [l.b])) := wrap_u64a p2 (by have := (Uc (V0 (belowW T d ns wN (g.drop (m + 1))))).2; unfold Y0 at this; omega)
  refine X7 ?_
  refine Xc (by kernel_rfl) ?_
  refine Xa (Xb Xj) ?_
  refine Xa (Xb rfl) ?_
  refine Xa (av_subn_is hkw rfl rfl) ?_
  refine Xa (Xh rfl) ?_
  refine Xc (by kernel_rfl) ?_
  refine Xa (Yg Xj Xj Yp) ?_
  refine Xa (Xb rfl) ?_
  exact ⟨g.length - (m + 1), by omega, m + 1, G7, _, _, rfl, by omega, aw7, by rw [show wk + ((m + 1 : Nat) : Int) = wk + m + 1 by omega]; exact hf7, by rw [← p1]; exact hseek4, p2, p3, slD, e0, rfl, e20, e21, rfl⟩
  intro hc2
  (have hml := of_decide_eq_false hc2; exfalso; rw [List.drop_eq_nil_of_le (by omega)] at hk41; rw [show V0 (belowW T d ns wN []) = 0 from rfl, ← cap_nil] at hk41; omega)
  intro hc1
  have hfull : ns.length = T.vars.length := by have := of_decide_eq_false hc1; omega
  refine Yq ?_
  refine Xe ?_
  refine Xc (by kernel_rfl) ?_
  refine Xa (Xb Xj) ?_
  refine Xa (Xh rfl) ?_
  refine X5 ?_
  rw [show T.vars.length - ns.length = 0 by omega, V2] at hseek
  rw [cnt_full hfull, Nat.mul_one] at hk1
  rw [seek, if_pos hk1] at hseek
  exact ⟨_, Xz (Xu rfl), G1, ns, k1, Zd wN, wk, rfl, hf1, hseek.symm, hfull, by omega, by rw [← hfull]; exact hw2, hpath, hk0⟩
theorem path_nil (T : TreeT) : Path T [] := fun i hi => by simp at hi
set_option maxHeartbeats 1000000 in
theorem At_acc {T : TreeT} (hT : GoodT T) {cb tb : Nat} {H : Hp} (hc : CntR H cb tb T) (k : Int) (h0 : 0 ≤ k) :
    ACalls Tryz.prog 34 #[.pointer (some ⟨cb, 0, none⟩), .int .u64 k] H (fun r H' => H.le H' ∧ ((Zu T [] ≤ k ∧ r = .tuple #[.agg #[.slice none 0 0, .int .i64 0, .int .u64 0], .int .u64 0, .bool false]) ∨ (k < Zu T [] ∧ ∃ (ns : List Int) (left : Int) (x : RowT) (A : Option Addr) (c : Nat), seek (V2 T T.vars.length [] 1) k = some (ns, left) ∧ rowT T ns = some x ∧ x.nodes = ns ∧ r = .tuple #[.agg #[.slice A x.nodes.length c, .int .i64 x.cost, .int .u64 x.n], .int .u64 left, .bool true] ∧ Sl (Yz .i64) H' (.slice A x.nodes.length c) x.nodes ∧ 0 ≤ left))) := by
  have hfew := hT.few
  have hbeh : Zu T [] = Zd (V1 T []) := behT_cnt hT (Nat.zero_le _) (path_nil T)
  refine Xv Tryz.func34 rfl rfl rfl (by simp) ?_
  refine Xe ?_
  refine Xc (by kernel_rfl) ?_
  refine X6 (Y8 (l := [.slice none 0 0, .int .i64 0, .int .u64 0]) inf46.zero rfl (by decide)) ?_
  refine Xa (Xh rfl) ?_
  refine Xa (Xo rfl) ?_
  refine Xe ?_
  refine Xe ?_
  refine Xc (by kernel_rfl) ?_
  refine Xa (Xb rfl) ?_
  refine Xa (Xy rfl) ?_
  refine X1 (Xx (All_cnt hT (hc.mono (H.le_push _))) rfl Tryz.func69 rfl rfl rfl ?_)
  rintro v13 H1 ⟨rfl, le1⟩; have z1 := le1.1; simp only [Hp.push_size] at z1; have leH1 := Hp.le_trans (H.le_push (.own 0 [.slice none 0 0, .int .i64 0, .int .u64 0])) le1; have hcK1 := hc.mono leH1; have g14 : H1.get H.size = .own 0 [.slice none 0 0, .int .i64 0, .int .u64 0] := Xt le1 (by simp) (by intro e; cases e) (Hp.push_new _ _)
  refine Xa (Vy rfl rfl) ?_
  refine X4 rfl rfl ?_ ?_
  intro hc1
  have hge : Zu T [] ≤ k := by have := of_decide_eq_true hc1; omega
  refine Xe ?_
  refine Xc (by kernel_rfl) ?_
  refine Xa (Zc (pl := [(0, 1), (1, 1), (2, 1)]) (r := [.slice _ _ _, .int .i64 _, .int .u64 _]) Tryz.underlying46 inf46.zero (by decide) rfl rfl) ?_
  refine X1 (Yo (vs := [.slice _ _ _, .int .i64 _, .int .u64 _]) rfl rfl inf46.size Yj Yl rfl rfl ?_)
  refine Xa (Xh rfl) ?_
  refine Xa (Xo rfl) ?_
  refine X5 ?_
  exact ⟨_, aresult3 (Y9 Xj (Y6 (cs := [_, _, _]) Tryz.underlying46 rfl inf46.size Yd)) (Xu rfl) (Xu rfl), Hp.le_put_new leH1 (Nat.le_refl _) _, .inl ⟨hge, rfl⟩⟩
  intro hc1
  have hlt : k < Zu T [] := by have := of_decide_eq_false hc1; omega
  refine X7 ?_
  refine Xe ?_
  refine Xc (by kernel_rfl) ?_
  refine Xa (Xy rfl) ?_
  refine X1 (Xx (begin_find hcK1) rfl Tryz.func70 rfl rfl rfl ?_)
  rintro v17 H2 ⟨fb, rfl, hf2⟩; have le12 := hf2.le; have g24 := Xt le12 (by omega) (by intro e; cases e) g14
  refine Xa (Zg rfl) ?_
  refine Xe ?_
  refine Xc (by kernel_rfl) ?_
  refine Xa (Xy rfl) ?_
  refine Xa (Xb rfl) ?_
  refine X1 (Xx (find_find hT hcK1 hf2 k h0 (by rw [← hbeh]; exact hlt)) rfl Tryz.func71 rfl rfl rfl ?_)
  rintro v20 H3 ⟨G3, ns, left, w3, wk3, rfl, hf3, hsk, hnl, hw1, hw2, hpath, hl0⟩; have le13 := hf3.le; obtain ⟨B3, c3, l31, l32, l33, gf3, hown3⟩ := id hf3; have h3f := Xt hown3.le l33 (by intro e; cases e) gf3; have zz3 := hown3.size; obtain ⟨x, hx1, hx2⟩ := rowT_path hT hnl hpath; have g34 := Xt le13 (by omega) (by intro e; cases e) g14; obtain ⟨mb, ms, es1, es2, d1, d2, d3, d4, d5, d6, d7, d8⟩ := hcK1.mono le13; have z13 := le13.1
  refine Xa (Xh rfl) ?_
  refine Xe ?_
  refine Yt (by kernel_rfl) (Y2 (B := [0, 1, 3, 7, 0, 16, 48, 112, 255, 511, 1023, 1023, 0, 6143, 16383]) (π := [0, 1, 2, 3, 4, 5, 6, 7, 12, 8, 9, 10, 11, 13, 14]) (by kernel_rfl)) ?_
  refine Xd rfl rfl (Xy rfl) Xq ?_
  refine Xd rfl rfl (Yc rfl) Xq ?_
  refine Xd rfl rfl (Xi (off := 1) rfl Tryz.underlying120 rfl inf37.size (by decide) rfl) Xq ?_
  refine Xd rfl rfl (Xm rfl Tryz.underlying37 rfl Xr) Xq ?_
  refine Xd rfl rfl (Xy rfl) Xq ?_
  refine Xd rfl rfl (Yc rfl) Xq ?_
  refine Xd rfl rfl (Xi (off := 2) rfl Tryz.underlying120 rfl inf23.size (by decide) rfl) Xq ?_
  refine Xd rfl rfl (Xm rfl Tryz.underlying23 rfl Xr) Xq ?_
  refine Za rfl rfl (Y8 (l := [.slice none 0 0, .int .i64 0, .int .u64 0]) inf46.zero rfl (by decide)) ?_
  refine Yi rfl rfl (Xx (Row_rowT (d7.mono (H3.le_push _)) hT (hown3.sl.mono (H3.le_push _).sees) (by omega)) rfl Tryz.func72 rfl rfl rfl ?_)
  rintro v30 H4 ⟨G4, A4, c4, le4, rfl, hown4⟩; rw [hx1] at hown4 ⊢; have le34 := Hp.le_trans le4 hown4.le; have z4 := le34.1; simp only [Hp.push_size] at z4; have g44 := Xt (Hp.le_trans (H3.le_push _) le34) (by omega) (by intro e; cases e) g34; have g45 : H4.get H3.size = .own 0 [.slice none 0 0, .int .i64 0, .int .u64 0] := Xt le34 (by simp) (by intro e; cases e) (Hp.push_new _ _); have sl4 := hown4.sl; change Sl (Yz .i64) H4 (.slice A4 x.nodes.length c4) x.nodes at sl4; have le14 := Hp.le_trans (Hp.le_trans leH1 le13) (Hp.le_trans (H3.le_push _) le34)
  refine ⟨Ye, ?_⟩
  refine Xd rfl rfl (Zk rfl) Xq ?_
  refine Xd rfl rfl (Yn rfl rfl) Xq ?_
  refine Xd rfl rfl (Yn rfl rfl) Xq ?_
  refine Yi rfl rfl (Yo (vs := [.slice _ _ _, .int .i64 _, .int .u64 _]) rfl rfl inf46.size Yj Yl rfl rfl ?_)
  refine ⟨Ye, ?_⟩
  refine Xd rfl rfl (Xo rfl) Xq ?_
  refine Xe ?_
  refine Xc (by kernel_rfl) ?_
  refine Xa (Yh (cs := [.slice _ _ _, .int .i64 _, .int .u64 _]) rfl Tryz.underlying46 rfl inf46.size Yd) ?_
  refine Xa (Xb rfl) ?_
  refine Xa (Xp rfl) ?_
  refine X1 (Yo (vs := [.slice _ _ _, .int .i64 _, .int .u64 _]) rfl rfl inf46.size Yj Yl rfl rfl ?_)
  refine Xa (Xh rfl) ?_
  refine Xa (Xo rfl) ?_
  refine X5 ?_
  refine ⟨_, aresult3 (Y9 Xj (Y6 (cs := [_, _, _]) Tryz.underlying46 rfl inf46.size Yd)) (Xu rfl) (Xu rfl), Hp.le_put_new (Hp.le_put_new le14 (by omega) _) (Nat.le_refl _) _, .inr ⟨hlt, ns, left, x, A4, c4, hsk, hx1, hx2, rfl, ?_, hl0⟩⟩
  exact (sl4.mono (Hp.sees_box _ g45)).mono (Hp.sees_box (cs := [.slice none 0 0, .int .i64 0, .int .u64 0]) _ (by rw [Hp.put_other _ _ (by omega)]; exact g44))
theorem Work_acc {T : TreeT} (hT : GoodT T) {cb tb : Nat} {H : Hp} (hc : CntR H cb tb T) (k : Int) (h0 : 0 ≤ k) :
    ACalls Tryz.prog 35 #[.pointer (some ⟨cb, 0, none⟩), .int .u64 k] H (fun r H' => H.le H' ∧ ∃ wk : Int, r = .int .i64 wk ∧ ((Zu T [] ≤ k ∧ wk = 0) ∨ (k < Zu T [] ∧ (T.vars.length : Int) ≤ wk ∧ wk ≤ sizeTo T T.vars.length))) := by
  have hbeh : Zu T [] = Zd (V1 T []) := behT_cnt hT (Nat.zero_le _) (path_nil T)
  refine Xv Tryz.func35 rfl rfl rfl (by simp) ?_
  refine Xe ?_
  refine Xc (by kernel_rfl) ?_
  refine Xa (Xh rfl) ?_
  refine Xe ?_
  refine Xe ?_
  refine Xc (by kernel_rfl) ?_
  refine Xa (Xb rfl) ?_
  refine Xa (Xy rfl) ?_
  refine X1 (Xx (All_cnt hT hc) rfl Tryz.func69 rfl rfl rfl ?_)
  rintro v8 H1 ⟨rfl, le1⟩
  refine Xa (Vy rfl rfl) ?_
  refine X4 rfl rfl ?_ ?_
  intro hc1
  have hge : Zu T [] ≤ k := by have := of_decide_eq_true hc1; omega
  refine Xe ?_
  refine Xc (by kernel_rfl) ?_
  refine Xa (Xh rfl) ?_
  refine X5 ?_
  exact ⟨_, Xz (Xu rfl), le1, 0, rfl, .inl ⟨hge, rfl⟩⟩
  intro hc1
  have hlt : k < Zu T [] := by have := of_decide_eq_false hc1; omega
  refine X7 ?_
  refine Xe ?_
  refine Xc (by kernel_rfl) ?_
  refine Xa (Xy rfl) ?_
  refine X1 (Xx (begin_find (hc.mono le1)) rfl Tryz.func70 rfl rfl rfl ?_)
  rintro v11 H2 ⟨fb, rfl, hf2⟩
  refine Xa (Zg rfl) ?_
  refine Xe ?_
  refine Xc (by kernel_rfl) ?_
  refine Xa (Xy rfl) ?_
  refine Xa (Xb rfl) ?_
  refine X1 (Xx (find_find hT (hc.mono le1) hf2 k h0 (by rw [← hbeh]; exact hlt)) rfl Tryz.func71 rfl rfl rfl ?_)
  rintro v14 H3 ⟨G3, ns, left, w3, wk3, rfl, hf3, hsk, hnl, hw1, hw2, hpath, hl0⟩; have le13 := hf3.le; obtain ⟨B3, c3, l31, l32, l33, gf3, hown3⟩ := id hf3; have h3f := Xt hown3.le l33 (by intro e; cases e) gf3; have zz3 := hown3.size
  refine Xe ?_
  refine Xc (by kernel_rfl) ?_
  refine Xa (Xy rfl) ?_
  refine Xa (Yc rfl) ?_
  refine Xa (Xi (off := 4) rfl Tryz.underlying120 rfl inf3.size (by decide) rfl) ?_
  refine Xa (Xm rfl Tryz.underlying3 rfl Xr) ?_
  refine Xa (Xh rfl) ?_
  refine X5 ?_
  exact ⟨_, Xz (Xu rfl), Hp.le_trans le1 le13, wk3, rfl, .inr ⟨hlt, hw1, hw2⟩⟩
end Go.Proofs.YtmakkmcjocjgmaaGreat.Am


/- Numbers are split by sizes, and put together. -/
namespace Go.Proofs.YtmakkmcjocjgmaaGreat.Am
open Go Go.RowKit
set_option maxRecDepth 100000
set_option linter.unusedVariables false
set_option linter.unusedSimpArgs false

theorem fold_next {ss : List Int} {i : Nat} {n : Int} (h : i < ss.length) : Yv ((ss.take i).foldl Yv n) ss[i] = (ss.take (i + 1)).foldl Yv n := by
  rw [← Yu h, List.foldl_append]; rfl
theorem fold_nn : ∀ {ss : List Int} {n : Int}, 0 ≤ n → (∀ s ∈ ss, 0 ≤ s) → 0 ≤ ss.foldl Yv n
  | [], _, h, _ => h
  | s :: ss, n, h, hs => fold_nn (ss := ss) (Z1 h (hs s (by simp))).1 fun x hx => hs x (by simp [hx])
theorem product_acc (ss : List Int) (v : Value) (H : Hp) (hs : Sl (Yz .u64) H v ss) (hl : ss.length ≤ 1000000) (h0 : ∀ s ∈ ss, 0 ≤ s) :
    ACalls Tryz.prog 94 #[v] H (fun r H' => r = .int .u64 (Us ss) ∧ H' = H) := by
  obtain ⟨A, c, rfl⟩ := hs.shape
  refine Xv Tryz.func94 rfl rfl rfl (by simp) ?_
  refine Xe ?_
  refine Xc (by kernel_rfl) ?_
  refine Xa (Xh rfl) ?_
  refine Xe ?_
  refine Xc (by kernel_rfl) ?_
  refine Xa (Xh rfl) ?_
  refine Xe ?_
  refine Xe ?_
  refine Xc (by kernel_rfl) ?_
  refine Xa (X0 rfl) ?_
  refine Xa (Yk rfl Tryz.underlying109) ?_
  refine Xa (Xb rfl) ?_
  refine X8 ?_
  refine Yy (fun n t H' => ∃ (i : Nat) (D : Option Addr), n = ss.length - i ∧ i ≤ ss.length ∧ H' = H ∧ Sl (Yz .u64) H (.slice D ss.length c) ss ∧ t 3 = .int .u64 ((ss.take i).foldl Yv 1) ∧ t 6 = .slice D ss.length c ∧ t 7 = .int .i64 ss.length ∧ t 8 = .int .i64 i) (ss.length) (⟨0, _, rfl, Nat.zero_le _, rfl, hs, rfl, rfl, rfl, rfl⟩) ?_
  rintro n t H ⟨i, D, rfl, hi, rfl, hs, e3, e6, e7, e8⟩
  refine Xe ?_
  refine Xc (by kernel_rfl) ?_
  refine Xa (Yx Xj Xj) ?_
  refine Xe ?_
  refine X4 rfl rfl ?_ ?_
  intro hc1
  have hil : i < ss.length := by have := of_decide_eq_true hc1; omega
  obtain ⟨b, o, eD, hb, hcell⟩ := hs.int_at (i := (i : Int)) (by omega) (by omega)
  rw [Int.toNat_natCast, Zf hil] at hcell
  subst eD
  have hnx := fold_next (n := 1) hil
  refine X7 ?_
  refine Xe ?_
  refine X8 ?_
  refine Xe ?_
  refine Xc (by kernel_rfl) ?_
  refine Xa (Xs Xj Xj Tryz.underlying109 inf30.size X3 X3) ?_
  refine Xa (Xm rfl Tryz.underlying30 rfl Xr) ?_
  refine Xa (Xh rfl) ?_
  refine Xc (by kernel_rfl) ?_
  refine Xa (Xb Xj) ?_
  refine Xa (Xb rfl) ?_
  refine X1 (Xx (V4 _ _ (fold_nn (by decide) fun s h => h0 s (List.mem_of_mem_take h)) (h0 _ (List.getElem_mem hil)) _) rfl Tryz.func84 rfl rfl rfl ?_)
  rintro v14 H ⟨rfl, rfl⟩; rw [hnx]
  refine Xa (Xh rfl) ?_
  refine Xc (by kernel_rfl) ?_
  refine Xa (Yg Xj Xj Yp) ?_
  refine Xa (Xb rfl) ?_
  exact ⟨ss.length - (i + 1), by omega, i + 1, _, rfl, by omega, rfl, hs, rfl, e6, e7, rfl⟩
  intro hc1
  have hil : i = ss.length := by have := of_decide_eq_false hc1; omega
  rw [hil, List.take_length] at e3
  refine Yq ?_
  refine Xe ?_
  refine Xc (by kernel_rfl) ?_
  refine Xa (Xb Xj) ?_
  refine Xa (Xh rfl) ?_
  refine X5 ?_
  exact ⟨_, Xz (Xu rfl), rfl, rfl⟩
theorem av_rem_is {P : Program} {t : Fr} {H : Hp} {d : Option Tmp} {ty : TypeId} {pos : String} {after : Array Edge} {guard : Option (Nat × Bool)} {x y : Operand} {xt yt : TypeId} {k : IntKind} {a b v : Int} (hv : a.tmod b = v) (hx : t.eval x = .int k a) (hy : t.eval y = .int k b) (h0 : b ≠ 0) : AVal P ⟨d, .binOp .rem xt x y yt, ty, pos, after, guard⟩ t [] H (.int k v) := by
  subst hv; exact av_rem hx hy h0
theorem av_quo_is {P : Program} {t : Fr} {H : Hp} {d : Option Tmp} {ty : TypeId} {pos : String} {after : Array Edge} {guard : Option (Nat × Bool)} {x y : Operand} {xt yt : TypeId} {k : IntKind} {a b v : Int} (hv : k.wrap (a.tdiv b) = v) (hx : t.eval x = .int k a) (hy : t.eval y = .int k b) (h0 : b ≠ 0) : AVal P ⟨d, .binOp .quo xt x y yt, ty, pos, after, guard⟩ t [] H (.int k v) := by
  subst hv; exact av_quo hx hy h0
def outL (ss : List Int) (k : Int) (m : Nat) : List Value := (List.replicate m (0 : Int) ++ (peel (ss.drop m) k).2).map (Value.int .u64)
theorem outL_len (ss : List Int) (k : Int) {m : Nat} (h : m ≤ ss.length) : (outL ss k m).length = ss.length := by
  unfold outL
  rw [List.length_map, List.length_append, List.length_replicate, peel_len, List.length_drop]; omega
theorem outL_step (ss : List Int) (k : Int) {m : Nat} (h : m < ss.length) : (outL ss k (m + 1)).set m (.int .u64 ((peel (ss.drop (m + 1)) k).1 % ss[m])) = outL ss k m := by
  unfold outL
  have e : ss.drop m = ss[m] :: ss.drop (m + 1) := List.drop_eq_getElem_cons h
  rw [e, peel]
  rw [List.replicate_succ', List.append_assoc, List.map_append, List.map_append, List.set_append_right _ _ (by simp)]
  simp
theorem outL_zero (ss : List Int) (k : Int) : (List.replicate ss.length [Value.int .u64 0]).flatten = outL ss k ss.length := by
  unfold outL
  rw [List.drop_length, peel, List.append_nil, List.map_replicate]
  generalize ss.length = n
  induction n with
  | zero => rfl
  | succ n ih => rw [List.replicate_succ, List.flatten_cons, ih, List.replicate_succ]; rfl
set_option maxHeartbeats 1000000 in
theorem Digits_acc (k : Int) (ss : List Int) (v : Value) (H : Hp) (hs : Sl (Yz .u64) H v ss) (hl : ss.length ≤ 1000000) (h0 : ∀ s ∈ ss, 0 ≤ s) (hk : 0 ≤ k) :
    ACalls Tryz.prog 64 #[.int .u64 k, v] H (fun r H' => H.le H' ∧ ((¬ (Us ss ≠ 4611686018427387904 ∧ k < Us ss) ∧ r = .tuple #[.slice none 0 0, .bool false]) ∨ ((Us ss ≠ 4611686018427387904 ∧ k < Us ss) ∧ ∃ A c, r = .tuple #[.slice A ss.length c, .bool true] ∧ Sl (Yz .u64) H' (.slice A ss.length c) (peel ss k).2))) := by
  obtain ⟨A, c, rfl⟩ := hs.shape
  obtain ⟨hpt, hpn⟩ := prodT_is h0
  have hmost : Y0 = 4611686018427387904 := rfl
  refine Xv Tryz.func64 rfl rfl rfl (by simp) ?_
  refine Xe ?_
  refine Xc (by kernel_rfl) ?_
  refine Xa (X9 rfl) ?_
  refine Xa (Xo rfl) ?_
  refine Xe ?_
  refine Xe ?_
  refine Xc (by kernel_rfl) ?_
  refine Xa (X0 rfl) ?_
  refine X1 (Xx (product_acc ss _ _ hs hl h0) rfl Tryz.func94 rfl rfl rfl ?_)
  rintro v10 H ⟨rfl, rfl⟩
  refine Xa (Xh rfl) ?_
  refine Xe ?_
  refine Xc (by kernel_rfl) ?_
  refine Xa (Xb rfl) ?_
  refine Xa (Zr rfl rfl) ?_
  refine Xa (Xp rfl) ?_
  refine Yb rfl rfl rfl ?_ ?_
  intro hg1
  have hq : Us ss = 4611686018427387904 := by have h := hg1; simpa using h
  have hge : ¬ (Us ss ≠ 4611686018427387904 ∧ k < Us ss) := fun h => h.1 hq
  refine Xg (Xk rfl rfl rfl hg1 rfl) ?_
  refine Xg (Xk rfl rfl rfl hg1 rfl) ?_
  refine Xg (Xk rfl rfl rfl hg1 rfl) ?_
  refine Xa (Xl (congrArg Value.bool hg1) rfl) ?_
  refine Yr rfl rfl ?_
  refine Xe ?_
  refine Xc (by kernel_rfl) ?_
  refine Xa (X9 rfl) ?_
  refine Xa (Xo rfl) ?_
  refine X5 ?_
  exact ⟨_, Zl (Xu rfl) (Xu rfl), Hp.le_refl _, .inl ⟨hge, rfl⟩⟩
  intro hg1
  have hq : Us ss ≠ 4611686018427387904 := by have h := hg1; simpa using h
  refine Xn (Xf rfl rfl rfl hg1) (Xb rfl) ?_
  refine Xn (Xf rfl rfl rfl hg1) (Xb rfl) ?_
  refine Xn (Xf rfl rfl rfl hg1) (Vy rfl rfl) ?_
  refine Xa (Xl (congrArg Value.bool hg1) rfl) ?_
  refine X4 rfl rfl ?_ ?_
  intro hc3
  have hge : ¬ (Us ss ≠ 4611686018427387904 ∧ k < Us ss) := by
    have := of_decide_eq_true hc3
    intro h; omega
  refine Xe ?_
  refine Xc (by kernel_rfl) ?_
  refine Xa (X9 rfl) ?_
  refine Xa (Xo rfl) ?_
  refine X5 ?_
  exact ⟨_, Zl (Xu rfl) (Xu rfl), Hp.le_refl _, .inl ⟨hge, rfl⟩⟩
  intro hc3
  have hlt : Us ss ≠ 4611686018427387904 ∧ k < Us ss := ⟨hq, by have := of_decide_eq_false hc3; omega⟩
  have hkp : k < prodI ss := by rw [hpt] at hlt; omega
  have hpos : ∀ s ∈ ss, 0 < s := Decidable.byContradiction fun h => by rw [prodI_zero h0 h] at hkp; omega
  have hk64 : k < 18446744073709551616 := by have := hlt.2; rw [hpt] at this; omega
  refine X7 ?_
  refine Xe ?_
  refine Xc (by kernel_rfl) ?_
  refine Xa (X0 rfl) ?_
  refine Xa (Yk rfl Tryz.underlying109) ?_
  refine X6 (am_makeSlice Tryz.underlying109 inf30 rfl (by decide) (by decide) rfl rfl (by omega) (by omega) (by omega)) ?_
  refine Xa (X9 rfl) ?_
  refine Xe ?_
  refine Xe ?_
  refine Xc (by kernel_rfl) ?_
  refine Xa (X0 rfl) ?_
  refine Xa (Yk rfl Tryz.underlying109) ?_
  refine Xa (av_sub64 rfl rfl Yp) ?_
  refine Xa (Xh rfl) ?_
  refine X8 ?_
  refine Yy (fun n t H' => ∃ (m : Nat) (D : Option Addr), n = m ∧ m ≤ ss.length ∧ H' = H.push (.own 1 (outL ss k m)) ∧ Sl (Yz .u64) H (.slice D ss.length c) ss ∧ t 0 = .int .u64 (peel (ss.drop m) k).1 ∧ t 1 = .slice D ss.length c ∧ t 7 = .slice (some ⟨H.size, 0, none⟩) ss.length ss.length ∧ t 8 = .int .i64 ((m : Int) - 1)) (ss.length) (⟨ss.length, _, rfl, Nat.le_refl _, by rw [← outL_zero]; rfl, hs, by rw [List.drop_length]; rfl, rfl, rfl, rfl⟩) ?_
  rintro n t H1 ⟨m, D, rfl, hm, hH1, hs, e0, e1, e7, e8⟩
  refine Xe ?_
  refine Xe ?_
  refine Xc (by kernel_rfl) ?_
  refine Xa (Xb Xj) ?_
  refine Xa (Vy rfl rfl) ?_
  refine X4 rfl rfl ?_ ?_
  intro hc4
  obtain ⟨i, rfl⟩ : ∃ i, n = i + 1 := ⟨n - 1, by have := of_decide_eq_true hc4; omega⟩
  rw [show (((i + 1 : Nat) : Int) - 1) = (i : Int) by omega] at e8
  have hil : i < ss.length := by omega
  have hsi := hpos _ (List.getElem_mem hil)
  have leH1 : H.le H1 := by rw [hH1]; exact H.le_push _
  have g1 : H1.get H.size = .own 1 (outL ss k (i + 1)) := by rw [hH1]; exact Hp.push_new _ _
  have hol := outL_len ss k (m := i + 1) (by omega)
  obtain ⟨b, o, eD, hb, hcell⟩ := (hs.mono leH1.sees).int_at (i := (i : Int)) (by omega) (by omega)
  rw [Int.toNat_natCast, Zf hil] at hcell
  have hbH : b < H.size := by
    obtain ⟨b', o', eD', hb', _⟩ := hs.int_at (i := (i : Int)) (by omega) (by omega)
    rw [eD] at eD'
    simp only [Option.some.injEq, Addr.mk.injEq, and_true] at eD'
    rw [eD'.1]; exact hb'
  subst eD
  have hpe := peel_le (ss := ss.drop (i + 1)) (fun s h => hpos s (List.mem_of_mem_drop h)) hk
  have hrem : (peel (ss.drop (i + 1)) k).1.tmod ss[i] = (peel (ss.drop (i + 1)) k).1 % ss[i] := Int.tmod_eq_emod_of_nonneg hpe.1
  have hquo : IntKind.u64.wrap ((peel (ss.drop (i + 1)) k).1.tdiv ss[i]) = (peel (ss.drop i) k).1 := by
    rw [List.drop_eq_getElem_cons hil, peel, Int.tdiv_eq_ediv_of_nonneg hpe.1]
    exact wrap_u64a (Int.ediv_nonneg hpe.1 (by omega)) (by have := Int.ediv_le_self ss[i] hpe.1; omega)
  have hst := outL_step ss k hil
  have z1 : H1.size = H.size + 1 := by rw [hH1]; simp
  refine X7 ?_
  refine Xe ?_
  refine X8 ?_
  refine Yt (by kernel_rfl) (Y2 (B := [0, 0, 0, 0, 0, 24, 56, 124, 0, 0, 0, 1536, 3584, 7936, 7935, 24319, 65535]) (π := [0, 1, 2, 3, 4, 5, 6, 7, 8, 9, 10, 11, 12, 13, 14, 15, 16]) (by kernel_rfl)) ?_
  refine Xd rfl rfl (X0 Xj) Xq ?_
  refine Xd rfl rfl (Xb Xj) Xq ?_
  refine Xd rfl rfl (Xb Xj) Xq ?_
  refine Xd rfl rfl (X0 Xj) Xq ?_
  refine Xd rfl rfl (Xb Xj) Xq ?_
  refine Xd rfl rfl (Xs rfl rfl Tryz.underlying109 inf30.size X3 X3) Xq ?_
  refine Xd rfl rfl (Xm rfl Tryz.underlying30 rfl Xr) Xq ?_
  refine Xd rfl rfl (av_rem_is hrem rfl rfl (by omega)) Xq ?_
  refine Xd rfl rfl (Xb Xj) Xq ?_
  refine Xd rfl rfl (X0 Xj) Xq ?_
  refine Xd rfl rfl (Xb Xj) Xq ?_
  refine Xd rfl rfl (Xs rfl rfl Tryz.underlying109 inf30.size X3 X3) Xq ?_
  refine Xd rfl rfl (Xm rfl Tryz.underlying30 rfl Xr) Xq ?_
  refine Xd rfl rfl (av_quo_is hquo rfl rfl (by omega)) Xq ?_
  refine Xd rfl rfl (Xs rfl rfl Tryz.underlying109 inf30.size X3 X3) Xq ?_
  refine Yi rfl rfl (Y7 (u := .int .u64 ((peel (ss.drop (i + 1)) k).1 % ss[i])) (cs' := outL ss k i) rfl rfl rfl inf30.size g1 (by simp <;> omega) (by simpa using hst) ?_)
  refine ⟨Ye, ?_⟩
  refine Xd rfl rfl (Xh rfl) Xq ?_
  refine Xc (by kernel_rfl) ?_
  refine Xa (Xb Xj) ?_
  refine Xa (av_sub64 rfl rfl Yp) ?_
  refine Xa (Xh rfl) ?_
  refine ⟨i, by omega, i, _, rfl, by omega, ?_, hs, rfl, e1, e7, rfl⟩
  rw [hH1, Hp.push_put]
  intro hc4
  obtain rfl : n = 0 := by have := of_decide_eq_false hc4; omega
  refine Yq ?_
  refine Xe ?_
  refine Xc (by kernel_rfl) ?_
  refine Xa (X0 Xj) ?_
  refine Xa (X9 rfl) ?_
  refine Xa (Xo rfl) ?_
  refine X5 ?_
  rw [List.drop_zero] at e0
  exact ⟨_, Zl (Xu rfl) (Xu rfl), by rw [hH1]; exact H.le_push _, .inr ⟨hlt, _, _, rfl, by
    rw [hH1]
    have e : outL ss k 0 = ((peel ss k).2).map (Value.int .u64) := by unfold outL; simp
    rw [e]
    have hpl := peel_len ss k
    rw [← hpl]
    exact sl_ints (by simp) (Hp.push_new _ _)⟩⟩
structure GoodD (ds ss : List Int) : Prop where
  len : ds.length = ss.length
  few : Us ss ≠ 4611686018427387904
  lt : ∀ i (h : i < ds.length) (h' : i < ss.length), ds[i] < ss[i]
end Go.Proofs.YtmakkmcjocjgmaaGreat.Am


/- The small living call of the statements on access; what is told of no counts. -/
namespace Go.Proofs.YtmakkmcjocjgmaaGreat.Am
open Go Go.RowKit
set_option maxRecDepth 100000
set_option linter.unusedVariables false
set_option linter.unusedSimpArgs false

theorem Digits_u (k : Int) (ss : List Int) (v : Value) (H : Hp) (hs : Sl (Yz .u64) H v ss) (hl : ss.length ≤ 1000000) (h0 : ∀ s ∈ ss, 0 ≤ s) (hk : 0 ≤ k) :
    ACalls Tryz.prog 64 #[.int .u64 k, v] H (fun r H' => H.le H' ∧ ∃ (A : Option Addr) (c : Nat) (ok : Bool) (D : List Int), r = .tuple #[.slice A D.length c, .bool ok] ∧ Sl (Yz .u64) H' (.slice A D.length c) D ∧ ((ok = false ∧ ¬ (Us ss ≠ 4611686018427387904 ∧ k < Us ss) ∧ D = []) ∨ (ok = true ∧ (Us ss ≠ 4611686018427387904 ∧ k < Us ss) ∧ D = (peel ss k).2))) :=
  (Digits_acc k ss v H hs hl h0 hk).mono fun r H' ⟨hle, hr⟩ => by
    refine ⟨hle, ?_⟩
    rcases hr with ⟨h1, rfl⟩ | ⟨h1, A, c, rfl, sl⟩
    · exact ⟨none, 0, false, [], rfl, Sl.nil _ _, .inl ⟨rfl, h1, rfl⟩⟩
    · have hpl := peel_len ss k
      rw [← hpl] at sl ⊢
      exact ⟨A, c, true, _, rfl, sl, .inr ⟨rfl, h1, rfl⟩⟩
def live32 : TreeT := Y4 (Zv 2) (Ua (Zv 2) (Z2 2 [2, 3]))
theorem live32_is : live32 = Y4 (Zv 2) (Z2 2 [2, 3]) := by
  unfold live32
  rcases apart_of (n := 2) (by decide) (by decide) (sa := 2) (sb := 3) (by decide) (by decide) with ⟨_, _, h⟩ | ⟨h, _⟩
  · rw [h]
  · omega
theorem live32_all : Zu live32 [] = 24 := by rw [live32_is]; decide +kernel
theorem live32_seek : seek (V2 live32 live32.vars.length [] 1) 13 = some ([1, 0], 1) := by rw [live32_is]; decide +kernel
theorem live32_good : GoodT live32 := apart_goodT (by decide) (by decide) (by decide) (by decide)
theorem live32_few : FewA live32 := apart_fewA (by decide) (by decide) (by decide) (by decide)
theorem live32_reach : Reach live32 := reach_tree (good_apart (by decide) (by decide) (by decide) (by decide)) live32_good
set_option maxHeartbeats 2000000 in
theorem Vg (H : Hp) : ACalls Tryz.prog 28 #[] H (fun r H' => r = .bool true ∧ H.le H') := by
  refine Xv Tryz.func28 rfl rfl rfl (by simp) ?_
  refine Xe ?_
  refine Xc (by kernel_rfl) ?_
  refine Xa (Xo rfl) ?_
  refine Xe ?_
  refine Xc (by kernel_rfl) ?_
  first | refine X6 (Yf (r := [.int .u64 _, .int .u64 _]) Tryz.underlying109 inf30.size inf30.zero rfl (by decide) (by decide) (by decide) rfl) ?_
  refine X1 (Xx (Digits_u 5 [2, 3] (.slice (some ⟨H.size, 0, none⟩) 2 2) _ (sl_two (k := Yz .u64) Yj (by simp) rfl rfl rfl) (by decide) (by decide) (by decide)) rfl Tryz.func64 rfl rfl rfl ?_)
  rintro v12 H1 ⟨le1, A1, k1, ok1, D1, rfl, slD, hor⟩; obtain ⟨rfl, _, hD1⟩ := hor.resolve_left (fun h => h.2.1 (by decide)); obtain rfl : D1 = [1, 2] := hD1; have leH1 := Hp.le_trans (H.le_push _) le1
  refine Xa (Zk rfl) ?_
  refine Xa (Yn rfl rfl) ?_
  refine Xa (Yn rfl rfl) ?_
  refine Xa (X9 rfl) ?_
  refine Xa (Xo rfl) ?_
  refine Xe ?_
  refine Xc (by kernel_rfl) ?_
  first | refine X6 (Yf (r := [.int .i64 _, .int .i64 _]) Tryz.underlying23 inf3.size inf3.zero rfl (by decide) (by decide) (by decide) rfl) ?_
  refine X1 (Xx (Apart_ok 2 [2, 3] (.slice (some ⟨H1.size, 0, none⟩) 2 2) _ (sl_two (k := Yz .i64) Yj (by simp) rfl rfl rfl) (by decide) (by decide)) rfl Tryz.func54 rfl rfl rfl ?_)
  rintro v17 H2 ⟨cs1, ds1, rfl, hf1, hp1, hle2⟩; have hf10 := hf1; have hp10 := hp1; obtain ⟨a0, a1, a2, a3, a4, rfl, hs0, hs1, hs2, hs3, hs4⟩ := hf1; obtain ⟨A0, c0, rfl⟩ := hs0.shape; obtain ⟨B1', c1', rfl⟩ := hs1.shape; obtain ⟨A2, c2, rfl⟩ := hs2.shape; obtain ⟨A3, c3, rfl⟩ := hs3.shape; obtain ⟨A4, c4, rfl⟩ := hs4.shape; obtain ⟨u0, u1, rfl, hn0, hn1⟩ := hp1; obtain ⟨B0, d0, rfl⟩ := hn0.shape; obtain ⟨B1, d1, rfl⟩ := hn1.shape; have hz2 := hle2.1; simp only [Hp.push_size] at hz2; have leH2 := Hp.le_trans leH1 (Hp.le_trans (H1.le_push _) hle2); have le12 := Hp.le_trans (H1.le_push _) hle2
  refine Xa (Zk rfl) ?_
  refine Xa (Yn rfl rfl) ?_
  refine Xa (Yn rfl rfl) ?_
  refine X6 (Y8 (l := [.slice none 0 0, .slice none 0 0, .slice none 0 0, .slice none 0 0, .slice none 0 0]) inf26.zero rfl (by decide)) ?_
  refine X6 (Y8 (l := [.slice none 0 0, .slice none 0 0]) inf29.zero rfl (by decide)) ?_
  refine X1 (Yo (vs := [.slice _ _ _, .slice _ _ _, .slice _ _ _, .slice _ _ _, .slice _ _ _]) rfl rfl inf26.size Yj Yl rfl rfl ?_)
  refine X1 (Yo (vs := [.slice _ _ _, .slice _ _ _]) rfl rfl inf29.size Yj Yl rfl rfl ?_)
  refine Xe ?_
  refine Xc (by kernel_rfl) ?_
  refine Xa (Yh (cs := [.slice _ _ _, .slice _ _ _, .slice _ _ _, .slice _ _ _, .slice _ _ _]) rfl Tryz.underlying26 rfl inf26.size Yd) ?_
  refine Xa (Yh (cs := [.slice _ _ _, .slice _ _ _]) rfl Tryz.underlying29 rfl inf29.size Yd) ?_
  refine X1 (Xx (New_good (Zv 2) (Z2 2 [2, 3]) _ _ _ (kForest.mono Zq hf10) (kParts.mono Zq hp10) (small_apart (by decide) (by decide)) (cheap_apart (by decide) (by decide) (by decide)) (good_apart (by decide) (by decide) (by decide) (by decide))) rfl Tryz.func13 rfl rfl rfl ?_)
  rintro v23 H3 ⟨hle3, tb, rfl, htr⟩; change TreeR H3 _ live32 at htr
  refine Xa (Zk rfl) ?_
  refine Xa (Yn rfl rfl) ?_
  refine Xa (Yn rfl rfl) ?_
  refine Xa (Zg rfl) ?_
  refine Xa (Xh rfl) ?_
  refine Xe ?_
  have le23 : H2.le H3 := Hp.le_trans t_le hle3
  have leH3 : H.le H3 := Hp.le_trans leH2 le23
  have le13 := Hp.le_trans le12 le23
  clear hle3
  refine Xc (by kernel_rfl) ?_
  refine Xa (Xy rfl) ?_
  refine X1 (Xx (New_cnt live32_good live32_few live32_reach _ htr) rfl Tryz.func26 rfl rfl rfl ?_)
  rintro v28 H4 ⟨hle4, cb, rfl, hc4⟩
  refine X1 (Xx (At_acc live32_good hc4 13 (by decide)) rfl Tryz.func34 rfl rfl rfl ?_)
  rintro v29 H5 ⟨hle5, hr⟩; obtain ⟨_, ns, left, x, A5, k5, hsk, hrow, hxn, rfl, sl5, _⟩ := hr.resolve_left (fun h => by rw [live32_all] at h; exact absurd h.1 (by decide)); rw [live32_seek] at hsk; obtain ⟨rfl, rfl⟩ : [1, 0] = ns ∧ 1 = left := (by injection hsk with h; injection h with h1 h2; exact ⟨h1, h2⟩); obtain ⟨xn, xc, xm⟩ := x; obtain rfl : xn = [1, 0] := hxn; change Sl (Yz .i64) H5 (.slice A5 ([1, 0] : List Int).length k5) [1, 0] at sl5; have leH5 := Hp.le_trans leH3 (Hp.le_trans hle4 hle5); have le15 := Hp.le_trans le13 (Hp.le_trans hle4 hle5)
  refine Xa (Zk rfl) ?_
  refine Xa (Yn rfl rfl) ?_
  refine Xa (Yn rfl rfl) ?_
  refine Xa (Yn rfl rfl) ?_
  refine X6 (Y8 (l := [.slice none 0 0, .int .i64 0, .int .u64 0]) inf46.zero rfl (by decide)) ?_
  refine X1 (Yo (vs := [.slice _ _ _, .int .i64 _, .int .u64 _]) rfl rfl inf46.size Yj Yl rfl rfl ?_)
  refine Xa (Xh rfl) ?_
  refine Xa (Xo rfl) ?_
  refine Xe ?_
  obtain ⟨H6, hH6⟩ : ∃ H6, H6 = (H5.push (.own 0 [.slice none 0 0, .int .i64 0, .int .u64 0])).put H5.size (.own 0 [.slice A5 ([1, 0] : List Int).length k5, .int .i64 xc, .int .u64 xm]) := ⟨_, rfl⟩
  have le56 : H5.le H6 := by rw [hH6]; exact Hp.le_put_new (H5.le_push _) (Nat.le_refl _) _
  have g6 : H6.get H5.size = .own 0 [.slice A5 ([1, 0] : List Int).length k5, .int .i64 xc, .int .u64 xm] := by rw [hH6]; exact Hp.put_same _ _ _
  have z6 : H6.size = H5.size + 1 := by rw [hH6]; simp
  change ACode true _ _ _ _ _ ((H5.push (.own 0 [.slice none 0 0, .int .i64 0, .int .u64 0])).put H5.size (.own 0 [.slice A5 ([1, 0] : List Int).length k5, .int .i64 xc, .int .u64 xm]))
  rw [← hH6]
  clear hH6
  have sl6 := (sl5.mono le56.sees).mono (H6.le_push (.own 1 [.int .u64 1, .int .u64 2])).sees
  have slD6 := (slD.mono (Hp.le_trans le15 le56).sees).mono (H6.le_push (.own 1 [.int .u64 1, .int .u64 2])).sees
  obtain ⟨bR, oR, eR, hbR, hcR⟩ := sl6.int_at (i := 0) (by decide) (by decide)
  obtain ⟨bR2, oR2, eR2, hbR2, hcR2⟩ := sl6.int_at (i := 1) (by decide) (by decide)
  subst eR
  simp only [Option.some.injEq, Addr.mk.injEq, and_true] at eR2
  obtain ⟨rfl, rfl⟩ := eR2
  have g7 := (Hp.push_old H6 (.own 1 [.int .u64 1, .int .u64 2]) (show H5.size < H6.size by omega)).trans g6
  refine Xc (by kernel_rfl) ?_
  refine Xa (Xp rfl) ?_
  refine Xa (Xp rfl) ?_
  refine Yb rfl rfl rfl ?_ ?_
  intro hg1
  have hp1 := hg1; try simp only [decide_eq_true_eq, decide_eq_false_iff_not, Bool.not_eq_true', Bool.not_eq_false'] at hp1
  refine Xn (Xf rfl rfl rfl hg1) (X0 rfl) ?_
  first | refine Z4 (Xf rfl rfl rfl hg1) (.make (Yf (r := [.int .u64 _, .int .u64 _]) Tryz.underlying109 inf30.size inf30.zero rfl (by decide) (by decide) (by decide) rfl) ?_)
  refine Z4 (Xf rfl rfl rfl hg1) (Xx (SameU_u64 [1, 2] [1, 2] _ (.slice (some ⟨H6.size, 0, none⟩) 2 2) _ slD6 (sl_two (k := Yz .u64) Yj (by simp) rfl rfl rfl) (by decide)) rfl Tryz.func65 rfl rfl rfl ?_)
  rintro v37 H7 ⟨rfl, hH7⟩; subst hH7
  refine Xa (Xl (congrArg Value.bool hg1) rfl) ?_
  refine Xa (Xp rfl) ?_
  refine Yb rfl rfl rfl ?_ ?_
  intro hg2
  have hp2 := hg2; try simp only [decide_eq_true_eq, decide_eq_false_iff_not, Bool.not_eq_true', Bool.not_eq_false'] at hp2
  refine Xn (Xf rfl rfl rfl hg2) (Xb rfl) ?_
  refine Xn (Xf rfl rfl rfl hg2) (Zr rfl rfl) ?_
  refine Xa (Xl (congrArg Value.bool hg2) rfl) ?_
  refine Xa (Xp rfl) ?_
  refine Yb rfl rfl rfl ?_ ?_
  intro hg3
  have hp3 := hg3; try simp only [decide_eq_true_eq, decide_eq_false_iff_not, Bool.not_eq_true', Bool.not_eq_false'] at hp3
  refine Xn (Xf rfl rfl rfl hg3) (Xp rfl) ?_
  refine Xa (Xl (congrArg Value.bool hg3) rfl) ?_
  refine Xa (Xp rfl) ?_
  refine Yb rfl rfl rfl ?_ ?_
  intro hg4
  have hp4 := hg4; try simp only [decide_eq_true_eq, decide_eq_false_iff_not, Bool.not_eq_true', Bool.not_eq_false'] at hp4
  refine Xn (Xf rfl rfl rfl hg4) (Xb rfl) ?_
  refine Xn (Xf rfl rfl rfl hg4) (Zr rfl rfl) ?_
  refine Xa (Xl (congrArg Value.bool hg4) rfl) ?_
  refine Xa (Xp rfl) ?_
  refine Yb rfl rfl rfl ?_ ?_
  intro hg5
  have hp5 := hg5; try simp only [decide_eq_true_eq, decide_eq_false_iff_not, Bool.not_eq_true', Bool.not_eq_false'] at hp5
  refine Xn (Xf rfl rfl rfl hg5) (Xi (off := 0) rfl Tryz.underlying46 rfl inf23.size (by decide) rfl) ?_
  refine Xn (Xf rfl rfl rfl hg5) (Xm rfl Tryz.underlying23 rfl Xr) ?_
  refine Xn (Xf rfl rfl rfl hg5) (Yk rfl Tryz.underlying23) ?_
  refine Xn (Xf rfl rfl rfl hg5) (Zr rfl rfl) ?_
  refine Xa (Xl (congrArg Value.bool hg5) rfl) ?_
  refine Xa (Xp rfl) ?_
  refine Yb rfl rfl rfl ?_ ?_
  intro hg6
  have hp6 := hg6; try simp only [decide_eq_true_eq, decide_eq_false_iff_not, Bool.not_eq_true', Bool.not_eq_false'] at hp6
  refine Xn (Xf rfl rfl rfl hg6) (Xi (off := 0) rfl Tryz.underlying46 rfl inf23.size (by decide) rfl) ?_
  refine Xn (Xf rfl rfl rfl hg6) (Xm rfl Tryz.underlying23 rfl Xr) ?_
  refine Xn (Xf rfl rfl rfl hg6) (Xs rfl rfl Tryz.underlying23 inf3.size X3 X3) ?_
  refine Xn (Xf rfl rfl rfl hg6) (Xm rfl Tryz.underlying3 rfl Xr) ?_
  refine Xn (Xf rfl rfl rfl hg6) (Zr rfl rfl) ?_
  refine Xa (Xl (congrArg Value.bool hg6) rfl) ?_
  refine Xa (Xp rfl) ?_
  refine Yb rfl rfl rfl ?_ ?_
  intro hg7
  have hp7 := hg7; try simp only [decide_eq_true_eq, decide_eq_false_iff_not, Bool.not_eq_true', Bool.not_eq_false'] at hp7
  refine Xn (Xf rfl rfl rfl hg7) (Xi (off := 0) rfl Tryz.underlying46 rfl inf23.size (by decide) rfl) ?_
  refine Xn (Xf rfl rfl rfl hg7) (Xm rfl Tryz.underlying23 rfl Xr) ?_
  refine Xn (Xf rfl rfl rfl hg7) (Xs rfl rfl Tryz.underlying23 inf3.size X3 X3) ?_
  refine Xn (Xf rfl rfl rfl hg7) (Xm rfl Tryz.underlying3 rfl Xr) ?_
  refine Xn (Xf rfl rfl rfl hg7) (Zr rfl rfl) ?_
  refine Xa (Xl (congrArg Value.bool hg7) rfl) ?_
  refine Xa (Xo rfl) ?_
  refine X5 ?_
  exact ⟨.bool true, Xz (Xu rfl), rfl, Hp.le_trans (Hp.le_trans leH5 le56) (H6.le_push _)⟩
  intro hg7
  exact absurd hg7 (by decide)
  intro hg6
  exact absurd hg6 (by decide)
  intro hg5
  exact absurd hg5 (by decide)
  intro hg4
  exact absurd hg4 (by decide)
  intro hg3
  exact absurd hg3 (by decide)
  intro hg2
  exact absurd hg2 (by decide)
  intro hg1
  exact absurd hg1 (by decide)
end Go.Proofs.YtmakkmcjocjgmaaGreat.Am
