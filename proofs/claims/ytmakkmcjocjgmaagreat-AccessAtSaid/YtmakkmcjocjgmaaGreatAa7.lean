/- Texts that the proof rests on, part 7: lemmas for every heap that is related to a world, no condition beyond each lemma's own. -/
import Derived.Test.YtmakkmcjocjgmaaGreatAa6
import Derived.Test.YtmakkmcjocjgmaaGreatAaTreeGroups
import Derived.Test.YtmakkmcjocjgmaaGreatAa5
import Derived.Test.YtmakkmcjocjgmaaGreatAa1
import Derived.Test.YtmakkmcjocjgmaaGreatAaRow

/- How many answers stand ahead of any nodes. -/
namespace Go.Proofs.YtmakkmcjocjgmaaGreat.Am
open Go Go.RowKit
set_option maxRecDepth 100000
set_option linter.unusedVariables false
set_option linter.unusedSimpArgs false

def termW (T : TreeT) (d : Nat) (q al : List Int) (wN : Nat) (l : Link) : Nat := if l.b < al.getD q.length 0 then wN * l.n.toNat * V1 T (q ++ [l.b]) else if l.b = al.getD q.length 0 then Un (V2 T d (q ++ [l.b]) (wN * l.n.toNat)) al else 0
theorem sum_zeroA {α : Type} {f : α → Nat} : ∀ {xs : List α}, (∀ x ∈ xs, f x = 0) → (xs.map f).sum = 0
  | [], _ => rfl
  | x :: xs, h => by rw [List.map_cons, List.sum_cons, h x (by simp), sum_zeroA fun y hy => h y (by simp [hy])]
theorem sum_drop {α : Type} {f : α → Nat} {xs : List α} {m : Nat} (h : m < xs.length) : ((xs.drop m).map f).sum = f xs[m] + ((xs.drop (m + 1)).map f).sum := by rw [drop_next h, List.map_cons, List.sum_cons]
set_option maxHeartbeats 4000000 in
theorem ahead_acc {T : TreeT} (hT : GoodT T) {H : Hp} {cb tb : Nat} (hc : CntR H cb tb T) (hex : (V1 T [] : Int) < 4611686018427387904) (al : List Int) (v : Value) (hs : Sl (Yz .i64) H v al) (has : al.length ≤ 1000000) :
    ACalls Tryz.prog 67 #[.pointer (some ⟨cb, 0, none⟩), v] H (fun r H' => H.le H' ∧ ∃ (s : Int) (ok : Bool), r = .tuple #[.int .u64 s, .bool ok] ∧ (al.length ≠ T.vars.length → s = 0 ∧ ok = false) ∧ (al.length = T.vars.length → s = (Un (V2 T T.vars.length [] 1) al : Nat) ∧ (ok = true ↔ Path T al))) := by
  obtain ⟨A, c, rfl⟩ := hs.shape
  have hfew := hT.few
  have hmost : Y0 = 4611686018427387904 := rfl
  obtain ⟨M, hM⟩ : ∃ M : Int, M = 4611686018427387904 := ⟨_, rfl⟩
  rw [← hM] at hex hmost
  obtain ⟨R, hR⟩ : ∃ R, R = Un (V2 T T.vars.length [] 1) al := ⟨_, rfl⟩
  rw [← hR]
  have hRle : R ≤ V1 T [] := by
    rw [hR]
    refine Nat.le_trans (lessW_le _ _) ?_
    rw [extW_sum hT _ _ _ (by simp), Nat.one_mul]
    exact Nat.le_refl _
  refine Xv Tryz.func67 rfl rfl rfl (by simp) ?_
  refine Xe ?_
  refine Xc (by kernel_rfl) ?_
  refine Xa (Xh rfl) ?_
  refine Xa (Xo rfl) ?_
  refine Xe ?_
  refine Xc (by kernel_rfl) ?_
  refine Xa (Xy rfl) ?_
  refine X1 (Xx (begin_find hc) rfl Tryz.func70 rfl rfl rfl ?_)
  rintro v14 H1 ⟨fb, rfl, hf1⟩; rw [cap_one] at hf1; have leK1 := hf1.le; have hcH1 := hc.mono leK1; obtain ⟨B1, c1', l11, l12, l13, gf1, hown1⟩ := id hf1; have hf1' := Xt hown1.le l13 (by intro e; cases e) gf1; have zz1 := hown1.size; obtain ⟨mb, ms, es1, es2, d1, d2, d3, d4, d5, d6, d7, d8⟩ := id hcH1
  refine Xa (Zg rfl) ?_
  refine Xe ?_
  refine Xe ?_
  refine Xc (by kernel_rfl) ?_
  refine Xa (X0 rfl) ?_
  refine Xa (Yk rfl Tryz.underlying23) ?_
  refine Xa (Xy rfl) ?_
  refine Xa (Yc rfl) ?_
  refine Xa (Xi (off := 1) rfl Tryz.underlying120 rfl inf37.size (by decide) rfl) ?_
  refine Xa (Xm rfl Tryz.underlying37 rfl Xr) ?_
  refine X1 (Xx (Len_tree d7) rfl Tryz.func62 rfl rfl rfl ?_)
  rintro v21 H1 ⟨rfl, rfl⟩
  refine Xa (Z8 rfl rfl) ?_
  refine X4 rfl rfl ?_ ?_
  intro hc1
  have hne : al.length ≠ T.vars.length := by have := of_decide_eq_true hc1; omega
  refine Xe ?_
  refine Xc (by kernel_rfl) ?_
  refine Xa (Xh rfl) ?_
  refine Xa (Xo rfl) ?_
  refine X5 ?_
  exact ⟨_, Zl (Xu rfl) (Xu rfl), leK1, 0, false, rfl, fun _ => ⟨rfl, rfl⟩, fun h => absurd h hne⟩
  intro hc1
  have heq : al.length = T.vars.length := by have := of_decide_eq_false hc1; omega
  refine X7 ?_
  refine Xe ?_
  refine Xc (by kernel_rfl) ?_
  refine Xa (Xh rfl) ?_
  refine Xe ?_
  refine Xe ?_
  refine Xc (by kernel_rfl) ?_
  refine Xa (X0 rfl) ?_
  refine Xa (Yk rfl Tryz.underlying23) ?_
  refine Xa (Xb rfl) ?_
  refine X8 ?_
  refine Yy (fun n t H' => ∃ (G : Hp) (j wN sum : Nat) (D : Option Addr), n = al.length - j ∧ j ≤ al.length ∧ FindP H G H' fb cb tb (al.take j) (Zd wN) 0 ∧ sum + Un (V2 T (T.vars.length - j) (al.take j) wN) al = R ∧ Path T (al.take j) ∧ Sl (Yz .i64) H (.slice D al.length c) al ∧ t 6 = .pointer (some ⟨fb, 0, none⟩) ∧ t 7 = .int .u64 sum ∧ t 23 = .slice D al.length c ∧ t 24 = .int .i64 al.length ∧ t 25 = .int .i64 j) (al.length) (⟨_, 0, 1, 0, _, rfl, Nat.zero_le _, hf1, by rw [hR, Nat.zero_add]; rfl, fun i hi => by simp at hi, hs, rfl, rfl, rfl, rfl, rfl⟩) ?_
  rintro n t H2 ⟨G2, j, wN, sum, D, rfl, hj, hf2, hsum, hpath, hs, e6, e7, e23, e24, e25⟩
  have leK2 := hf2.le
  have hs2 := hs.mono leK2.sees
  obtain ⟨B2, c2', l21, l22, l23, gf2, hown2⟩ := id hf2
  have zz2 := hown2.size
  have hql : (al.take j).length = j := by rw [List.length_take]; omega
  refine Xe ?_
  refine Xc (by kernel_rfl) ?_
  refine Xa (Yx Xj Xj) ?_
  refine Xe ?_
  refine X4 rfl rfl ?_ ?_
  intro hc2
  have hjl : j < al.length := by have := of_decide_eq_true hc2; omega
  obtain ⟨bA, oA, eA, hbA, hcA⟩ := hs2.int_at (i := (j : Int)) (by omega) (by omega)
  rw [Int.toNat_natCast] at hcA
  subst eA
  obtain ⟨q, hq⟩ : ∃ q, q = al.take j := ⟨_, rfl⟩
  obtain ⟨x, hx⟩ : ∃ x, x = al.getD j 0 := ⟨_, rfl⟩
  rw [← hq] at hf2 hsum hpath hql
  rw [← hx] at hcA
  have hlt : q.length < T.vars.length := by omega
  have hqt : al.take q.length = q := by rw [hql, hq]
  obtain ⟨d, hd⟩ : ∃ d, T.vars.length - j = d + 1 := ⟨T.vars.length - j - 1, by omega⟩
  have hdd : q.length + (d + 1) = T.vars.length := by omega
  have hxq : al.getD q.length 0 = x := by rw [hql, hx]
  rw [hd, less_step hT hqt (by omega) hdd] at hsum
  refine X7 ?_
  refine Xe ?_
  refine X8 ?_
  refine Xe ?_
  refine Xc (by kernel_rfl) ?_
  refine Xa (Xs Xj Xj Tryz.underlying23 inf3.size X3 X3) ?_
  refine Xa (Xm rfl Tryz.underlying3 rfl Xr) ?_
  refine Xa (Xh rfl) ?_
  refine Xe ?_
  refine Xc (by kernel_rfl) ?_
  refine Xa (Xo rfl) ?_
  refine Xe ?_
  refine Xe ?_
  refine Xc (by kernel_rfl) ?_
  refine Xa (Xy Xj) ?_
  refine X1 (Xx (group_find hT hc hf2 hlt) rfl Tryz.func96 rfl rfl rfl ?_)
  rintro v30 H3 ⟨GL, leL, hownL⟩; obtain ⟨g, hg⟩ : ∃ g, g = T.group q.length (Ym T q q.length) := ⟨_, rfl⟩; rw [← hg] at hownL hsum; have slL := hownL.sl; obtain ⟨AG, cG, rfl⟩ := slL.shape; obtain ⟨G3, le3, hf3⟩ := hf2.later (Hp.le_trans leL hownL.le); obtain ⟨B3, c3, l31, l32, l33, gf3, hown3⟩ := id hf3; have slG := hown3.below (Zj _) (by decide) slL; have hgl := group_len hT.lens (q.length : Int) (Ym T q q.length); rw [← hg] at hgl; have hmem : ∀ l ∈ g, l ∈ T.group q.length (Ym T q q.length) := (fun l hl => by rw [← hg]; exact hl); have hsort : g.Pairwise (fun x y => x.b < y.b) := (by rw [hg]; exact hT.sort _ _); change sum + (g.map (termW T d q al wN)).sum = R at hsum
  refine Xa (Yk rfl Tryz.underlying83) ?_
  refine Xa (Xb rfl) ?_
  refine X8 ?_
  refine Yy (fun n t H' => ∃ (m : Nat) (G : Hp) (s2 : Nat) (D2 : Option Addr), n = g.length - m ∧ m ≤ g.length ∧ Away fb G3 G ∧ FindP H G H' fb cb tb q (Zd wN) 0 ∧ s2 + ((g.drop m).map (termW T d q al wN)).sum = R ∧ (∀ i (h : i < g.length), i < m → g[i].b ≠ x) ∧ Sl kLink G3 (.slice D2 g.length cG) g ∧ t 6 = .pointer (some ⟨fb, 0, none⟩) ∧ t 7 = .int .u64 s2 ∧ t 9 = .int .i64 x ∧ t 10 = .bool false ∧ t 23 = .slice (some ⟨bA, oA, none⟩) al.length c ∧ t 24 = .int .i64 al.length ∧ t 25 = .int .i64 j ∧ t 30 = .slice D2 g.length cG ∧ t 31 = .int .i64 g.length ∧ t 32 = .int .i64 m) (g.length) (⟨0, G3, sum, _, rfl, Nat.zero_le _, .refl _ _, hf3, hsum, fun i h h0 => by omega, slG, e6, e7, rfl, rfl, e23, e24, e25, rfl, rfl, rfl⟩) ?_
  rintro n t H4 ⟨m, G4, s2, D2, rfl, hm, aw4, hf4, hsum4, hno4, slD, e6, e7, e9, e10, e23, e24, e25, e30, e31, e32⟩
  obtain ⟨B4, c4, l41, l42, l43, gf4, hown4⟩ := id hf4
  have slD4 := slD.mono (aw4.sees gf3)
  have zz4 := hown4.size
  have zz34 := aw4.size
  refine Xe ?_
  refine Xc (by kernel_rfl) ?_
  refine Xa (Yx Xj Xj) ?_
  refine Xe ?_
  refine X4 rfl rfl ?_ ?_
  intro hc3
  have hml : m < g.length := by have := of_decide_eq_true hc3; omega
  obtain ⟨bg, og, eg, hbg, hcg⟩ := (slD4.mono hown4.le.sees).link_at hml
  obtain ⟨l, hl⟩ : ∃ l, l = g[m] := ⟨_, rfl⟩
  have hlg : l ∈ g := by rw [hl]; exact List.getElem_mem hml
  have hsd := sum_drop (f := termW T d q al wN) hml
  have hsdl := hsort
  rw [← hl] at hcg hsd
  subst eg
  obtain ⟨hblk, htk, hb0⟩ := block_is hT hpath hlt (hmem l hlg) wN
  have hln := (hT.group_mem (hmem l hlg)).2.2
  refine X7 ?_
  refine Xe ?_
  refine X8 ?_
  refine Xe ?_
  refine Xc (by kernel_rfl) ?_
  refine Xa (Xs Xj Xj Tryz.underlying83 inf96.size X3 X3) ?_
  refine Xa (Yh (cs := [.int .i64 _, .int .i64 _, .int .i64 _, .int .u64 _]) rfl Tryz.underlying96 rfl inf96.size Yd) ?_
  refine X6 (Y8 (l := [.int .i64 0, .int .i64 0, .int .i64 0, .int .u64 0]) inf96.zero rfl (by decide)) ?_
  first | refine X1 (Yo (vs := [.int .i64 _, .int .i64 _, .int .i64 _, .int .u64 _]) rfl rfl inf96.size Yj Yl rfl rfl ?_)
  refine Xe ?_
  refine Xe ?_
  refine Xc (by kernel_rfl) ?_
  refine Xa (Xi (off := 1) rfl Tryz.underlying96 rfl inf3.size (by decide) rfl) ?_
  refine Xa (Xm rfl Tryz.underlying3 rfl Xr) ?_
  refine Xa (Xb Xj) ?_
  refine Xa (Yx rfl rfl) ?_
  obtain ⟨H5, hH5⟩ : ∃ H5, H5 = (H4.push (.own 0 [.int .i64 0, .int .i64 0, .int .i64 0, .int .u64 0])).put H4.size (.own 0 [.int .i64 l.a, .int .i64 l.b, .int .i64 l.cost, .int .u64 l.n]) := ⟨_, rfl⟩
  obtain ⟨G5, hG5⟩ : ∃ G5, G5 = (G4.push (.own 0 [.int .i64 0, .int .i64 0, .int .i64 0, .int .u64 0])).put H4.size (.own 0 [.int .i64 l.a, .int .i64 l.b, .int .i64 l.cost, .int .u64 l.n]) := ⟨_, rfl⟩
  have hown5 := hown4.boxed [.int .i64 0, .int .i64 0, .int .i64 0, .int .u64 0] [.int .i64 l.a, .int .i64 l.b, .int .i64 l.cost, .int .u64 l.n]
  rw [← hH5, ← hG5] at hown5
  have le45 : G4.le G5 := by rw [hG5]; exact Hp.le_put_new (G4.le_push _) (by omega) _
  have gx5 : G5.get H4.size = .own 0 [.int .i64 l.a, .int .i64 l.b, .int .i64 l.cost, .int .u64 l.n] := by rw [hG5]; exact Hp.put_same _ _ _
  have z5 : G5.size = G4.size + 1 := by rw [hG5]; simp
  have gf5 := Xt le45 (by omega) (by intro e; cases e) gf4
  have hx5 := Xt hown5.le (by omega) (by intro e; cases e) gx5
  have zz5 := hown5.size
  have hf5 : FindP H G5 H5 fb cb tb q (Zd wN) 0 := ⟨B4, c4, Hp.le_trans l41 le45, l42, by omega, gf5, hown5⟩
  have aw5 := aw4.trans (.of_le le45)
  change ACode true _ _ _ _ _ ((H4.push (.own 0 [.int .i64 0, .int .i64 0, .int .i64 0, .int .u64 0])).put H4.size (.own 0 [.int .i64 l.a, .int .i64 l.b, .int .i64 l.cost, .int .u64 l.n]))
  rw [← hH5]
  clear hH5 hG5
  refine ac_cut (fun t H' => ∃ (G' : Hp) (s3 : Nat), Away fb G3 G' ∧ FindP H G' H' fb cb tb q (Zd wN) 0 ∧ s3 = (if l.b < x then s2 + wN * l.n.toNat * V1 T (q ++ [l.b]) else s2) ∧ H4.size < H'.size ∧ H'.get H4.size = .own 0 [.int .i64 l.a, .int .i64 l.b, .int .i64 l.cost, .int .u64 l.n] ∧ t 6 = .pointer (some ⟨fb, 0, none⟩) ∧ t 7 = .int .u64 s3 ∧ t 9 = .int .i64 x ∧ t 10 = .bool false ∧ t 12 = .pointer (some ⟨H4.size, 0, none⟩) ∧ t 23 = .slice (some ⟨bA, oA, none⟩) al.length c ∧ t 24 = .int .i64 al.length ∧ t 25 = .int .i64 j ∧ t 30 = .slice (some ⟨bg, og, none⟩) g.length cG ∧ t 31 = .int .i64 g.length ∧ t 32 = .int .i64 m) ?_ ?_
  refine X4 rfl rfl ?_ ?_
  intro hc4
  have hlb : l.b < x := of_decide_eq_true hc4
  have hterm : termW T d q al wN l = wN * l.n.toNat * V1 T (q ++ [l.b]) := by unfold termW; rw [hxq, if_pos hlb]
  have hXle : s2 + wN * l.n.toNat * V1 T (q ++ [l.b]) ≤ R := by rw [hterm] at hsd; omega
  have hcapX : Zd (wN * l.n.toNat * V1 T (q ++ [l.b])) = ((wN * l.n.toNat * V1 T (q ++ [l.b]) : Nat) : Int) := by unfold Zd; omega
  have hwX : IntKind.u64.wrap ((s2 : Int) + ((wN * l.n.toNat * V1 T (q ++ [l.b]) : Nat) : Int)) = ((s2 + wN * l.n.toNat * V1 T (q ++ [l.b]) : Nat) : Int) := by rw [← Int.natCast_add]; exact wrap_u64a (by omega) (by omega)
  refine Xc (by kernel_rfl) ?_
  refine Xa (Xb Xj) ?_
  refine Xa (Xy Xj) ?_
  refine Xa (Yh (cs := [.int .i64 _, .int .i64 _, .int .i64 _, .int .u64 _]) rfl Tryz.underlying96 rfl inf96.size Yd) ?_
  refine X1 (Xx (block_find hT hc hf5 hlt (Uc wN).1 l hln hb0) rfl Tryz.func97 rfl rfl rfl ?_)
  rintro v43 H6 ⟨rfl, le56⟩; rw [hblk, hcapX]; obtain ⟨G6, leG56, hf6⟩ := hf5.later le56; have hx6 := Xt le56 (by omega) (by intro e; cases e) hx5; have z56 := le56.1
  refine Xa (av_addn_is hwX rfl rfl) ?_
  refine Xa (Xh rfl) ?_
  first
    | exact ⟨G6, _, aw5.trans (.of_le leG56), hf6, (if_pos hlb).symm, by omega, hx6, e6, rfl, e9, e10, rfl, e23, e24, e25, e30, e31, e32⟩
    | exact ⟨G5, _, aw5, hf5, (if_neg hlb).symm, by omega, hx5, e6, e7, e9, e10, rfl, e23, e24, e25, e30, e31, e32⟩
  intro hc4
  have hlb : ¬ l.b < x := of_decide_eq_false hc4
  refine X7 ?_
  first
    | exact ⟨G6, _, aw5.trans (.of_le leG56), hf6, (if_pos hlb).symm, by omega, hx6, e6, rfl, e9, e10, rfl, e23, e24, e25, e30, e31, e32⟩
    | exact ⟨G5, _, aw5, hf5, (if_neg hlb).symm, by omega, hx5, e6, e7, e9, e10, rfl, e23, e24, e25, e30, e31, e32⟩
  rintro t H7 ⟨G7, s3, aw7, hf7, hs3, hlt7, hx7, e6, e7, e9, e10, e12, e23, e24, e25, e30, e31, e32⟩
  refine Xe ?_
  refine Xc (by kernel_rfl) ?_
  refine Xa (Xi (off := 1) Xj Tryz.underlying96 Xj inf3.size (by decide) Xj) ?_
  refine Xa (Xm rfl Tryz.underlying3 rfl Xr) ?_
  refine Xa (Xb Xj) ?_
  refine Xa (Zr rfl rfl) ?_
  refine X4 rfl rfl ?_ ?_
  intro hc5
  have hlx : l.b = x := of_decide_eq_true hc5
  rw [if_neg (by omega)] at hs3
  have hterm : termW T d q al wN l = Un (V2 T d (q ++ [l.b]) (wN * l.n.toNat)) al := by unfold termW; rw [hxq, if_neg (by omega), if_pos hlx]
  have hrest : ((g.drop (m + 1)).map (termW T d q al wN)).sum = 0 := sum_zeroA fun y hy => by
    obtain ⟨i, hi, rfl⟩ := List.getElem_of_mem hy
    rw [List.getElem_drop]
    have h1 := List.pairwise_iff_getElem.1 hsort m (m + 1 + i) hml (by rw [List.length_drop] at hi; omega) (by omega)
    rw [← hl] at h1
    unfold termW
    rw [hxq, if_neg (by omega), if_neg (by omega)]
  have hqx : q ++ [l.b] = al.take (j + 1) := by rw [hlx, hx, hq, Zf hjl, Yu hjl]
  refine Xe ?_
  refine Xc (by kernel_rfl) ?_
  refine Xa (Xy Xj) ?_
  refine Xa (Yh (cs := [.int .i64 _, .int .i64 _, .int .i64 _, .int .u64 _]) Xj Tryz.underlying96 Xj inf96.size Yd) ?_
  refine X1 (Xx (take_find hf7 (by omega) (Uc wN).1 l hln) rfl Tryz.func98 rfl rfl rfl ?_)
  rintro v51 H8 ⟨G8, aw8, hf8⟩; rw [htk, hqx] at hf8
  refine Xe ?_
  refine Xc (by kernel_rfl) ?_
  refine Xa (Xo rfl) ?_
  refine Yq ?_
  refine Xe ?_
  refine Xc (by kernel_rfl) ?_
  refine Xa (Xp rfl) ?_
  refine Xa (Zw rfl) ?_
  refine Yw rfl rfl ?_
  refine X7 ?_
  refine Xc (by kernel_rfl) ?_
  refine Xa (Yg Xj Xj Yp) ?_
  refine Xa (Xb rfl) ?_
  refine ⟨al.length - (j + 1), by omega, G8, j + 1, wN * l.n.toNat, s3, _, rfl, by omega, hf8, ?_, by rw [← hqx]; exact path_snoc hT hpath hlt (hmem l hlg), hs, e6, e7, e23, e24, rfl⟩
  rw [show T.vars.length - (j + 1) = d by omega, ← hqx, hs3]
  rw [hterm] at hsd
  omega
  intro hc5
  have hlx : ¬ l.b = x := of_decide_eq_false hc5
  have hs3' : s3 = s2 + termW T d q al wN l := by
    unfold termW
    rw [hxq, hs3]
    by_cases h : l.b < x
    · rw [if_pos h, if_pos h]
    · rw [if_neg h, if_neg h, if_neg hlx, Nat.add_zero]
  refine X7 ?_
  refine Xc (by kernel_rfl) ?_
  refine Xa (Yg Xj Xj Yp) ?_
  refine Xa (Xb rfl) ?_
  exact ⟨g.length - (m + 1), by omega, m + 1, G7, s3, _, rfl, by omega, aw7, hf7, by rw [hs3']; omega, fun i h h0 => by
    by_cases hi : i = m
    · subst hi; rw [← hl]; exact hlx
    · exact hno4 i h (by omega), slD, e6, e7, e9, e10, e23, e24, e25, e30, e31, rfl⟩
  intro hc3
  have hml : m = g.length := by have := of_decide_eq_false hc3; omega
  refine Yq ?_
  refine Xe ?_
  refine Xc (by kernel_rfl) ?_
  refine Xa (Xp Xj) ?_
  refine Xa (Zw rfl) ?_
  refine X4 rfl rfl ?_ ?_
  intro hc7
  have hnot : m = g.length := hml
  have hsR : s2 = R := by rw [hml, List.drop_length] at hsum4; simpa using hsum4
  have hnp : ¬ Path T al := fun hp => by
    obtain ⟨y, hy1, hy2⟩ := hp j hjl
    have hab : Ym T al j = Ym T q q.length := by rw [hql]; exact above_ext hT (by omega) fun i hi => by rw [hq, getD_take (by omega)]
    rw [hab, show ((j : Nat) : Int) = ((q.length : Nat) : Int) by rw [hql], ← hg] at hy1
    obtain ⟨i, hi, rfl⟩ := List.getElem_of_mem hy1
    exact hno4 i hi (by omega) (by rw [hy2, hx])
  refine Xe ?_
  refine Xc (by kernel_rfl) ?_
  refine Xa (Xb Xj) ?_
  refine Xa (Xh rfl) ?_
  refine Xa (Xo rfl) ?_
  refine X5 ?_
  exact ⟨_, Zl (Xu rfl) (Xu rfl), hf4.le, _, false, rfl, fun h => absurd heq h, fun _ => ⟨by rw [hsR], ⟨fun h => (by cases h), fun h => absurd h hnp⟩⟩⟩
  intro hc7
  exact absurd hc7 (by decide)
  intro hc2
  have hjl : j = al.length := by have := of_decide_eq_false hc2; omega
  refine Yq ?_
  refine Xe ?_
  refine Xc (by kernel_rfl) ?_
  refine Xa (Xb Xj) ?_
  refine Xa (Xh rfl) ?_
  refine Xa (Xo rfl) ?_
  refine X5 ?_
  refine ⟨_, Zl (Xu rfl) (Xu rfl), leK2, _, true, rfl, fun h => absurd heq h, fun _ => ⟨?_, ⟨fun _ => ?_, fun _ => rfl⟩⟩⟩
  · rw [show T.vars.length - j = 0 by omega, V2, hjl, List.take_length] at hsum
    rw [lessW_none (fun y hy => by rw [List.mem_singleton] at hy; rw [hy]; show ¬ Ui al al < 0; rw [cmpZ_self]; decide)] at hsum
    rw [← hsum, Nat.add_zero]
  · rwa [hjl, List.take_length] at hpath
end Go.Proofs.YtmakkmcjocjgmaaGreat.Am


/- Ranks; the document's own answers on access. -/
namespace Go.Proofs.YtmakkmcjocjgmaaGreat.Am
open Go Go.RowKit
set_option maxRecDepth 100000
set_option linter.unusedVariables false
set_option linter.unusedSimpArgs false

theorem beh_nil {T : TreeT} (hT : GoodT T) : Zu T [] = Zd (V1 T []) := behT_cnt hT (Nat.zero_le _) (path_nil T)
theorem exact_lt {T : TreeT} (hT : GoodT T) (h : Zu T [] < 4611686018427387904) : (V1 T [] : Int) < 4611686018427387904 := by
  rw [beh_nil hT] at h
  have hmost : Y0 = 4611686018427387904 := rfl
  unfold Zd at h
  omega
theorem Rank_acc {T : TreeT} (hT : GoodT T) {H : Hp} {cb tb : Nat} (hc : CntR H cb tb T) (al : List Int) (v : Value) (hs : Sl (Yz .i64) H v al) (hal : al.length ≤ 1000000) :
    ACalls Tryz.prog 29 #[.pointer (some ⟨cb, 0, none⟩), v] H (fun r H' => H.le H' ∧ ∃ (s : Int) (ok : Bool), r = .tuple #[.int .u64 s, .bool ok] ∧ (¬ (Zu T [] < 4611686018427387904 ∧ al.length = T.vars.length) → s = 0 ∧ ok = false) ∧ (Zu T [] < 4611686018427387904 ∧ al.length = T.vars.length → (ok = true ↔ Path T al) ∧ (ok = true → s = (Un (V2 T T.vars.length [] 1) al : Nat)) ∧ (ok = false → s = 0))) := by
  obtain ⟨A, c, rfl⟩ := hs.shape
  refine Xv Tryz.func29 rfl rfl rfl (by simp) ?_
  refine Xe ?_
  refine Xc (by kernel_rfl) ?_
  refine Xa (Xh rfl) ?_
  refine Xa (Xo rfl) ?_
  refine Xe ?_
  refine Xe ?_
  refine Xc (by kernel_rfl) ?_
  refine Xa (Xy rfl) ?_
  refine X1 (Xx (Exact_cnt hT hc) rfl Tryz.func66 rfl rfl rfl ?_)
  rintro v9 H1 ⟨rfl, le1⟩
  refine Xa (Zw rfl) ?_
  refine X4 rfl rfl ?_ ?_
  intro hc1
  have hno : ¬ Zu T [] < 4611686018427387904 := by have h := hc1; simpa using h
  refine Xe ?_
  refine Xc (by kernel_rfl) ?_
  refine Xa (Xh rfl) ?_
  refine Xa (Xo rfl) ?_
  refine X5 ?_
  exact ⟨_, Zl (Xu rfl) (Xu rfl), le1, 0, false, rfl, fun _ => ⟨rfl, rfl⟩, fun h => absurd h.1 hno⟩
  intro hc1
  have hex : Zu T [] < 4611686018427387904 := by have h := hc1; simpa using h
  refine X7 ?_
  refine Xe ?_
  refine Xc (by kernel_rfl) ?_
  refine Xa (Xy rfl) ?_
  refine Xa (X0 rfl) ?_
  refine X1 (Xx (ahead_acc hT (hc.mono le1) (exact_lt hT hex) al _ (hs.mono le1.sees) hal) rfl Tryz.func67 rfl rfl rfl ?_)
  rintro v14 H2 ⟨le2, s, ok, rfl, h1, h2⟩
  refine Xa (Zk rfl) ?_
  refine Xa (Yn rfl rfl) ?_
  refine Xa (Yn rfl rfl) ?_
  refine Xa (Xh rfl) ?_
  refine Xa (Xo rfl) ?_
  refine Xe ?_
  refine Xe ?_
  refine Xc (by kernel_rfl) ?_
  refine Xa (Xp rfl) ?_
  refine Xa (Zw rfl) ?_
  refine X4 rfl rfl ?_ ?_
  intro hc2
  have hok : ok = false := by have h := hc2; simpa using h
  refine Xe ?_
  refine Xc (by kernel_rfl) ?_
  refine Xa (Xh rfl) ?_
  refine Xa (Xo rfl) ?_
  refine X5 ?_
  exact ⟨_, Zl (Xu rfl) (Xu rfl), Hp.le_trans le1 le2, 0, false, rfl, fun _ => ⟨rfl, rfl⟩, fun h => ⟨by have h3 := (h2 h.2).2; rw [hok] at h3; exact h3, fun e => (by cases e), fun _ => rfl⟩⟩
  intro hc2
  have hok : ok = true := by have h := hc2; simpa using h
  refine X7 ?_
  refine Xe ?_
  refine Xc (by kernel_rfl) ?_
  refine Xa (Xb rfl) ?_
  refine Xa (Xh rfl) ?_
  refine Xa (Xo rfl) ?_
  refine X5 ?_
  exact ⟨_, Zl (Xu rfl) (Xu rfl), Hp.le_trans le1 le2, s, true, rfl, fun h => (by
    have := h1 (fun e => h ⟨hex, e⟩)
    rw [hok] at this
    exact absurd this.2 (by decide)), fun h => ⟨by have h3 := (h2 h.2).2; rw [hok] at h3; exact h3, fun _ => (h2 h.2).1, fun e => (by cases e)⟩⟩
theorem At_u {T : TreeT} (hT : GoodT T) {cb tb : Nat} {H : Hp} (hc : CntR H cb tb T) (k : Int) (h0 : 0 ≤ k) :
    ACalls Tryz.prog 34 #[.pointer (some ⟨cb, 0, none⟩), .int .u64 k] H (fun r H' => H.le H' ∧ ∃ (x : RowT) (A : Option Addr) (c : Nat) (left : Int) (ok : Bool), r = .tuple #[.agg #[.slice A x.nodes.length c, .int .i64 x.cost, .int .u64 x.n], .int .u64 left, .bool ok] ∧ Sl (Yz .i64) H' (.slice A x.nodes.length c) x.nodes ∧ ((ok = false ∧ Zu T [] ≤ k ∧ x = ⟨[], 0, 0⟩ ∧ left = 0) ∨ (ok = true ∧ k < Zu T [] ∧ seek (V2 T T.vars.length [] 1) k = some (x.nodes, left) ∧ rowT T x.nodes = some x ∧ 0 ≤ left))) :=
  (At_acc hT hc k h0).mono fun r H' ⟨hle, hr⟩ => by
    refine ⟨hle, ?_⟩
    rcases hr with ⟨h1, rfl⟩ | ⟨h1, ns, left, x, A, c, h2, h3, h4, rfl, h5, h6⟩
    · exact ⟨⟨[], 0, 0⟩, none, 0, 0, false, rfl, Sl.nil _ _, .inl ⟨rfl, h1, rfl, rfl⟩⟩
    · rw [← h4] at h2 h3
      exact ⟨x, A, c, left, true, rfl, h5, .inr ⟨rfl, h1, h2, h3, h6⟩⟩
theorem New_no (H : Hp) : ACalls Tryz.prog 26 #[.pointer none] H (fun r H' => r = .pointer none ∧ H' = H) := by
  refine Xv Tryz.func26 rfl rfl rfl (by simp) ?_
  refine Xe ?_
  refine Xc (by kernel_rfl) ?_
  refine Xa (Zg rfl) ?_
  refine Xe ?_
  refine Xe ?_
  refine Xc (by kernel_rfl) ?_
  refine Xa (Xy rfl) ?_
  refine Xa (Z5 rfl t_spot rfl Tryz.underlying37) ?_
  refine X4 rfl rfl ?_ ?_
  intro hc1
  (try simp only [decide_eq_true_eq, decide_eq_false_iff_not, Bool.not_eq_true', Bool.not_eq_false'] at hc1)
  refine Xe ?_
  refine Xc (by kernel_rfl) ?_
  refine Xa (Zg rfl) ?_
  refine X5 ?_
  exact ⟨_, Xz (Xu rfl), rfl, rfl⟩
  intro hc1
  (have h := hc1; simp at h)
theorem New_opt {T : TreeT} (g : Bool) (tv : Value) (H : Hp) (htv : if g = true then TreeR H tv T else tv = .pointer none) (hg : g = true → GoodT T ∧ FewA T ∧ Reach T) :
    ACalls Tryz.prog 26 #[tv] H (fun r H' => H.le H' ∧ (if g = true then ∃ cb tb, tv = .pointer (some ⟨tb, 0, none⟩) ∧ r = .pointer (some ⟨cb, 0, none⟩) ∧ CntR H' cb tb T else r = .pointer none)) := by
  cases g with
  | false =>
    rw [if_neg (by decide)] at htv
    subst htv
    refine (New_no H).mono fun r H' ⟨h1, h2⟩ => ⟨by rw [h2]; exact Hp.le_refl _, ?_⟩
    rw [if_neg (by decide)]; exact h1
  | true =>
    rw [if_pos rfl] at htv
    obtain ⟨h1, h2, h3⟩ := hg rfl
    obtain ⟨tb, _, _, _, _, _, etv, _⟩ := id htv
    subst etv
    refine (New_cnt h1 h2 h3 H htv).mono fun r H' ⟨hle, cb, hr, hc⟩ => ⟨hle, ?_⟩
    rw [if_pos rfl]; exact ⟨cb, tb, rfl, hr, hc⟩
theorem few32_raw (f : Forest) (p : Parts) (cs ds : List Value) (H : Hp) (hp : kForest.rep H f cs) (hq : kParts.rep H p ds) (hsm : Small f p) :
    ACalls Tryz.prog 27 #[.agg cs.toArray, .agg ds.toArray] H (fun r _ => ∃ b, r = .bool b ∧ (b = true ↔ GoodP f p ∧ f.vars.length < 5)) := by
  have hp0 := hp
  have hq0 := hq
  obtain ⟨v0, v1, v2, v3, v4, rfl, hs0, hs1, hs2, hs3, hs4⟩ := hp
  obtain ⟨A0, c0, rfl⟩ := hs0.shape
  obtain ⟨A1, c1, rfl⟩ := hs1.shape
  obtain ⟨A2, c2, rfl⟩ := hs2.shape
  obtain ⟨A3, c3, rfl⟩ := hs3.shape
  obtain ⟨A4, c4, rfl⟩ := hs4.shape
  obtain ⟨u0, u1, rfl, hn0, hn1⟩ := hq
  obtain ⟨B0, d0, rfl⟩ := hn0.shape
  obtain ⟨B1, d1, rfl⟩ := hn1.shape
  refine Xv Tryz.func27 rfl rfl rfl (by simp) ?_
  refine Xe ?_
  refine Xc (by kernel_rfl) ?_
  refine X6 (Ys rfl) ?_
  refine X6 (Ys rfl) ?_
  refine Xa (Xo rfl) ?_
  refine Xe ?_
  refine Xc (by kernel_rfl) ?_
  refine Xa (Yh (cs := [.slice _ _ _, .slice _ _ _, .slice _ _ _, .slice _ _ _, .slice _ _ _]) rfl Tryz.underlying26 rfl inf26.size Yd) ?_
  refine Xa (Yh (cs := [.slice _ _ _, .slice _ _ _]) rfl Tryz.underlying29 rfl inf29.size Yd) ?_
  refine X1 (Xx (GoodP_ref f p _ _ _ (kForest.mono Zq hp0) (kParts.mono Zq hq0) hsm) rfl Tryz.func53 rfl rfl rfl ?_)
  rintro v5 H5 ⟨⟨g, rfl, hg⟩, rfl⟩
  refine Xa (Xp rfl) ?_
  refine Yb rfl rfl rfl ?_ ?_
  intro hg1
  have hgt : g = true := hg1
  have hG := hg.1 hgt
  refine Xn (Xf rfl rfl rfl hg1) (Xi (off := 0) rfl Tryz.underlying26 rfl inf22.size (by decide) rfl) ?_
  refine Xn (Xf rfl rfl rfl hg1) (Xm rfl Tryz.underlying22 rfl Xr) ?_
  refine Xn (Xf rfl rfl rfl hg1) (Yk rfl Tryz.underlying22) ?_
  refine Xn (Xf rfl rfl rfl hg1) (Yx rfl rfl) ?_
  refine Xa (Xl (congrArg Value.bool hg1) rfl) ?_
  refine Xa (Xo rfl) ?_
  refine X5 ?_
  refine ⟨_, Xz (Xu rfl), _, rfl, ?_⟩
  first
    | exact ⟨fun h => ⟨hG, by have := of_decide_eq_true h; omega⟩, fun h => decide_eq_true (by have := h.2; omega)⟩
    | exact ⟨fun h => (by cases h), fun h => (by have := hg.2 h.1; rw [hgf] at this; cases this)⟩
  intro hg1
  have hgf : g = false := hg1
  refine Xg (Xk rfl rfl rfl hg1 rfl) ?_
  refine Xg (Xk rfl rfl rfl hg1 rfl) ?_
  refine Xg (Xk rfl rfl rfl hg1 rfl) ?_
  refine Xg (Xk rfl rfl rfl hg1 rfl) ?_
  refine Xa (Xl (congrArg Value.bool hg1) rfl) ?_
  refine Xa (Xo rfl) ?_
  refine X5 ?_
  refine ⟨_, Xz (Xu rfl), _, rfl, ?_⟩
  first
    | exact ⟨fun h => ⟨hG, by have := of_decide_eq_true h; omega⟩, fun h => decide_eq_true (by have := h.2; omega)⟩
    | exact ⟨fun h => (by cases h), fun h => (by have := hg.2 h.1; rw [hgf] at this; cases this)⟩
theorem few32_ok (f : Forest) (p : Parts) (cs ds : List Value) (H : Hp) (hp : kForest.rep H f cs) (hq : kParts.rep H p ds) (hsm : Small f p) :
    ACalls Tryz.prog 27 #[.agg cs.toArray, .agg ds.toArray] H (fun r H' => (∃ b, r = .bool b ∧ (b = true ↔ GoodP f p ∧ f.vars.length < 5)) ∧ H' = H) :=
  ACalls.pure (fun v ⟨b, h, _⟩ => by rw [h]; rfl) (few32_raw f p cs ds H.ro (kForest.mono H.sees_ro hp) (kParts.mono H.sees_ro hq) hsm)
theorem row_cell {H : Hp} {b o i : Nat} {cs : List Value} (h : Cells H b (o + i * 3) cs) {j : Nat} {v : Value} (hv : cs[j]? = some v) : H.cell? b (o + ((i : Int)).toNat * 3 + j) = some v := h j v hv
theorem All_ref32 (rows : List RowT) (v : Value) (H : Hp) (hs : Sl kRow H v rows) (hl : rows.length ≤ 1000000) (hn : ∀ r ∈ rows, 0 ≤ r.n) :
    ACalls Tryz.prog 31 #[v] H (fun r H' => r = .int .u64 (rows.foldl (fun s r => U2 s r.n) 0) ∧ H' = H) := by
  obtain ⟨A, c, rfl⟩ := hs.shape
  have hfn : ∀ i, 0 ≤ (rows.take i).foldl (fun s r => U2 s r.n) 0 := fun i => by
    have : ∀ (xs : List RowT) (n : Int), 0 ≤ n → (∀ r ∈ xs, 0 ≤ r.n) → 0 ≤ xs.foldl (fun s r => U2 s r.n) n := fun xs => by
      induction xs with
      | nil => intro n h _; exact h
      | cons r xs ih => intro n h hx; exact ih _ (addI_nonneg h (hx r (by simp))) fun y hy => hx y (by simp [hy])
    exact this _ _ (Int.le_refl 0) fun r hr => hn r (List.mem_of_mem_take hr)
  refine Xv Tryz.func31 rfl rfl rfl (by simp) ?_
  refine Xe ?_
  refine Xc (by kernel_rfl) ?_
  refine Xa (Xh rfl) ?_
  refine Xe ?_
  refine Xc (by kernel_rfl) ?_
  refine Xa (Xh rfl) ?_
  refine Xe ?_
  refine Xe ?_
  refine Xc (by kernel_rfl) ?_
  refine Xa (Xh rfl) ?_
  refine X8 ?_
  refine Yy (fun n t H' => ∃ (i : Nat) (D : Option Addr), n = rows.length - i ∧ i ≤ rows.length ∧ H' = H ∧ Sl kRow H (.slice D rows.length c) rows ∧ t 0 = .slice D rows.length c ∧ t 3 = .int .u64 ((rows.take i).foldl (fun s r => U2 s r.n) 0) ∧ t 4 = .int .i64 i) (rows.length) (⟨0, _, rfl, Nat.zero_le _, rfl, hs, rfl, rfl, rfl⟩) ?_
  rintro n t H ⟨i, D, rfl, hi, rfl, hs, e0, e3, e4⟩
  refine Xe ?_
  refine Xe ?_
  refine Xc (by kernel_rfl) ?_
  refine Xa (Xb Xj) ?_
  refine Xa (X0 Xj) ?_
  refine Xa (Yk rfl Tryz.underlying43) ?_
  refine Xa (Yx rfl rfl) ?_
  refine X4 rfl rfl ?_ ?_
  intro hc1
  have hil : i < rows.length := by have := of_decide_eq_true hc1; omega
  obtain ⟨bD, oD, wD, eD, hbD, hcD, hwD⟩ := hs.row_at hil
  have hnn := hn _ (List.getElem_mem hil)
  have hnx : U2 ((rows.take i).foldl (fun s r => U2 s r.n) 0) (rows[i].n) = (rows.take (i + 1)).foldl (fun s r => U2 s r.n) 0 := by rw [← Yu hil, List.foldl_append]; rfl
  generalize rows[i].n = m at *
  have hcell := row_cell (j := 2) hcD rfl
  subst eD
  refine X7 ?_
  refine Xe ?_
  refine X8 ?_
  refine Xc (by kernel_rfl) ?_
  refine Xa (Xb Xj) ?_
  refine Xa (X0 Xj) ?_
  refine Xa (Xb Xj) ?_
  refine Xa (Xs rfl rfl Tryz.underlying43 inf54.size X3 X3) ?_
  refine Xa (Xi (off := 2) rfl Tryz.underlying54 rfl inf30.size (by decide) rfl) ?_
  refine Xa (Xm rfl Tryz.underlying30 rfl Xr) ?_
  refine X1 (Xx (addR_u64 _ _ (hfn i) hnn _) rfl Tryz.func68 rfl rfl rfl ?_)
  rintro v17 H ⟨rfl, rfl⟩; rw [hnx]
  refine Xa (Xh rfl) ?_
  refine Xc (by kernel_rfl) ?_
  refine Xa (Xb Xj) ?_
  refine Xa (Yg rfl rfl Yp) ?_
  refine Xa (Xh rfl) ?_
  exact ⟨rows.length - (i + 1), by omega, i + 1, _, rfl, by omega, rfl, hs, e0, rfl, rfl⟩
  intro hc1
  have hil : i = rows.length := by have := of_decide_eq_false hc1; omega
  rw [hil, List.take_length] at e3
  refine Yq ?_
  refine Xe ?_
  refine Xc (by kernel_rfl) ?_
  refine Xa (Xb Xj) ?_
  refine Xa (Xh rfl) ?_
  refine X5 ?_
  exact ⟨_, Xz (Xu rfl), rfl, rfl⟩
theorem atR_next {rows : List RowT} {k : Int} {i : Nat} (h : i < rows.length) : atR (rows.drop i) k = if k < rows[i].n then some (0, k) else (atR (rows.drop (i + 1)) (k - rows[i].n)).map fun p => (p.1 + 1, p.2) := by
  rw [drop_next h, atR]
theorem At_ref32 (rows : List RowT) (k : Int) (v : Value) (H : Hp) (hs : Sl kRow H v rows) (hl : rows.length ≤ 1000000) (hn : ∀ r ∈ rows, 0 ≤ r.n) (h0 : 0 ≤ k) (hk : k < 18446744073709551616) {i0 : Nat} {left : Int} (hat : atR rows k = some (i0, left)) :
    ACalls Tryz.prog 36 #[v, .int .u64 k] H (fun r H' => r = .tuple #[.int .i64 i0, .int .u64 left] ∧ H' = H) := by
  obtain ⟨A, c, rfl⟩ := hs.shape
  refine Xv Tryz.func36 rfl rfl rfl (by simp) ?_
  refine Xe ?_
  refine Xc (by kernel_rfl) ?_
  refine Xa (Xh rfl) ?_
  refine Xa (Xh rfl) ?_
  refine Xe ?_
  refine Xe ?_
  refine Xc (by kernel_rfl) ?_
  refine Xa (Xh rfl) ?_
  refine X8 ?_
  refine Yy (fun n t H' => ∃ (i : Nat) (D : Option Addr) (k' : Int), n = rows.length - i ∧ i ≤ rows.length ∧ H' = H ∧ Sl kRow H (.slice D rows.length c) rows ∧ (atR (rows.drop i) k').map (fun p => (p.1 + i, p.2)) = some (i0, left) ∧ 0 ≤ k' ∧ k' ≤ k ∧ t 0 = .slice D rows.length c ∧ t 1 = .int .u64 k' ∧ t 6 = .int .i64 i) (rows.length) (⟨0, _, k, rfl, Nat.zero_le _, rfl, hs, by rw [List.drop_zero, hat]; rfl, h0, Int.le_refl _, rfl, rfl, rfl⟩) ?_
  rintro n t H ⟨i, D, k', rfl, hi, rfl, hs, hat2, hk0, hkk, e0, e1, e6⟩
  refine Xe ?_
  refine Xe ?_
  refine Xc (by kernel_rfl) ?_
  refine Xa (Xb Xj) ?_
  refine Xa (X0 Xj) ?_
  refine Xa (Yk rfl Tryz.underlying43) ?_
  refine Xa (Yx rfl rfl) ?_
  refine X4 rfl rfl ?_ ?_
  intro hc1
  have hil : i < rows.length := by have := of_decide_eq_true hc1; omega
  obtain ⟨bD, oD, wD, eD, hbD, hcD, hwD⟩ := hs.row_at hil
  have hnn := hn _ (List.getElem_mem hil)
  rw [atR_next hil] at hat2
  generalize rows[i].n = m at *
  have hcell := row_cell (j := 2) hcD rfl
  subst eD
  refine X7 ?_
  refine Xe ?_
  refine X8 ?_
  refine Xe ?_
  refine Xe ?_
  refine Xc (by kernel_rfl) ?_
  refine Xa (Xb Xj) ?_
  refine Xa (X0 Xj) ?_
  refine Xa (Xb Xj) ?_
  refine Xa (Xs rfl rfl Tryz.underlying43 inf54.size X3 X3) ?_
  refine Xa (Xi (off := 2) rfl Tryz.underlying54 rfl inf30.size (by decide) rfl) ?_
  refine Xa (Xm rfl Tryz.underlying30 rfl Xr) ?_
  refine Xa (Yx rfl rfl) ?_
  refine X4 rfl rfl ?_ ?_
  intro hc2
  have hlt : k' < m := of_decide_eq_true hc2
  rw [if_pos hlt] at hat2
  refine Xe ?_
  refine Xc (by kernel_rfl) ?_
  refine Xa (Xb Xj) ?_
  refine Xa (Xb Xj) ?_
  refine Xa (Xh rfl) ?_
  refine Xa (Xh rfl) ?_
  refine X5 ?_
  simp only [Option.map_some, Option.some.injEq, Prod.mk.injEq, Nat.zero_add] at hat2
  obtain ⟨rfl, rfl⟩ := hat2
  exact ⟨_, Zl (Xu rfl) (Xu rfl), rfl, rfl⟩
  intro hc2
  have hlt : ¬ k' < m := of_decide_eq_false hc2
  rw [if_neg hlt] at hat2
  have hkw : IntKind.u64.wrap (k' - m) = k' - m := wrap_u64a (by omega) (by omega)
  refine X7 ?_
  refine Xc (by kernel_rfl) ?_
  refine Xa (Xb Xj) ?_
  refine Xa (X0 Xj) ?_
  refine Xa (Xb Xj) ?_
  refine Xa (Xs rfl rfl Tryz.underlying43 inf54.size X3 X3) ?_
  refine Xa (Xi (off := 2) rfl Tryz.underlying54 rfl inf30.size (by decide) rfl) ?_
  refine Xa (Xm rfl Tryz.underlying30 rfl Xr) ?_
  refine Xa (av_subn_is hkw rfl rfl) ?_
  refine Xa (Xh rfl) ?_
  refine Xc (by kernel_rfl) ?_
  refine Xa (Xb Xj) ?_
  refine Xa (Yg rfl rfl Yp) ?_
  refine Xa (Xh rfl) ?_
  refine ⟨rows.length - (i + 1), by omega, i + 1, _, k' - m, rfl, by omega, rfl, hs, ?_, by omega, by omega, e0, rfl, rfl⟩
  rw [Option.map_map] at hat2
  rw [← hat2]
  congr 1
  funext p
  simp only [Function.comp_apply, Prod.mk.injEq, and_true]
  omega
  intro hc1
  (have hil := of_decide_eq_false hc1; exfalso; rw [List.drop_eq_nil_of_le (by omega)] at hat2; cases hat2)
end Go.Proofs.YtmakkmcjocjgmaaGreat.Am


/- The document's own counts: row by row. -/
namespace Go.Proofs.YtmakkmcjocjgmaaGreat.Am
open Go Go.RowKit
set_option maxRecDepth 100000
set_option linter.unusedVariables false
set_option linter.unusedSimpArgs false

end Go.Proofs.YtmakkmcjocjgmaaGreat.Am


/- The statement CountsBelow, as the abstract machine runs it. -/
namespace Go.Proofs.YtmakkmcjocjgmaaGreat.Am
open Go Go.RowKit
set_option maxRecDepth 100000
set_option linter.unusedVariables false
set_option linter.unusedSimpArgs false

theorem few_links {f : Forest} {p x : Parts} (hs : Sub x p.few4) (hn : ∀ v, (nd p.few4 v).length ≤ 4) : ∀ l ∈ (Y4 f x).links, l.length ≤ 1000 := fun l hl => by
  obtain ⟨v, _, rfl⟩ := List.mem_map.1 hl
  unfold Y5
  split
  · have := (hs v.toNat).1.length_le
    have := hn v.toNat
    omega
  · rw [List.length_map]
    have h1 := (hs v.toNat).2.length_le
    have h2 : (lk p.few4 v.toNat).length ≤ 25 := by
      unfold lk
      rw [List.getD_eq_getElem?_getD]
      cases h : p.few4.links[v.toNat]? with
      | none => simp
      | some l =>
        obtain ⟨y, _, rfl⟩ := List.mem_map.1 (show l ∈ (p.links.take 8).map Va from List.mem_of_getElem? h)
        show (Va y).length ≤ 25
        unfold Va
        rw [List.length_map, List.length_take]; omega
    omega
end Go.Proofs.YtmakkmcjocjgmaaGreat.Am


/- The statements AccessRank and AccessAt, as the abstract machine runs them. -/
namespace Go.Proofs.YtmakkmcjocjgmaaGreat.Am
open Go Go.RowKit
set_option maxRecDepth 100000
set_option linter.unusedVariables false
set_option linter.unusedSimpArgs false

theorem four_nodes (p : Parts) (v : Nat) : (nd p.few4 v).length ≤ 4 := by
  unfold nd
  rw [List.getD_eq_getElem?_getD]
  cases h : p.few4.nodes[v]? with
  | none => simp
  | some l =>
    obtain ⟨y, _, rfl⟩ := List.mem_map.1 (show l ∈ p.few.nodes.map (·.take 4) from List.mem_of_getElem? h)
    simp only [Option.getD_some, List.length_take]
    omega
theorem tree_all {f : Forest} {p : Parts} (hG : GoodP f p.few4) (hsm : Small f p.few4) (hch : Cheap p.few4) (hv : f.vars.length ≤ 1000) : GoodT (Y4 f (Ua f p.few4)) ∧ FewA (Y4 f (Ua f p.few4)) ∧ Reach (Y4 f (Ua f p.few4)) := by
  obtain ⟨k1, k2, k3, k4⟩ := V9 hG
  have hT := good_tree (ofP_good hG) (small_sub hsm k1 k2) (hch.sub k2) hv
  exact ⟨hT, fewA_of (few_links k2 (four_nodes p)), reach_tree hG hT⟩
theorem rows_all {T : TreeT} (hT : GoodT T) {rows : List RowT} (hrm : rows.map RowT.nodes = U5 T T.vars.length []) (hrr : ∀ r ∈ rows, rowT T r.nodes = some r) : rows.foldl (fun s r => U2 s r.n) 0 = Zu T [] := by
  have h := sum_rows (n := 0) (extW_rows hT hrm hrr)
  rw [cap_nil, h, extW_sum hT _ _ _ (by simp), beh_nil hT, Nat.one_mul, Nat.zero_add]
theorem rows_nn {T : TreeT} (hT : GoodT T) {rows : List RowT} (hrm : rows.map RowT.nodes = U5 T T.vars.length []) (hrr : ∀ r ∈ rows, rowT T r.nodes = some r) : ∀ r ∈ rows, 0 ≤ r.n := fun r hr => by
  have h : (r.nodes, r.n) ∈ (V2 T T.vars.length [] 1).map fun x => (x.1, Zd x.2) := by
    rw [← extW_rows hT hrm hrr]; exact List.mem_map.2 ⟨r, hr, rfl⟩
  obtain ⟨x, _, he⟩ := List.mem_map.1 h
  simp only [Prod.mk.injEq] at he
  rw [← he.2]
  exact (Uc _).1
theorem rows_path {T : TreeT} (hT : GoodT T) {rows : List RowT} (hrm : rows.map RowT.nodes = U5 T T.vars.length []) {ns : List Int} (hl : ns.length = T.vars.length) : Path T ns ↔ ∃ r ∈ rows, r.nodes = ns := by
  constructor
  · intro hp
    have h : ns ∈ (U5 T T.vars.length []).filter (fun r => decide (r.take ns.length = ns)) := by
      rw [ext_preC hT hp (by omega) ns.length T.vars.length [] (by simp) (by simp) (by simp), show T.vars.length - ns.length = 0 by omega, U5]
      simp
    have h2 := (List.mem_filter.1 h).1
    rw [← hrm] at h2
    obtain ⟨r, hr, e⟩ := List.mem_map.1 h2
    exact ⟨r, hr, e⟩
  · rintro ⟨r, hr, rfl⟩
    exact ext_pathC hT T.vars.length [] r.nodes (by simp) (path_nil T) (by rw [← hrm]; exact List.mem_map.2 ⟨r, hr, rfl⟩)
theorem exact_sum {T : TreeT} (hT : GoodT T) (h : Zu T [] < 4611686018427387904) : (V0 (V2 T T.vars.length [] 1) : Int) < Y0 := by
  have := exact_lt hT h
  rw [extW_sum hT _ _ _ (by simp), Nat.one_mul]
  exact this
end Go.Proofs.YtmakkmcjocjgmaaGreat.Am


/- The statement AccessAt, as the abstract machine runs it. -/
namespace Go.Proofs.YtmakkmcjocjgmaaGreat.Am
open Go Go.RowKit
set_option maxRecDepth 100000
set_option linter.unusedVariables false
set_option linter.unusedSimpArgs false

theorem rowT_nodesC {T : TreeT} {ns : List Int} {r : RowT} (h : rowT T ns = some r) : r.nodes = ns ∧ ns.length = T.vars.length := by
  unfold rowT at h
  split at h
  · rename_i hl
    obtain ⟨cn, _, h2⟩ := Option.map_eq_some_iff.1 h
    rw [← h2]; exact ⟨rfl, hl⟩
  · cases h
set_option maxHeartbeats 8000000 in
theorem AccessAt_ok (f : Forest) (p : Parts) (k : Int) (cs ds : List Value) (H : Hp) (hp : kForest.rep H f cs) (hq : kParts.rep H p ds) (hbf : BigF f) (hbp : BigP p) (hk0 : 0 ≤ k) (hk1 : k < 18446744073709551616) :
    ACalls Tryz.prog 6 #[.agg cs.toArray, .agg ds.toArray, .int .u64 k] H (fun r H' => r = .bool true ∧ H.le H') := by
  have hp0 := hp
  have hq0 := hq
  obtain ⟨v0, v1, v2, v3, v4, rfl, hs0, hs1, hs2, hs3, hs4⟩ := hp
  obtain ⟨A0, c0, rfl⟩ := hs0.shape
  obtain ⟨A1, c1, rfl⟩ := hs1.shape
  obtain ⟨A2, c2, rfl⟩ := hs2.shape
  obtain ⟨A3, c3, rfl⟩ := hs3.shape
  obtain ⟨A4, c4, rfl⟩ := hs4.shape
  obtain ⟨u0, u1, rfl, hn0, hn1⟩ := hq
  obtain ⟨B0, d0, rfl⟩ := hn0.shape
  obtain ⟨B1, d1, rfl⟩ := hn1.shape
  have hsm := small_few f p
  have hbq := bigP_few p
  have hbg := bigF_few f
  have hpp := few4_few4 p
  have hff := ffew_ffew f
  have htn : GoodP f.few p.few4 → f.few.vars.length < 6 → Tiny f.few p.few4 := tiny_few
  have hch : GoodP f.few p.few4 → Cheap p.few4 := cheap_few
  have hvar := few_vars f
  obtain ⟨F, hF⟩ : ∃ F, F = f.few := ⟨_, rfl⟩
  obtain ⟨Q, hQ⟩ : ∃ Q, Q = p.few4 := ⟨_, rfl⟩
  rw [← hF, ← hQ] at hsm htn hch
  rw [← hQ] at hpp hbq
  rw [← hF] at hff hbg hvar
  refine Xv Tryz.func6 rfl rfl rfl (by simp) ?_
  refine Xe ?_
  refine Xc (by kernel_rfl) ?_
  refine X6 (Ys rfl) ?_
  refine X6 (Ys rfl) ?_
  refine Xa (Xo rfl) ?_
  refine Xe ?_
  refine Yt (by kernel_rfl) (Y2 (B := [0, 1, 0, 7, 15, 31]) (π := [0, 2, 1, 3, 4, 5]) (by kernel_rfl)) ?_
  refine Xd rfl rfl (Yh (cs := [.slice _ _ _, .slice _ _ _, .slice _ _ _, .slice _ _ _, .slice _ _ _]) rfl Tryz.underlying26 rfl inf26.size Yd) Xq ?_
  refine Xd rfl rfl (Yh (cs := [.slice _ _ _, .slice _ _ _]) rfl Tryz.underlying29 rfl inf29.size Yd) Xq ?_
  refine Yi rfl rfl (Xx (Forest_28 f _ _ (kForest.mono Zq hp0) hbf) rfl Tryz.func10 rfl rfl rfl ?_)
  rintro v5 H5 ⟨hle5, es, rfl, hes⟩; rw [← hF] at hes; have hf5 := hes; obtain ⟨a0, a1, a2, a3, a4, rfl, ht0, ht1, ht2, ht3, ht4⟩ := hes; obtain ⟨C0, k0, rfl⟩ := ht0.shape; obtain ⟨C1, k1, rfl⟩ := ht1.shape; obtain ⟨C2, k2, rfl⟩ := ht2.shape; obtain ⟨C3, k3, rfl⟩ := ht3.shape; obtain ⟨C4, k4, rfl⟩ := ht4.shape; have hz5 := hle5.1; simp only [Hp.push_size] at hz5
  refine ⟨Ye, ?_⟩
  refine Yi rfl rfl (Xx (Few4_parts p _ _ (kParts.mono Zq hq0) hbp.l0 hbp.l1 hbp.s0 hbp.s1) rfl Tryz.func11 rfl rfl rfl ?_)
  rintro v6 H6 ⟨hle6, es, rfl, hes⟩; rw [← hQ] at hes; have hq6 := hes; obtain ⟨b0, b1, rfl, hm0, hm1⟩ := hes; obtain ⟨D0, m0, rfl⟩ := hm0.shape; obtain ⟨D1, m1, rfl⟩ := hm1.shape; have hz6 := hle6.1; have hf6 := kForest.mono hle6.sees hf5; have h60 : H6.get H.size = .own 0 [.slice A0 f.vars.length c0, .slice A1 f.order.length c1, .slice A2 f.parent.length c2, .slice A3 f.links.length c3, .slice A4 f.loops.length c4] := Xt (Hp.le_trans hle5 hle6) (by simp <;> omega) (by intro e; cases e) Yj; have h61 : H6.get (H.size + 1) = .own 0 [.slice B0 p.nodes.length d0, .slice B1 p.links.length d1] := Xt (Hp.le_trans hle5 hle6) (by simp <;> omega) (by intro e; cases e) Yj
  refine ⟨Ye, ?_⟩
  refine Yi rfl rfl (Yo (vs := [.slice _ _ _, .slice _ _ _, .slice _ _ _, .slice _ _ _, .slice _ _ _]) rfl rfl inf26.size Yj Yl rfl rfl ?_)
  refine ⟨Ye, ?_⟩
  refine Yi rfl rfl (Yo (vs := [.slice _ _ _, .slice _ _ _]) rfl rfl inf29.size Yj Yl rfl rfl ?_)
  refine ⟨Ye, ?_⟩
  refine Xe ?_
  obtain ⟨HA, hHA⟩ : ∃ HA, HA = (H6.put H.size (.own 0 [.slice C0 F.vars.length k0, .slice C1 F.order.length k1, .slice C2 F.parent.length k2, .slice C3 F.links.length k3, .slice C4 F.loops.length k4])).put (H.size + 1) (.own 0 [.slice D0 Q.nodes.length m0, .slice D1 Q.links.length m1]) := ⟨_, rfl⟩
  have g5 : H6.sees (H6.put H.size (.own 0 [.slice C0 F.vars.length k0, .slice C1 F.order.length k1, .slice C2 F.parent.length k2, .slice C3 F.links.length k3, .slice C4 F.loops.length k4])) := Hp.sees_box _ h60
  have g6 : (H6.put H.size (.own 0 [.slice C0 F.vars.length k0, .slice C1 F.order.length k1, .slice C2 F.parent.length k2, .slice C3 F.links.length k3, .slice C4 F.loops.length k4])).sees HA := by rw [hHA]; exact Hp.sees_box _ (by rw [Hp.put_other _ _ (by omega)]; exact h61)
  have fA := kForest.mono (g5.trans g6) hf6
  have qA := kParts.mono (g5.trans g6) hq6
  have leA : H.le HA := by rw [hHA]; exact Hp.le_put_new (Hp.le_put_new (Hp.le_trans (Hp.le_trans (Hp.le_push' (H.le_push _) _) hle5) hle6) (by omega) _) (by omega) _
  have zA : H.size + 2 ≤ HA.size := by rw [hHA]; simp; omega
  have A0' : HA.get H.size = .own 0 [.slice C0 F.vars.length k0, .slice C1 F.order.length k1, .slice C2 F.parent.length k2, .slice C3 F.links.length k3, .slice C4 F.loops.length k4] := by rw [hHA, Hp.put_other _ _ (by omega)]; exact Hp.put_same _ _ _
  have A1' : HA.get (H.size + 1) = .own 0 [.slice D0 Q.nodes.length m0, .slice D1 Q.links.length m1] := by rw [hHA]; exact Hp.put_same _ _ _
  change ACode true _ _ _ _ _ ((H6.put H.size (.own 0 [.slice C0 F.vars.length k0, .slice C1 F.order.length k1, .slice C2 F.parent.length k2, .slice C3 F.links.length k3, .slice C4 F.loops.length k4])).put (H.size + 1) (.own 0 [.slice D0 Q.nodes.length m0, .slice D1 Q.links.length m1]))
  rw [← hHA]
  clear hHA g5 g6 h60 h61 hf6 hq6 hle5 hle6 hz5 hz6 hf5
  refine Yt (by kernel_rfl) (Y2 (B := [0, 1, 0, 7, 15, 31, 63, 63, 127, 511]) (π := [0, 2, 1, 3, 4, 5, 6, 7, 8, 9]) (by kernel_rfl)) ?_
  refine Xd rfl rfl (Yh (cs := [.slice _ _ _, .slice _ _ _, .slice _ _ _, .slice _ _ _, .slice _ _ _]) rfl Tryz.underlying26 rfl inf26.size Yd) Xq ?_
  refine Xd rfl rfl (Yh (cs := [.slice _ _ _, .slice _ _ _]) rfl Tryz.underlying29 rfl inf29.size Yd) Xq ?_
  refine Yi rfl rfl (Xx (Forest_28 F _ _ fA hbg) rfl Tryz.func10 rfl rfl rfl ?_)
  rintro v8 H8 ⟨hle8, es, rfl, hes⟩; rw [hff] at hes; have f8 := hes; obtain ⟨a5, a6, a7, a8, a9, rfl, hu0, hu1, hu2, hu3, hu4⟩ := hes; obtain ⟨E1, l1, rfl⟩ := hu0.shape; obtain ⟨E2, l2, rfl⟩ := hu1.shape; obtain ⟨E3, l3, rfl⟩ := hu2.shape; obtain ⟨E4, l4, rfl⟩ := hu3.shape; obtain ⟨E5, l5, rfl⟩ := hu4.shape
  refine ⟨Ye, ?_⟩
  refine Yi rfl rfl (Xx (Few4_parts Q _ _ (kParts.mono hle8.sees qA) hbq.l0 hbq.l1 hbq.s0 hbq.s1) rfl Tryz.func11 rfl rfl rfl ?_)
  rintro v9 H9 ⟨hle9, es, rfl, hes⟩; rw [hpp] at hes; have q9 := hes; obtain ⟨b2, b3, rfl, hm2, hm3⟩ := hes; obtain ⟨D2, m2, rfl⟩ := hm2.shape; obtain ⟨D3, m3, rfl⟩ := hm3.shape
  refine ⟨Ye, ?_⟩
  refine Yi rfl rfl (Xx (New_tree F Q _ _ _ (kForest.mono hle9.sees f8) q9 hsm hch) rfl Tryz.func13 rfl rfl rfl ?_)
  rintro v10 HB ⟨hle10, g, tv, hg, rfl, htv⟩
  refine ⟨Ye, ?_⟩
  refine Xd rfl rfl (Zk rfl) Xq ?_
  refine Xd rfl rfl (Yn rfl rfl) Xq ?_
  refine Xd rfl rfl (Yn rfl rfl) Xq ?_
  refine Xd rfl rfl (Z3 rfl) Xq ?_
  refine Xd rfl rfl (Xh rfl) Xq ?_
  refine Xe ?_
  have leAB := Hp.le_trans hle8 (Hp.le_trans hle9 hle10)
  have leB := Hp.le_trans leA leAB
  have zAB := leAB.1
  have fB := kForest.mono leAB.sees fA
  have qB := kParts.mono leAB.sees qA
  have B0' := Xt leAB (by omega) (by intro e; cases e) A0'
  have B1' := Xt leAB (by omega) (by intro e; cases e) A1'
  clear hle8 hle9 hle10 f8 q9 hm2 hm3 hu0 hu1 hu2 hu3 hu4
  have hgood : g = true → GoodT (Y4 F (Ua F Q)) ∧ FewA (Y4 F (Ua F Q)) ∧ Reach (Y4 F (Ua F Q)) := fun h => by
    have hGG := hg.1 h
    have hcc := hch hGG
    rw [hQ] at hGG hcc ⊢
    exact tree_all hGG (by rw [← hQ]; exact hsm) hcc (by omega)
  refine Xc (by kernel_rfl) ?_
  refine Xa (Zk rfl) ?_
  refine X1 (Xx (New_opt g tv HB htv hgood) rfl Tryz.func26 rfl rfl rfl ?_)
  rintro v33 HC1 ⟨leC1, hcv⟩; have leC := Hp.le_trans leB leC1; have zC := leC1.1; have fC := kForest.mono leC1.sees fB; have qC := kParts.mono leC1.sees qB; have C0' := Xt leC1 (by omega) (by intro e; cases e) B0'; have C1' := Xt leC1 (by omega) (by intro e; cases e) B1'
  refine Xa (Z3 rfl) ?_
  refine Xe ?_
  refine Xe ?_
  refine Xc (by kernel_rfl) ?_
  refine Xa (Yh (cs := [.slice _ _ _, .slice _ _ _, .slice _ _ _, .slice _ _ _, .slice _ _ _]) rfl Tryz.underlying26 rfl inf26.size Yd) ?_
  refine Xa (Yh (cs := [.slice _ _ _, .slice _ _ _]) rfl Tryz.underlying29 rfl inf29.size Yd) ?_
  refine X1 (Xx (few32_ok F Q _ _ _ fC qC hsm) rfl Tryz.func27 rfl rfl rfl ?_)
  rintro v36 HC1 ⟨⟨bf, rfl, hbf2⟩, rfl⟩
  refine Xa (Zw rfl) ?_
  refine X4 rfl rfl ?_ ?_
  intro hc1
  obtain rfl : bf = false := by simpa using hc1
  have hbad : ¬ (GoodP F Q ∧ F.vars.length < 5) := fun h => by have := hbf2.2 h; cases this
  refine Xe ?_
  refine Xc (by kernel_rfl) ?_
  refine Xa (Xb rfl) ?_
  refine Xa (Z8 rfl rfl) ?_
  refine Xa (Xp rfl) ?_
  refine Yb rfl rfl rfl ?_ ?_
  intro hg2
  have hgf : True := trivial
  refine Xg (Xk rfl rfl rfl hg2 rfl) ?_
  refine Xg (Xk rfl rfl rfl hg2 rfl) ?_
  refine Xg (Xk rfl rfl rfl hg2 rfl) ?_
  refine Xg (Xk rfl rfl rfl hg2 rfl) ?_
  refine Xa (Xl (congrArg Value.bool hg2) rfl) ?_
  refine Xa (Xp rfl) ?_
  refine Z4 (Xf rfl rfl rfl rfl) (Xx (Vg _) rfl Tryz.func28 rfl rfl rfl ?_)
  rintro v H' ⟨rfl, hlv⟩
  refine Xa (Xl (congrArg Value.bool rfl) rfl) ?_
  refine Xa (Xo rfl) ?_
  refine X5 ?_
  exact ⟨.bool true, Xz (Xu rfl), rfl, Hp.le_trans leC hlv⟩
  intro hg2
  have hgt : g = true := by cases g with | true => rfl | false => exact absurd hg2 (by simp)
  have hmany : ¬ F.vars.length < 5 := fun h => hbad ⟨hg.1 hgt, h⟩
  refine Xn (Xf rfl rfl rfl hg2) (Xi (off := 0) rfl Tryz.underlying26 rfl inf22.size (by decide) rfl) ?_
  refine Xn (Xf rfl rfl rfl hg2) (Xm rfl Tryz.underlying22 rfl Xr) ?_
  refine Xn (Xf rfl rfl rfl hg2) (Yk rfl Tryz.underlying22) ?_
  refine Xn (Xf rfl rfl rfl hg2) (av_gt rfl rfl) ?_
  refine Xa (Xl (congrArg Value.bool hg2) rfl) ?_
  refine Xa (Xp rfl) ?_
  refine Yb rfl rfl rfl ?_ ?_
  intro hg3
  have hp3 := hg3; try simp only [decide_eq_true_eq, decide_eq_false_iff_not, Bool.not_eq_true', Bool.not_eq_false'] at hp3
  refine Z4 (Xf rfl rfl rfl hg3) (Xx (Vg _) rfl Tryz.func28 rfl rfl rfl ?_)
  rintro v H' ⟨rfl, hlv⟩
  refine Xa (Xl (congrArg Value.bool hg3) rfl) ?_
  refine Xa (Xo rfl) ?_
  refine X5 ?_
  exact ⟨.bool true, Xz (Xu rfl), rfl, Hp.le_trans leC hlv⟩
  intro hg3
  (have h := of_decide_eq_false hg3; omega)
  intro hc1
  obtain rfl : bf = true := by simpa using hc1
  obtain ⟨hG, hfive⟩ := hbf2.1 rfl
  obtain rfl : g = true := hg.2 hG
  rw [if_pos rfl] at htv hcv
  obtain ⟨cb, tb, etv, erc, hcc⟩ := hcv
  subst etv erc
  have ht := htn hG (by omega)
  obtain ⟨hT, hFA, hRE⟩ := hgood rfl
  obtain ⟨hrm, hrr⟩ := rows_ext hG
  have hol : F.order.length = F.vars.length := hG.gf.l1
  obtain ⟨tl1, tl2, tl3⟩ := Ub (f := F) (Ua F Q)
  have hrl : (Ul F Q).length ≤ 256 := Nat.le_trans (rowsK_len ht F.order.length) (Nat.pow_le_pow_right (by omega) (by omega : F.order.length ≤ 4))
  have hrn : ∀ r ∈ Ul F Q, r.nodes.length = F.vars.length := fun r hr => by have := rows_len (f := F) (p := Q) F.order.length r hr; omega
  obtain ⟨T, hTe⟩ : ∃ T, T = Y4 F (Ua F Q) := ⟨_, rfl⟩
  rw [← hTe] at htv hT hRE hFA hrm tl1 tl2 tl3 hcc
  simp only [← hTe] at hrr
  obtain ⟨rows, hrows⟩ : ∃ rows, rows = Ul F Q := ⟨_, rfl⟩
  rw [← hrows] at hrm hrl
  simp only [← hrows] at hrn hrr
  have hvl : T.vars.length = F.vars.length := tl1.trans hol
  rw [← hvl] at hrm
  have hall := rows_all hT hrm hrr
  have hble : Zu T [] ≤ 4611686018427387904 := by rw [beh_nil hT]; exact (Uc _).2
  have hnn := rows_nn hT hrm hrr
  have hxr := extW_rows hT hrm hrr
  have hsrt := rows_sorted hT hrm
  clear hgood
  refine X7 ?_
  refine Xe ?_
  refine Xc (by kernel_rfl) ?_
  refine Xa (Yh (cs := [.slice _ _ _, .slice _ _ _, .slice _ _ _, .slice _ _ _, .slice _ _ _]) rfl Tryz.underlying26 rfl inf26.size Yd) ?_
  refine Xa (Yh (cs := [.slice _ _ _, .slice _ _ _]) rfl Tryz.underlying29 rfl inf29.size Yd) ?_
  refine X1 (Xx (Rows_ref F Q _ _ _ fC qC hG hsm ht) rfl Tryz.func16 rfl rfl rfl ?_)
  rintro v51 HR ⟨hleR, hrR⟩; rw [← hrows] at hrR; obtain ⟨Dr, mr, rfl⟩ := hrR.shape; have cR := hcc.mono hleR; have zR := hleR.1; have R0' := Xt hleR (by omega) (by intro e; cases e) C0'; have trR := htv.mono (Hp.le_trans leC1 hleR)
  refine Xa (X9 rfl) ?_
  refine Xe ?_
  refine Xc (by kernel_rfl) ?_
  refine Xa (X0 rfl) ?_
  refine X1 (Xx (All_ref32 rows _ _ hrR (by omega) hnn) rfl Tryz.func31 rfl rfl rfl ?_)
  rintro v53 HR ⟨rfl, rfl⟩; rw [hall]
  refine Xa (Xh rfl) ?_
  refine Xe ?_
  refine Xe ?_
  refine Xc (by kernel_rfl) ?_
  refine Xa (Xb rfl) ?_
  refine Xa (av_gt rfl rfl) ?_
  refine Xa (Xp rfl) ?_
  refine Yb rfl rfl rfl ?_ ?_
  intro hg4
  have hb0 : Zu T [] > 0 := of_decide_eq_true hg4
  refine Xn (Xf rfl rfl rfl hg4) (Xb rfl) ?_
  refine Xn (Xf rfl rfl rfl hg4) (Yx rfl rfl) ?_
  refine Xa (Xl (congrArg Value.bool hg4) rfl) ?_
  refine Xa (Xp rfl) ?_
  refine Yb rfl rfl rfl ?_ ?_
  intro hg5
  have hp5 := hg5; try simp only [decide_eq_true_eq, decide_eq_false_iff_not, Bool.not_eq_true', Bool.not_eq_false'] at hp5
  refine Xn (Xf rfl rfl rfl hg5) (Xb rfl) ?_
  refine Xn (Xf rfl rfl rfl hg5) (av_rem rfl rfl (by omega)) ?_
  refine Xn (Xf rfl rfl rfl hg5) (av_gt rfl rfl) ?_
  refine Xa (Xl (congrArg Value.bool hg5) rfl) ?_
  refine ac_cut (fun t H' => H' = HR ∧ ∃ k' : Int, 0 ≤ k' ∧ k' < 18446744073709551616 ∧ t 2 = .int .u64 k' ∧ t 3 = .pointer (some ⟨H.size, 0, none⟩) ∧ t 7 = .pointer (some ⟨tb, 0, none⟩) ∧ t 9 = .pointer (some ⟨cb, 0, none⟩) ∧ t 10 = .slice Dr rows.length mr ∧ t 11 = .int .u64 (Zu T [])) ?_ ?_
  refine X4 rfl rfl ?_ ?_
  intro hc6
  (try simp only [decide_eq_true_eq, decide_eq_false_iff_not, Bool.not_eq_true', Bool.not_eq_false'] at hc6)
  refine Xc (by kernel_rfl) ?_
  refine Xa (Xb rfl) ?_
  refine Xa (Xb rfl) ?_
  refine Xa (av_rem rfl rfl (by omega)) ?_
  refine Xa (Xh rfl) ?_
  first
    | exact ⟨rfl, k, hk0, hk1, rfl, rfl, rfl, rfl, rfl, rfl⟩
    | exact ⟨rfl, k.tmod (Zu T []), by rw [Int.tmod_eq_emod_of_nonneg hk0]; exact Int.emod_nonneg _ (by omega), by rw [Int.tmod_eq_emod_of_nonneg hk0]; exact (by have := Int.emod_lt_of_pos k (b := Zu T []) (by omega); omega), rfl, rfl, rfl, rfl, rfl, rfl⟩
  intro hc6
  (try simp only [decide_eq_true_eq, decide_eq_false_iff_not, Bool.not_eq_true', Bool.not_eq_false'] at hc6)
  refine X7 ?_
  first
    | exact ⟨rfl, k, hk0, hk1, rfl, rfl, rfl, rfl, rfl, rfl⟩
    | exact ⟨rfl, k.tmod (Zu T []), by rw [Int.tmod_eq_emod_of_nonneg hk0]; exact Int.emod_nonneg _ (by omega), by rw [Int.tmod_eq_emod_of_nonneg hk0]; exact (by have := Int.emod_lt_of_pos k (b := Zu T []) (by omega); omega), rfl, rfl, rfl, rfl, rfl, rfl⟩
  rintro t HR ⟨rfl, k2, hk20, hk21, e2, e3, e7, e9, e10, e11⟩
  refine Xe ?_
  refine Xc (by kernel_rfl) ?_
  refine Xa (Xy Xj) ?_
  refine Xa (Xb Xj) ?_
  refine X1 (Xx (At_u hT cR k2 hk20) rfl Tryz.func34 rfl rfl rfl ?_)
  rintro v71 H7 ⟨le7, x, A7, c7', left, ok, rfl, sl7, hor⟩; have z7 := le7.1; have S0' := Xt le7 (by omega) (by intro e; cases e) R0'
  refine Xa (Zk rfl) ?_
  refine Xa (Yn rfl rfl) ?_
  refine Xa (Yn rfl rfl) ?_
  refine Xa (Yn rfl rfl) ?_
  refine X6 (Y8 (l := [.slice none 0 0, .int .i64 0, .int .u64 0]) inf46.zero rfl (by decide)) ?_
  refine X1 (Yo (vs := [.slice _ _ _, .int .i64 _, .int .u64 _]) rfl rfl inf46.size Yj Yl rfl rfl ?_)
  refine Xa (Xh rfl) ?_
  refine Xa (Xo rfl) ?_
  refine Xe ?_
  obtain ⟨H8, hH8⟩ : ∃ H8, H8 = (H7.push (.own 0 [.slice none 0 0, .int .i64 0, .int .u64 0])).put H7.size (.own 0 [.slice A7 x.nodes.length c7', .int .i64 x.cost, .int .u64 x.n]) := ⟨_, rfl⟩
  have le78 : H7.le H8 := by rw [hH8]; exact Hp.le_put_new (H7.le_push _) (Nat.le_refl _) _
  have g8 : H8.get H7.size = .own 0 [.slice A7 x.nodes.length c7', .int .i64 x.cost, .int .u64 x.n] := by rw [hH8]; exact Hp.put_same _ _ _
  have z8 : H8.size = H7.size + 1 := by rw [hH8]; simp
  change ACode true _ _ _ _ _ ((H7.push (.own 0 [.slice none 0 0, .int .i64 0, .int .u64 0])).put H7.size (.own 0 [.slice A7 x.nodes.length c7', .int .i64 x.cost, .int .u64 x.n]))
  rw [← hH8]
  clear hH8
  have leR8 := Hp.le_trans le7 le78
  have sl8 := sl7.mono le78.sees
  refine Xc (by kernel_rfl) ?_
  refine Xa (Xy Xj) ?_
  refine Xa (Xb Xj) ?_
  refine X1 (Xx (Work_acc hT (cR.mono leR8) k2 hk20) rfl Tryz.func35 rfl rfl rfl ?_)
  rintro v77 H9 ⟨le9, wk, rfl, hwk⟩; have leR9 := Hp.le_trans leR8 le9; have r9 := hrR.mono leR9.sees; have sl9 := sl8.mono le9.sees; have z9 := le9.1; have g9 := Xt le9 (by omega) (by intro e; cases e) g8; have U0' := Xt (Hp.le_trans le78 le9) (by omega) (by intro e; cases e) S0'; have leH9 := Hp.le_trans (Hp.le_trans leC hleR) leR9
  refine Xa (Xh rfl) ?_
  refine Xe ?_
  refine Xe ?_
  refine Xc (by kernel_rfl) ?_
  refine Xa (Xb Xj) ?_
  refine Xa (Xb Xj) ?_
  refine Xa (Vy rfl rfl) ?_
  refine X4 rfl rfl ?_ ?_
  intro hc7
  have hge : Zu T [] ≤ k2 := by have := of_decide_eq_true hc7; omega
  obtain ⟨rfl, _, rfl, rfl⟩ := hor.resolve_right (fun h => by have := h.2.1; omega)
  obtain ⟨_, rfl⟩ := hwk.resolve_right (fun h => by have := h.1; omega)
  refine Xe ?_
  refine Xc (by kernel_rfl) ?_
  refine Xa (Xi (off := 0) rfl Tryz.underlying46 rfl inf23.size (by decide) rfl) ?_
  refine Xa (Xm rfl Tryz.underlying23 rfl Xr) ?_
  refine Xa (Yk rfl Tryz.underlying23) ?_
  refine Xa (Zr rfl rfl) ?_
  refine Xa (Xp rfl) ?_
  refine Yb rfl rfl rfl ?_ ?_
  intro hg8
  have hp8 := hg8; try simp only [decide_eq_true_eq, decide_eq_false_iff_not, Bool.not_eq_true', Bool.not_eq_false'] at hp8
  refine Xn (Xf rfl rfl rfl hg8) (Xb rfl) ?_
  refine Xn (Xf rfl rfl rfl hg8) (Zr rfl rfl) ?_
  refine Xa (Xl (congrArg Value.bool hg8) rfl) ?_
  refine Xa (Xp rfl) ?_
  refine Yb rfl rfl rfl ?_ ?_
  intro hg9
  have hp9 := hg9; try simp only [decide_eq_true_eq, decide_eq_false_iff_not, Bool.not_eq_true', Bool.not_eq_false'] at hp9
  refine Xn (Xf rfl rfl rfl hg9) (Xp rfl) ?_
  refine Xn (Xf rfl rfl rfl hg9) (Zw rfl) ?_
  refine Xa (Xl (congrArg Value.bool hg9) rfl) ?_
  refine Xa (Xp rfl) ?_
  refine Yb rfl rfl rfl ?_ ?_
  intro hg10
  have hp10 := hg10; try simp only [decide_eq_true_eq, decide_eq_false_iff_not, Bool.not_eq_true', Bool.not_eq_false'] at hp10
  refine Xn (Xf rfl rfl rfl hg10) (Xb rfl) ?_
  refine Xn (Xf rfl rfl rfl hg10) (Zr rfl rfl) ?_
  refine Xa (Xl (congrArg Value.bool hg10) rfl) ?_
  refine Xa (Xp rfl) ?_
  refine Yb rfl rfl rfl ?_ ?_
  intro hg11
  have hp11 := hg11; try simp only [decide_eq_true_eq, decide_eq_false_iff_not, Bool.not_eq_true', Bool.not_eq_false'] at hp11
  refine Z4 (Xf rfl rfl rfl hg11) (Xx (Vg _) rfl Tryz.func28 rfl rfl rfl ?_)
  rintro v H' ⟨rfl, hlv⟩
  refine Xa (Xl (congrArg Value.bool hg11) rfl) ?_
  refine Xa (Xo rfl) ?_
  refine X5 ?_
  exact ⟨.bool true, Xz (Xu rfl), rfl, Hp.le_trans leH9 hlv⟩
  intro hg11
  exact absurd hg11 (by decide)
  intro hg10
  exact absurd hg10 (by decide)
  intro hg9
  exact absurd hg9 (by decide)
  intro hg8
  exact absurd hg8 (by decide)
  intro hc7
  have hlt : k2 < Zu T [] := by have := of_decide_eq_false hc7; omega
  obtain ⟨rfl, _, hsk, hrow, hl0⟩ := hor.resolve_left (fun h => by have := h.2.1; omega)
  obtain ⟨_, hw1, hw2⟩ := hwk.resolve_left (fun h => by have := h.1; omega)
  have hxl : x.nodes.length = T.vars.length := (rowT_nodesC hrow).2
  rw [seek_rows hxr] at hsk
  obtain ⟨⟨i0, left0⟩, hat, hi2⟩ := Option.map_eq_some_iff.1 hsk
  simp only [Prod.mk.injEq] at hi2
  obtain ⟨hi3, rfl⟩ := hi2
  obtain ⟨hi, hl1, hl2, hksum⟩ := atR_some hnn hk20 hat
  rw [List.getD_eq_getElem?_getD, List.getElem?_eq_getElem hi] at hi3
  have hi3 : rows[i0].nodes = x.nodes := hi3
  have hxe : rows[i0] = x := rows_eq hi3 (hrr _ (List.getElem_mem hi)) hrow
  have hpx : Path T x.nodes := (rows_path hT hrm hxl).2 ⟨_, List.getElem_mem hi, hi3⟩
  have hsz := sizeTo_all (T := T)
  rw [hT.l2] at hsz
  have hszl := sizeTo_le hT T.vars.length (Nat.le_refl _)
  refine X7 ?_
  refine Xe ?_
  refine Xc (by kernel_rfl) ?_
  refine Xa (X0 Xj) ?_
  refine Xa (Xb Xj) ?_
  refine X1 (Xx (At_ref32 rows k2 _ _ r9 (by omega) hnn hk20 hk21 hat) rfl Tryz.func36 rfl rfl rfl ?_)
  rintro v103 H9 ⟨rfl, rfl⟩
  refine Xa (Zk rfl) ?_
  refine Xa (Yn rfl rfl) ?_
  refine Xa (Yn rfl rfl) ?_
  refine Xa (Xh rfl) ?_
  refine Xa (Xh rfl) ?_
  refine Xe ?_
  refine Xc (by kernel_rfl) ?_
  refine Xa (Xy Xj) ?_
  refine Xa (Xi (off := 0) rfl Tryz.underlying46 rfl inf23.size (by decide) rfl) ?_
  refine Xa (Xm rfl Tryz.underlying23 rfl Xr) ?_
  refine X1 (Xx (Rank_acc hT (cR.mono leR9) x.nodes _ sl9 (by omega)) rfl Tryz.func29 rfl rfl rfl ?_)
  rintro v110 H10 ⟨le10, s1, ok1, rfl, hr1, hr2⟩; have leR10 := Hp.le_trans leR9 le10; have r10 := hrR.mono leR10.sees; have sl10 := sl9.mono le10.sees; have z10 := le10.1; have g10 := Xt le10 (by omega) (by intro e; cases e) g9; have V0' := Xt le10 (by omega) (by intro e; cases e) U0'; have leH10 := Hp.le_trans leH9 le10
  refine Xa (Zk rfl) ?_
  refine Xa (Yn rfl rfl) ?_
  refine Xa (Yn rfl rfl) ?_
  refine Xa (Xh rfl) ?_
  refine Xa (Xo rfl) ?_
  refine Xe ?_
  have hokd : ok1 = decide (Zu T [] < 4611686018427387904) := by
    by_cases hx : Zu T [] < 4611686018427387904
    · rw [decide_eq_true hx]; exact (hr2 ⟨hx, hxl⟩).1.2 hpx
    · rw [decide_eq_false hx]; exact (hr1 (fun h => hx h.1)).2
  have hsx : ok1 = true → IntKind.u64.wrap (s1 + left0) = k2 := fun h => by
    rw [h] at hokd
    have hx := of_decide_eq_true hokd.symm
    have h1 := (hr2 ⟨hx, hxl⟩).2.1 h
    have hal := ahead_less (ns := x.nodes) hxr (exact_sum hT hx) hsrt (fun r hr => by rw [hrn r hr]; omega)
    have hself := ahead_self hi hsrt
    rw [hi3] at hself
    rw [h1, ← hal, hself, ← hksum]
    exact wrap_u64a hk20 hk21
  obtain ⟨bD, oD, wD, eD, hbD, hcD, hwD⟩ := r10.row_at hi
  rw [hxe] at hcD hwD
  subst eD
  obtain ⟨AD, cD, rfl⟩ := hwD.shape
  have hcells : Cells H10 bD (oD + ((i0 : Int)).toNat * 3) [.slice AD x.nodes.length cD, .int .i64 x.cost, .int .u64 x.n] := hcD
  refine Yt (by kernel_rfl) (Y2 (B := [0, 1, 3, 3, 3, 27, 59, 123, 255, 511, 1023, 2047, 2047, 8191, 16383, 32767, 65535, 65535, 196607, 524287, 1048575, 2097151, 4194303, 8388607, 16777215, 33554431, 33554431, 134217727, 33554431, 536870911, 1073741823, 2147483647, 4294967295, 8589934591, 8589934591, 25769803775, 60129542143, 137438953471, 274877906943, 549755813887, 1099511627775, 1099511627775, 3298534883327, 1099511627775, 9895604649983, 27487790694399, 69269232549887, 140737488355327, 281474976710655, 562949953421311, 1125899906842623, 2251799813685247, 4503599627370495]) (π := [0, 1, 2, 3, 4, 5, 6, 7, 8, 9, 10, 11, 12, 13, 14, 15, 16, 17, 18, 19, 20, 21, 22, 23, 24, 25, 26, 27, 28, 29, 30, 31, 32, 33, 34, 35, 36, 37, 38, 39, 40, 41, 43, 44, 45, 42, 46, 47, 48, 49, 50, 51, 52]) (by kernel_rfl)) ?_
  refine Xd rfl rfl (Xp rfl) Xq ?_
  refine Xd rfl rfl (Xp rfl) Xq ?_
  refine Y1 rfl rfl rfl rfl ?_ ?_
  intro hg12
  have hp12 := hg12; try simp only [decide_eq_true_eq, decide_eq_false_iff_not, Bool.not_eq_true', Bool.not_eq_false'] at hp12
  refine Xw rfl (Xf rfl rfl rfl hg12) rfl (Yh (cs := [.slice _ _ _, .int .i64 _, .int .u64 _]) rfl Tryz.underlying46 rfl inf46.size Yd) Xq ?_
  refine Xw rfl (Xf rfl rfl rfl hg12) rfl (X0 Xj) Xq ?_
  refine Xw rfl (Xf rfl rfl rfl hg12) rfl (Xb rfl) Xq ?_
  refine Xw rfl (Xf rfl rfl rfl hg12) rfl (Xs rfl rfl Tryz.underlying43 inf54.size X3 X3) Xq ?_
  refine Xw rfl (Xf rfl rfl rfl hg12) rfl (Yh (cs := [.slice _ _ _, .int .i64 _, .int .u64 _]) rfl Tryz.underlying54 rfl inf54.size Yd) Xq ?_
  refine Zz rfl (Xf rfl rfl rfl hg12) rfl (Xx (OfRow_ref _ _ _ _ _ _) rfl Tryz.func23 rfl rfl rfl ?_)
  rintro v120 H11 ⟨rfl, le11⟩; have zL := le11.1; have V1' := Xt le11 (by omega) (by intro e; cases e) V0'
  refine ⟨Ye, ?_⟩
  refine Zz rfl (Xf rfl rfl rfl hg12) rfl (Xx (SameRow_true x.nodes x.cost x.n A7 AD c7' cD _ (sl10.mono le11.sees) (hwD.mono le11.sees) (by omega)) rfl Tryz.func22 rfl rfl rfl ?_)
  rintro v121 H11 ⟨rfl, rfl⟩
  refine ⟨Ye, ?_⟩
  refine Xd rfl rfl (Xl (congrArg Value.bool hg12) rfl) Xq ?_
  refine Xd rfl rfl (Xp rfl) Xq ?_
  refine Y1 rfl rfl rfl rfl ?_ ?_
  intro hg13
  have hp13 := hg13; try simp only [decide_eq_true_eq, decide_eq_false_iff_not, Bool.not_eq_true', Bool.not_eq_false'] at hp13
  refine Xw rfl (Xf rfl rfl rfl hg13) rfl (Xb rfl) Xq ?_
  refine Xw rfl (Xf rfl rfl rfl hg13) rfl (Xb rfl) Xq ?_
  refine Xw rfl (Xf rfl rfl rfl hg13) rfl (Zr rfl rfl) Xq ?_
  refine Xd rfl rfl (Xl (congrArg Value.bool hg13) rfl) Xq ?_
  refine Xd rfl rfl (Xp rfl) Xq ?_
  refine Y1 rfl rfl rfl rfl ?_ ?_
  intro hg14
  have hp14 := hg14; try simp only [decide_eq_true_eq, decide_eq_false_iff_not, Bool.not_eq_true', Bool.not_eq_false'] at hp14
  refine Xw rfl (Xf rfl rfl rfl hg14) rfl (Xp rfl) Xq ?_
  refine Xw rfl (Xf rfl rfl rfl hg14) rfl (Xb Xj) Xq ?_
  refine Xw rfl (Xf rfl rfl rfl hg14) rfl (Yx rfl rfl) Xq ?_
  refine Xw rfl (Xf rfl rfl rfl hg14) rfl (av_beq rfl rfl Tryz.underlying4) Xq ?_
  refine Xd rfl rfl (Xl (congrArg Value.bool hg14) rfl) Xq ?_
  refine Xd rfl rfl (Xp rfl) Xq ?_
  refine Y1 rfl rfl rfl rfl ?_ ?_
  intro hg15
  have hp15 := hg15; try simp only [decide_eq_true_eq, decide_eq_false_iff_not, Bool.not_eq_true', Bool.not_eq_false'] at hp15
  refine Xw rfl (Xf rfl rfl rfl hg15) rfl (Xp rfl) Xq ?_
  refine Xw rfl (Xf rfl rfl rfl hg15) rfl (Zw rfl) Xq ?_
  refine Xw rfl (Xf rfl rfl rfl hg15) rfl (Xp rfl) Xq ?_
  refine Y1 rfl rfl rfl rfl ?_ ?_
  intro hg16
  have hno1 : ok1 = false := by have h := hg16; simpa using h
  refine X2 rfl (Xk rfl rfl rfl hg16 rfl) ?_
  refine X2 rfl (Xk rfl rfl rfl hg16 rfl) ?_
  refine X2 rfl (Xk rfl rfl rfl hg16 rfl) ?_
  refine X2 rfl (Xk rfl rfl rfl hg16 rfl) ?_
  refine X2 rfl (Xk rfl rfl rfl hg16 rfl) ?_
  refine Xw rfl (Xf rfl rfl rfl hg15) rfl (Xl (congrArg Value.bool hg16) Xj) Xq ?_
  refine Xd rfl rfl (Xl (congrArg Value.bool hg15) rfl) Xq ?_
  refine Xd rfl rfl (Xp rfl) Xq ?_
  refine Xw rfl (Xf rfl rfl rfl rfl) rfl (Xb rfl) Xq ?_
  refine Xw rfl (Xf rfl rfl rfl rfl) rfl (Xi (off := 0) Xj Tryz.underlying26 Xj inf22.size (by decide) Xj) Xq ?_
  refine Xw rfl (Xf rfl rfl rfl rfl) rfl (Xm rfl Tryz.underlying22 rfl Xr) Xq ?_
  refine Xw rfl (Xf rfl rfl rfl rfl) rfl (Yk rfl Tryz.underlying22) Xq ?_
  refine Xw rfl (Xf rfl rfl rfl rfl) rfl (Vy rfl rfl) Xq ?_
  refine Xd rfl rfl (Xl (congrArg Value.bool rfl) rfl) Xq ?_
  refine Xd rfl rfl (Xp rfl) Xq ?_
  refine Y1 rfl rfl rfl rfl ?_ ?_
  intro hg17
  have hp17 := hg17; try simp only [decide_eq_true_eq, decide_eq_false_iff_not, Bool.not_eq_true', Bool.not_eq_false'] at hp17
  refine Xw rfl (Xf rfl rfl rfl hg17) rfl (Xb rfl) Xq ?_
  refine Xw rfl (Xf rfl rfl rfl hg17) rfl (Xy Xj) Xq ?_
  refine Xw rfl (Xf rfl rfl rfl hg17) rfl (Xi (off := 0) Xj Tryz.underlying26 Xj inf22.size (by decide) Xj) Xq ?_
  refine Xw rfl (Xf rfl rfl rfl hg17) rfl (Xm rfl Tryz.underlying22 rfl Xr) Xq ?_
  refine Xw rfl (Xf rfl rfl rfl hg17) rfl (Yk rfl Tryz.underlying22) Xq ?_
  refine Zz rfl (Xf rfl rfl rfl hg17) rfl (Xx (Size_tree (trR.mono (Hp.le_trans leR10 le11)) (by rw [hT.l2]; exact Nat.le_trans hT.few (by decide)) hT.lens) rfl Tryz.func37 rfl rfl rfl ?_)
  rintro v155 H11 ⟨rfl, rfl⟩
  refine ⟨Ye, ?_⟩
  refine Xw rfl (Xf rfl rfl rfl hg17) rfl (Yg rfl rfl Yp) Xq ?_
  refine Xw rfl (Xf rfl rfl rfl hg17) rfl (av_le rfl rfl) Xq ?_
  refine Xd rfl rfl (Xl (congrArg Value.bool hg17) rfl) Xq ?_
  refine Xd rfl rfl (Xp rfl) Xq ?_
  refine Y1 rfl rfl rfl rfl ?_ ?_
  intro hg18
  have hp18 := hg18; try simp only [decide_eq_true_eq, decide_eq_false_iff_not, Bool.not_eq_true', Bool.not_eq_false'] at hp18
  refine Zz rfl (Xf rfl rfl rfl hg18) rfl (Xx (Vg _) rfl Tryz.func28 rfl rfl rfl ?_)
  rintro v H' ⟨rfl, hlv⟩
  refine ⟨Ye, ?_⟩
  refine Xd rfl rfl (Xl (congrArg Value.bool hg18) rfl) Xq ?_
  refine Xd rfl rfl (Xo rfl) Xq ?_
  refine X5 ?_
  exact ⟨.bool true, Xz (Xu rfl), rfl, Hp.le_trans (Hp.le_trans leH10 le11) hlv⟩
  intro hg18
  (have h := of_decide_eq_false hg18; exfalso; omega)
  intro hg17
  (have h := of_decide_eq_false hg17; exfalso; omega)
  intro hg16
  have hyes1 : ok1 = true := by have h := hg16; simpa using h
  refine Xw rfl (Xf rfl rfl rfl hg16) rfl (Xb rfl) Xq ?_
  refine Xw rfl (Xf rfl rfl rfl hg16) rfl (Xb rfl) Xq ?_
  refine Xw rfl (Xf rfl rfl rfl hg16) rfl (av_addn_is (hsx hyes1) rfl rfl) Xq ?_
  refine Xw rfl (Xf rfl rfl rfl hg16) rfl (Xb Xj) Xq ?_
  refine Xw rfl (Xf rfl rfl rfl hg16) rfl (Zr rfl rfl) Xq ?_
  refine Xw rfl (Xf rfl rfl rfl hg15) rfl (Xl (congrArg Value.bool hg16) rfl) Xq ?_
  refine Xd rfl rfl (Xl (congrArg Value.bool hg15) rfl) Xq ?_
  refine Xd rfl rfl (Xp rfl) Xq ?_
  refine Y1 rfl rfl rfl rfl ?_ ?_
  intro hg19
  have hp19 := hg19; try simp only [decide_eq_true_eq, decide_eq_false_iff_not, Bool.not_eq_true', Bool.not_eq_false'] at hp19
  refine Xw rfl (Xf rfl rfl rfl hg19) rfl (Xb rfl) Xq ?_
  refine Xw rfl (Xf rfl rfl rfl hg19) rfl (Xi (off := 0) Xj Tryz.underlying26 Xj inf22.size (by decide) Xj) Xq ?_
  refine Xw rfl (Xf rfl rfl rfl hg19) rfl (Xm rfl Tryz.underlying22 rfl Xr) Xq ?_
  refine Xw rfl (Xf rfl rfl rfl hg19) rfl (Yk rfl Tryz.underlying22) Xq ?_
  refine Xw rfl (Xf rfl rfl rfl hg19) rfl (Vy rfl rfl) Xq ?_
  refine Xd rfl rfl (Xl (congrArg Value.bool hg19) rfl) Xq ?_
  refine Xd rfl rfl (Xp rfl) Xq ?_
  refine Y1 rfl rfl rfl rfl ?_ ?_
  intro hg20
  have hp20 := hg20; try simp only [decide_eq_true_eq, decide_eq_false_iff_not, Bool.not_eq_true', Bool.not_eq_false'] at hp20
  refine Xw rfl (Xf rfl rfl rfl hg20) rfl (Xb rfl) Xq ?_
  refine Xw rfl (Xf rfl rfl rfl hg20) rfl (Xy Xj) Xq ?_
  refine Xw rfl (Xf rfl rfl rfl hg20) rfl (Xi (off := 0) Xj Tryz.underlying26 Xj inf22.size (by decide) Xj) Xq ?_
  refine Xw rfl (Xf rfl rfl rfl hg20) rfl (Xm rfl Tryz.underlying22 rfl Xr) Xq ?_
  refine Xw rfl (Xf rfl rfl rfl hg20) rfl (Yk rfl Tryz.underlying22) Xq ?_
  refine Zz rfl (Xf rfl rfl rfl hg20) rfl (Xx (Size_tree (trR.mono (Hp.le_trans leR10 le11)) (by rw [hT.l2]; exact Nat.le_trans hT.few (by decide)) hT.lens) rfl Tryz.func37 rfl rfl rfl ?_)
  rintro v155 H11 ⟨rfl, rfl⟩
  refine ⟨Ye, ?_⟩
  refine Xw rfl (Xf rfl rfl rfl hg20) rfl (Yg rfl rfl Yp) Xq ?_
  refine Xw rfl (Xf rfl rfl rfl hg20) rfl (av_le rfl rfl) Xq ?_
  refine Xd rfl rfl (Xl (congrArg Value.bool hg20) rfl) Xq ?_
  refine Xd rfl rfl (Xp rfl) Xq ?_
  refine Y1 rfl rfl rfl rfl ?_ ?_
  intro hg21
  have hp21 := hg21; try simp only [decide_eq_true_eq, decide_eq_false_iff_not, Bool.not_eq_true', Bool.not_eq_false'] at hp21
  refine Zz rfl (Xf rfl rfl rfl hg21) rfl (Xx (Vg _) rfl Tryz.func28 rfl rfl rfl ?_)
  rintro v H' ⟨rfl, hlv⟩
  refine ⟨Ye, ?_⟩
  refine Xd rfl rfl (Xl (congrArg Value.bool hg21) rfl) Xq ?_
  refine Xd rfl rfl (Xo rfl) Xq ?_
  refine X5 ?_
  exact ⟨.bool true, Xz (Xu rfl), rfl, Hp.le_trans (Hp.le_trans leH10 le11) hlv⟩
  intro hg21
  (have h := of_decide_eq_false hg21; exfalso; omega)
  intro hg20
  (have h := of_decide_eq_false hg20; exfalso; omega)
  intro hg19
  (have h := hg19; simp at h)
  intro hg15
  exact absurd hokd (of_decide_eq_false hg15)
  intro hg14
  exact absurd rfl (of_decide_eq_false hg14)
  intro hg13
  exact absurd hg13 (by decide)
  intro hg12
  exact absurd hg12 (by decide)
  intro hg5
  have hp5 := hg5; try simp only [decide_eq_true_eq, decide_eq_false_iff_not, Bool.not_eq_true', Bool.not_eq_false'] at hp5
  refine Xg (Xk rfl rfl rfl hg5 rfl) ?_
  refine Xg (Xk rfl rfl rfl hg5 rfl) ?_
  refine Xg (Xk rfl rfl rfl hg5 rfl) ?_
  refine Xa (Xl (congrArg Value.bool hg5) rfl) ?_
  refine ac_cut (fun t H' => H' = HR ∧ ∃ k' : Int, 0 ≤ k' ∧ k' < 18446744073709551616 ∧ t 2 = .int .u64 k' ∧ t 3 = .pointer (some ⟨H.size, 0, none⟩) ∧ t 7 = .pointer (some ⟨tb, 0, none⟩) ∧ t 9 = .pointer (some ⟨cb, 0, none⟩) ∧ t 10 = .slice Dr rows.length mr ∧ t 11 = .int .u64 (Zu T [])) ?_ ?_
  refine Yw rfl rfl ?_
  refine X7 ?_
  first
    | exact ⟨rfl, k, hk0, hk1, rfl, rfl, rfl, rfl, rfl, rfl⟩
    | exact ⟨rfl, k.tmod (Zu T []), by rw [Int.tmod_eq_emod_of_nonneg hk0]; exact Int.emod_nonneg _ (by omega), by rw [Int.tmod_eq_emod_of_nonneg hk0]; exact (by have := Int.emod_lt_of_pos k (b := Zu T []) (by omega); omega), rfl, rfl, rfl, rfl, rfl, rfl⟩
  rintro t HR ⟨rfl, k2, hk20, hk21, e2, e3, e7, e9, e10, e11⟩
  refine Xe ?_
  refine Xc (by kernel_rfl) ?_
  refine Xa (Xy Xj) ?_
  refine Xa (Xb Xj) ?_
  refine X1 (Xx (At_u hT cR k2 hk20) rfl Tryz.func34 rfl rfl rfl ?_)
  rintro v71 H7 ⟨le7, x, A7, c7', left, ok, rfl, sl7, hor⟩; have z7 := le7.1; have S0' := Xt le7 (by omega) (by intro e; cases e) R0'
  refine Xa (Zk rfl) ?_
  refine Xa (Yn rfl rfl) ?_
  refine Xa (Yn rfl rfl) ?_
  refine Xa (Yn rfl rfl) ?_
  refine X6 (Y8 (l := [.slice none 0 0, .int .i64 0, .int .u64 0]) inf46.zero rfl (by decide)) ?_
  refine X1 (Yo (vs := [.slice _ _ _, .int .i64 _, .int .u64 _]) rfl rfl inf46.size Yj Yl rfl rfl ?_)
  refine Xa (Xh rfl) ?_
  refine Xa (Xo rfl) ?_
  refine Xe ?_
  obtain ⟨H8, hH8⟩ : ∃ H8, H8 = (H7.push (.own 0 [.slice none 0 0, .int .i64 0, .int .u64 0])).put H7.size (.own 0 [.slice A7 x.nodes.length c7', .int .i64 x.cost, .int .u64 x.n]) := ⟨_, rfl⟩
  have le78 : H7.le H8 := by rw [hH8]; exact Hp.le_put_new (H7.le_push _) (Nat.le_refl _) _
  have g8 : H8.get H7.size = .own 0 [.slice A7 x.nodes.length c7', .int .i64 x.cost, .int .u64 x.n] := by rw [hH8]; exact Hp.put_same _ _ _
  have z8 : H8.size = H7.size + 1 := by rw [hH8]; simp
  change ACode true _ _ _ _ _ ((H7.push (.own 0 [.slice none 0 0, .int .i64 0, .int .u64 0])).put H7.size (.own 0 [.slice A7 x.nodes.length c7', .int .i64 x.cost, .int .u64 x.n]))
  rw [← hH8]
  clear hH8
  have leR8 := Hp.le_trans le7 le78
  have sl8 := sl7.mono le78.sees
  refine Xc (by kernel_rfl) ?_
  refine Xa (Xy Xj) ?_
  refine Xa (Xb Xj) ?_
  refine X1 (Xx (Work_acc hT (cR.mono leR8) k2 hk20) rfl Tryz.func35 rfl rfl rfl ?_)
  rintro v77 H9 ⟨le9, wk, rfl, hwk⟩; have leR9 := Hp.le_trans leR8 le9; have r9 := hrR.mono leR9.sees; have sl9 := sl8.mono le9.sees; have z9 := le9.1; have g9 := Xt le9 (by omega) (by intro e; cases e) g8; have U0' := Xt (Hp.le_trans le78 le9) (by omega) (by intro e; cases e) S0'; have leH9 := Hp.le_trans (Hp.le_trans leC hleR) leR9
  refine Xa (Xh rfl) ?_
  refine Xe ?_
  refine Xe ?_
  refine Xc (by kernel_rfl) ?_
  refine Xa (Xb Xj) ?_
  refine Xa (Xb Xj) ?_
  refine Xa (Vy rfl rfl) ?_
  refine X4 rfl rfl ?_ ?_
  intro hc23
  have hge : Zu T [] ≤ k2 := by have := of_decide_eq_true hc23; omega
  obtain ⟨rfl, _, rfl, rfl⟩ := hor.resolve_right (fun h => by have := h.2.1; omega)
  obtain ⟨_, rfl⟩ := hwk.resolve_right (fun h => by have := h.1; omega)
  refine Xe ?_
  refine Xc (by kernel_rfl) ?_
  refine Xa (Xi (off := 0) rfl Tryz.underlying46 rfl inf23.size (by decide) rfl) ?_
  refine Xa (Xm rfl Tryz.underlying23 rfl Xr) ?_
  refine Xa (Yk rfl Tryz.underlying23) ?_
  refine Xa (Zr rfl rfl) ?_
  refine Xa (Xp rfl) ?_
  refine Yb rfl rfl rfl ?_ ?_
  intro hg24
  have hp24 := hg24; try simp only [decide_eq_true_eq, decide_eq_false_iff_not, Bool.not_eq_true', Bool.not_eq_false'] at hp24
  refine Xn (Xf rfl rfl rfl hg24) (Xb rfl) ?_
  refine Xn (Xf rfl rfl rfl hg24) (Zr rfl rfl) ?_
  refine Xa (Xl (congrArg Value.bool hg24) rfl) ?_
  refine Xa (Xp rfl) ?_
  refine Yb rfl rfl rfl ?_ ?_
  intro hg25
  have hp25 := hg25; try simp only [decide_eq_true_eq, decide_eq_false_iff_not, Bool.not_eq_true', Bool.not_eq_false'] at hp25
  refine Xn (Xf rfl rfl rfl hg25) (Xp rfl) ?_
  refine Xn (Xf rfl rfl rfl hg25) (Zw rfl) ?_
  refine Xa (Xl (congrArg Value.bool hg25) rfl) ?_
  refine Xa (Xp rfl) ?_
  refine Yb rfl rfl rfl ?_ ?_
  intro hg26
  have hp26 := hg26; try simp only [decide_eq_true_eq, decide_eq_false_iff_not, Bool.not_eq_true', Bool.not_eq_false'] at hp26
  refine Xn (Xf rfl rfl rfl hg26) (Xb rfl) ?_
  refine Xn (Xf rfl rfl rfl hg26) (Zr rfl rfl) ?_
  refine Xa (Xl (congrArg Value.bool hg26) rfl) ?_
  refine Xa (Xp rfl) ?_
  refine Yb rfl rfl rfl ?_ ?_
  intro hg27
  have hp27 := hg27; try simp only [decide_eq_true_eq, decide_eq_false_iff_not, Bool.not_eq_true', Bool.not_eq_false'] at hp27
  refine Z4 (Xf rfl rfl rfl hg27) (Xx (Vg _) rfl Tryz.func28 rfl rfl rfl ?_)
  rintro v H' ⟨rfl, hlv⟩
  refine Xa (Xl (congrArg Value.bool hg27) rfl) ?_
  refine Xa (Xo rfl) ?_
  refine X5 ?_
  exact ⟨.bool true, Xz (Xu rfl), rfl, Hp.le_trans leH9 hlv⟩
  intro hg27
  exact absurd hg27 (by decide)
  intro hg26
  exact absurd hg26 (by decide)
  intro hg25
  exact absurd hg25 (by decide)
  intro hg24
  exact absurd hg24 (by decide)
  intro hc23
  have hlt : k2 < Zu T [] := by have := of_decide_eq_false hc23; omega
  obtain ⟨rfl, _, hsk, hrow, hl0⟩ := hor.resolve_left (fun h => by have := h.2.1; omega)
  obtain ⟨_, hw1, hw2⟩ := hwk.resolve_left (fun h => by have := h.1; omega)
  have hxl : x.nodes.length = T.vars.length := (rowT_nodesC hrow).2
  rw [seek_rows hxr] at hsk
  obtain ⟨⟨i0, left0⟩, hat, hi2⟩ := Option.map_eq_some_iff.1 hsk
  simp only [Prod.mk.injEq] at hi2
  obtain ⟨hi3, rfl⟩ := hi2
  obtain ⟨hi, hl1, hl2, hksum⟩ := atR_some hnn hk20 hat
  rw [List.getD_eq_getElem?_getD, List.getElem?_eq_getElem hi] at hi3
  have hi3 : rows[i0].nodes = x.nodes := hi3
  have hxe : rows[i0] = x := rows_eq hi3 (hrr _ (List.getElem_mem hi)) hrow
  have hpx : Path T x.nodes := (rows_path hT hrm hxl).2 ⟨_, List.getElem_mem hi, hi3⟩
  have hsz := sizeTo_all (T := T)
  rw [hT.l2] at hsz
  have hszl := sizeTo_le hT T.vars.length (Nat.le_refl _)
  refine X7 ?_
  refine Xe ?_
  refine Xc (by kernel_rfl) ?_
  refine Xa (X0 Xj) ?_
  refine Xa (Xb Xj) ?_
  refine X1 (Xx (At_ref32 rows k2 _ _ r9 (by omega) hnn hk20 hk21 hat) rfl Tryz.func36 rfl rfl rfl ?_)
  rintro v103 H9 ⟨rfl, rfl⟩
  refine Xa (Zk rfl) ?_
  refine Xa (Yn rfl rfl) ?_
  refine Xa (Yn rfl rfl) ?_
  refine Xa (Xh rfl) ?_
  refine Xa (Xh rfl) ?_
  refine Xe ?_
  refine Xc (by kernel_rfl) ?_
  refine Xa (Xy Xj) ?_
  refine Xa (Xi (off := 0) rfl Tryz.underlying46 rfl inf23.size (by decide) rfl) ?_
  refine Xa (Xm rfl Tryz.underlying23 rfl Xr) ?_
  refine X1 (Xx (Rank_acc hT (cR.mono leR9) x.nodes _ sl9 (by omega)) rfl Tryz.func29 rfl rfl rfl ?_)
  rintro v110 H10 ⟨le10, s1, ok1, rfl, hr1, hr2⟩; have leR10 := Hp.le_trans leR9 le10; have r10 := hrR.mono leR10.sees; have sl10 := sl9.mono le10.sees; have z10 := le10.1; have g10 := Xt le10 (by omega) (by intro e; cases e) g9; have V0' := Xt le10 (by omega) (by intro e; cases e) U0'; have leH10 := Hp.le_trans leH9 le10
  refine Xa (Zk rfl) ?_
  refine Xa (Yn rfl rfl) ?_
  refine Xa (Yn rfl rfl) ?_
  refine Xa (Xh rfl) ?_
  refine Xa (Xo rfl) ?_
  refine Xe ?_
  have hokd : ok1 = decide (Zu T [] < 4611686018427387904) := by
    by_cases hx : Zu T [] < 4611686018427387904
    · rw [decide_eq_true hx]; exact (hr2 ⟨hx, hxl⟩).1.2 hpx
    · rw [decide_eq_false hx]; exact (hr1 (fun h => hx h.1)).2
  have hsx : ok1 = true → IntKind.u64.wrap (s1 + left0) = k2 := fun h => by
    rw [h] at hokd
    have hx := of_decide_eq_true hokd.symm
    have h1 := (hr2 ⟨hx, hxl⟩).2.1 h
    have hal := ahead_less (ns := x.nodes) hxr (exact_sum hT hx) hsrt (fun r hr => by rw [hrn r hr]; omega)
    have hself := ahead_self hi hsrt
    rw [hi3] at hself
    rw [h1, ← hal, hself, ← hksum]
    exact wrap_u64a hk20 hk21
  obtain ⟨bD, oD, wD, eD, hbD, hcD, hwD⟩ := r10.row_at hi
  rw [hxe] at hcD hwD
  subst eD
  obtain ⟨AD, cD, rfl⟩ := hwD.shape
  have hcells : Cells H10 bD (oD + ((i0 : Int)).toNat * 3) [.slice AD x.nodes.length cD, .int .i64 x.cost, .int .u64 x.n] := hcD
  refine Yt (by kernel_rfl) (Y2 (B := [0, 1, 3, 3, 3, 27, 59, 123, 255, 511, 1023, 2047, 2047, 8191, 16383, 32767, 65535, 65535, 196607, 524287, 1048575, 2097151, 4194303, 8388607, 16777215, 33554431, 33554431, 134217727, 33554431, 536870911, 1073741823, 2147483647, 4294967295, 8589934591, 8589934591, 25769803775, 60129542143, 137438953471, 274877906943, 549755813887, 1099511627775, 1099511627775, 3298534883327, 1099511627775, 9895604649983, 27487790694399, 69269232549887, 140737488355327, 281474976710655, 562949953421311, 1125899906842623, 2251799813685247, 4503599627370495]) (π := [0, 1, 2, 3, 4, 5, 6, 7, 8, 9, 10, 11, 12, 13, 14, 15, 16, 17, 18, 19, 20, 21, 22, 23, 24, 25, 26, 27, 28, 29, 30, 31, 32, 33, 34, 35, 36, 37, 38, 39, 40, 41, 43, 44, 45, 42, 46, 47, 48, 49, 50, 51, 52]) (by kernel_rfl)) ?_
  refine Xd rfl rfl (Xp rfl) Xq ?_
  refine Xd rfl rfl (Xp rfl) Xq ?_
  refine Y1 rfl rfl rfl rfl ?_ ?_
  intro hg28
  have hp28 := hg28; try simp only [decide_eq_true_eq, decide_eq_false_iff_not, Bool.not_eq_true', Bool.not_eq_false'] at hp28
  refine Xw rfl (Xf rfl rfl rfl hg28) rfl (Yh (cs := [.slice _ _ _, .int .i64 _, .int .u64 _]) rfl Tryz.underlying46 rfl inf46.size Yd) Xq ?_
  refine Xw rfl (Xf rfl rfl rfl hg28) rfl (X0 Xj) Xq ?_
  refine Xw rfl (Xf rfl rfl rfl hg28) rfl (Xb rfl) Xq ?_
  refine Xw rfl (Xf rfl rfl rfl hg28) rfl (Xs rfl rfl Tryz.underlying43 inf54.size X3 X3) Xq ?_
  refine Xw rfl (Xf rfl rfl rfl hg28) rfl (Yh (cs := [.slice _ _ _, .int .i64 _, .int .u64 _]) rfl Tryz.underlying54 rfl inf54.size Yd) Xq ?_
  refine Zz rfl (Xf rfl rfl rfl hg28) rfl (Xx (OfRow_ref _ _ _ _ _ _) rfl Tryz.func23 rfl rfl rfl ?_)
  rintro v120 H11 ⟨rfl, le11⟩; have zL := le11.1; have V1' := Xt le11 (by omega) (by intro e; cases e) V0'
  refine ⟨Ye, ?_⟩
  refine Zz rfl (Xf rfl rfl rfl hg28) rfl (Xx (SameRow_true x.nodes x.cost x.n A7 AD c7' cD _ (sl10.mono le11.sees) (hwD.mono le11.sees) (by omega)) rfl Tryz.func22 rfl rfl rfl ?_)
  rintro v121 H11 ⟨rfl, rfl⟩
  refine ⟨Ye, ?_⟩
  refine Xd rfl rfl (Xl (congrArg Value.bool hg28) rfl) Xq ?_
  refine Xd rfl rfl (Xp rfl) Xq ?_
  refine Y1 rfl rfl rfl rfl ?_ ?_
  intro hg29
  have hp29 := hg29; try simp only [decide_eq_true_eq, decide_eq_false_iff_not, Bool.not_eq_true', Bool.not_eq_false'] at hp29
  refine Xw rfl (Xf rfl rfl rfl hg29) rfl (Xb rfl) Xq ?_
  refine Xw rfl (Xf rfl rfl rfl hg29) rfl (Xb rfl) Xq ?_
  refine Xw rfl (Xf rfl rfl rfl hg29) rfl (Zr rfl rfl) Xq ?_
  refine Xd rfl rfl (Xl (congrArg Value.bool hg29) rfl) Xq ?_
  refine Xd rfl rfl (Xp rfl) Xq ?_
  refine Y1 rfl rfl rfl rfl ?_ ?_
  intro hg30
  have hp30 := hg30; try simp only [decide_eq_true_eq, decide_eq_false_iff_not, Bool.not_eq_true', Bool.not_eq_false'] at hp30
  refine Xw rfl (Xf rfl rfl rfl hg30) rfl (Xp rfl) Xq ?_
  refine Xw rfl (Xf rfl rfl rfl hg30) rfl (Xb Xj) Xq ?_
  refine Xw rfl (Xf rfl rfl rfl hg30) rfl (Yx rfl rfl) Xq ?_
  refine Xw rfl (Xf rfl rfl rfl hg30) rfl (av_beq rfl rfl Tryz.underlying4) Xq ?_
  refine Xd rfl rfl (Xl (congrArg Value.bool hg30) rfl) Xq ?_
  refine Xd rfl rfl (Xp rfl) Xq ?_
  refine Y1 rfl rfl rfl rfl ?_ ?_
  intro hg31
  have hp31 := hg31; try simp only [decide_eq_true_eq, decide_eq_false_iff_not, Bool.not_eq_true', Bool.not_eq_false'] at hp31
  refine Xw rfl (Xf rfl rfl rfl hg31) rfl (Xp rfl) Xq ?_
  refine Xw rfl (Xf rfl rfl rfl hg31) rfl (Zw rfl) Xq ?_
  refine Xw rfl (Xf rfl rfl rfl hg31) rfl (Xp rfl) Xq ?_
  refine Y1 rfl rfl rfl rfl ?_ ?_
  intro hg32
  have hno1 : ok1 = false := by have h := hg32; simpa using h
  refine X2 rfl (Xk rfl rfl rfl hg32 rfl) ?_
  refine X2 rfl (Xk rfl rfl rfl hg32 rfl) ?_
  refine X2 rfl (Xk rfl rfl rfl hg32 rfl) ?_
  refine X2 rfl (Xk rfl rfl rfl hg32 rfl) ?_
  refine X2 rfl (Xk rfl rfl rfl hg32 rfl) ?_
  refine Xw rfl (Xf rfl rfl rfl hg31) rfl (Xl (congrArg Value.bool hg32) Xj) Xq ?_
  refine Xd rfl rfl (Xl (congrArg Value.bool hg31) rfl) Xq ?_
  refine Xd rfl rfl (Xp rfl) Xq ?_
  refine Xw rfl (Xf rfl rfl rfl rfl) rfl (Xb rfl) Xq ?_
  refine Xw rfl (Xf rfl rfl rfl rfl) rfl (Xi (off := 0) Xj Tryz.underlying26 Xj inf22.size (by decide) Xj) Xq ?_
  refine Xw rfl (Xf rfl rfl rfl rfl) rfl (Xm rfl Tryz.underlying22 rfl Xr) Xq ?_
  refine Xw rfl (Xf rfl rfl rfl rfl) rfl (Yk rfl Tryz.underlying22) Xq ?_
  refine Xw rfl (Xf rfl rfl rfl rfl) rfl (Vy rfl rfl) Xq ?_
  refine Xd rfl rfl (Xl (congrArg Value.bool rfl) rfl) Xq ?_
  refine Xd rfl rfl (Xp rfl) Xq ?_
  refine Y1 rfl rfl rfl rfl ?_ ?_
  intro hg33
  have hp33 := hg33; try simp only [decide_eq_true_eq, decide_eq_false_iff_not, Bool.not_eq_true', Bool.not_eq_false'] at hp33
  refine Xw rfl (Xf rfl rfl rfl hg33) rfl (Xb rfl) Xq ?_
  refine Xw rfl (Xf rfl rfl rfl hg33) rfl (Xy Xj) Xq ?_
  refine Xw rfl (Xf rfl rfl rfl hg33) rfl (Xi (off := 0) Xj Tryz.underlying26 Xj inf22.size (by decide) Xj) Xq ?_
  refine Xw rfl (Xf rfl rfl rfl hg33) rfl (Xm rfl Tryz.underlying22 rfl Xr) Xq ?_
  refine Xw rfl (Xf rfl rfl rfl hg33) rfl (Yk rfl Tryz.underlying22) Xq ?_
  refine Zz rfl (Xf rfl rfl rfl hg33) rfl (Xx (Size_tree (trR.mono (Hp.le_trans leR10 le11)) (by rw [hT.l2]; exact Nat.le_trans hT.few (by decide)) hT.lens) rfl Tryz.func37 rfl rfl rfl ?_)
  rintro v155 H11 ⟨rfl, rfl⟩
  refine ⟨Ye, ?_⟩
  refine Xw rfl (Xf rfl rfl rfl hg33) rfl (Yg rfl rfl Yp) Xq ?_
  refine Xw rfl (Xf rfl rfl rfl hg33) rfl (av_le rfl rfl) Xq ?_
  refine Xd rfl rfl (Xl (congrArg Value.bool hg33) rfl) Xq ?_
  refine Xd rfl rfl (Xp rfl) Xq ?_
  refine Y1 rfl rfl rfl rfl ?_ ?_
  intro hg34
  have hp34 := hg34; try simp only [decide_eq_true_eq, decide_eq_false_iff_not, Bool.not_eq_true', Bool.not_eq_false'] at hp34
  refine Zz rfl (Xf rfl rfl rfl hg34) rfl (Xx (Vg _) rfl Tryz.func28 rfl rfl rfl ?_)
  rintro v H' ⟨rfl, hlv⟩
  refine ⟨Ye, ?_⟩
  refine Xd rfl rfl (Xl (congrArg Value.bool hg34) rfl) Xq ?_
  refine Xd rfl rfl (Xo rfl) Xq ?_
  refine X5 ?_
  exact ⟨.bool true, Xz (Xu rfl), rfl, Hp.le_trans (Hp.le_trans leH10 le11) hlv⟩
  intro hg34
  (have h := of_decide_eq_false hg34; exfalso; omega)
  intro hg33
  (have h := of_decide_eq_false hg33; exfalso; omega)
  intro hg32
  have hyes1 : ok1 = true := by have h := hg32; simpa using h
  refine Xw rfl (Xf rfl rfl rfl hg32) rfl (Xb rfl) Xq ?_
  refine Xw rfl (Xf rfl rfl rfl hg32) rfl (Xb rfl) Xq ?_
  refine Xw rfl (Xf rfl rfl rfl hg32) rfl (av_addn_is (hsx hyes1) rfl rfl) Xq ?_
  refine Xw rfl (Xf rfl rfl rfl hg32) rfl (Xb Xj) Xq ?_
  refine Xw rfl (Xf rfl rfl rfl hg32) rfl (Zr rfl rfl) Xq ?_
  refine Xw rfl (Xf rfl rfl rfl hg31) rfl (Xl (congrArg Value.bool hg32) rfl) Xq ?_
  refine Xd rfl rfl (Xl (congrArg Value.bool hg31) rfl) Xq ?_
  refine Xd rfl rfl (Xp rfl) Xq ?_
  refine Y1 rfl rfl rfl rfl ?_ ?_
  intro hg35
  have hp35 := hg35; try simp only [decide_eq_true_eq, decide_eq_false_iff_not, Bool.not_eq_true', Bool.not_eq_false'] at hp35
  refine Xw rfl (Xf rfl rfl rfl hg35) rfl (Xb rfl) Xq ?_
  refine Xw rfl (Xf rfl rfl rfl hg35) rfl (Xi (off := 0) Xj Tryz.underlying26 Xj inf22.size (by decide) Xj) Xq ?_
  refine Xw rfl (Xf rfl rfl rfl hg35) rfl (Xm rfl Tryz.underlying22 rfl Xr) Xq ?_
  refine Xw rfl (Xf rfl rfl rfl hg35) rfl (Yk rfl Tryz.underlying22) Xq ?_
  refine Xw rfl (Xf rfl rfl rfl hg35) rfl (Vy rfl rfl) Xq ?_
  refine Xd rfl rfl (Xl (congrArg Value.bool hg35) rfl) Xq ?_
  refine Xd rfl rfl (Xp rfl) Xq ?_
  refine Y1 rfl rfl rfl rfl ?_ ?_
  intro hg36
  have hp36 := hg36; try simp only [decide_eq_true_eq, decide_eq_false_iff_not, Bool.not_eq_true', Bool.not_eq_false'] at hp36
  refine Xw rfl (Xf rfl rfl rfl hg36) rfl (Xb rfl) Xq ?_
  refine Xw rfl (Xf rfl rfl rfl hg36) rfl (Xy Xj) Xq ?_
  refine Xw rfl (Xf rfl rfl rfl hg36) rfl (Xi (off := 0) Xj Tryz.underlying26 Xj inf22.size (by decide) Xj) Xq ?_
  refine Xw rfl (Xf rfl rfl rfl hg36) rfl (Xm rfl Tryz.underlying22 rfl Xr) Xq ?_
  refine Xw rfl (Xf rfl rfl rfl hg36) rfl (Yk rfl Tryz.underlying22) Xq ?_
  refine Zz rfl (Xf rfl rfl rfl hg36) rfl (Xx (Size_tree (trR.mono (Hp.le_trans leR10 le11)) (by rw [hT.l2]; exact Nat.le_trans hT.few (by decide)) hT.lens) rfl Tryz.func37 rfl rfl rfl ?_)
  rintro v155 H11 ⟨rfl, rfl⟩
  refine ⟨Ye, ?_⟩
  refine Xw rfl (Xf rfl rfl rfl hg36) rfl (Yg rfl rfl Yp) Xq ?_
  refine Xw rfl (Xf rfl rfl rfl hg36) rfl (av_le rfl rfl) Xq ?_
  refine Xd rfl rfl (Xl (congrArg Value.bool hg36) rfl) Xq ?_
  refine Xd rfl rfl (Xp rfl) Xq ?_
  refine Y1 rfl rfl rfl rfl ?_ ?_
  intro hg37
  have hp37 := hg37; try simp only [decide_eq_true_eq, decide_eq_false_iff_not, Bool.not_eq_true', Bool.not_eq_false'] at hp37
  refine Zz rfl (Xf rfl rfl rfl hg37) rfl (Xx (Vg _) rfl Tryz.func28 rfl rfl rfl ?_)
  rintro v H' ⟨rfl, hlv⟩
  refine ⟨Ye, ?_⟩
  refine Xd rfl rfl (Xl (congrArg Value.bool hg37) rfl) Xq ?_
  refine Xd rfl rfl (Xo rfl) Xq ?_
  refine X5 ?_
  exact ⟨.bool true, Xz (Xu rfl), rfl, Hp.le_trans (Hp.le_trans leH10 le11) hlv⟩
  intro hg37
  (have h := of_decide_eq_false hg37; exfalso; omega)
  intro hg36
  (have h := of_decide_eq_false hg36; exfalso; omega)
  intro hg35
  (have h := hg35; simp at h)
  intro hg31
  exact absurd hokd (of_decide_eq_false hg31)
  intro hg30
  exact absurd rfl (of_decide_eq_false hg30)
  intro hg29
  exact absurd hg29 (by decide)
  intro hg28
  exact absurd hg28 (by decide)
  intro hg4
  have hb0 : ¬ Zu T [] > 0 := of_decide_eq_false hg4
  refine Xg (Xk rfl rfl rfl hg4 rfl) ?_
  refine Xg (Xk rfl rfl rfl hg4 rfl) ?_
  refine Xa (Xl (congrArg Value.bool hg4) rfl) ?_
  refine Xa (Xp rfl) ?_
  refine Xg (Xk rfl rfl rfl rfl rfl) ?_
  refine Xg (Xk rfl rfl rfl rfl rfl) ?_
  refine Xg (Xk rfl rfl rfl rfl rfl) ?_
  refine Xa (Xl (congrArg Value.bool rfl) rfl) ?_
  refine ac_cut (fun t H' => H' = HR ∧ ∃ k' : Int, 0 ≤ k' ∧ k' < 18446744073709551616 ∧ t 2 = .int .u64 k' ∧ t 3 = .pointer (some ⟨H.size, 0, none⟩) ∧ t 7 = .pointer (some ⟨tb, 0, none⟩) ∧ t 9 = .pointer (some ⟨cb, 0, none⟩) ∧ t 10 = .slice Dr rows.length mr ∧ t 11 = .int .u64 (Zu T [])) ?_ ?_
  refine Yw rfl rfl ?_
  refine X7 ?_
  first
    | exact ⟨rfl, k, hk0, hk1, rfl, rfl, rfl, rfl, rfl, rfl⟩
    | exact ⟨rfl, k.tmod (Zu T []), by rw [Int.tmod_eq_emod_of_nonneg hk0]; exact Int.emod_nonneg _ (by omega), by rw [Int.tmod_eq_emod_of_nonneg hk0]; exact (by have := Int.emod_lt_of_pos k (b := Zu T []) (by omega); omega), rfl, rfl, rfl, rfl, rfl, rfl⟩
  rintro t HR ⟨rfl, k2, hk20, hk21, e2, e3, e7, e9, e10, e11⟩
  refine Xe ?_
  refine Xc (by kernel_rfl) ?_
  refine Xa (Xy Xj) ?_
  refine Xa (Xb Xj) ?_
  refine X1 (Xx (At_u hT cR k2 hk20) rfl Tryz.func34 rfl rfl rfl ?_)
  rintro v71 H7 ⟨le7, x, A7, c7', left, ok, rfl, sl7, hor⟩; have z7 := le7.1; have S0' := Xt le7 (by omega) (by intro e; cases e) R0'
  refine Xa (Zk rfl) ?_
  refine Xa (Yn rfl rfl) ?_
  refine Xa (Yn rfl rfl) ?_
  refine Xa (Yn rfl rfl) ?_
  refine X6 (Y8 (l := [.slice none 0 0, .int .i64 0, .int .u64 0]) inf46.zero rfl (by decide)) ?_
  refine X1 (Yo (vs := [.slice _ _ _, .int .i64 _, .int .u64 _]) rfl rfl inf46.size Yj Yl rfl rfl ?_)
  refine Xa (Xh rfl) ?_
  refine Xa (Xo rfl) ?_
  refine Xe ?_
  obtain ⟨H8, hH8⟩ : ∃ H8, H8 = (H7.push (.own 0 [.slice none 0 0, .int .i64 0, .int .u64 0])).put H7.size (.own 0 [.slice A7 x.nodes.length c7', .int .i64 x.cost, .int .u64 x.n]) := ⟨_, rfl⟩
  have le78 : H7.le H8 := by rw [hH8]; exact Hp.le_put_new (H7.le_push _) (Nat.le_refl _) _
  have g8 : H8.get H7.size = .own 0 [.slice A7 x.nodes.length c7', .int .i64 x.cost, .int .u64 x.n] := by rw [hH8]; exact Hp.put_same _ _ _
  have z8 : H8.size = H7.size + 1 := by rw [hH8]; simp
  change ACode true _ _ _ _ _ ((H7.push (.own 0 [.slice none 0 0, .int .i64 0, .int .u64 0])).put H7.size (.own 0 [.slice A7 x.nodes.length c7', .int .i64 x.cost, .int .u64 x.n]))
  rw [← hH8]
  clear hH8
  have leR8 := Hp.le_trans le7 le78
  have sl8 := sl7.mono le78.sees
  refine Xc (by kernel_rfl) ?_
  refine Xa (Xy Xj) ?_
  refine Xa (Xb Xj) ?_
  refine X1 (Xx (Work_acc hT (cR.mono leR8) k2 hk20) rfl Tryz.func35 rfl rfl rfl ?_)
  rintro v77 H9 ⟨le9, wk, rfl, hwk⟩; have leR9 := Hp.le_trans leR8 le9; have r9 := hrR.mono leR9.sees; have sl9 := sl8.mono le9.sees; have z9 := le9.1; have g9 := Xt le9 (by omega) (by intro e; cases e) g8; have U0' := Xt (Hp.le_trans le78 le9) (by omega) (by intro e; cases e) S0'; have leH9 := Hp.le_trans (Hp.le_trans leC hleR) leR9
  refine Xa (Xh rfl) ?_
  refine Xe ?_
  refine Xe ?_
  refine Xc (by kernel_rfl) ?_
  refine Xa (Xb Xj) ?_
  refine Xa (Xb Xj) ?_
  refine Xa (Vy rfl rfl) ?_
  refine X4 rfl rfl ?_ ?_
  intro hc39
  have hge : Zu T [] ≤ k2 := by have := of_decide_eq_true hc39; omega
  obtain ⟨rfl, _, rfl, rfl⟩ := hor.resolve_right (fun h => by have := h.2.1; omega)
  obtain ⟨_, rfl⟩ := hwk.resolve_right (fun h => by have := h.1; omega)
  refine Xe ?_
  refine Xc (by kernel_rfl) ?_
  refine Xa (Xi (off := 0) rfl Tryz.underlying46 rfl inf23.size (by decide) rfl) ?_
  refine Xa (Xm rfl Tryz.underlying23 rfl Xr) ?_
  refine Xa (Yk rfl Tryz.underlying23) ?_
  refine Xa (Zr rfl rfl) ?_
  refine Xa (Xp rfl) ?_
  refine Yb rfl rfl rfl ?_ ?_
  intro hg40
  have hp40 := hg40; try simp only [decide_eq_true_eq, decide_eq_false_iff_not, Bool.not_eq_true', Bool.not_eq_false'] at hp40
  refine Xn (Xf rfl rfl rfl hg40) (Xb rfl) ?_
  refine Xn (Xf rfl rfl rfl hg40) (Zr rfl rfl) ?_
  refine Xa (Xl (congrArg Value.bool hg40) rfl) ?_
  refine Xa (Xp rfl) ?_
  refine Yb rfl rfl rfl ?_ ?_
  intro hg41
  have hp41 := hg41; try simp only [decide_eq_true_eq, decide_eq_false_iff_not, Bool.not_eq_true', Bool.not_eq_false'] at hp41
  refine Xn (Xf rfl rfl rfl hg41) (Xp rfl) ?_
  refine Xn (Xf rfl rfl rfl hg41) (Zw rfl) ?_
  refine Xa (Xl (congrArg Value.bool hg41) rfl) ?_
  refine Xa (Xp rfl) ?_
  refine Yb rfl rfl rfl ?_ ?_
  intro hg42
  have hp42 := hg42; try simp only [decide_eq_true_eq, decide_eq_false_iff_not, Bool.not_eq_true', Bool.not_eq_false'] at hp42
  refine Xn (Xf rfl rfl rfl hg42) (Xb rfl) ?_
  refine Xn (Xf rfl rfl rfl hg42) (Zr rfl rfl) ?_
  refine Xa (Xl (congrArg Value.bool hg42) rfl) ?_
  refine Xa (Xp rfl) ?_
  refine Yb rfl rfl rfl ?_ ?_
  intro hg43
  have hp43 := hg43; try simp only [decide_eq_true_eq, decide_eq_false_iff_not, Bool.not_eq_true', Bool.not_eq_false'] at hp43
  refine Z4 (Xf rfl rfl rfl hg43) (Xx (Vg _) rfl Tryz.func28 rfl rfl rfl ?_)
  rintro v H' ⟨rfl, hlv⟩
  refine Xa (Xl (congrArg Value.bool hg43) rfl) ?_
  refine Xa (Xo rfl) ?_
  refine X5 ?_
  exact ⟨.bool true, Xz (Xu rfl), rfl, Hp.le_trans leH9 hlv⟩
  intro hg43
  exact absurd hg43 (by decide)
  intro hg42
  exact absurd hg42 (by decide)
  intro hg41
  exact absurd hg41 (by decide)
  intro hg40
  exact absurd hg40 (by decide)
  intro hc39
  have hlt : k2 < Zu T [] := by have := of_decide_eq_false hc39; omega
  obtain ⟨rfl, _, hsk, hrow, hl0⟩ := hor.resolve_left (fun h => by have := h.2.1; omega)
  obtain ⟨_, hw1, hw2⟩ := hwk.resolve_left (fun h => by have := h.1; omega)
  have hxl : x.nodes.length = T.vars.length := (rowT_nodesC hrow).2
  rw [seek_rows hxr] at hsk
  obtain ⟨⟨i0, left0⟩, hat, hi2⟩ := Option.map_eq_some_iff.1 hsk
  simp only [Prod.mk.injEq] at hi2
  obtain ⟨hi3, rfl⟩ := hi2
  obtain ⟨hi, hl1, hl2, hksum⟩ := atR_some hnn hk20 hat
  rw [List.getD_eq_getElem?_getD, List.getElem?_eq_getElem hi] at hi3
  have hi3 : rows[i0].nodes = x.nodes := hi3
  have hxe : rows[i0] = x := rows_eq hi3 (hrr _ (List.getElem_mem hi)) hrow
  have hpx : Path T x.nodes := (rows_path hT hrm hxl).2 ⟨_, List.getElem_mem hi, hi3⟩
  have hsz := sizeTo_all (T := T)
  rw [hT.l2] at hsz
  have hszl := sizeTo_le hT T.vars.length (Nat.le_refl _)
  refine X7 ?_
  refine Xe ?_
  refine Xc (by kernel_rfl) ?_
  refine Xa (X0 Xj) ?_
  refine Xa (Xb Xj) ?_
  refine X1 (Xx (At_ref32 rows k2 _ _ r9 (by omega) hnn hk20 hk21 hat) rfl Tryz.func36 rfl rfl rfl ?_)
  rintro v103 H9 ⟨rfl, rfl⟩
  refine Xa (Zk rfl) ?_
  refine Xa (Yn rfl rfl) ?_
  refine Xa (Yn rfl rfl) ?_
  refine Xa (Xh rfl) ?_
  refine Xa (Xh rfl) ?_
  refine Xe ?_
  refine Xc (by kernel_rfl) ?_
  refine Xa (Xy Xj) ?_
  refine Xa (Xi (off := 0) rfl Tryz.underlying46 rfl inf23.size (by decide) rfl) ?_
  refine Xa (Xm rfl Tryz.underlying23 rfl Xr) ?_
  refine X1 (Xx (Rank_acc hT (cR.mono leR9) x.nodes _ sl9 (by omega)) rfl Tryz.func29 rfl rfl rfl ?_)
  rintro v110 H10 ⟨le10, s1, ok1, rfl, hr1, hr2⟩; have leR10 := Hp.le_trans leR9 le10; have r10 := hrR.mono leR10.sees; have sl10 := sl9.mono le10.sees; have z10 := le10.1; have g10 := Xt le10 (by omega) (by intro e; cases e) g9; have V0' := Xt le10 (by omega) (by intro e; cases e) U0'; have leH10 := Hp.le_trans leH9 le10
  refine Xa (Zk rfl) ?_
  refine Xa (Yn rfl rfl) ?_
  refine Xa (Yn rfl rfl) ?_
  refine Xa (Xh rfl) ?_
  refine Xa (Xo rfl) ?_
  refine Xe ?_
  have hokd : ok1 = decide (Zu T [] < 4611686018427387904) := by
    by_cases hx : Zu T [] < 4611686018427387904
    · rw [decide_eq_true hx]; exact (hr2 ⟨hx, hxl⟩).1.2 hpx
    · rw [decide_eq_false hx]; exact (hr1 (fun h => hx h.1)).2
  have hsx : ok1 = true → IntKind.u64.wrap (s1 + left0) = k2 := fun h => by
    rw [h] at hokd
    have hx := of_decide_eq_true hokd.symm
    have h1 := (hr2 ⟨hx, hxl⟩).2.1 h
    have hal := ahead_less (ns := x.nodes) hxr (exact_sum hT hx) hsrt (fun r hr => by rw [hrn r hr]; omega)
    have hself := ahead_self hi hsrt
    rw [hi3] at hself
    rw [h1, ← hal, hself, ← hksum]
    exact wrap_u64a hk20 hk21
  obtain ⟨bD, oD, wD, eD, hbD, hcD, hwD⟩ := r10.row_at hi
  rw [hxe] at hcD hwD
  subst eD
  obtain ⟨AD, cD, rfl⟩ := hwD.shape
  have hcells : Cells H10 bD (oD + ((i0 : Int)).toNat * 3) [.slice AD x.nodes.length cD, .int .i64 x.cost, .int .u64 x.n] := hcD
  refine Yt (by kernel_rfl) (Y2 (B := [0, 1, 3, 3, 3, 27, 59, 123, 255, 511, 1023, 2047, 2047, 8191, 16383, 32767, 65535, 65535, 196607, 524287, 1048575, 2097151, 4194303, 8388607, 16777215, 33554431, 33554431, 134217727, 33554431, 536870911, 1073741823, 2147483647, 4294967295, 8589934591, 8589934591, 25769803775, 60129542143, 137438953471, 274877906943, 549755813887, 1099511627775, 1099511627775, 3298534883327, 1099511627775, 9895604649983, 27487790694399, 69269232549887, 140737488355327, 281474976710655, 562949953421311, 1125899906842623, 2251799813685247, 4503599627370495]) (π := [0, 1, 2, 3, 4, 5, 6, 7, 8, 9, 10, 11, 12, 13, 14, 15, 16, 17, 18, 19, 20, 21, 22, 23, 24, 25, 26, 27, 28, 29, 30, 31, 32, 33, 34, 35, 36, 37, 38, 39, 40, 41, 43, 44, 45, 42, 46, 47, 48, 49, 50, 51, 52]) (by kernel_rfl)) ?_
  refine Xd rfl rfl (Xp rfl) Xq ?_
  refine Xd rfl rfl (Xp rfl) Xq ?_
  refine Y1 rfl rfl rfl rfl ?_ ?_
  intro hg44
  have hp44 := hg44; try simp only [decide_eq_true_eq, decide_eq_false_iff_not, Bool.not_eq_true', Bool.not_eq_false'] at hp44
  refine Xw rfl (Xf rfl rfl rfl hg44) rfl (Yh (cs := [.slice _ _ _, .int .i64 _, .int .u64 _]) rfl Tryz.underlying46 rfl inf46.size Yd) Xq ?_
  refine Xw rfl (Xf rfl rfl rfl hg44) rfl (X0 Xj) Xq ?_
  refine Xw rfl (Xf rfl rfl rfl hg44) rfl (Xb rfl) Xq ?_
  refine Xw rfl (Xf rfl rfl rfl hg44) rfl (Xs rfl rfl Tryz.underlying43 inf54.size X3 X3) Xq ?_
  refine Xw rfl (Xf rfl rfl rfl hg44) rfl (Yh (cs := [.slice _ _ _, .int .i64 _, .int .u64 _]) rfl Tryz.underlying54 rfl inf54.size Yd) Xq ?_
  refine Zz rfl (Xf rfl rfl rfl hg44) rfl (Xx (OfRow_ref _ _ _ _ _ _) rfl Tryz.func23 rfl rfl rfl ?_)
  rintro v120 H11 ⟨rfl, le11⟩; have zL := le11.1; have V1' := Xt le11 (by omega) (by intro e; cases e) V0'
  refine ⟨Ye, ?_⟩
  refine Zz rfl (Xf rfl rfl rfl hg44) rfl (Xx (SameRow_true x.nodes x.cost x.n A7 AD c7' cD _ (sl10.mono le11.sees) (hwD.mono le11.sees) (by omega)) rfl Tryz.func22 rfl rfl rfl ?_)
  rintro v121 H11 ⟨rfl, rfl⟩
  refine ⟨Ye, ?_⟩
  refine Xd rfl rfl (Xl (congrArg Value.bool hg44) rfl) Xq ?_
  refine Xd rfl rfl (Xp rfl) Xq ?_
  refine Y1 rfl rfl rfl rfl ?_ ?_
  intro hg45
  have hp45 := hg45; try simp only [decide_eq_true_eq, decide_eq_false_iff_not, Bool.not_eq_true', Bool.not_eq_false'] at hp45
  refine Xw rfl (Xf rfl rfl rfl hg45) rfl (Xb rfl) Xq ?_
  refine Xw rfl (Xf rfl rfl rfl hg45) rfl (Xb rfl) Xq ?_
  refine Xw rfl (Xf rfl rfl rfl hg45) rfl (Zr rfl rfl) Xq ?_
  refine Xd rfl rfl (Xl (congrArg Value.bool hg45) rfl) Xq ?_
  refine Xd rfl rfl (Xp rfl) Xq ?_
  refine Y1 rfl rfl rfl rfl ?_ ?_
  intro hg46
  have hp46 := hg46; try simp only [decide_eq_true_eq, decide_eq_false_iff_not, Bool.not_eq_true', Bool.not_eq_false'] at hp46
  refine Xw rfl (Xf rfl rfl rfl hg46) rfl (Xp rfl) Xq ?_
  refine Xw rfl (Xf rfl rfl rfl hg46) rfl (Xb Xj) Xq ?_
  refine Xw rfl (Xf rfl rfl rfl hg46) rfl (Yx rfl rfl) Xq ?_
  refine Xw rfl (Xf rfl rfl rfl hg46) rfl (av_beq rfl rfl Tryz.underlying4) Xq ?_
  refine Xd rfl rfl (Xl (congrArg Value.bool hg46) rfl) Xq ?_
  refine Xd rfl rfl (Xp rfl) Xq ?_
  refine Y1 rfl rfl rfl rfl ?_ ?_
  intro hg47
  have hp47 := hg47; try simp only [decide_eq_true_eq, decide_eq_false_iff_not, Bool.not_eq_true', Bool.not_eq_false'] at hp47
  refine Xw rfl (Xf rfl rfl rfl hg47) rfl (Xp rfl) Xq ?_
  refine Xw rfl (Xf rfl rfl rfl hg47) rfl (Zw rfl) Xq ?_
  refine Xw rfl (Xf rfl rfl rfl hg47) rfl (Xp rfl) Xq ?_
  refine Y1 rfl rfl rfl rfl ?_ ?_
  intro hg48
  have hno1 : ok1 = false := by have h := hg48; simpa using h
  refine X2 rfl (Xk rfl rfl rfl hg48 rfl) ?_
  refine X2 rfl (Xk rfl rfl rfl hg48 rfl) ?_
  refine X2 rfl (Xk rfl rfl rfl hg48 rfl) ?_
  refine X2 rfl (Xk rfl rfl rfl hg48 rfl) ?_
  refine X2 rfl (Xk rfl rfl rfl hg48 rfl) ?_
  refine Xw rfl (Xf rfl rfl rfl hg47) rfl (Xl (congrArg Value.bool hg48) Xj) Xq ?_
  refine Xd rfl rfl (Xl (congrArg Value.bool hg47) rfl) Xq ?_
  refine Xd rfl rfl (Xp rfl) Xq ?_
  refine Xw rfl (Xf rfl rfl rfl rfl) rfl (Xb rfl) Xq ?_
  refine Xw rfl (Xf rfl rfl rfl rfl) rfl (Xi (off := 0) Xj Tryz.underlying26 Xj inf22.size (by decide) Xj) Xq ?_
  refine Xw rfl (Xf rfl rfl rfl rfl) rfl (Xm rfl Tryz.underlying22 rfl Xr) Xq ?_
  refine Xw rfl (Xf rfl rfl rfl rfl) rfl (Yk rfl Tryz.underlying22) Xq ?_
  refine Xw rfl (Xf rfl rfl rfl rfl) rfl (Vy rfl rfl) Xq ?_
  refine Xd rfl rfl (Xl (congrArg Value.bool rfl) rfl) Xq ?_
  refine Xd rfl rfl (Xp rfl) Xq ?_
  refine Y1 rfl rfl rfl rfl ?_ ?_
  intro hg49
  have hp49 := hg49; try simp only [decide_eq_true_eq, decide_eq_false_iff_not, Bool.not_eq_true', Bool.not_eq_false'] at hp49
  refine Xw rfl (Xf rfl rfl rfl hg49) rfl (Xb rfl) Xq ?_
  refine Xw rfl (Xf rfl rfl rfl hg49) rfl (Xy Xj) Xq ?_
  refine Xw rfl (Xf rfl rfl rfl hg49) rfl (Xi (off := 0) Xj Tryz.underlying26 Xj inf22.size (by decide) Xj) Xq ?_
  refine Xw rfl (Xf rfl rfl rfl hg49) rfl (Xm rfl Tryz.underlying22 rfl Xr) Xq ?_
  refine Xw rfl (Xf rfl rfl rfl hg49) rfl (Yk rfl Tryz.underlying22) Xq ?_
  refine Zz rfl (Xf rfl rfl rfl hg49) rfl (Xx (Size_tree (trR.mono (Hp.le_trans leR10 le11)) (by rw [hT.l2]; exact Nat.le_trans hT.few (by decide)) hT.lens) rfl Tryz.func37 rfl rfl rfl ?_)
  rintro v155 H11 ⟨rfl, rfl⟩
  refine ⟨Ye, ?_⟩
  refine Xw rfl (Xf rfl rfl rfl hg49) rfl (Yg rfl rfl Yp) Xq ?_
  refine Xw rfl (Xf rfl rfl rfl hg49) rfl (av_le rfl rfl) Xq ?_
  refine Xd rfl rfl (Xl (congrArg Value.bool hg49) rfl) Xq ?_
  refine Xd rfl rfl (Xp rfl) Xq ?_
  refine Y1 rfl rfl rfl rfl ?_ ?_
  intro hg50
  have hp50 := hg50; try simp only [decide_eq_true_eq, decide_eq_false_iff_not, Bool.not_eq_true', Bool.not_eq_false'] at hp50
  refine Zz rfl (Xf rfl rfl rfl hg50) rfl (Xx (Vg _) rfl Tryz.func28 rfl rfl rfl ?_)
  rintro v H' ⟨rfl, hlv⟩
  refine ⟨Ye, ?_⟩
  refine Xd rfl rfl (Xl (congrArg Value.bool hg50) rfl) Xq ?_
  refine Xd rfl rfl (Xo rfl) Xq ?_
  refine X5 ?_
  exact ⟨.bool true, Xz (Xu rfl), rfl, Hp.le_trans (Hp.le_trans leH10 le11) hlv⟩
  intro hg50
  (have h := of_decide_eq_false hg50; exfalso; omega)
  intro hg49
  (have h := of_decide_eq_false hg49; exfalso; omega)
  intro hg48
  have hyes1 : ok1 = true := by have h := hg48; simpa using h
  refine Xw rfl (Xf rfl rfl rfl hg48) rfl (Xb rfl) Xq ?_
  refine Xw rfl (Xf rfl rfl rfl hg48) rfl (Xb rfl) Xq ?_
  refine Xw rfl (Xf rfl rfl rfl hg48) rfl (av_addn_is (hsx hyes1) rfl rfl) Xq ?_
  refine Xw rfl (Xf rfl rfl rfl hg48) rfl (Xb Xj) Xq ?_
  refine Xw rfl (Xf rfl rfl rfl hg48) rfl (Zr rfl rfl) Xq ?_
  refine Xw rfl (Xf rfl rfl rfl hg47) rfl (Xl (congrArg Value.bool hg48) rfl) Xq ?_
  refine Xd rfl rfl (Xl (congrArg Value.bool hg47) rfl) Xq ?_
  refine Xd rfl rfl (Xp rfl) Xq ?_
  refine Y1 rfl rfl rfl rfl ?_ ?_
  intro hg51
  have hp51 := hg51; try simp only [decide_eq_true_eq, decide_eq_false_iff_not, Bool.not_eq_true', Bool.not_eq_false'] at hp51
  refine Xw rfl (Xf rfl rfl rfl hg51) rfl (Xb rfl) Xq ?_
  refine Xw rfl (Xf rfl rfl rfl hg51) rfl (Xi (off := 0) Xj Tryz.underlying26 Xj inf22.size (by decide) Xj) Xq ?_
  refine Xw rfl (Xf rfl rfl rfl hg51) rfl (Xm rfl Tryz.underlying22 rfl Xr) Xq ?_
  refine Xw rfl (Xf rfl rfl rfl hg51) rfl (Yk rfl Tryz.underlying22) Xq ?_
  refine Xw rfl (Xf rfl rfl rfl hg51) rfl (Vy rfl rfl) Xq ?_
  refine Xd rfl rfl (Xl (congrArg Value.bool hg51) rfl) Xq ?_
  refine Xd rfl rfl (Xp rfl) Xq ?_
  refine Y1 rfl rfl rfl rfl ?_ ?_
  intro hg52
  have hp52 := hg52; try simp only [decide_eq_true_eq, decide_eq_false_iff_not, Bool.not_eq_true', Bool.not_eq_false'] at hp52
  refine Xw rfl (Xf rfl rfl rfl hg52) rfl (Xb rfl) Xq ?_
  refine Xw rfl (Xf rfl rfl rfl hg52) rfl (Xy Xj) Xq ?_
  refine Xw rfl (Xf rfl rfl rfl hg52) rfl (Xi (off := 0) Xj Tryz.underlying26 Xj inf22.size (by decide) Xj) Xq ?_
  refine Xw rfl (Xf rfl rfl rfl hg52) rfl (Xm rfl Tryz.underlying22 rfl Xr) Xq ?_
  refine Xw rfl (Xf rfl rfl rfl hg52) rfl (Yk rfl Tryz.underlying22) Xq ?_
  refine Zz rfl (Xf rfl rfl rfl hg52) rfl (Xx (Size_tree (trR.mono (Hp.le_trans leR10 le11)) (by rw [hT.l2]; exact Nat.le_trans hT.few (by decide)) hT.lens) rfl Tryz.func37 rfl rfl rfl ?_)
  rintro v155 H11 ⟨rfl, rfl⟩
  refine ⟨Ye, ?_⟩
  refine Xw rfl (Xf rfl rfl rfl hg52) rfl (Yg rfl rfl Yp) Xq ?_
  refine Xw rfl (Xf rfl rfl rfl hg52) rfl (av_le rfl rfl) Xq ?_
  refine Xd rfl rfl (Xl (congrArg Value.bool hg52) rfl) Xq ?_
  refine Xd rfl rfl (Xp rfl) Xq ?_
  refine Y1 rfl rfl rfl rfl ?_ ?_
  intro hg53
  have hp53 := hg53; try simp only [decide_eq_true_eq, decide_eq_false_iff_not, Bool.not_eq_true', Bool.not_eq_false'] at hp53
  refine Zz rfl (Xf rfl rfl rfl hg53) rfl (Xx (Vg _) rfl Tryz.func28 rfl rfl rfl ?_)
  rintro v H' ⟨rfl, hlv⟩
  refine ⟨Ye, ?_⟩
  refine Xd rfl rfl (Xl (congrArg Value.bool hg53) rfl) Xq ?_
  refine Xd rfl rfl (Xo rfl) Xq ?_
  refine X5 ?_
  exact ⟨.bool true, Xz (Xu rfl), rfl, Hp.le_trans (Hp.le_trans leH10 le11) hlv⟩
  intro hg53
  (have h := of_decide_eq_false hg53; exfalso; omega)
  intro hg52
  (have h := of_decide_eq_false hg52; exfalso; omega)
  intro hg51
  (have h := hg51; simp at h)
  intro hg47
  exact absurd hokd (of_decide_eq_false hg47)
  intro hg46
  exact absurd rfl (of_decide_eq_false hg46)
  intro hg45
  exact absurd hg45 (by decide)
  intro hg44
  exact absurd hg44 (by decide)
end Go.Proofs.YtmakkmcjocjgmaaGreat.Am


/- Links among the arguments of a statement. -/
namespace Go.Proofs.YtmakkmcjocjgmaaGreat.Am
open Go Go.RowKit
set_option maxRecDepth 100000
theorem cells_i64 : Tryz.prog.cellsOf 3 = 1 := by kernel_rfl
theorem cells_u64 : Tryz.prog.cellsOf 30 = 1 := by kernel_rfl
theorem cells_link : Tryz.prog.cellsOf 96 = 4 := by kernel_rfl
theorem opens_ints : Opens Tryz.prog (Vx (Yz .i64)) 23 (fun xs => xs.length ≤ maxLen ∧ ∀ x ∈ xs, fits .i64 x) := opens_sl Tryz.underlying23 cells_i64 (opens_int Tryz.underlying3)
theorem opens_link : Opens Tryz.prog kLink 96 (fun x => fits .i64 x.a ∧ fits .i64 x.b ∧ fits .i64 x.cost ∧ fits .u64 x.n) := fun Hh enc W fuel cs x h => by
  obtain ⟨xs, n, _, _, hl, hxs, hf⟩ := DataW.trod_struct Tryz.underlying96 h
  rw [cells_link] at hl
  have hxs : xs.length = 4 := hxs
  match cs, hl with
  | [c0, c1, c2, c3], _ =>
    have f0 : DataW.trod enc Tryz.prog W 0 (fun _ => true) true n 3 (([c0, c1, c2, c3].drop 0).take (Tryz.prog.cellsOf 3)) = xs[0]? := hf 0 _ rfl
    have f1 : DataW.trod enc Tryz.prog W 0 (fun _ => true) true n 3 (([c0, c1, c2, c3].drop 1).take (Tryz.prog.cellsOf 3)) = xs[1]? := hf 1 _ rfl
    have f2 : DataW.trod enc Tryz.prog W 0 (fun _ => true) true n 3 (([c0, c1, c2, c3].drop 2).take (Tryz.prog.cellsOf 3)) = xs[2]? := hf 2 _ rfl
    have f3 : DataW.trod enc Tryz.prog W 0 (fun _ => true) true n 30 (([c0, c1, c2, c3].drop 3).take (Tryz.prog.cellsOf 30)) = xs[3]? := hf 3 _ rfl
    rw [cells_i64, List.getElem?_eq_getElem (show 0 < xs.length by omega)] at f0
    rw [cells_i64, List.getElem?_eq_getElem (show 1 < xs.length by omega)] at f1
    rw [cells_i64, List.getElem?_eq_getElem (show 2 < xs.length by omega)] at f2
    rw [cells_u64, List.getElem?_eq_getElem (show 3 < xs.length by omega)] at f3
    obtain ⟨y0, r0, b0, v0⟩ := opens_int (P := Tryz.prog) Tryz.underlying3 Hh enc W n _ _ f0
    obtain ⟨y1, r1, b1, v1⟩ := opens_int (P := Tryz.prog) Tryz.underlying3 Hh enc W n _ _ f1
    obtain ⟨y2, r2, b2, v2⟩ := opens_int (P := Tryz.prog) Tryz.underlying3 Hh enc W n _ _ f2
    obtain ⟨y3, r3, b3, v3⟩ := opens_int (P := Tryz.prog) Tryz.underlying30 Hh enc W n _ _ f3
    refine ⟨⟨y0, y1, y2, y3⟩, ?_, ⟨b0, b1, b2, b3⟩, fun v hv => ?_⟩
    · have e0 : [absV W c0] = [Value.int .i64 y0] := r0
      have e1 : [absV W c1] = [Value.int .i64 y1] := r1
      have e2 : [absV W c2] = [Value.int .i64 y2] := r2
      have e3 : [absV W c3] = [Value.int .u64 y3] := r3
      simp only [List.cons.injEq, and_true] at e0 e1 e2 e3
      simp [kLink, e0, e1, e2, e3]
    · simp at hv
      rcases hv with rfl | rfl | rfl | rfl
      · exact v0 _ (List.mem_singleton.2 rfl)
      · exact v1 _ (List.mem_singleton.2 rfl)
      · exact v2 _ (List.mem_singleton.2 rfl)
      · exact v3 _ (List.mem_singleton.2 rfl)
theorem opens_links : Opens Tryz.prog (Vx kLink) 83 (fun xs => xs.length ≤ maxLen ∧ ∀ x ∈ xs, fits .i64 x.a ∧ fits .i64 x.b ∧ fits .i64 x.cost ∧ fits .u64 x.n) := opens_sl Tryz.underlying83 cells_link opens_link
end Go.Proofs.YtmakkmcjocjgmaaGreat.Am


/- Forests and parts among the arguments of a statement. -/
namespace Go.Proofs.YtmakkmcjocjgmaaGreat.Am
open Go Go.RowKit
set_option maxRecDepth 100000
theorem cells_links : Tryz.prog.cellsOf 83 = 1 := by kernel_rfl
theorem cells_ints : Tryz.prog.cellsOf 23 = 1 := by kernel_rfl
theorem cells_str : Tryz.prog.cellsOf 9 = 1 := by kernel_rfl
theorem cells_strs : Tryz.prog.cellsOf 22 = 1 := by kernel_rfl
theorem cells_intss : Tryz.prog.cellsOf 24 = 1 := by kernel_rfl
theorem cells_linkss : Tryz.prog.cellsOf 27 = 1 := by kernel_rfl
theorem cells_parts : Tryz.prog.cellsOf 29 = 2 := by kernel_rfl
theorem cells_forest : Tryz.prog.cellsOf 26 = 5 := by kernel_rfl
theorem opens_strs : Opens Tryz.prog (Vx kStr) 22 (fun xs => xs.length ≤ maxLen ∧ ∀ x ∈ xs, x.size ≤ maxLen) := opens_sl Tryz.underlying22 cells_str (opens_str Tryz.underlying9)
theorem opens_intss : Opens Tryz.prog (Vx (Vx (Yz .i64))) 24 (fun xs => xs.length ≤ maxLen ∧ ∀ x ∈ xs, x.length ≤ maxLen ∧ ∀ n ∈ x, fits .i64 n) := opens_sl Tryz.underlying24 cells_ints opens_ints
theorem opens_linkss : Opens Tryz.prog (Vx (Vx kLink)) 27 (fun xs : List (List Link) => xs.length ≤ maxLen ∧ ∀ l ∈ xs, l.length ≤ maxLen ∧ ∀ x ∈ l, fits .i64 x.a ∧ fits .i64 x.b ∧ fits .i64 x.cost ∧ fits .u64 x.n) := opens_sl Tryz.underlying27 cells_links opens_links
theorem opens_parts : Opens Tryz.prog kParts 29 BigP := fun Hh enc W fuel cs x h => by
  obtain ⟨xs, n, _, _, hl, hxs, hf⟩ := DataW.trod_struct Tryz.underlying29 h
  rw [cells_parts] at hl
  have hxs : xs.length = 2 := hxs
  match cs, hl with
  | [c0, c1], _ =>
    have f0 : DataW.trod enc Tryz.prog W 0 (fun _ => true) true n 27 (([c0, c1].drop 0).take (Tryz.prog.cellsOf 27)) = xs[0]? := hf 0 _ rfl
    have f1 : DataW.trod enc Tryz.prog W 0 (fun _ => true) true n 27 (([c0, c1].drop 1).take (Tryz.prog.cellsOf 27)) = xs[1]? := hf 1 _ rfl
    rw [cells_linkss, List.getElem?_eq_getElem (show 0 < xs.length by omega)] at f0
    rw [cells_linkss, List.getElem?_eq_getElem (show 1 < xs.length by omega)] at f1
    obtain ⟨y0, ⟨w0, r0, s0⟩, b0, v0⟩ := opens_linkss Hh enc W n _ _ f0
    obtain ⟨y1, ⟨w1, r1, s1⟩, b1, v1⟩ := opens_linkss Hh enc W n _ _ f1
    refine ⟨⟨y0, y1⟩, ⟨w0, w1, ?_, s0, s1⟩, ⟨b0.1, b1.1, fun l hl => (b0.2 l hl).1, fun l hl => (b1.2 l hl).1⟩, fun v hv => ?_⟩
    · have e0 : [absV W c0] = [w0] := r0
      have e1 : [absV W c1] = [w1] := r1
      simp only [List.cons.injEq, and_true] at e0 e1
      simp [e0, e1]
    · simp at hv
      rcases hv with rfl | rfl
      · exact v0 _ (List.mem_singleton.2 rfl)
      · exact v1 _ (List.mem_singleton.2 rfl)
theorem opens_forest : Opens Tryz.prog kForest 26 BigF := fun Hh enc W fuel cs x h => by
  obtain ⟨xs, n, _, _, hl, hxs, hf⟩ := DataW.trod_struct Tryz.underlying26 h
  rw [cells_forest] at hl
  have hxs : xs.length = 5 := hxs
  match cs, hl with
  | [c0, c1, c2, c3, c4], _ =>
    have f0 : DataW.trod enc Tryz.prog W 0 (fun _ => true) true n 22 (([c0, c1, c2, c3, c4].drop 0).take (Tryz.prog.cellsOf 22)) = xs[0]? := hf 0 _ rfl
    have f1 : DataW.trod enc Tryz.prog W 0 (fun _ => true) true n 23 (([c0, c1, c2, c3, c4].drop 1).take (Tryz.prog.cellsOf 23)) = xs[1]? := hf 1 _ rfl
    have f2 : DataW.trod enc Tryz.prog W 0 (fun _ => true) true n 23 (([c0, c1, c2, c3, c4].drop 2).take (Tryz.prog.cellsOf 23)) = xs[2]? := hf 2 _ rfl
    have f3 : DataW.trod enc Tryz.prog W 0 (fun _ => true) true n 24 (([c0, c1, c2, c3, c4].drop 3).take (Tryz.prog.cellsOf 24)) = xs[3]? := hf 3 _ rfl
    have f4 : DataW.trod enc Tryz.prog W 0 (fun _ => true) true n 24 (([c0, c1, c2, c3, c4].drop 4).take (Tryz.prog.cellsOf 24)) = xs[4]? := hf 4 _ rfl
    rw [cells_strs, List.getElem?_eq_getElem (show 0 < xs.length by omega)] at f0
    rw [cells_ints, List.getElem?_eq_getElem (show 1 < xs.length by omega)] at f1
    rw [cells_ints, List.getElem?_eq_getElem (show 2 < xs.length by omega)] at f2
    rw [cells_intss, List.getElem?_eq_getElem (show 3 < xs.length by omega)] at f3
    rw [cells_intss, List.getElem?_eq_getElem (show 4 < xs.length by omega)] at f4
    obtain ⟨y0, ⟨w0, r0, s0⟩, b0, v0⟩ := opens_strs Hh enc W n _ _ f0
    obtain ⟨y1, ⟨w1, r1, s1⟩, b1, v1⟩ := opens_ints Hh enc W n _ _ f1
    obtain ⟨y2, ⟨w2, r2, s2⟩, b2, v2⟩ := opens_ints Hh enc W n _ _ f2
    obtain ⟨y3, ⟨w3, r3, s3⟩, b3, v3⟩ := opens_intss Hh enc W n _ _ f3
    obtain ⟨y4, ⟨w4, r4, s4⟩, b4, v4⟩ := opens_intss Hh enc W n _ _ f4
    refine ⟨⟨y0, y1, y2, y3, y4⟩, ⟨w0, w1, w2, w3, w4, ?_, s0, s1, s2, s3, s4⟩, ⟨b0.1, b1.1, b2.1, b3.1, b4.1, fun l hl => (b3.2 l hl).1, fun l hl => (b4.2 l hl).1⟩, fun v hv => ?_⟩
    · have e0 : [absV W c0] = [w0] := r0
      have e1 : [absV W c1] = [w1] := r1
      have e2 : [absV W c2] = [w2] := r2
      have e3 : [absV W c3] = [w3] := r3
      have e4 : [absV W c4] = [w4] := r4
      simp only [List.cons.injEq, and_true] at e0 e1 e2 e3 e4
      simp [e0, e1, e2, e3, e4]
    · simp at hv
      rcases hv with rfl | rfl | rfl | rfl | rfl
      · exact v0 _ (List.mem_singleton.2 rfl)
      · exact v1 _ (List.mem_singleton.2 rfl)
      · exact v2 _ (List.mem_singleton.2 rfl)
      · exact v3 _ (List.mem_singleton.2 rfl)
      · exact v4 _ (List.mem_singleton.2 rfl)
end Go.Proofs.YtmakkmcjocjgmaaGreat.Am
