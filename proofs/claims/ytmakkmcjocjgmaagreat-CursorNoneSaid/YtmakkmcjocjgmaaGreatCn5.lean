/- Texts that the proof rests on, part 5: lemmas for every heap that is related to a world, no condition beyond each lemma's own. -/
import Derived.Test.YtmakkmcjocjgmaaGreatCn4
import Derived.Test.YtmakkmcjocjgmaaGreatCn1
import Derived.Test.YtmakkmcjocjgmaaGreatCnRow

/- A walk is put to a row; the first row below some nodes. -/
namespace Go.Proofs.YtmakkmcjocjgmaaGreat.Am
open Go Go.RowKit
set_option maxRecDepth 100000
set_option linter.unusedVariables false
set_option linter.unusedSimpArgs false

theorem least_walk {T : TreeT} (hT : GoodT T) (hA : Alive T) {tb : Nat} {u : Value} {p : List Int} {H : Hp} (ht : TreeR H (.pointer (some ⟨tb, 0, none⟩)) T) (hu : Sl (Yz .i64) H u p) (hp : Path T p) (h0 : 0 < p.length) (hl : p.length ≤ T.vars.length) :
    ACalls Tryz.prog 120 #[.pointer (some ⟨tb, 0, none⟩), u] H (fun r H' => H.le H' ∧ ∃ o, TellsH T o (extN T (T.vars.length - p.length) p) ∧ RowO H' r o) := by
  have hfew := hT.few
  have hleast := least_is hT hA hp h0 hl
  refine Xv Tryz.func120 rfl rfl rfl (by simp) ?_
  refine Xe ?_
  refine Xb (by kernel_rfl) ?_
  refine Xy (Yp (l := [.slice none 0 0, .int .i64 0, .int .u64 0]) inf46.zero rfl (by decide)) ?_
  refine Xa (Xh rfl) ?_
  refine Xe ?_
  refine Xb (by kernel_rfl) ?_
  refine Xa (Xt rfl) ?_
  refine Xw (Xx (fresh_tree tb _) rfl Tryz.func115 rfl rfl rfl ?_)
  rintro v3 H3 ⟨rfl, hle3, ⟨B3, c3, hwb3, gw3, hown3⟩⟩; have z3 := hle3.1; simp only [Hp.push_size] at z3; have hz3 : H3.get H.size = .own 0 [.slice none 0 0, .int .i64 0, .int .u64 0] := Xs hle3 (by simp) (by intro e; cases e) X6; have ht3 := (ht.mono (H.le_push (.own 0 [.slice none 0 0, .int .i64 0, .int .u64 0]))).mono hle3; have hu3 := (hu.mono (H.le_push (.own 0 [.slice none 0 0, .int .i64 0, .int .u64 0])).sees).mono hle3.sees; simp only [Hp.push_size] at gw3 hwb3
  refine Xa (Zc rfl) ?_
  refine Xe ?_
  refine Xb (by kernel_rfl) ?_
  refine Xa (Xt rfl) ?_
  refine Xa (Xt rfl) ?_
  refine Xa (X5 rfl) ?_
  refine Xa (Xg (off := 1) rfl Tryz.underlying167 rfl inf23.size (by decide) rfl) ?_
  refine Xa (Xk rfl Tryz.underlying23 rfl Xq) ?_
  refine Xa (Y8 rfl) ?_
  refine Xw (OwnP.append (ys := p) hown3 Tryz.underlying23 inf3 Xn Xn rfl hu3 (by simp only [List.length_nil]; omega) (by simp only [List.length_nil]; omega) ?_)
  rintro v9 G5 H5 hle5 hown5
  rw [List.nil_append] at hown5
  have hsameO := OwnP.sameO hown3 hle5 hown5
  obtain ⟨B5, c5, rfl⟩ := hown5.shape
  have z5 := hle5.1
  have zz5 := hown5.size
  have gw5 := Xs hle5 (by omega) (by intro e; cases e) gw3
  have gz5 := Xs hle5 (by omega) (by intro e; cases e) hz3
  have hw5 := Xs hown5.le (by omega) (by intro e; cases e) gw5
  have hz5 := Xs hown5.le (by omega) (by intro e; cases e) gz5
  have ht5 := ht3.mono hle5
  have hu5 := hu3.mono hle5.sees
  refine Xa (X5 rfl) ?_
  refine Xa (Xg (off := 1) rfl Tryz.underlying167 rfl inf23.size (by decide) rfl) ?_
  first | refine Xw (Yu rfl rfl rfl inf23.size X6 Ya rfl ?_)
  refine Xe ?_
  refine Xe ?_
  obtain ⟨H6, hH6⟩ : ∃ H6, H6 = H5.put (H.size + 1) (.own 0 [.pointer (some ⟨tb, 0, none⟩), .slice B5 p.length c5, .bool false, .bool false, .int .i64 0]) := ⟨_, rfl⟩
  obtain ⟨G6, hG6⟩ : ∃ G6, G6 = G5.put (H.size + 1) (.own 0 [.pointer (some ⟨tb, 0, none⟩), .slice B5 p.length c5, .bool false, .bool false, .int .i64 0]) := ⟨_, rfl⟩
  have hown6 : OwnP (Yz .i64) G6 H6 (.slice B5 p.length c5) p := by rw [hG6, hH6]; exact hown5.put (by rw [gw5]; intro e; cases e) _ (Hp.sees_box _ gw5)
  have aw56 : Away (H.size + 1) G5 G6 := by rw [hG6]; exact Away.put (.refl _ _) _
  have gw6 : G6.get (H.size + 1) = .own 0 [.pointer (some ⟨tb, 0, none⟩), .slice B5 p.length c5, .bool false, .bool false, .int .i64 0] := by rw [hG6]; exact Hp.put_same _ _ _
  have gz6 : G6.get H.size = .own 0 [.slice none 0 0, .int .i64 0, .int .u64 0] := aw56.keep (by omega) (by omega) (by intro e; cases e) gz5
  have z6 := aw56.size
  have zz6 := hown6.size
  have hW6 : Vb G6 H6 (H.size + 1) (.pointer (some ⟨tb, 0, none⟩)) ⟨p, false, false, 0⟩ := ⟨B5, c5, by omega, gw6, hown6⟩
  have ht6 := aw56.tree gw5 ht5
  have leG6 : H.le G6 := aw56.base (Hp.le_trans (Hp.le_trans (H.le_push _) hle3) hle5) (by omega)
  have leH6 := Hp.le_trans leG6 hown6.le
  have hu6 := hu.mono leH6.sees
  have htH6 := ht6.mono hown6.le
  change ACode true _ _ _ _ _ (H5.put (H.size + 1) (.own 0 [.pointer (some ⟨tb, 0, none⟩), .slice B5 p.length c5, .bool false, .bool false, .int .i64 0]))
  rw [← hH6]
  clear hH6 hG6 hsameO
  obtain ⟨AU, cU, rfl⟩ := hu6.shape
  refine Xb (by kernel_rfl) ?_
  refine Xa (X7 rfl) ?_
  refine Xa (Yr rfl Tryz.underlying23) ?_
  refine Xa (Xt rfl) ?_
  refine Xw (Xx (Len_tree htH6) rfl Tryz.func62 rfl rfl rfl ?_)
  rintro v10 H6 ⟨rfl, rfl⟩
  refine Xa (Zt rfl rfl) ?_
  refine X8 rfl rfl ?_ ?_
  intro hc1
  have hfull : p.length = T.vars.length := by have := of_decide_eq_true hc1; omega
  rw [if_pos hfull] at hleast
  refine Xe ?_
  refine Xb (by kernel_rfl) ?_
  refine Xa (Xt rfl) ?_
  refine Xw (Xx (row_walk hT hW6 ht6 (by show p.length ≤ _; omega)) rfl Tryz.func138 rfl rfl rfl ?_)
  rintro v11 H9 ⟨G9, le69, ⟨B9, c9, hwb9, gw9, hown9⟩, A9, k9, rfl, sl9⟩; have aw9 := Away.of_le (wb := H.size + 1) le69; have z9 := aw9.size; have gz9 := aw9.keep (by omega) (by omega) (by intro e; cases e) gz6; have hz9 := Xs hown9.le (by omega) (by intro e; cases e) gz9; have leG9 := aw9.base leG6 (by omega)
  refine Xa (Yb rfl rfl) ?_
  refine Xa (Yb rfl rfl) ?_
  refine Xw (X9 (vs := [.slice _ _ _, .int .i64 _, .int .u64 _]) rfl rfl inf46.size X6 Ya rfl rfl ?_)
  refine Xa (Xh rfl) ?_
  refine X2 ?_
  exact ⟨_, Yy (Yk Xn (Yj (cs := [_, _, _]) Tryz.underlying46 rfl inf46.size X4)) (Xu rfl), Hp.le_put_new (Hp.le_trans leG9 hown9.le) (Nat.le_refl _) _, _, hleast, A9, k9, rfl, (sl9.mono hown9.le.sees).mono (Hp.sees_box _ hz9)⟩
  intro hc1
  have hfull : ¬ p.length = T.vars.length := by have := of_decide_eq_false hc1; omega
  rw [if_neg hfull] at hleast
  refine Yf ?_
  refine Xe ?_
  refine Xb (by kernel_rfl) ?_
  refine Xa (Xt rfl) ?_
  refine Xw (Xx (next_walk hT hA hW6 (fun _ => ht6) ⟨hl, hp⟩ (Int.le_refl 0) (by show (0 : Int) ≤ 100000000000; decide) ⟨_, rfl⟩) rfl Tryz.func116 rfl rfl rfl ?_)
  rintro v11 H9 ⟨G9, aw9, ⟨B9, c9, hwb9, gw9, hown9⟩, A9, k9, rfl, sl9⟩; have z9 := aw9.size; have gz9 := aw9.keep (by omega) (by omega) (by intro e; cases e) gz6; have hz9 := Xs hown9.le (by omega) (by intro e; cases e) gz9; have leG9 := aw9.base leG6 (by omega)
  refine Xa (Yb rfl rfl) ?_
  refine Xa (Yb rfl rfl) ?_
  refine Xw (X9 (vs := [.slice _ _ _, .int .i64 _, .int .u64 _]) rfl rfl inf46.size X6 Ya rfl rfl ?_)
  refine Xa (Xh rfl) ?_
  refine X2 ?_
  exact ⟨_, Yy (Yk Xn (Yj (cs := [_, _, _]) Tryz.underlying46 rfl inf46.size X4)) (Xu rfl), Hp.le_put_new (Hp.le_trans leG9 hown9.le) (Nat.le_refl _) _, _, hleast, A9, k9, rfl, (sl9.mono hown9.le.sees).mono (Hp.sees_box _ hz9)⟩
end Go.Proofs.YtmakkmcjocjgmaaGreat.Am


/- The row behind any nodes. -/
namespace Go.Proofs.YtmakkmcjocjgmaaGreat.Am
open Go Go.RowKit
set_option maxRecDepth 100000
set_option linter.unusedVariables false
set_option linter.unusedSimpArgs false

theorem Sl.caps {α : Type} {k : Kd α} {H0 : Hp} {v : Value} {xs : List α} (hs : Sl k H0 v xs) {i : Nat} (hi : i < xs.length) : ∃ A S, Sl k H0 (.slice (some A) i i) (xs.take i) ∧ (∀ b ∈ S, b < H0.size ∧ H0.get b ≠ .dead) ∧
    ∀ (P : Program) (H : Hp) (t : Fr) (d : Option Tmp) (ty : TypeId) (pos : String) (after : Array Edge) (guard : Option (Nat × Bool)) (x y z : Operand) (xt e : TypeId) (k1 k2 : IntKind), H0.le H → t.eval x = v → P.underlying xt = some (.slice e) → (P.info? e).map (·.size) = some k.sz → t.eval y = .int k1 i → t.eval z = .int k2 i →
      AVal P ⟨d, .slice xt x none (some y) (some z), ty, pos, after, guard⟩ t S H (.slice (some A) i i) := by
  rcases hs with ⟨rfl, rfl⟩ | ⟨b, o, c, rfl, hb, hk, hx⟩
  · exact absurd hi (Nat.not_lt_zero _)
  · refine ⟨⟨b, o, none⟩, [b], .inr ⟨b, o, i, by rw [List.length_take, Nat.min_eq_left (Nat.le_of_lt hi)], hb, hk, fun j z hz => ?_⟩, fun u hu => by simp at hu; subst hu; exact ⟨hb, Blk.cut_ne hk⟩, fun P H t d ty pos after guard x y z xt e k1 k2 hle h1 h2 h3 h4 h5 => ?_⟩
    · rw [List.getElem?_take] at hz
      split at hz
      · exact hx j z hz
      · cases hz
    · have := av_slice3 (P := P) (t := t) (H := H) (d := d) (ty := ty) (pos := pos) (after := after) (guard := guard) (lo := none) (l := 0) (h := i) (m := i) h1 h2 h3 (.inl ⟨rfl, rfl⟩) h4 h5 (Nat.zero_le _) (Nat.le_refl _) (Nat.le_of_lt hi) (by rw [hle.2 b hb (Blk.cut_ne hk)]; exact Blk.cut_or hk)
      have e1 : (if i = 0 then o else o + 0 * k.sz) = o := by split <;> simp
      rwa [e1, Nat.sub_zero] at this
theorem Sl.grow {P : Program} {t : Fr} {d : Option Tmp} {ty : TypeId} {pos : String} {after : Array Edge} {guard : Option (Nat × Bool)} {K : Value → Hp → Prop} {H : Hp} {A : Addr} {xs : List Int} {i : Nat} {b2 c2 : Nat} {m : Int} {at_ e : TypeId} {x y : Operand} {by_ : Nat} {z : Value} (hs : Sl (Yz .i64) H (.slice (some A) i i) xs) (hu : P.underlying at_ = some (.slice e)) (hi : (P.info? e).map (fun i => (i.zero, i.size, i.bytes)) = some (some z, 1, by_)) (hzs : z.cells.size = 1)
    (hx : t.eval x = .slice (some A) i i) (hy : t.eval y = .slice (some ⟨b2, 0, none⟩) 1 c2) (hg : H.get b2 = .own 1 [.int .i64 m]) (hb1 : i + 1 ≤ 1000000) (hb2 : (i + 1) * by_ ≤ 140737488355328)
    (hk : ∀ H', H' = H.push (.own 1 ((xs ++ [m]).map (Value.int .i64))) → Sl (Yz .i64) H' (.slice (some ⟨H.size, 0, none⟩) (i + 1) unk) (xs ++ [m]) → K (.slice (some ⟨H.size, 0, none⟩) (i + 1) unk) H') : AOp P ⟨d, .call ⟨.builtin .append, #[x, y], #[at_, at_]⟩, ty, pos, after, guard⟩ t H K := by
  obtain ⟨b, o, eA, hlen⟩ : ∃ b o, A = ⟨b, o, none⟩ ∧ i = xs.length := by
    rcases hs with ⟨h, _⟩ | ⟨b, o, c, h, _⟩
    · cases h
    · injection h with h1 h2 h3
      injection h1 with h1
      exact ⟨b, o, h1, h2⟩
  subst eA
  have hcells : Cells H b o (xs.map (Value.int .i64)) := fun j v hj => by
    rw [List.getElem?_map] at hj
    cases hxj : xs[j]? with
    | none => rw [hxj] at hj; cases hj
    | some a =>
      rw [hxj] at hj
      injection hj with hj
      subst hj
      have hjl := (List.getElem?_eq_some_iff.1 hxj).1
      obtain ⟨b', o', e', hb', hc'⟩ := hs.int_at (i := (j : Int)) (by omega) (by omega)
      simp only [Option.some.injEq, Addr.mk.injEq, and_true] at e'
      obtain ⟨rfl, rfl⟩ := e'
      rw [Int.toNat_natCast, Nat.mul_one, List.getD_eq_getElem?_getD, hxj] at hc'
      exact hc'
  refine aop_append_new (olds := xs.map (Value.int .i64)) (news := [.int .i64 m]) hu hi hzs hx (.inr ⟨b, o, rfl, by unfold unk; omega, hcells, by rw [List.length_map, hlen, Nat.mul_one]⟩) (by omega) hy ?_ rfl (by decide) (by omega) hb2 ?_
  · intro j v hj
    cases j with
    | zero => injection hj with hj; subst hj; unfold Hp.cell?; rw [hg]; rfl
    | succ j => simp at hj
  · have e : xs.map (Value.int .i64) ++ [.int .i64 m] = (xs ++ [m]).map (Value.int .i64) := by rw [List.map_append]; rfl
    rw [e]
    have hl2 : i + 1 = (xs ++ [m]).length := by rw [List.length_append, hlen]; rfl
    exact hk _ rfl (by rw [hl2]; exact sl_ints (by simp) (Hp.push_new _ _))
theorem above_read {T : TreeT} (hT : GoodT T) {tv : Value} {wb : Nat} {H : Hp} {A : Option Addr} {c : Nat} {ns : List Int} {x y z : Value} (hw : H.get wb = .own 0 [tv, .slice A ns.length c, x, y, z]) (hs : Sl (Yz .i64) H (.slice A ns.length c) ns) (ht : TreeR H tv T) (i : Nat) (hi : i < T.vars.length) (hl : i ≤ ns.length) :
    ACalls Tryz.prog 118 #[.pointer (some ⟨wb, 0, none⟩), .int .i64 i] H (fun r H' => r = .int .i64 (Yl T ns i) ∧ H' = H) := by
  have hp := hT.par i hi
  obtain ⟨tb, _, _, _, _, _, etv, _⟩ := id ht
  subst etv
  refine Xv Tryz.func118 rfl rfl rfl (by simp) ?_
  refine Xe ?_
  refine Xb (by kernel_rfl) ?_
  refine Xa (Xo rfl) ?_
  refine Xe ?_
  refine Xe ?_
  refine Xb (by kernel_rfl) ?_
  refine Xa (Xt rfl) ?_
  refine Xa (X5 rfl) ?_
  refine Xa (Xg (off := 0) rfl Tryz.underlying167 rfl inf37.size (by decide) rfl) ?_
  refine Xa (Xk rfl Tryz.underlying37 rfl Xq) ?_
  refine Xa (Xf rfl) ?_
  refine Xw (Xx (Parent_tree ht hT.l1 (i : Int)) rfl Tryz.func121 rfl rfl rfl ?_)
  rintro v6 H ⟨rfl, rfl⟩; rw [if_pos ⟨by omega, by omega⟩, Int.toNat_natCast]
  refine Xa (Xo rfl) ?_
  refine Xe ?_
  refine Xb (by kernel_rfl) ?_
  refine Xa (Xf rfl) ?_
  refine Xa (Vg rfl rfl) ?_
  refine X8 rfl rfl ?_ ?_
  intro hc1
  have hne : T.parent.getD i 0 ≠ -1 := of_decide_eq_true hc1
  have hpr := hp.resolve_left hne
  obtain ⟨b, o, rfl, hb, hcell⟩ := hs.int_at (i := T.parent.getD i 0) hpr.1 (by omega)
  refine Xe ?_
  refine Xb (by kernel_rfl) ?_
  refine Xa (Xt rfl) ?_
  refine Xa (X5 rfl) ?_
  refine Xa (Xg (off := 1) rfl Tryz.underlying167 rfl inf23.size (by decide) rfl) ?_
  refine Xa (Xk rfl Tryz.underlying23 rfl Xq) ?_
  refine Xa (Xf rfl) ?_
  refine Xa (Xz rfl rfl Tryz.underlying23 inf3.size Yc Yc) ?_
  refine Xa (Xk rfl Tryz.underlying3 rfl Xq) ?_
  refine Xa (Xo rfl) ?_
  refine X2 ?_
  exact ⟨.int .i64 (ns.getD (T.parent.getD i 0).toNat 0), X1 (Xu rfl), by unfold Yl; rw [if_neg hne], rfl⟩
  intro hc1
  have hne : T.parent.getD i 0 = -1 := Decidable.not_not.1 (of_decide_eq_false hc1)
  refine Yf ?_
  refine Xe ?_
  refine Xb (by kernel_rfl) ?_
  refine Xa (Xo rfl) ?_
  refine X2 ?_
  exact ⟨.int .i64 (-1), X1 (Xu rfl), by unfold Yl; rw [if_pos hne], rfl⟩
theorem behind1_raw (xs : List Link) (ns : List Int) (A B : Option Addr) (c c2 i j : Nat) (b1 b2 b3 : Nat) (H : Hp) (h1 : H.cell? b1 0 = some (.slice A xs.length c)) (h2 : H.cell? b2 0 = some (.slice B ns.length c2)) (h3 : H.cell? b3 0 = some (.int .i64 j)) (hs : Sl kLink H (.slice A xs.length c) xs) (hn : Sl (Yz .i64) H (.slice B ns.length c2) ns) (hi : i < xs.length) (hj : j < ns.length) (hb1 : b1 < H.size) (hb2 : b2 < H.size) (hb3 : b3 < H.size) :
    ACalls Tryz.prog 119 #[.int .i64 i, .pointer (some ⟨b1, 0, none⟩), .pointer (some ⟨b2, 0, none⟩), .pointer (some ⟨b3, 0, none⟩)] H (fun r _ => r = .bool (decide (ns.getD j 0 < xs[i].b))) := by
  obtain ⟨b, o, rfl, hb, hcell⟩ := hs.link_at hi
  have hcellb := hcell 1 _ rfl
  obtain ⟨b', o', rfl, hb', hcell'⟩ := hn.int_at (i := (j : Int)) (by omega) (by omega)
  rw [Int.toNat_natCast] at hcell'
  refine Xv Tryz.func119 rfl rfl rfl (by simp) ?_
  refine Xe ?_
  refine Xb (by kernel_rfl) ?_
  refine Xa (Xh rfl) ?_
  refine Xe ?_
  refine Yv (by kernel_rfl) (Y0 (B := [0, 0, 3, 7, 15, 0, 0, 96, 224, 511, 1023]) (π := [0, 1, 2, 3, 4, 5, 6, 7, 8, 9, 10]) (by kernel_rfl)) ?_
  refine Xd rfl rfl (Xk rfl Tryz.underlying83 rfl Xq) Xr ?_
  refine Xd rfl rfl (Xf rfl) Xr ?_
  refine Xd rfl rfl (Xz rfl rfl Tryz.underlying83 inf96.size Yc Yc) Xr ?_
  refine Xd rfl rfl (Xg (off := 1) rfl Tryz.underlying96 rfl inf3.size (by decide) rfl) Xr ?_
  refine Xd rfl rfl (Xk rfl Tryz.underlying3 rfl Xq) Xr ?_
  refine Xd rfl rfl (Xk rfl Tryz.underlying23 rfl Xq) Xr ?_
  refine Xd rfl rfl (Xk rfl Tryz.underlying3 rfl Xq) Xr ?_
  refine Xd rfl rfl (Xz rfl rfl Tryz.underlying23 inf3.size Yc Yc) Xr ?_
  refine Xd rfl rfl (Xk rfl Tryz.underlying3 rfl Xq) Xr ?_
  refine Xd rfl rfl (av_gt rfl rfl) Xr ?_
  refine Xd rfl rfl (Xh rfl) Xr ?_
  refine X2 ?_
  exact ⟨_, X1 (Xu rfl), rfl⟩
end Go.Proofs.YtmakkmcjocjgmaaGreat.Am


/- The row behind any nodes: the walk of each.Behind. -/
namespace Go.Proofs.YtmakkmcjocjgmaaGreat.Am
open Go Go.RowKit
set_option maxRecDepth 100000
set_option linter.unusedVariables false
set_option linter.unusedSimpArgs false

theorem av_func0 {P : Program} {t : Fr} {H : Hp} {d : Option Tmp} {ty : TypeId} {pos : String} {after : Array Edge} {guard : Option (Nat × Bool)} {f : FuncId} {cap : Array Operand} {cs : Array Value} (h : cap.toList.map t.eval = cs.toList) : AVal P ⟨d, .makeFunc (.func f) #[] cap, ty, pos, after, guard⟩ t [] H (.func (.func f) #[] cs) := by
  have := av_makeFunc (P := P) (t := t) (H := H) (d := d) (ty := ty) (pos := pos) (after := after) (guard := guard) (f := f) (first := #[]) (cap := cap)
  rw [h] at this
  exact this
set_option maxHeartbeats 2000000 in
theorem Behind_walk {T : TreeT} (hT : GoodT T) (hA : Alive T) {tb : Nat} {AU : Option Addr} {cU : Nat} {ns : List Int} {H : Hp} (ht : TreeR H (.pointer (some ⟨tb, 0, none⟩)) T) (hu : Sl (Yz .i64) H (.slice AU ns.length cU) ns) (hul : ns.length ≤ 1000000) :
    ACalls Tryz.prog 89 #[.pointer (some ⟨tb, 0, none⟩), .slice AU ns.length cU] H (fun r H' => H.le H' ∧ ∃ o, (ns.length = T.vars.length → TellsH T o (behN T ns)) ∧ (ns.length ≠ T.vars.length → o = none) ∧ RowO H' r o) := by
  have hfew := hT.few
  refine Xv Tryz.func89 rfl rfl rfl (by simp) ?_
  refine Xe ?_
  refine Xb (by kernel_rfl) ?_
  refine Xy (am_box_sl rfl) ?_
  refine Xy (Yp (l := [.slice none 0 0, .int .i64 0, .int .u64 0]) inf46.zero rfl (by decide)) ?_
  refine Xa (Xh rfl) ?_
  refine Xe ?_
  refine Xe ?_
  refine Yv (by kernel_rfl) (Y0 (B := [0, 1, 3, 7, 15, 7, 39, 127, 255]) (π := [0, 1, 2, 3, 4, 5, 6, 7, 8]) (by kernel_rfl)) ?_
  refine Xd rfl rfl (Xt rfl) Xr ?_
  refine Xd rfl rfl (Zz rfl t_spot rfl Tryz.underlying37) Xr ?_
  refine Xd rfl rfl (Xp rfl) Xr ?_
  refine Zi rfl rfl rfl rfl ?_ ?_
  intro hg1
  cases hg1
  intro hg1
  have hp1 := hg1; try simp only [decide_eq_true_eq, decide_eq_false_iff_not, Bool.not_eq_true', Bool.not_eq_false'] at hp1
  refine Yg rfl (Xi rfl rfl rfl hg1) rfl (Xk rfl Tryz.underlying23 rfl Xq) Xr ?_
  refine Yg rfl (Xi rfl rfl rfl hg1) rfl (Yr rfl Tryz.underlying23) Xr ?_
  refine Yg rfl (Xi rfl rfl rfl hg1) rfl (Xt rfl) Xr ?_
  refine Z1 rfl (Xi rfl rfl rfl hg1) rfl (Xx (Len_tree (ht.mono t_le)) rfl Tryz.func62 rfl rfl rfl ?_)
  rintro v10 H1 ⟨rfl, rfl⟩
  refine ⟨Yh, ?_⟩
  refine Yg rfl (Xi rfl rfl rfl hg1) rfl (Vg rfl rfl) Xr ?_
  refine Xd rfl rfl (Xm (congrArg Value.bool hg1) rfl) Xr ?_
  refine X8 rfl rfl ?_ ?_
  intro hc2
  have hne : ns.length ≠ T.vars.length := by have := of_decide_eq_true hc2; omega
  refine Xe ?_
  refine Xb (by kernel_rfl) ?_
  refine Xa (Ys (pl := [(0, 1), (1, 1), (2, 1)]) (r := [.slice _ _ _, .int .i64 _, .int .u64 _]) Tryz.underlying46 inf46.zero (by decide) rfl rfl) ?_
  refine Xw (X9 (vs := [.slice _ _ _, .int .i64 _, .int .u64 _]) rfl rfl inf46.size X6 Ya rfl rfl ?_)
  refine Xa (Xh rfl) ?_
  refine X2 ?_
  exact ⟨_, Yy (Yk Xn (Yj (cs := [_, _, _]) Tryz.underlying46 rfl inf46.size X4)) (Xu rfl), t_le, none, fun h => absurd h hne, fun _ => rfl, Vl _⟩
  intro hc2
  have hlen : ns.length = T.vars.length := by have := of_decide_eq_false hc2; omega
  refine Yf ?_
  refine Xe ?_
  refine Xb (by kernel_rfl) ?_
  refine Xa (Xt rfl) ?_
  refine Xw (Xx (fresh_tree tb _) rfl Tryz.func115 rfl rfl rfl ?_)
  rintro v3 H3 ⟨rfl, hle3, hW3⟩; simp only [Hp.push_size] at hW3; have z3 := hle3.1; simp only [Hp.push_size] at z3; have gu3 : H3.get H.size = .own 0 [.slice AU ns.length cU] := Xs hle3 (by simp; omega) (by intro e; cases e) X6; have gz3 : H3.get (H.size + 1) = .own 0 [.slice none 0 0, .int .i64 0, .int .u64 0] := Xs hle3 (by simp) (by intro e; cases e) X6; have leH3 : H.le H3 := Hp.le_trans (Hp.le_push' (H.le_push _) _) hle3
  refine Xa (Zc rfl) ?_
  refine Xa (Xo rfl) ?_
  refine Xe ?_
  refine ac_cut (fun t H' => ∃ (g : Nat) (B : Option Addr) (c : Nat), g ≤ ns.length ∧ H.le H' ∧ H.size + 2 < H'.size ∧ H'.get H.size = .own 0 [.slice AU ns.length cU] ∧ H'.get (H.size + 1) = .own 0 [.slice none 0 0, .int .i64 0, .int .u64 0] ∧ H'.get (H.size + 2) = .own 0 [.pointer (some ⟨tb, 0, none⟩), .slice B g c, .bool false, .bool false, .int .i64 0] ∧ (g < ns.length → Zl (T.group g (Yl T ns g)) (ns.getD g 0) = none) ∧ Path T (ns.take g) ∧ t 0 = .pointer (some ⟨tb, 0, none⟩) ∧ t 3 = .pointer (some ⟨H.size, 0, none⟩) ∧ t 4 = .pointer (some ⟨H.size + 1, 0, none⟩) ∧ t 6 = .pointer (some ⟨H.size + 2, 0, none⟩) ∧ t 7 = .int .i64 g) ?_ ?_
  refine Yo ?_
  refine Za (fun n t H' => ∃ (g : Nat) (G : Hp), n = ns.length - g ∧ g ≤ ns.length ∧ H.le G ∧ Vb G H' (H.size + 2) (.pointer (some ⟨tb, 0, none⟩)) ⟨ns.take g, false, false, 0⟩ ∧ Path T (ns.take g) ∧ G.get H.size = .own 0 [.slice AU ns.length cU] ∧ G.get (H.size + 1) = .own 0 [.slice none 0 0, .int .i64 0, .int .u64 0] ∧ t 0 = .pointer (some ⟨tb, 0, none⟩) ∧ t 3 = .pointer (some ⟨H.size, 0, none⟩) ∧ t 4 = .pointer (some ⟨H.size + 1, 0, none⟩) ∧ t 6 = .pointer (some ⟨H.size + 2, 0, none⟩) ∧ t 7 = .int .i64 g) (ns.length) (⟨0, H3, rfl, Nat.zero_le _, leH3, hW3, fun i h => absurd h (Nat.not_lt_zero _), gu3, gz3, rfl, rfl, rfl, rfl, rfl⟩) ?_
  rintro n t H1 ⟨g, G, rfl, hg, leG, hW, hpath, gu, gz, e0, e3, e4, e6, e7⟩
  obtain ⟨B, c, hwb, gw, hown⟩ := id hW
  have hw := Xs hown.le hwb (by intro e; cases e) gw
  have hgu := Xs hown.le (by omega) (by intro e; cases e) gu
  have hgz := Xs hown.le (by omega) (by intro e; cases e) gz
  have zz := hown.size
  have hlt : (ns.take g).length = g := by rw [List.length_take]; omega
  have htG := ht.mono leG
  have huG := hu.mono leG.sees
  refine Xe ?_
  refine Xe ?_
  refine Xb (by kernel_rfl) ?_
  refine Xa (Xf Xn) ?_
  refine Xa (Xk Xn Tryz.underlying23 Xn Xq) ?_
  refine Xa (Yr rfl Tryz.underlying23) ?_
  refine Xa (Zh rfl rfl) ?_
  refine X8 rfl rfl ?_ ?_
  intro hc3
  have hgl : g < ns.length := by have := of_decide_eq_true hc3; omega
  obtain ⟨bu, ou, eU, hbu, hcu⟩ := (huG.mono hown.le.sees).int_at (i := (g : Int)) (by omega) (by omega)
  rw [Int.toNat_natCast] at hcu
  obtain ⟨x, hx⟩ : ∃ x, x = ns.getD g 0 := ⟨_, rfl⟩
  rw [← hx] at hcu
  have hWp : ∀ y, Vb (G.push y) (H1.push y) (H.size + 2) (.pointer (some ⟨tb, 0, none⟩)) ⟨ns.take g, false, false, 0⟩ := fun y => ⟨B, c, by simp; omega, (Hp.push_old _ _ hwb).trans gw, hown.push _⟩
  subst eU
  refine Yf ?_
  refine Yo ?_
  refine Xe ?_
  refine Xe ?_
  refine Yv (by kernel_rfl) (Y0 (B := [0, 0, 0, 0, 12, 0, 0, 96, 224, 511, 1023, 2047, 2047, 0, 12287, 32767]) (π := [0, 1, 2, 3, 5, 6, 7, 8, 13, 4, 9, 10, 11, 12, 14, 15]) (by kernel_rfl)) ?_
  refine Xd rfl rfl (Xt Xn) Xr ?_
  refine Xd rfl rfl (Xf Xn) Xr ?_
  refine Xd rfl rfl (Xt Xn) Xr ?_
  refine Xd rfl rfl (Xf Xn) Xr ?_
  refine Xd rfl rfl (Xk Xn Tryz.underlying23 Xn Xq) Xr ?_
  refine Xd rfl rfl (Xf Xn) Xr ?_
  refine Xd rfl rfl (Xz rfl rfl Tryz.underlying23 inf3.size Yc Yc) Xr ?_
  refine Xd rfl rfl (Xk rfl Tryz.underlying3 rfl Xq) Xr ?_
  refine Y7 rfl rfl (Yp (l := [.int .i64 0, .int .i64 0, .int .i64 0, .int .u64 0]) inf96.zero rfl (by decide)) ?_
  refine Ym rfl rfl (Xx (above_walk hT (hWp _) (htG.mono (G.le_push _)) g (by omega) (by rw [hlt]; exact Nat.le_refl _)) rfl Tryz.func118 rfl rfl rfl ?_)
  rintro v7 H4 ⟨rfl, rfl⟩
  refine ⟨Yh, ?_⟩
  refine Ym rfl rfl (Xx (Find_tree ((htG.mono hown.le).mono (H1.le_push _)) hT.l1 hT.l2 hT.lens (g : Int) _ _ (hT.sort _ _)) rfl Tryz.func117 rfl rfl rfl ?_)
  rintro v8 H5 ⟨le15, rfl⟩; have z15 := le15.1; simp only [Hp.push_size] at z15; have hq5 : H5.get H1.size = .own 0 [.int .i64 0, .int .i64 0, .int .i64 0, .int .u64 0] := Xs le15 (by simp) (by intro e; cases e) X6; obtain ⟨f, hf⟩ : ∃ f, f = Zl (T.group g (Yl T (ns.take g) g)) x := ⟨_, rfl⟩; rw [← hf]; obtain ⟨G5, le5, hown5⟩ := (hown.push (.own 0 [.int .i64 0, .int .i64 0, .int .i64 0, .int .u64 0])).later le15; have z5 := le5.1; simp only [Hp.push_size] at z5; have zz5 := hown5.size
  refine ⟨Yh, ?_⟩
  refine Xd rfl rfl (Y8 rfl) Xr ?_
  refine Xd rfl rfl (Yb rfl rfl) Xr ?_
  refine Xd rfl rfl (Yb rfl rfl) Xr ?_
  first | refine Ym rfl rfl (X9 (vs := [.int .i64 _, .int .i64 _, .int .i64 _, .int .u64 _]) rfl rfl inf96.size X6 Ya rfl rfl ?_)
  refine ⟨Yh, ?_⟩
  refine Xd rfl rfl (Xh rfl) Xr ?_
  refine Xe ?_
  have gq5 : G5.get H1.size = .own 0 [.int .i64 0, .int .i64 0, .int .i64 0, .int .u64 0] := Xs le5 (by simp; omega) (by intro e; cases e) (by rw [zz]; exact Hp.push_new _ _)
  have leG5 := Hp.le_trans (Hp.le_push G _) le5
  obtain ⟨H6, hH6⟩ : ∃ H6, H6 = H5.put H1.size (.own 0 [.int .i64 (f.getD Zu).a, .int .i64 (f.getD Zu).b, .int .i64 (f.getD Zu).cost, .int .u64 (f.getD Zu).n]) := ⟨_, rfl⟩
  obtain ⟨G6, hG6⟩ : ∃ G6, G6 = G5.put H1.size (.own 0 [.int .i64 (f.getD Zu).a, .int .i64 (f.getD Zu).b, .int .i64 (f.getD Zu).cost, .int .u64 (f.getD Zu).n]) := ⟨_, rfl⟩
  have hown6 : OwnP (Yz .i64) G6 H6 (.slice B (ns.take g).length c) (ns.take g) := by rw [hG6, hH6]; exact hown5.put (by rw [gq5]; intro e; cases e) _ (Hp.sees_box _ gq5)
  have leG6 : G.le G6 := by rw [hG6]; exact Hp.le_put_new leG5 (by omega) _
  have gw6 := Xs leG6 hwb (by intro e; cases e) gw
  have gu6 := Xs leG6 (by omega) (by intro e; cases e) gu
  have gz6 := Xs leG6 (by omega) (by intro e; cases e) gz
  have z6 := leG6.1
  have zz6 := hown6.size
  have hw6 := Xs hown6.le (by omega) (by intro e; cases e) gw6
  have hgu6 := Xs hown6.le (by omega) (by intro e; cases e) gu6
  have hgz6 := Xs hown6.le (by omega) (by intro e; cases e) gz6
  have leHG6 := Hp.le_trans leG leG6
  have leH6 := Hp.le_trans leHG6 hown6.le
  obtain ⟨bu, ou, eU, hbu6, hcu6⟩ := (hu.mono leH6.sees).int_at (i := (g : Int)) (by omega) (by omega)
  rw [Int.toNat_natCast, ← hx] at hcu6
  simp only [Option.some.injEq, Addr.mk.injEq, and_true] at eU
  obtain ⟨rfl, rfl⟩ := eU
  change ACode true _ _ _ _ _ (H5.put H1.size (.own 0 [.int .i64 (f.getD Zu).a, .int .i64 (f.getD Zu).b, .int .i64 (f.getD Zu).cost, .int .u64 (f.getD Zu).n]))
  rw [← hH6]
  clear hH6 hG6
  have habv : Yl T ns g = Yl T (ns.take g) g := Zv hT (by omega) (fun j hj => (Vc hj).symm)
  refine Xb (by kernel_rfl) ?_
  refine Xa (Xp rfl) ?_
  refine Xa (Zq rfl) ?_
  refine X8 rfl rfl ?_ ?_
  intro hc4
  have hfn : f = none := by have h := hc4; cases f with | none => rfl | some r => cases h
  refine Y5 ?_
  first
    | exact ⟨g, B, c, hg, Hp.le_trans leG hown.le, by omega, hgu, hgz, by rw [hlt] at hw; exact hw, fun h => absurd h hgl, hpath, e0, e3, e4, e6, e7⟩
    | exact ⟨g, B, c, hg, leH6, by omega, hgu6, hgz6, by rw [hlt] at hw6; exact hw6, fun _ => by rw [habv, ← hx, ← hf]; exact hfn, hpath, e0, e3, e4, e6, e7⟩
  intro hc4
  obtain ⟨l, hfl⟩ : ∃ l, f = some l := by have h := hc4; cases f with | none => cases h | some r => exact ⟨r, rfl⟩
  have hlm := (findB_iff (hT.sort _ _)).1 (hf.symm.trans hfl)
  have hpath2 : Path T (ns.take (g + 1)) := by
    rw [← take_more hgl, ← hx, ← hlm.2]
    exact path_snoc hT hpath (by omega) (by rw [hlt]; exact hlm.1)
  refine Yf ?_
  refine Yv (by kernel_rfl) (Y0 (B := [0, 0, 2, 6, 14, 0, 0, 96, 224, 480, 1022, 0, 2048, 2047, 10239, 26623, 65535]) (π := [0, 1, 2, 3, 4, 5, 6, 7, 8, 9, 11, 12, 10, 13, 14, 15, 16]) (by kernel_rfl)) ?_
  refine Xd rfl rfl (Xt Xn) Xr ?_
  refine Xd rfl rfl (Xt Xn) Xr ?_
  refine Xd rfl rfl (X5 rfl) Xr ?_
  refine Xd rfl rfl (Xg (off := 1) rfl Tryz.underlying167 rfl inf23.size (by decide) rfl) Xr ?_
  refine Xd rfl rfl (Xk rfl Tryz.underlying23 rfl Xq) Xr ?_
  refine Xd rfl rfl (Xk Xn Tryz.underlying23 Xn Xq) Xr ?_
  refine Xd rfl rfl (Xf Xn) Xr ?_
  refine Xd rfl rfl (Xz rfl rfl Tryz.underlying23 inf3.size Yc Yc) Xr ?_
  refine Xd rfl rfl (Xk rfl Tryz.underlying3 rfl Xq) Xr ?_
  first | refine Y7 rfl rfl (Yn (r := [.int .i64 _]) Tryz.underlying23 inf3.size inf3.zero rfl (by decide) (by decide) (by decide) rfl) ?_
  refine Xd rfl rfl (Xf Xn) Xr ?_
  refine Xd rfl rfl (Yw rfl rfl Y4) Xr ?_
  refine Ym rfl rfl (OwnP.append (ys := [x]) (hown6.push _) Tryz.underlying23 inf3 rfl rfl rfl (Ve (k := Yz .i64) rfl rfl hown6.size rfl) (by simp only [List.length_singleton]; omega) (by simp only [List.length_singleton]; omega) ?_)
  rintro v9 G7 H7 hle7 hown7
  have hsameO := OwnP.sameO (hown6.push _) hle7 hown7
  obtain ⟨B7, c7, rfl⟩ := hown7.shape
  have le67 := Hp.le_trans (Hp.le_push _ _) hle7
  have z7 := le67.1
  have zz7 := hown7.size
  have gw7 := Xs le67 (by omega) (by intro e; cases e) gw6
  have gz7 := Xs le67 (by omega) (by intro e; cases e) gz6
  have gu7 := Xs le67 (by omega) (by intro e; cases e) gu6
  have hw7 := Xs hown7.le (by omega) (by intro e; cases e) gw7
  have hz7 := Xs hown7.le (by omega) (by intro e; cases e) gz7
  refine ⟨Yh, ?_⟩
  refine Xd rfl rfl (X5 rfl) Xr ?_
  refine Xd rfl rfl (Xg (off := 1) rfl Tryz.underlying167 rfl inf23.size (by decide) rfl) Xr ?_
  first | refine Ym rfl rfl (Yu rfl rfl rfl inf23.size X6 Ya rfl ?_)
  refine ⟨Yh, ?_⟩
  refine Xd rfl rfl (Xo rfl) Xr ?_
  rw [hx, take_more hgl] at hown7
  have eq7 : (ns.take g ++ [x]).length = (ns.take (g + 1)).length := by rw [hx, take_more hgl]
  exact ⟨ns.length - (g + 1), by omega, g + 1, G7.put (H.size + 2) (.own 0 [.pointer (some ⟨tb, 0, none⟩), .slice B7 (ns.take g ++ [x]).length c7, .bool false, .bool false, .int .i64 0]), rfl, by omega, Hp.le_put_new (Hp.le_trans leHG6 le67) (by omega) _, ⟨B7, c7, by simp; omega, by rw [eq7]; exact Hp.put_same _ _ _, hown7.put (by rw [gw7]; intro e; cases e) _ (Hp.sees_box _ gw7)⟩, hpath2, by rw [Hp.put_other _ _ (by omega)]; exact gu7, by rw [Hp.put_other _ _ (by omega)]; exact gz7, e0, e3, e4, e6, rfl⟩
  intro hc3
  have hgl : ¬ g < ns.length := by have := of_decide_eq_false hc3; omega
  refine Y5 ?_
  first
    | exact ⟨g, B, c, hg, Hp.le_trans leG hown.le, by omega, hgu, hgz, by rw [hlt] at hw; exact hw, fun h => absurd h hgl, hpath, e0, e3, e4, e6, e7⟩
    | exact ⟨g, B, c, hg, leH6, by omega, hgu6, hgz6, by rw [hlt] at hw6; exact hw6, fun _ => by rw [habv, ← hx, ← hf]; exact hfn, hpath, e0, e3, e4, e6, e7⟩
  rintro t H1 ⟨g, B, c, hg, leH1, z1, gu1, gz1, gw1, hend, hpath, e0, e3, e4, e6, e7⟩
  obtain ⟨m0, hm0⟩ : ∃ m0, m0 = (if g = ns.length then ns.length else g + 1) := ⟨_, rfl⟩
  have hm1 : m0 ≤ ns.length := by rw [hm0]; split <;> omega
  have hmin : (if (ns.length : Int) - 1 < (g : Int) then (ns.length : Int) - 1 else (g : Int)) = (m0 : Int) - 1 := by rw [hm0]; split <;> split <;> omega
  have hbeh : behN T ns = aftK T ns m0 := by
    rcases Nat.eq_zero_or_pos ns.length with h0 | h0
    · have e1 : m0 = 0 := by omega
      rw [e1]
      obtain rfl : ns = [] := List.eq_nil_of_length_eq_zero h0
      unfold behN
      rw [← hlen]; rfl
    · by_cases hgl : g = ns.length
      · rw [if_pos hgl] at hm0
        have e1 : m0 = (ns.length - 1) + 1 := by omega
        rw [e1]
        refine beh_is hT hlen (by omega) (fun i hi => ?_) (.inl (by omega))
        rw [hgl, List.take_of_length_le (Nat.le_refl _)] at hpath
        exact path_take hT hpath (by omega) i hi
      · rw [if_neg hgl] at hm0
        rw [hm0]
        exact beh_is hT hlen (by omega) hpath (.inr (hend (by omega)))
  have hpm : ∀ j, j < m0 → Path T (ns.take j) := fun j hj => by
    have hjg : j ≤ g := by rw [hm0] at hj; split at hj <;> omega
    have := path_take hT (k := j) hpath (by rw [List.length_take]; omega)
    rwa [List.take_take, Nat.min_eq_left hjg] at this
  refine Xe ?_
  refine Xe ?_
  refine Xb (by kernel_rfl) ?_
  refine Xa (Xf Xn) ?_
  refine Xa (Xk Xn Tryz.underlying23 Xn Xq) ?_
  refine Xa (Yr rfl Tryz.underlying23) ?_
  refine Xa (av_sub64 rfl rfl Y4) ?_
  refine Xa (av_min2 rfl rfl) ?_
  refine Xy (Yp (l := [.int .i64 0]) inf3.zero rfl (by decide)) ?_
  first | refine Xw (Yu rfl rfl rfl inf3.size X6 Ya rfl ?_)
  refine Yo ?_
  refine Za (fun n t H' => ∃ (m : Nat) (bI : Nat) (X : Value), m = n ∧ m ≤ m0 ∧ (behN T ns).head? = (aftK T ns m).head? ∧ H.le H' ∧ H.size + 2 < bI ∧ bI < H'.size ∧ H'.get H.size = .own 0 [.slice AU ns.length cU] ∧ H'.get (H.size + 1) = .own 0 [.slice none 0 0, .int .i64 0, .int .u64 0] ∧ H'.get (H.size + 2) = .own 0 [.pointer (some ⟨tb, 0, none⟩), X, .bool false, .bool false, .int .i64 0] ∧ H'.get bI = .own 0 [.int .i64 ((m : Int) - 1)] ∧ t 0 = .pointer (some ⟨tb, 0, none⟩) ∧ t 3 = .pointer (some ⟨H.size, 0, none⟩) ∧ t 4 = .pointer (some ⟨H.size + 1, 0, none⟩) ∧ t 6 = .pointer (some ⟨H.size + 2, 0, none⟩) ∧ t 10 = .pointer (some ⟨bI, 0, none⟩)) (m0) (⟨m0, H1.size, _, rfl, Nat.le_refl _, by rw [hbeh], t_le, by omega, by simp, X6, X6, X6, by rw [← hmin]; exact Hp.put_same _ _ _, e0, e3, e4, e6, rfl⟩) ?_
  rintro n t H2 ⟨m, bI, X, rfl, hm, hhead, leH2, zI, zI2, gu2, gz2, gw2, gI2, e0, e3, e4, e6, e10⟩
  refine Xe ?_
  refine Xe ?_
  refine Xb (by kernel_rfl) ?_
  refine Xa (Xk Xn Tryz.underlying3 Xn Xq) ?_
  refine Xa (av_ge rfl rfl) ?_
  refine X8 rfl rfl ?_ ?_
  intro hc5
  have hpos : 1 ≤ m := by have := of_decide_eq_true hc5; omega
  obtain ⟨j, hj⟩ : ∃ j, m = j + 1 := ⟨m - 1, by omega⟩
  subst hj
  have ej : ((j + 1 : Nat) : Int) - 1 = (j : Int) := by omega
  rw [ej] at gI2
  obtain ⟨AS, SS, slS, hSS, hcap⟩ := hu.caps (i := j) (by omega)
  have hlj : (ns.take j).length = j := by rw [List.length_take]; omega
  obtain ⟨x, hx⟩ : ∃ x, x = ns.getD j 0 := ⟨_, rfl⟩
  refine Yf ?_
  refine Xe ?_
  refine Yo ?_
  refine Xe ?_
  refine Xb (by kernel_rfl) ?_
  refine Xa (Xt Xn) ?_
  refine Xa (Xk Xn Tryz.underlying23 Xn Xq) ?_
  refine Xa (Xk Xn Tryz.underlying3 Xn Xq) ?_
  refine Xa (Xk Xn Tryz.underlying3 Xn Xq) ?_
  refine Xa (hcap _ _ _ _ _ _ _ _ _ _ _ _ _ _ _ leH2 Xn Tryz.underlying23 inf3.size Xn Xn) ?_
  refine Xa (X5 rfl) ?_
  refine Xa (Xg (off := 1) rfl Tryz.underlying167 rfl inf23.size (by decide) rfl) ?_
  first | refine Xw (Yu rfl rfl rfl inf23.size X6 Ya rfl ?_)
  refine Xe ?_
  obtain ⟨H3, hH3⟩ : ∃ H3, H3 = H2.put (H.size + 2) (.own 0 [.pointer (some ⟨tb, 0, none⟩), .slice (some AS) j j, .bool false, .bool false, .int .i64 0]) := ⟨_, rfl⟩
  have leH3 : H.le H3 := by rw [hH3]; exact Hp.le_put_new leH2 (by omega) _
  have gu3 : H3.get H.size = .own 0 [.slice AU ns.length cU] := by rw [hH3, Hp.put_other _ _ (by omega)]; exact gu2
  have gz3 : H3.get (H.size + 1) = .own 0 [.slice none 0 0, .int .i64 0, .int .u64 0] := by rw [hH3, Hp.put_other _ _ (by omega)]; exact gz2
  have gw3 : H3.get (H.size + 2) = .own 0 [.pointer (some ⟨tb, 0, none⟩), .slice (some AS) j j, .bool false, .bool false, .int .i64 0] := by rw [hH3]; exact Hp.put_same _ _ _
  have gI3 : H3.get bI = .own 0 [.int .i64 j] := by rw [hH3, Hp.put_other _ _ (by omega)]; exact gI2
  have z3 : H3.size = H2.size := by rw [hH3]; simp
  change ACode true _ _ _ _ _ (H2.put (H.size + 2) (.own 0 [.pointer (some ⟨tb, 0, none⟩), .slice (some AS) j j, .bool false, .bool false, .int .i64 0]))
  rw [← hH3]
  clear hH3
  have leP : ∀ y, H.le (H3.push y) := fun y => Hp.le_push' leH3 y
  have gwP : ∀ y, (H3.push y).get (H.size + 2) = .own 0 [.pointer (some ⟨tb, 0, none⟩), .slice (some AS) (ns.take j).length j, .bool false, .bool false, .int .i64 0] := fun y => by rw [hlj, Hp.push_old _ _ (by omega)]; exact gw3
  have slP : ∀ y, Sl (Yz .i64) (H3.push y) (.slice (some AS) (ns.take j).length j) (ns.take j) := fun y => by rw [hlj]; exact slS.mono (leP y).sees
  have habv : Yl T (ns.take j) j = Yl T ns j := Zv hT (by omega) (fun i hi => Vc hi)
  refine Yv (by kernel_rfl) (Y0 (B := [0, 0, 0, 0, 12, 31, 0, 127]) (π := [0, 1, 2, 3, 6, 4, 5, 7]) (by kernel_rfl)) ?_
  refine Xd rfl rfl (Xt Xn) Xr ?_
  refine Xd rfl rfl (Xk Xn Tryz.underlying3 Xn Xq) Xr ?_
  refine Xd rfl rfl (Xt Xn) Xr ?_
  refine Xd rfl rfl (Xk Xn Tryz.underlying3 Xn Xq) Xr ?_
  refine Y7 rfl rfl (Yp (l := [.slice none 0 0]) inf83.zero rfl (by decide)) ?_
  refine Ym rfl rfl (Xx (above_read hT (gwP _) (slP _) (ht.mono (leP _)) j (by omega) (by rw [hlj]; exact Nat.le_refl _)) rfl Tryz.func118 rfl rfl rfl ?_)
  rintro v7 H4 ⟨rfl, rfl⟩; rw [habv]
  refine ⟨Yh, ?_⟩
  refine Ym rfl rfl (Xx (Group_tree (ht.mono (leP _)) hT.l1 hT.l2 hT.lens (j : Int) _) rfl Tryz.func91 rfl rfl rfl ?_)
  rintro v8 H5 ⟨GL, leL, hownL⟩; obtain ⟨L, hL⟩ : ∃ L, L = T.group j (Yl T ns j) := ⟨_, rfl⟩; rw [← hL] at hownL; have slL := hownL.sl; obtain ⟨AL, cL, rfl⟩ := slL.shape; have le35 := Hp.le_trans leL hownL.le; have z5 := le35.1; simp only [Hp.push_size] at z5; have gq5 : H5.get H3.size = .own 0 [.slice none 0 0] := Xs le35 (by simp) (by intro e; cases e) X6; have le5 := Hp.le_trans (H3.le_push _) le35
  refine ⟨Yh, ?_⟩
  first | refine Ym rfl rfl (Yu rfl rfl rfl inf83.size X6 Ya rfl ?_)
  refine ⟨Yh, ?_⟩
  refine Xe ?_
  obtain ⟨H6, hH6⟩ : ∃ H6, H6 = H5.put H3.size (.own 0 [.slice AL L.length cL]) := ⟨_, rfl⟩
  have le6 : H3.le H6 := by rw [hH6]; exact Hp.le_put_new le5 (by omega) _
  have slH6 : Sl kLink H6 (.slice AL L.length cL) L := by rw [hH6]; exact slL.mono (Hp.sees_box _ gq5)
  have gq6 : H6.get H3.size = .own 0 [.slice AL L.length cL] := by rw [hH6]; exact Hp.put_same _ _ _
  have z6 : H6.size = H5.size := by rw [hH6]; simp
  have gu6 := Xs le6 (by omega) (by intro e; cases e) gu3
  have gz6 := Xs le6 (by omega) (by intro e; cases e) gz3
  have gw6 := Xs le6 (by omega) (by intro e; cases e) gw3
  have gI6 := Xs le6 (by omega) (by intro e; cases e) gI3
  have leH6 := Hp.le_trans leH3 le6
  have huH6 := hu.mono leH6.sees
  change ACode true _ _ _ _ _ (H5.put H3.size (.own 0 [.slice AL L.length cL]))
  rw [← hH6]
  clear hH6
  have hLl : L.length ≤ 1000000 := by rw [hL]; exact group_len hT.lens _ _
  have hLs : L.Pairwise fun x y => x.b < y.b := by rw [hL]; exact hT.sort _ _
  have hmono : ∀ (a b : Nat) (ha : a < L.length) (hb : b < L.length), a < b → L[a].b < L[b].b := fun a b ha hb h => List.pairwise_iff_getElem.1 hLs a b ha hb h
  have c1' : H6.cell? H3.size 0 = some (.slice AL L.length cL) := Zn (cs := [.slice AL L.length cL]) gq6
  have c2' : H6.cell? H.size 0 = some (.slice AU ns.length cU) := Zn (cs := [.slice AU ns.length cU]) gu6
  have c3' : H6.cell? bI 0 = some (.int .i64 j) := Zn (cs := [.int .i64 j]) gI6
  have call1 : ∀ k, k < L.length → ACalls Tryz.prog 119 (#[.int .i64 (k : Nat)] ++ #[.pointer (some ⟨H3.size, 0, none⟩), .pointer (some ⟨H.size, 0, none⟩), .pointer (some ⟨bI, 0, none⟩)]) H6 (fun r H' => r = .bool (if h : k < L.length then decide (x < L[k].b) else true) ∧ H' = H6) := fun k hk =>
    ACalls.pure (R := fun r => r = .bool (if h : k < L.length then decide (x < L[k].b) else true)) (fun v h => by rw [h]; rfl) ((behind1_raw L ns AL AU cL cU k j H3.size H.size bI H6.ro (cell_ro c1') (cell_ro c2') (cell_ro c3') (slH6.mono H6.sees_ro) (huH6.mono H6.sees_ro) hk (by omega) (by show H3.size < H6.size; omega) (by show H.size < H6.size; omega) (by show bI < H6.size; omega)).mono fun r _ h => by rw [h, dif_pos hk, hx])
  have mono1 : ∀ a b, a ≤ b → b < L.length → (if h : a < L.length then decide (x < L[a].b) else true) = true → (if h : b < L.length then decide (x < L[b].b) else true) = true := fun a b hab hb h => by
    rw [dif_pos (by omega)] at h ⊢
    rcases Nat.lt_or_eq_of_le hab with h1 | h1
    · have := hmono a b (by omega) hb h1
      have := of_decide_eq_true h
      exact decide_eq_true (by omega)
    · subst h1; exact h
  refine Xb (by kernel_rfl) ?_
  refine Xa (Xk rfl Tryz.underlying83 rfl Xq) ?_
  refine Xa (Yr rfl Tryz.underlying83) ?_
  refine Xa (av_func0 (cs := #[.pointer (some ⟨H3.size, 0, none⟩), .pointer (some ⟨H.size, 0, none⟩), .pointer (some ⟨bI, 0, none⟩)]) (by show [Value.pointer (some ⟨H3.size, 0, none⟩), t 3, t 10] = [_, _, _]; rw [e3, e10])) ?_
  refine Xw (Xx (Search_gen L.length 119 _ #[.pointer (some ⟨H3.size, 0, none⟩), .pointer (some ⟨H.size, 0, none⟩), .pointer (some ⟨bI, 0, none⟩)] (fun k => if h : k < L.length then decide (x < L[k].b) else true) H6 Tryz.func119 rfl rfl call1 mono1 (by omega)) rfl Tryz.func82 rfl rfl rfl ?_)
  rintro v9 H6 ⟨⟨lo, rfl, hlo, hlo1, hlo2⟩, rfl⟩
  refine Xa (Xo rfl) ?_
  refine Xe ?_
  refine Xb (by kernel_rfl) ?_
  refine Xa (Xf rfl) ?_
  refine Xa (Xk rfl Tryz.underlying83 rfl Xq) ?_
  refine Xa (Yr rfl Tryz.underlying83) ?_
  refine Xa (Zh rfl rfl) ?_
  refine X8 rfl rfl ?_ ?_
  intro hc6
  have hlt : lo < L.length := by have := of_decide_eq_true hc6; omega
  obtain ⟨bl, ol, el, hbl, hcl⟩ := slH6.link_at hlt
  subst el
  obtain ⟨l, hl'⟩ : ∃ l, l = L[lo] := ⟨_, rfl⟩
  rw [← hl'] at hcl
  have hclb := hcl 1 _ rfl
  have hnb : V0 L x = some l := by
    rw [hl']
    exact nextB_at hlt (by have := hlo2 lo (Nat.le_refl _) hlt; rw [dif_pos hlt] at this; exact of_decide_eq_true this) fun j hj h => by
      have := hlo1 j hj
      rw [dif_pos h] at this
      exact of_decide_eq_false this
  rw [hL, hx] at hnb
  obtain ⟨hp2, hh2⟩ := aft_head hT hA hlen (by omega) (hpm j (by omega)) hnb
  have slB := slS.mono leH6.sees
  have hl2 : (ns.take j ++ [l.b]).length = j + 1 := by rw [List.length_append, hlj]; rfl
  refine Xe ?_
  refine Yv (by kernel_rfl) (Y0 (B := [0, 0, 2, 6, 14, 0, 0, 96, 224, 480, 992, 2046, 4095, 8191, 8191, 32767, 65535]) (π := [0, 1, 2, 3, 4, 5, 6, 7, 8, 9, 10, 11, 12, 13, 14, 15, 16]) (by kernel_rfl)) ?_
  refine Xd rfl rfl (Xt Xn) Xr ?_
  refine Xd rfl rfl (Xt Xn) Xr ?_
  refine Xd rfl rfl (X5 rfl) Xr ?_
  refine Xd rfl rfl (Xg (off := 1) rfl Tryz.underlying167 rfl inf23.size (by decide) rfl) Xr ?_
  refine Xd rfl rfl (Xk rfl Tryz.underlying23 rfl Xq) Xr ?_
  refine Xd rfl rfl (Xk rfl Tryz.underlying83 rfl Xq) Xr ?_
  refine Xd rfl rfl (Xf rfl) Xr ?_
  refine Xd rfl rfl (Xz rfl rfl Tryz.underlying83 inf96.size Yc Yc) Xr ?_
  refine Xd rfl rfl (Xg (off := 1) rfl Tryz.underlying96 rfl inf3.size (by decide) rfl) Xr ?_
  refine Xd rfl rfl (Xk rfl Tryz.underlying3 rfl Xq) Xr ?_
  first | refine Y7 rfl rfl (Yn (r := [.int .i64 _]) Tryz.underlying23 inf3.size inf3.zero rfl (by decide) (by decide) (by decide) rfl) ?_
  refine Ym rfl rfl (Sl.grow (m := l.b) (slB.mono (Hp.le_push _ _).sees) Tryz.underlying23 inf3 rfl rfl rfl (Hp.push_new _ _) (by omega) (by omega) ?_)
  rintro H7 eH7 slG
  have le67 : H6.le H7 := by rw [eH7]; exact Hp.le_push' (H6.le_push _) _
  refine ⟨by rw [eH7]; exact Yh, ?_⟩
  have gz7 := Xs le67 (by omega) (by intro e; cases e) gz6
  have leH7 := Hp.le_trans leH6 le67
  have z7 := le67.1
  clear eH7
  refine Ym rfl rfl (Xx (least_walk hT hA (ht.mono leH7) slG hp2 (by omega) (by omega)) rfl Tryz.func120 rfl rfl rfl ?_)
  rintro v12 H8 ⟨le78, o, htl, A8, k8, rfl, sl8⟩; have gz8 := Xs le78 (by omega) (by intro e; cases e) gz7; have z8 := le78.1; have leH8 := Hp.le_trans leH7 le78
  refine ⟨Yh, ?_⟩
  refine Xd rfl rfl (Yb rfl rfl) Xr ?_
  refine Xd rfl rfl (Yb rfl rfl) Xr ?_
  refine Ym rfl rfl (X9 (vs := [.slice _ _ _, .int .i64 _, .int .u64 _]) Xn Xn inf46.size X6 Ya Xn Xn ?_)
  refine ⟨Yh, ?_⟩
  refine Xd rfl rfl (Xh rfl) Xr ?_
  refine X2 ?_
  rw [hl2, ] at htl
  exact ⟨_, Yy (Yk Xn (Yj (cs := [_, _, _]) Tryz.underlying46 rfl inf46.size X4)) (Xu rfl), Hp.le_put_new leH8 (by omega) _, o, fun _ => ⟨by rw [htl.1, hhead, hh2], htl.2⟩, fun h => absurd hlen h, A8, k8, rfl, sl8.mono (Hp.sees_box _ gz8)⟩
  intro hc6
  have heq : lo = L.length := by have := of_decide_eq_false hc6; omega
  have hnb : V0 L x = none := nextB_no fun l hl => by
    obtain ⟨j, hj, rfl⟩ := List.getElem_of_mem hl
    have := hlo1 j (by omega)
    rw [dif_pos hj] at this
    exact of_decide_eq_false this
  rw [hL, hx] at hnb
  have haft := aft_none hnb
  refine Yf ?_
  refine Xe ?_
  refine Xe ?_
  refine Xb (by kernel_rfl) ?_
  refine Xa (Xk Xn Tryz.underlying3 Xn Xq) ?_
  refine Xb (by kernel_rfl) ?_
  refine Xy (Yp (l := [.int .i64 0]) inf3.zero rfl (by decide)) ?_
  first | refine Xw (Yu rfl rfl rfl inf3.size X6 Ya rfl ?_)
  refine Xb (by kernel_rfl) ?_
  refine Xa (Xk rfl Tryz.underlying3 rfl Xq) ?_
  refine Xa (av_sub64 rfl rfl Y4) ?_
  first | refine Xw (Yu rfl rfl rfl inf3.size X6 Ya rfl ?_)
  exact ⟨j, by omega, j, H6.size, _, rfl, by omega, by rw [hhead, haft], t_le, by omega, by simp, X6, X6, X6, by rw [show (j : Int) - 1 = (j : Int) - 1 from rfl]; exact X6, e0, e3, e4, e6, rfl⟩
  intro hc5
  have hpos : m = 0 := by have := of_decide_eq_false hc5; omega
  subst hpos
  refine Y5 ?_
  refine Xe ?_
  refine Xb (by kernel_rfl) ?_
  refine Xa (Ys (pl := [(0, 1), (1, 1), (2, 1)]) (r := [.slice _ _ _, .int .i64 _, .int .u64 _]) Tryz.underlying46 inf46.zero (by decide) rfl rfl) ?_
  refine Xw (X9 (vs := [.slice _ _ _, .int .i64 _, .int .u64 _]) Xn Xn inf46.size X6 Ya Xn Xn ?_)
  refine Xa (Xh rfl) ?_
  refine X2 ?_
  exact ⟨_, Yy (Yk Xn (Yj (cs := [_, _, _]) Tryz.underlying46 rfl inf46.size X4)) (Xu rfl), t_le, none, fun _ => ⟨by rw [hhead]; rfl, fun r h => (by cases h)⟩, fun _ => rfl, Vl _⟩
end Go.Proofs.YtmakkmcjocjgmaaGreat.Am


/- The answer behind a mark. -/
namespace Go.Proofs.YtmakkmcjocjgmaaGreat.Am
open Go Go.RowKit
set_option maxRecDepth 100000
set_option linter.unusedVariables false
set_option linter.unusedSimpArgs false

theorem acc_most {T : TreeT} {ns : List Int} : ∀ i {c n : Int}, Z8 T ns i = some (c, n) → n ≤ 4611686018427387904
  | 0, c, n, h => by
    rw [Z8] at h
    injection h with h
    injection h with h1 h2
    omega
  | i + 1, c, n, h => by
    rw [Z8] at h
    obtain ⟨cn, _, h2⟩ := Option.bind_eq_some_iff.1 h
    obtain ⟨y, _, h4⟩ := Option.map_eq_some_iff.1 h2
    simp only [Prod.mk.injEq] at h4
    rw [← h4.2]
    unfold Zp
    have : Vz = 4611686018427387904 := rfl
    omega
theorem row_most {T : TreeT} {ns : List Int} {r : RowT} (h : Vr T ns = some r) : r.n ≤ 4611686018427387904 ∧ r.nodes = ns ∧ ns.length = T.vars.length := by
  unfold Vr at h
  split at h
  · rename_i hl
    obtain ⟨cn, h1, h2⟩ := Option.map_eq_some_iff.1 h
    rw [← h2]
    exact ⟨acc_most _ h1, rfl, hl⟩
  · cases h
def FitsT (T : TreeT) (m : MarkT) : Prop := GoodM m ∧ (m.nodes.length = 0 ∨ ∃ r, Vr T m.nodes = some r ∧ m.rest < r.n)
def NextIs (T : TreeT) (m : MarkT) (o : Option RowT) (rest : Int) : Prop :=
  (m.over = true → o = none ∧ rest = 0) ∧ (m.over = false → m.nodes.length = 0 → o = (Vm T w0).2 ∧ rest = 0) ∧
  (m.over = false → m.nodes.length ≠ 0 → ∀ r, Vr T m.nodes = some r → (m.rest + 1 < r.n → o = some r ∧ rest = m.rest + 1) ∧ (¬ m.rest + 1 < r.n → TellsH T o (behN T m.nodes) ∧ rest = 0))
theorem fits_T {T : TreeT} (hT : GoodT T) {tb : Nat} (m : MarkT) (cs : List Value) (H : Hp) (ht : TreeR H (.pointer (some ⟨tb, 0, none⟩)) T) (hm : kMark.rep H m cs) (hb : BigM m) :
    ACalls Tryz.prog 58 #[.pointer (some ⟨tb, 0, none⟩), .agg cs.toArray] H (fun r H' => (∃ g, r = .bool g ∧ (g = true ↔ FitsT T m)) ∧ H.le H') := by
  have hm0 := hm
  obtain ⟨v, w, rfl, hv, hw⟩ := hm
  obtain ⟨A, c, rfl⟩ := hv.shape
  obtain ⟨W, cW, rfl⟩ := hw.shape
  have hbn := hb.n
  refine Xv Tryz.func58 rfl rfl rfl (by simp) ?_
  refine Xe ?_
  refine Xb (by kernel_rfl) ?_
  refine Xy (Yq rfl) ?_
  refine Xa (Xh rfl) ?_
  refine Xe ?_
  refine Xe ?_
  refine Xb (by kernel_rfl) ?_
  refine Xa (Yi (cs := [.int .i64 _, .bool _, .slice _ _ _, .int .u64 _, .slice _ _ _]) rfl Tryz.underlying33 rfl inf33.size X4) ?_
  refine Xw (Xx (good_36 m _ _ (kMark.mono (H.le_push _).sees hm0) hb) rfl Tryz.func75 rfl rfl rfl ?_)
  rintro v8 H1 ⟨⟨g, rfl, hg⟩, hH1⟩; subst hH1
  refine Xa (Zq rfl) ?_
  refine Xa (Xp rfl) ?_
  refine Yd rfl rfl rfl ?_ ?_
  intro hg1
  have hgf : g = false := by have h := hg1; simpa using h
  refine Xc (Xj rfl rfl rfl hg1 rfl) ?_
  refine Xc (Xj rfl rfl rfl hg1 rfl) ?_
  refine Xc (Xj rfl rfl rfl hg1 rfl) ?_
  refine Xc (Xj rfl rfl rfl hg1 rfl) ?_
  refine Xa (Xm (congrArg Value.bool hg1) rfl) ?_
  refine Yt rfl rfl ?_
  refine Xe ?_
  refine Xb (by kernel_rfl) ?_
  refine Xa (Yi (cs := [.int .i64 _, .bool _, .slice _ _ _, .int .u64 _, .slice _ _ _]) rfl Tryz.underlying33 rfl inf33.size X4) ?_
  refine Xw (Xx (good_36 m _ _ (kMark.mono (H.le_push _).sees hm0) hb) rfl Tryz.func75 rfl rfl rfl ?_)
  rintro v17 H1 ⟨⟨g2, rfl, hg2⟩, hH1⟩; subst hH1
  refine Xa (Xh rfl) ?_
  refine X2 ?_
  refine ⟨_, X1 (Xu rfl), ⟨g2, rfl, ?_⟩, H.le_push _⟩
  first
    | exact ⟨fun h => ⟨hg2.1 h, .inl hn0⟩, fun h => hg2.2 h.1⟩
    | exact ⟨fun h => (by have := hg.2 (hg2.1 h); rw [hgf] at this; cases this), fun h => hg2.2 h.1⟩
  intro hg1
  have hgt : g = true := by have h := hg1; simpa using h
  have hn12 := (hg.1 hgt).n
  refine Xl (Xi rfl rfl rfl hg1) (Xg (off := 2) rfl Tryz.underlying33 rfl inf23.size (by decide) rfl) ?_
  refine Xl (Xi rfl rfl rfl hg1) (Xk rfl Tryz.underlying23 rfl Xq) ?_
  refine Xl (Xi rfl rfl rfl hg1) (Yr rfl Tryz.underlying23) ?_
  refine Xl (Xi rfl rfl rfl hg1) (Zt rfl rfl) ?_
  refine Xa (Xm (congrArg Value.bool hg1) rfl) ?_
  refine X8 rfl rfl ?_ ?_
  intro hc3
  have hn0 : m.nodes.length = 0 := by have := of_decide_eq_true hc3; omega
  refine Xe ?_
  refine Xb (by kernel_rfl) ?_
  refine Xa (Yi (cs := [.int .i64 _, .bool _, .slice _ _ _, .int .u64 _, .slice _ _ _]) rfl Tryz.underlying33 rfl inf33.size X4) ?_
  refine Xw (Xx (good_36 m _ _ (kMark.mono (H.le_push _).sees hm0) hb) rfl Tryz.func75 rfl rfl rfl ?_)
  rintro v17 H1 ⟨⟨g2, rfl, hg2⟩, hH1⟩; subst hH1
  refine Xa (Xh rfl) ?_
  refine X2 ?_
  refine ⟨_, X1 (Xu rfl), ⟨g2, rfl, ?_⟩, H.le_push _⟩
  first
    | exact ⟨fun h => ⟨hg2.1 h, .inl hn0⟩, fun h => hg2.2 h.1⟩
    | exact ⟨fun h => (by have := hg.2 (hg2.1 h); rw [hgf] at this; cases this), fun h => hg2.2 h.1⟩
  intro hc3
  have hn0 : ¬ m.nodes.length = 0 := by have := of_decide_eq_false hc3; omega
  refine Yf ?_
  refine Xe ?_
  refine Xb (by kernel_rfl) ?_
  refine Xa (Xt rfl) ?_
  refine Xa (Xg (off := 2) rfl Tryz.underlying33 rfl inf23.size (by decide) rfl) ?_
  refine Xa (Xk rfl Tryz.underlying23 rfl Xq) ?_
  refine Xw (Xx (Row_rowT (ht.mono (H.le_push _)) hT (hv.mono (H.le_push _).sees) (by omega)) rfl Tryz.func72 rfl rfl rfl ?_)
  rintro v22 H2 ⟨G2, A2, c2, le2, rfl, hown2⟩; have le12 := Hp.le_trans le2 hown2.le; have z2 := le12.1; simp only [Hp.push_size] at z2; have g20 := Xs le12 (by simp) (by intro e; cases e) (Hp.push_new H (.own 0 [.int .i64 m.told, .bool m.over, .slice A m.nodes.length c, .int .u64 m.rest, .slice W m.items.length cW]))
  refine Xa (Y8 rfl) ?_
  refine Xa (Yb rfl rfl) ?_
  refine Xa (Yb rfl rfl) ?_
  refine Xy (Yp (l := [.slice none 0 0, .int .i64 0, .int .u64 0]) inf46.zero rfl (by decide)) ?_
  refine Xw (X9 (vs := [.slice _ _ _, .int .i64 _, .int .u64 _]) rfl rfl inf46.size X6 Ya rfl rfl ?_)
  refine Xa (Xh rfl) ?_
  refine Xe ?_
  refine Xb (by kernel_rfl) ?_
  refine Xa (Xp rfl) ?_
  refine Xa (Xp rfl) ?_
  refine Yd rfl rfl rfl ?_ ?_
  intro hg4
  have hok : (Vr T m.nodes).isSome = true := hg4
  obtain ⟨r, hr⟩ := Option.isSome_iff_exists.1 hok
  refine Xl (Xi rfl rfl rfl hg4) (Xg (off := 3) rfl Tryz.underlying33 rfl inf30.size (by decide) rfl) ?_
  refine Xl (Xi rfl rfl rfl hg4) (Xk rfl Tryz.underlying30 rfl Xq) ?_
  refine Xl (Xi rfl rfl rfl hg4) (Xg (off := 2) rfl Tryz.underlying46 rfl inf30.size (by decide) rfl) ?_
  refine Xl (Xi rfl rfl rfl hg4) (Xk rfl Tryz.underlying30 rfl Xq) ?_
  refine Xl (Xi rfl rfl rfl hg4) (Zh rfl rfl) ?_
  refine Xa (Xm (congrArg Value.bool hg4) rfl) ?_
  refine Xa (Xh rfl) ?_
  refine X2 ?_
  · refine ⟨_, X1 (Xu rfl), ⟨_, rfl, ?_⟩, Hp.le_put_new (Hp.le_push' (Hp.le_trans (H.le_push _) le12) _) (by first | omega | (simp; done) | (simp; omega)) _⟩
    first
      | exact ⟨fun h => ⟨hg.1 hgt, .inr ⟨r, hr, by have h2 := of_decide_eq_true h; rw [hr] at h2; exact h2⟩⟩, fun h => decide_eq_true (by
          rcases h.2 with h2 | ⟨r2, h2, h3⟩
          · exact absurd h2 hn0
          · rw [h2]; exact h3)⟩
      | exact ⟨fun h => (by cases h), fun h => (by
          rcases h.2 with h2 | ⟨r2, h2, h3⟩
          · exact absurd h2 hn0
          · rw [hr] at h2; cases h2)⟩
  intro hg4
  have hok : (Vr T m.nodes).isSome = false := hg4
  have hr : Vr T m.nodes = none := by cases h : Vr T m.nodes with | none => rfl | some r => rw [h] at hok; cases hok
  refine Xc (Xj rfl rfl rfl hg4 rfl) ?_
  refine Xc (Xj rfl rfl rfl hg4 rfl) ?_
  refine Xc (Xj rfl rfl rfl hg4 rfl) ?_
  refine Xc (Xj rfl rfl rfl hg4 rfl) ?_
  refine Xc (Xj rfl rfl rfl hg4 rfl) ?_
  refine Xa (Xm (congrArg Value.bool hg4) rfl) ?_
  refine Xa (Xh rfl) ?_
  refine X2 ?_
  · refine ⟨_, X1 (Xu rfl), ⟨_, rfl, ?_⟩, Hp.le_put_new (Hp.le_push' (Hp.le_trans (H.le_push _) le12) _) (by first | omega | (simp; done) | (simp; omega)) _⟩
    first
      | exact ⟨fun h => ⟨hg.1 hgt, .inr ⟨r, hr, by have h2 := of_decide_eq_true h; rw [hr] at h2; exact h2⟩⟩, fun h => decide_eq_true (by
          rcases h.2 with h2 | ⟨r2, h2, h3⟩
          · exact absurd h2 hn0
          · rw [h2]; exact h3)⟩
      | exact ⟨fun h => (by cases h), fun h => (by
          rcases h.2 with h2 | ⟨r2, h2, h3⟩
          · exact absurd h2 hn0
          · rw [hr] at h2; cases h2)⟩
set_option maxHeartbeats 2000000 in
theorem behind_T {T : TreeT} (hT : GoodT T) (hA : Alive T) {tb : Nat} (m : MarkT) (cs : List Value) (H : Hp) (ht : TreeR H (.pointer (some ⟨tb, 0, none⟩)) T) (hm : kMark.rep H m cs) (hf : FitsT T m) (hr0 : 0 ≤ m.rest) :
    ACalls Tryz.prog 59 #[.pointer (some ⟨tb, 0, none⟩), .agg cs.toArray] H (fun r H' => (∃ (o : Option RowT) (rest : Int) (A : Option Addr) (c : Nat), r = .tuple #[.agg #[.slice A (rowN o).length c, .int .i64 (rowC o), .int .u64 (rowM o)], .int .u64 rest, .bool o.isSome] ∧ Sl (Yz .i64) H' (.slice A (rowN o).length c) (rowN o) ∧ NextIs T m o rest) ∧ H.le H') := by
  obtain ⟨v, w, rfl, hv, hw⟩ := hm
  obtain ⟨A, c, rfl⟩ := hv.shape
  obtain ⟨W, cW, rfl⟩ := hw.shape
  have hn12 := hf.1.n
  refine Xv Tryz.func59 rfl rfl rfl (by simp) ?_
  refine Xe ?_
  refine Xb (by kernel_rfl) ?_
  refine Xy (Yq rfl) ?_
  refine Xy (Yp (l := [.slice none 0 0, .int .i64 0, .int .u64 0]) inf46.zero rfl (by decide)) ?_
  refine Xa (Xo rfl) ?_
  refine Xa (Xh rfl) ?_
  refine Xe ?_
  refine Xe ?_
  refine Xb (by kernel_rfl) ?_
  refine Xa (Xg (off := 1) rfl Tryz.underlying33 rfl inf4.size (by decide) rfl) ?_
  refine Xa (Xk rfl Tryz.underlying4 rfl Xq) ?_
  refine X8 rfl rfl ?_ ?_
  intro hc1
  have ho : m.over = true := hc1
  refine Xe ?_
  refine Xb (by kernel_rfl) ?_
  refine Xa (Ys (pl := [(0, 1), (1, 1), (2, 1)]) (r := [.slice _ _ _, .int .i64 _, .int .u64 _]) Tryz.underlying46 inf46.zero (by decide) rfl rfl) ?_
  refine Xw (X9 (vs := [.slice _ _ _, .int .i64 _, .int .u64 _]) rfl rfl inf46.size X6 Ya rfl rfl ?_)
  refine Xa (Xo rfl) ?_
  refine Xa (Xh rfl) ?_
  refine X2 ?_
  · exact ⟨_, Vj (Yk Xn (Yj (cs := [_, _, _]) Tryz.underlying46 rfl inf46.size X4)) (Xu rfl) (Xu rfl), ⟨none, 0, none, 0, rfl, Sl.nil _ _, fun _ => ⟨rfl, rfl⟩, fun h => (by rw [ho] at h; cases h), fun h => (by rw [ho] at h; cases h)⟩, Hp.le_put_new (Hp.le_push' (H.le_push _) _) (by first | omega | (simp; done) | (simp; omega)) _⟩
  intro hc1
  have ho : m.over = false := hc1
  refine Yf ?_
  refine Xe ?_
  refine Xe ?_
  refine Xb (by kernel_rfl) ?_
  refine Xa (Xg (off := 2) rfl Tryz.underlying33 rfl inf23.size (by decide) rfl) ?_
  refine Xa (Xk rfl Tryz.underlying23 rfl Xq) ?_
  refine Xa (Yr rfl Tryz.underlying23) ?_
  refine Xa (Zt rfl rfl) ?_
  refine X8 rfl rfl ?_ ?_
  intro hc2
  have hn0 : m.nodes.length = 0 := by have := of_decide_eq_true hc2; omega
  refine Xe ?_
  refine Xb (by kernel_rfl) ?_
  refine Xa (Xt rfl) ?_
  refine Xw (Xx (First_gen hT hA (some ⟨tb, 0, none⟩) w0 (.inl rfl) (fun H => fresh_tree tb H) _ (fun _ => ht.mono t_le)) rfl Tryz.func88 rfl rfl rfl ?_)
  rintro v22 H1 ⟨le1, A1, c1', rfl, hs1⟩; have z1 := le1.1; simp only [Hp.push_size] at z1; have g1 : H1.get (H.size + 1) = .own 0 [.slice none 0 0, .int .i64 0, .int .u64 0] := Xs le1 (by simp) (by intro e; cases e) X6
  refine Xa (Y8 rfl) ?_
  refine Xa (Yb rfl rfl) ?_
  refine Xa (Yb rfl rfl) ?_
  refine Xy (Yp (l := [.slice none 0 0, .int .i64 0, .int .u64 0]) inf46.zero rfl (by decide)) ?_
  refine Xw (X9 (vs := [.slice _ _ _, .int .i64 _, .int .u64 _]) rfl rfl inf46.size X6 Ya rfl rfl ?_)
  refine Xa (Xh rfl) ?_
  refine Xe ?_
  refine Xb (by kernel_rfl) ?_
  refine Xa (Yi (cs := [.slice _ _ _, .int .i64 _, .int .u64 _]) rfl Tryz.underlying46 rfl inf46.size X4) ?_
  refine Xa (Xp rfl) ?_
  refine Xw (X9 (vs := [.slice _ _ _, .int .i64 _, .int .u64 _]) rfl rfl inf46.size X6 Ya rfl rfl ?_)
  refine Xa (Xo rfl) ?_
  refine Xa (Xh rfl) ?_
  refine X2 ?_
  · refine ⟨_, Vj (Yk Xn (Yj (cs := [_, _, _]) Tryz.underlying46 rfl inf46.size X4)) (Xu rfl) (Xu rfl), ⟨_, 0, A1, c1', rfl, ?_, fun h => (by rw [ho] at h; cases h), fun _ _ => ⟨rfl, rfl⟩, fun _ h => absurd hn0 h⟩, Hp.le_put_new (Hp.le_put_new (Hp.le_push' (Hp.le_trans (Hp.le_push' (H.le_push _) _) le1) _) (by first | omega | (simp; done) | (simp; omega)) _) (by first | omega | (simp; done) | (simp; omega)) _⟩
    refine ((hs1.mono (H1.le_push (.own 0 [.slice none 0 0, .int .i64 0, .int .u64 0])).sees).mono (Hp.sees_box (cs := [.slice none 0 0, .int .i64 0, .int .u64 0]) _ (Hp.push_new _ _))).mono (Hp.sees_box (cs := [.slice none 0 0, .int .i64 0, .int .u64 0]) _ ?_)
    rw [Hp.put_other _ _ (by first | omega | (simp; done) | (simp; omega))]
    exact (Hp.push_old _ _ (by first | omega | (simp; done) | (simp; omega))).trans g1
  intro hc2
  have hn0 : ¬ m.nodes.length = 0 := by have := of_decide_eq_false hc2; omega
  obtain ⟨r, hrow, hrr⟩ := hf.2.resolve_left hn0
  obtain ⟨hrm, hrn, hrl⟩ := row_most hrow
  have hwr : IntKind.u64.wrap (m.rest + 1) = m.rest + 1 := wrap_u64a (by omega) (by omega)
  refine Yf ?_
  refine Xe ?_
  refine Xe ?_
  refine Xb (by kernel_rfl) ?_
  refine Xa (Xt rfl) ?_
  refine Xa (Xg (off := 2) rfl Tryz.underlying33 rfl inf23.size (by decide) rfl) ?_
  refine Xa (Xk rfl Tryz.underlying23 rfl Xq) ?_
  refine Xw (Xx (Row_rowT (ht.mono t_le) hT (hv.mono Zk) (by omega)) rfl Tryz.func72 rfl rfl rfl ?_)
  rintro v31 H2 ⟨G2, A2, c2, le2, rfl, hown2⟩; rw [hrow] at hown2 ⊢; have le12 := Hp.le_trans le2 hown2.le; have z2 := le12.1; simp only [Hp.push_size] at z2; have sl2 := hown2.sl; have g20 : H2.get H.size = .own 0 [.int .i64 m.told, .bool m.over, .slice A m.nodes.length c, .int .u64 m.rest, .slice W m.items.length cW] := Xs le12 (by simp <;> omega) (by intro e; cases e) X6; have g21 : H2.get (H.size + 1) = .own 0 [.slice none 0 0, .int .i64 0, .int .u64 0] := Xs le12 (by simp) (by intro e; cases e) X6; have leH2 : H.le H2 := Hp.le_trans (Hp.le_push' (H.le_push _) _) le12
  refine Xa (Y8 rfl) ?_
  refine Xa (Yb rfl rfl) ?_
  refine Xa (Yb rfl rfl) ?_
  refine Xy (Yp (l := [.slice none 0 0, .int .i64 0, .int .u64 0]) inf46.zero rfl (by decide)) ?_
  refine Xw (X9 (vs := [.slice _ _ _, .int .i64 _, .int .u64 _]) rfl rfl inf46.size X6 Ya rfl rfl ?_)
  refine Xa (Xh rfl) ?_
  refine Xe ?_
  obtain ⟨H3, hH3⟩ : ∃ H3, H3 = (H2.push (.own 0 [.slice none 0 0, .int .i64 0, .int .u64 0])).put H2.size (.own 0 [.slice A2 (rowN (some r)).length c2, .int .i64 (rowC (some r)), .int .u64 (rowM (some r))]) := ⟨_, rfl⟩
  have le23 : H2.le H3 := by rw [hH3]; exact Hp.le_put_new (H2.le_push _) (Nat.le_refl _) _
  have g3 : H3.get H2.size = .own 0 [.slice A2 (rowN (some r)).length c2, .int .i64 (rowC (some r)), .int .u64 (rowM (some r))] := by rw [hH3]; exact Hp.put_same _ _ _
  have z3 : H3.size = H2.size + 1 := by rw [hH3]; simp
  change ACode true _ _ _ _ _ ((H2.push (.own 0 [.slice none 0 0, .int .i64 0, .int .u64 0])).put H2.size (.own 0 [.slice A2 (rowN (some r)).length c2, .int .i64 (rowC (some r)), .int .u64 (rowM (some r))]))
  rw [← hH3]
  clear hH3
  have g30 := Xs le23 (by omega) (by intro e; cases e) g20
  have g31 := Xs le23 (by omega) (by intro e; cases e) g21
  have sl3 := sl2.mono le23.sees
  have leH3 := Hp.le_trans leH2 le23
  refine Xb (by kernel_rfl) ?_
  refine Xa (Xg (off := 3) rfl Tryz.underlying33 rfl inf30.size (by decide) rfl) ?_
  refine Xa (Xk rfl Tryz.underlying30 rfl Xq) ?_
  refine Xa (av_addn_is hwr rfl rfl) ?_
  refine Xa (Xg (off := 2) rfl Tryz.underlying46 rfl inf30.size (by decide) rfl) ?_
  refine Xa (Xk rfl Tryz.underlying30 rfl Xq) ?_
  refine Xa (Zh rfl rfl) ?_
  refine X8 rfl rfl ?_ ?_
  intro hc3
  have hlt : m.rest + 1 < r.n := of_decide_eq_true hc3
  refine Xe ?_
  refine Yv (by kernel_rfl) (Y0 (B := [0, 0, 2, 6, 1, 31, 63]) (π := [0, 1, 2, 3, 4, 5, 6]) (by kernel_rfl)) ?_
  refine Xd rfl rfl (Yi (cs := [.slice _ _ _, .int .i64 _, .int .u64 _]) rfl Tryz.underlying46 rfl inf46.size X4) Xr ?_
  refine Xd rfl rfl (Xg (off := 3) rfl Tryz.underlying33 rfl inf30.size (by decide) rfl) Xr ?_
  refine Xd rfl rfl (Xk rfl Tryz.underlying30 rfl Xq) Xr ?_
  refine Xd rfl rfl (av_addn_is hwr rfl rfl) Xr ?_
  refine Ym rfl rfl (X9 (vs := [.slice _ _ _, .int .i64 _, .int .u64 _]) rfl rfl inf46.size X6 Ya rfl rfl ?_)
  refine ⟨Yh, ?_⟩
  refine Xd rfl rfl (Xo rfl) Xr ?_
  refine Xd rfl rfl (Xh rfl) Xr ?_
  refine X2 ?_
  · exact ⟨_, Vj (Yk Xn (Yj (cs := [_, _, _]) Tryz.underlying46 rfl inf46.size X4)) (Xu rfl) (Xu rfl), ⟨some r, m.rest + 1, A2, c2, rfl, sl3.mono (Hp.sees_box _ g31), fun h => (by rw [ho] at h; cases h), fun _ h => absurd h hn0, fun _ _ r' hr' => (by
      rw [hrow] at hr'
      injection hr' with hr'
      subst hr'
      exact ⟨fun _ => ⟨rfl, rfl⟩, fun h => absurd hlt h⟩)⟩, Hp.le_put_new leH3 (by first | omega | (simp; done) | (simp; omega)) _⟩
  intro hc3
  have hlt : ¬ m.rest + 1 < r.n := of_decide_eq_false hc3
  refine Yf ?_
  refine Xe ?_
  refine Xb (by kernel_rfl) ?_
  refine Xa (Xt rfl) ?_
  refine Xa (Xg (off := 2) rfl Tryz.underlying33 rfl inf23.size (by decide) rfl) ?_
  refine Xa (Xk rfl Tryz.underlying23 rfl Xq) ?_
  refine Xw (Xx (Behind_walk hT hA (ht.mono leH3) (hv.mono leH3.sees) (by omega)) rfl Tryz.func89 rfl rfl rfl ?_)
  rintro v48 H4 ⟨le4, o, ho1, ho2, A4, c4, rfl, sl4⟩; have z4 := le4.1; have g41 := Xs le4 (by omega) (by intro e; cases e) g31; have leH4 := Hp.le_trans leH3 le4
  refine Xa (Y8 rfl) ?_
  refine Xa (Yb rfl rfl) ?_
  refine Xa (Yb rfl rfl) ?_
  refine Xy (Yp (l := [.slice none 0 0, .int .i64 0, .int .u64 0]) inf46.zero rfl (by decide)) ?_
  refine Xw (X9 (vs := [.slice _ _ _, .int .i64 _, .int .u64 _]) rfl rfl inf46.size X6 Ya rfl rfl ?_)
  refine Xa (Xh rfl) ?_
  refine Xe ?_
  refine Xb (by kernel_rfl) ?_
  refine Xa (Yi (cs := [.slice _ _ _, .int .i64 _, .int .u64 _]) rfl Tryz.underlying46 rfl inf46.size X4) ?_
  refine Xa (Xp rfl) ?_
  refine Xw (X9 (vs := [.slice _ _ _, .int .i64 _, .int .u64 _]) rfl rfl inf46.size X6 Ya rfl rfl ?_)
  refine Xa (Xo rfl) ?_
  refine Xa (Xh rfl) ?_
  refine X2 ?_
  · refine ⟨_, Vj (Yk Xn (Yj (cs := [_, _, _]) Tryz.underlying46 rfl inf46.size X4)) (Xu rfl) (Xu rfl), ⟨o, 0, A4, c4, rfl, ?_, fun h => (by rw [ho] at h; cases h), fun _ h => absurd h hn0, fun _ _ r' hr' => ?_⟩, Hp.le_put_new (Hp.le_put_new (Hp.le_push' leH4 _) (by first | omega | (simp; done) | (simp; omega)) _) (by first | omega | (simp; done) | (simp; omega)) _⟩
    · refine ((sl4.mono (H4.le_push (.own 0 [.slice none 0 0, .int .i64 0, .int .u64 0])).sees).mono (Hp.sees_box (cs := [.slice none 0 0, .int .i64 0, .int .u64 0]) _ (Hp.push_new _ _))).mono (Hp.sees_box (cs := [.slice none 0 0, .int .i64 0, .int .u64 0]) _ ?_)
      rw [Hp.put_other _ _ (by first | omega | (simp; done) | (simp; omega))]
      exact (Hp.push_old _ _ (by first | omega | (simp; done) | (simp; omega))).trans g41
    · rw [hrow] at hr'
      injection hr' with hr'
      subst hr'
      exact ⟨fun h => absurd h hlt, fun _ => ⟨ho1 hrl, rfl⟩⟩
end Go.Proofs.YtmakkmcjocjgmaaGreat.Am


/- The mark behind a mark; the small living call; the statement CursorNone. -/
namespace Go.Proofs.YtmakkmcjocjgmaaGreat.Am
open Go Go.RowKit
set_option maxRecDepth 100000
set_option linter.unusedVariables false
set_option linter.unusedSimpArgs false

set_option maxHeartbeats 2000000 in
theorem Next_T {T : TreeT} (hT : GoodT T) (hA : Alive T) {tb : Nat} (m : MarkT) (cs : List Value) (H : Hp) (ht : TreeR H (.pointer (some ⟨tb, 0, none⟩)) T) (hm : kMark.rep H m cs) (hb : BigM m) (hr0 : 0 ≤ m.rest) :
    ACalls Tryz.prog 17 #[.pointer (some ⟨tb, 0, none⟩), .agg cs.toArray] H (fun r H' => (∃ (o : Option RowT) (rest : Int) (A : Option Addr) (c : Nat) (x : MarkT) (B : Option Addr) (k : Nat), r = .tuple #[.agg #[.slice A (rowN o).length c, .int .i64 (rowC o), .int .u64 (rowM o)], .agg #[.int .i64 x.told, .bool x.over, .slice B x.nodes.length k, .int .u64 x.rest, .slice none 0 0], .bool o.isSome] ∧ Sl (Yz .i64) H' (.slice A (rowN o).length c) (rowN o) ∧ Sl (Yz .i64) H' (.slice B x.nodes.length k) x.nodes ∧
      (¬ FitsT T m → o = none ∧ x = startM) ∧ (FitsT T m → NextIs T m o rest ∧ (o = none → x = ⟨m.told, true, [], 0, []⟩) ∧ ∀ r, o = some r → x = ⟨(if 9007199254740992 < m.told + 1 then 9007199254740992 else m.told + 1), false, r.nodes, rest, []⟩)) ∧ H.le H') := by
  have hm0 := hm
  obtain ⟨v, w, rfl, hv, hw⟩ := hm
  obtain ⟨A, c, rfl⟩ := hv.shape
  obtain ⟨W, cW, rfl⟩ := hw.shape
  refine Xv Tryz.func17 rfl rfl rfl (by simp) ?_
  refine Xe ?_
  refine Xb (by kernel_rfl) ?_
  refine Xy (Yq rfl) ?_
  refine Xy (Yp (l := [.slice none 0 0, .int .i64 0, .int .u64 0]) inf46.zero rfl (by decide)) ?_
  refine Xy (Yp (l := [.int .i64 0, .bool false, .slice none 0 0, .int .u64 0, .slice none 0 0]) inf33.zero rfl (by decide)) ?_
  refine Xa (Xh rfl) ?_
  refine Xe ?_
  refine Xe ?_
  refine Xb (by kernel_rfl) ?_
  refine Xa (Xt rfl) ?_
  refine Xa (Yi (cs := [.int .i64 _, .bool _, .slice _ _ _, .int .u64 _, .slice _ _ _]) rfl Tryz.underlying33 rfl inf33.size X4) ?_
  refine Xw (Xx (fits_T hT m _ _ (ht.mono t_le) (kMark.mono Zk hm0) hb) rfl Tryz.func58 rfl rfl rfl ?_)
  rintro v12 H1 ⟨⟨g, rfl, hg⟩, le1⟩; have z1 := le1.1; simp only [Hp.push_size] at z1; have g10 : H1.get H.size = .own 0 [.int .i64 m.told, .bool m.over, .slice A m.nodes.length c, .int .u64 m.rest, .slice W m.items.length cW] := Xs le1 (by simp <;> omega) (by intro e; cases e) X6; have g11 : H1.get (H.size + 1) = .own 0 [.slice none 0 0, .int .i64 0, .int .u64 0] := Xs le1 (by simp <;> omega) (by intro e; cases e) X6; have g12 : H1.get (H.size + 1 + 1) = .own 0 [.int .i64 0, .bool false, .slice none 0 0, .int .u64 0, .slice none 0 0] := Xs le1 (by simp <;> omega) (by intro e; cases e) X6; have leH1 : H.le H1 := Hp.le_trans (Hp.le_push' (Hp.le_push' (H.le_push _) _) _) le1
  refine Xa (Zq rfl) ?_
  refine X8 rfl rfl ?_ ?_
  intro hc1
  have hno : ¬ FitsT T m := fun h => by have h2 := hc1; rw [hg.2 h] at h2; cases h2
  refine Xe ?_
  refine Xb (by kernel_rfl) ?_
  refine Xa (Ys (pl := [(0, 1), (1, 1), (2, 1)]) (r := [.slice _ _ _, .int .i64 _, .int .u64 _]) Tryz.underlying46 inf46.zero (by decide) rfl rfl) ?_
  refine Xa (Ys (pl := [(0, 1), (1, 1), (2, 1), (3, 1), (4, 1)]) (r := [.int .i64 _, .bool _, .slice _ _ _, .int .u64 _, .slice _ _ _]) Tryz.underlying33 inf33.zero (by decide) rfl rfl) ?_
  refine Xw (X9 (vs := [.slice _ _ _, .int .i64 _, .int .u64 _]) rfl rfl inf46.size X6 Ya rfl rfl ?_)
  refine Xw (X9 (vs := [.int .i64 _, .bool _, .slice _ _ _, .int .u64 _, .slice _ _ _]) rfl rfl inf33.size X6 Ya rfl rfl ?_)
  refine Xa (Xh rfl) ?_
  refine X2 ?_
  · exact ⟨_, Vj (Yk Xn (Yj (cs := [_, _, _]) Tryz.underlying46 rfl inf46.size X4)) (Yk Xn (Yj (cs := [_, _, _, _, _]) Tryz.underlying33 rfl inf33.size X4)) (Xu rfl), ⟨none, 0, none, 0, startM, none, 0, rfl, Sl.nil _ _, Sl.nil _ _, fun _ => ⟨rfl, rfl⟩, fun h => absurd h hno⟩, Hp.le_put_new (Hp.le_put_new leH1 (by first | omega | (simp; done) | (simp; omega)) _) (by first | omega | (simp; done) | (simp; omega)) _⟩
  intro hc1
  have hyes : FitsT T m := hg.1 (by have h := hc1; simpa using h)
  have htold := hyes.1.t1
  have htold0 := hyes.1.t0
  refine Yf ?_
  refine Xe ?_
  refine Xb (by kernel_rfl) ?_
  refine Xa (Xt rfl) ?_
  refine Xa (Yi (cs := [.int .i64 _, .bool _, .slice _ _ _, .int .u64 _, .slice _ _ _]) rfl Tryz.underlying33 rfl inf33.size X4) ?_
  refine Xw (Xx (behind_T hT hA m _ _ (ht.mono leH1) (kMark.mono leH1.sees hm0) hyes hr0) rfl Tryz.func59 rfl rfl rfl ?_)
  rintro v19 H2 ⟨⟨o, rest, A2, c2, rfl, sl2, hnx⟩, le2⟩; have z2 := le2.1; have g20 := Xs le2 (by omega) (by intro e; cases e) g10; have g21 := Xs le2 (by omega) (by intro e; cases e) g11; have g22 := Xs le2 (by omega) (by intro e; cases e) g12; have leH2 := Hp.le_trans leH1 le2
  refine Xa (Y8 rfl) ?_
  refine Xa (Yb rfl rfl) ?_
  refine Xa (Yb rfl rfl) ?_
  refine Xa (Yb rfl rfl) ?_
  refine Xy (Yp (l := [.slice none 0 0, .int .i64 0, .int .u64 0]) inf46.zero rfl (by decide)) ?_
  refine Xw (X9 (vs := [.slice _ _ _, .int .i64 _, .int .u64 _]) rfl rfl inf46.size X6 Ya rfl rfl ?_)
  refine Xa (Xo rfl) ?_
  refine Xa (Xh rfl) ?_
  refine Xe ?_
  refine Xe ?_
  obtain ⟨H3, hH3⟩ : ∃ H3, H3 = (H2.push (.own 0 [.slice none 0 0, .int .i64 0, .int .u64 0])).put H2.size (.own 0 [.slice A2 (rowN o).length c2, .int .i64 (rowC o), .int .u64 (rowM o)]) := ⟨_, rfl⟩
  have le23 : H2.le H3 := by rw [hH3]; exact Hp.le_put_new (H2.le_push _) (Nat.le_refl _) _
  have g3 : H3.get H2.size = .own 0 [.slice A2 (rowN o).length c2, .int .i64 (rowC o), .int .u64 (rowM o)] := by rw [hH3]; exact Hp.put_same _ _ _
  have z3 : H3.size = H2.size + 1 := by rw [hH3]; simp
  change ACode true _ _ _ _ _ ((H2.push (.own 0 [.slice none 0 0, .int .i64 0, .int .u64 0])).put H2.size (.own 0 [.slice A2 (rowN o).length c2, .int .i64 (rowC o), .int .u64 (rowM o)]))
  rw [← hH3]
  clear hH3
  have g30 := Xs le23 (by omega) (by intro e; cases e) g20
  have g31 := Xs le23 (by omega) (by intro e; cases e) g21
  have g32 := Xs le23 (by omega) (by intro e; cases e) g22
  have sl3 := sl2.mono le23.sees
  have leH3 := Hp.le_trans leH2 le23
  refine Xb (by kernel_rfl) ?_
  refine Xa (Xp rfl) ?_
  refine Xa (Zq rfl) ?_
  refine X8 rfl rfl ?_ ?_
  intro hc2
  obtain rfl : o = none := by cases o with | none => rfl | some r => exact absurd hc2 (by simp)
  refine Xe ?_
  refine Yv (by kernel_rfl) (Y0 (B := [0, 0, 2, 6, 1, 31, 63]) (π := [0, 1, 2, 3, 4, 5, 6]) (by kernel_rfl)) ?_
  refine Xd rfl rfl (Ys (pl := [(0, 1), (1, 1), (2, 1)]) (r := [.slice _ _ _, .int .i64 _, .int .u64 _]) Tryz.underlying46 inf46.zero (by decide) rfl rfl) Xr ?_
  refine Xd rfl rfl (Xg (off := 0) rfl Tryz.underlying33 rfl inf3.size (by decide) rfl) Xr ?_
  refine Xd rfl rfl (Xk rfl Tryz.underlying3 rfl Xq) Xr ?_
  refine Xd rfl rfl (Ys (pl := [(0, 1), (1, 1), (2, 1), (3, 1), (4, 1)]) (r := [.int .i64 _, .bool _, .slice _ _ _, .int .u64 _, .slice _ _ _]) Tryz.underlying33 inf33.zero (by decide) rfl rfl) Xr ?_
  refine Ym rfl rfl (X9 (vs := [.slice _ _ _, .int .i64 _, .int .u64 _]) rfl rfl inf46.size X6 Ya rfl rfl ?_)
  refine ⟨Yh, ?_⟩
  refine Ym rfl rfl (X9 (vs := [.int .i64 _, .bool _, .slice _ _ _, .int .u64 _, .slice _ _ _]) rfl rfl inf33.size X6 Ya rfl rfl ?_)
  refine ⟨Yh, ?_⟩
  refine Xd rfl rfl (Xh rfl) Xr ?_
  refine X2 ?_
  · exact ⟨_, Vj (Yk Xn (Yj (cs := [_, _, _]) Tryz.underlying46 rfl inf46.size X4)) (Yk Xn (Yj (cs := [_, _, _, _, _]) Tryz.underlying33 rfl inf33.size X4)) (Xu rfl), ⟨none, rest, none, 0, ⟨m.told, true, [], 0, []⟩, none, 0, rfl, Sl.nil _ _, Sl.nil _ _, fun h => absurd hyes h, fun _ => ⟨hnx, fun _ => rfl, fun r h => (by cases h)⟩⟩, Hp.le_put_new (Hp.le_put_new leH3 (by first | omega | (simp; done) | (simp; omega)) _) (by first | omega | (simp; done) | (simp; omega)) _⟩
  intro hc2
  obtain ⟨r, rfl⟩ : ∃ r, o = some r := by cases o with | none => exact absurd hc2 (by simp) | some r => exact ⟨r, rfl⟩
  have hnl : r.nodes.length ≤ 1000000000 := by
    rcases Nat.lt_or_ge 1000000000 r.nodes.length with h | h
    · exfalso
      have hfew := hT.few
      have hrl : r.nodes.length = T.vars.length := by
        cases ho : m.over with
        | true => exact absurd (hnx.1 ho).1 (by simp)
        | false =>
          by_cases hn0 : m.nodes.length = 0
          · have h1 := (hnx.2.1 ho hn0).1
            have h2 := (next_tells hT hA _ w0 (val_w0 T) (Nat.le_refl _)).2.1
            rw [← h1] at h2
            have h3 : Z3 T w0 = r.nodes :: _ ∧ Vr T r.nodes = some r := h2
            exact (row_most h3.2).2.2
          · obtain ⟨q, hq, _⟩ := hyes.2.resolve_left hn0
            obtain ⟨h1, h2⟩ := hnx.2.2 ho hn0 q hq
            by_cases hlt : m.rest + 1 < q.n
            · have h3 := (h1 hlt).1
              injection h3 with h3
              rw [h3]
              have h4 := row_most hq
              rw [h4.2.1]; exact h4.2.2
            · have h3 := (h2 hlt).1.2 r rfl
              exact (row_most h3).2.2
      omega
    · exact h
  refine Yf ?_
  refine Xe ?_
  refine Yv (by kernel_rfl) (Y0 (B := [0, 0, 2, 6, 14, 0, 32, 96, 0, 510, 225, 2047, 4095]) (π := [0, 1, 2, 3, 4, 5, 6, 8, 7, 9, 10, 11, 12]) (by kernel_rfl)) ?_
  refine Xd rfl rfl (Yi (cs := [.slice _ _ _, .int .i64 _, .int .u64 _]) rfl Tryz.underlying46 rfl inf46.size X4) Xr ?_
  refine Xd rfl rfl (Xg (off := 0) rfl Tryz.underlying33 rfl inf3.size (by decide) rfl) Xr ?_
  refine Xd rfl rfl (Xk rfl Tryz.underlying3 rfl Xq) Xr ?_
  refine Xd rfl rfl (Yw rfl rfl Y4) Xr ?_
  refine Xd rfl rfl (av_min2 rfl rfl) Xr ?_
  refine Xd rfl rfl (Xg (off := 0) rfl Tryz.underlying46 rfl inf23.size (by decide) rfl) Xr ?_
  refine Xd rfl rfl (Xk rfl Tryz.underlying23 rfl Xq) Xr ?_
  refine Xd rfl rfl (Xf rfl) Xr ?_
  refine Ym rfl rfl (Xx (Clone_ints r.nodes _ _ sl3 hnl) rfl Tryz.func60 rfl rfl rfl ?_)
  rintro v36 H4 ⟨le4, sl4⟩; have z4 := le4.1; have g41 := Xs le4 (by omega) (by intro e; cases e) g31; have g42 := Xs le4 (by omega) (by intro e; cases e) g32; have leH4 := Hp.le_trans leH3 le4; obtain ⟨A4, c4, rfl⟩ := sl4.shape; have sl34 := sl3.mono le4.sees; have hsame : ∀ b ∈ [H2.size], H4.get b = H3.get b := (fun b hb => by rw [List.mem_singleton] at hb; subst hb; exact le4.2 _ (by omega) (by rw [g3]; intro e; cases e))
  refine ⟨Yh, ?_⟩
  refine Xd rfl rfl (Ys (pl := [(0, 1), (1, 1), (2, 1), (3, 1), (4, 1)]) (r := [.int .i64 _, .bool _, .slice _ _ _, .int .u64 _, .slice _ _ _]) Tryz.underlying33 inf33.zero (by decide) rfl rfl) Xr ?_
  refine Ym rfl rfl (X9 (vs := [.slice _ _ _, .int .i64 _, .int .u64 _]) rfl rfl inf46.size X6 Ya rfl rfl ?_)
  refine ⟨Yh, ?_⟩
  refine Ym rfl rfl (X9 (vs := [.int .i64 _, .bool _, .slice _ _ _, .int .u64 _, .slice _ _ _]) rfl rfl inf33.size X6 Ya rfl rfl ?_)
  refine ⟨Yh, ?_⟩
  refine Xd rfl rfl (Xh rfl) Xr ?_
  refine X2 ?_
  · refine ⟨_, Vj (Yk Xn (Yj (cs := [_, _, _]) Tryz.underlying46 rfl inf46.size X4)) (Yk Xn (Yj (cs := [_, _, _, _, _]) Tryz.underlying33 rfl inf33.size X4)) (Xu rfl), ?_⟩
    refine ⟨⟨some r, rest, A2, c2, ⟨(if 9007199254740992 < m.told + 1 then 9007199254740992 else m.told + 1), false, r.nodes, rest, []⟩, A4, c4, rfl, ?_, ?_, fun h => absurd hyes h, fun _ => ⟨hnx, fun h => (by cases h), fun r' h => (by injection h with h; rw [h])⟩⟩, Hp.le_put_new (Hp.le_put_new leH4 (by first | omega | (simp; done) | (simp; omega)) _) (by first | omega | (simp; done) | (simp; omega)) _⟩
    · exact (sl34.mono (Hp.sees_box _ g41)).mono (Hp.sees_box (cs := [.int .i64 0, .bool false, .slice none 0 0, .int .u64 0, .slice none 0 0]) _ (by rw [Hp.put_other _ _ (by first | omega | (simp; done) | (simp; omega))]; exact g42))
    · exact (sl4.mono (Hp.sees_box _ g41)).mono (Hp.sees_box (cs := [.int .i64 0, .bool false, .slice none 0 0, .int .u64 0, .slice none 0 0]) _ (by rw [Hp.put_other _ _ (by first | omega | (simp; done) | (simp; omega))]; exact g42))
def oneF : Forest := apartF 1
def oneP : Parts := apartP 2 [2]
def oneT : TreeT := ⟨[⟨#[120]⟩], [-1], [[⟨0, 0, 0, 2⟩, ⟨1, 1, 1, 2⟩]]⟩
theorem good_one : GoodP oneF oneP := by
  refine ⟨⟨rfl, rfl, rfl, rfl, fun i hi => ?_⟩, rfl, rfl, fun v hv => ?_⟩
  · have hi' : i < 1 := hi
    obtain rfl : i = 0 := by omega
    unfold OkF; decide
  · have hv' : v < 1 := hv
    obtain rfl : v = 0 := by omega
    unfold OkP; rw [goodL_iff, goodL_iff]; unfold OkL; decide
theorem small_one : Small oneF oneP := ⟨by decide, by decide, by decide, by decide, by decide, by decide, by decide⟩
theorem cheap_one : Cheap oneP := by
  refine ⟨fun v => ?_, fun v => ?_⟩
  · match v with
    | 0 => decide
    | v + 1 => intro x hx; cases hx
  · match v with
    | 0 => decide
    | v + 1 => intro x hx; cases hx
theorem of_one : ofP oneF oneP = oneP := by
  refine ofP_fix good_one.gf good_one.lens good_one.nb (fun v hv hp => ?_) (fun h => ?_)
  · have hv' : v < 1 := hv
    obtain rfl : v = 0 := by omega
    exact absurd rfl hp
  · have : oneF.order.any (Va oneF oneP) = false := by decide
    rw [this] at h; cases h
theorem tree_one : Zr oneF (ofP oneF oneP) = oneT := by rw [of_one]; rfl
theorem goodT_one : GoodT oneT := by
  have h := ofP_all good_one
  have := good_tree (ofP_good good_one) (by rw [of_one]; exact small_one) (cheap_one.sub h.2.1) (by decide)
  rwa [tree_one] at this
theorem alive_one : Alive oneT := by have := alive_tree good_one; rwa [tree_one] at this
theorem first_one : (Vm oneT w0).2 = some ⟨[0], 0, 2⟩ := rfl
set_option maxHeartbeats 2000000 in
theorem lives36_ok (H : Hp) : ACalls Tryz.prog 15 #[] H (fun r H' => r = .bool true ∧ H.le H') := by
  refine Xv Tryz.func15 rfl rfl rfl (by simp) ?_
  refine Xe ?_
  refine Xb (by kernel_rfl) ?_
  refine Xa (Xh rfl) ?_
  refine Xe ?_
  refine Xb (by kernel_rfl) ?_
  refine Xw (Xx (Start_36 _) rfl Tryz.func41 rfl rfl rfl ?_)
  rintro v11 H0 ⟨rfl, le0⟩
  refine Xw (Xx (Put_start _) rfl Tryz.func42 rfl rfl rfl ?_)
  rintro v12 H1 ⟨rfl, le1⟩; have leH1 := Hp.le_trans le0 le1
  refine Xa (Y8 rfl) ?_
  refine Xa (Yb rfl rfl) ?_
  refine Xa (Yb rfl rfl) ?_
  refine Xa (Z0 rfl) ?_
  refine Xa (Xo rfl) ?_
  refine Xe ?_
  refine Xb (by kernel_rfl) ?_
  first | refine Xy (Yn (r := [.int .i64 _]) Tryz.underlying23 inf3.size inf3.zero rfl (by decide) (by decide) (by decide) rfl) ?_
  refine Xw (Xx (Apart_ok 2 [2] (.slice (some ⟨H1.size, 0, none⟩) 1 1) _ (sl_one1 (k := Yz .i64) X6 (by simp) rfl rfl) (by decide) (by decide)) rfl Tryz.func54 rfl rfl rfl ?_)
  rintro v17 H2 ⟨cs1, ds1, rfl, hf1, hp1, hle2⟩; have hf10 := hf1; have hp10 := hp1; obtain ⟨a0, a1, a2, a3, a4, rfl, hs0, hs1, hs2, hs3, hs4⟩ := hf1; obtain ⟨A0, c0, rfl⟩ := hs0.shape; obtain ⟨B1', c1', rfl⟩ := hs1.shape; obtain ⟨A2, c2, rfl⟩ := hs2.shape; obtain ⟨A3, c3, rfl⟩ := hs3.shape; obtain ⟨A4, c4, rfl⟩ := hs4.shape; obtain ⟨u0, u1, rfl, hn0, hn1⟩ := hp1; obtain ⟨B0, d0, rfl⟩ := hn0.shape; obtain ⟨B1, d1, rfl⟩ := hn1.shape; have hz2 := hle2.1; simp only [Hp.push_size] at hz2; have leH2 := Hp.le_trans leH1 (Hp.le_trans (H1.le_push _) hle2)
  refine Xa (Y8 rfl) ?_
  refine Xa (Yb rfl rfl) ?_
  refine Xa (Yb rfl rfl) ?_
  refine Xy (Yp (l := [.slice none 0 0, .slice none 0 0, .slice none 0 0, .slice none 0 0, .slice none 0 0]) inf26.zero rfl (by decide)) ?_
  refine Xy (Yp (l := [.slice none 0 0, .slice none 0 0]) inf29.zero rfl (by decide)) ?_
  refine Xw (X9 (vs := [.slice _ _ _, .slice _ _ _, .slice _ _ _, .slice _ _ _, .slice _ _ _]) rfl rfl inf26.size X6 Ya rfl rfl ?_)
  refine Xw (X9 (vs := [.slice _ _ _, .slice _ _ _]) rfl rfl inf29.size X6 Ya rfl rfl ?_)
  refine Xe ?_
  refine Xb (by kernel_rfl) ?_
  refine Xa (Yi (cs := [.slice _ _ _, .slice _ _ _, .slice _ _ _, .slice _ _ _, .slice _ _ _]) rfl Tryz.underlying26 rfl inf26.size X4) ?_
  refine Xa (Yi (cs := [.slice _ _ _, .slice _ _ _]) rfl Tryz.underlying29 rfl inf29.size X4) ?_
  refine Xw (Xx (New_good oneF oneP _ _ _ (kForest.mono Zk hf10) (kParts.mono Zk hp10) small_one cheap_one good_one) rfl Tryz.func13 rfl rfl rfl ?_)
  rintro v23 H3 ⟨hle3, tb, rfl, htr⟩; rw [tree_one] at htr
  refine Xa (Y8 rfl) ?_
  refine Xa (Yb rfl rfl) ?_
  refine Xa (Yb rfl rfl) ?_
  refine Xa (Zc rfl) ?_
  refine Xa (Xo rfl) ?_
  refine Xe ?_
  have leH3 : H.le H3 := Hp.le_trans leH2 (Hp.le_trans t_le hle3)
  clear hle3
  refine Xb (by kernel_rfl) ?_
  refine Xa (Xt rfl) ?_
  refine Xw (Xx (Start_36 _) rfl Tryz.func41 rfl rfl rfl ?_)
  rintro v28 H4 ⟨rfl, le4⟩
  refine Xw (Xx (Next_T goodT_one alive_one startM _ _ (htr.mono le4) (start_rep _) start_big (by decide)) rfl Tryz.func17 rfl rfl rfl ?_)
  rintro v29 H5 ⟨⟨o, rest, A5, k5, x, B5, k6, rfl, sl5, sx5, _, hnx⟩, le5⟩; obtain ⟨hn1, hn2, hn3⟩ := hnx ⟨start_good, .inl rfl⟩; have ho1 := (hn1.2.1 rfl rfl).1; rw [first_one] at ho1; subst ho1; have hx := hn3 _ rfl; subst hx; have leH5 := Hp.le_trans leH3 (Hp.le_trans le4 le5); have z5 := leH5.1
  refine Xa (Y8 rfl) ?_
  refine Xa (Yb rfl rfl) ?_
  refine Xa (Yb rfl rfl) ?_
  refine Xa (Yb rfl rfl) ?_
  refine Xy (Yp (l := [.slice none 0 0, .int .i64 0, .int .u64 0]) inf46.zero rfl (by decide)) ?_
  refine Xy (Yp (l := [.int .i64 0, .bool false, .slice none 0 0, .int .u64 0, .slice none 0 0]) inf33.zero rfl (by decide)) ?_
  refine Xw (X9 (vs := [.slice _ _ _, .int .i64 _, .int .u64 _]) rfl rfl inf46.size X6 Ya rfl rfl ?_)
  refine Xw (X9 (vs := [.int .i64 _, .bool _, .slice _ _ _, .int .u64 _, .slice _ _ _]) rfl rfl inf33.size X6 Ya rfl rfl ?_)
  refine Xa (Xh rfl) ?_
  refine Xe ?_
  refine Xb (by kernel_rfl) ?_
  refine Xa (Xf rfl) ?_
  refine Xa (Zt rfl rfl) ?_
  refine Xa (Xp rfl) ?_
  refine Yd rfl rfl rfl ?_ ?_
  intro hg1
  have hp1 := hg1; try simp only [decide_eq_true_eq, decide_eq_false_iff_not, Bool.not_eq_true', Bool.not_eq_false'] at hp1
  refine Xl (Xi rfl rfl rfl hg1) (av_move_str rfl) ?_
  refine Xl (Xi rfl rfl rfl hg1) (av_str_eql rfl rfl) ?_
  refine Xa (Xm (congrArg Value.bool hg1) rfl) ?_
  refine Xa (Xp rfl) ?_
  refine Yd rfl rfl rfl ?_ ?_
  intro hg2
  have hp2 := hg2; try simp only [decide_eq_true_eq, decide_eq_false_iff_not, Bool.not_eq_true', Bool.not_eq_false'] at hp2
  refine Xl (Xi rfl rfl rfl hg2) (Xf rfl) ?_
  refine Xl (Xi rfl rfl rfl hg2) (Zt rfl rfl) ?_
  refine Xa (Xm (congrArg Value.bool hg2) rfl) ?_
  refine Xa (Xp rfl) ?_
  refine Yd rfl rfl rfl ?_ ?_
  intro hg3
  have hp3 := hg3; try simp only [decide_eq_true_eq, decide_eq_false_iff_not, Bool.not_eq_true', Bool.not_eq_false'] at hp3
  refine Xl (Xi rfl rfl rfl hg3) (Xp rfl) ?_
  refine Xa (Xm (congrArg Value.bool hg3) rfl) ?_
  refine Xa (Xp rfl) ?_
  refine Yd rfl rfl rfl ?_ ?_
  intro hg4
  have hp4 := hg4; try simp only [decide_eq_true_eq, decide_eq_false_iff_not, Bool.not_eq_true', Bool.not_eq_false'] at hp4
  refine Xl (Xi rfl rfl rfl hg4) (Xg (off := 2) rfl Tryz.underlying46 rfl inf30.size (by decide) rfl) ?_
  refine Xl (Xi rfl rfl rfl hg4) (Xk rfl Tryz.underlying30 rfl Xq) ?_
  refine Xl (Xi rfl rfl rfl hg4) (Zt rfl rfl) ?_
  refine Xa (Xm (congrArg Value.bool hg4) rfl) ?_
  refine Xa (Xp rfl) ?_
  refine Yd rfl rfl rfl ?_ ?_
  intro hg5
  have hp5 := hg5; try simp only [decide_eq_true_eq, decide_eq_false_iff_not, Bool.not_eq_true', Bool.not_eq_false'] at hp5
  refine Xl (Xi rfl rfl rfl hg5) (Xg (off := 0) rfl Tryz.underlying33 rfl inf3.size (by decide) rfl) ?_
  refine Xl (Xi rfl rfl rfl hg5) (Xk rfl Tryz.underlying3 rfl Xq) ?_
  refine Xl (Xi rfl rfl rfl hg5) (Zt rfl rfl) ?_
  refine Xa (Xm (congrArg Value.bool hg5) rfl) ?_
  refine Xa (Xp rfl) ?_
  refine Yd rfl rfl rfl ?_ ?_
  intro hg6
  have hp6 := hg6; try simp only [decide_eq_true_eq, decide_eq_false_iff_not, Bool.not_eq_true', Bool.not_eq_false'] at hp6
  refine Xl (Xi rfl rfl rfl hg6) (Xg (off := 2) rfl Tryz.underlying33 rfl inf23.size (by decide) rfl) ?_
  refine Xl (Xi rfl rfl rfl hg6) (Xk rfl Tryz.underlying23 rfl Xq) ?_
  refine Xl (Xi rfl rfl rfl hg6) (Yr rfl Tryz.underlying23) ?_
  refine Xl (Xi rfl rfl rfl hg6) (Zt rfl rfl) ?_
  refine Xa (Xm (congrArg Value.bool hg6) rfl) ?_
  refine Xa (Xh rfl) ?_
  refine X2 ?_
  · exact ⟨.bool true, X1 (Xu rfl), rfl, Hp.le_put_new (Hp.le_put_new (Hp.le_push' (Hp.le_push' leH5 _) _) (by first | omega | (simp; done) | (simp; omega)) _) (by first | omega | (simp; done) | (simp; omega)) _⟩
  intro hg6
  exact absurd rfl (of_decide_eq_false hg6)
  intro hg5
  exact absurd rfl (of_decide_eq_false hg5)
  intro hg4
  exact absurd hg4 (by decide)
  intro hg3
  exact absurd hg3 (by decide)
  intro hg2
  exact absurd hg2 (by decide)
  intro hg1
  exact absurd hg1 (by decide)
end Go.Proofs.YtmakkmcjocjgmaaGreat.Am


/- The statement CursorNone, as the abstract machine runs it. -/
namespace Go.Proofs.YtmakkmcjocjgmaaGreat.Am
open Go Go.RowKit
set_option maxRecDepth 100000
set_option linter.unusedVariables false
set_option linter.unusedSimpArgs false

set_option maxHeartbeats 4000000 in
theorem CursorNone_ok (m : MarkT) (cs : List Value) (H : Hp) (hm : kMark.rep H m cs) (hb : BigM m) (hr0 : 0 ≤ m.rest) :
    ACalls Tryz.prog 4 #[.agg cs.toArray] H (fun r H' => r = .bool true ∧ H.le H') := by
  have hm0 := hm
  obtain ⟨v, w, rfl, hv, hw⟩ := hm
  obtain ⟨A, c, rfl⟩ := hv.shape
  obtain ⟨W, cW, rfl⟩ := hw.shape
  have hbM := bigM_cut m
  have hcc := cut_cut m
  have hrM : 0 ≤ m.cut.rest := hr0
  refine Xv Tryz.func4 rfl rfl rfl (by simp) ?_
  refine Xe ?_
  refine Xb (by kernel_rfl) ?_
  refine Xy (Yq rfl) ?_
  refine Xa (Xh rfl) ?_
  refine Xe ?_
  refine Xb (by kernel_rfl) ?_
  refine Xa (Yi (cs := [.int .i64 _, .bool _, .slice _ _ _, .int .u64 _, .slice _ _ _]) rfl Tryz.underlying33 rfl inf33.size X4) ?_
  refine Xw (Xx (Mark_36 m _ _ (kMark.mono (H.le_push _).sees hm0) hb) rfl Tryz.func12 rfl rfl rfl ?_)
  rintro v8 H1 ⟨le1, ds, rfl, hM1⟩; obtain ⟨M, hMe⟩ : ∃ M, M = m.cut := ⟨_, rfl⟩; rw [← hMe] at hM1 hbM hcc hrM; have hM10 := hM1; obtain ⟨v1, w1', rfl, hv1, hw1⟩ := hM1; obtain ⟨A1, c1', rfl⟩ := hv1.shape; obtain ⟨W1, cW1, rfl⟩ := hw1.shape; have z1 := le1.1; simp only [Hp.push_size] at z1; have g10 := Xs le1 (by simp) (by intro e; cases e) (Hp.push_new H (.own 0 [.int .i64 m.told, .bool m.over, .slice A m.nodes.length c, .int .u64 m.rest, .slice W m.items.length cW])); have leH1 := Hp.le_trans (H.le_push (.own 0 [.int .i64 m.told, .bool m.over, .slice A m.nodes.length c, .int .u64 m.rest, .slice W m.items.length cW])) le1
  refine Xw (X9 (vs := [.int .i64 _, .bool _, .slice _ _ _, .int .u64 _, .slice _ _ _]) rfl rfl inf33.size X6 Ya rfl rfl ?_)
  refine Xe ?_
  obtain ⟨K, hK⟩ : ∃ K, K = H1.put H.size (.own 0 [.int .i64 M.told, .bool M.over, .slice A1 M.nodes.length c1', .int .u64 M.rest, .slice W1 M.items.length cW1]) := ⟨_, rfl⟩
  have kg : K.get H.size = .own 0 [.int .i64 M.told, .bool M.over, .slice A1 M.nodes.length c1', .int .u64 M.rest, .slice W1 M.items.length cW1] := by rw [hK]; exact Hp.put_same _ _ _
  have leK : H.le K := by rw [hK]; exact Hp.le_put_new leH1 (Nat.le_refl _) _
  have zK : H.size < K.size := by rw [hK]; simp; omega
  have hMK := kMark.mono (show H1.sees K by rw [hK]; exact Hp.sees_box _ g10) hM10
  change ACode true _ _ _ _ _ (H1.put H.size (.own 0 [.int .i64 M.told, .bool M.over, .slice A1 M.nodes.length c1', .int .u64 M.rest, .slice W1 M.items.length cW1]))
  rw [← hK]
  clear hK g10 hM10 hv1 hw1
  refine Xb (by kernel_rfl) ?_
  refine Xa (Yi (cs := [.int .i64 _, .bool _, .slice _ _ _, .int .u64 _, .slice _ _ _]) rfl Tryz.underlying33 rfl inf33.size X4) ?_
  refine Xw (Xx (Mark_36 M _ _ hMK hbM) rfl Tryz.func12 rfl rfl rfl ?_)
  rintro v11 H2 ⟨le2, ds2, rfl, hM2⟩; rw [hcc] at hM2; have hM20 := hM2; obtain ⟨v2, w2, rfl, hv2, hw2⟩ := hM2; obtain ⟨A2, c2, rfl⟩ := hv2.shape; obtain ⟨W2, cW2, rfl⟩ := hw2.shape
  refine Xw (Xx (Next_no M _ _ hM20 hbM) rfl Tryz.func17 rfl rfl rfl ?_)
  rintro v12 H3 ⟨⟨A3, c3, x, rfl, hx1, hx2⟩, le3⟩; have leK3 := Hp.le_trans le2 le3; have z3 := leK3.1; have g30 := Xs leK3 zK (by intro e; cases e) kg
  refine Xa (Y8 rfl) ?_
  refine Xa (Yb rfl rfl) ?_
  refine Xa (Yb rfl rfl) ?_
  refine Xa (Yb rfl rfl) ?_
  refine Xy (Yp (l := [.slice none 0 0, .int .i64 0, .int .u64 0]) inf46.zero rfl (by decide)) ?_
  refine Xy (Yp (l := [.int .i64 0, .bool false, .slice none 0 0, .int .u64 0, .slice none 0 0]) inf33.zero rfl (by decide)) ?_
  refine Xw (X9 (vs := [.slice _ _ _, .int .i64 _, .int .u64 _]) rfl rfl inf46.size X6 Ya rfl rfl ?_)
  refine Xw (X9 (vs := [.int .i64 _, .bool _, .slice _ _ _, .int .u64 _, .slice _ _ _]) rfl rfl inf33.size X6 Ya rfl rfl ?_)
  refine Xa (Xh rfl) ?_
  refine Xe ?_
  refine Xb (by kernel_rfl) ?_
  refine Xa (Ys (pl := [(0, 1), (1, 1), (2, 1), (3, 1), (4, 1)]) (r := [.int .i64 _, .bool _, .slice _ _ _, .int .u64 _, .slice _ _ _]) Tryz.underlying33 inf33.zero (by decide) rfl rfl) ?_
  refine Xy (Yp (l := [.int .i64 0, .bool false, .slice none 0 0, .int .u64 0, .slice none 0 0]) inf33.zero rfl (by decide)) ?_
  refine Xw (X9 (vs := [.int .i64 _, .bool _, .slice _ _ _, .int .u64 _, .slice _ _ _]) rfl rfl inf33.size X6 Ya rfl rfl ?_)
  refine Xe ?_
  refine Xe ?_
  obtain ⟨xt, xo, rfl⟩ : ∃ xt xo, x = ⟨xt, xo, [], 0, []⟩ := by
    by_cases h : GoodM M ∧ M.nodes.length = 0
    · exact ⟨_, _, hx1 h⟩
    · exact ⟨_, _, hx2 h⟩
  obtain ⟨H4, hH4⟩ : ∃ H4, H4 = (((((H3.push (.own 0 [.slice none 0 0, .int .i64 0, .int .u64 0])).push (.own 0 [.int .i64 0, .bool false, .slice none 0 0, .int .u64 0, .slice none 0 0])).put H3.size (.own 0 [.slice A3 0 c3, .int .i64 0, .int .u64 0])).put (H3.size + 1) (.own 0 [.int .i64 xt, .bool xo, .slice none 0 0, .int .u64 0, .slice none 0 0])).push (.own 0 [.int .i64 0, .bool false, .slice none 0 0, .int .u64 0, .slice none 0 0])).put (H3.size + 1 + 1) (.own 0 [.int .i64 0, .bool false, .slice none 0 0, .int .u64 0, .slice none 0 0]) := ⟨_, rfl⟩
  have le34 : H3.le H4 := by rw [hH4]; exact Hp.le_put_new (Hp.le_push' (Hp.le_put_new (Hp.le_put_new (Hp.le_push' (H3.le_push _) _) (Nat.le_refl _) _) (Nat.le_succ _) _) _) (by omega) _
  have g41 : H4.get (H3.size + 1) = .own 0 [.int .i64 xt, .bool xo, .slice none 0 0, .int .u64 0, .slice none 0 0] := by rw [hH4, Hp.put_other _ _ (by omega)]; exact (Hp.push_old _ _ (by simp)).trans (Hp.put_same _ _ _)
  have g42 : H4.get (H3.size + 1 + 1) = .own 0 [.int .i64 0, .bool false, .slice none 0 0, .int .u64 0, .slice none 0 0] := by rw [hH4]; exact Hp.put_same _ _ _
  have z4 : H4.size = H3.size + 3 := by rw [hH4]; simp
  have leK4 := Hp.le_trans leK3 le34
  have g40 := Xs leK4 zK (by intro e; cases e) kg
  change ACode true _ _ _ _ _ ((((((H3.push (.own 0 [.slice none 0 0, .int .i64 0, .int .u64 0])).push (.own 0 [.int .i64 0, .bool false, .slice none 0 0, .int .u64 0, .slice none 0 0])).put H3.size (.own 0 [.slice A3 0 c3, .int .i64 0, .int .u64 0])).put (H3.size + 1) (.own 0 [.int .i64 xt, .bool xo, .slice none 0 0, .int .u64 0, .slice none 0 0])).push (.own 0 [.int .i64 0, .bool false, .slice none 0 0, .int .u64 0, .slice none 0 0])).put (H3.size + 1 + 1) (.own 0 [.int .i64 0, .bool false, .slice none 0 0, .int .u64 0, .slice none 0 0]))
  rw [← hH4]
  clear hH4
  have hMK4 := kMark.mono leK4.sees hMK
  refine Xb (by kernel_rfl) ?_
  refine Xa (Yi (cs := [.int .i64 _, .bool _, .slice _ _ _, .int .u64 _, .slice _ _ _]) rfl Tryz.underlying33 rfl inf33.size X4) ?_
  refine Xw (Xx (goodR_36 M _ _ hMK4 hbM hrM) rfl Tryz.func24 rfl rfl rfl ?_)
  rintro v18 H4 ⟨⟨g, rfl, hg⟩, rfl⟩
  refine Xa (Xp rfl) ?_
  refine Yd rfl rfl rfl ?_ ?_
  intro hg1
  have hgt : g = true := hg1
  refine Xl (Xi rfl rfl rfl hg1) (Xg (off := 2) rfl Tryz.underlying33 rfl inf23.size (by decide) rfl) ?_
  refine Xl (Xi rfl rfl rfl hg1) (Xk rfl Tryz.underlying23 rfl Xq) ?_
  refine Xl (Xi rfl rfl rfl hg1) (Yr rfl Tryz.underlying23) ?_
  refine Xl (Xi rfl rfl rfl hg1) (Zt rfl rfl) ?_
  refine Xa (Xm (congrArg Value.bool hg1) rfl) ?_
  refine ac_cut (fun t H' => K.le H' ∧ H'.get (H3.size + 1) = .own 0 [.int .i64 xt, .bool xo, .slice none 0 0, .int .u64 0, .slice none 0 0] ∧ H'.get (H3.size + 1 + 1) = .own 0 [.int .i64 xt, .bool xo, .slice none 0 0, .int .u64 0, .slice none 0 0] ∧ H3.size + 2 < H'.size ∧ t 1 = .pointer (some ⟨H.size, 0, none⟩) ∧ t 4 = .pointer (some ⟨H3.size + 1, 0, none⟩) ∧ t 5 = .bool false ∧ t 6 = .pointer (some ⟨H3.size + 1 + 1, 0, none⟩)) ?_ ?_
  refine X8 rfl rfl ?_ ?_
  intro hc2
  have hn0 : M.nodes.length = 0 := by have := of_decide_eq_true hc2; omega
  have hxz : (⟨xt, xo, [], 0, []⟩ : MarkT) = ⟨M.told, true, [], 0, []⟩ := hx1 ⟨hg.1 hgt, hn0⟩
  injection hxz with q1 q2
  refine Xb (by kernel_rfl) ?_
  refine Xa (Xg (off := 0) rfl Tryz.underlying33 rfl inf3.size (by decide) rfl) ?_
  refine Xa (Xk rfl Tryz.underlying3 rfl Xq) ?_
  refine Xa (Ys (pl := [(0, 1), (1, 1), (2, 1), (3, 1), (4, 1)]) (r := [.int .i64 _, .bool _, .slice _ _ _, .int .u64 _, .slice _ _ _]) Tryz.underlying33 inf33.zero (by decide) rfl rfl) ?_
  refine Xw (X9 (vs := [.int .i64 _, .bool _, .slice _ _ _, .int .u64 _, .slice _ _ _]) rfl rfl inf33.size X6 Ya rfl rfl ?_)
  · first
      | exact ⟨leK4, g41, by rw [q1, q2]; exact g42, by omega, rfl, rfl, rfl, rfl⟩
      | exact ⟨Hp.le_put_new leK4 (by first | omega | (simp; done) | (simp; omega)) _, by rw [Hp.put_other _ _ (by first | omega | (simp; done) | (simp; omega))]; exact g41, by rw [q1, q2]; exact Hp.put_same _ _ _, by simp; omega, rfl, rfl, rfl, rfl⟩
  intro hc2
  have hn0 : ¬ M.nodes.length = 0 := by have := of_decide_eq_false hc2; omega
  have hxz : (⟨xt, xo, [], 0, []⟩ : MarkT) = ⟨0, false, [], 0, []⟩ := hx2 (fun h => hn0 h.2)
  injection hxz with q1 q2
  refine Yf ?_
  · first
      | exact ⟨leK4, g41, by rw [q1, q2]; exact g42, by omega, rfl, rfl, rfl, rfl⟩
      | exact ⟨Hp.le_put_new leK4 (by first | omega | (simp; done) | (simp; omega)) _, by rw [Hp.put_other _ _ (by first | omega | (simp; done) | (simp; omega))]; exact g41, by rw [q1, q2]; exact Hp.put_same _ _ _, by simp; omega, rfl, rfl, rfl, rfl⟩
  rintro t H5 ⟨leK5, g51, g52, z5, e1, e4, e5, e6⟩
  have g50 := Xs leK5 zK (by intro e; cases e) kg
  have hMK5 := kMark.mono leK5.sees hMK
  have hx5 : kMark.rep H5 ⟨xt, xo, [], 0, []⟩ [.int .i64 xt, .bool xo, .slice none 0 0, .int .u64 0, .slice none 0 0] := ⟨_, _, rfl, Sl.nil _ _, Sl.nil _ _⟩
  have hxb : BigM ⟨xt, xo, [], 0, []⟩ := ⟨(by decide : (0 : Nat) ≤ 9223372036854775807), (by decide : (0 : Nat) ≤ 9223372036854775807), fun x h => (by cases h)⟩
  have leH5 := Hp.le_trans leK leK5
  have zKH := leK5.1
  refine Xe ?_
  refine Yv (by kernel_rfl) (Y0 (B := [0, 1, 3, 7, 7, 31, 63, 127, 255, 511, 1023, 255, 4095, 8191, 16383, 32767, 65535, 131071, 262143, 524287, 1048575, 2097151, 4194303, 8388607, 16777215]) (π := [0, 1, 2, 3, 4, 5, 6, 7, 8, 11, 9, 10, 12, 13, 14, 15, 16, 17, 18, 19, 20, 21, 22, 23, 24]) (by kernel_rfl)) ?_
  refine Xd rfl rfl (Xp Xn) Xr ?_
  refine Xd rfl rfl (Zq rfl) Xr ?_
  refine Xd rfl rfl (Xp rfl) Xr ?_
  refine Zi rfl rfl rfl rfl ?_ ?_
  intro hg3
  have hp3 := hg3; try simp only [decide_eq_true_eq, decide_eq_false_iff_not, Bool.not_eq_true', Bool.not_eq_false'] at hp3
  refine Yg rfl (Xi rfl rfl rfl hg3) rfl (Yi (cs := [.int .i64 _, .bool _, .slice _ _ _, .int .u64 _, .slice _ _ _]) Xn Tryz.underlying33 Xn inf33.size X4) Xr ?_
  refine Yg rfl (Xi rfl rfl rfl hg3) rfl (Yi (cs := [.int .i64 _, .bool _, .slice _ _ _, .int .u64 _, .slice _ _ _]) Xn Tryz.underlying33 Xn inf33.size X4) Xr ?_
  refine Z1 rfl (Xi rfl rfl rfl hg3) rfl (Xx (sameM_36 ⟨xt, xo, [], 0, []⟩ ⟨xt, xo, [], 0, []⟩ _ _ _ hx5 hx5 hxb hxb) rfl Tryz.func20 rfl rfl rfl ?_)
  rintro v33 H5 ⟨⟨gs, rfl, hgs⟩, rfl⟩; obtain rfl : gs = true := hgs.2 ⟨rfl, rfl, rfl, rfl⟩
  refine ⟨Yh, ?_⟩
  refine Xd rfl rfl (Xm (congrArg Value.bool hg3) rfl) Xr ?_
  refine Xd rfl rfl (Xp rfl) Xr ?_
  refine Zi rfl rfl rfl rfl ?_ ?_
  intro hg4
  have hp4 := hg4; try simp only [decide_eq_true_eq, decide_eq_false_iff_not, Bool.not_eq_true', Bool.not_eq_false'] at hp4
  refine Yg rfl (Xi rfl rfl rfl hg4) rfl (Yi (cs := [.int .i64 _, .bool _, .slice _ _ _, .int .u64 _, .slice _ _ _]) Xn Tryz.underlying33 Xn inf33.size X4) Xr ?_
  refine Yg rfl (Xi rfl rfl rfl hg4) rfl (Yi (cs := [.int .i64 _, .bool _, .slice _ _ _, .int .u64 _, .slice _ _ _]) Xn Tryz.underlying33 Xn inf33.size X4) Xr ?_
  refine Z1 rfl (Xi rfl rfl rfl hg4) rfl (Xx (Mark_36 M _ _ hMK5 hbM) rfl Tryz.func12 rfl rfl rfl ?_)
  rintro v37 H6 ⟨le6, ds6, rfl, hM6⟩; rw [hcc] at hM6; have hM60 := hM6; obtain ⟨v6, w6, rfl, hv6, hw6⟩ := hM6; obtain ⟨A6, c6, rfl⟩ := hv6.shape; obtain ⟨W6, cW6, rfl⟩ := hw6.shape; have z6 := le6.1; have g60 := Xs le6 (by omega) (by intro e; cases e) g50; have g61 := Xs le6 (by omega) (by intro e; cases e) g51; have g62 := Xs le6 (by omega) (by intro e; cases e) g52
  refine ⟨Yh, ?_⟩
  refine Z1 rfl (Xi rfl rfl rfl hg4) rfl (Xx (Fits_no M _ _ hM60 hbM) rfl Tryz.func18 rfl rfl rfl ?_)
  rintro v38 H7 ⟨⟨gf, rfl, hgf⟩, le7⟩; have z7 := le7.1; have g70 := Xs le7 (by omega) (by intro e; cases e) g60; have g71 := Xs le7 (by omega) (by intro e; cases e) g61; have g72 := Xs le7 (by omega) (by intro e; cases e) g62
  refine ⟨Yh, ?_⟩
  refine Z1 rfl (Xi rfl rfl rfl hg4) rfl (Xx (goodR_36 M _ _ (kMark.mono (Hp.le_trans le6 le7).sees hMK5) hbM hrM) rfl Tryz.func24 rfl rfl rfl ?_)
  rintro v40 H7 ⟨⟨g3, rfl, hg3⟩, rfl⟩
  refine ⟨Yh, ?_⟩
  refine Yg rfl (Xi rfl rfl rfl hg4) rfl (Xp rfl) Xr ?_
  refine Zi rfl rfl rfl rfl ?_ ?_
  intro hg5
  have h3t : g3 = true := hg5
  have hfin : gf = decide ((M.nodes.length : Int) = 0) := by
    rw [Bool.eq_iff_iff, decide_eq_true_eq, hgf]
    exact ⟨fun h => by omega, fun h => ⟨hg3.1 h3t, by omega⟩⟩
  refine Yg rfl (Xi rfl rfl rfl hg5) rfl (Xg (off := 2) Xn Tryz.underlying33 Xn inf23.size (by decide) Xn) Xr ?_
  refine Yg rfl (Xi rfl rfl rfl hg5) rfl (Xk rfl Tryz.underlying23 rfl Xq) Xr ?_
  refine Yg rfl (Xi rfl rfl rfl hg5) rfl (Yr rfl Tryz.underlying23) Xr ?_
  refine Yg rfl (Xi rfl rfl rfl hg5) rfl (Zt rfl rfl) Xr ?_
  refine Yg rfl (Xi rfl rfl rfl hg4) rfl (Xm (congrArg Value.bool hg5) rfl) Xr ?_
  refine Yg rfl (Xi rfl rfl rfl hg4) rfl (av_beq rfl rfl Tryz.underlying4) Xr ?_
  refine Xd rfl rfl (Xm (congrArg Value.bool hg4) rfl) Xr ?_
  refine Xd rfl rfl (Xp rfl) Xr ?_
  refine Zi rfl rfl rfl rfl ?_ ?_
  intro hg6
  have hp6 := hg6; try simp only [decide_eq_true_eq, decide_eq_false_iff_not, Bool.not_eq_true', Bool.not_eq_false'] at hp6
  refine Z1 rfl (Xi rfl rfl rfl hg6) rfl (Xx (lives36_ok _) rfl Tryz.func15 rfl rfl rfl ?_)
  rintro v H' ⟨rfl, hlv⟩
  refine ⟨Yh, ?_⟩
  refine Xd rfl rfl (Xm (congrArg Value.bool hg6) rfl) Xr ?_
  refine Xd rfl rfl (Xh rfl) Xr ?_
  refine X2 ?_
  exact ⟨.bool true, X1 (Xu rfl), rfl, Hp.le_trans (Hp.le_trans leH5 (Hp.le_trans le6 le7)) hlv⟩
  intro hg6
  exact absurd hfin (of_decide_eq_false hg6)
  intro hg5
  have h3f : g3 = false := hg5
  have hfin : gf = false := by
    cases hx : gf with
    | false => rfl
    | true =>
      have := hg3.2 (hgf.1 hx).1
      rw [h3f] at this; cases this
  refine X0 rfl (Xj rfl rfl rfl hg5 rfl) ?_
  refine X0 rfl (Xj rfl rfl rfl hg5 rfl) ?_
  refine X0 rfl (Xj rfl rfl rfl hg5 rfl) ?_
  refine X0 rfl (Xj rfl rfl rfl hg5 rfl) ?_
  refine Yg rfl (Xi rfl rfl rfl hg4) rfl (Xm (congrArg Value.bool hg5) Xn) Xr ?_
  refine Yg rfl (Xi rfl rfl rfl hg4) rfl (av_beq rfl rfl Tryz.underlying4) Xr ?_
  refine Xd rfl rfl (Xm (congrArg Value.bool hg4) rfl) Xr ?_
  refine Xd rfl rfl (Xp rfl) Xr ?_
  refine Zi rfl rfl rfl rfl ?_ ?_
  intro hg7
  have hp7 := hg7; try simp only [decide_eq_true_eq, decide_eq_false_iff_not, Bool.not_eq_true', Bool.not_eq_false'] at hp7
  refine Z1 rfl (Xi rfl rfl rfl hg7) rfl (Xx (lives36_ok _) rfl Tryz.func15 rfl rfl rfl ?_)
  rintro v H' ⟨rfl, hlv⟩
  refine ⟨Yh, ?_⟩
  refine Xd rfl rfl (Xm (congrArg Value.bool hg7) rfl) Xr ?_
  refine Xd rfl rfl (Xh rfl) Xr ?_
  refine X2 ?_
  exact ⟨.bool true, X1 (Xu rfl), rfl, Hp.le_trans (Hp.le_trans leH5 (Hp.le_trans le6 le7)) hlv⟩
  intro hg7
  exact absurd hfin (of_decide_eq_false hg7)
  intro hg4
  exact absurd hg4 (by decide)
  intro hg3
  exact absurd hg3 (by decide)
  intro hg1
  have hgf : g = false := hg1
  have hxz : (⟨xt, xo, [], 0, []⟩ : MarkT) = ⟨0, false, [], 0, []⟩ := hx2 (fun h => by have := hg.2 h.1; rw [hgf] at this; cases this)
  injection hxz with q1 q2
  refine Xc (Xj rfl rfl rfl hg1 rfl) ?_
  refine Xc (Xj rfl rfl rfl hg1 rfl) ?_
  refine Xc (Xj rfl rfl rfl hg1 rfl) ?_
  refine Xc (Xj rfl rfl rfl hg1 rfl) ?_
  refine Xa (Xm (congrArg Value.bool hg1) rfl) ?_
  refine ac_cut (fun t H' => K.le H' ∧ H'.get (H3.size + 1) = .own 0 [.int .i64 xt, .bool xo, .slice none 0 0, .int .u64 0, .slice none 0 0] ∧ H'.get (H3.size + 1 + 1) = .own 0 [.int .i64 xt, .bool xo, .slice none 0 0, .int .u64 0, .slice none 0 0] ∧ H3.size + 2 < H'.size ∧ t 1 = .pointer (some ⟨H.size, 0, none⟩) ∧ t 4 = .pointer (some ⟨H3.size + 1, 0, none⟩) ∧ t 5 = .bool false ∧ t 6 = .pointer (some ⟨H3.size + 1 + 1, 0, none⟩)) ?_ ?_
  refine Zg rfl rfl ?_
  refine Yf ?_
  · first
      | exact ⟨leK4, g41, by rw [q1, q2]; exact g42, by omega, rfl, rfl, rfl, rfl⟩
      | exact ⟨Hp.le_put_new leK4 (by first | omega | (simp; done) | (simp; omega)) _, by rw [Hp.put_other _ _ (by first | omega | (simp; done) | (simp; omega))]; exact g41, by rw [q1, q2]; exact Hp.put_same _ _ _, by simp; omega, rfl, rfl, rfl, rfl⟩
  rintro t H5 ⟨leK5, g51, g52, z5, e1, e4, e5, e6⟩
  have g50 := Xs leK5 zK (by intro e; cases e) kg
  have hMK5 := kMark.mono leK5.sees hMK
  have hx5 : kMark.rep H5 ⟨xt, xo, [], 0, []⟩ [.int .i64 xt, .bool xo, .slice none 0 0, .int .u64 0, .slice none 0 0] := ⟨_, _, rfl, Sl.nil _ _, Sl.nil _ _⟩
  have hxb : BigM ⟨xt, xo, [], 0, []⟩ := ⟨(by decide : (0 : Nat) ≤ 9223372036854775807), (by decide : (0 : Nat) ≤ 9223372036854775807), fun x h => (by cases h)⟩
  have leH5 := Hp.le_trans leK leK5
  have zKH := leK5.1
  refine Xe ?_
  refine Yv (by kernel_rfl) (Y0 (B := [0, 1, 3, 7, 7, 31, 63, 127, 255, 511, 1023, 255, 4095, 8191, 16383, 32767, 65535, 131071, 262143, 524287, 1048575, 2097151, 4194303, 8388607, 16777215]) (π := [0, 1, 2, 3, 4, 5, 6, 7, 8, 11, 9, 10, 12, 13, 14, 15, 16, 17, 18, 19, 20, 21, 22, 23, 24]) (by kernel_rfl)) ?_
  refine Xd rfl rfl (Xp Xn) Xr ?_
  refine Xd rfl rfl (Zq rfl) Xr ?_
  refine Xd rfl rfl (Xp rfl) Xr ?_
  refine Zi rfl rfl rfl rfl ?_ ?_
  intro hg9
  have hp9 := hg9; try simp only [decide_eq_true_eq, decide_eq_false_iff_not, Bool.not_eq_true', Bool.not_eq_false'] at hp9
  refine Yg rfl (Xi rfl rfl rfl hg9) rfl (Yi (cs := [.int .i64 _, .bool _, .slice _ _ _, .int .u64 _, .slice _ _ _]) Xn Tryz.underlying33 Xn inf33.size X4) Xr ?_
  refine Yg rfl (Xi rfl rfl rfl hg9) rfl (Yi (cs := [.int .i64 _, .bool _, .slice _ _ _, .int .u64 _, .slice _ _ _]) Xn Tryz.underlying33 Xn inf33.size X4) Xr ?_
  refine Z1 rfl (Xi rfl rfl rfl hg9) rfl (Xx (sameM_36 ⟨xt, xo, [], 0, []⟩ ⟨xt, xo, [], 0, []⟩ _ _ _ hx5 hx5 hxb hxb) rfl Tryz.func20 rfl rfl rfl ?_)
  rintro v33 H5 ⟨⟨gs, rfl, hgs⟩, rfl⟩; obtain rfl : gs = true := hgs.2 ⟨rfl, rfl, rfl, rfl⟩
  refine ⟨Yh, ?_⟩
  refine Xd rfl rfl (Xm (congrArg Value.bool hg9) rfl) Xr ?_
  refine Xd rfl rfl (Xp rfl) Xr ?_
  refine Zi rfl rfl rfl rfl ?_ ?_
  intro hg10
  have hp10 := hg10; try simp only [decide_eq_true_eq, decide_eq_false_iff_not, Bool.not_eq_true', Bool.not_eq_false'] at hp10
  refine Yg rfl (Xi rfl rfl rfl hg10) rfl (Yi (cs := [.int .i64 _, .bool _, .slice _ _ _, .int .u64 _, .slice _ _ _]) Xn Tryz.underlying33 Xn inf33.size X4) Xr ?_
  refine Yg rfl (Xi rfl rfl rfl hg10) rfl (Yi (cs := [.int .i64 _, .bool _, .slice _ _ _, .int .u64 _, .slice _ _ _]) Xn Tryz.underlying33 Xn inf33.size X4) Xr ?_
  refine Z1 rfl (Xi rfl rfl rfl hg10) rfl (Xx (Mark_36 M _ _ hMK5 hbM) rfl Tryz.func12 rfl rfl rfl ?_)
  rintro v37 H6 ⟨le6, ds6, rfl, hM6⟩; rw [hcc] at hM6; have hM60 := hM6; obtain ⟨v6, w6, rfl, hv6, hw6⟩ := hM6; obtain ⟨A6, c6, rfl⟩ := hv6.shape; obtain ⟨W6, cW6, rfl⟩ := hw6.shape; have z6 := le6.1; have g60 := Xs le6 (by omega) (by intro e; cases e) g50; have g61 := Xs le6 (by omega) (by intro e; cases e) g51; have g62 := Xs le6 (by omega) (by intro e; cases e) g52
  refine ⟨Yh, ?_⟩
  refine Z1 rfl (Xi rfl rfl rfl hg10) rfl (Xx (Fits_no M _ _ hM60 hbM) rfl Tryz.func18 rfl rfl rfl ?_)
  rintro v38 H7 ⟨⟨gf, rfl, hgf⟩, le7⟩; have z7 := le7.1; have g70 := Xs le7 (by omega) (by intro e; cases e) g60; have g71 := Xs le7 (by omega) (by intro e; cases e) g61; have g72 := Xs le7 (by omega) (by intro e; cases e) g62
  refine ⟨Yh, ?_⟩
  refine Z1 rfl (Xi rfl rfl rfl hg10) rfl (Xx (goodR_36 M _ _ (kMark.mono (Hp.le_trans le6 le7).sees hMK5) hbM hrM) rfl Tryz.func24 rfl rfl rfl ?_)
  rintro v40 H7 ⟨⟨g3, rfl, hg3⟩, rfl⟩
  refine ⟨Yh, ?_⟩
  refine Yg rfl (Xi rfl rfl rfl hg10) rfl (Xp rfl) Xr ?_
  refine Zi rfl rfl rfl rfl ?_ ?_
  intro hg11
  have h3t : g3 = true := hg11
  have hfin : gf = decide ((M.nodes.length : Int) = 0) := by
    rw [Bool.eq_iff_iff, decide_eq_true_eq, hgf]
    exact ⟨fun h => by omega, fun h => ⟨hg3.1 h3t, by omega⟩⟩
  refine Yg rfl (Xi rfl rfl rfl hg11) rfl (Xg (off := 2) Xn Tryz.underlying33 Xn inf23.size (by decide) Xn) Xr ?_
  refine Yg rfl (Xi rfl rfl rfl hg11) rfl (Xk rfl Tryz.underlying23 rfl Xq) Xr ?_
  refine Yg rfl (Xi rfl rfl rfl hg11) rfl (Yr rfl Tryz.underlying23) Xr ?_
  refine Yg rfl (Xi rfl rfl rfl hg11) rfl (Zt rfl rfl) Xr ?_
  refine Yg rfl (Xi rfl rfl rfl hg10) rfl (Xm (congrArg Value.bool hg11) rfl) Xr ?_
  refine Yg rfl (Xi rfl rfl rfl hg10) rfl (av_beq rfl rfl Tryz.underlying4) Xr ?_
  refine Xd rfl rfl (Xm (congrArg Value.bool hg10) rfl) Xr ?_
  refine Xd rfl rfl (Xp rfl) Xr ?_
  refine Zi rfl rfl rfl rfl ?_ ?_
  intro hg12
  have hp12 := hg12; try simp only [decide_eq_true_eq, decide_eq_false_iff_not, Bool.not_eq_true', Bool.not_eq_false'] at hp12
  refine Z1 rfl (Xi rfl rfl rfl hg12) rfl (Xx (lives36_ok _) rfl Tryz.func15 rfl rfl rfl ?_)
  rintro v H' ⟨rfl, hlv⟩
  refine ⟨Yh, ?_⟩
  refine Xd rfl rfl (Xm (congrArg Value.bool hg12) rfl) Xr ?_
  refine Xd rfl rfl (Xh rfl) Xr ?_
  refine X2 ?_
  exact ⟨.bool true, X1 (Xu rfl), rfl, Hp.le_trans (Hp.le_trans leH5 (Hp.le_trans le6 le7)) hlv⟩
  intro hg12
  exact absurd hfin (of_decide_eq_false hg12)
  intro hg11
  have h3f : g3 = false := hg11
  have hfin : gf = false := by
    cases hx : gf with
    | false => rfl
    | true =>
      have := hg3.2 (hgf.1 hx).1
      rw [h3f] at this; cases this
  refine X0 rfl (Xj rfl rfl rfl hg11 rfl) ?_
  refine X0 rfl (Xj rfl rfl rfl hg11 rfl) ?_
  refine X0 rfl (Xj rfl rfl rfl hg11 rfl) ?_
  refine X0 rfl (Xj rfl rfl rfl hg11 rfl) ?_
  refine Yg rfl (Xi rfl rfl rfl hg10) rfl (Xm (congrArg Value.bool hg11) Xn) Xr ?_
  refine Yg rfl (Xi rfl rfl rfl hg10) rfl (av_beq rfl rfl Tryz.underlying4) Xr ?_
  refine Xd rfl rfl (Xm (congrArg Value.bool hg10) rfl) Xr ?_
  refine Xd rfl rfl (Xp rfl) Xr ?_
  refine Zi rfl rfl rfl rfl ?_ ?_
  intro hg13
  have hp13 := hg13; try simp only [decide_eq_true_eq, decide_eq_false_iff_not, Bool.not_eq_true', Bool.not_eq_false'] at hp13
  refine Z1 rfl (Xi rfl rfl rfl hg13) rfl (Xx (lives36_ok _) rfl Tryz.func15 rfl rfl rfl ?_)
  rintro v H' ⟨rfl, hlv⟩
  refine ⟨Yh, ?_⟩
  refine Xd rfl rfl (Xm (congrArg Value.bool hg13) rfl) Xr ?_
  refine Xd rfl rfl (Xh rfl) Xr ?_
  refine X2 ?_
  exact ⟨.bool true, X1 (Xu rfl), rfl, Hp.le_trans (Hp.le_trans leH5 (Hp.le_trans le6 le7)) hlv⟩
  intro hg13
  exact absurd hfin (of_decide_eq_false hg13)
  intro hg10
  exact absurd hg10 (by decide)
  intro hg9
  exact absurd hg9 (by decide)
end Go.Proofs.YtmakkmcjocjgmaaGreat.Am


/- Links among the arguments of a statement. -/
namespace Go.Proofs.YtmakkmcjocjgmaaGreat.Am
open Go Go.RowKit
set_option maxRecDepth 100000
theorem cells_i64 : Tryz.prog.cellsOf 3 = 1 := by kernel_rfl
theorem cells_u64 : Tryz.prog.cellsOf 30 = 1 := by kernel_rfl
theorem opens_ints : Opens Tryz.prog (kSl (Yz .i64)) 23 (fun xs => xs.length ≤ maxLen ∧ ∀ x ∈ xs, fits .i64 x) := opens_sl Tryz.underlying23 cells_i64 (opens_int Tryz.underlying3)
end Go.Proofs.YtmakkmcjocjgmaaGreat.Am


/- Forests and parts among the arguments of a statement. -/
namespace Go.Proofs.YtmakkmcjocjgmaaGreat.Am
open Go Go.RowKit
set_option maxRecDepth 100000
theorem cells_ints : Tryz.prog.cellsOf 23 = 1 := by kernel_rfl
end Go.Proofs.YtmakkmcjocjgmaaGreat.Am


/- Marks among the arguments of a statement. -/
namespace Go.Proofs.YtmakkmcjocjgmaaGreat.Am
open Go Go.RowKit
set_option maxRecDepth 100000
theorem cells_itemT : Tryz.prog.cellsOf 85 = 4 := by kernel_rfl
theorem cells_itemsT : Tryz.prog.cellsOf 31 = 1 := by kernel_rfl
theorem cells_boolM : Tryz.prog.cellsOf 4 = 1 := by kernel_rfl
theorem cells_mark : Tryz.prog.cellsOf 33 = 5 := by kernel_rfl
theorem opens_itemT : Opens Tryz.prog kItemT 85 (fun x => fits .i64 x.cost ∧ (x.nodes.length ≤ maxLen ∧ ∀ n ∈ x.nodes, fits .i64 n) ∧ fits .i64 x.place ∧ fits .i64 x.rank) := fun Hh enc W fuel cs x h => by
  obtain ⟨xs, n, _, _, hl, hxs, hf⟩ := DataW.trod_struct Tryz.underlying85 h
  rw [cells_itemT] at hl
  have hxs : xs.length = 4 := hxs
  match cs, hl with
  | [c0, c1, c2, c3], _ =>
    have f0 : DataW.trod enc Tryz.prog W 0 (fun _ => true) true n 3 (([c0, c1, c2, c3].drop 0).take (Tryz.prog.cellsOf 3)) = xs[0]? := hf 0 _ rfl
    have f1 : DataW.trod enc Tryz.prog W 0 (fun _ => true) true n 23 (([c0, c1, c2, c3].drop 1).take (Tryz.prog.cellsOf 23)) = xs[1]? := hf 1 _ rfl
    have f2 : DataW.trod enc Tryz.prog W 0 (fun _ => true) true n 3 (([c0, c1, c2, c3].drop 2).take (Tryz.prog.cellsOf 3)) = xs[2]? := hf 2 _ rfl
    have f3 : DataW.trod enc Tryz.prog W 0 (fun _ => true) true n 3 (([c0, c1, c2, c3].drop 3).take (Tryz.prog.cellsOf 3)) = xs[3]? := hf 3 _ rfl
    rw [cells_i64, List.getElem?_eq_getElem (show 0 < xs.length by omega)] at f0
    rw [cells_ints, List.getElem?_eq_getElem (show 1 < xs.length by omega)] at f1
    rw [cells_i64, List.getElem?_eq_getElem (show 2 < xs.length by omega)] at f2
    rw [cells_i64, List.getElem?_eq_getElem (show 3 < xs.length by omega)] at f3
    obtain ⟨y0, r0, b0, v0⟩ := opens_int (P := Tryz.prog) Tryz.underlying3 Hh enc W n _ _ f0
    obtain ⟨y1, ⟨w, r1, s1⟩, b1, v1⟩ := opens_ints Hh enc W n _ _ f1
    obtain ⟨y2, r2, b2, v2⟩ := opens_int (P := Tryz.prog) Tryz.underlying3 Hh enc W n _ _ f2
    obtain ⟨y3, r3, b3, v3⟩ := opens_int (P := Tryz.prog) Tryz.underlying3 Hh enc W n _ _ f3
    refine ⟨⟨y0, y1, y2, y3⟩, ⟨w, ?_, s1⟩, ⟨b0, b1, b2, b3⟩, fun v hv => ?_⟩
    · have e0 : [absV W c0] = [Value.int .i64 y0] := r0
      have e1 : [absV W c1] = [w] := r1
      have e2 : [absV W c2] = [Value.int .i64 y2] := r2
      have e3 : [absV W c3] = [Value.int .i64 y3] := r3
      simp only [List.cons.injEq, and_true] at e0 e1 e2 e3
      simp [e0, e1, e2, e3]
    · simp at hv
      rcases hv with rfl | rfl | rfl | rfl
      · exact v0 _ (List.mem_singleton.2 rfl)
      · exact v1 _ (List.mem_singleton.2 rfl)
      · exact v2 _ (List.mem_singleton.2 rfl)
      · exact v3 _ (List.mem_singleton.2 rfl)
theorem opens_itemsT : Opens Tryz.prog (kSl kItemT) 31 (fun xs => xs.length ≤ maxLen ∧ ∀ x ∈ xs, fits .i64 x.cost ∧ (x.nodes.length ≤ maxLen ∧ ∀ n ∈ x.nodes, fits .i64 n) ∧ fits .i64 x.place ∧ fits .i64 x.rank) := opens_sl Tryz.underlying31 cells_itemT opens_itemT
theorem opens_mark : Opens Tryz.prog kMark 33 (fun m => BigM m ∧ 0 ≤ m.rest ∧ m.rest < 18446744073709551616) := fun Hh enc W fuel cs x h => by
  obtain ⟨xs, n, _, _, hl, hxs, hf⟩ := DataW.trod_struct Tryz.underlying33 h
  rw [cells_mark] at hl
  have hxs : xs.length = 5 := hxs
  match cs, hl with
  | [c0, c1, c2, c3, c4], _ =>
    have f0 : DataW.trod enc Tryz.prog W 0 (fun _ => true) true n 3 (([c0, c1, c2, c3, c4].drop 0).take (Tryz.prog.cellsOf 3)) = xs[0]? := hf 0 _ rfl
    have f1 : DataW.trod enc Tryz.prog W 0 (fun _ => true) true n 4 (([c0, c1, c2, c3, c4].drop 1).take (Tryz.prog.cellsOf 4)) = xs[1]? := hf 1 _ rfl
    have f2 : DataW.trod enc Tryz.prog W 0 (fun _ => true) true n 23 (([c0, c1, c2, c3, c4].drop 2).take (Tryz.prog.cellsOf 23)) = xs[2]? := hf 2 _ rfl
    have f3 : DataW.trod enc Tryz.prog W 0 (fun _ => true) true n 30 (([c0, c1, c2, c3, c4].drop 3).take (Tryz.prog.cellsOf 30)) = xs[3]? := hf 3 _ rfl
    have f4 : DataW.trod enc Tryz.prog W 0 (fun _ => true) true n 31 (([c0, c1, c2, c3, c4].drop 4).take (Tryz.prog.cellsOf 31)) = xs[4]? := hf 4 _ rfl
    rw [cells_i64, List.getElem?_eq_getElem (show 0 < xs.length by omega)] at f0
    rw [cells_boolM, List.getElem?_eq_getElem (show 1 < xs.length by omega)] at f1
    rw [cells_ints, List.getElem?_eq_getElem (show 2 < xs.length by omega)] at f2
    rw [cells_u64, List.getElem?_eq_getElem (show 3 < xs.length by omega)] at f3
    rw [cells_itemsT, List.getElem?_eq_getElem (show 4 < xs.length by omega)] at f4
    obtain ⟨y0, r0, b0, v0⟩ := opens_int (P := Tryz.prog) Tryz.underlying3 Hh enc W n _ _ f0
    obtain ⟨y1, r1, b1, v1⟩ := opens_bool (P := Tryz.prog) Tryz.underlying4 Hh enc W n _ _ f1
    obtain ⟨y2, ⟨w2, r2, s2⟩, b2, v2⟩ := opens_ints Hh enc W n _ _ f2
    obtain ⟨y3, r3, b3, v3⟩ := opens_int (P := Tryz.prog) Tryz.underlying30 Hh enc W n _ _ f3
    obtain ⟨y4, ⟨w4, r4, s4⟩, b4, v4⟩ := opens_itemsT Hh enc W n _ _ f4
    refine ⟨⟨y0, y1, y2, y3, y4⟩, ⟨w2, w4, ?_, s2, s4⟩, ⟨⟨b2.1, b4.1, fun x hx => (b4.2 x hx).2.1.1⟩, (lit_u64 b3).1, Int.lt_of_le_of_lt (lit_u64 b3).2 (by decide)⟩, fun v hv => ?_⟩
    · have e0 : [absV W c0] = [Value.int .i64 y0] := r0
      have e1 : [absV W c1] = [Value.bool y1] := r1
      have e2 : [absV W c2] = [w2] := r2
      have e3 : [absV W c3] = [Value.int .u64 y3] := r3
      have e4 : [absV W c4] = [w4] := r4
      simp only [List.cons.injEq, and_true] at e0 e1 e2 e3 e4
      simp [e0, e1, e2, e3, e4]
    · simp at hv
      rcases hv with rfl | rfl | rfl | rfl | rfl
      · exact v0 _ (List.mem_singleton.2 rfl)
      · exact v1 _ (List.mem_singleton.2 rfl)
      · exact v2 _ (List.mem_singleton.2 rfl)
      · exact v3 _ (List.mem_singleton.2 rfl)
      · exact v4 _ (List.mem_singleton.2 rfl)
end Go.Proofs.YtmakkmcjocjgmaaGreat.Am
