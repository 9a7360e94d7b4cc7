/- Texts that the proof rests on, part 5: lemmas for every heap that is related to a world, no condition beyond each lemma's own. -/
import Derived.Test.YtmakkmcjocjgmaaAn4
import Derived.Test.YtmakkmcjocjgmaaAn1
import Derived.Test.YtmakkmcjocjgmaaAnRow

/- Numbers are split by sizes, and put together. -/
namespace Go.Proofs.Ytmakkmcjocjgmaa.Am
open Go Go.RowKit
set_option maxRecDepth 100000
set_option linter.unusedVariables false
set_option linter.unusedSimpArgs false

theorem fold_next {ss : List Int} {i : Nat} {n : Int} (h : i < ss.length) : Ye ((ss.take i).foldl Ye n) ss[i] = (ss.take (i + 1)).foldl Ye n := by
  rw [← Yy h, List.foldl_append]; rfl
theorem fold_nn : ∀ {ss : List Int} {n : Int}, 0 ≤ n → (∀ s ∈ ss, 0 ≤ s) → 0 ≤ ss.foldl Ye n
  | [], _, h, _ => h
  | s :: ss, n, h, hs => fold_nn (ss := ss) (Vl h (hs s (by simp))).1 fun x hx => hs x (by simp [hx])
theorem product_acc (ss : List Int) (v : Value) (H : Hp) (hs : Sl (Yv .u64) H v ss) (hl : ss.length ≤ 1000000) (h0 : ∀ s ∈ ss, 0 ≤ s) :
    ACalls Try.prog 17 #[v] H (fun r H' => r = .int .u64 (Vp ss) ∧ H' = H) := by
  obtain ⟨A, c, rfl⟩ := hs.shape
  refine Xu Try.func17 rfl rfl rfl (by simp) ?_
  refine Xd ?_
  refine Xb (by kernel_rfl) ?_
  refine Xa (Xf rfl) ?_
  refine Xd ?_
  refine Xb (by kernel_rfl) ?_
  refine Xa (Xf rfl) ?_
  refine Xd ?_
  refine Xd ?_
  refine Xb (by kernel_rfl) ?_
  refine Xa (Xt rfl) ?_
  refine Xa (Yn rfl Try.underlying23) ?_
  refine Xa (Xc rfl) ?_
  refine Ya ?_
  refine Y5 (fun n t H' => ∃ (i : Nat) (D : Option Addr), n = ss.length - i ∧ i ≤ ss.length ∧ H' = H ∧ Sl (Yv .u64) H (.slice D ss.length c) ss ∧ t 3 = .int .u64 ((ss.take i).foldl Ye 1) ∧ t 6 = .slice D ss.length c ∧ t 7 = .int .i64 ss.length ∧ t 8 = .int .i64 i) (ss.length) (⟨0, _, rfl, Nat.zero_le _, rfl, hs, rfl, rfl, rfl, rfl⟩) ?_
  rintro n t H ⟨i, D, rfl, hi, rfl, hs, e3, e6, e7, e8⟩
  refine Xd ?_
  refine Xb (by kernel_rfl) ?_
  refine Xa (Ze Xk Xk) ?_
  refine Xd ?_
  refine X6 rfl rfl ?_ ?_
  intro hc1
  have hil : i < ss.length := by have := of_decide_eq_true hc1; omega
  obtain ⟨b, o, eD, hb, hcell⟩ := hs.int_at (i := (i : Int)) (by omega) (by omega)
  rw [Int.toNat_natCast, Y2 hil] at hcell
  subst eD
  have hnx := fold_next (n := 1) hil
  refine X9 ?_
  refine Xd ?_
  refine Ya ?_
  refine Xd ?_
  refine Xb (by kernel_rfl) ?_
  refine Xa (Xs Xk Xk Try.underlying23 inf22.size X7 X7) ?_
  refine Xa (Xi rfl Try.underlying22 rfl Xr) ?_
  refine Xa (Xf rfl) ?_
  refine Xb (by kernel_rfl) ?_
  refine Xa (Xc Xk) ?_
  refine Xa (Xc rfl) ?_
  refine Xz (Xx (Vj _ _ (fold_nn (by decide) fun s h => h0 s (List.mem_of_mem_take h)) (h0 _ (List.getElem_mem hil)) _) rfl Try.func28 rfl rfl rfl ?_)
  rintro v14 H ⟨rfl, rfl⟩; rw [hnx]
  refine Xa (Xf rfl) ?_
  refine Xb (by kernel_rfl) ?_
  refine Xa (Yf Xk Xk Yw) ?_
  refine Xa (Xc rfl) ?_
  exact ⟨ss.length - (i + 1), by omega, i + 1, _, rfl, by omega, rfl, hs, rfl, e6, e7, rfl⟩
  intro hc1
  have hil : i = ss.length := by have := of_decide_eq_false hc1; omega
  rw [hil, List.take_length] at e3
  refine Y1 ?_
  refine Xd ?_
  refine Xb (by kernel_rfl) ?_
  refine Xa (Xc Xk) ?_
  refine Xa (Xf rfl) ?_
  refine X8 ?_
  exact ⟨_, X1 (Xw rfl), rfl, rfl⟩
theorem Product_ref (ss : List Int) (v : Value) (H : Hp) (hs : Sl (Yv .u64) H v ss) (hl : ss.length ≤ 1000000) (h0 : ∀ s ∈ ss, 0 ≤ s) :
    ACalls Try.prog 8 #[v] H (fun r H' => r = .int .u64 (Vp ss) ∧ H' = H) := by
  obtain ⟨A, c, rfl⟩ := hs.shape
  refine Xu Try.func8 rfl rfl rfl (by simp) ?_
  refine Xd ?_
  refine Xb (by kernel_rfl) ?_
  refine Xa (Xf rfl) ?_
  refine Xd ?_
  refine Xb (by kernel_rfl) ?_
  refine Xa (Xf rfl) ?_
  refine Xd ?_
  refine Xd ?_
  refine Xb (by kernel_rfl) ?_
  refine Xa (Xf rfl) ?_
  refine Ya ?_
  refine Y5 (fun n t H' => ∃ (i : Nat) (D : Option Addr), n = ss.length - i ∧ i ≤ ss.length ∧ H' = H ∧ Sl (Yv .u64) H (.slice D ss.length c) ss ∧ t 0 = .slice D ss.length c ∧ t 3 = .int .u64 ((ss.take i).foldl Ye 1) ∧ t 4 = .int .i64 i) (ss.length) (⟨0, _, rfl, Nat.zero_le _, rfl, hs, rfl, rfl, rfl⟩) ?_
  rintro n t H ⟨i, D, rfl, hi, rfl, hs, e0, e3, e4⟩
  refine Xd ?_
  refine Xd ?_
  refine Xb (by kernel_rfl) ?_
  refine Xa (Xc Xk) ?_
  refine Xa (Xt Xk) ?_
  refine Xa (Yn rfl Try.underlying23) ?_
  refine Xa (Ze rfl rfl) ?_
  refine X6 rfl rfl ?_ ?_
  intro hc1
  have hil : i < ss.length := by have := of_decide_eq_true hc1; omega
  obtain ⟨b, o, eD, hb, hcell⟩ := hs.int_at (i := (i : Int)) (by omega) (by omega)
  rw [Int.toNat_natCast, Y2 hil] at hcell
  subst eD
  have hnx := fold_next (n := 1) hil
  refine X9 ?_
  refine Xd ?_
  refine Ya ?_
  refine Xb (by kernel_rfl) ?_
  refine Xa (Xc Xk) ?_
  refine Xa (Xt Xk) ?_
  refine Xa (Xc Xk) ?_
  refine Xa (Xs rfl rfl Try.underlying23 inf22.size X7 X7) ?_
  refine Xa (Xi rfl Try.underlying22 rfl Xr) ?_
  refine Xz (Xx (timesR_u64 _ _ (fold_nn (by decide) fun s h => h0 s (List.mem_of_mem_take h)) (h0 _ (List.getElem_mem hil)) _) rfl Try.func18 rfl rfl rfl ?_)
  rintro v16 H ⟨rfl, rfl⟩; rw [hnx]
  refine Xa (Xf rfl) ?_
  refine Xb (by kernel_rfl) ?_
  refine Xa (Xc Xk) ?_
  refine Xa (Yf rfl rfl Yw) ?_
  refine Xa (Xf rfl) ?_
  exact ⟨ss.length - (i + 1), by omega, i + 1, _, rfl, by omega, rfl, hs, e0, rfl, rfl⟩
  intro hc1
  have hil : i = ss.length := by have := of_decide_eq_false hc1; omega
  rw [hil, List.take_length] at e3
  refine Y1 ?_
  refine Xd ?_
  refine Xb (by kernel_rfl) ?_
  refine Xa (Xc Xk) ?_
  refine Xa (Xf rfl) ?_
  refine X8 ?_
  exact ⟨_, X1 (Xw rfl), rfl, rfl⟩
theorem av_rem_is {P : Program} {t : Fr} {H : Hp} {d : Option Tmp} {ty : TypeId} {pos : String} {after : Array Edge} {guard : Option (Nat × Bool)} {x y : Operand} {xt yt : TypeId} {k : IntKind} {a b v : Int} (hv : a.tmod b = v) (hx : t.eval x = .int k a) (hy : t.eval y = .int k b) (h0 : b ≠ 0) : AVal P ⟨d, .binOp .rem xt x y yt, ty, pos, after, guard⟩ t [] H (.int k v) := by
  subst hv; exact av_rem hx hy h0
theorem av_quo_is {P : Program} {t : Fr} {H : Hp} {d : Option Tmp} {ty : TypeId} {pos : String} {after : Array Edge} {guard : Option (Nat × Bool)} {x y : Operand} {xt yt : TypeId} {k : IntKind} {a b v : Int} (hv : k.wrap (a.tdiv b) = v) (hx : t.eval x = .int k a) (hy : t.eval y = .int k b) (h0 : b ≠ 0) : AVal P ⟨d, .binOp .quo xt x y yt, ty, pos, after, guard⟩ t [] H (.int k v) := by
  subst hv; exact av_quo hx hy h0
def outL (ss : List Int) (k : Int) (m : Nat) : List Value := (List.replicate m (0 : Int) ++ (peel (ss.drop m) k).2).map (Value.int .u64)
theorem outL_len (ss : List Int) (k : Int) {m : Nat} (h : m ≤ ss.length) : (outL ss k m).length = ss.length := by
  unfold outL
  rw [List.length_map, List.length_append, List.length_replicate, peel_len, List.length_drop]; omega
theorem outL_step (ss : List Int) (k : Int) {m : Nat} (h : m < ss.length) : (outL ss k (m + 1)).set m (.int .u64 ((peel (ss.drop (m + 1)) k).1 % ss[m])) = outL ss k m := by
  unfold outL
  have e : ss.drop m = ss[m] :: ss.drop (m + 1) := List.drop_eq_getElem_cons h
  rw [e, peel]
  rw [List.replicate_succ', List.append_assoc, List.map_append, List.map_append, List.set_append_right _ _ (by simp)]
  simp
theorem outL_zero (ss : List Int) (k : Int) : (List.replicate ss.length [Value.int .u64 0]).flatten = outL ss k ss.length := by
  unfold outL
  rw [List.drop_length, peel, List.append_nil, List.map_replicate]
  generalize ss.length = n
  induction n with
  | zero => rfl
  | succ n ih => rw [List.replicate_succ, List.flatten_cons, ih, List.replicate_succ]; rfl
set_option maxHeartbeats 1000000 in
theorem Digits_acc (k : Int) (ss : List Int) (v : Value) (H : Hp) (hs : Sl (Yv .u64) H v ss) (hl : ss.length ≤ 1000000) (h0 : ∀ s ∈ ss, 0 ≤ s) (hk : 0 ≤ k) :
    ACalls Try.prog 7 #[.int .u64 k, v] H (fun r H' => H.le H' ∧ ((¬ (Vp ss ≠ 4611686018427387904 ∧ k < Vp ss) ∧ r = .tuple #[.slice none 0 0, .bool false]) ∨ ((Vp ss ≠ 4611686018427387904 ∧ k < Vp ss) ∧ ∃ A c, r = .tuple #[.slice A ss.length c, .bool true] ∧ Sl (Yv .u64) H' (.slice A ss.length c) (peel ss k).2))) := by
  obtain ⟨A, c, rfl⟩ := hs.shape
  obtain ⟨hpt, hpn⟩ := prodT_is h0
  have hmost : Yu = 4611686018427387904 := rfl
  refine Xu Try.func7 rfl rfl rfl (by simp) ?_
  refine Xd ?_
  refine Xb (by kernel_rfl) ?_
  refine Xa (X2 rfl) ?_
  refine Xa (Xm rfl) ?_
  refine Xd ?_
  refine Xd ?_
  refine Xb (by kernel_rfl) ?_
  refine Xa (Xt rfl) ?_
  refine Xz (Xx (product_acc ss _ _ hs hl h0) rfl Try.func17 rfl rfl rfl ?_)
  rintro v10 H ⟨rfl, rfl⟩
  refine Xa (Xf rfl) ?_
  refine Xd ?_
  refine Xb (by kernel_rfl) ?_
  refine Xa (Xc rfl) ?_
  refine Xa (Z8 rfl rfl) ?_
  refine Xa (Xq rfl) ?_
  refine Yb rfl rfl rfl ?_ ?_
  intro hg1
  have hq : Vp ss = 4611686018427387904 := by have h := hg1; simpa using h
  have hge : ¬ (Vp ss ≠ 4611686018427387904 ∧ k < Vp ss) := fun h => h.1 hq
  refine Xh (Xl rfl rfl rfl hg1 rfl) ?_
  refine Xh (Xl rfl rfl rfl hg1 rfl) ?_
  refine Xh (Xl rfl rfl rfl hg1 rfl) ?_
  refine Xa (Xo (congrArg Value.bool hg1) rfl) ?_
  refine Yt rfl rfl ?_
  refine Xd ?_
  refine Xb (by kernel_rfl) ?_
  refine Xa (X2 rfl) ?_
  refine Xa (Xm rfl) ?_
  refine X8 ?_
  exact ⟨_, Zi (Xw rfl) (Xw rfl), Hp.le_refl _, .inl ⟨hge, rfl⟩⟩
  intro hg1
  have hq : Vp ss ≠ 4611686018427387904 := by have h := hg1; simpa using h
  refine Xn (Xj rfl rfl rfl hg1) (Xc rfl) ?_
  refine Xn (Xj rfl rfl rfl hg1) (Xc rfl) ?_
  refine Xn (Xj rfl rfl rfl hg1) (av_ge rfl rfl) ?_
  refine Xa (Xo (congrArg Value.bool hg1) rfl) ?_
  refine X6 rfl rfl ?_ ?_
  intro hc3
  have hge : ¬ (Vp ss ≠ 4611686018427387904 ∧ k < Vp ss) := by
    have := of_decide_eq_true hc3
    intro h; omega
  refine Xd ?_
  refine Xb (by kernel_rfl) ?_
  refine Xa (X2 rfl) ?_
  refine Xa (Xm rfl) ?_
  refine X8 ?_
  exact ⟨_, Zi (Xw rfl) (Xw rfl), Hp.le_refl _, .inl ⟨hge, rfl⟩⟩
  intro hc3
  have hlt : Vp ss ≠ 4611686018427387904 ∧ k < Vp ss := ⟨hq, by have := of_decide_eq_false hc3; omega⟩
  have hkp : k < V7 ss := by rw [hpt] at hlt; omega
  have hpos : ∀ s ∈ ss, 0 < s := Decidable.byContradiction fun h => by rw [prodI_zero h0 h] at hkp; omega
  have hk64 : k < 18446744073709551616 := by have := hlt.2; rw [hpt] at this; omega
  refine X9 ?_
  refine Xd ?_
  refine Xb (by kernel_rfl) ?_
  refine Xa (Xt rfl) ?_
  refine Xa (Yn rfl Try.underlying23) ?_
  refine X5 (am_makeSlice Try.underlying23 inf22 rfl (by decide) (by decide) rfl rfl (by omega) (by omega) (by omega)) ?_
  refine Xa (X2 rfl) ?_
  refine Xd ?_
  refine Xd ?_
  refine Xb (by kernel_rfl) ?_
  refine Xa (Xt rfl) ?_
  refine Xa (Yn rfl Try.underlying23) ?_
  refine Xa (av_sub64 rfl rfl Yw) ?_
  refine Xa (Xf rfl) ?_
  refine Ya ?_
  refine Y5 (fun n t H' => ∃ (m : Nat) (D : Option Addr), n = m ∧ m ≤ ss.length ∧ H' = H.push (.own 1 (outL ss k m)) ∧ Sl (Yv .u64) H (.slice D ss.length c) ss ∧ t 0 = .int .u64 (peel (ss.drop m) k).1 ∧ t 1 = .slice D ss.length c ∧ t 7 = .slice (some ⟨H.size, 0, none⟩) ss.length ss.length ∧ t 8 = .int .i64 ((m : Int) - 1)) (ss.length) (⟨ss.length, _, rfl, Nat.le_refl _, by rw [← outL_zero]; rfl, hs, by rw [List.drop_length]; rfl, rfl, rfl, rfl⟩) ?_
  rintro n t H1 ⟨m, D, rfl, hm, hH1, hs, e0, e1, e7, e8⟩
  refine Xd ?_
  refine Xd ?_
  refine Xb (by kernel_rfl) ?_
  refine Xa (Xc Xk) ?_
  refine Xa (av_ge rfl rfl) ?_
  refine X6 rfl rfl ?_ ?_
  intro hc4
  obtain ⟨i, rfl⟩ : ∃ i, n = i + 1 := ⟨n - 1, by have := of_decide_eq_true hc4; omega⟩
  rw [show (((i + 1 : Nat) : Int) - 1) = (i : Int) by omega] at e8
  have hil : i < ss.length := by omega
  have hsi := hpos _ (List.getElem_mem hil)
  have leH1 : H.le H1 := by rw [hH1]; exact H.le_push _
  have g1 : H1.get H.size = .own 1 (outL ss k (i + 1)) := by rw [hH1]; exact Hp.push_new _ _
  have hol := outL_len ss k (m := i + 1) (by omega)
  obtain ⟨b, o, eD, hb, hcell⟩ := (hs.mono leH1.sees).int_at (i := (i : Int)) (by omega) (by omega)
  rw [Int.toNat_natCast, Y2 hil] at hcell
  have hbH : b < H.size := by
    obtain ⟨b', o', eD', hb', _⟩ := hs.int_at (i := (i : Int)) (by omega) (by omega)
    rw [eD] at eD'
    simp only [Option.some.injEq, Addr.mk.injEq, and_true] at eD'
    rw [eD'.1]; exact hb'
  subst eD
  have hpe := peel_le (ss := ss.drop (i + 1)) (fun s h => hpos s (List.mem_of_mem_drop h)) hk
  have hrem : (peel (ss.drop (i + 1)) k).1.tmod ss[i] = (peel (ss.drop (i + 1)) k).1 % ss[i] := Int.tmod_eq_emod_of_nonneg hpe.1
  have hquo : IntKind.u64.wrap ((peel (ss.drop (i + 1)) k).1.tdiv ss[i]) = (peel (ss.drop i) k).1 := by
    rw [List.drop_eq_getElem_cons hil, peel, Int.tdiv_eq_ediv_of_nonneg hpe.1]
    exact wrap_u64a (Int.ediv_nonneg hpe.1 (by omega)) (by have := Int.ediv_le_self ss[i] hpe.1; omega)
  have hst := outL_step ss k hil
  have z1 : H1.size = H.size + 1 := by rw [hH1]; simp
  refine X9 ?_
  refine Xd ?_
  refine Ya ?_
  refine Yx (by kernel_rfl) (Y7 (B := [0, 0, 0, 0, 0, 24, 56, 124, 0, 0, 0, 1536, 3584, 7936, 7935, 24319, 65535]) (π := [0, 1, 2, 3, 4, 5, 6, 7, 8, 9, 10, 11, 12, 13, 14, 15, 16]) (by kernel_rfl)) ?_
  refine Xe rfl rfl (Xt Xk) Xp ?_
  refine Xe rfl rfl (Xc Xk) Xp ?_
  refine Xe rfl rfl (Xc Xk) Xp ?_
  refine Xe rfl rfl (Xt Xk) Xp ?_
  refine Xe rfl rfl (Xc Xk) Xp ?_
  refine Xe rfl rfl (Xs rfl rfl Try.underlying23 inf22.size X7 X7) Xp ?_
  refine Xe rfl rfl (Xi rfl Try.underlying22 rfl Xr) Xp ?_
  refine Xe rfl rfl (av_rem_is hrem rfl rfl (by omega)) Xp ?_
  refine Xe rfl rfl (Xc Xk) Xp ?_
  refine Xe rfl rfl (Xt Xk) Xp ?_
  refine Xe rfl rfl (Xc Xk) Xp ?_
  refine Xe rfl rfl (Xs rfl rfl Try.underlying23 inf22.size X7 X7) Xp ?_
  refine Xe rfl rfl (Xi rfl Try.underlying22 rfl Xr) Xp ?_
  refine Xe rfl rfl (av_quo_is hquo rfl rfl (by omega)) Xp ?_
  refine Xe rfl rfl (Xs rfl rfl Try.underlying23 inf22.size X7 X7) Xp ?_
  refine Yj rfl rfl (Zb (u := .int .u64 ((peel (ss.drop (i + 1)) k).1 % ss[i])) (cs' := outL ss k i) rfl rfl rfl inf22.size g1 (by simp <;> omega) (by simpa using hst) ?_)
  refine ⟨Yg, ?_⟩
  refine Xe rfl rfl (Xf rfl) Xp ?_
  refine Xb (by kernel_rfl) ?_
  refine Xa (Xc Xk) ?_
  refine Xa (av_sub64 rfl rfl Yw) ?_
  refine Xa (Xf rfl) ?_
  refine ⟨i, by omega, i, _, rfl, by omega, ?_, hs, rfl, e1, e7, rfl⟩
  rw [hH1, Hp.push_put]
  intro hc4
  obtain rfl : n = 0 := by have := of_decide_eq_false hc4; omega
  refine Y1 ?_
  refine Xd ?_
  refine Xb (by kernel_rfl) ?_
  refine Xa (Xt Xk) ?_
  refine Xa (X2 rfl) ?_
  refine Xa (Xm rfl) ?_
  refine X8 ?_
  rw [List.drop_zero] at e0
  exact ⟨_, Zi (Xw rfl) (Xw rfl), by rw [hH1]; exact H.le_push _, .inr ⟨hlt, _, _, rfl, by
    rw [hH1]
    have e : outL ss k 0 = ((peel ss k).2).map (Value.int .u64) := by unfold outL; simp
    rw [e]
    have hpl := peel_len ss k
    rw [← hpl]
    exact sl_ints (by simp) (Hp.push_new _ _)⟩⟩
theorem valW_snoc : ∀ {ss ds : List Int} {a s d : Int}, ds.length = ss.length → valW a (ss ++ [s]) (ds ++ [d]) = IntKind.u64.wrap (IntKind.u64.wrap (valW a ss ds * s) + d)
  | [], [], _, _, _, _ => rfl
  | [], _ :: _, _, _, _, h => by simp at h
  | _ :: _, [], _, _, _, h => by simp at h
  | s0 :: ss, d0 :: ds, a, s, d, h => by
    simp only [List.length_cons, Nat.add_right_cancel_iff] at h
    rw [List.cons_append, List.cons_append, valW, valW, valW_snoc h]
structure GoodD (ds ss : List Int) : Prop where
  len : ds.length = ss.length
  few : Vp ss ≠ 4611686018427387904
  lt : ∀ i (h : i < ds.length) (h' : i < ss.length), ds[i] < ss[i]
set_option maxHeartbeats 1000000 in
theorem Number_acc (ds ss : List Int) (v u : Value) (H : Hp) (hd : Sl (Yv .u64) H v ds) (hs : Sl (Yv .u64) H u ss) (hdl : ds.length ≤ 1000000) (hl : ss.length ≤ 1000000) (h0 : ∀ s ∈ ss, 0 ≤ s) :
    ACalls Try.prog 10 #[v, u] H (fun r H' => H' = H ∧ ((¬ GoodD ds ss ∧ r = .tuple #[.int .u64 0, .bool false]) ∨ (GoodD ds ss ∧ r = .tuple #[.int .u64 (valW 0 ss ds), .bool true]))) := by
  obtain ⟨A, c, rfl⟩ := hd.shape
  obtain ⟨B, c2, rfl⟩ := hs.shape
  refine Xu Try.func10 rfl rfl rfl (by simp) ?_
  refine Xd ?_
  refine Xb (by kernel_rfl) ?_
  refine Xa (Xf rfl) ?_
  refine Xa (Xm rfl) ?_
  refine Xd ?_
  refine Xd ?_
  refine Xb (by kernel_rfl) ?_
  refine Xa (Xt rfl) ?_
  refine Xa (Yn rfl Try.underlying23) ?_
  refine Xa (Xt rfl) ?_
  refine Xa (Yn rfl Try.underlying23) ?_
  refine Xa (Vz rfl rfl) ?_
  refine Xa (Xq rfl) ?_
  refine Yb rfl rfl rfl ?_ ?_
  intro hg1
  have hne : ds.length ≠ ss.length := by have := of_decide_eq_true hg1; omega
  have hbad : ¬ GoodD ds ss := fun h => hne h.len
  refine Xh (Xl rfl rfl rfl hg1 rfl) ?_
  refine Xh (Xl rfl rfl rfl hg1 rfl) ?_
  refine Xh (Xl rfl rfl rfl hg1 rfl) ?_
  refine Xa (Xo (congrArg Value.bool hg1) rfl) ?_
  refine Yt rfl rfl ?_
  refine Xd ?_
  refine Xb (by kernel_rfl) ?_
  refine Xa (Xf rfl) ?_
  refine Xa (Xm rfl) ?_
  refine X8 ?_
  exact ⟨_, Zi (Xw rfl) (Xw rfl), rfl, .inl ⟨hbad, rfl⟩⟩
  intro hg1
  have hlen : ds.length = ss.length := by have := of_decide_eq_false hg1; omega
  refine Xn (Xj rfl rfl rfl hg1) (Xt rfl) ?_
  refine Zr (Xj rfl rfl rfl hg1) (Xx (product_acc ss _ _ hs hl h0) rfl Try.func17 rfl rfl rfl ?_)
  rintro v16 H ⟨rfl, rfl⟩
  refine Xn (Xj rfl rfl rfl hg1) (Z8 rfl rfl) ?_
  refine Xa (Xo (congrArg Value.bool hg1) rfl) ?_
  refine X6 rfl rfl ?_ ?_
  intro hc3
  have hbad : ¬ GoodD ds ss := fun h => h.few (of_decide_eq_true hc3)
  refine Xd ?_
  refine Xb (by kernel_rfl) ?_
  refine Xa (Xf rfl) ?_
  refine Xa (Xm rfl) ?_
  refine X8 ?_
  exact ⟨_, Zi (Xw rfl) (Xw rfl), rfl, .inl ⟨hbad, rfl⟩⟩
  intro hc3
  have hfew : Vp ss ≠ 4611686018427387904 := of_decide_eq_false hc3
  refine X9 ?_
  refine Xd ?_
  refine Xb (by kernel_rfl) ?_
  refine Xa (Xf rfl) ?_
  refine Xd ?_
  refine Xd ?_
  refine Xb (by kernel_rfl) ?_
  refine Xa (Xt rfl) ?_
  refine Xa (Yn rfl Try.underlying23) ?_
  refine Xa (Xc rfl) ?_
  refine Ya ?_
  refine Y5 (fun n t H' => ∃ (i : Nat) (D E : Option Addr), n = ds.length - i ∧ i ≤ ds.length ∧ H' = H ∧ Sl (Yv .u64) H (.slice D ds.length c) ds ∧ Sl (Yv .u64) H (.slice E ss.length c2) ss ∧ (∀ j (h : j < ds.length) (h' : j < ss.length), j < i → ds[j] < ss[j]) ∧ t 1 = .slice E ss.length c2 ∧ t 6 = .int .u64 (valW 0 (ss.take i) (ds.take i)) ∧ t 19 = .slice D ds.length c ∧ t 20 = .int .i64 ds.length ∧ t 21 = .int .i64 i) (ds.length) (⟨0, _, _, rfl, Nat.zero_le _, rfl, hd, hs, fun j h h' h2 => by omega, rfl, rfl, rfl, rfl, rfl⟩) ?_
  rintro n t H ⟨i, D, E, rfl, hi, rfl, hd, hs, hlt, e1, e6, e19, e20, e21⟩
  refine Xd ?_
  refine Xb (by kernel_rfl) ?_
  refine Xa (Ze Xk Xk) ?_
  refine Xd ?_
  refine X6 rfl rfl ?_ ?_
  intro hc4
  have hil : i < ds.length := by have := of_decide_eq_true hc4; omega
  have his : i < ss.length := by omega
  obtain ⟨b, o, eD, hb, hcell⟩ := hd.int_at (i := (i : Int)) (by omega) (by omega)
  rw [Int.toNat_natCast, Y2 hil] at hcell
  subst eD
  obtain ⟨b2, o2, eE, hb2, hcell2⟩ := hs.int_at (i := (i : Int)) (by omega) (by omega)
  rw [Int.toNat_natCast, Y2 his] at hcell2
  subst eE
  have hnx := valW_snoc (ss := ss.take i) (ds := ds.take i) (a := 0) (s := ss[i]) (d := ds[i]) (by rw [List.length_take, List.length_take]; omega)
  rw [Yy hil, Yy his] at hnx
  refine X9 ?_
  refine Xd ?_
  refine Ya ?_
  refine Xd ?_
  refine Xb (by kernel_rfl) ?_
  refine Xa (Xc Xk) ?_
  refine Xa (Xs Xk Xk Try.underlying23 inf22.size X7 X7) ?_
  refine Xa (Xi rfl Try.underlying22 rfl Xr) ?_
  refine Xa (Xf rfl) ?_
  refine Xa (Xf rfl) ?_
  refine Xd ?_
  refine Xd ?_
  refine Xb (by kernel_rfl) ?_
  refine Xa (Xc rfl) ?_
  refine Xa (Xt Xk) ?_
  refine Xa (Xc rfl) ?_
  refine Xa (Xs rfl rfl Try.underlying23 inf22.size X7 X7) ?_
  refine Xa (Xi rfl Try.underlying22 rfl Xr) ?_
  refine Xa (av_ge rfl rfl) ?_
  refine X6 rfl rfl ?_ ?_
  intro hc5
  have hbad : ¬ GoodD ds ss := fun h => by have h1 := of_decide_eq_true hc5; have h2 := h.lt i hil his; omega
  refine Xd ?_
  refine Xb (by kernel_rfl) ?_
  refine Xa (Xf rfl) ?_
  refine Xa (Xm rfl) ?_
  refine X8 ?_
  exact ⟨_, Zi (Xw rfl) (Xw rfl), rfl, .inl ⟨hbad, rfl⟩⟩
  intro hc5
  have hok : ds[i] < ss[i] := by have := of_decide_eq_false hc5; omega
  refine X9 ?_
  refine Xb (by kernel_rfl) ?_
  refine Xa (Xc Xk) ?_
  refine Xa (Xt Xk) ?_
  refine Xa (Xc rfl) ?_
  refine Xa (Xs rfl rfl Try.underlying23 inf22.size X7 X7) ?_
  refine Xa (Xi rfl Try.underlying22 rfl Xr) ?_
  refine Xa (av_mul rfl rfl) ?_
  refine Xa (Xc rfl) ?_
  refine Xa (av_add rfl rfl) ?_
  refine Xa (Xf rfl) ?_
  refine Xb (by kernel_rfl) ?_
  refine Xa (Yf Xk Xk Yw) ?_
  refine Xa (Xc rfl) ?_
  exact ⟨ds.length - (i + 1), by omega, i + 1, _, _, rfl, by omega, rfl, hd, hs, fun j h h' h2 => by
    by_cases hj : j = i
    · subst hj; exact hok
    · exact hlt j h h' (by omega), e1, congrArg (Value.int .u64) hnx.symm, e19, e20, rfl⟩
  intro hc4
  have hil : i = ds.length := by have := of_decide_eq_false hc4; omega
  rw [List.take_of_length_le (by omega), List.take_of_length_le (by omega)] at e6
  refine Y1 ?_
  refine Xd ?_
  refine Xb (by kernel_rfl) ?_
  refine Xa (Xc Xk) ?_
  refine Xa (Xf rfl) ?_
  refine Xa (Xm rfl) ?_
  refine X8 ?_
  exact ⟨_, Zi (Xw rfl) (Xw rfl), rfl, .inr ⟨⟨hlen, hfew, fun j h h' => hlt j h h' (by omega)⟩, rfl⟩⟩
end Go.Proofs.Ytmakkmcjocjgmaa.Am


/- The small living call of the statements on access; what is told of no counts. -/
namespace Go.Proofs.Ytmakkmcjocjgmaa.Am
open Go Go.RowKit
set_option maxRecDepth 100000
set_option linter.unusedVariables false
set_option linter.unusedSimpArgs false

theorem Digits_u (k : Int) (ss : List Int) (v : Value) (H : Hp) (hs : Sl (Yv .u64) H v ss) (hl : ss.length ≤ 1000000) (h0 : ∀ s ∈ ss, 0 ≤ s) (hk : 0 ≤ k) :
    ACalls Try.prog 7 #[.int .u64 k, v] H (fun r H' => H.le H' ∧ ∃ (A : Option Addr) (c : Nat) (ok : Bool) (D : List Int), r = .tuple #[.slice A D.length c, .bool ok] ∧ Sl (Yv .u64) H' (.slice A D.length c) D ∧ ((ok = false ∧ ¬ (Vp ss ≠ 4611686018427387904 ∧ k < Vp ss) ∧ D = []) ∨ (ok = true ∧ (Vp ss ≠ 4611686018427387904 ∧ k < Vp ss) ∧ D = (peel ss k).2))) :=
  (Digits_acc k ss v H hs hl h0 hk).mono fun r H' ⟨hle, hr⟩ => by
    refine ⟨hle, ?_⟩
    rcases hr with ⟨h1, rfl⟩ | ⟨h1, A, c, rfl, sl⟩
    · exact ⟨none, 0, false, [], rfl, Sl.nil _ _, .inl ⟨rfl, h1, rfl⟩⟩
    · have hpl := peel_len ss k
      rw [← hpl] at sl ⊢
      exact ⟨A, c, true, _, rfl, sl, .inr ⟨rfl, h1, rfl⟩⟩
theorem Number_u (ds ss : List Int) (v u : Value) (H : Hp) (hd : Sl (Yv .u64) H v ds) (hs : Sl (Yv .u64) H u ss) (hdl : ds.length ≤ 1000000) (hl : ss.length ≤ 1000000) (h0 : ∀ s ∈ ss, 0 ≤ s) :
    ACalls Try.prog 10 #[v, u] H (fun r H' => (∃ (x : Int) (ok : Bool), r = .tuple #[.int .u64 x, .bool ok] ∧ ((ok = false ∧ ¬ GoodD ds ss ∧ x = 0) ∨ (ok = true ∧ GoodD ds ss ∧ x = valW 0 ss ds))) ∧ H' = H) :=
  (Number_acc ds ss v u H hd hs hdl hl h0).mono fun r H' ⟨hle, hr⟩ => by
    refine ⟨?_, hle⟩
    rcases hr with ⟨h1, rfl⟩ | ⟨h1, rfl⟩
    · exact ⟨0, false, rfl, .inl ⟨rfl, h1, rfl⟩⟩
    · exact ⟨_, true, rfl, .inr ⟨rfl, h1, rfl⟩⟩
def live32 : TreeT := Ys (Zo 2) (V1 (Zo 2) (Zs 2 [2, 3]))
theorem live32_is : live32 = Ys (Zo 2) (Zs 2 [2, 3]) := by
  unfold live32
  rcases apart_of (n := 2) (by decide) (by decide) (sa := 2) (sb := 3) (by decide) (by decide) with ⟨_, _, h⟩ | ⟨h, _⟩
  · rw [h]
  · omega
theorem live32_all : behT live32 [] = 24 := by rw [live32_is]; decide +kernel
theorem live32_seek : seek (extW live32 live32.vars.length [] 1) 13 = some ([1, 0], 1) := by rw [live32_is]; decide +kernel
theorem live32_good : GoodT live32 := apart_goodT (by decide) (by decide) (by decide) (by decide)
theorem live32_few : FewA live32 := apart_fewA (by decide) (by decide) (by decide) (by decide)
theorem live32_reach : Reach live32 := reach_tree (good_apart (by decide) (by decide) (by decide) (by decide)) live32_good
set_option maxHeartbeats 2000000 in
theorem lives32_ok (H : Hp) : ACalls Try.prog 9 #[] H (fun r H' => r = .bool true ∧ H.le H') := by
  refine Xu Try.func9 rfl rfl rfl (by simp) ?_
  refine Xd ?_
  refine Xb (by kernel_rfl) ?_
  refine Xa (Xm rfl) ?_
  refine Xd ?_
  refine Xb (by kernel_rfl) ?_
  first | refine X5 (Yc (r := [.int .u64 _, .int .u64 _]) Try.underlying23 inf22.size inf22.zero rfl (by decide) (by decide) (by decide) rfl) ?_
  refine Xz (Xx (Digits_u 5 [2, 3] (.slice (some ⟨H.size, 0, none⟩) 2 2) _ (sl_two (k := Yv .u64) Yi (by simp) rfl rfl rfl) (by decide) (by decide) (by decide)) rfl Try.func7 rfl rfl rfl ?_)
  rintro v12 H1 ⟨le1, A1, k1, ok1, D1, rfl, slD, hor⟩; obtain ⟨rfl, _, hD1⟩ := hor.resolve_left (fun h => h.2.1 (by decide)); obtain rfl : D1 = [1, 2] := hD1; have leH1 := Hp.le_trans (H.le_push _) le1
  refine Xa (Zn rfl) ?_
  refine Xa (Ym rfl rfl) ?_
  refine Xa (Ym rfl rfl) ?_
  refine Xa (X2 rfl) ?_
  refine Xa (Xm rfl) ?_
  refine Xd ?_
  refine Xb (by kernel_rfl) ?_
  first | refine X5 (Yc (r := [.int .i64 _, .int .i64 _]) Try.underlying33 inf3.size inf3.zero rfl (by decide) (by decide) (by decide) rfl) ?_
  refine Xz (Xx (Apart_ok 2 [2, 3] (.slice (some ⟨H1.size, 0, none⟩) 2 2) _ (sl_two (k := Yv .i64) Yi (by simp) rfl rfl rfl) (by decide) (by decide)) rfl Try.func19 rfl rfl rfl ?_)
  rintro v17 H2 ⟨cs1, ds1, rfl, hf1, hp1, hle2⟩; have hf10 := hf1; have hp10 := hp1; obtain ⟨a0, a1, a2, a3, a4, rfl, hs0, hs1, hs2, hs3, hs4⟩ := hf1; obtain ⟨A0, c0, rfl⟩ := hs0.shape; obtain ⟨B1', c1', rfl⟩ := hs1.shape; obtain ⟨A2, c2, rfl⟩ := hs2.shape; obtain ⟨A3, c3, rfl⟩ := hs3.shape; obtain ⟨A4, c4, rfl⟩ := hs4.shape; obtain ⟨u0, u1, rfl, hn0, hn1⟩ := hp1; obtain ⟨B0, d0, rfl⟩ := hn0.shape; obtain ⟨B1, d1, rfl⟩ := hn1.shape; have hz2 := hle2.1; simp only [Hp.push_size] at hz2; have leH2 := Hp.le_trans leH1 (Hp.le_trans (H1.le_push _) hle2); have le12 := Hp.le_trans (H1.le_push _) hle2
  refine Xa (Zn rfl) ?_
  refine Xa (Ym rfl rfl) ?_
  refine Xa (Ym rfl rfl) ?_
  refine X5 (Y9 (l := [.slice none 0 0, .slice none 0 0, .slice none 0 0, .slice none 0 0, .slice none 0 0]) inf47.zero rfl (by decide)) ?_
  refine X5 (Y9 (l := [.slice none 0 0, .slice none 0 0]) inf50.zero rfl (by decide)) ?_
  refine Xz (Yq (vs := [.slice _ _ _, .slice _ _ _, .slice _ _ _, .slice _ _ _, .slice _ _ _]) rfl rfl inf47.size Yi Yl rfl rfl ?_)
  refine Xz (Yq (vs := [.slice _ _ _, .slice _ _ _]) rfl rfl inf50.size Yi Yl rfl rfl ?_)
  refine Xd ?_
  refine Xb (by kernel_rfl) ?_
  refine Xa (Yo (cs := [.slice _ _ _, .slice _ _ _, .slice _ _ _, .slice _ _ _, .slice _ _ _]) rfl Try.underlying47 rfl inf47.size Yh) ?_
  refine Xa (Yo (cs := [.slice _ _ _, .slice _ _ _]) rfl Try.underlying50 rfl inf50.size Yh) ?_
  refine Xz (Xx (New_good (Zo 2) (Zs 2 [2, 3]) _ _ _ (kForest.mono Zt hf10) (kParts.mono Zt hp10) (small_apart (by decide) (by decide)) (cheap_apart (by decide) (by decide) (by decide)) (good_apart (by decide) (by decide) (by decide) (by decide))) rfl Try.func20 rfl rfl rfl ?_)
  rintro v23 H3 ⟨hle3, tb, rfl, htr⟩; change TreeR H3 _ live32 at htr
  refine Xa (Zn rfl) ?_
  refine Xa (Ym rfl rfl) ?_
  refine Xa (Ym rfl rfl) ?_
  refine Xa (Zd rfl) ?_
  refine Xa (Xf rfl) ?_
  refine Xd ?_
  have le23 : H2.le H3 := Hp.le_trans t_le hle3
  have leH3 : H.le H3 := Hp.le_trans leH2 le23
  have le13 := Hp.le_trans le12 le23
  clear hle3
  refine Xb (by kernel_rfl) ?_
  refine Xa (Xv rfl) ?_
  refine Xz (Xx (New_cnt live32_good live32_few live32_reach _ htr) rfl Try.func21 rfl rfl rfl ?_)
  rintro v28 H4 ⟨hle4, cb, rfl, hc4⟩
  refine Xz (Xx (At_acc live32_good hc4 13 (by decide)) rfl Try.func12 rfl rfl rfl ?_)
  rintro v29 H5 ⟨hle5, hr⟩; obtain ⟨_, ns, left, x, A5, k5, hsk, hrow, hxn, rfl, sl5, _⟩ := hr.resolve_left (fun h => by rw [live32_all] at h; exact absurd h.1 (by decide)); rw [live32_seek] at hsk; obtain ⟨rfl, rfl⟩ : [1, 0] = ns ∧ 1 = left := (by injection hsk with h; injection h with h1 h2; exact ⟨h1, h2⟩); obtain ⟨xn, xc, xm⟩ := x; obtain rfl : xn = [1, 0] := hxn; change Sl (Yv .i64) H5 (.slice A5 ([1, 0] : List Int).length k5) [1, 0] at sl5; have leH5 := Hp.le_trans leH3 (Hp.le_trans hle4 hle5); have le15 := Hp.le_trans le13 (Hp.le_trans hle4 hle5)
  refine Xa (Zn rfl) ?_
  refine Xa (Ym rfl rfl) ?_
  refine Xa (Ym rfl rfl) ?_
  refine Xa (Ym rfl rfl) ?_
  refine X5 (Y9 (l := [.slice none 0 0, .int .i64 0, .int .u64 0]) inf35.zero rfl (by decide)) ?_
  refine Xz (Yq (vs := [.slice _ _ _, .int .i64 _, .int .u64 _]) rfl rfl inf35.size Yi Yl rfl rfl ?_)
  refine Xa (Xf rfl) ?_
  refine Xa (Xm rfl) ?_
  refine Xd ?_
  obtain ⟨H6, hH6⟩ : ∃ H6, H6 = (H5.push (.own 0 [.slice none 0 0, .int .i64 0, .int .u64 0])).put H5.size (.own 0 [.slice A5 ([1, 0] : List Int).length k5, .int .i64 xc, .int .u64 xm]) := ⟨_, rfl⟩
  have le56 : H5.le H6 := by rw [hH6]; exact Hp.le_put_new (H5.le_push _) (Nat.le_refl _) _
  have g6 : H6.get H5.size = .own 0 [.slice A5 ([1, 0] : List Int).length k5, .int .i64 xc, .int .u64 xm] := by rw [hH6]; exact Hp.put_same _ _ _
  have z6 : H6.size = H5.size + 1 := by rw [hH6]; simp
  change ACode true _ _ _ _ _ ((H5.push (.own 0 [.slice none 0 0, .int .i64 0, .int .u64 0])).put H5.size (.own 0 [.slice A5 ([1, 0] : List Int).length k5, .int .i64 xc, .int .u64 xm]))
  rw [← hH6]
  clear hH6
  have sl6 := (sl5.mono le56.sees).mono (H6.le_push (.own 1 [.int .u64 1, .int .u64 2])).sees
  have slD6 := (slD.mono (Hp.le_trans le15 le56).sees).mono (H6.le_push (.own 1 [.int .u64 1, .int .u64 2])).sees
  obtain ⟨bR, oR, eR, hbR, hcR⟩ := sl6.int_at (i := 0) (by decide) (by decide)
  obtain ⟨bR2, oR2, eR2, hbR2, hcR2⟩ := sl6.int_at (i := 1) (by decide) (by decide)
  subst eR
  simp only [Option.some.injEq, Addr.mk.injEq, and_true] at eR2
  obtain ⟨rfl, rfl⟩ := eR2
  have g7 := (Hp.push_old H6 (.own 1 [.int .u64 1, .int .u64 2]) (show H5.size < H6.size by omega)).trans g6
  refine Xb (by kernel_rfl) ?_
  refine Xa (Xq rfl) ?_
  refine Xa (Xq rfl) ?_
  refine Yb rfl rfl rfl ?_ ?_
  intro hg1
  have hp1 := hg1; try simp only [decide_eq_true_eq, decide_eq_false_iff_not, Bool.not_eq_true', Bool.not_eq_false'] at hp1
  refine Xn (Xj rfl rfl rfl hg1) (Xt rfl) ?_
  first | refine Zr (Xj rfl rfl rfl hg1) (.make (Yc (r := [.int .u64 _, .int .u64 _]) Try.underlying23 inf22.size inf22.zero rfl (by decide) (by decide) (by decide) rfl) ?_)
  refine Zr (Xj rfl rfl rfl hg1) (Xx (SameU_u64 [1, 2] [1, 2] _ (.slice (some ⟨H6.size, 0, none⟩) 2 2) _ slD6 (sl_two (k := Yv .u64) Yi (by simp) rfl rfl rfl) (by decide)) rfl Try.func11 rfl rfl rfl ?_)
  rintro v37 H7 ⟨rfl, hH7⟩; subst hH7
  refine Xa (Xo (congrArg Value.bool hg1) rfl) ?_
  refine Xa (Xq rfl) ?_
  refine Yb rfl rfl rfl ?_ ?_
  intro hg2
  have hp2 := hg2; try simp only [decide_eq_true_eq, decide_eq_false_iff_not, Bool.not_eq_true', Bool.not_eq_false'] at hp2
  refine Xn (Xj rfl rfl rfl hg2) (Xc rfl) ?_
  refine Xn (Xj rfl rfl rfl hg2) (Z8 rfl rfl) ?_
  refine Xa (Xo (congrArg Value.bool hg2) rfl) ?_
  refine Xa (Xq rfl) ?_
  refine Yb rfl rfl rfl ?_ ?_
  intro hg3
  have hp3 := hg3; try simp only [decide_eq_true_eq, decide_eq_false_iff_not, Bool.not_eq_true', Bool.not_eq_false'] at hp3
  refine Xn (Xj rfl rfl rfl hg3) (Xq rfl) ?_
  refine Xa (Xo (congrArg Value.bool hg3) rfl) ?_
  refine Xa (Xq rfl) ?_
  refine Yb rfl rfl rfl ?_ ?_
  intro hg4
  have hp4 := hg4; try simp only [decide_eq_true_eq, decide_eq_false_iff_not, Bool.not_eq_true', Bool.not_eq_false'] at hp4
  refine Xn (Xj rfl rfl rfl hg4) (Xc rfl) ?_
  refine Xn (Xj rfl rfl rfl hg4) (Z8 rfl rfl) ?_
  refine Xa (Xo (congrArg Value.bool hg4) rfl) ?_
  refine Xa (Xq rfl) ?_
  refine Yb rfl rfl rfl ?_ ?_
  intro hg5
  have hp5 := hg5; try simp only [decide_eq_true_eq, decide_eq_false_iff_not, Bool.not_eq_true', Bool.not_eq_false'] at hp5
  refine Xn (Xj rfl rfl rfl hg5) (Xg (off := 0) rfl Try.underlying35 rfl inf33.size (by decide) rfl) ?_
  refine Xn (Xj rfl rfl rfl hg5) (Xi rfl Try.underlying33 rfl Xr) ?_
  refine Xn (Xj rfl rfl rfl hg5) (Yn rfl Try.underlying33) ?_
  refine Xn (Xj rfl rfl rfl hg5) (Z8 rfl rfl) ?_
  refine Xa (Xo (congrArg Value.bool hg5) rfl) ?_
  refine Xa (Xq rfl) ?_
  refine Yb rfl rfl rfl ?_ ?_
  intro hg6
  have hp6 := hg6; try simp only [decide_eq_true_eq, decide_eq_false_iff_not, Bool.not_eq_true', Bool.not_eq_false'] at hp6
  refine Xn (Xj rfl rfl rfl hg6) (Xg (off := 0) rfl Try.underlying35 rfl inf33.size (by decide) rfl) ?_
  refine Xn (Xj rfl rfl rfl hg6) (Xi rfl Try.underlying33 rfl Xr) ?_
  refine Xn (Xj rfl rfl rfl hg6) (Xs rfl rfl Try.underlying33 inf3.size X7 X7) ?_
  refine Xn (Xj rfl rfl rfl hg6) (Xi rfl Try.underlying3 rfl Xr) ?_
  refine Xn (Xj rfl rfl rfl hg6) (Z8 rfl rfl) ?_
  refine Xa (Xo (congrArg Value.bool hg6) rfl) ?_
  refine Xa (Xq rfl) ?_
  refine Yb rfl rfl rfl ?_ ?_
  intro hg7
  have hp7 := hg7; try simp only [decide_eq_true_eq, decide_eq_false_iff_not, Bool.not_eq_true', Bool.not_eq_false'] at hp7
  refine Xn (Xj rfl rfl rfl hg7) (Xg (off := 0) rfl Try.underlying35 rfl inf33.size (by decide) rfl) ?_
  refine Xn (Xj rfl rfl rfl hg7) (Xi rfl Try.underlying33 rfl Xr) ?_
  refine Xn (Xj rfl rfl rfl hg7) (Xs rfl rfl Try.underlying33 inf3.size X7 X7) ?_
  refine Xn (Xj rfl rfl rfl hg7) (Xi rfl Try.underlying3 rfl Xr) ?_
  refine Xn (Xj rfl rfl rfl hg7) (Z8 rfl rfl) ?_
  refine Xa (Xo (congrArg Value.bool hg7) rfl) ?_
  refine Xa (Xm rfl) ?_
  refine X8 ?_
  exact ⟨.bool true, X1 (Xw rfl), rfl, Hp.le_trans (Hp.le_trans leH5 le56) (H6.le_push _)⟩
  intro hg7
  exact absurd hg7 (by decide)
  intro hg6
  exact absurd hg6 (by decide)
  intro hg5
  exact absurd hg5 (by decide)
  intro hg4
  exact absurd hg4 (by decide)
  intro hg3
  exact absurd hg3 (by decide)
  intro hg2
  exact absurd hg2 (by decide)
  intro hg1
  exact absurd hg1 (by decide)
end Go.Proofs.Ytmakkmcjocjgmaa.Am


/- The statements AccessDigits, AccessNumber and AccessNone, as the abstract machine runs them. -/
namespace Go.Proofs.Ytmakkmcjocjgmaa.Am
open Go Go.RowKit
set_option maxRecDepth 100000
set_option linter.unusedVariables false
set_option linter.unusedSimpArgs false

set_option maxHeartbeats 2000000 in
theorem AccessNumber_ok (ds ss : List Int) (v u : Value) (H : Hp) (hd : Sl (Yv .u64) H v ds) (hs : Sl (Yv .u64) H u ss) (hd0' : ∀ s ∈ ds, 0 ≤ s) (h0' : ∀ s ∈ ss, 0 ≤ s) (hdl : ds.length ≤ 9223372036854775807) (hl : ss.length ≤ 9223372036854775807) :
    ACalls Try.prog 4 #[v, u] H (fun r H' => r = .bool true ∧ H.le H') := by
  obtain ⟨A, c, rfl⟩ := hd.shape
  obtain ⟨B, c2, rfl⟩ := hs.shape
  obtain ⟨S, hS⟩ : ∃ S, S = ss.take 5 := ⟨_, rfl⟩
  obtain ⟨D, hD⟩ : ∃ D, D = ds.take 5 := ⟨_, rfl⟩
  have hSl : S.length ≤ 5 := by rw [hS, List.length_take]; omega
  have hSS : S.take 5 = S := List.take_of_length_le hSl
  have hDl : D.length ≤ 5 := by rw [hD, List.length_take]; omega
  have hDD : D.take 5 = D := List.take_of_length_le hDl
  have h0 : ∀ s ∈ S, 0 ≤ s := fun s h => h0' s (by rw [hS] at h; exact List.mem_of_mem_take h)
  have hd0 : ∀ s ∈ D, 0 ≤ s := fun s h => hd0' s (by rw [hD] at h; exact List.mem_of_mem_take h)
  obtain ⟨hpt, hpn⟩ := prodT_is h0
  have hmost : Yu = 4611686018427387904 := rfl
  refine Xu Try.func4 rfl rfl rfl (by simp) ?_
  refine Xd ?_
  refine Xb (by kernel_rfl) ?_
  refine Xa (Xm rfl) ?_
  refine Xd ?_
  refine Xb (by kernel_rfl) ?_
  refine Xa (Xt rfl) ?_
  refine Xz (Xx (Few_u64 ds _ 5 _ hd hdl (by decide) (by decide)) rfl Try.func6 rfl rfl rfl ?_)
  rintro v15 H1 ⟨le1, sd1⟩; change Sl (Yv .u64) H1 v15 (ds.take 5) at sd1; rw [← hD] at sd1; obtain ⟨A1, c1', rfl⟩ := sd1.shape
  refine Xa (Xt rfl) ?_
  refine Xz (Xx (Few_u64 ss _ 5 _ (hs.mono le1.sees) hl (by decide) (by decide)) rfl Try.func6 rfl rfl rfl ?_)
  rintro v17 H2 ⟨le2, ss2⟩; change Sl (Yv .u64) H2 v17 (ss.take 5) at ss2; rw [← hS] at ss2; obtain ⟨A2, c2', rfl⟩ := ss2.shape; have sd2 := sd1.mono le2.sees
  refine Xa (X2 rfl) ?_
  refine Xa (X2 rfl) ?_
  refine Xd ?_
  refine Xb (by kernel_rfl) ?_
  refine Xa (Xt rfl) ?_
  refine Xz (Xx (Few_u64 D _ 5 _ sd2 (by omega) (by decide) (by decide)) rfl Try.func6 rfl rfl rfl ?_)
  rintro v20 H3 ⟨le3, sd3⟩; change Sl (Yv .u64) H3 v20 (D.take 5) at sd3; rw [hDD] at sd3
  refine Xa (Xt rfl) ?_
  refine Xz (Xx (Few_u64 S _ 5 _ (ss2.mono le3.sees) (by omega) (by decide) (by decide)) rfl Try.func6 rfl rfl rfl ?_)
  rintro v22 H4 ⟨le4, ss4⟩; change Sl (Yv .u64) H4 v22 (S.take 5) at ss4; rw [hSS] at ss4
  refine Xz (Xx (Number_u D S _ _ _ (sd3.mono le4.sees) ss4 (by omega) (by omega) h0) rfl Try.func10 rfl rfl rfl ?_)
  rintro v23 H4 ⟨⟨x, ok, rfl, hor⟩, rfl⟩; have le24 := Hp.le_trans le3 le4; have sd4 := sd2.mono le24.sees; have sS4 := ss2.mono le24.sees; have leH4 := Hp.le_trans le1 (Hp.le_trans le2 le24)
  refine Xa (Zn rfl) ?_
  refine Xa (Ym rfl rfl) ?_
  refine Xa (Ym rfl rfl) ?_
  refine Xa (Xf rfl) ?_
  refine Xa (Xm rfl) ?_
  refine Xd ?_
  refine ac_cut (fun t H' => H' = H4 ∧ t 5 = .slice A1 D.length c1' ∧ t 6 = .slice A2 S.length c2' ∧ t 7 = .int .u64 x ∧ t 8 = .bool ok ∧ t 9 = .bool (decide (D.length = S.length ∧ Vp S ≠ 4611686018427387904)) ∧ t 10 = .int .u64 0) ?_ ?_
  refine Xb (by kernel_rfl) ?_
  refine Xa (Xt rfl) ?_
  refine Xa (Yn rfl Try.underlying23) ?_
  refine Xa (Xt rfl) ?_
  refine Xa (Yn rfl Try.underlying23) ?_
  refine Xa (Z8 rfl rfl) ?_
  refine Xa (Xq rfl) ?_
  refine Yb rfl rfl rfl ?_ ?_
  intro hg1
  have hlen : D.length = S.length := by have := of_decide_eq_true hg1; omega
  refine Xn (Xj rfl rfl rfl hg1) (Xt rfl) ?_
  refine Zr (Xj rfl rfl rfl hg1) (Xx (Product_ref S _ _ sS4 (by omega) h0) rfl Try.func8 rfl rfl rfl ?_)
  rintro v33 H4 ⟨rfl, rfl⟩
  refine Xn (Xj rfl rfl rfl hg1) (Ze rfl rfl) ?_
  refine Xa (Xo (congrArg Value.bool hg1) rfl) ?_
  refine Xa (Xm rfl) ?_
  refine Xa (Xf rfl) ?_
  first
    | exact ⟨rfl, rfl, rfl, rfl, rfl, congrArg Value.bool (decide_eq_decide.2 ⟨fun h => ⟨hlen, by omega⟩, fun h => by have := h.2; omega⟩), rfl⟩
    | exact ⟨rfl, rfl, rfl, rfl, rfl, congrArg Value.bool (by symm; rw [decide_eq_false_iff_not]; exact fun h => hlen h.1), rfl⟩
  intro hg1
  have hlen : ¬ D.length = S.length := by have := of_decide_eq_false hg1; omega
  refine Xh (Xl rfl rfl rfl hg1 rfl) ?_
  refine Xh (Xl rfl rfl rfl hg1 rfl) ?_
  refine Xh (Xl rfl rfl rfl hg1 rfl) ?_
  refine Xa (Xo (congrArg Value.bool hg1) rfl) ?_
  refine Xa (Xm rfl) ?_
  refine Xa (Xf rfl) ?_
  first
    | exact ⟨rfl, rfl, rfl, rfl, rfl, congrArg Value.bool (decide_eq_decide.2 ⟨fun h => ⟨hlen, by omega⟩, fun h => by have := h.2; omega⟩), rfl⟩
    | exact ⟨rfl, rfl, rfl, rfl, rfl, congrArg Value.bool (by symm; rw [decide_eq_false_iff_not]; exact fun h => hlen h.1), rfl⟩
  rintro t H4 ⟨rfl, e5, e6, e7, e8, e9, e10⟩
  refine Xd ?_
  refine Xd ?_
  refine Xb (by kernel_rfl) ?_
  refine Xa (Xf rfl) ?_
  refine Ya ?_
  refine Y5 (fun n t H' => ∃ (i : Nat) (D1 D2 : Option Addr) (gd : Bool) (sum : Int), n = D.length - i ∧ i ≤ D.length ∧ H' = H4 ∧ Sl (Yv .u64) H4 (.slice D1 D.length c1') D ∧ Sl (Yv .u64) H4 (.slice D2 S.length c2') S ∧ (gd = true → D.length = S.length ∧ Vp S ≠ 4611686018427387904 ∧ (∀ j (h : j < D.length) (h' : j < S.length), j < i → D[j] < S[j]) ∧ sum = valW 0 (S.take i) (D.take i)) ∧ (gd = false → ¬ GoodD D S) ∧ t 5 = .slice D1 D.length c1' ∧ t 6 = .slice D2 S.length c2' ∧ t 7 = .int .u64 x ∧ t 8 = .bool ok ∧ t 9 = .bool gd ∧ t 10 = .int .u64 sum ∧ t 11 = .int .i64 i) (D.length) (⟨0, _, _, _, 0, rfl, Nat.zero_le _, rfl, sd4, sS4, fun h => ⟨(of_decide_eq_true h).1, (of_decide_eq_true h).2, fun j h1 h2 h3 => by omega, rfl⟩, fun h => fun hg => of_decide_eq_false h ⟨hg.len, hg.few⟩, e5, e6, e7, e8, e9, e10, rfl⟩) ?_
  rintro n t H4 ⟨i, D1, D2, gd, sum, rfl, hi, rfl, sd4, sS4, hyes, hno, e5, e6, e7, e8, e9, e10, e11⟩
  refine Xd ?_
  refine Xd ?_
  refine Xb (by kernel_rfl) ?_
  refine Xa (Xc Xk) ?_
  refine Xa (Xt Xk) ?_
  refine Xa (Yn rfl Try.underlying23) ?_
  refine Xa (Ze rfl rfl) ?_
  refine Xa (Xq rfl) ?_
  refine Yb rfl rfl rfl ?_ ?_
  intro hg2
  have hil : i < D.length := by have := of_decide_eq_true hg2; omega
  refine Xn (Xj rfl rfl rfl hg2) (Xq Xk) ?_
  refine Xa (Xo (congrArg Value.bool hg2) rfl) ?_
  refine X6 rfl rfl ?_ ?_
  intro hc3
  have hgd : gd = true := hc3
  obtain ⟨hlen, hfw, hlt, hsum⟩ := hyes hgd
  have his : i < S.length := by omega
  obtain ⟨b, o, eD, hb, hcell⟩ := sd4.int_at (i := (i : Int)) (by omega) (by omega)
  rw [Int.toNat_natCast, Y2 hil] at hcell
  subst eD
  obtain ⟨b2, o2, eD2, hb2, hcell2⟩ := sS4.int_at (i := (i : Int)) (by omega) (by omega)
  rw [Int.toNat_natCast, Y2 his] at hcell2
  subst eD2
  have hnx := valW_snoc (ss := S.take i) (ds := D.take i) (a := 0) (s := S[i]) (d := D[i]) (by rw [List.length_take, List.length_take]; omega)
  rw [Yy hil, Yy his, ← hsum] at hnx
  refine X9 ?_
  refine Xd ?_
  refine Ya ?_
  refine Xd ?_
  refine Yx (by kernel_rfl) (Y7 (B := [0, 0, 3, 7, 0, 0, 48, 112, 255, 511]) (π := [0, 1, 2, 3, 4, 5, 6, 7, 8, 9]) (by kernel_rfl)) ?_
  refine Xe rfl rfl (Xt Xk) Xp ?_
  refine Xe rfl rfl (Xc Xk) Xp ?_
  refine Xe rfl rfl (Xs rfl rfl Try.underlying23 inf22.size X7 X7) Xp ?_
  refine Xe rfl rfl (Xi rfl Try.underlying22 rfl Xr) Xp ?_
  refine Xe rfl rfl (Xt Xk) Xp ?_
  refine Xe rfl rfl (Xc Xk) Xp ?_
  refine Xe rfl rfl (Xs rfl rfl Try.underlying23 inf22.size X7 X7) Xp ?_
  refine Xe rfl rfl (Xi rfl Try.underlying22 rfl Xr) Xp ?_
  refine Xe rfl rfl (Ze rfl rfl) Xp ?_
  refine Xe rfl rfl (Xm rfl) Xp ?_
  refine Yx (by kernel_rfl) (Y7 (B := [0, 0, 0, 6, 14, 31, 0, 0, 192, 448, 1023, 2047]) (π := [0, 1, 2, 3, 4, 5, 6, 7, 8, 9, 10, 11]) (by kernel_rfl)) ?_
  refine Xe rfl rfl (Xc Xk) Xp ?_
  refine Xe rfl rfl (Xt Xk) Xp ?_
  refine Xe rfl rfl (Xc Xk) Xp ?_
  refine Xe rfl rfl (Xs rfl rfl Try.underlying23 inf22.size X7 X7) Xp ?_
  refine Xe rfl rfl (Xi rfl Try.underlying22 rfl Xr) Xp ?_
  refine Xe rfl rfl (av_mul rfl rfl) Xp ?_
  refine Xe rfl rfl (Xt Xk) Xp ?_
  refine Xe rfl rfl (Xc Xk) Xp ?_
  refine Xe rfl rfl (Xs rfl rfl Try.underlying23 inf22.size X7 X7) Xp ?_
  refine Xe rfl rfl (Xi rfl Try.underlying22 rfl Xr) Xp ?_
  refine Xe rfl rfl (av_add rfl rfl) Xp ?_
  refine Xe rfl rfl (Xf rfl) Xp ?_
  refine Xb (by kernel_rfl) ?_
  refine Xa (Xc Xk) ?_
  refine Xa (Yf rfl rfl Yw) ?_
  refine Xa (Xf rfl) ?_
  exact ⟨D.length - (i + 1), by omega, i + 1, _, _, _, _, rfl, by omega, rfl, sd4, sS4, fun h => ⟨hlen, hfw, fun j h1 h2 h3 => by
    by_cases hj : j = i
    · subst hj; exact of_decide_eq_true h
    · exact hlt j h1 h2 (by omega), hnx.symm⟩, fun h hg => of_decide_eq_false h (hg.lt i hil his), e5, e6, e7, e8, rfl, rfl, rfl⟩
  intro hc3
  have hgf : gd = false := by first | exact hc3 | exact (Bool.eq_false_iff.2 (by simpa using hc3))
  refine Y1 ?_
  refine Xd ?_
  refine Xd ?_
  refine Xb (by kernel_rfl) ?_
  refine Xa (Xq Xk) ?_
  refine Xa (Vo rfl) ?_
  refine X6 rfl rfl ?_ ?_
  intro hc4
  have hgf2 : gd = false := by have h := hc4; simpa using h
  obtain ⟨rfl, _, rfl⟩ := hor.resolve_right (fun h => hno hgf2 h.2.1)
  refine Xd ?_
  refine Xb (by kernel_rfl) ?_
  refine Xa (Xc Xk) ?_
  refine Xa (Z8 rfl rfl) ?_
  refine Xa (Xq rfl) ?_
  refine Yb rfl rfl rfl ?_ ?_
  intro hg5
  have hp5 := hg5; try simp only [decide_eq_true_eq, decide_eq_false_iff_not, Bool.not_eq_true', Bool.not_eq_false'] at hp5
  refine Xn (Xj rfl rfl rfl hg5) (Xq Xk) ?_
  refine Xn (Xj rfl rfl rfl hg5) (Vo rfl) ?_
  refine Xa (Xo (congrArg Value.bool hg5) rfl) ?_
  refine Xa (Xq rfl) ?_
  refine Yb rfl rfl rfl ?_ ?_
  intro hg6
  have hp6 := hg6; try simp only [decide_eq_true_eq, decide_eq_false_iff_not, Bool.not_eq_true', Bool.not_eq_false'] at hp6
  refine Zr (Xj rfl rfl rfl hg6) (Xx (lives32_ok _) rfl Try.func9 rfl rfl rfl ?_)
  rintro v H' ⟨rfl, hlv⟩
  refine Xa (Xo (congrArg Value.bool hg6) rfl) ?_
  refine Xa (Xm rfl) ?_
  refine X8 ?_
  exact ⟨.bool true, X1 (Xw rfl), rfl, Hp.le_trans leH4 hlv⟩
  intro hg6
  exact absurd hg6 (by decide)
  intro hg5
  exact absurd hg5 (by decide)
  intro hc4
  have hgt : gd = true := by have h := hc4; simpa using h
  refine X9 ?_
  refine Xd ?_
  have hile : i = D.length := by first | exact hil | exact absurd hgt (by rw [hgf]; decide)
  obtain ⟨hlen, hfw, hlt, hsum⟩ := hyes hgt
  have hgood : GoodD D S := ⟨hlen, hfw, fun j h h' => hlt j h h' (by omega)⟩
  obtain ⟨rfl, _, hx⟩ := hor.resolve_left (fun h => h.2.1 hgood)
  rw [List.take_of_length_le (by omega), List.take_of_length_le (by omega)] at hsum
  have hpos : ∀ s ∈ S, 0 < s := fun s hs => by
    obtain ⟨j, hj, rfl⟩ := List.getElem_of_mem hs
    have h1 := hgood.lt j (by omega) hj
    have h2 := hd0 _ (List.getElem_mem (show j < D.length by omega))
    omega
  have hdig : ∀ j (h : j < D.length) (h' : j < S.length), 0 ≤ D[j] ∧ D[j] < S[j] := fun j h h' => ⟨hd0 _ (List.getElem_mem h), hgood.lt j h h'⟩
  have hbd := valF_bound (a := 0) hlen hpos hdig (by decide)
  rw [Int.zero_add, Int.one_mul] at hbd
  have hpi : V7 S < 4611686018427387904 := by rw [hpt] at hfw; omega
  have hvx := valW_exact (a := 0) hlen hpos hdig (by decide) (by omega)
  rw [hvx] at hx hsum
  have hpx := valF_peel (a := 0) hlen hpos hdig
  rw [← hx] at hpx hbd
  have hsx : sum = x := by rw [hsum, hx]
  subst hsx
  refine Xb (by kernel_rfl) ?_
  refine Xa (Xc Xk) ?_
  refine Xa (Xt Xk) ?_
  refine Xz (Xx (Few_u64 S _ 5 _ sS4 (by omega) (by decide) (by decide)) rfl Try.func6 rfl rfl rfl ?_)
  rintro v79 H5 ⟨le5, sS5⟩; change Sl (Yv .u64) H5 v79 (S.take 5) at sS5; rw [hSS] at sS5
  refine Xz (Xx (Digits_u sum S _ _ sS5 (by omega) h0 hbd.1) rfl Try.func7 rfl rfl rfl ?_)
  rintro v80 H6 ⟨le6, A6, c6', ok2, D2', rfl, slD6, hor2⟩; obtain ⟨rfl, _, hD2⟩ := hor2.resolve_left (fun h => h.2.1 ⟨hfw, by rw [hpt]; omega⟩); rw [hpx] at hD2; obtain rfl : D2' = D := hD2; have sd6 := (sd4.mono le5.sees).mono le6.sees
  refine Xa (Zn rfl) ?_
  refine Xa (Ym rfl rfl) ?_
  refine Xa (Ym rfl rfl) ?_
  refine Xa (X2 rfl) ?_
  refine Xa (Xm rfl) ?_
  refine Xd ?_
  refine Xb (by kernel_rfl) ?_
  refine Xa (Xc Xk) ?_
  refine Xa (Xc Xk) ?_
  refine Xa (Z8 rfl rfl) ?_
  refine Xa (Xq rfl) ?_
  refine Yb rfl rfl rfl ?_ ?_
  intro hg7
  have hp7 := hg7; try simp only [decide_eq_true_eq, decide_eq_false_iff_not, Bool.not_eq_true', Bool.not_eq_false'] at hp7
  refine Xn (Xj rfl rfl rfl hg7) (Xq Xk) ?_
  refine Xa (Xo (congrArg Value.bool hg7) rfl) ?_
  refine Xa (Xq rfl) ?_
  refine Yb rfl rfl rfl ?_ ?_
  intro hg8
  have hp8 := hg8; try simp only [decide_eq_true_eq, decide_eq_false_iff_not, Bool.not_eq_true', Bool.not_eq_false'] at hp8
  refine Xn (Xj rfl rfl rfl hg8) (Xq rfl) ?_
  refine Xa (Xo (congrArg Value.bool hg8) rfl) ?_
  refine Xa (Xq rfl) ?_
  refine Yb rfl rfl rfl ?_ ?_
  intro hg9
  have hp9 := hg9; try simp only [decide_eq_true_eq, decide_eq_false_iff_not, Bool.not_eq_true', Bool.not_eq_false'] at hp9
  refine Xn (Xj rfl rfl rfl hg9) (Xt rfl) ?_
  refine Xn (Xj rfl rfl rfl hg9) (Xt Xk) ?_
  refine Zr (Xj rfl rfl rfl hg9) (Xx (SameU_u64 D2' D2' _ _ _ slD6 sd6 (by omega)) rfl Try.func11 rfl rfl rfl ?_)
  rintro v95 H6 ⟨rfl, rfl⟩
  refine Xa (Xo (congrArg Value.bool hg9) rfl) ?_
  refine Xa (Xq rfl) ?_
  refine Yb rfl rfl rfl ?_ ?_
  intro hg10
  have hp10 := hg10; try simp only [decide_eq_true_eq, decide_eq_false_iff_not, Bool.not_eq_true', Bool.not_eq_false'] at hp10
  refine Zr (Xj rfl rfl rfl hg10) (Xx (lives32_ok _) rfl Try.func9 rfl rfl rfl ?_)
  rintro v H' ⟨rfl, hlv⟩
  refine Xa (Xo (congrArg Value.bool hg10) rfl) ?_
  refine Xa (Xm rfl) ?_
  refine X8 ?_
  exact ⟨.bool true, X1 (Xw rfl), rfl, Hp.le_trans (Hp.le_trans leH4 (Hp.le_trans le5 le6)) hlv⟩
  intro hg10
  (have h := hg10; simp at h)
  intro hg9
  exact absurd hg9 (by decide)
  intro hg8
  exact absurd hg8 (by decide)
  intro hg7
  exact absurd rfl (of_decide_eq_false hg7)
  intro hg2
  have hil : i = D.length := by have := of_decide_eq_false hg2; omega
  refine Xh (Xl rfl rfl rfl hg2 rfl) ?_
  refine Xa (Xo (congrArg Value.bool hg2) Xk) ?_
  refine Zl rfl rfl ?_
  refine Y1 ?_
  refine Xd ?_
  refine Xd ?_
  refine Xb (by kernel_rfl) ?_
  refine Xa (Xq Xk) ?_
  refine Xa (Vo rfl) ?_
  refine X6 rfl rfl ?_ ?_
  intro hc12
  have hgf2 : gd = false := by have h := hc12; simpa using h
  obtain ⟨rfl, _, rfl⟩ := hor.resolve_right (fun h => hno hgf2 h.2.1)
  refine Xd ?_
  refine Xb (by kernel_rfl) ?_
  refine Xa (Xc Xk) ?_
  refine Xa (Z8 rfl rfl) ?_
  refine Xa (Xq rfl) ?_
  refine Yb rfl rfl rfl ?_ ?_
  intro hg13
  have hp13 := hg13; try simp only [decide_eq_true_eq, decide_eq_false_iff_not, Bool.not_eq_true', Bool.not_eq_false'] at hp13
  refine Xn (Xj rfl rfl rfl hg13) (Xq Xk) ?_
  refine Xn (Xj rfl rfl rfl hg13) (Vo rfl) ?_
  refine Xa (Xo (congrArg Value.bool hg13) rfl) ?_
  refine Xa (Xq rfl) ?_
  refine Yb rfl rfl rfl ?_ ?_
  intro hg14
  have hp14 := hg14; try simp only [decide_eq_true_eq, decide_eq_false_iff_not, Bool.not_eq_true', Bool.not_eq_false'] at hp14
  refine Zr (Xj rfl rfl rfl hg14) (Xx (lives32_ok _) rfl Try.func9 rfl rfl rfl ?_)
  rintro v H' ⟨rfl, hlv⟩
  refine Xa (Xo (congrArg Value.bool hg14) rfl) ?_
  refine Xa (Xm rfl) ?_
  refine X8 ?_
  exact ⟨.bool true, X1 (Xw rfl), rfl, Hp.le_trans leH4 hlv⟩
  intro hg14
  exact absurd hg14 (by decide)
  intro hg13
  exact absurd hg13 (by decide)
  intro hc12
  have hgt : gd = true := by have h := hc12; simpa using h
  refine X9 ?_
  refine Xd ?_
  have hile : i = D.length := by first | exact hil | exact absurd hgt (by rw [hgf]; decide)
  obtain ⟨hlen, hfw, hlt, hsum⟩ := hyes hgt
  have hgood : GoodD D S := ⟨hlen, hfw, fun j h h' => hlt j h h' (by omega)⟩
  obtain ⟨rfl, _, hx⟩ := hor.resolve_left (fun h => h.2.1 hgood)
  rw [List.take_of_length_le (by omega), List.take_of_length_le (by omega)] at hsum
  have hpos : ∀ s ∈ S, 0 < s := fun s hs => by
    obtain ⟨j, hj, rfl⟩ := List.getElem_of_mem hs
    have h1 := hgood.lt j (by omega) hj
    have h2 := hd0 _ (List.getElem_mem (show j < D.length by omega))
    omega
  have hdig : ∀ j (h : j < D.length) (h' : j < S.length), 0 ≤ D[j] ∧ D[j] < S[j] := fun j h h' => ⟨hd0 _ (List.getElem_mem h), hgood.lt j h h'⟩
  have hbd := valF_bound (a := 0) hlen hpos hdig (by decide)
  rw [Int.zero_add, Int.one_mul] at hbd
  have hpi : V7 S < 4611686018427387904 := by rw [hpt] at hfw; omega
  have hvx := valW_exact (a := 0) hlen hpos hdig (by decide) (by omega)
  rw [hvx] at hx hsum
  have hpx := valF_peel (a := 0) hlen hpos hdig
  rw [← hx] at hpx hbd
  have hsx : sum = x := by rw [hsum, hx]
  subst hsx
  refine Xb (by kernel_rfl) ?_
  refine Xa (Xc Xk) ?_
  refine Xa (Xt Xk) ?_
  refine Xz (Xx (Few_u64 S _ 5 _ sS4 (by omega) (by decide) (by decide)) rfl Try.func6 rfl rfl rfl ?_)
  rintro v79 H5 ⟨le5, sS5⟩; change Sl (Yv .u64) H5 v79 (S.take 5) at sS5; rw [hSS] at sS5
  refine Xz (Xx (Digits_u sum S _ _ sS5 (by omega) h0 hbd.1) rfl Try.func7 rfl rfl rfl ?_)
  rintro v80 H6 ⟨le6, A6, c6', ok2, D2', rfl, slD6, hor2⟩; obtain ⟨rfl, _, hD2⟩ := hor2.resolve_left (fun h => h.2.1 ⟨hfw, by rw [hpt]; omega⟩); rw [hpx] at hD2; obtain rfl : D2' = D := hD2; have sd6 := (sd4.mono le5.sees).mono le6.sees
  refine Xa (Zn rfl) ?_
  refine Xa (Ym rfl rfl) ?_
  refine Xa (Ym rfl rfl) ?_
  refine Xa (X2 rfl) ?_
  refine Xa (Xm rfl) ?_
  refine Xd ?_
  refine Xb (by kernel_rfl) ?_
  refine Xa (Xc Xk) ?_
  refine Xa (Xc Xk) ?_
  refine Xa (Z8 rfl rfl) ?_
  refine Xa (Xq rfl) ?_
  refine Yb rfl rfl rfl ?_ ?_
  intro hg15
  have hp15 := hg15; try simp only [decide_eq_true_eq, decide_eq_false_iff_not, Bool.not_eq_true', Bool.not_eq_false'] at hp15
  refine Xn (Xj rfl rfl rfl hg15) (Xq Xk) ?_
  refine Xa (Xo (congrArg Value.bool hg15) rfl) ?_
  refine Xa (Xq rfl) ?_
  refine Yb rfl rfl rfl ?_ ?_
  intro hg16
  have hp16 := hg16; try simp only [decide_eq_true_eq, decide_eq_false_iff_not, Bool.not_eq_true', Bool.not_eq_false'] at hp16
  refine Xn (Xj rfl rfl rfl hg16) (Xq rfl) ?_
  refine Xa (Xo (congrArg Value.bool hg16) rfl) ?_
  refine Xa (Xq rfl) ?_
  refine Yb rfl rfl rfl ?_ ?_
  intro hg17
  have hp17 := hg17; try simp only [decide_eq_true_eq, decide_eq_false_iff_not, Bool.not_eq_true', Bool.not_eq_false'] at hp17
  refine Xn (Xj rfl rfl rfl hg17) (Xt rfl) ?_
  refine Xn (Xj rfl rfl rfl hg17) (Xt Xk) ?_
  refine Zr (Xj rfl rfl rfl hg17) (Xx (SameU_u64 D2' D2' _ _ _ slD6 sd6 (by omega)) rfl Try.func11 rfl rfl rfl ?_)
  rintro v95 H6 ⟨rfl, rfl⟩
  refine Xa (Xo (congrArg Value.bool hg17) rfl) ?_
  refine Xa (Xq rfl) ?_
  refine Yb rfl rfl rfl ?_ ?_
  intro hg18
  have hp18 := hg18; try simp only [decide_eq_true_eq, decide_eq_false_iff_not, Bool.not_eq_true', Bool.not_eq_false'] at hp18
  refine Zr (Xj rfl rfl rfl hg18) (Xx (lives32_ok _) rfl Try.func9 rfl rfl rfl ?_)
  rintro v H' ⟨rfl, hlv⟩
  refine Xa (Xo (congrArg Value.bool hg18) rfl) ?_
  refine Xa (Xm rfl) ?_
  refine X8 ?_
  exact ⟨.bool true, X1 (Xw rfl), rfl, Hp.le_trans (Hp.le_trans leH4 (Hp.le_trans le5 le6)) hlv⟩
  intro hg18
  (have h := hg18; simp at h)
  intro hg17
  exact absurd hg17 (by decide)
  intro hg16
  exact absurd hg16 (by decide)
  intro hg15
  exact absurd rfl (of_decide_eq_false hg15)
end Go.Proofs.Ytmakkmcjocjgmaa.Am


/- Links among the arguments of a statement. -/
namespace Go.Proofs.Ytmakkmcjocjgmaa.Am
open Go Go.RowKit
set_option maxRecDepth 100000
theorem cells_u64 : Try.prog.cellsOf 22 = 1 := by kernel_rfl
end Go.Proofs.Ytmakkmcjocjgmaa.Am


/- Lists of numbers without sign among the arguments of a statement. -/
namespace Go.Proofs.Ytmakkmcjocjgmaa.Am
open Go Go.RowKit
set_option maxRecDepth 100000
theorem opens_u64s : Opens Try.prog (kSl (Yv .u64)) 23 (fun xs => xs.length ≤ maxLen ∧ ∀ x ∈ xs, fits .u64 x) := opens_sl Try.underlying23 cells_u64 (opens_int Try.underlying22)
theorem fits_nn {xs : List Int} (h : ∀ x ∈ xs, fits .u64 x) : ∀ x ∈ xs, 0 ≤ x := fun x hx => (lit_u64 (h x hx)).1
end Go.Proofs.Ytmakkmcjocjgmaa.Am
