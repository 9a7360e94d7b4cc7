/- Texts that the proof rests on, part 5: lemmas for every heap that is related to a world, no condition beyond each lemma's own. -/
import Derived.Test.YtmakkmcjocjgmaaAd4
import Derived.Test.YtmakkmcjocjgmaaAd1
import Derived.Test.YtmakkmcjocjgmaaAdRow

/- Numbers are split by sizes, and put together. -/
namespace Go.Proofs.Ytmakkmcjocjgmaa.Am
open Go Go.RowKit
set_option maxRecDepth 100000
set_option linter.unusedVariables false
set_option linter.unusedSimpArgs false

theorem fold_next {ss : List Int} {i : Nat} {n : Int} (h : i < ss.length) : Ye ((ss.take i).foldl Ye n) ss[i] = (ss.take (i + 1)).foldl Ye n := by
  rw [← Y0 h, List.foldl_append]; rfl
theorem fold_nn : ∀ {ss : List Int} {n : Int}, 0 ≤ n → (∀ s ∈ ss, 0 ≤ s) → 0 ≤ ss.foldl Ye n
  | [], _, h, _ => h
  | s :: ss, n, h, hs => fold_nn (ss := ss) (Vm h (hs s (by simp))).1 fun x hx => hs x (by simp [hx])
theorem product_acc (ss : List Int) (v : Value) (H : Hp) (hs : Sl (Yv .u64) H v ss) (hl : ss.length ≤ 1000000) (h0 : ∀ s ∈ ss, 0 ≤ s) :
    ACalls Try.prog 17 #[v] H (fun r H' => r = .int .u64 (Zx ss) ∧ H' = H) := by
  obtain ⟨A, c, rfl⟩ := hs.shape
  refine Xs Try.func17 rfl rfl rfl (by simp) ?_
  refine Xd ?_
  refine Xb (by kernel_rfl) ?_
  refine Xa (Xf rfl) ?_
  refine Xd ?_
  refine Xb (by kernel_rfl) ?_
  refine Xa (Xf rfl) ?_
  refine Xd ?_
  refine Xd ?_
  refine Xb (by kernel_rfl) ?_
  refine Xa (Xt rfl) ?_
  refine Xa (Ym rfl Try.underlying23) ?_
  refine Xa (Xc rfl) ?_
  refine Ya ?_
  refine Y4 (fun n t H' => ∃ (i : Nat) (D : Option Addr), n = ss.length - i ∧ i ≤ ss.length ∧ H' = H ∧ Sl (Yv .u64) H (.slice D ss.length c) ss ∧ t 3 = .int .u64 ((ss.take i).foldl Ye 1) ∧ t 6 = .slice D ss.length c ∧ t 7 = .int .i64 ss.length ∧ t 8 = .int .i64 i) (ss.length) (⟨0, _, rfl, Nat.zero_le _, rfl, hs, rfl, rfl, rfl, rfl⟩) ?_
  rintro n t H ⟨i, D, rfl, hi, rfl, hs, e3, e6, e7, e8⟩
  refine Xd ?_
  refine Xb (by kernel_rfl) ?_
  refine Xa (Zg Xl Xl) ?_
  refine Xd ?_
  refine X5 rfl rfl ?_ ?_
  intro hc1
  have hil : i < ss.length := by have := of_decide_eq_true hc1; omega
  obtain ⟨b, o, eD, hb, hcell⟩ := hs.int_at (i := (i : Int)) (by omega) (by omega)
  rw [Int.toNat_natCast, Y5 hil] at hcell
  subst eD
  have hnx := fold_next (n := 1) hil
  refine X9 ?_
  refine Xd ?_
  refine Ya ?_
  refine Xd ?_
  refine Xb (by kernel_rfl) ?_
  refine Xa (Xr Xl Xl Try.underlying23 inf22.size X7 X7) ?_
  refine Xa (Xi rfl Try.underlying22 rfl Xq) ?_
  refine Xa (Xf rfl) ?_
  refine Xb (by kernel_rfl) ?_
  refine Xa (Xc Xl) ?_
  refine Xa (Xc rfl) ?_
  refine X0 (Xy (Vk _ _ (fold_nn (by decide) fun s h => h0 s (List.mem_of_mem_take h)) (h0 _ (List.getElem_mem hil)) _) rfl Try.func28 rfl rfl rfl ?_)
  rintro v14 H ⟨rfl, rfl⟩; rw [hnx]
  refine Xa (Xf rfl) ?_
  refine Xb (by kernel_rfl) ?_
  refine Xa (Yf Xl Xl Yw) ?_
  refine Xa (Xc rfl) ?_
  exact ⟨ss.length - (i + 1), by omega, i + 1, _, rfl, by omega, rfl, hs, rfl, e6, e7, rfl⟩
  intro hc1
  have hil : i = ss.length := by have := of_decide_eq_false hc1; omega
  rw [hil, List.take_length] at e3
  refine Y1 ?_
  refine Xd ?_
  refine Xb (by kernel_rfl) ?_
  refine Xa (Xc Xl) ?_
  refine Xa (Xf rfl) ?_
  refine X8 ?_
  exact ⟨_, X1 (Xw rfl), rfl, rfl⟩
theorem Product_ref (ss : List Int) (v : Value) (H : Hp) (hs : Sl (Yv .u64) H v ss) (hl : ss.length ≤ 1000000) (h0 : ∀ s ∈ ss, 0 ≤ s) :
    ACalls Try.prog 8 #[v] H (fun r H' => r = .int .u64 (Zx ss) ∧ H' = H) := by
  obtain ⟨A, c, rfl⟩ := hs.shape
  refine Xs Try.func8 rfl rfl rfl (by simp) ?_
  refine Xd ?_
  refine Xb (by kernel_rfl) ?_
  refine Xa (Xf rfl) ?_
  refine Xd ?_
  refine Xb (by kernel_rfl) ?_
  refine Xa (Xf rfl) ?_
  refine Xd ?_
  refine Xd ?_
  refine Xb (by kernel_rfl) ?_
  refine Xa (Xf rfl) ?_
  refine Ya ?_
  refine Y4 (fun n t H' => ∃ (i : Nat) (D : Option Addr), n = ss.length - i ∧ i ≤ ss.length ∧ H' = H ∧ Sl (Yv .u64) H (.slice D ss.length c) ss ∧ t 0 = .slice D ss.length c ∧ t 3 = .int .u64 ((ss.take i).foldl Ye 1) ∧ t 4 = .int .i64 i) (ss.length) (⟨0, _, rfl, Nat.zero_le _, rfl, hs, rfl, rfl, rfl⟩) ?_
  rintro n t H ⟨i, D, rfl, hi, rfl, hs, e0, e3, e4⟩
  refine Xd ?_
  refine Xd ?_
  refine Xb (by kernel_rfl) ?_
  refine Xa (Xc Xl) ?_
  refine Xa (Xt Xl) ?_
  refine Xa (Ym rfl Try.underlying23) ?_
  refine Xa (Zg rfl rfl) ?_
  refine X5 rfl rfl ?_ ?_
  intro hc1
  have hil : i < ss.length := by have := of_decide_eq_true hc1; omega
  obtain ⟨b, o, eD, hb, hcell⟩ := hs.int_at (i := (i : Int)) (by omega) (by omega)
  rw [Int.toNat_natCast, Y5 hil] at hcell
  subst eD
  have hnx := fold_next (n := 1) hil
  refine X9 ?_
  refine Xd ?_
  refine Ya ?_
  refine Xb (by kernel_rfl) ?_
  refine Xa (Xc Xl) ?_
  refine Xa (Xt Xl) ?_
  refine Xa (Xc Xl) ?_
  refine Xa (Xr rfl rfl Try.underlying23 inf22.size X7 X7) ?_
  refine Xa (Xi rfl Try.underlying22 rfl Xq) ?_
  refine X0 (Xy (timesR_u64 _ _ (fold_nn (by decide) fun s h => h0 s (List.mem_of_mem_take h)) (h0 _ (List.getElem_mem hil)) _) rfl Try.func18 rfl rfl rfl ?_)
  rintro v16 H ⟨rfl, rfl⟩; rw [hnx]
  refine Xa (Xf rfl) ?_
  refine Xb (by kernel_rfl) ?_
  refine Xa (Xc Xl) ?_
  refine Xa (Yf rfl rfl Yw) ?_
  refine Xa (Xf rfl) ?_
  exact ⟨ss.length - (i + 1), by omega, i + 1, _, rfl, by omega, rfl, hs, e0, rfl, rfl⟩
  intro hc1
  have hil : i = ss.length := by have := of_decide_eq_false hc1; omega
  rw [hil, List.take_length] at e3
  refine Y1 ?_
  refine Xd ?_
  refine Xb (by kernel_rfl) ?_
  refine Xa (Xc Xl) ?_
  refine Xa (Xf rfl) ?_
  refine X8 ?_
  exact ⟨_, X1 (Xw rfl), rfl, rfl⟩
theorem av_rem_is {P : Program} {t : Fr} {H : Hp} {d : Option Tmp} {ty : TypeId} {pos : String} {after : Array Edge} {guard : Option (Nat × Bool)} {x y : Operand} {xt yt : TypeId} {k : IntKind} {a b v : Int} (hv : a.tmod b = v) (hx : t.eval x = .int k a) (hy : t.eval y = .int k b) (h0 : b ≠ 0) : AVal P ⟨d, .binOp .rem xt x y yt, ty, pos, after, guard⟩ t [] H (.int k v) := by
  subst hv; exact av_rem hx hy h0
theorem av_quo_is {P : Program} {t : Fr} {H : Hp} {d : Option Tmp} {ty : TypeId} {pos : String} {after : Array Edge} {guard : Option (Nat × Bool)} {x y : Operand} {xt yt : TypeId} {k : IntKind} {a b v : Int} (hv : k.wrap (a.tdiv b) = v) (hx : t.eval x = .int k a) (hy : t.eval y = .int k b) (h0 : b ≠ 0) : AVal P ⟨d, .binOp .quo xt x y yt, ty, pos, after, guard⟩ t [] H (.int k v) := by
  subst hv; exact av_quo hx hy h0
theorem av_muln_is {P : Program} {t : Fr} {H : Hp} {d : Option Tmp} {ty : TypeId} {pos : String} {after : Array Edge} {guard : Option (Nat × Bool)} {x y : Operand} {xt yt : TypeId} {k : IntKind} {a b v : Int} (hv : k.wrap (a * b) = v) (hx : t.eval x = .int k a) (hy : t.eval y = .int k b) : AVal P ⟨d, .binOp .mul xt x y yt, ty, pos, after, guard⟩ t [] H (.int k v) := by
  subst hv; exact av_mul hx hy
def outL (ss : List Int) (k : Int) (m : Nat) : List Value := (List.replicate m (0 : Int) ++ (Zq (ss.drop m) k).2).map (Value.int .u64)
theorem outL_len (ss : List Int) (k : Int) {m : Nat} (h : m ≤ ss.length) : (outL ss k m).length = ss.length := by
  unfold outL
  rw [List.length_map, List.length_append, List.length_replicate, peel_len, List.length_drop]; omega
theorem outL_step (ss : List Int) (k : Int) {m : Nat} (h : m < ss.length) : (outL ss k (m + 1)).set m (.int .u64 ((Zq (ss.drop (m + 1)) k).1 % ss[m])) = outL ss k m := by
  unfold outL
  have e : ss.drop m = ss[m] :: ss.drop (m + 1) := List.drop_eq_getElem_cons h
  rw [e, Zq]
  rw [List.replicate_succ', List.append_assoc, List.map_append, List.map_append, List.set_append_right _ _ (by simp)]
  simp
theorem outL_zero (ss : List Int) (k : Int) : (List.replicate ss.length [Value.int .u64 0]).flatten = outL ss k ss.length := by
  unfold outL
  rw [List.drop_length, Zq, List.append_nil, List.map_replicate]
  generalize ss.length = n
  induction n with
  | zero => rfl
  | succ n ih => rw [List.replicate_succ, List.flatten_cons, ih, List.replicate_succ]; rfl
set_option maxHeartbeats 1000000 in
theorem Digits_acc (k : Int) (ss : List Int) (v : Value) (H : Hp) (hs : Sl (Yv .u64) H v ss) (hl : ss.length ≤ 1000000) (h0 : ∀ s ∈ ss, 0 ≤ s) (hk : 0 ≤ k) :
    ACalls Try.prog 7 #[.int .u64 k, v] H (fun r H' => H.le H' ∧ ((¬ (Zx ss ≠ 4611686018427387904 ∧ k < Zx ss) ∧ r = .tuple #[.slice none 0 0, .bool false]) ∨ ((Zx ss ≠ 4611686018427387904 ∧ k < Zx ss) ∧ ∃ A c, r = .tuple #[.slice A ss.length c, .bool true] ∧ Sl (Yv .u64) H' (.slice A ss.length c) (Zq ss k).2))) := by
  obtain ⟨A, c, rfl⟩ := hs.shape
  obtain ⟨hpt, hpn⟩ := prodT_is h0
  have hmost : Yu = 4611686018427387904 := rfl
  refine Xs Try.func7 rfl rfl rfl (by simp) ?_
  refine Xd ?_
  refine Xb (by kernel_rfl) ?_
  refine Xa (X2 rfl) ?_
  refine Xa (Xm rfl) ?_
  refine Xd ?_
  refine Xd ?_
  refine Xb (by kernel_rfl) ?_
  refine Xa (Xt rfl) ?_
  refine X0 (Xy (product_acc ss _ _ hs hl h0) rfl Try.func17 rfl rfl rfl ?_)
  rintro v10 H ⟨rfl, rfl⟩
  refine Xa (Xf rfl) ?_
  refine Xd ?_
  refine Xb (by kernel_rfl) ?_
  refine Xa (Xc rfl) ?_
  refine Xa (Z9 rfl rfl) ?_
  refine Xa (Xu rfl) ?_
  refine Yb rfl rfl rfl ?_ ?_
  intro hg1
  have hq : Zx ss = 4611686018427387904 := by have h := hg1; simpa using h
  have hge : ¬ (Zx ss ≠ 4611686018427387904 ∧ k < Zx ss) := fun h => h.1 hq
  refine Xh (Xk rfl rfl rfl hg1 rfl) ?_
  refine Xh (Xk rfl rfl rfl hg1 rfl) ?_
  refine Xh (Xk rfl rfl rfl hg1 rfl) ?_
  refine Xa (Xo (congrArg Value.bool hg1) rfl) ?_
  refine Yp rfl rfl ?_
  refine Xd ?_
  refine Xb (by kernel_rfl) ?_
  refine Xa (X2 rfl) ?_
  refine Xa (Xm rfl) ?_
  refine X8 ?_
  exact ⟨_, Zi (Xw rfl) (Xw rfl), Hp.le_refl _, .inl ⟨hge, rfl⟩⟩
  intro hg1
  have hq : Zx ss ≠ 4611686018427387904 := by have h := hg1; simpa using h
  refine Xn (Xj rfl rfl rfl hg1) (Xc rfl) ?_
  refine Xn (Xj rfl rfl rfl hg1) (Xc rfl) ?_
  refine Xn (Xj rfl rfl rfl hg1) (av_ge rfl rfl) ?_
  refine Xa (Xo (congrArg Value.bool hg1) rfl) ?_
  refine X5 rfl rfl ?_ ?_
  intro hc3
  have hge : ¬ (Zx ss ≠ 4611686018427387904 ∧ k < Zx ss) := by
    have := of_decide_eq_true hc3
    intro h; omega
  refine Xd ?_
  refine Xb (by kernel_rfl) ?_
  refine Xa (X2 rfl) ?_
  refine Xa (Xm rfl) ?_
  refine X8 ?_
  exact ⟨_, Zi (Xw rfl) (Xw rfl), Hp.le_refl _, .inl ⟨hge, rfl⟩⟩
  intro hc3
  have hlt : Zx ss ≠ 4611686018427387904 ∧ k < Zx ss := ⟨hq, by have := of_decide_eq_false hc3; omega⟩
  have hkp : k < V4 ss := by rw [hpt] at hlt; omega
  have hpos : ∀ s ∈ ss, 0 < s := Decidable.byContradiction fun h => by rw [prodI_zero h0 h] at hkp; omega
  have hk64 : k < 18446744073709551616 := by have := hlt.2; rw [hpt] at this; omega
  refine X9 ?_
  refine Xd ?_
  refine Xb (by kernel_rfl) ?_
  refine Xa (Xt rfl) ?_
  refine Xa (Ym rfl Try.underlying23) ?_
  refine X6 (am_makeSlice Try.underlying23 inf22 rfl (by decide) (by decide) rfl rfl (by omega) (by omega) (by omega)) ?_
  refine Xa (X2 rfl) ?_
  refine Xd ?_
  refine Xd ?_
  refine Xb (by kernel_rfl) ?_
  refine Xa (Xt rfl) ?_
  refine Xa (Ym rfl Try.underlying23) ?_
  refine Xa (av_sub64 rfl rfl Yw) ?_
  refine Xa (Xf rfl) ?_
  refine Ya ?_
  refine Y4 (fun n t H' => ∃ (m : Nat) (D : Option Addr), n = m ∧ m ≤ ss.length ∧ H' = H.push (.own 1 (outL ss k m)) ∧ Sl (Yv .u64) H (.slice D ss.length c) ss ∧ t 0 = .int .u64 (Zq (ss.drop m) k).1 ∧ t 1 = .slice D ss.length c ∧ t 7 = .slice (some ⟨H.size, 0, none⟩) ss.length ss.length ∧ t 8 = .int .i64 ((m : Int) - 1)) (ss.length) (⟨ss.length, _, rfl, Nat.le_refl _, by rw [← outL_zero]; rfl, hs, by rw [List.drop_length]; rfl, rfl, rfl, rfl⟩) ?_
  rintro n t H1 ⟨m, D, rfl, hm, hH1, hs, e0, e1, e7, e8⟩
  refine Xd ?_
  refine Xd ?_
  refine Xb (by kernel_rfl) ?_
  refine Xa (Xc Xl) ?_
  refine Xa (av_ge rfl rfl) ?_
  refine X5 rfl rfl ?_ ?_
  intro hc4
  obtain ⟨i, rfl⟩ : ∃ i, n = i + 1 := ⟨n - 1, by have := of_decide_eq_true hc4; omega⟩
  rw [show (((i + 1 : Nat) : Int) - 1) = (i : Int) by omega] at e8
  have hil : i < ss.length := by omega
  have hsi := hpos _ (List.getElem_mem hil)
  have leH1 : H.le H1 := by rw [hH1]; exact H.le_push _
  have g1 : H1.get H.size = .own 1 (outL ss k (i + 1)) := by rw [hH1]; exact Hp.push_new _ _
  have hol := outL_len ss k (m := i + 1) (by omega)
  obtain ⟨b, o, eD, hb, hcell⟩ := (hs.mono leH1.sees).int_at (i := (i : Int)) (by omega) (by omega)
  rw [Int.toNat_natCast, Y5 hil] at hcell
  have hbH : b < H.size := by
    obtain ⟨b', o', eD', hb', _⟩ := hs.int_at (i := (i : Int)) (by omega) (by omega)
    rw [eD] at eD'
    simp only [Option.some.injEq, Addr.mk.injEq, and_true] at eD'
    rw [eD'.1]; exact hb'
  subst eD
  have hpe := peel_le (ss := ss.drop (i + 1)) (fun s h => hpos s (List.mem_of_mem_drop h)) hk
  have hrem : (Zq (ss.drop (i + 1)) k).1.tmod ss[i] = (Zq (ss.drop (i + 1)) k).1 % ss[i] := Int.tmod_eq_emod_of_nonneg hpe.1
  have hquo : IntKind.u64.wrap ((Zq (ss.drop (i + 1)) k).1.tdiv ss[i]) = (Zq (ss.drop i) k).1 := by
    rw [List.drop_eq_getElem_cons hil, Zq, Int.tdiv_eq_ediv_of_nonneg hpe.1]
    exact wrap_u64a (Int.ediv_nonneg hpe.1 (by omega)) (by have := Int.ediv_le_self ss[i] hpe.1; omega)
  have hst := outL_step ss k hil
  have z1 : H1.size = H.size + 1 := by rw [hH1]; simp
  refine X9 ?_
  refine Xd ?_
  refine Ya ?_
  refine Yx (by kernel_rfl) (Y7 (B := [0, 0, 0, 0, 0, 24, 56, 124, 0, 0, 0, 1536, 3584, 7936, 7935, 24319, 65535]) (π := [0, 1, 2, 3, 4, 5, 6, 7, 8, 9, 10, 11, 12, 13, 14, 15, 16]) (by kernel_rfl)) ?_
  refine Xe rfl rfl (Xt Xl) Xp ?_
  refine Xe rfl rfl (Xc Xl) Xp ?_
  refine Xe rfl rfl (Xc Xl) Xp ?_
  refine Xe rfl rfl (Xt Xl) Xp ?_
  refine Xe rfl rfl (Xc Xl) Xp ?_
  refine Xe rfl rfl (Xr rfl rfl Try.underlying23 inf22.size X7 X7) Xp ?_
  refine Xe rfl rfl (Xi rfl Try.underlying22 rfl Xq) Xp ?_
  refine Xe rfl rfl (av_rem_is hrem rfl rfl (by omega)) Xp ?_
  refine Xe rfl rfl (Xc Xl) Xp ?_
  refine Xe rfl rfl (Xt Xl) Xp ?_
  refine Xe rfl rfl (Xc Xl) Xp ?_
  refine Xe rfl rfl (Xr rfl rfl Try.underlying23 inf22.size X7 X7) Xp ?_
  refine Xe rfl rfl (Xi rfl Try.underlying22 rfl Xq) Xp ?_
  refine Xe rfl rfl (av_quo_is hquo rfl rfl (by omega)) Xp ?_
  refine Xe rfl rfl (Xr rfl rfl Try.underlying23 inf22.size X7 X7) Xp ?_
  refine Yj rfl rfl (Zb (u := .int .u64 ((Zq (ss.drop (i + 1)) k).1 % ss[i])) (cs' := outL ss k i) rfl rfl rfl inf22.size g1 (by simp <;> omega) (by simpa using hst) ?_)
  refine ⟨Yg, ?_⟩
  refine Xe rfl rfl (Xf rfl) Xp ?_
  refine Xb (by kernel_rfl) ?_
  refine Xa (Xc Xl) ?_
  refine Xa (av_sub64 rfl rfl Yw) ?_
  refine Xa (Xf rfl) ?_
  refine ⟨i, by omega, i, _, rfl, by omega, ?_, hs, rfl, e1, e7, rfl⟩
  rw [hH1, Hp.push_put]
  intro hc4
  obtain rfl : n = 0 := by have := of_decide_eq_false hc4; omega
  refine Y1 ?_
  refine Xd ?_
  refine Xb (by kernel_rfl) ?_
  refine Xa (Xt Xl) ?_
  refine Xa (X2 rfl) ?_
  refine Xa (Xm rfl) ?_
  refine X8 ?_
  rw [List.drop_zero] at e0
  exact ⟨_, Zi (Xw rfl) (Xw rfl), by rw [hH1]; exact H.le_push _, .inr ⟨hlt, _, _, rfl, by
    rw [hH1]
    have e : outL ss k 0 = ((Zq ss k).2).map (Value.int .u64) := by unfold outL; simp
    rw [e]
    have hpl := peel_len ss k
    rw [← hpl]
    exact sl_ints (by simp) (Hp.push_new _ _)⟩⟩
theorem valW_snoc : ∀ {ss ds : List Int} {a s d : Int}, ds.length = ss.length → valW a (ss ++ [s]) (ds ++ [d]) = IntKind.u64.wrap (IntKind.u64.wrap (valW a ss ds * s) + d)
  | [], [], _, _, _, _ => rfl
  | [], _ :: _, _, _, _, h => by simp at h
  | _ :: _, [], _, _, _, h => by simp at h
  | s0 :: ss, d0 :: ds, a, s, d, h => by
    simp only [List.length_cons, Nat.add_right_cancel_iff] at h
    rw [List.cons_append, List.cons_append, valW, valW, valW_snoc h]
structure GoodD (ds ss : List Int) : Prop where
  len : ds.length = ss.length
  few : Zx ss ≠ 4611686018427387904
  lt : ∀ i (h : i < ds.length) (h' : i < ss.length), ds[i] < ss[i]
set_option maxHeartbeats 1000000 in
theorem Number_acc (ds ss : List Int) (v u : Value) (H : Hp) (hd : Sl (Yv .u64) H v ds) (hs : Sl (Yv .u64) H u ss) (hdl : ds.length ≤ 1000000) (hl : ss.length ≤ 1000000) (h0 : ∀ s ∈ ss, 0 ≤ s) :
    ACalls Try.prog 10 #[v, u] H (fun r H' => H' = H ∧ ((¬ GoodD ds ss ∧ r = .tuple #[.int .u64 0, .bool false]) ∨ (GoodD ds ss ∧ r = .tuple #[.int .u64 (valW 0 ss ds), .bool true]))) := by
  obtain ⟨A, c, rfl⟩ := hd.shape
  obtain ⟨B, c2, rfl⟩ := hs.shape
  refine Xs Try.func10 rfl rfl rfl (by simp) ?_
  refine Xd ?_
  refine Xb (by kernel_rfl) ?_
  refine Xa (Xf rfl) ?_
  refine Xa (Xm rfl) ?_
  refine Xd ?_
  refine Xd ?_
  refine Xb (by kernel_rfl) ?_
  refine Xa (Xt rfl) ?_
  refine Xa (Ym rfl Try.underlying23) ?_
  refine Xa (Xt rfl) ?_
  refine Xa (Ym rfl Try.underlying23) ?_
  refine Xa (Vr rfl rfl) ?_
  refine Xa (Xu rfl) ?_
  refine Yb rfl rfl rfl ?_ ?_
  intro hg1
  have hne : ds.length ≠ ss.length := by have := of_decide_eq_true hg1; omega
  have hbad : ¬ GoodD ds ss := fun h => hne h.len
  refine Xh (Xk rfl rfl rfl hg1 rfl) ?_
  refine Xh (Xk rfl rfl rfl hg1 rfl) ?_
  refine Xh (Xk rfl rfl rfl hg1 rfl) ?_
  refine Xa (Xo (congrArg Value.bool hg1) rfl) ?_
  refine Yp rfl rfl ?_
  refine Xd ?_
  refine Xb (by kernel_rfl) ?_
  refine Xa (Xf rfl) ?_
  refine Xa (Xm rfl) ?_
  refine X8 ?_
  exact ⟨_, Zi (Xw rfl) (Xw rfl), rfl, .inl ⟨hbad, rfl⟩⟩
  intro hg1
  have hlen : ds.length = ss.length := by have := of_decide_eq_false hg1; omega
  refine Xn (Xj rfl rfl rfl hg1) (Xt rfl) ?_
  refine Vb (Xj rfl rfl rfl hg1) (Xy (product_acc ss _ _ hs hl h0) rfl Try.func17 rfl rfl rfl ?_)
  rintro v16 H ⟨rfl, rfl⟩
  refine Xn (Xj rfl rfl rfl hg1) (Z9 rfl rfl) ?_
  refine Xa (Xo (congrArg Value.bool hg1) rfl) ?_
  refine X5 rfl rfl ?_ ?_
  intro hc3
  have hbad : ¬ GoodD ds ss := fun h => h.few (of_decide_eq_true hc3)
  refine Xd ?_
  refine Xb (by kernel_rfl) ?_
  refine Xa (Xf rfl) ?_
  refine Xa (Xm rfl) ?_
  refine X8 ?_
  exact ⟨_, Zi (Xw rfl) (Xw rfl), rfl, .inl ⟨hbad, rfl⟩⟩
  intro hc3
  have hfew : Zx ss ≠ 4611686018427387904 := of_decide_eq_false hc3
  refine X9 ?_
  refine Xd ?_
  refine Xb (by kernel_rfl) ?_
  refine Xa (Xf rfl) ?_
  refine Xd ?_
  refine Xd ?_
  refine Xb (by kernel_rfl) ?_
  refine Xa (Xt rfl) ?_
  refine Xa (Ym rfl Try.underlying23) ?_
  refine Xa (Xc rfl) ?_
  refine Ya ?_
  refine Y4 (fun n t H' => ∃ (i : Nat) (D E : Option Addr), n = ds.length - i ∧ i ≤ ds.length ∧ H' = H ∧ Sl (Yv .u64) H (.slice D ds.length c) ds ∧ Sl (Yv .u64) H (.slice E ss.length c2) ss ∧ (∀ j (h : j < ds.length) (h' : j < ss.length), j < i → ds[j] < ss[j]) ∧ t 1 = .slice E ss.length c2 ∧ t 6 = .int .u64 (valW 0 (ss.take i) (ds.take i)) ∧ t 19 = .slice D ds.length c ∧ t 20 = .int .i64 ds.length ∧ t 21 = .int .i64 i) (ds.length) (⟨0, _, _, rfl, Nat.zero_le _, rfl, hd, hs, fun j h h' h2 => by omega, rfl, rfl, rfl, rfl, rfl⟩) ?_
  rintro n t H ⟨i, D, E, rfl, hi, rfl, hd, hs, hlt, e1, e6, e19, e20, e21⟩
  refine Xd ?_
  refine Xb (by kernel_rfl) ?_
  refine Xa (Zg Xl Xl) ?_
  refine Xd ?_
  refine X5 rfl rfl ?_ ?_
  intro hc4
  have hil : i < ds.length := by have := of_decide_eq_true hc4; omega
  have his : i < ss.length := by omega
  obtain ⟨b, o, eD, hb, hcell⟩ := hd.int_at (i := (i : Int)) (by omega) (by omega)
  rw [Int.toNat_natCast, Y5 hil] at hcell
  subst eD
  obtain ⟨b2, o2, eE, hb2, hcell2⟩ := hs.int_at (i := (i : Int)) (by omega) (by omega)
  rw [Int.toNat_natCast, Y5 his] at hcell2
  subst eE
  have hnx := valW_snoc (ss := ss.take i) (ds := ds.take i) (a := 0) (s := ss[i]) (d := ds[i]) (by rw [List.length_take, List.length_take]; omega)
  rw [Y0 hil, Y0 his] at hnx
  refine X9 ?_
  refine Xd ?_
  refine Ya ?_
  refine Xd ?_
  refine Xb (by kernel_rfl) ?_
  refine Xa (Xc Xl) ?_
  refine Xa (Xr Xl Xl Try.underlying23 inf22.size X7 X7) ?_
  refine Xa (Xi rfl Try.underlying22 rfl Xq) ?_
  refine Xa (Xf rfl) ?_
  refine Xa (Xf rfl) ?_
  refine Xd ?_
  refine Xd ?_
  refine Xb (by kernel_rfl) ?_
  refine Xa (Xc rfl) ?_
  refine Xa (Xt Xl) ?_
  refine Xa (Xc rfl) ?_
  refine Xa (Xr rfl rfl Try.underlying23 inf22.size X7 X7) ?_
  refine Xa (Xi rfl Try.underlying22 rfl Xq) ?_
  refine Xa (av_ge rfl rfl) ?_
  refine X5 rfl rfl ?_ ?_
  intro hc5
  have hbad : ¬ GoodD ds ss := fun h => by have h1 := of_decide_eq_true hc5; have h2 := h.lt i hil his; omega
  refine Xd ?_
  refine Xb (by kernel_rfl) ?_
  refine Xa (Xf rfl) ?_
  refine Xa (Xm rfl) ?_
  refine X8 ?_
  exact ⟨_, Zi (Xw rfl) (Xw rfl), rfl, .inl ⟨hbad, rfl⟩⟩
  intro hc5
  have hok : ds[i] < ss[i] := by have := of_decide_eq_false hc5; omega
  refine X9 ?_
  refine Xb (by kernel_rfl) ?_
  refine Xa (Xc Xl) ?_
  refine Xa (Xt Xl) ?_
  refine Xa (Xc rfl) ?_
  refine Xa (Xr rfl rfl Try.underlying23 inf22.size X7 X7) ?_
  refine Xa (Xi rfl Try.underlying22 rfl Xq) ?_
  refine Xa (av_mul rfl rfl) ?_
  refine Xa (Xc rfl) ?_
  refine Xa (av_add rfl rfl) ?_
  refine Xa (Xf rfl) ?_
  refine Xb (by kernel_rfl) ?_
  refine Xa (Yf Xl Xl Yw) ?_
  refine Xa (Xc rfl) ?_
  exact ⟨ds.length - (i + 1), by omega, i + 1, _, _, rfl, by omega, rfl, hd, hs, fun j h h' h2 => by
    by_cases hj : j = i
    · subst hj; exact hok
    · exact hlt j h h' (by omega), e1, congrArg (Value.int .u64) hnx.symm, e19, e20, rfl⟩
  intro hc4
  have hil : i = ds.length := by have := of_decide_eq_false hc4; omega
  rw [List.take_of_length_le (by omega), List.take_of_length_le (by omega)] at e6
  refine Y1 ?_
  refine Xd ?_
  refine Xb (by kernel_rfl) ?_
  refine Xa (Xc Xl) ?_
  refine Xa (Xf rfl) ?_
  refine Xa (Xm rfl) ?_
  refine X8 ?_
  exact ⟨_, Zi (Xw rfl) (Xw rfl), rfl, .inr ⟨⟨hlen, hfew, fun j h h' => hlt j h h' (by omega)⟩, rfl⟩⟩
end Go.Proofs.Ytmakkmcjocjgmaa.Am


/- The small living call of the statements on access; what is told of no counts. -/
namespace Go.Proofs.Ytmakkmcjocjgmaa.Am
open Go Go.RowKit
set_option maxRecDepth 100000
set_option linter.unusedVariables false
set_option linter.unusedSimpArgs false

theorem Digits_u (k : Int) (ss : List Int) (v : Value) (H : Hp) (hs : Sl (Yv .u64) H v ss) (hl : ss.length ≤ 1000000) (h0 : ∀ s ∈ ss, 0 ≤ s) (hk : 0 ≤ k) :
    ACalls Try.prog 7 #[.int .u64 k, v] H (fun r H' => H.le H' ∧ ∃ (A : Option Addr) (c : Nat) (ok : Bool) (D : List Int), r = .tuple #[.slice A D.length c, .bool ok] ∧ Sl (Yv .u64) H' (.slice A D.length c) D ∧ ((ok = false ∧ ¬ (Zx ss ≠ 4611686018427387904 ∧ k < Zx ss) ∧ D = []) ∨ (ok = true ∧ (Zx ss ≠ 4611686018427387904 ∧ k < Zx ss) ∧ D = (Zq ss k).2))) :=
  (Digits_acc k ss v H hs hl h0 hk).mono fun r H' ⟨hle, hr⟩ => by
    refine ⟨hle, ?_⟩
    rcases hr with ⟨h1, rfl⟩ | ⟨h1, A, c, rfl, sl⟩
    · exact ⟨none, 0, false, [], rfl, Sl.nil _ _, .inl ⟨rfl, h1, rfl⟩⟩
    · have hpl := peel_len ss k
      rw [← hpl] at sl ⊢
      exact ⟨A, c, true, _, rfl, sl, .inr ⟨rfl, h1, rfl⟩⟩
theorem Number_u (ds ss : List Int) (v u : Value) (H : Hp) (hd : Sl (Yv .u64) H v ds) (hs : Sl (Yv .u64) H u ss) (hdl : ds.length ≤ 1000000) (hl : ss.length ≤ 1000000) (h0 : ∀ s ∈ ss, 0 ≤ s) :
    ACalls Try.prog 10 #[v, u] H (fun r H' => (∃ (x : Int) (ok : Bool), r = .tuple #[.int .u64 x, .bool ok] ∧ ((ok = false ∧ ¬ GoodD ds ss ∧ x = 0) ∨ (ok = true ∧ GoodD ds ss ∧ x = valW 0 ss ds))) ∧ H' = H) :=
  (Number_acc ds ss v u H hd hs hdl hl h0).mono fun r H' ⟨hle, hr⟩ => by
    refine ⟨?_, hle⟩
    rcases hr with ⟨h1, rfl⟩ | ⟨h1, rfl⟩
    · exact ⟨0, false, rfl, .inl ⟨rfl, h1, rfl⟩⟩
    · exact ⟨_, true, rfl, .inr ⟨rfl, h1, rfl⟩⟩
def live32 : TreeT := Yt (Zm 2) (V3 (Zm 2) (Zs 2 [2, 3]))
theorem live32_is : live32 = Yt (Zm 2) (Zs 2 [2, 3]) := by
  unfold live32
  rcases apart_of (n := 2) (by decide) (by decide) (sa := 2) (sb := 3) (by decide) (by decide) with ⟨_, _, h⟩ | ⟨h, _⟩
  · rw [h]
  · omega
theorem live32_all : behT live32 [] = 24 := by rw [live32_is]; decide +kernel
theorem live32_seek : seek (extW live32 live32.vars.length [] 1) 13 = some ([1, 0], 1) := by rw [live32_is]; decide +kernel
theorem live32_good : GoodT live32 := apart_goodT (by decide) (by decide) (by decide) (by decide)
theorem live32_few : FewA live32 := apart_fewA (by decide) (by decide) (by decide) (by decide)
theorem live32_reach : Reach live32 := reach_tree (good_apart (by decide) (by decide) (by decide) (by decide)) live32_good
set_option maxHeartbeats 2000000 in
theorem lives32_ok (H : Hp) : ACalls Try.prog 9 #[] H (fun r H' => r = .bool true ∧ H.le H') := by
  refine Xs Try.func9 rfl rfl rfl (by simp) ?_
  refine Xd ?_
  refine Xb (by kernel_rfl) ?_
  refine Xa (Xm rfl) ?_
  refine Xd ?_
  refine Xb (by kernel_rfl) ?_
  first | refine X6 (Yc (r := [.int .u64 _, .int .u64 _]) Try.underlying23 inf22.size inf22.zero rfl (by decide) (by decide) (by decide) rfl) ?_
  refine X0 (Xy (Digits_u 5 [2, 3] (.slice (some ⟨H.size, 0, none⟩) 2 2) _ (sl_two (k := Yv .u64) Yi (by simp) rfl rfl rfl) (by decide) (by decide) (by decide)) rfl Try.func7 rfl rfl rfl ?_)
  rintro v12 H1 ⟨le1, A1, k1, ok1, D1, rfl, slD, hor⟩; obtain ⟨rfl, _, hD1⟩ := hor.resolve_left (fun h => h.2.1 (by decide)); obtain rfl : D1 = [1, 2] := hD1; have leH1 := Hp.le_trans (H.le_push _) le1
  refine Xa (Zp rfl) ?_
  refine Xa (Yr rfl rfl) ?_
  refine Xa (Yr rfl rfl) ?_
  refine Xa (X2 rfl) ?_
  refine Xa (Xm rfl) ?_
  refine Xd ?_
  refine Xb (by kernel_rfl) ?_
  first | refine X6 (Yc (r := [.int .i64 _, .int .i64 _]) Try.underlying33 inf3.size inf3.zero rfl (by decide) (by decide) (by decide) rfl) ?_
  refine X0 (Xy (Apart_ok 2 [2, 3] (.slice (some ⟨H1.size, 0, none⟩) 2 2) _ (sl_two (k := Yv .i64) Yi (by simp) rfl rfl rfl) (by decide) (by decide)) rfl Try.func19 rfl rfl rfl ?_)
  rintro v17 H2 ⟨cs1, ds1, rfl, hf1, hp1, hle2⟩; have hf10 := hf1; have hp10 := hp1; obtain ⟨a0, a1, a2, a3, a4, rfl, hs0, hs1, hs2, hs3, hs4⟩ := hf1; obtain ⟨A0, c0, rfl⟩ := hs0.shape; obtain ⟨B1', c1', rfl⟩ := hs1.shape; obtain ⟨A2, c2, rfl⟩ := hs2.shape; obtain ⟨A3, c3, rfl⟩ := hs3.shape; obtain ⟨A4, c4, rfl⟩ := hs4.shape; obtain ⟨u0, u1, rfl, hn0, hn1⟩ := hp1; obtain ⟨B0, d0, rfl⟩ := hn0.shape; obtain ⟨B1, d1, rfl⟩ := hn1.shape; have hz2 := hle2.1; simp only [Hp.push_size] at hz2; have leH2 := Hp.le_trans leH1 (Hp.le_trans (H1.le_push _) hle2); have le12 := Hp.le_trans (H1.le_push _) hle2
  refine Xa (Zp rfl) ?_
  refine Xa (Yr rfl rfl) ?_
  refine Xa (Yr rfl rfl) ?_
  refine X6 (Y8 (l := [.slice none 0 0, .slice none 0 0, .slice none 0 0, .slice none 0 0, .slice none 0 0]) inf47.zero rfl (by decide)) ?_
  refine X6 (Y8 (l := [.slice none 0 0, .slice none 0 0]) inf50.zero rfl (by decide)) ?_
  refine X0 (Yq (vs := [.slice _ _ _, .slice _ _ _, .slice _ _ _, .slice _ _ _, .slice _ _ _]) rfl rfl inf47.size Yi Yl rfl rfl ?_)
  refine X0 (Yq (vs := [.slice _ _ _, .slice _ _ _]) rfl rfl inf50.size Yi Yl rfl rfl ?_)
  refine Xd ?_
  refine Xb (by kernel_rfl) ?_
  refine Xa (Yn (cs := [.slice _ _ _, .slice _ _ _, .slice _ _ _, .slice _ _ _, .slice _ _ _]) rfl Try.underlying47 rfl inf47.size Yh) ?_
  refine Xa (Yn (cs := [.slice _ _ _, .slice _ _ _]) rfl Try.underlying50 rfl inf50.size Yh) ?_
  refine X0 (Xy (New_good (Zm 2) (Zs 2 [2, 3]) _ _ _ (kForest.mono Zt hf10) (kParts.mono Zt hp10) (small_apart (by decide) (by decide)) (cheap_apart (by decide) (by decide) (by decide)) (good_apart (by decide) (by decide) (by decide) (by decide))) rfl Try.func20 rfl rfl rfl ?_)
  rintro v23 H3 ⟨hle3, tb, rfl, htr⟩; change TreeR H3 _ live32 at htr
  refine Xa (Zp rfl) ?_
  refine Xa (Yr rfl rfl) ?_
  refine Xa (Yr rfl rfl) ?_
  refine Xa (Zd rfl) ?_
  refine Xa (Xf rfl) ?_
  refine Xd ?_
  have le23 : H2.le H3 := Hp.le_trans t_le hle3
  have leH3 : H.le H3 := Hp.le_trans leH2 le23
  have le13 := Hp.le_trans le12 le23
  clear hle3
  refine Xb (by kernel_rfl) ?_
  refine Xa (Xv rfl) ?_
  refine X0 (Xy (New_cnt live32_good live32_few live32_reach _ htr) rfl Try.func21 rfl rfl rfl ?_)
  rintro v28 H4 ⟨hle4, cb, rfl, hc4⟩
  refine X0 (Xy (At_acc live32_good hc4 13 (by decide)) rfl Try.func12 rfl rfl rfl ?_)
  rintro v29 H5 ⟨hle5, hr⟩; obtain ⟨_, ns, left, x, A5, k5, hsk, hrow, hxn, rfl, sl5, _⟩ := hr.resolve_left (fun h => by rw [live32_all] at h; exact absurd h.1 (by decide)); rw [live32_seek] at hsk; obtain ⟨rfl, rfl⟩ : [1, 0] = ns ∧ 1 = left := (by injection hsk with h; injection h with h1 h2; exact ⟨h1, h2⟩); obtain ⟨xn, xc, xm⟩ := x; obtain rfl : xn = [1, 0] := hxn; change Sl (Yv .i64) H5 (.slice A5 ([1, 0] : List Int).length k5) [1, 0] at sl5; have leH5 := Hp.le_trans leH3 (Hp.le_trans hle4 hle5); have le15 := Hp.le_trans le13 (Hp.le_trans hle4 hle5)
  refine Xa (Zp rfl) ?_
  refine Xa (Yr rfl rfl) ?_
  refine Xa (Yr rfl rfl) ?_
  refine Xa (Yr rfl rfl) ?_
  refine X6 (Y8 (l := [.slice none 0 0, .int .i64 0, .int .u64 0]) inf35.zero rfl (by decide)) ?_
  refine X0 (Yq (vs := [.slice _ _ _, .int .i64 _, .int .u64 _]) rfl rfl inf35.size Yi Yl rfl rfl ?_)
  refine Xa (Xf rfl) ?_
  refine Xa (Xm rfl) ?_
  refine Xd ?_
  obtain ⟨H6, hH6⟩ : ∃ H6, H6 = (H5.push (.own 0 [.slice none 0 0, .int .i64 0, .int .u64 0])).put H5.size (.own 0 [.slice A5 ([1, 0] : List Int).length k5, .int .i64 xc, .int .u64 xm]) := ⟨_, rfl⟩
  have le56 : H5.le H6 := by rw [hH6]; exact Hp.le_put_new (H5.le_push _) (Nat.le_refl _) _
  have g6 : H6.get H5.size = .own 0 [.slice A5 ([1, 0] : List Int).length k5, .int .i64 xc, .int .u64 xm] := by rw [hH6]; exact Hp.put_same _ _ _
  have z6 : H6.size = H5.size + 1 := by rw [hH6]; simp
  change ACode true _ _ _ _ _ ((H5.push (.own 0 [.slice none 0 0, .int .i64 0, .int .u64 0])).put H5.size (.own 0 [.slice A5 ([1, 0] : List Int).length k5, .int .i64 xc, .int .u64 xm]))
  rw [← hH6]
  clear hH6
  have sl6 := (sl5.mono le56.sees).mono (H6.le_push (.own 1 [.int .u64 1, .int .u64 2])).sees
  have slD6 := (slD.mono (Hp.le_trans le15 le56).sees).mono (H6.le_push (.own 1 [.int .u64 1, .int .u64 2])).sees
  obtain ⟨bR, oR, eR, hbR, hcR⟩ := sl6.int_at (i := 0) (by decide) (by decide)
  obtain ⟨bR2, oR2, eR2, hbR2, hcR2⟩ := sl6.int_at (i := 1) (by decide) (by decide)
  subst eR
  simp only [Option.some.injEq, Addr.mk.injEq, and_true] at eR2
  obtain ⟨rfl, rfl⟩ := eR2
  have g7 := (Hp.push_old H6 (.own 1 [.int .u64 1, .int .u64 2]) (show H5.size < H6.size by omega)).trans g6
  refine Xb (by kernel_rfl) ?_
  refine Xa (Xu rfl) ?_
  refine Xa (Xu rfl) ?_
  refine Yb rfl rfl rfl ?_ ?_
  intro hg1
  have hp1 := hg1; try simp only [decide_eq_true_eq, decide_eq_false_iff_not, Bool.not_eq_true', Bool.not_eq_false'] at hp1
  refine Xn (Xj rfl rfl rfl hg1) (Xt rfl) ?_
  first | refine Vb (Xj rfl rfl rfl hg1) (.make (Yc (r := [.int .u64 _, .int .u64 _]) Try.underlying23 inf22.size inf22.zero rfl (by decide) (by decide) (by decide) rfl) ?_)
  refine Vb (Xj rfl rfl rfl hg1) (Xy (SameU_u64 [1, 2] [1, 2] _ (.slice (some ⟨H6.size, 0, none⟩) 2 2) _ slD6 (sl_two (k := Yv .u64) Yi (by simp) rfl rfl rfl) (by decide)) rfl Try.func11 rfl rfl rfl ?_)
  rintro v37 H7 ⟨rfl, hH7⟩; subst hH7
  refine Xa (Xo (congrArg Value.bool hg1) rfl) ?_
  refine Xa (Xu rfl) ?_
  refine Yb rfl rfl rfl ?_ ?_
  intro hg2
  have hp2 := hg2; try simp only [decide_eq_true_eq, decide_eq_false_iff_not, Bool.not_eq_true', Bool.not_eq_false'] at hp2
  refine Xn (Xj rfl rfl rfl hg2) (Xc rfl) ?_
  refine Xn (Xj rfl rfl rfl hg2) (Z9 rfl rfl) ?_
  refine Xa (Xo (congrArg Value.bool hg2) rfl) ?_
  refine Xa (Xu rfl) ?_
  refine Yb rfl rfl rfl ?_ ?_
  intro hg3
  have hp3 := hg3; try simp only [decide_eq_true_eq, decide_eq_false_iff_not, Bool.not_eq_true', Bool.not_eq_false'] at hp3
  refine Xn (Xj rfl rfl rfl hg3) (Xu rfl) ?_
  refine Xa (Xo (congrArg Value.bool hg3) rfl) ?_
  refine Xa (Xu rfl) ?_
  refine Yb rfl rfl rfl ?_ ?_
  intro hg4
  have hp4 := hg4; try simp only [decide_eq_true_eq, decide_eq_false_iff_not, Bool.not_eq_true', Bool.not_eq_false'] at hp4
  refine Xn (Xj rfl rfl rfl hg4) (Xc rfl) ?_
  refine Xn (Xj rfl rfl rfl hg4) (Z9 rfl rfl) ?_
  refine Xa (Xo (congrArg Value.bool hg4) rfl) ?_
  refine Xa (Xu rfl) ?_
  refine Yb rfl rfl rfl ?_ ?_
  intro hg5
  have hp5 := hg5; try simp only [decide_eq_true_eq, decide_eq_false_iff_not, Bool.not_eq_true', Bool.not_eq_false'] at hp5
  refine Xn (Xj rfl rfl rfl hg5) (Xg (off := 0) rfl Try.underlying35 rfl inf33.size (by decide) rfl) ?_
  refine Xn (Xj rfl rfl rfl hg5) (Xi rfl Try.underlying33 rfl Xq) ?_
  refine Xn (Xj rfl rfl rfl hg5) (Ym rfl Try.underlying33) ?_
  refine Xn (Xj rfl rfl rfl hg5) (Z9 rfl rfl) ?_
  refine Xa (Xo (congrArg Value.bool hg5) rfl) ?_
  refine Xa (Xu rfl) ?_
  refine Yb rfl rfl rfl ?_ ?_
  intro hg6
  have hp6 := hg6; try simp only [decide_eq_true_eq, decide_eq_false_iff_not, Bool.not_eq_true', Bool.not_eq_false'] at hp6
  refine Xn (Xj rfl rfl rfl hg6) (Xg (off := 0) rfl Try.underlying35 rfl inf33.size (by decide) rfl) ?_
  refine Xn (Xj rfl rfl rfl hg6) (Xi rfl Try.underlying33 rfl Xq) ?_
  refine Xn (Xj rfl rfl rfl hg6) (Xr rfl rfl Try.underlying33 inf3.size X7 X7) ?_
  refine Xn (Xj rfl rfl rfl hg6) (Xi rfl Try.underlying3 rfl Xq) ?_
  refine Xn (Xj rfl rfl rfl hg6) (Z9 rfl rfl) ?_
  refine Xa (Xo (congrArg Value.bool hg6) rfl) ?_
  refine Xa (Xu rfl) ?_
  refine Yb rfl rfl rfl ?_ ?_
  intro hg7
  have hp7 := hg7; try simp only [decide_eq_true_eq, decide_eq_false_iff_not, Bool.not_eq_true', Bool.not_eq_false'] at hp7
  refine Xn (Xj rfl rfl rfl hg7) (Xg (off := 0) rfl Try.underlying35 rfl inf33.size (by decide) rfl) ?_
  refine Xn (Xj rfl rfl rfl hg7) (Xi rfl Try.underlying33 rfl Xq) ?_
  refine Xn (Xj rfl rfl rfl hg7) (Xr rfl rfl Try.underlying33 inf3.size X7 X7) ?_
  refine Xn (Xj rfl rfl rfl hg7) (Xi rfl Try.underlying3 rfl Xq) ?_
  refine Xn (Xj rfl rfl rfl hg7) (Z9 rfl rfl) ?_
  refine Xa (Xo (congrArg Value.bool hg7) rfl) ?_
  refine Xa (Xm rfl) ?_
  refine X8 ?_
  exact ⟨.bool true, X1 (Xw rfl), rfl, Hp.le_trans (Hp.le_trans leH5 le56) (H6.le_push _)⟩
  intro hg7
  exact absurd hg7 (by decide)
  intro hg6
  exact absurd hg6 (by decide)
  intro hg5
  exact absurd hg5 (by decide)
  intro hg4
  exact absurd hg4 (by decide)
  intro hg3
  exact absurd hg3 (by decide)
  intro hg2
  exact absurd hg2 (by decide)
  intro hg1
  exact absurd hg1 (by decide)
end Go.Proofs.Ytmakkmcjocjgmaa.Am


/- The statements AccessDigits, AccessNumber and AccessNone, as the abstract machine runs them. -/
namespace Go.Proofs.Ytmakkmcjocjgmaa.Am
open Go Go.RowKit
set_option maxRecDepth 100000
set_option linter.unusedVariables false
set_option linter.unusedSimpArgs false

theorem peel_get : ∀ {ss : List Int} {k : Int} {i : Nat} (h : i < ss.length), (Zq ss k).2.getD i 0 = (Zq (ss.drop (i + 1)) k).1 % ss[i]
  | s :: ss, k, 0, _ => by rw [Zq]; rfl
  | s :: ss, k, i + 1, h => by
    simp only [List.length_cons] at h
    rw [Zq, List.getD_cons_succ, peel_get (by omega), List.drop_succ_cons, List.getElem_cons_succ]
theorem valF_of_peel : ∀ {ss : List Int} {k : Int}, valF (Zq ss k).1 ss (Zq ss k).2 = k
  | [], k => rfl
  | s :: ss, k => by
    rw [Zq]
    show valF ((Zq ss k).1 / s * s + (Zq ss k).1 % s) ss (Zq ss k).2 = k
    have h := Int.mul_ediv_add_emod (Zq ss k).1 s
    rw [Int.mul_comm] at h
    rw [h]
    exact valF_of_peel
theorem peel_good {ss : List Int} {k : Int} (h0 : ∀ s ∈ ss, 0 ≤ s) (hk : 0 ≤ k) (h : Zx ss ≠ 4611686018427387904 ∧ k < Zx ss) : (∀ s ∈ ss, 0 < s) ∧ k < V4 ss ∧ k < 4611686018427387904 := by
  obtain ⟨hpt, hpn⟩ := prodT_is h0
  have hmost : Yu = 4611686018427387904 := rfl
  have hkp : k < V4 ss := by rw [hpt] at h; omega
  exact ⟨Decidable.byContradiction fun hn => by rw [prodI_zero h0 hn] at hkp; omega, hkp, by have := h.2; rw [hpt] at this; omega⟩
theorem digit_lt {ss : List Int} {k : Int} (hp : ∀ s ∈ ss, 0 < s) : ∀ i (h : i < (Zq ss k).2.length) (h' : i < ss.length), 0 ≤ (Zq ss k).2[i] ∧ (Zq ss k).2[i] < ss[i] := fun i h h' => by
  have e := peel_get (k := k) h'
  rw [List.getD_eq_getElem?_getD, List.getElem?_eq_getElem h] at e
  have e : (Zq ss k).2[i] = _ := e
  have hs := hp _ (List.getElem_mem h')
  rw [e]
  exact ⟨Int.emod_nonneg _ (by omega), Int.emod_lt_of_pos _ hs⟩
set_option maxHeartbeats 2000000 in
theorem AccessDigits_ok (k : Int) (ss : List Int) (v : Value) (H : Hp) (hs : Sl (Yv .u64) H v ss) (hk : 0 ≤ k) (h0' : ∀ s ∈ ss, 0 ≤ s) (hl : ss.length ≤ 9223372036854775807) :
    ACalls Try.prog 3 #[.int .u64 k, v] H (fun r H' => r = .bool true ∧ H.le H') := by
  obtain ⟨A, c, rfl⟩ := hs.shape
  obtain ⟨S, hS⟩ : ∃ S, S = ss.take 5 := ⟨_, rfl⟩
  have hSl : S.length ≤ 5 := by rw [hS, List.length_take]; omega
  have hSS : S.take 5 = S := List.take_of_length_le hSl
  have h0 : ∀ s ∈ S, 0 ≤ s := fun s h => h0' s (by rw [hS] at h; exact List.mem_of_mem_take h)
  have hpl := peel_len S k
  refine Xs Try.func3 rfl rfl rfl (by simp) ?_
  refine Xd ?_
  refine Xb (by kernel_rfl) ?_
  refine Xa (Xm rfl) ?_
  refine Xd ?_
  refine Xb (by kernel_rfl) ?_
  refine Xa (Xt rfl) ?_
  refine X0 (Xy (Few_u64 ss _ 5 _ hs hl (by decide) (by decide)) rfl Try.func6 rfl rfl rfl ?_)
  rintro v14 H1 ⟨le1, sl1⟩; change Sl (Yv .u64) H1 v14 (ss.take 5) at sl1; rw [← hS] at sl1; obtain ⟨A1, c1', rfl⟩ := sl1.shape
  refine Xa (X2 rfl) ?_
  refine Xd ?_
  refine Xb (by kernel_rfl) ?_
  refine Xa (Xc rfl) ?_
  refine Xa (Xt rfl) ?_
  refine X0 (Xy (Few_u64 S _ 5 _ sl1 (by omega) (by decide) (by decide)) rfl Try.func6 rfl rfl rfl ?_)
  rintro v18 H2 ⟨le2, sl2⟩; change Sl (Yv .u64) H2 v18 (S.take 5) at sl2; rw [hSS] at sl2; have sl12 := sl1.mono le2.sees
  refine X0 (Xy (Digits_u k S _ _ sl2 (by omega) h0 hk) rfl Try.func7 rfl rfl rfl ?_)
  rintro v19 H3 ⟨le3, A3, c3', ok, D, rfl, slD, hor⟩; have sl13 := sl12.mono le3.sees; have leH3 := Hp.le_trans le1 (Hp.le_trans le2 le3)
  refine Xa (Zp rfl) ?_
  refine Xa (Yr rfl rfl) ?_
  refine Xa (Yr rfl rfl) ?_
  refine Xa (X2 rfl) ?_
  refine Xa (Xm rfl) ?_
  refine Xd ?_
  refine Xb (by kernel_rfl) ?_
  refine Xa (Xt rfl) ?_
  refine X0 (Xy (Product_ref S _ _ sl13 (by omega) h0) rfl Try.func8 rfl rfl rfl ?_)
  rintro v23 H3 ⟨rfl, rfl⟩
  refine Xa (Xf rfl) ?_
  refine Xd ?_
  refine Xd ?_
  refine Xb (by kernel_rfl) ?_
  refine Xa (Xc rfl) ?_
  refine Xa (Z9 rfl rfl) ?_
  refine Xa (Xu rfl) ?_
  refine Yb rfl rfl rfl ?_ ?_
  intro hg1
  have hq : Zx S = 4611686018427387904 := by have h := hg1; simpa using h
  have hbad : ¬ (Zx S ≠ 4611686018427387904 ∧ k < Zx S) := fun h => h.1 hq
  obtain ⟨rfl, _, rfl⟩ := hor.resolve_right (fun h => hbad h.2.1)
  refine Xh (Xk rfl rfl rfl hg1 rfl) ?_
  refine Xh (Xk rfl rfl rfl hg1 rfl) ?_
  refine Xh (Xk rfl rfl rfl hg1 rfl) ?_
  refine Xa (Xo (congrArg Value.bool hg1) rfl) ?_
  refine Yp rfl rfl ?_
  refine Xd ?_
  refine Xb (by kernel_rfl) ?_
  refine Xa (Xt rfl) ?_
  refine Xa (Ym rfl Try.underlying23) ?_
  refine Xa (Z9 rfl rfl) ?_
  refine Xa (Xu rfl) ?_
  refine Yb rfl rfl rfl ?_ ?_
  intro hg3
  have hp3 := hg3; try simp only [decide_eq_true_eq, decide_eq_false_iff_not, Bool.not_eq_true', Bool.not_eq_false'] at hp3
  refine Xn (Xj rfl rfl rfl hg3) (Xu rfl) ?_
  refine Xn (Xj rfl rfl rfl hg3) (Vv rfl) ?_
  refine Xa (Xo (congrArg Value.bool hg3) rfl) ?_
  refine Xa (Xu rfl) ?_
  refine Yb rfl rfl rfl ?_ ?_
  intro hg4
  have hp4 := hg4; try simp only [decide_eq_true_eq, decide_eq_false_iff_not, Bool.not_eq_true', Bool.not_eq_false'] at hp4
  refine Vb (Xj rfl rfl rfl hg4) (Xy (lives32_ok _) rfl Try.func9 rfl rfl rfl ?_)
  rintro v H' ⟨rfl, hlv⟩
  refine Xa (Xo (congrArg Value.bool hg4) rfl) ?_
  refine Xa (Xm rfl) ?_
  refine X8 ?_
  exact ⟨.bool true, X1 (Xw rfl), rfl, Hp.le_trans leH3 hlv⟩
  intro hg4
  exact absurd hg4 (by decide)
  intro hg3
  exact absurd hg3 (by decide)
  intro hg1
  have hq : Zx S ≠ 4611686018427387904 := by have h := hg1; simpa using h
  refine Xn (Xj rfl rfl rfl hg1) (Xc rfl) ?_
  refine Xn (Xj rfl rfl rfl hg1) (Xc rfl) ?_
  refine Xn (Xj rfl rfl rfl hg1) (av_ge rfl rfl) ?_
  refine Xa (Xo (congrArg Value.bool hg1) rfl) ?_
  refine X5 rfl rfl ?_ ?_
  intro hc5
  have hbad : ¬ (Zx S ≠ 4611686018427387904 ∧ k < Zx S) := by
    have := of_decide_eq_true hc5
    intro h; omega
  obtain ⟨rfl, _, rfl⟩ := hor.resolve_right (fun h => hbad h.2.1)
  refine Xd ?_
  refine Xb (by kernel_rfl) ?_
  refine Xa (Xt rfl) ?_
  refine Xa (Ym rfl Try.underlying23) ?_
  refine Xa (Z9 rfl rfl) ?_
  refine Xa (Xu rfl) ?_
  refine Yb rfl rfl rfl ?_ ?_
  intro hg6
  have hp6 := hg6; try simp only [decide_eq_true_eq, decide_eq_false_iff_not, Bool.not_eq_true', Bool.not_eq_false'] at hp6
  refine Xn (Xj rfl rfl rfl hg6) (Xu rfl) ?_
  refine Xn (Xj rfl rfl rfl hg6) (Vv rfl) ?_
  refine Xa (Xo (congrArg Value.bool hg6) rfl) ?_
  refine Xa (Xu rfl) ?_
  refine Yb rfl rfl rfl ?_ ?_
  intro hg7
  have hp7 := hg7; try simp only [decide_eq_true_eq, decide_eq_false_iff_not, Bool.not_eq_true', Bool.not_eq_false'] at hp7
  refine Vb (Xj rfl rfl rfl hg7) (Xy (lives32_ok _) rfl Try.func9 rfl rfl rfl ?_)
  rintro v H' ⟨rfl, hlv⟩
  refine Xa (Xo (congrArg Value.bool hg7) rfl) ?_
  refine Xa (Xm rfl) ?_
  refine X8 ?_
  exact ⟨.bool true, X1 (Xw rfl), rfl, Hp.le_trans leH3 hlv⟩
  intro hg7
  exact absurd hg7 (by decide)
  intro hg6
  exact absurd hg6 (by decide)
  intro hc5
  have hgd : Zx S ≠ 4611686018427387904 ∧ k < Zx S := ⟨hq, by have := of_decide_eq_false hc5; omega⟩
  obtain ⟨rfl, _, rfl⟩ := hor.resolve_left (fun h => h.2.1 hgd)
  obtain ⟨hpos, hkp, hkm⟩ := peel_good h0 hk hgd
  rw [hpl] at slD ⊢
  refine X9 ?_
  refine Xd ?_
  refine Xd ?_
  refine Xb (by kernel_rfl) ?_
  refine Xa (Xu rfl) ?_
  refine Xa (Vv rfl) ?_
  refine Xa (Xu rfl) ?_
  refine Yb rfl rfl rfl ?_ ?_
  intro hg8
  exact absurd hg8 (by decide)
  intro hg8
  have hp8 := hg8; try simp only [decide_eq_true_eq, decide_eq_false_iff_not, Bool.not_eq_true', Bool.not_eq_false'] at hp8
  refine Xn (Xj rfl rfl rfl hg8) (Xt rfl) ?_
  refine Xn (Xj rfl rfl rfl hg8) (Ym rfl Try.underlying23) ?_
  refine Xn (Xj rfl rfl rfl hg8) (Xt rfl) ?_
  refine Xn (Xj rfl rfl rfl hg8) (Ym rfl Try.underlying23) ?_
  refine Xn (Xj rfl rfl rfl hg8) (Vr rfl rfl) ?_
  refine Xa (Xo (congrArg Value.bool hg8) rfl) ?_
  refine X5 rfl rfl ?_ ?_
  intro hc9
  exact absurd rfl (of_decide_eq_true hc9)
  intro hc9
  (try simp only [decide_eq_true_eq, decide_eq_false_iff_not, Bool.not_eq_true', Bool.not_eq_false'] at hc9)
  refine X9 ?_
  refine Xd ?_
  refine Xb (by kernel_rfl) ?_
  refine Xa (Xf rfl) ?_
  refine Xd ?_
  refine Xd ?_
  refine Xb (by kernel_rfl) ?_
  refine Xa (Xf rfl) ?_
  refine Ya ?_
  refine Y4 (fun n t H' => ∃ (i : Nat) (D1 D2 : Option Addr), n = S.length - i ∧ i ≤ S.length ∧ H' = H3 ∧ Sl (Yv .u64) H3 (.slice D1 S.length c1') S ∧ Sl (Yv .u64) H3 (.slice D2 S.length c3') (Zq S k).2 ∧ t 0 = .int .u64 k ∧ t 5 = .slice D1 S.length c1' ∧ t 6 = .slice D2 S.length c3' ∧ t 9 = .int .u64 (Zq (S.drop i) k).1 ∧ t 10 = .int .i64 i) (S.length) (⟨0, _, _, rfl, Nat.zero_le _, rfl, sl13, slD, rfl, rfl, rfl, by rw [List.drop_zero, peel_zero hpos hk hkp]; rfl, rfl⟩) ?_
  rintro n t H3 ⟨i, D1, D2, rfl, hi, rfl, sl13, slD, e0, e5, e6, e9, e10⟩
  refine Xd ?_
  refine Xd ?_
  refine Xb (by kernel_rfl) ?_
  refine Xa (Xc Xl) ?_
  refine Xa (Xt Xl) ?_
  refine Xa (Ym rfl Try.underlying23) ?_
  refine Xa (Zg rfl rfl) ?_
  refine X5 rfl rfl ?_ ?_
  intro hc10
  have hil : i < S.length := by have := of_decide_eq_true hc10; omega
  obtain ⟨b, o, eD, hb, hcell⟩ := sl13.int_at (i := (i : Int)) (by omega) (by omega)
  rw [Int.toNat_natCast, Y5 hil] at hcell
  subst eD
  obtain ⟨b2, o2, eD2, hb2, hcell2⟩ := slD.int_at (i := (i : Int)) (by omega) (by omega)
  rw [Int.toNat_natCast, peel_get hil] at hcell2
  subst eD2
  have hsi := hpos _ (List.getElem_mem hil)
  have hd0 := Int.emod_nonneg (Zq (S.drop (i + 1)) k).1 (show S[i] ≠ 0 by omega)
  have hd1 := Int.emod_lt_of_pos (Zq (S.drop (i + 1)) k).1 hsi
  have hnx := peel_next S[i] (S.drop (i + 1)) k
  rw [← List.drop_eq_getElem_cons hil] at hnx
  have hp1 := peel_le (ss := S.drop (i + 1)) (fun s h => hpos s (List.mem_of_mem_drop h)) hk
  have hp2 := peel_le (ss := S.drop i) (fun s h => hpos s (List.mem_of_mem_drop h)) hk
  have hm0 : 0 ≤ (Zq (S.drop i) k).1 * S[i] := Int.mul_nonneg hp2.1 (by omega)
  have hw1 : IntKind.u64.wrap ((Zq (S.drop i) k).1 * S[i]) = (Zq (S.drop i) k).1 * S[i] := wrap_u64a hm0 (by omega)
  have hw2 : IntKind.u64.wrap ((Zq (S.drop i) k).1 * S[i] + (Zq (S.drop (i + 1)) k).1 % S[i]) = (Zq (S.drop (i + 1)) k).1 := by rw [hnx]; exact wrap_u64a hp1.1 (by omega)
  refine X9 ?_
  refine Xd ?_
  refine Ya ?_
  refine Xd ?_
  refine Xd ?_
  refine Yx (by kernel_rfl) (Y7 (B := [0, 0, 3, 7, 0, 0, 48, 112, 255]) (π := [0, 1, 2, 3, 4, 5, 6, 7, 8]) (by kernel_rfl)) ?_
  refine Xe rfl rfl (Xt Xl) Xp ?_
  refine Xe rfl rfl (Xc Xl) Xp ?_
  refine Xe rfl rfl (Xr rfl rfl Try.underlying23 inf22.size X7 X7) Xp ?_
  refine Xe rfl rfl (Xi rfl Try.underlying22 rfl Xq) Xp ?_
  refine Xe rfl rfl (Xt Xl) Xp ?_
  refine Xe rfl rfl (Xc Xl) Xp ?_
  refine Xe rfl rfl (Xr rfl rfl Try.underlying23 inf22.size X7 X7) Xp ?_
  refine Xe rfl rfl (Xi rfl Try.underlying22 rfl Xq) Xp ?_
  refine Xe rfl rfl (av_ge rfl rfl) Xp ?_
  refine X5 rfl rfl ?_ ?_
  intro hc11
  (have h := of_decide_eq_true hc11; exfalso; omega)
  intro hc11
  (try simp only [decide_eq_true_eq, decide_eq_false_iff_not, Bool.not_eq_true', Bool.not_eq_false'] at hc11)
  refine X9 ?_
  refine Yx (by kernel_rfl) (Y7 (B := [0, 0, 0, 6, 14, 31, 0, 0, 192, 448, 1023, 2047]) (π := [0, 1, 2, 3, 4, 5, 6, 7, 8, 9, 10, 11]) (by kernel_rfl)) ?_
  refine Xe rfl rfl (Xc Xl) Xp ?_
  refine Xe rfl rfl (Xt Xl) Xp ?_
  refine Xe rfl rfl (Xc Xl) Xp ?_
  refine Xe rfl rfl (Xr rfl rfl Try.underlying23 inf22.size X7 X7) Xp ?_
  refine Xe rfl rfl (Xi rfl Try.underlying22 rfl Xq) Xp ?_
  refine Xe rfl rfl (av_muln_is hw1 rfl rfl) Xp ?_
  refine Xe rfl rfl (Xt Xl) Xp ?_
  refine Xe rfl rfl (Xc Xl) Xp ?_
  refine Xe rfl rfl (Xr rfl rfl Try.underlying23 inf22.size X7 X7) Xp ?_
  refine Xe rfl rfl (Xi rfl Try.underlying22 rfl Xq) Xp ?_
  refine Xe rfl rfl (av_addn_is hw2 rfl rfl) Xp ?_
  refine Xe rfl rfl (Xf rfl) Xp ?_
  refine Xb (by kernel_rfl) ?_
  refine Xa (Xc Xl) ?_
  refine Xa (Yf rfl rfl Yw) ?_
  refine Xa (Xf rfl) ?_
  exact ⟨S.length - (i + 1), by omega, i + 1, _, _, rfl, by omega, rfl, sl13, slD, e0, e5, e6, rfl, rfl⟩
  intro hc10
  have hil : i = S.length := by have := of_decide_eq_false hc10; omega
  have hend : (Zq (S.drop i) k).1 = k := by rw [hil, List.drop_length]; rfl
  rw [hend] at e9
  have hval : valW 0 S (Zq S k).2 = k := by
    have h1 := valF_of_peel (ss := S) (k := k)
    rw [peel_zero hpos hk hkp] at h1
    rw [valW_exact hpl hpos (digit_lt hpos) (by decide) (by rw [h1]; omega), h1]
  have hgood : GoodD (Zq S k).2 S := ⟨hpl, hgd.1, fun i h h' => (digit_lt hpos i h h').2⟩
  refine Y1 ?_
  refine Xd ?_
  refine Xb (by kernel_rfl) ?_
  refine Xa (Xt Xl) ?_
  refine Xa (Xt Xl) ?_
  refine X0 (Xy (Few_u64 S _ 5 _ sl13 (by omega) (by decide) (by decide)) rfl Try.func6 rfl rfl rfl ?_)
  rintro v79 H4 ⟨le4, sl4⟩; change Sl (Yv .u64) H4 v79 (S.take 5) at sl4; rw [hSS] at sl4; have slD4 := slD.mono le4.sees
  refine X0 (Xy (Number_u (Zq S k).2 S _ _ _ slD4 sl4 (by omega) (by omega) h0) rfl Try.func10 rfl rfl rfl ?_)
  rintro v80 H4 ⟨⟨x, ok2, rfl, hor2⟩, rfl⟩; obtain ⟨rfl, _, rfl⟩ := hor2.resolve_left (fun h => h.2.1 hgood); rw [hval]
  refine Xa (Zp rfl) ?_
  refine Xa (Yr rfl rfl) ?_
  refine Xa (Yr rfl rfl) ?_
  refine Xa (Xf rfl) ?_
  refine Xa (Xm rfl) ?_
  refine Xd ?_
  refine Xb (by kernel_rfl) ?_
  refine Xa (Xc Xl) ?_
  refine Xa (Xc Xl) ?_
  refine Xa (Z9 rfl rfl) ?_
  refine Xa (Xu rfl) ?_
  refine Yb rfl rfl rfl ?_ ?_
  intro hg12
  have hp12 := hg12; try simp only [decide_eq_true_eq, decide_eq_false_iff_not, Bool.not_eq_true', Bool.not_eq_false'] at hp12
  refine Xn (Xj rfl rfl rfl hg12) (Xc rfl) ?_
  refine Xn (Xj rfl rfl rfl hg12) (Xc Xl) ?_
  refine Xn (Xj rfl rfl rfl hg12) (Z9 rfl rfl) ?_
  refine Xa (Xo (congrArg Value.bool hg12) rfl) ?_
  refine Xa (Xu rfl) ?_
  refine Yb rfl rfl rfl ?_ ?_
  intro hg13
  have hp13 := hg13; try simp only [decide_eq_true_eq, decide_eq_false_iff_not, Bool.not_eq_true', Bool.not_eq_false'] at hp13
  refine Xn (Xj rfl rfl rfl hg13) (Xu rfl) ?_
  refine Xa (Xo (congrArg Value.bool hg13) rfl) ?_
  refine Xa (Xu rfl) ?_
  refine Yb rfl rfl rfl ?_ ?_
  intro hg14
  have hp14 := hg14; try simp only [decide_eq_true_eq, decide_eq_false_iff_not, Bool.not_eq_true', Bool.not_eq_false'] at hp14
  refine Vb (Xj rfl rfl rfl hg14) (Xy (lives32_ok _) rfl Try.func9 rfl rfl rfl ?_)
  rintro v H' ⟨rfl, hlv⟩
  refine Xa (Xo (congrArg Value.bool hg14) rfl) ?_
  refine Xa (Xm rfl) ?_
  refine X8 ?_
  exact ⟨.bool true, X1 (Xw rfl), rfl, Hp.le_trans (Hp.le_trans leH3 le4) hlv⟩
  intro hg14
  exact absurd hg14 (by decide)
  intro hg13
  exact absurd rfl (of_decide_eq_false hg13)
  intro hg12
  exact absurd rfl (of_decide_eq_false hg12)
end Go.Proofs.Ytmakkmcjocjgmaa.Am


/- Links among the arguments of a statement. -/
namespace Go.Proofs.Ytmakkmcjocjgmaa.Am
open Go Go.RowKit
set_option maxRecDepth 100000
theorem cells_u64 : Try.prog.cellsOf 22 = 1 := by kernel_rfl
end Go.Proofs.Ytmakkmcjocjgmaa.Am


/- Lists of numbers without sign among the arguments of a statement. -/
namespace Go.Proofs.Ytmakkmcjocjgmaa.Am
open Go Go.RowKit
set_option maxRecDepth 100000
theorem opens_u64s : Opens Try.prog (kSl (Yv .u64)) 23 (fun xs => xs.length ≤ maxLen ∧ ∀ x ∈ xs, fits .u64 x) := opens_sl Try.underlying23 cells_u64 (opens_int Try.underlying22)
theorem fits_nn {xs : List Int} (h : ∀ x ∈ xs, fits .u64 x) : ∀ x ∈ xs, 0 ≤ x := fun x hx => (lit_u64 (h x hx)).1
end Go.Proofs.Ytmakkmcjocjgmaa.Am
