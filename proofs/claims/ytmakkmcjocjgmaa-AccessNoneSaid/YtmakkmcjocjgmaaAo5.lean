/- Texts that the proof rests on, part 5: lemmas for every heap that is related to a world, no condition beyond each lemma's own. -/
import Derived.Test.YtmakkmcjocjgmaaAo4
import Derived.Test.YtmakkmcjocjgmaaAo1
import Derived.Test.YtmakkmcjocjgmaaAoRow

/- Numbers are split by sizes, and put together. -/
namespace Go.Proofs.Ytmakkmcjocjgmaa.Am
open Go Go.RowKit
set_option maxRecDepth 100000
set_option linter.unusedVariables false
set_option linter.unusedSimpArgs false

theorem fold_next {ss : List Int} {i : Nat} {n : Int} (h : i < ss.length) : Yh ((ss.take i).foldl Yh n) ss[i] = (ss.take (i + 1)).foldl Yh n := by
  rw [← Y2 h, List.foldl_append]; rfl
theorem fold_nn : ∀ {ss : List Int} {n : Int}, 0 ≤ n → (∀ s ∈ ss, 0 ≤ s) → 0 ≤ ss.foldl Yh n
  | [], _, h, _ => h
  | s :: ss, n, h, hs => fold_nn (ss := ss) (Vi h (hs s (by simp))).1 fun x hx => hs x (by simp [hx])
theorem product_acc (ss : List Int) (v : Value) (H : Hp) (hs : Sl (Yy .u64) H v ss) (hl : ss.length ≤ 1000000) (h0 : ∀ s ∈ ss, 0 ≤ s) :
    ACalls Try.prog 17 #[v] H (fun r H' => r = .int .u64 (Ub ss) ∧ H' = H) := by
  obtain ⟨A, c, rfl⟩ := hs.shape
  refine Xr Try.func17 rfl rfl rfl (by simp) ?_
  refine Xd ?_
  refine Xb (by kernel_rfl) ?_
  refine Xa (Xf rfl) ?_
  refine Xd ?_
  refine Xb (by kernel_rfl) ?_
  refine Xa (Xf rfl) ?_
  refine Xd ?_
  refine Xd ?_
  refine Xb (by kernel_rfl) ?_
  refine Xa (Xx rfl) ?_
  refine Xa (Ys rfl Try.underlying23) ?_
  refine Xa (Xc rfl) ?_
  refine Ya ?_
  refine Y9 (fun n t H' => ∃ (i : Nat) (D : Option Addr), n = ss.length - i ∧ i ≤ ss.length ∧ H' = H ∧ Sl (Yy .u64) H (.slice D ss.length c) ss ∧ t 3 = .int .u64 ((ss.take i).foldl Yh 1) ∧ t 6 = .slice D ss.length c ∧ t 7 = .int .i64 ss.length ∧ t 8 = .int .i64 i) (ss.length) (⟨0, _, rfl, Nat.zero_le _, rfl, hs, rfl, rfl, rfl, rfl⟩) ?_
  rintro n t H ⟨i, D, rfl, hi, rfl, hs, e3, e6, e7, e8⟩
  refine Xd ?_
  refine Xb (by kernel_rfl) ?_
  refine Xa (Zj Xl Xl) ?_
  refine Xd ?_
  refine X6 rfl rfl ?_ ?_
  intro hc1
  have hil : i < ss.length := by have := of_decide_eq_true hc1; omega
  obtain ⟨b, o, eD, hb, hcell⟩ := hs.int_at (i := (i : Int)) (by omega) (by omega)
  rw [Int.toNat_natCast, Zc hil] at hcell
  subst eD
  have hnx := fold_next (n := 1) hil
  refine X9 ?_
  refine Xd ?_
  refine Ya ?_
  refine Xd ?_
  refine Xb (by kernel_rfl) ?_
  refine Xa (Xt Xl Xl Try.underlying23 inf22.size X7 X7) ?_
  refine Xa (Xi rfl Try.underlying22 rfl Xs) ?_
  refine Xa (Xf rfl) ?_
  refine Xb (by kernel_rfl) ?_
  refine Xa (Xc Xl) ?_
  refine Xa (Xc rfl) ?_
  refine X0 (Xy (Vj _ _ (fold_nn (by decide) fun s h => h0 s (List.mem_of_mem_take h)) (h0 _ (List.getElem_mem hil)) _) rfl Try.func28 rfl rfl rfl ?_)
  rintro v14 H ⟨rfl, rfl⟩; rw [hnx]
  refine Xa (Xf rfl) ?_
  refine Xb (by kernel_rfl) ?_
  refine Xa (Yj Xl Xl Yv) ?_
  refine Xa (Xc rfl) ?_
  exact ⟨ss.length - (i + 1), by omega, i + 1, _, rfl, by omega, rfl, hs, rfl, e6, e7, rfl⟩
  intro hc1
  have hil : i = ss.length := by have := of_decide_eq_false hc1; omega
  rw [hil, List.take_length] at e3
  refine Y5 ?_
  refine Xd ?_
  refine Xb (by kernel_rfl) ?_
  refine Xa (Xc Xl) ?_
  refine Xa (Xf rfl) ?_
  refine X8 ?_
  exact ⟨_, X1 (Xv rfl), rfl, rfl⟩
theorem av_rem_is {P : Program} {t : Fr} {H : Hp} {d : Option Tmp} {ty : TypeId} {pos : String} {after : Array Edge} {guard : Option (Nat × Bool)} {x y : Operand} {xt yt : TypeId} {k : IntKind} {a b v : Int} (hv : a.tmod b = v) (hx : t.eval x = .int k a) (hy : t.eval y = .int k b) (h0 : b ≠ 0) : AVal P ⟨d, .binOp .rem xt x y yt, ty, pos, after, guard⟩ t [] H (.int k v) := by
  subst hv; exact av_rem hx hy h0
theorem av_quo_is {P : Program} {t : Fr} {H : Hp} {d : Option Tmp} {ty : TypeId} {pos : String} {after : Array Edge} {guard : Option (Nat × Bool)} {x y : Operand} {xt yt : TypeId} {k : IntKind} {a b v : Int} (hv : k.wrap (a.tdiv b) = v) (hx : t.eval x = .int k a) (hy : t.eval y = .int k b) (h0 : b ≠ 0) : AVal P ⟨d, .binOp .quo xt x y yt, ty, pos, after, guard⟩ t [] H (.int k v) := by
  subst hv; exact av_quo hx hy h0
def outL (ss : List Int) (k : Int) (m : Nat) : List Value := (List.replicate m (0 : Int) ++ (peel (ss.drop m) k).2).map (Value.int .u64)
theorem outL_len (ss : List Int) (k : Int) {m : Nat} (h : m ≤ ss.length) : (outL ss k m).length = ss.length := by
  unfold outL
  rw [List.length_map, List.length_append, List.length_replicate, peel_len, List.length_drop]; omega
theorem outL_step (ss : List Int) (k : Int) {m : Nat} (h : m < ss.length) : (outL ss k (m + 1)).set m (.int .u64 ((peel (ss.drop (m + 1)) k).1 % ss[m])) = outL ss k m := by
  unfold outL
  have e : ss.drop m = ss[m] :: ss.drop (m + 1) := List.drop_eq_getElem_cons h
  rw [e, peel]
  rw [List.replicate_succ', List.append_assoc, List.map_append, List.map_append, List.set_append_right _ _ (by simp)]
  simp
theorem outL_zero (ss : List Int) (k : Int) : (List.replicate ss.length [Value.int .u64 0]).flatten = outL ss k ss.length := by
  unfold outL
  rw [List.drop_length, peel, List.append_nil, List.map_replicate]
  generalize ss.length = n
  induction n with
  | zero => rfl
  | succ n ih => rw [List.replicate_succ, List.flatten_cons, ih, List.replicate_succ]; rfl
set_option maxHeartbeats 1000000 in
theorem Digits_acc (k : Int) (ss : List Int) (v : Value) (H : Hp) (hs : Sl (Yy .u64) H v ss) (hl : ss.length ≤ 1000000) (h0 : ∀ s ∈ ss, 0 ≤ s) (hk : 0 ≤ k) :
    ACalls Try.prog 7 #[.int .u64 k, v] H (fun r H' => H.le H' ∧ ((¬ (Ub ss ≠ 4611686018427387904 ∧ k < Ub ss) ∧ r = .tuple #[.slice none 0 0, .bool false]) ∨ ((Ub ss ≠ 4611686018427387904 ∧ k < Ub ss) ∧ ∃ A c, r = .tuple #[.slice A ss.length c, .bool true] ∧ Sl (Yy .u64) H' (.slice A ss.length c) (peel ss k).2))) := by
  obtain ⟨A, c, rfl⟩ := hs.shape
  obtain ⟨hpt, hpn⟩ := prodT_is h0
  have hmost : Yz = 4611686018427387904 := rfl
  refine Xr Try.func7 rfl rfl rfl (by simp) ?_
  refine Xd ?_
  refine Xb (by kernel_rfl) ?_
  refine Xa (X3 rfl) ?_
  refine Xa (Xm rfl) ?_
  refine Xd ?_
  refine Xd ?_
  refine Xb (by kernel_rfl) ?_
  refine Xa (Xx rfl) ?_
  refine X0 (Xy (product_acc ss _ _ hs hl h0) rfl Try.func17 rfl rfl rfl ?_)
  rintro v10 H ⟨rfl, rfl⟩
  refine Xa (Xf rfl) ?_
  refine Xd ?_
  refine Xb (by kernel_rfl) ?_
  refine Xa (Xc rfl) ?_
  refine Xa (Vr rfl rfl) ?_
  refine Xa (Xu rfl) ?_
  refine Yd rfl rfl rfl ?_ ?_
  intro hg1
  have hq : Ub ss = 4611686018427387904 := by have h := hg1; simpa using h
  have hge : ¬ (Ub ss ≠ 4611686018427387904 ∧ k < Ub ss) := fun h => h.1 hq
  refine Xh (Xk rfl rfl rfl hg1 rfl) ?_
  refine Xh (Xk rfl rfl rfl hg1 rfl) ?_
  refine Xh (Xk rfl rfl rfl hg1 rfl) ?_
  refine Xa (Xo (congrArg Value.bool hg1) rfl) ?_
  refine Yt rfl rfl ?_
  refine Xd ?_
  refine Xb (by kernel_rfl) ?_
  refine Xa (X3 rfl) ?_
  refine Xa (Xm rfl) ?_
  refine X8 ?_
  exact ⟨_, Zl (Xv rfl) (Xv rfl), Hp.le_refl _, .inl ⟨hge, rfl⟩⟩
  intro hg1
  have hq : Ub ss ≠ 4611686018427387904 := by have h := hg1; simpa using h
  refine Xn (Xj rfl rfl rfl hg1) (Xc rfl) ?_
  refine Xn (Xj rfl rfl rfl hg1) (Xc rfl) ?_
  refine Xn (Xj rfl rfl rfl hg1) (av_ge rfl rfl) ?_
  refine Xa (Xo (congrArg Value.bool hg1) rfl) ?_
  refine X6 rfl rfl ?_ ?_
  intro hc3
  have hge : ¬ (Ub ss ≠ 4611686018427387904 ∧ k < Ub ss) := by
    have := of_decide_eq_true hc3
    intro h; omega
  refine Xd ?_
  refine Xb (by kernel_rfl) ?_
  refine Xa (X3 rfl) ?_
  refine Xa (Xm rfl) ?_
  refine X8 ?_
  exact ⟨_, Zl (Xv rfl) (Xv rfl), Hp.le_refl _, .inl ⟨hge, rfl⟩⟩
  intro hc3
  have hlt : Ub ss ≠ 4611686018427387904 ∧ k < Ub ss := ⟨hq, by have := of_decide_eq_false hc3; omega⟩
  have hkp : k < prodI ss := by rw [hpt] at hlt; omega
  have hpos : ∀ s ∈ ss, 0 < s := Decidable.byContradiction fun h => by rw [prodI_zero h0 h] at hkp; omega
  have hk64 : k < 18446744073709551616 := by have := hlt.2; rw [hpt] at this; omega
  refine X9 ?_
  refine Xd ?_
  refine Xb (by kernel_rfl) ?_
  refine Xa (Xx rfl) ?_
  refine Xa (Ys rfl Try.underlying23) ?_
  refine X5 (am_makeSlice Try.underlying23 inf22 rfl (by decide) (by decide) rfl rfl (by omega) (by omega) (by omega)) ?_
  refine Xa (X3 rfl) ?_
  refine Xd ?_
  refine Xd ?_
  refine Xb (by kernel_rfl) ?_
  refine Xa (Xx rfl) ?_
  refine Xa (Ys rfl Try.underlying23) ?_
  refine Xa (av_sub64 rfl rfl Yv) ?_
  refine Xa (Xf rfl) ?_
  refine Ya ?_
  refine Y9 (fun n t H' => ∃ (m : Nat) (D : Option Addr), n = m ∧ m ≤ ss.length ∧ H' = H.push (.own 1 (outL ss k m)) ∧ Sl (Yy .u64) H (.slice D ss.length c) ss ∧ t 0 = .int .u64 (peel (ss.drop m) k).1 ∧ t 1 = .slice D ss.length c ∧ t 7 = .slice (some ⟨H.size, 0, none⟩) ss.length ss.length ∧ t 8 = .int .i64 ((m : Int) - 1)) (ss.length) (⟨ss.length, _, rfl, Nat.le_refl _, by rw [← outL_zero]; rfl, hs, by rw [List.drop_length]; rfl, rfl, rfl, rfl⟩) ?_
  rintro n t H1 ⟨m, D, rfl, hm, hH1, hs, e0, e1, e7, e8⟩
  refine Xd ?_
  refine Xd ?_
  refine Xb (by kernel_rfl) ?_
  refine Xa (Xc Xl) ?_
  refine Xa (av_ge rfl rfl) ?_
  refine X6 rfl rfl ?_ ?_
  intro hc4
  obtain ⟨i, rfl⟩ : ∃ i, n = i + 1 := ⟨n - 1, by have := of_decide_eq_true hc4; omega⟩
  rw [show (((i + 1 : Nat) : Int) - 1) = (i : Int) by omega] at e8
  have hil : i < ss.length := by omega
  have hsi := hpos _ (List.getElem_mem hil)
  have leH1 : H.le H1 := by rw [hH1]; exact H.le_push _
  have g1 : H1.get H.size = .own 1 (outL ss k (i + 1)) := by rw [hH1]; exact Hp.push_new _ _
  have hol := outL_len ss k (m := i + 1) (by omega)
  obtain ⟨b, o, eD, hb, hcell⟩ := (hs.mono leH1.sees).int_at (i := (i : Int)) (by omega) (by omega)
  rw [Int.toNat_natCast, Zc hil] at hcell
  have hbH : b < H.size := by
    obtain ⟨b', o', eD', hb', _⟩ := hs.int_at (i := (i : Int)) (by omega) (by omega)
    rw [eD] at eD'
    simp only [Option.some.injEq, Addr.mk.injEq, and_true] at eD'
    rw [eD'.1]; exact hb'
  subst eD
  have hpe := peel_le (ss := ss.drop (i + 1)) (fun s h => hpos s (List.mem_of_mem_drop h)) hk
  have hrem : (peel (ss.drop (i + 1)) k).1.tmod ss[i] = (peel (ss.drop (i + 1)) k).1 % ss[i] := Int.tmod_eq_emod_of_nonneg hpe.1
  have hquo : IntKind.u64.wrap ((peel (ss.drop (i + 1)) k).1.tdiv ss[i]) = (peel (ss.drop i) k).1 := by
    rw [List.drop_eq_getElem_cons hil, peel, Int.tdiv_eq_ediv_of_nonneg hpe.1]
    exact wrap_u64a (Int.ediv_nonneg hpe.1 (by omega)) (by have := Int.ediv_le_self ss[i] hpe.1; omega)
  have hst := outL_step ss k hil
  have z1 : H1.size = H.size + 1 := by rw [hH1]; simp
  refine X9 ?_
  refine Xd ?_
  refine Ya ?_
  refine Yw (by kernel_rfl) (Zb (B := [0, 0, 0, 0, 0, 24, 56, 124, 0, 0, 0, 1536, 3584, 7936, 7935, 24319, 65535]) (π := [0, 1, 2, 3, 4, 5, 6, 7, 8, 9, 10, 11, 12, 13, 14, 15, 16]) (by kernel_rfl)) ?_
  refine Xe rfl rfl (Xx Xl) Xp ?_
  refine Xe rfl rfl (Xc Xl) Xp ?_
  refine Xe rfl rfl (Xc Xl) Xp ?_
  refine Xe rfl rfl (Xx Xl) Xp ?_
  refine Xe rfl rfl (Xc Xl) Xp ?_
  refine Xe rfl rfl (Xt rfl rfl Try.underlying23 inf22.size X7 X7) Xp ?_
  refine Xe rfl rfl (Xi rfl Try.underlying22 rfl Xs) Xp ?_
  refine Xe rfl rfl (av_rem_is hrem rfl rfl (by omega)) Xp ?_
  refine Xe rfl rfl (Xc Xl) Xp ?_
  refine Xe rfl rfl (Xx Xl) Xp ?_
  refine Xe rfl rfl (Xc Xl) Xp ?_
  refine Xe rfl rfl (Xt rfl rfl Try.underlying23 inf22.size X7 X7) Xp ?_
  refine Xe rfl rfl (Xi rfl Try.underlying22 rfl Xs) Xp ?_
  refine Xe rfl rfl (av_quo_is hquo rfl rfl (by omega)) Xp ?_
  refine Xe rfl rfl (Xt rfl rfl Try.underlying23 inf22.size X7 X7) Xp ?_
  refine Yi rfl rfl (Y8 (u := .int .u64 ((peel (ss.drop (i + 1)) k).1 % ss[i])) (cs' := outL ss k i) rfl rfl rfl inf22.size g1 (by simp <;> omega) (by simpa using hst) ?_)
  refine ⟨Yg, ?_⟩
  refine Xe rfl rfl (Xf rfl) Xp ?_
  refine Xb (by kernel_rfl) ?_
  refine Xa (Xc Xl) ?_
  refine Xa (av_sub64 rfl rfl Yv) ?_
  refine Xa (Xf rfl) ?_
  refine ⟨i, by omega, i, _, rfl, by omega, ?_, hs, rfl, e1, e7, rfl⟩
  rw [hH1, Hp.push_put]
  intro hc4
  obtain rfl : n = 0 := by have := of_decide_eq_false hc4; omega
  refine Y5 ?_
  refine Xd ?_
  refine Xb (by kernel_rfl) ?_
  refine Xa (Xx Xl) ?_
  refine Xa (X3 rfl) ?_
  refine Xa (Xm rfl) ?_
  refine X8 ?_
  rw [List.drop_zero] at e0
  exact ⟨_, Zl (Xv rfl) (Xv rfl), by rw [hH1]; exact H.le_push _, .inr ⟨hlt, _, _, rfl, by
    rw [hH1]
    have e : outL ss k 0 = ((peel ss k).2).map (Value.int .u64) := by unfold outL; simp
    rw [e]
    have hpl := peel_len ss k
    rw [← hpl]
    exact sl_ints (by simp) (Hp.push_new _ _)⟩⟩
structure GoodD (ds ss : List Int) : Prop where
  len : ds.length = ss.length
  few : Ub ss ≠ 4611686018427387904
  lt : ∀ i (h : i < ds.length) (h' : i < ss.length), ds[i] < ss[i]
end Go.Proofs.Ytmakkmcjocjgmaa.Am


/- The small living call of the statements on access; what is told of no counts. -/
namespace Go.Proofs.Ytmakkmcjocjgmaa.Am
open Go Go.RowKit
set_option maxRecDepth 100000
set_option linter.unusedVariables false
set_option linter.unusedSimpArgs false

theorem Digits_u (k : Int) (ss : List Int) (v : Value) (H : Hp) (hs : Sl (Yy .u64) H v ss) (hl : ss.length ≤ 1000000) (h0 : ∀ s ∈ ss, 0 ≤ s) (hk : 0 ≤ k) :
    ACalls Try.prog 7 #[.int .u64 k, v] H (fun r H' => H.le H' ∧ ∃ (A : Option Addr) (c : Nat) (ok : Bool) (D : List Int), r = .tuple #[.slice A D.length c, .bool ok] ∧ Sl (Yy .u64) H' (.slice A D.length c) D ∧ ((ok = false ∧ ¬ (Ub ss ≠ 4611686018427387904 ∧ k < Ub ss) ∧ D = []) ∨ (ok = true ∧ (Ub ss ≠ 4611686018427387904 ∧ k < Ub ss) ∧ D = (peel ss k).2))) :=
  (Digits_acc k ss v H hs hl h0 hk).mono fun r H' ⟨hle, hr⟩ => by
    refine ⟨hle, ?_⟩
    rcases hr with ⟨h1, rfl⟩ | ⟨h1, A, c, rfl, sl⟩
    · exact ⟨none, 0, false, [], rfl, Sl.nil _ _, .inl ⟨rfl, h1, rfl⟩⟩
    · have hpl := peel_len ss k
      rw [← hpl] at sl ⊢
      exact ⟨A, c, true, _, rfl, sl, .inr ⟨rfl, h1, rfl⟩⟩
theorem All_no (H : Hp) : ACalls Try.prog 22 #[.pointer none] H (fun r H' => r = .int .u64 0 ∧ H' = H) := by
  refine Xr Try.func22 rfl rfl rfl (by simp) ?_
  refine Xd ?_
  refine Xb (by kernel_rfl) ?_
  refine Xa (Xf rfl) ?_
  refine Xd ?_
  refine Xd ?_
  refine Xb (by kernel_rfl) ?_
  refine Xa (Xq rfl) ?_
  refine Xa (Zw rfl t_spot rfl Try.underlying57) ?_
  refine X6 rfl rfl ?_ ?_
  intro hc1
  (try simp only [decide_eq_true_eq, decide_eq_false_iff_not, Bool.not_eq_true', Bool.not_eq_false'] at hc1)
  refine Xd ?_
  refine Xb (by kernel_rfl) ?_
  refine Xa (Xf rfl) ?_
  refine X8 ?_
  exact ⟨_, X1 (Xv rfl), rfl, rfl⟩
  intro hc1
  (have h := hc1; simp at h)
theorem Exact_no (H : Hp) : ACalls Try.prog 26 #[.pointer none] H (fun r H' => r = .bool false ∧ H' = H) := by
  refine Xr Try.func26 rfl rfl rfl (by simp) ?_
  refine Xd ?_
  refine Xb (by kernel_rfl) ?_
  refine Xa (Xm rfl) ?_
  refine Xd ?_
  refine Xb (by kernel_rfl) ?_
  refine Xa (Xq rfl) ?_
  refine Xa (av_ptr_ne_nil rfl rfl Try.underlying57) ?_
  refine Xa (Xu rfl) ?_
  refine Yd rfl rfl rfl ?_ ?_
  intro hg1
  (have h := hg1; simp at h)
  intro hg1
  have hp1 := hg1; try simp only [decide_eq_true_eq, decide_eq_false_iff_not, Bool.not_eq_true', Bool.not_eq_false'] at hp1
  refine Xh (Xk rfl rfl rfl hg1 rfl) ?_
  refine Xh (Xk rfl rfl rfl hg1 rfl) ?_
  refine Xh (Xk rfl rfl rfl hg1 rfl) ?_
  refine Xa (Xo (congrArg Value.bool hg1) rfl) ?_
  refine Xa (Xm rfl) ?_
  refine X8 ?_
  exact ⟨.bool false, X1 (Xv rfl), rfl, rfl⟩
theorem At_no (k : Int) (h0 : 0 ≤ k) (H : Hp) : ACalls Try.prog 12 #[.pointer none, .int .u64 k] H (fun r H' => r = .tuple #[.agg #[.slice none 0 0, .int .i64 0, .int .u64 0], .int .u64 0, .bool false] ∧ H.le H') := by
  refine Xr Try.func12 rfl rfl rfl (by simp) ?_
  refine Xd ?_
  refine Xb (by kernel_rfl) ?_
  refine X5 (Y3 (l := [.slice none 0 0, .int .i64 0, .int .u64 0]) inf35.zero rfl (by decide)) ?_
  refine Xa (Xf rfl) ?_
  refine Xa (Xm rfl) ?_
  refine Xd ?_
  refine Xd ?_
  refine Xb (by kernel_rfl) ?_
  refine Xa (Xc rfl) ?_
  refine Xa (Xq rfl) ?_
  refine X0 (Xy (All_no _) rfl Try.func22 rfl rfl rfl ?_)
  rintro v13 H1 ⟨rfl, hH1⟩; subst hH1
  refine Xa (av_ge rfl rfl) ?_
  refine X6 rfl rfl ?_ ?_
  intro hc1
  (try simp only [decide_eq_true_eq, decide_eq_false_iff_not, Bool.not_eq_true', Bool.not_eq_false'] at hc1)
  refine Xd ?_
  refine Xb (by kernel_rfl) ?_
  refine Xa (Y0 (pl := [(0, 1), (1, 1), (2, 1)]) (r := [.slice _ _ _, .int .i64 _, .int .u64 _]) Try.underlying35 inf35.zero (by decide) rfl rfl) ?_
  refine X0 (Ym (vs := [.slice _ _ _, .int .i64 _, .int .u64 _]) rfl rfl inf35.size Ye Yk rfl rfl ?_)
  refine Xa (Xf rfl) ?_
  refine Xa (Xm rfl) ?_
  refine X8 ?_
  exact ⟨_, aresult3 (Zg Xl (Ze (cs := [_, _, _]) Try.underlying35 rfl inf35.size Yf)) (Xv rfl) (Xv rfl), rfl, Hp.le_put_new (H.le_push _) (Nat.le_refl _) _⟩
  intro hc1
  (have h := of_decide_eq_false hc1; omega)
theorem Work_no (k : Int) (h0 : 0 ≤ k) (H : Hp) : ACalls Try.prog 16 #[.pointer none, .int .u64 k] H (fun r H' => r = .int .i64 0 ∧ H' = H) := by
  refine Xr Try.func16 rfl rfl rfl (by simp) ?_
  refine Xd ?_
  refine Xb (by kernel_rfl) ?_
  refine Xa (Xf rfl) ?_
  refine Xd ?_
  refine Xd ?_
  refine Xb (by kernel_rfl) ?_
  refine Xa (Xc rfl) ?_
  refine Xa (Xq rfl) ?_
  refine X0 (Xy (All_no _) rfl Try.func22 rfl rfl rfl ?_)
  rintro v8 H ⟨rfl, rfl⟩
  refine Xa (av_ge rfl rfl) ?_
  refine X6 rfl rfl ?_ ?_
  intro hc1
  (try simp only [decide_eq_true_eq, decide_eq_false_iff_not, Bool.not_eq_true', Bool.not_eq_false'] at hc1)
  refine Xd ?_
  refine Xb (by kernel_rfl) ?_
  refine Xa (Xf rfl) ?_
  refine X8 ?_
  exact ⟨_, X1 (Xv rfl), rfl, rfl⟩
  intro hc1
  (have h := of_decide_eq_false hc1; omega)
theorem Rank_no (u : Value) (H : Hp) : ACalls Try.prog 13 #[.pointer none, u] H (fun r H' => r = .tuple #[.int .u64 0, .bool false] ∧ H' = H) := by
  refine Xr Try.func13 rfl rfl rfl (by simp) ?_
  refine Xd ?_
  refine Xb (by kernel_rfl) ?_
  refine Xa (Xf rfl) ?_
  refine Xa (Xm rfl) ?_
  refine Xd ?_
  refine Xd ?_
  refine Xb (by kernel_rfl) ?_
  refine Xa (Xq rfl) ?_
  refine X0 (Xy (Exact_no _) rfl Try.func26 rfl rfl rfl ?_)
  rintro v9 H ⟨rfl, rfl⟩
  refine Xa (Vm rfl) ?_
  refine X6 rfl rfl ?_ ?_
  intro hc1
  (try simp only [decide_eq_true_eq, decide_eq_false_iff_not, Bool.not_eq_true', Bool.not_eq_false'] at hc1)
  refine Xd ?_
  refine Xb (by kernel_rfl) ?_
  refine Xa (Xf rfl) ?_
  refine Xa (Xm rfl) ?_
  refine X8 ?_
  exact ⟨_, Zl (Xv rfl) (Xv rfl), rfl, rfl⟩
  intro hc1
  exact absurd hc1 (by decide)
theorem Ahead_no (u : Value) (H : Hp) : ACalls Try.prog 15 #[.pointer none, u] H (fun r H' => r = .int .u64 0 ∧ H' = H) := by
  refine Xr Try.func15 rfl rfl rfl (by simp) ?_
  refine Xd ?_
  refine Xb (by kernel_rfl) ?_
  refine Xa (Xf rfl) ?_
  refine Xd ?_
  refine Xd ?_
  refine Xb (by kernel_rfl) ?_
  refine Xa (Xq rfl) ?_
  refine X0 (Xy (Exact_no _) rfl Try.func26 rfl rfl rfl ?_)
  rintro v8 H ⟨rfl, rfl⟩
  refine Xa (Vm rfl) ?_
  refine X6 rfl rfl ?_ ?_
  intro hc1
  (try simp only [decide_eq_true_eq, decide_eq_false_iff_not, Bool.not_eq_true', Bool.not_eq_false'] at hc1)
  refine Xd ?_
  refine Xb (by kernel_rfl) ?_
  refine Xa (Xf rfl) ?_
  refine X8 ?_
  exact ⟨_, X1 (Xv rfl), rfl, rfl⟩
  intro hc1
  exact absurd hc1 (by decide)
def live32 : TreeT := Yr (Zm 2) (V1 (Zm 2) (Zr 2 [2, 3]))
theorem live32_is : live32 = Yr (Zm 2) (Zr 2 [2, 3]) := by
  unfold live32
  rcases apart_of (n := 2) (by decide) (by decide) (sa := 2) (sb := 3) (by decide) (by decide) with ⟨_, _, h⟩ | ⟨h, _⟩
  · rw [h]
  · omega
theorem live32_all : behT live32 [] = 24 := by rw [live32_is]; decide +kernel
theorem live32_seek : seek (extW live32 live32.vars.length [] 1) 13 = some ([1, 0], 1) := by rw [live32_is]; decide +kernel
theorem live32_good : GoodT live32 := apart_goodT (by decide) (by decide) (by decide) (by decide)
theorem live32_few : FewA live32 := apart_fewA (by decide) (by decide) (by decide) (by decide)
theorem live32_reach : Reach live32 := reach_tree (good_apart (by decide) (by decide) (by decide) (by decide)) live32_good
set_option maxHeartbeats 2000000 in
theorem lives32_ok (H : Hp) : ACalls Try.prog 9 #[] H (fun r H' => r = .bool true ∧ H.le H') := by
  refine Xr Try.func9 rfl rfl rfl (by simp) ?_
  refine Xd ?_
  refine Xb (by kernel_rfl) ?_
  refine Xa (Xm rfl) ?_
  refine Xd ?_
  refine Xb (by kernel_rfl) ?_
  first | refine X5 (Yb (r := [.int .u64 _, .int .u64 _]) Try.underlying23 inf22.size inf22.zero rfl (by decide) (by decide) (by decide) rfl) ?_
  refine X0 (Xy (Digits_u 5 [2, 3] (.slice (some ⟨H.size, 0, none⟩) 2 2) _ (sl_two (k := Yy .u64) Ye (by simp) rfl rfl rfl) (by decide) (by decide) (by decide)) rfl Try.func7 rfl rfl rfl ?_)
  rintro v12 H1 ⟨le1, A1, k1, ok1, D1, rfl, slD, hor⟩; obtain ⟨rfl, _, hD1⟩ := hor.resolve_left (fun h => h.2.1 (by decide)); obtain rfl : D1 = [1, 2] := hD1; have leH1 := Hp.le_trans (H.le_push _) le1
  refine Xa (Zo rfl) ?_
  refine Xa (Yo rfl rfl) ?_
  refine Xa (Yo rfl rfl) ?_
  refine Xa (X3 rfl) ?_
  refine Xa (Xm rfl) ?_
  refine Xd ?_
  refine Xb (by kernel_rfl) ?_
  first | refine X5 (Yb (r := [.int .i64 _, .int .i64 _]) Try.underlying33 inf3.size inf3.zero rfl (by decide) (by decide) (by decide) rfl) ?_
  refine X0 (Xy (Apart_ok 2 [2, 3] (.slice (some ⟨H1.size, 0, none⟩) 2 2) _ (sl_two (k := Yy .i64) Ye (by simp) rfl rfl rfl) (by decide) (by decide)) rfl Try.func19 rfl rfl rfl ?_)
  rintro v17 H2 ⟨cs1, ds1, rfl, hf1, hp1, hle2⟩; have hf10 := hf1; have hp10 := hp1; obtain ⟨a0, a1, a2, a3, a4, rfl, hs0, hs1, hs2, hs3, hs4⟩ := hf1; obtain ⟨A0, c0, rfl⟩ := hs0.shape; obtain ⟨B1', c1', rfl⟩ := hs1.shape; obtain ⟨A2, c2, rfl⟩ := hs2.shape; obtain ⟨A3, c3, rfl⟩ := hs3.shape; obtain ⟨A4, c4, rfl⟩ := hs4.shape; obtain ⟨u0, u1, rfl, hn0, hn1⟩ := hp1; obtain ⟨B0, d0, rfl⟩ := hn0.shape; obtain ⟨B1, d1, rfl⟩ := hn1.shape; have hz2 := hle2.1; simp only [Hp.push_size] at hz2; have leH2 := Hp.le_trans leH1 (Hp.le_trans (H1.le_push _) hle2); have le12 := Hp.le_trans (H1.le_push _) hle2
  refine Xa (Zo rfl) ?_
  refine Xa (Yo rfl rfl) ?_
  refine Xa (Yo rfl rfl) ?_
  refine X5 (Y3 (l := [.slice none 0 0, .slice none 0 0, .slice none 0 0, .slice none 0 0, .slice none 0 0]) inf47.zero rfl (by decide)) ?_
  refine X5 (Y3 (l := [.slice none 0 0, .slice none 0 0]) inf50.zero rfl (by decide)) ?_
  refine X0 (Ym (vs := [.slice _ _ _, .slice _ _ _, .slice _ _ _, .slice _ _ _, .slice _ _ _]) rfl rfl inf47.size Ye Yk rfl rfl ?_)
  refine X0 (Ym (vs := [.slice _ _ _, .slice _ _ _]) rfl rfl inf50.size Ye Yk rfl rfl ?_)
  refine Xd ?_
  refine Xb (by kernel_rfl) ?_
  refine Xa (Yp (cs := [.slice _ _ _, .slice _ _ _, .slice _ _ _, .slice _ _ _, .slice _ _ _]) rfl Try.underlying47 rfl inf47.size Yf) ?_
  refine Xa (Yp (cs := [.slice _ _ _, .slice _ _ _]) rfl Try.underlying50 rfl inf50.size Yf) ?_
  refine X0 (Xy (New_good (Zm 2) (Zr 2 [2, 3]) _ _ _ (kForest.mono Zs hf10) (kParts.mono Zs hp10) (small_apart (by decide) (by decide)) (cheap_apart (by decide) (by decide) (by decide)) (good_apart (by decide) (by decide) (by decide) (by decide))) rfl Try.func20 rfl rfl rfl ?_)
  rintro v23 H3 ⟨hle3, tb, rfl, htr⟩; change TreeR H3 _ live32 at htr
  refine Xa (Zo rfl) ?_
  refine Xa (Yo rfl rfl) ?_
  refine Xa (Yo rfl rfl) ?_
  refine Xa (Zd rfl) ?_
  refine Xa (Xf rfl) ?_
  refine Xd ?_
  have le23 : H2.le H3 := Hp.le_trans t_le hle3
  have leH3 : H.le H3 := Hp.le_trans leH2 le23
  have le13 := Hp.le_trans le12 le23
  clear hle3
  refine Xb (by kernel_rfl) ?_
  refine Xa (Xq rfl) ?_
  refine X0 (Xy (New_cnt live32_good live32_few live32_reach _ htr) rfl Try.func21 rfl rfl rfl ?_)
  rintro v28 H4 ⟨hle4, cb, rfl, hc4⟩
  refine X0 (Xy (At_acc live32_good hc4 13 (by decide)) rfl Try.func12 rfl rfl rfl ?_)
  rintro v29 H5 ⟨hle5, hr⟩; obtain ⟨_, ns, left, x, A5, k5, hsk, hrow, hxn, rfl, sl5, _⟩ := hr.resolve_left (fun h => by rw [live32_all] at h; exact absurd h.1 (by decide)); rw [live32_seek] at hsk; obtain ⟨rfl, rfl⟩ : [1, 0] = ns ∧ 1 = left := (by injection hsk with h; injection h with h1 h2; exact ⟨h1, h2⟩); obtain ⟨xn, xc, xm⟩ := x; obtain rfl : xn = [1, 0] := hxn; change Sl (Yy .i64) H5 (.slice A5 ([1, 0] : List Int).length k5) [1, 0] at sl5; have leH5 := Hp.le_trans leH3 (Hp.le_trans hle4 hle5); have le15 := Hp.le_trans le13 (Hp.le_trans hle4 hle5)
  refine Xa (Zo rfl) ?_
  refine Xa (Yo rfl rfl) ?_
  refine Xa (Yo rfl rfl) ?_
  refine Xa (Yo rfl rfl) ?_
  refine X5 (Y3 (l := [.slice none 0 0, .int .i64 0, .int .u64 0]) inf35.zero rfl (by decide)) ?_
  refine X0 (Ym (vs := [.slice _ _ _, .int .i64 _, .int .u64 _]) rfl rfl inf35.size Ye Yk rfl rfl ?_)
  refine Xa (Xf rfl) ?_
  refine Xa (Xm rfl) ?_
  refine Xd ?_
  obtain ⟨H6, hH6⟩ : ∃ H6, H6 = (H5.push (.own 0 [.slice none 0 0, .int .i64 0, .int .u64 0])).put H5.size (.own 0 [.slice A5 ([1, 0] : List Int).length k5, .int .i64 xc, .int .u64 xm]) := ⟨_, rfl⟩
  have le56 : H5.le H6 := by rw [hH6]; exact Hp.le_put_new (H5.le_push _) (Nat.le_refl _) _
  have g6 : H6.get H5.size = .own 0 [.slice A5 ([1, 0] : List Int).length k5, .int .i64 xc, .int .u64 xm] := by rw [hH6]; exact Hp.put_same _ _ _
  have z6 : H6.size = H5.size + 1 := by rw [hH6]; simp
  change ACode true _ _ _ _ _ ((H5.push (.own 0 [.slice none 0 0, .int .i64 0, .int .u64 0])).put H5.size (.own 0 [.slice A5 ([1, 0] : List Int).length k5, .int .i64 xc, .int .u64 xm]))
  rw [← hH6]
  clear hH6
  have sl6 := (sl5.mono le56.sees).mono (H6.le_push (.own 1 [.int .u64 1, .int .u64 2])).sees
  have slD6 := (slD.mono (Hp.le_trans le15 le56).sees).mono (H6.le_push (.own 1 [.int .u64 1, .int .u64 2])).sees
  obtain ⟨bR, oR, eR, hbR, hcR⟩ := sl6.int_at (i := 0) (by decide) (by decide)
  obtain ⟨bR2, oR2, eR2, hbR2, hcR2⟩ := sl6.int_at (i := 1) (by decide) (by decide)
  subst eR
  simp only [Option.some.injEq, Addr.mk.injEq, and_true] at eR2
  obtain ⟨rfl, rfl⟩ := eR2
  have g7 := (Hp.push_old H6 (.own 1 [.int .u64 1, .int .u64 2]) (show H5.size < H6.size by omega)).trans g6
  refine Xb (by kernel_rfl) ?_
  refine Xa (Xu rfl) ?_
  refine Xa (Xu rfl) ?_
  refine Yd rfl rfl rfl ?_ ?_
  intro hg1
  have hp1 := hg1; try simp only [decide_eq_true_eq, decide_eq_false_iff_not, Bool.not_eq_true', Bool.not_eq_false'] at hp1
  refine Xn (Xj rfl rfl rfl hg1) (Xx rfl) ?_
  first | refine Z8 (Xj rfl rfl rfl hg1) (.make (Yb (r := [.int .u64 _, .int .u64 _]) Try.underlying23 inf22.size inf22.zero rfl (by decide) (by decide) (by decide) rfl) ?_)
  refine Z8 (Xj rfl rfl rfl hg1) (Xy (SameU_u64 [1, 2] [1, 2] _ (.slice (some ⟨H6.size, 0, none⟩) 2 2) _ slD6 (sl_two (k := Yy .u64) Ye (by simp) rfl rfl rfl) (by decide)) rfl Try.func11 rfl rfl rfl ?_)
  rintro v37 H7 ⟨rfl, hH7⟩; subst hH7
  refine Xa (Xo (congrArg Value.bool hg1) rfl) ?_
  refine Xa (Xu rfl) ?_
  refine Yd rfl rfl rfl ?_ ?_
  intro hg2
  have hp2 := hg2; try simp only [decide_eq_true_eq, decide_eq_false_iff_not, Bool.not_eq_true', Bool.not_eq_false'] at hp2
  refine Xn (Xj rfl rfl rfl hg2) (Xc rfl) ?_
  refine Xn (Xj rfl rfl rfl hg2) (Vr rfl rfl) ?_
  refine Xa (Xo (congrArg Value.bool hg2) rfl) ?_
  refine Xa (Xu rfl) ?_
  refine Yd rfl rfl rfl ?_ ?_
  intro hg3
  have hp3 := hg3; try simp only [decide_eq_true_eq, decide_eq_false_iff_not, Bool.not_eq_true', Bool.not_eq_false'] at hp3
  refine Xn (Xj rfl rfl rfl hg3) (Xu rfl) ?_
  refine Xa (Xo (congrArg Value.bool hg3) rfl) ?_
  refine Xa (Xu rfl) ?_
  refine Yd rfl rfl rfl ?_ ?_
  intro hg4
  have hp4 := hg4; try simp only [decide_eq_true_eq, decide_eq_false_iff_not, Bool.not_eq_true', Bool.not_eq_false'] at hp4
  refine Xn (Xj rfl rfl rfl hg4) (Xc rfl) ?_
  refine Xn (Xj rfl rfl rfl hg4) (Vr rfl rfl) ?_
  refine Xa (Xo (congrArg Value.bool hg4) rfl) ?_
  refine Xa (Xu rfl) ?_
  refine Yd rfl rfl rfl ?_ ?_
  intro hg5
  have hp5 := hg5; try simp only [decide_eq_true_eq, decide_eq_false_iff_not, Bool.not_eq_true', Bool.not_eq_false'] at hp5
  refine Xn (Xj rfl rfl rfl hg5) (Xg (off := 0) rfl Try.underlying35 rfl inf33.size (by decide) rfl) ?_
  refine Xn (Xj rfl rfl rfl hg5) (Xi rfl Try.underlying33 rfl Xs) ?_
  refine Xn (Xj rfl rfl rfl hg5) (Ys rfl Try.underlying33) ?_
  refine Xn (Xj rfl rfl rfl hg5) (Vr rfl rfl) ?_
  refine Xa (Xo (congrArg Value.bool hg5) rfl) ?_
  refine Xa (Xu rfl) ?_
  refine Yd rfl rfl rfl ?_ ?_
  intro hg6
  have hp6 := hg6; try simp only [decide_eq_true_eq, decide_eq_false_iff_not, Bool.not_eq_true', Bool.not_eq_false'] at hp6
  refine Xn (Xj rfl rfl rfl hg6) (Xg (off := 0) rfl Try.underlying35 rfl inf33.size (by decide) rfl) ?_
  refine Xn (Xj rfl rfl rfl hg6) (Xi rfl Try.underlying33 rfl Xs) ?_
  refine Xn (Xj rfl rfl rfl hg6) (Xt rfl rfl Try.underlying33 inf3.size X7 X7) ?_
  refine Xn (Xj rfl rfl rfl hg6) (Xi rfl Try.underlying3 rfl Xs) ?_
  refine Xn (Xj rfl rfl rfl hg6) (Vr rfl rfl) ?_
  refine Xa (Xo (congrArg Value.bool hg6) rfl) ?_
  refine Xa (Xu rfl) ?_
  refine Yd rfl rfl rfl ?_ ?_
  intro hg7
  have hp7 := hg7; try simp only [decide_eq_true_eq, decide_eq_false_iff_not, Bool.not_eq_true', Bool.not_eq_false'] at hp7
  refine Xn (Xj rfl rfl rfl hg7) (Xg (off := 0) rfl Try.underlying35 rfl inf33.size (by decide) rfl) ?_
  refine Xn (Xj rfl rfl rfl hg7) (Xi rfl Try.underlying33 rfl Xs) ?_
  refine Xn (Xj rfl rfl rfl hg7) (Xt rfl rfl Try.underlying33 inf3.size X7 X7) ?_
  refine Xn (Xj rfl rfl rfl hg7) (Xi rfl Try.underlying3 rfl Xs) ?_
  refine Xn (Xj rfl rfl rfl hg7) (Vr rfl rfl) ?_
  refine Xa (Xo (congrArg Value.bool hg7) rfl) ?_
  refine Xa (Xm rfl) ?_
  refine X8 ?_
  exact ⟨.bool true, X1 (Xv rfl), rfl, Hp.le_trans (Hp.le_trans leH5 le56) (H6.le_push _)⟩
  intro hg7
  exact absurd hg7 (by decide)
  intro hg6
  exact absurd hg6 (by decide)
  intro hg5
  exact absurd hg5 (by decide)
  intro hg4
  exact absurd hg4 (by decide)
  intro hg3
  exact absurd hg3 (by decide)
  intro hg2
  exact absurd hg2 (by decide)
  intro hg1
  exact absurd hg1 (by decide)
end Go.Proofs.Ytmakkmcjocjgmaa.Am


/- The statements AccessDigits, AccessNumber and AccessNone, as the abstract machine runs them. -/
namespace Go.Proofs.Ytmakkmcjocjgmaa.Am
open Go Go.RowKit
set_option maxRecDepth 100000
set_option linter.unusedVariables false
set_option linter.unusedSimpArgs false

set_option maxHeartbeats 1000000 in
theorem AccessNone_ok (k : Int) (ns : List Int) (v : Value) (H : Hp) (hk : 0 ≤ k) (hn : Sl (Yy .i64) H v ns) (hnl : ns.length ≤ 9223372036854775807) :
    ACalls Try.prog 5 #[.int .u64 k, v] H (fun r H' => r = .bool true ∧ H.le H') := by
  obtain ⟨A, c, rfl⟩ := hn.shape
  refine Xr Try.func5 rfl rfl rfl (by simp) ?_
  refine Xd ?_
  refine Xb (by kernel_rfl) ?_
  refine Xa (Xm rfl) ?_
  refine Xd ?_
  refine Xb (by kernel_rfl) ?_
  refine Xa (Xc rfl) ?_
  refine X0 (Xy (At_no k hk _) rfl Try.func12 rfl rfl rfl ?_)
  rintro v12 H1 ⟨rfl, le1⟩
  refine Xa (Zo rfl) ?_
  refine Xa (Yo rfl rfl) ?_
  refine Xa (Yo rfl rfl) ?_
  refine Xa (Yo rfl rfl) ?_
  refine X5 (Y3 (l := [.slice none 0 0, .int .i64 0, .int .u64 0]) inf35.zero rfl (by decide)) ?_
  refine X0 (Ym (vs := [.slice _ _ _, .int .i64 _, .int .u64 _]) rfl rfl inf35.size Ye Yk rfl rfl ?_)
  refine Xa (Xf rfl) ?_
  refine Xa (Xm rfl) ?_
  refine Xd ?_
  obtain ⟨H2, hH2⟩ : ∃ H2, H2 = (H1.push (.own 0 [.slice none 0 0, .int .i64 0, .int .u64 0])).put H1.size (.own 0 [.slice none 0 0, .int .i64 0, .int .u64 0]) := ⟨_, rfl⟩
  have le12 : H1.le H2 := by rw [hH2]; exact Hp.le_put_new (H1.le_push _) (Nat.le_refl _) _
  change ACode true _ _ _ _ _ ((H1.push (.own 0 [.slice none 0 0, .int .i64 0, .int .u64 0])).put H1.size (.own 0 [.slice none 0 0, .int .i64 0, .int .u64 0]))
  rw [← hH2]
  clear hH2
  have leH2 := Hp.le_trans le1 le12
  refine Xb (by kernel_rfl) ?_
  refine Xa (Xx rfl) ?_
  refine X0 (Xy (Few_ints ns _ 4 _ (hn.mono leH2.sees) hnl (by decide) (by decide)) rfl Try.func14 rfl rfl rfl ?_)
  rintro v18 H3 ⟨le3, sl3⟩
  refine X0 (Xy (Rank_no _ _) rfl Try.func13 rfl rfl rfl ?_)
  rintro v19 H3 ⟨rfl, rfl⟩
  refine Xa (Zo rfl) ?_
  refine Xa (Yo rfl rfl) ?_
  refine Xa (Yo rfl rfl) ?_
  refine Xa (Xf rfl) ?_
  refine Xa (Xm rfl) ?_
  refine Xd ?_
  refine Xb (by kernel_rfl) ?_
  refine Xa (Xc rfl) ?_
  refine Xa (Vr rfl rfl) ?_
  refine Xa (Xu rfl) ?_
  refine Yd rfl rfl rfl ?_ ?_
  intro hg1
  have hp1 := hg1; try simp only [decide_eq_true_eq, decide_eq_false_iff_not, Bool.not_eq_true', Bool.not_eq_false'] at hp1
  refine Xn (Xj rfl rfl rfl hg1) (Xu rfl) ?_
  refine Xn (Xj rfl rfl rfl hg1) (Vm rfl) ?_
  refine Xa (Xo (congrArg Value.bool hg1) rfl) ?_
  refine Xa (Xu rfl) ?_
  refine Yd rfl rfl rfl ?_ ?_
  intro hg2
  have hp2 := hg2; try simp only [decide_eq_true_eq, decide_eq_false_iff_not, Bool.not_eq_true', Bool.not_eq_false'] at hp2
  refine Xn (Xj rfl rfl rfl hg2) (Xu rfl) ?_
  refine Xn (Xj rfl rfl rfl hg2) (Vm rfl) ?_
  refine Xa (Xo (congrArg Value.bool hg2) rfl) ?_
  refine Xa (Xu rfl) ?_
  refine Yd rfl rfl rfl ?_ ?_
  intro hg3
  have hp3 := hg3; try simp only [decide_eq_true_eq, decide_eq_false_iff_not, Bool.not_eq_true', Bool.not_eq_false'] at hp3
  refine Xn (Xj rfl rfl rfl hg3) (Xx rfl) ?_
  refine Z8 (Xj rfl rfl rfl hg3) (Xy (Few_ints ns _ 4 _ (hn.mono (Hp.le_trans leH2 le3).sees) hnl (by decide) (by decide)) rfl Try.func14 rfl rfl rfl ?_)
  rintro v34 H4 ⟨le4, sl4⟩
  refine Z8 (Xj rfl rfl rfl hg3) (Xy (Ahead_no _ _) rfl Try.func15 rfl rfl rfl ?_)
  rintro v35 H4 ⟨rfl, rfl⟩
  refine Xn (Xj rfl rfl rfl hg3) (Vr rfl rfl) ?_
  refine Xa (Xo (congrArg Value.bool hg3) rfl) ?_
  refine Xa (Xu rfl) ?_
  refine Yd rfl rfl rfl ?_ ?_
  intro hg4
  have hp4 := hg4; try simp only [decide_eq_true_eq, decide_eq_false_iff_not, Bool.not_eq_true', Bool.not_eq_false'] at hp4
  refine Xn (Xj rfl rfl rfl hg4) (Xc rfl) ?_
  refine Z8 (Xj rfl rfl rfl hg4) (Xy (Work_no k hk _) rfl Try.func16 rfl rfl rfl ?_)
  rintro v40 H4 ⟨rfl, rfl⟩
  refine Xn (Xj rfl rfl rfl hg4) (Vr rfl rfl) ?_
  refine Xa (Xo (congrArg Value.bool hg4) rfl) ?_
  refine Xa (Xu rfl) ?_
  refine Yd rfl rfl rfl ?_ ?_
  intro hg5
  have hp5 := hg5; try simp only [decide_eq_true_eq, decide_eq_false_iff_not, Bool.not_eq_true', Bool.not_eq_false'] at hp5
  refine Z8 (Xj rfl rfl rfl hg5) (Xy (lives32_ok _) rfl Try.func9 rfl rfl rfl ?_)
  rintro v H' ⟨rfl, hlv⟩
  refine Xa (Xo (congrArg Value.bool hg5) rfl) ?_
  refine Xa (Xm rfl) ?_
  refine X8 ?_
  exact ⟨.bool true, X1 (Xv rfl), rfl, Hp.le_trans (Hp.le_trans leH2 (Hp.le_trans le3 le4)) hlv⟩
  intro hg5
  exact absurd hg5 (by decide)
  intro hg4
  exact absurd hg4 (by decide)
  intro hg3
  exact absurd hg3 (by decide)
  intro hg2
  exact absurd hg2 (by decide)
  intro hg1
  exact absurd hg1 (by decide)
end Go.Proofs.Ytmakkmcjocjgmaa.Am


/- Links among the arguments of a statement. -/
namespace Go.Proofs.Ytmakkmcjocjgmaa.Am
open Go Go.RowKit
set_option maxRecDepth 100000
theorem cells_i64 : Try.prog.cellsOf 3 = 1 := by kernel_rfl
theorem opens_ints : Opens Try.prog (kSl (Yy .i64)) 33 (fun xs => xs.length ≤ maxLen ∧ ∀ x ∈ xs, fits .i64 x) := opens_sl Try.underlying33 cells_i64 (opens_int Try.underlying3)
end Go.Proofs.Ytmakkmcjocjgmaa.Am


/- Lists of numbers without sign among the arguments of a statement. -/
namespace Go.Proofs.Ytmakkmcjocjgmaa.Am
open Go Go.RowKit
set_option maxRecDepth 100000
end Go.Proofs.Ytmakkmcjocjgmaa.Am
