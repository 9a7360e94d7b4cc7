/- Texts that the proof rests on, part 6: lemmas for every heap that is related to a world, no condition beyond each lemma's own. -/
import Derived.Test.YtmakkmcjocjgmaaGreatCx5
import Derived.Test.YtmakkmcjocjgmaaGreatCxBytes
import Derived.Test.YtmakkmcjocjgmaaGreatCx4
import Derived.Test.YtmakkmcjocjgmaaGreatCx3
import Derived.Test.YtmakkmcjocjgmaaGreatCxGrow
import Derived.Test.YtmakkmcjocjgmaaGreatCxSlice3
namespace Go.Proofs.YtmakkmcjocjgmaaGreat.Am
open Go Go.RowKit
set_option linter.unusedVariables false
set_option linter.unusedSimpArgs false
set_option maxRecDepth 100000
structure BigF (f : Forest) : Prop where
 l0 : f.vars.length ≤ 9223372036854775807
 l1 : f.order.length ≤ 9223372036854775807
 l2 : f.parent.length ≤ 9223372036854775807
 l3 : f.links.length ≤ 9223372036854775807
 l4 : f.loops.length ≤ 9223372036854775807
 s3 : ∀ l ∈ f.links, l.length ≤ 9223372036854775807
 s4 : ∀ l ∈ f.loops, l.length ≤ 9223372036854775807
structure BigP (p : Parts) : Prop where
 l0 : p.nodes.length ≤ 9223372036854775807
 l1 : p.links.length ≤ 9223372036854775807
 s0 : ∀ l ∈ p.nodes, l.length ≤ 9223372036854775807
 s1 : ∀ l ∈ p.links, l.length ≤ 9223372036854775807
theorem Forest_28 (f : Forest) (cs : List Value) (H : Hp) (hp : kForest.rep H f cs) (hb : BigF f) :
  ACalls Tryz.prog 10 #[.agg cs.toArray] H (fun r H' => H.le H' ∧ ∃ ds, r = .agg ds.toArray ∧ kForest.rep H' f.few ds) := by
 have hp0 := hp
 obtain ⟨v0, v1, v2, v3, v4, rfl, hs0, hs1, hs2, hs3, hs4⟩ := hp
 obtain ⟨A0, c0, rfl⟩ := hs0.shape
 obtain ⟨A1, c1, rfl⟩ := hs1.shape
 obtain ⟨A2, c2, rfl⟩ := hs2.shape
 obtain ⟨A3, c3, rfl⟩ := hs3.shape
 obtain ⟨A4, c4, rfl⟩ := hs4.shape
 refine Xv Tryz.func10 rfl rfl rfl (by simp) ?_
 refine Xe ?_
 refine Xu ?_
 refine X0 (Yt rfl) ?_
 refine X0 (Yy (l := [.slice none 0 0, .slice none 0 0, .slice none 0 0, .slice none 0 0, .slice none 0 0]) inf26.zero rfl (by decide)) ?_
 refine Xe ?_
 refine Xu ?_
 refine Xa (Yg (cs := [.slice _ _ _, .slice _ _ _, .slice _ _ _, .slice _ _ _, .slice _ _ _]) rfl Tryz.underlying26 rfl inf26.size X6) ?_
 refine Xx (Xy (Few_forest f _ _ (kForest.mono Zk hp0) hb.l0 hb.l1 hb.l2 hb.l3 hb.l4 hb.s3 hb.s4) rfl Tryz.func45 rfl rfl rfl ?_)
 rintro v2 H2 ⟨hle2, ds, rfl, hds⟩; have hds0 := hds; obtain ⟨a0, a1, a2, a3, a4, rfl, ht0, ht1, ht2, ht3, ht4⟩ := hds; obtain ⟨B0, d0, rfl⟩ := ht0.shape; obtain ⟨B1, d1, rfl⟩ := ht1.shape; obtain ⟨B2, d2, rfl⟩ := ht2.shape; obtain ⟨B3, d3, rfl⟩ := ht3.shape; obtain ⟨B4, d4, rfl⟩ := ht4.shape; have hz2 := hle2.1; simp only [Hp.push_size] at hz2
 refine Xx (Yf (vs := [.slice _ _ _, .slice _ _ _, .slice _ _ _, .slice _ _ _, .slice _ _ _]) rfl rfl inf26.size Yb Yd rfl rfl ?_)
 refine X1 ?_
 have k1 : H2.get (H.size + 1) = .own 0 [.slice none 0 0, .slice none 0 0, .slice none 0 0, .slice none 0 0, .slice none 0 0] := Xr hle2 (by simp) (by intro e; cases e) Yb
 exact ⟨_, Xw (Yr Xl (Yq (cs := [_, _, _, _, _]) Tryz.underlying26 rfl inf26.size X6)), Hp.le_put_new (Hp.le_trans (Hp.le_push' (H.le_push _) _) hle2) (by simp <;> omega) _, [_, _, _, _, _], rfl, kForest.mono (Hp.sees_box _ k1) hds0⟩
theorem small_few (f : Forest) (p : Parts) : Small f.few p.few4 := by
 have h8 : ∀ {α : Type} (xs : List α), (xs.take 8).length ≤ 8 := fun xs => by rw [List.length_take]; omega
 refine ⟨?_, ?_, ?_, ?_, ?_, fun l hl => ?_, fun l hl => ?_⟩
 ·show ((f.vars.take 8).map _).length ≤ _; rw [List.length_map]; have := h8 f.vars; omega
 ·show (f.order.take 8).length ≤ _; have := h8 f.order; omega
 ·show (f.parent.take 8).length ≤ _; have := h8 f.parent; omega
 ·show (((p.nodes.take 8).map Va).map _).length ≤ _; rw [List.length_map, List.length_map]; have := h8 p.nodes; omega
 ·show ((p.links.take 8).map Va).length ≤ _; rw [List.length_map]; have := h8 p.links; omega
 ·obtain ⟨m, _, rfl⟩ := List.mem_map.1 hl
  rw [List.length_take]; omega
 ·obtain ⟨m, _, rfl⟩ := List.mem_map.1 hl
  unfold Va; rw [List.length_map, List.length_take]; omega
theorem Link.few_few (x : Link) : x.few.few = x.few := by
 unfold Link.few
 by_cases h : 1000000000 < x.cost
 ·rw [if_pos h]; simp
 ·rw [if_neg h, if_neg h]
theorem fewL_le (xs : List Link) : (Va xs).length ≤ 25 := by unfold Va; rw [List.length_map, List.length_take]; omega
theorem fewL_take (m : Nat) (xs : List Link) : Va ((Va xs).take m) = (Va xs).take m := by
 have h : (Va xs).map Link.few = Va xs := by
  unfold Va
  rw [List.map_map, show Link.few ∘ Link.few = Link.few from funext Link.few_few]
 show (((Va xs).take m).take 25).map Link.few = _
 rw [List.take_of_length_le (by rw [List.length_take]; have := fewL_le xs; omega), List.map_take, h]
theorem fewL_idem (xs : List Link) : Va (Va xs) = Va xs := by
 have := fewL_take (Va xs).length xs
 rwa [List.take_length] at this
theorem few4_few4 (p : Parts) : p.few4.few4 = p.few4 := by
 unfold Parts.few4 Parts.few
 simp only [List.map_map, ← List.map_take, List.take_take, Nat.min_self]
 congr 1
 ·refine List.map_congr_left fun l _ => ?_
  simp only [Function.comp]
  rw [fewL_take, List.take_take, Nat.min_self]
 ·exact List.map_congr_left fun l _ => fewL_idem l
theorem cutS_idem (s : ByteArray) : cutS (cutS s 32) 32 = cutS s 32 := by
 unfold cutS
 by_cases h : 32 < s.size
 ·rw [if_pos h, if_neg (by rw [ByteArray.size_extract]; omega)]
 ·rw [if_neg h, if_neg h]
theorem ffew_ffew (f : Forest) : f.few.few = f.few := by
 unfold Forest.few
 simp only [← List.map_take, List.take_take, Nat.min_self, List.map_map]
 congr 1
 ·exact List.map_congr_left fun s _ => cutS_idem s
 ·exact List.map_congr_left fun l _ => by simp [List.take_take]
 ·exact List.map_congr_left fun l _ => by simp [List.take_take]
theorem bigF_few (f : Forest) : BigF f.few := by
 have h := (small_few f ⟨[], []⟩)
 have h8 : ∀ {α : Type} (xs : List α), (xs.take 8).length ≤ 8 := fun xs => by rw [List.length_take]; omega
 refine ⟨by have := h.s0; omega, by have := h.s1; omega, by have := h.s2; omega, ?_, ?_, fun l hl => ?_, fun l hl => ?_⟩
 ·show ((f.links.take 8).map _).length ≤ _; rw [List.length_map]; have := h8 f.links; omega
 ·show ((f.loops.take 8).map _).length ≤ _; rw [List.length_map]; have := h8 f.loops; omega
 ·obtain ⟨m, _, rfl⟩ := List.mem_map.1 hl; rw [List.length_take]; omega
 ·obtain ⟨m, _, rfl⟩ := List.mem_map.1 hl; rw [List.length_take]; omega
theorem bigP_few (p : Parts) : BigP p.few4 := by
 have h := (small_few ⟨[], [], [], [], []⟩ p)
 exact ⟨by have := h.s3; omega, by have := h.s4; omega, fun l hl => by have := h.s5 l hl; omega, fun l hl => by have := h.s6 l hl; omega⟩
theorem small_sub {f : Forest} {p q : Parts} (h : Small f p) (hl : Lens f.vars.length q) (hs : Sub q p) : Small f q :=
 ⟨h.s0, h.s1, h.s2, by rw [hl.1]; exact h.s0, by rw [hl.2]; exact h.s0, fun l hm => by
  obtain ⟨i, hi, rfl⟩ := List.getElem_of_mem hm
  have k1 := (hs i).1.length_le
  unfold nd at k1
  rw [Zb hi] at k1
  exact Nat.le_trans k1 (Vv h.s5 i), fun l hm => by
  obtain ⟨i, hi, rfl⟩ := List.getElem_of_mem hm
  have k1 := (hs i).2.length_le
  unfold lk at k1
  rw [Zb hi] at k1
  exact Nat.le_trans k1 (Vv h.s6 i)⟩

def Reach (T : TreeT) : Prop := ∀ (i : Nat) (a : Int), i < T.vars.length → T.group i a ≠ [] → (T.parent.getD i 0 = -1 → a = -1) → a ∈ aboveT T T.vars.length i
theorem group_pos {f : Forest} {x : Parts} (hG : GoodP f x) (hF : ∀ v : Nat, v < f.vars.length → par f v ≠ -1 → Full f x v) (i a : Int) : ∀ z ∈ (Zd f x).group i a, 1 ≤ z.n ∧ z.n ≤ 4611686018427387904 := fun z hz => by
 rw [group_same hG hF] at hz
 unfold groupR at hz
 split at hz
 ·rename_i hi
  obtain ⟨y, hy, h1⟩ := List.mem_filterMap.1 hz
  have hv := (hG.gf.vAt_lt (s := i.toNat) (by have := hG.gf.l1; omega)).1
  have okn : ∀ y ∈ nd x (Vc f i.toNat), 1 ≤ y.n ∧ y.n ≤ 4611686018427387904 := fun y hy => by
   obtain ⟨j, hj, rfl⟩ := List.getElem_of_mem hy
   exact ⟨((hG.ok _ hv).1 j hj).1.2.2.2.2.2.1, ((hG.ok _ hv).1 j hj).1.2.2.2.2.2.2⟩
  have okl : ∀ y ∈ lk x (Vc f i.toNat), 1 ≤ y.n ∧ y.n ≤ 4611686018427387904 := fun y hy => by
   obtain ⟨j, hj, rfl⟩ := List.getElem_of_mem hy
   exact ⟨((hG.ok _ hv).2.1 j hj).1.2.2.2.2.2.1, ((hG.ok _ hv).2.1 j hj).1.2.2.2.2.2.2⟩
  unfold Vb at h1
  split at h1
  ·split at h1
   ·rename_i h2
    obtain ⟨j, hj, hjl, hja, hjb⟩ := findI_link h2
    injection h1 with h1
    subst h1
    rw [hj, Int.toNat_natCast, List.getD_eq_getElem?_getD, List.getElem?_eq_getElem hjl]
    simp only [Option.getD_some]
    obtain ⟨a1, a2⟩ := okn y hy
    obtain ⟨b1, b2⟩ := okl _ (List.getElem_mem hjl)
    have h3 := Uc (a := y.n) (b := ((lk x (Vc f i.toNat))[j]).n) (by omega) (by omega)
    refine ⟨?_, h3.2⟩
    have h4 : Ze y.n ((lk x (Vc f i.toNat))[j]).n = capI (y.n.toNat * ((lk x (Vc f i.toNat))[j]).n.toNat) := by
     rw [← timesI_cap, ← timesI_nat, timesI_comm _ (capI _), ← timesI_nat, timesI_comm, Int.toNat_of_nonneg (by omega), Int.toNat_of_nonneg (by omega)]
    have h5 : capI (y.n.toNat * ((lk x (Vc f i.toNat))[j]).n.toNat) ≠ 0 := fun e => by
     rw [cap_zero, Nat.mul_eq_zero] at e
     omega
    rw [h4] at h3 ⊢
    omega
   ·cases h1
  ·injection h1 with h1
   subst h1
   exact okn y hy
 ·cases hz
def hasB (T : TreeT) (i : Nat) (b : Int) : Prop := ∃ a, ∃ x ∈ T.group i a, x.b = b
structure NewS (T : TreeT) (K : Hp) (tb cb mb ms m : Nat) (H : Hp) (es1 es2 : List (Value × Value)) : Prop where
 le : K.le H
 hc : H.get cb = .own 0 [.pointer (some ⟨tb, 0, none⟩), .map (some mb), .map (some ms)]
 lc : cb < H.size
 hb : H.get mb = .map es1
 lb : mb < H.size
 hs : H.get ms = .map es2
 ls : ms < H.size
 i1 : IntsM es1
 i2 : IntsM es2
 no : ∀ (k : Nat) b, k < m → Zg es1 (Zn k b) = none ∧ Zg es2 (Zn k b) = none
 c1 : ∀ (k : Nat) b, m ≤ k → k < T.vars.length → Zg es1 (Zn k b) = none ∨ (Zg es1 (Zn k b) = some (.int .u64 (belT T T.vars.length k b)) ∧ hasB T k b)
 c2 : ∀ (k : Nat) b, m ≤ k → k < T.vars.length → Zg es2 (Zn k b) = none ∨ Zg es2 (Zn k b) = some (.int .u64 (sumT T T.vars.length k b))
 d1 : ∀ (k : Nat), m ≤ k → k < T.vars.length → ∀ a ∈ aboveT T T.vars.length k, ∀ x ∈ T.group k a, Zg es1 (Zn k x.b) = some (.int .u64 (belT T T.vars.length k x.b))
 d2 : ∀ (k : Nat), m ≤ k → k < T.vars.length → ∀ a ∈ aboveT T T.vars.length k, Zg es2 (Zn k a) = some (.int .u64 (sumT T T.vars.length k a))
theorem NewS.fill {T : TreeT} {K : Hp} {tb cb mb ms i : Nat} {H : Hp} {es1 es2 : List (Value × Value)} (h : NewS T K tb cb mb ms (i + 1) H es1 es2) : FillS T K tb cb mb ms i es1 es2 H es1 es2 :=
 ⟨h.le, h.hc, h.lc, h.hb, h.lb, h.hs, h.ls, h.i1, h.i2, fun _ _ _ => rfl, fun _ _ _ => rfl, fun b => .inl (h.no i b (Nat.lt_succ_self i)).1, fun b => .inl (h.no i b (Nat.lt_succ_self i)).2⟩
theorem NewS.step {T : TreeT} {K : Hp} {tb cb mb ms i : Nat} {H H' : Hp} {es1 es2 es1' es2' : List (Value × Value)} (h : NewS T K tb cb mb ms (i + 1) H es1 es2) (hf : FillS T K tb cb mb ms i es1 es2 H' es1' es2')
  (h2 : ∀ a ∈ aboveT T T.vars.length i, Zg es2' (Zn i a) = some (.int .u64 (sumT T T.vars.length i a))) (h1 : ∀ a ∈ aboveT T T.vars.length i, ∀ x ∈ T.group i a, Zg es1' (Zn i x.b) = some (.int .u64 (belT T T.vars.length i x.b))) : NewS T K tb cb mb ms i H' es1' es2' := by
 refine ⟨hf.le, hf.hc, hf.lc, hf.hb, hf.lb, hf.hs, hf.ls, hf.i1, hf.i2, fun k b hk => ?_, fun k b hk hk2 => ?_, fun k b hk hk2 => ?_, fun k hk hk2 a ha x hx => ?_, fun k hk hk2 a ha => ?_⟩
 ·rw [hf.o1 k b (by omega), hf.o2 k b (by omega)]; exact h.no k b (by omega)
 ·by_cases he : k = i
  ·subst he; exact hf.v1 b
  ·rw [hf.o1 k b (by omega)]; exact h.c1 k b (by omega) hk2
 ·by_cases he : k = i
  ·subst he; exact hf.v2 b
  ·rw [hf.o2 k b (by omega)]; exact h.c2 k b (by omega) hk2
 ·by_cases he : k = i
  ·subst he; exact h1 a ha x hx
  ·rw [hf.o1 k _ (by omega)]; exact h.d1 k (by omega) hk2 a ha x hx
 ·by_cases he : k = i
  ·subst he; exact h2 a ha
  ·rw [hf.o2 k _ (by omega)]; exact h.d2 k (by omega) hk2 a ha
structure CntsV (T : TreeT) (es1 es2 : List (Value × Value)) : Prop where
 i1 : IntsM es1
 i2 : IntsM es2
 sum : ∀ (i : Nat) (a : Int), i < T.vars.length → cntAt es2 i (if T.parent.getD i 0 = -1 then -1 else a) = sumT T T.vars.length i a
 bel : ∀ (i : Nat) (b : Int), i < T.vars.length → (hasB T i b → cntAt es1 i b = belT T T.vars.length i b) ∧ (¬ hasB T i b → cntAt es1 i b = 0)
theorem cntAt_some {es : List (Value × Value)} {i a n : Int} (h : Zg es (Zn i a) = some (.int .u64 n)) : cntAt es i a = n := by unfold cntAt; rw [h]
theorem cntAt_none {es : List (Value × Value)} {i a : Int} (h : Zg es (Zn i a) = none) : cntAt es i a = 0 := by unfold cntAt; rw [h]
theorem group_root {T : TreeT} {i : Nat} (h : T.parent.getD i 0 = -1) (a b : Int) : T.group i a = T.group i b := by
 unfold TreeT.group TreeT.row
 rw [Int.toNat_natCast, if_pos h, if_pos h]
theorem sumT_root {T : TreeT} (hT : GoodT T) {i : Nat} (hi : i < T.vars.length) (h : T.parent.getD i 0 = -1) (a b : Int) : sumT T T.vars.length i a = sumT T T.vars.length i b := by
 rw [sum_is hT hi, sum_is hT hi, group_root h a b]
theorem NewS.done {T : TreeT} (hT : GoodT T) (hR : Reach T) {K : Hp} {tb cb mb ms : Nat} {H : Hp} {es1 es2 : List (Value × Value)} (h : NewS T K tb cb mb ms 0 H es1 es2) : CntsV T es1 es2 := by
 refine ⟨h.i1, h.i2, fun i a hi => ?_, fun i b hi => ⟨fun ⟨a, x, hx, hb⟩ => ?_, fun hno => ?_⟩⟩
 ·obtain ⟨a', ha'⟩ : ∃ a', a' = if T.parent.getD i 0 = -1 then -1 else a := ⟨_, rfl⟩
  have hr : T.parent.getD i 0 = -1 → a' = -1 := fun e => by rw [ha', if_pos e]
  have hs : sumT T T.vars.length i a = sumT T T.vars.length i a' := by
   by_cases e : T.parent.getD i 0 = -1
   ·exact sumT_root hT hi e a a'
   ·rw [ha', if_neg e]
  rw [← ha', hs]
  by_cases hg : T.group i a' = []
  ·have h0 : sumT T T.vars.length i a' = 0 := by rw [sum_is hT hi, hg]; rfl
   rw [h0]
   rcases h.c2 i a' (Nat.zero_le _) hi with h2 | h2
   ·exact cntAt_none h2
   ·rw [cntAt_some h2, h0]
  ·exact cntAt_some (h.d2 i (Nat.zero_le _) hi a' (hR i a' hi hg hr))
 ·obtain ⟨a', ha'⟩ : ∃ a', a' = if T.parent.getD i 0 = -1 then -1 else a := ⟨_, rfl⟩
  have hr : T.parent.getD i 0 = -1 → a' = -1 := fun e => by rw [ha', if_pos e]
  have hg : T.group i a = T.group i a' := by
   by_cases e : T.parent.getD i 0 = -1
   ·exact group_root e a a'
   ·rw [ha', if_neg e]
  rw [hg] at hx
  rw [← hb]
  exact cntAt_some (h.d1 i (Nat.zero_le _) hi a' (hR i a' hi (List.ne_nil_of_mem hx) hr) x hx)
 ·rcases h.c1 i b (Nat.zero_le _) hi with h1 | h1
  ·exact cntAt_none h1
  ·exact absurd h1.2 hno
def CntR (H : Hp) (cb tb : Nat) (T : TreeT) : Prop := ∃ mb ms es1 es2, cb < H.size ∧ mb < H.size ∧ ms < H.size ∧ H.get cb = .own 0 [.pointer (some ⟨tb, 0, none⟩), .map (some mb), .map (some ms)] ∧ H.get mb = .map es1 ∧ H.get ms = .map es2 ∧ TreeR H (.pointer (some ⟨tb, 0, none⟩)) T ∧ CntsV T es1 es2
theorem CntR.mono {H H' : Hp} (hle : H.le H') {cb tb : Nat} {T : TreeT} (h : CntR H cb tb T) : CntR H' cb tb T := by
 obtain ⟨mb, ms, es1, es2, h1, h2, h3, h4, h5, h6, h7, h8⟩ := h
 exact ⟨mb, ms, es1, es2, Nat.lt_of_lt_of_le h1 hle.1, Nat.lt_of_lt_of_le h2 hle.1, Nat.lt_of_lt_of_le h3 hle.1, Xr hle h1 (by intro e; cases e) h4, Xr hle h2 (by intro e; cases e) h5, Xr hle h3 (by intro e; cases e) h6, h7.mono hle, h8⟩

structure ItemT where
 cost : Int
 nodes : List Int
 place : Int
 rank : Int
def kItemT : Kd ItemT where
 sz := 4
 pos := by decide
 rep H x cs := ∃ v, cs = [.int .i64 x.cost, v, .int .i64 x.place, .int .i64 x.rank] ∧ Sl (Y3 .i64) H v x.nodes
 len h := by obtain ⟨v, rfl, _⟩ := h; rfl
 mono he h := by obtain ⟨v, rfl, hs⟩ := h; exact ⟨v, rfl, hs.mono he⟩
 one h u hu := by
  obtain ⟨v, rfl, hs⟩ := h
  obtain ⟨A, c, rfl⟩ := hs.shape
  simp at hu
  rcases hu with rfl | rfl | rfl | rfl <;> rfl
def ItemT.cut (x : ItemT) : ItemT := { x with nodes := x.nodes.take 5 }
theorem ItemT_item (x : ItemT) (cs : List Value) (H : Hp) (hx : kItemT.rep H x cs) (hl : x.nodes.length ≤ 9223372036854775807) :
  ACalls Tryz.prog 47 #[.agg cs.toArray] H (fun r H' => H.le H' ∧ ∃ ds, r = .agg ds.toArray ∧ kItemT.rep H' x.cut ds) := by
 obtain ⟨v, rfl, hv⟩ := hx
 obtain ⟨A, c, rfl⟩ := hv.shape
 refine Xv Tryz.func47 rfl rfl rfl (by simp) ?_
 refine Xe ?_
 refine Xu ?_
 refine X0 (Yt rfl) ?_
 refine X0 (Yy (l := [.int .i64 0, .slice none 0 0, .int .i64 0, .int .i64 0]) inf85.zero rfl (by decide)) ?_
 refine Xe ?_
 refine Xu ?_
 refine Xa (Xf (off := 1) rfl Tryz.underlying85 rfl inf23.size (by decide) rfl) ?_
 refine Xa (Xj rfl Tryz.underlying23 rfl Xp) ?_
 refine Xx (Xy (Ug x.nodes _ 5 _ (hv.mono Zk) hl (by omega) (by omega)) rfl Tryz.func25 rfl rfl rfl ?_)
 rintro v5 H5 ⟨hle5, hs5⟩; have hz5 := hle5.1; simp only [Hp.push_size, Hp.put_size] at hz5; obtain ⟨A5, c5, rfl⟩ := hs5.shape
 refine Xa (Xf (off := 1) rfl Tryz.underlying85 rfl inf23.size (by decide) rfl) ?_
 first | refine Xx (Yz rfl rfl rfl inf23.size Yb Yd rfl ?_)
 refine Xe ?_
 refine Xu ?_
 refine Xa (Yg (cs := [.int .i64 _, .slice _ _ _, .int .i64 _, .int .i64 _]) rfl Tryz.underlying85 rfl inf85.size X6) ?_
 refine Xx (Yf (vs := [.int .i64 _, .slice _ _ _, .int .i64 _, .int .i64 _]) rfl rfl inf85.size Yb Yd rfl rfl ?_)
 refine X1 ?_
 refine ⟨.agg #[.int .i64 x.cost, .slice A5 (x.nodes.take 5).length c5, .int .i64 x.place, .int .i64 x.rank], Xw (Yr rfl (Yq (cs := [.int .i64 x.cost, .slice A5 (x.nodes.take 5).length c5, .int .i64 x.place, .int .i64 x.rank]) Tryz.underlying85 rfl inf85.size X6)), t_le, _, rfl, _, rfl, hs5.mono Zk⟩
structure MarkT where
 told : Int
 over : Bool
 nodes : List Int
 rest : Int
 items : List ItemT
def kMark : Kd MarkT where
 sz := 5
 pos := by decide
 rep H m cs := ∃ v w, cs = [.int .i64 m.told, .bool m.over, v, .int .u64 m.rest, w] ∧ Sl (Y3 .i64) H v m.nodes ∧ Sl kItemT H w m.items
 len h := by obtain ⟨v, w, rfl, _⟩ := h; rfl
 mono he h := by obtain ⟨v, w, rfl, h1, h2⟩ := h; exact ⟨v, w, rfl, h1.mono he, h2.mono he⟩
 one h u hu := by
  obtain ⟨v, w, rfl, h1, h2⟩ := h
  obtain ⟨A, c, rfl⟩ := h1.shape
  obtain ⟨B, c2, rfl⟩ := h2.shape
  simp at hu
  rcases hu with rfl | rfl | rfl | rfl | rfl <;> rfl
def MarkT.cut (m : MarkT) : MarkT := ⟨m.told, m.over, m.nodes.take 14, m.rest, (m.items.take 4).map ItemT.cut⟩
theorem cut_cut (m : MarkT) : m.cut.cut = m.cut := by
 unfold MarkT.cut
 simp only [List.take_take, Nat.min_self, List.map_take, List.map_map, MarkT.mk.injEq, true_and]
 refine congrArg _ (List.map_congr_left fun x _ => ?_)
 show ItemT.cut (ItemT.cut x) = ItemT.cut x
 unfold ItemT.cut
 simp [List.take_take]
structure BigM (m : MarkT) : Prop where
 n : m.nodes.length ≤ 9223372036854775807
 i : m.items.length ≤ 9223372036854775807
 x : ∀ x ∈ m.items, x.nodes.length ≤ 9223372036854775807
theorem bigM_cut (m : MarkT) : BigM m.cut := by
 refine ⟨?_, ?_, fun x hx => ?_⟩
 ·show (m.nodes.take 14).length ≤ _
  rw [List.length_take]; omega
 ·show ((m.items.take 4).map ItemT.cut).length ≤ _
  rw [List.length_map, List.length_take]; omega
 ·obtain ⟨y, _, rfl⟩ := List.mem_map.1 (show x ∈ (m.items.take 4).map ItemT.cut from hx)
  show (y.nodes.take 5).length ≤ _
  rw [List.length_take]; omega
set_option maxHeartbeats 2000000 in
theorem Mark_36 (m : MarkT) (cs : List Value) (H : Hp) (hm : kMark.rep H m cs) (hb : BigM m) :
  ACalls Tryz.prog 12 #[.agg cs.toArray] H (fun r H' => H.le H' ∧ ∃ ds, r = .agg ds.toArray ∧ kMark.rep H' m.cut ds) := by
 obtain ⟨v, w, rfl, hv, hw⟩ := hm
 obtain ⟨A, c, rfl⟩ := hv.shape
 obtain ⟨W, cW, rfl⟩ := hw.shape
 refine Xv Tryz.func12 rfl rfl rfl (by simp) ?_
 refine Xe ?_
 refine Xu ?_
 refine X0 (Yt rfl) ?_
 refine X0 (Yy (l := [.int .i64 0, .bool false, .slice none 0 0, .int .u64 0, .slice none 0 0]) inf33.zero rfl (by decide)) ?_
 refine Xe ?_
 refine Yw (by kernel_rfl) (Y1 (B := [0, 1, 0, 4, 0, 16, 48, 0, 128, 511, 0, 2047]) (π := [0, 1, 2, 3, 4, 5, 7, 8, 10, 6, 9, 11]) (by kernel_rfl)) ?_
 refine Xd rfl rfl (Xf (off := 0) rfl Tryz.underlying33 rfl inf3.size (by decide) rfl) Xq ?_
 refine Xd rfl rfl (Xj rfl Tryz.underlying3 rfl Xp) Xq ?_
 refine Xd rfl rfl (Xf (off := 1) rfl Tryz.underlying33 rfl inf4.size (by decide) rfl) Xq ?_
 refine Xd rfl rfl (Xj rfl Tryz.underlying4 rfl Xp) Xq ?_
 refine Xd rfl rfl (Xf (off := 2) rfl Tryz.underlying33 rfl inf23.size (by decide) rfl) Xq ?_
 refine Xd rfl rfl (Xj rfl Tryz.underlying23 rfl Xp) Xq ?_
 refine Xd rfl rfl (Xf (off := 3) rfl Tryz.underlying33 rfl inf30.size (by decide) rfl) Xq ?_
 refine Xd rfl rfl (Xj rfl Tryz.underlying30 rfl Xp) Xq ?_
 refine Y8 rfl rfl (Yy (l := [.int .i64 0, .bool false, .slice none 0 0, .int .u64 0, .slice none 0 0]) inf33.zero rfl (by decide)) ?_
 refine Yk rfl rfl (Xy (Ug m.nodes _ 14 _ (hv.mono Zk) hb.n (by omega) (by omega)) rfl Tryz.func25 rfl rfl rfl ?_)
 rintro v11 H5 ⟨hle5, hs5⟩; have hz5 := hle5.1; simp only [Hp.push_size, Hp.put_size] at hz5; change Sl (Y3 .i64) H5 v11 (m.nodes.take 14) at hs5; obtain ⟨A5, c5, rfl⟩ := hs5.shape; have h50 : H5.get H.size = .own 0 [.int .i64 m.told, .bool m.over, .slice A m.nodes.length c, .int .u64 m.rest, .slice W m.items.length cW] := Xr hle5 (by simp <;> omega) (by intro e; cases e) Yb; have h51 : H5.get (H.size + 1) = .own 0 [.int .i64 0, .bool false, .slice none 0 0, .int .u64 0, .slice none 0 0] := Xr hle5 (by simp <;> omega) (by intro e; cases e) Yb; have h52 : H5.get (H.size + 1 + 1) = .own 0 [.int .i64 0, .bool false, .slice none 0 0, .int .u64 0, .slice none 0 0] := Xr hle5 (by simp <;> omega) (by intro e; cases e) Yb
 refine ⟨Ye, ?_⟩
 refine Xd rfl rfl (Y6 (pl := [(0, 1), (1, 1), (2, 1), (3, 1), (4, 1)]) (r := [.int .i64 _, .bool _, .slice _ _ _, .int .u64 _, .slice _ _ _]) Tryz.underlying33 inf33.zero (by decide) rfl rfl) Xq ?_
 refine Yk rfl rfl (Yf (vs := [.int .i64 _, .bool _, .slice _ _ _, .int .u64 _, .slice _ _ _]) rfl rfl inf33.size Yb Yd rfl rfl ?_)
 refine ⟨Ye, ?_⟩
 refine Xe ?_
 refine Xe ?_
 obtain ⟨K, hK⟩ : ∃ K, K = H5.put (H.size + 1 + 1) (.own 0 [.int .i64 m.told, .bool m.over, .slice A5 (m.nodes.take 14).length c5, .int .u64 m.rest, .slice none 0 0]) := ⟨_, rfl⟩
 have k0 : K.get H.size = .own 0 [.int .i64 m.told, .bool m.over, .slice A m.nodes.length c, .int .u64 m.rest, .slice W m.items.length cW] := by rw [hK, Hp.put_other _ _ (by omega)]; exact h50
 have k1 : K.get (H.size + 1) = .own 0 [.int .i64 0, .bool false, .slice none 0 0, .int .u64 0, .slice none 0 0] := by rw [hK, Hp.put_other _ _ (by omega)]; exact h51
 have k2 : K.get (H.size + 1 + 1) = .own 0 [.int .i64 m.told, .bool m.over, .slice A5 (m.nodes.take 14).length c5, .int .u64 m.rest, .slice none 0 0] := by rw [hK]; exact Hp.put_same _ _ _
 have leK : H.le K := by rw [hK]; exact Hp.le_put_new (Hp.le_trans (Hp.le_push' (Hp.le_push' (H.le_push _) _) _) hle5) (by omega) _
 have zK : H.size + 3 ≤ K.size := by rw [hK]; simp; omega
 have sK := hs5.mono (show H5.sees K by rw [hK]; exact Hp.sees_box _ h52)
 change ACode true _ _ _ _ _ (H5.put (H.size + 1 + 1) (.own 0 [.int .i64 m.told, .bool m.over, .slice A5 (m.nodes.take 14).length c5, .int .u64 m.rest, .slice none 0 0]))
 rw [← hK]
 clear hK h50 h51 h52 hle5 hz5 hs5
 refine Xu ?_
 refine Xa (Xn rfl) ?_
 refine Yc ?_
 refine Y7 (fun n t H' => ∃ (i : Nat) (G : Hp) (B : Option Addr) (cB : Nat) (E : Option Addr), n = m.items.length - i ∧ i ≤ m.items.length ∧ i ≤ 4 ∧ Away (H.size + 1 + 1) K G ∧ G.get (H.size + 1 + 1) = .own 0 [.int .i64 m.told, .bool m.over, .slice A5 (m.nodes.take 14).length c5, .int .u64 m.rest, .slice B i cB] ∧ OwnP kItemT G H' (.slice B i cB) ((m.items.take i).map ItemT.cut) ∧ K.get H.size = .own 0 [.int .i64 m.told, .bool m.over, .slice A m.nodes.length c, .int .u64 m.rest, .slice E m.items.length cW] ∧ Sl kItemT H (.slice E m.items.length cW) m.items ∧ t 1 = .pointer (some ⟨H.size, 0, none⟩) ∧ t 2 = .pointer (some ⟨H.size + 1, 0, none⟩) ∧ t 3 = .pointer (some ⟨H.size + 1 + 1, 0, none⟩) ∧ t 4 = .int .i64 i) (m.items.length) (⟨0, K, none, 0, _, rfl, Nat.zero_le _, Nat.zero_le _, .refl _ _, k2, OwnP.nil _ _, k0, hw, rfl, rfl, rfl, rfl⟩) ?_
 rintro n t H1 ⟨i, G, B, cB, E, rfl, hi, hi4, aw, g2, hown, k0, hw, e1, e2, e3, e4⟩
 have zG := aw.size
 have zz := hown.size
 have g0 := aw.keep (b := H.size) (by omega) (by omega) (by intro e; cases e) k0
 have g1 := aw.keep (b := H.size + 1) (by omega) (by omega) (by intro e; cases e) k1
 have h0 := Xr hown.le (by omega) (by intro e; cases e) g0
 have h1 := Xr hown.le (by omega) (by intro e; cases e) g1
 have h2 := Xr hown.le (by omega) (by intro e; cases e) g2
 have sGK := aw.sees k2
 have hlenT : ((m.items.take i).map ItemT.cut).length = i := by rw [List.length_map, List.length_take]; omega
 refine Xe ?_
 refine Xe ?_
 refine Xu ?_
 refine Xa (Xc Xl) ?_
 refine Xa (Xf (off := 4) Xl Tryz.underlying33 Xl inf31.size (by decide) Xl) ?_
 refine Xa (Xj rfl Tryz.underlying31 rfl Xp) ?_
 refine Xa (Yp rfl Tryz.underlying31) ?_
 refine Xa (Y5 rfl rfl) ?_
 refine Xa (Xo rfl) ?_
 refine X7 rfl rfl rfl ?_ ?_
 intro hg1
 have hil : i < m.items.length := by have := of_decide_eq_true hg1; omega
 refine Xi (Xh rfl rfl rfl hg1) (Xc Xl) ?_
 refine Xi (Xh rfl rfl rfl hg1) (Y5 rfl rfl) ?_
 refine Xa (Xk (Yv hg1) rfl) ?_
 refine X5 rfl rfl ?_ ?_
 intro hc2
 have hi4l : i < 4 := by have := of_decide_eq_true hc2; omega
 obtain ⟨b, o, cs', eE, hbE, hr, hcell0⟩ := ((hw.mono leK.sees).mono sGK).elem_at hil
 obtain ⟨u, rfl, hu⟩ := hr
 obtain ⟨A6, c6, rfl⟩ := hu.shape
 have hcells := hown.le.cells hbE hcell0
 subst eE
 have hxl := hb.x _ (List.getElem_mem hil)
 generalize hit : m.items[i] = x at *
 have hcells2 : Cells H1 b (o + ((i : Int)).toNat * 4) [.int .i64 x.cost, .slice A6 x.nodes.length c6, .int .i64 x.place, .int .i64 x.rank] := hcells
 refine Ya ?_
 refine Xe ?_
 refine Yc ?_
 refine Yw (by kernel_rfl) (Y1 (B := [0, 1, 0, 4, 0, 28, 60, 124, 252, 511, 1023, 2047]) (π := [0, 1, 2, 3, 4, 5, 6, 7, 8, 9, 10, 11]) (by kernel_rfl)) ?_
 refine Xd rfl rfl (Xf (off := 4) Xl Tryz.underlying33 Xl inf31.size (by decide) Xl) Xq ?_
 refine Xd rfl rfl (Xj rfl Tryz.underlying31 rfl Xp) Xq ?_
 refine Xd rfl rfl (Xf (off := 4) Xl Tryz.underlying33 Xl inf31.size (by decide) Xl) Xq ?_
 refine Xd rfl rfl (Xj rfl Tryz.underlying31 rfl Xp) Xq ?_
 refine Xd rfl rfl (Xc Xl) Xq ?_
 refine Xd rfl rfl (Xs rfl rfl Tryz.underlying31 inf85.size X4 X4) Xq ?_
 refine Xd rfl rfl (Yg (cs := [.int .i64 _, .slice _ _ _, .int .i64 _, .int .i64 _]) rfl Tryz.underlying85 rfl inf85.size X6) Xq ?_
 refine Yk rfl rfl (Xy (hown.calls (ItemT_item x _ G ⟨_, rfl, hu⟩ hxl) (fun _ _ h => h.1)) rfl Tryz.func47 rfl rfl rfl ?_)
 rintro v33 H5 ⟨G5, ⟨hle5, ds, rfl, u5, rfl, hu5⟩, hown5, hleH5⟩; have z5 := hle5.1; have zz5 := hown5.size; have g50 := Xr hle5 (by omega) (by intro e; cases e) g0; have g51 := Xr hle5 (by omega) (by intro e; cases e) g1; have g52 := Xr hle5 (by omega) (by intro e; cases e) g2; have h50 := Xr hown5.le (by omega) (by intro e; cases e) g50; have h51 := Xr hown5.le (by omega) (by intro e; cases e) g51; have h52 := Xr hown5.le (by omega) (by intro e; cases e) g52; have hsame : ∀ q ∈ [b], H5.get q = H1.get q := (fun q hq => by rw [List.mem_singleton] at hq; subst hq; exact hleH5.2 _ (by omega) (fun e => by have h := hcells 0 _ rfl; unfold Hp.cell? at h; rw [e] at h; cases h))
 refine ⟨Ye, ?_⟩
 refine Y8 rfl rfl (Yj (r := [.int .i64 _, _, .int .i64 _, .int .i64 _]) Tryz.underlying31 inf85.size inf85.zero rfl (by decide) (by decide) (by decide) rfl) ?_
 refine Yk rfl rfl (OwnP.append (ys := [x.cut]) (hown5.push _) Tryz.underlying31 inf85 rfl rfl rfl (Zt (k := kItemT) ⟨_, rfl, hu5⟩ rfl hown5.size rfl) (by simp; omega) (by simp; omega) ?_)
 rintro v35 G6 H6 hle6 hown6
 have hsameO := OwnP.sameO (hown5.push _) hle6 hown6
 have le56 := Hp.le_trans (Hp.le_push _ _) hle6
 have z6 := le56.1
 have zz6 := hown6.size
 have g60 := Xr le56 (by omega) (by intro e; cases e) g50
 have g61 := Xr le56 (by omega) (by intro e; cases e) g51
 have g62 := Xr le56 (by omega) (by intro e; cases e) g52
 have h60 := Xr hown6.le (by omega) (by intro e; cases e) g60
 have h62 := Xr hown6.le (by omega) (by intro e; cases e) g62
 obtain ⟨B', c', rfl⟩ := hown6.shape
 rw [show (List.map ItemT.cut (m.items.take i)) ++ [x.cut] = (m.items.take (i + 1)).map ItemT.cut by rw [← Y2 hil, List.map_append, hit]; rfl] at hown6 ⊢
 have hlen2 : ((m.items.take (i + 1)).map ItemT.cut).length = i + 1 := by rw [List.length_map, List.length_take]; omega
 rw [hlen2] at hown6 ⊢
 refine ⟨Ye, ?_⟩
 refine Xd rfl rfl (Xf (off := 4) Xl Tryz.underlying33 Xl inf31.size (by decide) Xl) Xq ?_
 first | refine Yk rfl rfl (Yz rfl rfl rfl inf31.size Yb Yd rfl ?_)
 refine ⟨Ye, ?_⟩
 refine Xu ?_
 refine Xa (Xc Xl) ?_
 refine Xa (Yo rfl rfl Y0) ?_
 refine Xa (Xn rfl) ?_
 exact ⟨m.items.length - (i + 1), by omega, i + 1, G6.put (H.size + 1 + 1) (.own 0 [.int .i64 m.told, .bool m.over, .slice A5 (m.nodes.take 14).length c5, .int .u64 m.rest, .slice B' (i + 1) c']), B', c', _, rfl, by omega, by omega, (aw.trans (.of_le (Hp.le_trans hle5 le56))).put _, Hp.put_same _ _ _, hown6.put (by rw [g62]; intro e; cases e) _ (Hp.sees_box _ g62), k0, hw, e1, e2, e3, rfl⟩
 intro hc2
 have hi4l : i = 4 := by have := of_decide_eq_false hc2; omega
 have hend : m.items.take 4 = m.items.take i := by rw [hi4l]
 refine Yx ?_
 refine Xe ?_
 refine Xu ?_
 refine Xa (Yg (cs := [.int .i64 _, .bool _, .slice _ _ _, .int .u64 _, .slice _ _ _]) Xl Tryz.underlying33 Xl inf33.size X6) ?_
 refine Xx (Yf (vs := [.int .i64 _, .bool _, .slice _ _ _, .int .u64 _, .slice _ _ _]) Xl Xl inf33.size Yb Yd Xl Xl ?_)
 refine X1 ?_
 refine ⟨_, Xw (Yr Xl (Yq (cs := [_, _, _, _, _]) Tryz.underlying33 rfl inf33.size X6)), Hp.le_put_new (Hp.le_trans (aw.base leK (by omega)) hown.le) (by omega) _, [.int .i64 m.told, .bool m.over, .slice A5 (m.nodes.take 14).length c5, .int .u64 m.rest, .slice B i cB], rfl, .slice A5 (m.nodes.take 14).length c5, .slice B i cB, rfl, ?_, ?_⟩
 ·exact ((sK.mono sGK).mono hown.le.sees).mono (Hp.sees_box _ h1)
 ·show Sl kItemT _ (.slice B i cB) ((m.items.take 4).map ItemT.cut)
  rw [hend]
  exact hown.sl.mono (Hp.sees_box _ h1)
 intro hg1
 have hil : i = m.items.length := by have := of_decide_eq_false hg1; omega
 have hend : m.items.take 4 = m.items.take i := by rw [List.take_of_length_le (by omega), List.take_of_length_le (by omega)]
 refine Xb (Xg rfl rfl rfl hg1 rfl) ?_
 refine Xb (Xg rfl rfl rfl hg1 rfl) ?_
 refine Xa (Xk (Yv hg1) Xl) ?_
 refine Y4 rfl rfl ?_
 refine Yx ?_
 refine Xe ?_
 refine Xu ?_
 refine Xa (Yg (cs := [.int .i64 _, .bool _, .slice _ _ _, .int .u64 _, .slice _ _ _]) Xl Tryz.underlying33 Xl inf33.size X6) ?_
 refine Xx (Yf (vs := [.int .i64 _, .bool _, .slice _ _ _, .int .u64 _, .slice _ _ _]) Xl Xl inf33.size Yb Yd Xl Xl ?_)
 refine X1 ?_
 refine ⟨_, Xw (Yr Xl (Yq (cs := [_, _, _, _, _]) Tryz.underlying33 rfl inf33.size X6)), Hp.le_put_new (Hp.le_trans (aw.base leK (by omega)) hown.le) (by omega) _, [.int .i64 m.told, .bool m.over, .slice A5 (m.nodes.take 14).length c5, .int .u64 m.rest, .slice B i cB], rfl, .slice A5 (m.nodes.take 14).length c5, .slice B i cB, rfl, ?_, ?_⟩
 ·exact ((sK.mono sGK).mono hown.le.sees).mono (Hp.sees_box _ h1)
 ·show Sl kItemT _ (.slice B i cB) ((m.items.take 4).map ItemT.cut)
  rw [hend]
  exact hown.sl.mono (Hp.sees_box _ h1)
def oddI (n : Int) : Prop := n < 0 ∨ 10000 ≤ n
instance (n : Int) : Decidable (oddI n) := by unfold oddI; infer_instance
theorem Odd_int (n : Int) (H : Hp) : ACalls Tryz.prog 102 #[.int .i64 n] H (fun r H' => r = .bool (decide (oddI n)) ∧ H' = H) := by
 refine ACalls.pure (R := fun r => r = .bool (decide (oddI n))) (fun v h => by rw [h]; rfl) ?_
 refine Xv Tryz.func102 rfl rfl rfl (by simp) ?_
 refine Xe ?_
 refine Xu ?_
 refine Xa (Xm rfl) ?_
 refine Xe ?_
 refine Xu ?_
 refine Xa (Xc rfl) ?_
 refine Xa (Y5 rfl rfl) ?_
 refine Xa (Xo rfl) ?_
 refine X7 rfl rfl rfl ?_ ?_
 intro hg1
 have h1 : n < 0 := of_decide_eq_true hg1
 refine Xb (Xg rfl rfl rfl hg1 rfl) ?_
 refine Xb (Xg rfl rfl rfl hg1 rfl) ?_
 refine Xa (Xk (Yv hg1) rfl) ?_
 refine Xa (Xm rfl) ?_
 refine X1 ?_
 first
  | exact ⟨.bool true, Xw (Xt rfl), congrArg Value.bool (decide_eq_true (.inl h1)).symm⟩
  | exact ⟨.bool (decide (n ≥ 10000)), Xw (Xt rfl), congrArg Value.bool (decide_eq_decide.2 ⟨fun h => .inr h, fun h => h.resolve_left h1⟩)⟩
 intro hg1
 have h1 : ¬ n < 0 := of_decide_eq_false hg1
 refine Xi (Xh rfl rfl rfl hg1) (Xc rfl) ?_
 refine Xi (Xh rfl rfl rfl hg1) (av_ge rfl rfl) ?_
 refine Xa (Xk (Yv hg1) rfl) ?_
 refine Xa (Xm rfl) ?_
 refine X1 ?_
 first
  | exact ⟨.bool true, Xw (Xt rfl), congrArg Value.bool (decide_eq_true (.inl h1)).symm⟩
  | exact ⟨.bool (decide (n ≥ 10000)), Xw (Xt rfl), congrArg Value.bool (decide_eq_decide.2 ⟨fun h => .inr h, fun h => h.resolve_left h1⟩)⟩
theorem IndexI_raw (xs : List Int) (v : Value) (H : Hp) (hs : Sl (Y3 .i64) H v xs) (hl : xs.length ≤ 9223372036854775807) :
  ACalls Tryz.prog 126 #[v, .func (.func 102) #[] #[]] H (fun r _ => ∃ k : Int, r = .int .i64 k ∧ -1 ≤ k ∧ (0 ≤ k ↔ ¬ ∀ x ∈ xs, ¬ oddI x)) := by
 obtain ⟨A, c, rfl⟩ := hs.shape
 refine Xv Tryz.func126 rfl rfl rfl (by simp) ?_
 refine Xe ?_
 refine Xu ?_
 refine Xa (Xn rfl) ?_
 refine Xe ?_
 refine Xe ?_
 refine Xu ?_
 refine Xa (X2 rfl) ?_
 refine Xa (Yp rfl Tryz.underlying23) ?_
 refine Xa (Xc rfl) ?_
 refine Yc ?_
 refine Y7 (fun n t H' => ∃ (i : Nat), i ≤ xs.length ∧ n = xs.length - i ∧ H' = H ∧ (∀ x ∈ xs.take i, ¬ oddI x) ∧ t 0 = .slice A xs.length c ∧ t 1 = .func (.func 102) #[] #[] ∧ t 7 = .int .i64 xs.length ∧ t 8 = .int .i64 i) (xs.length) (⟨0, by omega, rfl, rfl, by simp, rfl, rfl, rfl, rfl⟩) ?_
 rintro n t _ ⟨i, hi, rfl, rfl, hno, e0, e1, e7, e8⟩
 refine Xe ?_
 refine Xu ?_
 refine Xa (Y5 Xl Xl) ?_
 refine Xe ?_
 refine X5 rfl rfl ?_ ?_
 intro hc1
 (try simp only [Ys] at hc1)
 refine Ya ?_
 refine Xe ?_
 refine Yc ?_
 refine Xe ?_
 refine Xu ?_
 refine Xa (Xc Xl) ?_
 refine Xa (Xn rfl) ?_
 refine Xe ?_
 refine Xu ?_
 refine Xa (Z8 Xl) ?_
 refine Xa (X2 Xl) ?_
 refine Xa (Xc rfl) ?_
 have hix : i < xs.length := by omega
 obtain ⟨b, o, rfl, hb, hcell1⟩ := hs.int_at (i := (i : Int)) (by omega) (by omega)
 rw [Int.toNat_natCast, Zc hix] at hcell1
 refine Xa (Xs rfl rfl Tryz.underlying23 inf3.size X4 X4) ?_
 refine Xa (Xj rfl Tryz.underlying3 rfl Xp) ?_
 refine Xx (Xy (Odd_int xs[i] _) rfl Tryz.func102 rfl rfl rfl ?_)
 rintro v5 H1 ⟨rfl, rfl⟩
 refine X5 rfl rfl ?_ ?_
 intro hc2
 have hne : oddI xs[i] := of_decide_eq_true hc2
 refine Xe ?_
 refine Xu ?_
 refine Xa (Xc rfl) ?_
 refine Xa (Xn rfl) ?_
 refine X1 ?_
 exact ⟨.int .i64 i, Xw (Xt Xl), i, rfl, by omega, fun _ h => h _ (List.getElem_mem hix) hne, fun _ => by omega⟩
 intro hc2
 have heq : ¬ oddI xs[i] := of_decide_eq_false hc2
 refine Ya ?_
 refine Xu ?_
 refine Xa (Yo Xl Xl Y0) ?_
 refine Xa (Xc rfl) ?_
 refine ⟨xs.length - (i + 1), by omega, i + 1, by omega, rfl, rfl, ?_, e0, e1, e7, rfl⟩
 rw [← Y2 hix]
 intro x hx
 rcases List.mem_append.1 hx with hx | hx
 ·exact hno x hx
 ·simp at hx; rw [hx]; exact heq
 intro hc1
 (try simp only [Ys] at hc1)
 refine Yx ?_
 refine Xe ?_
 refine Xu ?_
 refine Xa (Xn rfl) ?_
 refine X1 ?_
 rw [List.take_of_length_le (by omega)] at hno
 exact ⟨.int .i64 (-1), Xw (Xt rfl), -1, rfl, by omega, fun h => by omega, fun h => absurd hno h⟩
theorem Contains_ints (xs : List Int) (v : Value) (H : Hp) (hs : Sl (Y3 .i64) H v xs) (hl : xs.length ≤ 9223372036854775807) :
  ACalls Tryz.prog 103 #[v, .func (.func 102) #[] #[]] H (fun r H' => (∃ g, r = .bool g ∧ (g = false ↔ ∀ x ∈ xs, ¬ oddI x)) ∧ H' = H) := by
 refine ACalls.pure (R := fun r => ∃ g, r = .bool g ∧ (g = false ↔ ∀ x ∈ xs, ¬ oddI x)) (fun v ⟨g, h, _⟩ => by rw [h]; rfl) ?_
 have hs := hs.mono H.sees_ro
 obtain ⟨A, c, rfl⟩ := hs.shape
 refine Xv Tryz.func103 rfl rfl rfl (by simp) ?_
 refine Xe ?_
 refine Xu ?_
 refine Xa (Xm rfl) ?_
 refine Xe ?_
 refine Xu ?_
 refine Xa (X2 rfl) ?_
 refine Xa (Z8 rfl) ?_
 refine Xx (Xy (IndexI_raw xs _ _ hs hl) rfl Tryz.func126 rfl rfl rfl ?_)
 rintro v2 H2 ⟨k, rfl, hk, hk2⟩
 refine Xa (av_ge rfl rfl) ?_
 refine Xa (Xm rfl) ?_
 refine X1 ?_
 refine ⟨_, Xw (Xt rfl), decide (k ≥ 0), rfl, ?_⟩
 rw [decide_eq_false_iff_not]
 exact ⟨fun h => Decidable.not_not.1 fun h2 => h (hk2.2 h2), fun h h2 => hk2.1 h2 h⟩
structure GoodM (m : MarkT) : Prop where
 i : m.items.length = 0
 t0 : 0 ≤ m.told
 t1 : m.told ≤ 9007199254740992
 n : m.nodes.length ≤ 12
 x : ∀ n ∈ m.nodes, ¬ oddI n
 e : (0 < m.nodes.length ∧ m.over = false) ∨ (m.nodes.length = 0 ∧ m.rest = 0)
theorem good_raw (m : MarkT) (cs : List Value) (H : Hp) (hm : kMark.rep H m cs) (hb : BigM m) :
    ACalls Tryz.prog 75 #[.agg cs.toArray] H (fun r _ => ∃ g, r = .bool g ∧ (g = true ↔ GoodM m)) := by
  obtain ⟨v, w, rfl, hv, hw⟩ := hm
  obtain ⟨A, c, rfl⟩ := hv.shape
  obtain ⟨W, cW, rfl⟩ := hw.shape
  have hbn := hb.n
  have hbi := hb.i
  obtain ⟨gx, hgx⟩ : ∃ gx : Bool, (gx = true ↔ (m.items.length = 0 ∧ 0 ≤ m.told ∧ m.told ≤ 9007199254740992 ∧ m.nodes.length ≤ 12 ∧ ∀ n ∈ m.nodes, ¬ oddI n)) := ⟨decide (m.items.length = 0 ∧ 0 ≤ m.told ∧ m.told ≤ 9007199254740992 ∧ m.nodes.length ≤ 12 ∧ ∀ n ∈ m.nodes, ¬ oddI n), decide_eq_true_iff⟩
  obtain ⟨K, hK⟩ : ∃ K, K = H.push (.own 0 [.int .i64 m.told, .bool m.over, .slice A m.nodes.length c, .int .u64 m.rest, .slice W m.items.length cW]) := ⟨_, rfl⟩
  have kg : K.get H.size = .own 0 [.int .i64 m.told, .bool m.over, .slice A m.nodes.length c, .int .u64 m.rest, .slice W m.items.length cW] := by rw [hK]; exact Hp.push_new _ _
  have kz : K.size = H.size + 1 := by rw [hK]; simp
  refine Xv Tryz.func75 rfl rfl rfl (by simp) ?_
  refine Xe ?_
  refine Xu ?_
  refine X0 (Yt rfl) ?_
  refine Xa (Xm rfl) ?_
  refine Xe ?_
  refine Xu ?_
  refine Xa (Ut rfl) ?_
  refine Xe ?_
  refine Xe ?_
  change ACode true _ _ _ _ _ (H.push (.own 0 [.int .i64 m.told, .bool m.over, .slice A m.nodes.length c, .int .u64 m.rest, .slice W m.items.length cW]))
  have hvK : Sl (Y3 .i64) K (.slice A m.nodes.length c) m.nodes := by rw [hK]; exact hv.mono (H.le_push _).sees
  rw [← hK]
  refine ac_cut (fun t H' => H' = K ∧ t 1 = .pointer (some ⟨H.size, 0, none⟩) ∧ t 29 = .bool (!gx)) ?_ ?_
  refine Xu ?_
  refine Xa (Xf (off := 4) rfl Tryz.underlying33 rfl inf31.size (by decide) rfl) ?_
  refine Xa (Xj rfl Tryz.underlying31 rfl Xp) ?_
  refine Xa (Yp rfl Tryz.underlying31) ?_
  refine Xa (Vo rfl rfl) ?_
  refine Xa (Xo rfl) ?_
  refine X7 rfl rfl rfl ?_ ?_
  intro hg1
  have p1 : ¬ m.items.length = 0 := by have := of_decide_eq_true hg1; omega
  have hgf : gx = false := by cases gx with | false => rfl | true => exact absurd (hgx.1 rfl).1 p1
  refine Xb (Xg rfl rfl rfl hg1 rfl) ?_
  refine Xb (Xg rfl rfl rfl hg1 rfl) ?_
  refine Xb (Xg rfl rfl rfl hg1 rfl) ?_
  refine Xa (Xk (Yv hg1) rfl) ?_
  refine Xa (Xo rfl) ?_
  refine Xb (Xg rfl rfl rfl rfl rfl) ?_
  refine Xb (Xg rfl rfl rfl rfl rfl) ?_
  refine Xb (Xg rfl rfl rfl rfl rfl) ?_
  refine Xa (Xk (congrArg Value.bool rfl) rfl) ?_
  refine Xa (Xo rfl) ?_
  refine Xb (Xg rfl rfl rfl rfl rfl) ?_
  refine Xb (Xg rfl rfl rfl rfl rfl) ?_
  refine Xb (Xg rfl rfl rfl rfl rfl) ?_
  refine Xb (Xg rfl rfl rfl rfl rfl) ?_
  refine Xa (Xk (congrArg Value.bool rfl) rfl) ?_
  refine Xa (Xo rfl) ?_
  refine Xb (Xg rfl rfl rfl rfl rfl) ?_
  refine Xb (Xg rfl rfl rfl rfl rfl) ?_
  refine Xb (Xg rfl rfl rfl rfl rfl) ?_
  refine Xb (Xg rfl rfl rfl rfl rfl) ?_
  refine Xa (Xk (congrArg Value.bool rfl) rfl) ?_
  first
    | exact ⟨rfl, rfl, congrArg Value.bool (by rw [hgf]; rfl)⟩
    | exact ⟨rfl, rfl, congrArg Value.bool (by rw [hgg]; simp)⟩
  intro hg1
  have p1 : m.items.length = 0 := by have := of_decide_eq_false hg1; omega
  refine Xi (Xh rfl rfl rfl hg1) (Xf (off := 0) rfl Tryz.underlying33 rfl inf3.size (by decide) rfl) ?_
  refine Xi (Xh rfl rfl rfl hg1) (Xj rfl Tryz.underlying3 rfl Xp) ?_
  refine Xi (Xh rfl rfl rfl hg1) (Y5 rfl rfl) ?_
  refine Xa (Xk (Yv hg1) rfl) ?_
  refine Xa (Xo rfl) ?_
  refine X7 rfl rfl rfl ?_ ?_
  intro hg2
  have p2 : m.told < 0 := of_decide_eq_true hg2
  have hgf : gx = false := by cases gx with | false => rfl | true => exact absurd (hgx.1 rfl).2.1 (by omega)
  refine Xb (Xg rfl rfl rfl hg2 rfl) ?_
  refine Xb (Xg rfl rfl rfl hg2 rfl) ?_
  refine Xb (Xg rfl rfl rfl hg2 rfl) ?_
  refine Xa (Xk (Yv hg2) rfl) ?_
  refine Xa (Xo rfl) ?_
  refine Xb (Xg rfl rfl rfl rfl rfl) ?_
  refine Xb (Xg rfl rfl rfl rfl rfl) ?_
  refine Xb (Xg rfl rfl rfl rfl rfl) ?_
  refine Xb (Xg rfl rfl rfl rfl rfl) ?_
  refine Xa (Xk (congrArg Value.bool rfl) rfl) ?_
  refine Xa (Xo rfl) ?_
  refine Xb (Xg rfl rfl rfl rfl rfl) ?_
  refine Xb (Xg rfl rfl rfl rfl rfl) ?_
  refine Xb (Xg rfl rfl rfl rfl rfl) ?_
  refine Xb (Xg rfl rfl rfl rfl rfl) ?_
  refine Xa (Xk (congrArg Value.bool rfl) rfl) ?_
  first
    | exact ⟨rfl, rfl, congrArg Value.bool (by rw [hgf]; rfl)⟩
    | exact ⟨rfl, rfl, congrArg Value.bool (by rw [hgg]; simp)⟩
  intro hg2
  have p2 : ¬ m.told < 0 := of_decide_eq_false hg2
  refine Xi (Xh rfl rfl rfl hg2) (Xf (off := 0) rfl Tryz.underlying33 rfl inf3.size (by decide) rfl) ?_
  refine Xi (Xh rfl rfl rfl hg2) (Xj rfl Tryz.underlying3 rfl Xp) ?_
  refine Xi (Xh rfl rfl rfl hg2) (Vo rfl rfl) ?_
  refine Xa (Xk (Yv hg2) rfl) ?_
  refine Xa (Xo rfl) ?_
  refine X7 rfl rfl rfl ?_ ?_
  intro hg3
  have p3 : m.told > 9007199254740992 := of_decide_eq_true hg3
  have hgf : gx = false := by cases gx with | false => rfl | true => exact absurd (hgx.1 rfl).2.2.1 (by omega)
  refine Xb (Xg rfl rfl rfl hg3 rfl) ?_
  refine Xb (Xg rfl rfl rfl hg3 rfl) ?_
  refine Xb (Xg rfl rfl rfl hg3 rfl) ?_
  refine Xb (Xg rfl rfl rfl hg3 rfl) ?_
  refine Xa (Xk (Yv hg3) rfl) ?_
  refine Xa (Xo rfl) ?_
  refine Xb (Xg rfl rfl rfl rfl rfl) ?_
  refine Xb (Xg rfl rfl rfl rfl rfl) ?_
  refine Xb (Xg rfl rfl rfl rfl rfl) ?_
  refine Xb (Xg rfl rfl rfl rfl rfl) ?_
  refine Xa (Xk (congrArg Value.bool rfl) rfl) ?_
  first
    | exact ⟨rfl, rfl, congrArg Value.bool (by rw [hgf]; rfl)⟩
    | exact ⟨rfl, rfl, congrArg Value.bool (by rw [hgg]; simp)⟩
  intro hg3
  have p3 : ¬ m.told > 9007199254740992 := of_decide_eq_false hg3
  refine Xi (Xh rfl rfl rfl hg3) (Xf (off := 2) rfl Tryz.underlying33 rfl inf23.size (by decide) rfl) ?_
  refine Xi (Xh rfl rfl rfl hg3) (Xj rfl Tryz.underlying23 rfl Xp) ?_
  refine Xi (Xh rfl rfl rfl hg3) (Yp rfl Tryz.underlying23) ?_
  refine Xi (Xh rfl rfl rfl hg3) (Vo rfl rfl) ?_
  refine Xa (Xk (Yv hg3) rfl) ?_
  refine Xa (Xo rfl) ?_
  refine X7 rfl rfl rfl ?_ ?_
  intro hg4
  have p4 : m.nodes.length > 12 := by have := of_decide_eq_true hg4; omega
  have hgf : gx = false := by cases gx with | false => rfl | true => exact absurd (hgx.1 rfl).2.2.2.1 (by omega)
  refine Xb (Xg rfl rfl rfl hg4 rfl) ?_
  refine Xb (Xg rfl rfl rfl hg4 rfl) ?_
  refine Xb (Xg rfl rfl rfl hg4 rfl) ?_
  refine Xb (Xg rfl rfl rfl hg4 rfl) ?_
  refine Xa (Xk (Yv hg4) rfl) ?_
  first
    | exact ⟨rfl, rfl, congrArg Value.bool (by rw [hgf]; rfl)⟩
    | exact ⟨rfl, rfl, congrArg Value.bool (by rw [hgg]; simp)⟩
  intro hg4
  have p4 : ¬ m.nodes.length > 12 := by have := of_decide_eq_false hg4; omega
  refine Xi (Xh rfl rfl rfl hg4) (Xf (off := 2) rfl Tryz.underlying33 rfl inf23.size (by decide) rfl) ?_
  refine Xi (Xh rfl rfl rfl hg4) (Xj rfl Tryz.underlying23 rfl Xp) ?_
  refine Xi (Xh rfl rfl rfl hg4) (Z8 rfl) ?_
  refine Z6 (Xh rfl rfl rfl hg4) (Xy (Contains_ints m.nodes _ _ hvK hbn) rfl Tryz.func103 rfl rfl rfl ?_)
  rintro v28 K ⟨⟨g, rfl, hg⟩, rfl⟩; have hgg : gx = !g := (by
      cases g with
      | false => exact hgx.2 ⟨p1, by omega, by omega, by omega, hg.1 rfl⟩
      | true =>
        cases gx with
        | false => rfl
        | true => exact absurd (hg.2 (hgx.1 rfl).2.2.2.2) (by decide))
  refine Xa (Xk (Yv hg4) rfl) ?_
  first
    | exact ⟨rfl, rfl, congrArg Value.bool (by rw [hgf]; rfl)⟩
    | exact ⟨rfl, rfl, congrArg Value.bool (by rw [hgg]; simp)⟩
  rintro t K ⟨rfl, e1, e29⟩
  refine X5 Xl rfl ?_ ?_
  intro hc5
  have hgf : gx = false := by have h := hc5; simpa using h
  refine Xe ?_
  refine Xu ?_
  refine Xa (Xm rfl) ?_
  refine X1 ?_
  exact ⟨_, Xw (Xt rfl), false, rfl, ⟨fun h => (by cases h), fun h => (by rw [hgx.2 ⟨h.i, h.t0, h.t1, h.n, h.x⟩] at hgf; cases hgf)⟩⟩
  intro hc5
  have hgt : gx = true := by have h := hc5; simpa using h
  obtain ⟨q1, q2, q3, q4, q5⟩ := hgx.1 hgt
  refine Ya ?_
  refine Xe ?_
  refine Xu ?_
  refine Xa (Xf (off := 2) Xl Tryz.underlying33 Xl inf23.size (by decide) Xl) ?_
  refine Xa (Xj rfl Tryz.underlying23 rfl Xp) ?_
  refine Xa (Yp rfl Tryz.underlying23) ?_
  refine Xa (Vo rfl rfl) ?_
  refine Xa (Xo rfl) ?_
  refine X7 rfl rfl rfl ?_ ?_
  intro hg6
  have r1 : 0 < m.nodes.length := by have := of_decide_eq_true hg6; omega
  refine Xi (Xh rfl rfl rfl hg6) (Xf (off := 1) Xl Tryz.underlying33 Xl inf4.size (by decide) Xl) ?_
  refine Xi (Xh rfl rfl rfl hg6) (Xj rfl Tryz.underlying4 rfl Xp) ?_
  refine Xi (Xh rfl rfl rfl hg6) (Z0 rfl) ?_
  refine Xa (Xk (Yv hg6) rfl) ?_
  refine Xa (Xo rfl) ?_
  refine X7 rfl rfl rfl ?_ ?_
  intro hg7
  have r2 : m.over = false := by have h := hg7; simpa using h
  refine Xb (Xg rfl rfl rfl hg7 rfl) ?_
  refine Xb (Xg rfl rfl rfl hg7 rfl) ?_
  refine Xb (Xg rfl rfl rfl hg7 rfl) ?_
  refine Xb (Xg rfl rfl rfl hg7 rfl) ?_
  refine Xb (Xg rfl rfl rfl hg7 rfl) ?_
  refine Xb (X8 rfl rfl rfl) ?_
  refine Xb (X8 rfl rfl rfl) ?_
  refine Xb (X8 rfl rfl rfl) ?_
  refine Xb (Xg rfl rfl rfl hg7 rfl) ?_
  refine Xa (Xk (Yv hg7) Xl) ?_
  refine Xa (Xm rfl) ?_
  refine X1 ?_
  refine ⟨_, Xw (Xt rfl), _, rfl, ?_⟩
  first
    | exact absurd r1 r3
    | exact ⟨fun _ => ⟨q1, q2, q3, q4, q5, .inl ⟨r1, r2⟩⟩, fun _ => rfl⟩
    | exact ⟨fun h => ⟨q1, q2, q3, q4, q5, .inr ⟨r1, of_decide_eq_true h⟩⟩, fun h => decide_eq_true (h.e.resolve_left (fun h2 => by omega)).2⟩
    | exact ⟨fun h => (by cases h), fun h => (by rcases h.e with h2 | h2; (· rw [r2] at h2; exact absurd h2.2 (by decide)); (· omega))⟩
    | exact ⟨fun h => ⟨q1, q2, q3, q4, q5, .inr ⟨r3, of_decide_eq_true h⟩⟩, fun h => decide_eq_true (h.e.resolve_left (fun h2 => by omega)).2⟩
  intro hg7
  have r2 : m.over = true := by have h := hg7; simpa using h
  refine Xi (Xh rfl rfl rfl hg7) (Xf (off := 2) Xl Tryz.underlying33 Xl inf23.size (by decide) Xl) ?_
  refine Xi (Xh rfl rfl rfl hg7) (Xj rfl Tryz.underlying23 rfl Xp) ?_
  refine Xi (Xh rfl rfl rfl hg7) (Yp rfl Tryz.underlying23) ?_
  refine Xi (Xh rfl rfl rfl hg7) (Zr rfl rfl) ?_
  refine Xi (Xh rfl rfl rfl hg7) (Xo rfl) ?_
  refine X7 rfl rfl rfl ?_ ?_
  intro hg8
  have r3 : m.nodes.length = 0 := by have := of_decide_eq_true hg8; omega
  refine Xi (Xh rfl rfl rfl hg8) (Xf (off := 3) Xl Tryz.underlying33 Xl inf30.size (by decide) Xl) ?_
  refine Xi (Xh rfl rfl rfl hg8) (Xj rfl Tryz.underlying30 rfl Xp) ?_
  refine Xi (Xh rfl rfl rfl hg8) (Zr rfl rfl) ?_
  refine Xi (Xh rfl rfl rfl hg7) (Xk (Yv hg8) rfl) ?_
  refine Xa (Xk (Yv hg7) rfl) ?_
  refine Xa (Xm rfl) ?_
  refine X1 ?_
  refine ⟨_, Xw (Xt rfl), _, rfl, ?_⟩
  first
    | exact absurd r1 r3
    | exact ⟨fun _ => ⟨q1, q2, q3, q4, q5, .inl ⟨r1, r2⟩⟩, fun _ => rfl⟩
    | exact ⟨fun h => ⟨q1, q2, q3, q4, q5, .inr ⟨r1, of_decide_eq_true h⟩⟩, fun h => decide_eq_true (h.e.resolve_left (fun h2 => by omega)).2⟩
    | exact ⟨fun h => (by cases h), fun h => (by rcases h.e with h2 | h2; (· rw [r2] at h2; exact absurd h2.2 (by decide)); (· omega))⟩
    | exact ⟨fun h => ⟨q1, q2, q3, q4, q5, .inr ⟨r3, of_decide_eq_true h⟩⟩, fun h => decide_eq_true (h.e.resolve_left (fun h2 => by omega)).2⟩
  intro hg8
  have r3 : ¬ m.nodes.length = 0 := by have := of_decide_eq_false hg8; omega
  refine Xb (Xg rfl rfl rfl hg8 rfl) ?_
  refine Xb (Xg rfl rfl rfl hg8 rfl) ?_
  refine Xb (Xg rfl rfl rfl hg8 rfl) ?_
  refine Xi (Xh rfl rfl rfl hg7) (Xk (Yv hg8) Xl) ?_
  refine Xa (Xk (Yv hg7) rfl) ?_
  refine Xa (Xm rfl) ?_
  refine X1 ?_
  refine ⟨_, Xw (Xt rfl), _, rfl, ?_⟩
  first
    | exact absurd r1 r3
    | exact ⟨fun _ => ⟨q1, q2, q3, q4, q5, .inl ⟨r1, r2⟩⟩, fun _ => rfl⟩
    | exact ⟨fun h => ⟨q1, q2, q3, q4, q5, .inr ⟨r1, of_decide_eq_true h⟩⟩, fun h => decide_eq_true (h.e.resolve_left (fun h2 => by omega)).2⟩
    | exact ⟨fun h => (by cases h), fun h => (by rcases h.e with h2 | h2; (· rw [r2] at h2; exact absurd h2.2 (by decide)); (· omega))⟩
    | exact ⟨fun h => ⟨q1, q2, q3, q4, q5, .inr ⟨r3, of_decide_eq_true h⟩⟩, fun h => decide_eq_true (h.e.resolve_left (fun h2 => by omega)).2⟩
  intro hg6
  have r1 : m.nodes.length = 0 := by have := of_decide_eq_false hg6; omega
  refine Xb (Xg rfl rfl rfl hg6 rfl) ?_
  refine Xb (Xg rfl rfl rfl hg6 rfl) ?_
  refine Xb (Xg rfl rfl rfl hg6 rfl) ?_
  refine Xa (Xk (Yv hg6) Xl) ?_
  refine Xa (Xo rfl) ?_
  refine Xi (Xh rfl rfl rfl rfl) (Xf (off := 2) Xl Tryz.underlying33 Xl inf23.size (by decide) Xl) ?_
  refine Xi (Xh rfl rfl rfl rfl) (Xj rfl Tryz.underlying23 rfl Xp) ?_
  refine Xi (Xh rfl rfl rfl rfl) (Yp rfl Tryz.underlying23) ?_
  refine Xi (Xh rfl rfl rfl rfl) (Zr rfl rfl) ?_
  refine Xi (Xh rfl rfl rfl rfl) (Xo rfl) ?_
  refine X7 rfl rfl rfl ?_ ?_
  intro hg9
  have r3 : m.nodes.length = 0 := by have := of_decide_eq_true hg9; omega
  refine Xi (Xh rfl rfl rfl hg9) (Xf (off := 3) Xl Tryz.underlying33 Xl inf30.size (by decide) Xl) ?_
  refine Xi (Xh rfl rfl rfl hg9) (Xj rfl Tryz.underlying30 rfl Xp) ?_
  refine Xi (Xh rfl rfl rfl hg9) (Zr rfl rfl) ?_
  refine Xi (Xh rfl rfl rfl rfl) (Xk (Yv hg9) rfl) ?_
  refine Xa (Xk (congrArg Value.bool rfl) rfl) ?_
  refine Xa (Xm rfl) ?_
  refine X1 ?_
  refine ⟨_, Xw (Xt rfl), _, rfl, ?_⟩
  first
    | exact absurd r1 r3
    | exact ⟨fun _ => ⟨q1, q2, q3, q4, q5, .inl ⟨r1, r2⟩⟩, fun _ => rfl⟩
    | exact ⟨fun h => ⟨q1, q2, q3, q4, q5, .inr ⟨r1, of_decide_eq_true h⟩⟩, fun h => decide_eq_true (h.e.resolve_left (fun h2 => by omega)).2⟩
    | exact ⟨fun h => (by cases h), fun h => (by rcases h.e with h2 | h2; (· rw [r2] at h2; exact absurd h2.2 (by decide)); (· omega))⟩
    | exact ⟨fun h => ⟨q1, q2, q3, q4, q5, .inr ⟨r3, of_decide_eq_true h⟩⟩, fun h => decide_eq_true (h.e.resolve_left (fun h2 => by omega)).2⟩
  intro hg9
  have r3 : ¬ m.nodes.length = 0 := by have := of_decide_eq_false hg9; omega
  refine Xb (Xg rfl rfl rfl hg9 rfl) ?_
  refine Xb (Xg rfl rfl rfl hg9 rfl) ?_
  refine Xb (Xg rfl rfl rfl hg9 rfl) ?_
  refine Xi (Xh rfl rfl rfl rfl) (Xk (Yv hg9) Xl) ?_
  refine Xa (Xk (congrArg Value.bool rfl) rfl) ?_
  refine Xa (Xm rfl) ?_
  refine X1 ?_
  refine ⟨_, Xw (Xt rfl), _, rfl, ?_⟩
  first
    | exact absurd r1 r3
    | exact ⟨fun _ => ⟨q1, q2, q3, q4, q5, .inl ⟨r1, r2⟩⟩, fun _ => rfl⟩
    | exact ⟨fun h => ⟨q1, q2, q3, q4, q5, .inr ⟨r1, of_decide_eq_true h⟩⟩, fun h => decide_eq_true (h.e.resolve_left (fun h2 => by omega)).2⟩
    | exact ⟨fun h => (by cases h), fun h => (by rcases h.e with h2 | h2; (· rw [r2] at h2; exact absurd h2.2 (by decide)); (· omega))⟩
    | exact ⟨fun h => ⟨q1, q2, q3, q4, q5, .inr ⟨r3, of_decide_eq_true h⟩⟩, fun h => decide_eq_true (h.e.resolve_left (fun h2 => by omega)).2⟩
theorem good_36 (m : MarkT) (cs : List Value) (H : Hp) (hm : kMark.rep H m cs) (hb : BigM m) :
  ACalls Tryz.prog 75 #[.agg cs.toArray] H (fun r H' => (∃ g, r = .bool g ∧ (g = true ↔ GoodM m)) ∧ H' = H) :=
 ACalls.pure (fun v ⟨g, h, _⟩ => by rw [h]; rfl) (good_raw m cs H.ro (kMark.mono H.sees_ro hm) hb)
theorem goodR_raw (m : MarkT) (cs : List Value) (H : Hp) (hm : kMark.rep H m cs) (hb : BigM m) (hr : 0 ≤ m.rest) :
  ACalls Tryz.prog 24 #[.agg cs.toArray] H (fun r _ => ∃ g, r = .bool g ∧ (g = true ↔ GoodM m)) := by
 obtain ⟨v, w, rfl, hv, hw⟩ := hm
 obtain ⟨A, c, rfl⟩ := hv.shape
 obtain ⟨W, cW, rfl⟩ := hw.shape
 have hbn := hb.n
 have hbi := hb.i
 obtain ⟨K, hK⟩ : ∃ K, K = H.push (.own 0 [.int .i64 m.told, .bool m.over, .slice A m.nodes.length c, .int .u64 m.rest, .slice W m.items.length cW]) := ⟨_, rfl⟩
 have kg : K.get H.size = .own 0 [.int .i64 m.told, .bool m.over, .slice A m.nodes.length c, .int .u64 m.rest, .slice W m.items.length cW] := by rw [hK]; exact Hp.push_new _ _
 have kz : K.size = H.size + 1 := by rw [hK]; simp
 have leK : H.le K := by rw [hK]; exact H.le_push _
 refine Xv Tryz.func24 rfl rfl rfl (by simp) ?_
 refine Xe ?_
 refine Xu ?_
 refine X0 (Yt rfl) ?_
 refine Xa (Xm rfl) ?_
 refine Xe ?_
 refine Xe ?_
 refine Xu ?_
 refine Xa (Xn rfl) ?_
 refine Yc ?_
 refine Y7 (fun n t H' => ∃ (i : Nat) (E : Option Addr), n = m.nodes.length - i ∧ i ≤ m.nodes.length ∧ H' = K ∧ K.get H.size = .own 0 [.int .i64 m.told, .bool m.over, .slice E m.nodes.length c, .int .u64 m.rest, .slice W m.items.length cW] ∧ Sl (Y3 .i64) H (.slice E m.nodes.length c) m.nodes ∧ (∀ x ∈ m.nodes.take i, ¬ oddI x) ∧ t 1 = .pointer (some ⟨H.size, 0, none⟩) ∧ t 3 = .int .i64 i) (m.nodes.length) (⟨0, _, rfl, Nat.zero_le _, hK.symm, kg, hv, by simp, rfl, rfl⟩) ?_
 rintro n t K2 ⟨i, E, rfl, hi, hK2, kg, hv, hno, e1, e3⟩
 subst hK2
 refine Xe ?_
 refine Xe ?_
 refine Xu ?_
 refine Xa (Xc Xl) ?_
 refine Xa (Xf (off := 2) Xl Tryz.underlying33 Xl inf23.size (by decide) Xl) ?_
 refine Xa (Xj rfl Tryz.underlying23 rfl Xp) ?_
 refine Xa (Yp rfl Tryz.underlying23) ?_
 refine Xa (Y5 rfl rfl) ?_
 refine X5 rfl rfl ?_ ?_
 intro hc1
 have hil : i < m.nodes.length := by have := of_decide_eq_true hc1; omega
 obtain ⟨b, o, eE, hbE, hcell⟩ := (hv.mono leK.sees).int_at (i := (i : Int)) (by omega) (by omega)
 rw [Int.toNat_natCast, Zc hil] at hcell
 subst eE
 refine Ya ?_
 refine Xe ?_
 refine Yc ?_
 refine Xe ?_
 refine Xu ?_
 refine Xa (Xf (off := 2) Xl Tryz.underlying33 Xl inf23.size (by decide) Xl) ?_
 refine Xa (Xj rfl Tryz.underlying23 rfl Xp) ?_
 refine Xa (Xc Xl) ?_
 refine Xa (Xs rfl rfl Tryz.underlying23 inf3.size X4 X4) ?_
 refine Xa (Xj rfl Tryz.underlying3 rfl Xp) ?_
 refine Xa (Y5 rfl rfl) ?_
 refine Xa (Xo rfl) ?_
 refine X7 rfl rfl rfl ?_ ?_
 intro hg2
 have hneg : m.nodes[i] < 0 := of_decide_eq_true hg2
 refine Xb (Xg rfl rfl rfl hg2 rfl) ?_
 refine Xb (Xg rfl rfl rfl hg2 rfl) ?_
 refine Xb (Xg rfl rfl rfl hg2 rfl) ?_
 refine Xb (Xg rfl rfl rfl hg2 rfl) ?_
 refine Xb (Xg rfl rfl rfl hg2 rfl) ?_
 refine Xb (Xg rfl rfl rfl hg2 rfl) ?_
 refine Xa (Xk (Yv hg2) Xl) ?_
 refine Yu rfl rfl ?_
 refine Xe ?_
 refine Xu ?_
 refine Xa (Xm rfl) ?_
 refine X1 ?_
 exact ⟨.bool false, Xw (Xt rfl), false, rfl, ⟨fun h => (by cases h), fun h => absurd (by first | exact .inl hneg | exact hod) (h.x _ (List.getElem_mem hil))⟩⟩
 intro hg2
 have hneg : ¬ m.nodes[i] < 0 := of_decide_eq_false hg2
 refine Xi (Xh rfl rfl rfl hg2) (Xf (off := 2) Xl Tryz.underlying33 Xl inf23.size (by decide) Xl) ?_
 refine Xi (Xh rfl rfl rfl hg2) (Xj rfl Tryz.underlying23 rfl Xp) ?_
 refine Xi (Xh rfl rfl rfl hg2) (Xc Xl) ?_
 refine Xi (Xh rfl rfl rfl hg2) (Xs rfl rfl Tryz.underlying23 inf3.size X4 X4) ?_
 refine Xi (Xh rfl rfl rfl hg2) (Xj rfl Tryz.underlying3 rfl Xp) ?_
 refine Xi (Xh rfl rfl rfl hg2) (Vo rfl rfl) ?_
 refine Xa (Xk (Yv hg2) rfl) ?_
 refine X5 rfl rfl ?_ ?_
 intro hc4
 have hod : oddI m.nodes[i] := by
  unfold oddI
  first
   | exact .inl hneg
   | (have := of_decide_eq_true hc4; omega)
 refine Xe ?_
 refine Xu ?_
 refine Xa (Xm rfl) ?_
 refine X1 ?_
 exact ⟨.bool false, Xw (Xt rfl), false, rfl, ⟨fun h => (by cases h), fun h => absurd (by first | exact .inl hneg | exact hod) (h.x _ (List.getElem_mem hil))⟩⟩
 intro hc4
 have hod : ¬ oddI m.nodes[i] := by
  unfold oddI
  have := of_decide_eq_false hc4
  omega
 refine Ya ?_
 refine Xu ?_
 refine Xa (Xc Xl) ?_
 refine Xa (Yo rfl rfl Y0) ?_
 refine Xa (Xn rfl) ?_
 refine ⟨m.nodes.length - (i + 1), by omega, i + 1, _, rfl, by omega, rfl, kg, hv, ?_, e1, rfl⟩
 rw [← Y2 hil]
 intro x hx
 rcases List.mem_append.1 hx with hx | hx
 ·exact hno x hx
 ·simp at hx; rw [hx]; exact hod
 intro hc1
 have hil : i = m.nodes.length := by have := of_decide_eq_false hc1; omega
 rw [hil, List.take_length] at hno
 refine Yx ?_
 refine Xe ?_
 refine Xe ?_
 refine ac_cut (fun t H' => H' = K2 ∧ t 1 = .pointer (some ⟨H.size, 0, none⟩) ∧ t 43 = .bool (decide ((m.nodes.length = 0 ∧ 0 < m.rest) ∨ (m.over = true ∧ 0 < m.nodes.length)))) ?_ ?_
 refine Xu ?_
 refine Xa (Xf (off := 2) Xl Tryz.underlying33 Xl inf23.size (by decide) Xl) ?_
 refine Xa (Xj rfl Tryz.underlying23 rfl Xp) ?_
 refine Xa (Yp rfl Tryz.underlying23) ?_
 refine Xa (Zr rfl rfl) ?_
 refine Xa (Xo rfl) ?_
 refine X7 rfl rfl rfl ?_ ?_
 intro hg5
 have r1 : m.nodes.length = 0 := by have := of_decide_eq_true hg5; omega
 refine Xi (Xh rfl rfl rfl hg5) (Xf (off := 3) Xl Tryz.underlying33 Xl inf30.size (by decide) Xl) ?_
 refine Xi (Xh rfl rfl rfl hg5) (Xj rfl Tryz.underlying30 rfl Xp) ?_
 refine Xi (Xh rfl rfl rfl hg5) (Vo rfl rfl) ?_
 refine Xa (Xk (Yv hg5) rfl) ?_
 refine Xa (Xo rfl) ?_
 refine X7 rfl rfl rfl ?_ ?_
 intro hg6
 have r2 : 0 < m.rest := by have := of_decide_eq_true hg6; omega
 refine Xb (Xg rfl rfl rfl hg6 rfl) ?_
 refine Xb (Xg rfl rfl rfl hg6 rfl) ?_
 refine Xb (Xg rfl rfl rfl hg6 rfl) ?_
 refine Xb (X8 rfl rfl rfl) ?_
 refine Xb (X8 rfl rfl rfl) ?_
 refine Xb (X8 rfl rfl rfl) ?_
 refine Xb (X8 rfl rfl rfl) ?_
 refine Xb (Xg rfl rfl rfl hg6 rfl) ?_
 refine Xa (Xk (Yv hg6) Xl) ?_
 first
  | exact ⟨rfl, e1, congrArg Value.bool (by symm; apply decide_eq_true; exact .inl ⟨r1, r2⟩)⟩
  | exact ⟨rfl, e1, congrArg Value.bool (by rw [decide_eq_decide]; exact ⟨fun h => .inr ⟨r3, by omega⟩, fun h => by rcases h with h | h <;> omega⟩)⟩
  | exact ⟨rfl, e1, congrArg Value.bool (by symm; rw [decide_eq_false_iff_not]; intro h; rcases h with h | h; (· omega); (· rw [r3] at h; exact absurd h.1 (by decide)))⟩
  | exact ⟨rfl, e1, congrArg Value.bool (by rw [decide_eq_decide]; exact ⟨fun h => .inr ⟨r3, by omega⟩, fun h => by rcases h with h | h; (· omega); (· have := h.2; omega)⟩)⟩
 intro hg6
 have r2 : ¬ 0 < m.rest := by have := of_decide_eq_false hg6; omega
 refine Xi (Xh rfl rfl rfl hg6) (Xf (off := 1) Xl Tryz.underlying33 Xl inf4.size (by decide) Xl) ?_
 refine Xi (Xh rfl rfl rfl hg6) (Xj rfl Tryz.underlying4 rfl Xp) ?_
 refine Xi (Xh rfl rfl rfl hg6) (Xo rfl) ?_
 refine X7 rfl rfl rfl ?_ ?_
 intro hg7
 have r3 : m.over = true := hg7
 refine Xi (Xh rfl rfl rfl hg7) (Xf (off := 2) Xl Tryz.underlying33 Xl inf23.size (by decide) Xl) ?_
 refine Xi (Xh rfl rfl rfl hg7) (Xj rfl Tryz.underlying23 rfl Xp) ?_
 refine Xi (Xh rfl rfl rfl hg7) (Yp rfl Tryz.underlying23) ?_
 refine Xi (Xh rfl rfl rfl hg7) (Vo rfl rfl) ?_
 refine Xi (Xh rfl rfl rfl hg6) (Xk (Yv hg7) rfl) ?_
 refine Xa (Xk (Yv hg6) rfl) ?_
 first
  | exact ⟨rfl, e1, congrArg Value.bool (by symm; apply decide_eq_true; exact .inl ⟨r1, r2⟩)⟩
  | exact ⟨rfl, e1, congrArg Value.bool (by rw [decide_eq_decide]; exact ⟨fun h => .inr ⟨r3, by omega⟩, fun h => by rcases h with h | h <;> omega⟩)⟩
  | exact ⟨rfl, e1, congrArg Value.bool (by symm; rw [decide_eq_false_iff_not]; intro h; rcases h with h | h; (· omega); (· rw [r3] at h; exact absurd h.1 (by decide)))⟩
  | exact ⟨rfl, e1, congrArg Value.bool (by rw [decide_eq_decide]; exact ⟨fun h => .inr ⟨r3, by omega⟩, fun h => by rcases h with h | h; (· omega); (· have := h.2; omega)⟩)⟩
 intro hg7
 have r3 : m.over = false := hg7
 refine Xb (Xg rfl rfl rfl hg7 rfl) ?_
 refine Xb (Xg rfl rfl rfl hg7 rfl) ?_
 refine Xb (Xg rfl rfl rfl hg7 rfl) ?_
 refine Xb (Xg rfl rfl rfl hg7 rfl) ?_
 refine Xi (Xh rfl rfl rfl hg6) (Xk (Yv hg7) Xl) ?_
 refine Xa (Xk (Yv hg6) rfl) ?_
 first
  | exact ⟨rfl, e1, congrArg Value.bool (by symm; apply decide_eq_true; exact .inl ⟨r1, r2⟩)⟩
  | exact ⟨rfl, e1, congrArg Value.bool (by rw [decide_eq_decide]; exact ⟨fun h => .inr ⟨r3, by omega⟩, fun h => by rcases h with h | h <;> omega⟩)⟩
  | exact ⟨rfl, e1, congrArg Value.bool (by symm; rw [decide_eq_false_iff_not]; intro h; rcases h with h | h; (· omega); (· rw [r3] at h; exact absurd h.1 (by decide)))⟩
  | exact ⟨rfl, e1, congrArg Value.bool (by rw [decide_eq_decide]; exact ⟨fun h => .inr ⟨r3, by omega⟩, fun h => by rcases h with h | h; (· omega); (· have := h.2; omega)⟩)⟩
 intro hg5
 have r1 : ¬ m.nodes.length = 0 := by have := of_decide_eq_false hg5; omega
 refine Xb (Xg rfl rfl rfl hg5 rfl) ?_
 refine Xb (Xg rfl rfl rfl hg5 rfl) ?_
 refine Xb (Xg rfl rfl rfl hg5 rfl) ?_
 refine Xa (Xk (Yv hg5) Xl) ?_
 refine Xa (Xo rfl) ?_
 refine Xi (Xh rfl rfl rfl rfl) (Xf (off := 1) Xl Tryz.underlying33 Xl inf4.size (by decide) Xl) ?_
 refine Xi (Xh rfl rfl rfl rfl) (Xj rfl Tryz.underlying4 rfl Xp) ?_
 refine Xi (Xh rfl rfl rfl rfl) (Xo rfl) ?_
 refine X7 rfl rfl rfl ?_ ?_
 intro hg8
 have r3 : m.over = true := hg8
 refine Xi (Xh rfl rfl rfl hg8) (Xf (off := 2) Xl Tryz.underlying33 Xl inf23.size (by decide) Xl) ?_
 refine Xi (Xh rfl rfl rfl hg8) (Xj rfl Tryz.underlying23 rfl Xp) ?_
 refine Xi (Xh rfl rfl rfl hg8) (Yp rfl Tryz.underlying23) ?_
 refine Xi (Xh rfl rfl rfl hg8) (Vo rfl rfl) ?_
 refine Xi (Xh rfl rfl rfl rfl) (Xk (Yv hg8) rfl) ?_
 refine Xa (Xk (congrArg Value.bool rfl) rfl) ?_
 first
  | exact ⟨rfl, e1, congrArg Value.bool (by symm; apply decide_eq_true; exact .inl ⟨r1, r2⟩)⟩
  | exact ⟨rfl, e1, congrArg Value.bool (by rw [decide_eq_decide]; exact ⟨fun h => .inr ⟨r3, by omega⟩, fun h => by rcases h with h | h <;> omega⟩)⟩
  | exact ⟨rfl, e1, congrArg Value.bool (by symm; rw [decide_eq_false_iff_not]; intro h; rcases h with h | h; (· omega); (· rw [r3] at h; exact absurd h.1 (by decide)))⟩
  | exact ⟨rfl, e1, congrArg Value.bool (by rw [decide_eq_decide]; exact ⟨fun h => .inr ⟨r3, by omega⟩, fun h => by rcases h with h | h; (· omega); (· have := h.2; omega)⟩)⟩
 intro hg8
 have r3 : m.over = false := hg8
 refine Xb (Xg rfl rfl rfl hg8 rfl) ?_
 refine Xb (Xg rfl rfl rfl hg8 rfl) ?_
 refine Xb (Xg rfl rfl rfl hg8 rfl) ?_
 refine Xb (Xg rfl rfl rfl hg8 rfl) ?_
 refine Xi (Xh rfl rfl rfl rfl) (Xk (Yv hg8) Xl) ?_
 refine Xa (Xk (congrArg Value.bool rfl) rfl) ?_
 first
  | exact ⟨rfl, e1, congrArg Value.bool (by symm; apply decide_eq_true; exact .inl ⟨r1, r2⟩)⟩
  | exact ⟨rfl, e1, congrArg Value.bool (by rw [decide_eq_decide]; exact ⟨fun h => .inr ⟨r3, by omega⟩, fun h => by rcases h with h | h <;> omega⟩)⟩
  | exact ⟨rfl, e1, congrArg Value.bool (by symm; rw [decide_eq_false_iff_not]; intro h; rcases h with h | h; (· omega); (· rw [r3] at h; exact absurd h.1 (by decide)))⟩
  | exact ⟨rfl, e1, congrArg Value.bool (by rw [decide_eq_decide]; exact ⟨fun h => .inr ⟨r3, by omega⟩, fun h => by rcases h with h | h; (· omega); (· have := h.2; omega)⟩)⟩
 rintro t K3 ⟨hK3, e1, e43⟩
 subst hK3
 refine X5 Xl rfl ?_ ?_
 intro hc9
 have hbad : ¬ GoodM m := fun h => by
  have h2 := of_decide_eq_true hc9
  rcases h.e with h3 | h3
  ·rcases h2 with h4 | h4
   ·omega
   ·rw [h3.2] at h4; exact absurd h4.1 (by decide)
  ·rcases h2 with h4 | h4 <;> omega
 refine Xe ?_
 refine Xu ?_
 refine Xa (Xm rfl) ?_
 refine X1 ?_
 exact ⟨.bool false, Xw (Xt rfl), false, rfl, ⟨fun h => (by cases h), fun h => absurd h hbad⟩⟩
 intro hc9
 have hgoodE : (0 < m.nodes.length ∧ m.over = false) ∨ (m.nodes.length = 0 ∧ m.rest = 0) := by
  have h2 := of_decide_eq_false hc9
  rcases Nat.eq_zero_or_pos m.nodes.length with h3 | h3
  ·exact .inr ⟨h3, Decidable.byContradiction fun h4 => h2 (.inl ⟨h3, by omega⟩)⟩
  ·refine .inl ⟨h3, ?_⟩
   cases ho : m.over with
   | false => rfl
   | true => exact absurd (.inr ⟨ho, h3⟩) h2
 refine Ya ?_
 refine Xe ?_
 refine Xu ?_
 refine Xa (Xf (off := 4) Xl Tryz.underlying33 Xl inf31.size (by decide) Xl) ?_
 refine Xa (Xj rfl Tryz.underlying31 rfl Xp) ?_
 refine Xa (Yp rfl Tryz.underlying31) ?_
 refine Xa (Zr rfl rfl) ?_
 refine Xa (Xo rfl) ?_
 refine X7 rfl rfl rfl ?_ ?_
 intro hg10
 have s1 : m.items.length = 0 := by have := of_decide_eq_true hg10; omega
 refine Xi (Xh rfl rfl rfl hg10) (Xf (off := 0) Xl Tryz.underlying33 Xl inf3.size (by decide) Xl) ?_
 refine Xi (Xh rfl rfl rfl hg10) (Xj rfl Tryz.underlying3 rfl Xp) ?_
 refine Xi (Xh rfl rfl rfl hg10) (av_ge rfl rfl) ?_
 refine Xa (Xk (Yv hg10) rfl) ?_
 refine Xa (Xo rfl) ?_
 refine X7 rfl rfl rfl ?_ ?_
 intro hg11
 have s2 : 0 ≤ m.told := by have := of_decide_eq_true hg11; omega
 refine Xi (Xh rfl rfl rfl hg11) (Xf (off := 0) Xl Tryz.underlying33 Xl inf3.size (by decide) Xl) ?_
 refine Xi (Xh rfl rfl rfl hg11) (Xj rfl Tryz.underlying3 rfl Xp) ?_
 refine Xi (Xh rfl rfl rfl hg11) (av_le rfl rfl) ?_
 refine Xa (Xk (Yv hg11) rfl) ?_
 refine Xa (Xo rfl) ?_
 refine X7 rfl rfl rfl ?_ ?_
 intro hg12
 have s3 : m.told ≤ 9007199254740992 := by have := of_decide_eq_true hg12; omega
 refine Xi (Xh rfl rfl rfl hg12) (Xf (off := 2) Xl Tryz.underlying33 Xl inf23.size (by decide) Xl) ?_
 refine Xi (Xh rfl rfl rfl hg12) (Xj rfl Tryz.underlying23 rfl Xp) ?_
 refine Xi (Xh rfl rfl rfl hg12) (Yp rfl Tryz.underlying23) ?_
 refine Xi (Xh rfl rfl rfl hg12) (Y5 rfl rfl) ?_
 refine Xa (Xk (Yv hg12) rfl) ?_
 refine Xa (Xm rfl) ?_
 refine X1 ?_
 refine ⟨_, Xw (Xt rfl), _, rfl, ?_⟩
 first
  | exact ⟨fun h => ⟨s1, s2, s3, by have := of_decide_eq_true h; omega, hno, hgoodE⟩, fun h => decide_eq_true (by have := h.n; omega)⟩
  | exact ⟨fun h => (by cases h), fun h => absurd h.t1 s3⟩
  | exact ⟨fun h => (by cases h), fun h => absurd h.t0 s2⟩
  | exact ⟨fun h => (by cases h), fun h => absurd h.i s1⟩
 intro hg12
 have s3 : ¬ m.told ≤ 9007199254740992 := by have := of_decide_eq_false hg12; omega
 refine Xb (Xg rfl rfl rfl hg12 rfl) ?_
 refine Xb (Xg rfl rfl rfl hg12 rfl) ?_
 refine Xb (Xg rfl rfl rfl hg12 rfl) ?_
 refine Xb (Xg rfl rfl rfl hg12 rfl) ?_
 refine Xa (Xk (Yv hg12) Xl) ?_
 refine Xa (Xm rfl) ?_
 refine X1 ?_
 refine ⟨_, Xw (Xt rfl), _, rfl, ?_⟩
 first
  | exact ⟨fun h => ⟨s1, s2, s3, by have := of_decide_eq_true h; omega, hno, hgoodE⟩, fun h => decide_eq_true (by have := h.n; omega)⟩
  | exact ⟨fun h => (by cases h), fun h => absurd h.t1 s3⟩
  | exact ⟨fun h => (by cases h), fun h => absurd h.t0 s2⟩
  | exact ⟨fun h => (by cases h), fun h => absurd h.i s1⟩
 intro hg11
 have s2 : ¬ 0 ≤ m.told := by have := of_decide_eq_false hg11; omega
 refine Xb (Xg rfl rfl rfl hg11 rfl) ?_
 refine Xb (Xg rfl rfl rfl hg11 rfl) ?_
 refine Xb (Xg rfl rfl rfl hg11 rfl) ?_
 refine Xa (Xk (Yv hg11) Xl) ?_
 refine Xa (Xo rfl) ?_
 refine Xb (Xg rfl rfl rfl rfl rfl) ?_
 refine Xb (Xg rfl rfl rfl rfl rfl) ?_
 refine Xb (Xg rfl rfl rfl rfl rfl) ?_
 refine Xb (Xg rfl rfl rfl rfl rfl) ?_
 refine Xa (Xk (congrArg Value.bool Xl) Xl) ?_
 refine Xa (Xm rfl) ?_
 refine X1 ?_
 refine ⟨_, Xw (Xt rfl), _, rfl, ?_⟩
 first
  | exact ⟨fun h => ⟨s1, s2, s3, by have := of_decide_eq_true h; omega, hno, hgoodE⟩, fun h => decide_eq_true (by have := h.n; omega)⟩
  | exact ⟨fun h => (by cases h), fun h => absurd h.t1 s3⟩
  | exact ⟨fun h => (by cases h), fun h => absurd h.t0 s2⟩
  | exact ⟨fun h => (by cases h), fun h => absurd h.i s1⟩
 intro hg10
 have s1 : ¬ m.items.length = 0 := by have := of_decide_eq_false hg10; omega
 refine Xb (Xg rfl rfl rfl hg10 rfl) ?_
 refine Xb (Xg rfl rfl rfl hg10 rfl) ?_
 refine Xb (Xg rfl rfl rfl hg10 rfl) ?_
 refine Xa (Xk (Yv hg10) Xl) ?_
 refine Xa (Xo rfl) ?_
 refine Xb (Xg rfl rfl rfl rfl rfl) ?_
 refine Xb (Xg rfl rfl rfl rfl rfl) ?_
 refine Xb (Xg rfl rfl rfl rfl rfl) ?_
 refine Xa (Xk (congrArg Value.bool Xl) Xl) ?_
 refine Xa (Xo rfl) ?_
 refine Xb (Xg rfl rfl rfl rfl rfl) ?_
 refine Xb (Xg rfl rfl rfl rfl rfl) ?_
 refine Xb (Xg rfl rfl rfl rfl rfl) ?_
 refine Xb (Xg rfl rfl rfl rfl rfl) ?_
 refine Xa (Xk (congrArg Value.bool Xl) Xl) ?_
 refine Xa (Xm rfl) ?_
 refine X1 ?_
 refine ⟨_, Xw (Xt rfl), _, rfl, ?_⟩
 first
  | exact ⟨fun h => ⟨s1, s2, s3, by have := of_decide_eq_true h; omega, hno, hgoodE⟩, fun h => decide_eq_true (by have := h.n; omega)⟩
  | exact ⟨fun h => (by cases h), fun h => absurd h.t1 s3⟩
  | exact ⟨fun h => (by cases h), fun h => absurd h.t0 s2⟩
  | exact ⟨fun h => (by cases h), fun h => absurd h.i s1⟩
theorem goodR_36 (m : MarkT) (cs : List Value) (H : Hp) (hm : kMark.rep H m cs) (hb : BigM m) (hr : 0 ≤ m.rest) :
  ACalls Tryz.prog 24 #[.agg cs.toArray] H (fun r H' => (∃ g, r = .bool g ∧ (g = true ↔ GoodM m)) ∧ H' = H) :=
 ACalls.pure (fun v ⟨g, h, _⟩ => by rw [h]; rfl) (goodR_raw m cs H.ro (kMark.mono H.sees_ro hm) hb hr)
def SameM (a b : MarkT) : Prop := a.told = b.told ∧ a.over = b.over ∧ a.rest = b.rest ∧ a.nodes = b.nodes
theorem sameM_raw (a b : MarkT) (cs ds : List Value) (H : Hp) (ha : kMark.rep H a cs) (hb : kMark.rep H b ds) (hba : BigM a) (hbb : BigM b) :
  ACalls Tryz.prog 20 #[.agg cs.toArray, .agg ds.toArray] H (fun r _ => ∃ g, r = .bool g ∧ (g = true ↔ SameM a b)) := by
 obtain ⟨v, w, rfl, hv, hw⟩ := ha
 obtain ⟨A, c, rfl⟩ := hv.shape
 obtain ⟨W, cW, rfl⟩ := hw.shape
 obtain ⟨v2, w2, rfl, hv2, hw2⟩ := hb
 obtain ⟨A2, c2, rfl⟩ := hv2.shape
 obtain ⟨W2, cW2, rfl⟩ := hw2.shape
 have hbn := hba.n
 have hbn2 := hbb.n
 obtain ⟨K, hK⟩ : ∃ K, K = (H.push (.own 0 [.int .i64 a.told, .bool a.over, .slice A a.nodes.length c, .int .u64 a.rest, .slice W a.items.length cW])).push (.own 0 [.int .i64 b.told, .bool b.over, .slice A2 b.nodes.length c2, .int .u64 b.rest, .slice W2 b.items.length cW2]) := ⟨_, rfl⟩
 have kg : K.get H.size = .own 0 [.int .i64 a.told, .bool a.over, .slice A a.nodes.length c, .int .u64 a.rest, .slice W a.items.length cW] := by rw [hK]; exact Yb
 have kg2 : K.get (H.size + 1) = .own 0 [.int .i64 b.told, .bool b.over, .slice A2 b.nodes.length c2, .int .u64 b.rest, .slice W2 b.items.length cW2] := by rw [hK]; exact Yb
 have kz : K.size = H.size + 2 := by rw [hK]; simp
 have leK : H.le K := by rw [hK]; exact Hp.le_push' (H.le_push _) _
 refine Xv Tryz.func20 rfl rfl rfl (by simp) ?_
 refine Xe ?_
 refine Xu ?_
 refine X0 (Yt rfl) ?_
 refine X0 (Yt rfl) ?_
 refine Xa (Xm rfl) ?_
 refine Xe ?_
 refine Xe ?_
 refine Xu ?_
 refine Xa (Xf (off := 0) rfl Tryz.underlying33 rfl inf3.size (by decide) rfl) ?_
 refine Xa (Xj rfl Tryz.underlying3 rfl Xp) ?_
 refine Xa (Xf (off := 0) rfl Tryz.underlying33 rfl inf3.size (by decide) rfl) ?_
 refine Xa (Xj rfl Tryz.underlying3 rfl Xp) ?_
 refine Xa (Z3 rfl rfl) ?_
 refine Xa (Xo rfl) ?_
 refine X7 rfl rfl rfl ?_ ?_
 intro hg1
 have p1 : a.told ≠ b.told := of_decide_eq_true hg1
 refine Xb (Xg rfl rfl rfl hg1 rfl) ?_
 refine Xb (Xg rfl rfl rfl hg1 rfl) ?_
 refine Xb (Xg rfl rfl rfl hg1 rfl) ?_
 refine Xb (Xg rfl rfl rfl hg1 rfl) ?_
 refine Xb (Xg rfl rfl rfl hg1 rfl) ?_
 refine Xa (Xk (Yv hg1) rfl) ?_
 refine Xa (Xo rfl) ?_
 refine Xb (Xg rfl rfl rfl rfl rfl) ?_
 refine Xb (Xg rfl rfl rfl rfl rfl) ?_
 refine Xb (Xg rfl rfl rfl rfl rfl) ?_
 refine Xb (Xg rfl rfl rfl rfl rfl) ?_
 refine Xb (Xg rfl rfl rfl rfl rfl) ?_
 refine Xa (Xk (congrArg Value.bool rfl) rfl) ?_
 refine Xa (Xo rfl) ?_
 refine Xb (Xg rfl rfl rfl rfl rfl) ?_
 refine Xb (Xg rfl rfl rfl rfl rfl) ?_
 refine Xb (Xg rfl rfl rfl rfl rfl) ?_
 refine Xb (Xg rfl rfl rfl rfl rfl) ?_
 refine Xb (Xg rfl rfl rfl rfl rfl) ?_
 refine Xb (Xg rfl rfl rfl rfl rfl) ?_
 refine Xb (Xg rfl rfl rfl rfl rfl) ?_
 refine Xa (Xk (congrArg Value.bool rfl) rfl) ?_
 refine Yu rfl rfl ?_
 refine Xe ?_
 refine Xu ?_
 refine Xa (Xm rfl) ?_
 refine X1 ?_
 refine ⟨.bool false, Xw (Xt rfl), false, rfl, ⟨fun h => (by cases h), fun h => ?_⟩⟩
 first
  | exact absurd h.1 p1
  | exact absurd h.2.1 p2
  | exact absurd h.2.2.1 p3
  | exact absurd (congrArg List.length h.2.2.2) p4
 intro hg1
 have p1 : a.told = b.told := by have h := of_decide_eq_false hg1; simpa using h
 refine Xi (Xh rfl rfl rfl hg1) (Xf (off := 1) rfl Tryz.underlying33 rfl inf4.size (by decide) rfl) ?_
 refine Xi (Xh rfl rfl rfl hg1) (Xj rfl Tryz.underlying4 rfl Xp) ?_
 refine Xi (Xh rfl rfl rfl hg1) (Xf (off := 1) rfl Tryz.underlying33 rfl inf4.size (by decide) rfl) ?_
 refine Xi (Xh rfl rfl rfl hg1) (Xj rfl Tryz.underlying4 rfl Xp) ?_
 refine Xi (Xh rfl rfl rfl hg1) (av_bne rfl rfl Tryz.underlying4) ?_
 refine Xa (Xk (Yv hg1) rfl) ?_
 refine Xa (Xo rfl) ?_
 refine X7 rfl rfl rfl ?_ ?_
 intro hg3
 have p2 : a.over ≠ b.over := by have h := hg3; simpa using h
 refine Xb (Xg rfl rfl rfl hg3 rfl) ?_
 refine Xb (Xg rfl rfl rfl hg3 rfl) ?_
 refine Xb (Xg rfl rfl rfl hg3 rfl) ?_
 refine Xb (Xg rfl rfl rfl hg3 rfl) ?_
 refine Xb (Xg rfl rfl rfl hg3 rfl) ?_
 refine Xa (Xk (Yv hg3) rfl) ?_
 refine Xa (Xo rfl) ?_
 refine Xb (Xg rfl rfl rfl rfl rfl) ?_
 refine Xb (Xg rfl rfl rfl rfl rfl) ?_
 refine Xb (Xg rfl rfl rfl rfl rfl) ?_
 refine Xb (Xg rfl rfl rfl rfl rfl) ?_
 refine Xb (Xg rfl rfl rfl rfl rfl) ?_
 refine Xb (Xg rfl rfl rfl rfl rfl) ?_
 refine Xb (Xg rfl rfl rfl rfl rfl) ?_
 refine Xa (Xk (congrArg Value.bool rfl) rfl) ?_
 refine Yu rfl rfl ?_
 refine Xe ?_
 refine Xu ?_
 refine Xa (Xm rfl) ?_
 refine X1 ?_
 refine ⟨.bool false, Xw (Xt rfl), false, rfl, ⟨fun h => (by cases h), fun h => ?_⟩⟩
 first
  | exact absurd h.1 p1
  | exact absurd h.2.1 p2
  | exact absurd h.2.2.1 p3
  | exact absurd (congrArg List.length h.2.2.2) p4
 intro hg3
 have p2 : a.over = b.over := by have h := hg3; simpa using h
 refine Xi (Xh rfl rfl rfl hg3) (Xf (off := 3) rfl Tryz.underlying33 rfl inf30.size (by decide) rfl) ?_
 refine Xi (Xh rfl rfl rfl hg3) (Xj rfl Tryz.underlying30 rfl Xp) ?_
 refine Xi (Xh rfl rfl rfl hg3) (Xf (off := 3) rfl Tryz.underlying33 rfl inf30.size (by decide) rfl) ?_
 refine Xi (Xh rfl rfl rfl hg3) (Xj rfl Tryz.underlying30 rfl Xp) ?_
 refine Xi (Xh rfl rfl rfl hg3) (Z3 rfl rfl) ?_
 refine Xa (Xk (Yv hg3) rfl) ?_
 refine Xa (Xo rfl) ?_
 refine X7 rfl rfl rfl ?_ ?_
 intro hg5
 have p3 : a.rest ≠ b.rest := of_decide_eq_true hg5
 refine Xb (Xg rfl rfl rfl hg5 rfl) ?_
 refine Xb (Xg rfl rfl rfl hg5 rfl) ?_
 refine Xb (Xg rfl rfl rfl hg5 rfl) ?_
 refine Xb (Xg rfl rfl rfl hg5 rfl) ?_
 refine Xb (Xg rfl rfl rfl hg5 rfl) ?_
 refine Xb (Xg rfl rfl rfl hg5 rfl) ?_
 refine Xb (Xg rfl rfl rfl hg5 rfl) ?_
 refine Xa (Xk (Yv hg5) rfl) ?_
 refine Yu rfl rfl ?_
 refine Xe ?_
 refine Xu ?_
 refine Xa (Xm rfl) ?_
 refine X1 ?_
 refine ⟨.bool false, Xw (Xt rfl), false, rfl, ⟨fun h => (by cases h), fun h => ?_⟩⟩
 first
  | exact absurd h.1 p1
  | exact absurd h.2.1 p2
  | exact absurd h.2.2.1 p3
  | exact absurd (congrArg List.length h.2.2.2) p4
 intro hg5
 have p3 : a.rest = b.rest := by have h := of_decide_eq_false hg5; simpa using h
 refine Xi (Xh rfl rfl rfl hg5) (Xf (off := 2) rfl Tryz.underlying33 rfl inf23.size (by decide) rfl) ?_
 refine Xi (Xh rfl rfl rfl hg5) (Xj rfl Tryz.underlying23 rfl Xp) ?_
 refine Xi (Xh rfl rfl rfl hg5) (Yp rfl Tryz.underlying23) ?_
 refine Xi (Xh rfl rfl rfl hg5) (Xf (off := 2) rfl Tryz.underlying33 rfl inf23.size (by decide) rfl) ?_
 refine Xi (Xh rfl rfl rfl hg5) (Xj rfl Tryz.underlying23 rfl Xp) ?_
 refine Xi (Xh rfl rfl rfl hg5) (Yp rfl Tryz.underlying23) ?_
 refine Xi (Xh rfl rfl rfl hg5) (Z3 rfl rfl) ?_
 refine Xa (Xk (Yv hg5) rfl) ?_
 refine X5 rfl rfl ?_ ?_
 intro hc7
 have p4 : a.nodes.length ≠ b.nodes.length := by have h := of_decide_eq_true hc7; omega
 refine Xe ?_
 refine Xu ?_
 refine Xa (Xm rfl) ?_
 refine X1 ?_
 refine ⟨.bool false, Xw (Xt rfl), false, rfl, ⟨fun h => (by cases h), fun h => ?_⟩⟩
 first
  | exact absurd h.1 p1
  | exact absurd h.2.1 p2
  | exact absurd h.2.2.1 p3
  | exact absurd (congrArg List.length h.2.2.2) p4
 intro hc7
 have p4 : a.nodes.length = b.nodes.length := by have h := of_decide_eq_false hc7; omega
 refine Ya ?_
 refine Xe ?_
 refine Xe ?_
 refine Xu ?_
 refine Xa (Xn rfl) ?_
 refine Yc ?_
 refine Y7 (fun n t H' => ∃ (i : Nat) (E E2 : Option Addr), n = a.nodes.length - i ∧ i ≤ a.nodes.length ∧ H' = K ∧ K.get H.size = .own 0 [.int .i64 a.told, .bool a.over, .slice E a.nodes.length c, .int .u64 a.rest, .slice W a.items.length cW] ∧ K.get (H.size + 1) = .own 0 [.int .i64 b.told, .bool b.over, .slice E2 b.nodes.length c2, .int .u64 b.rest, .slice W2 b.items.length cW2] ∧ Sl (Y3 .i64) H (.slice E a.nodes.length c) a.nodes ∧ Sl (Y3 .i64) H (.slice E2 b.nodes.length c2) b.nodes ∧ a.nodes.take i = b.nodes.take i ∧ t 2 = .pointer (some ⟨H.size, 0, none⟩) ∧ t 3 = .pointer (some ⟨H.size + 1, 0, none⟩) ∧ t 5 = .int .i64 i) (a.nodes.length) (⟨0, _, _, rfl, Nat.zero_le _, hK.symm, kg, kg2, hv, hv2, by simp, rfl, rfl, rfl⟩) ?_
 rintro n t K2 ⟨i, E, E2, rfl, hi, hK2, kg, kg2, hv, hv2, hsame, e2, e3, e5⟩
 subst hK2
 refine Xe ?_
 refine Xe ?_
 refine Xu ?_
 refine Xa (Xc Xl) ?_
 refine Xa (Xf (off := 2) Xl Tryz.underlying33 Xl inf23.size (by decide) Xl) ?_
 refine Xa (Xj rfl Tryz.underlying23 rfl Xp) ?_
 refine Xa (Yp rfl Tryz.underlying23) ?_
 refine Xa (Y5 rfl rfl) ?_
 refine X5 rfl rfl ?_ ?_
 intro hc8
 have hil : i < a.nodes.length := by have := of_decide_eq_true hc8; omega
 obtain ⟨q, o, eE, hqE, hcell⟩ := (hv.mono leK.sees).int_at (i := (i : Int)) (by omega) (by omega)
 rw [Int.toNat_natCast, Zc hil] at hcell
 subst eE
 obtain ⟨q2, o2, eE2, hqE2, hcell2⟩ := (hv2.mono leK.sees).int_at (i := (i : Int)) (by omega) (by omega)
 rw [Int.toNat_natCast, Zc (show i < b.nodes.length by omega)] at hcell2
 subst eE2
 refine Ya ?_
 refine Xe ?_
 refine Yc ?_
 refine Xe ?_
 refine Yw (by kernel_rfl) (Y1 (B := [0, 1, 0, 7, 15, 0, 32, 0, 224, 480, 1023]) (π := [0, 1, 2, 3, 4, 5, 6, 7, 8, 9, 10]) (by kernel_rfl)) ?_
 refine Xd rfl rfl (Xf (off := 2) Xl Tryz.underlying33 Xl inf23.size (by decide) Xl) Xq ?_
 refine Xd rfl rfl (Xj rfl Tryz.underlying23 rfl Xp) Xq ?_
 refine Xd rfl rfl (Xc Xl) Xq ?_
 refine Xd rfl rfl (Xs rfl rfl Tryz.underlying23 inf3.size X4 X4) Xq ?_
 refine Xd rfl rfl (Xj rfl Tryz.underlying3 rfl Xp) Xq ?_
 refine Xd rfl rfl (Xf (off := 2) Xl Tryz.underlying33 Xl inf23.size (by decide) Xl) Xq ?_
 refine Xd rfl rfl (Xj rfl Tryz.underlying23 rfl Xp) Xq ?_
 refine Xd rfl rfl (Xc Xl) Xq ?_
 refine Xd rfl rfl (Xs rfl rfl Tryz.underlying23 inf3.size X4 X4) Xq ?_
 refine Xd rfl rfl (Xj rfl Tryz.underlying3 rfl Xp) Xq ?_
 refine Xd rfl rfl (Z3 rfl rfl) Xq ?_
 refine X5 rfl rfl ?_ ?_
 intro hc9
 have hne : a.nodes[i] ≠ b.nodes[i]'(by omega) := of_decide_eq_true hc9
 refine Xe ?_
 refine Xu ?_
 refine Xa (Xm rfl) ?_
 refine X1 ?_
 exact ⟨.bool false, Xw (Xt rfl), false, rfl, ⟨fun h => (by cases h), fun h => absurd (by have h4 := h.2.2.2; simp only [h4]) hne⟩⟩
 intro hc9
 have heq : a.nodes[i] = b.nodes[i]'(by omega) := by have h := of_decide_eq_false hc9; exact Decidable.not_not.1 h
 refine Ya ?_
 refine Xu ?_
 refine Xa (Xc Xl) ?_
 refine Xa (Yo rfl rfl Y0) ?_
 refine Xa (Xn rfl) ?_
 exact ⟨a.nodes.length - (i + 1), by omega, i + 1, _, _, rfl, by omega, rfl, kg, kg2, hv, hv2, by rw [← Y2 hil, ← Y2 (show i < b.nodes.length by omega), hsame, heq], e2, e3, rfl⟩
 intro hc8
 have hil : i = a.nodes.length := by have := of_decide_eq_false hc8; omega
 rw [List.take_of_length_le (by omega), List.take_of_length_le (by omega)] at hsame
 refine Yx ?_
 refine Xe ?_
 refine Xu ?_
 refine Xa (Xm rfl) ?_
 refine X1 ?_
 exact ⟨.bool true, Xw (Xt rfl), true, rfl, ⟨fun _ => ⟨p1, p2, p3, hsame⟩, fun _ => rfl⟩⟩
theorem sameM_36 (a b : MarkT) (cs ds : List Value) (H : Hp) (ha : kMark.rep H a cs) (hb : kMark.rep H b ds) (hba : BigM a) (hbb : BigM b) :
  ACalls Tryz.prog 20 #[.agg cs.toArray, .agg ds.toArray] H (fun r H' => (∃ g, r = .bool g ∧ (g = true ↔ SameM a b)) ∧ H' = H) :=
 ACalls.pure (fun v ⟨g, h, _⟩ => by rw [h]; rfl) (sameM_raw a b cs ds H.ro (kMark.mono H.sees_ro ha) (kMark.mono H.sees_ro hb) hba hbb)





theorem few_cost (x : Link) : x.few.cost ≤ 1000000000 := by
 unfold Link.few
 by_cases h : 1000000000 < x.cost
 ·rw [if_pos h]; simp
 ·rw [if_neg h]; omega
theorem fewL_cost {xs : List Link} {x : Link} (h : x ∈ Va xs) : x.cost ≤ 1000000000 := by
 unfold Va at h
 obtain ⟨y, _, rfl⟩ := List.mem_map.1 h
 exact few_cost y
theorem tiny_few {f : Forest} {p : Parts} (hg : GoodP f.few p.few4) (hs : f.few.vars.length < 6) : Tiny f.few p.few4 := by
 have getn : ∀ v, ∀ x ∈ nd p.few4 v, v < f.few.vars.length := fun v x hx => by
  rcases Nat.lt_or_ge v f.few.vars.length with h | h
  ·exact h
  ·unfold nd at hx
   rw [List.getD_eq_getElem?_getD, List.getElem?_eq_none (by have := hg.n1; omega)] at hx; simp at hx
 have getl : ∀ v, ∀ x ∈ lk p.few4 v, v < f.few.vars.length := fun v x hx => by
  rcases Nat.lt_or_ge v f.few.vars.length with h | h
  ·exact h
  ·unfold lk at hx
   rw [List.getD_eq_getElem?_getD, List.getElem?_eq_none (by have := hg.n2; omega)] at hx; simp at hx
 refine ⟨by omega, fun v => ?_, fun v x hx => ?_, fun v x hx => ?_⟩
 ·unfold nd
  by_cases h : v < p.few4.nodes.length
  ·rw [Zb h]
   obtain ⟨l, _, e⟩ := List.mem_map.1 (show p.few4.nodes[v] ∈ (p.few.nodes.map (·.take 4)) from List.getElem_mem h)
   rw [← e, List.length_take]; omega
  ·rw [List.getD_eq_getElem?_getD, List.getElem?_eq_none (by omega)]; simp
 ·have hv := getn v x hx
  obtain ⟨k1, _⟩ := Vw.1 (hg.ok v hv).1
  obtain ⟨a1, a2, a3, a4, a5, a6, a7⟩ := k1 x hx
  refine ⟨a5, ?_, by omega, a7⟩
  have h : v < p.few4.nodes.length := by rw [hg.n1]; exact hv
  unfold nd at hx
  rw [Zb h] at hx
  obtain ⟨l, hl, e⟩ := List.mem_map.1 (show p.few4.nodes[v] ∈ (p.few.nodes.map (·.take 4)) from List.getElem_mem h)
  rw [← e] at hx
  obtain ⟨l2, _, rfl⟩ := List.mem_map.1 hl
  exact fewL_cost (List.mem_of_mem_take hx)
 ·have hv := getl v x hx
  obtain ⟨k1, _⟩ := Vw.1 (hg.ok v hv).2.1
  obtain ⟨a1, a2, a3, a4, a5, a6, a7⟩ := k1 x hx
  refine ⟨a5, ?_, by omega, a7⟩
  have h : v < p.few4.links.length := by rw [hg.n2]; exact hv
  unfold lk at hx
  rw [Zb h] at hx
  obtain ⟨l, hl, e⟩ := List.mem_map.1 (show p.few4.links[v] ∈ ((p.links.take 8).map Va) from List.getElem_mem h)
  rw [← e] at hx
  exact fewL_cost hx
theorem Tiny.sub {f : Forest} {p q : Parts} (h : Tiny f p) (hs : Sub q p) : Tiny f q :=
 ⟨h.vars, fun v => Nat.le_trans (hs v).1.length_le (h.nodes v), fun v x hx => h.costN v x ((hs v).1.subset hx), fun v x hx => h.costL v x ((hs v).2.subset hx)⟩
theorem cheap_few {f : Forest} {p : Parts} (hg : GoodP f.few p.few4) : Cheap p.few4 := by
 have getn : ∀ v, ∀ x ∈ nd p.few4 v, v < f.few.vars.length := fun v x hx => by
  rcases Nat.lt_or_ge v f.few.vars.length with h | h
  ·exact h
  ·unfold nd at hx
   rw [List.getD_eq_getElem?_getD, List.getElem?_eq_none (by have := hg.n1; omega)] at hx; simp at hx
 have getl : ∀ v, ∀ x ∈ lk p.few4 v, v < f.few.vars.length := fun v x hx => by
  rcases Nat.lt_or_ge v f.few.vars.length with h | h
  ·exact h
  ·unfold lk at hx
   rw [List.getD_eq_getElem?_getD, List.getElem?_eq_none (by have := hg.n2; omega)] at hx; simp at hx
 refine ⟨fun v x hx => ?_, fun v x hx => ?_⟩
 ·have hv := getn v x hx
  obtain ⟨k1, _⟩ := Vw.1 (hg.ok v hv).1
  obtain ⟨a1, a2, a3, a4, a5, a6, a7⟩ := k1 x hx
  refine ⟨a5, ?_, by omega⟩
  have h : v < p.few4.nodes.length := by rw [hg.n1]; exact hv
  unfold nd at hx
  rw [Zb h] at hx
  obtain ⟨l, hl, e⟩ := List.mem_map.1 (show p.few4.nodes[v] ∈ (p.few.nodes.map (·.take 4)) from List.getElem_mem h)
  rw [← e] at hx
  obtain ⟨l2, _, rfl⟩ := List.mem_map.1 hl
  exact fewL_cost (List.mem_of_mem_take hx)
 ·have hv := getl v x hx
  obtain ⟨k1, _⟩ := Vw.1 (hg.ok v hv).2.1
  obtain ⟨a1, a2, a3, a4, a5, a6, a7⟩ := k1 x hx
  refine ⟨a5, ?_, by omega⟩
  have h : v < p.few4.links.length := by rw [hg.n2]; exact hv
  unfold lk at hx
  rw [Zb h] at hx
  obtain ⟨l, hl, e⟩ := List.mem_map.1 (show p.few4.links[v] ∈ ((p.links.take 8).map Va) from List.getElem_mem h)
  rw [← e] at hx
  exact fewL_cost hx
theorem few_vars (f : Forest) : f.few.vars.length ≤ 8 := by
 show ((f.vars.take 8).map _).length ≤ 8
 rw [List.length_map, List.length_take]; omega
def Vj : List Int → List Int → Int
 | x :: xs, y :: ys => if x < y then -1 else if y < x then 1 else Vj xs ys
 | _, _ => 0
theorem cmpZ_self : ∀ xs : List Int, Vj xs xs = 0
 | [] => rfl
 | x :: xs => by rw [Vj, if_neg (by omega), if_neg (by omega)]; exact cmpZ_self xs
theorem cmpZ_end {xs ys : List Int} (h : xs = [] ∨ ys = []) : Vj xs ys = 0 := by
 rcases h with rfl | rfl
 ·cases ys <;> rfl
 ·cases xs <;> rfl
theorem Cmp_raw (xs ys : List Int) (v u : Value) (H : Hp) (hs : Sl (Y3 .i64) H v xs) (hu : Sl (Y3 .i64) H u ys) (hl : xs.length ≤ 1000000000) (hl2 : ys.length ≤ 1000000000) :
  ACalls Tryz.prog 61 #[v, u] H (fun r _ => r = .int .i64 (Vj xs ys)) := by
 obtain ⟨A, c, rfl⟩ := hs.shape
 obtain ⟨B, c2, rfl⟩ := hu.shape
 refine Xv Tryz.func61 rfl rfl rfl (by simp) ?_
 refine Xe ?_
 refine Xu ?_
 refine Xa (Xn rfl) ?_
 refine Xe ?_
 refine Xe ?_
 refine Xu ?_
 refine Xa (Xn rfl) ?_
 refine Yc ?_
 refine Y7 (fun n t H' => ∃ i : Nat, i ≤ xs.length ∧ i ≤ ys.length ∧ n = xs.length - i ∧ H' = H ∧ Vj xs ys = Vj (xs.drop i) (ys.drop i) ∧ t 0 = .slice A xs.length c ∧ t 1 = .slice B ys.length c2 ∧ t 5 = .int .i64 i) (xs.length) (⟨0, by omega, by omega, rfl, rfl, rfl, rfl, rfl, rfl⟩) ?_
 rintro n t H ⟨i, hi, hi2, rfl, rfl, hor, e0, e1, e5⟩
 refine Xe ?_
 refine Xe ?_
 refine Xu ?_
 refine Xa (Xc Xl) ?_
 refine Xa (X2 Xl) ?_
 refine Xa (Yp rfl Tryz.underlying23) ?_
 refine Xa (Y5 rfl rfl) ?_
 refine Xa (Xo rfl) ?_
 refine X7 rfl rfl rfl ?_ ?_
 intro hg1
 have hx : i < xs.length := by have := of_decide_eq_true hg1; omega
 refine Xi (Xh rfl rfl rfl hg1) (Xc Xl) ?_
 refine Xi (Xh rfl rfl rfl hg1) (X2 Xl) ?_
 refine Xi (Xh rfl rfl rfl hg1) (Yp rfl Tryz.underlying23) ?_
 refine Xi (Xh rfl rfl rfl hg1) (Y5 rfl rfl) ?_
 refine Xa (Xk (Yv hg1) rfl) ?_
 refine X5 rfl rfl ?_ ?_
 intro hc2
 have hy : i < ys.length := by have := of_decide_eq_true hc2; omega
 have d1 : xs.drop i = xs[i] :: xs.drop (i + 1) := List.drop_eq_getElem_cons hx
 have d2 : ys.drop i = ys[i] :: ys.drop (i + 1) := List.drop_eq_getElem_cons hy
 rw [d1, d2, Vj] at hor
 refine Ya ?_
 refine Xe ?_
 refine Yc ?_
 refine Xe ?_
 refine Xe ?_
 obtain ⟨b, o, eb, hb, hcell⟩ := hs.int_at (i := (i : Int)) (by omega) (by omega)
 obtain ⟨b2, o2, eb2, hb2, hcell2⟩ := hu.int_at (i := (i : Int)) (by omega) (by omega)
 subst eb eb2
 rw [Int.toNat_natCast, Zc hx] at hcell
 rw [Int.toNat_natCast, Zc hy] at hcell2
 refine Yw (by kernel_rfl) (Y1 (B := [0, 0, 3, 7, 0, 0, 48, 112, 255]) (π := [0, 1, 2, 3, 4, 5, 6, 7, 8]) (by kernel_rfl)) ?_
 refine Xd rfl rfl (X2 Xl) Xq ?_
 refine Xd rfl rfl (Xc Xl) Xq ?_
 refine Xd rfl rfl (Xs rfl rfl Tryz.underlying23 inf3.size X4 X4) Xq ?_
 refine Xd rfl rfl (Xj rfl Tryz.underlying3 rfl Xp) Xq ?_
 refine Xd rfl rfl (X2 Xl) Xq ?_
 refine Xd rfl rfl (Xc Xl) Xq ?_
 refine Xd rfl rfl (Xs rfl rfl Tryz.underlying23 inf3.size X4 X4) Xq ?_
 refine Xd rfl rfl (Xj rfl Tryz.underlying3 rfl Xp) Xq ?_
 refine Xd rfl rfl (Y5 rfl rfl) Xq ?_
 refine X5 rfl rfl ?_ ?_
 intro hc3
 have h1 : xs[i] < ys[i] := of_decide_eq_true hc3
 rw [if_pos h1] at hor
 refine Xe ?_
 refine Xu ?_
 refine Xa (Xn rfl) ?_
 refine X1 ?_
 exact ⟨.int .i64 (-1), Xw (Xt rfl), by rw [hor]⟩
 intro hc3
 have h1 : ¬ xs[i] < ys[i] := of_decide_eq_false hc3
 rw [if_neg h1] at hor
 refine Ya ?_
 refine Xe ?_
 refine Yw (by kernel_rfl) (Y1 (B := [0, 0, 3, 7, 0, 0, 48, 112, 255]) (π := [0, 1, 2, 3, 4, 5, 6, 7, 8]) (by kernel_rfl)) ?_
 refine Xd rfl rfl (X2 Xl) Xq ?_
 refine Xd rfl rfl (Xc Xl) Xq ?_
 refine Xd rfl rfl (Xs rfl rfl Tryz.underlying23 inf3.size X4 X4) Xq ?_
 refine Xd rfl rfl (Xj rfl Tryz.underlying3 rfl Xp) Xq ?_
 refine Xd rfl rfl (X2 Xl) Xq ?_
 refine Xd rfl rfl (Xc Xl) Xq ?_
 refine Xd rfl rfl (Xs rfl rfl Tryz.underlying23 inf3.size X4 X4) Xq ?_
 refine Xd rfl rfl (Xj rfl Tryz.underlying3 rfl Xp) Xq ?_
 refine Xd rfl rfl (Vo rfl rfl) Xq ?_
 refine X5 rfl rfl ?_ ?_
 intro hc4
 have h2 : ys[i] < xs[i] := of_decide_eq_true hc4
 rw [if_pos h2] at hor
 refine Xe ?_
 refine Xu ?_
 refine Xa (Xn rfl) ?_
 refine X1 ?_
 exact ⟨.int .i64 1, Xw (Xt rfl), by rw [hor]⟩
 intro hc4
 have h2 : ¬ ys[i] < xs[i] := of_decide_eq_false hc4
 rw [if_neg h2] at hor
 refine Ya ?_
 refine Xu ?_
 refine Xa (Xc Xl) ?_
 refine Xa (Yo rfl rfl Y0) ?_
 refine Xa (Xn rfl) ?_
 exact ⟨xs.length - (i + 1), by omega, i + 1, by omega, by omega, rfl, rfl, hor, e0, e1, rfl⟩
 intro hc2
 have hy : ¬ i < ys.length := by have := of_decide_eq_false hc2; omega
 refine Yx ?_
 refine Xe ?_
 refine Xu ?_
 refine Xa (Xn rfl) ?_
 refine X1 ?_
 have h0 : Vj (xs.drop i) (ys.drop i) = 0 := cmpZ_end (by
  first
   | exact .inl (List.drop_of_length_le (by omega))
   | exact .inr (List.drop_of_length_le (by omega)))
 exact ⟨.int .i64 0, Xw (Xt rfl), by rw [hor, h0]⟩
 intro hg1
 have hx : ¬ i < xs.length := by have := of_decide_eq_false hg1; omega
 refine Xb (Xg rfl rfl rfl hg1 rfl) ?_
 refine Xb (Xg rfl rfl rfl hg1 rfl) ?_
 refine Xb (Xg rfl rfl rfl hg1 rfl) ?_
 refine Xb (Xg rfl rfl rfl hg1 rfl) ?_
 refine Xa (Xk (Yv hg1) Xl) ?_
 refine Y4 rfl rfl ?_
 refine Yx ?_
 refine Xe ?_
 refine Xu ?_
 refine Xa (Xn rfl) ?_
 refine X1 ?_
 have h0 : Vj (xs.drop i) (ys.drop i) = 0 := cmpZ_end (by
  first
   | exact .inl (List.drop_of_length_le (by omega))
   | exact .inr (List.drop_of_length_le (by omega)))
 exact ⟨.int .i64 0, Xw (Xt rfl), by rw [hor, h0]⟩
theorem Cmp_ints (xs ys : List Int) (v u : Value) (H : Hp) (hs : Sl (Y3 .i64) H v xs) (hu : Sl (Y3 .i64) H u ys) (hl : xs.length ≤ 1000000000) (hl2 : ys.length ≤ 1000000000) :
  ACalls Tryz.prog 61 #[v, u] H (fun r H' => r = .int .i64 (Vj xs ys) ∧ H' = H) :=
 ACalls.pure (fun v h => by rw [h]; rfl) (Cmp_raw xs ys v u H.ro (hs.mono H.sees_ro) (hu.mono H.sees_ro) hl hl2)
theorem SameRow_raw (ns : List Int) (cost m : Int) (A B : Option Addr) (c c2 : Nat) (H : Hp) (hs : Sl (Y3 .i64) H (.slice A ns.length c) ns) (hu : Sl (Y3 .i64) H (.slice B ns.length c2) ns) (hl : ns.length ≤ 1000000000) :
  ACalls Tryz.prog 22 #[.agg #[.slice A ns.length c, .int .i64 cost, .int .u64 m], .agg #[.slice B ns.length c2, .int .i64 cost, .int .u64 m]] H (fun r _ => r = .bool true) := by
 refine Xv Tryz.func22 rfl rfl rfl (by simp) ?_
 refine Xe ?_
 refine Xu ?_
 refine X0 (Yt rfl) ?_
 refine X0 (Yt rfl) ?_
 refine Xa (Xm rfl) ?_
 refine Xe ?_
 refine Xe ?_
 refine Xu ?_
 refine Xa (Xf (off := 1) rfl Tryz.underlying46 rfl inf3.size (by decide) rfl) ?_
 refine Xa (Xj rfl Tryz.underlying3 rfl Xp) ?_
 refine Xa (Xf (off := 1) rfl Tryz.underlying46 rfl inf3.size (by decide) rfl) ?_
 refine Xa (Xj rfl Tryz.underlying3 rfl Xp) ?_
 refine Xa (Z3 rfl rfl) ?_
 refine Xa (Xo rfl) ?_
 refine X7 rfl rfl rfl ?_ ?_
 intro hg1
 (have h := hg1; simp at h)
 intro hg1
 have hp1 := hg1; try simp only [Ys] at hp1
 refine Xi (Xh rfl rfl rfl hg1) (Xf (off := 2) rfl Tryz.underlying46 rfl inf30.size (by decide) rfl) ?_
 refine Xi (Xh rfl rfl rfl hg1) (Xj rfl Tryz.underlying30 rfl Xp) ?_
 refine Xi (Xh rfl rfl rfl hg1) (Xf (off := 2) rfl Tryz.underlying46 rfl inf30.size (by decide) rfl) ?_
 refine Xi (Xh rfl rfl rfl hg1) (Xj rfl Tryz.underlying30 rfl Xp) ?_
 refine Xi (Xh rfl rfl rfl hg1) (Z3 rfl rfl) ?_
 refine Xa (Xk (Yv hg1) rfl) ?_
 refine Xa (Xo rfl) ?_
 refine X7 rfl rfl rfl ?_ ?_
 intro hg2
 (have h := hg2; simp at h)
 intro hg2
 have hp2 := hg2; try simp only [Ys] at hp2
 refine Xi (Xh rfl rfl rfl hg2) (Xf (off := 0) rfl Tryz.underlying46 rfl inf23.size (by decide) rfl) ?_
 refine Xi (Xh rfl rfl rfl hg2) (Xj rfl Tryz.underlying23 rfl Xp) ?_
 refine Xi (Xh rfl rfl rfl hg2) (Yp rfl Tryz.underlying23) ?_
 refine Xi (Xh rfl rfl rfl hg2) (Xf (off := 0) rfl Tryz.underlying46 rfl inf23.size (by decide) rfl) ?_
 refine Xi (Xh rfl rfl rfl hg2) (Xj rfl Tryz.underlying23 rfl Xp) ?_
 refine Xi (Xh rfl rfl rfl hg2) (Yp rfl Tryz.underlying23) ?_
 refine Xi (Xh rfl rfl rfl hg2) (Z3 rfl rfl) ?_
 refine Xa (Xk (Yv hg2) rfl) ?_
 refine X5 rfl rfl ?_ ?_
 intro hc3
 (have h := hc3; simp at h)
 intro hc3
 (try simp only [Ys] at hc3)
 refine Ya ?_
 refine Xe ?_
 refine Xu ?_
 refine Xa (Xf (off := 0) rfl Tryz.underlying46 rfl inf23.size (by decide) rfl) ?_
 refine Xa (Xj rfl Tryz.underlying23 rfl Xp) ?_
 refine Xa (Xf (off := 0) rfl Tryz.underlying46 rfl inf23.size (by decide) rfl) ?_
 refine Xa (Xj rfl Tryz.underlying23 rfl Xp) ?_
 refine Xx (Xy (Cmp_ints ns ns _ _ _ (hs.mono Zk) (hu.mono Zk) hl hl) rfl Tryz.func61 rfl rfl rfl ?_)
 rintro v5 H5 ⟨rfl, rfl⟩; rw [cmpZ_self]
 refine Xa (Zr rfl rfl) ?_
 refine Xa (Xm rfl) ?_
 refine X1 ?_
 exact ⟨.bool true, Xw (Xt rfl), rfl⟩
theorem SameRow_true (ns : List Int) (cost m : Int) (A B : Option Addr) (c c2 : Nat) (H : Hp) (hs : Sl (Y3 .i64) H (.slice A ns.length c) ns) (hu : Sl (Y3 .i64) H (.slice B ns.length c2) ns) (hl : ns.length ≤ 1000000000) :
  ACalls Tryz.prog 22 #[.agg #[.slice A ns.length c, .int .i64 cost, .int .u64 m], .agg #[.slice B ns.length c2, .int .i64 cost, .int .u64 m]] H (fun r H' => r = .bool true ∧ H' = H) :=
 ACalls.pure (fun v h => by rw [h]; rfl) (SameRow_raw ns cost m A B c c2 H.ro (hs.mono H.sees_ro) (hu.mono H.sees_ro) hl)
theorem OfRow_ref (A : Option Addr) (n c : Nat) (cost m : Int) (H : Hp) :
  ACalls Tryz.prog 23 #[.agg #[.slice A n c, .int .i64 cost, .int .u64 m]] H (fun r H' => r = .agg #[.slice A n c, .int .i64 cost, .int .u64 m] ∧ H.le H') := by
 refine Xv Tryz.func23 rfl rfl rfl (by simp) ?_
 refine Xe ?_
 refine Xu ?_
 refine X0 (Yt rfl) ?_
 refine X0 (Yy (l := [.slice none 0 0, .int .i64 0, .int .u64 0]) inf46.zero rfl (by decide)) ?_
 refine Xe ?_
 refine Xu ?_
 refine Xa (Xf (off := 0) rfl Tryz.underlying54 rfl inf23.size (by decide) rfl) ?_
 refine Xa (Xj rfl Tryz.underlying23 rfl Xp) ?_
 refine Xa (Xf (off := 1) rfl Tryz.underlying54 rfl inf3.size (by decide) rfl) ?_
 refine Xa (Xj rfl Tryz.underlying3 rfl Xp) ?_
 refine Xa (Xf (off := 2) rfl Tryz.underlying54 rfl inf30.size (by decide) rfl) ?_
 refine Xa (Xj rfl Tryz.underlying30 rfl Xp) ?_
 refine Xa (Y6 (pl := [(0, 1), (1, 1), (2, 1)]) (r := [.slice _ _ _, .int .i64 _, .int .u64 _]) Tryz.underlying46 inf46.zero (by decide) rfl rfl) ?_
 refine Xx (Yf (vs := [.slice _ _ _, .int .i64 _, .int .u64 _]) rfl rfl inf46.size Yb Yd rfl rfl ?_)
 refine X1 ?_
 ·exact ⟨_, Xw (Yr Xl (Yq (cs := [_, _, _]) Tryz.underlying46 rfl inf46.size X6)), rfl, Hp.le_put_new (Hp.le_push' (H.le_push _) _) (by first | (simp; done) | (simp; omega) | omega) _⟩
theorem rows_eq {T : TreeT} {r s : RowT} (h : r.nodes = s.nodes) (hr : Z9 T r.nodes = some r) (hs : Z9 T s.nodes = some s) : r = s := by
 rw [h, hs] at hr
 exact (Option.some.inj hr).symm
def extW (T : TreeT) : Nat → List Int → Nat → List (List Int × Nat)
 | 0, ns, w => [(ns, w)]
 | d + 1, ns, w => (T.group ns.length (Yn T ns ns.length)).flatMap fun l => extW T d (ns ++ [l.b]) (w * l.n.toNat)
theorem extW_fst {T : TreeT} : ∀ (d : Nat) (ns : List Int) (w : Nat), (extW T d ns w).map Prod.fst = Zx T d ns
 | 0, ns, w => rfl
 | d + 1, ns, w => by
  rw [extW, Zx]
  generalize T.group ns.length (Yn T ns ns.length) = g
  induction g with
  | nil => rfl
  | cons l g ih => rw [List.flatMap_cons, List.flatMap_cons, List.map_append, extW_fst d, ih]
theorem rowAcc_left {T : TreeT} (hT : GoodT T) {q ms : List Int} : ∀ i, i ≤ q.length → i ≤ T.vars.length → Zs T (q ++ ms) i = Zs T q i
 | 0, _, _ => rfl
 | i + 1, h, h2 => by
  rw [Zs, Zs, rowAcc_left hT i (by omega) (by omega), Z4 hT (ns := q ++ ms) (ms := q) (by omega) (fun j hj => Ur (by omega)), Ur (by omega)]
theorem extW_row {T : TreeT} (hT : GoodT T) : ∀ (d : Nat) (q : List Int) (w : Nat) (c : Int), Zs T q q.length = some (c, capI w) → q.length + d = T.vars.length → ∀ x ∈ extW T d q w, ∃ c', Zs T x.1 T.vars.length = some (c', capI x.2)
 | 0, q, w, c, h, h2, x, hx => by
  rw [extW, List.mem_singleton] at hx
  subst hx
  exact ⟨c, by rw [← h2]; exact h⟩
 | d + 1, q, w, c, h, h2, x, hx => by
  rw [extW] at hx
  obtain ⟨l, hl, hx⟩ := List.mem_flatMap.1 hx
  have hn := (hT.group_mem hl).2.2
  refine extW_row hT d (q ++ [l.b]) (w * l.n.toNat) (c + l.cost) ?_ (by simp; omega) x hx
  rw [List.length_append, List.length_singleton, Zs, rowAcc_left hT _ (Nat.le_refl _) (by omega), h]
  have hab : Yn T (q ++ [l.b]) q.length = Yn T q q.length := Z4 hT (by omega) fun j hj => Ur hj
  rw [hab, Uf, (Uo (hT.sort _ _)).2 ⟨hl, rfl⟩]
  simp only [Option.bind_some, Option.map_some, Option.some.injEq, Prod.mk.injEq, true_and]
  rw [← timesI_cap]
  conv => lhs; rw [show l.n = ((l.n.toNat : Nat) : Int) by omega]
  rw [timesI_comm, timesI_nat, timesI_comm]
theorem extW_rows {T : TreeT} (hT : GoodT T) {rows : List RowT} (hrm : rows.map RowT.nodes = Zx T T.vars.length []) (hrr : ∀ r ∈ rows, Z9 T r.nodes = some r) : (rows.map fun r => (r.nodes, r.n)) = (extW T T.vars.length [] 1).map fun x => (x.1, capI x.2) := by
 have hf := extW_fst (T := T) T.vars.length [] 1
 rw [← hrm] at hf
 have hlen : rows.length = (extW T T.vars.length [] 1).length := by
  have := congrArg List.length hf
  rw [List.length_map, List.length_map] at this
  exact this.symm
 refine List.ext_getElem (by rw [List.length_map, List.length_map, hlen]) fun i h1 h2 => ?_
 rw [List.length_map] at h1 h2
 rw [List.getElem_map, List.getElem_map]
 have e1 : (extW T T.vars.length [] 1)[i].1 = rows[i].nodes := by
  have h3 : ((extW T T.vars.length [] 1).map Prod.fst)[i]? = (rows.map RowT.nodes)[i]? := by rw [hf]
  rw [List.getElem?_map, List.getElem?_map, List.getElem?_eq_getElem h1, List.getElem?_eq_getElem h2] at h3
  exact Option.some.inj h3
 obtain ⟨c, hc⟩ := extW_row hT T.vars.length [] 1 0 (by rw [← cap_one]; rfl) (by simp) _ (List.getElem_mem h2)
 have hr := hrr _ (List.getElem_mem h1)
 rw [e1] at hc
 unfold Z9 at hr
 split at hr
 ·rw [hc] at hr
  have hr := Option.some.inj hr
  rw [e1, ← hr]
 ·cases hr
def atR : List RowT → Int → Option (Nat × Int)
 | [], _ => none
 | r :: rs, k => if k < r.n then some (0, k) else (atR rs (k - r.n)).map fun p => (p.1 + 1, p.2)
theorem cmpZ_app : ∀ (p xs ys : List Int), Vj (p ++ xs) (p ++ ys) = Vj xs ys
 | [], xs, ys => rfl
 | a :: p, xs, ys => by
  show Vj (a :: (p ++ xs)) (a :: (p ++ ys)) = _
  rw [Vj, if_neg (by omega), if_neg (by omega), cmpZ_app p]
theorem cmpZ_anti : ∀ (xs ys : List Int), Vj ys xs = - Vj xs ys
 | [], [] => rfl
 | [], y :: ys => rfl
 | x :: xs, [] => rfl
 | x :: xs, y :: ys => by
  rw [Vj, Vj, cmpZ_anti xs ys]
  by_cases h1 : x < y
  ·rw [if_neg (by omega), if_pos h1, if_pos h1]; rfl
  ·by_cases h2 : y < x
   ·rw [if_pos h2, if_neg h1, if_pos h2]
   ·rw [if_neg h2, if_neg h1, if_neg h1, if_neg h2]
theorem ext_cmp {T : TreeT} {d : Nat} {q r ns : List Int} {b : Int} (h : r ∈ Zx T d (q ++ [b])) (hq : ns.take q.length = q) (hl : q.length < ns.length) : (b < ns.getD q.length 0 → Vj r ns < 0) ∧ (ns.getD q.length 0 < b → ¬ Vj r ns < 0) := by
 obtain ⟨h1, h2⟩ := mem_ext d _ r h
 have e1 : r = q ++ (b :: r.drop (q.length + 1)) := by
  conv => lhs; rw [← List.take_append_drop (q.length + 1) r]
  rw [List.length_append, List.length_singleton] at h2
  rw [h2, List.append_assoc]; rfl
 have e2 : ns = q ++ (ns.getD q.length 0 :: ns.drop (q.length + 1)) := by
  conv => lhs; rw [← List.take_append_drop q.length ns, hq]
  rw [List.drop_eq_getElem_cons hl, Zc hl]
 generalize r.drop (q.length + 1) = r' at e1
 generalize ns.drop (q.length + 1) = n' at e2
 generalize ns.getD q.length 0 = c at e2 ⊢
 rw [e1, e2, cmpZ_app, Vj]
 refine ⟨fun h => by rw [if_pos h]; decide, fun h => by rw [if_neg (by omega), if_pos h]; decide⟩
theorem ext_sorted {T : TreeT} (hT : GoodT T) : ∀ (d : Nat) (q : List Int), (Zx T d q).Pairwise fun a b => Vj a b < 0
 | 0, q => List.pairwise_singleton _ _
 | d + 1, q => by
  rw [Zx]
  have hs := hT.sort q.length (Yn T q q.length)
  generalize T.group q.length (Yn T q q.length) = g at hs
  induction g with
  | nil => exact List.Pairwise.nil
  | cons l g ih =>
   rw [List.pairwise_cons] at hs
   rw [List.flatMap_cons, List.pairwise_append]
   refine ⟨ext_sorted hT d _, ih hs.2, fun a ha b hb => ?_⟩
   obtain ⟨m, hm, hb⟩ := List.mem_flatMap.1 hb
   obtain ⟨b1, b2⟩ := mem_ext d _ b hb
   rw [List.length_append, List.length_singleton] at b1 b2
   have hbq : b.take q.length = q := by
    have h4 := congrArg (List.take q.length) b2
    rw [List.take_take, Nat.min_eq_left (by omega), List.take_append_of_le_length (Nat.le_refl _), List.take_length] at h4
    exact h4
   refine (ext_cmp ha hbq (by omega)).1 ?_
   have : b.getD q.length 0 = m.b := by
    have h5 : (b.take (q.length + 1)).getD q.length 0 = m.b := by rw [b2, Uf]
    rwa [Vf (by omega)] at h5
   rw [this]
   exact hs.1 m hm
theorem rows_sorted {T : TreeT} (hT : GoodT T) {rows : List RowT} (hrm : rows.map RowT.nodes = Zx T T.vars.length []) : rows.Pairwise (fun a b => Vj a.nodes b.nodes < 0) := by
 have h := ext_sorted hT T.vars.length []
 rw [← hrm, List.pairwise_map] at h
 exact h
theorem wrap_u64a {x : Int} (h : 0 ≤ x) (h2 : x < 18446744073709551616) : IntKind.u64.wrap x = x := by
 simp [IntKind.wrap, IntKind.bits, IntKind.signed]; omega
def prodT (ss : List Int) : Int := ss.foldl Ze 1

theorem av_conv_is {P : Program} {t : Fr} {H : Hp} {d : Option Tmp} {ty : TypeId} {pos : String} {after : Array Edge} {guard : Option (Nat × Bool)} {x : Operand} {src dst : TypeId} {k k' : IntKind} {a v : Int} (hv : k'.wrap a = v) (hx : t.eval x = .int k a) (hs : (P.underlying src).isSome = true) (hd : P.underlying dst = some (.int k')) : AVal P ⟨d, .convert src dst x, ty, pos, after, guard⟩ t [] H (.int k' v) := by
 subst hv; exact av_conv hx hs hd
theorem av_addn_is {P : Program} {t : Fr} {H : Hp} {d : Option Tmp} {ty : TypeId} {pos : String} {after : Array Edge} {guard : Option (Nat × Bool)} {x y : Operand} {xt yt : TypeId} {k : IntKind} {a b v : Int} (hv : k.wrap (a + b) = v) (hx : t.eval x = .int k a) (hy : t.eval y = .int k b) : AVal P ⟨d, .binOp .add xt x y yt, ty, pos, after, guard⟩ t [] H (.int k v) := by
 subst hv; exact av_add hx hy
theorem lit_u64 {n : Int} (h : (Lit.int .u64 n).wf = true) : 0 ≤ n ∧ n ≤ 18446744073709551615 := by
 unfold Lit.wf at h
 rw [Bool.and_eq_true, decide_eq_true_eq, decide_eq_true_eq] at h
 exact h

def FindP (K G H : Hp) (fb cb tb : Nat) (ns : List Int) (w wk : Int) : Prop := ∃ B c, K.le G ∧ K.size ≤ fb ∧ fb < G.size ∧ G.get fb = .own 0 [.pointer (some ⟨cb, 0, none⟩), .pointer (some ⟨tb, 0, none⟩), .slice B ns.length c, .int .u64 w, .int .i64 wk] ∧ OwnP (Y3 .i64) G H (.slice B ns.length c) ns
theorem FindP.later {K G H H' : Hp} {fb cb tb : Nat} {ns : List Int} {w wk : Int} (h : FindP K G H fb cb tb ns w wk) (hle : H.le H') : ∃ G', G.le G' ∧ FindP K G' H' fb cb tb ns w wk := by
 obtain ⟨B, c, h1, h2, h3, h4, h5⟩ := h
 obtain ⟨G', l1, o1⟩ := h5.later hle
 exact ⟨G', l1, B, c, Hp.le_trans h1 l1, h2, Nat.lt_of_lt_of_le h3 l1.1, Xr l1 h3 (by intro e; cases e) h4, o1⟩
theorem FindP.le {K G H : Hp} {fb cb tb : Nat} {ns : List Int} {w wk : Int} (h : FindP K G H fb cb tb ns w wk) : K.le H := by
 obtain ⟨B, c, h1, h2, h3, h4, h5⟩ := h
 exact Hp.le_trans h1 h5.le
theorem path_nil (T : TreeT) : Path T [] := fun i hi => by simp at hi
structure GoodD (ds ss : List Int) : Prop where
 len : ds.length = ss.length
 few : prodT ss ≠ 4611686018427387904
 lt : ∀ i (h : i < ds.length) (h' : i < ss.length), ds[i] < ss[i]

theorem own_cells {G H : Hp} {v : Value} {xs : List Int} (h : OwnP (Y3 .u8) G H v xs) (hne : 0 < xs.length) : ∃ b c, v = .slice (some ⟨b, 0, none⟩) xs.length c ∧ b < H.size ∧ Cells H b 0 (xs.map (Value.int .u8)) := by
 have hs := h.sl
 rcases h with ⟨_, h2, _⟩ | ⟨b, cs, c, rfl, hb, hd, hH, hc, he⟩
 ·subst h2; simp at hne
 ·refine ⟨b, c, rfl, by rw [hH]; simpa using hb, fun j v hj => ?_⟩
  rw [List.getElem?_map] at hj
  cases hxj : xs[j]? with
  | none => rw [hxj] at hj; cases hj
  | some a =>
   rw [hxj] at hj
   injection hj with hj
   subst hj
   have hjl := (List.getElem?_eq_some_iff.1 hxj).1
   obtain ⟨b', o', e', hb', hc'⟩ := hs.int_at (i := (j : Int)) (by omega) (by omega)
   simp only [Option.some.injEq, Addr.mk.injEq, and_true] at e'
   obtain ⟨rfl, rfl⟩ := e'
   rw [Int.toNat_natCast, Nat.mul_one, List.getD_eq_getElem?_getD, hxj] at hc'
   exact hc'
theorem put_small {G H : Hp} {v : Value} {xs : List Int} (h : OwnP (Y3 .u8) G H v xs) (u : Int) (h0 : 0 ≤ u) (h1 : u < 128) (hl : xs.length ≤ 1000000) :
  ACalls Tryz.prog 127 #[v, .int .u64 u] H (fun r H' => ∃ G', G.le G' ∧ OwnP (Y3 .u8) G' H' r (xs ++ [u])) := by
 obtain ⟨A, c, rfl⟩ := h.shape
 have hw : IntKind.u8.wrap u = u := by simp [IntKind.wrap, IntKind.bits, IntKind.signed]; omega
 refine Xv Tryz.func127 rfl rfl rfl (by simp) ?_
 refine Xe ?_
 refine Xu ?_
 refine Xa (Yi rfl) ?_
 refine Xe ?_
 refine Yc ?_
 refine Y7 (fun n t H' => n = 0 ∧ H' = H ∧ t 0 = .slice A xs.length c ∧ t 1 = .int .u64 u) (0) (⟨rfl, rfl, rfl, rfl⟩) ?_
 rintro n t H2 ⟨rfl, rfl, e0, e1⟩
 refine Xe ?_
 refine Xe ?_
 refine Xu ?_
 refine Xa (Xc Xl) ?_
 refine Xa (av_ge rfl rfl) ?_
 refine X5 rfl rfl ?_ ?_
 intro hc1
 (have h := of_decide_eq_true hc1; exfalso; omega)
 intro hc1
 (try simp only [Ys] at hc1)
 refine Yx ?_
 refine Xe ?_
 refine Xu ?_
 refine Xa (X2 Xl) ?_
 refine Xa (Xc Xl) ?_
 refine Xa (av_conv_is hw rfl (by rw [Tryz.underlying30]; rfl) Tryz.underlying5) ?_
 first | refine X0 (Yj (r := [.int .u8 _]) Tryz.underlying173 inf5.size inf5.zero rfl (by decide) (by decide) (by decide) rfl) ?_
 refine Xx (OwnP.append (ys := [u]) (h.push _) Tryz.underlying173 inf5 rfl rfl rfl (Zt (k := Y3 .u8) rfl rfl h.size rfl) (by simp only [List.length_singleton]; omega) (by simp only [List.length_singleton]; omega) ?_)
 rintro v5 G5 H5 hle5 hown5
 refine Xa (Vg rfl) ?_
 refine X1 ?_
 exact ⟨_, Xw (Xt rfl), G5, Hp.le_trans (G.le_push _) hle5, hown5⟩
theorem Put_small (xs : List Int) (v : Value) (H : Hp) (hs : Sl (Y3 .u64) H v xs) (hx : ∀ x ∈ xs, 0 ≤ x ∧ x < 128) (hl : xs.length ≤ 1000000) (hne : 0 < xs.length) :
  ACalls Tryz.prog 104 #[v] H (fun r H' => r = .string (bytesOf xs) ∧ H.le H') := by
 obtain ⟨A, c, rfl⟩ := hs.shape
 refine Xv Tryz.func104 rfl rfl rfl (by simp) ?_
 refine Xe ?_
 refine Xu ?_
 refine Xa (Zz rfl) ?_
 refine Xe ?_
 refine Xu ?_
 refine Xa (Yi rfl) ?_
 refine Xe ?_
 refine Xe ?_
 refine Xu ?_
 refine Xa (X2 rfl) ?_
 refine Xa (Yp rfl Tryz.underlying109) ?_
 refine Xa (Xc rfl) ?_
 refine Yc ?_
 refine Y7 (fun n t H' => ∃ (i : Nat) (G : Hp) (B : Option Addr) (cB : Nat) (D : Option Addr), n = xs.length - i ∧ i ≤ xs.length ∧ H.le G ∧ OwnP (Y3 .u8) G H' (.slice B i cB) (xs.take i) ∧ Sl (Y3 .u64) H (.slice D xs.length c) xs ∧ t 3 = .slice B i cB ∧ t 6 = .slice D xs.length c ∧ t 7 = .int .i64 xs.length ∧ t 8 = .int .i64 i) (xs.length) (⟨0, H, none, 0, _, rfl, Nat.zero_le _, Hp.le_refl _, OwnP.nil _ _, hs, rfl, rfl, rfl, rfl⟩) ?_
 rintro n t H1 ⟨i, G, B, cB, D, rfl, hi, leG, hown, hs, e3, e6, e7, e8⟩
 refine Xe ?_
 refine Xu ?_
 refine Xa (Y5 Xl Xl) ?_
 refine Xe ?_
 refine X5 rfl rfl ?_ ?_
 intro hc1
 have hil : i < xs.length := by have := of_decide_eq_true hc1; omega
 obtain ⟨b, o, eD, hb, hcell⟩ := (hs.mono (Hp.le_trans leG hown.le).sees).int_at (i := (i : Int)) (by omega) (by omega)
 rw [Int.toNat_natCast, Zc hil] at hcell
 subst eD
 have hlen : (xs.take i).length = i := by rw [List.length_take]; omega
 obtain ⟨hx0, hx1⟩ := hx _ (List.getElem_mem hil)
 refine Ya ?_
 refine Xe ?_
 refine Yc ?_
 refine Xe ?_
 refine Xu ?_
 refine Xa (Xs Xl Xl Tryz.underlying109 inf30.size X4 X4) ?_
 refine Xa (Xj rfl Tryz.underlying30 rfl Xp) ?_
 refine Xa (Xn rfl) ?_
 refine Xu ?_
 refine Xa (X2 Xl) ?_
 refine Xa (Xc rfl) ?_
 refine Xx (Xy (put_small hown xs[i] hx0 hx1 (by omega)) rfl Tryz.func127 rfl rfl rfl ?_)
 rintro v14 H2 ⟨G2, le2, hown2⟩; rw [Y2 hil] at hown2; obtain ⟨B2, cB2, rfl⟩ := hown2.shape; have hlen2 : (xs.take (i + 1)).length = i + 1 := (by rw [List.length_take]; omega); rw [hlen2] at hown2 ⊢
 refine Xa (Yi rfl) ?_
 refine Xu ?_
 refine Xa (Yo Xl Xl Y0) ?_
 refine Xa (Xc rfl) ?_
 exact ⟨xs.length - (i + 1), by omega, i + 1, G2, B2, cB2, _, rfl, by omega, Hp.le_trans leG le2, hown2, hs, rfl, e6, e7, rfl⟩
 intro hc1
 have hil : i = xs.length := by have := of_decide_eq_false hc1; omega
 rw [hil, List.take_length] at hown
 obtain ⟨bO, cO, eO, hbO, hcO⟩ := own_cells hown hne
 rw [hil] at e3
 injection eO with eO1 eO2 eO3
 subst eO1 eO3
 refine Yx ?_
 refine Xe ?_
 refine Xu ?_
 refine Xa (X2 Xl) ?_
 refine Xa (av_bytes rfl Tryz.underlying173 Tryz.underlying5 Tryz.underlying9 hcO rfl hne) ?_
 refine Xa (Zz rfl) ?_
 refine X1 ?_
 exact ⟨_, Xw (Xt rfl), rfl, Hp.le_trans leG hown.le⟩
def startM : MarkT := ⟨0, false, [], 0, []⟩
theorem start_rep (H : Hp) : kMark.rep H startM [.int .i64 0, .bool false, .slice none 0 0, .int .u64 0, .slice none 0 0] := ⟨_, _, rfl, Sl.nil _ _, Sl.nil _ _⟩
theorem start_good : GoodM startM := ⟨rfl, by decide, by decide, by decide, fun n h => (by cases h), .inr ⟨rfl, rfl⟩⟩
theorem start_big : BigM startM := ⟨by decide, by decide, fun x h => (by cases h)⟩
theorem Start_36 (H : Hp) : ACalls Tryz.prog 41 #[] H (fun r H' => r = .agg #[.int .i64 0, .bool false, .slice none 0 0, .int .u64 0, .slice none 0 0] ∧ H.le H') := by
 refine Xv Tryz.func41 rfl rfl rfl (by simp) ?_
 refine Xe ?_
 refine Xu ?_
 refine X0 (Yy (l := [.int .i64 0, .bool false, .slice none 0 0, .int .u64 0, .slice none 0 0]) inf33.zero rfl (by decide)) ?_
 refine Xe ?_
 refine Xu ?_
 refine Xa (Y6 (pl := [(0, 1), (1, 1), (2, 1), (3, 1), (4, 1)]) (r := [.int .i64 _, .bool _, .slice _ _ _, .int .u64 _, .slice _ _ _]) Tryz.underlying33 inf33.zero (by decide) rfl rfl) ?_
 refine Xx (Yf (vs := [.int .i64 _, .bool _, .slice _ _ _, .int .u64 _, .slice _ _ _]) rfl rfl inf33.size Yb Yd rfl rfl ?_)
 refine X1 ?_
 exact ⟨_, Xw (Yr Xl (Yq (cs := [_, _, _, _, _]) Tryz.underlying33 rfl inf33.size X6)), rfl, Hp.le_put_new (H.le_push _) (Nat.le_refl _) _⟩
theorem put_start (H : Hp) : ACalls Tryz.prog 76 #[.agg #[.int .i64 0, .bool false, .slice none 0 0, .int .u64 0, .slice none 0 0]] H (fun r H' => r = .string (bytesOf [1, 0, 0, 0, 0]) ∧ H.le H') := by
 have hw : IntKind.u64.wrap 0 = 0 := by decide
 obtain ⟨K, hK⟩ : ∃ K, K = H.push (.own 0 [.int .i64 0, .bool false, .slice none 0 0, .int .u64 0, .slice none 0 0]) := ⟨_, rfl⟩
 have kg : K.get H.size = .own 0 [.int .i64 0, .bool false, .slice none 0 0, .int .u64 0, .slice none 0 0] := by rw [hK]; exact Hp.push_new _ _
 have kz : K.size = H.size + 1 := by rw [hK]; simp
 have leK : H.le K := by rw [hK]; exact H.le_push _
 refine Xv Tryz.func76 rfl rfl rfl (by simp) ?_
 refine Xe ?_
 refine Xu ?_
 refine X0 (Yt rfl) ?_
 refine Xa (Zz rfl) ?_
 refine Xe ?_
 refine Xu ?_
 refine Xa (Xn rfl) ?_
 refine Xe ?_
 refine Xe ?_
 refine Xu ?_
 refine Xa (Xf (off := 1) rfl Tryz.underlying33 rfl inf4.size (by decide) rfl) ?_
 refine Xa (Xj rfl Tryz.underlying4 rfl Xp) ?_
 refine X5 rfl rfl ?_ ?_
 intro hc1
 exact absurd hc1 (by decide)
 intro hc1
 (try simp only [Ys] at hc1)
 refine Ya ?_
 refine Xe ?_
 refine Xu ?_
 refine Xa (Xf (off := 0) rfl Tryz.underlying33 rfl inf3.size (by decide) rfl) ?_
 refine Xa (Xj rfl Tryz.underlying3 rfl Xp) ?_
 refine Xa (av_conv_is hw rfl (by rw [Tryz.underlying3]; rfl) Tryz.underlying30) ?_
 refine Xa (Xc rfl) ?_
 refine Xa (Xf (off := 2) rfl Tryz.underlying33 rfl inf23.size (by decide) rfl) ?_
 refine Xa (Xj rfl Tryz.underlying23 rfl Xp) ?_
 refine Xa (Yp rfl Tryz.underlying23) ?_
 refine Xa (av_conv_is hw rfl (by rw [Tryz.underlying3]; rfl) Tryz.underlying30) ?_
 first | refine X0 (Yj (r := [.int .u64 _, .int .u64 _, .int .u64 _, .int .u64 _]) Tryz.underlying109 inf30.size inf30.zero rfl (by decide) (by decide) (by decide) rfl) ?_
 refine Xa (Yi rfl) ?_
 refine Xe ?_
 refine Xe ?_
 refine Xu ?_
 refine Xa (Xf (off := 2) rfl Tryz.underlying33 rfl inf23.size (by decide) rfl) ?_
 refine Xa (Xj rfl Tryz.underlying23 rfl Xp) ?_
 refine Xa (Yp rfl Tryz.underlying23) ?_
 refine Xa (Xc rfl) ?_
 refine Yc ?_
 refine Y7 (fun n t H' => n = 0 ∧ H' = K.push (.own 1 [.int .u64 1, .int .u64 0, .int .u64 0, .int .u64 0]) ∧ t 1 = .pointer (some ⟨H.size, 0, none⟩) ∧ t 4 = .slice (some ⟨K.size, 0, none⟩) 4 4 ∧ t 20 = .int .i64 0 ∧ t 21 = .int .i64 0) (0) (⟨rfl, by rw [hK], rfl, by rw [kz]; rfl, rfl, rfl⟩) ?_
 rintro n t H2 ⟨rfl, hH2, e1, e4, e20, e21⟩
 have hz2 : H2.size = K.size + 1 := by rw [hH2]; simp
 have h2g : H2.get H.size = .own 0 [.int .i64 0, .bool false, .slice none 0 0, .int .u64 0, .slice none 0 0] := by rw [hH2]; exact (Hp.push_old _ _ (by omega)).trans kg
 have hown : OwnP (Y3 .u64) (K.push .dead) H2 (.slice (some ⟨K.size, 0, none⟩) 4 4) [1, 0, 0, 0] := by
  rw [hH2]
  refine .inr ⟨K.size, [.int .u64 1, .int .u64 0, .int .u64 0, .int .u64 0], 4, rfl, by simp, Hp.push_new _ _, ?_, .inr (by decide), ?_⟩
  ·rw [Hp.push_put]; rfl
  ·exact Els.cons (k := Y3 .u64) (c := [.int .u64 1]) rfl (Els.cons (k := Y3 .u64) (c := [.int .u64 0]) rfl (Els.cons (k := Y3 .u64) (c := [.int .u64 0]) rfl (Els.cons (k := Y3 .u64) (c := [.int .u64 0]) rfl (Els.nil _ _ []))))
 refine Xe ?_
 refine Xu ?_
 refine Xa (Y5 Xl Xl) ?_
 refine Xe ?_
 refine X5 rfl rfl ?_ ?_
 intro hc2
 exact absurd hc2 (by decide)
 intro hc2
 (try simp only [Ys] at hc2)
 refine Yx ?_
 refine Xe ?_
 refine Xu ?_
 refine Xa (X2 Xl) ?_
 refine Xa (Xf (off := 3) Xl Tryz.underlying33 Xl inf30.size (by decide) Xl) ?_
 refine Xa (Xj rfl Tryz.underlying30 rfl Xp) ?_
 first | refine X0 (Yj (r := [.int .u64 _]) Tryz.underlying109 inf30.size inf30.zero rfl (by decide) (by decide) (by decide) rfl) ?_
 refine Xx (OwnP.append (ys := [0]) (hown.push _) Tryz.underlying109 inf30 rfl rfl rfl (Zt (k := Y3 .u64) rfl rfl hown.size rfl) (by decide) (by decide) ?_)
 rintro v5 G5 H5 hle5 hown5
 have le25 : K.le H5 := Hp.le_trans (Hp.le_trans (Hp.le_trans (K.le_push _) ((K.push .dead).le_push _)) hle5) hown5.le
 refine Xx (Xy (Put_small [1, 0, 0, 0, 0] _ _ hown5.sl (by decide) (by decide) (by decide)) rfl Tryz.func104 rfl rfl rfl ?_)
 rintro v36 H6 ⟨rfl, le6⟩
 refine Xa (Zz rfl) ?_
 refine X1 ?_
 exact ⟨_, Xw (Xt rfl), rfl, Hp.le_trans leK (Hp.le_trans le25 le6)⟩
theorem Put_start (H : Hp) : ACalls Tryz.prog 42 #[.agg #[.int .i64 0, .bool false, .slice none 0 0, .int .u64 0, .slice none 0 0]] H (fun r H' => r = .tuple #[.string (bytesOf [1, 0, 0, 0, 0]), .int .i64 0] ∧ H.le H') := by
 refine Xv Tryz.func42 rfl rfl rfl (by simp) ?_
 refine Xe ?_
 refine Xu ?_
 refine X0 (Yt rfl) ?_
 refine Xa (Zz rfl) ?_
 refine Xa (Xn rfl) ?_
 refine Xe ?_
 refine Xe ?_
 refine Xu ?_
 refine Xa (Yg (cs := [.int .i64 _, .bool _, .slice _ _ _, .int .u64 _, .slice _ _ _]) rfl Tryz.underlying33 rfl inf33.size X6) ?_
 refine Xx (Xy (good_36 startM [.int .i64 0, .bool false, .slice none 0 0, .int .u64 0, .slice none 0 0] _ (start_rep _) start_big) rfl Tryz.func75 rfl rfl rfl ?_)
 rintro v5 H1 ⟨⟨g, rfl, hg⟩, hH1⟩; subst hH1; obtain rfl : g = true := hg.2 start_good
 refine Xa (Z0 rfl) ?_
 refine X5 rfl rfl ?_ ?_
 intro hc1
 exact absurd hc1 (by decide)
 intro hc1
 (try simp only [Ys] at hc1)
 refine Ya ?_
 refine Xe ?_
 refine Xu ?_
 refine Xa (Yg (cs := [.int .i64 _, .bool _, .slice _ _ _, .int .u64 _, .slice _ _ _]) rfl Tryz.underlying33 rfl inf33.size X6) ?_
 refine Xx (Xy (put_start _) rfl Tryz.func76 rfl rfl rfl ?_)
 rintro v8 H2 ⟨rfl, le2⟩
 refine Xa (Zz rfl) ?_
 refine Xa (Xn rfl) ?_
 refine X1 ?_
 exact ⟨_, Y9 (Xt rfl) (Xt rfl), rfl, Hp.le_trans (H.le_push _) le2⟩


end Go.Proofs.YtmakkmcjocjgmaaGreat.Am
namespace Go.Proofs.YtmakkmcjocjgmaaGreat.Am
open Go Go.RowKit
set_option maxRecDepth 100000
set_option linter.unusedVariables false
set_option linter.unusedSimpArgs false

def behN (T : TreeT) (ns : List Int) : List (List Int) := (Zx T T.vars.length []).filter fun x => decide (0 < Vj x ns)
theorem cmp_app : ∀ (p xs ys : List Int), Vj (p ++ xs) (p ++ ys) = Vj xs ys
 | [], _, _ => rfl
 | a :: p, xs, ys => by
  show Vj (a :: (p ++ xs)) (a :: (p ++ ys)) = _
  rw [Vj, if_neg (by omega), if_neg (by omega), cmp_app p]
theorem ext_pre {T : TreeT} : ∀ (d : Nat) (p x : List Int), x ∈ Zx T d p → ∃ s, x = p ++ s
 | 0, p, x, h => ⟨[], by rw [List.append_nil]; exact List.mem_singleton.1 h⟩
 | d + 1, p, x, h => by
  obtain ⟨l, _, h2⟩ := List.mem_flatMap.1 h
  obtain ⟨s, rfl⟩ := ext_pre d _ x h2
  exact ⟨l.b :: s, by simp⟩
theorem split_list {ns : List Int} {i : Nat} (h : i < ns.length) : ns = ns.take i ++ ns.getD i 0 :: ns.drop (i + 1) := by
 conv => lhs; rw [← List.take_append_drop i ns, List.drop_eq_getElem_cons h]
 rw [Zc h]
theorem take_more {ns : List Int} {i : Nat} (h : i < ns.length) : ns.take i ++ [ns.getD i 0] = ns.take (i + 1) := by
 rw [Zc h, List.take_append_getElem]
theorem cut_group {F : Link → List (List Int)} {P : List Int → Bool} {x : Int} : ∀ {g : List Link}, g.Pairwise (fun y z => y.b < z.b) → (∀ l : Link, l.b < x → (F l).filter P = []) → (∀ l : Link, x < l.b → (F l).filter P = F l) →
    (g.flatMap F).filter P = (match Zv g x with | some l => (F l).filter P | none => []) ++ (g.filter fun l => decide (x < l.b)).flatMap F
  | [], _, _, _ => rfl
  | y :: g, hs, h1, h2 => by
    obtain ⟨hy, hg⟩ := List.pairwise_cons.1 hs
    have ih := cut_group hg h1 h2
    rw [List.flatMap_cons, List.filter_append, ih]
    rcases Int.lt_trichotomy y.b x with h | h | h
    · rw [h1 y h, List.nil_append, List.filter_cons, if_neg (by simp; omega)]
      have : Zv (y :: g) x = Zv g x := by unfold Zv; rw [List.find?_cons, decide_eq_false (by omega)]
      rw [this]
    · have hf : Zv (y :: g) x = some y := by unfold Zv; rw [List.find?_cons, decide_eq_true h]
      have hn : Zv g x = none := findB_none fun l hl => by have := hy l hl; omega
      rw [hf, hn, List.filter_cons, if_neg (by simp; omega), List.nil_append]
    · have hf : Zv (y :: g) x = none := findB_none fun l hl => by
        rcases List.mem_cons.1 hl with rfl | hl
        · omega
        · have := hy l hl; omega
      have hn : Zv g x = none := findB_none fun l hl => by have := hy l hl; omega
      rw [hf, hn, h2 y h, List.nil_append, List.nil_append, List.filter_cons, if_pos (by simpa using h), List.flatMap_cons]
section
variable {T : TreeT} (hT : GoodT T)
include hT
theorem beh_step {ns : List Int} (hl : ns.length = T.vars.length) {i : Nat} (hi : i < ns.length) :
  (Zx T (T.vars.length - i) (ns.take i)).filter (fun x => decide (0 < Vj x ns)) = (match Zv (T.group i (Yn T ns i)) (ns.getD i 0) with
   | some _ => (Zx T (T.vars.length - (i + 1)) (ns.take (i + 1))).filter fun x => decide (0 < Vj x ns)
   | none => []) ++ ((T.group i (Yn T ns i)).filter fun l => decide (ns.getD i 0 < l.b)).flatMap (fun l => Zx T (T.vars.length - (i + 1)) (ns.take i ++ [l.b])) := by
 have e : T.vars.length - i = (T.vars.length - (i + 1)) + 1 := by omega
 have hlp : (ns.take i).length = i := by rw [List.length_take]; omega
 have ha : Yn T (ns.take i) i = Yn T ns i := Z4 hT (by omega) (fun j hj => Vf hj)
 rw [e, Zx, hlp, ha, cut_group (x := ns.getD i 0) (hT.sort i (Yn T ns i))]
 ·congr 1
  cases hf : Zv (T.group i (Yn T ns i)) (ns.getD i 0) with
  | none => rfl
  | some l =>
   have := ((Uo (hT.sort i (Yn T ns i))).1 hf).2
   simp only
   rw [this, take_more hi]
 ·intro l h
  refine List.filter_eq_nil_iff.2 fun x hx => ?_
  obtain ⟨s, rfl⟩ := ext_pre _ _ x hx
  have : Vj (ns.take i ++ [l.b] ++ s) ns = -1 := by
   conv => lhs; rhs; rw [split_list hi]
   rw [List.append_assoc, cmp_app]
   show Vj (l.b :: s) _ = _
   rw [Vj, if_pos h]
  rw [this]; decide
 ·intro l h
  refine List.filter_eq_self.2 fun x hx => ?_
  obtain ⟨s, rfl⟩ := ext_pre _ _ x hx
  have : Vj (ns.take i ++ [l.b] ++ s) ns = 1 := by
   conv => lhs; rhs; rw [split_list hi]
   rw [List.append_assoc, cmp_app]
   show Vj (l.b :: s) _ = _
   rw [Vj, if_neg (by omega), if_pos h]
  rw [this]; decide
theorem beh_aft {ns : List Int} (hl : ns.length = T.vars.length) {g : Nat} (hg : g < ns.length) (hp : Path T (ns.take g)) (hend : g + 1 = ns.length ∨ Zv (T.group g (Yn T ns g)) (ns.getD g 0) = none) :
  ∀ d i : Nat, i + d = g → (Zx T (T.vars.length - i) (ns.take i)).filter (fun x => decide (0 < Vj x ns)) ++ aftK T ns i = aftK T ns (g + 1)
 | 0, i, h => by
  obtain rfl : i = g := by omega
  rw [beh_step hT hl hg, List.append_assoc]
  have : (match Zv (T.group i (Yn T ns i)) (ns.getD i 0) with
   | some _ => (Zx T (T.vars.length - (i + 1)) (ns.take (i + 1))).filter fun x => decide (0 < Vj x ns)
   | none => []) = [] := by
   rcases hend with h1 | h1
   ·have e : T.vars.length - (i + 1) = 0 := by omega
    rw [e, List.take_of_length_le (by omega)]
    cases Zv (T.group i (Yn T ns i)) (ns.getD i 0) with
    | none => rfl
    | some l => show [ns].filter _ = []; rw [List.filter_cons, cmpZ_self]; rfl
   ·rw [h1]
  rw [this]; rfl
 | d + 1, i, h => by
  have hi : i < ns.length := by omega
  obtain ⟨l, h1, h2⟩ := hp i (by rw [List.length_take]; omega)
  have ha : Yn T (ns.take g) i = Yn T ns i := Z4 hT (by omega) (fun j hj => Vf (by omega))
  rw [ha] at h1
  rw [Vf (by omega)] at h2
  rw [beh_step hT hl hi, (Uo (hT.sort i (Yn T ns i))).2 ⟨h1, h2⟩, List.append_assoc]
  exact beh_aft hl hg hp hend d (i + 1) (by omega)
theorem beh_is {ns : List Int} (hl : ns.length = T.vars.length) {g : Nat} (hg : g < ns.length) (hp : Path T (ns.take g)) (hend : g + 1 = ns.length ∨ Zv (T.group g (Yn T ns g)) (ns.getD g 0) = none) : behN T ns = aftK T ns (g + 1) := by
 have := beh_aft hT hl hg hp hend g 0 (by omega)
 rw [List.take_zero, Nat.sub_zero] at this
 exact (List.append_nil _).symm.trans this
omit hT in
theorem ext_ne (hA : Uu T) : ∀ (d : Nat) (p : List Int), Path T p → 0 < p.length → p.length + d = T.vars.length → GoodT T → Zx T d p ≠ []
 | 0, p, _, _, _, _ => by intro h; cases h
 | d + 1, p, hp, h0, hd, hT => by
  have hne := hA p hp h0 (by omega)
  obtain ⟨l, ls, hls⟩ : ∃ l ls, T.group p.length (Yn T p p.length) = l :: ls := by
   cases h : T.group p.length (Yn T p p.length) with
   | nil => exact absurd h hne
   | cons l ls => exact ⟨l, ls, rfl⟩
  intro h
  rw [Zx, hls, List.flatMap_cons] at h
  exact ext_ne hA d (p ++ [l.b]) (Um hT hp (by omega) (by rw [hls]; exact List.mem_cons_self ..)) (by simp) (by simp; omega) hT (List.append_eq_nil_iff.1 h).1
theorem aft_head (hA : Uu T) {ns : List Int} (hl : ns.length = T.vars.length) {i : Nat} (hi : i < ns.length) (hp : Path T (ns.take i)) {l : Link} (hn : Uw (T.group i (Yn T ns i)) (ns.getD i 0) = some l) :
  Path T (ns.take i ++ [l.b]) ∧ (aftK T ns (i + 1)).head? = (Zx T (T.vars.length - (i + 1)) (ns.take i ++ [l.b])).head? := by
 have hlp : (ns.take i).length = i := by rw [List.length_take]; omega
 have hm : l ∈ T.group i (Yn T ns i) := List.mem_of_find?_eq_some hn
 have ha : Yn T (ns.take i) i = Yn T ns i := Z4 hT (by omega) (fun j hj => Vf hj)
 have hp2 : Path T (ns.take i ++ [l.b]) := Um hT hp (by omega) (by rw [hlp, ha]; exact hm)
 refine ⟨hp2, ?_⟩
 have hne := ext_ne hA (T.vars.length - (i + 1)) (ns.take i ++ [l.b]) hp2 (by simp) (by rw [List.length_append, hlp, List.length_singleton]; omega) hT
 show (((T.group i (Yn T ns i)).filter _).flatMap _ ++ aftK T ns i).head? = _
 rw [next_filter (hT.sort i (Yn T ns i)) hn, List.flatMap_cons, List.append_assoc]
 cases h : Zx T (T.vars.length - (i + 1)) (ns.take i ++ [l.b]) with
 | nil => exact absurd h hne
 | cons a tl => rfl
omit hT in
theorem aft_none {ns : List Int} {i : Nat} (hn : Uw (T.group i (Yn T ns i)) (ns.getD i 0) = none) : aftK T ns (i + 1) = aftK T ns i := by
 show ((T.group i (Yn T ns i)).filter _).flatMap _ ++ aftK T ns i = _
 rw [next_none hn]; rfl
def TellsH (T : TreeT) (o : Option RowT) (l : List (List Int)) : Prop := o.map RowT.nodes = l.head? ∧ ∀ r, o = some r → Z9 T r.nodes = some r
theorem least_is (hA : Uu T) {p : List Int} (hp : Path T p) (h0 : 0 < p.length) (hl : p.length ≤ T.vars.length) : TellsH T (if p.length = T.vars.length then Z9 T p else (Vu T ⟨p, false, false, 0⟩).2) (Zx T (T.vars.length - p.length) p) := by
 by_cases h : p.length = T.vars.length
 ·rw [if_pos h]
  obtain ⟨r, h1, h2⟩ := rowT_path hT h hp
  rw [h1, h, Nat.sub_self]
  exact ⟨by show some r.nodes = some p; rw [h2], fun r' e => by injection e with e; subst e; rw [h2]; exact h1⟩
 ·rw [if_neg h]
  have ht := (next_tells hT hA _ ⟨p, false, false, 0⟩ ⟨hl, hp⟩ (Nat.le_refl _)).2.1
  have hr : Vd T ⟨p, false, false, 0⟩ = Zx T (T.vars.length - p.length) p ++ aftK T p p.length := rfl
  have hne := ext_ne hA (T.vars.length - p.length) p hp h0 (by omega) hT
  rw [hr] at ht
  cases hn : (Vu T ⟨p, false, false, 0⟩).2 with
  | none => rw [hn] at ht; exact absurd (List.append_eq_nil_iff.1 ht.1).1 hne
  | some r =>
   rw [hn] at ht
   have h1 : _ = r.nodes :: _ ∧ _ := ht
   refine ⟨?_, fun r' e => by injection e with e; subst e; exact h1.2⟩
   cases hx : Zx T (T.vars.length - p.length) p with
   | nil => exact absurd hx hne
   | cons a tl =>
    rw [hx] at h1
    have h2 := h1.1
    rw [List.cons_append, List.cons.injEq] at h2
    show some r.nodes = some a
    rw [h2.1]
end
end Go.Proofs.YtmakkmcjocjgmaaGreat.Am
namespace Go.Proofs.YtmakkmcjocjgmaaGreat.Am
open Go Go.RowKit
set_option linter.unusedVariables false
set_option linter.unusedSimpArgs false
set_option maxRecDepth 100000
theorem least_walk {T : TreeT} (hT : GoodT T) (hA : Uu T) {tb : Nat} {u : Value} {p : List Int} {H : Hp} (ht : TreeR H (.pointer (some ⟨tb, 0, none⟩)) T) (hu : Sl (Y3 .i64) H u p) (hp : Path T p) (h0 : 0 < p.length) (hl : p.length ≤ T.vars.length) :
  ACalls Tryz.prog 120 #[.pointer (some ⟨tb, 0, none⟩), u] H (fun r H' => H.le H' ∧ ∃ o, TellsH T o (Zx T (T.vars.length - p.length) p) ∧ RowO H' r o) := by
 have hfew := hT.few
 have hleast := least_is hT hA hp h0 hl
 refine Xv Tryz.func120 rfl rfl rfl (by simp) ?_
 refine Xe ?_
 refine Xu ?_
 refine X0 (Yy (l := [.slice none 0 0, .int .i64 0, .int .u64 0]) inf46.zero rfl (by decide)) ?_
 refine Xa (Xm rfl) ?_
 refine Xe ?_
 refine Xu ?_
 refine Xa (Xz rfl) ?_
 refine Xx (Xy (fresh_tree tb _) rfl Tryz.func115 rfl rfl rfl ?_)
 rintro v3 H3 ⟨rfl, hle3, ⟨B3, c3, hwb3, gw3, hown3⟩⟩; have z3 := hle3.1; simp only [Hp.push_size] at z3; have hz3 : H3.get H.size = .own 0 [.slice none 0 0, .int .i64 0, .int .u64 0] := Xr hle3 (by simp) (by intro e; cases e) Yb; have ht3 := (ht.mono (H.le_push (.own 0 [.slice none 0 0, .int .i64 0, .int .u64 0]))).mono hle3; have hu3 := (hu.mono (H.le_push (.own 0 [.slice none 0 0, .int .i64 0, .int .u64 0])).sees).mono hle3.sees; simp only [Hp.push_size] at gw3 hwb3
 refine Xa (Zy rfl) ?_
 refine Xe ?_
 refine Xu ?_
 refine Xa (Xz rfl) ?_
 refine Xa (Xz rfl) ?_
 refine Xa (Yh rfl) ?_
 refine Xa (Xf (off := 1) rfl Tryz.underlying167 rfl inf23.size (by decide) rfl) ?_
 refine Xa (Xj rfl Tryz.underlying23 rfl Xp) ?_
 refine Xa (Zl rfl) ?_
 refine Xx (OwnP.append (ys := p) hown3 Tryz.underlying23 inf3 Xl Xl rfl hu3 (by simp only [List.length_nil]; omega) (by simp only [List.length_nil]; omega) ?_)
 rintro v9 G5 H5 hle5 hown5
 rw [List.nil_append] at hown5
 have hsameO := OwnP.sameO hown3 hle5 hown5
 obtain ⟨B5, c5, rfl⟩ := hown5.shape
 have z5 := hle5.1
 have zz5 := hown5.size
 have gw5 := Xr hle5 (by omega) (by intro e; cases e) gw3
 have gz5 := Xr hle5 (by omega) (by intro e; cases e) hz3
 have hw5 := Xr hown5.le (by omega) (by intro e; cases e) gw5
 have hz5 := Xr hown5.le (by omega) (by intro e; cases e) gz5
 have ht5 := ht3.mono hle5
 have hu5 := hu3.mono hle5.sees
 refine Xa (Yh rfl) ?_
 refine Xa (Xf (off := 1) rfl Tryz.underlying167 rfl inf23.size (by decide) rfl) ?_
 first | refine Xx (Yz rfl rfl rfl inf23.size Yb Yd rfl ?_)
 refine Xe ?_
 refine Xe ?_
 obtain ⟨H6, hH6⟩ : ∃ H6, H6 = H5.put (H.size + 1) (.own 0 [.pointer (some ⟨tb, 0, none⟩), .slice B5 p.length c5, .bool false, .bool false, .int .i64 0]) := ⟨_, rfl⟩
 obtain ⟨G6, hG6⟩ : ∃ G6, G6 = G5.put (H.size + 1) (.own 0 [.pointer (some ⟨tb, 0, none⟩), .slice B5 p.length c5, .bool false, .bool false, .int .i64 0]) := ⟨_, rfl⟩
 have hown6 : OwnP (Y3 .i64) G6 H6 (.slice B5 p.length c5) p := by rw [hG6, hH6]; exact hown5.put (by rw [gw5]; intro e; cases e) _ (Hp.sees_box _ gw5)
 have aw56 : Away (H.size + 1) G5 G6 := by rw [hG6]; exact Away.put (.refl _ _) _
 have gw6 : G6.get (H.size + 1) = .own 0 [.pointer (some ⟨tb, 0, none⟩), .slice B5 p.length c5, .bool false, .bool false, .int .i64 0] := by rw [hG6]; exact Hp.put_same _ _ _
 have gz6 : G6.get H.size = .own 0 [.slice none 0 0, .int .i64 0, .int .u64 0] := aw56.keep (by omega) (by omega) (by intro e; cases e) gz5
 have z6 := aw56.size
 have zz6 := hown6.size
 have hW6 : V2 G6 H6 (H.size + 1) (.pointer (some ⟨tb, 0, none⟩)) ⟨p, false, false, 0⟩ := ⟨B5, c5, by omega, gw6, hown6⟩
 have ht6 := aw56.tree gw5 ht5
 have leG6 : H.le G6 := aw56.base (Hp.le_trans (Hp.le_trans (H.le_push _) hle3) hle5) (by omega)
 have leH6 := Hp.le_trans leG6 hown6.le
 have hu6 := hu.mono leH6.sees
 have htH6 := ht6.mono hown6.le
 change ACode true _ _ _ _ _ (H5.put (H.size + 1) (.own 0 [.pointer (some ⟨tb, 0, none⟩), .slice B5 p.length c5, .bool false, .bool false, .int .i64 0]))
 rw [← hH6]
 clear hH6 hG6 hsameO
 obtain ⟨AU, cU, rfl⟩ := hu6.shape
 refine Xu ?_
 refine Xa (X2 rfl) ?_
 refine Xa (Yp rfl Tryz.underlying23) ?_
 refine Xa (Xz rfl) ?_
 refine Xx (Xy (Len_tree htH6) rfl Tryz.func62 rfl rfl rfl ?_)
 rintro v10 H6 ⟨rfl, rfl⟩
 refine Xa (Zr rfl rfl) ?_
 refine X5 rfl rfl ?_ ?_
 intro hc1
 have hfull : p.length = T.vars.length := by have := of_decide_eq_true hc1; omega
 rw [if_pos hfull] at hleast
 refine Xe ?_
 refine Xu ?_
 refine Xa (Xz rfl) ?_
 refine Xx (Xy (row_walk hT hW6 ht6 (by show p.length ≤ _; omega)) rfl Tryz.func138 rfl rfl rfl ?_)
 rintro v11 H9 ⟨G9, le69, ⟨B9, c9, hwb9, gw9, hown9⟩, A9, k9, rfl, sl9⟩; have aw9 := Away.of_le (wb := H.size + 1) le69; have z9 := aw9.size; have gz9 := aw9.keep (by omega) (by omega) (by intro e; cases e) gz6; have hz9 := Xr hown9.le (by omega) (by intro e; cases e) gz9; have leG9 := aw9.base leG6 (by omega)
 refine Xa (Ym rfl rfl) ?_
 refine Xa (Ym rfl rfl) ?_
 refine Xx (Yf (vs := [.slice _ _ _, .int .i64 _, .int .u64 _]) rfl rfl inf46.size Yb Yd rfl rfl ?_)
 refine Xa (Xm rfl) ?_
 refine X1 ?_
 exact ⟨_, Y9 (Yr Xl (Yq (cs := [_, _, _]) Tryz.underlying46 rfl inf46.size X6)) (Xt rfl), Hp.le_put_new (Hp.le_trans leG9 hown9.le) (Nat.le_refl _) _, _, hleast, A9, k9, rfl, (sl9.mono hown9.le.sees).mono (Hp.sees_box _ hz9)⟩
 intro hc1
 have hfull : ¬ p.length = T.vars.length := by have := of_decide_eq_false hc1; omega
 rw [if_neg hfull] at hleast
 refine Ya ?_
 refine Xe ?_
 refine Xu ?_
 refine Xa (Xz rfl) ?_
 refine Xx (Xy (next_walk hT hA hW6 (fun _ => ht6) ⟨hl, hp⟩ (Int.le_refl 0) (by show (0 : Int) ≤ 100000000000; decide) ⟨_, rfl⟩) rfl Tryz.func116 rfl rfl rfl ?_)
 rintro v11 H9 ⟨G9, aw9, ⟨B9, c9, hwb9, gw9, hown9⟩, A9, k9, rfl, sl9⟩; have z9 := aw9.size; have gz9 := aw9.keep (by omega) (by omega) (by intro e; cases e) gz6; have hz9 := Xr hown9.le (by omega) (by intro e; cases e) gz9; have leG9 := aw9.base leG6 (by omega)
 refine Xa (Ym rfl rfl) ?_
 refine Xa (Ym rfl rfl) ?_
 refine Xx (Yf (vs := [.slice _ _ _, .int .i64 _, .int .u64 _]) rfl rfl inf46.size Yb Yd rfl rfl ?_)
 refine Xa (Xm rfl) ?_
 refine X1 ?_
 exact ⟨_, Y9 (Yr Xl (Yq (cs := [_, _, _]) Tryz.underlying46 rfl inf46.size X6)) (Xt rfl), Hp.le_put_new (Hp.le_trans leG9 hown9.le) (Nat.le_refl _) _, _, hleast, A9, k9, rfl, (sl9.mono hown9.le.sees).mono (Hp.sees_box _ hz9)⟩
theorem Sl.caps {α : Type} {k : Kd α} {H0 : Hp} {v : Value} {xs : List α} (hs : Sl k H0 v xs) {i : Nat} (hi : i < xs.length) : ∃ A S, Sl k H0 (.slice (some A) i i) (xs.take i) ∧ (∀ b ∈ S, b < H0.size ∧ H0.get b ≠ .dead) ∧
  ∀ (P : Program) (H : Hp) (t : Fr) (d : Option Tmp) (ty : TypeId) (pos : String) (after : Array Edge) (guard : Option (Nat × Bool)) (x y z : Operand) (xt e : TypeId) (k1 k2 : IntKind), H0.le H → t.eval x = v → P.underlying xt = some (.slice e) → (P.info? e).map (·.size) = some k.sz → t.eval y = .int k1 i → t.eval z = .int k2 i →
   AVal P ⟨d, .slice xt x none (some y) (some z), ty, pos, after, guard⟩ t S H (.slice (some A) i i) := by
 rcases hs with ⟨rfl, rfl⟩ | ⟨b, o, c, rfl, hb, hk, hx⟩
 ·exact absurd hi (Nat.not_lt_zero _)
 ·refine ⟨⟨b, o, none⟩, [b], .inr ⟨b, o, i, by rw [List.length_take, Nat.min_eq_left (Nat.le_of_lt hi)], hb, hk, fun j z hz => ?_⟩, fun u hu => by simp at hu; subst hu; exact ⟨hb, Blk.cut_ne hk⟩, fun P H t d ty pos after guard x y z xt e k1 k2 hle h1 h2 h3 h4 h5 => ?_⟩
  ·rw [List.getElem?_take] at hz
   split at hz
   ·exact hx j z hz
   ·cases hz
  ·have := av_slice3 (P := P) (t := t) (H := H) (d := d) (ty := ty) (pos := pos) (after := after) (guard := guard) (lo := none) (l := 0) (h := i) (m := i) h1 h2 h3 (.inl ⟨rfl, rfl⟩) h4 h5 (Nat.zero_le _) (Nat.le_refl _) (Nat.le_of_lt hi) (by rw [hle.2 b hb (Blk.cut_ne hk)]; exact Blk.cut_or hk)
   have e1 : (if i = 0 then o else o + 0 * k.sz) = o := by split <;> simp
   rwa [e1, Nat.sub_zero] at this
theorem Sl.grow {P : Program} {t : Fr} {d : Option Tmp} {ty : TypeId} {pos : String} {after : Array Edge} {guard : Option (Nat × Bool)} {K : Value → Hp → Prop} {H : Hp} {A : Addr} {xs : List Int} {i : Nat} {b2 c2 : Nat} {m : Int} {at_ e : TypeId} {x y : Operand} {by_ : Nat} {z : Value} (hs : Sl (Y3 .i64) H (.slice (some A) i i) xs) (hu : P.underlying at_ = some (.slice e)) (hi : (P.info? e).map (fun i => (i.zero, i.size, i.bytes)) = some (some z, 1, by_)) (hzs : z.cells.size = 1)
  (hx : t.eval x = .slice (some A) i i) (hy : t.eval y = .slice (some ⟨b2, 0, none⟩) 1 c2) (hg : H.get b2 = .own 1 [.int .i64 m]) (hb1 : i + 1 ≤ 1000000) (hb2 : (i + 1) * by_ ≤ 140737488355328)
  (hk : ∀ H', H' = H.push (.own 1 ((xs ++ [m]).map (Value.int .i64))) → Sl (Y3 .i64) H' (.slice (some ⟨H.size, 0, none⟩) (i + 1) unk) (xs ++ [m]) → K (.slice (some ⟨H.size, 0, none⟩) (i + 1) unk) H') : AOp P ⟨d, .call ⟨.builtin .append, #[x, y], #[at_, at_]⟩, ty, pos, after, guard⟩ t H K := by
 obtain ⟨b, o, eA, hlen⟩ : ∃ b o, A = ⟨b, o, none⟩ ∧ i = xs.length := by
  rcases hs with ⟨h, _⟩ | ⟨b, o, c, h, _⟩
  ·cases h
  ·injection h with h1 h2 h3
   injection h1 with h1
   exact ⟨b, o, h1, h2⟩
 subst eA
 have hcells : Cells H b o (xs.map (Value.int .i64)) := fun j v hj => by
  rw [List.getElem?_map] at hj
  cases hxj : xs[j]? with
  | none => rw [hxj] at hj; cases hj
  | some a =>
   rw [hxj] at hj
   injection hj with hj
   subst hj
   have hjl := (List.getElem?_eq_some_iff.1 hxj).1
   obtain ⟨b', o', e', hb', hc'⟩ := hs.int_at (i := (j : Int)) (by omega) (by omega)
   simp only [Option.some.injEq, Addr.mk.injEq, and_true] at e'
   obtain ⟨rfl, rfl⟩ := e'
   rw [Int.toNat_natCast, Nat.mul_one, List.getD_eq_getElem?_getD, hxj] at hc'
   exact hc'
 refine aop_append_new (olds := xs.map (Value.int .i64)) (news := [.int .i64 m]) hu hi hzs hx (.inr ⟨b, o, rfl, by unfold unk; omega, hcells, by rw [List.length_map, hlen, Nat.mul_one]⟩) (by omega) hy ?_ rfl (by decide) (by omega) hb2 ?_
 ·intro j v hj
  cases j with
  | zero => injection hj with hj; subst hj; unfold Hp.cell?; rw [hg]; rfl
  | succ j => simp at hj
 ·have e : xs.map (Value.int .i64) ++ [.int .i64 m] = (xs ++ [m]).map (Value.int .i64) := by rw [List.map_append]; rfl
  rw [e]
  have hl2 : i + 1 = (xs ++ [m]).length := by rw [List.length_append, hlen]; rfl
  exact hk _ rfl (by rw [hl2]; exact sl_ints (by simp) (Hp.push_new _ _))
theorem above_read {T : TreeT} (hT : GoodT T) {tv : Value} {wb : Nat} {H : Hp} {A : Option Addr} {c : Nat} {ns : List Int} {x y z : Value} (hw : H.get wb = .own 0 [tv, .slice A ns.length c, x, y, z]) (hs : Sl (Y3 .i64) H (.slice A ns.length c) ns) (ht : TreeR H tv T) (i : Nat) (hi : i < T.vars.length) (hl : i ≤ ns.length) :
  ACalls Tryz.prog 118 #[.pointer (some ⟨wb, 0, none⟩), .int .i64 i] H (fun r H' => r = .int .i64 (Yn T ns i) ∧ H' = H) := by
 have hp := hT.par i hi
 obtain ⟨tb, _, _, _, _, _, etv, _⟩ := id ht
 subst etv
 refine Xv Tryz.func118 rfl rfl rfl (by simp) ?_
 refine Xe ?_
 refine Xu ?_
 refine Xa (Xn rfl) ?_
 refine Xe ?_
 refine Xe ?_
 refine Xu ?_
 refine Xa (Xz rfl) ?_
 refine Xa (Yh rfl) ?_
 refine Xa (Xf (off := 0) rfl Tryz.underlying167 rfl inf37.size (by decide) rfl) ?_
 refine Xa (Xj rfl Tryz.underlying37 rfl Xp) ?_
 refine Xa (Xc rfl) ?_
 refine Xx (Xy (Parent_tree ht hT.l1 (i : Int)) rfl Tryz.func121 rfl rfl rfl ?_)
 rintro v6 H ⟨rfl, rfl⟩; rw [if_pos ⟨by omega, by omega⟩, Int.toNat_natCast]
 refine Xa (Xn rfl) ?_
 refine Xe ?_
 refine Xu ?_
 refine Xa (Xc rfl) ?_
 refine Xa (Z3 rfl rfl) ?_
 refine X5 rfl rfl ?_ ?_
 intro hc1
 have hne : T.parent.getD i 0 ≠ -1 := of_decide_eq_true hc1
 have hpr := hp.resolve_left hne
 obtain ⟨b, o, rfl, hb, hcell⟩ := hs.int_at (i := T.parent.getD i 0) hpr.1 (by omega)
 refine Xe ?_
 refine Xu ?_
 refine Xa (Xz rfl) ?_
 refine Xa (Yh rfl) ?_
 refine Xa (Xf (off := 1) rfl Tryz.underlying167 rfl inf23.size (by decide) rfl) ?_
 refine Xa (Xj rfl Tryz.underlying23 rfl Xp) ?_
 refine Xa (Xc rfl) ?_
 refine Xa (Xs rfl rfl Tryz.underlying23 inf3.size X4 X4) ?_
 refine Xa (Xj rfl Tryz.underlying3 rfl Xp) ?_
 refine Xa (Xn rfl) ?_
 refine X1 ?_
 exact ⟨.int .i64 (ns.getD (T.parent.getD i 0).toNat 0), Xw (Xt rfl), by unfold Yn; rw [if_neg hne], rfl⟩
 intro hc1
 have hne : T.parent.getD i 0 = -1 := Decidable.not_not.1 (of_decide_eq_false hc1)
 refine Ya ?_
 refine Xe ?_
 refine Xu ?_
 refine Xa (Xn rfl) ?_
 refine X1 ?_
 exact ⟨.int .i64 (-1), Xw (Xt rfl), by unfold Yn; rw [if_pos hne], rfl⟩
theorem behind1_raw (xs : List Link) (ns : List Int) (A B : Option Addr) (c c2 i j : Nat) (b1 b2 b3 : Nat) (H : Hp) (h1 : H.cell? b1 0 = some (.slice A xs.length c)) (h2 : H.cell? b2 0 = some (.slice B ns.length c2)) (h3 : H.cell? b3 0 = some (.int .i64 j)) (hs : Sl kLink H (.slice A xs.length c) xs) (hn : Sl (Y3 .i64) H (.slice B ns.length c2) ns) (hi : i < xs.length) (hj : j < ns.length) (hb1 : b1 < H.size) (hb2 : b2 < H.size) (hb3 : b3 < H.size) :
  ACalls Tryz.prog 119 #[.int .i64 i, .pointer (some ⟨b1, 0, none⟩), .pointer (some ⟨b2, 0, none⟩), .pointer (some ⟨b3, 0, none⟩)] H (fun r _ => r = .bool (decide (ns.getD j 0 < xs[i].b))) := by
 obtain ⟨b, o, rfl, hb, hcell⟩ := hs.link_at hi
 have hcellb := hcell 1 _ rfl
 obtain ⟨b', o', rfl, hb', hcell'⟩ := hn.int_at (i := (j : Int)) (by omega) (by omega)
 rw [Int.toNat_natCast] at hcell'
 refine Xv Tryz.func119 rfl rfl rfl (by simp) ?_
 refine Xe ?_
 refine Xu ?_
 refine Xa (Xm rfl) ?_
 refine Xe ?_
 refine Yw (by kernel_rfl) (Y1 (B := [0, 0, 3, 7, 15, 0, 0, 96, 224, 511, 1023]) (π := [0, 1, 2, 3, 4, 5, 6, 7, 8, 9, 10]) (by kernel_rfl)) ?_
 refine Xd rfl rfl (Xj rfl Tryz.underlying83 rfl Xp) Xq ?_
 refine Xd rfl rfl (Xc rfl) Xq ?_
 refine Xd rfl rfl (Xs rfl rfl Tryz.underlying83 inf96.size X4 X4) Xq ?_
 refine Xd rfl rfl (Xf (off := 1) rfl Tryz.underlying96 rfl inf3.size (by decide) rfl) Xq ?_
 refine Xd rfl rfl (Xj rfl Tryz.underlying3 rfl Xp) Xq ?_
 refine Xd rfl rfl (Xj rfl Tryz.underlying23 rfl Xp) Xq ?_
 refine Xd rfl rfl (Xj rfl Tryz.underlying3 rfl Xp) Xq ?_
 refine Xd rfl rfl (Xs rfl rfl Tryz.underlying23 inf3.size X4 X4) Xq ?_
 refine Xd rfl rfl (Xj rfl Tryz.underlying3 rfl Xp) Xq ?_
 refine Xd rfl rfl (Vo rfl rfl) Xq ?_
 refine Xd rfl rfl (Xm rfl) Xq ?_
 refine X1 ?_
 exact ⟨_, Xw (Xt rfl), rfl⟩
end Go.Proofs.YtmakkmcjocjgmaaGreat.Am
