/- Texts that the proof rests on, part 6: lemmas for every heap that is related to a world, no condition beyond each lemma's own. -/
import Derived.Test.YtmakkmcjocjgmaaGreatCa5
import Derived.Test.YtmakkmcjocjgmaaGreatCaBytes
import Derived.Test.YtmakkmcjocjgmaaGreatCa4
import Derived.Test.YtmakkmcjocjgmaaGreatCa3
import Derived.Test.YtmakkmcjocjgmaaGreatCaGrow
import Derived.Test.YtmakkmcjocjgmaaGreatCaSlice3
namespace Go.Proofs.YtmakkmcjocjgmaaGreat.Am
open Go Go.RowKit
set_option linter.unusedVariables false
set_option linter.unusedSimpArgs false
set_option maxRecDepth 100000
structure BigF (f : Forest) : Prop where
 l0 : f.vars.length ≤ 9223372036854775807
 l1 : f.order.length ≤ 9223372036854775807
 l2 : f.parent.length ≤ 9223372036854775807
 l3 : f.links.length ≤ 9223372036854775807
 l4 : f.loops.length ≤ 9223372036854775807
 s3 : ∀ l ∈ f.links, l.length ≤ 9223372036854775807
 s4 : ∀ l ∈ f.loops, l.length ≤ 9223372036854775807
structure BigP (p : Parts) : Prop where
 l0 : p.nodes.length ≤ 9223372036854775807
 l1 : p.links.length ≤ 9223372036854775807
 s0 : ∀ l ∈ p.nodes, l.length ≤ 9223372036854775807
 s1 : ∀ l ∈ p.links, l.length ≤ 9223372036854775807
theorem Forest_28 (f : Forest) (cs : List Value) (H : Hp) (hp : kForest.rep H f cs) (hb : BigF f) :
  ACalls Tryz.prog 10 #[.agg cs.toArray] H (fun r H' => H.le H' ∧ ∃ ds, r = .agg ds.toArray ∧ kForest.rep H' f.few ds) := by
 have hp0 := hp
 obtain ⟨v0, v1, v2, v3, v4, rfl, hs0, hs1, hs2, hs3, hs4⟩ := hp
 obtain ⟨A0, c0, rfl⟩ := hs0.shape
 obtain ⟨A1, c1, rfl⟩ := hs1.shape
 obtain ⟨A2, c2, rfl⟩ := hs2.shape
 obtain ⟨A3, c3, rfl⟩ := hs3.shape
 obtain ⟨A4, c4, rfl⟩ := hs4.shape
 refine Xv Tryz.func10 rfl rfl rfl (by simp) ?_
 refine Xe ?_
 refine Xu ?_
 refine Xz (Yw rfl) ?_
 refine Xz (Yz (l := [.slice none 0 0, .slice none 0 0, .slice none 0 0, .slice none 0 0, .slice none 0 0]) inf26.zero rfl (by decide)) ?_
 refine Xe ?_
 refine Xu ?_
 refine Xa (Yl (cs := [.slice _ _ _, .slice _ _ _, .slice _ _ _, .slice _ _ _, .slice _ _ _]) rfl Tryz.underlying26 rfl inf26.size X8) ?_
 refine Xw (Xy (Few_forest f _ _ (kForest.mono Zp hp0) hb.l0 hb.l1 hb.l2 hb.l3 hb.l4 hb.s3 hb.s4) rfl Tryz.func45 rfl rfl rfl ?_)
 rintro v2 H2 ⟨hle2, ds, rfl, hds⟩; have hds0 := hds; obtain ⟨a0, a1, a2, a3, a4, rfl, ht0, ht1, ht2, ht3, ht4⟩ := hds; obtain ⟨B0, d0, rfl⟩ := ht0.shape; obtain ⟨B1, d1, rfl⟩ := ht1.shape; obtain ⟨B2, d2, rfl⟩ := ht2.shape; obtain ⟨B3, d3, rfl⟩ := ht3.shape; obtain ⟨B4, d4, rfl⟩ := ht4.shape; have hz2 := hle2.1; simp only [Hp.push_size] at hz2
 refine Xw (Yf (vs := [.slice _ _ _, .slice _ _ _, .slice _ _ _, .slice _ _ _, .slice _ _ _]) rfl rfl inf26.size Yd Yg rfl rfl ?_)
 refine X2 ?_
 have k1 : H2.get (H.size + 1) = .own 0 [.slice none 0 0, .slice none 0 0, .slice none 0 0, .slice none 0 0, .slice none 0 0] := Xr hle2 (by simp) (by intro e; cases e) Yd
 exact ⟨_, Xx (Yq Xm (Yo (cs := [_, _, _, _, _]) Tryz.underlying26 rfl inf26.size X8)), Hp.le_put_new (Hp.le_trans (Hp.le_push' (H.le_push _) _) hle2) (by simp <;> omega) _, [_, _, _, _, _], rfl, kForest.mono (Hp.sees_box _ k1) hds0⟩
theorem small_few (f : Forest) (p : Parts) : Small f.few p.few4 := by
 have h8 : ∀ {α : Type} (xs : List α), (xs.take 8).length ≤ 8 := fun xs => by rw [List.length_take]; omega
 refine ⟨?_, ?_, ?_, ?_, ?_, fun l hl => ?_, fun l hl => ?_⟩
 ·show ((f.vars.take 8).map _).length ≤ _; rw [List.length_map]; have := h8 f.vars; omega
 ·show (f.order.take 8).length ≤ _; have := h8 f.order; omega
 ·show (f.parent.take 8).length ≤ _; have := h8 f.parent; omega
 ·show (((p.nodes.take 8).map Vi).map _).length ≤ _; rw [List.length_map, List.length_map]; have := h8 p.nodes; omega
 ·show ((p.links.take 8).map Vi).length ≤ _; rw [List.length_map]; have := h8 p.links; omega
 ·obtain ⟨m, _, rfl⟩ := List.mem_map.1 hl
  rw [List.length_take]; omega
 ·obtain ⟨m, _, rfl⟩ := List.mem_map.1 hl
  unfold Vi; rw [List.length_map, List.length_take]; omega
theorem Link.few_few (x : Link) : x.few.few = x.few := by
 unfold Link.few
 by_cases h : 1000000000 < x.cost
 ·rw [if_pos h]; simp
 ·rw [if_neg h, if_neg h]
theorem fewL_le (xs : List Link) : (Vi xs).length ≤ 25 := by unfold Vi; rw [List.length_map, List.length_take]; omega
theorem fewL_take (m : Nat) (xs : List Link) : Vi ((Vi xs).take m) = (Vi xs).take m := by
 have h : (Vi xs).map Link.few = Vi xs := by
  unfold Vi
  rw [List.map_map, show Link.few ∘ Link.few = Link.few from funext Link.few_few]
 show (((Vi xs).take m).take 25).map Link.few = _
 rw [List.take_of_length_le (by rw [List.length_take]; have := fewL_le xs; omega), List.map_take, h]
theorem fewL_idem (xs : List Link) : Vi (Vi xs) = Vi xs := by
 have := fewL_take (Vi xs).length xs
 rwa [List.take_length] at this
theorem few4_few4 (p : Parts) : p.few4.few4 = p.few4 := by
 unfold Parts.few4 Parts.few
 simp only [List.map_map, ← List.map_take, List.take_take, Nat.min_self]
 congr 1
 ·refine List.map_congr_left fun l _ => ?_
  simp only [Function.comp]
  rw [fewL_take, List.take_take, Nat.min_self]
 ·exact List.map_congr_left fun l _ => fewL_idem l
theorem cutS_idem (s : ByteArray) : cutS (cutS s 32) 32 = cutS s 32 := by
 unfold cutS
 by_cases h : 32 < s.size
 ·rw [if_pos h, if_neg (by rw [ByteArray.size_extract]; omega)]
 ·rw [if_neg h, if_neg h]
theorem ffew_ffew (f : Forest) : f.few.few = f.few := by
 unfold Forest.few
 simp only [← List.map_take, List.take_take, Nat.min_self, List.map_map]
 congr 1
 ·exact List.map_congr_left fun s _ => cutS_idem s
 ·exact List.map_congr_left fun l _ => by simp [List.take_take]
 ·exact List.map_congr_left fun l _ => by simp [List.take_take]
theorem bigF_few (f : Forest) : BigF f.few := by
 have h := (small_few f ⟨[], []⟩)
 have h8 : ∀ {α : Type} (xs : List α), (xs.take 8).length ≤ 8 := fun xs => by rw [List.length_take]; omega
 refine ⟨by have := h.s0; omega, by have := h.s1; omega, by have := h.s2; omega, ?_, ?_, fun l hl => ?_, fun l hl => ?_⟩
 ·show ((f.links.take 8).map _).length ≤ _; rw [List.length_map]; have := h8 f.links; omega
 ·show ((f.loops.take 8).map _).length ≤ _; rw [List.length_map]; have := h8 f.loops; omega
 ·obtain ⟨m, _, rfl⟩ := List.mem_map.1 hl; rw [List.length_take]; omega
 ·obtain ⟨m, _, rfl⟩ := List.mem_map.1 hl; rw [List.length_take]; omega
theorem bigP_few (p : Parts) : BigP p.few4 := by
 have h := (small_few ⟨[], [], [], [], []⟩ p)
 exact ⟨by have := h.s3; omega, by have := h.s4; omega, fun l hl => by have := h.s5 l hl; omega, fun l hl => by have := h.s6 l hl; omega⟩
theorem small_sub {f : Forest} {p q : Parts} (h : Small f p) (hl : Lens f.vars.length q) (hs : Sub q p) : Small f q :=
 ⟨h.s0, h.s1, h.s2, by rw [hl.1]; exact h.s0, by rw [hl.2]; exact h.s0, fun l hm => by
  obtain ⟨i, hi, rfl⟩ := List.getElem_of_mem hm
  have k1 := (hs i).1.length_le
  unfold nd at k1
  rw [Ze hi] at k1
  exact Nat.le_trans k1 (V2 h.s5 i), fun l hm => by
  obtain ⟨i, hi, rfl⟩ := List.getElem_of_mem hm
  have k1 := (hs i).2.length_le
  unfold lk at k1
  rw [Ze hi] at k1
  exact Nat.le_trans k1 (V2 h.s6 i)⟩

def Reach (T : TreeT) : Prop := ∀ (i : Nat) (a : Int), i < T.vars.length → T.group i a ≠ [] → (T.parent.getD i 0 = -1 → a = -1) → a ∈ aboveT T T.vars.length i
theorem group_pos {f : Forest} {x : Parts} (hG : GoodP f x) (hF : ∀ v : Nat, v < f.vars.length → par f v ≠ -1 → Full f x v) (i a : Int) : ∀ z ∈ (Zg f x).group i a, 1 ≤ z.n ∧ z.n ≤ 4611686018427387904 := fun z hz => by
 rw [group_same hG hF] at hz
 unfold groupR at hz
 split at hz
 ·rename_i hi
  obtain ⟨y, hy, h1⟩ := List.mem_filterMap.1 hz
  have hv := (hG.gf.vAt_lt (s := i.toNat) (by have := hG.gf.l1; omega)).1
  have okn : ∀ y ∈ nd x (Vj f i.toNat), 1 ≤ y.n ∧ y.n ≤ 4611686018427387904 := fun y hy => by
   obtain ⟨j, hj, rfl⟩ := List.getElem_of_mem hy
   exact ⟨((hG.ok _ hv).1 j hj).1.2.2.2.2.2.1, ((hG.ok _ hv).1 j hj).1.2.2.2.2.2.2⟩
  have okl : ∀ y ∈ lk x (Vj f i.toNat), 1 ≤ y.n ∧ y.n ≤ 4611686018427387904 := fun y hy => by
   obtain ⟨j, hj, rfl⟩ := List.getElem_of_mem hy
   exact ⟨((hG.ok _ hv).2.1 j hj).1.2.2.2.2.2.1, ((hG.ok _ hv).2.1 j hj).1.2.2.2.2.2.2⟩
  unfold Vh at h1
  split at h1
  ·split at h1
   ·rename_i h2
    obtain ⟨j, hj, hjl, hja, hjb⟩ := findI_link h2
    injection h1 with h1
    subst h1
    rw [hj, Int.toNat_natCast, List.getD_eq_getElem?_getD, List.getElem?_eq_getElem hjl]
    simp only [Option.getD_some]
    obtain ⟨a1, a2⟩ := okn y hy
    obtain ⟨b1, b2⟩ := okl _ (List.getElem_mem hjl)
    have h3 := Uk (a := y.n) (b := ((lk x (Vj f i.toNat))[j]).n) (by omega) (by omega)
    refine ⟨?_, h3.2⟩
    have h4 : Zi y.n ((lk x (Vj f i.toNat))[j]).n = capI (y.n.toNat * ((lk x (Vj f i.toNat))[j]).n.toNat) := by
     rw [← timesI_cap, ← timesI_nat, timesI_comm _ (capI _), ← timesI_nat, timesI_comm, Int.toNat_of_nonneg (by omega), Int.toNat_of_nonneg (by omega)]
    have h5 : capI (y.n.toNat * ((lk x (Vj f i.toNat))[j]).n.toNat) ≠ 0 := fun e => by
     rw [cap_zero, Nat.mul_eq_zero] at e
     omega
    rw [h4] at h3 ⊢
    omega
   ·cases h1
  ·injection h1 with h1
   subst h1
   exact okn y hy
 ·cases hz
def hasB (T : TreeT) (i : Nat) (b : Int) : Prop := ∃ a, ∃ x ∈ T.group i a, x.b = b
structure NewS (T : TreeT) (K : Hp) (tb cb mb ms m : Nat) (H : Hp) (es1 es2 : List (Value × Value)) : Prop where
 le : K.le H
 hc : H.get cb = .own 0 [.pointer (some ⟨tb, 0, none⟩), .map (some mb), .map (some ms)]
 lc : cb < H.size
 hb : H.get mb = .map es1
 lb : mb < H.size
 hs : H.get ms = .map es2
 ls : ms < H.size
 i1 : IntsM es1
 i2 : IntsM es2
 no : ∀ (k : Nat) b, k < m → Zj es1 (Zq k b) = none ∧ Zj es2 (Zq k b) = none
 c1 : ∀ (k : Nat) b, m ≤ k → k < T.vars.length → Zj es1 (Zq k b) = none ∨ (Zj es1 (Zq k b) = some (.int .u64 (belT T T.vars.length k b)) ∧ hasB T k b)
 c2 : ∀ (k : Nat) b, m ≤ k → k < T.vars.length → Zj es2 (Zq k b) = none ∨ Zj es2 (Zq k b) = some (.int .u64 (sumT T T.vars.length k b))
 d1 : ∀ (k : Nat), m ≤ k → k < T.vars.length → ∀ a ∈ aboveT T T.vars.length k, ∀ x ∈ T.group k a, Zj es1 (Zq k x.b) = some (.int .u64 (belT T T.vars.length k x.b))
 d2 : ∀ (k : Nat), m ≤ k → k < T.vars.length → ∀ a ∈ aboveT T T.vars.length k, Zj es2 (Zq k a) = some (.int .u64 (sumT T T.vars.length k a))
theorem NewS.fill {T : TreeT} {K : Hp} {tb cb mb ms i : Nat} {H : Hp} {es1 es2 : List (Value × Value)} (h : NewS T K tb cb mb ms (i + 1) H es1 es2) : FillS T K tb cb mb ms i es1 es2 H es1 es2 :=
 ⟨h.le, h.hc, h.lc, h.hb, h.lb, h.hs, h.ls, h.i1, h.i2, fun _ _ _ => rfl, fun _ _ _ => rfl, fun b => .inl (h.no i b (Nat.lt_succ_self i)).1, fun b => .inl (h.no i b (Nat.lt_succ_self i)).2⟩
theorem NewS.step {T : TreeT} {K : Hp} {tb cb mb ms i : Nat} {H H' : Hp} {es1 es2 es1' es2' : List (Value × Value)} (h : NewS T K tb cb mb ms (i + 1) H es1 es2) (hf : FillS T K tb cb mb ms i es1 es2 H' es1' es2')
  (h2 : ∀ a ∈ aboveT T T.vars.length i, Zj es2' (Zq i a) = some (.int .u64 (sumT T T.vars.length i a))) (h1 : ∀ a ∈ aboveT T T.vars.length i, ∀ x ∈ T.group i a, Zj es1' (Zq i x.b) = some (.int .u64 (belT T T.vars.length i x.b))) : NewS T K tb cb mb ms i H' es1' es2' := by
 refine ⟨hf.le, hf.hc, hf.lc, hf.hb, hf.lb, hf.hs, hf.ls, hf.i1, hf.i2, fun k b hk => ?_, fun k b hk hk2 => ?_, fun k b hk hk2 => ?_, fun k hk hk2 a ha x hx => ?_, fun k hk hk2 a ha => ?_⟩
 ·rw [hf.o1 k b (by omega), hf.o2 k b (by omega)]; exact h.no k b (by omega)
 ·by_cases he : k = i
  ·subst he; exact hf.v1 b
  ·rw [hf.o1 k b (by omega)]; exact h.c1 k b (by omega) hk2
 ·by_cases he : k = i
  ·subst he; exact hf.v2 b
  ·rw [hf.o2 k b (by omega)]; exact h.c2 k b (by omega) hk2
 ·by_cases he : k = i
  ·subst he; exact h1 a ha x hx
  ·rw [hf.o1 k _ (by omega)]; exact h.d1 k (by omega) hk2 a ha x hx
 ·by_cases he : k = i
  ·subst he; exact h2 a ha
  ·rw [hf.o2 k _ (by omega)]; exact h.d2 k (by omega) hk2 a ha
structure CntsV (T : TreeT) (es1 es2 : List (Value × Value)) : Prop where
 i1 : IntsM es1
 i2 : IntsM es2
 sum : ∀ (i : Nat) (a : Int), i < T.vars.length → cntAt es2 i (if T.parent.getD i 0 = -1 then -1 else a) = sumT T T.vars.length i a
 bel : ∀ (i : Nat) (b : Int), i < T.vars.length → (hasB T i b → cntAt es1 i b = belT T T.vars.length i b) ∧ (¬ hasB T i b → cntAt es1 i b = 0)
theorem cntAt_some {es : List (Value × Value)} {i a n : Int} (h : Zj es (Zq i a) = some (.int .u64 n)) : cntAt es i a = n := by unfold cntAt; rw [h]
theorem cntAt_none {es : List (Value × Value)} {i a : Int} (h : Zj es (Zq i a) = none) : cntAt es i a = 0 := by unfold cntAt; rw [h]
theorem group_root {T : TreeT} {i : Nat} (h : T.parent.getD i 0 = -1) (a b : Int) : T.group i a = T.group i b := by
 unfold TreeT.group TreeT.row
 rw [Int.toNat_natCast, if_pos h, if_pos h]
theorem sumT_root {T : TreeT} (hT : GoodT T) {i : Nat} (hi : i < T.vars.length) (h : T.parent.getD i 0 = -1) (a b : Int) : sumT T T.vars.length i a = sumT T T.vars.length i b := by
 rw [sum_is hT hi, sum_is hT hi, group_root h a b]
theorem NewS.done {T : TreeT} (hT : GoodT T) (hR : Reach T) {K : Hp} {tb cb mb ms : Nat} {H : Hp} {es1 es2 : List (Value × Value)} (h : NewS T K tb cb mb ms 0 H es1 es2) : CntsV T es1 es2 := by
 refine ⟨h.i1, h.i2, fun i a hi => ?_, fun i b hi => ⟨fun ⟨a, x, hx, hb⟩ => ?_, fun hno => ?_⟩⟩
 ·obtain ⟨a', ha'⟩ : ∃ a', a' = if T.parent.getD i 0 = -1 then -1 else a := ⟨_, rfl⟩
  have hr : T.parent.getD i 0 = -1 → a' = -1 := fun e => by rw [ha', if_pos e]
  have hs : sumT T T.vars.length i a = sumT T T.vars.length i a' := by
   by_cases e : T.parent.getD i 0 = -1
   ·exact sumT_root hT hi e a a'
   ·rw [ha', if_neg e]
  rw [← ha', hs]
  by_cases hg : T.group i a' = []
  ·have h0 : sumT T T.vars.length i a' = 0 := by rw [sum_is hT hi, hg]; rfl
   rw [h0]
   rcases h.c2 i a' (Nat.zero_le _) hi with h2 | h2
   ·exact cntAt_none h2
   ·rw [cntAt_some h2, h0]
  ·exact cntAt_some (h.d2 i (Nat.zero_le _) hi a' (hR i a' hi hg hr))
 ·obtain ⟨a', ha'⟩ : ∃ a', a' = if T.parent.getD i 0 = -1 then -1 else a := ⟨_, rfl⟩
  have hr : T.parent.getD i 0 = -1 → a' = -1 := fun e => by rw [ha', if_pos e]
  have hg : T.group i a = T.group i a' := by
   by_cases e : T.parent.getD i 0 = -1
   ·exact group_root e a a'
   ·rw [ha', if_neg e]
  rw [hg] at hx
  rw [← hb]
  exact cntAt_some (h.d1 i (Nat.zero_le _) hi a' (hR i a' hi (List.ne_nil_of_mem hx) hr) x hx)
 ·rcases h.c1 i b (Nat.zero_le _) hi with h1 | h1
  ·exact cntAt_none h1
  ·exact absurd h1.2 hno
def CntR (H : Hp) (cb tb : Nat) (T : TreeT) : Prop := ∃ mb ms es1 es2, cb < H.size ∧ mb < H.size ∧ ms < H.size ∧ H.get cb = .own 0 [.pointer (some ⟨tb, 0, none⟩), .map (some mb), .map (some ms)] ∧ H.get mb = .map es1 ∧ H.get ms = .map es2 ∧ TreeR H (.pointer (some ⟨tb, 0, none⟩)) T ∧ CntsV T es1 es2
theorem CntR.mono {H H' : Hp} (hle : H.le H') {cb tb : Nat} {T : TreeT} (h : CntR H cb tb T) : CntR H' cb tb T := by
 obtain ⟨mb, ms, es1, es2, h1, h2, h3, h4, h5, h6, h7, h8⟩ := h
 exact ⟨mb, ms, es1, es2, Nat.lt_of_lt_of_le h1 hle.1, Nat.lt_of_lt_of_le h2 hle.1, Nat.lt_of_lt_of_le h3 hle.1, Xr hle h1 (by intro e; cases e) h4, Xr hle h2 (by intro e; cases e) h5, Xr hle h3 (by intro e; cases e) h6, h7.mono hle, h8⟩

structure ItemT where
 cost : Int
 nodes : List Int
 place : Int
 rank : Int
def kItemT : Kd ItemT where
 sz := 4
 pos := by decide
 rep H x cs := ∃ v, cs = [.int .i64 x.cost, v, .int .i64 x.place, .int .i64 x.rank] ∧ Sl (Y1 .i64) H v x.nodes
 len h := by obtain ⟨v, rfl, _⟩ := h; rfl
 mono he h := by obtain ⟨v, rfl, hs⟩ := h; exact ⟨v, rfl, hs.mono he⟩
 one h u hu := by
  obtain ⟨v, rfl, hs⟩ := h
  obtain ⟨A, c, rfl⟩ := hs.shape
  simp at hu
  rcases hu with rfl | rfl | rfl | rfl <;> rfl
def ItemT.cut (x : ItemT) : ItemT := { x with nodes := x.nodes.take 5 }
structure MarkT where
 told : Int
 over : Bool
 nodes : List Int
 rest : Int
 items : List ItemT
def kMark : Kd MarkT where
 sz := 5
 pos := by decide
 rep H m cs := ∃ v w, cs = [.int .i64 m.told, .bool m.over, v, .int .u64 m.rest, w] ∧ Sl (Y1 .i64) H v m.nodes ∧ Sl kItemT H w m.items
 len h := by obtain ⟨v, w, rfl, _⟩ := h; rfl
 mono he h := by obtain ⟨v, w, rfl, h1, h2⟩ := h; exact ⟨v, w, rfl, h1.mono he, h2.mono he⟩
 one h u hu := by
  obtain ⟨v, w, rfl, h1, h2⟩ := h
  obtain ⟨A, c, rfl⟩ := h1.shape
  obtain ⟨B, c2, rfl⟩ := h2.shape
  simp at hu
  rcases hu with rfl | rfl | rfl | rfl | rfl <;> rfl
def MarkT.cut (m : MarkT) : MarkT := ⟨m.told, m.over, m.nodes.take 14, m.rest, (m.items.take 4).map ItemT.cut⟩
structure BigM (m : MarkT) : Prop where
 n : m.nodes.length ≤ 9223372036854775807
 i : m.items.length ≤ 9223372036854775807
 x : ∀ x ∈ m.items, x.nodes.length ≤ 9223372036854775807
def oddI (n : Int) : Prop := n < 0 ∨ 10000 ≤ n
instance (n : Int) : Decidable (oddI n) := by unfold oddI; infer_instance
theorem Odd_int (n : Int) (H : Hp) : ACalls Tryz.prog 102 #[.int .i64 n] H (fun r H' => r = .bool (decide (oddI n)) ∧ H' = H) := by
 refine ACalls.pure (R := fun r => r = .bool (decide (oddI n))) (fun v h => by rw [h]; rfl) ?_
 refine Xv Tryz.func102 rfl rfl rfl (by simp) ?_
 refine Xe ?_
 refine Xu ?_
 refine Xa (Xn rfl) ?_
 refine Xe ?_
 refine Xu ?_
 refine Xa (Xb rfl) ?_
 refine Xa (Za rfl rfl) ?_
 refine Xa (Xo rfl) ?_
 refine Ya rfl rfl rfl ?_ ?_
 intro hg1
 have h1 : n < 0 := of_decide_eq_true hg1
 refine Xc (Xg rfl rfl rfl hg1 rfl) ?_
 refine Xc (Xg rfl rfl rfl hg1 rfl) ?_
 refine Xa (Xl (Yv hg1) rfl) ?_
 refine Xa (Xn rfl) ?_
 refine X2 ?_
 first
  | exact ⟨.bool true, Xx (Xs rfl), congrArg Value.bool (decide_eq_true (.inl h1)).symm⟩
  | exact ⟨.bool (decide (n ≥ 10000)), Xx (Xs rfl), congrArg Value.bool (decide_eq_decide.2 ⟨fun h => .inr h, fun h => h.resolve_left h1⟩)⟩
 intro hg1
 have h1 : ¬ n < 0 := of_decide_eq_false hg1
 refine Xj (Xh rfl rfl rfl hg1) (Xb rfl) ?_
 refine Xj (Xh rfl rfl rfl hg1) (av_ge rfl rfl) ?_
 refine Xa (Xl (Yv hg1) rfl) ?_
 refine Xa (Xn rfl) ?_
 refine X2 ?_
 first
  | exact ⟨.bool true, Xx (Xs rfl), congrArg Value.bool (decide_eq_true (.inl h1)).symm⟩
  | exact ⟨.bool (decide (n ≥ 10000)), Xx (Xs rfl), congrArg Value.bool (decide_eq_decide.2 ⟨fun h => .inr h, fun h => h.resolve_left h1⟩)⟩
theorem IndexI_raw (xs : List Int) (v : Value) (H : Hp) (hs : Sl (Y1 .i64) H v xs) (hl : xs.length ≤ 9223372036854775807) :
  ACalls Tryz.prog 126 #[v, .func (.func 102) #[] #[]] H (fun r _ => ∃ k : Int, r = .int .i64 k ∧ -1 ≤ k ∧ (0 ≤ k ↔ ¬ ∀ x ∈ xs, ¬ oddI x)) := by
 obtain ⟨A, c, rfl⟩ := hs.shape
 refine Xv Tryz.func126 rfl rfl rfl (by simp) ?_
 refine Xe ?_
 refine Xu ?_
 refine Xa (Xi rfl) ?_
 refine Xe ?_
 refine Xe ?_
 refine Xu ?_
 refine Xa (X1 rfl) ?_
 refine Xa (Ys rfl Tryz.underlying23) ?_
 refine Xa (Xb rfl) ?_
 refine Ye ?_
 refine Y5 (fun n t H' => ∃ (i : Nat), i ≤ xs.length ∧ n = xs.length - i ∧ H' = H ∧ (∀ x ∈ xs.take i, ¬ oddI x) ∧ t 0 = .slice A xs.length c ∧ t 1 = .func (.func 102) #[] #[] ∧ t 7 = .int .i64 xs.length ∧ t 8 = .int .i64 i) (xs.length) (⟨0, by omega, rfl, rfl, by simp, rfl, rfl, rfl, rfl⟩) ?_
 rintro n t _ ⟨i, hi, rfl, rfl, hno, e0, e1, e7, e8⟩
 refine Xe ?_
 refine Xu ?_
 refine Xa (Za Xm Xm) ?_
 refine Xe ?_
 refine X5 rfl rfl ?_ ?_
 intro hc1
 (try simp only [Yt] at hc1)
 refine X9 ?_
 refine Xe ?_
 refine Ye ?_
 refine Xe ?_
 refine Xu ?_
 refine Xa (Xb Xm) ?_
 refine Xa (Xi rfl) ?_
 refine Xe ?_
 refine Xu ?_
 refine Xa (Vd Xm) ?_
 refine Xa (X1 Xm) ?_
 refine Xa (Xb rfl) ?_
 have hix : i < xs.length := by omega
 obtain ⟨b, o, rfl, hb, hcell1⟩ := hs.int_at (i := (i : Int)) (by omega) (by omega)
 rw [Int.toNat_natCast, Zf hix] at hcell1
 refine Xa (Xt rfl rfl Tryz.underlying23 inf3.size X6 X6) ?_
 refine Xa (Xk rfl Tryz.underlying3 rfl Xp) ?_
 refine Xw (Xy (Odd_int xs[i] _) rfl Tryz.func102 rfl rfl rfl ?_)
 rintro v5 H1 ⟨rfl, rfl⟩
 refine X5 rfl rfl ?_ ?_
 intro hc2
 have hne : oddI xs[i] := of_decide_eq_true hc2
 refine Xe ?_
 refine Xu ?_
 refine Xa (Xb rfl) ?_
 refine Xa (Xi rfl) ?_
 refine X2 ?_
 exact ⟨.int .i64 i, Xx (Xs Xm), i, rfl, by omega, fun _ h => h _ (List.getElem_mem hix) hne, fun _ => by omega⟩
 intro hc2
 have heq : ¬ oddI xs[i] := of_decide_eq_false hc2
 refine X9 ?_
 refine Xu ?_
 refine Xa (Yn Xm Xm Y0) ?_
 refine Xa (Xb rfl) ?_
 refine ⟨xs.length - (i + 1), by omega, i + 1, by omega, rfl, rfl, ?_, e0, e1, e7, rfl⟩
 rw [← Y9 hix]
 intro x hx
 rcases List.mem_append.1 hx with hx | hx
 ·exact hno x hx
 ·simp at hx; rw [hx]; exact heq
 intro hc1
 (try simp only [Yt] at hc1)
 refine Yx ?_
 refine Xe ?_
 refine Xu ?_
 refine Xa (Xi rfl) ?_
 refine X2 ?_
 rw [List.take_of_length_le (by omega)] at hno
 exact ⟨.int .i64 (-1), Xx (Xs rfl), -1, rfl, by omega, fun h => by omega, fun h => absurd hno h⟩
theorem Contains_ints (xs : List Int) (v : Value) (H : Hp) (hs : Sl (Y1 .i64) H v xs) (hl : xs.length ≤ 9223372036854775807) :
  ACalls Tryz.prog 103 #[v, .func (.func 102) #[] #[]] H (fun r H' => (∃ g, r = .bool g ∧ (g = false ↔ ∀ x ∈ xs, ¬ oddI x)) ∧ H' = H) := by
 refine ACalls.pure (R := fun r => ∃ g, r = .bool g ∧ (g = false ↔ ∀ x ∈ xs, ¬ oddI x)) (fun v ⟨g, h, _⟩ => by rw [h]; rfl) ?_
 have hs := hs.mono H.sees_ro
 obtain ⟨A, c, rfl⟩ := hs.shape
 refine Xv Tryz.func103 rfl rfl rfl (by simp) ?_
 refine Xe ?_
 refine Xu ?_
 refine Xa (Xn rfl) ?_
 refine Xe ?_
 refine Xu ?_
 refine Xa (X1 rfl) ?_
 refine Xa (Vd rfl) ?_
 refine Xw (Xy (IndexI_raw xs _ _ hs hl) rfl Tryz.func126 rfl rfl rfl ?_)
 rintro v2 H2 ⟨k, rfl, hk, hk2⟩
 refine Xa (av_ge rfl rfl) ?_
 refine Xa (Xn rfl) ?_
 refine X2 ?_
 refine ⟨_, Xx (Xs rfl), decide (k ≥ 0), rfl, ?_⟩
 rw [decide_eq_false_iff_not]
 exact ⟨fun h => Decidable.not_not.1 fun h2 => h (hk2.2 h2), fun h h2 => hk2.1 h2 h⟩
structure Vt (m : MarkT) : Prop where
 i : m.items.length = 0
 t0 : 0 ≤ m.told
 t1 : m.told ≤ 9007199254740992
 n : m.nodes.length ≤ 12
 x : ∀ n ∈ m.nodes, ¬ oddI n
 e : (0 < m.nodes.length ∧ m.over = false) ∨ (m.nodes.length = 0 ∧ m.rest = 0)
theorem good_raw (m : MarkT) (cs : List Value) (H : Hp) (hm : kMark.rep H m cs) (hb : BigM m) :
    ACalls Tryz.prog 75 #[.agg cs.toArray] H (fun r _ => ∃ g, r = .bool g ∧ (g = true ↔ Vt m)) := by
  obtain ⟨v, w, rfl, hv, hw⟩ := hm
  obtain ⟨A, c, rfl⟩ := hv.shape
  obtain ⟨W, cW, rfl⟩ := hw.shape
  have hbn := hb.n
  have hbi := hb.i
  obtain ⟨gx, hgx⟩ : ∃ gx : Bool, (gx = true ↔ (m.items.length = 0 ∧ 0 ≤ m.told ∧ m.told ≤ 9007199254740992 ∧ m.nodes.length ≤ 12 ∧ ∀ n ∈ m.nodes, ¬ oddI n)) := ⟨decide (m.items.length = 0 ∧ 0 ≤ m.told ∧ m.told ≤ 9007199254740992 ∧ m.nodes.length ≤ 12 ∧ ∀ n ∈ m.nodes, ¬ oddI n), decide_eq_true_iff⟩
  obtain ⟨K, hK⟩ : ∃ K, K = H.push (.own 0 [.int .i64 m.told, .bool m.over, .slice A m.nodes.length c, .int .u64 m.rest, .slice W m.items.length cW]) := ⟨_, rfl⟩
  have kg : K.get H.size = .own 0 [.int .i64 m.told, .bool m.over, .slice A m.nodes.length c, .int .u64 m.rest, .slice W m.items.length cW] := by rw [hK]; exact Hp.push_new _ _
  have kz : K.size = H.size + 1 := by rw [hK]; simp
  refine Xv Tryz.func75 rfl rfl rfl (by simp) ?_
  refine Xe ?_
  refine Xu ?_
  refine Xz (Yw rfl) ?_
  refine Xa (Xn rfl) ?_
  refine Xe ?_
  refine Xu ?_
  refine Xa (U4 rfl) ?_
  refine Xe ?_
  refine Xe ?_
  change ACode true _ _ _ _ _ (H.push (.own 0 [.int .i64 m.told, .bool m.over, .slice A m.nodes.length c, .int .u64 m.rest, .slice W m.items.length cW]))
  have hvK : Sl (Y1 .i64) K (.slice A m.nodes.length c) m.nodes := by rw [hK]; exact hv.mono (H.le_push _).sees
  rw [← hK]
  refine ac_cut (fun t H' => H' = K ∧ t 1 = .pointer (some ⟨H.size, 0, none⟩) ∧ t 29 = .bool (!gx)) ?_ ?_
  refine Xu ?_
  refine Xa (Xf (off := 4) rfl Tryz.underlying33 rfl inf31.size (by decide) rfl) ?_
  refine Xa (Xk rfl Tryz.underlying31 rfl Xp) ?_
  refine Xa (Ys rfl Tryz.underlying31) ?_
  refine Xa (Vu rfl rfl) ?_
  refine Xa (Xo rfl) ?_
  refine Ya rfl rfl rfl ?_ ?_
  intro hg1
  have p1 : ¬ m.items.length = 0 := by have := of_decide_eq_true hg1; omega
  have hgf : gx = false := by cases gx with | false => rfl | true => exact absurd (hgx.1 rfl).1 p1
  refine Xc (Xg rfl rfl rfl hg1 rfl) ?_
  refine Xc (Xg rfl rfl rfl hg1 rfl) ?_
  refine Xc (Xg rfl rfl rfl hg1 rfl) ?_
  refine Xa (Xl (Yv hg1) rfl) ?_
  refine Xa (Xo rfl) ?_
  refine Xc (Xg rfl rfl rfl rfl rfl) ?_
  refine Xc (Xg rfl rfl rfl rfl rfl) ?_
  refine Xc (Xg rfl rfl rfl rfl rfl) ?_
  refine Xa (Xl (congrArg Value.bool rfl) rfl) ?_
  refine Xa (Xo rfl) ?_
  refine Xc (Xg rfl rfl rfl rfl rfl) ?_
  refine Xc (Xg rfl rfl rfl rfl rfl) ?_
  refine Xc (Xg rfl rfl rfl rfl rfl) ?_
  refine Xc (Xg rfl rfl rfl rfl rfl) ?_
  refine Xa (Xl (congrArg Value.bool rfl) rfl) ?_
  refine Xa (Xo rfl) ?_
  refine Xc (Xg rfl rfl rfl rfl rfl) ?_
  refine Xc (Xg rfl rfl rfl rfl rfl) ?_
  refine Xc (Xg rfl rfl rfl rfl rfl) ?_
  refine Xc (Xg rfl rfl rfl rfl rfl) ?_
  refine Xa (Xl (congrArg Value.bool rfl) rfl) ?_
  first
    | exact ⟨rfl, rfl, congrArg Value.bool (by rw [hgf]; rfl)⟩
    | exact ⟨rfl, rfl, congrArg Value.bool (by rw [hgg]; simp)⟩
  intro hg1
  have p1 : m.items.length = 0 := by have := of_decide_eq_false hg1; omega
  refine Xj (Xh rfl rfl rfl hg1) (Xf (off := 0) rfl Tryz.underlying33 rfl inf3.size (by decide) rfl) ?_
  refine Xj (Xh rfl rfl rfl hg1) (Xk rfl Tryz.underlying3 rfl Xp) ?_
  refine Xj (Xh rfl rfl rfl hg1) (Za rfl rfl) ?_
  refine Xa (Xl (Yv hg1) rfl) ?_
  refine Xa (Xo rfl) ?_
  refine Ya rfl rfl rfl ?_ ?_
  intro hg2
  have p2 : m.told < 0 := of_decide_eq_true hg2
  have hgf : gx = false := by cases gx with | false => rfl | true => exact absurd (hgx.1 rfl).2.1 (by omega)
  refine Xc (Xg rfl rfl rfl hg2 rfl) ?_
  refine Xc (Xg rfl rfl rfl hg2 rfl) ?_
  refine Xc (Xg rfl rfl rfl hg2 rfl) ?_
  refine Xa (Xl (Yv hg2) rfl) ?_
  refine Xa (Xo rfl) ?_
  refine Xc (Xg rfl rfl rfl rfl rfl) ?_
  refine Xc (Xg rfl rfl rfl rfl rfl) ?_
  refine Xc (Xg rfl rfl rfl rfl rfl) ?_
  refine Xc (Xg rfl rfl rfl rfl rfl) ?_
  refine Xa (Xl (congrArg Value.bool rfl) rfl) ?_
  refine Xa (Xo rfl) ?_
  refine Xc (Xg rfl rfl rfl rfl rfl) ?_
  refine Xc (Xg rfl rfl rfl rfl rfl) ?_
  refine Xc (Xg rfl rfl rfl rfl rfl) ?_
  refine Xc (Xg rfl rfl rfl rfl rfl) ?_
  refine Xa (Xl (congrArg Value.bool rfl) rfl) ?_
  first
    | exact ⟨rfl, rfl, congrArg Value.bool (by rw [hgf]; rfl)⟩
    | exact ⟨rfl, rfl, congrArg Value.bool (by rw [hgg]; simp)⟩
  intro hg2
  have p2 : ¬ m.told < 0 := of_decide_eq_false hg2
  refine Xj (Xh rfl rfl rfl hg2) (Xf (off := 0) rfl Tryz.underlying33 rfl inf3.size (by decide) rfl) ?_
  refine Xj (Xh rfl rfl rfl hg2) (Xk rfl Tryz.underlying3 rfl Xp) ?_
  refine Xj (Xh rfl rfl rfl hg2) (Vu rfl rfl) ?_
  refine Xa (Xl (Yv hg2) rfl) ?_
  refine Xa (Xo rfl) ?_
  refine Ya rfl rfl rfl ?_ ?_
  intro hg3
  have p3 : m.told > 9007199254740992 := of_decide_eq_true hg3
  have hgf : gx = false := by cases gx with | false => rfl | true => exact absurd (hgx.1 rfl).2.2.1 (by omega)
  refine Xc (Xg rfl rfl rfl hg3 rfl) ?_
  refine Xc (Xg rfl rfl rfl hg3 rfl) ?_
  refine Xc (Xg rfl rfl rfl hg3 rfl) ?_
  refine Xc (Xg rfl rfl rfl hg3 rfl) ?_
  refine Xa (Xl (Yv hg3) rfl) ?_
  refine Xa (Xo rfl) ?_
  refine Xc (Xg rfl rfl rfl rfl rfl) ?_
  refine Xc (Xg rfl rfl rfl rfl rfl) ?_
  refine Xc (Xg rfl rfl rfl rfl rfl) ?_
  refine Xc (Xg rfl rfl rfl rfl rfl) ?_
  refine Xa (Xl (congrArg Value.bool rfl) rfl) ?_
  first
    | exact ⟨rfl, rfl, congrArg Value.bool (by rw [hgf]; rfl)⟩
    | exact ⟨rfl, rfl, congrArg Value.bool (by rw [hgg]; simp)⟩
  intro hg3
  have p3 : ¬ m.told > 9007199254740992 := of_decide_eq_false hg3
  refine Xj (Xh rfl rfl rfl hg3) (Xf (off := 2) rfl Tryz.underlying33 rfl inf23.size (by decide) rfl) ?_
  refine Xj (Xh rfl rfl rfl hg3) (Xk rfl Tryz.underlying23 rfl Xp) ?_
  refine Xj (Xh rfl rfl rfl hg3) (Ys rfl Tryz.underlying23) ?_
  refine Xj (Xh rfl rfl rfl hg3) (Vu rfl rfl) ?_
  refine Xa (Xl (Yv hg3) rfl) ?_
  refine Xa (Xo rfl) ?_
  refine Ya rfl rfl rfl ?_ ?_
  intro hg4
  have p4 : m.nodes.length > 12 := by have := of_decide_eq_true hg4; omega
  have hgf : gx = false := by cases gx with | false => rfl | true => exact absurd (hgx.1 rfl).2.2.2.1 (by omega)
  refine Xc (Xg rfl rfl rfl hg4 rfl) ?_
  refine Xc (Xg rfl rfl rfl hg4 rfl) ?_
  refine Xc (Xg rfl rfl rfl hg4 rfl) ?_
  refine Xc (Xg rfl rfl rfl hg4 rfl) ?_
  refine Xa (Xl (Yv hg4) rfl) ?_
  first
    | exact ⟨rfl, rfl, congrArg Value.bool (by rw [hgf]; rfl)⟩
    | exact ⟨rfl, rfl, congrArg Value.bool (by rw [hgg]; simp)⟩
  intro hg4
  have p4 : ¬ m.nodes.length > 12 := by have := of_decide_eq_false hg4; omega
  refine Xj (Xh rfl rfl rfl hg4) (Xf (off := 2) rfl Tryz.underlying33 rfl inf23.size (by decide) rfl) ?_
  refine Xj (Xh rfl rfl rfl hg4) (Xk rfl Tryz.underlying23 rfl Xp) ?_
  refine Xj (Xh rfl rfl rfl hg4) (Vd rfl) ?_
  refine Z1 (Xh rfl rfl rfl hg4) (Xy (Contains_ints m.nodes _ _ hvK hbn) rfl Tryz.func103 rfl rfl rfl ?_)
  rintro v28 K ⟨⟨g, rfl, hg⟩, rfl⟩; have hgg : gx = !g := (by
      cases g with
      | false => exact hgx.2 ⟨p1, by omega, by omega, by omega, hg.1 rfl⟩
      | true =>
        cases gx with
        | false => rfl
        | true => exact absurd (hg.2 (hgx.1 rfl).2.2.2.2) (by decide))
  refine Xa (Xl (Yv hg4) rfl) ?_
  first
    | exact ⟨rfl, rfl, congrArg Value.bool (by rw [hgf]; rfl)⟩
    | exact ⟨rfl, rfl, congrArg Value.bool (by rw [hgg]; simp)⟩
  rintro t K ⟨rfl, e1, e29⟩
  refine X5 Xm rfl ?_ ?_
  intro hc5
  have hgf : gx = false := by have h := hc5; simpa using h
  refine Xe ?_
  refine Xu ?_
  refine Xa (Xn rfl) ?_
  refine X2 ?_
  exact ⟨_, Xx (Xs rfl), false, rfl, ⟨fun h => (by cases h), fun h => (by rw [hgx.2 ⟨h.i, h.t0, h.t1, h.n, h.x⟩] at hgf; cases hgf)⟩⟩
  intro hc5
  have hgt : gx = true := by have h := hc5; simpa using h
  obtain ⟨q1, q2, q3, q4, q5⟩ := hgx.1 hgt
  refine X9 ?_
  refine Xe ?_
  refine Xu ?_
  refine Xa (Xf (off := 2) Xm Tryz.underlying33 Xm inf23.size (by decide) Xm) ?_
  refine Xa (Xk rfl Tryz.underlying23 rfl Xp) ?_
  refine Xa (Ys rfl Tryz.underlying23) ?_
  refine Xa (Vu rfl rfl) ?_
  refine Xa (Xo rfl) ?_
  refine Ya rfl rfl rfl ?_ ?_
  intro hg6
  have r1 : 0 < m.nodes.length := by have := of_decide_eq_true hg6; omega
  refine Xj (Xh rfl rfl rfl hg6) (Xf (off := 1) Xm Tryz.underlying33 Xm inf4.size (by decide) Xm) ?_
  refine Xj (Xh rfl rfl rfl hg6) (Xk rfl Tryz.underlying4 rfl Xp) ?_
  refine Xj (Xh rfl rfl rfl hg6) (Zz rfl) ?_
  refine Xa (Xl (Yv hg6) rfl) ?_
  refine Xa (Xo rfl) ?_
  refine Ya rfl rfl rfl ?_ ?_
  intro hg7
  have r2 : m.over = false := by have h := hg7; simpa using h
  refine Xc (Xg rfl rfl rfl hg7 rfl) ?_
  refine Xc (Xg rfl rfl rfl hg7 rfl) ?_
  refine Xc (Xg rfl rfl rfl hg7 rfl) ?_
  refine Xc (Xg rfl rfl rfl hg7 rfl) ?_
  refine Xc (Xg rfl rfl rfl hg7 rfl) ?_
  refine Xc (Yb rfl rfl rfl) ?_
  refine Xc (Yb rfl rfl rfl) ?_
  refine Xc (Yb rfl rfl rfl) ?_
  refine Xc (Xg rfl rfl rfl hg7 rfl) ?_
  refine Xa (Xl (Yv hg7) Xm) ?_
  refine Xa (Xn rfl) ?_
  refine X2 ?_
  refine ⟨_, Xx (Xs rfl), _, rfl, ?_⟩
  first
    | exact absurd r1 r3
    | exact ⟨fun _ => ⟨q1, q2, q3, q4, q5, .inl ⟨r1, r2⟩⟩, fun _ => rfl⟩
    | exact ⟨fun h => ⟨q1, q2, q3, q4, q5, .inr ⟨r1, of_decide_eq_true h⟩⟩, fun h => decide_eq_true (h.e.resolve_left (fun h2 => by omega)).2⟩
    | exact ⟨fun h => (by cases h), fun h => (by rcases h.e with h2 | h2; (· rw [r2] at h2; exact absurd h2.2 (by decide)); (· omega))⟩
    | exact ⟨fun h => ⟨q1, q2, q3, q4, q5, .inr ⟨r3, of_decide_eq_true h⟩⟩, fun h => decide_eq_true (h.e.resolve_left (fun h2 => by omega)).2⟩
  intro hg7
  have r2 : m.over = true := by have h := hg7; simpa using h
  refine Xj (Xh rfl rfl rfl hg7) (Xf (off := 2) Xm Tryz.underlying33 Xm inf23.size (by decide) Xm) ?_
  refine Xj (Xh rfl rfl rfl hg7) (Xk rfl Tryz.underlying23 rfl Xp) ?_
  refine Xj (Xh rfl rfl rfl hg7) (Ys rfl Tryz.underlying23) ?_
  refine Xj (Xh rfl rfl rfl hg7) (Zx rfl rfl) ?_
  refine Xj (Xh rfl rfl rfl hg7) (Xo rfl) ?_
  refine Ya rfl rfl rfl ?_ ?_
  intro hg8
  have r3 : m.nodes.length = 0 := by have := of_decide_eq_true hg8; omega
  refine Xj (Xh rfl rfl rfl hg8) (Xf (off := 3) Xm Tryz.underlying33 Xm inf30.size (by decide) Xm) ?_
  refine Xj (Xh rfl rfl rfl hg8) (Xk rfl Tryz.underlying30 rfl Xp) ?_
  refine Xj (Xh rfl rfl rfl hg8) (Zx rfl rfl) ?_
  refine Xj (Xh rfl rfl rfl hg7) (Xl (Yv hg8) rfl) ?_
  refine Xa (Xl (Yv hg7) rfl) ?_
  refine Xa (Xn rfl) ?_
  refine X2 ?_
  refine ⟨_, Xx (Xs rfl), _, rfl, ?_⟩
  first
    | exact absurd r1 r3
    | exact ⟨fun _ => ⟨q1, q2, q3, q4, q5, .inl ⟨r1, r2⟩⟩, fun _ => rfl⟩
    | exact ⟨fun h => ⟨q1, q2, q3, q4, q5, .inr ⟨r1, of_decide_eq_true h⟩⟩, fun h => decide_eq_true (h.e.resolve_left (fun h2 => by omega)).2⟩
    | exact ⟨fun h => (by cases h), fun h => (by rcases h.e with h2 | h2; (· rw [r2] at h2; exact absurd h2.2 (by decide)); (· omega))⟩
    | exact ⟨fun h => ⟨q1, q2, q3, q4, q5, .inr ⟨r3, of_decide_eq_true h⟩⟩, fun h => decide_eq_true (h.e.resolve_left (fun h2 => by omega)).2⟩
  intro hg8
  have r3 : ¬ m.nodes.length = 0 := by have := of_decide_eq_false hg8; omega
  refine Xc (Xg rfl rfl rfl hg8 rfl) ?_
  refine Xc (Xg rfl rfl rfl hg8 rfl) ?_
  refine Xc (Xg rfl rfl rfl hg8 rfl) ?_
  refine Xj (Xh rfl rfl rfl hg7) (Xl (Yv hg8) Xm) ?_
  refine Xa (Xl (Yv hg7) rfl) ?_
  refine Xa (Xn rfl) ?_
  refine X2 ?_
  refine ⟨_, Xx (Xs rfl), _, rfl, ?_⟩
  first
    | exact absurd r1 r3
    | exact ⟨fun _ => ⟨q1, q2, q3, q4, q5, .inl ⟨r1, r2⟩⟩, fun _ => rfl⟩
    | exact ⟨fun h => ⟨q1, q2, q3, q4, q5, .inr ⟨r1, of_decide_eq_true h⟩⟩, fun h => decide_eq_true (h.e.resolve_left (fun h2 => by omega)).2⟩
    | exact ⟨fun h => (by cases h), fun h => (by rcases h.e with h2 | h2; (· rw [r2] at h2; exact absurd h2.2 (by decide)); (· omega))⟩
    | exact ⟨fun h => ⟨q1, q2, q3, q4, q5, .inr ⟨r3, of_decide_eq_true h⟩⟩, fun h => decide_eq_true (h.e.resolve_left (fun h2 => by omega)).2⟩
  intro hg6
  have r1 : m.nodes.length = 0 := by have := of_decide_eq_false hg6; omega
  refine Xc (Xg rfl rfl rfl hg6 rfl) ?_
  refine Xc (Xg rfl rfl rfl hg6 rfl) ?_
  refine Xc (Xg rfl rfl rfl hg6 rfl) ?_
  refine Xa (Xl (Yv hg6) Xm) ?_
  refine Xa (Xo rfl) ?_
  refine Xj (Xh rfl rfl rfl rfl) (Xf (off := 2) Xm Tryz.underlying33 Xm inf23.size (by decide) Xm) ?_
  refine Xj (Xh rfl rfl rfl rfl) (Xk rfl Tryz.underlying23 rfl Xp) ?_
  refine Xj (Xh rfl rfl rfl rfl) (Ys rfl Tryz.underlying23) ?_
  refine Xj (Xh rfl rfl rfl rfl) (Zx rfl rfl) ?_
  refine Xj (Xh rfl rfl rfl rfl) (Xo rfl) ?_
  refine Ya rfl rfl rfl ?_ ?_
  intro hg9
  have r3 : m.nodes.length = 0 := by have := of_decide_eq_true hg9; omega
  refine Xj (Xh rfl rfl rfl hg9) (Xf (off := 3) Xm Tryz.underlying33 Xm inf30.size (by decide) Xm) ?_
  refine Xj (Xh rfl rfl rfl hg9) (Xk rfl Tryz.underlying30 rfl Xp) ?_
  refine Xj (Xh rfl rfl rfl hg9) (Zx rfl rfl) ?_
  refine Xj (Xh rfl rfl rfl rfl) (Xl (Yv hg9) rfl) ?_
  refine Xa (Xl (congrArg Value.bool rfl) rfl) ?_
  refine Xa (Xn rfl) ?_
  refine X2 ?_
  refine ⟨_, Xx (Xs rfl), _, rfl, ?_⟩
  first
    | exact absurd r1 r3
    | exact ⟨fun _ => ⟨q1, q2, q3, q4, q5, .inl ⟨r1, r2⟩⟩, fun _ => rfl⟩
    | exact ⟨fun h => ⟨q1, q2, q3, q4, q5, .inr ⟨r1, of_decide_eq_true h⟩⟩, fun h => decide_eq_true (h.e.resolve_left (fun h2 => by omega)).2⟩
    | exact ⟨fun h => (by cases h), fun h => (by rcases h.e with h2 | h2; (· rw [r2] at h2; exact absurd h2.2 (by decide)); (· omega))⟩
    | exact ⟨fun h => ⟨q1, q2, q3, q4, q5, .inr ⟨r3, of_decide_eq_true h⟩⟩, fun h => decide_eq_true (h.e.resolve_left (fun h2 => by omega)).2⟩
  intro hg9
  have r3 : ¬ m.nodes.length = 0 := by have := of_decide_eq_false hg9; omega
  refine Xc (Xg rfl rfl rfl hg9 rfl) ?_
  refine Xc (Xg rfl rfl rfl hg9 rfl) ?_
  refine Xc (Xg rfl rfl rfl hg9 rfl) ?_
  refine Xj (Xh rfl rfl rfl rfl) (Xl (Yv hg9) Xm) ?_
  refine Xa (Xl (congrArg Value.bool rfl) rfl) ?_
  refine Xa (Xn rfl) ?_
  refine X2 ?_
  refine ⟨_, Xx (Xs rfl), _, rfl, ?_⟩
  first
    | exact absurd r1 r3
    | exact ⟨fun _ => ⟨q1, q2, q3, q4, q5, .inl ⟨r1, r2⟩⟩, fun _ => rfl⟩
    | exact ⟨fun h => ⟨q1, q2, q3, q4, q5, .inr ⟨r1, of_decide_eq_true h⟩⟩, fun h => decide_eq_true (h.e.resolve_left (fun h2 => by omega)).2⟩
    | exact ⟨fun h => (by cases h), fun h => (by rcases h.e with h2 | h2; (· rw [r2] at h2; exact absurd h2.2 (by decide)); (· omega))⟩
    | exact ⟨fun h => ⟨q1, q2, q3, q4, q5, .inr ⟨r3, of_decide_eq_true h⟩⟩, fun h => decide_eq_true (h.e.resolve_left (fun h2 => by omega)).2⟩
theorem good_36 (m : MarkT) (cs : List Value) (H : Hp) (hm : kMark.rep H m cs) (hb : BigM m) :
  ACalls Tryz.prog 75 #[.agg cs.toArray] H (fun r H' => (∃ g, r = .bool g ∧ (g = true ↔ Vt m)) ∧ H' = H) :=
 ACalls.pure (fun v ⟨g, h, _⟩ => by rw [h]; rfl) (good_raw m cs H.ro (kMark.mono H.sees_ro hm) hb)
def SameM (a b : MarkT) : Prop := a.told = b.told ∧ a.over = b.over ∧ a.rest = b.rest ∧ a.nodes = b.nodes
theorem sameM_raw (a b : MarkT) (cs ds : List Value) (H : Hp) (ha : kMark.rep H a cs) (hb : kMark.rep H b ds) (hba : BigM a) (hbb : BigM b) :
  ACalls Tryz.prog 20 #[.agg cs.toArray, .agg ds.toArray] H (fun r _ => ∃ g, r = .bool g ∧ (g = true ↔ SameM a b)) := by
 obtain ⟨v, w, rfl, hv, hw⟩ := ha
 obtain ⟨A, c, rfl⟩ := hv.shape
 obtain ⟨W, cW, rfl⟩ := hw.shape
 obtain ⟨v2, w2, rfl, hv2, hw2⟩ := hb
 obtain ⟨A2, c2, rfl⟩ := hv2.shape
 obtain ⟨W2, cW2, rfl⟩ := hw2.shape
 have hbn := hba.n
 have hbn2 := hbb.n
 obtain ⟨K, hK⟩ : ∃ K, K = (H.push (.own 0 [.int .i64 a.told, .bool a.over, .slice A a.nodes.length c, .int .u64 a.rest, .slice W a.items.length cW])).push (.own 0 [.int .i64 b.told, .bool b.over, .slice A2 b.nodes.length c2, .int .u64 b.rest, .slice W2 b.items.length cW2]) := ⟨_, rfl⟩
 have kg : K.get H.size = .own 0 [.int .i64 a.told, .bool a.over, .slice A a.nodes.length c, .int .u64 a.rest, .slice W a.items.length cW] := by rw [hK]; exact Yd
 have kg2 : K.get (H.size + 1) = .own 0 [.int .i64 b.told, .bool b.over, .slice A2 b.nodes.length c2, .int .u64 b.rest, .slice W2 b.items.length cW2] := by rw [hK]; exact Yd
 have kz : K.size = H.size + 2 := by rw [hK]; simp
 have leK : H.le K := by rw [hK]; exact Hp.le_push' (H.le_push _) _
 refine Xv Tryz.func20 rfl rfl rfl (by simp) ?_
 refine Xe ?_
 refine Xu ?_
 refine Xz (Yw rfl) ?_
 refine Xz (Yw rfl) ?_
 refine Xa (Xn rfl) ?_
 refine Xe ?_
 refine Xe ?_
 refine Xu ?_
 refine Xa (Xf (off := 0) rfl Tryz.underlying33 rfl inf3.size (by decide) rfl) ?_
 refine Xa (Xk rfl Tryz.underlying3 rfl Xp) ?_
 refine Xa (Xf (off := 0) rfl Tryz.underlying33 rfl inf3.size (by decide) rfl) ?_
 refine Xa (Xk rfl Tryz.underlying3 rfl Xp) ?_
 refine Xa (Zw rfl rfl) ?_
 refine Xa (Xo rfl) ?_
 refine Ya rfl rfl rfl ?_ ?_
 intro hg1
 have p1 : a.told ≠ b.told := of_decide_eq_true hg1
 refine Xc (Xg rfl rfl rfl hg1 rfl) ?_
 refine Xc (Xg rfl rfl rfl hg1 rfl) ?_
 refine Xc (Xg rfl rfl rfl hg1 rfl) ?_
 refine Xc (Xg rfl rfl rfl hg1 rfl) ?_
 refine Xc (Xg rfl rfl rfl hg1 rfl) ?_
 refine Xa (Xl (Yv hg1) rfl) ?_
 refine Xa (Xo rfl) ?_
 refine Xc (Xg rfl rfl rfl rfl rfl) ?_
 refine Xc (Xg rfl rfl rfl rfl rfl) ?_
 refine Xc (Xg rfl rfl rfl rfl rfl) ?_
 refine Xc (Xg rfl rfl rfl rfl rfl) ?_
 refine Xc (Xg rfl rfl rfl rfl rfl) ?_
 refine Xa (Xl (congrArg Value.bool rfl) rfl) ?_
 refine Xa (Xo rfl) ?_
 refine Xc (Xg rfl rfl rfl rfl rfl) ?_
 refine Xc (Xg rfl rfl rfl rfl rfl) ?_
 refine Xc (Xg rfl rfl rfl rfl rfl) ?_
 refine Xc (Xg rfl rfl rfl rfl rfl) ?_
 refine Xc (Xg rfl rfl rfl rfl rfl) ?_
 refine Xc (Xg rfl rfl rfl rfl rfl) ?_
 refine Xc (Xg rfl rfl rfl rfl rfl) ?_
 refine Xa (Xl (congrArg Value.bool rfl) rfl) ?_
 refine Yu rfl rfl ?_
 refine Xe ?_
 refine Xu ?_
 refine Xa (Xn rfl) ?_
 refine X2 ?_
 refine ⟨.bool false, Xx (Xs rfl), false, rfl, ⟨fun h => (by cases h), fun h => ?_⟩⟩
 first
  | exact absurd h.1 p1
  | exact absurd h.2.1 p2
  | exact absurd h.2.2.1 p3
  | exact absurd (congrArg List.length h.2.2.2) p4
 intro hg1
 have p1 : a.told = b.told := by have h := of_decide_eq_false hg1; simpa using h
 refine Xj (Xh rfl rfl rfl hg1) (Xf (off := 1) rfl Tryz.underlying33 rfl inf4.size (by decide) rfl) ?_
 refine Xj (Xh rfl rfl rfl hg1) (Xk rfl Tryz.underlying4 rfl Xp) ?_
 refine Xj (Xh rfl rfl rfl hg1) (Xf (off := 1) rfl Tryz.underlying33 rfl inf4.size (by decide) rfl) ?_
 refine Xj (Xh rfl rfl rfl hg1) (Xk rfl Tryz.underlying4 rfl Xp) ?_
 refine Xj (Xh rfl rfl rfl hg1) (av_bne rfl rfl Tryz.underlying4) ?_
 refine Xa (Xl (Yv hg1) rfl) ?_
 refine Xa (Xo rfl) ?_
 refine Ya rfl rfl rfl ?_ ?_
 intro hg3
 have p2 : a.over ≠ b.over := by have h := hg3; simpa using h
 refine Xc (Xg rfl rfl rfl hg3 rfl) ?_
 refine Xc (Xg rfl rfl rfl hg3 rfl) ?_
 refine Xc (Xg rfl rfl rfl hg3 rfl) ?_
 refine Xc (Xg rfl rfl rfl hg3 rfl) ?_
 refine Xc (Xg rfl rfl rfl hg3 rfl) ?_
 refine Xa (Xl (Yv hg3) rfl) ?_
 refine Xa (Xo rfl) ?_
 refine Xc (Xg rfl rfl rfl rfl rfl) ?_
 refine Xc (Xg rfl rfl rfl rfl rfl) ?_
 refine Xc (Xg rfl rfl rfl rfl rfl) ?_
 refine Xc (Xg rfl rfl rfl rfl rfl) ?_
 refine Xc (Xg rfl rfl rfl rfl rfl) ?_
 refine Xc (Xg rfl rfl rfl rfl rfl) ?_
 refine Xc (Xg rfl rfl rfl rfl rfl) ?_
 refine Xa (Xl (congrArg Value.bool rfl) rfl) ?_
 refine Yu rfl rfl ?_
 refine Xe ?_
 refine Xu ?_
 refine Xa (Xn rfl) ?_
 refine X2 ?_
 refine ⟨.bool false, Xx (Xs rfl), false, rfl, ⟨fun h => (by cases h), fun h => ?_⟩⟩
 first
  | exact absurd h.1 p1
  | exact absurd h.2.1 p2
  | exact absurd h.2.2.1 p3
  | exact absurd (congrArg List.length h.2.2.2) p4
 intro hg3
 have p2 : a.over = b.over := by have h := hg3; simpa using h
 refine Xj (Xh rfl rfl rfl hg3) (Xf (off := 3) rfl Tryz.underlying33 rfl inf30.size (by decide) rfl) ?_
 refine Xj (Xh rfl rfl rfl hg3) (Xk rfl Tryz.underlying30 rfl Xp) ?_
 refine Xj (Xh rfl rfl rfl hg3) (Xf (off := 3) rfl Tryz.underlying33 rfl inf30.size (by decide) rfl) ?_
 refine Xj (Xh rfl rfl rfl hg3) (Xk rfl Tryz.underlying30 rfl Xp) ?_
 refine Xj (Xh rfl rfl rfl hg3) (Zw rfl rfl) ?_
 refine Xa (Xl (Yv hg3) rfl) ?_
 refine Xa (Xo rfl) ?_
 refine Ya rfl rfl rfl ?_ ?_
 intro hg5
 have p3 : a.rest ≠ b.rest := of_decide_eq_true hg5
 refine Xc (Xg rfl rfl rfl hg5 rfl) ?_
 refine Xc (Xg rfl rfl rfl hg5 rfl) ?_
 refine Xc (Xg rfl rfl rfl hg5 rfl) ?_
 refine Xc (Xg rfl rfl rfl hg5 rfl) ?_
 refine Xc (Xg rfl rfl rfl hg5 rfl) ?_
 refine Xc (Xg rfl rfl rfl hg5 rfl) ?_
 refine Xc (Xg rfl rfl rfl hg5 rfl) ?_
 refine Xa (Xl (Yv hg5) rfl) ?_
 refine Yu rfl rfl ?_
 refine Xe ?_
 refine Xu ?_
 refine Xa (Xn rfl) ?_
 refine X2 ?_
 refine ⟨.bool false, Xx (Xs rfl), false, rfl, ⟨fun h => (by cases h), fun h => ?_⟩⟩
 first
  | exact absurd h.1 p1
  | exact absurd h.2.1 p2
  | exact absurd h.2.2.1 p3
  | exact absurd (congrArg List.length h.2.2.2) p4
 intro hg5
 have p3 : a.rest = b.rest := by have h := of_decide_eq_false hg5; simpa using h
 refine Xj (Xh rfl rfl rfl hg5) (Xf (off := 2) rfl Tryz.underlying33 rfl inf23.size (by decide) rfl) ?_
 refine Xj (Xh rfl rfl rfl hg5) (Xk rfl Tryz.underlying23 rfl Xp) ?_
 refine Xj (Xh rfl rfl rfl hg5) (Ys rfl Tryz.underlying23) ?_
 refine Xj (Xh rfl rfl rfl hg5) (Xf (off := 2) rfl Tryz.underlying33 rfl inf23.size (by decide) rfl) ?_
 refine Xj (Xh rfl rfl rfl hg5) (Xk rfl Tryz.underlying23 rfl Xp) ?_
 refine Xj (Xh rfl rfl rfl hg5) (Ys rfl Tryz.underlying23) ?_
 refine Xj (Xh rfl rfl rfl hg5) (Zw rfl rfl) ?_
 refine Xa (Xl (Yv hg5) rfl) ?_
 refine X5 rfl rfl ?_ ?_
 intro hc7
 have p4 : a.nodes.length ≠ b.nodes.length := by have h := of_decide_eq_true hc7; omega
 refine Xe ?_
 refine Xu ?_
 refine Xa (Xn rfl) ?_
 refine X2 ?_
 refine ⟨.bool false, Xx (Xs rfl), false, rfl, ⟨fun h => (by cases h), fun h => ?_⟩⟩
 first
  | exact absurd h.1 p1
  | exact absurd h.2.1 p2
  | exact absurd h.2.2.1 p3
  | exact absurd (congrArg List.length h.2.2.2) p4
 intro hc7
 have p4 : a.nodes.length = b.nodes.length := by have h := of_decide_eq_false hc7; omega
 refine X9 ?_
 refine Xe ?_
 refine Xe ?_
 refine Xu ?_
 refine Xa (Xi rfl) ?_
 refine Ye ?_
 refine Y5 (fun n t H' => ∃ (i : Nat) (E E2 : Option Addr), n = a.nodes.length - i ∧ i ≤ a.nodes.length ∧ H' = K ∧ K.get H.size = .own 0 [.int .i64 a.told, .bool a.over, .slice E a.nodes.length c, .int .u64 a.rest, .slice W a.items.length cW] ∧ K.get (H.size + 1) = .own 0 [.int .i64 b.told, .bool b.over, .slice E2 b.nodes.length c2, .int .u64 b.rest, .slice W2 b.items.length cW2] ∧ Sl (Y1 .i64) H (.slice E a.nodes.length c) a.nodes ∧ Sl (Y1 .i64) H (.slice E2 b.nodes.length c2) b.nodes ∧ a.nodes.take i = b.nodes.take i ∧ t 2 = .pointer (some ⟨H.size, 0, none⟩) ∧ t 3 = .pointer (some ⟨H.size + 1, 0, none⟩) ∧ t 5 = .int .i64 i) (a.nodes.length) (⟨0, _, _, rfl, Nat.zero_le _, hK.symm, kg, kg2, hv, hv2, by simp, rfl, rfl, rfl⟩) ?_
 rintro n t K2 ⟨i, E, E2, rfl, hi, hK2, kg, kg2, hv, hv2, hsame, e2, e3, e5⟩
 subst hK2
 refine Xe ?_
 refine Xe ?_
 refine Xu ?_
 refine Xa (Xb Xm) ?_
 refine Xa (Xf (off := 2) Xm Tryz.underlying33 Xm inf23.size (by decide) Xm) ?_
 refine Xa (Xk rfl Tryz.underlying23 rfl Xp) ?_
 refine Xa (Ys rfl Tryz.underlying23) ?_
 refine Xa (Za rfl rfl) ?_
 refine X5 rfl rfl ?_ ?_
 intro hc8
 have hil : i < a.nodes.length := by have := of_decide_eq_true hc8; omega
 obtain ⟨q, o, eE, hqE, hcell⟩ := (hv.mono leK.sees).int_at (i := (i : Int)) (by omega) (by omega)
 rw [Int.toNat_natCast, Zf hil] at hcell
 subst eE
 obtain ⟨q2, o2, eE2, hqE2, hcell2⟩ := (hv2.mono leK.sees).int_at (i := (i : Int)) (by omega) (by omega)
 rw [Int.toNat_natCast, Zf (show i < b.nodes.length by omega)] at hcell2
 subst eE2
 refine X9 ?_
 refine Xe ?_
 refine Ye ?_
 refine Xe ?_
 refine Yy (by kernel_rfl) (Y4 (B := [0, 1, 0, 7, 15, 0, 32, 0, 224, 480, 1023]) (π := [0, 1, 2, 3, 4, 5, 6, 7, 8, 9, 10]) (by kernel_rfl)) ?_
 refine Xd rfl rfl (Xf (off := 2) Xm Tryz.underlying33 Xm inf23.size (by decide) Xm) Xq ?_
 refine Xd rfl rfl (Xk rfl Tryz.underlying23 rfl Xp) Xq ?_
 refine Xd rfl rfl (Xb Xm) Xq ?_
 refine Xd rfl rfl (Xt rfl rfl Tryz.underlying23 inf3.size X6 X6) Xq ?_
 refine Xd rfl rfl (Xk rfl Tryz.underlying3 rfl Xp) Xq ?_
 refine Xd rfl rfl (Xf (off := 2) Xm Tryz.underlying33 Xm inf23.size (by decide) Xm) Xq ?_
 refine Xd rfl rfl (Xk rfl Tryz.underlying23 rfl Xp) Xq ?_
 refine Xd rfl rfl (Xb Xm) Xq ?_
 refine Xd rfl rfl (Xt rfl rfl Tryz.underlying23 inf3.size X6 X6) Xq ?_
 refine Xd rfl rfl (Xk rfl Tryz.underlying3 rfl Xp) Xq ?_
 refine Xd rfl rfl (Zw rfl rfl) Xq ?_
 refine X5 rfl rfl ?_ ?_
 intro hc9
 have hne : a.nodes[i] ≠ b.nodes[i]'(by omega) := of_decide_eq_true hc9
 refine Xe ?_
 refine Xu ?_
 refine Xa (Xn rfl) ?_
 refine X2 ?_
 exact ⟨.bool false, Xx (Xs rfl), false, rfl, ⟨fun h => (by cases h), fun h => absurd (by have h4 := h.2.2.2; simp only [h4]) hne⟩⟩
 intro hc9
 have heq : a.nodes[i] = b.nodes[i]'(by omega) := by have h := of_decide_eq_false hc9; exact Decidable.not_not.1 h
 refine X9 ?_
 refine Xu ?_
 refine Xa (Xb Xm) ?_
 refine Xa (Yn rfl rfl Y0) ?_
 refine Xa (Xi rfl) ?_
 exact ⟨a.nodes.length - (i + 1), by omega, i + 1, _, _, rfl, by omega, rfl, kg, kg2, hv, hv2, by rw [← Y9 hil, ← Y9 (show i < b.nodes.length by omega), hsame, heq], e2, e3, rfl⟩
 intro hc8
 have hil : i = a.nodes.length := by have := of_decide_eq_false hc8; omega
 rw [List.take_of_length_le (by omega), List.take_of_length_le (by omega)] at hsame
 refine Yx ?_
 refine Xe ?_
 refine Xu ?_
 refine Xa (Xn rfl) ?_
 refine X2 ?_
 exact ⟨.bool true, Xx (Xs rfl), true, rfl, ⟨fun _ => ⟨p1, p2, p3, hsame⟩, fun _ => rfl⟩⟩
theorem sameM_36 (a b : MarkT) (cs ds : List Value) (H : Hp) (ha : kMark.rep H a cs) (hb : kMark.rep H b ds) (hba : BigM a) (hbb : BigM b) :
  ACalls Tryz.prog 20 #[.agg cs.toArray, .agg ds.toArray] H (fun r H' => (∃ g, r = .bool g ∧ (g = true ↔ SameM a b)) ∧ H' = H) :=
 ACalls.pure (fun v ⟨g, h, _⟩ => by rw [h]; rfl) (sameM_raw a b cs ds H.ro (kMark.mono H.sees_ro ha) (kMark.mono H.sees_ro hb) hba hbb)





theorem few_cost (x : Link) : x.few.cost ≤ 1000000000 := by
 unfold Link.few
 by_cases h : 1000000000 < x.cost
 ·rw [if_pos h]; simp
 ·rw [if_neg h]; omega
theorem fewL_cost {xs : List Link} {x : Link} (h : x ∈ Vi xs) : x.cost ≤ 1000000000 := by
 unfold Vi at h
 obtain ⟨y, _, rfl⟩ := List.mem_map.1 h
 exact few_cost y
theorem tiny_few {f : Forest} {p : Parts} (hg : GoodP f.few p.few4) (hs : f.few.vars.length < 6) : Tiny f.few p.few4 := by
 have getn : ∀ v, ∀ x ∈ nd p.few4 v, v < f.few.vars.length := fun v x hx => by
  rcases Nat.lt_or_ge v f.few.vars.length with h | h
  ·exact h
  ·unfold nd at hx
   rw [List.getD_eq_getElem?_getD, List.getElem?_eq_none (by have := hg.n1; omega)] at hx; simp at hx
 have getl : ∀ v, ∀ x ∈ lk p.few4 v, v < f.few.vars.length := fun v x hx => by
  rcases Nat.lt_or_ge v f.few.vars.length with h | h
  ·exact h
  ·unfold lk at hx
   rw [List.getD_eq_getElem?_getD, List.getElem?_eq_none (by have := hg.n2; omega)] at hx; simp at hx
 refine ⟨by omega, fun v => ?_, fun v x hx => ?_, fun v x hx => ?_⟩
 ·unfold nd
  by_cases h : v < p.few4.nodes.length
  ·rw [Ze h]
   obtain ⟨l, _, e⟩ := List.mem_map.1 (show p.few4.nodes[v] ∈ (p.few.nodes.map (·.take 4)) from List.getElem_mem h)
   rw [← e, List.length_take]; omega
  ·rw [List.getD_eq_getElem?_getD, List.getElem?_eq_none (by omega)]; simp
 ·have hv := getn v x hx
  obtain ⟨k1, _⟩ := V6.1 (hg.ok v hv).1
  obtain ⟨a1, a2, a3, a4, a5, a6, a7⟩ := k1 x hx
  refine ⟨a5, ?_, by omega, a7⟩
  have h : v < p.few4.nodes.length := by rw [hg.n1]; exact hv
  unfold nd at hx
  rw [Ze h] at hx
  obtain ⟨l, hl, e⟩ := List.mem_map.1 (show p.few4.nodes[v] ∈ (p.few.nodes.map (·.take 4)) from List.getElem_mem h)
  rw [← e] at hx
  obtain ⟨l2, _, rfl⟩ := List.mem_map.1 hl
  exact fewL_cost (List.mem_of_mem_take hx)
 ·have hv := getl v x hx
  obtain ⟨k1, _⟩ := V6.1 (hg.ok v hv).2.1
  obtain ⟨a1, a2, a3, a4, a5, a6, a7⟩ := k1 x hx
  refine ⟨a5, ?_, by omega, a7⟩
  have h : v < p.few4.links.length := by rw [hg.n2]; exact hv
  unfold lk at hx
  rw [Ze h] at hx
  obtain ⟨l, hl, e⟩ := List.mem_map.1 (show p.few4.links[v] ∈ ((p.links.take 8).map Vi) from List.getElem_mem h)
  rw [← e] at hx
  exact fewL_cost hx
theorem Tiny.sub {f : Forest} {p q : Parts} (h : Tiny f p) (hs : Sub q p) : Tiny f q :=
 ⟨h.vars, fun v => Nat.le_trans (hs v).1.length_le (h.nodes v), fun v x hx => h.costN v x ((hs v).1.subset hx), fun v x hx => h.costL v x ((hs v).2.subset hx)⟩
theorem cheap_few {f : Forest} {p : Parts} (hg : GoodP f.few p.few4) : Cheap p.few4 := by
 have getn : ∀ v, ∀ x ∈ nd p.few4 v, v < f.few.vars.length := fun v x hx => by
  rcases Nat.lt_or_ge v f.few.vars.length with h | h
  ·exact h
  ·unfold nd at hx
   rw [List.getD_eq_getElem?_getD, List.getElem?_eq_none (by have := hg.n1; omega)] at hx; simp at hx
 have getl : ∀ v, ∀ x ∈ lk p.few4 v, v < f.few.vars.length := fun v x hx => by
  rcases Nat.lt_or_ge v f.few.vars.length with h | h
  ·exact h
  ·unfold lk at hx
   rw [List.getD_eq_getElem?_getD, List.getElem?_eq_none (by have := hg.n2; omega)] at hx; simp at hx
 refine ⟨fun v x hx => ?_, fun v x hx => ?_⟩
 ·have hv := getn v x hx
  obtain ⟨k1, _⟩ := V6.1 (hg.ok v hv).1
  obtain ⟨a1, a2, a3, a4, a5, a6, a7⟩ := k1 x hx
  refine ⟨a5, ?_, by omega⟩
  have h : v < p.few4.nodes.length := by rw [hg.n1]; exact hv
  unfold nd at hx
  rw [Ze h] at hx
  obtain ⟨l, hl, e⟩ := List.mem_map.1 (show p.few4.nodes[v] ∈ (p.few.nodes.map (·.take 4)) from List.getElem_mem h)
  rw [← e] at hx
  obtain ⟨l2, _, rfl⟩ := List.mem_map.1 hl
  exact fewL_cost (List.mem_of_mem_take hx)
 ·have hv := getl v x hx
  obtain ⟨k1, _⟩ := V6.1 (hg.ok v hv).2.1
  obtain ⟨a1, a2, a3, a4, a5, a6, a7⟩ := k1 x hx
  refine ⟨a5, ?_, by omega⟩
  have h : v < p.few4.links.length := by rw [hg.n2]; exact hv
  unfold lk at hx
  rw [Ze h] at hx
  obtain ⟨l, hl, e⟩ := List.mem_map.1 (show p.few4.links[v] ∈ ((p.links.take 8).map Vi) from List.getElem_mem h)
  rw [← e] at hx
  exact fewL_cost hx
theorem few_vars (f : Forest) : f.few.vars.length ≤ 8 := by
 show ((f.vars.take 8).map _).length ≤ 8
 rw [List.length_map, List.length_take]; omega
def Vq : List Int → List Int → Int
 | x :: xs, y :: ys => if x < y then -1 else if y < x then 1 else Vq xs ys
 | _, _ => 0
theorem cmpZ_self : ∀ xs : List Int, Vq xs xs = 0
 | [] => rfl
 | x :: xs => by rw [Vq, if_neg (by omega), if_neg (by omega)]; exact cmpZ_self xs
theorem cmpZ_end {xs ys : List Int} (h : xs = [] ∨ ys = []) : Vq xs ys = 0 := by
 rcases h with rfl | rfl
 ·cases ys <;> rfl
 ·cases xs <;> rfl
theorem Cmp_raw (xs ys : List Int) (v u : Value) (H : Hp) (hs : Sl (Y1 .i64) H v xs) (hu : Sl (Y1 .i64) H u ys) (hl : xs.length ≤ 1000000000) (hl2 : ys.length ≤ 1000000000) :
  ACalls Tryz.prog 61 #[v, u] H (fun r _ => r = .int .i64 (Vq xs ys)) := by
 obtain ⟨A, c, rfl⟩ := hs.shape
 obtain ⟨B, c2, rfl⟩ := hu.shape
 refine Xv Tryz.func61 rfl rfl rfl (by simp) ?_
 refine Xe ?_
 refine Xu ?_
 refine Xa (Xi rfl) ?_
 refine Xe ?_
 refine Xe ?_
 refine Xu ?_
 refine Xa (Xi rfl) ?_
 refine Ye ?_
 refine Y5 (fun n t H' => ∃ i : Nat, i ≤ xs.length ∧ i ≤ ys.length ∧ n = xs.length - i ∧ H' = H ∧ Vq xs ys = Vq (xs.drop i) (ys.drop i) ∧ t 0 = .slice A xs.length c ∧ t 1 = .slice B ys.length c2 ∧ t 5 = .int .i64 i) (xs.length) (⟨0, by omega, by omega, rfl, rfl, rfl, rfl, rfl, rfl⟩) ?_
 rintro n t H ⟨i, hi, hi2, rfl, rfl, hor, e0, e1, e5⟩
 refine Xe ?_
 refine Xe ?_
 refine Xu ?_
 refine Xa (Xb Xm) ?_
 refine Xa (X1 Xm) ?_
 refine Xa (Ys rfl Tryz.underlying23) ?_
 refine Xa (Za rfl rfl) ?_
 refine Xa (Xo rfl) ?_
 refine Ya rfl rfl rfl ?_ ?_
 intro hg1
 have hx : i < xs.length := by have := of_decide_eq_true hg1; omega
 refine Xj (Xh rfl rfl rfl hg1) (Xb Xm) ?_
 refine Xj (Xh rfl rfl rfl hg1) (X1 Xm) ?_
 refine Xj (Xh rfl rfl rfl hg1) (Ys rfl Tryz.underlying23) ?_
 refine Xj (Xh rfl rfl rfl hg1) (Za rfl rfl) ?_
 refine Xa (Xl (Yv hg1) rfl) ?_
 refine X5 rfl rfl ?_ ?_
 intro hc2
 have hy : i < ys.length := by have := of_decide_eq_true hc2; omega
 have d1 : xs.drop i = xs[i] :: xs.drop (i + 1) := List.drop_eq_getElem_cons hx
 have d2 : ys.drop i = ys[i] :: ys.drop (i + 1) := List.drop_eq_getElem_cons hy
 rw [d1, d2, Vq] at hor
 refine X9 ?_
 refine Xe ?_
 refine Ye ?_
 refine Xe ?_
 refine Xe ?_
 obtain ⟨b, o, eb, hb, hcell⟩ := hs.int_at (i := (i : Int)) (by omega) (by omega)
 obtain ⟨b2, o2, eb2, hb2, hcell2⟩ := hu.int_at (i := (i : Int)) (by omega) (by omega)
 subst eb eb2
 rw [Int.toNat_natCast, Zf hx] at hcell
 rw [Int.toNat_natCast, Zf hy] at hcell2
 refine Yy (by kernel_rfl) (Y4 (B := [0, 0, 3, 7, 0, 0, 48, 112, 255]) (π := [0, 1, 2, 3, 4, 5, 6, 7, 8]) (by kernel_rfl)) ?_
 refine Xd rfl rfl (X1 Xm) Xq ?_
 refine Xd rfl rfl (Xb Xm) Xq ?_
 refine Xd rfl rfl (Xt rfl rfl Tryz.underlying23 inf3.size X6 X6) Xq ?_
 refine Xd rfl rfl (Xk rfl Tryz.underlying3 rfl Xp) Xq ?_
 refine Xd rfl rfl (X1 Xm) Xq ?_
 refine Xd rfl rfl (Xb Xm) Xq ?_
 refine Xd rfl rfl (Xt rfl rfl Tryz.underlying23 inf3.size X6 X6) Xq ?_
 refine Xd rfl rfl (Xk rfl Tryz.underlying3 rfl Xp) Xq ?_
 refine Xd rfl rfl (Za rfl rfl) Xq ?_
 refine X5 rfl rfl ?_ ?_
 intro hc3
 have h1 : xs[i] < ys[i] := of_decide_eq_true hc3
 rw [if_pos h1] at hor
 refine Xe ?_
 refine Xu ?_
 refine Xa (Xi rfl) ?_
 refine X2 ?_
 exact ⟨.int .i64 (-1), Xx (Xs rfl), by rw [hor]⟩
 intro hc3
 have h1 : ¬ xs[i] < ys[i] := of_decide_eq_false hc3
 rw [if_neg h1] at hor
 refine X9 ?_
 refine Xe ?_
 refine Yy (by kernel_rfl) (Y4 (B := [0, 0, 3, 7, 0, 0, 48, 112, 255]) (π := [0, 1, 2, 3, 4, 5, 6, 7, 8]) (by kernel_rfl)) ?_
 refine Xd rfl rfl (X1 Xm) Xq ?_
 refine Xd rfl rfl (Xb Xm) Xq ?_
 refine Xd rfl rfl (Xt rfl rfl Tryz.underlying23 inf3.size X6 X6) Xq ?_
 refine Xd rfl rfl (Xk rfl Tryz.underlying3 rfl Xp) Xq ?_
 refine Xd rfl rfl (X1 Xm) Xq ?_
 refine Xd rfl rfl (Xb Xm) Xq ?_
 refine Xd rfl rfl (Xt rfl rfl Tryz.underlying23 inf3.size X6 X6) Xq ?_
 refine Xd rfl rfl (Xk rfl Tryz.underlying3 rfl Xp) Xq ?_
 refine Xd rfl rfl (Vu rfl rfl) Xq ?_
 refine X5 rfl rfl ?_ ?_
 intro hc4
 have h2 : ys[i] < xs[i] := of_decide_eq_true hc4
 rw [if_pos h2] at hor
 refine Xe ?_
 refine Xu ?_
 refine Xa (Xi rfl) ?_
 refine X2 ?_
 exact ⟨.int .i64 1, Xx (Xs rfl), by rw [hor]⟩
 intro hc4
 have h2 : ¬ ys[i] < xs[i] := of_decide_eq_false hc4
 rw [if_neg h2] at hor
 refine X9 ?_
 refine Xu ?_
 refine Xa (Xb Xm) ?_
 refine Xa (Yn rfl rfl Y0) ?_
 refine Xa (Xi rfl) ?_
 exact ⟨xs.length - (i + 1), by omega, i + 1, by omega, by omega, rfl, rfl, hor, e0, e1, rfl⟩
 intro hc2
 have hy : ¬ i < ys.length := by have := of_decide_eq_false hc2; omega
 refine Yx ?_
 refine Xe ?_
 refine Xu ?_
 refine Xa (Xi rfl) ?_
 refine X2 ?_
 have h0 : Vq (xs.drop i) (ys.drop i) = 0 := cmpZ_end (by
  first
   | exact .inl (List.drop_of_length_le (by omega))
   | exact .inr (List.drop_of_length_le (by omega)))
 exact ⟨.int .i64 0, Xx (Xs rfl), by rw [hor, h0]⟩
 intro hg1
 have hx : ¬ i < xs.length := by have := of_decide_eq_false hg1; omega
 refine Xc (Xg rfl rfl rfl hg1 rfl) ?_
 refine Xc (Xg rfl rfl rfl hg1 rfl) ?_
 refine Xc (Xg rfl rfl rfl hg1 rfl) ?_
 refine Xc (Xg rfl rfl rfl hg1 rfl) ?_
 refine Xa (Xl (Yv hg1) Xm) ?_
 refine Y2 rfl rfl ?_
 refine Yx ?_
 refine Xe ?_
 refine Xu ?_
 refine Xa (Xi rfl) ?_
 refine X2 ?_
 have h0 : Vq (xs.drop i) (ys.drop i) = 0 := cmpZ_end (by
  first
   | exact .inl (List.drop_of_length_le (by omega))
   | exact .inr (List.drop_of_length_le (by omega)))
 exact ⟨.int .i64 0, Xx (Xs rfl), by rw [hor, h0]⟩
theorem Cmp_ints (xs ys : List Int) (v u : Value) (H : Hp) (hs : Sl (Y1 .i64) H v xs) (hu : Sl (Y1 .i64) H u ys) (hl : xs.length ≤ 1000000000) (hl2 : ys.length ≤ 1000000000) :
  ACalls Tryz.prog 61 #[v, u] H (fun r H' => r = .int .i64 (Vq xs ys) ∧ H' = H) :=
 ACalls.pure (fun v h => by rw [h]; rfl) (Cmp_raw xs ys v u H.ro (hs.mono H.sees_ro) (hu.mono H.sees_ro) hl hl2)
theorem SameRow_raw (ns : List Int) (cost m : Int) (A B : Option Addr) (c c2 : Nat) (H : Hp) (hs : Sl (Y1 .i64) H (.slice A ns.length c) ns) (hu : Sl (Y1 .i64) H (.slice B ns.length c2) ns) (hl : ns.length ≤ 1000000000) :
  ACalls Tryz.prog 22 #[.agg #[.slice A ns.length c, .int .i64 cost, .int .u64 m], .agg #[.slice B ns.length c2, .int .i64 cost, .int .u64 m]] H (fun r _ => r = .bool true) := by
 refine Xv Tryz.func22 rfl rfl rfl (by simp) ?_
 refine Xe ?_
 refine Xu ?_
 refine Xz (Yw rfl) ?_
 refine Xz (Yw rfl) ?_
 refine Xa (Xn rfl) ?_
 refine Xe ?_
 refine Xe ?_
 refine Xu ?_
 refine Xa (Xf (off := 1) rfl Tryz.underlying46 rfl inf3.size (by decide) rfl) ?_
 refine Xa (Xk rfl Tryz.underlying3 rfl Xp) ?_
 refine Xa (Xf (off := 1) rfl Tryz.underlying46 rfl inf3.size (by decide) rfl) ?_
 refine Xa (Xk rfl Tryz.underlying3 rfl Xp) ?_
 refine Xa (Zw rfl rfl) ?_
 refine Xa (Xo rfl) ?_
 refine Ya rfl rfl rfl ?_ ?_
 intro hg1
 (have h := hg1; simp at h)
 intro hg1
 have hp1 := hg1; try simp only [Yt] at hp1
 refine Xj (Xh rfl rfl rfl hg1) (Xf (off := 2) rfl Tryz.underlying46 rfl inf30.size (by decide) rfl) ?_
 refine Xj (Xh rfl rfl rfl hg1) (Xk rfl Tryz.underlying30 rfl Xp) ?_
 refine Xj (Xh rfl rfl rfl hg1) (Xf (off := 2) rfl Tryz.underlying46 rfl inf30.size (by decide) rfl) ?_
 refine Xj (Xh rfl rfl rfl hg1) (Xk rfl Tryz.underlying30 rfl Xp) ?_
 refine Xj (Xh rfl rfl rfl hg1) (Zw rfl rfl) ?_
 refine Xa (Xl (Yv hg1) rfl) ?_
 refine Xa (Xo rfl) ?_
 refine Ya rfl rfl rfl ?_ ?_
 intro hg2
 (have h := hg2; simp at h)
 intro hg2
 have hp2 := hg2; try simp only [Yt] at hp2
 refine Xj (Xh rfl rfl rfl hg2) (Xf (off := 0) rfl Tryz.underlying46 rfl inf23.size (by decide) rfl) ?_
 refine Xj (Xh rfl rfl rfl hg2) (Xk rfl Tryz.underlying23 rfl Xp) ?_
 refine Xj (Xh rfl rfl rfl hg2) (Ys rfl Tryz.underlying23) ?_
 refine Xj (Xh rfl rfl rfl hg2) (Xf (off := 0) rfl Tryz.underlying46 rfl inf23.size (by decide) rfl) ?_
 refine Xj (Xh rfl rfl rfl hg2) (Xk rfl Tryz.underlying23 rfl Xp) ?_
 refine Xj (Xh rfl rfl rfl hg2) (Ys rfl Tryz.underlying23) ?_
 refine Xj (Xh rfl rfl rfl hg2) (Zw rfl rfl) ?_
 refine Xa (Xl (Yv hg2) rfl) ?_
 refine X5 rfl rfl ?_ ?_
 intro hc3
 (have h := hc3; simp at h)
 intro hc3
 (try simp only [Yt] at hc3)
 refine X9 ?_
 refine Xe ?_
 refine Xu ?_
 refine Xa (Xf (off := 0) rfl Tryz.underlying46 rfl inf23.size (by decide) rfl) ?_
 refine Xa (Xk rfl Tryz.underlying23 rfl Xp) ?_
 refine Xa (Xf (off := 0) rfl Tryz.underlying46 rfl inf23.size (by decide) rfl) ?_
 refine Xa (Xk rfl Tryz.underlying23 rfl Xp) ?_
 refine Xw (Xy (Cmp_ints ns ns _ _ _ (hs.mono Zp) (hu.mono Zp) hl hl) rfl Tryz.func61 rfl rfl rfl ?_)
 rintro v5 H5 ⟨rfl, rfl⟩; rw [cmpZ_self]
 refine Xa (Zx rfl rfl) ?_
 refine Xa (Xn rfl) ?_
 refine X2 ?_
 exact ⟨.bool true, Xx (Xs rfl), rfl⟩
theorem SameRow_true (ns : List Int) (cost m : Int) (A B : Option Addr) (c c2 : Nat) (H : Hp) (hs : Sl (Y1 .i64) H (.slice A ns.length c) ns) (hu : Sl (Y1 .i64) H (.slice B ns.length c2) ns) (hl : ns.length ≤ 1000000000) :
  ACalls Tryz.prog 22 #[.agg #[.slice A ns.length c, .int .i64 cost, .int .u64 m], .agg #[.slice B ns.length c2, .int .i64 cost, .int .u64 m]] H (fun r H' => r = .bool true ∧ H' = H) :=
 ACalls.pure (fun v h => by rw [h]; rfl) (SameRow_raw ns cost m A B c c2 H.ro (hs.mono H.sees_ro) (hu.mono H.sees_ro) hl)
theorem OfRow_ref (A : Option Addr) (n c : Nat) (cost m : Int) (H : Hp) :
  ACalls Tryz.prog 23 #[.agg #[.slice A n c, .int .i64 cost, .int .u64 m]] H (fun r H' => r = .agg #[.slice A n c, .int .i64 cost, .int .u64 m] ∧ H.le H') := by
 refine Xv Tryz.func23 rfl rfl rfl (by simp) ?_
 refine Xe ?_
 refine Xu ?_
 refine Xz (Yw rfl) ?_
 refine Xz (Yz (l := [.slice none 0 0, .int .i64 0, .int .u64 0]) inf46.zero rfl (by decide)) ?_
 refine Xe ?_
 refine Xu ?_
 refine Xa (Xf (off := 0) rfl Tryz.underlying54 rfl inf23.size (by decide) rfl) ?_
 refine Xa (Xk rfl Tryz.underlying23 rfl Xp) ?_
 refine Xa (Xf (off := 1) rfl Tryz.underlying54 rfl inf3.size (by decide) rfl) ?_
 refine Xa (Xk rfl Tryz.underlying3 rfl Xp) ?_
 refine Xa (Xf (off := 2) rfl Tryz.underlying54 rfl inf30.size (by decide) rfl) ?_
 refine Xa (Xk rfl Tryz.underlying30 rfl Xp) ?_
 refine Xa (Y6 (pl := [(0, 1), (1, 1), (2, 1)]) (r := [.slice _ _ _, .int .i64 _, .int .u64 _]) Tryz.underlying46 inf46.zero (by decide) rfl rfl) ?_
 refine Xw (Yf (vs := [.slice _ _ _, .int .i64 _, .int .u64 _]) rfl rfl inf46.size Yd Yg rfl rfl ?_)
 refine X2 ?_
 ·exact ⟨_, Xx (Yq Xm (Yo (cs := [_, _, _]) Tryz.underlying46 rfl inf46.size X8)), rfl, Hp.le_put_new (Hp.le_push' (H.le_push _) _) (by first | (simp; done) | (simp; omega) | omega) _⟩
theorem rows_eq {T : TreeT} {r s : RowT} (h : r.nodes = s.nodes) (hr : Vm T r.nodes = some r) (hs : Vm T s.nodes = some s) : r = s := by
 rw [h, hs] at hr
 exact (Option.some.inj hr).symm
def extW (T : TreeT) : Nat → List Int → Nat → List (List Int × Nat)
 | 0, ns, w => [(ns, w)]
 | d + 1, ns, w => (T.group ns.length (Yp T ns ns.length)).flatMap fun l => extW T d (ns ++ [l.b]) (w * l.n.toNat)
theorem extW_fst {T : TreeT} : ∀ (d : Nat) (ns : List Int) (w : Nat), (extW T d ns w).map Prod.fst = Vc T d ns
 | 0, ns, w => rfl
 | d + 1, ns, w => by
  rw [extW, Vc]
  generalize T.group ns.length (Yp T ns ns.length) = g
  induction g with
  | nil => rfl
  | cons l g ih => rw [List.flatMap_cons, List.flatMap_cons, List.map_append, extW_fst d, ih]
theorem rowAcc_left {T : TreeT} (hT : GoodT T) {q ms : List Int} : ∀ i, i ≤ q.length → i ≤ T.vars.length → Z4 T (q ++ ms) i = Z4 T q i
 | 0, _, _ => rfl
 | i + 1, h, h2 => by
  rw [Z4, Z4, rowAcc_left hT i (by omega) (by omega), Z9 hT (ns := q ++ ms) (ms := q) (by omega) (fun j hj => Uw (by omega)), Uw (by omega)]
theorem extW_row {T : TreeT} (hT : GoodT T) : ∀ (d : Nat) (q : List Int) (w : Nat) (c : Int), Z4 T q q.length = some (c, capI w) → q.length + d = T.vars.length → ∀ x ∈ extW T d q w, ∃ c', Z4 T x.1 T.vars.length = some (c', capI x.2)
 | 0, q, w, c, h, h2, x, hx => by
  rw [extW, List.mem_singleton] at hx
  subst hx
  exact ⟨c, by rw [← h2]; exact h⟩
 | d + 1, q, w, c, h, h2, x, hx => by
  rw [extW] at hx
  obtain ⟨l, hl, hx⟩ := List.mem_flatMap.1 hx
  have hn := (hT.group_mem hl).2.2
  refine extW_row hT d (q ++ [l.b]) (w * l.n.toNat) (c + l.cost) ?_ (by simp; omega) x hx
  rw [List.length_append, List.length_singleton, Z4, rowAcc_left hT _ (Nat.le_refl _) (by omega), h]
  have hab : Yp T (q ++ [l.b]) q.length = Yp T q q.length := Z9 hT (by omega) fun j hj => Uw hj
  rw [hab, Uq, (findB_iff (hT.sort _ _)).2 ⟨hl, rfl⟩]
  simp only [Option.bind_some, Option.map_some, Option.some.injEq, Prod.mk.injEq, true_and]
  rw [← timesI_cap]
  conv => lhs; rw [show l.n = ((l.n.toNat : Nat) : Int) by omega]
  rw [timesI_comm, timesI_nat, timesI_comm]
theorem extW_rows {T : TreeT} (hT : GoodT T) {rows : List RowT} (hrm : rows.map RowT.nodes = Vc T T.vars.length []) (hrr : ∀ r ∈ rows, Vm T r.nodes = some r) : (rows.map fun r => (r.nodes, r.n)) = (extW T T.vars.length [] 1).map fun x => (x.1, capI x.2) := by
 have hf := extW_fst (T := T) T.vars.length [] 1
 rw [← hrm] at hf
 have hlen : rows.length = (extW T T.vars.length [] 1).length := by
  have := congrArg List.length hf
  rw [List.length_map, List.length_map] at this
  exact this.symm
 refine List.ext_getElem (by rw [List.length_map, List.length_map, hlen]) fun i h1 h2 => ?_
 rw [List.length_map] at h1 h2
 rw [List.getElem_map, List.getElem_map]
 have e1 : (extW T T.vars.length [] 1)[i].1 = rows[i].nodes := by
  have h3 : ((extW T T.vars.length [] 1).map Prod.fst)[i]? = (rows.map RowT.nodes)[i]? := by rw [hf]
  rw [List.getElem?_map, List.getElem?_map, List.getElem?_eq_getElem h1, List.getElem?_eq_getElem h2] at h3
  exact Option.some.inj h3
 obtain ⟨c, hc⟩ := extW_row hT T.vars.length [] 1 0 (by rw [← cap_one]; rfl) (by simp) _ (List.getElem_mem h2)
 have hr := hrr _ (List.getElem_mem h1)
 rw [e1] at hc
 unfold Vm at hr
 split at hr
 ·rw [hc] at hr
  have hr := Option.some.inj hr
  rw [e1, ← hr]
 ·cases hr
def atR : List RowT → Int → Option (Nat × Int)
 | [], _ => none
 | r :: rs, k => if k < r.n then some (0, k) else (atR rs (k - r.n)).map fun p => (p.1 + 1, p.2)
theorem cmpZ_app : ∀ (p xs ys : List Int), Vq (p ++ xs) (p ++ ys) = Vq xs ys
 | [], xs, ys => rfl
 | a :: p, xs, ys => by
  show Vq (a :: (p ++ xs)) (a :: (p ++ ys)) = _
  rw [Vq, if_neg (by omega), if_neg (by omega), cmpZ_app p]
theorem cmpZ_anti : ∀ (xs ys : List Int), Vq ys xs = - Vq xs ys
 | [], [] => rfl
 | [], y :: ys => rfl
 | x :: xs, [] => rfl
 | x :: xs, y :: ys => by
  rw [Vq, Vq, cmpZ_anti xs ys]
  by_cases h1 : x < y
  ·rw [if_neg (by omega), if_pos h1, if_pos h1]; rfl
  ·by_cases h2 : y < x
   ·rw [if_pos h2, if_neg h1, if_pos h2]
   ·rw [if_neg h2, if_neg h1, if_neg h1, if_neg h2]
theorem ext_cmp {T : TreeT} {d : Nat} {q r ns : List Int} {b : Int} (h : r ∈ Vc T d (q ++ [b])) (hq : ns.take q.length = q) (hl : q.length < ns.length) : (b < ns.getD q.length 0 → Vq r ns < 0) ∧ (ns.getD q.length 0 < b → ¬ Vq r ns < 0) := by
 obtain ⟨h1, h2⟩ := mem_ext d _ r h
 have e1 : r = q ++ (b :: r.drop (q.length + 1)) := by
  conv => lhs; rw [← List.take_append_drop (q.length + 1) r]
  rw [List.length_append, List.length_singleton] at h2
  rw [h2, List.append_assoc]; rfl
 have e2 : ns = q ++ (ns.getD q.length 0 :: ns.drop (q.length + 1)) := by
  conv => lhs; rw [← List.take_append_drop q.length ns, hq]
  rw [List.drop_eq_getElem_cons hl, Zf hl]
 generalize r.drop (q.length + 1) = r' at e1
 generalize ns.drop (q.length + 1) = n' at e2
 generalize ns.getD q.length 0 = c at e2 ⊢
 rw [e1, e2, cmpZ_app, Vq]
 refine ⟨fun h => by rw [if_pos h]; decide, fun h => by rw [if_neg (by omega), if_pos h]; decide⟩
theorem ext_sorted {T : TreeT} (hT : GoodT T) : ∀ (d : Nat) (q : List Int), (Vc T d q).Pairwise fun a b => Vq a b < 0
 | 0, q => List.pairwise_singleton _ _
 | d + 1, q => by
  rw [Vc]
  have hs := hT.sort q.length (Yp T q q.length)
  generalize T.group q.length (Yp T q q.length) = g at hs
  induction g with
  | nil => exact List.Pairwise.nil
  | cons l g ih =>
   rw [List.pairwise_cons] at hs
   rw [List.flatMap_cons, List.pairwise_append]
   refine ⟨ext_sorted hT d _, ih hs.2, fun a ha b hb => ?_⟩
   obtain ⟨m, hm, hb⟩ := List.mem_flatMap.1 hb
   obtain ⟨b1, b2⟩ := mem_ext d _ b hb
   rw [List.length_append, List.length_singleton] at b1 b2
   have hbq : b.take q.length = q := by
    have h4 := congrArg (List.take q.length) b2
    rw [List.take_take, Nat.min_eq_left (by omega), List.take_append_of_le_length (Nat.le_refl _), List.take_length] at h4
    exact h4
   refine (ext_cmp ha hbq (by omega)).1 ?_
   have : b.getD q.length 0 = m.b := by
    have h5 : (b.take (q.length + 1)).getD q.length 0 = m.b := by rw [b2, Uq]
    rwa [Vs (by omega)] at h5
   rw [this]
   exact hs.1 m hm
theorem rows_sorted {T : TreeT} (hT : GoodT T) {rows : List RowT} (hrm : rows.map RowT.nodes = Vc T T.vars.length []) : rows.Pairwise (fun a b => Vq a.nodes b.nodes < 0) := by
 have h := ext_sorted hT T.vars.length []
 rw [← hrm, List.pairwise_map] at h
 exact h
theorem wrap_u64a {x : Int} (h : 0 ≤ x) (h2 : x < 18446744073709551616) : IntKind.u64.wrap x = x := by
 simp [IntKind.wrap, IntKind.bits, IntKind.signed]; omega
def prodT (ss : List Int) : Int := ss.foldl Zi 1

theorem Vb {P : Program} {t : Fr} {H : Hp} {d : Option Tmp} {ty : TypeId} {pos : String} {after : Array Edge} {guard : Option (Nat × Bool)} {x : Operand} {src dst : TypeId} {k k' : IntKind} {a v : Int} (hv : k'.wrap a = v) (hx : t.eval x = .int k a) (hs : (P.underlying src).isSome = true) (hd : P.underlying dst = some (.int k')) : AVal P ⟨d, .convert src dst x, ty, pos, after, guard⟩ t [] H (.int k' v) := by
 subst hv; exact av_conv hx hs hd
theorem av_addn_is {P : Program} {t : Fr} {H : Hp} {d : Option Tmp} {ty : TypeId} {pos : String} {after : Array Edge} {guard : Option (Nat × Bool)} {x y : Operand} {xt yt : TypeId} {k : IntKind} {a b v : Int} (hv : k.wrap (a + b) = v) (hx : t.eval x = .int k a) (hy : t.eval y = .int k b) : AVal P ⟨d, .binOp .add xt x y yt, ty, pos, after, guard⟩ t [] H (.int k v) := by
 subst hv; exact av_add hx hy

def FindP (K G H : Hp) (fb cb tb : Nat) (ns : List Int) (w wk : Int) : Prop := ∃ B c, K.le G ∧ K.size ≤ fb ∧ fb < G.size ∧ G.get fb = .own 0 [.pointer (some ⟨cb, 0, none⟩), .pointer (some ⟨tb, 0, none⟩), .slice B ns.length c, .int .u64 w, .int .i64 wk] ∧ OwnP (Y1 .i64) G H (.slice B ns.length c) ns
theorem FindP.later {K G H H' : Hp} {fb cb tb : Nat} {ns : List Int} {w wk : Int} (h : FindP K G H fb cb tb ns w wk) (hle : H.le H') : ∃ G', G.le G' ∧ FindP K G' H' fb cb tb ns w wk := by
 obtain ⟨B, c, h1, h2, h3, h4, h5⟩ := h
 obtain ⟨G', l1, o1⟩ := h5.later hle
 exact ⟨G', l1, B, c, Hp.le_trans h1 l1, h2, Nat.lt_of_lt_of_le h3 l1.1, Xr l1 h3 (by intro e; cases e) h4, o1⟩
theorem FindP.le {K G H : Hp} {fb cb tb : Nat} {ns : List Int} {w wk : Int} (h : FindP K G H fb cb tb ns w wk) : K.le H := by
 obtain ⟨B, c, h1, h2, h3, h4, h5⟩ := h
 exact Hp.le_trans h1 h5.le

structure GoodD (ds ss : List Int) : Prop where
 len : ds.length = ss.length
 few : prodT ss ≠ 4611686018427387904
 lt : ∀ i (h : i < ds.length) (h' : i < ss.length), ds[i] < ss[i]

theorem own_cells {G H : Hp} {v : Value} {xs : List Int} (h : OwnP (Y1 .u8) G H v xs) (hne : 0 < xs.length) : ∃ b c, v = .slice (some ⟨b, 0, none⟩) xs.length c ∧ b < H.size ∧ Cells H b 0 (xs.map (Value.int .u8)) := by
 have hs := h.sl
 rcases h with ⟨_, h2, _⟩ | ⟨b, cs, c, rfl, hb, hd, hH, hc, he⟩
 ·subst h2; simp at hne
 ·refine ⟨b, c, rfl, by rw [hH]; simpa using hb, fun j v hj => ?_⟩
  rw [List.getElem?_map] at hj
  cases hxj : xs[j]? with
  | none => rw [hxj] at hj; cases hj
  | some a =>
   rw [hxj] at hj
   injection hj with hj
   subst hj
   have hjl := (List.getElem?_eq_some_iff.1 hxj).1
   obtain ⟨b', o', e', hb', hc'⟩ := hs.int_at (i := (j : Int)) (by omega) (by omega)
   simp only [Option.some.injEq, Addr.mk.injEq, and_true] at e'
   obtain ⟨rfl, rfl⟩ := e'
   rw [Int.toNat_natCast, Nat.mul_one, List.getD_eq_getElem?_getD, hxj] at hc'
   exact hc'
theorem put_small {G H : Hp} {v : Value} {xs : List Int} (h : OwnP (Y1 .u8) G H v xs) (u : Int) (h0 : 0 ≤ u) (h1 : u < 128) (hl : xs.length ≤ 1000000) :
  ACalls Tryz.prog 127 #[v, .int .u64 u] H (fun r H' => ∃ G', G.le G' ∧ OwnP (Y1 .u8) G' H' r (xs ++ [u])) := by
 obtain ⟨A, c, rfl⟩ := h.shape
 have hw : IntKind.u8.wrap u = u := by simp [IntKind.wrap, IntKind.bits, IntKind.signed]; omega
 refine Xv Tryz.func127 rfl rfl rfl (by simp) ?_
 refine Xe ?_
 refine Xu ?_
 refine Xa (Yc rfl) ?_
 refine Xe ?_
 refine Ye ?_
 refine Y5 (fun n t H' => n = 0 ∧ H' = H ∧ t 0 = .slice A xs.length c ∧ t 1 = .int .u64 u) (0) (⟨rfl, rfl, rfl, rfl⟩) ?_
 rintro n t H2 ⟨rfl, rfl, e0, e1⟩
 refine Xe ?_
 refine Xe ?_
 refine Xu ?_
 refine Xa (Xb Xm) ?_
 refine Xa (av_ge rfl rfl) ?_
 refine X5 rfl rfl ?_ ?_
 intro hc1
 (have h := of_decide_eq_true hc1; exfalso; omega)
 intro hc1
 (try simp only [Yt] at hc1)
 refine Yx ?_
 refine Xe ?_
 refine Xu ?_
 refine Xa (X1 Xm) ?_
 refine Xa (Xb Xm) ?_
 refine Xa (Vb hw rfl (by rw [Tryz.underlying30]; rfl) Tryz.underlying5) ?_
 first | refine Xz (Yh (r := [.int .u8 _]) Tryz.underlying173 inf5.size inf5.zero rfl (by decide) (by decide) (by decide) rfl) ?_
 refine Xw (OwnP.append (ys := [u]) (h.push _) Tryz.underlying173 inf5 rfl rfl rfl (Zo (k := Y1 .u8) rfl rfl h.size rfl) (by simp only [List.length_singleton]; omega) (by simp only [List.length_singleton]; omega) ?_)
 rintro v5 G5 H5 hle5 hown5
 refine Xa (Vf rfl) ?_
 refine X2 ?_
 exact ⟨_, Xx (Xs rfl), G5, Hp.le_trans (G.le_push _) hle5, hown5⟩
theorem Put_small (xs : List Int) (v : Value) (H : Hp) (hs : Sl (Y1 .u64) H v xs) (hx : ∀ x ∈ xs, 0 ≤ x ∧ x < 128) (hl : xs.length ≤ 1000000) (hne : 0 < xs.length) :
  ACalls Tryz.prog 104 #[v] H (fun r H' => r = .string (Zv xs) ∧ H.le H') := by
 obtain ⟨A, c, rfl⟩ := hs.shape
 refine Xv Tryz.func104 rfl rfl rfl (by simp) ?_
 refine Xe ?_
 refine Xu ?_
 refine Xa (Zd rfl) ?_
 refine Xe ?_
 refine Xu ?_
 refine Xa (Yc rfl) ?_
 refine Xe ?_
 refine Xe ?_
 refine Xu ?_
 refine Xa (X1 rfl) ?_
 refine Xa (Ys rfl Tryz.underlying109) ?_
 refine Xa (Xb rfl) ?_
 refine Ye ?_
 refine Y5 (fun n t H' => ∃ (i : Nat) (G : Hp) (B : Option Addr) (cB : Nat) (D : Option Addr), n = xs.length - i ∧ i ≤ xs.length ∧ H.le G ∧ OwnP (Y1 .u8) G H' (.slice B i cB) (xs.take i) ∧ Sl (Y1 .u64) H (.slice D xs.length c) xs ∧ t 3 = .slice B i cB ∧ t 6 = .slice D xs.length c ∧ t 7 = .int .i64 xs.length ∧ t 8 = .int .i64 i) (xs.length) (⟨0, H, none, 0, _, rfl, Nat.zero_le _, Hp.le_refl _, OwnP.nil _ _, hs, rfl, rfl, rfl, rfl⟩) ?_
 rintro n t H1 ⟨i, G, B, cB, D, rfl, hi, leG, hown, hs, e3, e6, e7, e8⟩
 refine Xe ?_
 refine Xu ?_
 refine Xa (Za Xm Xm) ?_
 refine Xe ?_
 refine X5 rfl rfl ?_ ?_
 intro hc1
 have hil : i < xs.length := by have := of_decide_eq_true hc1; omega
 obtain ⟨b, o, eD, hb, hcell⟩ := (hs.mono (Hp.le_trans leG hown.le).sees).int_at (i := (i : Int)) (by omega) (by omega)
 rw [Int.toNat_natCast, Zf hil] at hcell
 subst eD
 have hlen : (xs.take i).length = i := by rw [List.length_take]; omega
 obtain ⟨hx0, hx1⟩ := hx _ (List.getElem_mem hil)
 refine X9 ?_
 refine Xe ?_
 refine Ye ?_
 refine Xe ?_
 refine Xu ?_
 refine Xa (Xt Xm Xm Tryz.underlying109 inf30.size X6 X6) ?_
 refine Xa (Xk rfl Tryz.underlying30 rfl Xp) ?_
 refine Xa (Xi rfl) ?_
 refine Xu ?_
 refine Xa (X1 Xm) ?_
 refine Xa (Xb rfl) ?_
 refine Xw (Xy (put_small hown xs[i] hx0 hx1 (by omega)) rfl Tryz.func127 rfl rfl rfl ?_)
 rintro v14 H2 ⟨G2, le2, hown2⟩; rw [Y9 hil] at hown2; obtain ⟨B2, cB2, rfl⟩ := hown2.shape; have hlen2 : (xs.take (i + 1)).length = i + 1 := (by rw [List.length_take]; omega); rw [hlen2] at hown2 ⊢
 refine Xa (Yc rfl) ?_
 refine Xu ?_
 refine Xa (Yn Xm Xm Y0) ?_
 refine Xa (Xb rfl) ?_
 exact ⟨xs.length - (i + 1), by omega, i + 1, G2, B2, cB2, _, rfl, by omega, Hp.le_trans leG le2, hown2, hs, rfl, e6, e7, rfl⟩
 intro hc1
 have hil : i = xs.length := by have := of_decide_eq_false hc1; omega
 rw [hil, List.take_length] at hown
 obtain ⟨bO, cO, eO, hbO, hcO⟩ := own_cells hown hne
 rw [hil] at e3
 injection eO with eO1 eO2 eO3
 subst eO1 eO3
 refine Yx ?_
 refine Xe ?_
 refine Xu ?_
 refine Xa (X1 Xm) ?_
 refine Xa (av_bytes rfl Tryz.underlying173 Tryz.underlying5 Tryz.underlying9 hcO rfl hne) ?_
 refine Xa (Zd rfl) ?_
 refine X2 ?_
 exact ⟨_, Xx (Xs rfl), rfl, Hp.le_trans leG hown.le⟩
def Us : MarkT := ⟨0, false, [], 0, []⟩
theorem Ul (H : Hp) : kMark.rep H Us [.int .i64 0, .bool false, .slice none 0 0, .int .u64 0, .slice none 0 0] := ⟨_, _, rfl, Sl.nil _ _, Sl.nil _ _⟩
theorem start_good : Vt Us := ⟨rfl, by decide, by decide, by decide, fun n h => (by cases h), .inr ⟨rfl, rfl⟩⟩
theorem Um : BigM Us := ⟨by decide, by decide, fun x h => (by cases h)⟩
theorem Start_36 (H : Hp) : ACalls Tryz.prog 41 #[] H (fun r H' => r = .agg #[.int .i64 0, .bool false, .slice none 0 0, .int .u64 0, .slice none 0 0] ∧ H.le H') := by
 refine Xv Tryz.func41 rfl rfl rfl (by simp) ?_
 refine Xe ?_
 refine Xu ?_
 refine Xz (Yz (l := [.int .i64 0, .bool false, .slice none 0 0, .int .u64 0, .slice none 0 0]) inf33.zero rfl (by decide)) ?_
 refine Xe ?_
 refine Xu ?_
 refine Xa (Y6 (pl := [(0, 1), (1, 1), (2, 1), (3, 1), (4, 1)]) (r := [.int .i64 _, .bool _, .slice _ _ _, .int .u64 _, .slice _ _ _]) Tryz.underlying33 inf33.zero (by decide) rfl rfl) ?_
 refine Xw (Yf (vs := [.int .i64 _, .bool _, .slice _ _ _, .int .u64 _, .slice _ _ _]) rfl rfl inf33.size Yd Yg rfl rfl ?_)
 refine X2 ?_
 exact ⟨_, Xx (Yq Xm (Yo (cs := [_, _, _, _, _]) Tryz.underlying33 rfl inf33.size X8)), rfl, Hp.le_put_new (H.le_push _) (Nat.le_refl _) _⟩
theorem put_start (H : Hp) : ACalls Tryz.prog 76 #[.agg #[.int .i64 0, .bool false, .slice none 0 0, .int .u64 0, .slice none 0 0]] H (fun r H' => r = .string (Zv [1, 0, 0, 0, 0]) ∧ H.le H') := by
 have hw : IntKind.u64.wrap 0 = 0 := by decide
 obtain ⟨K, hK⟩ : ∃ K, K = H.push (.own 0 [.int .i64 0, .bool false, .slice none 0 0, .int .u64 0, .slice none 0 0]) := ⟨_, rfl⟩
 have kg : K.get H.size = .own 0 [.int .i64 0, .bool false, .slice none 0 0, .int .u64 0, .slice none 0 0] := by rw [hK]; exact Hp.push_new _ _
 have kz : K.size = H.size + 1 := by rw [hK]; simp
 have leK : H.le K := by rw [hK]; exact H.le_push _
 refine Xv Tryz.func76 rfl rfl rfl (by simp) ?_
 refine Xe ?_
 refine Xu ?_
 refine Xz (Yw rfl) ?_
 refine Xa (Zd rfl) ?_
 refine Xe ?_
 refine Xu ?_
 refine Xa (Xi rfl) ?_
 refine Xe ?_
 refine Xe ?_
 refine Xu ?_
 refine Xa (Xf (off := 1) rfl Tryz.underlying33 rfl inf4.size (by decide) rfl) ?_
 refine Xa (Xk rfl Tryz.underlying4 rfl Xp) ?_
 refine X5 rfl rfl ?_ ?_
 intro hc1
 exact absurd hc1 (by decide)
 intro hc1
 (try simp only [Yt] at hc1)
 refine X9 ?_
 refine Xe ?_
 refine Xu ?_
 refine Xa (Xf (off := 0) rfl Tryz.underlying33 rfl inf3.size (by decide) rfl) ?_
 refine Xa (Xk rfl Tryz.underlying3 rfl Xp) ?_
 refine Xa (Vb hw rfl (by rw [Tryz.underlying3]; rfl) Tryz.underlying30) ?_
 refine Xa (Xb rfl) ?_
 refine Xa (Xf (off := 2) rfl Tryz.underlying33 rfl inf23.size (by decide) rfl) ?_
 refine Xa (Xk rfl Tryz.underlying23 rfl Xp) ?_
 refine Xa (Ys rfl Tryz.underlying23) ?_
 refine Xa (Vb hw rfl (by rw [Tryz.underlying3]; rfl) Tryz.underlying30) ?_
 first | refine Xz (Yh (r := [.int .u64 _, .int .u64 _, .int .u64 _, .int .u64 _]) Tryz.underlying109 inf30.size inf30.zero rfl (by decide) (by decide) (by decide) rfl) ?_
 refine Xa (Yc rfl) ?_
 refine Xe ?_
 refine Xe ?_
 refine Xu ?_
 refine Xa (Xf (off := 2) rfl Tryz.underlying33 rfl inf23.size (by decide) rfl) ?_
 refine Xa (Xk rfl Tryz.underlying23 rfl Xp) ?_
 refine Xa (Ys rfl Tryz.underlying23) ?_
 refine Xa (Xb rfl) ?_
 refine Ye ?_
 refine Y5 (fun n t H' => n = 0 ∧ H' = K.push (.own 1 [.int .u64 1, .int .u64 0, .int .u64 0, .int .u64 0]) ∧ t 1 = .pointer (some ⟨H.size, 0, none⟩) ∧ t 4 = .slice (some ⟨K.size, 0, none⟩) 4 4 ∧ t 20 = .int .i64 0 ∧ t 21 = .int .i64 0) (0) (⟨rfl, by rw [hK], rfl, by rw [kz]; rfl, rfl, rfl⟩) ?_
 rintro n t H2 ⟨rfl, hH2, e1, e4, e20, e21⟩
 have hz2 : H2.size = K.size + 1 := by rw [hH2]; simp
 have h2g : H2.get H.size = .own 0 [.int .i64 0, .bool false, .slice none 0 0, .int .u64 0, .slice none 0 0] := by rw [hH2]; exact (Hp.push_old _ _ (by omega)).trans kg
 have hown : OwnP (Y1 .u64) (K.push .dead) H2 (.slice (some ⟨K.size, 0, none⟩) 4 4) [1, 0, 0, 0] := by
  rw [hH2]
  refine .inr ⟨K.size, [.int .u64 1, .int .u64 0, .int .u64 0, .int .u64 0], 4, rfl, by simp, Hp.push_new _ _, ?_, .inr (by decide), ?_⟩
  ·rw [Hp.push_put]; rfl
  ·exact Els.cons (k := Y1 .u64) (c := [.int .u64 1]) rfl (Els.cons (k := Y1 .u64) (c := [.int .u64 0]) rfl (Els.cons (k := Y1 .u64) (c := [.int .u64 0]) rfl (Els.cons (k := Y1 .u64) (c := [.int .u64 0]) rfl (Els.nil _ _ []))))
 refine Xe ?_
 refine Xu ?_
 refine Xa (Za Xm Xm) ?_
 refine Xe ?_
 refine X5 rfl rfl ?_ ?_
 intro hc2
 exact absurd hc2 (by decide)
 intro hc2
 (try simp only [Yt] at hc2)
 refine Yx ?_
 refine Xe ?_
 refine Xu ?_
 refine Xa (X1 Xm) ?_
 refine Xa (Xf (off := 3) Xm Tryz.underlying33 Xm inf30.size (by decide) Xm) ?_
 refine Xa (Xk rfl Tryz.underlying30 rfl Xp) ?_
 first | refine Xz (Yh (r := [.int .u64 _]) Tryz.underlying109 inf30.size inf30.zero rfl (by decide) (by decide) (by decide) rfl) ?_
 refine Xw (OwnP.append (ys := [0]) (hown.push _) Tryz.underlying109 inf30 rfl rfl rfl (Zo (k := Y1 .u64) rfl rfl hown.size rfl) (by decide) (by decide) ?_)
 rintro v5 G5 H5 hle5 hown5
 have le25 : K.le H5 := Hp.le_trans (Hp.le_trans (Hp.le_trans (K.le_push _) ((K.push .dead).le_push _)) hle5) hown5.le
 refine Xw (Xy (Put_small [1, 0, 0, 0, 0] _ _ hown5.sl (by decide) (by decide) (by decide)) rfl Tryz.func104 rfl rfl rfl ?_)
 rintro v36 H6 ⟨rfl, le6⟩
 refine Xa (Zd rfl) ?_
 refine X2 ?_
 exact ⟨_, Xx (Xs rfl), rfl, Hp.le_trans leK (Hp.le_trans le25 le6)⟩
theorem Put_start (H : Hp) : ACalls Tryz.prog 42 #[.agg #[.int .i64 0, .bool false, .slice none 0 0, .int .u64 0, .slice none 0 0]] H (fun r H' => r = .tuple #[.string (Zv [1, 0, 0, 0, 0]), .int .i64 0] ∧ H.le H') := by
 refine Xv Tryz.func42 rfl rfl rfl (by simp) ?_
 refine Xe ?_
 refine Xu ?_
 refine Xz (Yw rfl) ?_
 refine Xa (Zd rfl) ?_
 refine Xa (Xi rfl) ?_
 refine Xe ?_
 refine Xe ?_
 refine Xu ?_
 refine Xa (Yl (cs := [.int .i64 _, .bool _, .slice _ _ _, .int .u64 _, .slice _ _ _]) rfl Tryz.underlying33 rfl inf33.size X8) ?_
 refine Xw (Xy (good_36 Us [.int .i64 0, .bool false, .slice none 0 0, .int .u64 0, .slice none 0 0] _ (Ul _) Um) rfl Tryz.func75 rfl rfl rfl ?_)
 rintro v5 H1 ⟨⟨g, rfl, hg⟩, hH1⟩; subst hH1; obtain rfl : g = true := hg.2 start_good
 refine Xa (Zz rfl) ?_
 refine X5 rfl rfl ?_ ?_
 intro hc1
 exact absurd hc1 (by decide)
 intro hc1
 (try simp only [Yt] at hc1)
 refine X9 ?_
 refine Xe ?_
 refine Xu ?_
 refine Xa (Yl (cs := [.int .i64 _, .bool _, .slice _ _ _, .int .u64 _, .slice _ _ _]) rfl Tryz.underlying33 rfl inf33.size X8) ?_
 refine Xw (Xy (put_start _) rfl Tryz.func76 rfl rfl rfl ?_)
 rintro v8 H2 ⟨rfl, le2⟩
 refine Xa (Zd rfl) ?_
 refine Xa (Xi rfl) ?_
 refine X2 ?_
 exact ⟨_, Y8 (Xs rfl) (Xs rfl), rfl, Hp.le_trans (H.le_push _) le2⟩


end Go.Proofs.YtmakkmcjocjgmaaGreat.Am
namespace Go.Proofs.YtmakkmcjocjgmaaGreat.Am
open Go Go.RowKit
set_option maxRecDepth 100000
set_option linter.unusedVariables false
set_option linter.unusedSimpArgs false

def behN (T : TreeT) (ns : List Int) : List (List Int) := (Vc T T.vars.length []).filter fun x => decide (0 < Vq x ns)
theorem cmp_app : ∀ (p xs ys : List Int), Vq (p ++ xs) (p ++ ys) = Vq xs ys
 | [], _, _ => rfl
 | a :: p, xs, ys => by
  show Vq (a :: (p ++ xs)) (a :: (p ++ ys)) = _
  rw [Vq, if_neg (by omega), if_neg (by omega), cmp_app p]
theorem ext_pre {T : TreeT} : ∀ (d : Nat) (p x : List Int), x ∈ Vc T d p → ∃ s, x = p ++ s
 | 0, p, x, h => ⟨[], by rw [List.append_nil]; exact List.mem_singleton.1 h⟩
 | d + 1, p, x, h => by
  obtain ⟨l, _, h2⟩ := List.mem_flatMap.1 h
  obtain ⟨s, rfl⟩ := ext_pre d _ x h2
  exact ⟨l.b :: s, by simp⟩
theorem split_list {ns : List Int} {i : Nat} (h : i < ns.length) : ns = ns.take i ++ ns.getD i 0 :: ns.drop (i + 1) := by
 conv => lhs; rw [← List.take_append_drop i ns, List.drop_eq_getElem_cons h]
 rw [Zf h]
theorem take_more {ns : List Int} {i : Nat} (h : i < ns.length) : ns.take i ++ [ns.getD i 0] = ns.take (i + 1) := by
 rw [Zf h, List.take_append_getElem]
theorem cut_group {F : Link → List (List Int)} {P : List Int → Bool} {x : Int} : ∀ {g : List Link}, g.Pairwise (fun y z => y.b < z.b) → (∀ l : Link, l.b < x → (F l).filter P = []) → (∀ l : Link, x < l.b → (F l).filter P = F l) →
    (g.flatMap F).filter P = (match Z0 g x with | some l => (F l).filter P | none => []) ++ (g.filter fun l => decide (x < l.b)).flatMap F
  | [], _, _, _ => rfl
  | y :: g, hs, h1, h2 => by
    obtain ⟨hy, hg⟩ := List.pairwise_cons.1 hs
    have ih := cut_group hg h1 h2
    rw [List.flatMap_cons, List.filter_append, ih]
    rcases Int.lt_trichotomy y.b x with h | h | h
    · rw [h1 y h, List.nil_append, List.filter_cons, if_neg (by simp; omega)]
      have : Z0 (y :: g) x = Z0 g x := by unfold Z0; rw [List.find?_cons, decide_eq_false (by omega)]
      rw [this]
    · have hf : Z0 (y :: g) x = some y := by unfold Z0; rw [List.find?_cons, decide_eq_true h]
      have hn : Z0 g x = none := findB_none fun l hl => by have := hy l hl; omega
      rw [hf, hn, List.filter_cons, if_neg (by simp; omega), List.nil_append]
    · have hf : Z0 (y :: g) x = none := findB_none fun l hl => by
        rcases List.mem_cons.1 hl with rfl | hl
        · omega
        · have := hy l hl; omega
      have hn : Z0 g x = none := findB_none fun l hl => by have := hy l hl; omega
      rw [hf, hn, h2 y h, List.nil_append, List.nil_append, List.filter_cons, if_pos (by simpa using h), List.flatMap_cons]
section
variable {T : TreeT} (hT : GoodT T)
include hT
theorem beh_step {ns : List Int} (hl : ns.length = T.vars.length) {i : Nat} (hi : i < ns.length) :
  (Vc T (T.vars.length - i) (ns.take i)).filter (fun x => decide (0 < Vq x ns)) = (match Z0 (T.group i (Yp T ns i)) (ns.getD i 0) with
   | some _ => (Vc T (T.vars.length - (i + 1)) (ns.take (i + 1))).filter fun x => decide (0 < Vq x ns)
   | none => []) ++ ((T.group i (Yp T ns i)).filter fun l => decide (ns.getD i 0 < l.b)).flatMap (fun l => Vc T (T.vars.length - (i + 1)) (ns.take i ++ [l.b])) := by
 have e : T.vars.length - i = (T.vars.length - (i + 1)) + 1 := by omega
 have hlp : (ns.take i).length = i := by rw [List.length_take]; omega
 have ha : Yp T (ns.take i) i = Yp T ns i := Z9 hT (by omega) (fun j hj => Vs hj)
 rw [e, Vc, hlp, ha, cut_group (x := ns.getD i 0) (hT.sort i (Yp T ns i))]
 ·congr 1
  cases hf : Z0 (T.group i (Yp T ns i)) (ns.getD i 0) with
  | none => rfl
  | some l =>
   have := ((findB_iff (hT.sort i (Yp T ns i))).1 hf).2
   simp only
   rw [this, take_more hi]
 ·intro l h
  refine List.filter_eq_nil_iff.2 fun x hx => ?_
  obtain ⟨s, rfl⟩ := ext_pre _ _ x hx
  have : Vq (ns.take i ++ [l.b] ++ s) ns = -1 := by
   conv => lhs; rhs; rw [split_list hi]
   rw [List.append_assoc, cmp_app]
   show Vq (l.b :: s) _ = _
   rw [Vq, if_pos h]
  rw [this]; decide
 ·intro l h
  refine List.filter_eq_self.2 fun x hx => ?_
  obtain ⟨s, rfl⟩ := ext_pre _ _ x hx
  have : Vq (ns.take i ++ [l.b] ++ s) ns = 1 := by
   conv => lhs; rhs; rw [split_list hi]
   rw [List.append_assoc, cmp_app]
   show Vq (l.b :: s) _ = _
   rw [Vq, if_neg (by omega), if_pos h]
  rw [this]; decide
theorem beh_aft {ns : List Int} (hl : ns.length = T.vars.length) {g : Nat} (hg : g < ns.length) (hp : Path T (ns.take g)) (hend : g + 1 = ns.length ∨ Z0 (T.group g (Yp T ns g)) (ns.getD g 0) = none) :
  ∀ d i : Nat, i + d = g → (Vc T (T.vars.length - i) (ns.take i)).filter (fun x => decide (0 < Vq x ns)) ++ aftK T ns i = aftK T ns (g + 1)
 | 0, i, h => by
  obtain rfl : i = g := by omega
  rw [beh_step hT hl hg, List.append_assoc]
  have : (match Z0 (T.group i (Yp T ns i)) (ns.getD i 0) with
   | some _ => (Vc T (T.vars.length - (i + 1)) (ns.take (i + 1))).filter fun x => decide (0 < Vq x ns)
   | none => []) = [] := by
   rcases hend with h1 | h1
   ·have e : T.vars.length - (i + 1) = 0 := by omega
    rw [e, List.take_of_length_le (by omega)]
    cases Z0 (T.group i (Yp T ns i)) (ns.getD i 0) with
    | none => rfl
    | some l => show [ns].filter _ = []; rw [List.filter_cons, cmpZ_self]; rfl
   ·rw [h1]
  rw [this]; rfl
 | d + 1, i, h => by
  have hi : i < ns.length := by omega
  obtain ⟨l, h1, h2⟩ := hp i (by rw [List.length_take]; omega)
  have ha : Yp T (ns.take g) i = Yp T ns i := Z9 hT (by omega) (fun j hj => Vs (by omega))
  rw [ha] at h1
  rw [Vs (by omega)] at h2
  rw [beh_step hT hl hi, (findB_iff (hT.sort i (Yp T ns i))).2 ⟨h1, h2⟩, List.append_assoc]
  exact beh_aft hl hg hp hend d (i + 1) (by omega)
theorem beh_is {ns : List Int} (hl : ns.length = T.vars.length) {g : Nat} (hg : g < ns.length) (hp : Path T (ns.take g)) (hend : g + 1 = ns.length ∨ Z0 (T.group g (Yp T ns g)) (ns.getD g 0) = none) : behN T ns = aftK T ns (g + 1) := by
 have := beh_aft hT hl hg hp hend g 0 (by omega)
 rw [List.take_zero, Nat.sub_zero] at this
 exact (List.append_nil _).symm.trans this
omit hT in
theorem ext_ne (hA : U3 T) : ∀ (d : Nat) (p : List Int), Path T p → 0 < p.length → p.length + d = T.vars.length → GoodT T → Vc T d p ≠ []
 | 0, p, _, _, _, _ => by intro h; cases h
 | d + 1, p, hp, h0, hd, hT => by
  have hne := hA p hp h0 (by omega)
  obtain ⟨l, ls, hls⟩ : ∃ l ls, T.group p.length (Yp T p p.length) = l :: ls := by
   cases h : T.group p.length (Yp T p p.length) with
   | nil => exact absurd h hne
   | cons l ls => exact ⟨l, ls, rfl⟩
  intro h
  rw [Vc, hls, List.flatMap_cons] at h
  exact ext_ne hA d (p ++ [l.b]) (path_snoc hT hp (by omega) (by rw [hls]; exact List.mem_cons_self ..)) (by simp) (by simp; omega) hT (List.append_eq_nil_iff.1 h).1
theorem aft_head (hA : U3 T) {ns : List Int} (hl : ns.length = T.vars.length) {i : Nat} (hi : i < ns.length) (hp : Path T (ns.take i)) {l : Link} (hn : U0 (T.group i (Yp T ns i)) (ns.getD i 0) = some l) :
  Path T (ns.take i ++ [l.b]) ∧ (aftK T ns (i + 1)).head? = (Vc T (T.vars.length - (i + 1)) (ns.take i ++ [l.b])).head? := by
 have hlp : (ns.take i).length = i := by rw [List.length_take]; omega
 have hm : l ∈ T.group i (Yp T ns i) := List.mem_of_find?_eq_some hn
 have ha : Yp T (ns.take i) i = Yp T ns i := Z9 hT (by omega) (fun j hj => Vs hj)
 have hp2 : Path T (ns.take i ++ [l.b]) := path_snoc hT hp (by omega) (by rw [hlp, ha]; exact hm)
 refine ⟨hp2, ?_⟩
 have hne := ext_ne hA (T.vars.length - (i + 1)) (ns.take i ++ [l.b]) hp2 (by simp) (by rw [List.length_append, hlp, List.length_singleton]; omega) hT
 show (((T.group i (Yp T ns i)).filter _).flatMap _ ++ aftK T ns i).head? = _
 rw [next_filter (hT.sort i (Yp T ns i)) hn, List.flatMap_cons, List.append_assoc]
 cases h : Vc T (T.vars.length - (i + 1)) (ns.take i ++ [l.b]) with
 | nil => exact absurd h hne
 | cons a tl => rfl
omit hT in
theorem aft_none {ns : List Int} {i : Nat} (hn : U0 (T.group i (Yp T ns i)) (ns.getD i 0) = none) : aftK T ns (i + 1) = aftK T ns i := by
 show ((T.group i (Yp T ns i)).filter _).flatMap _ ++ aftK T ns i = _
 rw [next_none hn]; rfl
def TellsH (T : TreeT) (o : Option RowT) (l : List (List Int)) : Prop := o.map RowT.nodes = l.head? ∧ ∀ r, o = some r → Vm T r.nodes = some r
theorem least_is (hA : U3 T) {p : List Int} (hp : Path T p) (h0 : 0 < p.length) (hl : p.length ≤ T.vars.length) : TellsH T (if p.length = T.vars.length then Vm T p else (V4 T ⟨p, false, false, 0⟩).2) (Vc T (T.vars.length - p.length) p) := by
 by_cases h : p.length = T.vars.length
 ·rw [if_pos h]
  obtain ⟨r, h1, h2⟩ := rowT_path hT h hp
  rw [h1, h, Nat.sub_self]
  exact ⟨by show some r.nodes = some p; rw [h2], fun r' e => by injection e with e; subst e; rw [h2]; exact h1⟩
 ·rw [if_neg h]
  have ht := (next_tells hT hA _ ⟨p, false, false, 0⟩ ⟨hl, hp⟩ (Nat.le_refl _)).2.1
  have hr : Vl T ⟨p, false, false, 0⟩ = Vc T (T.vars.length - p.length) p ++ aftK T p p.length := rfl
  have hne := ext_ne hA (T.vars.length - p.length) p hp h0 (by omega) hT
  rw [hr] at ht
  cases hn : (V4 T ⟨p, false, false, 0⟩).2 with
  | none => rw [hn] at ht; exact absurd (List.append_eq_nil_iff.1 ht.1).1 hne
  | some r =>
   rw [hn] at ht
   have h1 : _ = r.nodes :: _ ∧ _ := ht
   refine ⟨?_, fun r' e => by injection e with e; subst e; exact h1.2⟩
   cases hx : Vc T (T.vars.length - p.length) p with
   | nil => exact absurd hx hne
   | cons a tl =>
    rw [hx] at h1
    have h2 := h1.1
    rw [List.cons_append, List.cons.injEq] at h2
    show some r.nodes = some a
    rw [h2.1]
end
end Go.Proofs.YtmakkmcjocjgmaaGreat.Am
namespace Go.Proofs.YtmakkmcjocjgmaaGreat.Am
open Go Go.RowKit
set_option linter.unusedVariables false
set_option linter.unusedSimpArgs false
set_option maxRecDepth 100000
theorem least_walk {T : TreeT} (hT : GoodT T) (hA : U3 T) {tb : Nat} {u : Value} {p : List Int} {H : Hp} (ht : TreeR H (.pointer (some ⟨tb, 0, none⟩)) T) (hu : Sl (Y1 .i64) H u p) (hp : Path T p) (h0 : 0 < p.length) (hl : p.length ≤ T.vars.length) :
  ACalls Tryz.prog 120 #[.pointer (some ⟨tb, 0, none⟩), u] H (fun r H' => H.le H' ∧ ∃ o, TellsH T o (Vc T (T.vars.length - p.length) p) ∧ RowO H' r o) := by
 have hfew := hT.few
 have hleast := least_is hT hA hp h0 hl
 refine Xv Tryz.func120 rfl rfl rfl (by simp) ?_
 refine Xe ?_
 refine Xu ?_
 refine Xz (Yz (l := [.slice none 0 0, .int .i64 0, .int .u64 0]) inf46.zero rfl (by decide)) ?_
 refine Xa (Xn rfl) ?_
 refine Xe ?_
 refine Xu ?_
 refine Xa (X0 rfl) ?_
 refine Xw (Xy (fresh_tree tb _) rfl Tryz.func115 rfl rfl rfl ?_)
 rintro v3 H3 ⟨rfl, hle3, ⟨B3, c3, hwb3, gw3, hown3⟩⟩; have z3 := hle3.1; simp only [Hp.push_size] at z3; have hz3 : H3.get H.size = .own 0 [.slice none 0 0, .int .i64 0, .int .u64 0] := Xr hle3 (by simp) (by intro e; cases e) Yd; have ht3 := (ht.mono (H.le_push (.own 0 [.slice none 0 0, .int .i64 0, .int .u64 0]))).mono hle3; have hu3 := (hu.mono (H.le_push (.own 0 [.slice none 0 0, .int .i64 0, .int .u64 0])).sees).mono hle3.sees; simp only [Hp.push_size] at gw3 hwb3
 refine Xa (Z3 rfl) ?_
 refine Xe ?_
 refine Xu ?_
 refine Xa (X0 rfl) ?_
 refine Xa (X0 rfl) ?_
 refine Xa (Yi rfl) ?_
 refine Xa (Xf (off := 1) rfl Tryz.underlying167 rfl inf23.size (by decide) rfl) ?_
 refine Xa (Xk rfl Tryz.underlying23 rfl Xp) ?_
 refine Xa (Zm rfl) ?_
 refine Xw (OwnP.append (ys := p) hown3 Tryz.underlying23 inf3 Xm Xm rfl hu3 (by simp only [List.length_nil]; omega) (by simp only [List.length_nil]; omega) ?_)
 rintro v9 G5 H5 hle5 hown5
 rw [List.nil_append] at hown5
 have hsameO := OwnP.sameO hown3 hle5 hown5
 obtain ⟨B5, c5, rfl⟩ := hown5.shape
 have z5 := hle5.1
 have zz5 := hown5.size
 have gw5 := Xr hle5 (by omega) (by intro e; cases e) gw3
 have gz5 := Xr hle5 (by omega) (by intro e; cases e) hz3
 have hw5 := Xr hown5.le (by omega) (by intro e; cases e) gw5
 have hz5 := Xr hown5.le (by omega) (by intro e; cases e) gz5
 have ht5 := ht3.mono hle5
 have hu5 := hu3.mono hle5.sees
 refine Xa (Yi rfl) ?_
 refine Xa (Xf (off := 1) rfl Tryz.underlying167 rfl inf23.size (by decide) rfl) ?_
 first | refine Xw (Y3 rfl rfl rfl inf23.size Yd Yg rfl ?_)
 refine Xe ?_
 refine Xe ?_
 obtain ⟨H6, hH6⟩ : ∃ H6, H6 = H5.put (H.size + 1) (.own 0 [.pointer (some ⟨tb, 0, none⟩), .slice B5 p.length c5, .bool false, .bool false, .int .i64 0]) := ⟨_, rfl⟩
 obtain ⟨G6, hG6⟩ : ∃ G6, G6 = G5.put (H.size + 1) (.own 0 [.pointer (some ⟨tb, 0, none⟩), .slice B5 p.length c5, .bool false, .bool false, .int .i64 0]) := ⟨_, rfl⟩
 have hown6 : OwnP (Y1 .i64) G6 H6 (.slice B5 p.length c5) p := by rw [hG6, hH6]; exact hown5.put (by rw [gw5]; intro e; cases e) _ (Hp.sees_box _ gw5)
 have aw56 : Away (H.size + 1) G5 G6 := by rw [hG6]; exact Away.put (.refl _ _) _
 have gw6 : G6.get (H.size + 1) = .own 0 [.pointer (some ⟨tb, 0, none⟩), .slice B5 p.length c5, .bool false, .bool false, .int .i64 0] := by rw [hG6]; exact Hp.put_same _ _ _
 have gz6 : G6.get H.size = .own 0 [.slice none 0 0, .int .i64 0, .int .u64 0] := aw56.keep (by omega) (by omega) (by intro e; cases e) gz5
 have z6 := aw56.size
 have zz6 := hown6.size
 have hW6 : Ub G6 H6 (H.size + 1) (.pointer (some ⟨tb, 0, none⟩)) ⟨p, false, false, 0⟩ := ⟨B5, c5, by omega, gw6, hown6⟩
 have ht6 := aw56.tree gw5 ht5
 have leG6 : H.le G6 := aw56.base (Hp.le_trans (Hp.le_trans (H.le_push _) hle3) hle5) (by omega)
 have leH6 := Hp.le_trans leG6 hown6.le
 have hu6 := hu.mono leH6.sees
 have htH6 := ht6.mono hown6.le
 change ACode true _ _ _ _ _ (H5.put (H.size + 1) (.own 0 [.pointer (some ⟨tb, 0, none⟩), .slice B5 p.length c5, .bool false, .bool false, .int .i64 0]))
 rw [← hH6]
 clear hH6 hG6 hsameO
 obtain ⟨AU, cU, rfl⟩ := hu6.shape
 refine Xu ?_
 refine Xa (X1 rfl) ?_
 refine Xa (Ys rfl Tryz.underlying23) ?_
 refine Xa (X0 rfl) ?_
 refine Xw (Xy (Len_tree htH6) rfl Tryz.func62 rfl rfl rfl ?_)
 rintro v10 H6 ⟨rfl, rfl⟩
 refine Xa (Zx rfl rfl) ?_
 refine X5 rfl rfl ?_ ?_
 intro hc1
 have hfull : p.length = T.vars.length := by have := of_decide_eq_true hc1; omega
 rw [if_pos hfull] at hleast
 refine Xe ?_
 refine Xu ?_
 refine Xa (X0 rfl) ?_
 refine Xw (Xy (row_walk hT hW6 ht6 (by show p.length ≤ _; omega)) rfl Tryz.func138 rfl rfl rfl ?_)
 rintro v11 H9 ⟨G9, le69, ⟨B9, c9, hwb9, gw9, hown9⟩, A9, k9, rfl, sl9⟩; have aw9 := Away.of_le (wb := H.size + 1) le69; have z9 := aw9.size; have gz9 := aw9.keep (by omega) (by omega) (by intro e; cases e) gz6; have hz9 := Xr hown9.le (by omega) (by intro e; cases e) gz9; have leG9 := aw9.base leG6 (by omega)
 refine Xa (Yj rfl rfl) ?_
 refine Xa (Yj rfl rfl) ?_
 refine Xw (Yf (vs := [.slice _ _ _, .int .i64 _, .int .u64 _]) rfl rfl inf46.size Yd Yg rfl rfl ?_)
 refine Xa (Xn rfl) ?_
 refine X2 ?_
 exact ⟨_, Y8 (Yq Xm (Yo (cs := [_, _, _]) Tryz.underlying46 rfl inf46.size X8)) (Xs rfl), Hp.le_put_new (Hp.le_trans leG9 hown9.le) (Nat.le_refl _) _, _, hleast, A9, k9, rfl, (sl9.mono hown9.le.sees).mono (Hp.sees_box _ hz9)⟩
 intro hc1
 have hfull : ¬ p.length = T.vars.length := by have := of_decide_eq_false hc1; omega
 rw [if_neg hfull] at hleast
 refine X9 ?_
 refine Xe ?_
 refine Xu ?_
 refine Xa (X0 rfl) ?_
 refine Xw (Xy (next_walk hT hA hW6 (fun _ => ht6) ⟨hl, hp⟩ (Int.le_refl 0) (by show (0 : Int) ≤ 100000000000; decide) ⟨_, rfl⟩) rfl Tryz.func116 rfl rfl rfl ?_)
 rintro v11 H9 ⟨G9, aw9, ⟨B9, c9, hwb9, gw9, hown9⟩, A9, k9, rfl, sl9⟩; have z9 := aw9.size; have gz9 := aw9.keep (by omega) (by omega) (by intro e; cases e) gz6; have hz9 := Xr hown9.le (by omega) (by intro e; cases e) gz9; have leG9 := aw9.base leG6 (by omega)
 refine Xa (Yj rfl rfl) ?_
 refine Xa (Yj rfl rfl) ?_
 refine Xw (Yf (vs := [.slice _ _ _, .int .i64 _, .int .u64 _]) rfl rfl inf46.size Yd Yg rfl rfl ?_)
 refine Xa (Xn rfl) ?_
 refine X2 ?_
 exact ⟨_, Y8 (Yq Xm (Yo (cs := [_, _, _]) Tryz.underlying46 rfl inf46.size X8)) (Xs rfl), Hp.le_put_new (Hp.le_trans leG9 hown9.le) (Nat.le_refl _) _, _, hleast, A9, k9, rfl, (sl9.mono hown9.le.sees).mono (Hp.sees_box _ hz9)⟩
theorem Sl.caps {α : Type} {k : Kd α} {H0 : Hp} {v : Value} {xs : List α} (hs : Sl k H0 v xs) {i : Nat} (hi : i < xs.length) : ∃ A S, Sl k H0 (.slice (some A) i i) (xs.take i) ∧ (∀ b ∈ S, b < H0.size ∧ H0.get b ≠ .dead) ∧
  ∀ (P : Program) (H : Hp) (t : Fr) (d : Option Tmp) (ty : TypeId) (pos : String) (after : Array Edge) (guard : Option (Nat × Bool)) (x y z : Operand) (xt e : TypeId) (k1 k2 : IntKind), H0.le H → t.eval x = v → P.underlying xt = some (.slice e) → (P.info? e).map (·.size) = some k.sz → t.eval y = .int k1 i → t.eval z = .int k2 i →
   AVal P ⟨d, .slice xt x none (some y) (some z), ty, pos, after, guard⟩ t S H (.slice (some A) i i) := by
 rcases hs with ⟨rfl, rfl⟩ | ⟨b, o, c, rfl, hb, hk, hx⟩
 ·exact absurd hi (Nat.not_lt_zero _)
 ·refine ⟨⟨b, o, none⟩, [b], .inr ⟨b, o, i, by rw [List.length_take, Nat.min_eq_left (Nat.le_of_lt hi)], hb, hk, fun j z hz => ?_⟩, fun u hu => by simp at hu; subst hu; exact ⟨hb, Blk.cut_ne hk⟩, fun P H t d ty pos after guard x y z xt e k1 k2 hle h1 h2 h3 h4 h5 => ?_⟩
  ·rw [List.getElem?_take] at hz
   split at hz
   ·exact hx j z hz
   ·cases hz
  ·have := av_slice3 (P := P) (t := t) (H := H) (d := d) (ty := ty) (pos := pos) (after := after) (guard := guard) (lo := none) (l := 0) (h := i) (m := i) h1 h2 h3 (.inl ⟨rfl, rfl⟩) h4 h5 (Nat.zero_le _) (Nat.le_refl _) (Nat.le_of_lt hi) (by rw [hle.2 b hb (Blk.cut_ne hk)]; exact Blk.cut_or hk)
   have e1 : (if i = 0 then o else o + 0 * k.sz) = o := by split <;> simp
   rwa [e1, Nat.sub_zero] at this
theorem Sl.grow {P : Program} {t : Fr} {d : Option Tmp} {ty : TypeId} {pos : String} {after : Array Edge} {guard : Option (Nat × Bool)} {K : Value → Hp → Prop} {H : Hp} {A : Addr} {xs : List Int} {i : Nat} {b2 c2 : Nat} {m : Int} {at_ e : TypeId} {x y : Operand} {by_ : Nat} {z : Value} (hs : Sl (Y1 .i64) H (.slice (some A) i i) xs) (hu : P.underlying at_ = some (.slice e)) (hi : (P.info? e).map (fun i => (i.zero, i.size, i.bytes)) = some (some z, 1, by_)) (hzs : z.cells.size = 1)
  (hx : t.eval x = .slice (some A) i i) (hy : t.eval y = .slice (some ⟨b2, 0, none⟩) 1 c2) (hg : H.get b2 = .own 1 [.int .i64 m]) (hb1 : i + 1 ≤ 1000000) (hb2 : (i + 1) * by_ ≤ 140737488355328)
  (hk : ∀ H', H' = H.push (.own 1 ((xs ++ [m]).map (Value.int .i64))) → Sl (Y1 .i64) H' (.slice (some ⟨H.size, 0, none⟩) (i + 1) unk) (xs ++ [m]) → K (.slice (some ⟨H.size, 0, none⟩) (i + 1) unk) H') : AOp P ⟨d, .call ⟨.builtin .append, #[x, y], #[at_, at_]⟩, ty, pos, after, guard⟩ t H K := by
 obtain ⟨b, o, eA, hlen⟩ : ∃ b o, A = ⟨b, o, none⟩ ∧ i = xs.length := by
  rcases hs with ⟨h, _⟩ | ⟨b, o, c, h, _⟩
  ·cases h
  ·injection h with h1 h2 h3
   injection h1 with h1
   exact ⟨b, o, h1, h2⟩
 subst eA
 have hcells : Cells H b o (xs.map (Value.int .i64)) := fun j v hj => by
  rw [List.getElem?_map] at hj
  cases hxj : xs[j]? with
  | none => rw [hxj] at hj; cases hj
  | some a =>
   rw [hxj] at hj
   injection hj with hj
   subst hj
   have hjl := (List.getElem?_eq_some_iff.1 hxj).1
   obtain ⟨b', o', e', hb', hc'⟩ := hs.int_at (i := (j : Int)) (by omega) (by omega)
   simp only [Option.some.injEq, Addr.mk.injEq, and_true] at e'
   obtain ⟨rfl, rfl⟩ := e'
   rw [Int.toNat_natCast, Nat.mul_one, List.getD_eq_getElem?_getD, hxj] at hc'
   exact hc'
 refine aop_append_new (olds := xs.map (Value.int .i64)) (news := [.int .i64 m]) hu hi hzs hx (.inr ⟨b, o, rfl, by unfold unk; omega, hcells, by rw [List.length_map, hlen, Nat.mul_one]⟩) (by omega) hy ?_ rfl (by decide) (by omega) hb2 ?_
 ·intro j v hj
  cases j with
  | zero => injection hj with hj; subst hj; unfold Hp.cell?; rw [hg]; rfl
  | succ j => simp at hj
 ·have e : xs.map (Value.int .i64) ++ [.int .i64 m] = (xs ++ [m]).map (Value.int .i64) := by rw [List.map_append]; rfl
  rw [e]
  have hl2 : i + 1 = (xs ++ [m]).length := by rw [List.length_append, hlen]; rfl
  exact hk _ rfl (by rw [hl2]; exact sl_ints (by simp) (Hp.push_new _ _))
theorem above_read {T : TreeT} (hT : GoodT T) {tv : Value} {wb : Nat} {H : Hp} {A : Option Addr} {c : Nat} {ns : List Int} {x y z : Value} (hw : H.get wb = .own 0 [tv, .slice A ns.length c, x, y, z]) (hs : Sl (Y1 .i64) H (.slice A ns.length c) ns) (ht : TreeR H tv T) (i : Nat) (hi : i < T.vars.length) (hl : i ≤ ns.length) :
  ACalls Tryz.prog 118 #[.pointer (some ⟨wb, 0, none⟩), .int .i64 i] H (fun r H' => r = .int .i64 (Yp T ns i) ∧ H' = H) := by
 have hp := hT.par i hi
 obtain ⟨tb, _, _, _, _, _, etv, _⟩ := id ht
 subst etv
 refine Xv Tryz.func118 rfl rfl rfl (by simp) ?_
 refine Xe ?_
 refine Xu ?_
 refine Xa (Xi rfl) ?_
 refine Xe ?_
 refine Xe ?_
 refine Xu ?_
 refine Xa (X0 rfl) ?_
 refine Xa (Yi rfl) ?_
 refine Xa (Xf (off := 0) rfl Tryz.underlying167 rfl inf37.size (by decide) rfl) ?_
 refine Xa (Xk rfl Tryz.underlying37 rfl Xp) ?_
 refine Xa (Xb rfl) ?_
 refine Xw (Xy (Parent_tree ht hT.l1 (i : Int)) rfl Tryz.func121 rfl rfl rfl ?_)
 rintro v6 H ⟨rfl, rfl⟩; rw [if_pos ⟨by omega, by omega⟩, Int.toNat_natCast]
 refine Xa (Xi rfl) ?_
 refine Xe ?_
 refine Xu ?_
 refine Xa (Xb rfl) ?_
 refine Xa (Zw rfl rfl) ?_
 refine X5 rfl rfl ?_ ?_
 intro hc1
 have hne : T.parent.getD i 0 ≠ -1 := of_decide_eq_true hc1
 have hpr := hp.resolve_left hne
 obtain ⟨b, o, rfl, hb, hcell⟩ := hs.int_at (i := T.parent.getD i 0) hpr.1 (by omega)
 refine Xe ?_
 refine Xu ?_
 refine Xa (X0 rfl) ?_
 refine Xa (Yi rfl) ?_
 refine Xa (Xf (off := 1) rfl Tryz.underlying167 rfl inf23.size (by decide) rfl) ?_
 refine Xa (Xk rfl Tryz.underlying23 rfl Xp) ?_
 refine Xa (Xb rfl) ?_
 refine Xa (Xt rfl rfl Tryz.underlying23 inf3.size X6 X6) ?_
 refine Xa (Xk rfl Tryz.underlying3 rfl Xp) ?_
 refine Xa (Xi rfl) ?_
 refine X2 ?_
 exact ⟨.int .i64 (ns.getD (T.parent.getD i 0).toNat 0), Xx (Xs rfl), by unfold Yp; rw [if_neg hne], rfl⟩
 intro hc1
 have hne : T.parent.getD i 0 = -1 := Decidable.not_not.1 (of_decide_eq_false hc1)
 refine X9 ?_
 refine Xe ?_
 refine Xu ?_
 refine Xa (Xi rfl) ?_
 refine X2 ?_
 exact ⟨.int .i64 (-1), Xx (Xs rfl), by unfold Yp; rw [if_pos hne], rfl⟩
theorem behind1_raw (xs : List Link) (ns : List Int) (A B : Option Addr) (c c2 i j : Nat) (b1 b2 b3 : Nat) (H : Hp) (h1 : H.cell? b1 0 = some (.slice A xs.length c)) (h2 : H.cell? b2 0 = some (.slice B ns.length c2)) (h3 : H.cell? b3 0 = some (.int .i64 j)) (hs : Sl kLink H (.slice A xs.length c) xs) (hn : Sl (Y1 .i64) H (.slice B ns.length c2) ns) (hi : i < xs.length) (hj : j < ns.length) (hb1 : b1 < H.size) (hb2 : b2 < H.size) (hb3 : b3 < H.size) :
  ACalls Tryz.prog 119 #[.int .i64 i, .pointer (some ⟨b1, 0, none⟩), .pointer (some ⟨b2, 0, none⟩), .pointer (some ⟨b3, 0, none⟩)] H (fun r _ => r = .bool (decide (ns.getD j 0 < xs[i].b))) := by
 obtain ⟨b, o, rfl, hb, hcell⟩ := hs.link_at hi
 have hcellb := hcell 1 _ rfl
 obtain ⟨b', o', rfl, hb', hcell'⟩ := hn.int_at (i := (j : Int)) (by omega) (by omega)
 rw [Int.toNat_natCast] at hcell'
 refine Xv Tryz.func119 rfl rfl rfl (by simp) ?_
 refine Xe ?_
 refine Xu ?_
 refine Xa (Xn rfl) ?_
 refine Xe ?_
 refine Yy (by kernel_rfl) (Y4 (B := [0, 0, 3, 7, 15, 0, 0, 96, 224, 511, 1023]) (π := [0, 1, 2, 3, 4, 5, 6, 7, 8, 9, 10]) (by kernel_rfl)) ?_
 refine Xd rfl rfl (Xk rfl Tryz.underlying83 rfl Xp) Xq ?_
 refine Xd rfl rfl (Xb rfl) Xq ?_
 refine Xd rfl rfl (Xt rfl rfl Tryz.underlying83 inf96.size X6 X6) Xq ?_
 refine Xd rfl rfl (Xf (off := 1) rfl Tryz.underlying96 rfl inf3.size (by decide) rfl) Xq ?_
 refine Xd rfl rfl (Xk rfl Tryz.underlying3 rfl Xp) Xq ?_
 refine Xd rfl rfl (Xk rfl Tryz.underlying23 rfl Xp) Xq ?_
 refine Xd rfl rfl (Xk rfl Tryz.underlying3 rfl Xp) Xq ?_
 refine Xd rfl rfl (Xt rfl rfl Tryz.underlying23 inf3.size X6 X6) Xq ?_
 refine Xd rfl rfl (Xk rfl Tryz.underlying3 rfl Xp) Xq ?_
 refine Xd rfl rfl (Vu rfl rfl) Xq ?_
 refine Xd rfl rfl (Xn rfl) Xq ?_
 refine X2 ?_
 exact ⟨_, Xx (Xs rfl), rfl⟩
theorem av_func0 {P : Program} {t : Fr} {H : Hp} {d : Option Tmp} {ty : TypeId} {pos : String} {after : Array Edge} {guard : Option (Nat × Bool)} {f : FuncId} {cap : Array Operand} {cs : Array Value} (h : cap.toList.map t.eval = cs.toList) : AVal P ⟨d, .makeFunc (.func f) #[] cap, ty, pos, after, guard⟩ t [] H (.func (.func f) #[] cs) := by
 have := av_makeFunc (P := P) (t := t) (H := H) (d := d) (ty := ty) (pos := pos) (after := after) (guard := guard) (f := f) (first := #[]) (cap := cap)
 rw [h] at this
 exact this
set_option maxHeartbeats 2000000 in
theorem Behind_walk {T : TreeT} (hT : GoodT T) (hA : U3 T) {tb : Nat} {AU : Option Addr} {cU : Nat} {ns : List Int} {H : Hp} (ht : TreeR H (.pointer (some ⟨tb, 0, none⟩)) T) (hu : Sl (Y1 .i64) H (.slice AU ns.length cU) ns) (hul : ns.length ≤ 1000000) :
  ACalls Tryz.prog 89 #[.pointer (some ⟨tb, 0, none⟩), .slice AU ns.length cU] H (fun r H' => H.le H' ∧ ∃ o, (ns.length = T.vars.length → TellsH T o (behN T ns)) ∧ (ns.length ≠ T.vars.length → o = none) ∧ RowO H' r o) := by
 have hfew := hT.few
 refine Xv Tryz.func89 rfl rfl rfl (by simp) ?_
 refine Xe ?_
 refine Xu ?_
 refine Xz (am_box_sl rfl) ?_
 refine Xz (Yz (l := [.slice none 0 0, .int .i64 0, .int .u64 0]) inf46.zero rfl (by decide)) ?_
 refine Xa (Xn rfl) ?_
 refine Xe ?_
 refine Xe ?_
 refine Yy (by kernel_rfl) (Y4 (B := [0, 1, 3, 7, 15, 7, 39, 127, 255]) (π := [0, 1, 2, 3, 4, 5, 6, 7, 8]) (by kernel_rfl)) ?_
 refine Xd rfl rfl (X0 rfl) Xq ?_
 refine Xd rfl rfl (Un rfl t_spot rfl Tryz.underlying37) Xq ?_
 refine Xd rfl rfl (Xo rfl) Xq ?_
 refine Va rfl rfl rfl rfl ?_ ?_
 intro hg1
 cases hg1
 intro hg1
 have hp1 := hg1; try simp only [Yt] at hp1
 refine Yr rfl (Xh rfl rfl rfl hg1) rfl (Xk rfl Tryz.underlying23 rfl Xp) Xq ?_
 refine Yr rfl (Xh rfl rfl rfl hg1) rfl (Ys rfl Tryz.underlying23) Xq ?_
 refine Yr rfl (Xh rfl rfl rfl hg1) rfl (X0 rfl) Xq ?_
 refine adr_wop rfl (Xh rfl rfl rfl hg1) rfl (Xy (Len_tree (ht.mono t_le)) rfl Tryz.func62 rfl rfl rfl ?_)
 rintro v10 H1 ⟨rfl, rfl⟩
 refine ⟨Yk, ?_⟩
 refine Yr rfl (Xh rfl rfl rfl hg1) rfl (Zw rfl rfl) Xq ?_
 refine Xd rfl rfl (Xl (Yv hg1) rfl) Xq ?_
 refine X5 rfl rfl ?_ ?_
 intro hc2
 have hne : ns.length ≠ T.vars.length := by have := of_decide_eq_true hc2; omega
 refine Xe ?_
 refine Xu ?_
 refine Xa (Y6 (pl := [(0, 1), (1, 1), (2, 1)]) (r := [.slice _ _ _, .int .i64 _, .int .u64 _]) Tryz.underlying46 inf46.zero (by decide) rfl rfl) ?_
 refine Xw (Yf (vs := [.slice _ _ _, .int .i64 _, .int .u64 _]) rfl rfl inf46.size Yd Yg rfl rfl ?_)
 refine Xa (Xn rfl) ?_
 refine X2 ?_
 exact ⟨_, Y8 (Yq Xm (Yo (cs := [_, _, _]) Tryz.underlying46 rfl inf46.size X8)) (Xs rfl), t_le, none, fun h => absurd h hne, fun _ => rfl, Ui _⟩
 intro hc2
 have hlen : ns.length = T.vars.length := by have := of_decide_eq_false hc2; omega
 refine X9 ?_
 refine Xe ?_
 refine Xu ?_
 refine Xa (X0 rfl) ?_
 refine Xw (Xy (fresh_tree tb _) rfl Tryz.func115 rfl rfl rfl ?_)
 rintro v3 H3 ⟨rfl, hle3, hW3⟩; simp only [Hp.push_size] at hW3; have z3 := hle3.1; simp only [Hp.push_size] at z3; have gu3 : H3.get H.size = .own 0 [.slice AU ns.length cU] := Xr hle3 (by simp; omega) (by intro e; cases e) Yd; have gz3 : H3.get (H.size + 1) = .own 0 [.slice none 0 0, .int .i64 0, .int .u64 0] := Xr hle3 (by simp) (by intro e; cases e) Yd; have leH3 : H.le H3 := Hp.le_trans (Hp.le_push' (H.le_push _) _) hle3
 refine Xa (Z3 rfl) ?_
 refine Xa (Xi rfl) ?_
 refine Xe ?_
 refine ac_cut (fun t H' => ∃ (g : Nat) (B : Option Addr) (c : Nat), g ≤ ns.length ∧ H.le H' ∧ H.size + 2 < H'.size ∧ H'.get H.size = .own 0 [.slice AU ns.length cU] ∧ H'.get (H.size + 1) = .own 0 [.slice none 0 0, .int .i64 0, .int .u64 0] ∧ H'.get (H.size + 2) = .own 0 [.pointer (some ⟨tb, 0, none⟩), .slice B g c, .bool false, .bool false, .int .i64 0] ∧ (g < ns.length → Z0 (T.group g (Yp T ns g)) (ns.getD g 0) = none) ∧ Path T (ns.take g) ∧ t 0 = .pointer (some ⟨tb, 0, none⟩) ∧ t 3 = .pointer (some ⟨H.size, 0, none⟩) ∧ t 4 = .pointer (some ⟨H.size + 1, 0, none⟩) ∧ t 6 = .pointer (some ⟨H.size + 2, 0, none⟩) ∧ t 7 = .int .i64 g) ?_ ?_
 refine Ye ?_
 refine Y5 (fun n t H' => ∃ (g : Nat) (G : Hp), n = ns.length - g ∧ g ≤ ns.length ∧ H.le G ∧ Ub G H' (H.size + 2) (.pointer (some ⟨tb, 0, none⟩)) ⟨ns.take g, false, false, 0⟩ ∧ Path T (ns.take g) ∧ G.get H.size = .own 0 [.slice AU ns.length cU] ∧ G.get (H.size + 1) = .own 0 [.slice none 0 0, .int .i64 0, .int .u64 0] ∧ t 0 = .pointer (some ⟨tb, 0, none⟩) ∧ t 3 = .pointer (some ⟨H.size, 0, none⟩) ∧ t 4 = .pointer (some ⟨H.size + 1, 0, none⟩) ∧ t 6 = .pointer (some ⟨H.size + 2, 0, none⟩) ∧ t 7 = .int .i64 g) (ns.length) (⟨0, H3, rfl, Nat.zero_le _, leH3, hW3, fun i h => absurd h (Nat.not_lt_zero _), gu3, gz3, rfl, rfl, rfl, rfl, rfl⟩) ?_
 rintro n t H1 ⟨g, G, rfl, hg, leG, hW, hpath, gu, gz, e0, e3, e4, e6, e7⟩
 obtain ⟨B, c, hwb, gw, hown⟩ := id hW
 have hw := Xr hown.le hwb (by intro e; cases e) gw
 have hgu := Xr hown.le (by omega) (by intro e; cases e) gu
 have hgz := Xr hown.le (by omega) (by intro e; cases e) gz
 have zz := hown.size
 have hlt : (ns.take g).length = g := by rw [List.length_take]; omega
 have htG := ht.mono leG
 have huG := hu.mono leG.sees
 refine Xe ?_
 refine Xe ?_
 refine Xu ?_
 refine Xa (Xb Xm) ?_
 refine Xa (Xk Xm Tryz.underlying23 Xm Xp) ?_
 refine Xa (Ys rfl Tryz.underlying23) ?_
 refine Xa (Za rfl rfl) ?_
 refine X5 rfl rfl ?_ ?_
 intro hc3
 have hgl : g < ns.length := by have := of_decide_eq_true hc3; omega
 obtain ⟨bu, ou, eU, hbu, hcu⟩ := (huG.mono hown.le.sees).int_at (i := (g : Int)) (by omega) (by omega)
 rw [Int.toNat_natCast] at hcu
 obtain ⟨x, hx⟩ : ∃ x, x = ns.getD g 0 := ⟨_, rfl⟩
 rw [← hx] at hcu
 have hWp : ∀ y, Ub (G.push y) (H1.push y) (H.size + 2) (.pointer (some ⟨tb, 0, none⟩)) ⟨ns.take g, false, false, 0⟩ := fun y => ⟨B, c, by simp; omega, (Hp.push_old _ _ hwb).trans gw, hown.push _⟩
 subst eU
 refine X9 ?_
 refine Ye ?_
 refine Xe ?_
 refine Xe ?_
 refine Yy (by kernel_rfl) (Y4 (B := [0, 0, 0, 0, 12, 0, 0, 96, 224, 511, 1023, 2047, 2047, 0, 12287, 32767]) (π := [0, 1, 2, 3, 5, 6, 7, 8, 13, 4, 9, 10, 11, 12, 14, 15]) (by kernel_rfl)) ?_
 refine Xd rfl rfl (X0 Xm) Xq ?_
 refine Xd rfl rfl (Xb Xm) Xq ?_
 refine Xd rfl rfl (X0 Xm) Xq ?_
 refine Xd rfl rfl (Xb Xm) Xq ?_
 refine Xd rfl rfl (Xk Xm Tryz.underlying23 Xm Xp) Xq ?_
 refine Xd rfl rfl (Xb Xm) Xq ?_
 refine Xd rfl rfl (Xt rfl rfl Tryz.underlying23 inf3.size X6 X6) Xq ?_
 refine Xd rfl rfl (Xk rfl Tryz.underlying3 rfl Xp) Xq ?_
 refine Zb rfl rfl (Yz (l := [.int .i64 0, .int .i64 0, .int .i64 0, .int .u64 0]) inf96.zero rfl (by decide)) ?_
 refine Ym rfl rfl (Xy (above_walk hT (hWp _) (htG.mono (G.le_push _)) g (by omega) (by rw [hlt]; exact Nat.le_refl _)) rfl Tryz.func118 rfl rfl rfl ?_)
 rintro v7 H4 ⟨rfl, rfl⟩
 refine ⟨Yk, ?_⟩
 refine Ym rfl rfl (Xy (Find_tree ((htG.mono hown.le).mono (H1.le_push _)) hT.l1 hT.l2 hT.lens (g : Int) _ _ (hT.sort _ _)) rfl Tryz.func117 rfl rfl rfl ?_)
 rintro v8 H5 ⟨le15, rfl⟩; have z15 := le15.1; simp only [Hp.push_size] at z15; have hq5 : H5.get H1.size = .own 0 [.int .i64 0, .int .i64 0, .int .i64 0, .int .u64 0] := Xr le15 (by simp) (by intro e; cases e) Yd; obtain ⟨f, hf⟩ : ∃ f, f = Z0 (T.group g (Yp T (ns.take g) g)) x := ⟨_, rfl⟩; rw [← hf]; obtain ⟨G5, le5, hown5⟩ := (hown.push (.own 0 [.int .i64 0, .int .i64 0, .int .i64 0, .int .u64 0])).later le15; have z5 := le5.1; simp only [Hp.push_size] at z5; have zz5 := hown5.size
 refine ⟨Yk, ?_⟩
 refine Xd rfl rfl (Zm rfl) Xq ?_
 refine Xd rfl rfl (Yj rfl rfl) Xq ?_
 refine Xd rfl rfl (Yj rfl rfl) Xq ?_
 first | refine Ym rfl rfl (Yf (vs := [.int .i64 _, .int .i64 _, .int .i64 _, .int .u64 _]) rfl rfl inf96.size Yd Yg rfl rfl ?_)
 refine ⟨Yk, ?_⟩
 refine Xd rfl rfl (Xn rfl) Xq ?_
 refine Xe ?_
 have gq5 : G5.get H1.size = .own 0 [.int .i64 0, .int .i64 0, .int .i64 0, .int .u64 0] := Xr le5 (by simp; omega) (by intro e; cases e) (by rw [zz]; exact Hp.push_new _ _)
 have leG5 := Hp.le_trans (Hp.le_push G _) le5
 obtain ⟨H6, hH6⟩ : ∃ H6, H6 = H5.put H1.size (.own 0 [.int .i64 (f.getD Zy).a, .int .i64 (f.getD Zy).b, .int .i64 (f.getD Zy).cost, .int .u64 (f.getD Zy).n]) := ⟨_, rfl⟩
 obtain ⟨G6, hG6⟩ : ∃ G6, G6 = G5.put H1.size (.own 0 [.int .i64 (f.getD Zy).a, .int .i64 (f.getD Zy).b, .int .i64 (f.getD Zy).cost, .int .u64 (f.getD Zy).n]) := ⟨_, rfl⟩
 have hown6 : OwnP (Y1 .i64) G6 H6 (.slice B (ns.take g).length c) (ns.take g) := by rw [hG6, hH6]; exact hown5.put (by rw [gq5]; intro e; cases e) _ (Hp.sees_box _ gq5)
 have leG6 : G.le G6 := by rw [hG6]; exact Hp.le_put_new leG5 (by omega) _
 have gw6 := Xr leG6 hwb (by intro e; cases e) gw
 have gu6 := Xr leG6 (by omega) (by intro e; cases e) gu
 have gz6 := Xr leG6 (by omega) (by intro e; cases e) gz
 have z6 := leG6.1
 have zz6 := hown6.size
 have hw6 := Xr hown6.le (by omega) (by intro e; cases e) gw6
 have hgu6 := Xr hown6.le (by omega) (by intro e; cases e) gu6
 have hgz6 := Xr hown6.le (by omega) (by intro e; cases e) gz6
 have leHG6 := Hp.le_trans leG leG6
 have leH6 := Hp.le_trans leHG6 hown6.le
 obtain ⟨bu, ou, eU, hbu6, hcu6⟩ := (hu.mono leH6.sees).int_at (i := (g : Int)) (by omega) (by omega)
 rw [Int.toNat_natCast, ← hx] at hcu6
 simp only [Option.some.injEq, Addr.mk.injEq, and_true] at eU
 obtain ⟨rfl, rfl⟩ := eU
 change ACode true _ _ _ _ _ (H5.put H1.size (.own 0 [.int .i64 (f.getD Zy).a, .int .i64 (f.getD Zy).b, .int .i64 (f.getD Zy).cost, .int .u64 (f.getD Zy).n]))
 rw [← hH6]
 clear hH6 hG6
 have habv : Yp T ns g = Yp T (ns.take g) g := Z9 hT (by omega) (fun j hj => (Vs hj).symm)
 refine Xu ?_
 refine Xa (Xo rfl) ?_
 refine Xa (Zz rfl) ?_
 refine X5 rfl rfl ?_ ?_
 intro hc4
 have hfn : f = none := by have h := hc4; cases f with | none => rfl | some r => cases h
 refine Yx ?_
 first
  | exact ⟨g, B, c, hg, Hp.le_trans leG hown.le, by omega, hgu, hgz, by rw [hlt] at hw; exact hw, fun h => absurd h hgl, hpath, e0, e3, e4, e6, e7⟩
  | exact ⟨g, B, c, hg, leH6, by omega, hgu6, hgz6, by rw [hlt] at hw6; exact hw6, fun _ => by rw [habv, ← hx, ← hf]; exact hfn, hpath, e0, e3, e4, e6, e7⟩
 intro hc4
 obtain ⟨l, hfl⟩ : ∃ l, f = some l := by have h := hc4; cases f with | none => cases h | some r => exact ⟨r, rfl⟩
 have hlm := (findB_iff (hT.sort _ _)).1 (hf.symm.trans hfl)
 have hpath2 : Path T (ns.take (g + 1)) := by
  rw [← take_more hgl, ← hx, ← hlm.2]
  exact path_snoc hT hpath (by omega) (by rw [hlt]; exact hlm.1)
 refine X9 ?_
 refine Yy (by kernel_rfl) (Y4 (B := [0, 0, 2, 6, 14, 0, 0, 96, 224, 480, 1022, 0, 2048, 2047, 10239, 26623, 65535]) (π := [0, 1, 2, 3, 4, 5, 6, 7, 8, 9, 11, 12, 10, 13, 14, 15, 16]) (by kernel_rfl)) ?_
 refine Xd rfl rfl (X0 Xm) Xq ?_
 refine Xd rfl rfl (X0 Xm) Xq ?_
 refine Xd rfl rfl (Yi rfl) Xq ?_
 refine Xd rfl rfl (Xf (off := 1) rfl Tryz.underlying167 rfl inf23.size (by decide) rfl) Xq ?_
 refine Xd rfl rfl (Xk rfl Tryz.underlying23 rfl Xp) Xq ?_
 refine Xd rfl rfl (Xk Xm Tryz.underlying23 Xm Xp) Xq ?_
 refine Xd rfl rfl (Xb Xm) Xq ?_
 refine Xd rfl rfl (Xt rfl rfl Tryz.underlying23 inf3.size X6 X6) Xq ?_
 refine Xd rfl rfl (Xk rfl Tryz.underlying3 rfl Xp) Xq ?_
 first | refine Zb rfl rfl (Yh (r := [.int .i64 _]) Tryz.underlying23 inf3.size inf3.zero rfl (by decide) (by decide) (by decide) rfl) ?_
 refine Xd rfl rfl (Xb Xm) Xq ?_
 refine Xd rfl rfl (Yn rfl rfl Y0) Xq ?_
 refine Ym rfl rfl (OwnP.append (ys := [x]) (hown6.push _) Tryz.underlying23 inf3 rfl rfl rfl (Zo (k := Y1 .i64) rfl rfl hown6.size rfl) (by simp only [List.length_singleton]; omega) (by simp only [List.length_singleton]; omega) ?_)
 rintro v9 G7 H7 hle7 hown7
 have hsameO := OwnP.sameO (hown6.push _) hle7 hown7
 obtain ⟨B7, c7, rfl⟩ := hown7.shape
 have le67 := Hp.le_trans (Hp.le_push _ _) hle7
 have z7 := le67.1
 have zz7 := hown7.size
 have gw7 := Xr le67 (by omega) (by intro e; cases e) gw6
 have gz7 := Xr le67 (by omega) (by intro e; cases e) gz6
 have gu7 := Xr le67 (by omega) (by intro e; cases e) gu6
 have hw7 := Xr hown7.le (by omega) (by intro e; cases e) gw7
 have hz7 := Xr hown7.le (by omega) (by intro e; cases e) gz7
 refine ⟨Yk, ?_⟩
 refine Xd rfl rfl (Yi rfl) Xq ?_
 refine Xd rfl rfl (Xf (off := 1) rfl Tryz.underlying167 rfl inf23.size (by decide) rfl) Xq ?_
 first | refine Ym rfl rfl (Y3 rfl rfl rfl inf23.size Yd Yg rfl ?_)
 refine ⟨Yk, ?_⟩
 refine Xd rfl rfl (Xi rfl) Xq ?_
 rw [hx, take_more hgl] at hown7
 have eq7 : (ns.take g ++ [x]).length = (ns.take (g + 1)).length := by rw [hx, take_more hgl]
 exact ⟨ns.length - (g + 1), by omega, g + 1, G7.put (H.size + 2) (.own 0 [.pointer (some ⟨tb, 0, none⟩), .slice B7 (ns.take g ++ [x]).length c7, .bool false, .bool false, .int .i64 0]), rfl, by omega, Hp.le_put_new (Hp.le_trans leHG6 le67) (by omega) _, ⟨B7, c7, by simp; omega, by rw [eq7]; exact Hp.put_same _ _ _, hown7.put (by rw [gw7]; intro e; cases e) _ (Hp.sees_box _ gw7)⟩, hpath2, by rw [Hp.put_other _ _ (by omega)]; exact gu7, by rw [Hp.put_other _ _ (by omega)]; exact gz7, e0, e3, e4, e6, rfl⟩
 intro hc3
 have hgl : ¬ g < ns.length := by have := of_decide_eq_false hc3; omega
 refine Yx ?_
 first
  | exact ⟨g, B, c, hg, Hp.le_trans leG hown.le, by omega, hgu, hgz, by rw [hlt] at hw; exact hw, fun h => absurd h hgl, hpath, e0, e3, e4, e6, e7⟩
  | exact ⟨g, B, c, hg, leH6, by omega, hgu6, hgz6, by rw [hlt] at hw6; exact hw6, fun _ => by rw [habv, ← hx, ← hf]; exact hfn, hpath, e0, e3, e4, e6, e7⟩
 rintro t H1 ⟨g, B, c, hg, leH1, z1, gu1, gz1, gw1, hend, hpath, e0, e3, e4, e6, e7⟩
 obtain ⟨m0, hm0⟩ : ∃ m0, m0 = (if g = ns.length then ns.length else g + 1) := ⟨_, rfl⟩
 have hm1 : m0 ≤ ns.length := by rw [hm0]; split <;> omega
 have hmin : (if (ns.length : Int) - 1 < (g : Int) then (ns.length : Int) - 1 else (g : Int)) = (m0 : Int) - 1 := by rw [hm0]; split <;> split <;> omega
 have hbeh : behN T ns = aftK T ns m0 := by
  rcases Nat.eq_zero_or_pos ns.length with h0 | h0
  ·have e1 : m0 = 0 := by omega
   rw [e1]
   obtain rfl : ns = [] := List.eq_nil_of_length_eq_zero h0
   unfold behN
   rw [← hlen]; rfl
  ·by_cases hgl : g = ns.length
   ·rw [if_pos hgl] at hm0
    have e1 : m0 = (ns.length - 1) + 1 := by omega
    rw [e1]
    refine beh_is hT hlen (by omega) (fun i hi => ?_) (.inl (by omega))
    rw [hgl, List.take_of_length_le (Nat.le_refl _)] at hpath
    exact path_take hT hpath (by omega) i hi
   ·rw [if_neg hgl] at hm0
    rw [hm0]
    exact beh_is hT hlen (by omega) hpath (.inr (hend (by omega)))
 have hpm : ∀ j, j < m0 → Path T (ns.take j) := fun j hj => by
  have hjg : j ≤ g := by rw [hm0] at hj; split at hj <;> omega
  have := path_take hT (k := j) hpath (by rw [List.length_take]; omega)
  rwa [List.take_take, Nat.min_eq_left hjg] at this
 refine Xe ?_
 refine Xe ?_
 refine Xu ?_
 refine Xa (Xb Xm) ?_
 refine Xa (Xk Xm Tryz.underlying23 Xm Xp) ?_
 refine Xa (Ys rfl Tryz.underlying23) ?_
 refine Xa (av_sub64 rfl rfl Y0) ?_
 refine Xa (av_min2 rfl rfl) ?_
 refine Xz (Yz (l := [.int .i64 0]) inf3.zero rfl (by decide)) ?_
 first | refine Xw (Y3 rfl rfl rfl inf3.size Yd Yg rfl ?_)
 refine Ye ?_
 refine Y5 (fun n t H' => ∃ (m : Nat) (bI : Nat) (X : Value), m = n ∧ m ≤ m0 ∧ (behN T ns).head? = (aftK T ns m).head? ∧ H.le H' ∧ H.size + 2 < bI ∧ bI < H'.size ∧ H'.get H.size = .own 0 [.slice AU ns.length cU] ∧ H'.get (H.size + 1) = .own 0 [.slice none 0 0, .int .i64 0, .int .u64 0] ∧ H'.get (H.size + 2) = .own 0 [.pointer (some ⟨tb, 0, none⟩), X, .bool false, .bool false, .int .i64 0] ∧ H'.get bI = .own 0 [.int .i64 ((m : Int) - 1)] ∧ t 0 = .pointer (some ⟨tb, 0, none⟩) ∧ t 3 = .pointer (some ⟨H.size, 0, none⟩) ∧ t 4 = .pointer (some ⟨H.size + 1, 0, none⟩) ∧ t 6 = .pointer (some ⟨H.size + 2, 0, none⟩) ∧ t 10 = .pointer (some ⟨bI, 0, none⟩)) (m0) (⟨m0, H1.size, _, rfl, Nat.le_refl _, by rw [hbeh], t_le, by omega, by simp, Yd, Yd, Yd, by rw [← hmin]; exact Hp.put_same _ _ _, e0, e3, e4, e6, rfl⟩) ?_
 rintro n t H2 ⟨m, bI, X, rfl, hm, hhead, leH2, zI, zI2, gu2, gz2, gw2, gI2, e0, e3, e4, e6, e10⟩
 refine Xe ?_
 refine Xe ?_
 refine Xu ?_
 refine Xa (Xk Xm Tryz.underlying3 Xm Xp) ?_
 refine Xa (av_ge rfl rfl) ?_
 refine X5 rfl rfl ?_ ?_
 intro hc5
 have hpos : 1 ≤ m := by have := of_decide_eq_true hc5; omega
 obtain ⟨j, hj⟩ : ∃ j, m = j + 1 := ⟨m - 1, by omega⟩
 subst hj
 have ej : ((j + 1 : Nat) : Int) - 1 = (j : Int) := by omega
 rw [ej] at gI2
 obtain ⟨AS, SS, slS, hSS, hcap⟩ := hu.caps (i := j) (by omega)
 have hlj : (ns.take j).length = j := by rw [List.length_take]; omega
 obtain ⟨x, hx⟩ : ∃ x, x = ns.getD j 0 := ⟨_, rfl⟩
 refine X9 ?_
 refine Xe ?_
 refine Ye ?_
 refine Xe ?_
 refine Xu ?_
 refine Xa (X0 Xm) ?_
 refine Xa (Xk Xm Tryz.underlying23 Xm Xp) ?_
 refine Xa (Xk Xm Tryz.underlying3 Xm Xp) ?_
 refine Xa (Xk Xm Tryz.underlying3 Xm Xp) ?_
 refine Xa (hcap _ _ _ _ _ _ _ _ _ _ _ _ _ _ _ leH2 Xm Tryz.underlying23 inf3.size Xm Xm) ?_
 refine Xa (Yi rfl) ?_
 refine Xa (Xf (off := 1) rfl Tryz.underlying167 rfl inf23.size (by decide) rfl) ?_
 first | refine Xw (Y3 rfl rfl rfl inf23.size Yd Yg rfl ?_)
 refine Xe ?_
 obtain ⟨H3, hH3⟩ : ∃ H3, H3 = H2.put (H.size + 2) (.own 0 [.pointer (some ⟨tb, 0, none⟩), .slice (some AS) j j, .bool false, .bool false, .int .i64 0]) := ⟨_, rfl⟩
 have leH3 : H.le H3 := by rw [hH3]; exact Hp.le_put_new leH2 (by omega) _
 have gu3 : H3.get H.size = .own 0 [.slice AU ns.length cU] := by rw [hH3, Hp.put_other _ _ (by omega)]; exact gu2
 have gz3 : H3.get (H.size + 1) = .own 0 [.slice none 0 0, .int .i64 0, .int .u64 0] := by rw [hH3, Hp.put_other _ _ (by omega)]; exact gz2
 have gw3 : H3.get (H.size + 2) = .own 0 [.pointer (some ⟨tb, 0, none⟩), .slice (some AS) j j, .bool false, .bool false, .int .i64 0] := by rw [hH3]; exact Hp.put_same _ _ _
 have gI3 : H3.get bI = .own 0 [.int .i64 j] := by rw [hH3, Hp.put_other _ _ (by omega)]; exact gI2
 have z3 : H3.size = H2.size := by rw [hH3]; simp
 change ACode true _ _ _ _ _ (H2.put (H.size + 2) (.own 0 [.pointer (some ⟨tb, 0, none⟩), .slice (some AS) j j, .bool false, .bool false, .int .i64 0]))
 rw [← hH3]
 clear hH3
 have leP : ∀ y, H.le (H3.push y) := fun y => Hp.le_push' leH3 y
 have gwP : ∀ y, (H3.push y).get (H.size + 2) = .own 0 [.pointer (some ⟨tb, 0, none⟩), .slice (some AS) (ns.take j).length j, .bool false, .bool false, .int .i64 0] := fun y => by rw [hlj, Hp.push_old _ _ (by omega)]; exact gw3
 have slP : ∀ y, Sl (Y1 .i64) (H3.push y) (.slice (some AS) (ns.take j).length j) (ns.take j) := fun y => by rw [hlj]; exact slS.mono (leP y).sees
 have habv : Yp T (ns.take j) j = Yp T ns j := Z9 hT (by omega) (fun i hi => Vs hi)
 refine Yy (by kernel_rfl) (Y4 (B := [0, 0, 0, 0, 12, 31, 0, 127]) (π := [0, 1, 2, 3, 6, 4, 5, 7]) (by kernel_rfl)) ?_
 refine Xd rfl rfl (X0 Xm) Xq ?_
 refine Xd rfl rfl (Xk Xm Tryz.underlying3 Xm Xp) Xq ?_
 refine Xd rfl rfl (X0 Xm) Xq ?_
 refine Xd rfl rfl (Xk Xm Tryz.underlying3 Xm Xp) Xq ?_
 refine Zb rfl rfl (Yz (l := [.slice none 0 0]) inf83.zero rfl (by decide)) ?_
 refine Ym rfl rfl (Xy (above_read hT (gwP _) (slP _) (ht.mono (leP _)) j (by omega) (by rw [hlj]; exact Nat.le_refl _)) rfl Tryz.func118 rfl rfl rfl ?_)
 rintro v7 H4 ⟨rfl, rfl⟩; rw [habv]
 refine ⟨Yk, ?_⟩
 refine Ym rfl rfl (Xy (Group_tree (ht.mono (leP _)) hT.l1 hT.l2 hT.lens (j : Int) _) rfl Tryz.func91 rfl rfl rfl ?_)
 rintro v8 H5 ⟨GL, leL, hownL⟩; obtain ⟨L, hL⟩ : ∃ L, L = T.group j (Yp T ns j) := ⟨_, rfl⟩; rw [← hL] at hownL; have slL := hownL.sl; obtain ⟨AL, cL, rfl⟩ := slL.shape; have le35 := Hp.le_trans leL hownL.le; have z5 := le35.1; simp only [Hp.push_size] at z5; have gq5 : H5.get H3.size = .own 0 [.slice none 0 0] := Xr le35 (by simp) (by intro e; cases e) Yd; have le5 := Hp.le_trans (H3.le_push _) le35
 refine ⟨Yk, ?_⟩
 first | refine Ym rfl rfl (Y3 rfl rfl rfl inf83.size Yd Yg rfl ?_)
 refine ⟨Yk, ?_⟩
 refine Xe ?_
 obtain ⟨H6, hH6⟩ : ∃ H6, H6 = H5.put H3.size (.own 0 [.slice AL L.length cL]) := ⟨_, rfl⟩
 have le6 : H3.le H6 := by rw [hH6]; exact Hp.le_put_new le5 (by omega) _
 have slH6 : Sl kLink H6 (.slice AL L.length cL) L := by rw [hH6]; exact slL.mono (Hp.sees_box _ gq5)
 have gq6 : H6.get H3.size = .own 0 [.slice AL L.length cL] := by rw [hH6]; exact Hp.put_same _ _ _
 have z6 : H6.size = H5.size := by rw [hH6]; simp
 have gu6 := Xr le6 (by omega) (by intro e; cases e) gu3
 have gz6 := Xr le6 (by omega) (by intro e; cases e) gz3
 have gw6 := Xr le6 (by omega) (by intro e; cases e) gw3
 have gI6 := Xr le6 (by omega) (by intro e; cases e) gI3
 have leH6 := Hp.le_trans leH3 le6
 have huH6 := hu.mono leH6.sees
 change ACode true _ _ _ _ _ (H5.put H3.size (.own 0 [.slice AL L.length cL]))
 rw [← hH6]
 clear hH6
 have hLl : L.length ≤ 1000000 := by rw [hL]; exact group_len hT.lens _ _
 have hLs : L.Pairwise fun x y => x.b < y.b := by rw [hL]; exact hT.sort _ _
 have hmono : ∀ (a b : Nat) (ha : a < L.length) (hb : b < L.length), a < b → L[a].b < L[b].b := fun a b ha hb h => List.pairwise_iff_getElem.1 hLs a b ha hb h
 have c1' : H6.cell? H3.size 0 = some (.slice AL L.length cL) := Z7 (cs := [.slice AL L.length cL]) gq6
 have c2' : H6.cell? H.size 0 = some (.slice AU ns.length cU) := Z7 (cs := [.slice AU ns.length cU]) gu6
 have c3' : H6.cell? bI 0 = some (.int .i64 j) := Z7 (cs := [.int .i64 j]) gI6
 have call1 : ∀ k, k < L.length → ACalls Tryz.prog 119 (#[.int .i64 (k : Nat)] ++ #[.pointer (some ⟨H3.size, 0, none⟩), .pointer (some ⟨H.size, 0, none⟩), .pointer (some ⟨bI, 0, none⟩)]) H6 (fun r H' => r = .bool (if h : k < L.length then decide (x < L[k].b) else true) ∧ H' = H6) := fun k hk =>
  ACalls.pure (R := fun r => r = .bool (if h : k < L.length then decide (x < L[k].b) else true)) (fun v h => by rw [h]; rfl) ((behind1_raw L ns AL AU cL cU k j H3.size H.size bI H6.ro (cell_ro c1') (cell_ro c2') (cell_ro c3') (slH6.mono H6.sees_ro) (huH6.mono H6.sees_ro) hk (by omega) (by show H3.size < H6.size; omega) (by show H.size < H6.size; omega) (by show bI < H6.size; omega)).mono fun r _ h => by rw [h, dif_pos hk, hx])
 have mono1 : ∀ a b, a ≤ b → b < L.length → (if h : a < L.length then decide (x < L[a].b) else true) = true → (if h : b < L.length then decide (x < L[b].b) else true) = true := fun a b hab hb h => by
  rw [dif_pos (by omega)] at h ⊢
  rcases Nat.lt_or_eq_of_le hab with h1 | h1
  ·have := hmono a b (by omega) hb h1
   have := of_decide_eq_true h
   exact decide_eq_true (by omega)
  ·subst h1; exact h
 refine Xu ?_
 refine Xa (Xk rfl Tryz.underlying83 rfl Xp) ?_
 refine Xa (Ys rfl Tryz.underlying83) ?_
 refine Xa (av_func0 (cs := #[.pointer (some ⟨H3.size, 0, none⟩), .pointer (some ⟨H.size, 0, none⟩), .pointer (some ⟨bI, 0, none⟩)]) (by show [Value.pointer (some ⟨H3.size, 0, none⟩), t 3, t 10] = [_, _, _]; rw [e3, e10])) ?_
 refine Xw (Xy (Search_gen L.length 119 _ #[.pointer (some ⟨H3.size, 0, none⟩), .pointer (some ⟨H.size, 0, none⟩), .pointer (some ⟨bI, 0, none⟩)] (fun k => if h : k < L.length then decide (x < L[k].b) else true) H6 Tryz.func119 rfl rfl call1 mono1 (by omega)) rfl Tryz.func82 rfl rfl rfl ?_)
 rintro v9 H6 ⟨⟨lo, rfl, hlo, hlo1, hlo2⟩, rfl⟩
 refine Xa (Xi rfl) ?_
 refine Xe ?_
 refine Xu ?_
 refine Xa (Xb rfl) ?_
 refine Xa (Xk rfl Tryz.underlying83 rfl Xp) ?_
 refine Xa (Ys rfl Tryz.underlying83) ?_
 refine Xa (Za rfl rfl) ?_
 refine X5 rfl rfl ?_ ?_
 intro hc6
 have hlt : lo < L.length := by have := of_decide_eq_true hc6; omega
 obtain ⟨bl, ol, el, hbl, hcl⟩ := slH6.link_at hlt
 subst el
 obtain ⟨l, hl'⟩ : ∃ l, l = L[lo] := ⟨_, rfl⟩
 rw [← hl'] at hcl
 have hclb := hcl 1 _ rfl
 have hnb : U0 L x = some l := by
  rw [hl']
  exact nextB_at hlt (by have := hlo2 lo (Nat.le_refl _) hlt; rw [dif_pos hlt] at this; exact of_decide_eq_true this) fun j hj h => by
   have := hlo1 j hj
   rw [dif_pos h] at this
   exact of_decide_eq_false this
 rw [hL, hx] at hnb
 obtain ⟨hp2, hh2⟩ := aft_head hT hA hlen (by omega) (hpm j (by omega)) hnb
 have slB := slS.mono leH6.sees
 have hl2 : (ns.take j ++ [l.b]).length = j + 1 := by rw [List.length_append, hlj]; rfl
 refine Xe ?_
 refine Yy (by kernel_rfl) (Y4 (B := [0, 0, 2, 6, 14, 0, 0, 96, 224, 480, 992, 2046, 4095, 8191, 8191, 32767, 65535]) (π := [0, 1, 2, 3, 4, 5, 6, 7, 8, 9, 10, 11, 12, 13, 14, 15, 16]) (by kernel_rfl)) ?_
 refine Xd rfl rfl (X0 Xm) Xq ?_
 refine Xd rfl rfl (X0 Xm) Xq ?_
 refine Xd rfl rfl (Yi rfl) Xq ?_
 refine Xd rfl rfl (Xf (off := 1) rfl Tryz.underlying167 rfl inf23.size (by decide) rfl) Xq ?_
 refine Xd rfl rfl (Xk rfl Tryz.underlying23 rfl Xp) Xq ?_
 refine Xd rfl rfl (Xk rfl Tryz.underlying83 rfl Xp) Xq ?_
 refine Xd rfl rfl (Xb rfl) Xq ?_
 refine Xd rfl rfl (Xt rfl rfl Tryz.underlying83 inf96.size X6 X6) Xq ?_
 refine Xd rfl rfl (Xf (off := 1) rfl Tryz.underlying96 rfl inf3.size (by decide) rfl) Xq ?_
 refine Xd rfl rfl (Xk rfl Tryz.underlying3 rfl Xp) Xq ?_
 first | refine Zb rfl rfl (Yh (r := [.int .i64 _]) Tryz.underlying23 inf3.size inf3.zero rfl (by decide) (by decide) (by decide) rfl) ?_
 refine Ym rfl rfl (Sl.grow (m := l.b) (slB.mono (Hp.le_push _ _).sees) Tryz.underlying23 inf3 rfl rfl rfl (Hp.push_new _ _) (by omega) (by omega) ?_)
 rintro H7 eH7 slG
 have le67 : H6.le H7 := by rw [eH7]; exact Hp.le_push' (H6.le_push _) _
 refine ⟨by rw [eH7]; exact Yk, ?_⟩
 have gz7 := Xr le67 (by omega) (by intro e; cases e) gz6
 have leH7 := Hp.le_trans leH6 le67
 have z7 := le67.1
 clear eH7
 refine Ym rfl rfl (Xy (least_walk hT hA (ht.mono leH7) slG hp2 (by omega) (by omega)) rfl Tryz.func120 rfl rfl rfl ?_)
 rintro v12 H8 ⟨le78, o, htl, A8, k8, rfl, sl8⟩; have gz8 := Xr le78 (by omega) (by intro e; cases e) gz7; have z8 := le78.1; have leH8 := Hp.le_trans leH7 le78
 refine ⟨Yk, ?_⟩
 refine Xd rfl rfl (Yj rfl rfl) Xq ?_
 refine Xd rfl rfl (Yj rfl rfl) Xq ?_
 refine Ym rfl rfl (Yf (vs := [.slice _ _ _, .int .i64 _, .int .u64 _]) Xm Xm inf46.size Yd Yg Xm Xm ?_)
 refine ⟨Yk, ?_⟩
 refine Xd rfl rfl (Xn rfl) Xq ?_
 refine X2 ?_
 rw [hl2, ] at htl
 exact ⟨_, Y8 (Yq Xm (Yo (cs := [_, _, _]) Tryz.underlying46 rfl inf46.size X8)) (Xs rfl), Hp.le_put_new leH8 (by omega) _, o, fun _ => ⟨by rw [htl.1, hhead, hh2], htl.2⟩, fun h => absurd hlen h, A8, k8, rfl, sl8.mono (Hp.sees_box _ gz8)⟩
 intro hc6
 have heq : lo = L.length := by have := of_decide_eq_false hc6; omega
 have hnb : U0 L x = none := nextB_no fun l hl => by
  obtain ⟨j, hj, rfl⟩ := List.getElem_of_mem hl
  have := hlo1 j (by omega)
  rw [dif_pos hj] at this
  exact of_decide_eq_false this
 rw [hL, hx] at hnb
 have haft := aft_none hnb
 refine X9 ?_
 refine Xe ?_
 refine Xe ?_
 refine Xu ?_
 refine Xa (Xk Xm Tryz.underlying3 Xm Xp) ?_
 refine Xu ?_
 refine Xz (Yz (l := [.int .i64 0]) inf3.zero rfl (by decide)) ?_
 first | refine Xw (Y3 rfl rfl rfl inf3.size Yd Yg rfl ?_)
 refine Xu ?_
 refine Xa (Xk rfl Tryz.underlying3 rfl Xp) ?_
 refine Xa (av_sub64 rfl rfl Y0) ?_
 first | refine Xw (Y3 rfl rfl rfl inf3.size Yd Yg rfl ?_)
 exact ⟨j, by omega, j, H6.size, _, rfl, by omega, by rw [hhead, haft], t_le, by omega, by simp, Yd, Yd, Yd, by rw [show (j : Int) - 1 = (j : Int) - 1 from rfl]; exact Yd, e0, e3, e4, e6, rfl⟩
 intro hc5
 have hpos : m = 0 := by have := of_decide_eq_false hc5; omega
 subst hpos
 refine Yx ?_
 refine Xe ?_
 refine Xu ?_
 refine Xa (Y6 (pl := [(0, 1), (1, 1), (2, 1)]) (r := [.slice _ _ _, .int .i64 _, .int .u64 _]) Tryz.underlying46 inf46.zero (by decide) rfl rfl) ?_
 refine Xw (Yf (vs := [.slice _ _ _, .int .i64 _, .int .u64 _]) Xm Xm inf46.size Yd Yg Xm Xm ?_)
 refine Xa (Xn rfl) ?_
 refine X2 ?_
 exact ⟨_, Y8 (Yq Xm (Yo (cs := [_, _, _]) Tryz.underlying46 rfl inf46.size X8)) (Xs rfl), t_le, none, fun _ => ⟨by rw [hhead]; rfl, fun r h => (by cases h)⟩, fun _ => rfl, Ui _⟩
theorem acc_most {T : TreeT} {ns : List Int} : ∀ i {c n : Int}, Z4 T ns i = some (c, n) → n ≤ 4611686018427387904
 | 0, c, n, h => by
  rw [Z4] at h
  injection h with h
  injection h with h1 h2
  omega
 | i + 1, c, n, h => by
  rw [Z4] at h
  obtain ⟨cn, _, h2⟩ := Option.bind_eq_some_iff.1 h
  obtain ⟨y, _, h4⟩ := Option.map_eq_some_iff.1 h2
  simp only [Prod.mk.injEq] at h4
  rw [← h4.2]
  unfold Zi
  have : Zh = 4611686018427387904 := rfl
  omega
theorem row_most {T : TreeT} {ns : List Int} {r : RowT} (h : Vm T ns = some r) : r.n ≤ 4611686018427387904 ∧ r.nodes = ns ∧ ns.length = T.vars.length := by
 unfold Vm at h
 split at h
 ·rename_i hl
  obtain ⟨cn, h1, h2⟩ := Option.map_eq_some_iff.1 h
  rw [← h2]
  exact ⟨acc_most _ h1, rfl, hl⟩
 ·cases h
def FitsT (T : TreeT) (m : MarkT) : Prop := Vt m ∧ (m.nodes.length = 0 ∨ ∃ r, Vm T m.nodes = some r ∧ m.rest < r.n)
def NextIs (T : TreeT) (m : MarkT) (o : Option RowT) (rest : Int) : Prop :=
 (m.over = true → o = none ∧ rest = 0) ∧ (m.over = false → m.nodes.length = 0 → o = (V4 T w0).2 ∧ rest = 0) ∧
 (m.over = false → m.nodes.length ≠ 0 → ∀ r, Vm T m.nodes = some r → (m.rest + 1 < r.n → o = some r ∧ rest = m.rest + 1) ∧ (¬ m.rest + 1 < r.n → TellsH T o (behN T m.nodes) ∧ rest = 0))
theorem fits_T {T : TreeT} (hT : GoodT T) {tb : Nat} (m : MarkT) (cs : List Value) (H : Hp) (ht : TreeR H (.pointer (some ⟨tb, 0, none⟩)) T) (hm : kMark.rep H m cs) (hb : BigM m) :
    ACalls Tryz.prog 58 #[.pointer (some ⟨tb, 0, none⟩), .agg cs.toArray] H (fun r H' => (∃ g, r = .bool g ∧ (g = true ↔ FitsT T m)) ∧ H.le H') := by
  have hm0 := hm
  obtain ⟨v, w, rfl, hv, hw⟩ := hm
  obtain ⟨A, c, rfl⟩ := hv.shape
  obtain ⟨W, cW, rfl⟩ := hw.shape
  have hbn := hb.n
  refine Xv Tryz.func58 rfl rfl rfl (by simp) ?_
  refine Xe ?_
  refine Xu ?_
  refine Xz (Yw rfl) ?_
  refine Xa (Xn rfl) ?_
  refine Xe ?_
  refine Xe ?_
  refine Xu ?_
  refine Xa (Yl (cs := [.int .i64 _, .bool _, .slice _ _ _, .int .u64 _, .slice _ _ _]) rfl Tryz.underlying33 rfl inf33.size X8) ?_
  refine Xw (Xy (good_36 m _ _ (kMark.mono (H.le_push _).sees hm0) hb) rfl Tryz.func75 rfl rfl rfl ?_)
  rintro v8 H1 ⟨⟨g, rfl, hg⟩, hH1⟩; subst hH1
  refine Xa (Zz rfl) ?_
  refine Xa (Xo rfl) ?_
  refine Ya rfl rfl rfl ?_ ?_
  intro hg1
  have hgf : g = false := by have h := hg1; simpa using h
  refine Xc (Xg rfl rfl rfl hg1 rfl) ?_
  refine Xc (Xg rfl rfl rfl hg1 rfl) ?_
  refine Xc (Xg rfl rfl rfl hg1 rfl) ?_
  refine Xc (Xg rfl rfl rfl hg1 rfl) ?_
  refine Xa (Xl (Yv hg1) rfl) ?_
  refine Yu rfl rfl ?_
  refine Xe ?_
  refine Xu ?_
  refine Xa (Yl (cs := [.int .i64 _, .bool _, .slice _ _ _, .int .u64 _, .slice _ _ _]) rfl Tryz.underlying33 rfl inf33.size X8) ?_
  refine Xw (Xy (good_36 m _ _ (kMark.mono (H.le_push _).sees hm0) hb) rfl Tryz.func75 rfl rfl rfl ?_)
  rintro v17 H1 ⟨⟨g2, rfl, hg2⟩, hH1⟩; subst hH1
  refine Xa (Xn rfl) ?_
  refine X2 ?_
  refine ⟨_, Xx (Xs rfl), ⟨g2, rfl, ?_⟩, H.le_push _⟩
  first
    | exact ⟨fun h => ⟨hg2.1 h, .inl hn0⟩, fun h => hg2.2 h.1⟩
    | exact ⟨fun h => (by have := hg.2 (hg2.1 h); rw [hgf] at this; cases this), fun h => hg2.2 h.1⟩
  intro hg1
  have hgt : g = true := by have h := hg1; simpa using h
  have hn12 := (hg.1 hgt).n
  refine Xj (Xh rfl rfl rfl hg1) (Xf (off := 2) rfl Tryz.underlying33 rfl inf23.size (by decide) rfl) ?_
  refine Xj (Xh rfl rfl rfl hg1) (Xk rfl Tryz.underlying23 rfl Xp) ?_
  refine Xj (Xh rfl rfl rfl hg1) (Ys rfl Tryz.underlying23) ?_
  refine Xj (Xh rfl rfl rfl hg1) (Zx rfl rfl) ?_
  refine Xa (Xl (Yv hg1) rfl) ?_
  refine X5 rfl rfl ?_ ?_
  intro hc3
  have hn0 : m.nodes.length = 0 := by have := of_decide_eq_true hc3; omega
  refine Xe ?_
  refine Xu ?_
  refine Xa (Yl (cs := [.int .i64 _, .bool _, .slice _ _ _, .int .u64 _, .slice _ _ _]) rfl Tryz.underlying33 rfl inf33.size X8) ?_
  refine Xw (Xy (good_36 m _ _ (kMark.mono (H.le_push _).sees hm0) hb) rfl Tryz.func75 rfl rfl rfl ?_)
  rintro v17 H1 ⟨⟨g2, rfl, hg2⟩, hH1⟩; subst hH1
  refine Xa (Xn rfl) ?_
  refine X2 ?_
  refine ⟨_, Xx (Xs rfl), ⟨g2, rfl, ?_⟩, H.le_push _⟩
  first
    | exact ⟨fun h => ⟨hg2.1 h, .inl hn0⟩, fun h => hg2.2 h.1⟩
    | exact ⟨fun h => (by have := hg.2 (hg2.1 h); rw [hgf] at this; cases this), fun h => hg2.2 h.1⟩
  intro hc3
  have hn0 : ¬ m.nodes.length = 0 := by have := of_decide_eq_false hc3; omega
  refine X9 ?_
  refine Xe ?_
  refine Xu ?_
  refine Xa (X0 rfl) ?_
  refine Xa (Xf (off := 2) rfl Tryz.underlying33 rfl inf23.size (by decide) rfl) ?_
  refine Xa (Xk rfl Tryz.underlying23 rfl Xp) ?_
  refine Xw (Xy (Row_rowT (ht.mono (H.le_push _)) hT (hv.mono (H.le_push _).sees) (by omega)) rfl Tryz.func72 rfl rfl rfl ?_)
  rintro v22 H2 ⟨G2, A2, c2, le2, rfl, hown2⟩; have le12 := Hp.le_trans le2 hown2.le; have z2 := le12.1; simp only [Hp.push_size] at z2; have g20 := Xr le12 (by simp) (by intro e; cases e) (Hp.push_new H (.own 0 [.int .i64 m.told, .bool m.over, .slice A m.nodes.length c, .int .u64 m.rest, .slice W m.items.length cW]))
  refine Xa (Zm rfl) ?_
  refine Xa (Yj rfl rfl) ?_
  refine Xa (Yj rfl rfl) ?_
  refine Xz (Yz (l := [.slice none 0 0, .int .i64 0, .int .u64 0]) inf46.zero rfl (by decide)) ?_
  refine Xw (Yf (vs := [.slice _ _ _, .int .i64 _, .int .u64 _]) rfl rfl inf46.size Yd Yg rfl rfl ?_)
  refine Xa (Xn rfl) ?_
  refine Xe ?_
  refine Xu ?_
  refine Xa (Xo rfl) ?_
  refine Xa (Xo rfl) ?_
  refine Ya rfl rfl rfl ?_ ?_
  intro hg4
  have hok : (Vm T m.nodes).isSome = true := hg4
  obtain ⟨r, hr⟩ := Option.isSome_iff_exists.1 hok
  refine Xj (Xh rfl rfl rfl hg4) (Xf (off := 3) rfl Tryz.underlying33 rfl inf30.size (by decide) rfl) ?_
  refine Xj (Xh rfl rfl rfl hg4) (Xk rfl Tryz.underlying30 rfl Xp) ?_
  refine Xj (Xh rfl rfl rfl hg4) (Xf (off := 2) rfl Tryz.underlying46 rfl inf30.size (by decide) rfl) ?_
  refine Xj (Xh rfl rfl rfl hg4) (Xk rfl Tryz.underlying30 rfl Xp) ?_
  refine Xj (Xh rfl rfl rfl hg4) (Za rfl rfl) ?_
  refine Xa (Xl (Yv hg4) rfl) ?_
  refine Xa (Xn rfl) ?_
  refine X2 ?_
  · refine ⟨_, Xx (Xs rfl), ⟨_, rfl, ?_⟩, Hp.le_put_new (Hp.le_push' (Hp.le_trans (H.le_push _) le12) _) (by first | omega | (simp; done) | (simp; omega)) _⟩
    first
      | exact ⟨fun h => ⟨hg.1 hgt, .inr ⟨r, hr, by have h2 := of_decide_eq_true h; rw [hr] at h2; exact h2⟩⟩, fun h => decide_eq_true (by
          rcases h.2 with h2 | ⟨r2, h2, h3⟩
          · exact absurd h2 hn0
          · rw [h2]; exact h3)⟩
      | exact ⟨fun h => (by cases h), fun h => (by
          rcases h.2 with h2 | ⟨r2, h2, h3⟩
          · exact absurd h2 hn0
          · rw [hr] at h2; cases h2)⟩
  intro hg4
  have hok : (Vm T m.nodes).isSome = false := hg4
  have hr : Vm T m.nodes = none := by cases h : Vm T m.nodes with | none => rfl | some r => rw [h] at hok; cases hok
  refine Xc (Xg rfl rfl rfl hg4 rfl) ?_
  refine Xc (Xg rfl rfl rfl hg4 rfl) ?_
  refine Xc (Xg rfl rfl rfl hg4 rfl) ?_
  refine Xc (Xg rfl rfl rfl hg4 rfl) ?_
  refine Xc (Xg rfl rfl rfl hg4 rfl) ?_
  refine Xa (Xl (Yv hg4) rfl) ?_
  refine Xa (Xn rfl) ?_
  refine X2 ?_
  · refine ⟨_, Xx (Xs rfl), ⟨_, rfl, ?_⟩, Hp.le_put_new (Hp.le_push' (Hp.le_trans (H.le_push _) le12) _) (by first | omega | (simp; done) | (simp; omega)) _⟩
    first
      | exact ⟨fun h => ⟨hg.1 hgt, .inr ⟨r, hr, by have h2 := of_decide_eq_true h; rw [hr] at h2; exact h2⟩⟩, fun h => decide_eq_true (by
          rcases h.2 with h2 | ⟨r2, h2, h3⟩
          · exact absurd h2 hn0
          · rw [h2]; exact h3)⟩
      | exact ⟨fun h => (by cases h), fun h => (by
          rcases h.2 with h2 | ⟨r2, h2, h3⟩
          · exact absurd h2 hn0
          · rw [hr] at h2; cases h2)⟩
set_option maxHeartbeats 2000000 in
theorem behind_T {T : TreeT} (hT : GoodT T) (hA : U3 T) {tb : Nat} (m : MarkT) (cs : List Value) (H : Hp) (ht : TreeR H (.pointer (some ⟨tb, 0, none⟩)) T) (hm : kMark.rep H m cs) (hf : FitsT T m) (hr0 : 0 ≤ m.rest) :
    ACalls Tryz.prog 59 #[.pointer (some ⟨tb, 0, none⟩), .agg cs.toArray] H (fun r H' => (∃ (o : Option RowT) (rest : Int) (A : Option Addr) (c : Nat), r = .tuple #[.agg #[.slice A (Uy o).length c, .int .i64 (rowC o), .int .u64 (rowM o)], .int .u64 rest, .bool o.isSome] ∧ Sl (Y1 .i64) H' (.slice A (Uy o).length c) (Uy o) ∧ NextIs T m o rest) ∧ H.le H') := by
  obtain ⟨v, w, rfl, hv, hw⟩ := hm
  obtain ⟨A, c, rfl⟩ := hv.shape
  obtain ⟨W, cW, rfl⟩ := hw.shape
  have hn12 := hf.1.n
  refine Xv Tryz.func59 rfl rfl rfl (by simp) ?_
  refine Xe ?_
  refine Xu ?_
  refine Xz (Yw rfl) ?_
  refine Xz (Yz (l := [.slice none 0 0, .int .i64 0, .int .u64 0]) inf46.zero rfl (by decide)) ?_
  refine Xa (Xi rfl) ?_
  refine Xa (Xn rfl) ?_
  refine Xe ?_
  refine Xe ?_
  refine Xu ?_
  refine Xa (Xf (off := 1) rfl Tryz.underlying33 rfl inf4.size (by decide) rfl) ?_
  refine Xa (Xk rfl Tryz.underlying4 rfl Xp) ?_
  refine X5 rfl rfl ?_ ?_
  intro hc1
  have ho : m.over = true := hc1
  refine Xe ?_
  refine Xu ?_
  refine Xa (Y6 (pl := [(0, 1), (1, 1), (2, 1)]) (r := [.slice _ _ _, .int .i64 _, .int .u64 _]) Tryz.underlying46 inf46.zero (by decide) rfl rfl) ?_
  refine Xw (Yf (vs := [.slice _ _ _, .int .i64 _, .int .u64 _]) rfl rfl inf46.size Yd Yg rfl rfl ?_)
  refine Xa (Xi rfl) ?_
  refine Xa (Xn rfl) ?_
  refine X2 ?_
  · exact ⟨_, Vg (Yq Xm (Yo (cs := [_, _, _]) Tryz.underlying46 rfl inf46.size X8)) (Xs rfl) (Xs rfl), ⟨none, 0, none, 0, rfl, Sl.nil _ _, fun _ => ⟨rfl, rfl⟩, fun h => (by rw [ho] at h; cases h), fun h => (by rw [ho] at h; cases h)⟩, Hp.le_put_new (Hp.le_push' (H.le_push _) _) (by first | omega | (simp; done) | (simp; omega)) _⟩
  intro hc1
  have ho : m.over = false := hc1
  refine X9 ?_
  refine Xe ?_
  refine Xe ?_
  refine Xu ?_
  refine Xa (Xf (off := 2) rfl Tryz.underlying33 rfl inf23.size (by decide) rfl) ?_
  refine Xa (Xk rfl Tryz.underlying23 rfl Xp) ?_
  refine Xa (Ys rfl Tryz.underlying23) ?_
  refine Xa (Zx rfl rfl) ?_
  refine X5 rfl rfl ?_ ?_
  intro hc2
  have hn0 : m.nodes.length = 0 := by have := of_decide_eq_true hc2; omega
  refine Xe ?_
  refine Xu ?_
  refine Xa (X0 rfl) ?_
  refine Xw (Xy (First_gen hT hA (some ⟨tb, 0, none⟩) w0 (.inl rfl) (fun H => fresh_tree tb H) _ (fun _ => ht.mono t_le)) rfl Tryz.func88 rfl rfl rfl ?_)
  rintro v22 H1 ⟨le1, A1, c1', rfl, hs1⟩; have z1 := le1.1; simp only [Hp.push_size] at z1; have g1 : H1.get (H.size + 1) = .own 0 [.slice none 0 0, .int .i64 0, .int .u64 0] := Xr le1 (by simp) (by intro e; cases e) Yd
  refine Xa (Zm rfl) ?_
  refine Xa (Yj rfl rfl) ?_
  refine Xa (Yj rfl rfl) ?_
  refine Xz (Yz (l := [.slice none 0 0, .int .i64 0, .int .u64 0]) inf46.zero rfl (by decide)) ?_
  refine Xw (Yf (vs := [.slice _ _ _, .int .i64 _, .int .u64 _]) rfl rfl inf46.size Yd Yg rfl rfl ?_)
  refine Xa (Xn rfl) ?_
  refine Xe ?_
  refine Xu ?_
  refine Xa (Yl (cs := [.slice _ _ _, .int .i64 _, .int .u64 _]) rfl Tryz.underlying46 rfl inf46.size X8) ?_
  refine Xa (Xo rfl) ?_
  refine Xw (Yf (vs := [.slice _ _ _, .int .i64 _, .int .u64 _]) rfl rfl inf46.size Yd Yg rfl rfl ?_)
  refine Xa (Xi rfl) ?_
  refine Xa (Xn rfl) ?_
  refine X2 ?_
  · refine ⟨_, Vg (Yq Xm (Yo (cs := [_, _, _]) Tryz.underlying46 rfl inf46.size X8)) (Xs rfl) (Xs rfl), ⟨_, 0, A1, c1', rfl, ?_, fun h => (by rw [ho] at h; cases h), fun _ _ => ⟨rfl, rfl⟩, fun _ h => absurd hn0 h⟩, Hp.le_put_new (Hp.le_put_new (Hp.le_push' (Hp.le_trans (Hp.le_push' (H.le_push _) _) le1) _) (by first | omega | (simp; done) | (simp; omega)) _) (by first | omega | (simp; done) | (simp; omega)) _⟩
    refine ((hs1.mono (H1.le_push (.own 0 [.slice none 0 0, .int .i64 0, .int .u64 0])).sees).mono (Hp.sees_box (cs := [.slice none 0 0, .int .i64 0, .int .u64 0]) _ (Hp.push_new _ _))).mono (Hp.sees_box (cs := [.slice none 0 0, .int .i64 0, .int .u64 0]) _ ?_)
    rw [Hp.put_other _ _ (by first | omega | (simp; done) | (simp; omega))]
    exact (Hp.push_old _ _ (by first | omega | (simp; done) | (simp; omega))).trans g1
  intro hc2
  have hn0 : ¬ m.nodes.length = 0 := by have := of_decide_eq_false hc2; omega
  obtain ⟨r, hrow, hrr⟩ := hf.2.resolve_left hn0
  obtain ⟨hrm, hrn, hrl⟩ := row_most hrow
  have hwr : IntKind.u64.wrap (m.rest + 1) = m.rest + 1 := wrap_u64a (by omega) (by omega)
  refine X9 ?_
  refine Xe ?_
  refine Xe ?_
  refine Xu ?_
  refine Xa (X0 rfl) ?_
  refine Xa (Xf (off := 2) rfl Tryz.underlying33 rfl inf23.size (by decide) rfl) ?_
  refine Xa (Xk rfl Tryz.underlying23 rfl Xp) ?_
  refine Xw (Xy (Row_rowT (ht.mono t_le) hT (hv.mono Zp) (by omega)) rfl Tryz.func72 rfl rfl rfl ?_)
  rintro v31 H2 ⟨G2, A2, c2, le2, rfl, hown2⟩; rw [hrow] at hown2 ⊢; have le12 := Hp.le_trans le2 hown2.le; have z2 := le12.1; simp only [Hp.push_size] at z2; have sl2 := hown2.sl; have g20 : H2.get H.size = .own 0 [.int .i64 m.told, .bool m.over, .slice A m.nodes.length c, .int .u64 m.rest, .slice W m.items.length cW] := Xr le12 (by simp <;> omega) (by intro e; cases e) Yd; have g21 : H2.get (H.size + 1) = .own 0 [.slice none 0 0, .int .i64 0, .int .u64 0] := Xr le12 (by simp) (by intro e; cases e) Yd; have leH2 : H.le H2 := Hp.le_trans (Hp.le_push' (H.le_push _) _) le12
  refine Xa (Zm rfl) ?_
  refine Xa (Yj rfl rfl) ?_
  refine Xa (Yj rfl rfl) ?_
  refine Xz (Yz (l := [.slice none 0 0, .int .i64 0, .int .u64 0]) inf46.zero rfl (by decide)) ?_
  refine Xw (Yf (vs := [.slice _ _ _, .int .i64 _, .int .u64 _]) rfl rfl inf46.size Yd Yg rfl rfl ?_)
  refine Xa (Xn rfl) ?_
  refine Xe ?_
  obtain ⟨H3, hH3⟩ : ∃ H3, H3 = (H2.push (.own 0 [.slice none 0 0, .int .i64 0, .int .u64 0])).put H2.size (.own 0 [.slice A2 (Uy (some r)).length c2, .int .i64 (rowC (some r)), .int .u64 (rowM (some r))]) := ⟨_, rfl⟩
  have le23 : H2.le H3 := by rw [hH3]; exact Hp.le_put_new (H2.le_push _) (Nat.le_refl _) _
  have g3 : H3.get H2.size = .own 0 [.slice A2 (Uy (some r)).length c2, .int .i64 (rowC (some r)), .int .u64 (rowM (some r))] := by rw [hH3]; exact Hp.put_same _ _ _
  have z3 : H3.size = H2.size + 1 := by rw [hH3]; simp
  change ACode true _ _ _ _ _ ((H2.push (.own 0 [.slice none 0 0, .int .i64 0, .int .u64 0])).put H2.size (.own 0 [.slice A2 (Uy (some r)).length c2, .int .i64 (rowC (some r)), .int .u64 (rowM (some r))]))
  rw [← hH3]
  clear hH3
  have g30 := Xr le23 (by omega) (by intro e; cases e) g20
  have g31 := Xr le23 (by omega) (by intro e; cases e) g21
  have sl3 := sl2.mono le23.sees
  have leH3 := Hp.le_trans leH2 le23
  refine Xu ?_
  refine Xa (Xf (off := 3) rfl Tryz.underlying33 rfl inf30.size (by decide) rfl) ?_
  refine Xa (Xk rfl Tryz.underlying30 rfl Xp) ?_
  refine Xa (av_addn_is hwr rfl rfl) ?_
  refine Xa (Xf (off := 2) rfl Tryz.underlying46 rfl inf30.size (by decide) rfl) ?_
  refine Xa (Xk rfl Tryz.underlying30 rfl Xp) ?_
  refine Xa (Za rfl rfl) ?_
  refine X5 rfl rfl ?_ ?_
  intro hc3
  have hlt : m.rest + 1 < r.n := of_decide_eq_true hc3
  refine Xe ?_
  refine Yy (by kernel_rfl) (Y4 (B := [0, 0, 2, 6, 1, 31, 63]) (π := [0, 1, 2, 3, 4, 5, 6]) (by kernel_rfl)) ?_
  refine Xd rfl rfl (Yl (cs := [.slice _ _ _, .int .i64 _, .int .u64 _]) rfl Tryz.underlying46 rfl inf46.size X8) Xq ?_
  refine Xd rfl rfl (Xf (off := 3) rfl Tryz.underlying33 rfl inf30.size (by decide) rfl) Xq ?_
  refine Xd rfl rfl (Xk rfl Tryz.underlying30 rfl Xp) Xq ?_
  refine Xd rfl rfl (av_addn_is hwr rfl rfl) Xq ?_
  refine Ym rfl rfl (Yf (vs := [.slice _ _ _, .int .i64 _, .int .u64 _]) rfl rfl inf46.size Yd Yg rfl rfl ?_)
  refine ⟨Yk, ?_⟩
  refine Xd rfl rfl (Xi rfl) Xq ?_
  refine Xd rfl rfl (Xn rfl) Xq ?_
  refine X2 ?_
  · exact ⟨_, Vg (Yq Xm (Yo (cs := [_, _, _]) Tryz.underlying46 rfl inf46.size X8)) (Xs rfl) (Xs rfl), ⟨some r, m.rest + 1, A2, c2, rfl, sl3.mono (Hp.sees_box _ g31), fun h => (by rw [ho] at h; cases h), fun _ h => absurd h hn0, fun _ _ r' hr' => (by
      rw [hrow] at hr'
      injection hr' with hr'
      subst hr'
      exact ⟨fun _ => ⟨rfl, rfl⟩, fun h => absurd hlt h⟩)⟩, Hp.le_put_new leH3 (by first | omega | (simp; done) | (simp; omega)) _⟩
  intro hc3
  have hlt : ¬ m.rest + 1 < r.n := of_decide_eq_false hc3
  refine X9 ?_
  refine Xe ?_
  refine Xu ?_
  refine Xa (X0 rfl) ?_
  refine Xa (Xf (off := 2) rfl Tryz.underlying33 rfl inf23.size (by decide) rfl) ?_
  refine Xa (Xk rfl Tryz.underlying23 rfl Xp) ?_
  refine Xw (Xy (Behind_walk hT hA (ht.mono leH3) (hv.mono leH3.sees) (by omega)) rfl Tryz.func89 rfl rfl rfl ?_)
  rintro v48 H4 ⟨le4, o, ho1, ho2, A4, c4, rfl, sl4⟩; have z4 := le4.1; have g41 := Xr le4 (by omega) (by intro e; cases e) g31; have leH4 := Hp.le_trans leH3 le4
  refine Xa (Zm rfl) ?_
  refine Xa (Yj rfl rfl) ?_
  refine Xa (Yj rfl rfl) ?_
  refine Xz (Yz (l := [.slice none 0 0, .int .i64 0, .int .u64 0]) inf46.zero rfl (by decide)) ?_
  refine Xw (Yf (vs := [.slice _ _ _, .int .i64 _, .int .u64 _]) rfl rfl inf46.size Yd Yg rfl rfl ?_)
  refine Xa (Xn rfl) ?_
  refine Xe ?_
  refine Xu ?_
  refine Xa (Yl (cs := [.slice _ _ _, .int .i64 _, .int .u64 _]) rfl Tryz.underlying46 rfl inf46.size X8) ?_
  refine Xa (Xo rfl) ?_
  refine Xw (Yf (vs := [.slice _ _ _, .int .i64 _, .int .u64 _]) rfl rfl inf46.size Yd Yg rfl rfl ?_)
  refine Xa (Xi rfl) ?_
  refine Xa (Xn rfl) ?_
  refine X2 ?_
  · refine ⟨_, Vg (Yq Xm (Yo (cs := [_, _, _]) Tryz.underlying46 rfl inf46.size X8)) (Xs rfl) (Xs rfl), ⟨o, 0, A4, c4, rfl, ?_, fun h => (by rw [ho] at h; cases h), fun _ h => absurd h hn0, fun _ _ r' hr' => ?_⟩, Hp.le_put_new (Hp.le_put_new (Hp.le_push' leH4 _) (by first | omega | (simp; done) | (simp; omega)) _) (by first | omega | (simp; done) | (simp; omega)) _⟩
    · refine ((sl4.mono (H4.le_push (.own 0 [.slice none 0 0, .int .i64 0, .int .u64 0])).sees).mono (Hp.sees_box (cs := [.slice none 0 0, .int .i64 0, .int .u64 0]) _ (Hp.push_new _ _))).mono (Hp.sees_box (cs := [.slice none 0 0, .int .i64 0, .int .u64 0]) _ ?_)
      rw [Hp.put_other _ _ (by first | omega | (simp; done) | (simp; omega))]
      exact (Hp.push_old _ _ (by first | omega | (simp; done) | (simp; omega))).trans g41
    · rw [hrow] at hr'
      injection hr' with hr'
      subst hr'
      exact ⟨fun h => absurd h hlt, fun _ => ⟨ho1 hrl, rfl⟩⟩
end Go.Proofs.YtmakkmcjocjgmaaGreat.Am
