/- Texts that the proof rests on, part 6: lemmas for every heap that is related to a world, no condition beyond each lemma's own. -/
import Derived.Test.YtcaeoebphfjfiaaGreatCb5
import Derived.Test.YtcaeoebphfjfiaaGreatCbOwnL
import Derived.Test.YtcaeoebphfjfiaaGreatCb3
import Derived.Test.YtcaeoebphfjfiaaGreatCbGrow
import Derived.Test.YtcaeoebphfjfiaaGreatCb4

/- A place is counted: the walk. -/
namespace Go.Proofs.YtcaeoebphfjfiaaGreat.Am
open Go Go.RowKit
set_option maxRecDepth 100000
set_option linter.unusedVariables false
set_option linter.unusedSimpArgs false

theorem av_lookup2_is {P : Program} {t : Fr} {H : Hp} {d : Option Tmp} {ty : TypeId} {pos : String} {after : Array Edge} {guard : Option (Nat × Bool)} {mt kt et : TypeId} {K : Value → Prop} {x y : Operand} {b : Nat} {es : List (Value × Value)} {k z v : Value} {is : Bool} (hv : (Y0 es k).getD z = v) (hi : (Y0 es k).isSome = is) (hu : P.underlying mt = some (.map kt et)) (hK : KeyTy P kt K) (hz : (P.info? et).map (·.zero) = some (some z)) (hp : ∀ φ : Inj, VRel φ z z)
    (hx : t.eval x = .map (some b)) (hy : t.eval y = k) (hk : K k) (hb : H.get b = .map es ∨ H.get b = .romap es) (hes : ∀ e ∈ es, K e.1) :
    AVal P ⟨d, .lookup mt x y true, ty, pos, after, guard⟩ t [b] H (.tuple #[v, .bool is]) := by
  subst hv hi
  exact av_lookup2 hu hK hz hp hx hy hk hb hes
set_option maxHeartbeats 4000000 in
theorem fill_cnt {T : TreeT} (hT : GoodT T) (hF : FewA T) {tb cb mb ms : Nat} {K : Hp} (htK : TreeR K (.pointer (some ⟨tb, 0, none⟩)) T) (d i : Nat) (hid : i < d) (hiv : i < T.vars.length) {H : Hp} (zb : K.size ≤ mb) (zs : K.size ≤ ms) (zc : K.size ≤ cb) (hne : mb ≠ ms) {es10 es20 : List (Value × Value)}
    (h0 : FillS T K tb cb mb ms i es10 es20 H es10 es20) (hkid : ∀ k ∈ kidsT T i, ∀ b ∈ Zu T (d + 1) k, cntAt es20 k b = Vq T T.vars.length k b) :
    ACalls Tryz.prog 58 #[.pointer (some ⟨cb, 0, none⟩), .int .i64 i] H (fun r H' => ∃ es1 es2, FillS T K tb cb mb ms i es10 es20 H' es1 es2 ∧ (∀ a ∈ Zu T d i, Y0 es2 (Y7 i a) = some (.int .u64 (Vq T T.vars.length i a))) ∧ (∀ a ∈ Zu T d i, ∀ x ∈ T.group i a, Y0 es1 (Y7 i x.b) = some (.int .u64 (Z6 T T.vars.length i x.b)))) := by
  refine Xu Tryz.func58 rfl rfl rfl (by simp) ?_
  refine Xf ?_
  refine Xc (by kernel_rfl) ?_
  refine Xa (X9 rfl) ?_
  refine Xa (Xb rfl) ?_
  refine X5 (X0 (above_cnt hT hF d i hid hiv _ h0.hc h0.lc (htK.mono h0.le)) rfl Tryz.func82 rfl rfl rfl ?_)
  rintro v15 H1 ⟨le1, slL⟩; obtain ⟨L, hL⟩ : ∃ L, L = Zu T d i := ⟨_, rfl⟩; rw [← hL] at slL; have hLl := (hF d i).2; rw [← hL] at hLl; obtain ⟨AA, cA, rfl⟩ := slL.shape; have h1 := h0.later le1; have zL := le1.1; have hkidlen : (kidsT T i).length ≤ 1000 := Nat.le_trans (List.length_filter_le _ _) (by rw [List.length_range, hT.l1]; exact hT.few); have hbelow : belowL T.parent i = (kidsT T i).map (fun (k : Nat) => (k : Int)) := (by unfold belowL; rw [if_neg (by omega)]; rfl)
  refine Xa (Yl rfl Tryz.underlying23) ?_
  refine Xa (Xb rfl) ?_
  refine X3 ?_
  refine Yt (fun n t H' => ∃ (j : Nat) (es1 es2 : List (Value × Value)) (D : Option Addr), n = L.length - j ∧ j ≤ L.length ∧ FillS T K tb cb mb ms i es10 es20 H' es1 es2 ∧ Sl (Y6 .i64) H' (.slice D L.length cA) L ∧ (∀ a ∈ L.take j, Y0 es2 (Y7 i a) = some (.int .u64 (Vq T T.vars.length i a))) ∧ (∀ a ∈ L.take j, ∀ x ∈ T.group i a, Y0 es1 (Y7 i x.b) = some (.int .u64 (Z6 T T.vars.length i x.b))) ∧ t 0 = .pointer (some ⟨cb, 0, none⟩) ∧ t 1 = .int .i64 i ∧ t 15 = .slice D L.length cA ∧ t 16 = .int .i64 L.length ∧ t 17 = .int .i64 j) (L.length) (⟨0, es10, es20, _, rfl, Nat.zero_le _, h1, slL, fun a h => (by simp at h), fun a h => (by simp at h), rfl, rfl, rfl, rfl, rfl⟩) ?_
  rintro n t H2 ⟨j, es1, es2, D, rfl, hj, hS, slA, hd2, hd1, e0, e1, e15, e16, e17⟩
  refine Xf ?_
  refine Xc (by kernel_rfl) ?_
  refine Xa (Yw Xi Xi) ?_
  refine Xf ?_
  refine X1 rfl rfl ?_ ?_
  intro hc1
  have hjl : j < L.length := by have := of_decide_eq_true hc1; omega
  obtain ⟨bA, oA, eA, hbA, hcA⟩ := slA.int_at (i := (j : Int)) (by omega) (by omega)
  rw [Int.toNat_natCast] at hcA
  obtain ⟨a, ha⟩ : ∃ a, a = L.getD j 0 := ⟨_, rfl⟩
  rw [← ha] at hcA
  subst eA
  have haL : a ∈ Zu T d i := by rw [← hL, ha, Zf hjl]; exact List.getElem_mem hjl
  have hcb2 := hS.hc
  refine X6 ?_
  refine Xf ?_
  refine X3 ?_
  refine Xf ?_
  refine Xc (by kernel_rfl) ?_
  refine Xa (Xo Xi Xi Tryz.underlying23 inf3.size Xy Xy) ?_
  refine Xa (Xl rfl Tryz.underlying3 rfl Xq) ?_
  refine Xa (Xg rfl) ?_
  refine Xf ?_
  refine Xc (by kernel_rfl) ?_
  refine Xa (Xg rfl) ?_
  refine Xf ?_
  refine Xf ?_
  refine Xc (by kernel_rfl) ?_
  refine Xa (X9 Xi) ?_
  refine Xa (Yo rfl) ?_
  refine Xa (Xh (off := 0) rfl Tryz.underlying92 rfl inf32.size (by decide) rfl) ?_
  refine Xa (Xl rfl Tryz.underlying32 rfl Xq) ?_
  refine Xa (Xb Xi) ?_
  refine Xa (Xb rfl) ?_
  refine X5 (X0 (Group_tree (htK.mono hS.le) hT.l1 hT.l2 hT.lens (i : Int) _) rfl Tryz.func66 rfl rfl rfl ?_)
  rintro v27 H5 ⟨GL, leL, hownL⟩; obtain ⟨g, hg⟩ : ∃ g, g = T.group i a := ⟨_, rfl⟩; rw [← hg] at hownL; have slg := hownL.sl; obtain ⟨AG, cG, rfl⟩ := slg.shape; have le25 := Hp.le_trans leL hownL.le; have hS5 := hS.later le25; have slA5 := slA.mono le25.sees; have hgl := group_len hT.lens (i : Int) a; rw [← hg] at hgl
  refine Xa (Yl rfl Tryz.underlying68) ?_
  refine Xa (Xb rfl) ?_
  refine X3 ?_
  refine Yt (fun n t H' => ∃ (m : Nat) (es1' : List (Value × Value)) (D1 D2 : Option Addr), n = g.length - m ∧ m ≤ g.length ∧ FillS T K tb cb mb ms i es10 es20 H' es1' es2 ∧ Sl (Y6 .i64) H' (.slice D1 L.length cA) L ∧ Sl kLink H' (.slice D2 g.length cG) g ∧ (∀ b v, Y0 es1 (Y7 i b) = some v → Y0 es1' (Y7 i b) = some v) ∧ (∀ x ∈ g.take m, Y0 es1' (Y7 i x.b) = some (.int .u64 (Z6 T T.vars.length i x.b))) ∧ t 0 = .pointer (some ⟨cb, 0, none⟩) ∧ t 1 = .int .i64 i ∧ t 5 = .int .i64 a ∧ t 6 = .int .u64 ((g.take m).foldl (fun s x => addI s (Yv x.n (Z6 T T.vars.length i x.b))) 0) ∧ t 15 = .slice D1 L.length cA ∧ t 16 = .int .i64 L.length ∧ t 17 = .int .i64 j ∧ t 27 = .slice D2 g.length cG ∧ t 28 = .int .i64 g.length ∧ t 29 = .int .i64 m) (g.length) (⟨0, es1, _, _, rfl, Nat.zero_le _, hS5, slA5, slg, fun b v h => h, fun x h => (by simp at h), e0, e1, rfl, rfl, e15, e16, e17, rfl, rfl, rfl⟩) ?_
  rintro n t H6 ⟨m, es1', D1, D2, rfl, hm, hS6, slA6, slg6, hmo, hd6, e0, e1, e5, e6, e15, e16, e17, e27, e28, e29⟩
  have hcb6 := hS6.hc
  refine Xf ?_
  refine Xc (by kernel_rfl) ?_
  refine Xa (Yw Xi Xi) ?_
  refine Xf ?_
  refine X1 rfl rfl ?_ ?_
  intro hc2
  have hml : m < g.length := by have := of_decide_eq_true hc2; omega
  obtain ⟨bg, og, eg, hbg, hcg⟩ := slg6.link_at hml
  obtain ⟨l, hl⟩ : ∃ l, l = g[m] := ⟨_, rfl⟩
  rw [← hl] at hcg
  subst eg
  refine X6 ?_
  refine Xf ?_
  refine X3 ?_
  refine Xf ?_
  refine Xc (by kernel_rfl) ?_
  refine Xa (Xo Xi Xi Tryz.underlying68 inf78.size Xy Xy) ?_
  refine Xa (Yc (cs := [.int .i64 _, .int .i64 _, .int .i64 _, .int .u64 _]) rfl Tryz.underlying78 rfl inf78.size Yb) ?_
  refine X2 (Y9 (l := [.int .i64 0, .int .i64 0, .int .i64 0, .int .u64 0]) inf78.zero rfl (by decide)) ?_
  first | refine X5 (Yq (vs := [.int .i64 _, .int .i64 _, .int .i64 _, .int .u64 _]) rfl rfl inf78.size Yh Yp rfl rfl ?_)
  refine Xf ?_
  obtain ⟨H7, hH7⟩ : ∃ H7, H7 = (H6.push (.own 0 [.int .i64 0, .int .i64 0, .int .i64 0, .int .u64 0])).put H6.size (.own 0 [.int .i64 l.a, .int .i64 l.b, .int .i64 l.cost, .int .u64 l.n]) := ⟨_, rfl⟩
  have le67 : H6.le H7 := by rw [hH7]; exact Hp.le_put_new (H6.le_push _) (Nat.le_refl _) _
  have hb7 : H7.get H6.size = .own 0 [.int .i64 l.a, .int .i64 l.b, .int .i64 l.cost, .int .u64 l.n] := by rw [hH7]; exact Hp.put_same _ _ _
  have z7 : H7.size = H6.size + 1 := by rw [hH7]; simp
  change ACode true _ _ _ _ _ ((H6.push (.own 0 [.int .i64 0, .int .i64 0, .int .i64 0, .int .u64 0])).put H6.size (.own 0 [.int .i64 l.a, .int .i64 l.b, .int .i64 l.cost, .int .u64 l.n]))
  rw [← hH7]
  clear hH7
  have hS7 := hS6.later le67
  have hcb7 := hS7.hc
  have hlc7 := hS7.lc
  have hms7 := hS7.hs
  have hmb7 := hS7.hb
  have hlb7 := hS7.lb
  have hlb6 := hS6.lb
  have hls7 := hS7.ls
  have slA7 := slA6.mono le67.sees
  have slg7 := slg6.mono le67.sees
  obtain ⟨is, v0, hv0, his, hisv⟩ : ∃ (is : Bool) (v0 : Int), (Y0 es1' (Y7 i l.b)).getD (.int .u64 0) = .int .u64 v0 ∧ (Y0 es1' (Y7 i l.b)).isSome = is ∧ (is = true → v0 = Z6 T T.vars.length i l.b ∧ Y0 es1' (Y7 i l.b) = some (.int .u64 (Z6 T T.vars.length i l.b))) := by
    rcases hS7.v1 l.b with h | h
    · exact ⟨false, 0, by rw [h]; rfl, by rw [h]; rfl, fun h => (by cases h)⟩
    · exact ⟨true, _, by rw [h.1]; rfl, by rw [h.1]; rfl, fun _ => ⟨rfl, h.1⟩⟩
  have hlg : l ∈ T.group i a := by rw [← hg, hl]; exact List.getElem_mem hml
  have hbel := belT_nonneg hT T.vars.length i l.b
  refine Ys (by kernel_rfl) (Y1 (B := [0, 1, 3, 7, 0, 0, 32, 112, 255, 511, 1023, 1023, 2047, 8191]) (π := [0, 1, 2, 3, 4, 5, 6, 7, 8, 9, 10, 11, 12, 13]) (by kernel_rfl)) ?_
  refine Xd rfl rfl (X9 Xi) Xp ?_
  refine Xd rfl rfl (Yo rfl) Xp ?_
  refine Xd rfl rfl (Xh (off := 1) rfl Tryz.underlying92 rfl inf90.size (by decide) rfl) Xp ?_
  refine Xd rfl rfl (Xl rfl Tryz.underlying90 rfl Xq) Xp ?_
  refine Xd rfl rfl (Xb Xi) Xp ?_
  refine Xd rfl rfl (Xh (off := 1) rfl Tryz.underlying78 rfl inf3.size (by decide) rfl) Xp ?_
  refine Xd rfl rfl (Xl rfl Tryz.underlying3 rfl Xq) Xp ?_
  refine Xd rfl rfl (Zb (pl := [(0, 1), (1, 1)]) (r := [.int .i64 _, .int .i64 _]) Tryz.underlying95 inf95.zero (by decide) rfl rfl) Xp ?_
  refine Xd rfl rfl (av_lookup2_is hv0 his Tryz.underlying90 V8 inf42.zero (fun φ => .int _ _) rfl rfl ⟨_, _, rfl⟩ (.inl hmb7) hS7.i1.keys) Xp ?_
  refine Xd rfl rfl (Va rfl) Xp ?_
  refine Xd rfl rfl (Zi rfl rfl) Xp ?_
  refine Xd rfl rfl (Zi rfl rfl) Xp ?_
  refine Xd rfl rfl (Xg rfl) Xp ?_
  refine Xd rfl rfl (Xr rfl) Xp ?_
  refine Xf ?_
  refine Xf ?_
  refine Xc (by kernel_rfl) ?_
  refine Xa (Xs rfl) ?_
  refine Xa (Vo rfl) ?_
  refine ac_cut (fun t H' => ∃ (es1'' : List (Value × Value)), FillS T K tb cb mb ms i es10 es20 H' es1'' es2 ∧ Sl (Y6 .i64) H' (.slice D1 L.length cA) L ∧ Sl kLink H' (.slice (some ⟨bg, og, none⟩) g.length cG) g ∧ (∀ b v, Y0 es1' (Y7 i b) = some v → Y0 es1'' (Y7 i b) = some v) ∧ Y0 es1'' (Y7 i l.b) = some (.int .u64 (Z6 T T.vars.length i l.b)) ∧ H6.size < H'.size ∧ H'.get H6.size = .own 0 [.int .i64 l.a, .int .i64 l.b, .int .i64 l.cost, .int .u64 l.n] ∧ t 0 = .pointer (some ⟨cb, 0, none⟩) ∧ t 1 = .int .i64 i ∧ t 5 = .int .i64 a ∧ t 6 = .int .u64 ((g.take m).foldl (fun s x => addI s (Yv x.n (Z6 T T.vars.length i x.b))) 0) ∧ t 8 = .pointer (some ⟨H6.size, 0, none⟩) ∧ t 9 = .int .u64 (Z6 T T.vars.length i l.b) ∧ t 15 = .slice D1 L.length cA ∧ t 16 = .int .i64 L.length ∧ t 17 = .int .i64 j ∧ t 27 = .slice (some ⟨bg, og, none⟩) g.length cG ∧ t 28 = .int .i64 g.length ∧ t 29 = .int .i64 m) ?_ ?_
  refine X1 rfl rfl ?_ ?_
  intro hc3
  have hno : is = false := by have h := hc3; simpa using h
  refine Xf ?_
  refine Xc (by kernel_rfl) ?_
  refine Xa (Xg rfl) ?_
  refine Xf ?_
  refine Xf ?_
  refine Xc (by kernel_rfl) ?_
  refine Xa (X9 Xi) ?_
  refine Xa (Yo rfl) ?_
  refine Xa (Xh (off := 0) rfl Tryz.underlying92 rfl inf32.size (by decide) rfl) ?_
  refine Xa (Xl rfl Tryz.underlying32 rfl Xq) ?_
  refine Xa (Xb Xi) ?_
  refine X5 (X0 (Below_tree (htK.mono hS7.le) (by rw [hT.l1]; exact Nat.le_trans hT.few (by decide)) (i : Int)) rfl Tryz.func83 rfl rfl rfl ?_)
  rintro v52 H8 ⟨GK, leK8, hownK⟩; rw [hbelow] at hownK; have slK := hownK.sl; obtain ⟨DK, cK, rfl⟩ := slK.shape; have le78 := Hp.le_trans leK8 hownK.le; have z8 := le78.1; have hS8 := hS7.later le78; have slA8 := slA7.mono le78.sees; have slg8 := slg7.mono le78.sees; have hb8 := Xt le78 (by omega) (by intro e; cases e) hb7; obtain ⟨kids, hkids⟩ : ∃ kids, kids = kidsT T i := ⟨_, rfl⟩; rw [← hkids] at slK hkidlen; rw [← hkids]; have hmapl : (kids.map (fun (k : Nat) => (k : Int))).length = kids.length := List.length_map _; rw [hmapl] at slK; rw [hmapl]; have hlb8 := hS8.lb; have hls8 := hS8.ls; have hcb8 := hS8.hc; have hlc8 := hS8.lc
  refine Xa (Yl rfl Tryz.underlying23) ?_
  refine Xa (Xb rfl) ?_
  refine X3 ?_
  refine Yt (fun n t H' => ∃ (q : Nat) (D3 : Option Addr), n = kids.length - q ∧ q ≤ kids.length ∧ H' = H8 ∧ Sl (Y6 .i64) H8 (.slice D3 kids.length cK) (kids.map (fun (k : Nat) => (k : Int))) ∧ t 0 = .pointer (some ⟨cb, 0, none⟩) ∧ t 1 = .int .i64 i ∧ t 5 = .int .i64 a ∧ t 6 = .int .u64 ((g.take m).foldl (fun s x => addI s (Yv x.n (Z6 T T.vars.length i x.b))) 0) ∧ t 8 = .pointer (some ⟨H6.size, 0, none⟩) ∧ t 9 = .int .u64 ((kids.take q).foldl (fun n k => Yv n (Vq T T.vars.length k l.b)) 1) ∧ t 15 = .slice D1 L.length cA ∧ t 16 = .int .i64 L.length ∧ t 17 = .int .i64 j ∧ t 27 = .slice (some ⟨bg, og, none⟩) g.length cG ∧ t 28 = .int .i64 g.length ∧ t 29 = .int .i64 m ∧ t 52 = .slice D3 kids.length cK ∧ t 53 = .int .i64 kids.length ∧ t 54 = .int .i64 q) (kids.length) (⟨0, _, rfl, Nat.zero_le _, rfl, slK, e0, e1, e5, e6, rfl, rfl, e15, e16, e17, e27, e28, e29, rfl, rfl, rfl⟩) ?_
  rintro n t H8 ⟨q, D3, rfl, hq, rfl, slK, e0, e1, e5, e6, e8, e9, e15, e16, e17, e27, e28, e29, e52, e53, e54⟩
  refine Xf ?_
  refine Xc (by kernel_rfl) ?_
  refine Xa (Yw Xi Xi) ?_
  refine Xf ?_
  refine X1 rfl rfl ?_ ?_
  intro hc4
  have hql : q < kids.length := by have := of_decide_eq_true hc4; omega
  obtain ⟨bK, oK, eK, hbK, hcK⟩ := slK.int_at (i := (q : Int)) (by omega) (by omega)
  rw [Int.toNat_natCast] at hcK
  obtain ⟨k, hk⟩ : ∃ k, k = kids[q] := ⟨_, rfl⟩
  have hkq : (kids.map (fun (k : Nat) => (k : Int))).getD q 0 = (k : Int) := by rw [List.getD_eq_getElem?_getD, List.getElem?_map, List.getElem?_eq_getElem hql, ← hk]; rfl
  rw [hkq] at hcK
  subst eK
  have hkm : k ∈ kidsT T i := by rw [← hkids, hk]; exact List.getElem_mem hql
  obtain ⟨hik, hkv⟩ := kids_lt hT hkm
  have hkp : T.parent.getD k 0 = (i : Int) := by unfold kidsT at hkm; exact of_decide_eq_true (List.mem_filter.1 hkm).2
  have hget : (Y0 es2 (Y7 k l.b)).getD (.int .u64 0) = .int .u64 (Vq T T.vars.length k l.b) := by
    rw [(hS8.i2.get k l.b).1, ← hkid k hkm l.b ((above_child d hkp l.b).2 ⟨a, haL, l, hlg, rfl⟩)]
    unfold cntAt
    rw [hS8.o2 k l.b (by omega)]
  have hsk := Ve hT T.vars.length k l.b
  have hfk : 0 ≤ (kids.take q).foldl (fun n k => Yv n (Vq T T.vars.length k l.b)) 1 := fold_times (by decide) fun k _ => Ve hT _ _ _
  have hnextk : Yv ((kids.take q).foldl (fun n k => Yv n (Vq T T.vars.length k l.b)) 1) (Vq T T.vars.length k l.b) = (kids.take (q + 1)).foldl (fun n k => Yv n (Vq T T.vars.length k l.b)) 1 := by
    rw [← Yr hql, List.foldl_append, ← hk]; rfl
  refine X6 ?_
  refine Xf ?_
  refine X3 ?_
  refine Xf ?_
  refine Xc (by kernel_rfl) ?_
  refine Xa (Xo Xi Xi Tryz.underlying23 inf3.size Xy Xy) ?_
  refine Xa (Xl rfl Tryz.underlying3 rfl Xq) ?_
  refine Xa (Xg rfl) ?_
  refine Ys (by kernel_rfl) (Y1 (B := [0, 0, 2, 6, 14, 0, 0, 64, 224, 510, 1023, 2047]) (π := [0, 1, 2, 3, 4, 5, 6, 7, 8, 9, 10, 11]) (by kernel_rfl)) ?_
  refine Xd rfl rfl (Xb Xi) Xp ?_
  refine Xd rfl rfl (X9 Xi) Xp ?_
  refine Xd rfl rfl (Yo rfl) Xp ?_
  refine Xd rfl rfl (Xh (off := 2) rfl Tryz.underlying92 rfl inf90.size (by decide) rfl) Xp ?_
  refine Xd rfl rfl (Xl rfl Tryz.underlying90 rfl Xq) Xp ?_
  refine Xd rfl rfl (Xb rfl) Xp ?_
  refine Xd rfl rfl (Xh (off := 1) Xi Tryz.underlying78 Xi inf3.size (by decide) Xi) Xp ?_
  refine Xd rfl rfl (Xl rfl Tryz.underlying3 rfl Xq) Xp ?_
  refine Xd rfl rfl (Zb (pl := [(0, 1), (1, 1)]) (r := [.int .i64 _, .int .i64 _]) Tryz.underlying95 inf95.zero (by decide) rfl rfl) Xp ?_
  refine Xd rfl rfl (Ur hget Tryz.underlying90 V8 inf42.zero (fun φ => .int _ _) rfl rfl ⟨_, _, rfl⟩ (.inl hS8.hs) hS8.i2.keys) Xp ?_
  refine Yg rfl rfl (X0 (Times_u64 _ _ hfk hsk _) rfl Tryz.func76 rfl rfl rfl ?_)
  rintro v68 H8 ⟨rfl, rfl⟩
  refine ⟨Yf, ?_⟩
  refine Xd rfl rfl (Xg rfl) Xp ?_
  refine Xc (by kernel_rfl) ?_
  refine Xa (Yd Xi Xi Yk) ?_
  refine Xa (Xb rfl) ?_
  exact ⟨kids.length - (q + 1), by omega, q + 1, _, rfl, by omega, rfl, slK, e0, e1, e5, e6, e8, congrArg (Value.int .u64) hnextk, e15, e16, e17, e27, e28, e29, e52, e53, rfl⟩
  intro hc4
  have hql : ¬ q < kids.length := by have := of_decide_eq_false hc4; omega
  have hbv : (kids.take q).foldl (fun n k => Yv n (Vq T T.vars.length k l.b)) 1 = Z6 T T.vars.length i l.b := by rw [List.take_of_length_le (by omega), hkids]; rfl
  rw [hbv] at e9
  refine Yj ?_
  refine Ys (by kernel_rfl) (Y1 (B := [0, 1, 3, 7, 0, 0, 32, 112, 0, 511]) (π := [0, 1, 2, 3, 4, 5, 6, 7, 8, 9]) (by kernel_rfl)) ?_
  refine Xd rfl rfl (X9 Xi) Xp ?_
  refine Xd rfl rfl (Yo rfl) Xp ?_
  refine Xd rfl rfl (Xh (off := 1) rfl Tryz.underlying92 rfl inf90.size (by decide) rfl) Xp ?_
  refine Xd rfl rfl (Xl rfl Tryz.underlying90 rfl Xq) Xp ?_
  refine Xd rfl rfl (Xb Xi) Xp ?_
  refine Xd rfl rfl (Xh (off := 1) Xi Tryz.underlying78 Xi inf3.size (by decide) Xi) Xp ?_
  refine Xd rfl rfl (Xl rfl Tryz.underlying3 rfl Xq) Xp ?_
  refine Xd rfl rfl (Zb (pl := [(0, 1), (1, 1)]) (r := [.int .i64 _, .int .i64 _]) Tryz.underlying95 inf95.zero (by decide) rfl rfl) Xp ?_
  refine Xd rfl rfl (Xb Xi) Xp ?_
  refine Yg rfl rfl (V3 Tryz.underlying90 V8 rfl rfl rfl ⟨_, _, rfl⟩ hS8.hb hS8.i1.keys ?_)
  refine ⟨Yf, ?_⟩
  first
    | exact ⟨es1', hS7, slA7, slg7, fun b v h => h, (hisv hyes).2, by omega, hb7, e0, e1, e5, e6, rfl, congrArg (Value.int .u64) (hisv hyes).1, e15, e16, e17, e27, e28, e29⟩
    | exact ⟨_, hS8.put1 zb hne l.b hbel ⟨a, l, hlg, rfl⟩, slA8.mono (Hp.sees_map _ hS8.hb _), slg8.mono (Hp.sees_map _ hS8.hb _), fun b v h => by
          have hbl : b ≠ l.b := fun e => by subst e; rw [h, hno] at his; cases his
          rw [Zp (fun e => hbl (Z7 e).2)]; exact h, Vv, by simp only [Hp.put_size]; omega, by rw [Hp.put_other _ _ (by omega)]; exact hb8, e0, e1, e5, e6, e8, e9, e15, e16, e17, e27, e28, e29⟩
  intro hc3
  have hyes : is = true := by have h := hc3; simpa using h
  refine X6 ?_
  first
    | exact ⟨es1', hS7, slA7, slg7, fun b v h => h, (hisv hyes).2, by omega, hb7, e0, e1, e5, e6, rfl, congrArg (Value.int .u64) (hisv hyes).1, e15, e16, e17, e27, e28, e29⟩
    | exact ⟨_, hS8.put1 zb hne l.b hbel ⟨a, l, hlg, rfl⟩, slA8.mono (Hp.sees_map _ hS8.hb _), slg8.mono (Hp.sees_map _ hS8.hb _), fun b v h => by
          have hbl : b ≠ l.b := fun e => by subst e; rw [h, hno] at his; cases his
          rw [Zp (fun e => hbl (Z7 e).2)]; exact h, Vv, by simp only [Hp.put_size]; omega, by rw [Hp.put_other _ _ (by omega)]; exact hb8, e0, e1, e5, e6, e8, e9, e15, e16, e17, e27, e28, e29⟩
  rintro t H9 ⟨es1'', hS9, slA9, slg9, hmo9, hat9, hlt9, hb9, e0, e1, e5, e6, e8, e9, e15, e16, e17, e27, e28, e29⟩
  have hcb9 := hS9.hc
  have hfg : 0 ≤ (g.take m).foldl (fun s x => addI s (Yv x.n (Z6 T T.vars.length i x.b))) 0 := fold_add (f := fun (x : Link) => Yv x.n (Z6 T T.vars.length i x.b)) (Int.le_refl 0) fun x hx => (Z2 (hT.group_mem (i := (i : Int)) (above := a) (by rw [← hg]; exact List.mem_of_mem_take hx)).2.2 (belT_nonneg hT _ _ _)).1
  have hln := (hT.group_mem hlg).2.2
  have hnextg : addI ((g.take m).foldl (fun s x => addI s (Yv x.n (Z6 T T.vars.length i x.b))) 0) (Yv l.n (Z6 T T.vars.length i l.b)) = (g.take (m + 1)).foldl (fun s x => addI s (Yv x.n (Z6 T T.vars.length i x.b))) 0 := by
    rw [← Yr hml, List.foldl_append, ← hl]; rfl
  have hdn9 : ∀ x ∈ g.take (m + 1), Y0 es1'' (Y7 i x.b) = some (.int .u64 (Z6 T T.vars.length i x.b)) := fun x hx => by
    rw [← Yr hml, List.mem_append, List.mem_singleton] at hx
    rcases hx with hx | hx
    · exact hmo9 _ _ (hd6 x hx)
    · rw [hx, ← hl]; exact hat9
  refine Xc (by kernel_rfl) ?_
  refine Xa (Xb Xi) ?_
  refine Xa (Xh (off := 3) Xi Tryz.underlying78 Xi inf42.size (by decide) Xi) ?_
  refine Xa (Xl rfl Tryz.underlying42 rfl Xq) ?_
  refine Xa (Xb Xi) ?_
  refine X5 (X0 (Times_u64 _ _ hln hbel _) rfl Tryz.func76 rfl rfl rfl ?_)
  rintro v83 H9 ⟨rfl, rfl⟩
  refine X5 (X0 (Add_u64 _ _ hfg (Z2 hln hbel).1 _) rfl Tryz.func84 rfl rfl rfl ?_)
  rintro v84 H9 ⟨rfl, rfl⟩
  refine Xa (Xg rfl) ?_
  refine Xc (by kernel_rfl) ?_
  refine Xa (Yd Xi Xi Yk) ?_
  refine Xa (Xb rfl) ?_
  exact ⟨g.length - (m + 1), by omega, m + 1, es1'', _, _, rfl, by omega, hS9, slA9, slg9, fun b v h => hmo9 b v (hmo b v h), hdn9, e0, e1, e5, congrArg (Value.int .u64) hnextg, e15, e16, e17, e27, e28, rfl⟩
  intro hc2
  have hml : ¬ m < g.length := by have := of_decide_eq_false hc2; omega
  refine Yj ?_
  have hsv : (g.take m).foldl (fun s x => addI s (Yv x.n (Z6 T T.vars.length i x.b))) 0 = Vq T T.vars.length i a := by rw [List.take_of_length_le (by omega), sum_is hT hiv, hg]
  rw [hsv] at e6
  have hS10 := hS6.put2 zs hne a _ (Ve hT _ _ _) rfl
  have slA10 := slA6.mono (Hp.sees_map _ hS6.hs (.map (Z8 es2 (Y7 i a) (.int .u64 (Vq T T.vars.length i a)))))
  refine Xc (by kernel_rfl) ?_
  refine Xa (X9 Xi) ?_
  refine Xa (Yo rfl) ?_
  refine Xa (Xh (off := 2) rfl Tryz.underlying92 rfl inf90.size (by decide) rfl) ?_
  refine Xa (Xl rfl Tryz.underlying90 rfl Xq) ?_
  refine Xa (Xb Xi) ?_
  refine Xa (Xb Xi) ?_
  refine Xa (Zb (pl := [(0, 1), (1, 1)]) (r := [.int .i64 _, .int .i64 _]) Tryz.underlying95 inf95.zero (by decide) rfl rfl) ?_
  refine Xa (Xb Xi) ?_
  refine X5 (V3 Tryz.underlying90 V8 rfl rfl rfl ⟨_, _, rfl⟩ hS6.hs hS6.i2.keys ?_)
  refine Xc (by kernel_rfl) ?_
  refine Xa (Yd Xi Xi Yk) ?_
  refine Xa (Xb rfl) ?_
  refine ⟨L.length - (j + 1), by omega, j + 1, es1', _, _, rfl, by omega, hS10, slA10, fun c hc => ?_, fun c hc x hx => ?_, e0, e1, e15, e16, rfl⟩
  · by_cases h : c = a
    · subst h; exact Vv
    · rw [Zp (fun e => h (Z7 e).2)]
      rw [← Yr hjl, List.mem_append, List.mem_singleton, ← Zf hjl, ← ha] at hc
      exact hd2 c (hc.resolve_right h)
  · rw [← Yr hjl, List.mem_append, List.mem_singleton, ← Zf hjl, ← ha] at hc
    rcases hc with hc | hc
    · exact hmo _ _ (hd1 c hc x hx)
    · subst hc
      rw [← hg] at hx
      exact hd6 x (by rw [List.take_of_length_le (by omega)]; exact hx)
  intro hc1
  have hjl : ¬ j < L.length := by have := of_decide_eq_false hc1; omega
  refine Yj ?_
  rw [List.take_of_length_le (by omega)] at hd1 hd2
  exact ⟨_, aresult0, es1, es2, hS, fun a h => hd2 a (by rw [hL]; exact h), fun a h => hd1 a (by rw [hL]; exact h)⟩
end Go.Proofs.YtcaeoebphfjfiaaGreat.Am


/- How few may be above a place. -/
namespace Go.Proofs.YtcaeoebphfjfiaaGreat.Am
open Go Go.RowKit
set_option maxRecDepth 100000
set_option linter.unusedVariables false
set_option linter.unusedSimpArgs false

theorem nodup_sub {α : Type} : ∀ {l m : List α}, l.Nodup → (∀ x ∈ l, x ∈ m) → l.length ≤ m.length
  | [], _, _, _ => Nat.zero_le _
  | x :: l, m, hn, hs => by
    obtain ⟨p, s, rfl⟩ := List.append_of_mem (hs x (by simp))
    obtain ⟨h1, h2⟩ := List.nodup_cons.1 hn
    have h := nodup_sub (l := l) (m := p ++ s) h2 (fun y hy => by
      have h3 := hs y (by simp [hy])
      rw [List.mem_append, List.mem_cons] at h3
      rw [List.mem_append]
      rcases h3 with h3 | rfl | h3
      · exact .inl h3
      · exact absurd hy h1
      · exact .inr h3)
    simp only [List.length_append, List.length_cons] at h ⊢
    omega
theorem once_nodup : ∀ (xs out : List Int), out.Nodup → (onceT out xs).Nodup
  | [], _, h => h
  | x :: xs, out, h => by
    show (onceT (if x ∈ out then out else out ++ [x]) xs).Nodup
    refine once_nodup xs _ ?_
    split
    · exact h
    · rename_i hx
      rw [List.nodup_append]
      exact ⟨h, by simp, fun a ha b hb => by rw [List.mem_singleton] at hb; subst hb; intro e; exact hx (e ▸ ha)⟩
theorem flatMap_few {α β : Type} {f : α → List β} {m : Nat} : ∀ {xs : List α}, (∀ x ∈ xs, (f x).length ≤ m) → (xs.flatMap f).length ≤ xs.length * m
  | [], _ => by simp
  | x :: xs, h => by
    have h1 := flatMap_few (xs := xs) fun y hy => h y (by simp [hy])
    have h2 := h x (by simp)
    rw [List.flatMap_cons, List.length_append, List.length_cons, Nat.succ_mul]
    omega
theorem group_sub {T : TreeT} {i a : Int} {x : Link} (hx : x ∈ T.group i a) : x ∈ T.links.getD i.toNat [] := by
  unfold TreeT.group at hx
  split at hx
  · unfold TreeT.row at hx
    split at hx
    · exact hx
    · exact (List.mem_filter.1 hx).1
  · cases hx
theorem group_few {T : TreeT} (hl : ∀ l ∈ T.links, l.length ≤ 1000) (i a : Int) : (T.group i a).length ≤ 1000 := by
  have hg : (T.links.getD i.toNat []).length ≤ 1000 := by
    by_cases h : i.toNat < T.links.length
    · rw [Yz h]; exact hl _ (List.getElem_mem h)
    · rw [List.getD_eq_getElem?_getD, List.getElem?_eq_none (by omega)]; simp
  unfold TreeT.group
  split
  · unfold TreeT.row
    split
    · exact hg
    · exact Nat.le_trans (List.length_filter_le _ _) hg
  · simp
theorem above_few {T : TreeT} (hl : ∀ l ∈ T.links, l.length ≤ 1000) : ∀ d i, (Zu T d i).length ≤ 1000
  | 0, _ => by simp [Zu]
  | d + 1, i => by
    rw [Zu]
    split
    · simp
    · have hg : (T.links.getD (T.parent.getD i 0).toNat []).length ≤ 1000 := by
        by_cases h : (T.parent.getD i 0).toNat < T.links.length
        · rw [Yz h]; exact hl _ (List.getElem_mem h)
        · rw [List.getD_eq_getElem?_getD, List.getElem?_eq_none (by omega)]; simp
      refine Nat.le_trans (nodup_sub (m := (T.links.getD (T.parent.getD i 0).toNat []).map (·.b)) (once_nodup _ _ List.nodup_nil) fun x hx => ?_) (by rw [List.length_map]; exact hg)
      rw [mem_once] at hx
      rcases hx with hx | hx
      · cases hx
      · obtain ⟨a, _, h1⟩ := List.mem_flatMap.1 hx
        obtain ⟨y, h2, h3⟩ := List.mem_map.1 h1
        exact List.mem_map.2 ⟨y, group_sub h2, h3⟩
theorem fewA_of {T : TreeT} (hl : ∀ l ∈ T.links, l.length ≤ 1000) : FewA T := fun d i => by
  have h1 := above_few hl d (T.parent.getD i 0).toNat
  refine ⟨Nat.le_trans (flatMap_few (m := 1000) fun a _ => by rw [List.length_map]; exact group_few hl _ _) (by omega), by have := above_few hl d i; omega⟩
theorem above_deep {T : TreeT} (hT : GoodT T) : ∀ (d i : Nat), i < d → i < T.vars.length → Zu T d i = Zu T (d + 1) i
  | 0, _, h, _ => by omega
  | d + 1, i, h, hi => by
    rw [Zu, Zu]
    rcases hT.par i hi with hp | hp
    · rw [if_pos hp, if_pos hp]
    · rw [if_neg (by omega), if_neg (by omega), above_deep hT d _ (by omega) (by omega)]
end Go.Proofs.YtcaeoebphfjfiaaGreat.Am


/- How many rows go on from any first nodes, plain. -/
namespace Go.Proofs.YtcaeoebphfjfiaaGreat.Am
open Go Go.RowKit
set_option maxRecDepth 100000
set_option linter.unusedVariables false
set_option linter.unusedSimpArgs false

def capI (n : Nat) : Int := min (n : Int) Y3
theorem most_pos : (0 : Int) < Y3 := by decide
theorem timesI_cap (a b : Nat) : Yv (capI a) (capI b) = capI (a * b) := by
  have hM := most_pos
  unfold Yv capI
  rw [show min (min (a : Int) Y3) Y3 = min (a : Int) Y3 by omega, show min (min (b : Int) Y3) Y3 = min (b : Int) Y3 by omega, Int.natCast_mul]
  rcases Nat.eq_zero_or_pos a with rfl | ha
  · rw [show min ((0 : Nat) : Int) Y3 = 0 by omega]; simp
  rcases Nat.eq_zero_or_pos b with rfl | hb
  · rw [show min ((0 : Nat) : Int) Y3 = 0 by omega]; simp
  by_cases h1 : (a : Int) ≤ Y3 <;> by_cases h2 : (b : Int) ≤ Y3
  · rw [Int.min_eq_left h1, Int.min_eq_left h2]
  · rw [Int.min_eq_left h1, Int.min_eq_right (by omega : Y3 ≤ (b : Int))]
    have h3 : 1 * Y3 ≤ (a : Int) * Y3 := Int.mul_le_mul_of_nonneg_right (by omega) (Int.le_of_lt hM)
    have h4 : (a : Int) * Y3 ≤ (a : Int) * b := Int.mul_le_mul_of_nonneg_left (by omega) (by omega)
    rw [Int.min_eq_right (by omega), Int.min_eq_right (by omega)]
  · rw [Int.min_eq_right (by omega : Y3 ≤ (a : Int)), Int.min_eq_left h2]
    have h3 : Y3 * 1 ≤ Y3 * (b : Int) := Int.mul_le_mul_of_nonneg_left (by omega) (Int.le_of_lt hM)
    have h4 : Y3 * (b : Int) ≤ (a : Int) * b := Int.mul_le_mul_of_nonneg_right (by omega) (by omega)
    rw [Int.min_eq_right (by omega), Int.min_eq_right (by omega)]
  · rw [Int.min_eq_right (by omega : Y3 ≤ (a : Int)), Int.min_eq_right (by omega : Y3 ≤ (b : Int))]
    have h3 : Y3 * 1 ≤ Y3 * Y3 := Int.mul_le_mul_of_nonneg_left (by omega) (Int.le_of_lt hM)
    have h4 : Y3 * Y3 ≤ Y3 * (b : Int) := Int.mul_le_mul_of_nonneg_left (by omega) (Int.le_of_lt hM)
    have h5 : Y3 * (b : Int) ≤ (a : Int) * b := Int.mul_le_mul_of_nonneg_right (by omega) (by omega)
    rw [Int.min_eq_right (by omega), Int.min_eq_right (by omega)]
theorem timesI_nat (a : Nat) (y : Int) : Yv (a : Int) y = Yv (capI a) y := by
  unfold Yv capI
  rw [show min (min (a : Int) Y3) Y3 = min (a : Int) Y3 by omega]
theorem addI_cap (a b : Nat) : addI (capI a) (capI b) = capI (a + b) := by
  have hM := most_pos
  unfold addI capI
  omega
theorem cap_zero {n : Nat} : capI n = 0 ↔ n = 0 := by
  have hM := most_pos
  unfold capI
  omega
theorem cap_one : (1 : Int) = capI 1 := by decide
theorem cap_nil : (0 : Int) = capI 0 := by decide
def Zv : List Nat → Nat
  | [] => 1
  | x :: xs => x * Zv xs
theorem fold_times_cap {F : Nat → Int} {f : Nat → Nat} : ∀ {ks : List Nat} {n : Nat}, (∀ k ∈ ks, F k = capI (f k)) → ks.foldl (fun n k => Yv n (F k)) (capI n) = capI (n * Zv (ks.map f))
  | [], n, _ => by simp [Zv]
  | k :: ks, n, h => by
    rw [List.foldl_cons, h k (by simp), timesI_cap, fold_times_cap (fun j hj => h j (by simp [hj])), List.map_cons, Zv, Nat.mul_assoc]
theorem fold_add_cap {F : Link → Int} {f : Link → Nat} : ∀ {xs : List Link} {n : Nat}, (∀ x ∈ xs, 0 ≤ x.n ∧ F x = capI (f x)) → xs.foldl (fun s x => addI s (Yv x.n (F x))) (capI n) = capI (n + (xs.map fun x => x.n.toNat * f x).sum)
  | [], n, _ => by simp
  | x :: xs, n, h => by
    obtain ⟨h1, h2⟩ := h x (by simp)
    have h3 : Yv x.n (F x) = capI (x.n.toNat * f x) := by
      rw [h2]
      conv => lhs; rw [show x.n = ((x.n.toNat : Nat) : Int) by omega]
      rw [timesI_nat, timesI_cap]
    rw [List.foldl_cons, h3, addI_cap, fold_add_cap (fun y hy => h y (by simp [hy])), List.map_cons, List.sum_cons, Nat.add_assoc]
def sumW (T : TreeT) : Nat → Nat → Int → Nat
  | 0, _, _ => 0
  | d + 1, i, a => ((T.group i a).map fun x => x.n.toNat * Zv ((kidsT T i).map fun k => sumW T d k x.b)).sum
theorem sumT_cap {T : TreeT} (hT : GoodT T) : ∀ (d i : Nat) (a : Int), Vq T d i a = capI (sumW T d i a)
  | 0, _, _ => cap_nil
  | d + 1, i, a => by
    rw [sumT_succ, sumW, cap_nil, fold_add_cap (f := fun x => Zv ((kidsT T i).map fun k => sumW T d k x.b)), Nat.zero_add]
    intro x hx
    refine ⟨(hT.group_mem hx).2.2, ?_⟩
    unfold Z6
    rw [cap_one, fold_times_cap (f := fun k => sumW T d k x.b) (fun k _ => sumT_cap hT d k x.b), Nat.one_mul]
theorem map_sum_same {α : Type} {f g : α → Nat} : ∀ {xs : List α}, (∀ x ∈ xs, f x = g x) → (xs.map f).sum = (xs.map g).sum
  | [], _ => rfl
  | x :: xs, h => by rw [List.map_cons, List.map_cons, List.sum_cons, List.sum_cons, h x (by simp), map_sum_same fun y hy => h y (by simp [hy])]
theorem Uf {α : Type} {f g : α → Nat} : ∀ {xs : List α}, (∀ x ∈ xs, f x = g x) → Zv (xs.map f) = Zv (xs.map g)
  | [], _ => rfl
  | x :: xs, h => by rw [List.map_cons, List.map_cons, Zv, Zv, h x (by simp), Uf fun y hy => h y (by simp [hy])]
theorem sumW_deep {T : TreeT} (hT : GoodT T) : ∀ (d i : Nat) (a : Int), i < T.vars.length → T.vars.length ≤ d + i → sumW T d i a = sumW T (d + 1) i a
  | 0, i, a, h, h2 => by omega
  | d + 1, i, a, h, h2 => by
    rw [sumW, sumW]
    refine map_sum_same fun x _ => ?_
    congr 1
    refine Uf fun k hk => ?_
    obtain ⟨h3, h4⟩ := kids_lt hT hk
    exact sumW_deep hT d k x.b h4 (by omega)
def wT (T : TreeT) (i : Nat) (a : Int) : Nat := sumW T T.vars.length i a
def wB (T : TreeT) (i : Nat) (b : Int) : Nat := Zv ((kidsT T i).map fun k => wT T k b)
theorem wT_is {T : TreeT} (hT : GoodT T) {i : Nat} (hi : i < T.vars.length) (a : Int) : wT T i a = ((T.group i a).map fun x => x.n.toNat * wB T i x.b).sum := by
  obtain ⟨n, hn⟩ : ∃ n, T.vars.length = n + 1 := ⟨T.vars.length - 1, by omega⟩
  unfold wT wB
  rw [hn, sumW]
  refine map_sum_same fun x _ => ?_
  congr 1
  refine Uf fun k hk => ?_
  obtain ⟨h3, h4⟩ := kids_lt hT hk
  show _ = wT T k x.b
  unfold wT
  rw [hn]
  exact sumW_deep hT n k x.b h4 (by omega)
theorem prod_mul {α : Type} {f g : α → Nat} : ∀ {xs : List α}, Zv (xs.map fun x => f x * g x) = Zv (xs.map f) * Zv (xs.map g)
  | [] => rfl
  | x :: xs => by
    rw [List.map_cons, List.map_cons, List.map_cons, Zv, Zv, Zv, prod_mul]
    rw [Nat.mul_assoc, Nat.mul_assoc, Nat.mul_left_comm (g x)]
theorem prod_ones {α : Type} {f : α → Nat} : ∀ {xs : List α}, (∀ x ∈ xs, f x = 1) → Zv (xs.map f) = 1
  | [], _ => rfl
  | x :: xs, h => by rw [List.map_cons, Zv, h x (by simp), prod_ones fun y hy => h y (by simp [hy])]
theorem prod_append : ∀ (xs ys : List Nat), Zv (xs ++ ys) = Zv xs * Zv ys
  | [], ys => by rw [List.nil_append, Zv, Nat.one_mul]
  | x :: xs, ys => by rw [List.cons_append, Zv, Zv, prod_append xs ys, Nat.mul_assoc]
theorem prod_at {n j c : Nat} (hj : j < n) : Zv ((List.range n).map fun i => if i = j then c else 1) = c := by
  induction n with
  | zero => omega
  | succ n ih =>
    rw [List.range_succ, List.map_append, prod_append]
    rcases Nat.lt_or_ge j n with h | h
    · rw [ih h]
      have : ¬ n = j := by omega
      simp [Zv, this]
    · obtain rfl : n = j := by omega
      rw [prod_ones (f := fun i => if i = n then c else 1) fun i hi => by rw [List.mem_range] at hi; exact if_neg (by omega)]
      simp [Zv]
theorem prod_filter {α : Type} {f : α → Nat} {q : α → Bool} : ∀ {xs : List α}, Zv (xs.map fun x => if q x = true then f x else 1) = Zv ((xs.filter q).map f)
  | [] => rfl
  | x :: xs => by
    rw [List.map_cons, Zv, prod_filter, List.filter_cons]
    split
    · rw [List.map_cons, Zv]
    · rw [Nat.one_mul]
def openW (T : TreeT) (ns : List Int) (i : Nat) : Nat := if ns.length ≤ i ∧ T.parent.getD i 0 < ns.length then wT T i (Y2 T ns i) else 1
def cntW (T : TreeT) (ns : List Int) : Nat := Zv ((List.range T.vars.length).map (openW T ns))
def restW (T : TreeT) (ns : List Int) (i : Nat) : Nat := if ns.length < i ∧ T.parent.getD i 0 < ns.length then wT T i (Y2 T ns i) else 1
theorem sum_mul {α : Type} {f : α → Nat} (c : Nat) : ∀ {xs : List α}, c * (xs.map f).sum = (xs.map fun x => c * f x).sum
  | [] => rfl
  | x :: xs => by rw [List.map_cons, List.map_cons, List.sum_cons, List.sum_cons, Nat.mul_add, sum_mul c]
theorem cnt_child {T : TreeT} (hT : GoodT T) {ns : List Int} (hl : ns.length < T.vars.length) (b : Int) : cntW T (ns ++ [b]) = Zv ((List.range T.vars.length).map (restW T ns)) * wB T ns.length b := by
  have h1 : wB T ns.length b = Zv ((List.range T.vars.length).map fun i => if decide (T.parent.getD i 0 = (ns.length : Int)) = true then wT T i b else 1) := by
    unfold wB kidsT
    rw [prod_filter, hT.l1]
  rw [h1, ← prod_mul]
  refine Uf fun i hi => ?_
  rw [List.mem_range] at hi
  have hp := hT.par i hi
  unfold openW restW
  rw [List.length_append, List.length_singleton]
  simp only [decide_eq_true_eq]
  by_cases h : T.parent.getD i 0 = (ns.length : Int)
  · have h2 : Y2 T (ns ++ [b]) i = b := by
      unfold Y2
      rw [if_neg (by omega), h, Int.toNat_natCast, List.getD_eq_getElem?_getD]
      simp
    rw [if_pos h, if_pos ⟨by omega, by omega⟩, if_neg (by omega), h2, Nat.one_mul]
  · rw [if_neg h, Nat.mul_one]
    by_cases h3 : ns.length < i ∧ T.parent.getD i 0 < ns.length
    · rw [if_pos h3, if_pos ⟨by omega, by omega⟩]
      congr 1
      unfold Y2
      split
      · rfl
      · rw [getD_left (by omega)]
    · rw [if_neg h3, if_neg (by omega)]
theorem cnt_step {T : TreeT} (hT : GoodT T) {ns : List Int} (hl : ns.length < T.vars.length) : cntW T ns = ((T.group ns.length (Y2 T ns ns.length)).map fun x => x.n.toNat * cntW T (ns ++ [x.b])).sum := by
  have h1 : cntW T ns = Zv ((List.range T.vars.length).map (restW T ns)) * wT T ns.length (Y2 T ns ns.length) := by
    rw [← prod_at (c := wT T ns.length (Y2 T ns ns.length)) hl, ← prod_mul]
    refine Uf fun i hi => ?_
    rw [List.mem_range] at hi
    have hp := hT.par i hi
    unfold openW restW
    by_cases h : i = ns.length
    · subst h
      rw [if_pos ⟨Nat.le_refl _, by omega⟩, if_neg (by omega), if_pos rfl, Nat.one_mul]
    · rw [if_neg h, Nat.mul_one]
      by_cases h3 : ns.length < i ∧ T.parent.getD i 0 < ns.length
      · rw [if_pos h3, if_pos ⟨by omega, h3.2⟩]
      · rw [if_neg h3, if_neg (by omega)]
  rw [h1, wT_is hT hl, sum_mul]
  refine map_sum_same fun x _ => ?_
  rw [cnt_child hT hl, Nat.mul_left_comm]
theorem cnt_full {T : TreeT} {ns : List Int} (hl : ns.length = T.vars.length) : cntW T ns = 1 := prod_ones fun i hi => by
  rw [List.mem_range] at hi
  unfold openW
  rw [if_neg (by omega)]
theorem ext_cnt {T : TreeT} (hT : GoodT T) (hn : ∀ i a, ∀ x ∈ T.group i a, 1 ≤ x.n) : ∀ (d : Nat) (ns : List Int), ns.length + d = T.vars.length → (extN T d ns).length ≤ cntW T ns ∧ (extN T d ns = [] → cntW T ns = 0)
  | 0, ns, h => by rw [extN, cnt_full (by omega)]; simp
  | d + 1, ns, h => by
    rw [extN, cnt_step hT (by omega)]
    have key : ∀ (g : List Link), (∀ x ∈ g, 1 ≤ x.n) → (g.flatMap fun l => extN T d (ns ++ [l.b])).length ≤ (g.map fun x => x.n.toNat * cntW T (ns ++ [x.b])).sum ∧ ((g.flatMap fun l => extN T d (ns ++ [l.b])) = [] → (g.map fun x => x.n.toNat * cntW T (ns ++ [x.b])).sum = 0) := fun g => by
      induction g with
      | nil => intro _; simp
      | cons x g ih =>
        intro hg
        obtain ⟨i1, i2⟩ := ih fun y hy => hg y (by simp [hy])
        obtain ⟨r1, r2⟩ := ext_cnt hT hn d (ns ++ [x.b]) (by simp; omega)
        have hx := hg x (by simp)
        have hm : 1 * cntW T (ns ++ [x.b]) ≤ x.n.toNat * cntW T (ns ++ [x.b]) := Nat.mul_le_mul_right _ (by omega)
        rw [List.flatMap_cons, List.map_cons, List.sum_cons, List.length_append]
        refine ⟨by omega, fun h => ?_⟩
        obtain ⟨h1, h2⟩ := List.append_eq_nil_iff.1 h
        rw [r2 h1, i2 h2, Nat.mul_zero]
    exact key _ (hn _ _)
theorem mem_ext {T : TreeT} : ∀ (d : Nat) (q r : List Int), r ∈ extN T d q → r.length = q.length + d ∧ r.take q.length = q
  | 0, q, r, h => by rw [extN, List.mem_singleton] at h; subst h; exact ⟨rfl, List.take_length⟩
  | d + 1, q, r, h => by
    rw [extN] at h
    obtain ⟨l, _, h1⟩ := List.mem_flatMap.1 h
    obtain ⟨h2, h3⟩ := mem_ext d _ r h1
    rw [List.length_append, List.length_singleton] at h2 h3
    refine ⟨by omega, ?_⟩
    have h4 := congrArg (List.take q.length) h3
    rw [List.take_take, Nat.min_eq_left (by omega), List.take_append_of_le_length (Nat.le_refl _), List.take_length] at h4
    exact h4
theorem ext_pathC {T : TreeT} (hT : GoodT T) : ∀ (d : Nat) (q r : List Int), q.length + d = T.vars.length → Path T q → r ∈ extN T d q → Path T r
  | 0, q, r, _, hp, h => by rw [extN, List.mem_singleton] at h; subst h; exact hp
  | d + 1, q, r, hl, hp, h => by
    rw [extN] at h
    obtain ⟨l, h0, h1⟩ := List.mem_flatMap.1 h
    exact ext_pathC hT d _ r (by simp; omega) (path_snoc hT hp (by omega) h0) h1
theorem flatMap_one {β : Type} {f : Link → List β} {g : List Link} (hs : g.Pairwise fun x y => x.b < y.b) {l : Link} (hl : l ∈ g) (h : ∀ x ∈ g, x.b ≠ l.b → f x = []) : g.flatMap f = f l := by
  obtain ⟨p, s, rfl⟩ := List.append_of_mem hl
  rw [List.pairwise_append, List.pairwise_cons] at hs
  obtain ⟨_, ⟨h2, _⟩, h3⟩ := hs
  have nil : ∀ (xs : List Link), (∀ x ∈ xs, f x = []) → xs.flatMap f = [] := fun xs hx => by
    rw [List.flatMap_eq_nil_iff]; exact hx
  rw [List.flatMap_append, List.flatMap_cons, nil p, nil s, List.nil_append, List.append_nil]
  · intro x hx
    have := h2 x hx
    exact h x (by simp [hx]) (by omega)
  · intro x hx
    have := h3 x hx l (by simp)
    exact h x (by simp [hx]) (by omega)
theorem ext_preC {T : TreeT} (hT : GoodT T) {ns : List Int} (hp : Path T ns) (hl : ns.length ≤ T.vars.length) : ∀ (m d : Nat) (q : List Int), ns.length = q.length + m → ns.take q.length = q → q.length + d = T.vars.length → (extN T d q).filter (fun r => decide (r.take ns.length = ns)) = extN T (T.vars.length - ns.length) ns
  | 0, d, q, h1, h2, h3 => by
    rw [List.take_of_length_le (by omega)] at h2
    subst h2
    rw [show T.vars.length - ns.length = d by omega]
    exact List.filter_eq_self.2 fun r hr => decide_eq_true (mem_ext d ns r hr).2
  | m + 1, d, q, h1, h2, h3 => by
    obtain ⟨d, rfl⟩ : ∃ e, d = e + 1 := ⟨d - 1, by omega⟩
    have hq : q.length < ns.length := by omega
    obtain ⟨l, hl1, hl2⟩ := hp q.length hq
    have hab : Y2 T ns q.length = Y2 T q q.length := above_ext hT (by omega) fun j hj => by rw [← h2, List.length_take, Nat.min_eq_left (by omega)] at *; rw [getD_take hj]
    rw [hab] at hl1
    have hnext : ns.take (q.length + 1) = q ++ [l.b] := by
      rw [List.take_succ_eq_append_getElem hq, h2, hl2, Zf hq]
    rw [extN, List.filter_flatMap, flatMap_one (hT.sort _ _) hl1]
    · exact ext_preC hT hp hl m d (q ++ [l.b]) (by simp; omega) (by rw [List.length_append, List.length_singleton]; exact hnext) (by simp; omega)
    · intro x hx hne
      rw [List.filter_eq_nil_iff]
      intro r hr he
      have he := of_decide_eq_true he
      have h4 := (mem_ext d _ r hr).2
      rw [List.length_append, List.length_singleton] at h4
      have h5 := congrArg (List.take (q.length + 1)) he
      rw [List.take_take, Nat.min_eq_left (by omega), h4, hnext] at h5
      have h6 := (List.append_inj' h5 rfl).2
      simp only [List.cons.injEq, and_true] at h6
      exact hne h6
end Go.Proofs.YtcaeoebphfjfiaaGreat.Am


/- A walk goes to the next, or back. -/
namespace Go.Proofs.YtcaeoebphfjfiaaGreat.Am
open Go Go.RowKit
set_option maxRecDepth 100000
set_option linter.unusedVariables false
set_option linter.unusedSimpArgs false

end Go.Proofs.YtcaeoebphfjfiaaGreat.Am


/- A walk steps, tells the next row, the first one. -/
namespace Go.Proofs.YtcaeoebphfjfiaaGreat.Am
open Go Go.RowKit
set_option maxRecDepth 100000
set_option linter.unusedVariables false
set_option linter.unusedSimpArgs false

end Go.Proofs.YtcaeoebphfjfiaaGreat.Am


/- Walks as they are told to others; the first row; all rows. -/
namespace Go.Proofs.YtcaeoebphfjfiaaGreat.Am
open Go Go.RowKit
set_option maxRecDepth 100000
set_option linter.unusedVariables false
set_option linter.unusedSimpArgs false

def w0 : WalkS := ⟨[], false, false, 0⟩
def w1 : WalkS := ⟨[], false, true, 0⟩
def kRaw : Kd (Value × Int × Int) where
  sz := 3
  pos := by decide
  rep _ x cs := cs = [x.1, .int .i64 x.2.1, .int .u64 x.2.2] ∧ x.1.oneCell' = true
  len h := by rw [h.1]; rfl
  mono _ h := h
  one h v hv := by rw [h.1] at hv; simp at hv; rcases hv with rfl | rfl | rfl; exact h.2; rfl; rfl
structure Raws (G : Hp) (raws : List (Value × Int × Int)) (rows : List RowT) : Prop where
  len : raws.length = rows.length
  at_ : ∀ (i : Nat) (h : i < raws.length) (h' : i < rows.length), raws[i].2.1 = rows[i].cost ∧ raws[i].2.2 = rows[i].n ∧ Sl (Y6 .i64) G raws[i].1 rows[i].nodes
theorem Raws.mono {G G' : Hp} (h : G.sees G') {raws : List (Value × Int × Int)} {rows : List RowT} (hr : Raws G raws rows) : Raws G' raws rows :=
  ⟨hr.len, fun i a b => ⟨(hr.at_ i a b).1, (hr.at_ i a b).2.1, (hr.at_ i a b).2.2.mono h⟩⟩
theorem Raws.snoc {G : Hp} {raws : List (Value × Int × Int)} {rows : List RowT} (hr : Raws G raws rows) {v : Value} {r : RowT} (hs : Sl (Y6 .i64) G v r.nodes) : Raws G (raws ++ [(v, r.cost, r.n)]) (rows ++ [r]) := by
  have hl := hr.len
  refine ⟨by simp [hl], fun i a b => ?_⟩
  rw [List.length_append, List.length_singleton] at a b
  by_cases h : i < raws.length
  · have h' : i < rows.length := by omega
    rw [List.getElem_append_left h, List.getElem_append_left h']
    exact hr.at_ i h h'
  · obtain rfl : i = raws.length := by omega
    rw [List.getElem_append_right (Nat.le_refl _), List.getElem_append_right (by omega)]
    simp only [Nat.sub_self, List.getElem_cons_zero, hl]
    exact ⟨trivial, trivial, hs⟩
theorem Raws.sl {G H : Hp} {raws : List (Value × Int × Int)} {rows : List RowT} (hr : Raws G raws rows) (hle : G.sees H) {v : Value} (hs : Sl kRaw H v raws) : Sl kRow H v rows := by
  rcases hs with ⟨rfl, rfl⟩ | ⟨b, o, c, rfl, hb, hk, hx⟩
  · have := hr.len
    exact .inl ⟨rfl, List.eq_nil_of_length_eq_zero (by simpa using this.symm)⟩
  · refine .inr ⟨b, o, c, by rw [hr.len], hb, hk, fun i x hi => ?_⟩
    obtain ⟨hi', rfl⟩ := List.getElem?_eq_some_iff.1 hi
    have hi2 : i < raws.length := by rw [hr.len]; exact hi'
    obtain ⟨cs, h1, h2⟩ := hx i raws[i] (List.getElem?_eq_getElem hi2)
    obtain ⟨e1, e2, e3⟩ := hr.at_ i hi2 hi'
    refine ⟨cs, ⟨raws[i].1, ?_, e3.mono hle⟩, h2⟩
    rw [h1.1, e1, e2]
end Go.Proofs.YtcaeoebphfjfiaaGreat.Am


/- Variables that hang from nobody. -/
namespace Go.Proofs.YtcaeoebphfjfiaaGreat.Am
open Go Go.RowKit
set_option maxRecDepth 100000
set_option linter.unusedVariables false
set_option linter.unusedSimpArgs false

def Vi (ways : Int) (m : Nat) : List Link := (List.range m).map fun (k : Nat) => ⟨k, k, k, ways⟩
def Zs (k : Nat) : Forest := ⟨List.replicate k ⟨#[120]⟩, (List.range k).map fun (i : Nat) => (i : Int), List.replicate k (-1), List.replicate k [], List.replicate k []⟩
def Zx (ways : Int) (sizes : List Int) : Parts := ⟨sizes.map fun m => Vi ways m.toNat, sizes.map fun _ => []⟩
theorem apartL_next (ways : Int) (m : Nat) : Vi ways (m + 1) = Vi ways m ++ [⟨m, m, m, ways⟩] := by
  unfold Vi
  rw [List.range_succ, List.map_append]; rfl
theorem Vg (ways : Int) (m : Nat) : (Vi ways m).length = m := by unfold Vi; simp
structure ApartR (G : Hp) (ways : Int) (sizes : List Int) (i : Nat) (nds : List (List Value)) : Prop where
  len : nds.length = i
  at_ : ∀ (j : Nat) (h : j < nds.length) (h' : j < sizes.length), ∃ w, nds[j] = [w] ∧ Sl kLink G w (Vi ways sizes[j].toNat)
theorem ApartR.mono {G G' : Hp} (h : G.sees G') {ways : Int} {sizes : List Int} {i : Nat} {nds : List (List Value)} (hr : ApartR G ways sizes i nds) : ApartR G' ways sizes i nds :=
  ⟨hr.len, fun j a b => let ⟨w, h1, h2⟩ := hr.at_ j a b; ⟨w, h1, h2.mono h⟩⟩
theorem ApartR.snoc {G : Hp} {ways : Int} {sizes : List Int} {i : Nat} {nds : List (List Value)} (hr : ApartR G ways sizes i nds) (hi : i < sizes.length) {w : Value} (hs : Sl kLink G w (Vi ways sizes[i].toNat)) : ApartR G ways sizes (i + 1) (nds ++ [[w]]) := by
  have hl := hr.len
  refine ⟨by simp [hl], fun j a b => ?_⟩
  rw [List.length_append, List.length_singleton] at a
  by_cases h : j < nds.length
  · rw [List.getElem_append_left h]; exact hr.at_ j h b
  · obtain rfl : j = nds.length := by omega
    rw [List.getElem_append_right (Nat.le_refl _)]
    simp only [Nat.sub_self, List.getElem_cons_zero]
    subst hl
    exact ⟨w, rfl, hs⟩
theorem rep_next {α : Type} (n : Nat) (x : α) : List.replicate n x ++ [x] = List.replicate (n + 1) x := by rw [List.replicate_succ']
def eStr (v : Value) (i : Nat) : Ent := ⟨1, by decide, v, List.replicate i [.string ⟨#[120]⟩]⟩
def eInt (v : Value) (i : Nat) : Ent := ⟨1, by decide, v, (List.range i).map fun (k : Nat) => [.int .i64 k]⟩
def eNeg (v : Value) (i : Nat) : Ent := ⟨1, by decide, v, List.replicate i [.int .i64 (-1)]⟩
def Us (v : Value) (i : Nat) : Ent := ⟨1, by decide, v, List.replicate i [.slice none 0 0]⟩
def eNds (v : Value) (nds : List (List Value)) : Ent := ⟨1, by decide, v, nds⟩
theorem range_cells (i : Nat) : ((List.range i).map fun (k : Nat) => [Value.int .i64 k]) ++ [[.int .i64 i]] = (List.range (i + 1)).map fun (k : Nat) => [Value.int .i64 k] := by rw [List.range_succ, List.map_append]; rfl
theorem eStr_next (v w : Value) (i : Nat) : (⟨(eStr v i).sz, (eStr v i).pos, w, (eStr v i).raws ++ [[.string ⟨#[120]⟩]]⟩ : Ent) = eStr w (i + 1) := by unfold eStr; simp only [rep_next]
theorem eInt_next (v w : Value) (i : Nat) : (⟨(eInt v i).sz, (eInt v i).pos, w, (eInt v i).raws ++ [[.int .i64 i]]⟩ : Ent) = eInt w (i + 1) := by unfold eInt; simp only [range_cells]
theorem eNeg_next (v w : Value) (i : Nat) : (⟨(eNeg v i).sz, (eNeg v i).pos, w, (eNeg v i).raws ++ [[.int .i64 (-1)]]⟩ : Ent) = eNeg w (i + 1) := by unfold eNeg; simp only [rep_next]
theorem eNil_next (v w : Value) (i : Nat) : (⟨(Us v i).sz, (Us v i).pos, w, (Us v i).raws ++ [[.slice none 0 0]]⟩ : Ent) = Us w (i + 1) := by unfold Us; simp only [rep_next]
theorem eNds_next (v w : Value) (nds : List (List Value)) (x : List Value) : (⟨(eNds v nds).sz, (eNds v nds).pos, w, (eNds v nds).raws ++ [x]⟩ : Ent) = eNds w (nds ++ [x]) := rfl
def BxP (H G : Hp) (b2 b3 : List Value) : Prop := H.le G ∧ H.size + 4 ≤ G.size ∧ G.get H.size = .own 0 [.slice none 0 0, .slice none 0 0, .slice none 0 0, .slice none 0 0, .slice none 0 0] ∧ G.get (H.size + 1) = .own 0 [.slice none 0 0, .slice none 0 0] ∧ G.get (H.size + 2) = .own 0 b2 ∧ G.get (H.size + 3) = .own 0 b3
theorem BxP.le {H G G' : Hp} {b2 b3 : List Value} (h : BxP H G b2 b3) (hle : G.le G') : BxP H G' b2 b3 :=
  ⟨Hp.le_trans h.1 hle, Nat.le_trans h.2.1 hle.1, Xt hle (by have := h.2.1; omega) (by intro e; cases e) h.2.2.1, Xt hle (by have := h.2.1; omega) (by intro e; cases e) h.2.2.2.1, Xt hle (by have := h.2.1; omega) (by intro e; cases e) h.2.2.2.2.1, Xt hle (by have := h.2.1; omega) (by intro e; cases e) h.2.2.2.2.2⟩
theorem BxP.put2 {H G : Hp} {b2 b3 : List Value} (h : BxP H G b2 b3) (b2' : List Value) : BxP H (G.put (H.size + 2) (.own 0 b2')) b2' b3 :=
  ⟨Hp.le_put_new h.1 (by omega) _, h.2.1, by rw [Hp.put_other _ _ (by omega)]; exact h.2.2.1, by rw [Hp.put_other _ _ (by omega)]; exact h.2.2.2.1, Hp.put_same _ _ _, by rw [Hp.put_other _ _ (by omega)]; exact h.2.2.2.2.2⟩
theorem BxP.put3 {H G : Hp} {b2 b3 : List Value} (h : BxP H G b2 b3) (b3' : List Value) : BxP H (G.put (H.size + 3) (.own 0 b3')) b2 b3' :=
  ⟨Hp.le_put_new h.1 (by omega) _, h.2.1, by rw [Hp.put_other _ _ (by omega)]; exact h.2.2.1, by rw [Hp.put_other _ _ (by omega)]; exact h.2.2.2.1, by rw [Hp.put_other _ _ (by omega)]; exact h.2.2.2.2.1, Hp.put_same _ _ _⟩
theorem Z1 {H : Hp} {h : 1 ≠ 0} {v : Value} {raws : List (List Value)} {i : Nat} (hs : Sl (kCel 1 h) H v raws) (hl : raws.length = i) : ∃ A c, v = .slice A i c := by
  obtain ⟨A, c, e⟩ := hs.shape
  exact ⟨A, c, by rw [e, hl]⟩
set_option maxHeartbeats 4000000 in
theorem Apart_ok (ways : Int) (sizes : List Int) (u : Value) (H : Hp) (hs : Sl (Y6 .i64) H u sizes) (hl : sizes.length ≤ 1000) (hm : ∀ m ∈ sizes, m ≤ 100000) :
    ACalls Tryz.prog 45 #[.int .u64 ways, u] H (fun r H' => ∃ cs ds, r = .tuple #[.agg cs.toArray, .agg ds.toArray] ∧ kForest.rep H' (Zs sizes.length) cs ∧ kParts.rep H' (Zx ways sizes) ds ∧ H.le H') := by
  obtain ⟨Au, cu, rfl⟩ := hs.shape
  refine Xu Tryz.func45 rfl rfl rfl (by simp) ?_
  refine Xf ?_
  refine Xc (by kernel_rfl) ?_
  refine X2 (Y9 (l := [.slice none 0 0, .slice none 0 0, .slice none 0 0, .slice none 0 0, .slice none 0 0]) inf26.zero rfl (by decide)) ?_
  refine X2 (Y9 (l := [.slice none 0 0, .slice none 0 0]) inf29.zero rfl (by decide)) ?_
  refine Xf ?_
  refine Xc (by kernel_rfl) ?_
  refine Xa (Zb (pl := [(0, 1), (1, 1), (2, 1), (3, 1), (4, 1)]) (r := [.slice _ _ _, .slice _ _ _, .slice _ _ _, .slice _ _ _, .slice _ _ _]) Tryz.underlying26 inf26.zero (by decide) rfl rfl) ?_
  refine Xa (Zb (pl := [(0, 1), (1, 1)]) (r := [.slice _ _ _, .slice _ _ _]) Tryz.underlying29 inf29.zero (by decide) rfl rfl) ?_
  refine X2 (Y9 (l := [.slice none 0 0, .slice none 0 0, .slice none 0 0, .slice none 0 0, .slice none 0 0]) inf26.zero rfl (by decide)) ?_
  refine X2 (Y9 (l := [.slice none 0 0, .slice none 0 0]) inf29.zero rfl (by decide)) ?_
  refine X5 (Yq (vs := [.slice _ _ _, .slice _ _ _, .slice _ _ _, .slice _ _ _, .slice _ _ _]) rfl rfl inf26.size Yh Yp rfl rfl ?_)
  refine X5 (Yq (vs := [.slice _ _ _, .slice _ _ _]) rfl rfl inf29.size Yh Yp rfl rfl ?_)
  refine Xf ?_
  refine Xf ?_
  refine Xc (by kernel_rfl) ?_
  refine Xa (Xg rfl) ?_
  refine X3 ?_
  refine Yt (fun n t H' => ∃ (i : Nat) (G : Hp) (v0 v1 v2 v3 v4 v5 v6 : Value) (nds : List (List Value)), i ≤ sizes.length ∧ n = sizes.length - i ∧ BxP H G [v0, v1, v2, v3, v4] [v5, v6] ∧ OwnL G [eStr v0 i, eInt v1 i, eNeg v2 i, Us v3 i, Us v4 i, eNds v5 nds, Us v6 i] H' ∧ ApartR G ways sizes i nds ∧ t 0 = .int .u64 ways ∧ t 1 = .slice Au sizes.length cu ∧ t 4 = .pointer (some ⟨H.size, 0, none⟩) ∧ t 5 = .pointer (some ⟨H.size + 1, 0, none⟩) ∧ t 6 = .pointer (some ⟨H.size + 2, 0, none⟩) ∧ t 7 = .pointer (some ⟨H.size + 3, 0, none⟩) ∧ t 8 = .int .i64 i) (sizes.length) (⟨0, _, .slice none 0 0, .slice none 0 0, .slice none 0 0, .slice none 0 0, .slice none 0 0, .slice none 0 0, .slice none 0 0, [], by omega, rfl, ⟨t_le, by simp, Yh, Yh, Yh, Yh⟩, ⟨_, OwnP.nil _ _, _, OwnP.nil _ _, _, OwnP.nil _ _, _, OwnP.nil _ _, _, OwnP.nil _ _, _, OwnP.nil _ _, _, OwnP.nil _ _, rfl⟩, ⟨rfl, fun j h _ => absurd h (Nat.not_lt_zero _)⟩, rfl, rfl, rfl, rfl, rfl, rfl, rfl⟩) ?_
  rintro n t H1 ⟨i, G, v0, v1, v2, v3, v4, v5, v6, nds, hi, rfl, hb, hown, hr, e0, e1, e4, e5, e6, e7, e8⟩
  obtain ⟨A0, k0, rfl⟩ := Z1 (hown.sl (eStr v0 i) (by simp)) (List.length_replicate)
  obtain ⟨A1, k1, rfl⟩ := Z1 (hown.sl (eInt v1 i) (by simp)) (show ((List.range i).map fun (k : Nat) => [Value.int .i64 k]).length = i by simp)
  obtain ⟨A2, k2, rfl⟩ := Z1 (hown.sl (eNeg v2 i) (by simp)) (List.length_replicate)
  obtain ⟨A3, k3, rfl⟩ := Z1 (hown.sl (Us v3 i) (by simp)) (List.length_replicate)
  obtain ⟨A4, k4, rfl⟩ := Z1 (hown.sl (Us v4 i) (by simp)) (List.length_replicate)
  obtain ⟨A5, k5, rfl⟩ := Z1 (hown.sl (eNds v5 nds) (by simp)) hr.len
  obtain ⟨A6, k6, rfl⟩ := Z1 (hown.sl (Us v6 i) (by simp)) (List.length_replicate)
  have bH := hb.le hown.le
  obtain ⟨leH1, zH1, q0, q1, q2, q3⟩ := id bH
  have zz := hown.size
  refine Xf ?_
  refine Xf ?_
  refine Xc (by kernel_rfl) ?_
  refine Xa (Xb Xi) ?_
  refine Xa (Xw Xi) ?_
  refine Xa (Yl rfl Tryz.underlying23) ?_
  refine Xa (Yw rfl rfl) ?_
  refine X1 rfl rfl ?_ ?_
  intro hc1
  (try simp only [decide_eq_true_eq, decide_eq_false_iff_not, Bool.not_eq_true', Bool.not_eq_false'] at hc1)
  refine X6 ?_
  refine Xf ?_
  refine X3 ?_
  refine Xf ?_
  have hix : i < sizes.length := by omega
  have zz5 := hown.size
  have hL := (((hown.push (.own 1 [.string ⟨#[120]⟩])).push (.own 1 [.int .i64 i])).push (.own 1 [.int .i64 (-1)]))
  have leP : G.le (((G.push (.own 1 [.string ⟨#[120]⟩])).push (.own 1 [.int .i64 i])).push (.own 1 [.int .i64 (-1)])) := Hp.le_trans (Hp.le_trans (Hp.le_push (G) (.own 1 [.string ⟨#[120]⟩])) (Hp.le_push ((G.push (.own 1 [.string ⟨#[120]⟩]))) (.own 1 [.int .i64 i]))) (Hp.le_push (((G.push (.own 1 [.string ⟨#[120]⟩])).push (.own 1 [.int .i64 i]))) (.own 1 [.int .i64 (-1)]))
  have bL := hb.le leP
  have rL := hr.mono leP.sees
  have l0 : (((G.push (.own 1 [.string ⟨#[120]⟩])).push (.own 1 [.int .i64 i])).push (.own 1 [.int .i64 (-1)])).get (H1.size) = .own 1 [.string ⟨#[120]⟩] := by rw [zz5]; exact Yh
  have l1 : (((G.push (.own 1 [.string ⟨#[120]⟩])).push (.own 1 [.int .i64 i])).push (.own 1 [.int .i64 (-1)])).get (H1.size + 1) = .own 1 [.int .i64 i] := by rw [zz5]; exact Yh
  have l2 : (((G.push (.own 1 [.string ⟨#[120]⟩])).push (.own 1 [.int .i64 i])).push (.own 1 [.int .i64 (-1)])).get (H1.size + 2) = .own 1 [.int .i64 (-1)] := by rw [zz5]; exact Yh
  have zL : H1.size + 3 ≤ (((G.push (.own 1 [.string ⟨#[120]⟩])).push (.own 1 [.int .i64 i])).push (.own 1 [.int .i64 (-1)])).size := by simp; omega
  obtain ⟨GP, hGP⟩ : ∃ GP, GP = (((G.push (.own 1 [.string ⟨#[120]⟩])).push (.own 1 [.int .i64 i])).push (.own 1 [.int .i64 (-1)])) := ⟨_, rfl⟩
  rw [← hGP] at hL bL rL zL l0 l1 l2
  clear hGP leP
  refine Ys (by kernel_rfl) (Y1 (B := [0, 1, 0, 7, 0, 16, 0, 64, 255, 0, 512, 0, 4095, 1599, 16383, 32767, 65535, 131071, 262143]) (π := [0, 1, 2, 4, 5, 6, 7, 9, 10, 11, 3, 13, 8, 12, 14, 15, 16, 17, 18]) (by kernel_rfl)) ?_
  refine Xd rfl rfl (Xh (off := 0) Xi Tryz.underlying26 Xi inf22.size (by decide) Xi) Xp ?_
  refine Xd rfl rfl (Xl rfl Tryz.underlying22 rfl Xq) Xp ?_
  first | refine Y5 rfl rfl (Ya (r := [.string _]) Tryz.underlying22 inf9.size inf9.zero rfl (by decide) (by decide) (by decide) rfl) ?_
  refine Xd rfl rfl (Xh (off := 1) Xi Tryz.underlying26 Xi inf23.size (by decide) Xi) Xp ?_
  refine Xd rfl rfl (Xl rfl Tryz.underlying23 rfl Xq) Xp ?_
  refine Xd rfl rfl (Xb Xi) Xp ?_
  first | refine Y5 rfl rfl (Ya (r := [.int .i64 _]) Tryz.underlying23 inf3.size inf3.zero rfl (by decide) (by decide) (by decide) rfl) ?_
  refine Xd rfl rfl (Xh (off := 2) Xi Tryz.underlying26 Xi inf23.size (by decide) Xi) Xp ?_
  refine Xd rfl rfl (Xl rfl Tryz.underlying23 rfl Xq) Xp ?_
  first | refine Y5 rfl rfl (Ya (r := [.int .i64 _]) Tryz.underlying23 inf3.size inf3.zero rfl (by decide) (by decide) (by decide) rfl) ?_
  obtain ⟨Ga0, leGa0, ha0, back0⟩ := hL.rot.last
  have zGa := leGa0.1
  obtain ⟨_, zA, qa, qb, qc, qd⟩ := bL.le leGa0
  have m0 := Xt leGa0 (by omega) (by intro e; cases e) l0
  have m1 := Xt leGa0 (by omega) (by intro e; cases e) l1
  have m2 := Xt leGa0 (by omega) (by intro e; cases e) l2
  refine Yg rfl rfl (Ent.append ha0 Tryz.underlying22 inf9 Xi Xi rfl (lb := H1.size) (by omega) m0 rfl (by intro v hv; simp at hv; subst hv; rfl) (by simp only [eStr, List.length_replicate]; omega) (by decide) ?_)
  rintro w0 Gb0 Hb0 leb0 hb0
  have hsameO := Ent.sameO ha0 leb0 hb0
  obtain ⟨Gc0, lec0, hc0⟩ := back0 Gb0 Hb0 _ leb0 hb0
  rw [eStr_next] at hc0 hb0
  obtain ⟨W0, cw0, rfl⟩ : ∃ A c, w0 = Value.slice A (i + 1) c := Z1 (i := i + 1) (OwnP.sl hb0) (by simp [eStr])
  have bb0 := (bL.le lec0).le hc0.le
  obtain ⟨_, zb, qa0, qb0, qc0, qd0⟩ := id bb0
  have l1b := Xt hc0.le (by have := lec0.1; omega) (by intro e; cases e) (Xt lec0 (by omega) (by intro e; cases e) l1)
  have l2b := Xt hc0.le (by have := lec0.1; omega) (by intro e; cases e) (Xt lec0 (by omega) (by intro e; cases e) l2)
  refine ⟨Yf, ?_⟩
  clear hsameO qa qb qc qd m0 m1 m2
  clear l1b
  have l1 := Xt lec0 (by omega) (by intro e; cases e) l1
  clear l2b
  have l2 := Xt lec0 (by omega) (by intro e; cases e) l2
  replace bL := bL.le lec0
  replace rL := rL.mono lec0.sees
  replace zL := Nat.le_trans zL lec0.1
  clear hL
  have hL := hc0
  have zH0 := hL.size
  refine Xd rfl rfl (Xh (off := 0) Xi Tryz.underlying26 Xi inf22.size (by decide) Xi) Xp ?_
  obtain ⟨Ga1, leGa1, ha1, back1⟩ := hL.rot.last
  have zGa := leGa1.1
  obtain ⟨_, zA, qa, qb, qc, qd⟩ := bL.le leGa1
  have m0 := Xt leGa1 (by omega) (by intro e; cases e) l1
  have m1 := Xt leGa1 (by omega) (by intro e; cases e) l2
  refine Yg rfl rfl (Ent.append ha1 Tryz.underlying23 inf3 Xi Xi rfl (lb := H1.size + 1) (by omega) m0 rfl (by intro v hv; simp at hv; subst hv; rfl) (by simp only [eInt, List.length_map, List.length_range]; omega) (by decide) ?_)
  rintro w1 Gb1 Hb1 leb1 hb1
  have hsameO := Ent.sameO ha1 leb1 hb1
  obtain ⟨Gc1, lec1, hc1⟩ := back1 Gb1 Hb1 _ leb1 hb1
  rw [eInt_next] at hc1 hb1
  obtain ⟨W1, cw1, rfl⟩ : ∃ A c, w1 = Value.slice A (i + 1) c := Z1 (i := i + 1) (OwnP.sl hb1) (by simp [eInt])
  have bb1 := (bL.le lec1).le hc1.le
  obtain ⟨_, zb, qa1, qb1, qc1, qd1⟩ := id bb1
  have l2b := Xt hc1.le (by have := lec1.1; omega) (by intro e; cases e) (Xt lec1 (by omega) (by intro e; cases e) l2)
  refine ⟨Yf, ?_⟩
  clear hsameO qa qb qc qd m0 m1
  clear l2b
  have l2 := Xt lec1 (by omega) (by intro e; cases e) l2
  replace bL := bL.le lec1
  replace rL := rL.mono lec1.sees
  replace zL := Nat.le_trans zL lec1.1
  clear hL
  have hL := hc1
  have zH1 := hL.size
  obtain ⟨Ga2, leGa2, ha2, back2⟩ := hL.rot.last
  have zGa := leGa2.1
  obtain ⟨_, zA, qa, qb, qc, qd⟩ := bL.le leGa2
  have m0 := Xt leGa2 (by omega) (by intro e; cases e) l2
  refine Yg rfl rfl (Ent.append ha2 Tryz.underlying23 inf3 Xi Xi rfl (lb := H1.size + 2) (by omega) m0 rfl (by intro v hv; simp at hv; subst hv; rfl) (by simp only [eNeg, List.length_replicate]; omega) (by decide) ?_)
  rintro w2 Gb2 Hb2 leb2 hb2
  have hsameO := Ent.sameO ha2 leb2 hb2
  obtain ⟨Gc2, lec2, hc2⟩ := back2 Gb2 Hb2 _ leb2 hb2
  rw [eNeg_next] at hc2 hb2
  obtain ⟨W2, cw2, rfl⟩ : ∃ A c, w2 = Value.slice A (i + 1) c := Z1 (i := i + 1) (OwnP.sl hb2) (by simp [eNeg])
  have bb2 := (bL.le lec2).le hc2.le
  obtain ⟨_, zb, qa2, qb2, qc2, qd2⟩ := id bb2
  refine ⟨Yf, ?_⟩
  clear hsameO qa qb qc qd m0
  replace bL := bL.le lec2
  replace rL := rL.mono lec2.sees
  replace zL := Nat.le_trans zL lec2.1
  clear hL
  have hL := hc2
  have zH2 := hL.size
  first | refine Yg rfl rfl (Y8 rfl rfl rfl inf22.size Yh Yp rfl ?_)
  refine ⟨Yf, ?_⟩
  refine Xd rfl rfl (Xh (off := 1) Xi Tryz.underlying26 Xi inf23.size (by decide) Xi) Xp ?_
  first | refine Yg rfl rfl (Y8 rfl rfl rfl inf23.size Yh Yp rfl ?_)
  refine ⟨Yf, ?_⟩
  refine Xd rfl rfl (Xh (off := 2) Xi Tryz.underlying26 Xi inf23.size (by decide) Xi) Xp ?_
  first | refine Yg rfl rfl (Y8 rfl rfl rfl inf23.size Yh Yp rfl ?_)
  refine ⟨Yf, ?_⟩
  refine Xf ?_
  obtain ⟨H6, hH6⟩ : ∃ H6, H6 = Hb2.put (H.size + 2) (.own 0 [.slice W0 (i + 1) cw0, .slice W1 (i + 1) cw1, .slice W2 (i + 1) cw2, .slice A3 i k3, .slice A4 i k4]) := ⟨_, rfl⟩
  obtain ⟨G6, hG6⟩ : ∃ G6, G6 = Gc2.put (H.size + 2) (.own 0 [.slice W0 (i + 1) cw0, .slice W1 (i + 1) cw1, .slice W2 (i + 1) cw2, .slice A3 i k3, .slice A4 i k4]) := ⟨_, rfl⟩
  have ownG6 := hL.put_box (by have := bL.2.1; omega) bL.2.2.2.2.1 [.slice W0 (i + 1) cw0, .slice W1 (i + 1) cw1, .slice W2 (i + 1) cw2, .slice A3 i k3, .slice A4 i k4]
  have bG6 := bL.put2 [.slice W0 (i + 1) cw0, .slice W1 (i + 1) cw1, .slice W2 (i + 1) cw2, .slice A3 i k3, .slice A4 i k4]
  have rG6 := rL.mono (Hp.sees_box (cs' := [.slice W0 (i + 1) cw0, .slice W1 (i + 1) cw1, .slice W2 (i + 1) cw2, .slice A3 i k3, .slice A4 i k4]) _ bL.2.2.2.2.1)
  rw [← hG6] at ownG6 bG6 rG6
  rw [← hH6] at ownG6
  change ACode true _ _ _ _ _ (((Hb2.put (H.size + 2) (.own 0 [.slice W0 (i + 1) cw0, .slice A1 i k1, .slice A2 i k2, .slice A3 i k3, .slice A4 i k4])).put (H.size + 2) (.own 0 [.slice W0 (i + 1) cw0, .slice W1 (i + 1) cw1, .slice A2 i k2, .slice A3 i k3, .slice A4 i k4])).put (H.size + 2) (.own 0 [.slice W0 (i + 1) cw0, .slice W1 (i + 1) cw1, .slice W2 (i + 1) cw2, .slice A3 i k3, .slice A4 i k4]))
  rw [Hp.put_put]
  rw [Hp.put_put]
  rw [← hH6]
  clear hH6 hG6 hL bL rL zL
  have bbH6 := bG6.le ownG6.le
  obtain ⟨_, zzH6, s0H6, s1H6, s2H6, s3H6⟩ := id bbH6
  have zz6 := ownG6.size
  have hL := ((ownG6.push (.own 1 [.slice none 0 0])).push (.own 1 [.slice none 0 0]))
  have leP : G6.le ((G6.push (.own 1 [.slice none 0 0])).push (.own 1 [.slice none 0 0])) := Hp.le_trans (Hp.le_push (G6) (.own 1 [.slice none 0 0])) (Hp.le_push ((G6.push (.own 1 [.slice none 0 0]))) (.own 1 [.slice none 0 0]))
  have bL := bG6.le leP
  have rL := rG6.mono leP.sees
  have l0 : ((G6.push (.own 1 [.slice none 0 0])).push (.own 1 [.slice none 0 0])).get (H6.size) = .own 1 [.slice none 0 0] := by rw [zz6]; exact Yh
  have l1 : ((G6.push (.own 1 [.slice none 0 0])).push (.own 1 [.slice none 0 0])).get (H6.size + 1) = .own 1 [.slice none 0 0] := by rw [zz6]; exact Yh
  have zL : H6.size + 2 ≤ ((G6.push (.own 1 [.slice none 0 0])).push (.own 1 [.slice none 0 0])).size := by simp; omega
  obtain ⟨GP, hGP⟩ : ∃ GP, GP = ((G6.push (.own 1 [.slice none 0 0])).push (.own 1 [.slice none 0 0])) := ⟨_, rfl⟩
  rw [← hGP] at hL bL rL zL l0 l1
  clear hGP leP
  refine Ys (by kernel_rfl) (Y1 (B := [0, 1, 0, 7, 0, 16, 0, 127, 63, 511, 1023, 2047]) (π := [0, 1, 2, 4, 5, 6, 3, 8, 7, 9, 10, 11]) (by kernel_rfl)) ?_
  refine Xd rfl rfl (Xh (off := 3) Xi Tryz.underlying26 Xi inf24.size (by decide) Xi) Xp ?_
  refine Xd rfl rfl (Xl rfl Tryz.underlying24 rfl Xq) Xp ?_
  refine Y5 rfl rfl (Ya (r := [.slice _ _ _]) Tryz.underlying24 inf23.size inf23.zero rfl (by decide) (by decide) (by decide) rfl) ?_
  refine Xd rfl rfl (Xh (off := 4) Xi Tryz.underlying26 Xi inf24.size (by decide) Xi) Xp ?_
  refine Xd rfl rfl (Xl rfl Tryz.underlying24 rfl Xq) Xp ?_
  refine Y5 rfl rfl (Ya (r := [.slice _ _ _]) Tryz.underlying24 inf23.size inf23.zero rfl (by decide) (by decide) (by decide) rfl) ?_
  obtain ⟨Ga3, leGa3, ha3, back3⟩ := hL.rot.last
  have zGa := leGa3.1
  obtain ⟨_, zA, qa, qb, qc, qd⟩ := bL.le leGa3
  have m0 := Xt leGa3 (by omega) (by intro e; cases e) l0
  have m1 := Xt leGa3 (by omega) (by intro e; cases e) l1
  refine Yg rfl rfl (Ent.append ha3 Tryz.underlying24 inf23 Xi Xi rfl (lb := H6.size) (by omega) m0 rfl (by intro v hv; simp at hv; subst hv; rfl) (by simp only [Us, List.length_replicate]; omega) (by decide) ?_)
  rintro w3 Gb3 Hb3 leb3 hb3
  have hsameO := Ent.sameO ha3 leb3 hb3
  obtain ⟨Gc3, lec3, hc3⟩ := back3 Gb3 Hb3 _ leb3 hb3
  rw [eNil_next] at hc3 hb3
  obtain ⟨W3, cw3, rfl⟩ : ∃ A c, w3 = Value.slice A (i + 1) c := Z1 (i := i + 1) (OwnP.sl hb3) (by simp [Us])
  have bb3 := (bL.le lec3).le hc3.le
  obtain ⟨_, zb, qa3, qb3, qc3, qd3⟩ := id bb3
  have l1b := Xt hc3.le (by have := lec3.1; omega) (by intro e; cases e) (Xt lec3 (by omega) (by intro e; cases e) l1)
  refine ⟨Yf, ?_⟩
  clear hsameO qa qb qc qd m0 m1
  clear l1b
  have l1 := Xt lec3 (by omega) (by intro e; cases e) l1
  replace bL := bL.le lec3
  replace rL := rL.mono lec3.sees
  replace zL := Nat.le_trans zL lec3.1
  clear hL
  have hL := hc3
  have zH3 := hL.size
  refine Xd rfl rfl (Xh (off := 3) Xi Tryz.underlying26 Xi inf24.size (by decide) Xi) Xp ?_
  obtain ⟨Ga4, leGa4, ha4, back4⟩ := hL.rot.last
  have zGa := leGa4.1
  obtain ⟨_, zA, qa, qb, qc, qd⟩ := bL.le leGa4
  have m0 := Xt leGa4 (by omega) (by intro e; cases e) l1
  refine Yg rfl rfl (Ent.append ha4 Tryz.underlying24 inf23 Xi Xi rfl (lb := H6.size + 1) (by omega) m0 rfl (by intro v hv; simp at hv; subst hv; rfl) (by simp only [Us, List.length_replicate]; omega) (by decide) ?_)
  rintro w4 Gb4 Hb4 leb4 hb4
  have hsameO := Ent.sameO ha4 leb4 hb4
  obtain ⟨Gc4, lec4, hc4⟩ := back4 Gb4 Hb4 _ leb4 hb4
  rw [eNil_next] at hc4 hb4
  obtain ⟨W4, cw4, rfl⟩ : ∃ A c, w4 = Value.slice A (i + 1) c := Z1 (i := i + 1) (OwnP.sl hb4) (by simp [Us])
  have bb4 := (bL.le lec4).le hc4.le
  obtain ⟨_, zb, qa4, qb4, qc4, qd4⟩ := id bb4
  refine ⟨Yf, ?_⟩
  clear hsameO qa qb qc qd m0
  replace bL := bL.le lec4
  replace rL := rL.mono lec4.sees
  replace zL := Nat.le_trans zL lec4.1
  clear hL
  have hL := hc4
  have zH4 := hL.size
  first | refine Yg rfl rfl (Y8 rfl rfl rfl inf24.size Yh Yp rfl ?_)
  refine ⟨Yf, ?_⟩
  refine Xd rfl rfl (Xh (off := 4) Xi Tryz.underlying26 Xi inf24.size (by decide) Xi) Xp ?_
  first | refine Yg rfl rfl (Y8 rfl rfl rfl inf24.size Yh Yp rfl ?_)
  refine ⟨Yf, ?_⟩
  refine Xf ?_
  obtain ⟨H7, hH7⟩ : ∃ H7, H7 = Hb4.put (H.size + 2) (.own 0 [.slice W0 (i + 1) cw0, .slice W1 (i + 1) cw1, .slice W2 (i + 1) cw2, .slice W3 (i + 1) cw3, .slice W4 (i + 1) cw4]) := ⟨_, rfl⟩
  obtain ⟨G7, hG7⟩ : ∃ G7, G7 = Gc4.put (H.size + 2) (.own 0 [.slice W0 (i + 1) cw0, .slice W1 (i + 1) cw1, .slice W2 (i + 1) cw2, .slice W3 (i + 1) cw3, .slice W4 (i + 1) cw4]) := ⟨_, rfl⟩
  have ownG7 := hL.put_box (by have := bL.2.1; omega) bL.2.2.2.2.1 [.slice W0 (i + 1) cw0, .slice W1 (i + 1) cw1, .slice W2 (i + 1) cw2, .slice W3 (i + 1) cw3, .slice W4 (i + 1) cw4]
  have bG7 := bL.put2 [.slice W0 (i + 1) cw0, .slice W1 (i + 1) cw1, .slice W2 (i + 1) cw2, .slice W3 (i + 1) cw3, .slice W4 (i + 1) cw4]
  have rG7 := rL.mono (Hp.sees_box (cs' := [.slice W0 (i + 1) cw0, .slice W1 (i + 1) cw1, .slice W2 (i + 1) cw2, .slice W3 (i + 1) cw3, .slice W4 (i + 1) cw4]) _ bL.2.2.2.2.1)
  rw [← hG7] at ownG7 bG7 rG7
  rw [← hH7] at ownG7
  change ACode true _ _ _ _ _ ((Hb4.put (H.size + 2) (.own 0 [.slice W0 (i + 1) cw0, .slice W1 (i + 1) cw1, .slice W2 (i + 1) cw2, .slice W3 (i + 1) cw3, .slice A4 i k4])).put (H.size + 2) (.own 0 [.slice W0 (i + 1) cw0, .slice W1 (i + 1) cw1, .slice W2 (i + 1) cw2, .slice W3 (i + 1) cw3, .slice W4 (i + 1) cw4]))
  rw [Hp.put_put]
  rw [← hH7]
  clear hH7 hG7 hL bL rL zL
  have bbH7 := bG7.le ownG7.le
  obtain ⟨_, zzH7, s0H7, s1H7, s2H7, s3H7⟩ := id bbH7
  have lit7 := OwnP.lit kLink H7 (cs := [])
  have own7 := ownG7.push .dead
  have b7 := bG7.le (G7.le_push .dead)
  have r7 := rG7.mono (G7.le_push .dead).sees
  obtain ⟨bs, os, es, hbs, hcs⟩ := (hs.mono leH1.sees).int_at (i := (i : Int)) (by omega) (by omega)
  subst es
  rw [Int.toNat_natCast, Zf hix] at hcs
  have hmi := hm _ (List.getElem_mem hix)
  have hcs0 : H.cell? bs (os + i * 1) = some (.int .i64 sizes[i]) := by
    obtain ⟨b9, o9, e9, hb9, hc9⟩ := hs.int_at (i := (i : Int)) (by omega) (by omega)
    simp only [Option.some.injEq, Addr.mk.injEq, and_true] at e9
    obtain ⟨rfl, rfl⟩ := e9
    rwa [Int.toNat_natCast, Zf hix] at hc9
  have hbs0 : bs < H.size := by
    obtain ⟨b9, o9, e9, hb9, hc9⟩ := hs.int_at (i := (i : Int)) (by omega) (by omega)
    simp only [Option.some.injEq, Addr.mk.injEq, and_true] at e9
    obtain ⟨rfl, rfl⟩ := e9
    exact hb9
  have hlen7 : nds.length = i := hr.len
  refine Xc (by kernel_rfl) ?_
  first | refine X2 (Ya (r := []) Tryz.underlying68 inf78.size inf78.zero rfl (by decide) (by decide) (by decide) rfl) ?_
  refine Xa (X4 rfl) ?_
  refine Xf ?_
  refine Xf ?_
  refine Xc (by kernel_rfl) ?_
  refine Xa (Xg rfl) ?_
  refine X3 ?_
  refine Yt (fun n t H' => ∃ (k : Nat) (Gx Gm : Hp) (C : Option Addr) (c9 : Nat), k ≤ sizes[i].toNat ∧ n = sizes[i].toNat - k ∧ BxP H Gx [.slice W0 (i + 1) cw0, .slice W1 (i + 1) cw1, .slice W2 (i + 1) cw2, .slice W3 (i + 1) cw3, .slice W4 (i + 1) cw4] [.slice A5 i k5, .slice A6 i k6] ∧ OwnL Gx [eNds (.slice A5 i k5) nds, Us (.slice A6 i k6) i, eStr (.slice W0 (i + 1) cw0) (i + 1), eInt (.slice W1 (i + 1) cw1) (i + 1), eNeg (.slice W2 (i + 1) cw2) (i + 1), Us (.slice W3 (i + 1) cw3) (i + 1), Us (.slice W4 (i + 1) cw4) (i + 1)] Gm ∧ ApartR Gx ways sizes i nds ∧ OwnP kLink Gm H' (.slice C k c9) (Vi ways k) ∧ t 0 = .int .u64 ways ∧ t 1 = .slice (some ⟨bs, os, none⟩) sizes.length cu ∧ t 4 = .pointer (some ⟨H.size, 0, none⟩) ∧ t 5 = .pointer (some ⟨H.size + 1, 0, none⟩) ∧ t 6 = .pointer (some ⟨H.size + 2, 0, none⟩) ∧ t 7 = .pointer (some ⟨H.size + 3, 0, none⟩) ∧ t 8 = .int .i64 i ∧ t 9 = .slice C k c9 ∧ t 10 = .int .i64 k) (sizes[i].toNat) (⟨0, _, _, _, _, by omega, rfl, b7, own7, r7, lit7, e0, e1, e4, e5, e6, e7, e8, rfl, rfl⟩) ?_
  rintro n t H8 ⟨k, Gx, Gm, C, c9, hk, rfl, bx, ownx, rx, ownl, e0, e1, e4, e5, e6, e7, e8, e9, e10⟩
  have leH8 := (bx.le (Hp.le_trans ownx.le ownl.le)).1
  have hcs8 := leH8.cell1 hbs0 hcs0
  have hll := Vg ways k
  have zl := ownl.size
  refine Xf ?_
  refine Xf ?_
  refine Xc (by kernel_rfl) ?_
  refine Xa (Xb Xi) ?_
  refine Xa (Xw Xi) ?_
  refine Xa (Xb Xi) ?_
  refine Xa (Xo rfl rfl Tryz.underlying23 inf3.size Xy Xy) ?_
  refine Xa (Xl rfl Tryz.underlying3 rfl Xq) ?_
  refine Xa (Yw rfl rfl) ?_
  refine X1 rfl rfl ?_ ?_
  intro hc2
  (try simp only [decide_eq_true_eq, decide_eq_false_iff_not, Bool.not_eq_true', Bool.not_eq_false'] at hc2)
  refine X6 ?_
  refine Xf ?_
  refine X3 ?_
  refine Xc (by kernel_rfl) ?_
  refine Xa (Xw Xi) ?_
  refine Xa (Xb Xi) ?_
  refine Xa (Xb Xi) ?_
  refine Xa (Xb Xi) ?_
  refine Xa (Xb Xi) ?_
  refine Xa (Zb (pl := [(0, 1), (1, 1), (2, 1), (3, 1)]) (r := [.int .i64 _, .int .i64 _, .int .i64 _, .int .u64 _]) Tryz.underlying78 inf78.zero (by decide) rfl rfl) ?_
  first | refine X2 (Ya (r := [.int .i64 _, .int .i64 _, .int .i64 _, .int .u64 _]) Tryz.underlying68 inf78.size inf78.zero rfl (by decide) (by decide) (by decide) rfl) ?_
  refine X5 (OwnP.append (ys := [⟨k, k, k, ways⟩]) (ownl.push _) Tryz.underlying68 inf78 Xi Xi rfl (Zl (k := kLink) rfl rfl ownl.size rfl) (by rw [hll]; simp only [List.length_singleton]; omega) (by rw [hll]; simp only [List.length_singleton]; omega) ?_)
  rintro w9 G9 H9 le9 own9
  obtain ⟨C9, c99, e99⟩ := own9.shape
  rw [← apartL_next] at own9
  rw [List.length_append, hll, List.length_singleton] at e99
  subst e99
  obtain ⟨Gy, ley, owny⟩ := ownx.later (Hp.le_trans (Gm.le_push _) le9)
  refine Xa (X4 rfl) ?_
  refine Xc (by kernel_rfl) ?_
  refine Xa (Xb Xi) ?_
  refine Xa (Yd rfl rfl Yk) ?_
  refine Xa (Xg rfl) ?_
  exact ⟨sizes[i].toNat - (k + 1), by omega, k + 1, Gy, G9, C9, c99, by omega, rfl, bx.le ley, owny, rx.mono ley.sees, own9, e0, e1, e4, e5, e6, e7, e8, rfl, rfl⟩
  intro hc2
  (try simp only [decide_eq_true_eq, decide_eq_false_iff_not, Bool.not_eq_true', Bool.not_eq_false'] at hc2)
  refine Yj ?_
  obtain rfl : k = sizes[i].toNat := by omega
  obtain ⟨Gy, ley, owny⟩ := ownx.later ownl.le
  have by' := bx.le ley
  have slN := owny.below (k' := kLink) (fun st => Zh st) (by intro e he; simp at he; rcases he with rfl | rfl | rfl | rfl | rfl | rfl | rfl <;> exact (show (1 : Nat) ≠ 4 by decide)) ownl.sl
  have ry := rx.mono ley.sees
  obtain ⟨_, zz8, s08, s18, s28, s38⟩ := by'.le owny.le
  have zz12 := owny.size
  have hL := ((owny.push (.own 1 [.slice C sizes[i].toNat c9])).push (.own 1 [.slice none 0 0]))
  have leP : Gy.le ((Gy.push (.own 1 [.slice C sizes[i].toNat c9])).push (.own 1 [.slice none 0 0])) := Hp.le_trans (Hp.le_push (Gy) (.own 1 [.slice C sizes[i].toNat c9])) (Hp.le_push ((Gy.push (.own 1 [.slice C sizes[i].toNat c9]))) (.own 1 [.slice none 0 0]))
  have bL := by'.le leP
  have rL := ry.mono leP.sees
  have sN := slN.mono leP.sees
  have l0 : ((Gy.push (.own 1 [.slice C sizes[i].toNat c9])).push (.own 1 [.slice none 0 0])).get (H8.size) = .own 1 [.slice C sizes[i].toNat c9] := by rw [zz12]; exact Yh
  have l1 : ((Gy.push (.own 1 [.slice C sizes[i].toNat c9])).push (.own 1 [.slice none 0 0])).get (H8.size + 1) = .own 1 [.slice none 0 0] := by rw [zz12]; exact Yh
  have zL : H8.size + 2 ≤ ((Gy.push (.own 1 [.slice C sizes[i].toNat c9])).push (.own 1 [.slice none 0 0])).size := by simp; omega
  obtain ⟨GP, hGP⟩ : ∃ GP, GP = ((Gy.push (.own 1 [.slice C sizes[i].toNat c9])).push (.own 1 [.slice none 0 0])) := ⟨_, rfl⟩
  rw [← hGP] at hL bL rL zL sN l0 l1
  clear hGP leP
  refine Ys (by kernel_rfl) (Y1 (B := [0, 1, 0, 4, 15, 0, 32, 0, 255, 127, 1023, 2047, 4095]) (π := [0, 1, 2, 3, 5, 6, 7, 4, 9, 8, 10, 11, 12]) (by kernel_rfl)) ?_
  refine Xd rfl rfl (Xh (off := 0) Xi Tryz.underlying29 Xi inf27.size (by decide) Xi) Xp ?_
  refine Xd rfl rfl (Xl rfl Tryz.underlying27 rfl Xq) Xp ?_
  refine Xd rfl rfl (Xw Xi) Xp ?_
  refine Y5 rfl rfl (Ya (r := [.slice _ _ _]) Tryz.underlying27 inf68.size inf68.zero rfl (by decide) (by decide) (by decide) rfl) ?_
  refine Xd rfl rfl (Xh (off := 1) Xi Tryz.underlying29 Xi inf27.size (by decide) Xi) Xp ?_
  refine Xd rfl rfl (Xl rfl Tryz.underlying27 rfl Xq) Xp ?_
  refine Y5 rfl rfl (Ya (r := [.slice _ _ _]) Tryz.underlying27 inf68.size inf68.zero rfl (by decide) (by decide) (by decide) rfl) ?_
  obtain ⟨Ga5, leGa5, ha5, back5⟩ := hL.rot.last
  have zGa := leGa5.1
  obtain ⟨_, zA, qa, qb, qc, qd⟩ := bL.le leGa5
  have m0 := Xt leGa5 (by omega) (by intro e; cases e) l0
  have m1 := Xt leGa5 (by omega) (by intro e; cases e) l1
  refine Yg rfl rfl (Ent.append ha5 Tryz.underlying27 inf68 Xi Xi rfl (lb := H8.size) (by omega) m0 rfl (by intro v hv; simp at hv; subst hv; rfl) (by simp only [eNds, rL.len]; omega) (by decide) ?_)
  rintro w5 Gb5 Hb5 leb5 hb5
  have hsameO := Ent.sameO ha5 leb5 hb5
  obtain ⟨Gc5, lec5, hc5⟩ := back5 Gb5 Hb5 _ leb5 hb5
  rw [eNds_next] at hc5 hb5
  obtain ⟨W5, cw5, rfl⟩ : ∃ A c, w5 = Value.slice A (i + 1) c := Z1 (i := i + 1) (OwnP.sl hb5) (by simp [eNds, rL.len])
  have bb5 := (bL.le lec5).le hc5.le
  obtain ⟨_, zb, qa5, qb5, qc5, qd5⟩ := id bb5
  have l1b := Xt hc5.le (by have := lec5.1; omega) (by intro e; cases e) (Xt lec5 (by omega) (by intro e; cases e) l1)
  refine ⟨Yf, ?_⟩
  clear hsameO qa qb qc qd m0 m1
  clear l1b
  have l1 := Xt lec5 (by omega) (by intro e; cases e) l1
  replace bL := bL.le lec5
  replace sN := sN.mono lec5.sees
  replace rL := rL.mono lec5.sees
  replace zL := Nat.le_trans zL lec5.1
  clear hL
  have hL := hc5
  have zH5 := hL.size
  refine Xd rfl rfl (Xh (off := 0) Xi Tryz.underlying29 Xi inf27.size (by decide) Xi) Xp ?_
  obtain ⟨Ga6, leGa6, ha6, back6⟩ := hL.rot.last
  have zGa := leGa6.1
  obtain ⟨_, zA, qa, qb, qc, qd⟩ := bL.le leGa6
  have m0 := Xt leGa6 (by omega) (by intro e; cases e) l1
  refine Yg rfl rfl (Ent.append ha6 Tryz.underlying27 inf68 Xi Xi rfl (lb := H8.size + 1) (by omega) m0 rfl (by intro v hv; simp at hv; subst hv; rfl) (by simp only [Us, List.length_replicate]; omega) (by decide) ?_)
  rintro w6 Gb6 Hb6 leb6 hb6
  have hsameO := Ent.sameO ha6 leb6 hb6
  obtain ⟨Gc6, lec6, hc6⟩ := back6 Gb6 Hb6 _ leb6 hb6
  rw [eNil_next] at hc6 hb6
  obtain ⟨W6, cw6, rfl⟩ : ∃ A c, w6 = Value.slice A (i + 1) c := Z1 (i := i + 1) (OwnP.sl hb6) (by simp [Us])
  have bb6 := (bL.le lec6).le hc6.le
  obtain ⟨_, zb, qa6, qb6, qc6, qd6⟩ := id bb6
  refine ⟨Yf, ?_⟩
  clear hsameO qa qb qc qd m0
  replace bL := bL.le lec6
  replace sN := sN.mono lec6.sees
  replace rL := rL.mono lec6.sees
  replace zL := Nat.le_trans zL lec6.1
  clear hL
  have hL := hc6
  have zH6 := hL.size
  first | refine Yg rfl rfl (Y8 rfl rfl rfl inf27.size Yh Yp rfl ?_)
  refine ⟨Yf, ?_⟩
  refine Xd rfl rfl (Xh (off := 1) Xi Tryz.underlying29 Xi inf27.size (by decide) Xi) Xp ?_
  first | refine Yg rfl rfl (Y8 rfl rfl rfl inf27.size Yh Yp rfl ?_)
  refine ⟨Yf, ?_⟩
  obtain ⟨H4, hH4⟩ : ∃ H4, H4 = Hb6.put (H.size + 3) (.own 0 [.slice W5 (i + 1) cw5, .slice W6 (i + 1) cw6]) := ⟨_, rfl⟩
  obtain ⟨G4, hG4⟩ : ∃ G4, G4 = Gc6.put (H.size + 3) (.own 0 [.slice W5 (i + 1) cw5, .slice W6 (i + 1) cw6]) := ⟨_, rfl⟩
  have ownG4 := hL.put_box (by have := bL.2.1; omega) bL.2.2.2.2.2 [.slice W5 (i + 1) cw5, .slice W6 (i + 1) cw6]
  have bG4 := bL.put3 [.slice W5 (i + 1) cw5, .slice W6 (i + 1) cw6]
  have rG4 := rL.mono (Hp.sees_box (cs' := [.slice W5 (i + 1) cw5, .slice W6 (i + 1) cw6]) _ bL.2.2.2.2.2)
  rw [← hG4] at ownG4 bG4 rG4
  rw [← hH4] at ownG4
  change ACode true _ _ _ _ _ ((Hb6.put (H.size + 3) (.own 0 [.slice W5 (i + 1) cw5, .slice A6 i k6])).put (H.size + 3) (.own 0 [.slice W5 (i + 1) cw5, .slice W6 (i + 1) cw6]))
  rw [Hp.put_put]
  rw [← hH4]
  have sN4 := sN.mono (Hp.sees_box (cs' := [.slice W5 (i + 1) cw5, .slice W6 (i + 1) cw6]) _ bL.2.2.2.2.2)
  rw [← hG4] at sN4
  clear hH4 hG4 hL bL rL zL
  have bbH4 := bG4.le ownG4.le
  obtain ⟨_, zzH4, s0H4, s1H4, s2H4, s3H4⟩ := id bbH4
  refine Xc (by kernel_rfl) ?_
  refine Xa (Xb Xi) ?_
  refine Xa (Yd rfl rfl Yk) ?_
  refine Xa (Xg rfl) ?_
  exact ⟨sizes.length - (i + 1), by omega, i + 1, G4, _, _, _, _, _, _, _, (nds ++ [[Value.slice C sizes[i].toNat c9]] : List (List Value)), by omega, rfl, bG4, ownG4, rG4.snoc hix sN4, e0, e1, e4, e5, e6, e7, rfl⟩
  intro hc1
  (try simp only [decide_eq_true_eq, decide_eq_false_iff_not, Bool.not_eq_true', Bool.not_eq_false'] at hc1)
  refine Yj ?_
  refine Xf ?_
  refine Ys (by kernel_rfl) (Y1 (B := [0, 0, 1, 7]) (π := [0, 1, 2, 3]) (by kernel_rfl)) ?_
  refine Xd rfl rfl (Yc (cs := [.slice _ _ _, .slice _ _ _, .slice _ _ _, .slice _ _ _, .slice _ _ _]) Xi Tryz.underlying26 Xi inf26.size Yb) Xp ?_
  refine Xd rfl rfl (Yc (cs := [.slice _ _ _, .slice _ _ _]) Xi Tryz.underlying29 Xi inf29.size Yb) Xp ?_
  refine Yg rfl rfl (Yq (vs := [.slice _ _ _, .slice _ _ _, .slice _ _ _, .slice _ _ _, .slice _ _ _]) Xi Xi inf26.size Yh Yp Xi Xi ?_)
  refine ⟨Yf, ?_⟩
  refine Yg rfl rfl (Yq (vs := [.slice _ _ _, .slice _ _ _]) Xi Xi inf29.size Yh Yp Xi Xi ?_)
  refine ⟨Yf, ?_⟩
  refine X8 ?_
  obtain rfl : i = sizes.length := by omega
  have se := hown.le.sees
  have p0 := hown.sl (eStr (.slice A0 sizes.length k0) sizes.length) (by simp)
  have p1 := hown.sl (eInt (.slice A1 sizes.length k1) sizes.length) (by simp)
  have p2 := hown.sl (eNeg (.slice A2 sizes.length k2) sizes.length) (by simp)
  have p3 := hown.sl (Us (.slice A3 sizes.length k3) sizes.length) (by simp)
  have p4 := hown.sl (Us (.slice A4 sizes.length k4) sizes.length) (by simp)
  have p5 := hown.sl (eNds (.slice A5 sizes.length k5) nds) (by simp)
  have p6 := hown.sl (Us (.slice A6 sizes.length k6) sizes.length) (by simp)
  have hrl := hr.len
  have hz1 : H1.sees (H1.put H.size (.own 0 [.slice A0 sizes.length k0, .slice A1 sizes.length k1, .slice A2 sizes.length k2, .slice A3 sizes.length k3, .slice A4 sizes.length k4])) := Hp.sees_box _ q0
  have hz2 : (H1.put H.size (.own 0 [.slice A0 sizes.length k0, .slice A1 sizes.length k1, .slice A2 sizes.length k2, .slice A3 sizes.length k3, .slice A4 sizes.length k4])).sees ((H1.put H.size (.own 0 [.slice A0 sizes.length k0, .slice A1 sizes.length k1, .slice A2 sizes.length k2, .slice A3 sizes.length k3, .slice A4 sizes.length k4])).put (H.size + 1) (.own 0 [.slice A5 sizes.length k5, .slice A6 sizes.length k6])) := Hp.sees_box (cs := [.slice none 0 0, .slice none 0 0]) _ (by rw [Hp.put_other _ _ (by omega)]; exact q1)
  have hz := hz1.trans hz2
  refine ⟨_, V0 (Zc Xi (Za (cs := [.slice A0 sizes.length k0, .slice A1 sizes.length k1, .slice A2 sizes.length k2, .slice A3 sizes.length k3, .slice A4 sizes.length k4]) Tryz.underlying26 rfl inf26.size Yb)) (Zc Xi (Za (cs := [.slice A5 sizes.length k5, .slice A6 sizes.length k6]) Tryz.underlying29 rfl inf29.size Yb)), [_, _, _, _, _], [_, _], rfl, ⟨_, _, _, _, _, rfl, ?_, ?_, ?_, ?_, ?_⟩, ⟨_, _, rfl, ?_, ?_⟩, Hp.le_put_new (Hp.le_put_new leH1 (Nat.le_refl _) _) (by omega) _⟩
  · exact Sl.conv (k := kStr) (p0.mono hz) (by simp [eStr, Zs]) (fun j a b => by simp [eStr, Zs, kStr])
  · exact Sl.conv (k := Y6 .i64) (p1.mono hz) (by simp [eInt, Zs]) (fun j a b => by simp [eInt, Zs, Y6])
  · exact Sl.conv (k := Y6 .i64) (p2.mono hz) (by simp [eNeg, Zs]) (fun j a b => by simp [eNeg, Zs, Y6])
  · exact Sl.conv (k := Vs (Y6 .i64)) (p3.mono hz) (by simp [Us, Zs]) (fun j a b => by simp only [Us, Zs, List.getElem_replicate]; exact ⟨_, rfl, Sl.nil _ _⟩)
  · exact Sl.conv (k := Vs (Y6 .i64)) (p4.mono hz) (by simp [Us, Zs]) (fun j a b => by simp only [Us, Zs, List.getElem_replicate]; exact ⟨_, rfl, Sl.nil _ _⟩)
  · exact Sl.conv (k := Vs kLink) (p5.mono hz) (by simp [eNds, Zx, hrl]) (fun j a b => by
      obtain ⟨w, h1, h2⟩ := hr.at_ j a (by simpa [Zx] using b)
      simp only [Zx, List.getElem_map]
      exact ⟨w, h1, (h2.mono se).mono hz⟩)
  · exact Sl.conv (k := Vs kLink) (p6.mono hz) (by simp [Us, Zx]) (fun j a b => by simp only [Us, Zx, List.getElem_replicate, List.getElem_map]; exact ⟨_, rfl, Sl.nil _ _⟩)
end Go.Proofs.YtcaeoebphfjfiaaGreat.Am


/- The small living call of the statements on reducing. -/
namespace Go.Proofs.YtcaeoebphfjfiaaGreat.Am
open Go Go.RowKit
set_option maxRecDepth 100000
set_option linter.unusedVariables false
set_option linter.unusedSimpArgs false

end Go.Proofs.YtcaeoebphfjfiaaGreat.Am


/- Forests of few variables: cut once is cut twice; the statements' own words. -/
namespace Go.Proofs.YtcaeoebphfjfiaaGreat.Am
open Go Go.RowKit
set_option maxRecDepth 100000
set_option linter.unusedVariables false
set_option linter.unusedSimpArgs false

structure BigF (f : Forest) : Prop where
  l0 : f.vars.length ≤ 9223372036854775807
  l1 : f.order.length ≤ 9223372036854775807
  l2 : f.parent.length ≤ 9223372036854775807
  l3 : f.links.length ≤ 9223372036854775807
  l4 : f.loops.length ≤ 9223372036854775807
  s3 : ∀ l ∈ f.links, l.length ≤ 9223372036854775807
  s4 : ∀ l ∈ f.loops, l.length ≤ 9223372036854775807
structure BigP (p : Parts) : Prop where
  l0 : p.nodes.length ≤ 9223372036854775807
  l1 : p.links.length ≤ 9223372036854775807
  s0 : ∀ l ∈ p.nodes, l.length ≤ 9223372036854775807
  s1 : ∀ l ∈ p.links, l.length ≤ 9223372036854775807
theorem Forest_28 (f : Forest) (cs : List Value) (H : Hp) (hp : kForest.rep H f cs) (hb : BigF f) :
    ACalls Tryz.prog 7 #[.agg cs.toArray] H (fun r H' => H.le H' ∧ ∃ ds, r = .agg ds.toArray ∧ kForest.rep H' f.few ds) := by
  have hp0 := hp
  obtain ⟨v0, v1, v2, v3, v4, rfl, hs0, hs1, hs2, hs3, hs4⟩ := hp
  obtain ⟨A0, c0, rfl⟩ := hs0.shape
  obtain ⟨A1, c1, rfl⟩ := hs1.shape
  obtain ⟨A2, c2, rfl⟩ := hs2.shape
  obtain ⟨A3, c3, rfl⟩ := hs3.shape
  obtain ⟨A4, c4, rfl⟩ := hs4.shape
  refine Xu Tryz.func7 rfl rfl rfl (by simp) ?_
  refine Xf ?_
  refine Xc (by kernel_rfl) ?_
  refine X2 (Ym rfl) ?_
  refine X2 (Y9 (l := [.slice none 0 0, .slice none 0 0, .slice none 0 0, .slice none 0 0, .slice none 0 0]) inf26.zero rfl (by decide)) ?_
  refine Xf ?_
  refine Xc (by kernel_rfl) ?_
  refine Xa (Yc (cs := [.slice _ _ _, .slice _ _ _, .slice _ _ _, .slice _ _ _, .slice _ _ _]) rfl Tryz.underlying26 rfl inf26.size Yb) ?_
  refine X5 (X0 (Few_forest f _ _ (kForest.mono Zo hp0) hb.l0 hb.l1 hb.l2 hb.l3 hb.l4 hb.s3 hb.s4) rfl Tryz.func38 rfl rfl rfl ?_)
  rintro v2 H2 ⟨hle2, ds, rfl, hds⟩; have hds0 := hds; obtain ⟨a0, a1, a2, a3, a4, rfl, ht0, ht1, ht2, ht3, ht4⟩ := hds; obtain ⟨B0, d0, rfl⟩ := ht0.shape; obtain ⟨B1, d1, rfl⟩ := ht1.shape; obtain ⟨B2, d2, rfl⟩ := ht2.shape; obtain ⟨B3, d3, rfl⟩ := ht3.shape; obtain ⟨B4, d4, rfl⟩ := ht4.shape; have hz2 := hle2.1; simp only [Hp.push_size] at hz2
  refine X5 (Yq (vs := [.slice _ _ _, .slice _ _ _, .slice _ _ _, .slice _ _ _, .slice _ _ _]) rfl rfl inf26.size Yh Yp rfl rfl ?_)
  refine X8 ?_
  have k1 : H2.get (H.size + 1) = .own 0 [.slice none 0 0, .slice none 0 0, .slice none 0 0, .slice none 0 0, .slice none 0 0] := Xt hle2 (by simp) (by intro e; cases e) Yh
  exact ⟨_, Xv (Zc Xi (Za (cs := [_, _, _, _, _]) Tryz.underlying26 rfl inf26.size Yb)), Hp.le_put_new (Hp.le_trans (Hp.le_push' (H.le_push _) _) hle2) (by simp <;> omega) _, [_, _, _, _, _], rfl, kForest.mono (Hp.sees_box _ k1) hds0⟩
theorem small_few (f : Forest) (p : Parts) : Small f.few p.few4 := by
  have h8 : ∀ {α : Type} (xs : List α), (xs.take 8).length ≤ 8 := fun xs => by rw [List.length_take]; omega
  refine ⟨?_, ?_, ?_, ?_, ?_, fun l hl => ?_, fun l hl => ?_⟩
  · show ((f.vars.take 8).map _).length ≤ _; rw [List.length_map]; have := h8 f.vars; omega
  · show (f.order.take 8).length ≤ _; have := h8 f.order; omega
  · show (f.parent.take 8).length ≤ _; have := h8 f.parent; omega
  · show (((p.nodes.take 8).map Z5).map _).length ≤ _; rw [List.length_map, List.length_map]; have := h8 p.nodes; omega
  · show ((p.links.take 8).map Z5).length ≤ _; rw [List.length_map]; have := h8 p.links; omega
  · obtain ⟨m, _, rfl⟩ := List.mem_map.1 hl
    rw [List.length_take]; omega
  · obtain ⟨m, _, rfl⟩ := List.mem_map.1 hl
    unfold Z5; rw [List.length_map, List.length_take]; omega
theorem Link.few_few (x : Link) : x.few.few = x.few := by
  unfold Link.few
  by_cases h : 1000000000 < x.cost
  · rw [if_pos h]; simp
  · rw [if_neg h, if_neg h]
theorem fewL_le (xs : List Link) : (Z5 xs).length ≤ 25 := by unfold Z5; rw [List.length_map, List.length_take]; omega
theorem fewL_take (m : Nat) (xs : List Link) : Z5 ((Z5 xs).take m) = (Z5 xs).take m := by
  have h : (Z5 xs).map Link.few = Z5 xs := by
    unfold Z5
    rw [List.map_map, show Link.few ∘ Link.few = Link.few from funext Link.few_few]
  show (((Z5 xs).take m).take 25).map Link.few = _
  rw [List.take_of_length_le (by rw [List.length_take]; have := fewL_le xs; omega), List.map_take, h]
theorem fewL_idem (xs : List Link) : Z5 (Z5 xs) = Z5 xs := by
  have := fewL_take (Z5 xs).length xs
  rwa [List.take_length] at this
theorem few4_few4 (p : Parts) : p.few4.few4 = p.few4 := by
  unfold Parts.few4 Parts.few
  simp only [List.map_map, ← List.map_take, List.take_take, Nat.min_self]
  congr 1
  · refine List.map_congr_left fun l _ => ?_
    simp only [Function.comp]
    rw [fewL_take, List.take_take, Nat.min_self]
  · exact List.map_congr_left fun l _ => fewL_idem l
theorem cutS_idem (s : ByteArray) : cutS (cutS s 32) 32 = cutS s 32 := by
  unfold cutS
  by_cases h : 32 < s.size
  · rw [if_pos h, if_neg (by rw [ByteArray.size_extract]; omega)]
  · rw [if_neg h, if_neg h]
theorem ffew_ffew (f : Forest) : f.few.few = f.few := by
  unfold Forest.few
  simp only [← List.map_take, List.take_take, Nat.min_self, List.map_map]
  congr 1
  · exact List.map_congr_left fun s _ => cutS_idem s
  · exact List.map_congr_left fun l _ => by simp [List.take_take]
  · exact List.map_congr_left fun l _ => by simp [List.take_take]
theorem bigF_few (f : Forest) : BigF f.few := by
  have h := (small_few f ⟨[], []⟩)
  have h8 : ∀ {α : Type} (xs : List α), (xs.take 8).length ≤ 8 := fun xs => by rw [List.length_take]; omega
  refine ⟨by have := h.s0; omega, by have := h.s1; omega, by have := h.s2; omega, ?_, ?_, fun l hl => ?_, fun l hl => ?_⟩
  · show ((f.links.take 8).map _).length ≤ _; rw [List.length_map]; have := h8 f.links; omega
  · show ((f.loops.take 8).map _).length ≤ _; rw [List.length_map]; have := h8 f.loops; omega
  · obtain ⟨m, _, rfl⟩ := List.mem_map.1 hl; rw [List.length_take]; omega
  · obtain ⟨m, _, rfl⟩ := List.mem_map.1 hl; rw [List.length_take]; omega
theorem bigP_few (p : Parts) : BigP p.few4 := by
  have h := (small_few ⟨[], [], [], [], []⟩ p)
  exact ⟨by have := h.s3; omega, by have := h.s4; omega, fun l hl => by have := h.s5 l hl; omega, fun l hl => by have := h.s6 l hl; omega⟩
end Go.Proofs.YtcaeoebphfjfiaaGreat.Am


/- The statement ReduceTwice, as the abstract machine runs it. -/
namespace Go.Proofs.YtcaeoebphfjfiaaGreat.Am
open Go Go.RowKit
set_option maxRecDepth 100000
set_option linter.unusedVariables false
set_option linter.unusedSimpArgs false

theorem small_sub {f : Forest} {p q : Parts} (h : Small f p) (hl : Lens f.vars.length q) (hs : Sub q p) : Small f q :=
  ⟨h.s0, h.s1, h.s2, by rw [hl.1]; exact h.s0, by rw [hl.2]; exact h.s0, fun l hm => by
    obtain ⟨i, hi, rfl⟩ := List.getElem_of_mem hm
    have k1 := (hs i).1.length_le
    unfold nd at k1
    rw [Yz hi] at k1
    exact Nat.le_trans k1 (Zz h.s5 i), fun l hm => by
    obtain ⟨i, hi, rfl⟩ := List.getElem_of_mem hm
    have k1 := (hs i).2.length_le
    unfold lk at k1
    rw [Yz hi] at k1
    exact Nat.le_trans k1 (Zz h.s6 i)⟩
end Go.Proofs.YtcaeoebphfjfiaaGreat.Am


/- What stands behind any first nodes, plain; of variables that hang from nobody. -/
namespace Go.Proofs.YtcaeoebphfjfiaaGreat.Am
open Go Go.RowKit
set_option maxRecDepth 100000
set_option linter.unusedVariables false
set_option linter.unusedSimpArgs false

def okP (T : TreeT) (ns : List Int) : Bool := (List.range ns.length).all fun i => (Z4 (T.group i (Y2 T ns i)) (ns.getD i 0)).isSome
def mulT (T : TreeT) (ns : List Int) (k : Nat) : Int := (List.range k).foldl (fun n i => if ns.length ≤ i ∧ T.parent.getD i 0 < ns.length then Yv n (Vq T T.vars.length i (Y2 T ns i)) else n) 1
def behT (T : TreeT) (ns : List Int) : Int := if ns.length ≤ T.vars.length ∧ okP T ns = true then mulT T ns T.vars.length else 0
theorem mulT_succ (T : TreeT) (ns : List Int) (k : Nat) : mulT T ns (k + 1) = if ns.length ≤ k ∧ T.parent.getD k 0 < ns.length then Yv (mulT T ns k) (Vq T T.vars.length k (Y2 T ns k)) else mulT T ns k := by
  unfold mulT
  rw [List.range_succ, List.foldl_append]; rfl
theorem mulT_nonneg {T : TreeT} (hT : GoodT T) (ns : List Int) : ∀ k, 0 ≤ mulT T ns k
  | 0 => by show (0 : Int) ≤ 1; decide
  | k + 1 => by
    rw [mulT_succ]
    split
    · exact (Z2 (mulT_nonneg hT ns k) (Ve hT _ _ _)).1
    · exact mulT_nonneg hT ns k
theorem mulT_cap {T : TreeT} (hT : GoodT T) (ns : List Int) : ∀ k, mulT T ns k = capI (Zv ((List.range k).map (openW T ns)))
  | 0 => cap_one
  | k + 1 => by
    rw [mulT_succ, List.range_succ, List.map_append, prod_append, List.map_singleton, Zv, Zv, Nat.mul_one, mulT_cap hT ns k]
    unfold openW
    split
    · rw [sumT_cap hT, timesI_cap]; rfl
    · rw [Nat.mul_one]
theorem okP_path {T : TreeT} (hT : GoodT T) {ns : List Int} : okP T ns = true ↔ Path T ns := by
  unfold okP Path
  rw [List.all_eq_true]
  constructor
  · intro h i hi
    obtain ⟨l, hl⟩ := Option.isSome_iff_exists.1 (h i (List.mem_range.2 hi))
    obtain ⟨h1, h2⟩ := (findB_iff (hT.sort _ _)).1 hl
    exact ⟨l, h1, h2⟩
  · intro h i hi
    obtain ⟨l, h1, h2⟩ := h i (List.mem_range.1 hi)
    rw [(findB_iff (hT.sort _ _)).2 ⟨h1, h2⟩]; rfl
theorem okP_bad {T : TreeT} {ns : List Int} {i : Nat} (hi : i < ns.length) (h : Z4 (T.group i (Y2 T ns i)) (ns.getD i 0) = none) : okP T ns = false := by
  cases hk : okP T ns with
  | false => rfl
  | true =>
    unfold okP at hk
    have := List.all_eq_true.1 hk i (List.mem_range.2 hi)
    rw [h] at this; cases this
theorem behT_cnt {T : TreeT} (hT : GoodT T) {ns : List Int} (hl : ns.length ≤ T.vars.length) (hp : Path T ns) : behT T ns = capI (cntW T ns) := by
  unfold behT cntW
  rw [if_pos ⟨hl, (okP_path hT).2 hp⟩, mulT_cap hT]
theorem behT_none {T : TreeT} (hT : GoodT T) {ns : List Int} (h : ¬ (ns.length ≤ T.vars.length ∧ Path T ns)) : behT T ns = 0 := by
  unfold behT
  rw [if_neg]
  rwa [okP_path hT]
theorem goodL_apart {n : Int} (h1 : 1 ≤ n) (h2 : n ≤ 4611686018427387904) {m : Nat} (hm : m ≤ 1000) : GoodL (Vi n m) := fun i hi => by
  rw [Vg] at hi
  have at_ : ∀ j (hj : j < (Vi n m).length), (Vi n m)[j] = ⟨j, j, j, n⟩ := by
    unfold Vi
    intro j hj
    rw [List.getElem_map, List.getElem_range]
  rw [at_]
  refine ⟨⟨by simp only; omega, by simp only; omega, by simp only; omega, by simp only; omega, by simp only; omega, h1, h2⟩, fun h0 => ?_⟩
  rw [at_]
  unfold Vl
  simp only [Bool.or_eq_true, decide_eq_true_eq]
  left; omega
theorem apart_nd (n : Int) (sa sb : Int) : nd (Zx n [sa, sb]) 0 = Vi n sa.toNat ∧ nd (Zx n [sa, sb]) 1 = Vi n sb.toNat ∧ (∀ v, lk (Zx n [sa, sb]) v = []) ∧ ∀ v, nd (Zx n [sa, sb]) (v + 2) = [] := by
  refine ⟨rfl, rfl, fun v => ?_, fun v => rfl⟩
  match v with
  | 0 => rfl
  | 1 => rfl
  | v + 2 => rfl
theorem good_apart {n : Int} (h1 : 1 ≤ n) (h2 : n ≤ 4611686018427387904) {sa sb : Int} (ha : sa ≤ 1000) (hb : sb ≤ 1000) : GoodP (Zs 2) (Zx n [sa, sb]) := by
  obtain ⟨e0, e1, el, _⟩ := apart_nd n sa sb
  refine ⟨⟨rfl, rfl, rfl, rfl, fun i hi => ?_⟩, rfl, rfl, fun v hv => ?_⟩
  · have hi' : i < 2 := hi
    rcases (by omega : i = 0 ∨ i = 1) with rfl | rfl <;> (unfold OkF; decide)
  · have hv' : v < 2 := hv
    have heq : ∀ m, ∀ x ∈ Vi n m, x.a = x.b := fun m x hx => by
      unfold Vi at hx
      obtain ⟨k, _, rfl⟩ := List.mem_map.1 hx
      rfl
    have hnil : GoodL [] := fun i hi => by cases hi
    rcases (by omega : v = 0 ∨ v = 1) with rfl | rfl
    · exact ⟨goodL_apart h1 h2 (by omega), hnil, heq _, fun _ => rfl⟩
    · exact ⟨goodL_apart h1 h2 (by omega), hnil, heq _, fun _ => rfl⟩
theorem small_apart {n : Int} {sa sb : Int} (ha : sa ≤ 1000) (hb : sb ≤ 1000) : Small (Zs 2) (Zx n [sa, sb]) := by
  refine ⟨by decide, by decide, by decide, by simp [Zx], by simp [Zx], fun l hl => ?_, fun l hl => ?_⟩
  · rcases List.mem_cons.1 (show l ∈ [Vi n sa.toNat, Vi n sb.toNat] from hl) with rfl | hl
    · rw [Vg]; omega
    · rw [List.mem_singleton.1 hl, Vg]; omega
  · rcases List.mem_cons.1 (show l ∈ [[], []] from hl) with rfl | hl
    · simp
    · rw [List.mem_singleton.1 hl]; simp
theorem cheap_apart {n : Int} (h1 : 1 ≤ n) {sa sb : Int} (ha : sa ≤ 1000) (hb : sb ≤ 1000) : Cheap (Zx n [sa, sb]) := by
  obtain ⟨e0, e1, el, e2⟩ := apart_nd n sa sb
  have h : ∀ m : Nat, m ≤ 1000 → ∀ x ∈ Vi n m, 0 ≤ x.cost ∧ x.cost ≤ 1000000000 ∧ 0 ≤ x.n := fun m hm x hx => by
    unfold Vi at hx
    obtain ⟨k, hk, rfl⟩ := List.mem_map.1 hx
    rw [List.mem_range] at hk
    exact ⟨by simp only; omega, by simp only; omega, by simp only; omega⟩
  refine ⟨fun v => ?_, fun v x hx => ?_⟩
  · match v with
    | 0 => rw [e0]; exact h _ (by omega)
    | 1 => rw [e1]; exact h _ (by omega)
    | v + 2 => rw [e2]; intro x hx; cases hx
  · rw [el] at hx; cases hx
theorem two_roots (x : Parts) : (Yy (Zs 2) x).vars.length = 2 ∧ (Yy (Zs 2) x).parent = [-1, -1] ∧ (Yy (Zs 2) x).links = [nd x 0, nd x 1] := ⟨rfl, rfl, rfl⟩
theorem apart_of {n : Int} (h1 : 1 ≤ n) (h2 : n ≤ 4611686018427387904) {sa sb : Int} (ha : sa ≤ 1000) (hb : sb ≤ 1000) : (0 < sa ∧ 0 < sb ∧ Uc (Zs 2) (Zx n [sa, sb]) = Zx n [sa, sb]) ∨ ((sa ≤ 0 ∨ sb ≤ 0) ∧ Uc (Zs 2) (Zx n [sa, sb]) = Um 2) := by
  have hG := good_apart h1 h2 ha hb
  obtain ⟨k1, k2, k3, k4⟩ := Vx hG
  obtain ⟨e0, e1, el, e2⟩ := apart_nd n sa sb
  by_cases h : 0 < sa ∧ 0 < sb
  · refine .inl ⟨h.1, h.2, ofP_fix hG.gf hG.lens hG.nb (fun v hv hp => ?_) (fun h3 => ?_)⟩
    · have hv' : v < 2 := hv
      rcases (by omega : v = 0 ∨ v = 1) with rfl | rfl <;> exact absurd rfl hp
    · obtain ⟨v, hv, h4⟩ := List.any_eq_true.1 h3
      unfold Z3 at h4
      rw [Bool.and_eq_true, decide_eq_true_eq, decide_eq_true_eq] at h4
      have hv : v ∈ [(0 : Int), 1] := hv
      rcases List.mem_cons.1 hv with rfl | hv
      · have h5 : (nd (Zx n [sa, sb]) 0).length = 0 := h4.2
        rw [e0, Vg] at h5; omega
      · rw [List.mem_singleton] at hv
        subst hv
        have h5 : (nd (Zx n [sa, sb]) 1).length = 0 := h4.2
        rw [e1, Vg] at h5; omega
  · refine .inr ⟨by omega, k4 (List.any_eq_true.2 ?_)⟩
    rcases (by omega : sa ≤ 0 ∨ sb ≤ 0) with hs | hs
    · refine ⟨0, (by decide : (0 : Int) ∈ (Zs 2).order), ?_⟩
      unfold Z3
      rw [Bool.and_eq_true, decide_eq_true_eq, decide_eq_true_eq]
      refine ⟨rfl, ?_⟩
      have h5 := ((k2 0).1).length_le
      rw [e0, Vg] at h5
      show (nd (Uc (Zs 2) (Zx n [sa, sb])) 0).length = 0
      omega
    · refine ⟨1, (by decide : (1 : Int) ∈ (Zs 2).order), ?_⟩
      unfold Z3
      rw [Bool.and_eq_true, decide_eq_true_eq, decide_eq_true_eq]
      refine ⟨rfl, ?_⟩
      have h5 := ((k2 1).1).length_le
      rw [e1, Vg] at h5
      show (nd (Uc (Zs 2) (Zx n [sa, sb])) 1).length = 0
      omega
theorem apart_goodT {n : Int} (h1 : 1 ≤ n) (h2 : n ≤ 4611686018427387904) {sa sb : Int} (ha : sa ≤ 1000) (hb : sb ≤ 1000) : GoodT (Yy (Zs 2) (Uc (Zs 2) (Zx n [sa, sb]))) := by
  have hG := good_apart h1 h2 ha hb
  obtain ⟨k1, k2, k3, k4⟩ := Vx hG
  exact good_tree (ofP_good hG) (small_sub (small_apart ha hb) k1 k2) ((cheap_apart h1 ha hb).sub k2) (by decide)
theorem apart_fewA {n : Int} (h1 : 1 ≤ n) (h2 : n ≤ 4611686018427387904) {sa sb : Int} (ha : sa ≤ 1000) (hb : sb ≤ 1000) : FewA (Yy (Zs 2) (Uc (Zs 2) (Zx n [sa, sb]))) := by
  obtain ⟨k1, k2, k3, k4⟩ := Vx (good_apart h1 h2 ha hb)
  obtain ⟨e0, e1, el, e2⟩ := apart_nd n sa sb
  refine fewA_of fun l hl => ?_
  rw [(two_roots _).2.2] at hl
  rcases List.mem_cons.1 hl with rfl | hl
  · have := (k2 0).1.length_le
    rw [e0, Vg] at this; omega
  · rw [List.mem_singleton.1 hl]
    have := (k2 1).1.length_le
    rw [e1, Vg] at this; omega
end Go.Proofs.YtcaeoebphfjfiaaGreat.Am


/- Trees of good parts: who is reached, how often, and which nodes a place has. -/
namespace Go.Proofs.YtcaeoebphfjfiaaGreat.Am
open Go Go.RowKit
set_option maxRecDepth 100000
set_option linter.unusedVariables false
set_option linter.unusedSimpArgs false

theorem reach_path {T : TreeT} (hT : GoodT T) {ns : List Int} (hp : Path T ns) (hl : ns.length = T.vars.length) : ∀ d i, i < d → i < T.vars.length → Y2 T ns i ∈ Zu T d i
  | 0, i, h, _ => by omega
  | d + 1, i, h, hi => by
    rw [Zu]
    rcases hT.par i hi with hp0 | hp0
    · rw [if_pos hp0]; unfold Y2; rw [if_pos hp0]; simp
    · obtain ⟨p, hpp⟩ : ∃ p : Nat, T.parent.getD i 0 = p := ⟨(T.parent.getD i 0).toNat, by omega⟩
      rw [if_neg (by omega), mem_once, hpp, Int.toNat_natCast]
      have ih := reach_path hT hp hl d p (by omega) (by omega)
      obtain ⟨l, h1, h2⟩ := hp p (by omega)
      refine .inr (List.mem_flatMap.2 ⟨_, ih, List.mem_map.2 ⟨l, h1, ?_⟩⟩)
      unfold Y2
      rw [if_neg (by omega), hpp, Int.toNat_natCast]
      exact h2
def Reach (T : TreeT) : Prop := ∀ (i : Nat) (a : Int), i < T.vars.length → T.group i a ≠ [] → (T.parent.getD i 0 = -1 → a = -1) → a ∈ Zu T T.vars.length i
theorem reach_tree {f : Forest} {p : Parts} (hG : GoodP f p) (hT : GoodT (Yy f (Uc f p))) : Reach (Yy f (Uc f p)) := fun i a hi hne hr => by
  obtain ⟨k1, k2, k3, k4⟩ := Vx hG
  have hol : f.order.length = f.vars.length := hG.gf.l1
  have hvl : (Yy f (Uc f p)).vars.length = f.vars.length := (Vj _).1.trans hol
  obtain ⟨l, hl⟩ := List.exists_mem_of_ne_nil _ hne
  rw [hvl] at hi
  obtain ⟨r, hr1, hr2, hr3⟩ := group_row hG hi hl
  obtain ⟨x1, x2⟩ := rows_ext hG
  have hmem : r.nodes ∈ extN (Yy f (Uc f p)) f.vars.length [] := by rw [← x1]; exact List.mem_map.2 ⟨r, hr1, rfl⟩
  obtain ⟨m1, m2⟩ := mem_ext _ _ _ hmem
  have hlen : r.nodes.length = (Yy f (Uc f p)).vars.length := by rw [m1, hvl]; simp
  have hP : Path (Yy f (Uc f p)) r.nodes := ext_pathC hT f.vars.length [] r.nodes (by simp [hvl]) (fun i hi => by simp at hi) hmem
  have hgo := reach_path hT hP hlen (Yy f (Uc f p)).vars.length i (by omega) (by omega)
  have ha : Y2 (Yy f (Uc f p)) r.nodes i = a := by
    unfold Y2
    rcases hT.par i (by omega) with h | h
    · rw [if_pos h, hr h]
    · rw [if_neg (by omega)]
      rcases hr3 with h3 | h3
      · omega
      · exact h3
  rw [ha] at hgo
  exact hgo
theorem group_pos {f : Forest} {x : Parts} (hG : GoodP f x) (hF : ∀ v : Nat, v < f.vars.length → par f v ≠ -1 → Full f x v) (i a : Int) : ∀ z ∈ (Yy f x).group i a, 1 ≤ z.n ∧ z.n ≤ 4611686018427387904 := fun z hz => by
  rw [group_same hG hF] at hz
  unfold groupR at hz
  split at hz
  · rename_i hi
    obtain ⟨y, hy, h1⟩ := List.mem_filterMap.1 hz
    have hv := (hG.gf.vAt_lt (s := i.toNat) (by have := hG.gf.l1; omega)).1
    have okn : ∀ y ∈ nd x (Zr f i.toNat), 1 ≤ y.n ∧ y.n ≤ 4611686018427387904 := fun y hy => by
      obtain ⟨j, hj, rfl⟩ := List.getElem_of_mem hy
      exact ⟨((hG.ok _ hv).1 j hj).1.2.2.2.2.2.1, ((hG.ok _ hv).1 j hj).1.2.2.2.2.2.2⟩
    have okl : ∀ y ∈ lk x (Zr f i.toNat), 1 ≤ y.n ∧ y.n ≤ 4611686018427387904 := fun y hy => by
      obtain ⟨j, hj, rfl⟩ := List.getElem_of_mem hy
      exact ⟨((hG.ok _ hv).2.1 j hj).1.2.2.2.2.2.1, ((hG.ok _ hv).2.1 j hj).1.2.2.2.2.2.2⟩
    unfold Zg at h1
    split at h1
    · split at h1
      · rename_i h2
        obtain ⟨j, hj, hjl, hja, hjb⟩ := findI_link h2
        injection h1 with h1
        subst h1
        rw [hj, Int.toNat_natCast, List.getD_eq_getElem?_getD, List.getElem?_eq_getElem hjl]
        simp only [Option.getD_some]
        obtain ⟨a1, a2⟩ := okn y hy
        obtain ⟨b1, b2⟩ := okl _ (List.getElem_mem hjl)
        have h3 := Z2 (a := y.n) (b := ((lk x (Zr f i.toNat))[j]).n) (by omega) (by omega)
        refine ⟨?_, h3.2⟩
        have h4 : Yv y.n ((lk x (Zr f i.toNat))[j]).n = capI (y.n.toNat * ((lk x (Zr f i.toNat))[j]).n.toNat) := by
          rw [← timesI_cap, ← timesI_nat, timesI_comm _ (capI _), ← timesI_nat, timesI_comm, Int.toNat_of_nonneg (by omega), Int.toNat_of_nonneg (by omega)]
        have h5 : capI (y.n.toNat * ((lk x (Zr f i.toNat))[j]).n.toNat) ≠ 0 := fun e => by
          rw [cap_zero, Nat.mul_eq_zero] at e
          omega
        rw [h4] at h3 ⊢
        omega
      · cases h1
    · injection h1 with h1
      subst h1
      exact okn y hy
  · cases hz
def hasB (T : TreeT) (i : Nat) (b : Int) : Prop := ∃ a, ∃ x ∈ T.group i a, x.b = b
theorem hasB_nd {f : Forest} {x : Parts} (hG : GoodP f x) (hF : ∀ v : Nat, v < f.vars.length → par f v ≠ -1 → Full f x v) {i : Nat} (hi : i < f.vars.length) (b : Int) : hasB (Yy f x) i b ↔ ∃ y ∈ nd x (Zr f i), y.a = b := by
  have hv := (hG.gf.vAt_lt hi).1
  have hol : f.order.length = f.vars.length := hG.gf.l1
  have hgr : ∀ a : Int, (Yy f x).group (i : Int) a = (nd x (Zr f i)).filterMap (Zg f x (Zr f i) a) := fun a => by
    rw [group_same hG hF]
    unfold groupR
    rw [if_pos ⟨by omega, by omega⟩, Int.toNat_natCast]
  constructor
  · rintro ⟨a, z, hz, rfl⟩
    rw [hgr] at hz
    obtain ⟨y, hy, h1⟩ := List.mem_filterMap.1 hz
    exact ⟨y, hy, (groupOne_b hG hv hy h1).symm⟩
  · rintro ⟨y, hy, rfl⟩
    by_cases hp : par f (Zr f i) = -1
    · refine ⟨-1, y, ?_, ((hG.ok _ hv).2.2.1 y hy).symm⟩
      rw [hgr]
      exact List.mem_filterMap.2 ⟨y, hy, by unfold Zg; rw [if_neg (by omega)]⟩
    · obtain ⟨m, hm, he⟩ := List.mem_map.1 ((hF _ hv hp).down y hy)
      have hge := hG.gf.parent_ge hv
      change -1 ≤ par f (Zr f i) ∧ _ at hge
      have h2 : 0 ≤ Vf (lk x (Zr f i)) m.a y.a := findI_ge.2 ⟨m, hm, rfl, he⟩
      refine ⟨m.a, ⟨m.a, y.a, y.cost + ((lk x (Zr f i)).getD (Vf (lk x (Zr f i)) m.a y.a).toNat V6).cost, Yv y.n ((lk x (Zr f i)).getD (Vf (lk x (Zr f i)) m.a y.a).toNat V6).n⟩, ?_, rfl⟩
      rw [hgr]
      exact List.mem_filterMap.2 ⟨y, hy, by unfold Zg; rw [if_pos (by omega), if_pos h2]⟩
end Go.Proofs.YtcaeoebphfjfiaaGreat.Am


/- Counts are made. -/
namespace Go.Proofs.YtcaeoebphfjfiaaGreat.Am
open Go Go.RowKit
set_option maxRecDepth 100000
set_option linter.unusedVariables false
set_option linter.unusedSimpArgs false

structure NewS (T : TreeT) (K : Hp) (tb cb mb ms m : Nat) (H : Hp) (es1 es2 : List (Value × Value)) : Prop where
  le : K.le H
  hc : H.get cb = .own 0 [.pointer (some ⟨tb, 0, none⟩), .map (some mb), .map (some ms)]
  lc : cb < H.size
  hb : H.get mb = .map es1
  lb : mb < H.size
  hs : H.get ms = .map es2
  ls : ms < H.size
  i1 : IntsM es1
  i2 : IntsM es2
  no : ∀ (k : Nat) b, k < m → Y0 es1 (Y7 k b) = none ∧ Y0 es2 (Y7 k b) = none
  c1 : ∀ (k : Nat) b, m ≤ k → k < T.vars.length → Y0 es1 (Y7 k b) = none ∨ (Y0 es1 (Y7 k b) = some (.int .u64 (Z6 T T.vars.length k b)) ∧ hasB T k b)
  c2 : ∀ (k : Nat) b, m ≤ k → k < T.vars.length → Y0 es2 (Y7 k b) = none ∨ Y0 es2 (Y7 k b) = some (.int .u64 (Vq T T.vars.length k b))
  d1 : ∀ (k : Nat), m ≤ k → k < T.vars.length → ∀ a ∈ Zu T T.vars.length k, ∀ x ∈ T.group k a, Y0 es1 (Y7 k x.b) = some (.int .u64 (Z6 T T.vars.length k x.b))
  d2 : ∀ (k : Nat), m ≤ k → k < T.vars.length → ∀ a ∈ Zu T T.vars.length k, Y0 es2 (Y7 k a) = some (.int .u64 (Vq T T.vars.length k a))
theorem NewS.fill {T : TreeT} {K : Hp} {tb cb mb ms i : Nat} {H : Hp} {es1 es2 : List (Value × Value)} (h : NewS T K tb cb mb ms (i + 1) H es1 es2) : FillS T K tb cb mb ms i es1 es2 H es1 es2 :=
  ⟨h.le, h.hc, h.lc, h.hb, h.lb, h.hs, h.ls, h.i1, h.i2, fun _ _ _ => rfl, fun _ _ _ => rfl, fun b => .inl (h.no i b (Nat.lt_succ_self i)).1, fun b => .inl (h.no i b (Nat.lt_succ_self i)).2⟩
theorem NewS.step {T : TreeT} {K : Hp} {tb cb mb ms i : Nat} {H H' : Hp} {es1 es2 es1' es2' : List (Value × Value)} (h : NewS T K tb cb mb ms (i + 1) H es1 es2) (hf : FillS T K tb cb mb ms i es1 es2 H' es1' es2')
    (h2 : ∀ a ∈ Zu T T.vars.length i, Y0 es2' (Y7 i a) = some (.int .u64 (Vq T T.vars.length i a))) (h1 : ∀ a ∈ Zu T T.vars.length i, ∀ x ∈ T.group i a, Y0 es1' (Y7 i x.b) = some (.int .u64 (Z6 T T.vars.length i x.b))) : NewS T K tb cb mb ms i H' es1' es2' := by
  refine ⟨hf.le, hf.hc, hf.lc, hf.hb, hf.lb, hf.hs, hf.ls, hf.i1, hf.i2, fun k b hk => ?_, fun k b hk hk2 => ?_, fun k b hk hk2 => ?_, fun k hk hk2 a ha x hx => ?_, fun k hk hk2 a ha => ?_⟩
  · rw [hf.o1 k b (by omega), hf.o2 k b (by omega)]; exact h.no k b (by omega)
  · by_cases he : k = i
    · subst he; exact hf.v1 b
    · rw [hf.o1 k b (by omega)]; exact h.c1 k b (by omega) hk2
  · by_cases he : k = i
    · subst he; exact hf.v2 b
    · rw [hf.o2 k b (by omega)]; exact h.c2 k b (by omega) hk2
  · by_cases he : k = i
    · subst he; exact h1 a ha x hx
    · rw [hf.o1 k _ (by omega)]; exact h.d1 k (by omega) hk2 a ha x hx
  · by_cases he : k = i
    · subst he; exact h2 a ha
    · rw [hf.o2 k _ (by omega)]; exact h.d2 k (by omega) hk2 a ha
structure CntsV (T : TreeT) (es1 es2 : List (Value × Value)) : Prop where
  i1 : IntsM es1
  i2 : IntsM es2
  sum : ∀ (i : Nat) (a : Int), i < T.vars.length → cntAt es2 i (if T.parent.getD i 0 = -1 then -1 else a) = Vq T T.vars.length i a
  bel : ∀ (i : Nat) (b : Int), i < T.vars.length → (hasB T i b → cntAt es1 i b = Z6 T T.vars.length i b) ∧ (¬ hasB T i b → cntAt es1 i b = 0)
theorem cntAt_some {es : List (Value × Value)} {i a n : Int} (h : Y0 es (Y7 i a) = some (.int .u64 n)) : cntAt es i a = n := by unfold cntAt; rw [h]
theorem cntAt_none {es : List (Value × Value)} {i a : Int} (h : Y0 es (Y7 i a) = none) : cntAt es i a = 0 := by unfold cntAt; rw [h]
theorem group_root {T : TreeT} {i : Nat} (h : T.parent.getD i 0 = -1) (a b : Int) : T.group i a = T.group i b := by
  unfold TreeT.group TreeT.row
  rw [Int.toNat_natCast, if_pos h, if_pos h]
theorem sumT_root {T : TreeT} (hT : GoodT T) {i : Nat} (hi : i < T.vars.length) (h : T.parent.getD i 0 = -1) (a b : Int) : Vq T T.vars.length i a = Vq T T.vars.length i b := by
  rw [sum_is hT hi, sum_is hT hi, group_root h a b]
theorem NewS.done {T : TreeT} (hT : GoodT T) (hR : Reach T) {K : Hp} {tb cb mb ms : Nat} {H : Hp} {es1 es2 : List (Value × Value)} (h : NewS T K tb cb mb ms 0 H es1 es2) : CntsV T es1 es2 := by
  refine ⟨h.i1, h.i2, fun i a hi => ?_, fun i b hi => ⟨fun ⟨a, x, hx, hb⟩ => ?_, fun hno => ?_⟩⟩
  · obtain ⟨a', ha'⟩ : ∃ a', a' = if T.parent.getD i 0 = -1 then -1 else a := ⟨_, rfl⟩
    have hr : T.parent.getD i 0 = -1 → a' = -1 := fun e => by rw [ha', if_pos e]
    have hs : Vq T T.vars.length i a = Vq T T.vars.length i a' := by
      by_cases e : T.parent.getD i 0 = -1
      · exact sumT_root hT hi e a a'
      · rw [ha', if_neg e]
    rw [← ha', hs]
    by_cases hg : T.group i a' = []
    · have h0 : Vq T T.vars.length i a' = 0 := by rw [sum_is hT hi, hg]; rfl
      rw [h0]
      rcases h.c2 i a' (Nat.zero_le _) hi with h2 | h2
      · exact cntAt_none h2
      · rw [cntAt_some h2, h0]
    · exact cntAt_some (h.d2 i (Nat.zero_le _) hi a' (hR i a' hi hg hr))
  · obtain ⟨a', ha'⟩ : ∃ a', a' = if T.parent.getD i 0 = -1 then -1 else a := ⟨_, rfl⟩
    have hr : T.parent.getD i 0 = -1 → a' = -1 := fun e => by rw [ha', if_pos e]
    have hg : T.group i a = T.group i a' := by
      by_cases e : T.parent.getD i 0 = -1
      · exact group_root e a a'
      · rw [ha', if_neg e]
    rw [hg] at hx
    rw [← hb]
    exact cntAt_some (h.d1 i (Nat.zero_le _) hi a' (hR i a' hi (List.ne_nil_of_mem hx) hr) x hx)
  · rcases h.c1 i b (Nat.zero_le _) hi with h1 | h1
    · exact cntAt_none h1
    · exact absurd h1.2 hno
def CntR (H : Hp) (cb tb : Nat) (T : TreeT) : Prop := ∃ mb ms es1 es2, cb < H.size ∧ mb < H.size ∧ ms < H.size ∧ H.get cb = .own 0 [.pointer (some ⟨tb, 0, none⟩), .map (some mb), .map (some ms)] ∧ H.get mb = .map es1 ∧ H.get ms = .map es2 ∧ TreeR H (.pointer (some ⟨tb, 0, none⟩)) T ∧ CntsV T es1 es2
theorem CntR.mono {H H' : Hp} (hle : H.le H') {cb tb : Nat} {T : TreeT} (h : CntR H cb tb T) : CntR H' cb tb T := by
  obtain ⟨mb, ms, es1, es2, h1, h2, h3, h4, h5, h6, h7, h8⟩ := h
  exact ⟨mb, ms, es1, es2, Nat.lt_of_lt_of_le h1 hle.1, Nat.lt_of_lt_of_le h2 hle.1, Nat.lt_of_lt_of_le h3 hle.1, Xt hle h1 (by intro e; cases e) h4, Xt hle h2 (by intro e; cases e) h5, Xt hle h3 (by intro e; cases e) h6, h7.mono hle, h8⟩
set_option maxHeartbeats 1000000 in
theorem New_cnt {T : TreeT} (hT : GoodT T) (hF : FewA T) (hR : Reach T) {tb : Nat} (H : Hp) (ht : TreeR H (.pointer (some ⟨tb, 0, none⟩)) T) :
    ACalls Tryz.prog 26 #[.pointer (some ⟨tb, 0, none⟩)] H (fun r H' => H.le H' ∧ ∃ cb, r = .pointer (some ⟨cb, 0, none⟩) ∧ CntR H' cb tb T) := by
  have hfew := hT.few
  refine Xu Tryz.func26 rfl rfl rfl (by simp) ?_
  refine Xf ?_
  refine Xc (by kernel_rfl) ?_
  refine Xa (Zt rfl) ?_
  refine Xf ?_
  refine Xf ?_
  refine Xc (by kernel_rfl) ?_
  refine Xa (X9 rfl) ?_
  refine Xa (Vh rfl t_spot rfl Tryz.underlying32) ?_
  refine X1 rfl rfl ?_ ?_
  intro hc1
  (have h := hc1; simp at h)
  intro hc1
  (try simp only [decide_eq_true_eq, decide_eq_false_iff_not, Bool.not_eq_true', Bool.not_eq_false'] at hc1)
  refine X6 ?_
  refine Xf ?_
  refine Xc (by kernel_rfl) ?_
  refine Xa (X9 rfl) ?_
  refine X2 (am_makeMap) ?_
  refine X2 (am_makeMap) ?_
  refine Xa (Zb (pl := [(0, 1), (1, 1), (2, 1)]) (r := [.pointer _, .map _, .map _]) Tryz.underlying92 inf92.zero (by decide) rfl rfl) ?_
  refine X2 (Ym rfl) ?_
  refine Xa (Zt rfl) ?_
  refine Xf ?_
  refine Xf ?_
  refine Xc (by kernel_rfl) ?_
  refine Xa (X9 rfl) ?_
  refine X5 (X0 (Len_tree (ht.mono t_le)) rfl Tryz.func57 rfl rfl rfl ?_)
  rintro v13 H1 ⟨rfl, hH1⟩; have h1 : NewS T H tb (H.size + 2) H.size (H.size + 1) T.vars.length H1 [] [] := by
      rw [hH1]
      exact ⟨t_le, Yh, by simp, Yh, by simp <;> omega, Yh, by simp, .nil, .nil, fun k b hk => ⟨rfl, rfl⟩, fun k b hk hk2 => by omega, fun k b hk hk2 => by omega, fun k hk hk2 => by omega, fun k hk hk2 => by omega⟩
  refine Xa (av_sub64 rfl rfl Yk) ?_
  refine Xa (Xg rfl) ?_
  refine X3 ?_
  refine Yt (fun n t H' => ∃ (m : Nat) (es1 es2 : List (Value × Value)), n = m ∧ m ≤ T.vars.length ∧ NewS T H tb (H.size + 2) H.size (H.size + 1) m H' es1 es2 ∧ t 0 = .pointer (some ⟨tb, 0, none⟩) ∧ t 3 = .pointer (some ⟨H.size + 2, 0, none⟩) ∧ t 4 = .int .i64 ((m : Int) - 1)) (T.vars.length) (⟨T.vars.length, [], [], rfl, Nat.le_refl _, h1, rfl, rfl, rfl⟩) ?_
  rintro n t H2 ⟨m, es1, es2, rfl, hm, hS, e0, e3, e4⟩
  refine Xf ?_
  refine Xf ?_
  refine Xc (by kernel_rfl) ?_
  refine Xa (Xb Xi) ?_
  refine Xa (av_ge rfl rfl) ?_
  refine X1 rfl rfl ?_ ?_
  intro hc2
  obtain ⟨i, rfl⟩ : ∃ i, n = i + 1 := ⟨n - 1, by have := of_decide_eq_true hc2; omega⟩
  rw [show (((i + 1 : Nat) : Int) - 1) = (i : Int) by omega] at e4
  refine X6 ?_
  refine Xf ?_
  refine X3 ?_
  refine Xc (by kernel_rfl) ?_
  refine Xa (X9 Xi) ?_
  refine Xa (Xb Xi) ?_
  refine X5 (X0 (fill_cnt hT hF ht T.vars.length i (by omega) (by omega) (Nat.le_refl _) (Nat.le_succ _) (by omega) (by omega) hS.fill (fun k hk b hb => by obtain ⟨h3, h4⟩ := kids_lt hT hk; rw [← above_deep hT _ k h4 h4] at hb; exact cntAt_some (hS.d2 k (by omega) h4 b hb))) rfl Tryz.func58 rfl rfl rfl ?_)
  rintro v21 H3 ⟨es1', es2', hf, hf2, hf1⟩
  refine Xc (by kernel_rfl) ?_
  refine Xa (Xb Xi) ?_
  refine Xa (av_sub64 rfl rfl Yk) ?_
  refine Xa (Xg rfl) ?_
  exact ⟨i, by omega, i, es1', es2', rfl, by omega, hS.step hf hf2 hf1, e0, e3, rfl⟩
  intro hc2
  obtain rfl : n = 0 := by have := of_decide_eq_false hc2; omega
  refine Yj ?_
  refine Xf ?_
  refine Xc (by kernel_rfl) ?_
  refine Xa (X9 Xi) ?_
  refine Xa (Zt rfl) ?_
  refine X8 ?_
  · exact ⟨_, Xv (Xx rfl), hS.le, _, rfl, _, _, es1, es2, hS.lc, hS.lb, hS.ls, hS.hc, hS.hb, hS.hs, ht.mono hS.le, hS.done hT hR⟩
end Go.Proofs.YtcaeoebphfjfiaaGreat.Am


/- What counts tell. -/
namespace Go.Proofs.YtcaeoebphfjfiaaGreat.Am
open Go Go.RowKit
set_option maxRecDepth 100000
set_option linter.unusedVariables false
set_option linter.unusedSimpArgs false

theorem sum_cntR {T : TreeT} (hT : GoodT T) {cb tb : Nat} {H : Hp} (hc : CntR H cb tb T) (i : Nat) (hi : i < T.vars.length) (a : Int) :
    ACalls Tryz.prog 62 #[.pointer (some ⟨cb, 0, none⟩), .int .i64 i, .int .i64 a] H (fun r H' => r = .int .u64 (Vq T T.vars.length i a) ∧ H' = H) := by
  obtain ⟨mb, ms, es1, es2, h1, h2, h3, h4, h5, h6, h7, h8⟩ := hc
  have h := sum_cnt hT h4 h7 h6 h8.i2 i hi a
  rw [h8.sum i a hi] at h
  exact h
set_option maxHeartbeats 2000000 in
theorem behind_cnt {T : TreeT} (hT : GoodT T) {cb tb : Nat} {ns : List Int} {v : Value} {H : Hp} (hc : CntR H cb tb T) (hn : Sl (Y6 .i64) H v ns) (hnl : ns.length ≤ 1000000) :
    ACalls Tryz.prog 63 #[.pointer (some ⟨cb, 0, none⟩), v] H (fun r H' => r = .int .u64 (behT T ns) ∧ H.le H') := by
  obtain ⟨A, c, rfl⟩ := hn.shape
  have hfew := hT.few
  have hc0 := hc
  obtain ⟨mb, ms, es1, es2, h1, h2, h3, h4, h5, h6, h7, h8⟩ := hc
  refine Xu Tryz.func63 rfl rfl rfl (by simp) ?_
  refine Xf ?_
  refine Xc (by kernel_rfl) ?_
  refine Xa (Xg rfl) ?_
  refine Xf ?_
  refine Xc (by kernel_rfl) ?_
  refine Xa (Xg rfl) ?_
  refine Xf ?_
  refine Xf ?_
  refine Xc (by kernel_rfl) ?_
  refine Xa (Xw rfl) ?_
  refine Xa (Yl rfl Tryz.underlying23) ?_
  refine Xa (X9 rfl) ?_
  refine Xa (Yo rfl) ?_
  refine Xa (Xh (off := 0) rfl Tryz.underlying92 rfl inf32.size (by decide) rfl) ?_
  refine Xa (Xl rfl Tryz.underlying32 rfl Xq) ?_
  refine X5 (X0 (Len_tree h7) rfl Tryz.func57 rfl rfl rfl ?_)
  rintro v17 H ⟨rfl, rfl⟩
  refine Xa (av_gt rfl rfl) ?_
  refine X1 rfl rfl ?_ ?_
  intro hc1
  have hlong : T.vars.length < ns.length := by have := of_decide_eq_true hc1; omega
  refine Xf ?_
  refine Xc (by kernel_rfl) ?_
  refine Xa (Xg rfl) ?_
  refine X8 ?_
  exact ⟨.int .u64 0, Xv (Xx rfl), by rw [behT, if_neg (by omega)], Hp.le_refl _⟩
  intro hc1
  have hshort : ns.length ≤ T.vars.length := by have := of_decide_eq_false hc1; omega
  refine X6 ?_
  refine Xf ?_
  refine Xf ?_
  refine Xc (by kernel_rfl) ?_
  refine Xa (X9 rfl) ?_
  refine Xa (Yo rfl) ?_
  refine Xa (Xh (off := 0) rfl Tryz.underlying92 rfl inf32.size (by decide) rfl) ?_
  refine Xa (Xl rfl Tryz.underlying32 rfl Xq) ?_
  refine X5 (X0 (Len_tree h7) rfl Tryz.func57 rfl rfl rfl ?_)
  rintro v23 H ⟨rfl, rfl⟩
  refine Xa (Xb rfl) ?_
  refine X3 ?_
  refine Yt (fun n t H' => ∃ (i : Nat) (A : Option Addr), n = T.vars.length - i ∧ i ≤ T.vars.length ∧ H.le H' ∧ Sl (Y6 .i64) H (.slice A ns.length c) ns ∧ (∀ j, j < i → j < ns.length → (Z4 (T.group j (Y2 T ns j)) (ns.getD j 0)).isSome = true) ∧ t 0 = .pointer (some ⟨cb, 0, none⟩) ∧ t 1 = .slice A ns.length c ∧ t 5 = .int .u64 (mulT T ns i) ∧ t 23 = .int .i64 T.vars.length ∧ t 24 = .int .i64 i) (T.vars.length) (⟨0, _, rfl, Nat.zero_le _, Hp.le_refl _, hn, fun j h => by omega, rfl, rfl, rfl, rfl, rfl⟩) ?_
  rintro n t H1 ⟨i, A, rfl, hi, le1, hnA, hok, e0, e1, e5, e23, e24⟩
  have hc1 := hc0.mono le1
  have h41 := Xt le1 h1 (by intro e; cases e) h4
  have hcb1 := Nat.lt_of_lt_of_le h1 le1.1
  have hn1 := hnA.mono le1.sees
  refine Xf ?_
  refine Xc (by kernel_rfl) ?_
  refine Xa (Yw Xi Xi) ?_
  refine Xf ?_
  refine X1 rfl rfl ?_ ?_
  intro hc2
  have hil : i < T.vars.length := by have := of_decide_eq_true hc2; omega
  have hpar := hT.par i hil
  obtain ⟨p, hp⟩ : ∃ p, p = T.parent.getD i 0 := ⟨_, rfl⟩
  rw [← hp] at hpar
  obtain ⟨ab, hab⟩ : ∃ ab, ab = if p ≠ -1 ∧ p < ns.length then ns.getD p.toNat 0 else -1 := ⟨_, rfl⟩
  have habv : p < ns.length → ab = Y2 T ns i := fun h => by
    unfold Y2
    rw [hab, ← hp]
    by_cases e : p = -1
    · rw [if_neg (fun h => h.1 e), if_pos e]
    · rw [if_pos ⟨e, h⟩, if_neg e]
  have hms := mulT_succ T ns i
  rw [← hp] at hms
  refine X6 ?_
  refine Xf ?_
  refine X3 ?_
  refine Xf ?_
  refine Xc (by kernel_rfl) ?_
  refine Xa (Xb Xi) ?_
  refine Xa (Xg rfl) ?_
  refine Xf ?_
  refine Xc (by kernel_rfl) ?_
  refine Xa (X9 Xi) ?_
  refine Xa (Yo rfl) ?_
  refine Xa (Xh (off := 0) rfl Tryz.underlying92 rfl inf32.size (by decide) rfl) ?_
  refine Xa (Xl rfl Tryz.underlying32 rfl Xq) ?_
  refine Xa (Xb rfl) ?_
  refine X5 (X0 (Parent_tree (h7.mono le1) hT.l1 (i : Int)) rfl Tryz.func85 rfl rfl rfl ?_)
  rintro v32 H1 ⟨rfl, rfl⟩; rw [if_pos ⟨by omega, by omega⟩, Int.toNat_natCast, ← hp]
  refine Xa (Xg rfl) ?_
  refine Xf ?_
  refine Xc (by kernel_rfl) ?_
  refine Xa (Xg rfl) ?_
  refine Xf ?_
  refine Xf ?_
  refine ac_cut (fun t H' => H' = H1 ∧ t 0 = .pointer (some ⟨cb, 0, none⟩) ∧ t 1 = .slice A ns.length c ∧ t 5 = .int .u64 (mulT T ns i) ∧ t 6 = .int .i64 i ∧ t 7 = .int .i64 p ∧ t 8 = .int .i64 (-1) ∧ t 23 = .int .i64 T.vars.length ∧ t 24 = .int .i64 i ∧ t 40 = .bool (decide (p ≠ -1 ∧ p < ns.length))) ?_ ?_
  refine Xc (by kernel_rfl) ?_
  refine Xa (Xb rfl) ?_
  refine Xa (Vk rfl rfl) ?_
  refine Xa (Xs rfl) ?_
  refine Ye rfl rfl rfl ?_ ?_
  intro hg3
  have hp1 : p ≠ -1 := by have h := hg3; simpa using h
  refine Xm (Xk rfl rfl rfl hg3) (Xb rfl) ?_
  refine Xm (Xk rfl rfl rfl hg3) (Xw Xi) ?_
  refine Xm (Xk rfl rfl rfl hg3) (Yl rfl Tryz.underlying23) ?_
  refine Xm (Xk rfl rfl rfl hg3) (Yw rfl rfl) ?_
  refine Xa (Xn (congrArg Value.bool hg3) rfl) ?_
  first
    | exact ⟨rfl, e0, e1, e5, rfl, rfl, rfl, e23, e24, congrArg Value.bool (by rw [decide_eq_decide]; exact ⟨fun h => ⟨hp1, h⟩, fun h => h.2⟩)⟩
    | exact ⟨rfl, e0, e1, e5, rfl, rfl, rfl, e23, e24, congrArg Value.bool (by simp [hp1])⟩
  intro hg3
  have hp1 : p = -1 := by have h := hg3; simpa using h
  refine Xe (Xj rfl rfl rfl hg3 rfl) ?_
  refine Xe (Xj rfl rfl rfl hg3 rfl) ?_
  refine Xe (Xj rfl rfl rfl hg3 rfl) ?_
  refine Xe (Xj rfl rfl rfl hg3 rfl) ?_
  refine Xa (Xn (congrArg Value.bool hg3) Xi) ?_
  first
    | exact ⟨rfl, e0, e1, e5, rfl, rfl, rfl, e23, e24, congrArg Value.bool (by rw [decide_eq_decide]; exact ⟨fun h => ⟨hp1, h⟩, fun h => h.2⟩)⟩
    | exact ⟨rfl, e0, e1, e5, rfl, rfl, rfl, e23, e24, congrArg Value.bool (by simp [hp1])⟩
  rintro t H1 ⟨rfl, e0, e1, e5, e6, e7, e8, e23, e24, e40⟩
  refine ac_cut (fun t H' => H' = H1 ∧ ∃ A, Sl (Y6 .i64) H (.slice A ns.length c) ns ∧ t 0 = .pointer (some ⟨cb, 0, none⟩) ∧ t 1 = .slice A ns.length c ∧ t 5 = .int .u64 (mulT T ns i) ∧ t 6 = .int .i64 i ∧ t 7 = .int .i64 p ∧ t 8 = .int .i64 ab ∧ t 23 = .int .i64 T.vars.length ∧ t 24 = .int .i64 i) ?_ ?_
  refine X1 Xi rfl ?_ ?_
  intro hc4
  have hp2 : p ≠ -1 ∧ p < ns.length := of_decide_eq_true hc4
  obtain ⟨bN, oN, eN, hbN, hcN⟩ := hn1.int_at (i := p) (by omega) (by omega)
  subst eN
  refine Xc (by kernel_rfl) ?_
  refine Xa (Xw Xi) ?_
  refine Xa (Xb Xi) ?_
  refine Xa (Xo rfl rfl Tryz.underlying23 inf3.size Xy Xy) ?_
  refine Xa (Xl rfl Tryz.underlying3 rfl Xq) ?_
  refine Xa (Xg rfl) ?_
  first
    | exact ⟨rfl, _, hnA, e0, e1, e5, e6, e7, congrArg (Value.int .i64) (by rw [hab, if_pos hp2]), e23, e24⟩
    | exact ⟨rfl, _, hnA, e0, e1, e5, e6, e7, by rw [hab, if_neg hp2]; exact e8, e23, e24⟩
  intro hc4
  have hp2 : ¬ (p ≠ -1 ∧ p < ns.length) := of_decide_eq_false hc4
  refine X6 ?_
  first
    | exact ⟨rfl, _, hnA, e0, e1, e5, e6, e7, congrArg (Value.int .i64) (by rw [hab, if_pos hp2]), e23, e24⟩
    | exact ⟨rfl, _, hnA, e0, e1, e5, e6, e7, by rw [hab, if_neg hp2]; exact e8, e23, e24⟩
  rintro t H1 ⟨rfl, A, hnA, e0, e1, e5, e6, e7, e8, e23, e24⟩
  have hn1 := hnA.mono le1.sees
  refine X3 ?_
  refine Xf ?_
  refine Xc (by kernel_rfl) ?_
  refine Xa (Xb Xi) ?_
  refine Xa (Xw Xi) ?_
  refine Xa (Yl rfl Tryz.underlying23) ?_
  refine Xa (Yw rfl rfl) ?_
  refine Xa (Xr rfl) ?_
  refine X1 rfl rfl ?_ ?_
  intro hc5
  have hin : i < ns.length := by have := of_decide_eq_true hc5; omega
  obtain ⟨bM, oM, eM, hbM, hcM⟩ := hn1.int_at (i := (i : Int)) (by omega) (by omega)
  rw [Int.toNat_natCast] at hcM
  subst eM
  refine Xf ?_
  refine Ys (by kernel_rfl) (Y1 (B := [0, 1, 3, 7, 0, 0, 0, 0, 192, 448, 1023, 2047, 4095, 4095, 0, 24575, 65535]) (π := [0, 1, 2, 3, 4, 5, 6, 7, 8, 9, 14, 10, 11, 12, 13, 15, 16]) (by kernel_rfl)) ?_
  refine Xd rfl rfl (X9 Xi) Xp ?_
  refine Xd rfl rfl (Yo rfl) Xp ?_
  refine Xd rfl rfl (Xh (off := 0) rfl Tryz.underlying92 rfl inf32.size (by decide) rfl) Xp ?_
  refine Xd rfl rfl (Xl rfl Tryz.underlying32 rfl Xq) Xp ?_
  refine Xd rfl rfl (Xb Xi) Xp ?_
  refine Xd rfl rfl (Xb Xi) Xp ?_
  refine Xd rfl rfl (Xw Xi) Xp ?_
  refine Xd rfl rfl (Xb Xi) Xp ?_
  refine Xd rfl rfl (Xo rfl rfl Tryz.underlying23 inf3.size Xy Xy) Xp ?_
  refine Xd rfl rfl (Xl rfl Tryz.underlying3 rfl Xq) Xp ?_
  refine Y5 rfl rfl (Y9 (l := [.int .i64 0, .int .i64 0, .int .i64 0, .int .u64 0]) inf78.zero rfl (by decide)) ?_
  refine Yg rfl rfl (X0 (Find_tree (h7.mono t_le) hT.l1 hT.l2 hT.lens (i : Int) ab (ns.getD i 0) (hT.sort _ _)) rfl Tryz.func64 rfl rfl rfl ?_)
  rintro v61 H2 ⟨le2, rfl⟩; rw [habv (by omega)]; have z2 := le2.1
  refine ⟨Yf, ?_⟩
  refine Xd rfl rfl (Va rfl) Xp ?_
  refine Xd rfl rfl (Zi rfl rfl) Xp ?_
  refine Xd rfl rfl (Zi rfl rfl) Xp ?_
  first | refine Yg rfl rfl (Yq (vs := [.int .i64 _, .int .i64 _, .int .i64 _, .int .u64 _]) rfl rfl inf78.size Yh Yp rfl rfl ?_)
  refine ⟨Yf, ?_⟩
  refine Xd rfl rfl (Xr rfl) Xp ?_
  refine Xf ?_
  refine Xc (by kernel_rfl) ?_
  refine Xa (Xs rfl) ?_
  refine Xa (Vo rfl) ?_
  refine X1 rfl rfl ?_ ?_
  intro hc6
  have hno : (Z4 (T.group i (Y2 T ns i)) (ns.getD i 0)).isSome = false := by have h := hc6; simpa using h
  refine Xf ?_
  refine Xc (by kernel_rfl) ?_
  refine Xa (Xg rfl) ?_
  refine X8 ?_
  exact ⟨.int .u64 0, Xv (Xx rfl), by rw [behT, if_neg (fun h => by rw [okP_bad hin (by simpa using hno)] at h; exact absurd h.2 (by simp))], t_le⟩
  intro hc6
  have hyes : (Z4 (T.group i (Y2 T ns i)) (ns.getD i 0)).isSome = true := by have h := hc6; simpa using h
  refine X6 ?_
  refine Xc (by kernel_rfl) ?_
  refine Xa (Yd Xi Xi Yk) ?_
  refine Xa (Xb rfl) ?_
  have hok2 : ∀ j, j < i + 1 → j < ns.length → (j = i → (Z4 (T.group i (Y2 T ns i)) (ns.getD i 0)).isSome = true) → (Z4 (T.group j (Y2 T ns j)) (ns.getD j 0)).isSome = true := fun j h1 h2 h3 => by
      by_cases h : j = i
      · subst h; exact h3 rfl
      · exact hok j (by omega) h2
  first
    | exact ⟨T.vars.length - (i + 1), by omega, i + 1, _, rfl, by omega, t_le, hnA, fun j a b => hok2 j a b (fun _ => hyes), e0, e1, by rw [hms, if_neg (fun h => by omega)]; exact e5, e23, rfl⟩
    | exact ⟨T.vars.length - (i + 1), by omega, i + 1, _, rfl, by omega, le1, hnA, fun j a b => hok2 j a b (fun h => by omega), e0, e1, by rw [hms]; rfl, e23, rfl⟩
    | exact ⟨T.vars.length - (i + 1), by omega, i + 1, _, rfl, by omega, le1, hnA, fun j a b => hok2 j a b (fun h => by omega), e0, e1, by rw [hms]; exact e5, e23, rfl⟩
  intro hc5
  have hin : ¬ i < ns.length := by have := of_decide_eq_false hc5; omega
  refine Xf ?_
  refine ac_cut (fun t H' => H' = H1 ∧ t 0 = .pointer (some ⟨cb, 0, none⟩) ∧ t 1 = .slice A ns.length c ∧ t 5 = .int .u64 (mulT T ns i) ∧ t 6 = .int .i64 i ∧ t 8 = .int .i64 ab ∧ t 23 = .int .i64 T.vars.length ∧ t 24 = .int .i64 i ∧ t 66 = .bool (decide (p < ns.length))) ?_ ?_
  refine Xc (by kernel_rfl) ?_
  refine Xa (Xb Xi) ?_
  refine Xa (Z0 rfl rfl) ?_
  refine Xa (Xs rfl) ?_
  refine Ye rfl rfl rfl ?_ ?_
  intro hg7
  have hp1 : p = -1 := by have h := hg7; simpa using h
  refine Xe (Xj rfl rfl rfl hg7 rfl) ?_
  refine Xe (Xj rfl rfl rfl hg7 rfl) ?_
  refine Xe (Xj rfl rfl rfl hg7 rfl) ?_
  refine Xe (Xj rfl rfl rfl hg7 rfl) ?_
  refine Xa (Xn (congrArg Value.bool hg7) Xi) ?_
  refine Xa (Xr rfl) ?_
  first
    | exact ⟨rfl, e0, e1, e5, e6, e8, e23, e24, rfl⟩
    | exact ⟨rfl, e0, e1, e5, e6, e8, e23, e24, congrArg Value.bool (by symm; apply decide_eq_true; omega)⟩
  intro hg7
  have hp1 : p ≠ -1 := by have h := hg7; simpa using h
  refine Xm (Xk rfl rfl rfl hg7) (Xb Xi) ?_
  refine Xm (Xk rfl rfl rfl hg7) (Xw Xi) ?_
  refine Xm (Xk rfl rfl rfl hg7) (Yl rfl Tryz.underlying23) ?_
  refine Xm (Xk rfl rfl rfl hg7) (Yw rfl rfl) ?_
  refine Xa (Xn (congrArg Value.bool hg7) rfl) ?_
  refine Xa (Xr rfl) ?_
  first
    | exact ⟨rfl, e0, e1, e5, e6, e8, e23, e24, rfl⟩
    | exact ⟨rfl, e0, e1, e5, e6, e8, e23, e24, congrArg Value.bool (by symm; apply decide_eq_true; omega)⟩
  rintro t H1 ⟨rfl, e0, e1, e5, e6, e8, e23, e24, e66⟩
  refine X1 Xi rfl ?_ ?_
  intro hc8
  have hpn : p < ns.length := of_decide_eq_true hc8
  rw [if_pos ⟨by omega, hpn⟩] at hms
  refine Xc (by kernel_rfl) ?_
  refine Xa (Xb Xi) ?_
  refine Xa (X9 Xi) ?_
  refine Xa (Xb Xi) ?_
  refine Xa (Xb Xi) ?_
  refine X5 (X0 (sum_cntR hT hc1 i hil ab) rfl Tryz.func62 rfl rfl rfl ?_)
  rintro v79 H1 ⟨rfl, rfl⟩; rw [habv hpn]
  refine X5 (X0 (Times_u64 _ _ (mulT_nonneg hT ns i) (Ve hT _ _ _) _) rfl Tryz.func76 rfl rfl rfl ?_)
  rintro v80 H1 ⟨rfl, rfl⟩
  refine Xa (Xg rfl) ?_
  refine Xc (by kernel_rfl) ?_
  refine Xa (Yd Xi Xi Yk) ?_
  refine Xa (Xb rfl) ?_
  have hok2 : ∀ j, j < i + 1 → j < ns.length → (j = i → (Z4 (T.group i (Y2 T ns i)) (ns.getD i 0)).isSome = true) → (Z4 (T.group j (Y2 T ns j)) (ns.getD j 0)).isSome = true := fun j h1 h2 h3 => by
      by_cases h : j = i
      · subst h; exact h3 rfl
      · exact hok j (by omega) h2
  first
    | exact ⟨T.vars.length - (i + 1), by omega, i + 1, _, rfl, by omega, t_le, hnA, fun j a b => hok2 j a b (fun _ => hyes), e0, e1, by rw [hms, if_neg (fun h => by omega)]; exact e5, e23, rfl⟩
    | exact ⟨T.vars.length - (i + 1), by omega, i + 1, _, rfl, by omega, le1, hnA, fun j a b => hok2 j a b (fun h => by omega), e0, e1, by rw [hms]; rfl, e23, rfl⟩
    | exact ⟨T.vars.length - (i + 1), by omega, i + 1, _, rfl, by omega, le1, hnA, fun j a b => hok2 j a b (fun h => by omega), e0, e1, by rw [hms]; exact e5, e23, rfl⟩
  intro hc8
  have hpn : ¬ p < ns.length := of_decide_eq_false hc8
  rw [if_neg (fun h => hpn h.2)] at hms
  refine X6 ?_
  refine Xc (by kernel_rfl) ?_
  refine Xa (Yd Xi Xi Yk) ?_
  refine Xa (Xb rfl) ?_
  have hok2 : ∀ j, j < i + 1 → j < ns.length → (j = i → (Z4 (T.group i (Y2 T ns i)) (ns.getD i 0)).isSome = true) → (Z4 (T.group j (Y2 T ns j)) (ns.getD j 0)).isSome = true := fun j h1 h2 h3 => by
      by_cases h : j = i
      · subst h; exact h3 rfl
      · exact hok j (by omega) h2
  first
    | exact ⟨T.vars.length - (i + 1), by omega, i + 1, _, rfl, by omega, t_le, hnA, fun j a b => hok2 j a b (fun _ => hyes), e0, e1, by rw [hms, if_neg (fun h => by omega)]; exact e5, e23, rfl⟩
    | exact ⟨T.vars.length - (i + 1), by omega, i + 1, _, rfl, by omega, le1, hnA, fun j a b => hok2 j a b (fun h => by omega), e0, e1, by rw [hms]; rfl, e23, rfl⟩
    | exact ⟨T.vars.length - (i + 1), by omega, i + 1, _, rfl, by omega, le1, hnA, fun j a b => hok2 j a b (fun h => by omega), e0, e1, by rw [hms]; exact e5, e23, rfl⟩
  intro hc2
  have hil : ¬ i < T.vars.length := by have := of_decide_eq_false hc2; omega
  refine Yj ?_
  refine Xf ?_
  refine Xc (by kernel_rfl) ?_
  refine Xa (Xb Xi) ?_
  refine Xa (Xg rfl) ?_
  refine X8 ?_
  have hiv : i = T.vars.length := by omega
  subst hiv
  suffices hokp : okP T ns = true from ⟨.int .u64 (mulT T ns T.vars.length), Xv (Xx rfl), by rw [behT, if_pos ⟨hshort, hokp⟩], le1⟩
  unfold okP
  rw [List.all_eq_true]
  intro j hj
  rw [List.mem_range] at hj
  exact hok j (by omega) hj
theorem All_cnt {T : TreeT} (hT : GoodT T) {cb tb : Nat} {H : Hp} (hc : CntR H cb tb T) :
    ACalls Tryz.prog 55 #[.pointer (some ⟨cb, 0, none⟩)] H (fun r H' => r = .int .u64 (behT T []) ∧ H.le H') := by
  refine Xu Tryz.func55 rfl rfl rfl (by simp) ?_
  refine Xf ?_
  refine Xc (by kernel_rfl) ?_
  refine Xa (Xg rfl) ?_
  refine Xf ?_
  refine Xf ?_
  refine Xc (by kernel_rfl) ?_
  refine Xa (X9 rfl) ?_
  refine Xa (Vh rfl t_spot rfl Tryz.underlying57) ?_
  refine X1 rfl rfl ?_ ?_
  intro hc1
  (have h := hc1; simp at h)
  intro hc1
  (try simp only [decide_eq_true_eq, decide_eq_false_iff_not, Bool.not_eq_true', Bool.not_eq_false'] at hc1)
  refine X6 ?_
  refine Xf ?_
  refine Xc (by kernel_rfl) ?_
  refine Xa (X9 rfl) ?_
  refine X5 (X0 (behind_cnt hT hc (Sl.nil _ _) (by simp)) rfl Tryz.func63 rfl rfl rfl ?_)
  rintro v6 H6 ⟨rfl, hle6⟩
  refine Xa (Xg rfl) ?_
  refine X8 ?_
  exact ⟨_, Xv (Xx rfl), rfl, hle6⟩
theorem Exact_cnt {T : TreeT} (hT : GoodT T) {cb tb : Nat} {H : Hp} (hc : CntR H cb tb T) :
    ACalls Tryz.prog 56 #[.pointer (some ⟨cb, 0, none⟩)] H (fun r H' => r = .bool (decide (behT T [] < 4611686018427387904)) ∧ H.le H') := by
  refine Xu Tryz.func56 rfl rfl rfl (by simp) ?_
  refine Xf ?_
  refine Xc (by kernel_rfl) ?_
  refine Xa (Xr rfl) ?_
  refine Xf ?_
  refine Xc (by kernel_rfl) ?_
  refine Xa (X9 rfl) ?_
  refine Xa (av_ptr_ne_nil rfl rfl Tryz.underlying57) ?_
  refine Xa (Xs rfl) ?_
  refine Ye rfl rfl rfl ?_ ?_
  intro hg1
  have hp1 := hg1; try simp only [decide_eq_true_eq, decide_eq_false_iff_not, Bool.not_eq_true', Bool.not_eq_false'] at hp1
  refine Xm (Xk rfl rfl rfl hg1) (X9 rfl) ?_
  refine Zm (Xk rfl rfl rfl hg1) (X0 (behind_cnt hT hc (Sl.nil _ _) (by simp)) rfl Tryz.func63 rfl rfl rfl ?_)
  rintro v7 H7 ⟨rfl, hle7⟩
  refine Xm (Xk rfl rfl rfl hg1) (Yw rfl rfl) ?_
  refine Xa (Xn (congrArg Value.bool hg1) rfl) ?_
  refine Xa (Xr rfl) ?_
  refine X8 ?_
  exact ⟨_, Xv (Xx rfl), rfl, hle7⟩
  intro hg1
  (have h := hg1; simp at h)
theorem Behind_cnt {T : TreeT} (hT : GoodT T) {cb tb : Nat} {ns : List Int} {v : Value} {H : Hp} (hc : CntR H cb tb T) (hn : Sl (Y6 .i64) H v ns) (hnl : ns.length ≤ 1000000) :
    ACalls Tryz.prog 34 #[.pointer (some ⟨cb, 0, none⟩), v] H (fun r H' => r = .int .u64 (behT T ns) ∧ H.le H') := by
  obtain ⟨A, c, rfl⟩ := hn.shape
  refine Xu Tryz.func34 rfl rfl rfl (by simp) ?_
  refine Xf ?_
  refine Xc (by kernel_rfl) ?_
  refine Xa (Xg rfl) ?_
  refine Xf ?_
  refine Xf ?_
  refine Xc (by kernel_rfl) ?_
  refine Xa (X9 rfl) ?_
  refine Xa (Vh rfl t_spot rfl Tryz.underlying57) ?_
  refine X1 rfl rfl ?_ ?_
  intro hc1
  (have h := hc1; simp at h)
  intro hc1
  (try simp only [decide_eq_true_eq, decide_eq_false_iff_not, Bool.not_eq_true', Bool.not_eq_false'] at hc1)
  refine X6 ?_
  refine Xf ?_
  refine Xc (by kernel_rfl) ?_
  refine Xa (X9 rfl) ?_
  refine Xa (Xw rfl) ?_
  refine X5 (X0 (behind_cnt hT hc hn hnl) rfl Tryz.func63 rfl rfl rfl ?_)
  rintro v9 H9 ⟨rfl, hle9⟩
  refine Xa (Xg rfl) ?_
  refine X8 ?_
  exact ⟨_, Xv (Xx rfl), rfl, hle9⟩
end Go.Proofs.YtcaeoebphfjfiaaGreat.Am


/- The statement CountsMany, as the abstract machine runs it; the small living call of the statements on counts. -/
namespace Go.Proofs.YtcaeoebphfjfiaaGreat.Am
open Go Go.RowKit
set_option maxRecDepth 100000
set_option linter.unusedVariables false
set_option linter.unusedSimpArgs false

theorem addR_u64 (a b : Int) (ha : 0 ≤ a) (hb : 0 ≤ b) (H : Hp) : ACalls Tryz.prog 60 #[.int .u64 a, .int .u64 b] H (fun r H' => r = .int .u64 (addI a b) ∧ H' = H) := by
  have hw : IntKind.u64.wrap (min a Y3 + min b Y3) = min a Y3 + min b Y3 := by
    have : min a Y3 + min b Y3 < 18446744073709551616 := by unfold Y3; omega
    have h0 : 0 ≤ min a Y3 + min b Y3 := by unfold Y3; omega
    simp only [IntKind.wrap, IntKind.bits, IntKind.signed]
    generalize min a Y3 + min b Y3 = x at *
    simp
    omega
  refine Xu Tryz.func60 rfl rfl rfl (by simp) ?_
  refine Xf ?_
  refine Xc (by kernel_rfl) ?_
  refine Xa (Xg rfl) ?_
  refine Xf ?_
  refine Xc (by kernel_rfl) ?_
  refine Xa (Xb rfl) ?_
  refine X5 (X0 (top_u64 a _) rfl Tryz.func77 rfl rfl rfl ?_)
  rintro v6 H1 ⟨rfl, rfl⟩
  refine Xa (Xb rfl) ?_
  refine X5 (X0 (top_u64 b _) rfl Tryz.func77 rfl rfl rfl ?_)
  rintro v8 H1 ⟨rfl, rfl⟩
  refine Xa (av_add rfl rfl) ?_
  refine X5 (X0 (top_u64 _ _) rfl Tryz.func77 rfl rfl rfl ?_)
  rintro v10 H1 ⟨rfl, rfl⟩; rw [hw]
  refine Xa (Xg rfl) ?_
  refine X8 ?_
  exact ⟨_, Xv (Xx rfl), rfl, rfl⟩
theorem av_conv_is {P : Program} {t : Fr} {H : Hp} {d : Option Tmp} {ty : TypeId} {pos : String} {after : Array Edge} {guard : Option (Nat × Bool)} {x : Operand} {src dst : TypeId} {k k' : IntKind} {a v : Int} (hv : k'.wrap a = v) (hx : t.eval x = .int k a) (hs : (P.underlying src).isSome = true) (hd : P.underlying dst = some (.int k')) : AVal P ⟨d, .convert src dst x, ty, pos, after, guard⟩ t [] H (.int k' v) := by
  subst hv; exact av_conv hx hs hd
def live30 : TreeT := Yy (Zs 2) (Uc (Zs 2) (Zx 1 [2, 3]))
theorem live30_is : live30 = Yy (Zs 2) (Zx 1 [2, 3]) := by
  unfold live30
  rcases apart_of (n := 1) (by decide) (by decide) (sa := 2) (sb := 3) (by decide) (by decide) with ⟨_, _, h⟩ | ⟨h, _⟩
  · rw [h]
  · omega
theorem live30_all : behT live30 [] = 6 := by rw [live30_is]; decide +kernel
theorem live30_beh : behT live30 [1] = 3 := by rw [live30_is]; decide +kernel
theorem live30_good : GoodT live30 := apart_goodT (by decide) (by decide) (by decide) (by decide)
theorem live30_few : FewA live30 := apart_fewA (by decide) (by decide) (by decide) (by decide)
theorem live30_reach : Reach live30 := reach_tree (good_apart (by decide) (by decide) (by decide) (by decide)) live30_good
set_option maxHeartbeats 1000000 in
theorem lives30_ok (H : Hp) : ACalls Tryz.prog 25 #[] H (fun r H' => r = .bool true ∧ H.le H') := by
  refine Xu Tryz.func25 rfl rfl rfl (by simp) ?_
  refine Xf ?_
  refine Xc (by kernel_rfl) ?_
  refine Xa (Xr rfl) ?_
  refine Xf ?_
  refine Xc (by kernel_rfl) ?_
  first | refine X2 (Ya (r := [.int .i64 _, .int .i64 _]) Tryz.underlying23 inf3.size inf3.zero rfl (by decide) (by decide) (by decide) rfl) ?_
  refine X5 (X0 (Apart_ok 1 [2, 3] (.slice (some ⟨H.size, 0, none⟩) 2 2) _ (sl_two (k := Y6 .i64) Yh (by simp) rfl rfl rfl) (by decide) (by decide)) rfl Tryz.func45 rfl rfl rfl ?_)
  rintro v1 H1 ⟨cs1, ds1, rfl, hf1, hp1, hle1⟩; have hf10 := hf1; have hp10 := hp1; obtain ⟨a0, a1, a2, a3, a4, rfl, hs0, hs1, hs2, hs3, hs4⟩ := hf1; obtain ⟨A0, c0, rfl⟩ := hs0.shape; obtain ⟨A1, c1, rfl⟩ := hs1.shape; obtain ⟨A2, c2, rfl⟩ := hs2.shape; obtain ⟨A3, c3, rfl⟩ := hs3.shape; obtain ⟨A4, c4, rfl⟩ := hs4.shape; obtain ⟨u0, u1, rfl, hn0, hn1⟩ := hp1; obtain ⟨B0, d0, rfl⟩ := hn0.shape; obtain ⟨B1, d1, rfl⟩ := hn1.shape; have hz1 := hle1.1; simp only [Hp.push_size] at hz1
  refine Xa (Va rfl) ?_
  refine Xa (Zi rfl rfl) ?_
  refine Xa (Zi rfl rfl) ?_
  refine X2 (Y9 (l := [.slice none 0 0, .slice none 0 0, .slice none 0 0, .slice none 0 0, .slice none 0 0]) inf26.zero rfl (by decide)) ?_
  refine X2 (Y9 (l := [.slice none 0 0, .slice none 0 0]) inf29.zero rfl (by decide)) ?_
  refine X5 (Yq (vs := [.slice _ _ _, .slice _ _ _, .slice _ _ _, .slice _ _ _, .slice _ _ _]) rfl rfl inf26.size Yh Yp rfl rfl ?_)
  refine X5 (Yq (vs := [.slice _ _ _, .slice _ _ _]) rfl rfl inf29.size Yh Yp rfl rfl ?_)
  refine Xf ?_
  refine Xc (by kernel_rfl) ?_
  refine Xa (Yc (cs := [.slice _ _ _, .slice _ _ _, .slice _ _ _, .slice _ _ _, .slice _ _ _]) rfl Tryz.underlying26 rfl inf26.size Yb) ?_
  refine Xa (Yc (cs := [.slice _ _ _, .slice _ _ _]) rfl Tryz.underlying29 rfl inf29.size Yb) ?_
  refine X5 (X0 (New_good (Zs 2) (Zx 1 [2, 3]) _ _ _ (kForest.mono Zo hf10) (kParts.mono Zo hp10) (small_apart (by decide) (by decide)) (cheap_apart (by decide) (by decide) (by decide)) (good_apart (by decide) (by decide) (by decide) (by decide))) rfl Tryz.func9 rfl rfl rfl ?_)
  rintro v2 H2 ⟨hle2, tb, rfl, htr⟩; change TreeR H2 _ live30 at htr
  refine Xa (Va rfl) ?_
  refine Xa (Zi rfl rfl) ?_
  refine Xa (Zi rfl rfl) ?_
  refine Xa (Zt rfl) ?_
  refine Xa (Xg rfl) ?_
  refine Xf ?_
  have leH1 : H.le H1 := Hp.le_trans (H.le_push _) hle1
  have leH2 : H.le H2 := Hp.le_trans t_le hle2
  clear hle2
  refine Xc (by kernel_rfl) ?_
  refine Xa (X9 rfl) ?_
  refine X5 (X0 (New_cnt live30_good live30_few live30_reach _ htr) rfl Tryz.func26 rfl rfl rfl ?_)
  rintro v3 H3 ⟨hle3, cb, rfl, hc3⟩
  refine Xa (Zt rfl) ?_
  refine Xf ?_
  refine Xc (by kernel_rfl) ?_
  refine Xa (Xb rfl) ?_
  refine Xa (Z0 rfl rfl) ?_
  refine Xa (Xs rfl) ?_
  refine Ye rfl rfl rfl ?_ ?_
  intro hg1
  have hp1 := hg1; try simp only [decide_eq_true_eq, decide_eq_false_iff_not, Bool.not_eq_true', Bool.not_eq_false'] at hp1
  refine Xm (Xk rfl rfl rfl hg1) (X9 rfl) ?_
  refine Xm (Xk rfl rfl rfl hg1) (av_ptr_ne_nil rfl rfl Tryz.underlying57) ?_
  refine Xa (Xn (congrArg Value.bool hg1) rfl) ?_
  refine Xa (Xs rfl) ?_
  refine Ye rfl rfl rfl ?_ ?_
  intro hg2
  have hp2 := hg2; try simp only [decide_eq_true_eq, decide_eq_false_iff_not, Bool.not_eq_true', Bool.not_eq_false'] at hp2
  refine Xm (Xk rfl rfl rfl hg2) (X9 rfl) ?_
  refine Zm (Xk rfl rfl rfl hg2) (X0 (All_cnt live30_good hc3) rfl Tryz.func55 rfl rfl rfl ?_)
  rintro v4 H4 ⟨rfl, hle4⟩; rw [live30_all]
  refine Xm (Xk rfl rfl rfl hg2) (Z0 rfl rfl) ?_
  refine Xa (Xn (congrArg Value.bool hg2) rfl) ?_
  refine Xa (Xs rfl) ?_
  refine Ye rfl rfl rfl ?_ ?_
  intro hg3
  have hp3 := hg3; try simp only [decide_eq_true_eq, decide_eq_false_iff_not, Bool.not_eq_true', Bool.not_eq_false'] at hp3
  refine Xm (Xk rfl rfl rfl hg3) (X9 rfl) ?_
  first | refine Zm (Xk rfl rfl rfl hg3) (.make (Ya (r := [.int .i64 _]) Tryz.underlying23 inf3.size inf3.zero rfl (by decide) (by decide) (by decide) rfl) ?_)
  refine Zm (Xk rfl rfl rfl hg3) (X0 (Behind_cnt (ns := [1]) (v := .slice (some ⟨H4.size, 0, none⟩) 1 1) live30_good ((hc3.mono hle4).mono (H4.le_push _)) (sl_one1 (k := Y6 .i64) Yh (by simp) rfl rfl) (by simp)) rfl Tryz.func34 rfl rfl rfl ?_)
  rintro v5 H5 ⟨rfl, hle5⟩; rw [live30_beh]
  refine Xm (Xk rfl rfl rfl hg3) (Z0 rfl rfl) ?_
  refine Xa (Xn (congrArg Value.bool hg3) rfl) ?_
  refine Xa (Xs rfl) ?_
  refine Ye rfl rfl rfl ?_ ?_
  intro hg4
  have hp4 := hg4; try simp only [decide_eq_true_eq, decide_eq_false_iff_not, Bool.not_eq_true', Bool.not_eq_false'] at hp4
  refine Xm (Xk rfl rfl rfl hg4) (X9 rfl) ?_
  refine Zm (Xk rfl rfl rfl hg4) (X0 (Exact_cnt live30_good (((hc3.mono hle4).mono (H4.le_push _)).mono hle5)) rfl Tryz.func56 rfl rfl rfl ?_)
  rintro v6 H6 ⟨rfl, hle6⟩; rw [live30_all]
  refine Xa (Xn (congrArg Value.bool hg4) rfl) ?_
  refine Xa (Xr rfl) ?_
  refine X8 ?_
  exact ⟨_, Xv (Xx rfl), rfl, Hp.le_trans (Hp.le_trans (Hp.le_trans leH2 hle3) hle4) (Hp.le_trans (Hp.le_trans (H4.le_push _) hle5) hle6)⟩
  intro hg4
  exact absurd hg4 (by decide)
  intro hg3
  exact absurd hg3 (by decide)
  intro hg2
  (have h := hg2; simp at h)
  intro hg1
  exact absurd hg1 (by decide)
end Go.Proofs.YtcaeoebphfjfiaaGreat.Am


/- Whether two lists of numbers are one; what a tree tells of nodes. -/
namespace Go.Proofs.YtcaeoebphfjfiaaGreat.Am
open Go Go.RowKit
set_option maxRecDepth 100000
set_option linter.unusedVariables false
set_option linter.unusedSimpArgs false

end Go.Proofs.YtcaeoebphfjfiaaGreat.Am


/- The document's Up and Down. -/
namespace Go.Proofs.YtcaeoebphfjfiaaGreat.Am
open Go Go.RowKit
set_option maxRecDepth 100000
set_option linter.unusedVariables false
set_option linter.unusedSimpArgs false

end Go.Proofs.YtcaeoebphfjfiaaGreat.Am


/- The statement ReduceHalves, as the abstract machine runs it. -/
namespace Go.Proofs.YtcaeoebphfjfiaaGreat.Am
open Go Go.RowKit
set_option maxRecDepth 100000
set_option linter.unusedVariables false
set_option linter.unusedSimpArgs false

end Go.Proofs.YtcaeoebphfjfiaaGreat.Am


/- How many nodes and links; whether nothing is left. -/
namespace Go.Proofs.YtcaeoebphfjfiaaGreat.Am
open Go Go.RowKit
set_option maxRecDepth 100000
set_option linter.unusedVariables false
set_option linter.unusedSimpArgs false

end Go.Proofs.YtcaeoebphfjfiaaGreat.Am


/- The statement ReduceRows, as the abstract machine runs it. -/
namespace Go.Proofs.YtcaeoebphfjfiaaGreat.Am
open Go Go.RowKit
set_option maxRecDepth 100000
set_option linter.unusedVariables false
set_option linter.unusedSimpArgs false

theorem few_cost (x : Link) : x.few.cost ≤ 1000000000 := by
  unfold Link.few
  by_cases h : 1000000000 < x.cost
  · rw [if_pos h]; simp
  · rw [if_neg h]; omega
theorem fewL_cost {xs : List Link} {x : Link} (h : x ∈ Z5 xs) : x.cost ≤ 1000000000 := by
  unfold Z5 at h
  obtain ⟨y, _, rfl⟩ := List.mem_map.1 h
  exact few_cost y
theorem tiny_few {f : Forest} {p : Parts} (hg : GoodP f.few p.few4) (hs : f.few.vars.length < 6) : Tiny f.few p.few4 := by
  have getn : ∀ v, ∀ x ∈ nd p.few4 v, v < f.few.vars.length := fun v x hx => by
    rcases Nat.lt_or_ge v f.few.vars.length with h | h
    · exact h
    · unfold nd at hx
      rw [List.getD_eq_getElem?_getD, List.getElem?_eq_none (by have := hg.n1; omega)] at hx; simp at hx
  have getl : ∀ v, ∀ x ∈ lk p.few4 v, v < f.few.vars.length := fun v x hx => by
    rcases Nat.lt_or_ge v f.few.vars.length with h | h
    · exact h
    · unfold lk at hx
      rw [List.getD_eq_getElem?_getD, List.getElem?_eq_none (by have := hg.n2; omega)] at hx; simp at hx
  refine ⟨by omega, fun v => ?_, fun v x hx => ?_, fun v x hx => ?_⟩
  · unfold nd
    by_cases h : v < p.few4.nodes.length
    · rw [Yz h]
      obtain ⟨l, _, e⟩ := List.mem_map.1 (show p.few4.nodes[v] ∈ (p.few.nodes.map (·.take 4)) from List.getElem_mem h)
      rw [← e, List.length_take]; omega
    · rw [List.getD_eq_getElem?_getD, List.getElem?_eq_none (by omega)]; simp
  · have hv := getn v x hx
    obtain ⟨k1, _⟩ := Ui.1 (hg.ok v hv).1
    obtain ⟨a1, a2, a3, a4, a5, a6, a7⟩ := k1 x hx
    refine ⟨a5, ?_, by omega, a7⟩
    have h : v < p.few4.nodes.length := by rw [hg.n1]; exact hv
    unfold nd at hx
    rw [Yz h] at hx
    obtain ⟨l, hl, e⟩ := List.mem_map.1 (show p.few4.nodes[v] ∈ (p.few.nodes.map (·.take 4)) from List.getElem_mem h)
    rw [← e] at hx
    obtain ⟨l2, _, rfl⟩ := List.mem_map.1 hl
    exact fewL_cost (List.mem_of_mem_take hx)
  · have hv := getl v x hx
    obtain ⟨k1, _⟩ := Ui.1 (hg.ok v hv).2.1
    obtain ⟨a1, a2, a3, a4, a5, a6, a7⟩ := k1 x hx
    refine ⟨a5, ?_, by omega, a7⟩
    have h : v < p.few4.links.length := by rw [hg.n2]; exact hv
    unfold lk at hx
    rw [Yz h] at hx
    obtain ⟨l, hl, e⟩ := List.mem_map.1 (show p.few4.links[v] ∈ ((p.links.take 8).map Z5) from List.getElem_mem h)
    rw [← e] at hx
    exact fewL_cost hx
theorem Tiny.sub {f : Forest} {p q : Parts} (h : Tiny f p) (hs : Sub q p) : Tiny f q :=
  ⟨h.vars, fun v => Nat.le_trans (hs v).1.length_le (h.nodes v), fun v x hx => h.costN v x ((hs v).1.subset hx), fun v x hx => h.costL v x ((hs v).2.subset hx)⟩
end Go.Proofs.YtcaeoebphfjfiaaGreat.Am


/- The statement TreeRows, as the abstract machine runs it. -/
namespace Go.Proofs.YtcaeoebphfjfiaaGreat.Am
open Go Go.RowKit
set_option maxRecDepth 100000
set_option linter.unusedVariables false
set_option linter.unusedSimpArgs false

theorem cheap_few {f : Forest} {p : Parts} (hg : GoodP f.few p.few4) : Cheap p.few4 := by
  have getn : ∀ v, ∀ x ∈ nd p.few4 v, v < f.few.vars.length := fun v x hx => by
    rcases Nat.lt_or_ge v f.few.vars.length with h | h
    · exact h
    · unfold nd at hx
      rw [List.getD_eq_getElem?_getD, List.getElem?_eq_none (by have := hg.n1; omega)] at hx; simp at hx
  have getl : ∀ v, ∀ x ∈ lk p.few4 v, v < f.few.vars.length := fun v x hx => by
    rcases Nat.lt_or_ge v f.few.vars.length with h | h
    · exact h
    · unfold lk at hx
      rw [List.getD_eq_getElem?_getD, List.getElem?_eq_none (by have := hg.n2; omega)] at hx; simp at hx
  refine ⟨fun v x hx => ?_, fun v x hx => ?_⟩
  · have hv := getn v x hx
    obtain ⟨k1, _⟩ := Ui.1 (hg.ok v hv).1
    obtain ⟨a1, a2, a3, a4, a5, a6, a7⟩ := k1 x hx
    refine ⟨a5, ?_, by omega⟩
    have h : v < p.few4.nodes.length := by rw [hg.n1]; exact hv
    unfold nd at hx
    rw [Yz h] at hx
    obtain ⟨l, hl, e⟩ := List.mem_map.1 (show p.few4.nodes[v] ∈ (p.few.nodes.map (·.take 4)) from List.getElem_mem h)
    rw [← e] at hx
    obtain ⟨l2, _, rfl⟩ := List.mem_map.1 hl
    exact fewL_cost (List.mem_of_mem_take hx)
  · have hv := getl v x hx
    obtain ⟨k1, _⟩ := Ui.1 (hg.ok v hv).2.1
    obtain ⟨a1, a2, a3, a4, a5, a6, a7⟩ := k1 x hx
    refine ⟨a5, ?_, by omega⟩
    have h : v < p.few4.links.length := by rw [hg.n2]; exact hv
    unfold lk at hx
    rw [Yz h] at hx
    obtain ⟨l, hl, e⟩ := List.mem_map.1 (show p.few4.links[v] ∈ ((p.links.take 8).map Z5) from List.getElem_mem h)
    rw [← e] at hx
    exact fewL_cost hx
theorem few_vars (f : Forest) : f.few.vars.length ≤ 8 := by
  show ((f.vars.take 8).map _).length ≤ 8
  rw [List.length_map, List.length_take]; omega
end Go.Proofs.YtcaeoebphfjfiaaGreat.Am
