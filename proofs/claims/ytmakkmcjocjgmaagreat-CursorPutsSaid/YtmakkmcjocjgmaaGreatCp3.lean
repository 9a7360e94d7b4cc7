/- Texts that the proof rests on, part 3: lemmas for every heap that is related to a world, no condition beyond each lemma's own. -/
import Derived.Test.YtmakkmcjocjgmaaGreatCp2
import Derived.Test.YtmakkmcjocjgmaaGreatCpMaps2
import Derived.Test.YtmakkmcjocjgmaaGreatCp1
import Derived.Test.YtmakkmcjocjgmaaGreatCpTy
namespace Go.Proofs.YtmakkmcjocjgmaaGreat.Am
open Go Go.RowKit
set_option linter.unusedVariables false
set_option linter.unusedSimpArgs false
set_option maxRecDepth 100000
end Go.Proofs.YtmakkmcjocjgmaaGreat.Am
namespace Go.Proofs.YtmakkmcjocjgmaaGreat.Am
open Go Go.RowKit
set_option maxRecDepth 100000
set_option linter.unusedVariables false
set_option linter.unusedSimpArgs false

structure Zr where
 nodes : List Int
 back : Bool
 over : Bool
 steps : Int
def V0 (T : TreeT) (ns : List Int) : Option RowT := if ns.length = T.vars.length then (Vi T ns T.vars.length).map fun cn => ⟨ns, cn.1, cn.2⟩ else none
def onS (T : TreeT) (S : Zr) : Zr × Option RowT :=
 if S.nodes.length = T.vars.length then (⟨S.nodes, true, S.over, S.steps⟩, V0 T S.nodes)
 else match T.group S.nodes.length (Yn T S.nodes S.nodes.length) with
  | [] => (⟨S.nodes, true, S.over, S.steps⟩, none)
  | l :: _ => if S.nodes.length + 1 < T.vars.length then (⟨S.nodes ++ [l.b], S.back, S.over, S.steps⟩, none) else (⟨S.nodes ++ [l.b], true, S.over, S.steps⟩, V0 T (S.nodes ++ [l.b]))
def Ua (g : List Link) (last : Int) : Option Link := g.find? fun l => decide (last < l.b)
def againS (T : TreeT) (S : Zr) : Zr × Option RowT :=
 if S.nodes.length = 0 then (⟨S.nodes, S.back, true, S.steps⟩, none)
 else match Ua (T.group ((S.nodes.length - 1 : Nat) : Int) (Yn T S.nodes (S.nodes.length - 1))) (S.nodes.getD (S.nodes.length - 1) 0) with
  | none => (⟨S.nodes.take (S.nodes.length - 1), S.back, S.over, S.steps⟩, none)
  | some l => if S.nodes.length < T.vars.length then (⟨S.nodes.take (S.nodes.length - 1) ++ [l.b], false, S.over, S.steps⟩, none) else (⟨S.nodes.take (S.nodes.length - 1) ++ [l.b], S.back, S.over, S.steps⟩, V0 T (S.nodes.take (S.nodes.length - 1) ++ [l.b]))
def Vp (T : TreeT) (S : Zr) : Zr × Option RowT :=
 if S.over = true then (S, none) else if S.back = true then againS T ⟨S.nodes, S.back, S.over, S.steps + 1⟩ else onS T ⟨S.nodes, S.back, S.over, S.steps + 1⟩
def extN (T : TreeT) : Nat → List Int → List (List Int)
 | 0, ns => [ns]
 | d + 1, ns => (T.group ns.length (Yn T ns ns.length)).flatMap fun l => extN T d (ns ++ [l.b])
def aftK (T : TreeT) (ns : List Int) : Nat → List (List Int)
 | 0 => []
 | i + 1 => ((T.group i (Yn T ns i)).filter fun l => decide (ns.getD i 0 < l.b)).flatMap (fun l => extN T (T.vars.length - (i + 1)) (ns.take i ++ [l.b])) ++ aftK T ns i
def Vc (T : TreeT) (S : Zr) : List (List Int) := if S.over = true then [] else if S.back = true then aftK T S.nodes S.nodes.length else extN T (T.vars.length - S.nodes.length) S.nodes ++ aftK T S.nodes S.nodes.length
def Path (T : TreeT) (ns : List Int) : Prop := ∀ i, i < ns.length → ∃ l ∈ T.group i (Yn T ns i), l.b = ns.getD i 0
theorem Vl {ns : List Int} {i k : Nat} (h : i < k) : (ns.take k).getD i 0 = ns.getD i 0 := by
 rw [List.getD_eq_getElem?_getD, List.getD_eq_getElem?_getD, List.getElem?_take, if_pos h]
theorem getD_left {ns ms : List Int} {i : Nat} (h : i < ns.length) : (ns ++ ms).getD i 0 = ns.getD i 0 := by
 rw [List.getD_eq_getElem?_getD, List.getD_eq_getElem?_getD, List.getElem?_append_left h]
section
variable {T : TreeT} (hT : GoodT T)
include hT
theorem Z4 {ns ms : List Int} {i : Nat} (hi : i < T.vars.length) (h : ∀ j, j < i → ns.getD j 0 = ms.getD j 0) : Yn T ns i = Yn T ms i := by
 unfold Yn
 rcases hT.par i hi with h1 | h1
 ·rw [if_pos h1, if_pos h1]
 ·rw [if_neg (by omega), if_neg (by omega), h _ (by omega)]
theorem aft_ext {ns ms : List Int} : ∀ {i : Nat}, i ≤ T.vars.length → (∀ j, j < i → ns.getD j 0 = ms.getD j 0) → i ≤ ns.length → i ≤ ms.length → aftK T ns i = aftK T ms i
 | 0, _, _, _, _ => rfl
 | i + 1, hi, h, h1, h2 => by
  have e1 := Z4 hT (i := i) (by omega) (fun j hj => h j (by omega))
  have e2 : ns.take i = ms.take i := by
   apply List.ext_getElem (by rw [List.length_take, List.length_take]; omega)
   intro j ha hb
   rw [List.length_take] at ha
   have := h j (by omega)
   rw [List.getElem_take, List.getElem_take]
   rwa [Za (by omega), Za (by omega)] at this
  show _ ++ aftK T ns i = _ ++ aftK T ms i
  rw [aft_ext (by omega) (fun j hj => h j (by omega)) (by omega) (by omega), e1, e2, h i (by omega)]
theorem path_take {ns : List Int} {k : Nat} (h : Path T ns) (hl : ns.length ≤ T.vars.length) : Path T (ns.take k) := fun i hi => by
 rw [List.length_take] at hi
 obtain ⟨l, h1, h2⟩ := h i (by omega)
 rw [Z4 hT (ns := ns) (ms := ns.take k) (by omega) (fun j hj => (Vl (by omega)).symm)] at h1
 exact ⟨l, h1, by rw [h2, Vl (by omega)]⟩
theorem path_snoc {ns : List Int} (h : Path T ns) (hl : ns.length < T.vars.length) {l : Link} (hm : l ∈ T.group ns.length (Yn T ns ns.length)) : Path T (ns ++ [l.b]) := fun i hi => by
 rw [List.length_append, List.length_singleton] at hi
 have e : ∀ {i}, i ≤ ns.length → Yn T (ns ++ [l.b]) i = Yn T ns i := fun {i} hi => Z4 hT (by omega) (fun j hj => getD_left (by omega))
 rw [e (by omega)]
 by_cases h1 : i < ns.length
 ·obtain ⟨l2, h3, h4⟩ := h i h1
  exact ⟨l2, h3, by rw [h4, getD_left h1]⟩
 ·obtain rfl : i = ns.length := by omega
  exact ⟨l, hm, by rw [getD_end]⟩
theorem aft_snoc {ns : List Int} (hl : ns.length < T.vars.length) (x : Int) : aftK T (ns ++ [x]) (ns.length + 1) = ((T.group ns.length (Yn T ns ns.length)).filter fun l => decide (x < l.b)).flatMap (fun l => extN T (T.vars.length - (ns.length + 1)) (ns ++ [l.b])) ++ aftK T ns ns.length := by
 show _ ++ aftK T (ns ++ [x]) ns.length = _
 rw [aft_ext hT (ns := ns ++ [x]) (ms := ns) (by omega) (fun j hj => getD_left hj) (by simp) (Nat.le_refl _), Z4 hT (ns := ns ++ [x]) (ms := ns) hl (fun j hj => getD_left hj), getD_end, List.take_left]
theorem ext_cons {ns : List Int} (hl : ns.length < T.vars.length) {l : Link} {ls : List Link} (hg : T.group ns.length (Yn T ns ns.length) = l :: ls) :
  extN T (T.vars.length - ns.length) ns ++ aftK T ns ns.length = extN T (T.vars.length - (ns.length + 1)) (ns ++ [l.b]) ++ aftK T (ns ++ [l.b]) (ns.length + 1) := by
 have hs := hT.sort ns.length (Yn T ns ns.length)
 rw [hg] at hs
 obtain ⟨h1, _⟩ := List.pairwise_cons.1 hs
 have e : T.vars.length - ns.length = (T.vars.length - (ns.length + 1)) + 1 := by omega
 rw [aft_snoc hT hl, e, extN, hg, List.flatMap_cons, List.filter_cons]
 rw [if_neg (by simp), List.filter_eq_self.2 (fun x hx => decide_eq_true (h1 x hx)), List.append_assoc]
omit hT in
theorem next_filter {g : List Link} (hs : g.Pairwise fun x y => x.b < y.b) {x : Int} {l : Link} (h : Ua g x = some l) : g.filter (fun y => decide (x < y.b)) = l :: g.filter fun y => decide (l.b < y.b) := by
 induction g with
 | nil => cases h
 | cons y g ih =>
  obtain ⟨h1, h2⟩ := List.pairwise_cons.1 hs
  unfold Ua at h
  rw [List.find?_cons] at h
  rw [List.filter_cons, List.filter_cons]
  by_cases hy : x < y.b
  ·rw [decide_eq_true hy] at h
   injection h with h
   subst h
   rw [if_pos (decide_eq_true hy), if_neg (by simp)]
   congr 1
   refine List.filter_congr fun z hz => decide_eq_decide.2 ⟨fun _ => h1 z hz, fun _ => by have := h1 z hz; omega⟩
  ·rw [decide_eq_false hy] at h
   have hm := List.mem_of_find?_eq_some h
   have := h1 l hm
   rw [if_neg (by simpa using hy), if_neg (by simp; omega)]
   exact ih h2 h
omit hT in
theorem next_none {g : List Link} {x : Int} (h : Ua g x = none) : g.filter (fun y => decide (x < y.b)) = [] := by
 unfold Ua at h
 rw [List.find?_eq_none] at h
 exact List.filter_eq_nil_iff.2 h
structure ValS (T : TreeT) (S : Zr) : Prop where
 len : S.nodes.length ≤ T.vars.length
 path : Path T S.nodes
theorem row_path_le {ns : List Int} (hl : ns.length ≤ T.vars.length) (hp : Path T ns) : ∀ i, i ≤ ns.length → (Vi T ns i).isSome = true
 | 0, _ => rfl
 | i + 1, hi => by
  have ih := row_path_le hl hp i (by omega)
  obtain ⟨cn, hcn⟩ := Option.isSome_iff_exists.1 ih
  obtain ⟨l, h1, h2⟩ := hp i (by omega)
  have hf := (findB_iff (hT.sort i (Yn T ns i))).2 ⟨h1, h2⟩
  show ((Vi T ns i).bind _).isSome = true
  rw [hcn]
  simp only [Option.bind_some, hf, Option.map_some, Option.isSome_some]
theorem rowT_path {ns : List Int} (hl : ns.length = T.vars.length) (hp : Path T ns) : ∃ r, V0 T ns = some r ∧ r.nodes = ns := by
 obtain ⟨cn, hcn⟩ := Option.isSome_iff_exists.1 (row_path_le hT (by omega) hp T.vars.length (by omega))
 exact ⟨⟨ns, cn.1, cn.2⟩, by unfold V0; rw [if_pos hl, hcn]; rfl, rfl⟩
def Tells (T : TreeT) (S S' : Zr) (o : Option RowT) : Prop := ValS T S' ∧ match o with
 | some r => Vc T S = r.nodes :: Vc T S' ∧ V0 T r.nodes = some r
 | none => Vc T S = Vc T S'
omit hT in
theorem tells_row {S S' : Zr} {ns : List Int} (hv : ValS T S') (hr : ∃ r, V0 T ns = some r ∧ r.nodes = ns) (h : Vc T S = ns :: Vc T S') : Tells T S S' (V0 T ns) := by
 obtain ⟨r, h1, h2⟩ := hr
 refine ⟨hv, ?_⟩
 rw [h1]
 subst h2
 exact ⟨h, h1⟩
theorem step_tells {S : Zr} (hv : ValS T S) : Tells T S (Vp T S).1 (Vp T S).2 := by
 obtain ⟨hl, hp⟩ := hv
 unfold Vp
 by_cases ho : S.over = true
 ·rw [if_pos ho]; exact ⟨⟨hl, hp⟩, rfl⟩
 have ho' : S.over = false := by simpa using ho
 rw [if_neg ho]
 by_cases hb : S.back = true
 ·rw [if_pos hb]
  unfold againS
  simp only
  have hrest : Vc T S = aftK T S.nodes S.nodes.length := by unfold Vc; rw [if_neg ho, if_pos hb]
  by_cases h0 : S.nodes.length = 0
  ·rw [if_pos h0]
   refine ⟨⟨hl, hp⟩, ?_⟩
   simp only
   rw [hrest, h0]; rfl
  rw [if_neg h0]
  obtain ⟨pre, x, hpx⟩ : ∃ pre x, S.nodes = pre ++ [x] := ⟨S.nodes.take (S.nodes.length - 1), S.nodes[S.nodes.length - 1]'(by omega), by
   have := Zb (xs := S.nodes) (i := S.nodes.length - 1) (by omega)
   rw [show S.nodes.length - 1 + 1 = S.nodes.length by omega, List.take_length] at this
   exact this.symm⟩
  have hlen : S.nodes.length = pre.length + 1 := by rw [hpx]; simp
  have hsub : S.nodes.length - 1 = pre.length := by omega
  have hlt : pre.length < T.vars.length := by omega
  have htake : S.nodes.take pre.length = pre := by rw [hpx, List.take_left]
  have hget : S.nodes.getD pre.length 0 = x := by rw [hpx, getD_end]
  have habv : Yn T S.nodes pre.length = Yn T pre pre.length := Z4 hT hlt (fun j hj => by rw [hpx, getD_left hj])
  have hpre : Path T pre := by have := path_take hT (k := pre.length) hp hl; rwa [htake] at this
  have hrest2 : Vc T S = ((T.group pre.length (Yn T pre pre.length)).filter fun l => decide (x < l.b)).flatMap (fun l => extN T (T.vars.length - (pre.length + 1)) (pre ++ [l.b])) ++ aftK T pre pre.length := by
   rw [hrest, hlen, hpx]; exact aft_snoc hT hlt x
  rw [hsub, htake, hget, habv, hlen]
  have hs := hT.sort pre.length (Yn T pre pre.length)
  cases hn : Ua (T.group (pre.length : Int) (Yn T pre pre.length)) x with
  | none =>
   refine ⟨⟨by simp only; omega, hpre⟩, ?_⟩
   simp only
   rw [hrest2, next_none hn]
   unfold Vc
   simp only
   rw [if_neg ho, if_pos hb]; rfl
  | some l =>
   have hm : l ∈ T.group (pre.length : Int) (Yn T pre pre.length) := List.mem_of_find?_eq_some hn
   have hpn := path_snoc hT hpre hlt hm
   have hrest3 : Vc T S = extN T (T.vars.length - (pre.length + 1)) (pre ++ [l.b]) ++ aftK T (pre ++ [l.b]) (pre.length + 1) := by
    rw [hrest2, next_filter hs hn, List.flatMap_cons, aft_snoc hT hlt, List.append_assoc]
   simp only
   by_cases hlast : pre.length + 1 < T.vars.length
   ·rw [if_pos hlast]
    refine ⟨⟨by simp only [List.length_append, List.length_singleton]; omega, hpn⟩, ?_⟩
    simp only
    rw [hrest3]
    unfold Vc
    simp only [List.length_append, List.length_singleton]
    rw [if_neg ho, if_neg (by decide)]
   ·rw [if_neg hlast]
    refine tells_row ⟨by simp only [List.length_append, List.length_singleton]; omega, hpn⟩ (rowT_path hT (by simp only [List.length_append, List.length_singleton]; omega) hpn) ?_
    rw [hrest3, show T.vars.length - (pre.length + 1) = 0 by omega]
    unfold Vc
    simp only [List.length_append, List.length_singleton]
    rw [if_neg ho, if_pos hb]; rfl
 ·rw [if_neg hb]
  have hb' : S.back = false := by simpa using hb
  unfold onS
  simp only
  have hrest : Vc T S = extN T (T.vars.length - S.nodes.length) S.nodes ++ aftK T S.nodes S.nodes.length := by unfold Vc; rw [if_neg ho, if_neg hb]
  by_cases h0 : S.nodes.length = T.vars.length
  ·rw [if_pos h0]
   refine tells_row ⟨hl, hp⟩ (rowT_path hT h0 hp) ?_
   rw [hrest, show T.vars.length - S.nodes.length = 0 by omega]
   unfold Vc
   simp only
   rw [if_neg ho, if_pos trivial]; rfl
  rw [if_neg h0]
  have hlt : S.nodes.length < T.vars.length := by omega
  cases hg : T.group S.nodes.length (Yn T S.nodes S.nodes.length) with
  | nil =>
   refine ⟨⟨hl, hp⟩, ?_⟩
   simp only
   rw [hrest, show T.vars.length - S.nodes.length = (T.vars.length - (S.nodes.length + 1)) + 1 by omega, extN, hg]
   unfold Vc
   simp only
   rw [if_neg ho, if_pos trivial]; rfl
  | cons l ls =>
   have hpn := path_snoc hT hp hlt (l := l) (by rw [hg]; simp)
   have hrest3 := hrest.trans (ext_cons hT hlt hg)
   simp only
   by_cases hlast : S.nodes.length + 1 < T.vars.length
   ·rw [if_pos hlast]
    refine ⟨⟨by simp only [List.length_append, List.length_singleton]; omega, hpn⟩, ?_⟩
    simp only
    rw [hrest3]
    unfold Vc
    simp only [List.length_append, List.length_singleton]
    rw [if_neg ho, if_neg hb]
   ·rw [if_neg hlast]
    refine tells_row ⟨by simp only [List.length_append, List.length_singleton]; omega, hpn⟩ (rowT_path hT (by simp only [List.length_append, List.length_singleton]; omega) hpn) ?_
    rw [hrest3, show T.vars.length - (S.nodes.length + 1) = 0 by omega]
    unfold Vc
    simp only [List.length_append, List.length_singleton]
    rw [if_neg ho, if_pos trivial]; rfl
end
end Go.Proofs.YtmakkmcjocjgmaaGreat.Am
namespace Go.Proofs.YtmakkmcjocjgmaaGreat.Am
open Go Go.RowKit
set_option linter.unusedVariables false
set_option linter.unusedSimpArgs false
set_option maxRecDepth 100000
theorem goodL_rise {xs : List Link} (h : GoodL xs) : RiseA xs := by
 intro i j hi hj hij
 obtain ⟨d, rfl⟩ : ∃ d, j = i + d := ⟨j - i, by omega⟩
 clear hij
 induction d with
 | zero => exact Int.le_refl _
 | succ d ih =>
  have h1 := ih (by omega)
  have h2 := (h (i + (d + 1)) hj).2 (by omega)
  have e : i + (d + 1) - 1 = i + d := by omega
  simp only [e] at h2
  simp only [lessL, Bool.or_eq_true, Bool.and_eq_true, decide_eq_true_eq] at h2
  omega
theorem few_few (x : Link) : x.few.few = x.few := by
 unfold Link.few
 split
 ·simp
 ·first | rfl | (rename_i h; rw [if_neg h])
def Alive (T : TreeT) : Prop := ∀ ns : List Int, Path T ns → 0 < ns.length → ns.length < T.vars.length → T.group ns.length (Yn T ns ns.length) ≠ []
def phi (T : TreeT) (S : Zr) : Nat := if S.over = true then 0 else if S.back = true then (if S.nodes.length = 0 then 1 else S.nodes.length + T.vars.length) else T.vars.length - S.nodes.length + 1
theorem phi_le {T : TreeT} {S : Zr} (h : S.nodes.length ≤ T.vars.length) : phi T S ≤ 2 * T.vars.length + 1 := by
 unfold phi
 split
 ·omega
 ·split
  ·split <;> omega
  ·omega
theorem step_steps {T : TreeT} {S : Zr} (ho : S.over = false) : (Vp T S).1.steps = S.steps + 1 := by
 unfold Vp
 rw [if_neg (by rw [ho]; decide)]
 split
 ·unfold againS
  split
  ·rfl
  ·split
   ·rfl
   ·split <;> rfl
 ·unfold onS
  split
  ·rfl
  ·split
   ·rfl
   ·split <;> rfl
theorem step_phi {T : TreeT} {S : Zr} (hA : Alive T) (hv : ValS T S) (ho : S.over = false) (hT : GoodT T) (hno : (Vp T S).2 = none) : phi T (Vp T S).1 < phi T S := by
 obtain ⟨hl, hp⟩ := hv
 have ho' : ¬ S.over = true := by rw [ho]; decide
 unfold Vp at hno ⊢
 rw [if_neg ho'] at hno ⊢
 by_cases hb : S.back = true
 ·rw [if_pos hb] at hno ⊢
  have hphi : phi T S = if S.nodes.length = 0 then 1 else S.nodes.length + T.vars.length := by unfold phi; rw [if_neg ho', if_pos hb]
  rw [hphi]
  unfold againS at hno ⊢
  simp only at hno ⊢
  by_cases h0 : S.nodes.length = 0
  ·rw [if_pos h0, if_pos h0]; unfold phi; simp
  ·rw [if_neg h0] at hno ⊢
   rw [if_neg h0]
   cases hn : Ua (T.group ((S.nodes.length - 1 : Nat) : Int) (Yn T S.nodes (S.nodes.length - 1))) (S.nodes.getD (S.nodes.length - 1) 0) with
   | none =>
    simp only
    unfold phi
    simp only [List.length_take]
    rw [if_neg ho', if_pos hb]
    split <;> omega
   | some l =>
    rw [hn] at hno
    simp only at hno ⊢
    by_cases hlast : S.nodes.length < T.vars.length
    ·rw [if_pos hlast]
     unfold phi
     simp only [List.length_append, List.length_take, List.length_singleton]
     rw [if_neg ho', if_neg (by decide)]
     omega
    ·rw [if_neg hlast] at hno
     simp only at hno
     -- a row is told
     have hm : l ∈ T.group ((S.nodes.length - 1 : Nat) : Int) (Yn T S.nodes (S.nodes.length - 1)) := List.mem_of_find?_eq_some hn
     have hlt : (S.nodes.take (S.nodes.length - 1)).length = S.nodes.length - 1 := by rw [List.length_take]; omega
     have hpre := path_take hT (k := S.nodes.length - 1) hp hl
     have habv : Yn T S.nodes (S.nodes.length - 1) = Yn T (S.nodes.take (S.nodes.length - 1)) (S.nodes.length - 1) := Z4 hT (by omega) (fun j hj => (Vl hj).symm)
     rw [habv] at hm
     have hpn := path_snoc hT hpre (by omega) (l := l) (by rw [hlt]; exact hm)
     obtain ⟨r, hr, _⟩ := rowT_path hT (by rw [List.length_append, hlt, List.length_singleton]; omega) hpn
     rw [hr] at hno; cases hno
 ·rw [if_neg hb] at hno ⊢
  have hphi : phi T S = T.vars.length - S.nodes.length + 1 := by unfold phi; rw [if_neg ho', if_neg hb]
  rw [hphi]
  unfold onS at hno ⊢
  simp only at hno ⊢
  by_cases h0 : S.nodes.length = T.vars.length
  ·rw [if_pos h0] at hno
   simp only at hno
   obtain ⟨r, hr, _⟩ := rowT_path hT h0 hp
   rw [hr] at hno; cases hno
  ·rw [if_neg h0] at hno ⊢
   have hlt : S.nodes.length < T.vars.length := by omega
   cases hg : T.group S.nodes.length (Yn T S.nodes S.nodes.length) with
   | nil =>
    simp only
    have hz : S.nodes.length = 0 := by
     rcases Nat.eq_zero_or_pos S.nodes.length with h | h
     ·exact h
     ·exact absurd hg (hA S.nodes hp h hlt)
    unfold phi
    simp only
    rw [if_neg ho', if_pos trivial, if_pos hz]
    omega
   | cons l ls =>
    rw [hg] at hno
    simp only at hno ⊢
    by_cases hlast : S.nodes.length + 1 < T.vars.length
    ·rw [if_pos hlast]
     unfold phi
     simp only [List.length_append, List.length_singleton]
     rw [if_neg ho', if_neg hb]
     omega
    ·rw [if_neg hlast] at hno
     simp only at hno
     have hpn := path_snoc hT hp hlt (l := l) (by rw [hg]; simp)
     obtain ⟨r, hr, _⟩ := rowT_path hT (by rw [List.length_append, List.length_singleton]; omega) hpn
     rw [hr] at hno; cases hno
def nextN (T : TreeT) : Nat → Zr → Zr × Option RowT
 | 0, S => (S, none)
 | k + 1, S => if S.over = true then (S, none) else match Vp T S with
  | (S1, some r) => (S1, some r)
  | (S1, none) => nextN T k S1
def Vu (T : TreeT) (S : Zr) : Zr × Option RowT := nextN T (phi T S) S
theorem phi_pos {T : TreeT} {S : Zr} (h : S.over = false) : 0 < phi T S := by
 unfold phi
 rw [if_neg (by rw [h]; decide)]
 split
 ·split <;> omega
 ·omega
theorem nextN_over {T : TreeT} {S : Zr} (h : S.over = true) : ∀ k, nextN T k S = (S, none)
 | 0 => rfl
 | k + 1 => by rw [nextN, if_pos h]
theorem nextN_fuel {T : TreeT} (hT : GoodT T) (hA : Alive T) : ∀ (m : Nat) (S : Zr), ValS T S → phi T S ≤ m → ∀ k, phi T S ≤ k → nextN T k S = nextN T (phi T S) S
 | m, S, hv, hm, k, hk => by
  by_cases ho : S.over = true
  ·rw [nextN_over ho, nextN_over ho]
  ·have ho' : S.over = false := by simpa using ho
   have hpos := phi_pos (T := T) ho'
   have htell := step_tells hT hv
   obtain ⟨k, rfl⟩ : ∃ j, k = j + 1 := ⟨k - 1, by omega⟩
   obtain ⟨q, hq⟩ : ∃ q, phi T S = q + 1 := ⟨phi T S - 1, by omega⟩
   rw [hq, nextN, nextN, if_neg ho]
   cases hs : Vp T S with
   | mk S1 o =>
    cases o with
    | some r => simp [if_neg ho]
    | none =>
     have hph := step_phi hA hv ho' hT (by rw [hs])
     rw [hs] at hph htell
     simp only at hph htell
     simp only [if_neg ho]
     match m, hm with
     | 0, hm => omega
     | m + 1, hm => rw [nextN_fuel hT hA m S1 htell.1 (by omega) k (by omega), nextN_fuel hT hA m S1 htell.1 (by omega) q (by omega)]
theorem next_over {T : TreeT} {S : Zr} (h : S.over = true) : Vu T S = (S, none) := nextN_over h _
theorem next_step {T : TreeT} (hT : GoodT T) (hA : Alive T) {S : Zr} (hv : ValS T S) (ho : S.over = false) : Vu T S = match Vp T S with
  | (S1, some r) => (S1, some r)
  | (S1, none) => Vu T S1 := by
 have hpos := phi_pos (T := T) ho
 have htell := step_tells hT hv
 obtain ⟨q, hq⟩ : ∃ q, phi T S = q + 1 := ⟨phi T S - 1, by omega⟩
 unfold Vu
 rw [hq, nextN, if_neg (by rw [ho]; decide)]
 cases hs : Vp T S with
 | mk S1 o =>
  cases o with
  | some r => rfl
  | none =>
   have hph := step_phi hA hv ho hT (by rw [hs])
   rw [hs] at hph htell
   simp only at hph htell
   exact nextN_fuel hT hA (phi T S1) S1 htell.1 (Nat.le_refl _) q (by omega)
theorem next_tells {T : TreeT} (hT : GoodT T) (hA : Alive T) : ∀ (m : Nat) (S : Zr), ValS T S → phi T S ≤ m → ValS T (Vu T S).1 ∧ (match (Vu T S).2 with
  | some r => Vc T S = r.nodes :: Vc T (Vu T S).1 ∧ V0 T r.nodes = some r
  | none => Vc T S = [] ∧ (Vu T S).1.over = true) ∧ S.steps ≤ (Vu T S).1.steps ∧ (Vu T S).1.steps ≤ S.steps + phi T S
 | m, S, hv, hm => by
  by_cases ho : S.over = true
  ·rw [next_over ho]
   refine ⟨hv, ⟨by unfold Vc; rw [if_pos ho], ho⟩, by simp only; omega, by simp only; omega⟩
  ·have ho' : S.over = false := by simpa using ho
   have htell := step_tells hT hv
   have hst := step_steps (T := T) ho'
   have hpos := phi_pos (T := T) ho'
   rw [next_step hT hA hv ho']
   cases hs : Vp T S with
   | mk S1 o =>
    rw [hs] at htell hst
    cases o with
    | some r => exact ⟨htell.1, htell.2, by simp only at hst ⊢; omega, by simp only at hst ⊢; omega⟩
    | none =>
     have hph := step_phi hA hv ho' hT (by rw [hs])
     rw [hs] at hph
     simp only at hph hst htell ⊢
     match m, hm with
     | 0, hm => omega
     | m + 1, hm =>
      obtain ⟨h1, h2, h3, h4⟩ := next_tells hT hA m S1 htell.1 (by omega)
      have e : Vc T S = Vc T S1 := htell.2
      refine ⟨h1, ?_, by omega, by omega⟩
      rw [e]; exact h2
theorem alive_tree {f : Forest} {p : Parts} (hG : GoodP f p) : Alive (Z0 f (ofP f p)) := by
 obtain ⟨k1, k2, k3, k4⟩ := ofP_all hG
 have hX := ofP_good hG
 have hlen : (Z0 f (ofP f p)).vars.length = f.vars.length := (treeOf_len _).1.trans hG.gf.l1
 intro ns hp h0 hn
 rw [hlen] at hn
 have grp : ∀ {i : Nat} (a : Int), i < f.vars.length → (Z0 f (ofP f p)).group i a = if par f (vAt f i) = -1 then nd (ofP f p) (vAt f i) else ((lk (ofP f p) (vAt f i)).map (Vw (nd (ofP f p) (vAt f i)))).filter fun l => decide (l.a = a) := fun {i} a hi => by
  unfold TreeT.group
  rw [hlen, if_pos ⟨by omega, by omega⟩, Int.toNat_natCast, place_row hX hi]
 have first : ∀ i, i < ns.length → ns.getD i 0 ∈ Vv (nd (ofP f p) (vAt f i)) := fun i hi => by
  obtain ⟨l, h1, h2⟩ := hp i hi
  have hv := (hG.gf.vAt_lt (s := i) (by omega)).1
  rw [grp _ (by omega)] at h1
  split at h1
  ·exact List.mem_map.2 ⟨l, h1, by rw [← h2]; exact (hX.ok _ hv).2.2.1 l h1⟩
  ·rename_i hpar
   obtain ⟨m, hm, rfl⟩ := List.mem_map.1 (List.mem_filter.1 h1).1
   rw [← h2]
   exact ((k3 _ hv hpar).ends m hm).2
 have hv := (hG.gf.vAt_lt hn).1
 rw [grp _ hn]
 split
 ·rename_i hroot
  intro he
  have hany : f.order.any (Vs f (ofP f p)) = true := by
   rw [List.any_eq_true]
   refine ⟨(vAt f ns.length : Nat), by rw [(hG.gf.vAt_lt hn).2, hG.gf.order_at hn]; exact List.getElem_mem _, ?_⟩
   unfold Vs
   unfold par at hroot
   unfold nd at he
   rw [Int.toNat_natCast, hroot, he]; rfl
  have hem := k4 hany
  have := first 0 h0
  rw [hem, nd_empties] at this
  simp [Vv] at this
 ·rename_i hpar
  rcases at_root hG.gf hn with ⟨h1, _⟩ | ⟨h1, h2, h3, h4⟩
  ·exact absurd h1 hpar
  ·have hq := first (posOf f (par f (vAt f ns.length))) h4
   have hpp := (hG.gf.pos_par hn h1).2
   obtain ⟨y, hy, hya⟩ := List.mem_map.1 hq
   have hup := (k3 _ hv hpar).up y (by rw [show (par f (vAt f ns.length)).toNat = vAt f (posOf f (par f (vAt f ns.length))) by omega]; exact hy)
   obtain ⟨m, hm, hma⟩ := List.mem_map.1 hup
   intro he
   have : Vw (nd (ofP f p) (vAt f ns.length)) m ∈ ((lk (ofP f p) (vAt f ns.length)).map (Vw (nd (ofP f p) (vAt f ns.length)))).filter fun l => decide (l.a = Yn (Z0 f (ofP f p)) ns ns.length) := by
    refine List.mem_filter.2 ⟨List.mem_map.2 ⟨m, hm, rfl⟩, decide_eq_true ?_⟩
    rw [above_of hX hn, if_neg hpar]
    show m.a = _
    rw [hma, hya]
   rw [he] at this
   cases this
def kidsT (T : TreeT) (i : Nat) : List Nat := (List.range T.parent.length).filter fun k => decide (T.parent.getD k 0 = (i : Int))
def sumT (T : TreeT) : Nat → Nat → Int → Int
 | 0, _, _ => 0
 | d + 1, i, a => (T.group i a).foldl (fun s x => addI s (Zy x.n ((kidsT T i).foldl (fun n k => Zy n (sumT T d k x.b)) 1))) 0
def belT (T : TreeT) (d i : Nat) (b : Int) : Int := (kidsT T i).foldl (fun n k => Zy n (sumT T d k b)) 1
theorem sumT_succ (T : TreeT) (d i : Nat) (a : Int) : sumT T (d + 1) i a = (T.group i a).foldl (fun s x => addI s (Zy x.n (belT T d i x.b))) 0 := rfl
def onceT (out : List Int) (xs : List Int) : List Int := xs.foldl (fun out x => if x ∈ out then out else out ++ [x]) out
def aboveT (T : TreeT) : Nat → Nat → List Int
 | 0, _ => [-1]
 | d + 1, i => if T.parent.getD i 0 = -1 then [-1] else onceT [] ((aboveT T d (T.parent.getD i 0).toNat).flatMap fun a => (T.group (T.parent.getD i 0) a).map (·.b))
theorem kids_lt {T : TreeT} (hT : GoodT T) {i k : Nat} (h : k ∈ kidsT T i) : i < k ∧ k < T.vars.length := by
 unfold kidsT at h
 rw [List.mem_filter, List.mem_range, decide_eq_true_eq] at h
 obtain ⟨h1, h2⟩ := h
 rw [hT.l1] at h1
 rcases hT.par k h1 with h3 | h3
 ·rw [h2] at h3; omega
 ·rw [h2] at h3; exact ⟨by omega, h1⟩
theorem foldl_same {α β : Type} {f g : α → β → α} : ∀ {xs : List β} {a : α}, (∀ a x, x ∈ xs → f a x = g a x) → xs.foldl f a = xs.foldl g a
 | [], _, _ => rfl
 | x :: xs, a, h => by rw [List.foldl_cons, List.foldl_cons, h a x (by simp)]; exact foldl_same fun a y hy => h a y (by simp [hy])
theorem sumT_deep {T : TreeT} (hT : GoodT T) : ∀ (d i : Nat) (a : Int), i < T.vars.length → T.vars.length ≤ d + i → sumT T d i a = sumT T (d + 1) i a
 | 0, i, a, h, h2 => by omega
 | d + 1, i, a, h, h2 => by
  rw [sumT_succ, sumT_succ]
  refine foldl_same fun s x hx => ?_
  have : belT T d i x.b = belT T (d + 1) i x.b := foldl_same fun n k hk => by
   obtain ⟨h3, h4⟩ := kids_lt hT hk
   rw [sumT_deep hT d k x.b h4 (by omega)]
  rw [this]

theorem Small.fits {f : Forest} {p : Parts} (h : Small f p) (hg : GoodP f p) : Fits f.vars.length p := ⟨hg.n1, hg.n2, h.s5, h.s6⟩
def noParts : Parts := ⟨[], []⟩
theorem noParts_rep (H : Hp) : kParts.rep H noParts [.slice none 0 0, .slice none 0 0] := ⟨_, _, rfl, Sl.nil _ _, Sl.nil _ _⟩
theorem Of_parts (f : Forest) (p : Parts) (cs ds : List Value) (H : Hp) (hp : kForest.rep H f cs) (hq : kParts.rep H p ds) (hsm : Small f p) :
  ACalls Tryz.prog 48 #[.agg cs.toArray, .agg ds.toArray] H (fun r H' => ∃ (g : Bool) (es : List Value), (g = true ↔ GoodP f p) ∧ r = .tuple #[.agg es.toArray, .int .i64 (if g = true then 0 else 1)] ∧ kParts.rep H' (if g = true then ofP f p else noParts) es ∧ H.le H') := by
 have hp0 := hp
 have hq0 := hq
 obtain ⟨v0, v1, v2, v3, v4, rfl, hs0, hs1, hs2, hs3, hs4⟩ := hp
 obtain ⟨A0, c0, rfl⟩ := hs0.shape
 obtain ⟨A1, c1, rfl⟩ := hs1.shape
 obtain ⟨A2, c2, rfl⟩ := hs2.shape
 obtain ⟨A3, c3, rfl⟩ := hs3.shape
 obtain ⟨A4, c4, rfl⟩ := hs4.shape
 obtain ⟨u0, u1, rfl, hn0, hn1⟩ := hq
 obtain ⟨B0, d0, rfl⟩ := hn0.shape
 obtain ⟨B1, d1, rfl⟩ := hn1.shape
 refine Xu Tryz.func48 rfl rfl rfl (by simp) ?_
 refine Xc ?_
 refine Xs ?_
 refine Xz (Yp rfl) ?_
 refine Xz (Yp rfl) ?_
 refine Xz (Ys (l := [.slice none 0 0, .slice none 0 0]) inf29.zero rfl (by decide)) ?_
 refine Xa (Xj rfl) ?_
 refine Xc ?_
 refine Xc ?_
 refine Xs ?_
 refine Xa (Yj (cs := [.slice _ _ _, .slice _ _ _, .slice _ _ _, .slice _ _ _, .slice _ _ _]) rfl Tryz.underlying26 rfl inf26.size X5) ?_
 refine Xa (Yj (cs := [.slice _ _ _, .slice _ _ _]) rfl Tryz.underlying29 rfl inf29.size X5) ?_
 refine Xv (Xy (GoodP_dom f p _ _ _ (kForest.mono Zh hp0) (kParts.mono Zh hq0) hsm) rfl Tryz.func80 rfl rfl rfl ?_)
 rintro v5 H5 ⟨⟨g, rfl, hg⟩, rfl⟩
 refine Xa (Z3 rfl) ?_
 refine X4 rfl rfl ?_ ?_
 intro hc1
 have hgf : g = false := by simpa using hc1
 refine Xc ?_
 refine Xs ?_
 refine Xa (Y0 (pl := [(0, 1), (1, 1)]) (r := [.slice _ _ _, .slice _ _ _]) Tryz.underlying29 inf29.zero (by decide) rfl rfl) ?_
 refine Xv (Ye (vs := [.slice _ _ _, .slice _ _ _]) rfl rfl inf29.size Ya Yd rfl rfl ?_)
 refine Xa (Xj rfl) ?_
 refine X2 ?_
 subst hgf
 exact ⟨_, Yt (Ym Xn (Yl (cs := [_, _]) Tryz.underlying29 rfl inf29.size X5)) (Xp rfl), false, [_, _], hg, rfl, noParts_rep _, Hp.le_put_new (Hp.le_push' (Hp.le_push' (H.le_push _) _) _) (by simp <;> omega) _⟩
 intro hc1
 have hgt : g = true := by simpa using hc1
 refine X9 ?_
 refine Xc ?_
 refine Xs ?_
 refine Xa (Yj (cs := [.slice _ _ _, .slice _ _ _, .slice _ _ _, .slice _ _ _, .slice _ _ _]) rfl Tryz.underlying26 rfl inf26.size X5) ?_
 refine Xa (Yj (cs := [.slice _ _ _, .slice _ _ _]) rfl Tryz.underlying29 rfl inf29.size X5) ?_
 refine Xv (Xy (of_parts f p _ _ _ (kForest.mono Zh hp0) (kParts.mono Zh hq0) (hg.1 hgt).gf (hsm.fits (hg.1 hgt)) hsm.s0) rfl Tryz.func81 rfl rfl rfl ?_)
 rintro v6 H6 ⟨es, rfl, hes, hle6⟩; have hz6 := hle6.1; simp only [Hp.push_size] at hz6; obtain ⟨w0, w1, rfl, hm0, hm1⟩ := hes; obtain ⟨C0, k0, rfl⟩ := hm0.shape; obtain ⟨C1, k1, rfl⟩ := hm1.shape
 refine Xv (Ye (vs := [.slice _ _ _, .slice _ _ _]) rfl rfl inf29.size Ya Yd rfl rfl ?_)
 refine Xa (Xj rfl) ?_
 refine X2 ?_
 subst hgt
 have k2 : H6.get (H.size + 2) = .own 0 [.slice none 0 0, .slice none 0 0] := Xr hle6 (by simp) (by intro e; cases e) Ya
 exact ⟨_, Yt (Ym Xn (Yl (cs := [_, _]) Tryz.underlying29 rfl inf29.size X5)) (Xp rfl), true, [_, _], hg, rfl, ⟨_, _, rfl, hm0.mono (Hp.sees_box _ k2), hm1.mono (Hp.sees_box _ k2)⟩, Hp.le_put_new (Hp.le_trans (Hp.le_push' (Hp.le_push' (H.le_push _) _) _) hle6) (by simp <;> omega) _⟩
set_option maxHeartbeats 4000000 in
theorem New_tree (f : Forest) (p : Parts) (cs ds : List Value) (H : Hp) (hp : kForest.rep H f cs) (hq : kParts.rep H p ds) (hsm : Small f p) (hch : GoodP f p → Cheap p) :
  ACalls Tryz.prog 13 #[.agg cs.toArray, .agg ds.toArray] H (fun r H' => H.le H' ∧ ∃ (g : Bool) (v : Value), (g = true ↔ GoodP f p) ∧ r = .tuple #[v, .int .i64 (if g = true then 0 else 1)] ∧ (if g = true then TreeR H' v (Z0 f (ofP f p)) else v = .pointer none)) := by
 have hp0 := hp
 have hq0 := hq
 obtain ⟨v0, v1, v2, v3, v4, rfl, hs0, hs1, hs2, hs3, hs4⟩ := hp
 obtain ⟨A0, c0, rfl⟩ := hs0.shape
 obtain ⟨A1, c1, rfl⟩ := hs1.shape
 obtain ⟨A2, c2, rfl⟩ := hs2.shape
 obtain ⟨A3, c3, rfl⟩ := hs3.shape
 obtain ⟨A4, c4, rfl⟩ := hs4.shape
 obtain ⟨u0, u1, rfl, hn0, hn1⟩ := hq
 obtain ⟨B0, d0, rfl⟩ := hn0.shape
 obtain ⟨B1, d1, rfl⟩ := hn1.shape
 refine Xu Tryz.func13 rfl rfl rfl (by simp) ?_
 refine Xc ?_
 refine Xs ?_
 refine Xz (Yp rfl) ?_
 refine Xz (Yp rfl) ?_
 refine Xa (Zp rfl) ?_
 refine Xa (Xj rfl) ?_
 refine Xc ?_
 refine Xs ?_
 refine Xa (Yj (cs := [.slice _ _ _, .slice _ _ _, .slice _ _ _, .slice _ _ _, .slice _ _ _]) rfl Tryz.underlying26 rfl inf26.size X5) ?_
 refine Xa (Yj (cs := [.slice _ _ _, .slice _ _ _]) rfl Tryz.underlying29 rfl inf29.size X5) ?_
 refine Xv (Xy (Of_parts f p _ _ _ (kForest.mono Zh hp0) (kParts.mono Zh hq0) hsm) rfl Tryz.func48 rfl rfl rfl ?_)
 rintro v5 H5 ⟨g, es, hg, rfl, hes, hle5⟩; obtain ⟨w0, w1, rfl, hm0, hm1⟩ := hes; obtain ⟨C0, k0, rfl⟩ := hm0.shape; obtain ⟨C1, k1, rfl⟩ := hm1.shape; have hz5 := hle5.1; simp only [Hp.push_size] at hz5; have g51 : H5.get (H.size + 1) = .own 0 [.slice B0 p.nodes.length d0, .slice B1 p.links.length d1] := Xr hle5 (by simp) (by intro e; cases e) Ya
 refine Xa (Zi rfl) ?_
 refine Xa (Yf rfl rfl) ?_
 refine Xa (Yf rfl rfl) ?_
 refine Xv (Ye (vs := [.slice _ _ _, .slice _ _ _]) rfl rfl inf29.size Ya Yd rfl rfl ?_)
 refine Xa (Xj rfl) ?_
 refine Xc ?_
 refine Xc ?_
 refine Xs ?_
 refine Xa (Xb rfl) ?_
 refine Xa (Vb rfl rfl) ?_
 refine X4 rfl rfl ?_ ?_
 intro hc1
 obtain rfl : g = false := by cases g with | false => rfl | true => exact absurd hc1 (by simp)
 refine Xc ?_
 refine Xs ?_
 refine Xa (Xb rfl) ?_
 refine Xa (Zp rfl) ?_
 refine Xa (Xj rfl) ?_
 refine X2 ?_
 exact ⟨_, Yt (Xp rfl) (Xp rfl), Hp.le_put_new (Hp.le_trans (Hp.le_push' (H.le_push _) _) hle5) (Nat.le_succ _) _, false, .pointer none, hg, rfl, by simp⟩
 intro hc1
 obtain rfl : g = true := by cases g with | true => rfl | false => exact absurd hc1 (by simp)
 refine X9 ?_
 refine Xc ?_
 have hG := hg.1 rfl
 obtain ⟨k1', k2', k3', k4'⟩ := ofP_all hG
 have hXg := ofP_good hG
 have hcx := (hch hG).sub k2'
 simp only [if_true] at hm0 hm1
 obtain ⟨X, hX⟩ : ∃ X, X = ofP f p := ⟨_, rfl⟩
 rw [← hX] at k1' k2' k3' hXg hcx hm0 hm1
 rw [← hX]
 have hlens5 : ∀ l ∈ X.nodes, l.length ≤ 1000000 := fun l hm => by
  obtain ⟨i, hi, rfl⟩ := List.getElem_of_mem hm
  have h1 := (k2' i).1.length_le
  unfold nd at h1
  rw [Zn hi] at h1
  exact Nat.le_trans h1 (Ud hsm.s5 i)
 have hlens6 : ∀ l ∈ X.links, l.length ≤ 1000000 := fun l hm => by
  obtain ⟨i, hi, rfl⟩ := List.getElem_of_mem hm
  have h1 := (k2' i).2.length_le
  unfold lk at h1
  rw [Zn hi] at h1
  exact Nat.le_trans h1 (Ud hsm.s6 i)
 obtain ⟨T, hT⟩ : ∃ T, T = Z0 f X := ⟨_, rfl⟩
 obtain ⟨tl1, tl2, tl3⟩ := treeOf_len (f := f) X
 have tat := fun {i : Nat} (hi : i < f.order.length) => treeOf_at (f := f) X hi
 rw [← hT] at tl1 tl2 tl3
 simp only [← hT] at tat
 rw [← hT]
 obtain ⟨K, hK⟩ : ∃ K, K = H5.put (H.size + 1) (.own 0 [.slice C0 X.nodes.length k0, .slice C1 X.links.length k1]) := ⟨_, rfl⟩
 have s5K : H5.sees K := by rw [hK]; exact Hp.sees_box _ g51
 have leK : H.le K := by rw [hK]; exact Hp.le_put_new (Hp.le_trans (Hp.le_push' (H.le_push _) _) hle5) (by omega) _
 have zK : H.size + 2 ≤ K.size := by rw [hK]; simp; omega
 have gK0 : K.get H.size = .own 0 [.slice A0 f.vars.length c0, .slice A1 f.order.length c1, .slice A2 f.parent.length c2, .slice A3 f.links.length c3, .slice A4 f.loops.length c4] := by rw [hK, Hp.put_other _ _ (by omega)]; exact Xr hle5 (by simp; omega) (by intro e; cases e) Ya
 have gK1 : K.get (H.size + 1) = .own 0 [.slice C0 X.nodes.length k0, .slice C1 X.links.length k1] := by rw [hK]; exact Hp.put_same _ _ _
 have m0K := hm0.mono s5K
 have m1K := hm1.mono s5K
 have s0K := hs0.mono leK.sees
 have s1K := hs1.mono leK.sees
 have s2K := hs2.mono leK.sees
 have hol : f.order.length = f.vars.length := hG.gf.l1
 have hpl : f.parent.length = f.vars.length := hG.gf.l2
 have hs0' := hsm.s0
 have hxn := k1'.1
 have hxl := k1'.2
 change ACode true _ _ _ _ _ (H5.put (H.size + 1) (.own 0 [.slice C0 X.nodes.length k0, .slice C1 X.links.length k1]))
 rw [← hK]
 clear hK s5K hm0 hm1 hle5 g51 hz5 hn0 hn1 hq0 hp0 hs3 hs4
 refine Xs ?_
 refine Xz (am_makeMap) ?_
 refine Xa (Y0 (pl := [(0, 1), (1, 1), (2, 1), (3, 1)]) (r := [.slice _ _ _, .slice _ _ _, .slice _ _ _, .map _]) Tryz.underlying91 inf91.zero (by decide) rfl rfl) ?_
 refine Xz (Yp rfl) ?_
 refine Xa (Zp rfl) ?_
 refine Xc ?_
 refine Xc ?_
 refine Xs ?_
 refine Xa (Xf (off := 1) rfl Tryz.underlying26 rfl inf23.size (by decide) rfl) ?_
 refine Xa (Xl rfl Tryz.underlying23 rfl Xo) ?_
 refine Xa (Yo rfl Tryz.underlying23) ?_
 refine Xa (Xb rfl) ?_
 refine Yh ?_
 refine Y6 (fun n t H' => ∃ (i : Nat) (G : Hp) (A B C : Value) (es : List (Value × Value)), i ≤ f.order.length ∧ n = f.order.length - i ∧ K.le G ∧ K.size + 2 ≤ G.size ∧ G.get K.size = .map es ∧ G.get (K.size + 1) = .own 0 [A, B, C, .map (some K.size)] ∧ Own3 kStr (Yv .i64) (kSl kLink) G H' A B C (T.vars.take i) (T.parent.take i) (T.links.take i) ∧ Spots T i es ∧ t 2 = .pointer (some ⟨H.size, 0, none⟩) ∧ t 3 = .pointer (some ⟨H.size + 1, 0, none⟩) ∧ t 7 = .pointer (some ⟨K.size + 1, 0, none⟩) ∧ t 24 = .slice A1 f.order.length c1 ∧ t 25 = .int .i64 f.order.length ∧ t 26 = .int .i64 i) (f.order.length) (⟨0, _, _, _, _, [], by omega, rfl, Hp.le_push' (K.le_push _) _, by simp, Ya, Ya, ⟨_, _, OwnP.nil _ _, OwnP.nil _ _, OwnP.nil _ _⟩, Spots.zero T, rfl, rfl, rfl, rfl, rfl, rfl⟩) ?_
 rintro n t H1 ⟨i, G, A, B, C, es, hi, rfl, leG, zG, gm, gt, hown, hsp, e2, e3, e7, e24, e25, e26⟩
 have leK1 := Hp.le_trans leG hown.le
 have zH1 := hown.size
 have zK1 := leK1.1
 refine Xc ?_
 refine Xs ?_
 refine Xa (Zf Xn Xn) ?_
 refine Xc ?_
 refine X4 rfl rfl ?_ ?_
 intro hc2
 (try simp only [Y5] at hc2)
 refine X9 ?_
 refine Xc ?_
 refine Yh ?_
 refine Xc ?_
 have hix : i < f.order.length := by omega
 obtain ⟨b1, o1, rfl, hb1, hcell1⟩ := s1K.int_at (i := (i : Int)) (by omega) (by omega)
 rw [Int.toNat_natCast] at hcell1
 have hcell1' := leK1.cell1 hb1 hcell1
 obtain ⟨hwn, hwv⟩ := hG.gf.vAt_lt (s := i) (by omega)
 obtain ⟨w, hw⟩ : ∃ w : Nat, w = vAt f i := ⟨_, rfl⟩
 rw [← hw] at hwn hwv
 rw [← hwv] at hcell1'
 obtain ⟨tv, tp, tl⟩ := tat hix
 rw [← hw] at tv tp tl
 refine Xs ?_
 refine Xa (Xb Xn) ?_
 refine Xa (Xx Xn Xn Tryz.underlying23 inf3.size Yc Yc) ?_
 refine Xa (Xl rfl Tryz.underlying3 rfl Xo) ?_
 refine Xa (Xj rfl) ?_
 refine Xa (Xj rfl) ?_
 refine Xc ?_
 obtain ⟨bn, on, ks, eN, hbn, ⟨wn, rfl, hwN⟩, hcellN⟩ := m0K.elem_at (i := w) (by have := k1'.1; omega)
 subst eN
 have hcellN' := leK1.cell1 hbn hcellN.one
 have ndw : nd X w = X.nodes[w]'(by have := k1'.1; omega) := Zn _
 rw [← ndw] at hwN
 obtain ⟨An, cn, rfl⟩ := hwN.shape
 have hnl : (nd X w).length ≤ 1000000 := by rw [ndw]; exact hlens5 _ (List.getElem_mem _)
 have gH0 := Xr leK1 (by omega) (by intro e; cases e) gK0
 have gH1 := Xr leK1 (by omega) (by intro e; cases e) gK1
 refine Xs ?_
 refine Xa (Xf (off := 0) Xn Tryz.underlying29 Xn inf27.size (by decide) Xn) ?_
 refine Xa (Xl rfl Tryz.underlying27 rfl Xo) ?_
 refine Xa (Xb rfl) ?_
 refine Xa (Xx rfl rfl Tryz.underlying27 inf83.size Yc Yc) ?_
 refine Xa (Xl rfl Tryz.underlying83 rfl Xo) ?_
 refine Xa (X8 rfl) ?_
 refine Xc ?_
 refine Xc ?_
 obtain ⟨b2, o2, rfl, hb2, hcell2⟩ := s2K.int_at (i := (w : Int)) (by omega) (by omega)
 rw [Int.toNat_natCast] at hcell2
 have hcell2' := leK1.cell1 hb2 hcell2
 refine Xs ?_
 refine Xa (Xf (off := 2) Xn Tryz.underlying26 Xn inf23.size (by decide) Xn) ?_
 refine Xa (Xl rfl Tryz.underlying23 rfl Xo) ?_
 refine Xa (Xb rfl) ?_
 refine Xa (Xx rfl rfl Tryz.underlying23 inf3.size Yc Yc) ?_
 refine Xa (Xl rfl Tryz.underlying3 rfl Xo) ?_
 refine Xa (Vb rfl rfl) ?_
 refine X4 rfl rfl ?_ ?_
 intro hc3
 have hpar : par f w ≠ -1 := of_decide_eq_true hc3
 obtain ⟨bl, ol, ks, eL, hbl, ⟨wl, rfl, hwL⟩, hcellL⟩ := m1K.elem_at (i := w) (by have := k1'.2; omega)
 subst eL
 have hcellL' := leK1.cell1 hbl hcellL.one
 have lkw : lk X w = X.links[w]'(by have := k1'.2; omega) := Zn _
 rw [← lkw] at hwL
 obtain ⟨Al, cl, rfl⟩ := hwL.shape
 have hll : (lk X w).length ≤ 1000000 := by rw [lkw]; exact hlens6 _ (List.getElem_mem _)
 have hpk : Y1 f X w = (lk X w).map (Vw (nd X w)) := by unfold Y1; rw [if_neg hpar]
 have hpll : (Y1 f X w).length ≤ 1000000 := by rw [hpk, List.length_map]; exact hll
 have hrise : RiseA (Y1 f X w) := by rw [hpk]; exact rise_weigh (goodL_rise (hXg.ok w hwn).2.1)
 refine Yy (by kernel_rfl) (Y4 (B := [0, 1, 0, 7, 15, 0, 32, 0, 224, 480, 1023, 2047]) (π := [0, 1, 2, 3, 4, 5, 6, 7, 8, 9, 10, 11]) (by kernel_rfl)) ?_
 refine Xe rfl rfl (Xf (off := 1) Xn Tryz.underlying29 Xn inf27.size (by decide) Xn) Xt ?_
 refine Xe rfl rfl (Xl rfl Tryz.underlying27 rfl Xo) Xt ?_
 refine Xe rfl rfl (Xb rfl) Xt ?_
 refine Xe rfl rfl (Xx rfl rfl Tryz.underlying27 inf83.size Yc Yc) Xt ?_
 refine Xe rfl rfl (Xl rfl Tryz.underlying83 rfl Xo) Xt ?_
 refine Xe rfl rfl (Xf (off := 0) Xn Tryz.underlying29 Xn inf27.size (by decide) Xn) Xt ?_
 refine Xe rfl rfl (Xl rfl Tryz.underlying27 rfl Xo) Xt ?_
 refine Xe rfl rfl (Xb rfl) Xt ?_
 refine Xe rfl rfl (Xx rfl rfl Tryz.underlying27 inf83.size Yc Yc) Xt ?_
 refine Xe rfl rfl (Xl rfl Tryz.underlying83 rfl Xo) Xt ?_
 refine Yk rfl rfl (Xy (weighed_links (lk X w) (nd X w) _ _ _ (hwL.mono leK1.sees) (hwN.mono leK1.sees) hll hnl (goodL_strict (hXg.ok w hwn).1 (hXg.ok w hwn).2.2.1) (fun l hl => ((k3' w hwn hpar).ends l hl).2) (fun l hl => hcx.links w l hl) (fun l hl => hcx.nodes w l hl)) rfl Tryz.func49 rfl rfl rfl ?_)
 rintro v10 H2 ⟨Gw, hleW, hownW⟩; rw [← hpk] at hownW; obtain ⟨Aw, cw, rfl⟩ := hownW.shape; have hsl2 := hownW.sl; have hle2 := Hp.le_trans hleW hownW.le
 refine ⟨Yi, ?_⟩
 refine Xe rfl rfl (X8 rfl) Xt ?_
 refine Xc ?_
 obtain ⟨G2, hleG2, hown2⟩ := hown.later hle2
 have leG2 := Hp.le_trans leG hleG2
 have leK2 := Hp.le_trans leK1 hle2
 have g2m := Xr hleG2 (by omega) (by intro e; cases e) gm
 have g2t := Xr hleG2 (by omega) (by intro e; cases e) gt
 have z2 := hleG2.1
 have zz2 := hown2.size
 obtain ⟨Ga, hleGa, hoA, backA⟩ := (hown2.rot (stable_ints _) stable_lists).open3
 obtain ⟨AA, cA, rfl⟩ := hoA.shape
 obtain ⟨slA, slB, slC⟩ := hown2.sls
 obtain ⟨AB, cB, rfl⟩ := slB.shape
 obtain ⟨AC, cC, rfl⟩ := slC.shape
 have lenA : (T.vars.take i).length = i := by rw [List.length_take]; omega
 have lenB : (T.parent.take i).length = i := by rw [List.length_take]; omega
 have lenC : (T.links.take i).length = i := by rw [List.length_take]; omega
 have h2t := Xr hown2.le (by omega) (by intro e; cases e) g2t
 have h20 := Xr leK2 (by omega) (by intro e; cases e) gK0
 obtain ⟨bs, os, ks, eS, hbs, rfl, hcellS⟩ := s0K.elem_at (i := w) hwn
 subst eS
 have hcellS' := leK2.cell1 hbs hcellS.one
 have zoA := hoA.size
 have za := hleGa.1
 have slG2 := hown2.below (Ze _) (Ze _) (Ze _) (by decide) (by decide) (by decide) hsl2
 refine Yy (by kernel_rfl) (Y4 (B := [0, 0, 2, 6, 14, 0, 32, 0, 224, 480, 992, 2046, 4095, 8191, 16383]) (π := [0, 1, 2, 3, 4, 5, 6, 7, 8, 9, 10, 11, 12, 13, 14]) (by kernel_rfl)) ?_
 refine Xe rfl rfl (Xw Xn) Xt ?_
 refine Xe rfl rfl (Xw Xn) Xt ?_
 refine Xe rfl rfl (X7 rfl) Xt ?_
 refine Xe rfl rfl (Xf (off := 0) rfl Tryz.underlying91 rfl inf22.size (by decide) rfl) Xt ?_
 refine Xe rfl rfl (Xl rfl Tryz.underlying22 rfl Xo) Xt ?_
 refine Xe rfl rfl (Xf (off := 0) Xn Tryz.underlying26 Xn inf22.size (by decide) Xn) Xt ?_
 refine Xe rfl rfl (Xl rfl Tryz.underlying22 rfl Xo) Xt ?_
 refine Xe rfl rfl (Xb rfl) Xt ?_
 refine Xe rfl rfl (Xx rfl rfl Tryz.underlying22 inf9.size Yc Yc) Xt ?_
 refine Xe rfl rfl (Xl rfl Tryz.underlying9 rfl Xo) Xt ?_
 first | refine Zd rfl rfl (Yg (r := [.string _]) Tryz.underlying22 inf9.size inf9.zero rfl (by decide) (by decide) (by decide) rfl) ?_
 refine Yk rfl rfl (OwnP.append (ys := [f.vars[w]]) (hoA.push _) Tryz.underlying22 inf9 rfl rfl rfl (Zw (k := kStr) rfl rfl hoA.size rfl) (by rw [lenA]; simp only [List.length_singleton]; omega) (by rw [lenA]; simp only [List.length_singleton]; omega) ?_)
 rintro v3 G3 H3 hle3 hown3
 have hsameO := OwnP.sameO (hoA.push _) hle3 hown3
 have ev : f.vars.getD w ⟨#[]⟩ = f.vars[w] := by rw [List.getD_eq_getElem?_getD, List.getElem?_eq_getElem hwn]; rfl
 rw [← ev, take_at tv] at hown3
 obtain ⟨AA', cA', rfl⟩ := hown3.shape
 have hle3' := Hp.le_trans (Hp.le_push _ _) hle3
 obtain ⟨G4, hleG4, hown4⟩ := backA G3 H3 _ _ hle3' hown3
 have g4t := Xr hleG4 (by omega) (by intro e; cases e) g2t
 have h3t := Xr hown4.le (by have := hleG4.1; omega) (by intro e; cases e) g4t
 refine ⟨Yi, ?_⟩
 refine Xe rfl rfl (X7 rfl) Xt ?_
 refine Xe rfl rfl (Xf (off := 0) rfl Tryz.underlying91 rfl inf22.size (by decide) rfl) Xt ?_
 first | refine Yk rfl rfl (Yz rfl rfl rfl inf22.size Ya Yd rfl ?_)
 refine ⟨Yi, ?_⟩
 refine Xc ?_
 obtain ⟨H5, hH5⟩ : ∃ H5, H5 = H3.put (K.size + 1) (.own 0 [.slice AA' (T.vars.take (i + 1)).length cA', .slice AB (T.parent.take i).length cB, .slice AC (T.links.take i).length cC, .map (some K.size)]) := ⟨_, rfl⟩
 obtain ⟨G5, hG5⟩ : ∃ G5, G5 = G4.put (K.size + 1) (.own 0 [.slice AA' (T.vars.take (i + 1)).length cA', .slice AB (T.parent.take i).length cB, .slice AC (T.links.take i).length cC, .map (some K.size)]) := ⟨_, rfl⟩
 have z4 := hleG4.1
 have hown5 := hown4.put_box (by omega) g4t [.slice AA' (T.vars.take (i + 1)).length cA', .slice AB (T.parent.take i).length cB, .slice AC (T.links.take i).length cC, .map (some K.size)]
 rw [← hG5, ← hH5] at hown5
 have leG5 : K.le G5 := by rw [hG5]; exact Hp.le_put_new (Hp.le_trans leG2 hleG4) (by omega) _
 have g5m : G5.get K.size = .map es := by rw [hG5, Hp.put_other _ _ (by omega)]; exact Xr hleG4 (by omega) (by intro e; cases e) g2m
 have g5t : G5.get (K.size + 1) = .own 0 [.slice AA' (T.vars.take (i + 1)).length cA', .slice AB (T.parent.take i).length cB, .slice AC (T.links.take i).length cC, .map (some K.size)] := by rw [hG5]; exact Hp.put_same _ _ _
 have z5 : K.size + 2 ≤ G5.size := by rw [hG5]; simp; omega
 change ACode true _ _ _ _ _ (H3.put (K.size + 1) (.own 0 [.slice AA' (T.vars.take (i + 1)).length cA', .slice AB (T.parent.take i).length cB, .slice AC (T.links.take i).length cC, .map (some K.size)]))
 rw [← hH5]
 have slG5 : Sl kLink G5 (.slice Aw (Y1 f X w).length cw) (Y1 f X w) := by
  rw [hG5]
  exact (slG2.mono hleG4.sees).mono (Hp.sees_box _ g4t)
 obtain ⟨Gb, hleGb, hoB, backB⟩ := (hown5.rot stable_lists (stable_strs _)).open3
 have leK5 := Hp.le_trans leG5 hown5.le
 have h5t := Xr hown5.le (by omega) (by intro e; cases e) g5t
 have h50 := Xr leK5 (by omega) (by intro e; cases e) gK0
 have hcell25 := leK5.cell1 hb2 hcell2
 have zoB := hoB.size
 have zz5 := hown5.size
 have zb := hleGb.1
 clear hH5 hG5 hsameO
 refine Yy (by kernel_rfl) (Y4 (B := [0, 0, 2, 6, 14, 0, 32, 0, 128, 0, 896, 1920, 4064, 8160, 16382, 32767, 65535, 131071]) (π := [0, 1, 2, 3, 4, 5, 6, 7, 8, 9, 10, 11, 12, 13, 14, 15, 16, 17]) (by kernel_rfl)) ?_
 refine Xe rfl rfl (Xw Xn) Xt ?_
 refine Xe rfl rfl (Xw Xn) Xt ?_
 refine Xe rfl rfl (X7 rfl) Xt ?_
 refine Xe rfl rfl (Xf (off := 1) rfl Tryz.underlying91 rfl inf23.size (by decide) rfl) Xt ?_
 refine Xe rfl rfl (Xl rfl Tryz.underlying23 rfl Xo) Xt ?_
 refine Xe rfl rfl (Xf (off := 1) Xn Tryz.underlying26 Xn inf23.size (by decide) Xn) Xt ?_
 refine Xe rfl rfl (Xl rfl Tryz.underlying23 rfl Xo) Xt ?_
 refine Xe rfl rfl (Xf (off := 2) Xn Tryz.underlying26 Xn inf23.size (by decide) Xn) Xt ?_
 refine Xe rfl rfl (Xl rfl Tryz.underlying23 rfl Xo) Xt ?_
 refine Xe rfl rfl (Xb rfl) Xt ?_
 refine Xe rfl rfl (Xx rfl rfl Tryz.underlying23 inf3.size Yc Yc) Xt ?_
 refine Xe rfl rfl (Xl rfl Tryz.underlying3 rfl Xo) Xt ?_
 refine Yk rfl rfl (Xy (Index_ints f.order _ (par f w) _ (s1K.mono leK5.sees) (by omega)) rfl Tryz.func50 rfl rfl rfl ?_)
 rintro v6 H5 ⟨rfl, rfl⟩
 refine ⟨Yi, ?_⟩
 first | refine Zd rfl rfl (Yg (r := [.int .i64 _]) Tryz.underlying23 inf3.size inf3.zero rfl (by decide) (by decide) (by decide) rfl) ?_
 refine Yk rfl rfl (OwnP.append (ys := [atI f.order (par f w)]) (hoB.push _) Tryz.underlying23 inf3 rfl rfl rfl (Zw (k := Yv .i64) rfl rfl hoB.size rfl) (by rw [lenB]; simp only [List.length_singleton]; omega) (by rw [lenB]; simp only [List.length_singleton]; omega) ?_)
 rintro v7 G7 H7 hle7 hown7
 have hsameO := OwnP.sameO (hoB.push _) hle7 hown7
 rw [take_at tp] at hown7
 obtain ⟨AB', cB', rfl⟩ := hown7.shape
 have hle7' := Hp.le_trans (Hp.le_push _ _) hle7
 obtain ⟨G8, hleG8, hown8⟩ := backB G7 H7 _ _ hle7' hown7
 have g8t := Xr hleG8 (by omega) (by intro e; cases e) g5t
 have h7t := Xr hown8.le (by have := hleG8.1; omega) (by intro e; cases e) g8t
 refine ⟨Yi, ?_⟩
 refine Xe rfl rfl (X7 rfl) Xt ?_
 refine Xe rfl rfl (Xf (off := 1) rfl Tryz.underlying91 rfl inf23.size (by decide) rfl) Xt ?_
 first | refine Yk rfl rfl (Yz rfl rfl rfl inf23.size Ya Yd rfl ?_)
 refine ⟨Yi, ?_⟩
 refine Xc ?_
 obtain ⟨H9, hH9⟩ : ∃ H9, H9 = H7.put (K.size + 1) (.own 0 [.slice AA' (T.vars.take (i + 1)).length cA', .slice AB' (T.parent.take (i + 1)).length cB', .slice AC (T.links.take i).length cC, .map (some K.size)]) := ⟨_, rfl⟩
 obtain ⟨G9, hG9⟩ : ∃ G9, G9 = G8.put (K.size + 1) (.own 0 [.slice AA' (T.vars.take (i + 1)).length cA', .slice AB' (T.parent.take (i + 1)).length cB', .slice AC (T.links.take i).length cC, .map (some K.size)]) := ⟨_, rfl⟩
 have z8 := hleG8.1
 have hown9 := hown8.put_box (by omega) g8t [.slice AA' (T.vars.take (i + 1)).length cA', .slice AB' (T.parent.take (i + 1)).length cB', .slice AC (T.links.take i).length cC, .map (some K.size)]
 rw [← hG9, ← hH9] at hown9
 have leG9 : K.le G9 := by rw [hG9]; exact Hp.le_put_new (Hp.le_trans leG5 hleG8) (by omega) _
 have g9m : G9.get K.size = .map es := by rw [hG9, Hp.put_other _ _ (by omega)]; exact Xr hleG8 (by omega) (by intro e; cases e) g5m
 have g9t : G9.get (K.size + 1) = .own 0 [.slice AA' (T.vars.take (i + 1)).length cA', .slice AB' (T.parent.take (i + 1)).length cB', .slice AC (T.links.take i).length cC, .map (some K.size)] := by rw [hG9]; exact Hp.put_same _ _ _
 have z9 : K.size + 2 ≤ G9.size := by rw [hG9]; simp; omega
 change ACode true _ _ _ _ _ (H7.put (K.size + 1) (.own 0 [.slice AA' (T.vars.take (i + 1)).length cA', .slice AB' (T.parent.take (i + 1)).length cB', .slice AC (T.links.take i).length cC, .map (some K.size)]))
 rw [← hH9]
 have slG9 : Sl kLink G9 (.slice Aw (Y1 f X w).length cw) (Y1 f X w) := by
  rw [hG9]
  exact (slG5.mono hleG8.sees).mono (Hp.sees_box _ g8t)
 have hsl9 := slG9.mono hown9.le.sees
 have h9t := Xr hown9.le (by omega) (by intro e; cases e) g9t
 have zz9 := hown9.size
 clear hH9 hG9 hsameO
 refine Yy (by kernel_rfl) (Y4 (B := [0, 0, 2, 6, 14, 0, 32, 96, 254, 511, 1023, 2047]) (π := [0, 1, 2, 3, 4, 5, 6, 7, 8, 9, 10, 11]) (by kernel_rfl)) ?_
 refine Xe rfl rfl (Xw Xn) Xt ?_
 refine Xe rfl rfl (Xw Xn) Xt ?_
 refine Xe rfl rfl (X7 rfl) Xt ?_
 refine Xe rfl rfl (Xf (off := 2) rfl Tryz.underlying91 rfl inf27.size (by decide) rfl) Xt ?_
 refine Xe rfl rfl (Xl rfl Tryz.underlying27 rfl Xo) Xt ?_
 refine Xe rfl rfl (X1 rfl) Xt ?_
 refine Yk rfl rfl (Xy (Clone_links _ _ _ hsl9 hpll) rfl Tryz.func51 rfl rfl rfl ?_)
 rintro v10 H10 ⟨G10', hle10, hownL⟩; obtain ⟨AL, cL, rfl⟩ := hownL.shape; have hle10' := Hp.le_trans hle10 hownL.le; obtain ⟨G10, hleG10, hown10⟩ := hown9.later hle10'; have slL := hown10.below (Ze _) (Ze _) (Ze _) (by decide) (by decide) (by decide) hownL.sl; obtain ⟨Gc, hleGc, hoC, backC⟩ := (hown10.rot (stable_strs _) (stable_ints _)).open3; have slLc := slL.mono hleGc.sees; have zoC := hoC.size; have h10t := Xr hle10' (by omega) (by intro e; cases e) h9t; have z10 := hleG10.1; have zc := hleGc.1
 refine ⟨Yi, ?_⟩
 refine Zd rfl rfl (Yg (r := [.slice _ _ _]) Tryz.underlying27 inf83.size inf83.zero rfl (by decide) (by decide) (by decide) rfl) ?_
 refine Yk rfl rfl (OwnP.append (ys := [Y1 f X w]) (hoC.push _) Tryz.underlying27 inf83 rfl rfl rfl (Zw (k := kSl kLink) ⟨_, rfl, slLc⟩ rfl hoC.size rfl) (by rw [lenC]; simp only [List.length_singleton]; omega) (by rw [lenC]; simp only [List.length_singleton]; omega) ?_)
 rintro v11 G11 H11 hle11 hown11
 have hsameO := OwnP.sameO (hoC.push _) hle11 hown11
 rw [take_at tl] at hown11
 obtain ⟨AC', cC', rfl⟩ := hown11.shape
 have hle11' := Hp.le_trans (Hp.le_push _ _) hle11
 obtain ⟨G12, hleG12, hown12⟩ := backC G11 H11 _ _ hle11' hown11
 have g10t := Xr hleG10 (by omega) (by intro e; cases e) g9t
 have g12t := Xr hleG12 (by omega) (by intro e; cases e) g10t
 have h11t := Xr hown12.le (by have := hleG12.1; omega) (by intro e; cases e) g12t
 refine ⟨Yi, ?_⟩
 refine Xe rfl rfl (X7 rfl) Xt ?_
 refine Xe rfl rfl (Xf (off := 2) rfl Tryz.underlying91 rfl inf27.size (by decide) rfl) Xt ?_
 first | refine Yk rfl rfl (Yz rfl rfl rfl inf27.size Ya Yd rfl ?_)
 refine ⟨Yi, ?_⟩
 obtain ⟨H13, hH13⟩ : ∃ H13, H13 = H11.put (K.size + 1) (.own 0 [.slice AA' (T.vars.take (i + 1)).length cA', .slice AB' (T.parent.take (i + 1)).length cB', .slice AC' (T.links.take (i + 1)).length cC', .map (some K.size)]) := ⟨_, rfl⟩
 obtain ⟨G13, hG13⟩ : ∃ G13, G13 = G12.put (K.size + 1) (.own 0 [.slice AA' (T.vars.take (i + 1)).length cA', .slice AB' (T.parent.take (i + 1)).length cB', .slice AC' (T.links.take (i + 1)).length cC', .map (some K.size)]) := ⟨_, rfl⟩
 have z12 := hleG12.1
 have hown13 := hown12.put_box (by omega) g12t [.slice AA' (T.vars.take (i + 1)).length cA', .slice AB' (T.parent.take (i + 1)).length cB', .slice AC' (T.links.take (i + 1)).length cC', .map (some K.size)]
 rw [← hG13, ← hH13] at hown13
 have leG13 : K.le G13 := by rw [hG13]; exact Hp.le_put_new (Hp.le_trans leG9 (Hp.le_trans hleG10 hleG12)) (by omega) _
 have g13m : G13.get K.size = .map es := by rw [hG13, Hp.put_other _ _ (by omega)]; exact Xr (Hp.le_trans hleG10 hleG12) (by omega) (by intro e; cases e) g9m
 have g13t : G13.get (K.size + 1) = .own 0 [.slice AA' (T.vars.take (i + 1)).length cA', .slice AB' (T.parent.take (i + 1)).length cB', .slice AC' (T.links.take (i + 1)).length cC', .map (some K.size)] := by rw [hG13]; exact Hp.put_same _ _ _
 have z13 : K.size + 2 ≤ G13.size := by rw [hG13]; simp; omega
 change ACode true _ _ _ _ _ (H11.put (K.size + 1) (.own 0 [.slice AA' (T.vars.take (i + 1)).length cA', .slice AB' (T.parent.take (i + 1)).length cB', .slice AC' (T.links.take (i + 1)).length cC', .map (some K.size)]))
 rw [← hH13]
 have h13t := Xr hown13.le (by omega) (by intro e; cases e) g13t
 have h13m := Xr hown13.le (by omega) (by intro e; cases e) g13m
 have zz13 := hown13.size
 obtain ⟨sl1, sl2, sl3⟩ := hown13.sls
 clear hH13 hG13 hsameO
 have eP : (T.parent.take (i + 1)).getD i 0 = T.parent.getD i 0 := by rw [List.getD_eq_getElem?_getD, List.getD_eq_getElem?_getD, List.getElem?_take, if_pos (by omega)]
 have hiL : i < (T.links.take (i + 1)).length := by rw [List.length_take]; omega
 have eL : (T.links.take (i + 1))[i]'hiL = Y1 f X w := by
  rw [List.getElem_take]
  exact (List.getElem?_eq_some_iff.1 tl).2
 have eL2 : T.links.getD i [] = Y1 f X w := by rw [List.getD_eq_getElem?_getD, tl]; rfl
 refine Xs ?_
 refine Xa (Xw Xn) ?_
 refine Xa (Xb rfl) ?_
 refine Xv (Xy (group_tree (b := K.size + 1) (mb := K.size) (by omega) (by omega) h13t sl2 sl3 h13m i hiL (by rw [List.length_take]; omega) (by rw [eL]; exact hpll) (fun _ => by rw [eL]; exact hrise) hsp.keys (fun a => hsp.none i a (Nat.le_refl _))) rfl Tryz.func52 rfl rfl rfl ?_)
 rintro v14 H14 ⟨es', rfl, hes'⟩
 refine Xs ?_
 refine Xa (Yq Xn Xn Y2) ?_
 refine Xa (Xb rfl) ?_
 refine ⟨f.order.length - (i + 1), by omega, i + 1, G13.put K.size (.map es'), _, _, _, es', by omega, rfl, Hp.le_put_new leG13 (Nat.le_refl _) _, by simp; omega, Hp.put_same _ _ _, by rw [Hp.put_other _ _ (by omega)]; exact g13t, hown13.put_map (by omega) g13m es', hsp.step ?_, e2, e3, e7, e24, e25, rfl⟩
 rw [eP, eL] at hes'
 rw [eL2]
 exact hes'
 intro hc3
 have hpar : par f w = -1 := Decidable.not_not.1 (of_decide_eq_false hc3)
 have hpk : Y1 f X w = nd X w := by unfold Y1; rw [if_pos hpar]
 have hpll : (Y1 f X w).length ≤ 1000000 := by rw [hpk]; exact hnl
 have hrise : RiseA (Y1 f X w) := by rw [hpk]; exact goodL_rise (hXg.ok w hwn).1
 obtain ⟨w10, hw10⟩ : ∃ w10, w10 = Value.slice An (nd X w).length cn := ⟨_, rfl⟩
 have hle2 := Hp.le_refl H1
 have hsl2 : Sl kLink H1 (.slice An (Y1 f X w).length cn) (Y1 f X w) := by rw [hpk]; exact hwN.mono leK1.sees
 rw [← hpk]
 obtain ⟨H2, e2'⟩ : ∃ H2, H2 = H1 := ⟨_, rfl⟩
 subst e2'
 obtain ⟨Aw, cw, eAw, eCw⟩ : ∃ Aw cw, Aw = An ∧ cw = cn := ⟨_, _, rfl, rfl⟩
 subst eAw
 subst eCw
 refine X9 ?_
 refine Xc ?_
 obtain ⟨G2, hleG2, hown2⟩ := hown.later hle2
 have leG2 := Hp.le_trans leG hleG2
 have leK2 := Hp.le_trans leK1 hle2
 have g2m := Xr hleG2 (by omega) (by intro e; cases e) gm
 have g2t := Xr hleG2 (by omega) (by intro e; cases e) gt
 have z2 := hleG2.1
 have zz2 := hown2.size
 obtain ⟨Ga, hleGa, hoA, backA⟩ := (hown2.rot (stable_ints _) stable_lists).open3
 obtain ⟨AA, cA, rfl⟩ := hoA.shape
 obtain ⟨slA, slB, slC⟩ := hown2.sls
 obtain ⟨AB, cB, rfl⟩ := slB.shape
 obtain ⟨AC, cC, rfl⟩ := slC.shape
 have lenA : (T.vars.take i).length = i := by rw [List.length_take]; omega
 have lenB : (T.parent.take i).length = i := by rw [List.length_take]; omega
 have lenC : (T.links.take i).length = i := by rw [List.length_take]; omega
 have h2t := Xr hown2.le (by omega) (by intro e; cases e) g2t
 have h20 := Xr leK2 (by omega) (by intro e; cases e) gK0
 obtain ⟨bs, os, ks, eS, hbs, rfl, hcellS⟩ := s0K.elem_at (i := w) hwn
 subst eS
 have hcellS' := leK2.cell1 hbs hcellS.one
 have zoA := hoA.size
 have za := hleGa.1
 have slG2 := hown2.below (Ze _) (Ze _) (Ze _) (by decide) (by decide) (by decide) hsl2
 refine Yy (by kernel_rfl) (Y4 (B := [0, 0, 2, 6, 14, 0, 32, 0, 224, 480, 992, 2046, 4095, 8191, 16383]) (π := [0, 1, 2, 3, 4, 5, 6, 7, 8, 9, 10, 11, 12, 13, 14]) (by kernel_rfl)) ?_
 refine Xe rfl rfl (Xw Xn) Xt ?_
 refine Xe rfl rfl (Xw Xn) Xt ?_
 refine Xe rfl rfl (X7 rfl) Xt ?_
 refine Xe rfl rfl (Xf (off := 0) rfl Tryz.underlying91 rfl inf22.size (by decide) rfl) Xt ?_
 refine Xe rfl rfl (Xl rfl Tryz.underlying22 rfl Xo) Xt ?_
 refine Xe rfl rfl (Xf (off := 0) Xn Tryz.underlying26 Xn inf22.size (by decide) Xn) Xt ?_
 refine Xe rfl rfl (Xl rfl Tryz.underlying22 rfl Xo) Xt ?_
 refine Xe rfl rfl (Xb rfl) Xt ?_
 refine Xe rfl rfl (Xx rfl rfl Tryz.underlying22 inf9.size Yc Yc) Xt ?_
 refine Xe rfl rfl (Xl rfl Tryz.underlying9 rfl Xo) Xt ?_
 first | refine Zd rfl rfl (Yg (r := [.string _]) Tryz.underlying22 inf9.size inf9.zero rfl (by decide) (by decide) (by decide) rfl) ?_
 refine Yk rfl rfl (OwnP.append (ys := [f.vars[w]]) (hoA.push _) Tryz.underlying22 inf9 rfl rfl rfl (Zw (k := kStr) rfl rfl hoA.size rfl) (by rw [lenA]; simp only [List.length_singleton]; omega) (by rw [lenA]; simp only [List.length_singleton]; omega) ?_)
 rintro v3 G3 H3 hle3 hown3
 have hsameO := OwnP.sameO (hoA.push _) hle3 hown3
 have ev : f.vars.getD w ⟨#[]⟩ = f.vars[w] := by rw [List.getD_eq_getElem?_getD, List.getElem?_eq_getElem hwn]; rfl
 rw [← ev, take_at tv] at hown3
 obtain ⟨AA', cA', rfl⟩ := hown3.shape
 have hle3' := Hp.le_trans (Hp.le_push _ _) hle3
 obtain ⟨G4, hleG4, hown4⟩ := backA G3 H3 _ _ hle3' hown3
 have g4t := Xr hleG4 (by omega) (by intro e; cases e) g2t
 have h3t := Xr hown4.le (by have := hleG4.1; omega) (by intro e; cases e) g4t
 refine ⟨Yi, ?_⟩
 refine Xe rfl rfl (X7 rfl) Xt ?_
 refine Xe rfl rfl (Xf (off := 0) rfl Tryz.underlying91 rfl inf22.size (by decide) rfl) Xt ?_
 first | refine Yk rfl rfl (Yz rfl rfl rfl inf22.size Ya Yd rfl ?_)
 refine ⟨Yi, ?_⟩
 refine Xc ?_
 obtain ⟨H5, hH5⟩ : ∃ H5, H5 = H3.put (K.size + 1) (.own 0 [.slice AA' (T.vars.take (i + 1)).length cA', .slice AB (T.parent.take i).length cB, .slice AC (T.links.take i).length cC, .map (some K.size)]) := ⟨_, rfl⟩
 obtain ⟨G5, hG5⟩ : ∃ G5, G5 = G4.put (K.size + 1) (.own 0 [.slice AA' (T.vars.take (i + 1)).length cA', .slice AB (T.parent.take i).length cB, .slice AC (T.links.take i).length cC, .map (some K.size)]) := ⟨_, rfl⟩
 have z4 := hleG4.1
 have hown5 := hown4.put_box (by omega) g4t [.slice AA' (T.vars.take (i + 1)).length cA', .slice AB (T.parent.take i).length cB, .slice AC (T.links.take i).length cC, .map (some K.size)]
 rw [← hG5, ← hH5] at hown5
 have leG5 : K.le G5 := by rw [hG5]; exact Hp.le_put_new (Hp.le_trans leG2 hleG4) (by omega) _
 have g5m : G5.get K.size = .map es := by rw [hG5, Hp.put_other _ _ (by omega)]; exact Xr hleG4 (by omega) (by intro e; cases e) g2m
 have g5t : G5.get (K.size + 1) = .own 0 [.slice AA' (T.vars.take (i + 1)).length cA', .slice AB (T.parent.take i).length cB, .slice AC (T.links.take i).length cC, .map (some K.size)] := by rw [hG5]; exact Hp.put_same _ _ _
 have z5 : K.size + 2 ≤ G5.size := by rw [hG5]; simp; omega
 change ACode true _ _ _ _ _ (H3.put (K.size + 1) (.own 0 [.slice AA' (T.vars.take (i + 1)).length cA', .slice AB (T.parent.take i).length cB, .slice AC (T.links.take i).length cC, .map (some K.size)]))
 rw [← hH5]
 have slG5 : Sl kLink G5 (.slice Aw (Y1 f X w).length cw) (Y1 f X w) := by
  rw [hG5]
  exact (slG2.mono hleG4.sees).mono (Hp.sees_box _ g4t)
 obtain ⟨Gb, hleGb, hoB, backB⟩ := (hown5.rot stable_lists (stable_strs _)).open3
 have leK5 := Hp.le_trans leG5 hown5.le
 have h5t := Xr hown5.le (by omega) (by intro e; cases e) g5t
 have h50 := Xr leK5 (by omega) (by intro e; cases e) gK0
 have hcell25 := leK5.cell1 hb2 hcell2
 have zoB := hoB.size
 have zz5 := hown5.size
 have zb := hleGb.1
 clear hH5 hG5 hsameO
 refine Yy (by kernel_rfl) (Y4 (B := [0, 0, 2, 6, 14, 0, 32, 0, 128, 0, 896, 1920, 4064, 8160, 16382, 32767, 65535, 131071]) (π := [0, 1, 2, 3, 4, 5, 6, 7, 8, 9, 10, 11, 12, 13, 14, 15, 16, 17]) (by kernel_rfl)) ?_
 refine Xe rfl rfl (Xw Xn) Xt ?_
 refine Xe rfl rfl (Xw Xn) Xt ?_
 refine Xe rfl rfl (X7 rfl) Xt ?_
 refine Xe rfl rfl (Xf (off := 1) rfl Tryz.underlying91 rfl inf23.size (by decide) rfl) Xt ?_
 refine Xe rfl rfl (Xl rfl Tryz.underlying23 rfl Xo) Xt ?_
 refine Xe rfl rfl (Xf (off := 1) Xn Tryz.underlying26 Xn inf23.size (by decide) Xn) Xt ?_
 refine Xe rfl rfl (Xl rfl Tryz.underlying23 rfl Xo) Xt ?_
 refine Xe rfl rfl (Xf (off := 2) Xn Tryz.underlying26 Xn inf23.size (by decide) Xn) Xt ?_
 refine Xe rfl rfl (Xl rfl Tryz.underlying23 rfl Xo) Xt ?_
 refine Xe rfl rfl (Xb rfl) Xt ?_
 refine Xe rfl rfl (Xx rfl rfl Tryz.underlying23 inf3.size Yc Yc) Xt ?_
 refine Xe rfl rfl (Xl rfl Tryz.underlying3 rfl Xo) Xt ?_
 refine Yk rfl rfl (Xy (Index_ints f.order _ (par f w) _ (s1K.mono leK5.sees) (by omega)) rfl Tryz.func50 rfl rfl rfl ?_)
 rintro v6 H5 ⟨rfl, rfl⟩
 refine ⟨Yi, ?_⟩
 first | refine Zd rfl rfl (Yg (r := [.int .i64 _]) Tryz.underlying23 inf3.size inf3.zero rfl (by decide) (by decide) (by decide) rfl) ?_
 refine Yk rfl rfl (OwnP.append (ys := [atI f.order (par f w)]) (hoB.push _) Tryz.underlying23 inf3 rfl rfl rfl (Zw (k := Yv .i64) rfl rfl hoB.size rfl) (by rw [lenB]; simp only [List.length_singleton]; omega) (by rw [lenB]; simp only [List.length_singleton]; omega) ?_)
 rintro v7 G7 H7 hle7 hown7
 have hsameO := OwnP.sameO (hoB.push _) hle7 hown7
 rw [take_at tp] at hown7
 obtain ⟨AB', cB', rfl⟩ := hown7.shape
 have hle7' := Hp.le_trans (Hp.le_push _ _) hle7
 obtain ⟨G8, hleG8, hown8⟩ := backB G7 H7 _ _ hle7' hown7
 have g8t := Xr hleG8 (by omega) (by intro e; cases e) g5t
 have h7t := Xr hown8.le (by have := hleG8.1; omega) (by intro e; cases e) g8t
 refine ⟨Yi, ?_⟩
 refine Xe rfl rfl (X7 rfl) Xt ?_
 refine Xe rfl rfl (Xf (off := 1) rfl Tryz.underlying91 rfl inf23.size (by decide) rfl) Xt ?_
 first | refine Yk rfl rfl (Yz rfl rfl rfl inf23.size Ya Yd rfl ?_)
 refine ⟨Yi, ?_⟩
 refine Xc ?_
 obtain ⟨H9, hH9⟩ : ∃ H9, H9 = H7.put (K.size + 1) (.own 0 [.slice AA' (T.vars.take (i + 1)).length cA', .slice AB' (T.parent.take (i + 1)).length cB', .slice AC (T.links.take i).length cC, .map (some K.size)]) := ⟨_, rfl⟩
 obtain ⟨G9, hG9⟩ : ∃ G9, G9 = G8.put (K.size + 1) (.own 0 [.slice AA' (T.vars.take (i + 1)).length cA', .slice AB' (T.parent.take (i + 1)).length cB', .slice AC (T.links.take i).length cC, .map (some K.size)]) := ⟨_, rfl⟩
 have z8 := hleG8.1
 have hown9 := hown8.put_box (by omega) g8t [.slice AA' (T.vars.take (i + 1)).length cA', .slice AB' (T.parent.take (i + 1)).length cB', .slice AC (T.links.take i).length cC, .map (some K.size)]
 rw [← hG9, ← hH9] at hown9
 have leG9 : K.le G9 := by rw [hG9]; exact Hp.le_put_new (Hp.le_trans leG5 hleG8) (by omega) _
 have g9m : G9.get K.size = .map es := by rw [hG9, Hp.put_other _ _ (by omega)]; exact Xr hleG8 (by omega) (by intro e; cases e) g5m
 have g9t : G9.get (K.size + 1) = .own 0 [.slice AA' (T.vars.take (i + 1)).length cA', .slice AB' (T.parent.take (i + 1)).length cB', .slice AC (T.links.take i).length cC, .map (some K.size)] := by rw [hG9]; exact Hp.put_same _ _ _
 have z9 : K.size + 2 ≤ G9.size := by rw [hG9]; simp; omega
 change ACode true _ _ _ _ _ (H7.put (K.size + 1) (.own 0 [.slice AA' (T.vars.take (i + 1)).length cA', .slice AB' (T.parent.take (i + 1)).length cB', .slice AC (T.links.take i).length cC, .map (some K.size)]))
 rw [← hH9]
 have slG9 : Sl kLink G9 (.slice Aw (Y1 f X w).length cw) (Y1 f X w) := by
  rw [hG9]
  exact (slG5.mono hleG8.sees).mono (Hp.sees_box _ g8t)
 have hsl9 := slG9.mono hown9.le.sees
 have h9t := Xr hown9.le (by omega) (by intro e; cases e) g9t
 have zz9 := hown9.size
 clear hH9 hG9 hsameO
 refine Yy (by kernel_rfl) (Y4 (B := [0, 0, 2, 6, 14, 0, 32, 96, 254, 511, 1023, 2047]) (π := [0, 1, 2, 3, 4, 5, 6, 7, 8, 9, 10, 11]) (by kernel_rfl)) ?_
 refine Xe rfl rfl (Xw Xn) Xt ?_
 refine Xe rfl rfl (Xw Xn) Xt ?_
 refine Xe rfl rfl (X7 rfl) Xt ?_
 refine Xe rfl rfl (Xf (off := 2) rfl Tryz.underlying91 rfl inf27.size (by decide) rfl) Xt ?_
 refine Xe rfl rfl (Xl rfl Tryz.underlying27 rfl Xo) Xt ?_
 refine Xe rfl rfl (X1 rfl) Xt ?_
 refine Yk rfl rfl (Xy (Clone_links _ _ _ hsl9 hpll) rfl Tryz.func51 rfl rfl rfl ?_)
 rintro v10 H10 ⟨G10', hle10, hownL⟩; obtain ⟨AL, cL, rfl⟩ := hownL.shape; have hle10' := Hp.le_trans hle10 hownL.le; obtain ⟨G10, hleG10, hown10⟩ := hown9.later hle10'; have slL := hown10.below (Ze _) (Ze _) (Ze _) (by decide) (by decide) (by decide) hownL.sl; obtain ⟨Gc, hleGc, hoC, backC⟩ := (hown10.rot (stable_strs _) (stable_ints _)).open3; have slLc := slL.mono hleGc.sees; have zoC := hoC.size; have h10t := Xr hle10' (by omega) (by intro e; cases e) h9t; have z10 := hleG10.1; have zc := hleGc.1
 refine ⟨Yi, ?_⟩
 refine Zd rfl rfl (Yg (r := [.slice _ _ _]) Tryz.underlying27 inf83.size inf83.zero rfl (by decide) (by decide) (by decide) rfl) ?_
 refine Yk rfl rfl (OwnP.append (ys := [Y1 f X w]) (hoC.push _) Tryz.underlying27 inf83 rfl rfl rfl (Zw (k := kSl kLink) ⟨_, rfl, slLc⟩ rfl hoC.size rfl) (by rw [lenC]; simp only [List.length_singleton]; omega) (by rw [lenC]; simp only [List.length_singleton]; omega) ?_)
 rintro v11 G11 H11 hle11 hown11
 have hsameO := OwnP.sameO (hoC.push _) hle11 hown11
 rw [take_at tl] at hown11
 obtain ⟨AC', cC', rfl⟩ := hown11.shape
 have hle11' := Hp.le_trans (Hp.le_push _ _) hle11
 obtain ⟨G12, hleG12, hown12⟩ := backC G11 H11 _ _ hle11' hown11
 have g10t := Xr hleG10 (by omega) (by intro e; cases e) g9t
 have g12t := Xr hleG12 (by omega) (by intro e; cases e) g10t
 have h11t := Xr hown12.le (by have := hleG12.1; omega) (by intro e; cases e) g12t
 refine ⟨Yi, ?_⟩
 refine Xe rfl rfl (X7 rfl) Xt ?_
 refine Xe rfl rfl (Xf (off := 2) rfl Tryz.underlying91 rfl inf27.size (by decide) rfl) Xt ?_
 first | refine Yk rfl rfl (Yz rfl rfl rfl inf27.size Ya Yd rfl ?_)
 refine ⟨Yi, ?_⟩
 obtain ⟨H13, hH13⟩ : ∃ H13, H13 = H11.put (K.size + 1) (.own 0 [.slice AA' (T.vars.take (i + 1)).length cA', .slice AB' (T.parent.take (i + 1)).length cB', .slice AC' (T.links.take (i + 1)).length cC', .map (some K.size)]) := ⟨_, rfl⟩
 obtain ⟨G13, hG13⟩ : ∃ G13, G13 = G12.put (K.size + 1) (.own 0 [.slice AA' (T.vars.take (i + 1)).length cA', .slice AB' (T.parent.take (i + 1)).length cB', .slice AC' (T.links.take (i + 1)).length cC', .map (some K.size)]) := ⟨_, rfl⟩
 have z12 := hleG12.1
 have hown13 := hown12.put_box (by omega) g12t [.slice AA' (T.vars.take (i + 1)).length cA', .slice AB' (T.parent.take (i + 1)).length cB', .slice AC' (T.links.take (i + 1)).length cC', .map (some K.size)]
 rw [← hG13, ← hH13] at hown13
 have leG13 : K.le G13 := by rw [hG13]; exact Hp.le_put_new (Hp.le_trans leG9 (Hp.le_trans hleG10 hleG12)) (by omega) _
 have g13m : G13.get K.size = .map es := by rw [hG13, Hp.put_other _ _ (by omega)]; exact Xr (Hp.le_trans hleG10 hleG12) (by omega) (by intro e; cases e) g9m
 have g13t : G13.get (K.size + 1) = .own 0 [.slice AA' (T.vars.take (i + 1)).length cA', .slice AB' (T.parent.take (i + 1)).length cB', .slice AC' (T.links.take (i + 1)).length cC', .map (some K.size)] := by rw [hG13]; exact Hp.put_same _ _ _
 have z13 : K.size + 2 ≤ G13.size := by rw [hG13]; simp; omega
 change ACode true _ _ _ _ _ (H11.put (K.size + 1) (.own 0 [.slice AA' (T.vars.take (i + 1)).length cA', .slice AB' (T.parent.take (i + 1)).length cB', .slice AC' (T.links.take (i + 1)).length cC', .map (some K.size)]))
 rw [← hH13]
 have h13t := Xr hown13.le (by omega) (by intro e; cases e) g13t
 have h13m := Xr hown13.le (by omega) (by intro e; cases e) g13m
 have zz13 := hown13.size
 obtain ⟨sl1, sl2, sl3⟩ := hown13.sls
 clear hH13 hG13 hsameO
 have eP : (T.parent.take (i + 1)).getD i 0 = T.parent.getD i 0 := by rw [List.getD_eq_getElem?_getD, List.getD_eq_getElem?_getD, List.getElem?_take, if_pos (by omega)]
 have hiL : i < (T.links.take (i + 1)).length := by rw [List.length_take]; omega
 have eL : (T.links.take (i + 1))[i]'hiL = Y1 f X w := by
  rw [List.getElem_take]
  exact (List.getElem?_eq_some_iff.1 tl).2
 have eL2 : T.links.getD i [] = Y1 f X w := by rw [List.getD_eq_getElem?_getD, tl]; rfl
 refine Xs ?_
 refine Xa (Xw Xn) ?_
 refine Xa (Xb rfl) ?_
 refine Xv (Xy (group_tree (b := K.size + 1) (mb := K.size) (by omega) (by omega) h13t sl2 sl3 h13m i hiL (by rw [List.length_take]; omega) (by rw [eL]; exact hpll) (fun _ => by rw [eL]; exact hrise) hsp.keys (fun a => hsp.none i a (Nat.le_refl _))) rfl Tryz.func52 rfl rfl rfl ?_)
 rintro v14 H14 ⟨es', rfl, hes'⟩
 refine Xs ?_
 refine Xa (Yq Xn Xn Y2) ?_
 refine Xa (Xb rfl) ?_
 refine ⟨f.order.length - (i + 1), by omega, i + 1, G13.put K.size (.map es'), _, _, _, es', by omega, rfl, Hp.le_put_new leG13 (Nat.le_refl _) _, by simp; omega, Hp.put_same _ _ _, by rw [Hp.put_other _ _ (by omega)]; exact g13t, hown13.put_map (by omega) g13m es', hsp.step ?_, e2, e3, e7, e24, e25, rfl⟩
 rw [eP, eL] at hes'
 rw [eL2]
 exact hes'
 intro hc2
 (try simp only [Y5] at hc2)
 refine Y3 ?_
 refine Xc ?_
 refine Xs ?_
 refine Xa (Xw Xn) ?_
 refine Xa (Zp rfl) ?_
 refine Xa (Xj rfl) ?_
 refine X2 ?_
 obtain rfl : i = f.order.length := by omega
 obtain ⟨sl1, sl2, sl3⟩ := hown.sls
 rw [List.take_of_length_le (by omega)] at sl1 sl2 sl3
 have zz := hown.size
 exact ⟨_, Yt (Xp rfl) (Xp rfl), Hp.le_trans leK leK1, true, .pointer (some ⟨K.size + 1, 0, none⟩), hg, rfl, by
  rw [if_pos rfl]
  exact ⟨K.size + 1, K.size, A, B, C, es, rfl, by omega, by omega, Xr hown.le (by omega) (by intro e; cases e) gt, sl1, sl2, sl3, Xr hown.le (by omega) (by intro e; cases e) gm, by rw [tl3]; exact hsp⟩⟩
theorem sl_one1 {α : Type} {k : Kd α} {H : Hp} {b c st : Nat} {x : α} {u : Value} (hg : H.get b = .own st [u]) (hb : b < H.size) (h1 : k.rep H x [u]) (hst : k.sz = st) : Sl k H (.slice (some ⟨b, 0, none⟩) 1 c) [x] :=
 Els.sl (xs := [x]) (cs := [u]) (Els.cons (c := [u]) h1 (Els.nil _ _ [])) (Hp.sees.refl _) hb hg hst

theorem New_good (f : Forest) (p : Parts) (cs ds : List Value) (H : Hp) (hp : kForest.rep H f cs) (hq : kParts.rep H p ds) (hsm : Small f p) (hch : Cheap p) (hG : GoodP f p) :
  ACalls Tryz.prog 13 #[.agg cs.toArray, .agg ds.toArray] H (fun r H' => H.le H' ∧ ∃ b, r = .tuple #[.pointer (some ⟨b, 0, none⟩), .int .i64 0] ∧ TreeR H' (.pointer (some ⟨b, 0, none⟩)) (Z0 f (ofP f p))) :=
 (New_tree f p cs ds H hp hq hsm fun _ => hch).mono fun r H' ⟨hle, g, v, hg, hr, hv⟩ => by
  obtain rfl : g = true := hg.2 hG
  rw [if_pos rfl] at hv
  obtain ⟨b, _, _, _, _, _, rfl, _⟩ := id hv
  exact ⟨hle, b, hr, hv⟩
def Away (wb : Nat) (G G' : Hp) : Prop := (G.put wb .dead).le (G'.put wb .dead)
theorem Away.refl (wb : Nat) (G : Hp) : Away wb G G := Hp.le_refl _
theorem Away.trans {wb : Nat} {G G1 G2 : Hp} (h : Away wb G G1) (k : Away wb G1 G2) : Away wb G G2 := Hp.le_trans h k
theorem Away.of_le {wb : Nat} {G G' : Hp} (h : G.le G') : Away wb G G' := Hp.le_put_both h wb .dead
theorem Away.put {wb : Nat} {G G' : Hp} (h : Away wb G G') (x : Blk) : Away wb G (G'.put wb x) := by
 unfold Away at h ⊢
 rw [Hp.put_put]; exact h
theorem Away.size {wb : Nat} {G G' : Hp} (h : Away wb G G') : G.size ≤ G'.size := h.1
theorem Away.keep {wb : Nat} {G G' : Hp} (h : Away wb G G') {b : Nat} {x : Blk} (hb : b < G.size) (hne : b ≠ wb) (hd : x ≠ .dead) (hg : G.get b = x) : G'.get b = x := by
 have := h.2 b hb (by rw [Hp.put_other _ _ hne, hg]; exact hd)
 rw [Hp.put_other _ _ hne, Hp.put_other _ _ hne] at this
 rw [this, hg]
theorem Away.base {wb : Nat} {K G G' : Hp} (h : Away wb G G') (hk : K.le G) (hw : K.size ≤ wb) : K.le G' :=
 ⟨Nat.le_trans hk.1 h.1, fun b hb hd => h.keep (Nat.lt_of_lt_of_le hb hk.1) (by omega) hd (hk.2 b hb hd)⟩
theorem Away.sees {wb : Nat} {G G' : Hp} (h : Away wb G G') {cs : List Value} (hg : G.get wb = .own 0 cs) : G.sees G' := by
 have h1 := (Hp.sees_any G hg .dead).trans (Hp.le.sees h)
 have h2 := h1.dead (Hp.put_same _ _ _) (G'.get wb)
 rwa [Hp.put_put, Hp.put_self _ rfl] at h2
theorem Away.tree {wb : Nat} {G G' : Hp} (h : Away wb G G') {a b c d e : Value} (hg : G.get wb = .own 0 [a, b, c, d, e]) {v : Value} {T : TreeT} (ht : TreeR G v T) : TreeR G' v T := by
 have hs := h.sees hg
 obtain ⟨tb, mb, s0, s1, s2, es, rfl, h1, h2, h3, h4, h5, h6, h7, h8⟩ := ht
 have n1 : tb ≠ wb := fun e => by rw [e, hg] at h3; simp at h3
 have n2 : mb ≠ wb := fun e => by rw [e, hg] at h7; cases h7
 exact ⟨tb, mb, s0, s1, s2, es, rfl, Nat.lt_of_lt_of_le h1 h.size, Nat.lt_of_lt_of_le h2 h.size, h.keep h1 n1 (by intro e; cases e) h3, h4.mono hs, h5.mono hs, h6.mono hs, h.keep h2 n2 (by intro e; cases e) h7, h8⟩
def Vo (G H : Hp) (wb : Nat) (tv : Value) (S : Zr) : Prop := ∃ B c, wb < G.size ∧ G.get wb = .own 0 [tv, .slice B S.nodes.length c, .bool S.back, .bool S.over, .int .i64 S.steps] ∧ OwnP (Yv .i64) G H (.slice B S.nodes.length c) S.nodes
def rowN (o : Option RowT) : List Int := (o.map RowT.nodes).getD []
def rowC (o : Option RowT) : Int := (o.map RowT.cost).getD 0
def rowM (o : Option RowT) : Int := (o.map RowT.n).getD 0
def RowO (G : Hp) (r : Value) (o : Option RowT) : Prop := ∃ A c, r = .tuple #[.agg #[.slice A (rowN o).length c, .int .i64 (rowC o), .int .u64 (rowM o)], .bool o.isSome] ∧ Sl (Yv .i64) G (.slice A (rowN o).length c) (rowN o)
theorem Vt (G : Hp) : RowO G (.tuple #[.agg #[.slice none 0 0, .int .i64 0, .int .u64 0], .bool false]) none := ⟨none, 0, rfl, Sl.nil _ _⟩
theorem Row_rowT {T : TreeT} {v u : Value} {ns : List Int} {H : Hp} (ht : TreeR H v T) (hT : GoodT T) (hs : Sl (Yv .i64) H u ns) (hl : ns.length ≤ 1000000) :
  ACalls Tryz.prog 72 #[v, u] H (fun r H' => ∃ G1 A c, H.le G1 ∧ r = .tuple #[.agg #[.slice A (rowN (V0 T ns)).length c, .int .i64 (rowC (V0 T ns)), .int .u64 (rowM (V0 T ns))], .bool (V0 T ns).isSome] ∧ OwnP (Yv .i64) G1 H' (.slice A (rowN (V0 T ns)).length c) (rowN (V0 T ns))) :=
 (Row_tree ht hT hs hl).mono fun r H' ⟨hle, w, hr⟩ => by
  unfold V0
  split at hr
  ·rename_i h
   rw [if_pos h]
   cases hc : Vi T ns T.vars.length with
   | none => rw [hc] at hr; exact ⟨H', none, 0, hle, hr, OwnP.nil _ _⟩
   | some cn =>
    rw [hc] at hr
    obtain ⟨rfl, G1, l1, o1⟩ := hr
    obtain ⟨A, c, rfl⟩ := o1.shape
    exact ⟨G1, A, c, l1, rfl, o1⟩
  ·rename_i h
   rw [if_neg h]
   exact ⟨H', none, 0, hle, hr, OwnP.nil _ _⟩
theorem fresh_tree (tb : Nat) (H : Hp) : ACalls Tryz.prog 115 #[.pointer (some ⟨tb, 0, none⟩)] H (fun r H' => r = .pointer (some ⟨H.size, 0, none⟩) ∧ H.le H' ∧ Vo H' H' H.size (.pointer (some ⟨tb, 0, none⟩)) ⟨[], false, false, 0⟩) := by
 refine Xu Tryz.func115 rfl rfl rfl (by simp) ?_
 refine Xc ?_
 refine Xs ?_
 refine Xa (Zp rfl) ?_
 refine Xc ?_
 refine Xs ?_
 refine Xa (Xw rfl) ?_
 refine Xa (Y0 (pl := [(0, 1), (1, 1), (2, 1), (3, 1), (4, 1)]) (r := [.pointer _, .slice _ _ _, .bool _, .bool _, .int .i64 _]) Tryz.underlying167 inf167.zero (by decide) rfl rfl) ?_
 refine Xz (Yp rfl) ?_
 refine Xa (Zp rfl) ?_
 refine Xc ?_
 refine Xs ?_
 refine Xa (Xw rfl) ?_
 refine Xa (Xw rfl) ?_
 refine Xa (Vy rfl t_spot rfl Tryz.underlying37) ?_
 refine Xa (X7 rfl) ?_
 refine Xa (Xf (off := 3) rfl Tryz.underlying167 rfl inf4.size (by decide) rfl) ?_
 first | refine Xv (Yz rfl rfl rfl inf4.size Ya Yd rfl ?_)
 refine Xc ?_
 refine Xs ?_
 refine Xa (Xw rfl) ?_
 refine Xa (Zp rfl) ?_
 refine X2 ?_
 exact ⟨_, X0 (Xp rfl), rfl, Hp.le_put_new (H.le_push _) (Nat.le_refl _) _, none, 0, by simp, Hp.put_same _ _ _, OwnP.nil _ _⟩
theorem above_walk {T : TreeT} (hT : GoodT T) {tv : Value} {S : Zr} {wb : Nat} {G H : Hp} (hW : Vo G H wb tv S) (ht : TreeR G tv T) (i : Nat) (hi : i < T.vars.length) (hl : i ≤ S.nodes.length) :
  ACalls Tryz.prog 118 #[.pointer (some ⟨wb, 0, none⟩), .int .i64 i] H (fun r H' => r = .int .i64 (Yn T S.nodes i) ∧ H' = H) := by
 obtain ⟨B, c, hwb, gw, hown⟩ := hW
 have hw := Xr hown.le hwb (by intro e; cases e) gw
 have hp := hT.par i hi
 obtain ⟨tb, _, _, _, _, _, etv, _⟩ := id ht
 subst etv
 refine Xu Tryz.func118 rfl rfl rfl (by simp) ?_
 refine Xc ?_
 refine Xs ?_
 refine Xa (Xj rfl) ?_
 refine Xc ?_
 refine Xc ?_
 refine Xs ?_
 refine Xa (Xw rfl) ?_
 refine Xa (X7 rfl) ?_
 refine Xa (Xf (off := 0) rfl Tryz.underlying167 rfl inf37.size (by decide) rfl) ?_
 refine Xa (Xl rfl Tryz.underlying37 rfl Xo) ?_
 refine Xa (Xb rfl) ?_
 refine Xv (Xy (Parent_tree (ht.mono hown.le) hT.l1 (i : Int)) rfl Tryz.func121 rfl rfl rfl ?_)
 rintro v6 H ⟨rfl, rfl⟩; rw [if_pos ⟨by omega, by omega⟩, Int.toNat_natCast]
 refine Xa (Xj rfl) ?_
 refine Xc ?_
 refine Xs ?_
 refine Xa (Xb rfl) ?_
 refine Xa (Vb rfl rfl) ?_
 refine X4 rfl rfl ?_ ?_
 intro hc1
 have hne : T.parent.getD i 0 ≠ -1 := of_decide_eq_true hc1
 have hpr := hp.resolve_left hne
 obtain ⟨b, o, rfl, hb, hcell⟩ := hown.sl.int_at (i := T.parent.getD i 0) hpr.1 (by omega)
 refine Xc ?_
 refine Xs ?_
 refine Xa (Xw rfl) ?_
 refine Xa (X7 rfl) ?_
 refine Xa (Xf (off := 1) rfl Tryz.underlying167 rfl inf23.size (by decide) rfl) ?_
 refine Xa (Xl rfl Tryz.underlying23 rfl Xo) ?_
 refine Xa (Xb rfl) ?_
 refine Xa (Xx rfl rfl Tryz.underlying23 inf3.size Yc Yc) ?_
 refine Xa (Xl rfl Tryz.underlying3 rfl Xo) ?_
 refine Xa (Xj rfl) ?_
 refine X2 ?_
 exact ⟨.int .i64 (S.nodes.getD (T.parent.getD i 0).toNat 0), X0 (Xp rfl), by unfold Yn; rw [if_neg hne], rfl⟩
 intro hc1
 have hne : T.parent.getD i 0 = -1 := Decidable.not_not.1 (of_decide_eq_false hc1)
 refine X9 ?_
 refine Xc ?_
 refine Xs ?_
 refine Xa (Xj rfl) ?_
 refine X2 ?_
 exact ⟨.int .i64 (-1), X0 (Xp rfl), by unfold Yn; rw [if_pos hne], rfl⟩
theorem row_walk {T : TreeT} (hT : GoodT T) {tv : Value} {S : Zr} {wb : Nat} {G H : Hp} (hW : Vo G H wb tv S) (ht : TreeR G tv T) (hl : S.nodes.length ≤ 1000000) :
  ACalls Tryz.prog 138 #[.pointer (some ⟨wb, 0, none⟩)] H (fun r H' => ∃ G', G.le G' ∧ Vo G' H' wb tv S ∧ RowO G' r (V0 T S.nodes)) := by
 obtain ⟨B, c, hwb, gw, hown⟩ := hW
 have hw := Xr hown.le hwb (by intro e; cases e) gw
 have zz := hown.size
 obtain ⟨tb, _, _, _, _, _, etv, _⟩ := id ht
 subst etv
 have hownP := hown.push (.own 0 [.slice none 0 0, .int .i64 0, .int .u64 0])
 refine Xu Tryz.func138 rfl rfl rfl (by simp) ?_
 refine Xc ?_
 refine Xs ?_
 refine Xz (Ys (l := [.slice none 0 0, .int .i64 0, .int .u64 0]) inf46.zero rfl (by decide)) ?_
 refine Xa (Xi rfl) ?_
 refine Xc ?_
 refine Yy (by kernel_rfl) (Y4 (B := [0, 1, 3, 7, 0, 16, 48, 112, 255, 511, 511, 2047, 4095]) (π := [0, 1, 2, 3, 4, 5, 6, 7, 8, 9, 10, 11, 12]) (by kernel_rfl)) ?_
 refine Xe rfl rfl (Xw rfl) Xt ?_
 refine Xe rfl rfl (X7 rfl) Xt ?_
 refine Xe rfl rfl (Xf (off := 0) rfl Tryz.underlying167 rfl inf37.size (by decide) rfl) Xt ?_
 refine Xe rfl rfl (Xl rfl Tryz.underlying37 rfl Xo) Xt ?_
 refine Xe rfl rfl (Xw rfl) Xt ?_
 refine Xe rfl rfl (X7 rfl) Xt ?_
 refine Xe rfl rfl (Xf (off := 1) rfl Tryz.underlying167 rfl inf23.size (by decide) rfl) Xt ?_
 refine Xe rfl rfl (Xl rfl Tryz.underlying23 rfl Xo) Xt ?_
 refine Yk rfl rfl (Xy (Row_rowT ((ht.mono hown.le).mono (H.le_push _)) hT (hown.sl.mono (H.le_push _).sees) hl) rfl Tryz.func72 rfl rfl rfl ?_)
 rintro v6 H6 ⟨G1, A1, k1, le1, rfl, own1⟩; have le6 := Hp.le_trans le1 own1.le; have z6 := le6.1; simp only [Hp.push_size] at z6; have g6 : H6.get H.size = .own 0 [.slice none 0 0, .int .i64 0, .int .u64 0] := Xr le6 (by simp) (by intro e; cases e) Ya
 refine ⟨Yi, ?_⟩
 refine Xe rfl rfl (Yf rfl rfl) Xt ?_
 refine Xe rfl rfl (Yf rfl rfl) Xt ?_
 refine Yk rfl rfl (Ye (vs := [.slice _ _ _, .int .i64 _, .int .u64 _]) rfl rfl inf46.size Ya Yd rfl rfl ?_)
 refine ⟨Yi, ?_⟩
 refine Xe rfl rfl (Xi rfl) Xt ?_
 refine X2 ?_
 obtain ⟨G2, l2, o2⟩ := hownP.later le1
 obtain ⟨G3, o3, o4⟩ := OwnP.swap2 (stable_ints _) o2 own1
 have z2 := l2.1
 simp only [Hp.push_size] at z2
 have k2 : G2.get H.size = .own 0 [.slice none 0 0, .int .i64 0, .int .u64 0] := by
  have h1 : (G.push (.own 0 [.slice none 0 0, .int .i64 0, .int .u64 0])).get H.size = .own 0 [.slice none 0 0, .int .i64 0, .int .u64 0] := by rw [zz]; exact Hp.push_new _ _
  exact Xr l2 (by rw [zz]; simp) (by intro e; cases e) h1
 have k3 := Xr o3.le (by omega) (by intro e; cases e) k2
 have gw2 : G2.get wb = _ := Xr l2 (by simp; omega) (by intro e; cases e) ((Hp.push_old _ _ hwb).trans gw)
 have gw3 := Xr o3.le (by omega) (by intro e; cases e) gw2
 have z3 := o3.size
 exact ⟨_, Yt (Ym Xn (Yl (cs := [_, _, _]) Tryz.underlying46 rfl inf46.size X5)) (Xp rfl), G3.put H.size _, Hp.le_put_new (Hp.le_trans (G.le_push _) (Hp.le_trans l2 o3.le)) (by omega) _, ⟨B, c, by simp; omega, by rw [Hp.put_other _ _ (by omega)]; exact gw3, o4.put (by rw [k3]; intro e; cases e) _ (Hp.sees_box _ k3)⟩, A1, k1, rfl, o3.sl.mono (Hp.sees_box _ k3)⟩
theorem Away.put_new {wb : Nat} {G G' : Hp} (h : Away wb G G') {b : Nat} (hb : G.size ≤ b) (hne : b ≠ wb) (x : Blk) : Away wb G (G'.put b x) := by
 unfold Away at h ⊢
 rw [Hp.put_comm _ hne]
 exact Hp.le_put_new h hb x
theorem Away.push {wb : Nat} {G G' : Hp} (h : Away wb G G') (hw : wb < G'.size) (x : Blk) : Away wb G (G'.push x) := h.trans (.of_le (G'.le_push x))
set_option maxHeartbeats 1000000 in
theorem on_walk {T : TreeT} (hT : GoodT T) {tv : Value} {S : Zr} {wb : Nat} {G H : Hp} (hW : Vo G H wb tv S) (ht : TreeR G tv T) (hl : S.nodes.length ≤ T.vars.length) :
  ACalls Tryz.prog 148 #[.pointer (some ⟨wb, 0, none⟩)] H (fun r H' => ∃ G', Away wb G G' ∧ Vo G' H' wb tv (onS T S).1 ∧ RowO G' r (onS T S).2) := by
 have hfew := hT.few
 have hW1 : Vo (G.push (.own 0 [.slice none 0 0, .int .i64 0, .int .u64 0])) (H.push (.own 0 [.slice none 0 0, .int .i64 0, .int .u64 0])) wb tv S := by
  obtain ⟨B, c, hwb, gw, hown⟩ := hW
  exact ⟨B, c, by simp; omega, (Hp.push_old _ _ hwb).trans gw, hown.push _⟩
 have aw1 : Away wb G (G.push (.own 0 [.slice none 0 0, .int .i64 0, .int .u64 0])) := .of_le (G.le_push _)
 have ht1 := ht.mono (G.le_push (.own 0 [.slice none 0 0, .int .i64 0, .int .u64 0]))
 have gz1 : (G.push (.own 0 [.slice none 0 0, .int .i64 0, .int .u64 0])).get G.size = .own 0 [.slice none 0 0, .int .i64 0, .int .u64 0] := Hp.push_new _ _
 have zz0 : H.size = G.size := by obtain ⟨_, _, _, _, hown⟩ := hW; exact hown.size
 have zs1 : (G.push (.own 0 [.slice none 0 0, .int .i64 0, .int .u64 0])).size = G.size + 1 := by simp
 have hwb0 : wb < G.size := by obtain ⟨_, _, h, _, _⟩ := hW; exact h
 obtain ⟨tb, _, _, _, _, _, etv, _⟩ := id ht
 subst etv
 obtain ⟨G1, hG1⟩ : ∃ G1, G1 = G.push (.own 0 [.slice none 0 0, .int .i64 0, .int .u64 0]) := ⟨_, rfl⟩
 obtain ⟨H1, hH1⟩ : ∃ H1, H1 = H.push (.own 0 [.slice none 0 0, .int .i64 0, .int .u64 0]) := ⟨_, rfl⟩
 rw [← hG1, ← hH1] at hW1
 rw [← hG1] at aw1 ht1 gz1 zs1
 obtain ⟨B, c, hwb1, gw1, hown1⟩ := id hW1
 have hw1 := Xr hown1.le hwb1 (by intro e; cases e) gw1
 have hz1 := Xr hown1.le (by omega) (by intro e; cases e) gz1
 have zz1 := hown1.size
 clear hW ht
 refine Xu Tryz.func148 rfl rfl rfl (by simp) ?_
 refine Xc ?_
 refine Xs ?_
 refine Xz (Ys (l := [.slice none 0 0, .int .i64 0, .int .u64 0]) inf46.zero rfl (by decide)) ?_
 refine Xa (Xi rfl) ?_
 refine Xc ?_
 change ACode true _ _ _ _ _ (H.push (.own 0 [.slice none 0 0, .int .i64 0, .int .u64 0]))
 rw [← hH1, zz0]
 refine Xs ?_
 refine Xa (Xw rfl) ?_
 refine Xa (X7 rfl) ?_
 refine Xa (Xf (off := 1) rfl Tryz.underlying167 rfl inf23.size (by decide) rfl) ?_
 refine Xa (Xl rfl Tryz.underlying23 rfl Xo) ?_
 refine Xa (Yo rfl Tryz.underlying23) ?_
 refine Xa (Xj rfl) ?_
 refine Xc ?_
 refine Xc ?_
 refine Xs ?_
 refine Xa (Xb rfl) ?_
 refine Xa (Xw rfl) ?_
 refine Xa (X7 rfl) ?_
 refine Xa (Xf (off := 0) rfl Tryz.underlying167 rfl inf37.size (by decide) rfl) ?_
 refine Xa (Xl rfl Tryz.underlying37 rfl Xo) ?_
 refine Xv (Xy (Len_tree (ht1.mono hown1.le)) rfl Tryz.func62 rfl rfl rfl ?_)
 rintro v5 H1 ⟨rfl, rfl⟩
 refine Xa (Zs rfl rfl) ?_
 refine X4 rfl rfl ?_ ?_
 intro hc1
 have hfull : S.nodes.length = T.vars.length := by have := of_decide_eq_true hc1; omega
 have hon : onS T S = (⟨S.nodes, true, S.over, S.steps⟩, V0 T S.nodes) := by unfold onS; rw [if_pos hfull]
 refine Xc ?_
 refine Xs ?_
 refine Xa (Xw rfl) ?_
 refine Xa (X7 rfl) ?_
 refine Xa (Xf (off := 2) rfl Tryz.underlying167 rfl inf4.size (by decide) rfl) ?_
 first | refine Xv (Yz rfl rfl rfl inf4.size Ya Yd rfl ?_)
 refine Xc ?_
 have hW2 : Vo (G1.put wb (.own 0 [.pointer (some ⟨tb, 0, none⟩), .slice B S.nodes.length c, .bool true, .bool S.over, .int .i64 S.steps])) (H1.put wb (.own 0 [.pointer (some ⟨tb, 0, none⟩), .slice B S.nodes.length c, .bool true, .bool S.over, .int .i64 S.steps])) wb (.pointer (some ⟨tb, 0, none⟩)) ⟨S.nodes, true, S.over, S.steps⟩ :=
  ⟨B, c, by simpa using hwb1, Hp.put_same _ _ _, hown1.put (by rw [gw1]; intro e; cases e) _ (Hp.sees_box _ gw1)⟩
 have ht2 := (Away.put (.refl wb G1) (.own 0 [.pointer (some ⟨tb, 0, none⟩), .slice B S.nodes.length c, .bool true, .bool S.over, .int .i64 S.steps])).tree gw1 ht1
 refine Xs ?_
 refine Xa (Xw rfl) ?_
 refine Xv (Xy (row_walk hT hW2 ht2 (by show S.nodes.length ≤ _; omega)) rfl Tryz.func138 rfl rfl rfl ?_)
 rintro v6 H3 ⟨G3, le3, ⟨B3, c3, hwb3, gw3, hown3⟩, A3, k3, rfl, sl3⟩; have z3 := le3.1; simp only [Hp.put_size] at z3; have gz3 := Xr le3 (by simp; omega) (by intro e; cases e) ((Hp.put_other _ _ (by omega)).trans gz1); have hz3 := Xr hown3.le (by omega) (by intro e; cases e) gz3; have zz3 := hown3.size
 refine Xa (Yf rfl rfl) ?_
 refine Xa (Yf rfl rfl) ?_
 refine Xv (Ye (vs := [.slice _ _ _, .int .i64 _, .int .u64 _]) rfl rfl inf46.size Ya Yd rfl rfl ?_)
 refine Xa (Xi rfl) ?_
 refine X2 ?_
 rw [hon]
 exact ⟨_, Yt (Ym Xn (Yl (cs := [_, _, _]) Tryz.underlying46 rfl inf46.size X5)) (Xp rfl), G3.put G.size _, ((aw1.put _).trans (.of_le le3)).put_new (Nat.le_refl _) (by omega) _, ⟨B3, c3, by simpa using hwb3, by rw [Hp.put_other _ _ (by omega)]; exact gw3, hown3.put (by rw [gz3]; intro e; cases e) _ (Hp.sees_box _ gz3)⟩, A3, k3, rfl, sl3.mono (Hp.sees_box _ gz3)⟩
 intro hc1
 have hfull : ¬ S.nodes.length = T.vars.length := by have := of_decide_eq_false hc1; omega
 have hlt : S.nodes.length < T.vars.length := by omega
 refine X9 ?_
 refine Xc ?_
 refine Yy (by kernel_rfl) (Y4 (B := [0, 1, 3, 7, 0, 0, 0, 96, 255, 511]) (π := [0, 1, 2, 3, 4, 5, 6, 7, 8, 9]) (by kernel_rfl)) ?_
 refine Xe rfl rfl (Xw rfl) Xt ?_
 refine Xe rfl rfl (X7 rfl) Xt ?_
 refine Xe rfl rfl (Xf (off := 0) rfl Tryz.underlying167 rfl inf37.size (by decide) rfl) Xt ?_
 refine Xe rfl rfl (Xl rfl Tryz.underlying37 rfl Xo) Xt ?_
 refine Xe rfl rfl (Xb rfl) Xt ?_
 refine Xe rfl rfl (Xw rfl) Xt ?_
 refine Xe rfl rfl (Xb rfl) Xt ?_
 refine Yk rfl rfl (Xy (above_walk hT hW1 ht1 S.nodes.length hlt (Nat.le_refl _)) rfl Tryz.func118 rfl rfl rfl ?_)
 rintro v7 H1 ⟨rfl, rfl⟩
 refine ⟨Yi, ?_⟩
 refine Yk rfl rfl (Xy (Group_tree (ht1.mono hown1.le) hT.l1 hT.l2 hT.lens (S.nodes.length : Int) _) rfl Tryz.func91 rfl rfl rfl ?_)
 rintro v8 H3 ⟨GL, leL, hownL⟩; obtain ⟨L, hL⟩ : ∃ L, L = T.group S.nodes.length (Yn T S.nodes S.nodes.length) := ⟨_, rfl⟩; rw [← hL] at hownL; have slL := hownL.sl; obtain ⟨AL, cL, rfl⟩ := slL.shape; have le13 := Hp.le_trans leL hownL.le; obtain ⟨G3, le3, hown3⟩ := hown1.later le13; have slG := hown3.below (Ze _) (by decide) slL
 refine ⟨Yi, ?_⟩
 refine Xe rfl rfl (X8 rfl) Xt ?_
 refine Xc ?_
 refine Xc ?_
 have z3 := le3.1
 have zz3 := hown3.size
 have gw3 := Xr le3 hwb1 (by intro e; cases e) gw1
 have gz3 := Xr le3 (by omega) (by intro e; cases e) gz1
 have hw3 := Xr hown3.le (by omega) (by intro e; cases e) gw3
 have hz3 := Xr hown3.le (by omega) (by intro e; cases e) gz3
 have aw3 := aw1.trans (.of_le le3)
 have ht3 := ht1.mono le3
 refine Xs ?_
 refine Xa (X1 rfl) ?_
 refine Xa (Yo rfl Tryz.underlying83) ?_
 refine Xa (Zs rfl rfl) ?_
 refine X4 rfl rfl ?_ ?_
 intro hc2
 have hnil : L = [] := List.eq_nil_of_length_eq_zero (by have := of_decide_eq_true hc2; omega)
 have hon : onS T S = (⟨S.nodes, true, S.over, S.steps⟩, none) := by unfold onS; rw [if_neg hfull, ← hL, hnil]
 refine Xc ?_
 refine Xs ?_
 refine Xa (Xw rfl) ?_
 refine Xa (X7 rfl) ?_
 refine Xa (Xf (off := 2) rfl Tryz.underlying167 rfl inf4.size (by decide) rfl) ?_
 first | refine Xv (Yz rfl rfl rfl inf4.size Ya Yd rfl ?_)
 refine Xc ?_
 refine Xs ?_
 refine Xa (Y0 (pl := [(0, 1), (1, 1), (2, 1)]) (r := [.slice _ _ _, .int .i64 _, .int .u64 _]) Tryz.underlying46 inf46.zero (by decide) rfl rfl) ?_
 refine Xv (Ye (vs := [.slice _ _ _, .int .i64 _, .int .u64 _]) rfl rfl inf46.size Ya Yd rfl rfl ?_)
 refine Xa (Xi rfl) ?_
 refine X2 ?_
 rw [hon]
 exact ⟨_, Yt (Ym Xn (Yl (cs := [_, _, _]) Tryz.underlying46 rfl inf46.size X5)) (Xp rfl), (G3.put wb _).put G.size _, (aw3.put _).put_new (Nat.le_refl _) (by omega) _, ⟨B, c, by simp; omega, by rw [Hp.put_other _ _ (by omega)]; exact Hp.put_same _ _ _, (hown3.put (by rw [gw3]; intro e; cases e) _ (Hp.sees_box _ gw3)).put (by rw [Hp.put_other _ _ (by omega), gz3]; intro e; cases e) _ (Hp.sees_box (cs := [.slice none 0 0, .int .i64 0, .int .u64 0]) _ (by rw [Hp.put_other _ _ (by omega)]; exact gz3))⟩, Vt _⟩
 intro hc2
 have hpos : 0 < L.length := by have := of_decide_eq_false hc2; omega
 obtain ⟨l, ls, hls⟩ : ∃ l ls, L = l :: ls := by cases L with | nil => simp at hpos | cons l ls => exact ⟨l, ls, rfl⟩
 obtain ⟨bl, ol, el, hbl, hcl⟩ := slL.link_at hpos
 subst el
 have hl0 : L[0] = l := by simp only [hls, List.getElem_cons_zero]
 rw [hl0] at hcl
 have hclb := hcl 1 _ rfl
 refine X9 ?_
 refine Xc ?_
 refine Yy (by kernel_rfl) (Y4 (B := [0, 0, 2, 6, 14, 0, 32, 96, 224, 480, 1022, 2047, 4095, 8191]) (π := [0, 1, 2, 3, 4, 5, 6, 7, 8, 9, 10, 11, 12, 13]) (by kernel_rfl)) ?_
 refine Xe rfl rfl (Xw rfl) Xt ?_
 refine Xe rfl rfl (Xw rfl) Xt ?_
 refine Xe rfl rfl (X7 rfl) Xt ?_
 refine Xe rfl rfl (Xf (off := 1) rfl Tryz.underlying167 rfl inf23.size (by decide) rfl) Xt ?_
 refine Xe rfl rfl (Xl rfl Tryz.underlying23 rfl Xo) Xt ?_
 refine Xe rfl rfl (X1 rfl) Xt ?_
 refine Xe rfl rfl (Xx rfl rfl Tryz.underlying83 inf96.size Yc Yc) Xt ?_
 refine Xe rfl rfl (Xf (off := 1) rfl Tryz.underlying96 rfl inf3.size (by decide) rfl) Xt ?_
 refine Xe rfl rfl (Xl rfl Tryz.underlying3 rfl Xo) Xt ?_
 first | refine Zd rfl rfl (Yg (r := [.int .i64 _]) Tryz.underlying23 inf3.size inf3.zero rfl (by decide) (by decide) (by decide) rfl) ?_
 refine Yk rfl rfl (OwnP.append (ys := [l.b]) (hown3.push _) Tryz.underlying23 inf3 rfl rfl rfl (Zw (k := Yv .i64) rfl rfl hown3.size rfl) (by simp only [List.length_singleton]; omega) (by simp only [List.length_singleton]; omega) ?_)
 rintro v9 G5 H5 hle5 hown5
 have hsameO := OwnP.sameO (hown3.push _) hle5 hown5
 obtain ⟨B5, c5, rfl⟩ := hown5.shape
 have le35 := Hp.le_trans (Hp.le_push _ _) hle5
 have z5 := le35.1
 have zz5 := hown5.size
 have gw5 := Xr le35 (by omega) (by intro e; cases e) gw3
 have gz5 := Xr le35 (by omega) (by intro e; cases e) gz3
 have hw5 := Xr hown5.le (by omega) (by intro e; cases e) gw5
 have hz5 := Xr hown5.le (by omega) (by intro e; cases e) gz5
 have aw5 := aw3.trans (.of_le le35)
 have ht5 := ht3.mono le35
 refine ⟨Yi, ?_⟩
 refine Xe rfl rfl (X7 rfl) Xt ?_
 refine Xe rfl rfl (Xf (off := 1) rfl Tryz.underlying167 rfl inf23.size (by decide) rfl) Xt ?_
 first | refine Yk rfl rfl (Yz rfl rfl rfl inf23.size Ya Yd rfl ?_)
 refine ⟨Yi, ?_⟩
 refine Xc ?_
 refine Xc ?_
 obtain ⟨H6, hH6⟩ : ∃ H6, H6 = H5.put wb (.own 0 [.pointer (some ⟨tb, 0, none⟩), .slice B5 (S.nodes ++ [l.b]).length c5, .bool S.back, .bool S.over, .int .i64 S.steps]) := ⟨_, rfl⟩
 obtain ⟨G6, hG6⟩ : ∃ G6, G6 = G5.put wb (.own 0 [.pointer (some ⟨tb, 0, none⟩), .slice B5 (S.nodes ++ [l.b]).length c5, .bool S.back, .bool S.over, .int .i64 S.steps]) := ⟨_, rfl⟩
 have hown6 : OwnP (Yv .i64) G6 H6 (.slice B5 (S.nodes ++ [l.b]).length c5) (S.nodes ++ [l.b]) := by rw [hG6, hH6]; exact hown5.put (by rw [gw5]; intro e; cases e) _ (Hp.sees_box _ gw5)
 have gw6 : G6.get wb = .own 0 [.pointer (some ⟨tb, 0, none⟩), .slice B5 (S.nodes ++ [l.b]).length c5, .bool S.back, .bool S.over, .int .i64 S.steps] := by rw [hG6]; exact Hp.put_same _ _ _
 have gz6 : G6.get G.size = .own 0 [.slice none 0 0, .int .i64 0, .int .u64 0] := by rw [hG6, Hp.put_other _ _ (by omega)]; exact gz5
 have aw56 : Away wb G5 G6 := by rw [hG6]; exact Away.put (.refl _ _) _
 have aw6 := aw5.trans aw56
 have z6 := aw56.size
 have zz6 := hown6.size
 have hw6 := Xr hown6.le (by omega) (by intro e; cases e) gw6
 have hz6 := Xr hown6.le (by omega) (by intro e; cases e) gz6
 have ht6 := aw56.tree gw5 ht5
 change ACode true _ _ _ _ _ (H5.put wb (.own 0 [.pointer (some ⟨tb, 0, none⟩), .slice B5 (S.nodes ++ [l.b]).length c5, .bool S.back, .bool S.over, .int .i64 S.steps]))
 rw [← hH6]
 clear hH6 hG6 hsameO
 have hlen : (S.nodes ++ [l.b]).length = S.nodes.length + 1 := by simp
 refine Yy (by kernel_rfl) (Y4 (B := [0, 1, 3, 7, 15, 0, 32, 96, 224, 480, 1023]) (π := [0, 1, 2, 3, 4, 5, 6, 7, 8, 9, 10]) (by kernel_rfl)) ?_
 refine Xe rfl rfl (Xw rfl) Xt ?_
 refine Xe rfl rfl (X7 rfl) Xt ?_
 refine Xe rfl rfl (Xf (off := 1) rfl Tryz.underlying167 rfl inf23.size (by decide) rfl) Xt ?_
 refine Xe rfl rfl (Xl rfl Tryz.underlying23 rfl Xo) Xt ?_
 refine Xe rfl rfl (Yo rfl Tryz.underlying23) Xt ?_
 refine Xe rfl rfl (Xw rfl) Xt ?_
 refine Xe rfl rfl (X7 rfl) Xt ?_
 refine Xe rfl rfl (Xf (off := 0) rfl Tryz.underlying167 rfl inf37.size (by decide) rfl) Xt ?_
 refine Xe rfl rfl (Xl rfl Tryz.underlying37 rfl Xo) Xt ?_
 refine Yk rfl rfl (Xy (Len_tree (ht6.mono hown6.le)) rfl Tryz.func62 rfl rfl rfl ?_)
 rintro v10 H6 ⟨rfl, rfl⟩
 refine ⟨Yi, ?_⟩
 refine Xe rfl rfl (Zf rfl rfl) Xt ?_
 refine X4 rfl rfl ?_ ?_
 intro hc3
 have hmore : S.nodes.length + 1 < T.vars.length := by have := of_decide_eq_true hc3; omega
 have hon : onS T S = (⟨S.nodes ++ [l.b], S.back, S.over, S.steps⟩, none) := by unfold onS; rw [if_neg hfull, ← hL, hls]; exact if_pos hmore
 refine Xc ?_
 refine Xs ?_
 refine Xa (Y0 (pl := [(0, 1), (1, 1), (2, 1)]) (r := [.slice _ _ _, .int .i64 _, .int .u64 _]) Tryz.underlying46 inf46.zero (by decide) rfl rfl) ?_
 refine Xv (Ye (vs := [.slice _ _ _, .int .i64 _, .int .u64 _]) rfl rfl inf46.size Ya Yd rfl rfl ?_)
 refine Xa (Xi rfl) ?_
 refine X2 ?_
 rw [hon]
 exact ⟨_, Yt (Ym Xn (Yl (cs := [_, _, _]) Tryz.underlying46 rfl inf46.size X5)) (Xp rfl), G6.put G.size _, aw6.put_new (Nat.le_refl _) (by omega) _, ⟨B5, c5, by simp; omega, by rw [Hp.put_other _ _ (by omega)]; exact gw6, hown6.put (by rw [gz6]; intro e; cases e) _ (Hp.sees_box _ gz6)⟩, Vt _⟩
 intro hc3
 have hmore : ¬ S.nodes.length + 1 < T.vars.length := by have := of_decide_eq_false hc3; omega
 have hon : onS T S = (⟨S.nodes ++ [l.b], true, S.over, S.steps⟩, V0 T (S.nodes ++ [l.b])) := by unfold onS; rw [if_neg hfull, ← hL, hls]; exact if_neg hmore
 refine X9 ?_
 refine Xc ?_
 refine Xs ?_
 refine Xa (Xw rfl) ?_
 refine Xa (X7 rfl) ?_
 refine Xa (Xf (off := 2) rfl Tryz.underlying167 rfl inf4.size (by decide) rfl) ?_
 first | refine Xv (Yz rfl rfl rfl inf4.size Ya Yd rfl ?_)
 refine Xc ?_
 have hW7 : Vo (G6.put wb (.own 0 [.pointer (some ⟨tb, 0, none⟩), .slice B5 (S.nodes ++ [l.b]).length c5, .bool true, .bool S.over, .int .i64 S.steps])) (H6.put wb (.own 0 [.pointer (some ⟨tb, 0, none⟩), .slice B5 (S.nodes ++ [l.b]).length c5, .bool true, .bool S.over, .int .i64 S.steps])) wb (.pointer (some ⟨tb, 0, none⟩)) ⟨S.nodes ++ [l.b], true, S.over, S.steps⟩ :=
  ⟨B5, c5, by simp; omega, Hp.put_same _ _ _, hown6.put (by rw [gw6]; intro e; cases e) _ (Hp.sees_box _ gw6)⟩
 have ht7 := (Away.put (.refl wb G6) (.own 0 [.pointer (some ⟨tb, 0, none⟩), .slice B5 (S.nodes ++ [l.b]).length c5, .bool true, .bool S.over, .int .i64 S.steps])).tree gw6 ht6
 refine Xs ?_
 refine Xa (Xw rfl) ?_
 refine Xv (Xy (row_walk hT hW7 ht7 (by show (S.nodes ++ [l.b]).length ≤ _; omega)) rfl Tryz.func138 rfl rfl rfl ?_)
 rintro v11 H8 ⟨G8, le8, ⟨B8, c8, hwb8, gw8, hown8⟩, A8, k8, rfl, sl8⟩; have z8 := le8.1; simp only [Hp.put_size] at z8; have gz8 := Xr le8 (by simp; omega) (by intro e; cases e) ((Hp.put_other _ _ (by omega)).trans gz6); have hz8 := Xr hown8.le (by omega) (by intro e; cases e) gz8; have zz8 := hown8.size
 refine Xa (Yf rfl rfl) ?_
 refine Xa (Yf rfl rfl) ?_
 refine Xv (Ye (vs := [.slice _ _ _, .int .i64 _, .int .u64 _]) rfl rfl inf46.size Ya Yd rfl rfl ?_)
 refine Xa (Xi rfl) ?_
 refine X2 ?_
 rw [hon]
 exact ⟨_, Yt (Ym Xn (Yl (cs := [_, _, _]) Tryz.underlying46 rfl inf46.size X5)) (Xp rfl), G8.put G.size _, ((aw6.put _).trans (.of_le le8)).put_new (Nat.le_refl _) (by omega) _, ⟨B8, c8, by simpa using hwb8, by rw [Hp.put_other _ _ (by omega)]; exact gw8, hown8.put (by rw [gz8]; intro e; cases e) _ (Hp.sees_box _ gz8)⟩, A8, k8, rfl, sl8.mono (Hp.sees_box _ gz8)⟩
theorem Away.sees_map {wb : Nat} {G G' : Hp} (h : Away wb G G') {es : List (Value × Value)} (hg : G.get wb = .map es) : G.sees G' := by
 have h1 := (Hp.sees_map G hg .dead).trans (Hp.le.sees h)
 have h2 := h1.dead (Hp.put_same _ _ _) (G'.get wb)
 rwa [Hp.put_put, Hp.put_self _ rfl] at h2
structure SeenM (es : List (Value × Value)) (out : List Int) : Prop where
 keys : ∀ e ∈ es, MapKept.IsKey (.int .i64) e.1
 at_ : ∀ x : Int, Y7 es (.int .i64 x) = if x ∈ out then some (.int .i64 1) else none
theorem SeenM.nil : SeenM [] [] := ⟨fun e h => (by cases h), fun x => by rw [if_neg (by simp)]; rfl⟩
theorem SeenM.put {es : List (Value × Value)} {out : List Int} (h : SeenM es out) (x : Int) : SeenM (Vm es (.int .i64 x) (.int .i64 1)) (out ++ [x]) :=
 ⟨mapPut_keys h.keys rfl, fun y => by
  by_cases he : y = x
  ·subst he
   rw [mapGet_put, if_pos (by simp)]
  ·rw [Z6 (fun e => he (by injection e)), h.at_]
   simp [he]⟩

structure IntsM (es : List (Value × Value)) : Prop where
 keys : ∀ e ∈ es, IsSpot e.1
 vals : ∀ k v, Y7 es k = some v → ∃ n : Int, v = .int .u64 n ∧ 0 ≤ n
noncomputable def cntAt (es : List (Value × Value)) (i a : Int) : Int := match Y7 es (Zj i a) with
 | some (.int _ n) => n
 | _ => 0
theorem IntsM.get {es : List (Value × Value)} (h : IntsM es) (i a : Int) : (Y7 es (Zj i a)).getD (.int .u64 0) = .int .u64 (cntAt es i a) ∧ 0 ≤ cntAt es i a := by
 unfold cntAt
 cases hg : Y7 es (Zj i a) with
 | none => exact ⟨rfl, Int.le_refl _⟩
 | some v =>
  obtain ⟨n, rfl, hn⟩ := h.vals _ _ hg
  exact ⟨rfl, hn⟩
theorem IntsM.nil : IntsM [] := ⟨fun e h => (by cases h), fun k v h => (by cases h)⟩
theorem IntsM.put {es : List (Value × Value)} (h : IntsM es) (i a n : Int) (hn : 0 ≤ n) : IntsM (Vm es (Zj i a) (.int .u64 n)) :=
 ⟨mapPut_keys h.keys ⟨_, _, rfl⟩, fun k v hv => by
  by_cases he : k = Zj i a
  ·subst he
   rw [mapGet_put] at hv
   injection hv with hv
   exact ⟨n, hv.symm, hn⟩
  ·rw [Z6 he] at hv
   exact h.vals k v hv⟩
structure FillS (T : TreeT) (K : Hp) (tb cb mb ms i : Nat) (es10 es20 : List (Value × Value)) (H : Hp) (es1 es2 : List (Value × Value)) : Prop where
 le : K.le H
 hc : H.get cb = .own 0 [.pointer (some ⟨tb, 0, none⟩), .map (some mb), .map (some ms)]
 lc : cb < H.size
 hb : H.get mb = .map es1
 lb : mb < H.size
 hs : H.get ms = .map es2
 ls : ms < H.size
 i1 : IntsM es1
 i2 : IntsM es2
 o1 : ∀ (k : Int) b, k ≠ i → Y7 es1 (Zj k b) = Y7 es10 (Zj k b)
 o2 : ∀ (k : Int) b, k ≠ i → Y7 es2 (Zj k b) = Y7 es20 (Zj k b)
 v1 : ∀ b, Y7 es1 (Zj i b) = none ∨ (Y7 es1 (Zj i b) = some (.int .u64 (belT T T.vars.length i b)) ∧ ∃ a, ∃ x ∈ T.group i a, x.b = b)
 v2 : ∀ a, Y7 es2 (Zj i a) = none ∨ Y7 es2 (Zj i a) = some (.int .u64 (sumT T T.vars.length i a))
theorem FillS.later {T : TreeT} {K : Hp} {tb cb mb ms i : Nat} {es10 es20 es1 es2 : List (Value × Value)} {H H' : Hp} (h : FillS T K tb cb mb ms i es10 es20 H es1 es2) (hle : H.le H') : FillS T K tb cb mb ms i es10 es20 H' es1 es2 :=
 ⟨Hp.le_trans h.le hle, Xr hle h.lc (by intro e; cases e) h.hc, Nat.lt_of_lt_of_le h.lc hle.1, Xr hle h.lb (by intro e; cases e) h.hb, Nat.lt_of_lt_of_le h.lb hle.1, Xr hle h.ls (by intro e; cases e) h.hs, Nat.lt_of_lt_of_le h.ls hle.1, h.i1, h.i2, h.o1, h.o2, h.v1, h.v2⟩
theorem bel_deep {T : TreeT} (hT : GoodT T) {d i : Nat} (h : T.vars.length ≤ d + i + 1) (b : Int) : belT T d i b = belT T (d + 1) i b :=
 foldl_same fun n k hk => by
  obtain ⟨h3, h4⟩ := kids_lt hT hk
  rw [sumT_deep hT d k b h4 (by omega)]
theorem sum_is {T : TreeT} (hT : GoodT T) {i : Nat} (hi : i < T.vars.length) (a : Int) : sumT T T.vars.length i a = (T.group i a).foldl (fun s x => addI s (Zy x.n (belT T T.vars.length i x.b))) 0 := by
 obtain ⟨n, hn⟩ : ∃ n, T.vars.length = n + 1 := ⟨T.vars.length - 1, by omega⟩
 rw [hn, sumT_succ]
 exact foldl_same fun s x _ => by rw [bel_deep hT (by omega)]
theorem FillS.put2 {T : TreeT} {K : Hp} {tb cb mb ms i : Nat} {es10 es20 es1 es2 : List (Value × Value)} {H : Hp} (h : FillS T K tb cb mb ms i es10 es20 H es1 es2) (zs : K.size ≤ ms) (hne : mb ≠ ms) (a n : Int) (hn : 0 ≤ n) (hv : n = sumT T T.vars.length i a) : FillS T K tb cb mb ms i es10 es20 (H.put ms (.map (Vm es2 (Zj i a) (.int .u64 n)))) es1 (Vm es2 (Zj i a) (.int .u64 n)) := by
 have hcm : cb ≠ ms := fun e => by have := h.hc; rw [e, h.hs] at this; cases this
 refine ⟨Hp.le_put_new h.le zs _, by rw [Hp.put_other _ _ hcm]; exact h.hc, by simpa using h.lc, by rw [Hp.put_other _ _ hne]; exact h.hb, by simpa using h.lb, Hp.put_same _ _ _, by simpa using h.ls, h.i1, h.i2.put _ _ _ hn, h.o1, fun k c hk => ?_, h.v1, fun c => ?_⟩
 ·rw [Z6 (fun e => hk (spotV_inj e).1)]; exact h.o2 k c hk
 ·by_cases hc : c = a
  ·subst hc hv; exact .inr mapGet_put
  ·rw [Z6 (fun e => hc (spotV_inj e).2)]; exact h.v2 c



theorem again1_raw (xs : List Link) (A : Option Addr) (c i : Nat) (m : Int) (b1 b2 : Nat) (H : Hp) (h1 : H.cell? b1 0 = some (.slice A xs.length c)) (h2 : H.cell? b2 0 = some (.int .i64 m)) (hs : Sl kLink H (.slice A xs.length c) xs) (hi : i < xs.length) (hb1 : b1 < H.size) (hb2 : b2 < H.size) :
  ACalls Tryz.prog 152 #[.int .i64 i, .pointer (some ⟨b1, 0, none⟩), .pointer (some ⟨b2, 0, none⟩)] H (fun r _ => r = .bool (decide (m < xs[i].b))) := by
 obtain ⟨b, o, rfl, hb, hcell⟩ := hs.link_at hi
 have hcellb := hcell 1 _ rfl
 refine Xu Tryz.func152 rfl rfl rfl (by simp) ?_
 refine Xc ?_
 refine Xs ?_
 refine Xa (Xi rfl) ?_
 refine Xc ?_
 refine Yy (by kernel_rfl) (Y4 (B := [0, 0, 3, 7, 15, 0, 63, 127]) (π := [0, 1, 2, 3, 4, 5, 6, 7]) (by kernel_rfl)) ?_
 refine Xe rfl rfl (Xl rfl Tryz.underlying83 rfl Xo) Xt ?_
 refine Xe rfl rfl (Xb rfl) Xt ?_
 refine Xe rfl rfl (Xx rfl rfl Tryz.underlying83 inf96.size Yc Yc) Xt ?_
 refine Xe rfl rfl (Xf (off := 1) rfl Tryz.underlying96 rfl inf3.size (by decide) rfl) Xt ?_
 refine Xe rfl rfl (Xl rfl Tryz.underlying3 rfl Xo) Xt ?_
 refine Xe rfl rfl (Xl rfl Tryz.underlying3 rfl Xo) Xt ?_
 refine Xe rfl rfl (av_gt rfl rfl) Xt ?_
 refine Xe rfl rfl (Xi rfl) Xt ?_
 refine X2 ?_
 exact ⟨_, X0 (Xp rfl), rfl⟩
theorem nextB_at {g : List Link} {m : Int} {i : Nat} (hi : i < g.length) (h : m < g[i].b) (hno : ∀ j, j < i → ∀ h : j < g.length, ¬ m < g[j].b) : Ua g m = some g[i] := by
 unfold Ua
 rw [List.find?_eq_some_iff_getElem]
 exact ⟨decide_eq_true h, i, hi, rfl, fun j hj => by simp only [decide_eq_false (hno j hj (by omega)), Bool.not_false]⟩
theorem nextB_no {g : List Link} {m : Int} (h : ∀ l ∈ g, ¬ m < l.b) : Ua g m = none := by
 unfold Ua
 rw [List.find?_eq_none]
 intro l hl
 simp [h l hl]
set_option maxHeartbeats 2000000 in
theorem again_walk {T : TreeT} (hT : GoodT T) {tv : Value} {S : Zr} {wb : Nat} {G H : Hp} (hW : Vo G H wb tv S) (ht : TreeR G tv T) (hl : S.nodes.length ≤ T.vars.length) :
  ACalls Tryz.prog 147 #[.pointer (some ⟨wb, 0, none⟩)] H (fun r H' => ∃ G', Away wb G G' ∧ Vo G' H' wb tv (againS T S).1 ∧ RowO G' r (againS T S).2) := by
 have hfew := hT.few
 have hW1 : Vo (G.push (.own 0 [.slice none 0 0, .int .i64 0, .int .u64 0])) (H.push (.own 0 [.slice none 0 0, .int .i64 0, .int .u64 0])) wb tv S := by
  obtain ⟨B, c, hwb, gw, hown⟩ := hW
  exact ⟨B, c, by simp; omega, (Hp.push_old _ _ hwb).trans gw, hown.push _⟩
 have aw1 : Away wb G (G.push (.own 0 [.slice none 0 0, .int .i64 0, .int .u64 0])) := .of_le (G.le_push _)
 have ht1 := ht.mono (G.le_push (.own 0 [.slice none 0 0, .int .i64 0, .int .u64 0]))
 have gz1 : (G.push (.own 0 [.slice none 0 0, .int .i64 0, .int .u64 0])).get G.size = .own 0 [.slice none 0 0, .int .i64 0, .int .u64 0] := Hp.push_new _ _
 have zz0 : H.size = G.size := by obtain ⟨_, _, _, _, hown⟩ := hW; exact hown.size
 have zs1 : (G.push (.own 0 [.slice none 0 0, .int .i64 0, .int .u64 0])).size = G.size + 1 := by simp
 have hwb0 : wb < G.size := by obtain ⟨_, _, h, _, _⟩ := hW; exact h
 obtain ⟨tb, _, _, _, _, _, etv, _⟩ := id ht
 subst etv
 obtain ⟨G1, hG1⟩ : ∃ G1, G1 = G.push (.own 0 [.slice none 0 0, .int .i64 0, .int .u64 0]) := ⟨_, rfl⟩
 obtain ⟨H1, hH1⟩ : ∃ H1, H1 = H.push (.own 0 [.slice none 0 0, .int .i64 0, .int .u64 0]) := ⟨_, rfl⟩
 rw [← hG1, ← hH1] at hW1
 rw [← hG1] at aw1 ht1 gz1 zs1
 obtain ⟨B, c, hwb1, gw1, hown1⟩ := id hW1
 have hw1 := Xr hown1.le hwb1 (by intro e; cases e) gw1
 have hz1 := Xr hown1.le (by omega) (by intro e; cases e) gz1
 have zz1 := hown1.size
 clear hW ht
 refine Xu Tryz.func147 rfl rfl rfl (by simp) ?_
 refine Xc ?_
 refine Xs ?_
 refine Xz (Ys (l := [.slice none 0 0, .int .i64 0, .int .u64 0]) inf46.zero rfl (by decide)) ?_
 refine Xa (Xi rfl) ?_
 refine Xc ?_
 refine Xc ?_
 change ACode true _ _ _ _ _ (H.push (.own 0 [.slice none 0 0, .int .i64 0, .int .u64 0]))
 rw [← hH1, zz0]
 refine Xs ?_
 refine Xa (Xw rfl) ?_
 refine Xa (X7 rfl) ?_
 refine Xa (Xf (off := 1) rfl Tryz.underlying167 rfl inf23.size (by decide) rfl) ?_
 refine Xa (Xl rfl Tryz.underlying23 rfl Xo) ?_
 refine Xa (Yo rfl Tryz.underlying23) ?_
 refine Xa (Zs rfl rfl) ?_
 refine X4 rfl rfl ?_ ?_
 intro hc1
 have h0 : S.nodes.length = 0 := by have := of_decide_eq_true hc1; omega
 have hag : againS T S = (⟨S.nodes, S.back, true, S.steps⟩, none) := by unfold againS; rw [if_pos h0]
 refine Xc ?_
 refine Xs ?_
 refine Xa (Xw rfl) ?_
 refine Xa (X7 rfl) ?_
 refine Xa (Xf (off := 3) rfl Tryz.underlying167 rfl inf4.size (by decide) rfl) ?_
 first | refine Xv (Yz rfl rfl rfl inf4.size Ya Yd rfl ?_)
 refine Xc ?_
 refine Xs ?_
 refine Xa (Y0 (pl := [(0, 1), (1, 1), (2, 1)]) (r := [.slice _ _ _, .int .i64 _, .int .u64 _]) Tryz.underlying46 inf46.zero (by decide) rfl rfl) ?_
 refine Xv (Ye (vs := [.slice _ _ _, .int .i64 _, .int .u64 _]) rfl rfl inf46.size Ya Yd rfl rfl ?_)
 refine Xa (Xi rfl) ?_
 refine X2 ?_
 rw [hag]
 exact ⟨_, Yt (Ym Xn (Yl (cs := [_, _, _]) Tryz.underlying46 rfl inf46.size X5)) (Xp rfl), (G1.put wb _).put G.size _, (aw1.put _).put_new (Nat.le_refl _) (by omega) _, ⟨B, c, by simp; omega, by rw [Hp.put_other _ _ (by omega)]; exact Hp.put_same _ _ _, (hown1.put (by rw [gw1]; intro e; cases e) _ (Hp.sees_box _ gw1)).put (by rw [Hp.put_other _ _ (by omega), gz1]; intro e; cases e) _ (Hp.sees_box (cs := [.slice none 0 0, .int .i64 0, .int .u64 0]) _ (by rw [Hp.put_other _ _ (by omega)]; exact gz1))⟩, Vt _⟩
 intro hc1
 have h0 : ¬ S.nodes.length = 0 := by have := of_decide_eq_false hc1; omega
 obtain ⟨i, hi⟩ : ∃ i, S.nodes.length = i + 1 := ⟨S.nodes.length - 1, by omega⟩
 have hin : i < T.vars.length := by omega
 refine X9 ?_
 refine Xc ?_
 refine Xs ?_
 refine Xa (Xw rfl) ?_
 refine Xa (X7 rfl) ?_
 refine Xa (Xf (off := 1) rfl Tryz.underlying167 rfl inf23.size (by decide) rfl) ?_
 refine Xa (Xl rfl Tryz.underlying23 rfl Xo) ?_
 refine Xa (Yo rfl Tryz.underlying23) ?_
 refine Xa (av_sub_is (r := (i : Int)) rfl rfl (by omega) (by omega)) ?_
 refine Xa (Xj rfl) ?_
 refine Xc ?_
 obtain ⟨b0, cs0, eB, _, hb0, hd0, eH1, _, _⟩ := hown1.place (by omega)
 subst eB
 have gb0 : H1.get b0 = .own 1 cs0 := by rw [eH1]; exact Hp.put_same _ _ _
 obtain ⟨b9, o9, e9, hb9, hcell9⟩ := hown1.sl.int_at (i := (i : Int)) (by omega) (by omega)
 simp only [Option.some.injEq, Addr.mk.injEq, and_true] at e9
 obtain ⟨rfl, rfl⟩ := e9
 rw [Int.toNat_natCast] at hcell9
 obtain ⟨x, hx⟩ : ∃ x, x = S.nodes.getD i 0 := ⟨_, rfl⟩
 rw [← hx] at hcell9
 have hcut := (hown1.push (.own 0 [.int .i64 x])).cut (m := i) (by omega)
 refine Xs ?_
 refine Xa (Xw rfl) ?_
 refine Xa (X7 rfl) ?_
 refine Xa (Xf (off := 1) rfl Tryz.underlying167 rfl inf23.size (by decide) rfl) ?_
 refine Xa (Xl rfl Tryz.underlying23 rfl Xo) ?_
 refine Xa (Xb rfl) ?_
 refine Xa (Xx rfl rfl Tryz.underlying23 inf3.size Yc Yc) ?_
 refine Xa (Xl rfl Tryz.underlying3 rfl Xo) ?_
 refine Xz (Ys (l := [.int .i64 0]) inf3.zero rfl (by decide)) ?_
 first | refine Xv (Yz rfl rfl rfl inf3.size Ya Yd rfl ?_)
 refine Xc ?_
 refine Xs ?_
 refine Xa (Xw rfl) ?_
 refine Xa (Xw rfl) ?_
 refine Xa (X7 rfl) ?_
 refine Xa (Xf (off := 1) rfl Tryz.underlying167 rfl inf23.size (by decide) rfl) ?_
 refine Xa (Xl rfl Tryz.underlying23 rfl Xo) ?_
 refine Xa (Xb rfl) ?_
 refine Xa (av_take (m := i) Xn Tryz.underlying23 inf3.size Xn (by omega) (by omega) (.inr ⟨_, Ya⟩)) ?_
 refine Xa (X7 rfl) ?_
 refine Xa (Xf (off := 1) rfl Tryz.underlying167 rfl inf23.size (by decide) rfl) ?_
 first | refine Xv (Yz rfl rfl rfl inf23.size Ya Yd rfl ?_)
 refine Xc ?_
 obtain ⟨H3, hH3⟩ : ∃ H3, H3 = ((H1.push (.own 0 [.int .i64 0])).put H1.size (.own 0 [.int .i64 x])).put wb (.own 0 [.pointer (some ⟨tb, 0, none⟩), .slice (some ⟨b0, 0, none⟩) i c, .bool S.back, .bool S.over, .int .i64 S.steps]) := ⟨_, rfl⟩
 obtain ⟨G3, hG3⟩ : ∃ G3, G3 = ((G1.push (.own 0 [.int .i64 0])).put H1.size (.own 0 [.int .i64 x])).put wb (.own 0 [.pointer (some ⟨tb, 0, none⟩), .slice (some ⟨b0, 0, none⟩) i c, .bool S.back, .bool S.over, .int .i64 S.steps]) := ⟨_, rfl⟩
 have hlp : (S.nodes.take i).length = i := by rw [List.length_take]; omega
 have gw2 : ((G1.push (.own 0 [.int .i64 0])).put H1.size (.own 0 [.int .i64 x])).get wb = .own 0 [.pointer (some ⟨tb, 0, none⟩), .slice (some ⟨b0, 0, none⟩) S.nodes.length c, .bool S.back, .bool S.over, .int .i64 S.steps] := by rw [Hp.put_other _ _ (by omega), Hp.push_old _ _ hwb1]; exact gw1
 have hown3 : OwnP (Yv .i64) G3 H3 (.slice (some ⟨b0, 0, none⟩) i c) (S.nodes.take i) := by
  rw [hG3, hH3]
  refine OwnP.put ?_ (by rw [gw2]; intro e; cases e) _ (Hp.sees_box _ gw2)
  exact (hown1.boxed [.int .i64 0] [.int .i64 x]).cut (m := i) (by omega)
 have aw13 : Away wb G1 G3 := by rw [hG3]; exact ((Away.refl wb G1).push hwb1 _ |>.put_new (by omega) (by omega) _).put _
 have aw3 := aw1.trans aw13
 have gw3 : G3.get wb = .own 0 [.pointer (some ⟨tb, 0, none⟩), .slice (some ⟨b0, 0, none⟩) i c, .bool S.back, .bool S.over, .int .i64 S.steps] := by rw [hG3]; exact Hp.put_same _ _ _
 have gl3 : G3.get H1.size = .own 0 [.int .i64 x] := by rw [hG3, Hp.put_other _ _ (by omega)]; exact Hp.put_same _ _ _
 have gz3 : G3.get G.size = .own 0 [.slice none 0 0, .int .i64 0, .int .u64 0] := aw13.keep (by omega) (by omega) (by intro e; cases e) gz1
 have z3 : G3.size = G1.size + 1 := by rw [hG3]; simp
 have zz3 := hown3.size
 have ht3 := aw13.tree gw1 ht1
 have hw3 := Xr hown3.le (by omega) (by intro e; cases e) gw3
 have hl3 := Xr hown3.le (by omega) (by intro e; cases e) gl3
 have hz3 := Xr hown3.le (by omega) (by intro e; cases e) gz3
 have hWp : ∀ y, Vo (G3.push y) (H3.push y) wb (.pointer (some ⟨tb, 0, none⟩)) ⟨S.nodes.take i, S.back, S.over, S.steps⟩ := fun y => ⟨some ⟨b0, 0, none⟩, c, by simp; omega, by rw [Hp.push_old _ _ (by omega)]; simp only [hlp]; exact gw3, by simp only [hlp]; exact hown3.push _⟩
 change ACode true _ _ _ _ _ (((H1.push (.own 0 [.int .i64 0])).put H1.size (.own 0 [.int .i64 x])).put wb (.own 0 [.pointer (some ⟨tb, 0, none⟩), .slice (some ⟨b0, 0, none⟩) i c, .bool S.back, .bool S.over, .int .i64 S.steps]))
 rw [← hH3]
 clear hH3 hG3 hcut gw2
 have habv : Yn T S.nodes i = Yn T (S.nodes.take i) i := Z4 hT hin (fun j hj => (Vl hj).symm)
 refine Yy (by kernel_rfl) (Y4 (B := [0, 1, 3, 7, 0, 0, 0, 96, 255, 0, 1023]) (π := [0, 1, 2, 3, 4, 5, 6, 9, 7, 8, 10]) (by kernel_rfl)) ?_
 refine Xe rfl rfl (Xw rfl) Xt ?_
 refine Xe rfl rfl (X7 rfl) Xt ?_
 refine Xe rfl rfl (Xf (off := 0) rfl Tryz.underlying167 rfl inf37.size (by decide) rfl) Xt ?_
 refine Xe rfl rfl (Xl rfl Tryz.underlying37 rfl Xo) Xt ?_
 refine Xe rfl rfl (Xb rfl) Xt ?_
 refine Xe rfl rfl (Xw rfl) Xt ?_
 refine Xe rfl rfl (Xb rfl) Xt ?_
 refine Zd rfl rfl (Ys (l := [.slice none 0 0]) inf83.zero rfl (by decide)) ?_
 refine Yk rfl rfl (Xy (above_walk hT (hWp _) (ht3.mono (G3.le_push _)) i hin (by rw [hlp]; exact Nat.le_refl _)) rfl Tryz.func118 rfl rfl rfl ?_)
 rintro v7 H4 ⟨rfl, rfl⟩
 refine ⟨Yi, ?_⟩
 refine Yk rfl rfl (Xy (Group_tree ((ht3.mono hown3.le).mono (H3.le_push _)) hT.l1 hT.l2 hT.lens (i : Int) _) rfl Tryz.func91 rfl rfl rfl ?_)
 rintro v8 H5 ⟨GL, leL, hownL⟩; obtain ⟨L, hL⟩ : ∃ L, L = T.group i (Yn T S.nodes i) := ⟨_, rfl⟩; simp only [] at hownL; rw [← habv, ← hL] at hownL; have slL := hownL.sl; obtain ⟨AL, cL, rfl⟩ := slL.shape; have le35 := Hp.le_trans leL hownL.le; obtain ⟨G5, le5, hown5⟩ := (hown3.push (.own 0 [.slice none 0 0])).later le35; have slG := hown5.below (Ze _) (by decide) slL; have z5 := le5.1; simp only [Hp.push_size] at z5; have zz5 := hown5.size; have gq5 : G5.get H3.size = .own 0 [.slice none 0 0] := Xr le5 (by simp; omega) (by intro e; cases e) (by rw [zz3]; exact Hp.push_new _ _); have hq5 := Xr hown5.le (by omega) (by intro e; cases e) gq5; have gw5 := Xr le5 (by simp; omega) (by intro e; cases e) ((Hp.push_old _ _ (by omega)).trans gw3); have gl5 := Xr le5 (by simp; omega) (by intro e; cases e) ((Hp.push_old _ _ (by omega)).trans gl3); have gz5 := Xr le5 (by simp; omega) (by intro e; cases e) ((Hp.push_old _ _ (by omega)).trans gz3); have ht5 := (ht3.mono (G3.le_push (.own 0 [.slice none 0 0]))).mono le5; have aw5 := (aw3.push (by omega) (.own 0 [.slice none 0 0])).trans (.of_le le5)
 refine ⟨Yi, ?_⟩
 first | refine Yk rfl rfl (Yz rfl rfl rfl inf83.size Ya Yd rfl ?_)
 refine ⟨Yi, ?_⟩
 refine Xc ?_
 obtain ⟨H6, hH6⟩ : ∃ H6, H6 = H5.put H3.size (.own 0 [.slice AL L.length cL]) := ⟨_, rfl⟩
 obtain ⟨G6, hG6⟩ : ∃ G6, G6 = G5.put H3.size (.own 0 [.slice AL L.length cL]) := ⟨_, rfl⟩
 have hown6 : OwnP (Yv .i64) G6 H6 (.slice (some ⟨b0, 0, none⟩) i c) (S.nodes.take i) := by rw [hG6, hH6]; exact hown5.put (by rw [gq5]; intro e; cases e) _ (Hp.sees_box _ gq5)
 have se56 : G5.sees G6 := by rw [hG6]; exact Hp.sees_box _ gq5
 have slG6 := slG.mono se56
 have gq6 : G6.get H3.size = .own 0 [.slice AL L.length cL] := by rw [hG6]; exact Hp.put_same _ _ _
 have gw6 : G6.get wb = .own 0 [.pointer (some ⟨tb, 0, none⟩), .slice (some ⟨b0, 0, none⟩) i c, .bool S.back, .bool S.over, .int .i64 S.steps] := by rw [hG6, Hp.put_other _ _ (by omega)]; exact gw5
 have gl6 : G6.get H1.size = .own 0 [.int .i64 x] := by rw [hG6, Hp.put_other _ _ (by omega)]; exact gl5
 have gz6 : G6.get G.size = .own 0 [.slice none 0 0, .int .i64 0, .int .u64 0] := by rw [hG6, Hp.put_other _ _ (by omega)]; exact gz5
 have aw6 : Away wb G G6 := by rw [hG6]; exact aw5.put_new (by omega) (by omega) _
 have ht6 : TreeR G6 (.pointer (some ⟨tb, 0, none⟩)) T := by
  rw [hG6]
  obtain ⟨tb', mb, s0, s1, s2, es, e1, q1, q2, q3, q4, q5, q6, q7, q8⟩ := ht5
  have n1 : tb' ≠ H3.size := fun e => by rw [e, gq5] at q3; simp at q3
  have n2 : mb ≠ H3.size := fun e => by rw [e, gq5] at q7; cases q7
  have se := Hp.sees_box (cs' := [.slice AL L.length cL]) _ gq5
  exact ⟨tb', mb, s0, s1, s2, es, e1, q1, q2, by rw [Hp.put_other _ _ n1]; exact q3, q4.mono se, q5.mono se, q6.mono se, by rw [Hp.put_other _ _ n2]; exact q7, q8⟩
 have z6 : G6.size = G5.size := by rw [hG6]; simp
 have zz6 := hown6.size
 have hw6 := Xr hown6.le (by omega) (by intro e; cases e) gw6
 have hl6 := Xr hown6.le (by omega) (by intro e; cases e) gl6
 have hz6 := Xr hown6.le (by omega) (by intro e; cases e) gz6
 have hq6 := Xr hown6.le (by omega) (by intro e; cases e) gq6
 have slH6 := slG6.mono hown6.le.sees
 change ACode true _ _ _ _ _ (H5.put H3.size (.own 0 [.slice AL L.length cL]))
 rw [← hH6]
 clear hH6 hG6
 have hLl : L.length ≤ 1000000 := by rw [hL]; exact group_len hT.lens _ _
 have hLs : L.Pairwise fun x y => x.b < y.b := by rw [hL]; exact hT.sort _ _
 have hmono : ∀ (a b : Nat) (ha : a < L.length) (hb : b < L.length), a < b → L[a].b < L[b].b := fun a b ha hb h => List.pairwise_iff_getElem.1 hLs a b ha hb h
 have c1' : H6.cell? H3.size 0 = some (.slice AL L.length cL) := Zt (cs := [.slice AL L.length cL]) hq6
 have c2' : H6.cell? H1.size 0 = some (.int .i64 x) := Zt (cs := [.int .i64 x]) hl6
 have call1 : ∀ k, k < L.length → ACalls Tryz.prog 152 (#[.int .i64 (k : Nat)] ++ #[.pointer (some ⟨H3.size, 0, none⟩), .pointer (some ⟨H1.size, 0, none⟩)]) H6 (fun r H' => r = .bool (if h : k < L.length then decide (x < L[k].b) else true) ∧ H' = H6) := fun k hk =>
  ACalls.pure (R := fun r => r = .bool (if h : k < L.length then decide (x < L[k].b) else true)) (fun v h => by rw [h]; rfl) ((again1_raw L AL cL k x H3.size H1.size H6.ro (cell_ro c1') (cell_ro c2') (slH6.mono H6.sees_ro) hk (by show H3.size < H6.size; omega) (by show H1.size < H6.size; omega)).mono fun r _ h => by rw [h, dif_pos hk])
 have mono1 : ∀ a b, a ≤ b → b < L.length → (if h : a < L.length then decide (x < L[a].b) else true) = true → (if h : b < L.length then decide (x < L[b].b) else true) = true := fun a b hab hb h => by
  rw [dif_pos (by omega)] at h ⊢
  rcases Nat.lt_or_eq_of_le hab with h1 | h1
  ·have := hmono a b (by omega) hb h1
   have := of_decide_eq_true h
   exact decide_eq_true (by omega)
  ·subst h1; exact h
 have hag : againS T S = match Ua L x with
  | none => (⟨S.nodes.take i, S.back, S.over, S.steps⟩, none)
  | some l => if i + 1 < T.vars.length then (⟨S.nodes.take i ++ [l.b], false, S.over, S.steps⟩, none) else (⟨S.nodes.take i ++ [l.b], S.back, S.over, S.steps⟩, V0 T (S.nodes.take i ++ [l.b])) := by
  unfold againS
  rw [if_neg h0]
  simp only [hi, Nat.add_sub_cancel, ← hx, ← hL]
  try (cases Ua L x <;> rfl)
 refine Xs ?_
 refine Xa (Xl rfl Tryz.underlying83 rfl Xo) ?_
 refine Xa (Yo rfl Tryz.underlying83) ?_
 refine Xa (av_makeFunc) ?_
 refine Xv (Xy (Search_gen L.length 152 _ #[.pointer (some ⟨H3.size, 0, none⟩), .pointer (some ⟨H1.size, 0, none⟩)] (fun k => if h : k < L.length then decide (x < L[k].b) else true) H6 Tryz.func152 rfl rfl call1 mono1 (by omega)) rfl Tryz.func82 rfl rfl rfl ?_)
 rintro v9 H6 ⟨⟨lo, rfl, hlo, hlo1, hlo2⟩, rfl⟩
 refine Xa (Xj rfl) ?_
 refine Xc ?_
 refine Xc ?_
 refine Xs ?_
 refine Xa (Xb rfl) ?_
 refine Xa (Xl rfl Tryz.underlying83 rfl Xo) ?_
 refine Xa (Yo rfl Tryz.underlying83) ?_
 refine Xa (Zs rfl rfl) ?_
 refine X4 rfl rfl ?_ ?_
 intro hc2
 have heq : lo = L.length := by have := of_decide_eq_true hc2; omega
 have hnb : Ua L x = none := nextB_no fun l hl => by
  obtain ⟨j, hj, rfl⟩ := List.getElem_of_mem hl
  have := hlo1 j (by omega)
  rw [dif_pos hj] at this
  exact of_decide_eq_false this
 rw [hnb] at hag
 refine Xc ?_
 refine Xs ?_
 refine Xa (Y0 (pl := [(0, 1), (1, 1), (2, 1)]) (r := [.slice _ _ _, .int .i64 _, .int .u64 _]) Tryz.underlying46 inf46.zero (by decide) rfl rfl) ?_
 refine Xv (Ye (vs := [.slice _ _ _, .int .i64 _, .int .u64 _]) rfl rfl inf46.size Ya Yd rfl rfl ?_)
 refine Xa (Xi rfl) ?_
 refine X2 ?_
 rw [hag]
 exact ⟨_, Yt (Ym Xn (Yl (cs := [_, _, _]) Tryz.underlying46 rfl inf46.size X5)) (Xp rfl), G6.put G.size (.own 0 [.slice none 0 0, .int .i64 0, .int .u64 0]), aw6.put_new (Nat.le_refl _) (by omega) _, ⟨some ⟨b0, 0, none⟩, c, by simp; omega, by rw [Hp.put_other _ _ (by omega)]; simp only [hlp]; exact gw6, by simp only [hlp]; exact hown6.put (by rw [gz6]; intro e; cases e) _ (Hp.sees_box _ gz6)⟩, Vt _⟩
 intro hc2
 have hlt : lo < L.length := by have := of_decide_eq_false hc2; omega
 obtain ⟨bl, ol, el, hbl, hcl⟩ := slH6.link_at hlt
 subst el
 obtain ⟨l, hl'⟩ : ∃ l, l = L[lo] := ⟨_, rfl⟩
 rw [← hl'] at hcl
 have hclb := hcl 1 _ rfl
 have hnb : Ua L x = some l := by
  rw [hl']
  exact nextB_at hlt (by have := hlo2 lo (Nat.le_refl _) hlt; rw [dif_pos hlt] at this; exact of_decide_eq_true this) fun j hj h => by
   have := hlo1 j hj
   rw [dif_pos h] at this
   exact of_decide_eq_false this
 rw [hnb] at hag
 simp only at hag
 refine X9 ?_
 refine Xc ?_
 refine Yy (by kernel_rfl) (Y4 (B := [0, 0, 2, 6, 14, 0, 0, 96, 224, 480, 992, 2046, 4095, 8191, 16383]) (π := [0, 1, 2, 3, 4, 5, 6, 7, 8, 9, 10, 11, 12, 13, 14]) (by kernel_rfl)) ?_
 refine Xe rfl rfl (Xw rfl) Xt ?_
 refine Xe rfl rfl (Xw rfl) Xt ?_
 refine Xe rfl rfl (X7 rfl) Xt ?_
 refine Xe rfl rfl (Xf (off := 1) rfl Tryz.underlying167 rfl inf23.size (by decide) rfl) Xt ?_
 refine Xe rfl rfl (Xl rfl Tryz.underlying23 rfl Xo) Xt ?_
 refine Xe rfl rfl (Xl rfl Tryz.underlying83 rfl Xo) Xt ?_
 refine Xe rfl rfl (Xb rfl) Xt ?_
 refine Xe rfl rfl (Xx rfl rfl Tryz.underlying83 inf96.size Yc Yc) Xt ?_
 refine Xe rfl rfl (Xf (off := 1) rfl Tryz.underlying96 rfl inf3.size (by decide) rfl) Xt ?_
 refine Xe rfl rfl (Xl rfl Tryz.underlying3 rfl Xo) Xt ?_
 first | refine Zd rfl rfl (Yg (r := [.int .i64 _]) Tryz.underlying23 inf3.size inf3.zero rfl (by decide) (by decide) (by decide) rfl) ?_
 refine Yk rfl rfl (OwnP.append (ys := [l.b]) (hown6.push _) Tryz.underlying23 inf3 rfl rfl rfl (Zw (k := Yv .i64) rfl rfl hown6.size rfl) (by simp only [List.length_singleton, hlp]; omega) (by simp only [List.length_singleton, hlp]; omega) ?_)
 rintro v9 G7 H7 hle7 hown7
 have hsameO := OwnP.sameO (hown6.push _) hle7 hown7
 obtain ⟨B7, c7, rfl⟩ := hown7.shape
 have le67 := Hp.le_trans (Hp.le_push _ _) hle7
 have z7 := le67.1
 have zz7 := hown7.size
 have gw7 := Xr le67 (by omega) (by intro e; cases e) gw6
 have gz7 := Xr le67 (by omega) (by intro e; cases e) gz6
 have hw7 := Xr hown7.le (by omega) (by intro e; cases e) gw7
 have hz7 := Xr hown7.le (by omega) (by intro e; cases e) gz7
 have aw7 := aw6.trans (.of_le le67)
 have ht7 := ht6.mono le67
 refine ⟨Yi, ?_⟩
 refine Xe rfl rfl (X7 rfl) Xt ?_
 refine Xe rfl rfl (Xf (off := 1) rfl Tryz.underlying167 rfl inf23.size (by decide) rfl) Xt ?_
 first | refine Yk rfl rfl (Yz rfl rfl rfl inf23.size Ya Yd rfl ?_)
 refine ⟨Yi, ?_⟩
 refine Xc ?_
 refine Xc ?_
 obtain ⟨H8, hH8⟩ : ∃ H8, H8 = H7.put wb (.own 0 [.pointer (some ⟨tb, 0, none⟩), .slice B7 (S.nodes.take i ++ [l.b]).length c7, .bool S.back, .bool S.over, .int .i64 S.steps]) := ⟨_, rfl⟩
 obtain ⟨G8, hG8⟩ : ∃ G8, G8 = G7.put wb (.own 0 [.pointer (some ⟨tb, 0, none⟩), .slice B7 (S.nodes.take i ++ [l.b]).length c7, .bool S.back, .bool S.over, .int .i64 S.steps]) := ⟨_, rfl⟩
 have hown8 : OwnP (Yv .i64) G8 H8 (.slice B7 (S.nodes.take i ++ [l.b]).length c7) (S.nodes.take i ++ [l.b]) := by rw [hG8, hH8]; exact hown7.put (by rw [gw7]; intro e; cases e) _ (Hp.sees_box _ gw7)
 have gw8 : G8.get wb = .own 0 [.pointer (some ⟨tb, 0, none⟩), .slice B7 (S.nodes.take i ++ [l.b]).length c7, .bool S.back, .bool S.over, .int .i64 S.steps] := by rw [hG8]; exact Hp.put_same _ _ _
 have gz8 : G8.get G.size = .own 0 [.slice none 0 0, .int .i64 0, .int .u64 0] := by rw [hG8, Hp.put_other _ _ (by omega)]; exact gz7
 have aw78 : Away wb G7 G8 := by rw [hG8]; exact Away.put (.refl _ _) _
 have aw8 := aw7.trans aw78
 have z8 := aw78.size
 have zz8 := hown8.size
 have hw8 := Xr hown8.le (by omega) (by intro e; cases e) gw8
 have hz8 := Xr hown8.le (by omega) (by intro e; cases e) gz8
 have ht8 := aw78.tree gw7 ht7
 change ACode true _ _ _ _ _ (H7.put wb (.own 0 [.pointer (some ⟨tb, 0, none⟩), .slice B7 (S.nodes.take i ++ [l.b]).length c7, .bool S.back, .bool S.over, .int .i64 S.steps]))
 rw [← hH8]
 clear hH8 hG8 hsameO
 have hlen : (S.nodes.take i ++ [l.b]).length = i + 1 := by rw [List.length_append, hlp, List.length_singleton]
 refine Yy (by kernel_rfl) (Y4 (B := [0, 1, 3, 7, 15, 0, 32, 96, 224, 480, 1023]) (π := [0, 1, 2, 3, 4, 5, 6, 7, 8, 9, 10]) (by kernel_rfl)) ?_
 refine Xe rfl rfl (Xw rfl) Xt ?_
 refine Xe rfl rfl (X7 rfl) Xt ?_
 refine Xe rfl rfl (Xf (off := 1) rfl Tryz.underlying167 rfl inf23.size (by decide) rfl) Xt ?_
 refine Xe rfl rfl (Xl rfl Tryz.underlying23 rfl Xo) Xt ?_
 refine Xe rfl rfl (Yo rfl Tryz.underlying23) Xt ?_
 refine Xe rfl rfl (Xw rfl) Xt ?_
 refine Xe rfl rfl (X7 rfl) Xt ?_
 refine Xe rfl rfl (Xf (off := 0) rfl Tryz.underlying167 rfl inf37.size (by decide) rfl) Xt ?_
 refine Xe rfl rfl (Xl rfl Tryz.underlying37 rfl Xo) Xt ?_
 refine Yk rfl rfl (Xy (Len_tree (ht8.mono hown8.le)) rfl Tryz.func62 rfl rfl rfl ?_)
 rintro v10 H8 ⟨rfl, rfl⟩
 refine ⟨Yi, ?_⟩
 refine Xe rfl rfl (Zf rfl rfl) Xt ?_
 refine X4 rfl rfl ?_ ?_
 intro hc3
 have hmore : i + 1 < T.vars.length := by have := of_decide_eq_true hc3; omega
 rw [if_pos hmore] at hag
 refine Xc ?_
 refine Xs ?_
 refine Xa (Xw rfl) ?_
 refine Xa (X7 rfl) ?_
 refine Xa (Xf (off := 2) rfl Tryz.underlying167 rfl inf4.size (by decide) rfl) ?_
 first | refine Xv (Yz rfl rfl rfl inf4.size Ya Yd rfl ?_)
 refine Xc ?_
 refine Xs ?_
 refine Xa (Y0 (pl := [(0, 1), (1, 1), (2, 1)]) (r := [.slice _ _ _, .int .i64 _, .int .u64 _]) Tryz.underlying46 inf46.zero (by decide) rfl rfl) ?_
 refine Xv (Ye (vs := [.slice _ _ _, .int .i64 _, .int .u64 _]) rfl rfl inf46.size Ya Yd rfl rfl ?_)
 refine Xa (Xi rfl) ?_
 refine X2 ?_
 rw [hag]
 exact ⟨_, Yt (Ym Xn (Yl (cs := [_, _, _]) Tryz.underlying46 rfl inf46.size X5)) (Xp rfl), (G8.put wb _).put G.size _, (aw8.put _).put_new (Nat.le_refl _) (by omega) _, ⟨B7, c7, by simp; omega, by rw [Hp.put_other _ _ (by omega)]; exact Hp.put_same _ _ _, (hown8.put (by rw [gw8]; intro e; cases e) _ (Hp.sees_box _ gw8)).put (by rw [Hp.put_other _ _ (by omega), gz8]; intro e; cases e) _ (Hp.sees_box (cs := [.slice none 0 0, .int .i64 0, .int .u64 0]) _ (by rw [Hp.put_other _ _ (by omega)]; exact gz8))⟩, Vt _⟩
 intro hc3
 have hmore : ¬ i + 1 < T.vars.length := by have := of_decide_eq_false hc3; omega
 rw [if_neg hmore] at hag
 refine X9 ?_
 refine Xc ?_
 have hW9 : Vo G8 H8 wb (.pointer (some ⟨tb, 0, none⟩)) ⟨S.nodes.take i ++ [l.b], S.back, S.over, S.steps⟩ := ⟨B7, c7, by omega, gw8, hown8⟩
 refine Xs ?_
 refine Xa (Xw rfl) ?_
 refine Xv (Xy (row_walk hT hW9 ht8 (by show (S.nodes.take i ++ [l.b]).length ≤ _; omega)) rfl Tryz.func138 rfl rfl rfl ?_)
 rintro v11 H9 ⟨G9, le9, ⟨B9, c9, hwb9, gw9, hown9⟩, A9, k9, rfl, sl9⟩; have z9 := le9.1; have gz9 := Xr le9 (by omega) (by intro e; cases e) gz8; have hz9 := Xr hown9.le (by omega) (by intro e; cases e) gz9; have zz9 := hown9.size
 refine Xa (Yf rfl rfl) ?_
 refine Xa (Yf rfl rfl) ?_
 refine Xv (Ye (vs := [.slice _ _ _, .int .i64 _, .int .u64 _]) rfl rfl inf46.size Ya Yd rfl rfl ?_)
 refine Xa (Xi rfl) ?_
 refine X2 ?_
 rw [hag]
 exact ⟨_, Yt (Ym Xn (Yl (cs := [_, _, _]) Tryz.underlying46 rfl inf46.size X5)) (Xp rfl), G9.put G.size _, (aw8.trans (.of_le le9)).put_new (Nat.le_refl _) (by omega) _, ⟨B9, c9, by simpa using hwb9, by rw [Hp.put_other _ _ (by omega)]; exact gw9, hown9.put (by rw [gz9]; intro e; cases e) _ (Hp.sees_box _ gz9)⟩, A9, k9, rfl, sl9.mono (Hp.sees_box _ gz9)⟩
theorem step_over {T : TreeT} {S : Zr} (h : S.over = true) : Vp T S = (S, none) := if_pos h
set_option maxHeartbeats 1000000 in
theorem step_walk {T : TreeT} (hT : GoodT T) {tv : Value} {S : Zr} {wb : Nat} {G H : Hp} (hW : Vo G H wb tv S) (ht : S.over = false → TreeR G tv T) (hl : S.nodes.length ≤ T.vars.length) (hs0 : 0 ≤ S.steps) (hs1 : S.steps ≤ 1000000000000) (htv : ∃ v, tv = .pointer v) :
  ACalls Tryz.prog 137 #[.pointer (some ⟨wb, 0, none⟩)] H (fun r H' => ∃ G', Away wb G G' ∧ Vo G' H' wb tv (Vp T S).1 ∧ RowO G' r (Vp T S).2) := by
 obtain ⟨v0, rfl⟩ := htv
 obtain ⟨B, c, hwb, gw, hown⟩ := hW
 have zz := hown.size
 have hownP := hown.push (.own 0 [.slice none 0 0, .int .i64 0, .int .u64 0])
 have gwP : (G.push (.own 0 [.slice none 0 0, .int .i64 0, .int .u64 0])).get wb = .own 0 [.pointer v0, .slice B S.nodes.length c, .bool S.back, .bool S.over, .int .i64 S.steps] := (Hp.push_old _ _ hwb).trans gw
 have gzP : (G.push (.own 0 [.slice none 0 0, .int .i64 0, .int .u64 0])).get H.size = .own 0 [.slice none 0 0, .int .i64 0, .int .u64 0] := by rw [zz]; exact Hp.push_new _ _
 have hw := Xr hownP.le (by simp; omega) (by intro e; cases e) gwP
 have hz := Xr hownP.le (by simp; omega) (by intro e; cases e) gzP
 have awP : Away wb G (G.push (.own 0 [.slice none 0 0, .int .i64 0, .int .u64 0])) := .of_le (G.le_push _)
 refine Xu Tryz.func137 rfl rfl rfl (by simp) ?_
 refine Xc ?_
 refine Xs ?_
 refine Xz (Ys (l := [.slice none 0 0, .int .i64 0, .int .u64 0]) inf46.zero rfl (by decide)) ?_
 refine Xa (Xi rfl) ?_
 refine Xc ?_
 refine Xc ?_
 refine Xs ?_
 refine Xa (Xw rfl) ?_
 refine Xa (Vy rfl t_spot rfl Tryz.underlying162) ?_
 refine Xa (Xq rfl) ?_
 refine Yb rfl rfl rfl ?_ ?_
 intro hg1
 cases hg1
 intro hg1
 have hp1 := hg1; try simp only [Y5] at hp1
 refine Xk (Xh rfl rfl rfl hg1) (Xw rfl) ?_
 refine Xk (Xh rfl rfl rfl hg1) (X7 rfl) ?_
 refine Xk (Xh rfl rfl rfl hg1) (Xf (off := 3) rfl Tryz.underlying167 rfl inf4.size (by decide) rfl) ?_
 refine Xk (Xh rfl rfl rfl hg1) (Xl rfl Tryz.underlying4 rfl Xo) ?_
 refine Xa (Xm (Yu hg1) rfl) ?_
 refine X4 rfl rfl ?_ ?_
 intro hc2
 have ho : S.over = true := hc2
 refine Xc ?_
 refine Xs ?_
 refine Xa (Y0 (pl := [(0, 1), (1, 1), (2, 1)]) (r := [.slice _ _ _, .int .i64 _, .int .u64 _]) Tryz.underlying46 inf46.zero (by decide) rfl rfl) ?_
 refine Xv (Ye (vs := [.slice _ _ _, .int .i64 _, .int .u64 _]) rfl rfl inf46.size Ya Yd rfl rfl ?_)
 refine Xa (Xi rfl) ?_
 refine X2 ?_
 rw [step_over ho]
 exact ⟨_, Yt (Ym Xn (Yl (cs := [_, _, _]) Tryz.underlying46 rfl inf46.size X5)) (Xp rfl), (G.push (.own 0 [.slice none 0 0, .int .i64 0, .int .u64 0])).put H.size (.own 0 [.slice none 0 0, .int .i64 0, .int .u64 0]), awP.put_new (by omega) (by omega) _, ⟨B, c, by simp; omega, by rw [Hp.put_other _ _ (by omega)]; exact gwP, hownP.put (by rw [gzP]; intro e; cases e) _ (Hp.sees_box _ gzP)⟩, Vt _⟩
 intro hc2
 have ho : S.over = false := hc2
 have ho' : ¬ S.over = true := by rw [ho]; decide
 have ht1 := (ht ho).mono (G.le_push (.own 0 [.slice none 0 0, .int .i64 0, .int .u64 0]))
 refine X9 ?_
 refine Xc ?_
 refine Xs ?_
 refine Xa (Xw rfl) ?_
 refine Xa (X7 rfl) ?_
 refine Xa (Xf (off := 4) rfl Tryz.underlying167 rfl inf3.size (by decide) rfl) ?_
 refine Xa (Xl rfl Tryz.underlying3 rfl Xo) ?_
 refine Xa (Yq rfl rfl Y2) ?_
 refine Xa (X7 rfl) ?_
 refine Xa (Xf (off := 4) rfl Tryz.underlying167 rfl inf3.size (by decide) rfl) ?_
 first | refine Xv (Yz rfl rfl rfl inf3.size Ya Yd rfl ?_)
 refine Xc ?_
 refine Xc ?_
 obtain ⟨H2, hH2⟩ : ∃ H2, H2 = (H.push (.own 0 [.slice none 0 0, .int .i64 0, .int .u64 0])).put wb (.own 0 [.pointer v0, .slice B S.nodes.length c, .bool S.back, .bool S.over, .int .i64 (S.steps + 1)]) := ⟨_, rfl⟩
 obtain ⟨G2, hG2⟩ : ∃ G2, G2 = (G.push (.own 0 [.slice none 0 0, .int .i64 0, .int .u64 0])).put wb (.own 0 [.pointer v0, .slice B S.nodes.length c, .bool S.back, .bool S.over, .int .i64 (S.steps + 1)]) := ⟨_, rfl⟩
 have hown2 : OwnP (Yv .i64) G2 H2 (.slice B S.nodes.length c) S.nodes := by rw [hG2, hH2]; exact hownP.put (by rw [gwP]; intro e; cases e) _ (Hp.sees_box _ gwP)
 have gw2 : G2.get wb = .own 0 [.pointer v0, .slice B S.nodes.length c, .bool S.back, .bool S.over, .int .i64 (S.steps + 1)] := by rw [hG2]; exact Hp.put_same _ _ _
 have gz2 : G2.get H.size = .own 0 [.slice none 0 0, .int .i64 0, .int .u64 0] := by rw [hG2, Hp.put_other _ _ (by omega)]; exact gzP
 have awP2 : Away wb (G.push (.own 0 [.slice none 0 0, .int .i64 0, .int .u64 0])) G2 := by rw [hG2]; exact Away.put (.refl _ _) _
 have aw2 := awP.trans awP2
 have ht2 := awP2.tree gwP ht1
 have z2 : G2.size = G.size + 1 := by rw [hG2]; simp
 have hw2 := Xr hown2.le (by omega) (by intro e; cases e) gw2
 have hz2 := Xr hown2.le (by omega) (by intro e; cases e) gz2
 have hW2 : Vo G2 H2 wb (.pointer v0) ⟨S.nodes, S.back, S.over, S.steps + 1⟩ := ⟨B, c, by omega, gw2, hown2⟩
 change ACode true _ _ _ _ _ ((H.push (.own 0 [.slice none 0 0, .int .i64 0, .int .u64 0])).put wb (.own 0 [.pointer v0, .slice B S.nodes.length c, .bool S.back, .bool S.over, .int .i64 (S.steps + 1)]))
 rw [← hH2]
 clear hH2 hG2
 refine Xs ?_
 refine Xa (Xw rfl) ?_
 refine Xa (X7 rfl) ?_
 refine Xa (Xf (off := 2) rfl Tryz.underlying167 rfl inf4.size (by decide) rfl) ?_
 refine Xa (Xl rfl Tryz.underlying4 rfl Xo) ?_
 refine X4 rfl rfl ?_ ?_
 intro hc3
 have hb : S.back = true := hc3
 have hst : Vp T S = againS T ⟨S.nodes, S.back, S.over, S.steps + 1⟩ := by unfold Vp; rw [if_neg ho', if_pos hb]
 refine Xc ?_
 refine Xs ?_
 refine Xa (Xw rfl) ?_
 refine Xv (Xy (again_walk hT hW2 ht2 hl) rfl Tryz.func147 rfl rfl rfl ?_)
 rintro v11 H9 ⟨G9, aw9, ⟨B9, c9, hwb9, gw9, hown9⟩, A9, k9, rfl, sl9⟩; have z9 := aw9.size; have gz9 := aw9.keep (by omega) (by omega) (by intro e; cases e) gz2; have hz9 := Xr hown9.le (by omega) (by intro e; cases e) gz9; have zz9 := hown9.size
 refine Xa (Yf rfl rfl) ?_
 refine Xa (Yf rfl rfl) ?_
 refine Xv (Ye (vs := [.slice _ _ _, .int .i64 _, .int .u64 _]) rfl rfl inf46.size Ya Yd rfl rfl ?_)
 refine Xa (Xi rfl) ?_
 refine X2 ?_
 rw [hst]
 exact ⟨_, Yt (Ym Xn (Yl (cs := [_, _, _]) Tryz.underlying46 rfl inf46.size X5)) (Xp rfl), G9.put H.size _, (aw2.trans aw9).put_new (by omega) (by omega) _, ⟨B9, c9, by simpa using hwb9, by rw [Hp.put_other _ _ (by omega)]; exact gw9, hown9.put (by rw [gz9]; intro e; cases e) _ (Hp.sees_box _ gz9)⟩, A9, k9, rfl, sl9.mono (Hp.sees_box _ gz9)⟩
 intro hc3
 have hb : S.back = false := hc3
 have hst : Vp T S = onS T ⟨S.nodes, S.back, S.over, S.steps + 1⟩ := by unfold Vp; rw [if_neg ho', if_neg (by rw [hb]; decide)]
 refine X9 ?_
 refine Xc ?_
 refine Xs ?_
 refine Xa (Xw rfl) ?_
 refine Xv (Xy (on_walk hT hW2 ht2 hl) rfl Tryz.func148 rfl rfl rfl ?_)
 rintro v11 H9 ⟨G9, aw9, ⟨B9, c9, hwb9, gw9, hown9⟩, A9, k9, rfl, sl9⟩; have z9 := aw9.size; have gz9 := aw9.keep (by omega) (by omega) (by intro e; cases e) gz2; have hz9 := Xr hown9.le (by omega) (by intro e; cases e) gz9; have zz9 := hown9.size
 refine Xa (Yf rfl rfl) ?_
 refine Xa (Yf rfl rfl) ?_
 refine Xv (Ye (vs := [.slice _ _ _, .int .i64 _, .int .u64 _]) rfl rfl inf46.size Ya Yd rfl rfl ?_)
 refine Xa (Xi rfl) ?_
 refine X2 ?_
 rw [hst]
 exact ⟨_, Yt (Ym Xn (Yl (cs := [_, _, _]) Tryz.underlying46 rfl inf46.size X5)) (Xp rfl), G9.put H.size _, (aw2.trans aw9).put_new (by omega) (by omega) _, ⟨B9, c9, by simpa using hwb9, by rw [Hp.put_other _ _ (by omega)]; exact gw9, hown9.put (by rw [gz9]; intro e; cases e) _ (Hp.sees_box _ gz9)⟩, A9, k9, rfl, sl9.mono (Hp.sees_box _ gz9)⟩
set_option maxHeartbeats 1000000 in
theorem next_walk {T : TreeT} (hT : GoodT T) (hA : Alive T) {tv : Value} {S : Zr} {wb : Nat} {G H : Hp} (hW : Vo G H wb tv S) (ht : S.over = false → TreeR G tv T) (hv : ValS T S) (hs0 : 0 ≤ S.steps) (hs1 : S.steps ≤ 100000000000) (htv : ∃ v, tv = .pointer v) :
  ACalls Tryz.prog 116 #[.pointer (some ⟨wb, 0, none⟩)] H (fun r H' => ∃ G', Away wb G G' ∧ Vo G' H' wb tv (Vu T S).1 ∧ RowO G' r (Vu T S).2) := by
 have hph := phi_le hv.len
 have hfew := hT.few
 have zz : H.size = G.size := by obtain ⟨_, _, _, _, hown⟩ := hW; exact hown.size
 have hwb0 : wb < G.size := by obtain ⟨_, _, h, _, _⟩ := hW; exact h
 have gwS : ∃ cs, G.get wb = .own 0 cs := by obtain ⟨_, _, _, h, _⟩ := hW; exact ⟨_, h⟩
 refine Xu Tryz.func116 rfl rfl rfl (by simp) ?_
 refine Xc ?_
 refine Xs ?_
 refine Xz (Ys (l := [.slice none 0 0, .int .i64 0, .int .u64 0]) inf46.zero rfl (by decide)) ?_
 refine Xa (Xi rfl) ?_
 refine Xc ?_
 refine Yh ?_
 refine Y6 (fun n t H' => ∃ (S1 : Zr) (G1 : Hp), n = phi T S1 ∧ Away wb G G1 ∧ Vo G1 H' wb tv S1 ∧ Vu T S1 = Vu T S ∧ ValS T S1 ∧ (S1.over = false → TreeR G1 tv T) ∧ 0 ≤ S1.steps ∧ S1.steps + phi T S1 ≤ S.steps + phi T S ∧ G.size + 1 ≤ G1.size ∧ G1.get G.size = .own 0 [.slice none 0 0, .int .i64 0, .int .u64 0] ∧ t 0 = .pointer (some ⟨wb, 0, none⟩) ∧ t 2 = .pointer (some ⟨G.size, 0, none⟩)) (phi T S) (⟨S, G.push (.own 0 [.slice none 0 0, .int .i64 0, .int .u64 0]), rfl, .of_le (G.le_push _), (by obtain ⟨B, c, h1, h2, h3⟩ := hW; exact ⟨B, c, by simp; omega, (Hp.push_old _ _ h1).trans h2, h3.push _⟩), rfl, hv, fun h => (ht h).mono (G.le_push _), hs0, Int.le_refl _, by simp, Hp.push_new _ _, rfl, by show Value.pointer (some ⟨H.size, 0, none⟩) = _; rw [zz]⟩) ?_
 rintro n t H1 ⟨S1, G1, rfl, aw1, hW1, hnx, hv1, ht1, hst0, hst1, zG1, gz1, e0, e2⟩
 obtain ⟨B, c, hwb1, gw1, hown1⟩ := id hW1
 have hw1 := Xr hown1.le hwb1 (by intro e; cases e) gw1
 have hz1 := Xr hown1.le (by omega) (by intro e; cases e) gz1
 have zz1 := hown1.size
 refine Xc ?_
 refine Xc ?_
 refine Xs ?_
 refine Xa (Xw Xn) ?_
 refine Xa (av_ptr_ne_nil rfl rfl Tryz.underlying162) ?_
 refine Xa (Xq rfl) ?_
 refine Yb rfl rfl rfl ?_ ?_
 intro hg1
 have hp1 := hg1; try simp only [Y5] at hp1
 refine Xk (Xh rfl rfl rfl hg1) (Xw Xn) ?_
 refine Xk (Xh rfl rfl rfl hg1) (X7 rfl) ?_
 refine Xk (Xh rfl rfl rfl hg1) (Xf (off := 3) rfl Tryz.underlying167 rfl inf4.size (by decide) rfl) ?_
 refine Xk (Xh rfl rfl rfl hg1) (Xl rfl Tryz.underlying4 rfl Xo) ?_
 refine Xk (Xh rfl rfl rfl hg1) (Z3 rfl) ?_
 refine Xa (Xm (Yu hg1) rfl) ?_
 refine X4 rfl rfl ?_ ?_
 intro hc2
 have ho : S1.over = false := by have h := hc2; simpa using h
 refine X9 ?_
 refine Yh ?_
 refine Xc ?_
 refine Xs ?_
 refine Xa (Xw Xn) ?_
 refine Xv (Xy (step_walk hT hW1 ht1 hv1.len hst0 (by omega) htv) rfl Tryz.func137 rfl rfl rfl ?_)
 rintro v3 H3 ⟨G3, aw3, hW3, A3, k3, rfl, sl3⟩
 refine Xa (Zi rfl) ?_
 refine Xa (Yf rfl rfl) ?_
 refine Xa (Yf rfl rfl) ?_
 refine Xz (Ys (l := [.slice none 0 0, .int .i64 0, .int .u64 0]) inf46.zero rfl (by decide)) ?_
 refine Xv (Ye (vs := [.slice _ _ _, .int .i64 _, .int .u64 _]) rfl rfl inf46.size Ya Yd rfl rfl ?_)
 refine Xa (Xi rfl) ?_
 refine Xc ?_
 obtain ⟨o, ho3⟩ : ∃ o, o = (Vp T S1).2 := ⟨_, rfl⟩
 obtain ⟨S3, hS3⟩ : ∃ S3, S3 = (Vp T S1).1 := ⟨_, rfl⟩
 have hpair : Vp T S1 = (S3, o) := by rw [ho3, hS3]
 have htell := step_tells hT hv1
 have hstp := step_steps (T := T) ho
 have hnext := next_step hT hA hv1 ho
 have hphn := step_phi hA hv1 ho hT
 rw [hpair] at hnext
 rw [← hS3] at hW3 hstp htell hphn
 rw [← ho3] at sl3 htell hphn
 rw [← ho3]
 obtain ⟨B3, c3, hwb3, gw3, hown3⟩ := id hW3
 have zz3 := hown3.size
 have z3 := aw3.size
 have aw03 := aw1.trans aw3
 have gz3 := aw3.keep (by omega) (by omega) (by intro e; cases e) gz1
 have hz3 := Xr hown3.le (by omega) (by intro e; cases e) gz3
 have ht3 := aw3.tree gw1 (ht1 ho)
 have hp1 := phi_pos (T := T) ho
 refine Xs ?_
 refine Xa (Xq rfl) ?_
 refine X4 rfl rfl ?_ ?_
 intro hc3
 obtain ⟨r3, rfl⟩ : ∃ r3, o = some r3 := by have h := hc3; cases o with | none => cases h | some r => exact ⟨r, rfl⟩
 have hfin : Vu T S = (S3, some r3) := hnx.symm.trans hnext
 refine Xc ?_
 refine Xs ?_
 refine Xa (Yj (cs := [.slice _ _ _, .int .i64 _, .int .u64 _]) rfl Tryz.underlying46 rfl inf46.size X5) ?_
 refine Xv (Ye (vs := [.slice _ _ _, .int .i64 _, .int .u64 _]) Xn Xn inf46.size Ya Yd Xn Xn ?_)
 refine Xa (Xi rfl) ?_
 refine X2 ?_
 rw [hfin]
 have hownB := hown3.boxed [.slice none 0 0, .int .i64 0, .int .u64 0] [.slice A3 (rowN (some r3)).length k3, .int .i64 (rowC (some r3)), .int .u64 (rowM (some r3))]
 have gzB : ((G3.push (.own 0 [.slice none 0 0, .int .i64 0, .int .u64 0])).put H3.size (.own 0 [.slice A3 (rowN (some r3)).length k3, .int .i64 (rowC (some r3)), .int .u64 (rowM (some r3))])).get G.size = .own 0 [.slice none 0 0, .int .i64 0, .int .u64 0] := by rw [Hp.put_other _ _ (by omega), Hp.push_old _ _ (by omega)]; exact gz3
 have gwB : ((G3.push (.own 0 [.slice none 0 0, .int .i64 0, .int .u64 0])).put H3.size (.own 0 [.slice A3 (rowN (some r3)).length k3, .int .i64 (rowC (some r3)), .int .u64 (rowM (some r3))])).get wb = .own 0 [tv, .slice B3 S3.nodes.length c3, .bool S3.back, .bool S3.over, .int .i64 S3.steps] := by rw [Hp.put_other _ _ (by omega), Hp.push_old _ _ (by omega)]; exact gw3
 have slB : Sl (Yv .i64) ((G3.push (.own 0 [.slice none 0 0, .int .i64 0, .int .u64 0])).put H3.size (.own 0 [.slice A3 (rowN (some r3)).length k3, .int .i64 (rowC (some r3)), .int .u64 (rowM (some r3))])) (.slice A3 (rowN (some r3)).length k3) (rowN (some r3)) := sl3.mono (Hp.sees_put_new (Hp.le_push _ _).sees (by omega) _)
 exact ⟨_, Yt (Ym Xn (Yl (cs := [_, _, _]) Tryz.underlying46 rfl inf46.size X5)) (Xp rfl), (((G3.push (.own 0 [.slice none 0 0, .int .i64 0, .int .u64 0])).put H3.size (.own 0 [.slice A3 (rowN (some r3)).length k3, .int .i64 (rowC (some r3)), .int .u64 (rowM (some r3))]))).put G.size _, ((aw03.push (by omega) _).put_new (by omega) (by omega) _).put_new (Nat.le_refl _) (by omega) _, ⟨B3, c3, by simp; omega, by rw [Hp.put_other _ _ (by omega)]; exact gwB, hownB.put (by rw [gzB]; intro e; cases e) _ (Hp.sees_box _ gzB)⟩, A3, k3, rfl, slB.mono (Hp.sees_box _ gzB)⟩
 intro hc3
 obtain rfl : o = none := by have h := hc3; cases o with | none => rfl | some r => cases h
 have hfin : Vu T S3 = Vu T S := hnext.symm.trans hnx
 have hphn := hphn rfl
 refine X9 ?_
 refine ⟨phi T S3, hphn, S3, (G3.push (.own 0 [.slice none 0 0, .int .i64 0, .int .u64 0])).put H3.size (.own 0 [.slice A3 (rowN (none : Option RowT)).length k3, .int .i64 (rowC none), .int .u64 (rowM none)]), rfl, (aw03.push (by omega) _).put_new (by omega) (by omega) _, ⟨B3, c3, by simp; omega, by rw [Hp.put_other _ _ (by omega), Hp.push_old _ _ (by omega)]; exact gw3, hown3.boxed _ _⟩, hfin, htell.1, fun _ => ht3.mono (Hp.le_put_new (G3.le_push _) (by omega) _), by omega, by omega, by simp; omega, by rw [Hp.put_other _ _ (by omega), Hp.push_old _ _ (by omega)]; exact gz3, e0, e2⟩
 intro hc2
 have ho : S1.over = true := by have h := hc2; simpa using h
 refine Y3 ?_
 refine Xc ?_
 refine Xs ?_
 refine Xa (Y0 (pl := [(0, 1), (1, 1), (2, 1)]) (r := [.slice _ _ _, .int .i64 _, .int .u64 _]) Tryz.underlying46 inf46.zero (by decide) rfl rfl) ?_
 refine Xv (Ye (vs := [.slice _ _ _, .int .i64 _, .int .u64 _]) Xn Xn inf46.size Ya Yd Xn Xn ?_)
 refine Xa (Xi rfl) ?_
 refine X2 ?_
 rw [next_over ho] at hnx
 rw [← hnx]
 exact ⟨_, Yt (Ym Xn (Yl (cs := [_, _, _]) Tryz.underlying46 rfl inf46.size X5)) (Xp rfl), G1.put G.size (.own 0 [.slice none 0 0, .int .i64 0, .int .u64 0]), aw1.put_new (Nat.le_refl _) (by omega) _, ⟨B, c, by simp; omega, by rw [Hp.put_other _ _ (by omega)]; exact gw1, hown1.put (by rw [gz1]; intro e; cases e) _ (Hp.sees_box _ gz1)⟩, Vt _⟩
 intro hg1
 cases hg1
def w0 : Zr := ⟨[], false, false, 0⟩
def w1 : Zr := ⟨[], false, true, 0⟩
theorem val_w0 (T : TreeT) : ValS T w0 := ⟨Nat.zero_le _, fun i h => absurd h (Nat.not_lt_zero _)⟩
theorem val_w1 (T : TreeT) : ValS T w1 := ⟨Nat.zero_le _, fun i h => absurd h (Nat.not_lt_zero _)⟩
theorem First_gen {T : TreeT} (hT : GoodT T) (hA : Alive T) (v : Option Addr) (S : Zr) (hS : S = w0 ∨ S = w1) (hf : ∀ H, ACalls Tryz.prog 115 #[.pointer v] H (fun r H' => r = .pointer (some ⟨H.size, 0, none⟩) ∧ H.le H' ∧ Vo H' H' H.size (.pointer v) S)) (H : Hp) (ht : S.over = false → TreeR H (.pointer v) T) :
  ACalls Tryz.prog 88 #[.pointer v] H (fun r H' => H.le H' ∧ RowO H' r (Vu T S).2) := by
 have hv : ValS T S := by rcases hS with rfl | rfl; exact val_w0 T; exact val_w1 T
 have hs : S.steps = 0 := by rcases hS with rfl | rfl <;> rfl
 refine Xu Tryz.func88 rfl rfl rfl (by simp) ?_
 refine Xc ?_
 refine Xs ?_
 refine Xz (Ys (l := [.slice none 0 0, .int .i64 0, .int .u64 0]) inf46.zero rfl (by decide)) ?_
 refine Xa (Xi rfl) ?_
 refine Xc ?_
 refine Xs ?_
 refine Xa (Xw rfl) ?_
 refine Xv (Xy (hf _) rfl Tryz.func115 rfl rfl rfl ?_)
 rintro v3 H3 ⟨rfl, hle3, hW3⟩; have z3 := hle3.1; simp only [Hp.push_size] at z3; have hz3 : H3.get H.size = .own 0 [.slice none 0 0, .int .i64 0, .int .u64 0] := Xr hle3 (by simp) (by intro e; cases e) Ya
 refine Xv (Xy (next_walk hT hA hW3 (fun h => ((ht h).mono (H.le_push _)).mono hle3) hv (by omega) (by omega) ⟨_, rfl⟩) rfl Tryz.func116 rfl rfl rfl ?_)
 rintro v11 H9 ⟨G9, aw9, ⟨B9, c9, hwb9, gw9, hown9⟩, A9, k9, rfl, sl9⟩; have z9 := aw9.size; have gz9 := aw9.keep (by omega) (by simp) (by intro e; cases e) hz3; have hz9 := Xr hown9.le (by omega) (by intro e; cases e) gz9; have leG9 := aw9.base (K := H) (Hp.le_trans (H.le_push _) hle3) (by simp)
 refine Xa (Yf rfl rfl) ?_
 refine Xa (Yf rfl rfl) ?_
 refine Xv (Ye (vs := [.slice _ _ _, .int .i64 _, .int .u64 _]) rfl rfl inf46.size Ya Yd rfl rfl ?_)
 refine Xa (Xi rfl) ?_
 refine X2 ?_
 exact ⟨_, Yt (Ym Xn (Yl (cs := [_, _, _]) Tryz.underlying46 rfl inf46.size X5)) (Xp rfl), Hp.le_put_new (Hp.le_trans leG9 hown9.le) (Nat.le_refl _) _, A9, k9, rfl, (sl9.mono hown9.le.sees).mono (Hp.sees_box _ hz9)⟩
def kRaw : Kd (Value × Int × Int) where
 sz := 3
 pos := by decide
 rep _ x cs := cs = [x.1, .int .i64 x.2.1, .int .u64 x.2.2] ∧ x.1.oneCell' = true
 len h := by rw [h.1]; rfl
 mono _ h := h
 one h v hv := by rw [h.1] at hv; simp at hv; rcases hv with rfl | rfl | rfl; exact h.2; rfl; rfl
structure Raws (G : Hp) (raws : List (Value × Int × Int)) (rows : List RowT) : Prop where
 len : raws.length = rows.length
 at_ : ∀ (i : Nat) (h : i < raws.length) (h' : i < rows.length), raws[i].2.1 = rows[i].cost ∧ raws[i].2.2 = rows[i].n ∧ Sl (Yv .i64) G raws[i].1 rows[i].nodes
theorem Raws.mono {G G' : Hp} (h : G.sees G') {raws : List (Value × Int × Int)} {rows : List RowT} (hr : Raws G raws rows) : Raws G' raws rows :=
 ⟨hr.len, fun i a b => ⟨(hr.at_ i a b).1, (hr.at_ i a b).2.1, (hr.at_ i a b).2.2.mono h⟩⟩
theorem Raws.snoc {G : Hp} {raws : List (Value × Int × Int)} {rows : List RowT} (hr : Raws G raws rows) {v : Value} {r : RowT} (hs : Sl (Yv .i64) G v r.nodes) : Raws G (raws ++ [(v, r.cost, r.n)]) (rows ++ [r]) := by
 have hl := hr.len
 refine ⟨by simp [hl], fun i a b => ?_⟩
 rw [List.length_append, List.length_singleton] at a b
 by_cases h : i < raws.length
 ·have h' : i < rows.length := by omega
  rw [List.getElem_append_left h, List.getElem_append_left h']
  exact hr.at_ i h h'
 ·obtain rfl : i = raws.length := by omega
  rw [List.getElem_append_right (Nat.le_refl _), List.getElem_append_right (by omega)]
  simp only [Nat.sub_self, List.getElem_cons_zero, hl]
  exact ⟨trivial, trivial, hs⟩
theorem Raws.sl {G H : Hp} {raws : List (Value × Int × Int)} {rows : List RowT} (hr : Raws G raws rows) (hle : G.sees H) {v : Value} (hs : Sl kRaw H v raws) : Sl kRow H v rows := by
 rcases hs with ⟨rfl, rfl⟩ | ⟨b, o, c, rfl, hb, hk, hx⟩
 ·have := hr.len
  exact .inl ⟨rfl, List.eq_nil_of_length_eq_zero (by simpa using this.symm)⟩
 ·refine .inr ⟨b, o, c, by rw [hr.len], hb, hk, fun i x hi => ?_⟩
  obtain ⟨hi', rfl⟩ := List.getElem?_eq_some_iff.1 hi
  have hi2 : i < raws.length := by rw [hr.len]; exact hi'
  obtain ⟨cs, h1, h2⟩ := hx i raws[i] (List.getElem?_eq_getElem hi2)
  obtain ⟨e1, e2, e3⟩ := hr.at_ i hi2 hi'
  refine ⟨cs, ⟨raws[i].1, ?_, e3.mono hle⟩, h2⟩
  rw [h1.1, e1, e2]
end Go.Proofs.YtmakkmcjocjgmaaGreat.Am
