/- The library's sort by a comparison of the program's own. -/
import Derived.Test.YtmakkmcjocjgmaaGreatCaOwn
import Derived.Shelf.SlSortCmp.WholeK
import Derived.Shelf.SlSortCmp.NoneTotal
namespace Go.Proofs.YtmakkmcjocjgmaaGreat.Am
open Go Go.RowKit Go.Shelf Go.Sort
set_option linter.unusedVariables false
set_option linter.unusedSimpArgs false

theorem grown_of {w w' : World} (h1 : w'.os = w.os) (h2 : w'.tape = w.tape) (h3 : w'.output = w.output) (h4 : w.drawn ≤ w'.drawn) (h5 : w.heap.size ≤ w'.heap.size) (h6 : ∀ k, k < w.heap.size → w'.heap[k]? = w.heap[k]?) : ∃ q os, w' = grow (w.drewN q) os := by
  refine ⟨w'.drawn - w.drawn, w'.heap.extract w.heap.size w'.heap.size, ?_⟩
  have e : w'.heap = w.heap ++ w'.heap.extract w.heap.size w'.heap.size := by
    apply Array.ext_getElem?
    intro k
    by_cases hk : k < w.heap.size
    · rw [Array.getElem?_append_left hk]; exact h6 k hk
    · rw [Array.getElem?_append_right (by omega), Array.getElem?_extract]
      by_cases hk2 : k < w'.heap.size
      · rw [if_pos (by omega)]
        congr 1; omega
      · rw [if_neg (by omega)]
        exact Array.getElem?_eq_none (by omega)
  cases w with
  | mk hp tp dr os out =>
    cases w' with
    | mk hp' tp' dr' os' out' =>
      simp only at h1 h2 h3 h4 e
      subst h1 h2 h3
      simp only [grow, World.drewN, World.mk.injEq, and_true, true_and]
      exact ⟨e, by omega⟩
theorem get_putCells (off : Nat) (d c : Array Value) (t : Nat) (ht : t < c.size) : (putCells id off d c)[t]? = some (if off ≤ t ∧ t < off + d.size then d[t - off]! else c[t]) := by
  simp [putCells, ht]
theorem size_putCells' (off : Nat) (d c : Array Value) : (putCells id off d c).size = c.size := by simp [putCells]
section
variable {α : Type} [Inhabited α]
structure SortW (enc : α → List Value) (k : Nat) (w : World) (blk off : Nat) (c : Array Value) (e : TypeId) (dk : Array α) (W : World) : Prop where
  os : W.os = w.os
  tape : W.tape = w.tape
  output : W.output = w.output
  drawn : w.drawn ≤ W.drawn
  size : w.heap.size ≤ W.heap.size
  keep : ∀ j, j < w.heap.size → j ≠ blk → W.heap[j]? = w.heap[j]?
  here : W.heap[blk]? = some (.cells (putCells id off (flatK enc k dk) c) e (0, 0))
theorem sortW_of (enc : α → List Value) (k : Nat) (w : World) (blk off m : Nat) (dk : Array α) (os : Array Obj) {c : Array Value} {e : TypeId} (hg : w.heap[blk]? = some (.cells c e (0, 0))) :
    SortW enc k w blk off c e dk (sortWorldK enc k w blk off m dk os) := by
  have hlt : blk < w.heap.size := (Array.getElem?_eq_some_iff.1 hg).1
  refine ⟨rfl, rfl, rfl, ?_, ?_, fun j hj hn => ?_, ?_⟩
  · show w.drawn ≤ w.drawn + m; omega
  · exact size_sortWorldK_c enc k w blk off m dk os
  · simp only [sortWorldK, grow, putRowK, putRow, mapBlock, ahead]
    rw [Array.getElem?_append_left (by simpa [ahead] using hj), Array.getElem?_modify, if_neg (Ne.symm hn)]; rfl
  · simp only [sortWorldK, grow, putRowK, putRow, mapBlock, ahead]
    rw [Array.getElem?_append_left (by simpa [ahead] using hlt), Array.getElem?_modify, if_pos rfl]
    show Option.map _ w.heap[blk]? = _
    rw [hg]
    rfl
end
theorem WRel.moved {base : Nat} {φ : Inj} {G : Hp} {w W : World} {b k : Nat} {cs cs' : List Value} {g : Img} (hw : WRel base φ (G.put b (.own k cs)) w) (hg : φ b = some g) {c' : Array Value} {e : TypeId}
    (h1 : W.os = w.os) (h2 : W.tape = w.tape) (h3 : W.output = w.output) (h4 : w.drawn ≤ W.drawn) (h5 : w.heap.size ≤ W.heap.size) (h6 : ∀ j, j < w.heap.size → j ≠ g.rb → W.heap[j]? = w.heap[j]?)
    {c : Array Value} (h70 : w.heap[g.rb]? = some (.cells c e (0, 0))) (h7 : W.heap[g.rb]? = some (.cells c' e (0, 0))) (hm : c'.size = g.m) (hl : g.d + cs'.length ≤ g.m) (hc : ∀ (i : Nat) v, cs'[i]? = some v → ∃ v', c'[i + g.d]? = some v' ∧ VRel φ v v') :
    WRel base φ (G.put b (.own k cs')) W ∧ Step φ (G.put b (.own k cs)) w φ (G.put b (.own k cs')) W := by
  have r1 := hw.write (Hp.put_same _ _ _) hg hm hl hc
  rw [Hp.put_put] at r1
  refine ⟨r1.old (by rw [Uh]; exact h5) (fun j hj => ?_), ⟨.refl _, by simp, fun i hi hd => ?_, fun _ _ h => h, h1, h2, h3, h4, h5, fun j hj hn => ⟨h6 j hj (fun he => hn ⟨b, g, by rw [Hp.put_same]; rfl, hg, he.symm⟩), fun ⟨i, g', hl, hg', he⟩ => ?_⟩⟩⟩
  · rw [Uh] at hj
    by_cases he : j = g.rb
    · subst he
      rw [h7, Go.setRow_heap w g.rb c c' e (0, 0) h70]
    · rw [Vo he]; exact h6 j hj he
  · by_cases hib : i = b
    · subst hib; rw [Hp.put_same] at hd; cases hd
    · rw [Hp.put_other _ _ hib] at hd ⊢; exact hd
  · refine hn ⟨i, g', ?_, hg', he⟩
    by_cases hib : i = b
    · subst hib; rw [Hp.put_same]; rfl
    · rw [Hp.put_other _ _ hib] at hl ⊢; exact hl
theorem cmp_real {base : Nat} {φ : Inj} {G : Hp} {w W : World} {b k : Nat} {cs : List Value} {g : Img} (hw : WRel base φ (G.put b (.own k cs)) w) (hd : G.get b = .dead) (hg : φ b = some g) {c c' : Array Value} {e : TypeId}
    (h5 : w.heap.size ≤ W.heap.size) (h6 : ∀ j, j < w.heap.size → j ≠ g.rb → W.heap[j]? = w.heap[j]?) (h70 : w.heap[g.rb]? = some (.cells c e (0, 0))) (h7 : W.heap[g.rb]? = some (.cells c' e (0, 0))) (hm : c'.size = g.m)
    {P : Program} {f : FuncId} {args args' : Array Value} {n : Int} (hc : ACalls P f args G.ro (fun r _ => r = .int .i64 n)) (ha : VRels φ args args') :
    Calls P f args' W fun e w' => e = .returned (.int .i64 n) ∧ ∃ q os', w' = grow (W.drewN q) os' := by
  have hG : G.put b .dead = G := Hp.put_self _ hd
  have r0 : WRel base φ G W := by
    obtain ⟨a0, a1, c0, e0, a2, a3, a4, a5⟩ := hw.own b k cs g (Hp.put_same _ _ _) hg
    have r1 := hw.write (cs' := []) (Hp.put_same _ _ _) hg hm (by simp; omega) (by intro i v h; simp at h)
    rw [Hp.put_put] at r1
    have r2 := r1.kill b
    rw [Hp.put_put, hG] at r2
    refine r2.old (by rw [Uh]; exact h5) (fun j hj => ?_)
    rw [Uh] at hj
    by_cases he : j = g.rb
    · subst he
      rw [h7, Go.setRow_heap w g.rb c c' e (0, 0) h70]
    · rw [Vo he]; exact h6 j hj he
  refine (hc W.heap.size (Inj.ro φ) W args' r0.ro_ (LRel.ro ha)).mono fun e w' ⟨v, v', H', φ', he, hr, hw', hv, hst⟩ => ?_
  have foot : ∀ k, ¬ Foot (Inj.ro φ) G.ro k := fun k ⟨b, g, hl, _⟩ => by
    have : ((G.get b).ro').live = true := hl
    cases hb : G.get b <;> rw [hb] at this <;> cases this
  subst hr
  cases hv
  exact ⟨he, grown_of hst.os hst.tape hst.output hst.drawn hst.size fun k hk => (hst.keep k hk (foot k)).1⟩
theorem swo_comap {α β : Type} {lt : α → α → Bool} (h : SWO lt) (f : β → α) : SWO fun x y => lt (f x) (f y) := ⟨fun _ => h.irrefl _, fun _ _ _ => h.trans _ _ _, fun _ _ _ => h.ntrans _ _ _⟩

theorem OwnP.sort {α : Type} {kd : Kd α} {P : Program} {ρ : Ren} (L : SlLaysF0.n6 P ρ) (aE : ∀ w, (isAgg (ρ.t 24)).run P w = .ok true w) (zE : ∀ w, (Go.sizeOf (ρ.t 24)).run P w = .ok kd.sz w)
    (cf : α → α → Int) (hO : SWO (ltOf cf)) (gf : Nat) (eg : ∀ args w, (callFunc gf args).run P w = .ok (.enter gf args) w)
    {G H : Hp} {v : Value} {xs : List α} (h : OwnP kd G H v xs)
    (hcmp : ∀ x ∈ xs, ∀ y ∈ xs, ∀ cs ds, kd.rep G.ro x cs → kd.rep G.ro y ds → ACalls P gf #[.agg cs.toArray, .agg ds.toArray] G.ro (fun r _ => r = .int .i64 (cf x y)))
    (hn : xs.length < 4611686018427387904) :
    ACalls P (ρ.f 6) #[v, .func (.func gf) #[] #[]] H (fun r H' => r = .tuple #[] ∧ ∃ xs', xs'.Perm xs ∧ xs'.Pairwise (fun x y => ¬ cf y x < 0) ∧ OwnP kd G H' v xs') := by
  intro base φ w args' hw ha
  have ha0 := ha.2 0 v rfl
  have ha1 := ha.2 1 (.func (.func gf) #[] #[]) rfl
  obtain ⟨v', e0, hv⟩ := ha0
  obtain ⟨f', e1, hf⟩ := ha1
  have hsz := ha.1
  have hargs : args' = #[v', f'] := by
    apply Array.ext'
    match hq : args'.toList, e0, e1, hsz with
    | [a, b], e0, e1, _ =>
      simp at e0 e1
      rw [e0, e1]
  subst hargs
  have hff : f' = .func (.func gf) #[] #[] := by
    cases hf with
    | func f xs ys xs' ys' h1 h2 h3 h4 =>
      have : xs' = #[] := Array.eq_empty_of_size_eq_zero (by simpa using h1.symm)
      have h' : ys' = #[] := Array.eq_empty_of_size_eq_zero (by simpa using h3.symm)
      rw [this, h']
  subst hff
  by_cases h0 : xs.length = 0
  · have : ∃ p c', v' = .slice p 0 c' := by
      obtain ⟨A, c, rfl⟩ := h.shape
      rw [h0] at hv
      cases hv <;> exact ⟨_, _, rfl⟩
    obtain ⟨p, c', rfl⟩ := this
    refine (AnyF.slices_SortFunc_none L p c' _ w).mono fun e w' ⟨he, hww⟩ => ?_
    subst hww
    exact ⟨.tuple #[], .tuple #[], H, φ, he, ⟨rfl, xs, .refl _, by rw [List.eq_nil_of_length_eq_zero h0]; exact .nil, h⟩, hw, .plain rfl, Step.refl _ _ _⟩
  rcases h with ⟨rfl, rfl, rfl⟩ | ⟨b, cs, cp, rfl, hb, hd, rfl, hcap, he⟩
  · simp at h0
  have hg : ∃ g c', φ b = some g ∧ v' = .slice (some ⟨g.rb, 0 + g.d, none⟩) xs.length c' := by
    generalize hxl : xs.length = n at hv h0
    cases hv with
    | slice o n c c' hg _ _ _ => exact ⟨_, _, hg, rfl⟩
    | slice0 => exact absurd rfl h0
  obtain ⟨g, c', hg, rfl⟩ := hg
  obtain ⟨o1, o2, c, e, o3, o4, o5, o6⟩ := hw.own b kd.sz cs g (Hp.put_same _ _ _) hg
  have hpos : 0 < kd.sz := Nat.pos_of_ne_zero kd.pos
  have hn0 : 0 < xs.length := Nat.pos_of_ne_zero h0
  haveI : Inhabited α := ⟨xs[0]⟩
  have hmod : ∀ i, i % xs.length < xs.length := fun i => Nat.mod_lt _ hn0
  have hcell : ∀ i j, j < kd.sz → (i % xs.length) * kd.sz + j < cs.length := fun i j hj => by
    have h1 := he.1
    have h2 : (i % xs.length + 1) * kd.sz ≤ xs.length * kd.sz := Nat.mul_le_mul_right _ (hmod i)
    rw [Nat.add_mul, Nat.one_mul] at h2
    omega
  -- an element's cells, there and here
  let enc : Nat → List Value := fun i => (List.range kd.sz).map fun j => c[(i % xs.length) * kd.sz + j + g.d]!
  let aenc : Nat → List Value := fun i => (List.range kd.sz).map fun j => cs[(i % xs.length) * kd.sz + j]!
  have hrel : ∀ i, LRel φ (aenc i) (enc i) := fun i => by
    refine ⟨by simp [aenc, enc], fun j u hu => ?_⟩
    simp only [aenc, enc, List.getElem?_map] at hu ⊢
    have hj : j < kd.sz := by
      by_cases hj : j < kd.sz
      · exact hj
      · rw [List.getElem?_eq_none (by simpa using hj)] at hu; cases hu
    rw [List.getElem?_range hj] at hu ⊢
    simp only [Option.map_some, Option.some.injEq] at hu ⊢
    obtain ⟨u', hu1, hu2⟩ := o6 ((i % xs.length) * kd.sz + j) _ (List.getElem?_eq_getElem (hcell i j hj))
    refine ⟨_, rfl, ?_⟩
    rw [← hu, getElem!_pos cs _ (hcell i j hj), show c[(i % xs.length) * kd.sz + j + g.d]! = u' by
      rw [Array.getElem!_eq_getD, Array.getD_eq_getD_getElem?, hu1]; rfl]
    exact hu2
  have hrep : ∀ i, kd.rep G xs[i % xs.length]! (aenc i) := fun i => by
    obtain ⟨d, hd1, hd2⟩ := he.2 (i % xs.length) _ (List.getElem?_eq_getElem (hmod i))
    have : aenc i = d := by
      apply List.ext_getElem?
      intro j
      have hl := kd.len hd1
      by_cases hj : j < kd.sz
      · simp only [aenc, List.getElem?_map]
        rw [List.getElem?_range hj, List.getElem?_eq_getElem (by omega)]
        simp only [Option.map_some]
        have := hd2 j _ (List.getElem?_eq_getElem (by omega : j < d.length))
        rw [getElem!_pos cs _ (hcell i j hj), ← List.getElem?_eq_getElem (hcell i j hj), this]
      · rw [List.getElem?_eq_none (by simp [aenc]; omega), List.getElem?_eq_none (by omega)]
    rw [this, getElem!_pos xs _ (hmod i)]
    exact hd1
  have hlen : ∀ i, (enc i).length = kd.sz := fun i => by simp [enc]
  have h1c : ∀ i, ∀ u ∈ enc i, u.oneCell' = true := fun i u hu => by
    obtain ⟨j, hj⟩ := List.getElem?_of_mem hu
    obtain ⟨u', h1, h2⟩ := (hrel i).get hj
    rw [h2.oneCell]
    exact kd.one (hrep i) u' (List.mem_of_getElem? h1)
  let cf' : Nat → Nat → Int := fun i j => cf xs[i % xs.length]! xs[j % xs.length]!
  have hO' : SWO (ltOf cf') := swo_comap hO fun i : Nat => xs[i % xs.length]!
  have hds : (Array.range xs.length).size = xs.length := Array.size_range
  have flat0 : ∀ t, t < xs.length * kd.sz → (flatK enc kd.sz (Array.range xs.length))[t]! = c[t + g.d]! := fun t ht => by
    have hq : t / kd.sz < xs.length := Nat.div_lt_of_lt_mul (by rwa [Nat.mul_comm])
    have hm := Nat.mod_lt t hpos
    rw [get_flatK _ _ _ _ (by rw [hds]; exact ht)]
    have e1 : (Array.range xs.length)[t / kd.sz]! = t / kd.sz := by
      rw [getElem!_pos _ _ (by rw [hds]; exact hq)]; simp
    rw [e1]
    simp only [enc]
    rw [getElem!_pos _ _ (by simpa using hm)]
    simp only [List.getElem_map, List.getElem_range]
    rw [Nat.mod_eq_of_lt hq, Nat.div_add_mod' t kd.sz]
  have hcs := he.1
  have hH : HoldsK enc kd.sz w g.rb g.d (Array.range xs.length) := by
    intro j hj
    rw [size_flatK, hds] at hj
    have hj' : g.d + j < c.size := by omega
    rw [flat0 j hj]
    constructor
    · simp only [World.cell?, o3, Option.isSome_none, Bool.false_eq_true, if_false, id]
      rw [Nat.add_comm j g.d, getElem!_pos c _ hj', Array.getElem?_eq_getElem hj']
    · simp [World.frozen?, o3]
  have hlt : g.rb < w.heap.size := (Array.getElem?_eq_some_iff.1 o3).1
  have hC : CmpLays P gf #[] enc kd.sz cf' g.rb g.d (Array.range xs.length).size w := by
    intro m os dk hdk x y
    have S := sortW_of enc kd.sz w g.rb g.d m dk os o3
    refine cmp_real hw hd hg S.size S.keep o3 S.here (by rw [size_putCells']; exact o4) (hcmp xs[x % xs.length]! (by rw [getElem!_pos xs _ (hmod x)]; exact List.getElem_mem _) xs[y % xs.length]! (by rw [getElem!_pos xs _ (hmod y)]; exact List.getElem_mem _) (aenc x) (aenc y) (kd.mono G.sees_ro (hrep x)) (kd.mono G.sees_ro (hrep y))) ?_
    exact LRel.cons (.agg_list (hrel x)) (LRel.cons (.agg_list (hrel y)) (LRel.nil _))
  have main := AnyQ.slices_SortFunc L kd.sz aE zE enc hlen h1c cf' hO' gf #[] g.rb g.d c' (Array.range xs.length) w eg hC hH hlt (by rw [hds]; exact hn)
  rw [hds] at main
  rw [show (0 + g.d : Nat) = g.d from Nat.zero_add _]
  refine main.mono fun ee w' ⟨hee, d', m, os, hp, hs, hww⟩ => ?_
  have S := sortW_of enc kd.sz w g.rb g.d m d' os o3
  rw [← hww] at S
  obtain ⟨p1, p2, p3⟩ := hp
  rw [hds] at p1
  have pl : d'.toList.Perm (List.range xs.length) := by
    have a1 : (d'.extract 0 xs.length) = d' := by rw [← p1]; simp
    have a2 : ((Array.range xs.length).extract 0 xs.length) = Array.range xs.length := by
      have : (Array.range xs.length).extract 0 (Array.range xs.length).size = Array.range xs.length := by simp
      rwa [hds] at this
    rw [a1, a2] at p3
    simpa using p3
  have hd' : ∀ (i : Nat) (hi : i < d'.size), d'[i] < xs.length := fun i hi => by
    have : d'[i] ∈ d'.toList := by simp
    simpa using pl.mem_iff.1 this
  let xs' : List α := d'.toList.map fun i => xs[i % xs.length]!
  have xl : xs'.length = xs.length := by simp [xs', p1]
  have xp : xs'.Perm xs := by
    have a1 : xs'.Perm ((List.range xs.length).map fun i => xs[i % xs.length]!) := pl.map _
    have a2 : ((List.range xs.length).map fun i => xs[i % xs.length]!) = xs := by
      apply List.ext_getElem
      · simp
      · intro i h1 h2
        simp only [List.getElem_map, List.getElem_range]
        rw [Nat.mod_eq_of_lt h2, getElem!_pos xs i h2]
    rwa [a2] at a1
  have xg : ∀ (i : Nat) (hi : i < xs.length), xs'[i]? = some xs[d'[i]! % xs.length]! := fun i hi => by
    simp only [xs', List.getElem?_map]
    rw [Array.getElem?_toList, Array.getElem?_eq_getElem (by omega), getElem!_pos d' i (by omega)]
    rfl
  have xss : xs'.Pairwise (fun x y => ¬ cf y x < 0) := by
    rw [List.pairwise_iff_getElem]
    intro i j hi hj hij
    have hlt := hs i j (Nat.zero_le _) hij (by omega)
    have e1 := xg i (by omega)
    have e2 := xg j (by omega)
    rw [List.getElem?_eq_getElem hi] at e1
    rw [List.getElem?_eq_getElem hj] at e2
    injection e1 with e1
    injection e2 with e2
    rw [e1, e2]
    simpa [ltOf, cf'] using hlt
  let cs' : List Value := (List.range (xs.length * kd.sz)).map fun t => (aenc d'[t / kd.sz]!)[t % kd.sz]!
  have cl : cs'.length = xs.length * kd.sz := by simp [cs']
  have fin := WRel.moved (cs' := cs') hw hg S.os S.tape S.output S.drawn S.size S.keep o3 S.here (by rw [size_putCells']; exact o4) (by rw [cl]; omega) (fun t u hu => by
    have ht : t < xs.length * kd.sz := by rw [← cl]; exact (List.getElem?_eq_some_iff.1 hu).1
    have hm := Nat.mod_lt t hpos
    simp only [cs', List.getElem?_map] at hu
    rw [List.getElem?_range ht] at hu
    simp only [Option.map_some, Option.some.injEq] at hu
    rw [get_putCells _ _ _ _ (by omega), if_pos (by rw [size_flatK, p1]; omega), Nat.add_sub_cancel, get_flatK _ _ _ _ (by rw [p1]; exact ht)]
    refine ⟨_, rfl, ?_⟩
    have ha : t % kd.sz < (aenc d'[t / kd.sz]!).length := by simp [aenc]; exact hm
    obtain ⟨u', q1, q2⟩ := (hrel d'[t / kd.sz]!).2 (t % kd.sz) _ (List.getElem?_eq_getElem ha)
    have hb' : t % kd.sz < (enc d'[t / kd.sz]!).length := by rw [hlen]; exact hm
    rw [List.getElem?_eq_getElem hb'] at q1
    injection q1 with q1
    rw [← hu, getElem!_pos (aenc d'[t / kd.sz]!) _ ha, getElem!_pos (enc d'[t / kd.sz]!) _ hb', q1]
    exact q2)
  refine ⟨.tuple #[], .tuple #[], _, φ, hee, ⟨rfl, xs', xp, xss, .inr ⟨b, cs', cp, by rw [xl], hb, hd, rfl, by rw [xl]; exact hcap, ⟨by rw [xl, cl]; exact Nat.le_refl _, fun i x hx => ?_⟩⟩⟩, fin.1, .plain rfl, fin.2⟩
  have hi : i < xs.length := by rw [← xl]; exact (List.getElem?_eq_some_iff.1 hx).1
  rw [xg i hi] at hx
  injection hx with hx
  refine ⟨aenc d'[i]!, hx ▸ hrep _, fun j u hu => ?_⟩
  have hj : j < kd.sz := by have := (List.getElem?_eq_some_iff.1 hu).1; simpa [aenc] using this
  have ht : i * kd.sz + j < xs.length * kd.sz := by
    have h2 : (i + 1) * kd.sz ≤ xs.length * kd.sz := Nat.mul_le_mul_right _ hi
    rw [Nat.add_mul, Nat.one_mul] at h2
    omega
  simp only [cs', List.getElem?_map]
  rw [List.getElem?_range ht]
  simp only [Option.map_some]
  rw [Nat.mul_comm i, Nat.mul_add_div hpos, Nat.div_eq_of_lt hj, Nat.add_zero, Nat.mul_add_mod, Nat.mod_eq_of_lt hj]
  have ha : j < (aenc d'[i]!).length := by simp [aenc]; exact hj
  rw [List.getElem?_eq_getElem ha] at hu
  rw [getElem!_pos (aenc d'[i]!) _ ha]
  exact hu
end Go.Proofs.YtmakkmcjocjgmaaGreat.Am
