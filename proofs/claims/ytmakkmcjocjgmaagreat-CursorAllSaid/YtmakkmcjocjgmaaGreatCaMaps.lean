/- Maps: made, asked, written. -/
import Derived.Test.YtmakkmcjocjgmaaGreatCaStructEq
import Derived.Test.YtmakkmcjocjgmaaGreatCaEach
import Derived.MapKept
namespace Go.Proofs.YtmakkmcjocjgmaaGreat.Am
open Go Go.RowKit
set_option linter.unusedVariables false
set_option linter.unusedSimpArgs false

structure KeyTy (P : Program) (kt : TypeId) (K : Value → Prop) : Prop where
  same : ∀ {φ : Inj} {v v' : Value}, K v → VRel φ v v' → v' = v
  check : ∀ (w : World) (em : Bool) {v : Value}, K v → (Instr.checkKey em 10000 kt v).run P w = .ok () w
  find : ∀ (w : World) {x : Value}, K x → ∀ es : List MapEntry, (∀ e ∈ es, K e.key) →
    ((Instr.findKey kt x es).run P w = .ok none w ∧ ∀ e ∈ es, e.key ≠ x) ∨ ∃ j e, (Instr.findKey kt x es).run P w = .ok (some (j, e.val)) w ∧ es[j]? = some e ∧ e.key = x ∧ ∀ i, i < j → ∀ e', es[i]? = some e' → e'.key ≠ x
  stays : ∀ (w : World) {v : Value}, K v → (Instr.keyThatStays v v).run P w = .ok v w
open Classical in
noncomputable def keyAt (es : List (Value × Value)) (k : Value) : Option Nat := es.findIdx? fun e => decide (e.1 = k)
noncomputable def Zj (es : List (Value × Value)) (k : Value) : Option Value := (keyAt es k).bind fun j => (es[j]?).map (·.2)
noncomputable def V7 (es : List (Value × Value)) (k v : Value) : List (Value × Value) := match keyAt es k with
  | some j => es.set j (k, v)
  | none => es ++ [(k, v)]
theorem keyAt_none {es : List (Value × Value)} {k : Value} (h : ∀ e ∈ es, e.1 ≠ k) : keyAt es k = none := by
  unfold keyAt
  rw [List.findIdx?_eq_none_iff]
  intro e he
  simp [h e he]
theorem keyAt_some {es : List (Value × Value)} {k v : Value} {j : Nat} (h : es[j]? = some (k, v)) (hno : ∀ i, i < j → ∀ e, es[i]? = some e → e.1 ≠ k) : keyAt es k = some j := by
  unfold keyAt
  obtain ⟨hj, e⟩ := List.getElem?_eq_some_iff.1 h
  rw [List.findIdx?_eq_some_iff_getElem]
  refine ⟨hj, by rw [e]; simp, fun i hi => ?_⟩
  have := hno i hi _ (List.getElem?_eq_getElem (by omega))
  simp [this]
theorem MRel.at_ {φ : Inj} {es : List (Value × Value)} {ens : Array MapEntry} (h : MRel φ es ens) {i : Nat} {e : MapEntry} (he : ens[i]? = some e) : ∃ k v, es[i]? = some (k, v) ∧ VRel φ k e.key ∧ VRel φ v e.val := by
  have hi : i < es.length := by have := (Array.getElem?_eq_some_iff.1 he).1; rw [h.1]; exact this
  obtain ⟨e', h1, h2, h3⟩ := h.2 i es[i].1 es[i].2 (List.getElem?_eq_getElem hi)
  rw [he] at h1
  injection h1 with h1
  subst h1
  exact ⟨_, _, List.getElem?_eq_getElem hi, h2, h3⟩
theorem KeyTy.both {P : Program} {kt : TypeId} {K : Value → Prop} (hK : KeyTy P kt K) {φ : Inj} {es : List (Value × Value)} {ens : Array MapEntry} (hm : MRel φ es ens) (hk : ∀ e ∈ es, K e.1) {x : Value} (hx : K x) (w : World) :
    ((Instr.findKey kt x ens.toList).run P w = .ok none w ∧ keyAt es x = none) ∨ ∃ j e v, (Instr.findKey kt x ens.toList).run P w = .ok (some (j, e.val)) w ∧ ens[j]? = some e ∧ e.key = x ∧ keyAt es x = some j ∧ es[j]? = some (x, v) ∧ VRel φ v e.val := by
  have hens : ∀ (i : Nat) e, ens[i]? = some e → ∃ v, es[i]? = some (e.key, v) ∧ VRel φ v e.val ∧ K e.key := fun i e he => by
    obtain ⟨k, v, h1, h2, h3⟩ := hm.at_ he
    have hkk := hk _ (List.mem_of_getElem? h1)
    have := hK.same hkk h2
    subst this
    exact ⟨v, h1, h3, hkk⟩
  have hes : ∀ (i : Nat) k v, es[i]? = some (k, v) → ∃ e, ens[i]? = some e ∧ e.key = k := fun i k v h => by
    obtain ⟨e, h1, h2, _⟩ := hm.2 i k v h
    exact ⟨e, h1, hK.same (hk _ (List.mem_of_getElem? h)) h2⟩
  rcases hK.find w hx ens.toList (fun e he => by
    obtain ⟨i, hi⟩ := List.getElem?_of_mem he
    obtain ⟨v, _, _, h⟩ := hens i e (by simpa using hi)
    exact h) with ⟨h1, h2⟩ | ⟨j, e, h1, h2, h3, h4⟩
  · refine .inl ⟨h1, keyAt_none fun e he e1 => ?_⟩
    obtain ⟨i, hi⟩ := List.getElem?_of_mem he
    obtain ⟨e2, h5, h6⟩ := hes i e.1 e.2 hi
    exact h2 e2 (List.mem_of_getElem? (by simpa using h5)) (h6.trans e1)
  · obtain ⟨v, h5, h6, _⟩ := hens j e (by simpa using h2)
    rw [h3] at h5
    refine .inr ⟨j, e, v, h1, by simpa using h2, h3, keyAt_some h5 fun i hi e' he' e1 => ?_, h5, h6⟩
    obtain ⟨e2, h7, h8⟩ := hes i e'.1 e'.2 he'
    exact h4 i hi e2 (by simpa using h7) (h8.trans e1)
section
variable {P : Program} {t : Fr} {H : Hp} {d : Option Tmp} {ty : TypeId} {pos : String} {after : Array Edge} {guard : Option (Nat × Bool)}
theorem am_makeMap {mt : TypeId} : AMake P ⟨d, .makeMap mt none, ty, pos, after, guard⟩ t (fun b => .map (some b)) (.map []) := fun base φ H w a b hw ho hb hn hx => by
  have hext : Ext φ (Inj.set φ b ⟨w.heap.size, 0, 0, 0⟩) := Inj.ext_set hn _
  have hset : Inj.set φ b ⟨w.heap.size, 0, 0, 0⟩ b = some ⟨w.heap.size, 0, 0, 0⟩ := by simp [Inj.set]
  have old : ∀ i x, i ≠ b → Inj.set φ b ⟨w.heap.size, 0, 0, 0⟩ i = some x → φ i = some x := fun i x hi hq => by unfold Inj.set at hq; rwa [if_neg hi] at hq
  have new : ∀ x, Inj.set φ b ⟨w.heap.size, 0, 0, 0⟩ b = some x → x = ⟨w.heap.size, 0, 0, 0⟩ := fun x hq => by rw [hset] at hq; injection hq with hq; exact hq.symm
  have hw1 := hw.alloc_any (.map #[] 0)
  refine ⟨.map (some w.heap.size), w.alloc (.map #[] 0), ⟨w.heap.size, 0, 0, 0⟩, ?_, ?_, ?_, grew_alloc _ _, rfl⟩
  · simp [execOp, Instr.makeMap]
  · refine ⟨hw1.hb, fun i g hg => ?_, fun i f g hf hg => ?_, fun i st cs g hf hg => ?_, fun i es g hf hg => ?_, fun i es g hf hg => ?_, fun i j g g' hl hl' hg hg' e => ?_⟩
    · by_cases hi : i = b
      · subst hi; exact hb
      · exact hw.dom i g (old i g hi hg)
    · have hi : i ≠ b := fun e => by subst e; rw [hx] at hf; cases hf
      obtain ⟨a1, a2, a3⟩ := hw1.ro i f g hf (old i g hi hg)
      exact ⟨a1, a2, fun j v hv => let ⟨v', q1, q2⟩ := a3 j v hv; ⟨v', q1, q2.mono hext⟩⟩
    · have hi : i ≠ b := fun e => by subst e; rw [hx] at hf; cases hf
      obtain ⟨a1, a2, c, e, a3, a4, a5, a6⟩ := hw1.own i st cs g hf (old i g hi hg)
      exact ⟨a1, a2, c, e, a3, a4, a5, fun j v hv => let ⟨v', q1, q2⟩ := a6 j v hv; ⟨v', q1, q2.mono hext⟩⟩
    · by_cases hi : i = b
      · subst hi
        rw [hx] at hf
        injection hf with hf
        subst hf
        obtain rfl := new g hg
        exact ⟨hw.hb, #[], 0, heap_alloc_new w _, ⟨rfl, fun j k v hv => by simp at hv⟩⟩
      · obtain ⟨a1, ens, clock, a2, a3⟩ := hw1.map i es g hf (old i g hi hg)
        exact ⟨a1, ens, clock, a2, a3.mono hext⟩
    · have hi : i ≠ b := fun e => by subst e; rw [hx] at hf; cases hf
      obtain ⟨a1, ens, clock, a2, a3⟩ := hw1.romap i es g hf (old i g hi hg)
      exact ⟨a1, ens, clock, a2, a3.mono hext⟩
    · have hlt : ∀ i x, i ≠ b → (H.get i).live = true → Inj.set φ b ⟨w.heap.size, 0, 0, 0⟩ i = some x → x.rb < w.heap.size := fun i x hi hl hq => by
        have hq := old i x hi hq
        cases hc : H.get i with
        | own st cs => obtain ⟨_, _, c, e, h6, _⟩ := hw.own i st cs x hc hq; exact (Array.getElem?_eq_some_iff.1 h6).1
        | map es => obtain ⟨_, ens, clock, h6, _⟩ := hw.map i es x hc hq; exact (Array.getElem?_eq_some_iff.1 h6).1
        | dead => rw [hc] at hl; cases hl
        | ro f => rw [hc] at hl; cases hl
        | romap es => rw [hc] at hl; cases hl
      by_cases hi : i = b
      · subst hi
        by_cases hj : j = i
        · exact hj.symm
        · have := hlt j g' hj hl' hg'
          rw [new g hg] at e
          simp only at e
          omega
      · by_cases hj : j = b
        · subst hj
          have := hlt i g hi hl hg
          rw [new g' hg'] at e
          simp only at e
          omega
        · exact hw.inj i j g g' hl hl' (old i g hi hg) (old j g' hj hg') e
  · exact VRel.map hset
theorem av_lookup {mt kt et : TypeId} {K : Value → Prop} {x y : Operand} {b : Nat} {es : List (Value × Value)} {k z : Value} (hu : P.underlying mt = some (.map kt et)) (hK : KeyTy P kt K) (hz : (P.info? et).map (·.zero) = some (some z)) (hp : ∀ φ : Inj, VRel φ z z)
    (hx : t.eval x = .map (some b)) (hy : t.eval y = k) (hk : K k) (hb : H.get b = .map es ∨ H.get b = .romap es) (hes : ∀ e ∈ es, K e.1) :
    AVal P ⟨d, .lookup mt x y false, ty, pos, after, guard⟩ t [b] H ((Zj es k).getD z) := fun H' he base φ w a hw ho => by
  obtain ⟨i, hi, hz⟩ := zero_info hz
  have h1 := ho x (by simp [Op.operands])
  have h2 := ho y (by simp [Op.operands])
  rw [hx] at h1
  rw [hy] at h2
  have e2 : a.eval y = k := hK.same hk h2
  generalize hqx : a.eval x = ux at h1
  cases h1 with
  | @map _ g hg =>
    have hbb := he b (by simp)
    obtain ⟨ens, clock, h3, h4⟩ : ∃ ens clock, w.heap[g.rb]? = some (.map ens clock) ∧ MRel φ es ens := by
      rcases hb with hb | hb
      · obtain ⟨_, ens, clock, p1, p2⟩ := hw.map b es g (hbb.trans hb) hg; exact ⟨ens, clock, p1, p2⟩
      · obtain ⟨_, ens, clock, p1, p2⟩ := hw.romap b es g (hbb.trans hb) hg; exact ⟨ens, clock, p1, p2⟩
    have hget := Go.MapKept.run_getObj_map (P := P) h3
    rcases hK.both h4 hes hk w with ⟨f1, f2⟩ | ⟨j, e, v, f1, f2, f3, f4, f5, f6⟩
    · refine ⟨z, w, ?_, ?_, .refl w⟩
      · simp [execOp, Instr.lookup, run_underlying hu, hqx, e2, hget, hK.check w _ hk, f1, Uo hi hz]
      · unfold Zj; rw [f2]; exact hp _
    · refine ⟨e.val, w, ?_, ?_, .refl w⟩
      · simp [execOp, Instr.lookup, run_underlying hu, hqx, e2, hget, hK.check w _ hk, f1]
      · unfold Zj; rw [f4]; simp only [Option.bind_some, f5, Option.map_some, Option.getD_some]; exact f6
end
theorem putObj_same {w : World} {r : Nat} {o : Obj} (h : r < w.heap.size) : (w.putObj r o).heap[r]? = some o := by
  simp only [World.putObj]
  rw [Array.getElem?_setIfInBounds]
  simp [h]
theorem MRel.set {φ : Inj} {es : List (Value × Value)} {ens : Array MapEntry} (h : MRel φ es ens) {j : Nat} {k v k' v' : Value} (hk : VRel φ k k') (hv : VRel φ v v') : MRel φ (es.set j (k, v)) (ens.modify j fun e => { e with key := k', val := v' }) := by
  refine ⟨by simp [h.1], fun i a b hi => ?_⟩
  rw [List.getElem?_set] at hi
  by_cases hij : j = i
  · subst hij
    rw [if_pos rfl] at hi
    split at hi
    · rename_i hlt
      injection hi with hi
      injection hi with hi1 hi2
      subst hi1 hi2
      have hlt' : j < ens.size := by rw [← h.1]; exact hlt
      exact ⟨{ ens[j] with key := k', val := v' }, by rw [Array.getElem?_modify]; simp [hlt'], hk, hv⟩
    · cases hi
  · rw [if_neg hij] at hi
    obtain ⟨e, h1, h2, h3⟩ := h.2 i a b hi
    exact ⟨e, by rw [Array.getElem?_modify, if_neg hij]; exact h1, h2, h3⟩
theorem MRel.push {φ : Inj} {es : List (Value × Value)} {ens : Array MapEntry} (h : MRel φ es ens) {k v k' v' : Value} {c : Nat} (hk : VRel φ k k') (hv : VRel φ v v') : MRel φ (es ++ [(k, v)]) (ens.push { key := k', val := v', born := c }) := by
  refine ⟨by simp [h.1], fun i a b hi => ?_⟩
  by_cases hil : i < es.length
  · rw [List.getElem?_append_left hil] at hi
    obtain ⟨e, h1, h2, h3⟩ := h.2 i a b hi
    exact ⟨e, by rw [Array.getElem?_push_lt (by rw [← h.1]; exact hil)]; rw [Array.getElem?_eq_getElem (by rw [← h.1]; exact hil)] at h1; exact h1, h2, h3⟩
  · rw [List.getElem?_append_right (by omega)] at hi
    have h0 : i - es.length = 0 := by have := (List.getElem?_eq_some_iff.1 hi).1; simp at this; omega
    rw [h0] at hi
    simp at hi
    obtain ⟨rfl, rfl⟩ := hi
    have : i = ens.size := by rw [← h.1]; omega
    subst this
    exact ⟨{ key := k', val := v', born := c }, by simp, hk, hv⟩
theorem WRel.writeMap {base : Nat} {φ : Inj} {H : Hp} {w : World} (hw : WRel base φ H w) {b : Nat} {es es' : List (Value × Value)} {g : Img} (hx : H.get b = .map es) (hg : φ b = some g) {ens' : Array MapEntry} {clock' : Nat} (hm : MRel φ es' ens') :
    WRel base φ (H.put b (.map es')) (w.putObj g.rb (.map ens' clock')) := by
  obtain ⟨hb0, ens, clock, hh, _⟩ := hw.map b es g hx hg
  have hlt : g.rb < w.heap.size := (Array.getElem?_eq_some_iff.1 hh).1
  have cell : ∀ (k : Nat) (o : Nat) v, k ≠ g.rb → w.cell? ⟨k, o, none⟩ = some v → (w.putObj g.rb (.map ens' clock')).cell? ⟨k, o, none⟩ = some v := fun k o v hk hc => by
    simp only [World.cell?] at hc ⊢
    rw [Zs _ _ hk]; exact hc
  have hne : ∀ i x, i ≠ b → (H.get i).live = true → φ i = some x → x.rb ≠ g.rb := fun i x hi hl hq e => hi (hw.inj i b x g hl (by rw [hx]; rfl) hq hg e)
  refine ⟨by rw [Uu]; exact hw.hb, fun i x hq => by simpa using hw.dom i x hq, fun i f x hf hq => ?_, fun i st cs x hf hq => ?_, fun i es2 x hf hq => ?_, fun i es2 x hf hq => ?_, fun i j x y hl hl' hq hq' e => ?_⟩
  · have hi : i ≠ b := fun e => by subst e; rw [Hp.put_same] at hf; cases hf
    rw [Hp.put_other _ _ hi] at hf
    obtain ⟨a1, a2, a3⟩ := hw.ro i f x hf hq
    exact ⟨a1, a2, fun j v hv => let ⟨v', q1, q2⟩ := a3 j v hv; ⟨v', cell _ _ _ (by omega) q1, q2⟩⟩
  · have hi : i ≠ b := fun e => by subst e; rw [Hp.put_same] at hf; cases hf
    rw [Hp.put_other _ _ hi] at hf
    obtain ⟨a1, a2, c, e, a3, a4⟩ := hw.own i st cs x hf hq
    exact ⟨a1, a2, c, e, by rw [Zs _ _ (hne i x hi (by rw [hf]; rfl) hq)]; exact a3, a4⟩
  · by_cases hi : i = b
    · subst hi
      rw [Hp.put_same] at hf
      injection hf with hf
      subst hf
      rw [hg] at hq
      injection hq with hq
      subst hq
      exact ⟨hb0, ens', clock', putObj_same hlt, hm⟩
    · rw [Hp.put_other _ _ hi] at hf
      obtain ⟨a1, ens2, clock2, a2, a3⟩ := hw.map i es2 x hf hq
      exact ⟨a1, ens2, clock2, by rw [Zs _ _ (hne i x hi (by rw [hf]; rfl) hq)]; exact a2, a3⟩
  · have hi : i ≠ b := fun e => by subst e; rw [Hp.put_same] at hf; cases hf
    rw [Hp.put_other _ _ hi] at hf
    obtain ⟨a1, ens2, clock2, a2, a3⟩ := hw.romap i es2 x hf hq
    exact ⟨a1, ens2, clock2, by rw [Zs _ _ (by omega)]; exact a2, a3⟩
  · have hl1 : ∀ i, ((H.put b (.map es')).get i).live = true → (H.get i).live = true := fun i h => by
      by_cases hi : i = b
      · subst hi; rw [hx]; rfl
      · rwa [Hp.put_other _ _ hi] at h
    exact hw.inj i j x y (hl1 i hl) (hl1 j hl') hq hq' e
theorem Step.writeMap {base : Nat} {φ : Inj} {H : Hp} {w : World} (hw : WRel base φ H w) {b : Nat} {es es' : List (Value × Value)} {g : Img} (hx : H.get b = .map es) (hg : φ b = some g) (o : Obj) : Step φ H w φ (H.put b (.map es')) (w.putObj g.rb o) where
  ext := .refl φ
  hsize := Nat.le_refl _
  dead i hi hd := by
    rw [Hp.put_other _ _ (fun e => by subst e; rw [hx] at hd; cases hd)]
    exact hd
  nomap _ _ h := h
  os := rfl
  tape := rfl
  output := rfl
  drawn := Nat.le_refl _
  size := by rw [Uu]; exact Nat.le_refl _
  keep k hk hn := by
    have hne : k ≠ g.rb := fun e => hn ⟨b, g, by rw [hx]; rfl, hg, e.symm⟩
    refine ⟨Zs _ _ hne, fun ⟨i, g', hl, hg', he⟩ => hn ⟨i, g', ?_, hg', he⟩⟩
    by_cases hi : i = b
    · subst hi; rw [hx]; rfl
    · rwa [Hp.put_other _ _ hi] at hl
section
variable {P : Program} {t : Fr} {H : Hp} {d : Option Tmp} {ty : TypeId} {pos : String} {after : Array Edge} {guard : Option (Nat × Bool)} {K : Value → Hp → Prop}
theorem aop_mapUpdate {mt kt et : TypeId} {Ky : Value → Prop} {x y z : Operand} {b : Nat} {es : List (Value × Value)} {k v : Value} (hu : P.underlying mt = some (.map kt et)) (hK : KeyTy P kt Ky)
    (hx : t.eval x = .map (some b)) (hy : t.eval y = k) (hz : t.eval z = v) (hk : Ky k) (hb : H.get b = .map es) (hes : ∀ e ∈ es, Ky e.1)
    (kk : K undef (H.put b (.map (V7 es k v)))) : AOp P ⟨d, .mapUpdate mt x y z, ty, pos, after, guard⟩ t H K := fun base φ w a hw ho next Q' hk' => by
  have h1 := ho x (by simp [Op.operands])
  have h2 := ho y (by simp [Op.operands])
  have h3 := ho z (by simp [Op.operands])
  rw [hx] at h1
  rw [hy] at h2
  rw [hz] at h3
  have e2 : a.eval y = k := hK.same hk h2
  generalize hqx : a.eval x = ux at h1
  cases h1 with
  | @map _ g hg =>
    obtain ⟨_, ens, clock, p1, p2⟩ := hw.map b es g hb hg
    have hget := Go.MapKept.run_getObj_map (P := P) p1
    have hlt : g.rb < w.heap.size := (Array.getElem?_eq_some_iff.1 p1).1
    have hset : ∀ o, (setObj g.rb o).run P w = .ok () (w.putObj g.rb o) := fun o => Go.MapKept.run_setObj_map o p1
    rcases hK.both p2 hes hk w with ⟨f1, f2⟩ | ⟨j, e, v0, f1, f2, f3, f4, f5, f6⟩
    · have hrun : (execOp a.eval ⟨d, .mapUpdate mt x y z, ty, pos, after, guard⟩).run P w = .ok .skip (w.putObj g.rb (.map (ens.push { key := k, val := a.eval z, born := clock }) (clock + 1))) := by
        simp [execOp, Instr.mapUpdate, run_underlying hu, hqx, e2, hget, hK.check w _ hk, f1, hset]
      unfold Oper.wp
      rw [hrun]
      rw [show V7 es k v = es ++ [(k, v)] by unfold V7; rw [f2]] at kk
      exact hk' undef undef _ φ _ kk (hw.writeMap hb hg (p2.push (by rw [e2] at h2; exact h2) h3)) (undef_rel _) (Step.writeMap hw hb hg _)
    · have hst : (Instr.keyThatStays (((ens[j]?).map (·.key)).getD k) k).run P w = .ok k w := by rw [f2]; simp only [Option.map_some, Option.getD_some, f3]; exact hK.stays w hk
      have hrun : (execOp a.eval ⟨d, .mapUpdate mt x y z, ty, pos, after, guard⟩).run P w = .ok .skip (w.putObj g.rb (.map (ens.modify j fun e => { e with key := k, val := a.eval z }) clock)) := by
        simp [execOp, Instr.mapUpdate, run_underlying hu, hqx, e2, hget, hK.check w _ hk, f1, hst, hset]
      unfold Oper.wp
      rw [hrun]
      rw [show V7 es k v = es.set j (k, v) by unfold V7; rw [f4]] at kk
      exact hk' undef undef _ φ _ kk (hw.writeMap hb hg (p2.set (by rw [e2] at h2; exact h2) h3)) (undef_rel _) (Step.writeMap hw hb hg _)
end
theorem keyTy_struct {P : Program} {kt : TypeId} {fs : Array Field} {K : Value → Prop} (hu : P.underlying kt = some (.struct fs)) (same : ∀ {φ : Inj} {v v' : Value}, K v → VRel φ v v' → v' = v)
    (check : ∀ (w : World) (em : Bool) {v : Value}, K v → (Instr.checkKey em 10000 kt v).run P w = .ok () w) (stays : ∀ (w : World) {v : Value}, K v → (Instr.keyThatStays v v).run P w = .ok v w)
    (heq : ∀ (w : World) {x y : Value}, K x → K y → ∃ r : Bool, (Op.equal kt x y).run P w = .ok r w ∧ (r = true ↔ y = x)) : KeyTy P kt K := by
  refine ⟨same, check, fun w x hx es hes => ?_, stays⟩
  have key : ∀ (es : List MapEntry) (i0 : Nat), (∀ e ∈ es, K e.key) → ((Instr.findAsking kt x es i0).run P w = .ok none w ∧ ∀ e ∈ es, e.key ≠ x) ∨ ∃ j e, (Instr.findAsking kt x es i0).run P w = .ok (some (i0 + j, e.val)) w ∧ es[j]? = some e ∧ e.key = x ∧ ∀ i, i < j → ∀ e', es[i]? = some e' → e'.key ≠ x := by
    intro es
    induction es with
    | nil => intro i0 _; exact .inl ⟨by simp [Instr.findAsking], by simp⟩
    | cons e es ih =>
      intro i0 hes
      obtain ⟨r, h1, h2⟩ := heq w hx (hes e (by simp))
      cases hr : r with
      | true =>
        subst hr
        exact .inr ⟨0, e, by simp [Instr.findAsking, h1], rfl, h2.1 rfl, fun i hi => by omega⟩
      | false =>
        subst hr
        have hne : e.key ≠ x := fun e1 => by have := h2.2 e1; cases this
        rcases ih (i0 + 1) (fun e' he' => hes e' (by simp [he'])) with ⟨h3, h4⟩ | ⟨j, e', h3, h4, h5, h6⟩
        · exact .inl ⟨by simp [Instr.findAsking, h1, h3], fun e' he' => by rcases List.mem_cons.1 he' with rfl | h; exact hne; exact h4 e' h⟩
        · refine .inr ⟨j + 1, e', by simp [Instr.findAsking, h1, h3]; omega, by simpa using h4, h5, fun i hi e2 he2 => ?_⟩
          cases i with
          | zero => simp at he2; subst he2; exact hne
          | succ i => exact h6 i (by omega) e2 (by simpa using he2)
  have hf : (Instr.findKey kt x es).run P w = (Instr.findAsking kt x es).run P w := by
    cases es with
    | nil => simp [Instr.findKey, run_underlying hu, Instr.findNow, Instr.findAsking]
    | cons e es => simp [Instr.findKey, run_underlying hu, Instr.findNow, Instr.sameNow]
  rw [hf]
  have := key es 0 hes
  simpa using this
end Go.Proofs.YtmakkmcjocjgmaaGreat.Am
