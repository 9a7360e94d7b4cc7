/- Triples over the abstract heap: what is said of an abstract heap holds in every real world that it stands for; the rules of code. -/
import Derived.Test.YtmakkmcjocjgmaaGreatCaBase
import Derived.ControlIn
import Derived.CallsIn
import Derived.OrdersIn
import Derived.RangeFuncLeaves
import Derived.RangeFuncCalls
namespace Go.Proofs.YtmakkmcjocjgmaaGreat.Am
open Go Go.RowKit
set_option linter.unusedVariables false
set_option linter.unusedSimpArgs false

def Foot (φ : Inj) (H : Hp) (k : Nat) : Prop := ∃ b g, (H.get b).live = true ∧ φ b = some g ∧ g.rb = k

structure Step (φ : Inj) (H : Hp) (w : World) (φ' : Inj) (H' : Hp) (w' : World) : Prop where
  ext : Ext φ φ'
  hsize : H.size ≤ H'.size
  dead : ∀ b, b < H.size → H.get b = .dead → H'.get b = .dead
  nomap : ∀ b, b < H.size → φ b = none → φ' b = none
  os : w'.os = w.os
  tape : w'.tape = w.tape
  output : w'.output = w.output
  drawn : w.drawn ≤ w'.drawn
  size : w.heap.size ≤ w'.heap.size
  keep : ∀ k, k < w.heap.size → ¬ Foot φ H k → w'.heap[k]? = w.heap[k]? ∧ ¬ Foot φ' H' k
theorem Step.refl (φ : Inj) (H : Hp) (w : World) : Step φ H w φ H w := ⟨.refl _, Nat.le_refl _, fun _ _ h => h, fun _ _ h => h, rfl, rfl, rfl, Nat.le_refl _, Nat.le_refl _, fun _ _ h => ⟨rfl, h⟩⟩
theorem Step.trans {φ φ1 φ2 : Inj} {H H1 H2 : Hp} {w w1 w2 : World} (h : Step φ H w φ1 H1 w1) (k : Step φ1 H1 w1 φ2 H2 w2) : Step φ H w φ2 H2 w2 where
  ext := h.ext.trans k.ext
  hsize := Nat.le_trans h.hsize k.hsize
  dead b hb hd := k.dead b (Nat.lt_of_lt_of_le hb h.hsize) (h.dead b hb hd)
  nomap b hb hd := k.nomap b (Nat.lt_of_lt_of_le hb h.hsize) (h.nomap b hb hd)
  os := k.os.trans h.os
  tape := k.tape.trans h.tape
  output := k.output.trans h.output
  drawn := Nat.le_trans h.drawn k.drawn
  size := Nat.le_trans h.size k.size
  keep i hi hn := by
    obtain ⟨a, b⟩ := h.keep i hi hn
    obtain ⟨c, d⟩ := k.keep i (Nat.lt_of_lt_of_le hi h.size) b
    exact ⟨c.trans a, d⟩
theorem Step.drew {φ : Inj} {H : Hp} {w w' : World} (e : w'.heap = w.heap) (h1 : w'.os = w.os) (h2 : w'.tape = w.tape) (h3 : w'.output = w.output) (h4 : w.drawn ≤ w'.drawn) : Step φ H w φ H w' :=
  ⟨.refl _, Nat.le_refl _, fun _ _ h => h, fun _ _ h => h, h1, h2, h3, h4, by rw [e]; exact Nat.le_refl _, fun _ _ h => ⟨by rw [e], h⟩⟩
theorem WRel.foot {base : Nat} {φ : Inj} {H : Hp} {w : World} (h : WRel base φ H w) {k : Nat} (hf : Foot φ H k) : base ≤ k ∧ k < w.heap.size := by
  obtain ⟨b, g, hl, hg, rfl⟩ := hf
  cases hb : H.get b with
  | own st cs => obtain ⟨h0, _, c, e, h1, _⟩ := h.own b st cs g hb hg; exact ⟨h0, (Array.getElem?_eq_some_iff.1 h1).1⟩
  | map es => obtain ⟨h0, c, e, h1, _⟩ := h.map b es g hb hg; exact ⟨h0, (Array.getElem?_eq_some_iff.1 h1).1⟩
  | dead => rw [hb] at hl; cases hl
  | ro f => rw [hb] at hl; cases hl
  | romap es => rw [hb] at hl; cases hl
theorem Step.below {base : Nat} {φ φ' : Inj} {H H' : Hp} {w w' : World} (hw : WRel base φ H w) (h : Step φ H w φ' H' w') : Below base w w' :=
  ⟨h.os, h.tape, h.output, h.size, fun k hk => (h.keep k (Nat.lt_of_lt_of_le hk hw.hb) fun hf => by have := (hw.foot hf).1; omega).1⟩

abbrev Fr := Nat → Value
def Fr.put (t : Fr) (d : Option Tmp) (v : Value) : Fr := match d with
  | some d => fun i => if i = d then v else t i
  | none => t
def Fr.eval (t : Fr) : Operand → Value
  | .tmp i => t i
  | .const v => v
  | .global g => .pointer (some ⟨g, 0, none⟩)
  | .func f => .func (.func f) #[] #[]
def plainV : Value → Bool
  | .bool _ | .int .. | .float .. | .string _ | .pointer none | .slice none 0 0 | .map none | .nilFunc | .nilIface => true
  | .agg xs => xs.all fun
    | .bool _ | .int .. | .float .. | .string _ | .pointer none | .slice none 0 0 | .map none | .nilFunc | .nilIface => true
    | _ => false
  | .tuple xs => xs.isEmpty
  | _ => false
theorem VRel.plain {φ : Inj} {v : Value} (h : plainV v = true) : VRel φ v v := by
  have one : ∀ u : Value, (match u with
    | .bool _ | .int .. | .float .. | .string _ | .pointer none | .slice none 0 0 | .map none | .nilFunc | .nilIface => true
    | _ => false) = true → VRel φ u u := by
    intro u hu
    split at hu <;> first | constructor | cases hu
  unfold plainV at h
  split at h
  · exact .bool _
  · exact .int _ _
  · exact .float _ _
  · exact .string _
  · exact .ptrNil
  · exact .sliceNil
  · exact .mapNil
  · exact .nilFunc
  · exact .nilIface
  · rename_i xs
    exact .agg _ _ rfl fun i a b => one _ (by simpa using (Array.all_eq_true.1 h) i a)
  · rename_i xs
    exact .tuple _ _ rfl fun i a b => by simp at h; subst h; simp at a
  · cases h
def plainO : Operand → Bool
  | .const v => plainV v
  | .global _ => false
  | _ => true
theorem undef_rel (φ : Inj) : VRel φ undef undef := .plain rfl

structure TRel (φ : Inj) (N : Nat) (t : Fr) (a : Array Value) : Prop where
  size : a.size = N
  rel : ∀ i, VRel φ (t i) (a.getD i undef)
theorem TRel.mono {φ φ' : Inj} (he : Ext φ φ') {N : Nat} {t : Fr} {a : Array Value} (h : TRel φ N t a) : TRel φ' N t a := ⟨h.size, fun i => (h.rel i).mono he⟩
theorem TRel.eval {φ : Inj} {N : Nat} {t : Fr} {a : Act} (h : TRel φ N t a.tmps) {x : Operand} (hx : plainO x = true) : VRel φ (t.eval x) (a.eval x) := by
  cases x with
  | tmp i => exact h.rel i
  | const v => exact .plain hx
  | global g => cases hx
  | func f => exact .func f #[] #[] #[] #[] rfl (fun i a => by simp at a) rfl (fun i a => by simp at a)
def dstOk (N : Nat) (d : Option Tmp) : Bool := match d with | some d => decide (d < N) | none => true
theorem TRel.put {φ : Inj} {N : Nat} {t : Fr} {a : Act} (h : TRel φ N t a.tmps) {d : Option Tmp} (hd : dstOk N d = true) {v v' : Value} (hv : VRel φ v v') : TRel φ N (t.put d v) (a.put d v').tmps := by
  cases d with
  | none => exact h
  | some d =>
    simp [dstOk] at hd
    refine ⟨by simpa [Act.put] using h.size, fun i => ?_⟩
    have hs := h.size
    simp only [Fr.put, Act.put]
    by_cases hi : i = d
    · subst hi
      rw [if_pos rfl]
      have : (a.tmps.setIfInBounds i v').getD i undef = v' := by simp [Array.getD_eq_getD_getElem?, hs, hd]
      rw [this]
      exact hv
    · rw [if_neg hi]
      have : (a.tmps.setIfInBounds d v').getD i undef = a.tmps.getD i undef := by
        simp only [Array.getD_eq_getD_getElem?]
        rw [Array.getElem?_setIfInBounds_ne (Ne.symm hi)]
      rw [this]
      exact h.rel i
theorem Act.put_defers' (a : Act) (d : Option Tmp) (v : Value) : (a.put d v).defers = a.defers := by cases d <;> rfl

def Post (base : Nat) (φ : Inj) (H : Hp) (w : World) (R : Value → Hp → Prop) : Ending → World → Prop := fun e w' =>
  ∃ v v' H' φ', e = .returned v' ∧ R v H' ∧ WRel base φ' H' w' ∧ VRel φ' v v' ∧ Step φ H w φ' H' w'
def ACalls (P : Program) (f : FuncId) (args : Array Value) (H : Hp) (R : Value → Hp → Prop) : Prop :=
  ∀ base φ w args', WRel base φ H w → VRels φ args args' → Calls P f args' w (Post base φ H w R)
theorem ACalls.mono {P : Program} {f : FuncId} {args : Array Value} {H : Hp} {R R' : Value → Hp → Prop} (h : ACalls P f args H R) (k : ∀ v H', R v H' → R' v H') : ACalls P f args H R' :=
  fun base φ w args' hw ha => (h base φ w args' hw ha).mono fun _ _ ⟨v, v', H', φ', e, r, rest⟩ => ⟨v, v', H', φ', e, k _ _ r, rest⟩

def FW (ro : Option Nat) : Fence := { fn := fun _ => True, depth := none, alive := false, round := ro }
def marks (ms : List Nat) : List Deferred := ms.map fun D => { target := .collected D, args := #[] }
def PostC (base : Nat) (φ : Inj) (H : Hp) (w : World) (N : Nat) (ds : List Deferred) (Q : Exit → Fr → Hp → Prop) : Exit → Act → World → Prop := fun ex a' w' =>
  ∃ t' H' φ' ms, Q ex t' H' ∧ WRel base φ' H' w' ∧ TRel φ' N t' a'.tmps ∧ (a'.defers = marks ms ++ ds ∧ ms.Nodup ∧ ∀ D ∈ ms, w.heap.size ≤ D ∧ w'.heap[D]? = some (.deferred (some []))) ∧ Step φ H w φ' H' w'
def ACode (z : Bool) (P : Program) (N : Nat) (c : Code) (Q : Exit → Fr → Hp → Prop) (t : Fr) (H : Hp) : Prop :=
  ∀ ro, (z = true → ro = none) → ∀ ds base φ w a, WRel base φ H w → TRel φ N t a.tmps → a.defers = ds → c.wpIn (FW ro) 9 P (PostC base φ H w N ds Q) a w
theorem no_marks {a : Act} {ds : List Deferred} {w w' : World} (h : a.defers = ds) : a.defers = marks [] ++ ds ∧ ([] : List Nat).Nodup ∧ ∀ D ∈ ([] : List Nat), w.heap.size ≤ D ∧ w'.heap[D]? = some (.deferred (some [])) :=
  ⟨by simpa [marks] using h, List.nodup_nil, fun D h => by cases h⟩
theorem WRel.not_foot {base : Nat} {φ : Inj} {H : Hp} {w : World} (h : WRel base φ H w) {k : Nat} {ds : Option (List Deferred)} (hk : w.heap[k]? = some (.deferred ds)) : ¬ Foot φ H k := fun ⟨b, g, hl, hg, e⟩ => by
  cases hb : H.get b with
  | own st cs => obtain ⟨_, _, c, e1, h1, _⟩ := h.own b st cs g hb hg; rw [e, hk] at h1; cases h1
  | map es => obtain ⟨_, c, e1, h1, _⟩ := h.map b es g hb hg; rw [e, hk] at h1; cases h1
  | dead => rw [hb] at hl; cases hl
  | ro f => rw [hb] at hl; cases hl
  | romap es => rw [hb] at hl; cases hl
theorem PostC.from {base : Nat} {φ φ1 : Inj} {H H1 : Hp} {w w1 : World} {N : Nat} {ds ds1 : List Deferred} {Q : Exit → Fr → Hp → Prop} (hw1 : WRel base φ1 H1 w1) (h : Step φ H w φ1 H1 w1) {ms : List Nat} (hd : ds1 = marks ms ++ ds) (hnd : ms.Nodup) (hm : ∀ D ∈ ms, w.heap.size ≤ D ∧ w1.heap[D]? = some (.deferred (some []))) {ex : Exit} {a : Act} {w' : World} (k : PostC base φ1 H1 w1 N ds1 Q ex a w') : PostC base φ H w N ds Q ex a w' :=
  let ⟨t', H', φ', ms2, q, r, s, ⟨d1, d2, d3⟩, st⟩ := k
  ⟨t', H', φ', ms2 ++ ms, q, r, s, ⟨by rw [d1, hd]; simp [marks], by
    rw [List.nodup_append]
    refine ⟨d2, hnd, fun x hx y hy e => ?_⟩
    subst e
    have h1 := (d3 x hx).1
    have h2 := (Array.getElem?_eq_some_iff.1 (hm x hy).2).1
    omega, fun D hD => by
    rcases List.mem_append.1 hD with hD | hD
    · exact ⟨Nat.le_trans h.size (d3 D hD).1, (d3 D hD).2⟩
    · have h1 := hm D hD
      refine ⟨h1.1, ?_⟩
      rw [(st.keep D (Array.getElem?_eq_some_iff.1 h1.2).1 (hw1.not_foot h1.2)).1]
      exact h1.2⟩, h.trans st⟩
section
variable {z : Bool} {P : Program} {N : Nat} {Q : Exit → Fr → Hp → Prop} {t : Fr} {H : Hp}
theorem ACode.mono {c : Code} {Q' : Exit → Fr → Hp → Prop} (h : ACode z P N c Q t H) (k : ∀ e t H, Q e t H → Q' e t H) : ACode z P N c Q' t H :=
  fun ro hz ds base φ w a hw ht hd => wpIn_mono (h ro hz ds base φ w a hw ht hd) fun _ _ _ ⟨t', H', φ', ms, q, rest⟩ => ⟨t', H', φ', ms, k _ _ _ q, rest⟩
theorem X9 (h : Q .normal t H) : ACode z P N .skip Q t H := fun _ _ _ _ φ w _ hw ht hd => wpIn_skip ⟨t, H, φ, [], h, hw, ht, no_marks hd, .refl _ _ _⟩
theorem Yx {id : Nat} (h : Q (.exit id) t H) : ACode z P N (.exit id) Q t H := fun _ _ _ _ φ w _ hw ht hd => wpIn_exit ⟨t, H, φ, [], h, hw, ht, no_marks hd, .refl _ _ _⟩
theorem X2 (h : Q .ret t H) : ACode z P N .ret Q t H := fun _ _ _ _ φ w _ hw ht hd => wpIn_ret ⟨t, H, φ, [], h, hw, ht, no_marks hd, .refl _ _ _⟩
def AThen (K : Fr → Hp → Prop) (Q : Exit → Fr → Hp → Prop) : Exit → Fr → Hp → Prop
  | .normal, t, H => K t H
  | e, t, H => Q e t H
theorem Xe {x y : Code} (h : ACode z P N x (AThen (ACode z P N y Q) Q) t H) : ACode z P N (.seq x y) Q t H := fun ro hz ds base φ w a hw ht hd =>
  wpIn_seq (wpIn_mono (h ro hz ds base φ w a hw ht hd) fun e a' w' ⟨t', H', φ', ms, q, hw', ht', hd', st⟩ => by
    cases e with
    | normal => exact wpIn_mono (q ro hz _ base φ' w' a' hw' ht' rfl) fun _ _ _ k => PostC.from hw' st hd'.1 hd'.2.1 hd'.2.2 k
    | exit id => exact ⟨t', H', φ', ms, q, hw', ht', hd', st⟩
    | goto l => exact ⟨t', H', φ', ms, q, hw', ht', hd', st⟩
    | ret => exact ⟨t', H', φ', ms, q, hw', ht', hd', st⟩
    | panic ch => exact ⟨t', H', φ', ms, q, hw', ht', hd', st⟩
    | outgrown => exact ⟨t', H', φ', ms, q, hw', ht', hd', st⟩)
theorem ac_cond {c : Operand} {x y : Code} {b : Bool} (hc : t.eval c = .bool b) (hp : plainO c = true) (h : ACode z P N (if b then x else y) Q t H) : ACode z P N (.cond c x y) Q t H := fun ro hz ds base φ w a hw ht hd => by
  have hr := ht.eval hp
  rw [hc] at hr
  generalize ha : a.eval c = u at hr
  cases hr
  exact wpIn_cond ha (h ro hz ds base φ w a hw ht hd)
theorem Yu {c : Operand} {x y : Code} (hc : t.eval c = .bool true) (hp : plainO c = true) (h : ACode z P N x Q t H) : ACode z P N (.cond c x y) Q t H := ac_cond hc hp (by simpa using h)
theorem Y2 {c : Operand} {x y : Code} (hc : t.eval c = .bool false) (hp : plainO c = true) (h : ACode z P N y Q t H) : ACode z P N (.cond c x y) Q t H := ac_cond hc hp (by simpa using h)
def AInBlock (id : Nat) (Q : Exit → Fr → Hp → Prop) : Exit → Fr → Hp → Prop
  | .exit id', t, H => if id' = id then Q .normal t H else Q (.exit id') t H
  | e, t, H => Q e t H
theorem Ye {id : Nat} {c : Code} (h : ACode z P N c (AInBlock id Q) t H) : ACode z P N (.block id c) Q t H := fun ro hz ds base φ w a hw ht hd =>
  wpIn_block (wpIn_mono (h ro hz ds base φ w a hw ht hd) fun e a' w' ⟨t', H', φ', ms, q, hw', ht', hd', st⟩ => by
    cases e with
    | normal => exact ⟨t', H', φ', ms, q, hw', ht', hd', st⟩
    | exit id' =>
      simp only [Exit.inBlock]
      simp only [AInBlock] at q
      split at q
      · rename_i h; rw [if_pos h]; exact ⟨t', H', φ', ms, q, hw', ht', hd', st⟩
      · rename_i h; rw [if_neg h]; exact ⟨t', H', φ', ms, q, hw', ht', hd', st⟩
    | goto l => exact ⟨t', H', φ', ms, q, hw', ht', hd', st⟩
    | ret => exact ⟨t', H', φ', ms, q, hw', ht', hd', st⟩
    | panic ch => exact ⟨t', H', φ', ms, q, hw', ht', hd', st⟩
    | outgrown => exact ⟨t', H', φ', ms, q, hw', ht', hd', st⟩)
end

theorem wpIn_loop_rel {F : Fence} {m0 : Nat} {P : Program} {Q : Exit → Act → World → Prop} {a : Act} {w : World} {c : Code} (I : Nat → Act → World → Prop) (n : Nat) (h0 : I n a w)
    (round : ∀ n a w, I n a w → c.wpIn F m0 P (Exit.then (fun a' w' => ∃ m, m < n ∧ I m a' w') Q) a w) : (Code.loop c).wpIn F m0 P Q a w := by
  intro b k cs hro hb hr
  have key : ∀ n a w, I n a w → ∃ e a' w', Q e a' w' ∧ ArrivesIn (Machine.fenced P F) P (lone (b.atR a (.code c :: .inLoop c :: k)) cs w) b k cs e a' w' := by
    intro n
    induction n using Nat.strongRecOn with
    | _ n ih =>
      intro a w hI
      obtain ⟨e, a1, w1, hq, harr⟩ := round n a w hI b (.inLoop c :: k) cs hro hb hr
      cases e with
      | normal =>
        obtain ⟨m, hlt, hI1⟩ := hq
        obtain ⟨e2, a2, w2, hq2, harr2⟩ := ih m hlt a1 w1 hI1
        exact ⟨e2, a2, w2, hq2, .of_steps (StepsIn.trans harr (.one (fenced_calm hb hr rfl) stepR_inLoop)) harr2⟩
      | exit id => exact ⟨_, a1, w1, hq, .pass (x := .inLoop c) rfl (fun _ _ => .inl (by simp)) harr⟩
      | goto l => exact ⟨_, a1, w1, hq, .pass (x := .inLoop c) rfl (fun _ _ => .inl (by simp)) harr⟩
      | ret => exact ⟨_, a1, w1, hq, .pass (x := .inLoop c) rfl (fun _ _ => .inl (by simp)) harr⟩
      | panic ch => exact ⟨_, a1, w1, hq, .pass (x := .inLoop c) rfl (fun _ _ => .inl (by simp)) harr⟩
      | outgrown => exact ⟨_, a1, w1, hq, .pass (x := .inLoop c) rfl (fun _ _ => .inl (by simp)) harr⟩
  obtain ⟨e, a', w', hq, harr⟩ := key n a w h0
  exact ⟨e, a', w', hq, .of_steps (.one (fenced_calm hb hr rfl) stepR_loop) harr⟩

theorem Y5 {z : Bool} {P : Program} {N : Nat} {Q : Exit → Fr → Hp → Prop} {t : Fr} {H : Hp} {c : Code} (I : Nat → Fr → Hp → Prop) (n : Nat) (h0 : I n t H)
    (round : ∀ n t H, I n t H → ACode z P N c (AThen (fun t' H' => ∃ m, m < n ∧ I m t' H') Q) t H) : ACode z P N (.loop c) Q t H := fun ro hz ds base φ w a hw ht hd =>
  wpIn_loop_rel (fun n a' w' => PostC base φ H w N ds (fun _ t' H' => I n t' H') .normal a' w') n ⟨t, H, φ, [], h0, hw, ht, no_marks hd, .refl _ _ _⟩
    fun n a1 w1 ⟨t1, H1, φ1, ms1, hI, hw1, ht1, hd1, st1⟩ => wpIn_mono (round n t1 H1 hI ro hz _ base φ1 w1 a1 hw1 ht1 rfl) fun e a' w' k => by
      cases e with
      | normal =>
        obtain ⟨t', H', φ', ms, ⟨m, hm, hI'⟩, hw', ht', hd', st⟩ := k
        exact ⟨m, hm, PostC.from hw1 st1 hd1.1 hd1.2.1 hd1.2.2 ⟨t', H', φ', ms, hI', hw', ht', hd', st⟩⟩
      | exit id => exact PostC.from (Q := Q) hw1 st1 hd1.1 hd1.2.1 hd1.2.2 k
      | goto l => exact PostC.from (Q := Q) hw1 st1 hd1.1 hd1.2.1 hd1.2.2 k
      | ret => exact PostC.from (Q := Q) hw1 st1 hd1.1 hd1.2.1 hd1.2.2 k
      | panic ch => exact PostC.from (Q := Q) hw1 st1 hd1.1 hd1.2.1 hd1.2.2 k
      | outgrown => exact PostC.from (Q := Q) hw1 st1 hd1.1 hd1.2.1 hd1.2.2 k

def ALoad (P : Program) (ty : TypeId) (H : Hp) (b o : Nat) (v : Value) : Prop :=
  ∀ base φ w g, WRel base φ H w → φ b = some g → ∃ v', (loadVar ty ⟨g.rb, o + g.d, none⟩).run P w = .ok v' w ∧ VRel φ v v'
def notAgg : TypeDesc → Bool
  | .struct _ | .array _ _ => false
  | _ => true
theorem run_isAgg_no {P : Program} {ty : TypeId} {d : TypeDesc} (hu : P.underlying ty = some d) (hd : notAgg d = true) (w : World) : (isAgg ty).run P w = .ok false w := by
  cases d <;> simp [isAgg, run_underlying hu] <;> cases hd
theorem run_isAgg_yes {P : Program} {ty : TypeId} {d : TypeDesc} (hu : P.underlying ty = some d) (hd : notAgg d = false) (w : World) : (isAgg ty).run P w = .ok true w := by
  cases d <;> simp [isAgg, run_underlying hu] <;> cases hd
theorem aload_one {P : Program} {ty : TypeId} {H : Hp} {b o : Nat} {v : Value} {d : TypeDesc} (hu : P.underlying ty = some d) (hd : notAgg d = true) (hc : H.cell? b o = some v) : ALoad P ty H b o v := fun base φ w g hw hg => by
  obtain ⟨v', h1, h2⟩ := hw.cell hg hc
  exact ⟨v', by simp [loadVar, run_isAgg_no hu hd, h1], h2⟩
theorem Vz {P : Program} {ty : TypeId} {i : TypeInfo} (hi : P.info? ty = some i) (w : World) : (sizeOf ty).run P w = .ok i.size w := by simp [sizeOf, typeInfo, hi]
theorem info_size {P : Program} {ty n : Nat} (hi : (P.info? ty).map (·.size) = some n) : ∃ i, P.info? ty = some i ∧ i.size = n := by
  cases h : P.info? ty with
  | none => rw [h] at hi; cases hi
  | some i => rw [h] at hi; exact ⟨i, rfl, by simpa using hi⟩
def Cells (H : Hp) (b o : Nat) (cs : List Value) : Prop := ∀ (j : Nat) v, cs[j]? = some v → H.cell? b (o + j) = some v
theorem Cells.real {base : Nat} {φ : Inj} {H : Hp} {w : World} (hw : WRel base φ H w) {b : Nat} {g : Img} (hg : φ b = some g) : ∀ {cs : List Value} {o : Nat}, Cells H b o cs →
    ∃ cs', LRel φ cs cs' ∧ ∀ (j : Nat) v, cs'[j]? = some v → w.cell? ⟨g.rb, o + g.d + j, none⟩ = some v
  | [], o, _ => ⟨[], .nil _, fun j v h => by simp at h⟩
  | c :: cs, o, h => by
    obtain ⟨v', h1, h2⟩ := hw.cell hg (by simpa using h 0 c (by simp) : H.cell? b o = some c)
    obtain ⟨cs', h3, h4⟩ := Cells.real hw hg (cs := cs) (o := o + 1) (fun j v hj => by have := h (j + 1) v (by simpa using hj); rwa [show o + (j + 1) = o + 1 + j by omega] at this)
    refine ⟨v' :: cs', .cons h2 h3, fun j v hj => ?_⟩
    cases j with
    | zero => simp at hj; subst hj; exact h1
    | succ j => simp at hj; have := h4 j v hj; rwa [show o + 1 + g.d + j = o + g.d + (j + 1) by omega] at this
theorem Yo {P : Program} {ty : TypeId} {H : Hp} {b o : Nat} {d : TypeDesc} {cs : List Value} (hu : P.underlying ty = some d) (hd : notAgg d = false) (hi : (P.info? ty).map (·.size) = some cs.length) (hc : Cells H b o cs) :
    ALoad P ty H b o (.agg cs.toArray) := fun base φ w g hw hg => by
  obtain ⟨i, hi, hs⟩ := info_size hi
  obtain ⟨cs', h1, h2⟩ := hc.real hw hg
  have hl := run_loadCells_list (P := P) w ⟨g.rb, o + g.d, none⟩ cs' (fun j v hj => by rw [Addr.add_lit]; exact h2 j v hj)
  rw [← h1.1, ← hs] at hl
  refine ⟨.agg cs'.toArray, ?_, .agg_list h1⟩
  simp [loadVar, run_isAgg_yes hu hd, Vz hi, hl]

def resOf (r : ResultVar) (tmps : Array Value) : Sem Value := match r with
  | .tmp t => pure (tmps.getD t undef)
  | .cell a t => do loadVar t (← asAddr (tmps.getD a undef))
def ARes (P : Program) (r : ResultVar) (t : Fr) (H : Hp) (v : Value) : Prop := ∀ base φ w N a, WRel base φ H w → TRel φ N t a → ∃ v', (resOf r a).run P w = .ok v' w ∧ VRel φ v v'
theorem Xs {P : Program} {t : Fr} {H : Hp} {i : Tmp} {v : Value} (h : t i = v) : ARes P (.tmp i) t H v := fun _ _ _ _ a _ ht => ⟨a.getD i undef, rfl, h ▸ ht.rel i⟩
theorem Yq {P : Program} {t : Fr} {H : Hp} {i : Tmp} {ty : TypeId} {b o : Nat} {v : Value} (h : t i = .pointer (some ⟨b, o, none⟩)) (hl : ALoad P ty H b o v) : ARes P (.cell i ty) t H v := fun base φ w N a hw ht => by
  have hr := ht.rel i
  rw [h] at hr
  generalize ha : a.getD i undef = u at hr
  cases hr with
  | ptr o hg =>
    obtain ⟨v', h1, h2⟩ := hl base φ w _ hw hg
    exact ⟨v', by simp [resOf, ha, asAddr, h1], h2⟩
def AResult (P : Program) (rs : Array ResultVar) (t : Fr) (H : Hp) (v : Value) : Prop :=
  ∀ base φ w N a, WRel base φ H w → TRel φ N t a → ∀ fn : Func, fn.results = rs → ∃ v', (results fn a).run P w = .ok v' w ∧ VRel φ v v'
theorem results_eq (fn : Func) (a : Array Value) : results fn a = ((fn.results.mapM fun r => resOf r a) >>= fun vs => pure (if h : vs.size = 1 then vs[0] else .tuple vs)) := by
  unfold results
  congr 1
theorem aresult0 {P : Program} {t : Fr} {H : Hp} : AResult P #[] t H (.tuple #[]) := fun base φ w N a hw ht fn hf => ⟨.tuple #[], by simp [results, hf], .plain rfl⟩
theorem Xx {P : Program} {t : Fr} {H : Hp} {r : ResultVar} {v : Value} (h : ARes P r t H v) : AResult P #[r] t H v := fun base φ w N a hw ht fn hf => by
  obtain ⟨v', h1, h2⟩ := h base φ w N a hw ht
  refine ⟨v', ?_, h2⟩
  rw [results_eq, hf]
  simp [h1]
theorem Y8 {P : Program} {t : Fr} {H : Hp} {r s : ResultVar} {v u : Value} (h : ARes P r t H v) (k : ARes P s t H u) : AResult P #[r, s] t H (.tuple #[v, u]) := fun base φ w N a hw ht fn hf => by
  obtain ⟨v', h1, h2⟩ := h base φ w N a hw ht
  obtain ⟨u', k1, k2⟩ := k base φ w N a hw ht
  refine ⟨.tuple #[v', u'], ?_, VRel.tuple_list (xs := [v, u]) (ys := [v', u']) (.cons h2 (.cons k2 (.nil _)))⟩
  rw [results_eq, hf]
  simp [h1, k1]
theorem Vg {P : Program} {t : Fr} {H : Hp} {r s q : ResultVar} {v u x : Value} (h : ARes P r t H v) (k : ARes P s t H u) (l : ARes P q t H x) : AResult P #[r, s, q] t H (.tuple #[v, u, x]) := fun base φ w N a hw ht fn hf => by
  obtain ⟨v', h1, h2⟩ := h base φ w N a hw ht
  obtain ⟨u', k1, k2⟩ := k base φ w N a hw ht
  obtain ⟨x', l1, l2⟩ := l base φ w N a hw ht
  refine ⟨.tuple #[v', u', x'], ?_, VRel.tuple_list (xs := [v, u, x]) (ys := [v', u', x']) (.cons h2 (.cons k2 (.cons l2 (.nil _))))⟩
  rw [results_eq, hf]
  simp [h1, k1, l1]

def entry (args : Array Value) : Fr := fun i => args.getD i undef
def ABody (P : Program) (rs : Array ResultVar) (R : Value → Hp → Prop) : Exit → Fr → Hp → Prop
  | .normal, t, H | .ret, t, H => ∃ v, AResult P rs t H v ∧ R v H
  | _, _, _ => False
theorem WRel.turn {base : Nat} {φ : Inj} {H : Hp} {w w' : World} (h : WRel base φ H w) {D : Nat} {o : Option (List Deferred)} (hD : w.heap[D]? = some (.deferred o)) (hs : w'.heap.size = w.heap.size) (hk : ∀ k, k ≠ D → w'.heap[k]? = w.heap[k]?) : WRel base φ H w' := by
  have cell : ∀ a v, w.cell? a = some v → w'.cell? a = some v := fun a v hc => by
    simp only [World.cell?] at hc ⊢
    by_cases e : a.block = D
    · rw [e, hD] at hc; cases hc
    · rw [hk _ e]; exact hc
  have rowAt : ∀ k c e, w.heap[k]? = some (Obj.cells c e (0, 0)) → w'.heap[k]? = some (Obj.cells c e (0, 0)) := fun k c e hc => by
    by_cases e : k = D
    · rw [e, hD] at hc; cases hc
    · rw [hk _ e]; exact hc
  have mapAt : ∀ k es cl, w.heap[k]? = some (Obj.map es cl) → w'.heap[k]? = some (Obj.map es cl) := fun k es cl hc => by
    by_cases e : k = D
    · rw [e, hD] at hc; cases hc
    · rw [hk _ e]; exact hc
  refine ⟨by rw [hs]; exact h.hb, h.dom, fun b f g hf hg => ?_, fun b st cs g hf hg => ?_, fun b es g hf hg => ?_, fun b es g hf hg => ?_, h.inj⟩
  · obtain ⟨a1, a2, a3⟩ := h.ro b f g hf hg
    exact ⟨a1, a2, fun i v hv => let ⟨v', x, y⟩ := a3 i v hv; ⟨v', cell _ _ x, y⟩⟩
  · obtain ⟨a1, a2, c, e, a3, a4⟩ := h.own b st cs g hf hg
    exact ⟨a1, a2, c, e, rowAt _ _ _ a3, a4⟩
  · obtain ⟨a1, ens, clock, a2, a3⟩ := h.map b es g hf hg
    exact ⟨a1, ens, clock, mapAt _ _ _ a2, a3⟩
  · obtain ⟨a1, ens, clock, a2, a3⟩ := h.romap b es g hf hg
    exact ⟨a1, ens, clock, mapAt _ _ _ a2, a3⟩
theorem Zs (w : World) {D k : Nat} (o : Obj) (h : k ≠ D) : (w.putObj D o).heap[k]? = w.heap[k]? := by
  simp [World.putObj, Array.getElem?_setIfInBounds, Ne.symm h]
theorem Uu (w : World) (D : Nat) (o : Obj) : (w.putObj D o).heap.size = w.heap.size := by simp [World.putObj]
theorem leaves_marks {P : Program} {fn : Func} {tmps : Array Value} {R : Ending → World → Prop} {base : Nat} {φ0 φ : Inj} {H0 H : Hp} {w0 : World} : ∀ (ms : List Nat) (w : World), ms.Nodup → (∀ D ∈ ms, w0.heap.size ≤ D ∧ w.heap[D]? = some (.deferred (some []))) → WRel base φ H w → Step φ0 H0 w0 φ H w →
    (∀ w', WRel base φ H w' → Step φ0 H0 w0 φ H w' → LeavesIn (FW none) 9 P fn tmps R [] .returning w') → LeavesInM (FW none) 9 P fn tmps R (marks ms ++ []) .returning w
  | [], w, _, _, hw, st, k => k w hw st
  | D :: ms, w, hn, hm, hw, st, k => by
    obtain ⟨h1, h2⟩ := hm D List.mem_cons_self
    obtain ⟨n1, n2⟩ := List.nodup_cons.1 hn
    refine ⟨by simp, .inl ⟨D, _, rfl, run_takeDeferred h2, ?_⟩⟩
    have hw' : WRel base φ H (w.putObj D (.deferred none)) := hw.turn h2 (Uu _ _ _) fun k hk => Zs _ _ hk
    refine leaves_marks ms _ n2 (fun E hE => ?_) hw' ?_ k
    · have hne : E ≠ D := fun e => by subst e; exact n1 hE
      obtain ⟨g1, g2⟩ := hm E (List.mem_cons_of_mem _ hE)
      exact ⟨g1, by rw [Zs _ _ hne]; exact g2⟩
    · exact ⟨st.ext, st.hsize, st.dead, st.nomap, st.os, st.tape, st.output, st.drawn, by rw [Uu]; exact st.size, fun i hi hf => by
        obtain ⟨k1, k2⟩ := st.keep i hi hf
        exact ⟨by rw [Zs _ _ (by omega)]; exact k1, k2⟩⟩
theorem Xv {P : Program} {f : FuncId} {fn : Func} {c : Code} {args : Array Value} {H : Hp} {R : Value → Hp → Prop} {N : Nat} {rs : Array ResultVar} (hf : P.funcs[f]? = some fn) (hb : fn.body = some c) (hN : fn.ntmps = N) (hr : fn.results = rs)
    (hs : args.size ≤ N) (h : ACode true P N c (ABody P rs R) (entry args) H) : ACalls P f args H R := fun base φ w args' hw ha => by
  have hsz : args'.size = args.size := by have := ha.1; simpa using this.symm
  refine callsIn_wide.1 (callsIn_of_wp_marks (F := FW none) (n := 9) hf hb trivial (wpIn_mono (h none (fun _ => rfl) [] base φ w _ hw ⟨?_, fun i => ?_⟩ rfl) fun e a' w' ⟨t', H', φ', ms, q, hw', ht', hd', st⟩ => ?_))
  · simp [hN]; omega
  · simp only [entry, Array.getD_eq_getD_getElem?]
    by_cases hi : i < args.size
    · obtain ⟨v', h1, h2⟩ := ha.2 i args[i] (by simp [hi])
      have h3 : args'[i]? = some v' := by simpa using h1
      rw [Array.getElem?_append_left (by omega), h3, Array.getElem?_eq_getElem hi]
      exact h2
    · rw [Array.getElem?_append_right (by omega), Array.getElem?_eq_none (by omega)]
      by_cases h4 : i - args'.size < fn.ntmps - args'.size
      · rw [Array.getElem?_eq_getElem (by simpa using h4)]
        simp only [Array.getElem_replicate, Option.getD_some, Option.getD_none]
        exact undef_rel _
      · rw [Array.getElem?_eq_none (by simpa using h4)]
        exact undef_rel _
  · cases e with
    | normal =>
      obtain ⟨v, k1, k2⟩ := q
      show LeavesInM _ _ _ _ _ _ a'.defers _ _
      rw [hd'.1]
      exact leaves_marks ms w' hd'.2.1 hd'.2.2 hw' st fun w'' hw'' st'' => by
        obtain ⟨v', r1, r2⟩ := k1 base φ' w'' N a'.tmps hw'' ht' fn hr
        exact ⟨v', r1, v, v', H', φ', rfl, k2, hw'', r2, st''⟩
    | ret =>
      obtain ⟨v, k1, k2⟩ := q
      show LeavesInM _ _ _ _ _ _ a'.defers _ _
      rw [hd'.1]
      exact leaves_marks ms w' hd'.2.1 hd'.2.2 hw' st fun w'' hw'' st'' => by
        obtain ⟨v', r1, r2⟩ := k1 base φ' w'' N a'.tmps hw'' ht' fn hr
        exact ⟨v', r1, v, v', H', φ', rfl, k2, hw'', r2, st''⟩
    | exit id => exact q.elim
    | goto l => exact q.elim
    | panic ch => exact q.elim
    | outgrown => exact q.elim

end Go.Proofs.YtmakkmcjocjgmaaGreat.Am
