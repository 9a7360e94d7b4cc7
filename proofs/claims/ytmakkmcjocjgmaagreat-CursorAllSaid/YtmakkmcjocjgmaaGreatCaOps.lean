/- Operations over the abstract heap: those that tell a value, those that make a block, all others; a region in the order of its text. -/
import Derived.Test.YtmakkmcjocjgmaaGreatCaSem
namespace Go.Proofs.YtmakkmcjocjgmaaGreat.Am
open Go Go.RowKit
set_option linter.unusedVariables false
set_option linter.unusedSimpArgs false

def ORel (φ : Inj) (t : Fr) (a : Act) (o : Oper) : Prop := ∀ x ∈ o.op.operands, VRel φ (t.eval x) (a.eval x)
theorem ORel.mono {φ φ' : Inj} (he : Ext φ φ') {t : Fr} {a : Act} {o : Oper} (h : ORel φ t a o) : ORel φ' t a o := fun x hx => (h x hx).mono he
structure Same (w w' : World) : Prop where
  heap : w'.heap = w.heap
  os : w'.os = w.os
  tape : w'.tape = w.tape
  output : w'.output = w.output
  drawn : w.drawn ≤ w'.drawn
theorem Same.refl (w : World) : Same w w := ⟨rfl, rfl, rfl, rfl, Nat.le_refl _⟩
theorem Same.step {w w' : World} (h : Same w w') (φ : Inj) (H : Hp) : Step φ H w φ H w' := Step.drew h.heap h.os h.tape h.output h.drawn
def AVal (P : Program) (o : Oper) (t : Fr) (S : List Nat) (H : Hp) (v : Value) : Prop :=
  ∀ H', (∀ b ∈ S, H'.get b = H.get b) → ∀ base φ w a, WRel base φ H' w → ORel φ t a o → ∃ v' w', (execOp a.eval o).run P w = .ok (.value v') w' ∧ VRel φ v v' ∧ Same w w'
theorem AVal.at {P : Program} {o : Oper} {t : Fr} {S : List Nat} {H H1 : Hp} {v : Value} (h : AVal P o t S H v) (k : ∀ b ∈ S, H1.get b = H.get b) : AVal P o t S H1 v :=
  fun H' e => h H' fun b hb => (e b hb).trans (k b hb)
structure Grew (w w' : World) : Prop where
  os : w'.os = w.os
  tape : w'.tape = w.tape
  output : w'.output = w.output
  drawn : w.drawn ≤ w'.drawn
  size : w.heap.size < w'.heap.size
  block : ∀ k, k < w.heap.size → w'.heap[k]? = w.heap[k]?
def AMake (P : Program) (o : Oper) (t : Fr) (mk : Nat → Value) (x : Blk) : Prop :=
  ∀ base φ H w a b, WRel base φ H w → ORel φ t a o → b < H.size → φ b = none → H.get b = x →
    ∃ v' w' g, (execOp a.eval o).run P w = .ok (.value v') w' ∧ WRel base (Inj.set φ b g) H w' ∧ VRel (Inj.set φ b g) (mk b) v' ∧ Grew w w' ∧ g.rb = w.heap.size
theorem Step.make {φ0 φ : Inj} {H0 H : Hp} {w0 w w' : World} (h : Step φ0 H0 w0 φ H w) {b : Nat} {g : Img} (hb : H0.size ≤ b) (hn : φ b = none) (hg : Grew w w') (hr : g.rb = w.heap.size) : Step φ0 H0 w0 (Inj.set φ b g) H w' where
  ext := h.ext.trans (Inj.ext_set hn g)
  hsize := h.hsize
  dead := h.dead
  nomap c hc hd := by
    have := h.nomap c hc hd
    unfold Inj.set
    rw [if_neg (by omega)]
    exact this
  os := hg.os.trans h.os
  tape := hg.tape.trans h.tape
  output := hg.output.trans h.output
  drawn := Nat.le_trans h.drawn hg.drawn
  size := Nat.le_of_lt (Nat.lt_of_le_of_lt h.size hg.size)
  keep k hk hn := by
    obtain ⟨e1, e2⟩ := h.keep k hk hn
    refine ⟨(hg.block k (Nat.lt_of_lt_of_le hk h.size)).trans e1, fun ⟨c, g', hl, hc, he⟩ => ?_⟩
    unfold Inj.set at hc
    split at hc
    · injection hc with hc
      subst hc
      have := h.size
      omega
    · exact e2 ⟨c, g', hl, hc, he⟩
theorem Step.ghost {φ0 φ : Inj} {H0 H : Hp} {w0 w : World} (h : Step φ0 H0 w0 φ H w) (hd : ∀ b g, φ b = some g → b < H.size) (x : Blk) : Step φ0 H0 w0 φ (H.push x) w where
  ext := h.ext
  hsize := Nat.le_succ_of_le h.hsize
  dead b hb hd := by rw [Hp.push_old _ _ (Nat.lt_of_lt_of_le hb h.hsize)]; exact h.dead b hb hd
  nomap := h.nomap
  os := h.os
  tape := h.tape
  output := h.output
  drawn := h.drawn
  size := h.size
  keep k hk hn := by
    obtain ⟨e1, e2⟩ := h.keep k hk hn
    refine ⟨e1, fun ⟨c, g', hl, hc, he⟩ => e2 ⟨c, g', ?_, hc, he⟩⟩
    rwa [Hp.push_old _ _ (hd c g' hc)] at hl

def AOp (P : Program) (o : Oper) (t : Fr) (H : Hp) (K : Value → Hp → Prop) : Prop :=
  ∀ base φ w a, WRel base φ H w → ORel φ t a o → ∀ next Q', (∀ v v' H' φ' w', K v H' → WRel base φ' H' w' → VRel φ' v v' → Step φ H w φ' H' w' → next (a.put o.dst v') w') → o.wp P a w next Q'
section
variable {P : Program} {o : Oper} {t : Fr} {H : Hp} {K K' : Value → Hp → Prop}
theorem AOp.mono (h : AOp P o t H K) (k : ∀ v H', K v H' → K' v H') : AOp P o t H K' := fun base φ w a hw ho next Q' hk => h base φ w a hw ho next Q' fun v v' H' φ' w' hv => hk v v' H' φ' w' (k _ _ hv)
theorem AOp.val {S : List Nat} {v : Value} (h : AVal P o t S H v) (k : K v H) : AOp P o t H K := fun base φ w a hw ho next Q' hk => by
  obtain ⟨v', w', h1, h2, h3⟩ := h H (fun _ _ => rfl) base φ w a hw ho
  unfold Oper.wp
  rw [h1]
  exact hk v v' H φ w' k (hw.heap h3.heap) h2 (h3.step φ H)
theorem AOp.make {mk : Nat → Value} {x : Blk} (h : AMake P o t mk x) (k : K (mk H.size) (H.push x)) : AOp P o t H K := fun base φ w a hw ho next Q' hk => by
  obtain ⟨v', w', g, h1, h2, h3, h4, h5⟩ := h base φ (H.push x) w a H.size (hw.ghost x) ho (by simp) hw.fresh (by simp)
  unfold Oper.wp
  rw [h1]
  refine hk (mk H.size) v' (H.push x) _ w' k h2 h3 (((Step.refl φ H w).ghost hw.dom x).make (Nat.le_refl _) hw.fresh h4 h5)
end

theorem wpIn_of {ro : Option Nat} {n : Nat} {P : Program} {o : Oper} {a : Act} {w : World} {next : Act → World → Prop} {Q : Exit → Act → World → Prop} (hd : ∀ c, o.op ≠ .defer c) (h : o.wp P a w next Q) : o.wpIn (FW ro) n P a w next Q := by
  refine ⟨fun _ _ => trivial, ?_⟩
  rw [Oper.semAt_eq _ _ _ hd]
  unfold Oper.wp at h
  generalize (execOp a.eval o).run P w = r at h
  have hn : (FW ro).depth.isSome = true → 1 ≤ n := fun h => by cases h
  cases r with
  | ok x w' =>
    cases x <;> first
      | exact h
      | exact ⟨hn, (callsIn_wide (n := n - 1)).2 h⟩
      | exact ⟨hn, fun c cs _ => let ⟨v, w', r, s⟩ := h c cs; ⟨v, w', r, stepsIn_wide.2 s⟩⟩
      | exact absurd h id
  | halt x w' => cases x <;> first | exact h | exact absurd h id
def yieldedF (ops : Array Oper) (t : Fr) (j : Nat) : Option Bool :=
  match (ops[j]?).bind (·.dst) with
  | some d => (match t d with | .bool b => some b | _ => none)
  | none => none
def Zt (ops : Array Oper) (t : Fr) (o : Oper) : Bool := Region.wanted o (yieldedF ops t)
def noDefer (o : Oper) : Bool := match o.op with | .defer _ => false | _ => true
theorem noDefer_ne {o : Oper} (h : noDefer o = true) : ∀ c, o.op ≠ .defer c := fun c e => by simp [noDefer, e] at h
def Vr (N : Nat) (ops : Array Oper) (o : Oper) : Bool := (dstOk N o.dst && noDefer o) && o.op.operands.all plainO && (match o.guard with | some (j, _) => dstOk N ((ops[j]?).bind (·.dst)) | none => true)
theorem U1 {N : Nat} {ops : Array Oper} {o : Oper} (h : Vr N ops o = true) : ∀ c, o.op ≠ .defer c := by simp only [Vr, Bool.and_eq_true] at h; exact noDefer_ne h.1.1.2
theorem wanted_rel {φ : Inj} {N : Nat} {t : Fr} {a : Array Value} {ops : Array Oper} {o : Oper} (hs : a.size = N) (hg : ∀ j b d, o.guard = some (j, b) → (ops[j]?).bind (·.dst) = some d → VRel φ (t d) (a.getD d undef) ∧ d < N) :
    Region.wanted o (yielded ops a) = Zt ops t o := by
  unfold Zt Region.wanted
  cases h : o.guard with
  | none => rfl
  | some p =>
    obtain ⟨j, b⟩ := p
    simp only []
    congr 1
    unfold yielded yieldedF
    cases h2 : (ops[j]?).bind (·.dst) with
    | none => rfl
    | some d =>
      obtain ⟨h3, h4⟩ := hg j b d h h2
      simp only [Option.bind_some]
      have h5 : d < a.size := by rw [hs]; exact h4
      rw [Array.getD_eq_getD_getElem?, Array.getElem?_eq_getElem h5] at h3
      rw [Array.getElem?_eq_getElem h5]
      simp only [Option.getD_some] at h3
      generalize a[d] = u at h3
      generalize t d = s at h3
      cases h3 <;> rfl
theorem TRel.orel {φ : Inj} {N : Nat} {t : Fr} {a : Act} (h : TRel φ N t a.tmps) {ops : Array Oper} {o : Oper} (ho : Vr N ops o = true) : ORel φ t a o := fun x hx => by
  simp only [Vr, Bool.and_eq_true] at ho
  exact h.eval (by simpa using (Array.all_eq_true_iff_forall_mem.1 ho.1.2) x hx)
theorem TRel.wanted {φ : Inj} {N : Nat} {t : Fr} {a : Act} (h : TRel φ N t a.tmps) {ops : Array Oper} {o : Oper} (ho : Vr N ops o = true) : Region.wanted o (yielded ops a.tmps) = Zt ops t o :=
  wanted_rel h.size fun j b d hg hd => ⟨h.rel d, by
    simp only [Vr, Bool.and_eq_true, hg, hd, dstOk] at ho
    simpa using ho.2⟩

def AOps (P : Program) (ops : Array Oper) : List Oper → Fr → Hp → (Fr → Hp → Prop) → Prop
  | [], t, H, K => K t H
  | o :: r, t, H, K => if Zt ops t o = true then AOp P o t H (fun v H' => AOps P ops r (t.put o.dst v) H' K) else AOps P ops r (t.put o.dst undef) H K
theorem aops_wp {P : Program} {N : Nat} {ops : Array Oper} {ro : Option Nat} {ds : List Deferred} {base : Nat} {φ0 : Inj} {H0 : Hp} {w0 : World} {Q : Exit → Fr → Hp → Prop} : ∀ (l : List Nat) (os : List Oper), (∀ i : Nat, (l[i]?).bind (fun j => ops[j]?) = os[i]?) → l.length = os.length → (∀ o ∈ os, Vr N ops o = true) →
    ∀ t H φ w a, AOps P ops os t H (fun t' H' => Q .normal t' H') → WRel base φ H w → TRel φ N t a.tmps → a.defers = ds → Step φ0 H0 w0 φ H w → wpOpsIn (FW ro) 9 P ops (PostC base φ0 H0 w0 N ds Q) l a w
  | [], [], _, _, _, t, H, φ, w, a, h, hw, ht, hd, st => ⟨t, H, φ, [], h, hw, ht, no_marks hd, st⟩
  | [], o :: os, _, hl, _, _, _, _, _, _, _, _, _, _, _ => by simp at hl
  | i :: l, [], _, hl, _, _, _, _, _, _, _, _, _, _, _ => by simp at hl
  | i :: l, o :: os, he, hl, hok, t, H, φ, w, a, h, hw, ht, hd, st => by
    have hi : ops[i]? = some o := by simpa using he 0
    have he' : ∀ j : Nat, (l[j]?).bind (fun j => ops[j]?) = os[j]? := fun j => by simpa using he (j + 1)
    have hl' : l.length = os.length := by simpa using hl
    have hok' : ∀ o ∈ os, Vr N ops o = true := fun o ho => hok o (by simp [ho])
    have ho := hok o (by simp)
    have hdst : dstOk N o.dst = true := by simp only [Vr, Bool.and_eq_true] at ho; exact ho.1.1.1
    unfold wpOpsIn
    simp only [hi]
    rw [ht.wanted ho]
    simp only [AOps] at h
    split at h
    · rename_i hwn
      rw [if_pos hwn]
      exact wpIn_of (U1 ho) (h base φ w a hw (ht.orel ho) _ _ fun v v' H' φ' w' hv hw' hr hs => aops_wp l os he' hl' hok' _ _ _ _ _ hv hw' ((ht.mono hs.ext).put hdst hr) (by rw [Act.put_defers']; exact hd) (st.trans hs))
    · rename_i hwn
      rw [if_neg hwn]
      exact ⟨fun _ _ => trivial, aops_wp l os he' hl' hok' _ _ _ _ _ h hw (ht.put hdst (undef_rel _)) (by rw [Act.put_defers']; exact hd) st⟩
theorem ac_region {z : Bool} {P : Program} {N : Nat} {Q : Exit → Fr → Hp → Prop} {t : Fr} {H : Hp} {id : Nat} {ops : Array Oper} (hok : ops.toList.all (Vr N ops) = true) (h : AOps P ops ops.toList t H (fun t' H' => Q .normal t' H')) : ACode z P N (.region id ops false) Q t H :=
  fun ro hz ds base φ w a hw ht hd => wpIn_region (aops_wp _ ops.toList (fun i => by
    by_cases hi : i < ops.size
    · simp [hi]
    · simp [hi]) (by simp) (fun o ho => List.all_eq_true.1 hok o ho) t H φ w a h hw ht hd (.refl _ _ _))

theorem AOp.call {P : Program} {f : FuncId} {fn : Func} {t : Fr} {H : Hp} {K : Value → Hp → Prop} {d : Option Tmp} {x : Operand} {xs : Array Operand} {ts : Array TypeId} {ty : TypeId} {pos : String} {after : Array Edge} {guard : Option (Nat × Bool)} {first cap args : Array Value}
    (hx : t.eval x = .func (.func f) first cap) (hf : P.funcs[f]? = some fn) (hb : fn.body.isSome = true) (hn : (fn.name == "runtime.NumGoroutine") = false) (hargs : first.toList ++ xs.toList.map t.eval ++ cap.toList = args.toList) (h : ACalls P f args H K) :
    AOp P ⟨d, .call ⟨.value x, xs, ts⟩, ty, pos, after, guard⟩ t H K := fun base φ w a hw ho next Q' hk => by
  have hr := ho x (by simp [Op.operands, Call.operands])
  rw [hx] at hr
  generalize hu : a.eval x = u at hr
  cases hr with
  | func f xs0 ys0 xs' ys' h1 h2 h3 h4 =>
    have hargs' : VRels φ args (xs' ++ xs.map a.eval ++ ys') := by
      unfold VRels
      rw [← hargs]
      simp only [Array.toList_append, Array.toList_map]
      refine ((LRel.of_arr h1 h2).append ⟨by simp, fun i v hv => ?_⟩).append (LRel.of_arr h3 h4)
      simp only [List.getElem?_map, Option.map_eq_some_iff] at hv ⊢
      obtain ⟨y, hy, rfl⟩ := hv
      exact ⟨_, ⟨y, hy, rfl⟩, ho y (by simp only [Op.operands, Call.operands, Array.mem_append]; right; exact Array.mem_toList_iff.1 (List.mem_of_getElem? hy))⟩
    have hbn : ¬ fn.body = none := by cases hq : fn.body <;> simp_all
    have hnn : ¬ fn.name = "runtime.NumGoroutine" := by simpa using hn
    unfold Oper.wp
    have hrun : (execOp a.eval ⟨d, .call ⟨.value x, xs, ts⟩, ty, pos, after, guard⟩).run P w = .ok (.enter f (xs' ++ xs.map a.eval ++ ys')) w := by
      simp [execOp, resolve, hu, Deferred.ofValue, invoke, callFunc, hf, hnn, hbn]
    rw [hrun]
    exact (h base φ w _ hw hargs').mono fun e w' ⟨v, v', H', φ', he, r1, r2, r3, r4⟩ => by subst he; exact hk v v' H' φ' w' r1 r2 r3 r4
end Go.Proofs.YtmakkmcjocjgmaaGreat.Am
