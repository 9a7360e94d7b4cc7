/- A region whose order Go leaves open: each operation as soon as it may come, calls and stores one behind the other; what is told by it holds for every order. -/
import Derived.Test.YtmakkmcjocjgmaaGreatCaOps
namespace Go.Proofs.YtmakkmcjocjgmaaGreat.Am
open Go Go.RowKit
set_option linter.unusedVariables false
set_option linter.unusedSimpArgs false

def Ur (o : Oper) : Bool :=
  match o.op with
  | .store .. | .insert .. | .mapUpdate .. | .mapEntry .. | .entryStore .. | .next .. | .range .. | .entry .. => true
  | .call ⟨.value _, _, _⟩ | .call ⟨.invoke .., _, _⟩ => true
  | .call ⟨.builtin .len, _, _⟩ | .call ⟨.builtin .cap, _, _⟩ | .call ⟨.builtin .min, _, _⟩ | .call ⟨.builtin .max, _, _⟩ => false
  | .call ⟨.builtin _, _, _⟩ => true
  | _ => false
def V0 (ops : Array Oper) (i : Nat) : List Nat := match ops[i]? with
  | some o => o.after.toList.filterMap fun e => if Region.binds .any e then some e.on else none
  | none => []
structure RegOk (N : Nat) (ops : Array Oper) (bf : Nat → Nat → Bool) (π : List Nat) : Prop where
  len : π.length = ops.size
  nodup : π.Nodup
  lt : ∀ i ∈ π, i < ops.size
  anc : ∀ i j, bf i j = true → j ∈ V0 ops i ∨ ∃ k ∈ V0 ops i, bf k j = true
  self : ∀ i, bf i i = false
  lin : ∀ p i s, π = p ++ i :: s → ∀ j ∈ V0 ops i, j ∈ p
  chain : ∀ (p : List Nat) (i : Nat) (s : List Nat) (o : Oper), π = p ++ i :: s → ops[i]? = some o → Ur o = true → ∀ x ∈ s, bf x i = true
  ssa : ∀ (i j : Nat) (o q : Oper) (d : Tmp), i ≠ j → ops[i]? = some o → ops[j]? = some q → o.dst = some d → q.dst ≠ some d
  names : ∀ (i j : Nat) (o q : Oper) (d : Tmp), i ≠ j → ops[i]? = some o → ops[j]? = some q → o.dst = some d → d ∈ q.looksAt ops → bf j i = true ∨ bf i j = true
  opers : ∀ (i : Nat) (o : Oper), ops[i]? = some o → Vr N ops o = true

def ADr (P : Program) (ops : Array Oper) (bf : Nat → Nat → Bool) : List Nat → List (Nat × List Nat) → Fr → Hp → (Fr → Hp → Prop) → Prop
  | [], _, t, H, K => K t H
  | i :: r, pend, t, H, K => ∃ o, ops[i]? = some o ∧
    if Zt ops t o = true then
      if Ur o = true then AOp P o t H (fun v H' => (∀ p ∈ pend, bf i p.1 = false → ∀ b ∈ p.2, H'.get b = H.get b) ∧ ADr P ops bf r pend (t.put o.dst v) H' K)
      else (∃ S v, AVal P o t S H v ∧ (∀ b ∈ S, b < H.size) ∧ ADr P ops bf r ((i, S) :: pend) (t.put o.dst v) H K) ∨
        (∃ mk x, AMake P o t mk x ∧ ADr P ops bf r ((i, [H.size]) :: pend) (t.put o.dst (mk H.size)) (H.push x) K)
    else ADr P ops bf r pend (t.put o.dst undef) H K

def LE (ops : Array Oper) (S : Nat → Prop) : List Nat → Prop
  | [] => True
  | x :: s => (∀ j ∈ V0 ops x, S j) ∧ LE ops (fun j => S j ∨ j = x) s
theorem LE.mono {ops : Array Oper} : ∀ {L : List Nat} {S S' : Nat → Prop}, (∀ j, S j → S' j) → LE ops S L → LE ops S' L
  | [], _, _, _, _ => trivial
  | x :: s, S, S', h, k => ⟨fun j hj => h j (k.1 j hj), LE.mono (fun j hj => hj.imp (h j) id) k.2⟩
theorem or_turn {a b c : Prop} (h : (a ∨ b) ∨ c) : (a ∨ c) ∨ b := by
  rcases h with (h | h) | h
  · exact .inl (.inl h)
  · exact .inr h
  · exact .inl (.inr h)
theorem nodup_mid {α : Type} {x : α} {p s : List α} (h : (p ++ x :: s).Nodup) : x ∉ p ++ s ∧ (p ++ s).Nodup := List.nodup_cons.1 ((List.Perm.nodup_iff List.perm_middle).1 h)
theorem LE.remove {ops : Array Oper} {i : Nat} : ∀ {p : List Nat} {S : Nat → Prop} {s : List Nat}, LE ops S (p ++ i :: s) → LE ops (fun j => S j ∨ j = i) (p ++ s)
  | [], _, _, h => h.2
  | x :: p, S, s, h => ⟨fun j hj => .inl (h.1 j hj), LE.mono (fun j hj => or_turn hj) (LE.remove h.2)⟩
theorem LE.anc {ops : Array Oper} {bf : Nat → Nat → Bool} (ha : ∀ i j, bf i j = true → j ∈ V0 ops i ∨ ∃ k ∈ V0 ops i, bf k j = true) {x j : Nat} : ∀ {p : List Nat} {S : Nat → Prop} {s : List Nat}, LE ops S (p ++ x :: s) → (∀ i, S i → ∀ j, bf i j = true → S j) → bf x j = true → S j ∨ j ∈ p
  | [], S, s, h, hc, hb => by
    rcases ha x j hb with hd | ⟨k, hd, hk⟩
    · exact .inl (h.1 j hd)
    · exact .inl (hc k (h.1 k hd) j hk)
  | y :: p, S, s, h, hc, hb => by
    have := LE.anc ha h.2 (fun i hi j hij => by
      rcases hi with hi | rfl
      · exact .inl (hc i hi j hij)
      · rcases ha i j hij with hd | ⟨k, hd, hk⟩
        · exact .inl (h.1 j hd)
        · exact .inl (hc k (h.1 k hd) j hk)) hb
    rcases this with (h1 | h1) | h1
    · exact .inl h1
    · exact .inr (by simp [h1])
    · exact .inr (by simp [h1])
theorem LE.of_lin {ops : Array Oper} : ∀ {L : List Nat} {S : Nat → Prop}, (∀ p i s, L = p ++ i :: s → ∀ j ∈ V0 ops i, S j ∨ j ∈ p) → LE ops S L
  | [], _, _ => trivial
  | x :: L, S, h => ⟨fun j hj => by simpa using h [] x L rfl j hj, LE.of_lin fun p i s e j hj => by
    have := h (x :: p) i s (by rw [e]; rfl) j hj
    simp only [List.mem_cons] at this
    rcases this with h1 | h1 | h1
    · exact .inl (.inl h1)
    · exact .inl (.inr h1)
    · exact .inr h1⟩

inductive PK where
  | skip
  | val (S : List Nat)
  | make (b : Nat) (mk : Nat → Value) (x : Blk)
structure Pend where
  i : Nat
  o : Oper
  tf : Fr
  v : Value
  k : PK
def PK.ids : PK → List Nat
  | .make b _ _ => [b]
  | _ => []
def PK.reads : PK → List Nat
  | .val S => S
  | .make b _ _ => [b]
  | .skip => []
def PendK (P : Program) (ops : Array Oper) (n0 : Nat) (φ : Inj) (H : Hp) (p : Pend) : Prop := match p.k with
  | .skip => Zt ops p.tf p.o = false ∧ p.v = undef
  | .val S => Zt ops p.tf p.o = true ∧ AVal P p.o p.tf S H p.v ∧ ∀ b ∈ S, b < H.size
  | .make b mk x => Zt ops p.tf p.o = true ∧ AMake P p.o p.tf mk x ∧ p.v = mk b ∧ b < H.size ∧ H.get b = x ∧ φ b = none ∧ n0 ≤ b
theorem PendK.at {P : Program} {ops : Array Oper} {n0 : Nat} {φ φ' : Inj} {H H' : Hp} {p : Pend} (h : PendK P ops n0 φ H p) (hs : H.size ≤ H'.size) (hg : ∀ b ∈ p.k.reads, b < H.size → H'.get b = H.get b) (hn : ∀ b ∈ p.k.ids, φ b = none → φ' b = none) : PendK P ops n0 φ' H' p := by
  unfold PendK at *
  cases hk : p.k with
  | skip => simp only [hk] at h ⊢; exact h
  | val S =>
    simp only [hk] at h hg ⊢
    exact ⟨h.1, h.2.1.at fun b hb => hg b hb (h.2.2 b hb), fun b hb => Nat.lt_of_lt_of_le (h.2.2 b hb) hs⟩
  | make b mk x =>
    simp only [hk] at h hg hn ⊢
    obtain ⟨h1, h2, h3, h4, h5, h6, h7⟩ := h
    exact ⟨h1, h2, h3, Nat.lt_of_lt_of_le h4 hs, by rw [hg b (by simp [PK.reads]) h4]; exact h5, hn b (by simp [PK.ids]) h6, h7⟩

section
variable (P : Program) (N : Nat) (ops : Array Oper) (bf : Nat → Nat → Bool) (base : Nat) (φ0 : Inj) (H0 : Hp) (w0 : World) (ds : List Deferred) (K : Fr → Hp → Prop)
def Slots (φ : Inj) (a : Array Value) (F : List Pend) (p : Pend) : Prop := ∀ d ∈ p.o.looksAt ops,
  (∀ q ∈ F, q.o.dst = some d → bf p.i q.i = true → p.tf d = q.v) ∧ ((∀ q ∈ F, q.o.dst = some d → bf p.i q.i = false) → VRel φ (p.tf d) (a.getD d undef))
structure Inv (S : Nat → Prop) (F : List Pend) (π : List Nat) (pend : List (Nat × List Nat)) (t : Fr) (H : Hp) (φ : Inj) (a : Act) (w : World) : Prop where
  le : LE ops S (F.map (·.i) ++ π)
  un : ∀ i, i < ops.size → (¬ S i ↔ i ∈ F.map (·.i) ++ π)
  nodup : (F.map (·.i) ++ π).Nodup
  chain : ∀ (p : List Nat) (i : Nat) (s : List Nat) (o : Oper), π = p ++ i :: s → ops[i]? = some o → Ur o = true → ∀ x ∈ s, bf x i = true
  adr : ADr P ops bf π pend t H K
  closed : ∀ i, S i → ∀ j, bf i j = true → S j
  at_ : ∀ f ∈ F, ops[f.i]? = some f.o
  val : ∀ f ∈ F, ∀ d, f.o.dst = some d → t d = f.v
  kind : ∀ f ∈ F, PendK P ops H0.size φ H f
  reads : ∀ f ∈ F, f.k.reads ≠ [] → (f.i, f.k.reads) ∈ pend
  ids : (F.flatMap fun f => f.k.ids).Nodup
  slots : ∀ f ∈ F, Slots ops bf φ a.tmps F f
  rest : ∀ d, (∀ f ∈ F, f.o.dst ≠ some d) → VRel φ (t d) (a.tmps.getD d undef)
  size : a.tmps.size = N
  rel : WRel base φ H w
  step : Step φ0 H0 w0 φ H w
  defers : a.defers = ds
variable {P N ops bf base φ0 H0 w0 ds K} {π0 : List Nat}

theorem mem_looks {o : Oper} {i : Nat} (h : Operand.tmp i ∈ o.op.operands) : i ∈ o.looksAt ops := List.mem_append_left _ (List.mem_filterMap.2 ⟨.tmp i, by simpa using h, rfl⟩)
theorem mem_looks_guard {o : Oper} {j : Nat} {b : Bool} {d : Tmp} (h : o.guard = some (j, b)) (hd : (ops[j]?).bind (·.dst) = some d) : d ∈ o.looksAt ops := List.mem_append_right _ (by simp [h, hd])
theorem orel_of {φ : Inj} {t : Fr} {a : Act} {o : Oper} {N : Nat} (ho : Vr N ops o = true) (h : ∀ d ∈ o.looksAt ops, VRel φ (t d) (a.tmps.getD d undef)) : ORel φ t a o := fun x hx => by
  simp only [Vr, Bool.and_eq_true] at ho
  have hp : plainO x = true := by simpa using (Array.all_eq_true_iff_forall_mem.1 ho.1.2) x hx
  cases x with
  | tmp i => exact h i (mem_looks hx)
  | const v => exact .plain hp
  | global g => cases hp
  | func f => exact .func f #[] #[] #[] #[] rfl (fun i a => by simp at a) rfl (fun i a => by simp at a)
theorem wanted_of {φ : Inj} {t : Fr} {a : Act} {o : Oper} {N : Nat} (hs : a.tmps.size = N) (ho : Vr N ops o = true) (h : ∀ d ∈ o.looksAt ops, VRel φ (t d) (a.tmps.getD d undef)) : Region.wanted o (yielded ops a.tmps) = Zt ops t o :=
  wanted_rel hs fun j b d hg hd => ⟨h d (mem_looks_guard hg hd), by
    simp only [Vr, Bool.and_eq_true, hg, hd, dstOk] at ho
    simpa using ho.2⟩
theorem getD_put {a : Act} {o : Option Tmp} {v : Value} {d : Tmp} (h : o ≠ some d) : (a.put o v).tmps.getD d undef = a.tmps.getD d undef := by
  cases o with
  | none => rfl
  | some e =>
    have hne : e ≠ d := fun he => h (he ▸ rfl)
    simp only [Act.put, Array.getD_eq_getD_getElem?]
    rw [Array.getElem?_setIfInBounds_ne hne]
theorem getD_put_same {a : Act} {v : Value} {d : Tmp} (h : d < a.tmps.size) : (a.put (some d) v).tmps.getD d undef = v := by
  simp [Act.put, Array.getD_eq_getD_getElem?, h]
theorem put_other {t : Fr} {o : Option Tmp} {v : Value} {d : Tmp} (h : o ≠ some d) : t.put o v d = t d := by
  cases o with
  | none => rfl
  | some e =>
    have hne : ¬ d = e := fun he => h (he ▸ rfl)
    simp [Fr.put, hne]
theorem put_size {a : Act} {o : Option Tmp} {v : Value} : (a.put o v).tmps.size = a.tmps.size := by cases o <;> simp [Act.put]

theorem Inv.exec (hr : ∀ (i j : Nat) (o q : Oper) (d : Tmp), i ≠ j → ops[i]? = some o → ops[j]? = some q → o.dst = some d → d ∈ q.looksAt ops → bf j i = true ∨ bf i j = true) (hop : ∀ (i : Nat) (o : Oper), ops[i]? = some o → Vr N ops o = true)
    {S : Nat → Prop} {F1 F2 : List Pend} {f : Pend} {π : List Nat} {pend : List (Nat × List Nat)} {t : Fr} {H : Hp} {φ φ' : Inj} {a : Act} {w w' : World} (h : Inv P N ops bf base φ0 H0 w0 ds K S (F1 ++ f :: F2) π pend t H φ a w)
    (hready : ∀ j, bf f.i j = true → S j) {v' : Value} (he : Ext φ φ') (hv : VRel φ' f.v v') (hn : ∀ g ∈ F1 ++ F2, ∀ b ∈ g.k.ids, φ b = none → φ' b = none) (hw : WRel base φ' H w') (hst : Step φ0 H0 w0 φ' H w') :
    Inv P N ops bf base φ0 H0 w0 ds K (fun j => S j ∨ j = f.i) (F1 ++ F2) π pend t H φ' (a.put f.o.dst v') w' := by
  have hF : ∀ {g}, g ∈ F1 ++ F2 → g ∈ F1 ++ f :: F2 := fun {g} hg => by
    simp only [List.mem_append, List.mem_cons] at hg ⊢
    rcases hg with hg | hg
    · exact .inl hg
    · exact .inr (.inr hg)
  have hmap : (F1 ++ f :: F2).map (·.i) ++ π = F1.map (·.i) ++ f.i :: (F2.map (·.i) ++ π) := by simp
  have hmap' : (F1 ++ F2).map (·.i) ++ π = F1.map (·.i) ++ (F2.map (·.i) ++ π) := by simp
  have hnd := h.nodup
  rw [hmap] at hnd
  have hne : ∀ {g}, g ∈ F1 ++ F2 → g.i ≠ f.i := fun {g} hg e => by
    refine (nodup_mid hnd).1 ?_
    rw [← e]
    simp only [List.mem_append, List.mem_map] at hg ⊢
    rcases hg with hg | hg
    · exact .inl ⟨g, hg, rfl⟩
    · exact .inr (.inl ⟨g, hg, rfl⟩)
  have hfun : f.i < ops.size := by
    have := h.at_ f (by simp)
    exact (Array.getElem?_eq_some_iff.1 this).1
  have hfS : ¬ S f.i := (h.un f.i hfun).2 (by rw [hmap]; simp)
  have hdst : ∀ d, f.o.dst = some d → d < a.tmps.size := fun d hd => by
    have ho := hop _ _ (h.at_ f (by simp))
    simp only [Vr, Bool.and_eq_true, hd, dstOk] at ho
    rw [h.size]
    simpa using ho.1.1.1
  refine ⟨?_, fun i hi => ?_, ?_, h.chain, h.adr, fun i hi j hij => ?_, fun g hg => h.at_ g (hF hg), fun g hg => h.val g (hF hg), fun g hg => (h.kind g (hF hg)).at (Nat.le_refl _) (fun _ _ _ => rfl) (hn g hg), fun g hg => h.reads g (hF hg), ?_, fun g hg d hd => ⟨fun q hq => ((h.slots g (hF hg)) d hd).1 q (hF hq), fun hall => ?_⟩, fun d hd => ?_, by rw [put_size]; exact h.size, hw, hst, by rw [Act.put_defers']; exact h.defers⟩
  · rw [hmap']
    have := h.le
    rw [hmap] at this
    exact this.remove
  · rw [hmap']
    have := h.un i hi
    rw [hmap] at this
    by_cases e : i = f.i
    · subst e
      refine ⟨fun hc => absurd (.inr rfl) hc, fun hm => ?_⟩
      exact absurd hm (nodup_mid hnd).1
    · constructor
      · intro hc
        have := this.1 (fun hs => hc (.inl hs))
        simp only [List.mem_append, List.mem_cons] at this ⊢
        rcases this with h1 | h1 | h1
        · exact .inl h1
        · exact absurd h1 e
        · exact .inr h1
      · rintro hm (hs | hs)
        · refine this.2 ?_ hs
          simp only [List.mem_append, List.mem_cons] at hm ⊢
          rcases hm with h1 | h1
          · exact .inl h1
          · exact .inr (.inr h1)
        · exact e hs
  · rw [hmap']
    exact (nodup_mid hnd).2
  · rcases hi with hi | rfl
    · exact .inl (h.closed i hi j hij)
    · exact .inl (hready j hij)
  · have := h.ids
    simp only [List.flatMap_append, List.flatMap_cons] at this ⊢
    exact this.sublist (List.Sublist.append (List.Sublist.refl _) (List.sublist_append_right _ _))
  · by_cases e : f.o.dst = some d
    · have hb : bf g.i f.i = true := by
        rcases hr f.i g.i f.o g.o d (Ne.symm (hne hg)) (h.at_ f (by simp)) (h.at_ g (hF hg)) e hd with h1 | h1
        · exact h1
        · have hgl : g.i < ops.size := (Array.getElem?_eq_some_iff.1 (h.at_ g (hF hg))).1
          exact absurd (hready _ h1) ((h.un g.i hgl).2 (List.mem_append_left _ (List.mem_map.2 ⟨g, hF hg, rfl⟩)))
      rw [((h.slots g (hF hg)) d hd).1 f (by simp) e hb, e, getD_put_same (hdst d e)]
      exact hv
    · rw [getD_put e]
      refine (((h.slots g (hF hg)) d hd).2 fun q hq hqd => ?_).mono he
      simp only [List.mem_append, List.mem_cons] at hq
      rcases hq with hq | rfl | hq
      · exact hall q (List.mem_append_left _ hq) hqd
      · exact absurd hqd e
      · exact hall q (List.mem_append_right _ hq) hqd
  · by_cases e : f.o.dst = some d
    · rw [h.val f (by simp) d e, e, getD_put_same (hdst d e)]
      exact hv
    · rw [getD_put e]
      refine (h.rest d fun g hg => ?_).mono he
      simp only [List.mem_append, List.mem_cons] at hg
      rcases hg with hg | rfl | hg
      · exact hd g (List.mem_append_left _ hg)
      · exact e
      · exact hd g (List.mem_append_right _ hg)

theorem Inv.unl {S : Nat → Prop} {F : List Pend} {π : List Nat} {pend : List (Nat × List Nat)} {t : Fr} {H : Hp} {φ : Inj} {a : Act} {w : World} (h : Inv P N ops bf base φ0 H0 w0 ds K S F π pend t H φ a w) {f : Pend} (hf : f ∈ F) : ¬ S f.i :=
  (h.un f.i (Array.getElem?_eq_some_iff.1 (h.at_ f hf)).1).2 (List.mem_append_left _ (List.mem_map.2 ⟨f, hf, rfl⟩))
theorem Inv.behind {S : Nat → Prop} {F : List Pend} {i : Nat} {r : List Nat} {pend : List (Nat × List Nat)} {t : Fr} {H : Hp} {φ : Inj} {a : Act} {w : World} (ha : ∀ i j, bf i j = true → j ∈ V0 ops i ∨ ∃ k ∈ V0 ops i, bf k j = true)
    (h : Inv P N ops bf base φ0 H0 w0 ds K S F (i :: r) pend t H φ a w) (hi : ¬ S i) {f : Pend} (hf : f ∈ F) : bf f.i i = false := by
  cases hb : bf f.i i with
  | false => rfl
  | true =>
    exfalso
    obtain ⟨Fa, Fb, rfl⟩ := List.append_of_mem hf
    have hl := h.le
    have e : (Fa ++ f :: Fb).map (·.i) ++ i :: r = Fa.map (·.i) ++ f.i :: (Fb.map (·.i) ++ i :: r) := by simp
    rw [e] at hl
    rcases LE.anc ha hl h.closed hb with h1 | h1
    · exact hi h1
    · have hn := h.nodup
      rw [e] at hn
      have := (List.nodup_append.1 hn).2.2 i h1 i (by simp)
      exact this rfl
theorem Inv.take (hr : RegOk N ops bf π0) {S : Nat → Prop} {F : List Pend} {i : Nat} {r : List Nat} {pend pend' : List (Nat × List Nat)} {t : Fr} {H H' : Hp} {φ : Inj} {a : Act} {w : World} (h : Inv P N ops bf base φ0 H0 w0 ds K S F (i :: r) pend t H φ a w) {o : Oper} (ho : ops[i]? = some o)
    (k : PK) (v : Value) (hadr : ADr P ops bf r pend' (t.put o.dst v) H' K) (hs : H.size ≤ H'.size) (hg : ∀ b, b < H.size → H'.get b = H.get b) (hw : WRel base φ H' w) (hst : Step φ0 H0 w0 φ H' w) (hk : PendK P ops H0.size φ H' ⟨i, o, t, v, k⟩) (hids : k.ids = [] ∨ k.ids = [H.size])
    (hp : ∀ x ∈ pend, x ∈ pend') (hp' : k.reads ≠ [] → (i, k.reads) ∈ pend') : Inv P N ops bf base φ0 H0 w0 ds K S (F ++ [⟨i, o, t, v, k⟩]) r pend' (t.put o.dst v) H' φ a w := by
  have hlist : (F ++ [(⟨i, o, t, v, k⟩ : Pend)]).map (·.i) ++ r = F.map (·.i) ++ i :: r := by simp
  have hil : i < ops.size := (Array.getElem?_eq_some_iff.1 ho).1
  have hiS : ¬ S i := (h.un i hil).2 (by simp)
  have hne : ∀ {f}, f ∈ F → f.i ≠ i := fun {f} hf e => by
    have := (List.nodup_append.1 h.nodup).2.2 f.i (List.mem_map.2 ⟨f, hf, rfl⟩) i (by simp)
    exact this e
  have hbeh : ∀ {f}, f ∈ F → bf f.i i = false := fun {f} hf => h.behind hr.anc hiS hf
  refine ⟨by rw [hlist]; exact h.le, by rw [hlist]; exact h.un, by rw [hlist]; exact h.nodup, fun p x s q e => h.chain (i :: p) x s q (by rw [e]; rfl), hadr, h.closed, fun f hf => ?_, fun f hf d hd => ?_, fun f hf => ?_, fun f hf hrd => ?_, ?_, fun f hf d hd => ?_, fun d hd => ?_, h.size, hw, hst, h.defers⟩
  · rcases List.mem_append.1 hf with hf | hf
    · exact h.at_ f hf
    · simp at hf; subst hf; exact ho
  · rcases List.mem_append.1 hf with hf | hf
    · rw [put_other (hr.ssa f.i i f.o o d (hne hf) (h.at_ f hf) ho hd)]
      exact h.val f hf d hd
    · simp at hf; subst hf; simp only at hd; rw [hd]; simp [Fr.put]
  · rcases List.mem_append.1 hf with hf | hf
    · exact (h.kind f hf).at hs (fun b _ hb => hg b hb) (fun _ _ e => e)
    · simp at hf; subst hf; exact hk
  · rcases List.mem_append.1 hf with hf | hf
    · exact hp _ (h.reads f hf hrd)
    · simp at hf; subst hf; exact hp' hrd
  · rw [List.flatMap_append]
    simp only [List.flatMap_cons, List.flatMap_nil, List.append_nil]
    rcases hids with hids | hids
    · rw [hids, List.append_nil]; exact h.ids
    · rw [hids]
      refine List.nodup_append.2 ⟨h.ids, by simp, fun b hb c hc => ?_⟩
      simp at hc
      subst hc
      obtain ⟨f, hf, hb⟩ := List.mem_flatMap.1 hb
      have := h.kind f hf
      unfold PendK at this
      cases hfk : f.k with
      | skip => rw [hfk] at hb; simp [PK.ids] at hb
      | val S => rw [hfk] at hb; simp [PK.ids] at hb
      | make b' mk x =>
        rw [hfk] at hb
        simp only [hfk] at this
        simp [PK.ids] at hb
        subst hb
        have := this.2.2.2.1
        omega
  · rcases List.mem_append.1 hf with hf | hf
    · refine ⟨fun q hq hqd hb => ?_, fun hall => ((h.slots f hf) d hd).2 fun q hq => hall q (List.mem_append_left _ hq)⟩
      rcases List.mem_append.1 hq with hq | hq
      · exact ((h.slots f hf) d hd).1 q hq hqd hb
      · simp at hq
        subst hq
        simp only at hb
        rw [hbeh hf] at hb
        cases hb
    · simp at hf
      subst hf
      refine ⟨fun q hq hqd hb => ?_, fun hall => h.rest d fun q hq hqd => ?_⟩
      · rcases List.mem_append.1 hq with hq | hq
        · exact h.val q hq d hqd
        · simp at hq
          subst hq
          simp only at hb
          rw [hr.self] at hb
          cases hb
      · have h1 := hall q (List.mem_append_left _ hq) hqd
        rcases hr.names q.i i q.o o d (hne hq) (h.at_ q hq) ho hqd hd with h2 | h2
        · simp only at h1; rw [h1] at h2; cases h2
        · rw [hbeh hq] at h2; cases h2
  · rw [put_other (hd ⟨i, o, t, v, k⟩ (by simp))]
    exact h.rest d fun f hf => hd f (List.mem_append_left _ hf)
def Head (ops : Array Oper) (π : List Nat) (t : Fr) : Prop := π = [] ∨ ∃ c r o, π = c :: r ∧ ops[c]? = some o ∧ Ur o = true ∧ Zt ops t o = true
theorem Inv.drain (hr : RegOk N ops bf π0) {S : Nat → Prop} {φ : Inj} {a : Act} {w : World} : ∀ (π : List Nat) (F : List Pend) (pend : List (Nat × List Nat)) (t : Fr) (H : Hp), Inv P N ops bf base φ0 H0 w0 ds K S F π pend t H φ a w →
    ∃ F' π' pend' t' H', Inv P N ops bf base φ0 H0 w0 ds K S F' π' pend' t' H' φ a w ∧ Head ops π' t' ∧ F'.length + π'.length = F.length + π.length
  | [], F, pend, t, H, h => ⟨F, [], pend, t, H, h, .inl rfl, rfl⟩
  | i :: r, F, pend, t, H, h => by
    obtain ⟨o, ho, ha⟩ := h.adr
    by_cases hwn : Zt ops t o = true
    · rw [if_pos hwn] at ha
      by_cases hc : Ur o = true
      · exact ⟨F, i :: r, pend, t, H, h, .inr ⟨i, r, o, rfl, ho, hc, hwn⟩, rfl⟩
      · rw [if_neg hc] at ha
        rcases ha with ⟨R, v, hv, hS, ha⟩ | ⟨mk, x, hm, ha⟩
        · obtain ⟨F', π', pend', t', H', h1, h2, h3⟩ := Inv.drain hr r _ _ _ _ (h.take hr ho (.val R) v ha (Nat.le_refl _) (fun _ _ => rfl) h.rel h.step ⟨hwn, hv, hS⟩ (.inl rfl) (fun x hx => by simp [hx]) (fun _ => by simp [PK.reads]))
          exact ⟨F', π', pend', t', H', h1, h2, by simp at h3 ⊢; omega⟩
        · obtain ⟨F', π', pend', t', H', h1, h2, h3⟩ := Inv.drain hr r _ _ _ _ (h.take hr ho (.make H.size mk x) (mk H.size) ha (by simp) (fun b hb => Hp.push_old _ _ hb) (h.rel.ghost x) (h.step.ghost h.rel.dom x) ⟨hwn, hm, rfl, by simp, by simp, h.rel.fresh, h.step.hsize⟩ (.inr rfl) (fun x hx => by simp [hx]) (fun _ => by simp [PK.reads]))
          exact ⟨F', π', pend', t', H', h1, h2, by simp at h3 ⊢; omega⟩
    · rw [if_neg hwn] at ha
      obtain ⟨F', π', pend', t', H', h1, h2, h3⟩ := Inv.drain hr r _ _ _ _ (h.take hr ho .skip undef ha (Nat.le_refl _) (fun _ _ => rfl) h.rel h.step ⟨by simpa using hwn, rfl⟩ (.inl rfl) (fun x hx => hx) (fun hh => absurd rfl hh))
      exact ⟨F', π', pend', t', H', h1, h2, by simp at h3 ⊢; omega⟩
theorem Inv.link (hr : RegOk N ops bf π0) {S : Nat → Prop} {F : List Pend} {c : Nat} {r : List Nat} {pend : List (Nat × List Nat)} {t : Fr} {H H' : Hp} {φ φ' : Inj} {a : Act} {w w' : World} (h : Inv P N ops bf base φ0 H0 w0 ds K S F (c :: r) pend t H φ a w) {o : Oper} (ho : ops[c]? = some o)
    (hready : ∀ j, bf c j = true → S j) {v v' : Value} (hadr : ADr P ops bf r pend (t.put o.dst v) H' K) (hpend : ∀ p ∈ pend, bf c p.1 = false → ∀ b ∈ p.2, H'.get b = H.get b) (hv : VRel φ' v v') (hw : WRel base φ' H' w') (hst : Step φ H w φ' H' w') :
    Inv P N ops bf base φ0 H0 w0 ds K (fun j => S j ∨ j = c) F r pend (t.put o.dst v) H' φ' (a.put o.dst v') w' := by
  have hil : c < ops.size := (Array.getElem?_eq_some_iff.1 ho).1
  have hiS : ¬ S c := (h.un c hil).2 (by simp)
  have hne : ∀ {f}, f ∈ F → f.i ≠ c := fun {f} hf e => by
    have := (List.nodup_append.1 h.nodup).2.2 f.i (List.mem_map.2 ⟨f, hf, rfl⟩) c (by simp)
    exact this e
  have hbeh : ∀ {f}, f ∈ F → bf f.i c = false := fun {f} hf => h.behind hr.anc hiS hf
  have hnot : ∀ {f}, f ∈ F → bf c f.i = false := fun {f} hf => by
    cases hb : bf c f.i with
    | false => rfl
    | true => exact absurd (hready _ hb) (h.unl hf)
  have hdst : ∀ d, o.dst = some d → d < a.tmps.size := fun d hd => by
    have hok := hr.opers _ _ ho
    simp only [Vr, Bool.and_eq_true, hd, dstOk] at hok
    rw [h.size]
    simpa using hok.1.1.1
  refine ⟨h.le.remove, fun i hi => ?_, (nodup_mid h.nodup).2, fun p x s q e => h.chain (c :: p) x s q (by rw [e]; rfl), hadr, fun i hi j hij => ?_, h.at_, fun f hf d hd => ?_, fun f hf => ?_, h.reads, h.ids, fun f hf d hd => ⟨((h.slots f hf) d hd).1, fun hall => ?_⟩, fun d hd => ?_, by rw [put_size]; exact h.size, hw, h.step.trans hst, by rw [Act.put_defers']; exact h.defers⟩
  · have := h.un i hi
    by_cases e : i = c
    · subst e
      exact ⟨fun hc => absurd (.inr rfl) hc, fun hm => absurd hm (nodup_mid h.nodup).1⟩
    · constructor
      · intro hc
        have := this.1 (fun hs => hc (.inl hs))
        simp only [List.mem_append, List.mem_cons] at this ⊢
        rcases this with h1 | h1 | h1
        · exact .inl h1
        · exact absurd h1 e
        · exact .inr h1
      · rintro hm (hs | hs)
        · refine this.2 ?_ hs
          simp only [List.mem_append, List.mem_cons] at hm ⊢
          rcases hm with h1 | h1
          · exact .inl h1
          · exact .inr (.inr h1)
        · exact e hs
  · rcases hi with hi | rfl
    · exact .inl (h.closed i hi j hij)
    · exact .inl (hready j hij)
  · rw [put_other (hr.ssa f.i c f.o o d (hne hf) (h.at_ f hf) ho hd)]
    exact h.val f hf d hd
  · refine (h.kind f hf).at hst.hsize (fun b hb _ => hpend _ (h.reads f hf (by intro e; rw [e] at hb; cases hb)) (hnot hf) b hb) (fun b hb hn => hst.nomap b ?_ hn)
    have := h.kind f hf
    unfold PendK at this
    cases hfk : f.k with
    | skip => rw [hfk] at hb; simp [PK.ids] at hb
    | val S => rw [hfk] at hb; simp [PK.ids] at hb
    | make b' mk x =>
      rw [hfk] at hb
      simp only [hfk] at this
      simp [PK.ids] at hb
      subst hb
      exact this.2.2.2.1
  · have e : o.dst ≠ some d := fun e => by
      rcases hr.names c f.i o f.o d (Ne.symm (hne hf)) ho (h.at_ f hf) e hd with h1 | h1
      · rw [hbeh hf] at h1; cases h1
      · rw [hnot hf] at h1; cases h1
    rw [getD_put e]
    exact (((h.slots f hf) d hd).2 hall).mono hst.ext
  · by_cases e : o.dst = some d
    · rw [e, getD_put_same (hdst d e)]
      simpa [Fr.put] using hv
    · rw [getD_put e, put_other e]
      exact (h.rest d hd).mono hst.ext
end
end Go.Proofs.YtmakkmcjocjgmaaGreat.Am
