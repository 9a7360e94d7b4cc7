/- A range over a function, two loop variables: the rule. -/
import Derived.Test.YtmakkmcjocjgmaaGreatCaSteps
import Derived.RangeFuncSeq
import Derived.RangeFuncRecord
import Derived.RangeFuncIn
namespace Go.Proofs.YtmakkmcjocjgmaaGreat.Am
open Go Go.RowKit
set_option linter.unusedVariables false
set_option linter.unusedSimpArgs false

theorem WRel.over {base : Nat} {φ : Inj} {H : Hp} {w w' : World} (h : WRel base φ H w) (hs : w.heap.size ≤ w'.heap.size) (hr : ∀ (k : Nat) c e f, w.heap[k]? = some (Obj.cells c e f) → w'.heap[k]? = some (Obj.cells c e f)) (hm : ∀ (k : Nat) es cl, w.heap[k]? = some (Obj.map es cl) → w'.heap[k]? = some (Obj.map es cl)) : WRel base φ H w' := by
  have cell : ∀ a v, w.cell? a = some v → w'.cell? a = some v := fun a v hc => by
    simp only [World.cell?] at hc ⊢
    cases h1 : w.heap[a.block]? with
    | none => rw [h1] at hc; cases hc
    | some o =>
      rw [h1] at hc
      cases o with
      | cells c e f => rw [hr _ _ _ _ h1]; exact hc
      | _ => cases hc
  refine ⟨Nat.le_trans h.hb hs, h.dom, fun b f g hf hg => ?_, fun b st cs g hf hg => ?_, fun b es g hf hg => ?_, fun b es g hf hg => ?_, h.inj⟩
  · obtain ⟨a1, a2, a3⟩ := h.ro b f g hf hg
    exact ⟨a1, a2, fun i v hv => let ⟨v', x, y⟩ := a3 i v hv; ⟨v', cell _ _ x, y⟩⟩
  · obtain ⟨a1, a2, c, e, a3, a4⟩ := h.own b st cs g hf hg
    exact ⟨a1, a2, c, e, hr _ _ _ _ a3, a4⟩
  · obtain ⟨a1, ens, clock, a2, a3⟩ := h.map b es g hf hg
    exact ⟨a1, ens, clock, hm _ _ _ a2, a3⟩
  · obtain ⟨a1, ens, clock, a2, a3⟩ := h.romap b es g hf hg
    exact ⟨a1, ens, clock, hm _ _ _ a2, a3⟩
theorem WRel.alloc_any {base : Nat} {φ : Inj} {H : Hp} {w : World} (h : WRel base φ H w) (o : Obj) : WRel base φ H (w.alloc o) := by
  have old : ∀ (k : Nat) (x : Obj), w.heap[k]? = some x → (w.alloc o).heap[k]? = some x := fun k x hk => by
    have := (Array.getElem?_eq_some_iff.1 hk).1
    simp only [World.alloc]
    rw [Array.getElem?_push_lt this]
    exact (Array.getElem?_eq_getElem this ▸ hk)
  exact h.over (by rw [World.size_alloc]; exact Nat.le_succ _) (fun k _ _ _ hk => old k _ hk) (fun k _ _ hk => old k _ hk)
theorem WRel.putObj_any {base : Nat} {φ : Inj} {H : Hp} {w : World} (h : WRel base φ H w) {D : Nat} {x : Obj} (hD : w.heap[D]? = some x) (h1 : ∀ c e f, x ≠ .cells c e f) (h2 : ∀ es cl, x ≠ .map es cl) (o : Obj) : WRel base φ H (w.putObj D o) := by
  have ne : ∀ (k : Nat) (y : Obj), w.heap[k]? = some y → y ≠ x → k ≠ D := fun k y hk hy e => by subst e; rw [hD] at hk; injection hk with hk; exact hy hk.symm
  refine h.over (by rw [Uu]; exact Nat.le_refl _) (fun k c e f hk => ?_) fun k es cl hk => ?_
  · rw [Zs _ _ (ne k _ hk fun e => h1 _ _ _ e.symm)]; exact hk
  · rw [Zs _ _ (ne k _ hk fun e => h2 _ _ e.symm)]; exact hk
theorem WRel.not_foot_of {base : Nat} {φ : Inj} {H : Hp} {w : World} (h : WRel base φ H w) {k : Nat} {x : Obj} (hk : w.heap[k]? = some x) (h1 : ∀ c e f, x ≠ .cells c e f) (h2 : ∀ es cl, x ≠ .map es cl) : ¬ Foot φ H k := fun ⟨b, g, hl, hg, e⟩ => by
  cases hb : H.get b with
  | own st cs => obtain ⟨_, _, c, e1, h3, _⟩ := h.own b st cs g hb hg; rw [e, hk] at h3; injection h3 with h3; exact h1 _ _ _ h3
  | map es => obtain ⟨_, c, e1, h3, _⟩ := h.map b es g hb hg; rw [e, hk] at h3; injection h3 with h3; exact h2 _ _ h3
  | dead => rw [hb] at hl; cases hl
  | ro f => rw [hb] at hl; cases hl
  | romap es => rw [hb] at hl; cases hl
theorem Step.over {φ0 φ : Inj} {H0 H : Hp} {w0 w w' : World} (h : Step φ0 H0 w0 φ H w) (os : w'.os = w.os) (tape : w'.tape = w.tape) (output : w'.output = w.output) (drawn : w'.drawn = w.drawn) (hs : w.heap.size ≤ w'.heap.size) (hk : ∀ k, k < w0.heap.size → w'.heap[k]? = w.heap[k]?) : Step φ0 H0 w0 φ H w' :=
  ⟨h.ext, h.hsize, h.dead, h.nomap, os.trans h.os, tape.trans h.tape, output.trans h.output, by rw [drawn]; exact h.drawn, Nat.le_trans h.size hs, fun k hk' hf => let ⟨a, b⟩ := h.keep k hk' hf; ⟨(hk k hk').trans a, b⟩⟩
theorem Step.putObj_any {φ0 φ : Inj} {H0 H : Hp} {w0 w : World} (h : Step φ0 H0 w0 φ H w) {D : Nat} (hD : w0.heap.size ≤ D) (o : Obj) : Step φ0 H0 w0 φ H (w.putObj D o) :=
  h.over rfl rfl rfl rfl (by rw [Uu]; exact Nat.le_refl _) fun k hk => Zs _ _ (by omega)
theorem Step.alloc_any {φ0 φ : Inj} {H0 H : Hp} {w0 w : World} (h : Step φ0 H0 w0 φ H w) (o : Obj) : Step φ0 H0 w0 φ H (w.alloc o) :=
  h.over rfl rfl rfl rfl (by rw [World.size_alloc]; exact Nat.le_succ _) fun k hk => by
    have : k < w.heap.size := Nat.lt_of_lt_of_le hk h.size
    simp only [World.alloc]
    rw [Array.getElem?_push_lt this, Array.getElem?_eq_getElem this]
theorem wpIn_level {ro : Option Nat} {n m : Nat} {P : Program} {c : Code} {Q : Exit → Act → World → Prop} {a : Act} {w : World} (h : c.wpIn (FW ro) n P Q a w) : c.wpIn (FW ro) m P Q a w :=
  fun b k cs hro hb hr => h b k cs hro hb (fun _ h => by cases h)

def AEach (P : Program) (g : Value) (H : Hp) (St : Hp → Prop) (n : Nat) (v1 v2 : Nat → Value) : Prop :=
  ∀ base φ w g', WRel base φ H w → VRel φ g g' → ∃ f lb, g' = .func (.func f) #[] lb ∧ (∀ as w, (callFunc f as).run P w = .ok (.enter f as) w) ∧
    ∀ (l : Nat) (J : Nat → World → Prop),
      (∀ k W, J k W → ∃ φ' H', WRel base φ' H' W ∧ Ext φ φ' ∧ St H') →
      (∀ k W, k < n → J k W → YieldAt (FW none) 7 P l #[v1 k, v2 k] W fun e W' => e = .returned (.bool true) ∧ J (k + 1) W') →
      ∀ W, J 0 W → CallsIn (FW none) 8 P f (#[.func (.yield l) #[] #[]] ++ lb) W fun e W' => (∃ v, e = .returned v) ∧ J n W'

theorem ac_rangeFunc {P : Program} {N : Nat} {Q : Exit → Fr → Hp → Prop} {t : Fr} {H : Hp} {g : Operand} {p1 p2 : Tmp} {assign body : Code} {St : Hp → Prop} {n : Nat} {v1 v2 : Nat → Value} (I : Nat → Hp → Prop)
    (hg : plainO g = true) (hit : AEach P (t.eval g) H St n v1 v2) (hv1 : ∀ k φ, VRel φ (v1 k) (v1 k)) (hv2 : ∀ k φ, VRel φ (v2 k) (v2 k)) (hp : (decide (p1 < N) && decide (p2 < N)) = true)
    (h0 : I 0 H) (hS : ∀ k H', I k H' → St H')
    (round : ∀ k H', k < n → I k H' → ACode false P N assign (AThen (fun t' H'' => ACode false P N body (fun e _ H3 => e = .normal ∧ I (k + 1) H3) t' H'') (fun _ _ _ => False)) ((t.put (some p1) (v1 k)).put (some p2) (v2 k)) H')
    (done : ∀ H', I n H' → Q .normal t H') : ACode true P N (.rangeFunc g #[p1, p2] assign body) Q t H := fun ro hz ds base φ w a hw ht hd => by
  obtain rfl := hz rfl
  obtain ⟨hp1, hp2⟩ : p1 < N ∧ p2 < N := by simpa using hp
  obtain ⟨gf, lb, hgv, hen, hcall⟩ := hit base φ w (a.eval g) hw (ht.eval hg)
  refine wpIn_rangeFunc ?_
  intro fn hfn
  obtain ⟨rec, hrec⟩ : ∃ rec : LoopState → Option Code → Loop, rec = fun st pe => { state := st, pending := pe, fn, tmps := a.tmps, params := #[p1, p2], assign, body, defers := w.heap.size } := ⟨_, rfl⟩
  obtain ⟨W1, hW1⟩ : ∃ W1, (w.alloc (.deferred (some []))).alloc (.loop (rec .ready none)) = W1 := ⟨_, rfl⟩
  have hL1 : W1.heap[w.heap.size + 1]? = some (.loop (rec .ready none)) := by
    rw [← hW1]; have := World.alloc_heap_new (w.alloc (.deferred (some []))) (.loop (rec .ready none)); rwa [World.size_alloc] at this
  have hK1 : W1.heap[w.heap.size]? = some (.deferred (some [])) := by
    rw [← hW1]
    simp only [World.alloc]
    rw [Array.getElem?_push_lt (by simp)]
    simp
  have hr1 : WRel base φ H W1 := by rw [← hW1]; exact (hw.alloc_any _).alloc_any _
  have hs1 : Step φ H w φ H W1 := by rw [← hW1]; exact ((Step.refl φ H w).alloc_any _).alloc_any _
  refine ⟨w.heap.size + 1, [{ target := .collected w.heap.size, args := #[] }], W1, { target := .fn (.func gf) lb, args := #[.func (.yield (w.heap.size + 1)) #[] #[]] }, W1, gf,
    #[.func (.yield (w.heap.size + 1)) #[] #[]] ++ lb, W1, ?_, ?_, ?_, ?_, fun h => (by cases h), ?_⟩
  · rw [← hW1, hrec]; exact run_enterLoop_outer _ _ _ _ _
  · simp only [resolve, hgv]
    simp [go_sem]
  · intro f' hf'; trivial
  · simp [invoke, go_sem, hen]
  · refine (hcall (w.heap.size + 1) (fun k W => ∃ φ' H', I k H' ∧ WRel base φ' H' W ∧ Step φ H w φ' H' W ∧ W.heap[w.heap.size + 1]? = some (.loop (rec .ready none)) ∧ W.heap[w.heap.size]? = some (.deferred (some [])))
      (fun k W ⟨φ', H', i1, i2, i3, _⟩ => ⟨φ', H', i2, i3.ext, hS k H' i1⟩) ?_ W1 ⟨φ, H, h0, hr1, hs1, hL1, hK1⟩).mono ?_
    · rintro k W hk ⟨φ1, H1, hi, hw1, hs1, hl, hK⟩
      have hy := run_yield (P := P) (args := #[v1 k, v2 k]) hl (by rw [hrec]; rfl)
      rw [hrec] at hy
      refine ⟨fn, _, assign, body, hy, roundIn_of_wpIn hfn ?_⟩
      clear hy
      have ht1 : TRel φ1 N ((t.put (some p1) (v1 k)).put (some p2) (v2 k)) ((({ a with defers := [] } : Act).put (some p1) (v1 k)).put (some p2) (v2 k)).tmps :=
        (TRel.put (TRel.put (a := { a with defers := [] }) (ht.mono hs1.ext) (d := some p1) (by simpa [dstOk] using hp1) (hv1 k φ1)) (d := some p2) (by simpa [dstOk] using hp2) (hv2 k φ1))
      refine wpIn_mono (wpIn_level (round k H1 hk hi (some (w.heap.size + 1)) (fun h => by cases h) [] base φ1 W { tmps := _, defers := [] } hw1 (by simpa [Act.put] using ht1) rfl)) ?_
      rintro e a2 W2 ⟨t2, H2, φ2, ms2, q2, hw2, ht2, hd2, hs2⟩
      cases e with
      | normal =>
        have hl2 : W2.heap[w.heap.size + 1]? = some (.loop (rec .ready none)) := (hs2.keep _ (Array.getElem?_eq_some_iff.1 hl).1 (hw1.not_foot_of hl (by simp) (by simp))).1.trans hl
        have hK2 : W2.heap[w.heap.size]? = some (.deferred (some [])) := (hs2.keep _ (Array.getElem?_eq_some_iff.1 hK).1 (hw1.not_foot_of hK (by simp) (by simp))).1.trans hK
        refine ⟨_, run_beginRound hl2 (by rw [hrec]), ?_⟩
        have hw2' : WRel base φ2 H2 (W2.putObj (w.heap.size + 1) (.loop { rec .ready none with state := .busy })) := hw2.putObj_any hl2 (by simp) (by simp) _
        have hs2' := (hs1.trans hs2).putObj_any (D := w.heap.size + 1) (by omega) (.loop { rec .ready none with state := .busy })
        have hl3 : (W2.putObj (w.heap.size + 1) (.loop { rec .ready none with state := .busy })).heap[w.heap.size + 1]? = some (.loop { rec .ready none with state := .busy }) := World.putObj_heap_same (Array.getElem?_eq_some_iff.1 hl2).1
        have hK3 : (W2.putObj (w.heap.size + 1) (.loop { rec .ready none with state := .busy })).heap[w.heap.size]? = some (.deferred (some [])) := (Zs _ _ (by omega)).trans hK2
        refine wpIn_mono (wpIn_level (q2 (some (w.heap.size + 1)) (fun h => by cases h) _ base φ2 _ a2 hw2' ht2 rfl)) ?_
        rintro e a4 W4 ⟨t4, H4, φ4, ms4, q4, hw4, ht4, hd4, hs4⟩
        obtain ⟨rfl, hi4⟩ := q4
        have hl4 := (hs4.keep _ (Array.getElem?_eq_some_iff.1 hl3).1 (hw2'.not_foot_of hl3 (by simp) (by simp))).1.trans hl3
        have hK4 := (hs4.keep _ (Array.getElem?_eq_some_iff.1 hK3).1 (hw2'.not_foot_of hK3 (by simp) (by simp))).1.trans hK3
        refine ⟨_, _, run_endRound none hl4, rfl, φ4, H4, hi4, hw4.putObj_any hl4 (by simp) (by simp) _, (hs2'.trans hs4).putObj_any (by omega) _, ?_, (Zs _ _ (by omega)).trans hK4⟩
        rw [World.putObj_heap_same (Array.getElem?_eq_some_iff.1 hl4).1]
        rw [hrec]
        rfl
      | _ => exact q2.elim
    · rintro e W2 ⟨⟨v, rfl⟩, φ2, H2, hi2, hw2, hs2, hl2, hK2⟩
      refine ⟨none, _, by have := run_endLoop (P := P) hl2 (by rw [hrec]; simp); rw [hrec] at this; exact this, t, H2, φ2, [w.heap.size], done H2 hi2, hw2.putObj_any hl2 (by simp) (by simp) _, ht.mono hs2.ext, ⟨by simp [marks, hd], by simp, fun D hD => ?_⟩, hs2.putObj_any (by omega) _⟩
      obtain rfl : D = w.heap.size := by simpa using hD
      exact ⟨Nat.le_refl _, (Zs _ _ (by omega)).trans hK2⟩
end Go.Proofs.YtmakkmcjocjgmaaGreat.Am
