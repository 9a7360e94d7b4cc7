/- A slice that a call makes and appends to: it lies beside all else. -/
import Derived.Test.YtmakkmcjocjgmaaGreatCaReps
namespace Go.Proofs.YtmakkmcjocjgmaaGreat.Am
open Go Go.RowKit
set_option linter.unusedVariables false
set_option linter.unusedSimpArgs false

theorem WRel.unhide {base : Nat} {φ : Inj} {G : Hp} {w w' : World} {φ' : Inj} {G' : Hp} {b : Nat} {x : Blk} (hw : WRel base φ (G.put b x) w) (hst : Step φ (G.put b .dead) w φ' G' w') (hw' : WRel base φ' G' w') (hb : b < G.size) (hd : G'.get b = .dead) :
    WRel base φ' (G'.put b x) w' ∧ Step φ (G.put b x) w φ' (G'.put b x) w' := by
  have gx : (G.put b x).get b = x := Hp.put_same _ _ _
  -- what stands for b in the world is as it was
  have same : ∀ g, φ b = some g → x.live = true → w'.heap[g.rb]? = w.heap[g.rb]? ∧ ¬ Foot φ' G' g.rb := by
    intro g hg hl
    have hlt : g.rb < w.heap.size := (hw.foot ⟨b, g, by rw [gx]; exact hl, hg, rfl⟩).2
    refine hst.keep g.rb hlt fun ⟨c, g', hl', hg', he⟩ => ?_
    by_cases hc : c = b
    · subst hc; rw [Hp.put_same] at hl'; cases hl'
    · rw [Hp.put_other _ _ hc] at hl'
      exact hc (hw.inj c b g' g (by rw [Hp.put_other _ _ hc]; exact hl') (by rw [gx]; exact hl) hg' hg he)
  have old : ∀ g, φ' b = some g → φ b = some g := fun g hg => by
    cases h : φ b with
    | none => have := hst.nomap b (by simpa using hb) h; rw [this] at hg; cases hg
    | some g0 => have := hst.ext b g0 h; rw [this] at hg; exact hg
  have cell : ∀ a v, w.cell? a = some v → a.block < base → w'.cell? a = some v := fun a v hc hlt => by
    have := (hst.below (hw.kill b |> fun h => by rw [Hp.put_put] at h; exact h)).cell hlt
    rw [this]; exact hc
  refine ⟨⟨hw'.hb, fun i g hg => hw'.dom i g hg, fun i f g hf hg => ?_, fun i st cs g hf hg => ?_, fun i es g hf hg => ?_, fun i es g hf hg => ?_, fun i j g g' hl hl' hg hg' he => ?_⟩, ⟨hst.ext, by simpa using hst.hsize, fun i hi hdd => ?_, fun i hi => hst.nomap i (by simpa using hi), hst.os, hst.tape, hst.output, hst.drawn, hst.size, fun k hk hn => ?_⟩⟩
  · by_cases hi : i = b
    · subst hi
      rw [Hp.put_same] at hf
      have hg0 := old g hg
      obtain ⟨a1, a2, a3⟩ := hw.ro i f g (by rw [gx]; exact hf) hg0
      exact ⟨a1, a2, fun j v hv => let ⟨v', p, q⟩ := a3 j v hv; ⟨v', cell _ _ p a1, q.mono hst.ext⟩⟩
    · rw [Hp.put_other _ _ hi] at hf; exact hw'.ro i f g hf hg
  · by_cases hi : i = b
    · subst hi
      rw [Hp.put_same] at hf
      have hg0 := old g hg
      obtain ⟨a1, a2, c, e, a3, a4, a5, a6⟩ := hw.own i st cs g (by rw [gx]; exact hf) hg0
      exact ⟨a1, a2, c, e, by rw [(same g hg0 (by rw [hf]; rfl)).1]; exact a3, a4, a5, fun j v hv => let ⟨v', p, q⟩ := a6 j v hv; ⟨v', p, q.mono hst.ext⟩⟩
    · rw [Hp.put_other _ _ hi] at hf; exact hw'.own i st cs g hf hg
  · by_cases hi : i = b
    · subst hi
      rw [Hp.put_same] at hf
      have hg0 := old g hg
      obtain ⟨a1, ens, clock, a2, a3⟩ := hw.map i es g (by rw [gx]; exact hf) hg0
      exact ⟨a1, ens, clock, by rw [(same g hg0 (by rw [hf]; rfl)).1]; exact a2, a3.mono hst.ext⟩
    · rw [Hp.put_other _ _ hi] at hf; exact hw'.map i es g hf hg
  · by_cases hi : i = b
    · subst hi
      rw [Hp.put_same] at hf
      have hg0 := old g hg
      obtain ⟨a1, ens, clock, a2, a3⟩ := hw.romap i es g (by rw [gx]; exact hf) hg0
      refine ⟨a1, ens, clock, ?_, a3.mono hst.ext⟩
      have := (hst.below (hw.kill i |> fun h => by rw [Hp.put_put] at h; exact h)).block g.rb a1
      rw [this]; exact a2
    · rw [Hp.put_other _ _ hi] at hf; exact hw'.romap i es g hf hg
  · by_cases hi : i = b
    · by_cases hj : j = b
      · omega
      · subst hi
        rw [Hp.put_same] at hl
        rw [Hp.put_other _ _ hj] at hl'
        exact absurd ⟨j, g', hl', hg', he.symm⟩ (same g (old g hg) hl).2
    · rw [Hp.put_other _ _ hi] at hl
      by_cases hj : j = b
      · subst hj
        rw [Hp.put_same] at hl'
        exact absurd ⟨i, g, hl, hg, he⟩ (same g' (old g' hg') hl').2
      · rw [Hp.put_other _ _ hj] at hl'
        exact hw'.inj i j g g' hl hl' hg hg' he
  · simp only [Hp.put_size] at hi
    by_cases hib : i = b
    · subst hib; rw [Hp.put_same] at hdd ⊢; exact hdd
    · rw [Hp.put_other _ _ hib] at hdd ⊢
      exact hst.dead i (by simpa using hi) (by rw [Hp.put_other _ _ hib]; exact hdd)
  · have hn' : ¬ Foot φ (G.put b .dead) k := fun ⟨c, g, hl, hg, he⟩ => hn ⟨c, g, by
      by_cases hc : c = b
      · subst hc; rw [Hp.put_same] at hl; cases hl
      · rw [Hp.put_other _ _ hc] at hl ⊢; exact hl, hg, he⟩
    obtain ⟨k1, k2⟩ := hst.keep k hk hn'
    refine ⟨k1, fun ⟨c, g, hl, hg, he⟩ => ?_⟩
    by_cases hc : c = b
    · subst hc
      rw [Hp.put_same] at hl
      exact hn ⟨c, g, by rw [gx]; exact hl, old g hg, he⟩
    · rw [Hp.put_other _ _ hc] at hl
      exact k2 ⟨c, g, hl, hg, he⟩
theorem ACalls.frame {P : Program} {f : FuncId} {args : Array Value} {G : Hp} {R : Value → Hp → Prop} (h : ACalls P f args G R) {b : Nat} (hb : b < G.size) (hd : G.get b = .dead) (x : Blk) :
    ACalls P f args (G.put b x) (fun v H' => ∃ G', R v G' ∧ G'.get b = .dead ∧ b < G'.size ∧ H' = G'.put b x) := fun base φ w args' hw ha => by
  have hG : G.put b .dead = G := Hp.put_self _ hd
  have hw0 : WRel base φ G w := by have := hw.kill b; rw [Hp.put_put, hG] at this; exact this
  refine (h base φ w args' hw0 ha).mono fun e w' ⟨v, v', G', φ', he, hr, hw', hv, hst⟩ => ?_
  have hdd := hst.dead b hb hd
  obtain ⟨r1, r2⟩ := WRel.unhide hw (by rw [hG]; exact hst) hw' hb hdd
  exact ⟨v, v', G'.put b x, φ', he, ⟨G', hr, hdd, Nat.lt_of_lt_of_le hb hst.hsize, rfl⟩, r1, hv, r2⟩

def Els {α : Type} (k : Kd α) (G : Hp) (xs : List α) (cs : List Value) : Prop :=
  xs.length * k.sz ≤ cs.length ∧ ∀ (i : Nat) x, xs[i]? = some x → ∃ c, k.rep G x c ∧ ∀ (j : Nat) u, c[j]? = some u → cs[i * k.sz + j]? = some u
theorem Els.mono {α : Type} {k : Kd α} {G G' : Hp} (h : G.sees G') {xs : List α} {cs : List Value} (he : Els k G xs cs) : Els k G' xs cs :=
  ⟨he.1, fun i x hx => let ⟨c, a, b⟩ := he.2 i x hx; ⟨c, k.mono h a, b⟩⟩
theorem Els.nil {α : Type} (k : Kd α) (G : Hp) (cs : List Value) : Els k G [] cs := ⟨by simp, fun i x h => by simp at h⟩
theorem Els.append {α : Type} {k : Kd α} {G : Hp} {xs ys : List α} {cs ds : List Value} (h : Els k G xs cs) (hl : cs.length = xs.length * k.sz) (h2 : Els k G ys ds) : Els k G (xs ++ ys) (cs ++ ds) := by
  refine ⟨by rw [List.length_append, List.length_append, Nat.add_mul]; have := h2.1; omega, fun i x hx => ?_⟩
  by_cases hi : i < xs.length
  · rw [List.getElem?_append_left hi] at hx
    obtain ⟨c, a, b⟩ := h.2 i x hx
    refine ⟨c, a, fun j u hu => ?_⟩
    have hj : j < k.sz := by have := (List.getElem?_eq_some_iff.1 hu).1; rw [k.len a] at this; exact this
    have : i * k.sz + k.sz ≤ xs.length * k.sz := by rw [← Nat.succ_mul]; exact Nat.mul_le_mul_right _ hi
    rw [List.getElem?_append_left (by omega)]
    exact b j u hu
  · rw [List.getElem?_append_right (by omega)] at hx
    obtain ⟨c, a, b⟩ := h2.2 _ x hx
    refine ⟨c, a, fun j u hu => ?_⟩
    have e : i * k.sz = xs.length * k.sz + (i - xs.length) * k.sz := by rw [← Nat.add_mul]; congr 1; omega
    rw [List.getElem?_append_right (by omega), show i * k.sz + j - cs.length = (i - xs.length) * k.sz + j by omega]
    exact b j u hu
theorem Els.take {α : Type} {k : Kd α} {G : Hp} {xs : List α} {cs : List Value} (h : Els k G xs cs) : Els k G xs (cs.take (xs.length * k.sz)) := by
  refine ⟨by rw [List.length_take]; have := h.1; omega, fun i x hx => ?_⟩
  obtain ⟨c, a, b⟩ := h.2 i x hx
  refine ⟨c, a, fun j u hu => ?_⟩
  have hj : j < k.sz := by have := (List.getElem?_eq_some_iff.1 hu).1; rw [k.len a] at this; exact this
  have hi := (List.getElem?_eq_some_iff.1 hx).1
  have : i * k.sz + k.sz ≤ xs.length * k.sz := by rw [← Nat.succ_mul]; exact Nat.mul_le_mul_right _ hi
  rw [List.getElem?_take, if_pos (by omega)]
  exact b j u hu
theorem Sl.cells {α : Type} {k : Kd α} {H : Hp} {v : Value} {xs : List α} (h : Sl k H v xs) (hn : 0 < xs.length) : ∃ b o c cs, v = .slice (some ⟨b, o, none⟩) xs.length c ∧ Cells H b o cs ∧ cs.length = xs.length * k.sz ∧ Els k H xs cs ∧ ∀ u ∈ cs, u.oneCell' = true := by
  rcases h with ⟨_, rfl⟩ | ⟨b, o, c, e, hb, hk, hx⟩
  · simp at hn
  · have key : ∀ (ys : List α) (o : Nat), (∀ (i : Nat) x, ys[i]? = some x → ∃ cs, k.rep H x cs ∧ Cells H b (o + i * k.sz) cs) → ∃ cs, Cells H b o cs ∧ cs.length = ys.length * k.sz ∧ Els k H ys cs ∧ ∀ u ∈ cs, u.oneCell' = true := by
      intro ys
      induction ys with
      | nil => intro o _; exact ⟨[], fun j v h => by simp at h, by simp, Els.nil _ _ _, by simp⟩
      | cons y ys ih =>
        intro o h
        obtain ⟨c0, r0, l0⟩ := h 0 y (by simp)
        obtain ⟨cs, h1, h2, h3, h4⟩ := ih (o + k.sz) fun i x hi => by
          obtain ⟨c, a, b⟩ := h (i + 1) x (by simpa using hi)
          exact ⟨c, a, by rwa [show o + (i + 1) * k.sz = o + k.sz + i * k.sz by rw [Nat.succ_mul]; omega] at b⟩
        have hl0 := k.len r0
        refine ⟨c0 ++ cs, fun j v hj => ?_, by rw [List.length_append, h2, hl0, List.length_cons, Nat.succ_mul]; omega, ?_, fun u hu => ?_⟩
        · by_cases hjl : j < c0.length
          · rw [List.getElem?_append_left hjl] at hj
            have := l0 j v hj
            simpa using this
          · rw [List.getElem?_append_right (by omega)] at hj
            have := h1 _ v hj
            rwa [show o + k.sz + (j - c0.length) = o + j by omega] at this
        · have := (show Els k H [y] c0 from ⟨by simp [hl0], fun i x hx => by
            cases i with
            | zero => simp at hx; subst hx; exact ⟨c0, r0, fun j u hu => by simpa using hu⟩
            | succ i => simp at hx⟩).append (by simp [hl0]) h3
          simpa using this
        · rcases List.mem_append.1 hu with hu | hu
          · exact k.one r0 u hu
          · exact h4 u hu
    obtain ⟨cs, h1, h2, h3, h4⟩ := key xs o hx
    exact ⟨b, o, c, cs, e, h1, h2, h3, h4⟩
theorem push_put_comm (G : Hp) {b : Nat} (hb : b < G.size) (x y : Blk) : (G.put b y).push x = (G.push x).put b y := Hp.ext' rfl fun i => by
  show (if i = G.size then x else if i = b then y else G.get i) = (if i = b then y else if i = G.size then x else G.get i)
  by_cases h1 : i = G.size
  · rw [if_pos h1, if_neg (by omega), if_pos h1]
  · rw [if_neg h1, if_neg h1]
def OwnP {α : Type} (k : Kd α) (G H : Hp) (v : Value) (xs : List α) : Prop :=
  (v = .slice none 0 0 ∧ xs = [] ∧ H = G) ∨ ∃ b cs c, v = .slice (some ⟨b, 0, none⟩) xs.length c ∧ b < G.size ∧ G.get b = .dead ∧ H = G.put b (.own k.sz cs) ∧ (c = unk ∨ xs.length ≤ c) ∧ Els k G xs cs
theorem OwnP.size {α : Type} {k : Kd α} {G H : Hp} {v : Value} {xs : List α} (h : OwnP k G H v xs) : H.size = G.size := by
  rcases h with ⟨_, _, rfl⟩ | ⟨b, cs, c, _, _, _, rfl, _⟩ <;> rfl
theorem OwnP.le {α : Type} {k : Kd α} {G H : Hp} {v : Value} {xs : List α} (h : OwnP k G H v xs) : G.le H := by
  rcases h with ⟨_, _, rfl⟩ | ⟨b, cs, c, _, _, hd, rfl, _⟩
  · exact Hp.le_refl _
  · exact G.le_put hd _
theorem OwnP.shape {α : Type} {k : Kd α} {G H : Hp} {v : Value} {xs : List α} (h : OwnP k G H v xs) : ∃ A c, v = .slice A xs.length c := by
  rcases h with ⟨rfl, rfl, _⟩ | ⟨b, cs, c, rfl, _⟩ <;> exact ⟨_, _, rfl⟩
theorem OwnP.sl {α : Type} {k : Kd α} {G H : Hp} {v : Value} {xs : List α} (h : OwnP k G H v xs) : Sl k H v xs := by
  rcases h with ⟨rfl, rfl, _⟩ | ⟨b, cs, c, rfl, hb, hd, rfl, _, he⟩
  · exact .inl ⟨rfl, rfl⟩
  · refine .inr ⟨b, 0, c, rfl, hb, by rw [Hp.put_same]; rfl, fun i x hi => ?_⟩
    obtain ⟨d, r, hc⟩ := he.2 i x hi
    exact ⟨d, k.mono (G.le_put hd _).sees r, fun j u hu => by
      have := hc j u hu
      rw [cell_put_new, show 0 + i * k.sz + j = i * k.sz + j by omega]
      exact this⟩
theorem OwnP.nil {α : Type} (k : Kd α) (G : Hp) : OwnP k G G (.slice none 0 0) [] := .inl ⟨rfl, rfl, rfl⟩
theorem OwnP.lit {α : Type} (k : Kd α) (G : Hp) {cs : List Value} : OwnP k (G.push .dead) (G.push (.own k.sz cs)) (.slice (some ⟨G.size, 0, none⟩) 0 0) [] :=
  .inr ⟨G.size, cs, 0, rfl, by simp, by simp, by rw [Hp.push_put], .inr (Nat.le_refl _), Els.nil _ _ _⟩
theorem OwnP.push {α : Type} {k : Kd α} {G H : Hp} {v : Value} {xs : List α} (h : OwnP k G H v xs) (x : Blk) : OwnP k (G.push x) (H.push x) v xs := by
  rcases h with ⟨rfl, rfl, rfl⟩ | ⟨b, cs, c, rfl, hb, hd, rfl, hc, he⟩
  · exact .inl ⟨rfl, rfl, rfl⟩
  · exact .inr ⟨b, cs, c, rfl, by simp; omega, by rw [Hp.push_old _ _ hb]; exact hd, push_put_comm G hb _ _, hc, he.mono (G.le_push x).sees⟩
theorem OwnP.put {α : Type} {k : Kd α} {G H : Hp} {v : Value} {xs : List α} (h : OwnP k G H v xs) {b1 : Nat} (hl : G.get b1 ≠ .dead) (x : Blk) (hs : G.sees (G.put b1 x)) : OwnP k (G.put b1 x) (H.put b1 x) v xs := by
  rcases h with ⟨rfl, rfl, rfl⟩ | ⟨b, cs, c, rfl, hb, hd, rfl, hc, he⟩
  · exact .inl ⟨rfl, rfl, rfl⟩
  · have hne : b ≠ b1 := fun e => hl (e ▸ hd)
    exact .inr ⟨b, cs, c, rfl, hb, by rw [Hp.put_other _ _ hne]; exact hd, Hp.put_comm _ hne _ _, hc, he.mono hs⟩
theorem Hp.le_put_both {G G' : Hp} (h : G.le G') (b : Nat) (x : Blk) : (G.put b x).le (G'.put b x) := ⟨h.1, fun c hc hd => by
  by_cases hcb : c = b
  · subst hcb; rw [Hp.put_same, Hp.put_same]
  · rw [Hp.put_other _ _ hcb] at hd ⊢
    rw [Hp.put_other _ _ hcb]
    exact h.2 c (by simpa using hc) hd⟩
theorem OwnP.calls {α : Type} {k : Kd α} {G H : Hp} {v : Value} {xs : List α} (h : OwnP k G H v xs) {P : Program} {f : FuncId} {args : Array Value} {R : Value → Hp → Prop} (hc : ACalls P f args G R) (hle : ∀ r G', R r G' → G.le G') :
    ACalls P f args H (fun r H' => ∃ G', R r G' ∧ OwnP k G' H' v xs ∧ H.le H') := by
  rcases h with ⟨rfl, rfl, rfl⟩ | ⟨b, cs, c, rfl, hb, hd, rfl, hcap, he⟩
  · exact hc.mono fun r G' hr => ⟨G', hr, .inl ⟨rfl, rfl, rfl⟩, hle r G' hr⟩
  · exact (hc.frame hb hd _).mono fun r H' ⟨G', hr, h1, h2, h3⟩ => ⟨G', hr, .inr ⟨b, cs, c, rfl, h2, h1, h3, hcap, he.mono (hle r G' hr).sees⟩, h3 ▸ Hp.le_put_both (hle r G' hr) b _⟩
theorem OwnP.boxed {α : Type} {k : Kd α} {G H : Hp} {v : Value} {xs : List α} (h : OwnP k G H v xs) (cs cs' : List Value) : OwnP k ((G.push (.own 0 cs)).put H.size (.own 0 cs')) ((H.push (.own 0 cs)).put H.size (.own 0 cs')) v xs := by
  have hz := h.size
  refine (h.push (.own 0 cs)).put (by rw [hz, Hp.push_new]; intro e; cases e) _ (Hp.sees_box (cs := cs) _ (by rw [hz, Hp.push_new]))
section
variable {P : Program} {t : Fr} {d : Option Tmp} {ty : TypeId} {pos : String} {after : Array Edge} {guard : Option (Nat × Bool)} {K : Value → Hp → Prop}
theorem OwnP.append' {α : Type} {k : Kd α} {G H : Hp} {v : Value} {xs : List α} (h : OwnP k G H v xs) {at_ e : TypeId} {x y : Operand} {by_ : Nat} {z : Value} {ys : List α} {u : Value} (hu : P.underlying at_ = some (.slice e)) (hi : (P.info? e).map (fun i => (i.zero, i.size, i.bytes)) = some (some z, k.sz, by_)) (hzs : z.cells.size = k.sz)
    (hx : t.eval x = v) (hy : t.eval y = u) (hs : Sl k G u ys) (hb1 : xs.length + ys.length ≤ 9223372036854775807) (hb2 : (xs.length + ys.length) * by_ ≤ 140737488355328)
    (hk : ∀ v' G' H', G.le G' → OwnP k G' H' v' (xs ++ ys) → (v' = v ∨ ∃ b m c, v' = .slice (some ⟨b, 0, none⟩) m c ∧ G.size ≤ b) → K v' H') : AOp P ⟨d, .call ⟨.builtin .append, #[x, y], #[at_, at_]⟩, ty, pos, after, guard⟩ t H K := by
  have hinf : (P.info? e).isSome = true := by
    cases hq : P.info? e with
    | none => rw [hq] at hi; cases hi
    | some i => rfl
  rcases Nat.eq_zero_or_pos ys.length with h0 | hp
  · have hy0 : ys = [] := List.eq_nil_of_length_eq_zero h0
    subst hy0
    obtain ⟨A, c, rfl⟩ := h.shape
    obtain ⟨B, c2, rfl⟩ := hs.shape
    exact aop_append_none hu hinf hx hy (hk _ G H (Hp.le_refl _) (by rw [List.append_nil]; exact h) (.inl rfl))
  · have hleGH := h.le
    obtain ⟨b2, o2, c2, news, rfl, hcn, hln, hen, h1n⟩ := hs.cells hp
    have hcH : Cells H b2 o2 news := fun j w hj => by
      have hq := hcn j w hj
      unfold Hp.cell? at hq ⊢
      by_cases hbd : G.get b2 = .dead
      · rw [hbd] at hq; cases hq
      · have hlt : b2 < G.size := by
          rcases hs with ⟨hs, _⟩ | ⟨b', o', c', e', hb', _⟩
          · cases hs
          · simp only [Value.slice.injEq, Option.some.injEq, Addr.mk.injEq] at e'
            rw [e'.1.1]; exact hb'
        rw [hleGH.2 b2 hlt hbd]; exact hq
    rcases h with ⟨rfl, rfl, rfl⟩ | ⟨b, cs, c, rfl, hb, hd, rfl, hcap, he⟩
    · refine aop_append_new (olds := []) hu hi hzs hx (.inl ⟨rfl, rfl, rfl, rfl⟩) (by omega) hy hcH hln hp (by simpa using hb1) (by simpa using hb2) ?_
      refine hk _ (H.push .dead) _ (H.le_push _) (.inr ⟨H.size, news, unk, by simp, by simp, by simp, by rw [Hp.push_put]; simp, .inl rfl, ?_⟩) (.inr ⟨_, _, _, rfl, Nat.le_refl _⟩)
      exact hen.mono (H.le_push _).sees
    · by_cases hroom : c = unk ∨ xs.length + ys.length ≤ c
      · refine aop_append_kill hu hi hzs k.pos rfl hx hroom (Hp.put_same _ _ _) (by have := he.1; omega) hy hcH hln (List.all_eq_true.2 h1n) hp hb1 hb2 ?_
        have e1 : ((G.put b (.own k.sz cs)).put b .dead) = G := by rw [Hp.put_put]; exact Hp.put_self _ hd
        rw [e1]
        simp only [Hp.put_size, List.drop_zero]
        refine hk _ (G.push .dead) _ (G.le_push _) (.inr ⟨G.size, cs.take (xs.length * k.sz) ++ news, c, by rw [List.length_append], by simp, by simp, by rw [Hp.push_put], ?_, ?_⟩) (.inr ⟨_, _, _, rfl, Nat.le_refl _⟩)
        · rcases hroom with h | h
          · exact .inl h
          · exact .inr (by rw [List.length_append]; exact h)
        · exact (he.take.append (by rw [List.length_take]; have := he.1; omega) hen).mono (G.le_push _).sees
      · have hcu : c ≠ unk := fun h => hroom (.inl h)
        have hfull : c < xs.length + ys.length := by
          rcases Nat.lt_or_ge c (xs.length + ys.length) with h | h
          · exact h
          · exact absurd (.inr h) hroom
        refine aop_append_new (olds := cs.take (xs.length * k.sz)) hu hi hzs hx (.inr ⟨b, 0, rfl, hcu, fun j w hj => ?_, by rw [List.length_take]; have := he.1; omega⟩) hfull hy hcH hln hp hb1 hb2 ?_
        · rw [cell_put_new, Nat.zero_add]
          rw [List.getElem?_take] at hj
          split at hj
          · exact hj
          · cases hj
        · simp only [Hp.put_size]
          have hG1 : (G.put b (.own k.sz cs)).push (.own k.sz (cs.take (xs.length * k.sz) ++ news)) = ((G.put b (.own k.sz cs)).push .dead).put G.size (.own k.sz (cs.take (xs.length * k.sz) ++ news)) := by
            have := Hp.push_put (G.put b (.own k.sz cs)) .dead (.own k.sz (cs.take (xs.length * k.sz) ++ news))
            simp only [Hp.put_size] at this
            exact this.symm
          refine hk _ ((G.put b (.own k.sz cs)).push .dead) _ (Hp.le_push' (G.le_put hd _) _) (.inr ⟨G.size, cs.take (xs.length * k.sz) ++ news, unk, by rw [List.length_append], by simp, ?_, hG1, .inl rfl, ?_⟩) (.inr ⟨_, _, _, rfl, Nat.le_refl _⟩)
          · have := Hp.push_new (G.put b (.own k.sz cs)) .dead
            simpa using this
          · exact (he.take.append (by rw [List.length_take]; have := he.1; omega) hen).mono (Hp.le_push' (G.le_put hd _) _).sees
theorem OwnP.append {α : Type} {k : Kd α} {G H : Hp} {v : Value} {xs : List α} (h : OwnP k G H v xs) {at_ e : TypeId} {x y : Operand} {by_ : Nat} {z : Value} {ys : List α} {u : Value} (hu : P.underlying at_ = some (.slice e)) (hi : (P.info? e).map (fun i => (i.zero, i.size, i.bytes)) = some (some z, k.sz, by_)) (hzs : z.cells.size = k.sz)
    (hx : t.eval x = v) (hy : t.eval y = u) (hs : Sl k G u ys) (hb1 : xs.length + ys.length ≤ 9223372036854775807) (hb2 : (xs.length + ys.length) * by_ ≤ 140737488355328)
    (hk : ∀ v' G' H', G.le G' → OwnP k G' H' v' (xs ++ ys) → K v' H') : AOp P ⟨d, .call ⟨.builtin .append, #[x, y], #[at_, at_]⟩, ty, pos, after, guard⟩ t H K :=
  h.append' hu hi hzs hx hy hs hb1 hb2 fun v' G' H' a b _ => hk v' G' H' a b
end
theorem OwnP.place {α : Type} {k : Kd α} {G H : Hp} {A : Option Addr} {n c : Nat} {xs : List α} (h : OwnP k G H (.slice A n c) xs) (hn : 0 < xs.length) :
    ∃ b cs, A = Option.some ⟨b, 0, none⟩ ∧ n = xs.length ∧ b < G.size ∧ G.get b = .dead ∧ H = G.put b (.own k.sz cs) ∧ (c = unk ∨ xs.length ≤ c) ∧ Els k G xs cs := by
  rcases h with ⟨_, rfl, _⟩ | ⟨b, cs, c', e, h1, h2, h3, h4, h5⟩
  · simp at hn
  · injection e with e1 e2 e3
    subst e3
    exact ⟨b, cs, e1, e2, h1, h2, h3, h4, h5⟩
theorem Els.at {α : Type} {k : Kd α} {G : Hp} {xs : List α} {cs : List Value} (h : Els k G xs cs) {i : Nat} (hi : i < xs.length) (b : Nat) :
    ∃ c, k.rep G xs[i] c ∧ Cells (G.put b (.own k.sz cs)) b (0 + i * k.sz) c ∧ i * k.sz + k.sz ≤ cs.length := by
  obtain ⟨c, h1, h2⟩ := h.2 i xs[i] (List.getElem?_eq_getElem hi)
  refine ⟨c, h1, fun j u hj => ?_, ?_⟩
  · rw [cell_put_new, Nat.zero_add]; exact h2 j u hj
  · have : i * k.sz + k.sz ≤ xs.length * k.sz := by rw [← Nat.succ_mul]; exact Nat.mul_le_mul_right _ hi
    exact Nat.le_trans this h.1
theorem Els.set {α : Type} {k : Kd α} {G : Hp} {xs : List α} {cs : List Value} (h : Els k G xs cs) {i o : Nat} (hi : i < xs.length) {x : α} {c : List Value} (hr : k.rep G x c) (ho : o = i * k.sz) : Els k G (xs.set i x) (setR cs o c) := by
  subst ho
  have hl := k.len hr
  have hb : i * k.sz + k.sz ≤ cs.length := by
    have : i * k.sz + k.sz ≤ xs.length * k.sz := by rw [← Nat.succ_mul]; exact Nat.mul_le_mul_right _ hi
    exact Nat.le_trans this h.1
  refine ⟨by rw [List.length_set, Uf (by omega)]; exact h.1, fun j y hy => ?_⟩
  rw [List.getElem?_set] at hy
  by_cases hj : i = j
  · subst hj
    rw [if_pos rfl, if_pos hi] at hy
    injection hy with hy
    subst hy
    refine ⟨c, hr, fun m u hu => ?_⟩
    have := (List.getElem?_eq_some_iff.1 hu).1
    rw [setR_get (by omega), if_pos (by omega), show i * k.sz + m - i * k.sz = m by omega]
    exact hu
  · rw [if_neg hj] at hy
    obtain ⟨d, h1, h2⟩ := h.2 j y hy
    refine ⟨d, h1, fun m u hu => ?_⟩
    have hm := (List.getElem?_eq_some_iff.1 hu).1
    rw [k.len h1] at hm
    have hne : ¬ (i * k.sz ≤ j * k.sz + m ∧ j * k.sz + m < i * k.sz + c.length) := by
      rcases Nat.lt_or_ge j i with h | h
      · have : j * k.sz + k.sz ≤ i * k.sz := by rw [← Nat.succ_mul]; exact Nat.mul_le_mul_right _ h
        omega
      · have h' : i + 1 ≤ j := by omega
        have : i * k.sz + k.sz ≤ j * k.sz := by rw [← Nat.succ_mul]; exact Nat.mul_le_mul_right _ h'
        omega
    rw [setR_get (by omega), if_neg hne]
    exact h2 m u hu
theorem OwnP.store {α : Type} {k : Kd α} {G H : Hp} {b o n c st : Nat} {xs : List α} (h : OwnP k G H (.slice (some ⟨b, o, none⟩) n c) xs) {cs0 cl : List Value} {off i : Nat} {x : α} (hg : H.get b = .own st cs0) (hi : i < xs.length) (hr : k.rep G x cl) (ho : off = i * k.sz) :
    OwnP k G (H.put b (.own st (setR cs0 off cl))) (.slice (some ⟨b, o, none⟩) n c) (xs.set i x) := by
  obtain ⟨b', cs, e1, e2, h1, h2, rfl, h4, h5⟩ := h.place (by omega)
  simp only [Option.some.injEq, Addr.mk.injEq, and_true] at e1
  obtain ⟨rfl, rfl⟩ := e1
  rw [Hp.put_same] at hg
  injection hg with e3 e4
  subst e3 e4
  exact .inr ⟨b, _, c, by rw [List.length_set, e2], h1, h2, by rw [Hp.put_put], by rw [List.length_set]; exact h4, h5.set hi hr ho⟩
theorem OwnP.cut {α : Type} {k : Kd α} {G H : Hp} {b o n c m : Nat} {xs : List α} (h : OwnP k G H (.slice (some ⟨b, o, none⟩) n c) xs) (hm : m ≤ xs.length) : OwnP k G H (.slice (some ⟨b, o, none⟩) m c) (xs.take m) := by
  rcases h with ⟨h, _⟩ | ⟨b', cs, c', e, h1, h2, h3, h4, h5⟩
  · cases h
  · simp only [Value.slice.injEq, Option.some.injEq, Addr.mk.injEq, and_true] at e
    obtain ⟨⟨rfl, rfl⟩, rfl, rfl⟩ := e
    refine .inr ⟨b, cs, c, by rw [List.length_take, Nat.min_eq_left hm], h1, h2, h3, ?_, ?_⟩
    · rcases h4 with h | h
      · exact .inl h
      · exact .inr (by rw [List.length_take]; omega)
    · refine ⟨?_, fun i x hx => ?_⟩
      · rw [List.length_take]
        exact Nat.le_trans (Nat.mul_le_mul_right _ (Nat.min_le_right _ _)) h5.1
      · have : i < m := by have := (List.getElem?_eq_some_iff.1 hx).1; rw [List.length_take] at this; omega
        rw [List.getElem?_take, if_pos this] at hx
        exact h5.2 i x hx
theorem Els.cons {α : Type} {k : Kd α} {G : Hp} {x : α} {xs : List α} {c cs : List Value} (hx : k.rep G x c) (h : Els k G xs cs) : Els k G (x :: xs) (c ++ cs) := by
  have h1 : Els k G [x] c := ⟨by simp [k.len hx], fun i y hy => by
    cases i with
    | zero => simp at hy; subst hy; exact ⟨c, hx, fun j u hu => by simpa using hu⟩
    | succ i => simp at hy⟩
  simpa using h1.append (by simp [k.len hx]) h
theorem Els.sl {α : Type} {k : Kd α} {G H : Hp} {xs : List α} {cs : List Value} {b c st : Nat} (h : Els k G xs cs) (hs : G.sees H) (hb : b < H.size) (hg : H.get b = .own st cs) (hst : k.sz = st) : Sl k H (.slice (some ⟨b, 0, none⟩) xs.length c) xs := by
  subst hst
  refine .inr ⟨b, 0, c, rfl, hb, by rw [hg]; rfl, fun i x hi => ?_⟩
  obtain ⟨d, h1, h2⟩ := h.2 i x hi
  exact ⟨d, k.mono hs h1, fun j u hj => by rw [Z7 hg, Nat.zero_add]; exact h2 j u hj⟩
theorem OwnP.same {α : Type} {k : Kd α} {G H G' H' : Hp} {v v' : Value} {xs ys : List α} (h : OwnP k G H v xs) (hle : G.le G') (h' : OwnP k G' H' v' ys) {c : Nat} (hc : c < G.size) (hd : G.get c ≠ .dead) : H'.get c = H.get c := by
  have e1 := hle.2 c hc hd
  rw [h'.le.2 c (Nat.lt_of_lt_of_le hc hle.1) (by rw [e1]; exact hd), e1, h.le.2 c hc hd]
theorem OwnP.sameO {α : Type} {k : Kd α} {G H G' H' : Hp} {v v' : Value} {xs ys : List α} (h : OwnP k G H v xs) (hle : G.le G') (h' : OwnP k G' H' v' ys) : ∀ (c st : Nat) (cs : List Value), c < G.size → G.get c = .own st cs → H'.get c = H.get c :=
  fun c st cs hc hg => h.same hle h' hc (by rw [hg]; intro e; cases e)
theorem OwnP.sameS {α : Type} {k : Kd α} {G H G' H' H0 : Hp} {v v' : Value} {xs ys : List α} (h : OwnP k G H v xs) (hle : G.le G') (h' : OwnP k G' H' v' ys) (h0 : H0.le G) {S : List Nat} (hS : ∀ b ∈ S, b < H0.size ∧ H0.get b ≠ .dead) : ∀ b ∈ S, H'.get b = H.get b := fun b hb => by
  obtain ⟨h1, h2⟩ := hS b hb
  exact h.same hle h' (Nat.lt_of_lt_of_le h1 h0.1) (by rw [h0.2 b h1 h2]; exact h2)
theorem av_bad {P : Program} {H : Hp} {t : Fr} {S : List Nat} {w : Value} {d : Option Tmp} {ty : TypeId} {pos : String} {after : Array Edge} {guard : Option (Nat × Bool)} {op : Op} {x : Operand} {a : Addr} {n c : Nat} (hx : t.eval x = .slice (some a) n c) (hc : c < n) (hu : c ≠ unk) (hm : x ∈ op.operands) : AVal P ⟨d, op, ty, pos, after, guard⟩ t S H w := fun H' he base φ w' a' hw ho => by
  have hr := ho x hm
  rw [hx] at hr
  generalize a'.eval x = u at hr
  cases hr with
  | slice o n c c' h hn hcc hin => exact absurd (hcc.resolve_right hu) (by omega)
  | slice0 a a' c hcc => omega
theorem Sl.takes {α : Type} {k : Kd α} {H0 : Hp} {v : Value} {xs : List α} (hs : Sl k H0 v xs) {i : Nat} (hi : i ≤ xs.length) : ∃ A c S, Sl k H0 (.slice A i c) (xs.take i) ∧ (∀ b ∈ S, b < H0.size ∧ H0.get b ≠ .dead) ∧
    ∀ (P : Program) (H : Hp) (t : Fr) (d : Option Tmp) (ty : TypeId) (pos : String) (after : Array Edge) (guard : Option (Nat × Bool)) (x y : Operand) (xt e : TypeId) (kk : IntKind), H0.le H → t.eval x = v → P.underlying xt = some (.slice e) → (P.info? e).map (·.size) = some k.sz → t.eval y = .int kk i →
      AVal P ⟨d, .slice xt x none (some y) none, ty, pos, after, guard⟩ t S H (.slice A i c) := by
  rcases hs with ⟨rfl, rfl⟩ | ⟨b, o, c, rfl, hb, hk, hx⟩
  · obtain rfl : i = 0 := by simpa using hi
    exact ⟨none, 0, [], .inl ⟨rfl, rfl⟩, by simp, fun P H t d ty pos after guard x y xt e kk hle h1 h2 h3 h4 => av_slice_nil h1 h2 h3 (.inl ⟨rfl, rfl⟩) (.inr ⟨y, kk, rfl, h4⟩)⟩
  · refine ⟨some ⟨b, o, none⟩, c, [b], .inr ⟨b, o, c, by rw [List.length_take, Nat.min_eq_left hi], hb, hk, fun j z hz => ?_⟩, fun u hu => by simp at hu; subst hu; exact ⟨hb, Blk.cut_ne hk⟩, fun P H t d ty pos after guard x y xt e kk hle h1 h2 h3 h4 => av_take h1 h2 h3 h4 rfl hi ?_⟩
    · rw [List.getElem?_take] at hz
      split at hz
      · exact hx j z hz
      · cases hz
    · rw [hle.2 b hb (Blk.cut_ne hk)]; exact Blk.cut_or hk
theorem Sl.mids {α : Type} {k : Kd α} {H0 : Hp} {v : Value} {xs : List α} (hs : Sl k H0 v xs) {l h : Nat} (hl : l ≤ h) (hh : h ≤ xs.length) : ∃ A c S, Sl k H0 (.slice A (h - l) c) ((xs.take h).drop l) ∧ (∀ b ∈ S, b < H0.size ∧ H0.get b ≠ .dead) ∧
    ∀ (P : Program) (H : Hp) (t : Fr) (d : Option Tmp) (ty : TypeId) (pos : String) (after : Array Edge) (guard : Option (Nat × Bool)) (x y z : Operand) (xt e : TypeId) (k1 k2 : IntKind), H0.le H → t.eval x = v → P.underlying xt = some (.slice e) → (P.info? e).map (·.size) = some k.sz → t.eval y = .int k1 l → t.eval z = .int k2 h →
      AVal P ⟨d, .slice xt x (some y) (some z) none, ty, pos, after, guard⟩ t S H (.slice A (h - l) c) := by
  have hlen : ((xs.take h).drop l).length = h - l := by rw [List.length_drop, List.length_take]; omega
  have hget : ∀ (j : Nat) z, ((xs.take h).drop l)[j]? = some z → xs[l + j]? = some z := fun j z hz => by
    rw [List.getElem?_drop, List.getElem?_take] at hz
    split at hz
    · exact hz
    · cases hz
  rcases hs with ⟨rfl, rfl⟩ | ⟨b, o, c, rfl, hb, hk, hx⟩
  · obtain rfl : h = 0 := by simpa using hh
    obtain rfl : l = 0 := by omega
    exact ⟨none, 0, [], .inl ⟨rfl, rfl⟩, by simp, fun P H t d ty pos after guard x y z xt e k1 k2 hle h1 h2 h3 h4 h5 => av_slice_nil h1 h2 h3 (.inr ⟨y, k1, rfl, h4⟩) (.inr ⟨z, k2, rfl, h5⟩)⟩
  · by_cases hbad : c ≠ unk ∧ c = l ∧ l < h
    · obtain ⟨hb1, rfl, hb3⟩ := hbad
      refine ⟨some ⟨b, o + c * k.sz, none⟩, 0, [b], .inr ⟨b, _, _, by rw [hlen], hb, hk, fun j z hz => ?_⟩, fun u hu => by simp at hu; subst hu; exact ⟨hb, Blk.cut_ne hk⟩, fun P H t d ty pos after guard x y z xt e k1 k2 hle h1 h2 h3 h4 h5 => av_bad h1 (by omega) hb1 (by simp [Op.operands])⟩
      obtain ⟨cs, h1, h2⟩ := hx (c + j) z (hget j z hz)
      exact ⟨cs, h1, by rwa [show o + c * k.sz + j * k.sz = o + (c + j) * k.sz by rw [Nat.add_mul]; omega]⟩
    · refine ⟨some ⟨b, if c ≠ unk ∧ c = l then o else o + l * k.sz, none⟩, if c = unk then unk else c - l, [b], ?_, fun u hu => by simp at hu; subst hu; exact ⟨hb, Blk.cut_ne hk⟩, fun P H t d ty pos after guard x y z xt e k1 k2 hle h1 h2 h3 h4 h5 => av_slice h1 h2 h3 (.inr ⟨y, k1, rfl, h4⟩) (.inr ⟨z, k2, rfl, h5⟩) hl hh ?_⟩
      · refine .inr ⟨b, _, _, by rw [hlen], hb, hk, fun j z hz => ?_⟩
        have hlt := (List.getElem?_eq_some_iff.1 hz).1
        obtain ⟨cs, h1, h2⟩ := hx (l + j) z (hget j z hz)
        refine ⟨cs, h1, ?_⟩
        rw [if_neg (fun h => hbad ⟨h.1, h.2, by omega⟩)]
        rwa [show o + l * k.sz + j * k.sz = o + (l + j) * k.sz by rw [Nat.add_mul]; omega]
      · rw [hle.2 b hb (Blk.cut_ne hk)]; exact Blk.cut_or hk
theorem cell_ro {H : Hp} {b o : Nat} {v : Value} (h : H.cell? b o = some v) : H.ro.cell? b o = some v := by
  unfold Hp.cell? Hp.ro at *
  simp only
  cases hb : H.get b <;> rw [hb] at h <;> first | exact h | cases h
theorem Zf {xs : List Int} {i : Nat} (h : i < xs.length) : xs.getD i 0 = xs[i] := by rw [List.getD_eq_getElem?_getD, List.getElem?_eq_getElem h]; rfl
/-! Small proofs that come again and again: each is looked for where it is wanted. -/
theorem Xp {p : Prop} (h : p := by (first | assumption | exact (Z7 (by (repeat (first | assumption | exact Hp.push_new _ _ | exact Hp.put_same _ _ _ | refine (Hp.push_old _ _ (by (first | assumption | (simp; done) | (simp; omega) | omega))).trans ?_ | refine (Hp.put_other _ _ (by (first | assumption | omega | (simp; done) | (simp; omega)))).trans ?_ | refine Xr (by assumption) (by (first | assumption | (simp; done) | (simp; omega) | omega)) (by intro e; cases e) ?_)))).trans rfl | exact Hp.cell_le (by assumption) (by (repeat (first | assumption | exact Hp.le_refl _ | refine Hp.le_put_new ?_ (by first | (first | assumption | (simp; done) | (simp; omega) | omega) | exact (show Hp.le _ _ by assumption).1) _ | refine Hp.le_push' ?_ _ | refine Hp.le_trans ?_ (by assumption)))) (by (first | assumption | (simp; done) | (simp; omega) | omega)))) : p := h
theorem X8 {p : Prop} (h : p := by (first | assumption | exact cells_get (by (repeat (first | assumption | exact Hp.push_new _ _ | exact Hp.put_same _ _ _ | refine (Hp.push_old _ _ (by (first | assumption | (simp; done) | (simp; omega) | omega))).trans ?_ | refine (Hp.put_other _ _ (by (first | assumption | omega | (simp; done) | (simp; omega)))).trans ?_ | refine Xr (by assumption) (by (first | assumption | (simp; done) | (simp; omega) | omega)) (by intro e; cases e) ?_))) rfl | exact Cells.le (by assumption) (by (repeat (first | assumption | exact Hp.le_refl _ | refine Hp.le_put_new ?_ (by first | (first | assumption | (simp; done) | (simp; omega) | omega) | exact (show Hp.le _ _ by assumption).1) _ | refine Hp.le_push' ?_ _ | refine Hp.le_trans ?_ (by assumption)))) (by (first | assumption | (simp; done) | (simp; omega) | omega)))) : p := h
theorem Y0 {p : Prop} (h : p := by (first | assumption | omega | (simp; omega))) : p := h
theorem Yd {p : Prop} (h : p := by (repeat (first | assumption | exact Hp.push_new _ _ | exact Hp.put_same _ _ _ | refine (Hp.push_old _ _ (by (first | assumption | (simp; done) | (simp; omega) | omega))).trans ?_ | refine (Hp.put_other _ _ (by (first | assumption | omega | (simp; done) | (simp; omega)))).trans ?_ | refine Xr (by assumption) (by (first | assumption | (simp; done) | (simp; omega) | omega)) (by intro e; cases e) ?_))) : p := h
theorem X6 {p : Prop} (h : p := by (first | assumption | omega | (simp only [Int.toNat_natCast] at *; omega))) : p := h
theorem t_le {p : Prop} (h : p := by (repeat (first | assumption | exact Hp.le_refl _ | refine Hp.le_put_new ?_ (by first | (first | assumption | (simp; done) | (simp; omega) | omega) | exact (show Hp.le _ _ by assumption).1) _ | refine Hp.le_push' ?_ _ | refine Hp.le_trans ?_ (by assumption)))) : p := h
theorem Xq {p : Prop} (h : p := by (simp only [List.not_mem_nil, List.mem_singleton, false_implies, forall_eq, implies_true, Hp.put_size, Hp.push_size]; try omega)) : p := h
theorem Yk {p : Prop} (h : p := by (first | exact fun _ _ _ _ _ => rfl | (repeat (first | exact List.forall_mem_nil _ | refine List.forall_mem_cons.2 ⟨?_, ?_⟩ | (intro hb b hbm; first | (dsimp only at hb; exact absurd hb (by decide)) | (exact absurd hbm (List.not_mem_nil)) | (simp only [List.mem_singleton] at hbm; subst hbm; (first | rfl | exact Hp.put_other _ _ (by (first | assumption | omega | (simp; done) | (simp; omega))) | exact Hp.le.same (by assumption) (by (first | assumption | (simp; done) | (simp; omega) | omega)) (by (repeat (first | assumption | exact Hp.push_new _ _ | exact Hp.put_same _ _ _ | refine (Hp.push_old _ _ (by (first | assumption | (simp; done) | (simp; omega) | omega))).trans ?_ | refine (Hp.put_other _ _ (by (first | assumption | omega | (simp; done) | (simp; omega)))).trans ?_ | refine Xr (by assumption) (by (first | assumption | (simp; done) | (simp; omega) | omega)) (by intro e; cases e) ?_))) | exact hsameO _ _ _ (by (first | assumption | (simp; done) | (simp; omega) | omega)) (by (repeat (first | assumption | exact Hp.push_new _ _ | exact Hp.put_same _ _ _ | refine (Hp.push_old _ _ (by (first | assumption | (simp; done) | (simp; omega) | omega))).trans ?_ | refine (Hp.put_other _ _ (by (first | assumption | omega | (simp; done) | (simp; omega)))).trans ?_ | refine Xr (by assumption) (by (first | assumption | (simp; done) | (simp; omega) | omega)) (by intro e; cases e) ?_))))) | exact hsame _ hbm | exact hsame2 _ hbm))))) : p := h
theorem Yg {p : Prop} (h : p := by (first | (simp; done) | (simp; omega) | omega | (rw [Uf (by first | (simp; done) | (simp; omega) | omega)]; first | (simp; done) | (simp; omega) | omega) | (rw [List.length_set, Uf (by first | (simp; done) | (simp; omega) | omega)]; first | (simp; done) | (simp; omega) | omega) | (rw [List.length_set, List.length_set, Uf (by first | (simp; done) | (simp; omega) | omega)]; first | (simp; done) | (simp; omega) | omega))) : p := h
theorem Zp {p : Prop} (h : p := by (repeat (first | assumption | exact Hp.sees.refl _ | refine Hp.sees_put_new ?_ (by (first | assumption | (simp; done) | (simp; omega) | omega)) _ | refine Hp.sees.push ?_ _ | refine Hp.sees.trans ?_ (by assumption) | refine Hp.sees.trans ?_ (Hp.le.sees (by assumption)) | refine Hp.sees.box ?_ (by (repeat (first | assumption | exact Hp.push_new _ _ | exact Hp.put_same _ _ _ | refine (Hp.push_old _ _ (by (first | assumption | (simp; done) | (simp; omega) | omega))).trans ?_ | refine (Hp.put_other _ _ (by (first | assumption | omega | (simp; done) | (simp; omega)))).trans ?_ | refine Xr (by assumption) (by (first | assumption | (simp; done) | (simp; omega) | omega)) (by intro e; cases e) ?_)))))) : p := h
theorem t_spot {p : Prop} (h : p := by (intro a h; first | (injection h with h; subst h; rfl) | cases h)) : p := h
theorem Xm {p : Prop} (h : p := by first | assumption | rfl) : p := h
theorem Xu {z : Bool} {P : Program} {N : Nat} {Q : Exit → Fr → Hp → Prop} {t : Fr} {H : Hp} {id : Nat} {ops : Array Oper} (h : AOps P ops ops.toList t H (fun t1 H1 => Q .normal t1 H1)) (hok : ops.toList.all (Vr N ops) = true := by kernel_rfl) : ACode z P N (.region id ops false) Q t H := ac_region hok h
theorem Yt : (∀ (p : Prop) [Decidable p], (decide p = true) = p) ∧ (∀ (p : Prop) [Decidable p], (decide p = false) ↔ ¬ p) ∧ (∀ b : Bool, ((!b) = true) = (b = false)) ∧ (∀ b : Bool, ((!b) = false) = (b = true)) := ⟨fun _ _ => decide_eq_true_eq, fun _ _ => decide_eq_false_iff_not, fun _ => Bool.not_eq_true' _, fun _ => Bool.not_eq_false' _⟩
theorem Yv {x y : Bool} (h : x = y) : Value.bool x = Value.bool y := congrArg Value.bool h
end Go.Proofs.YtmakkmcjocjgmaaGreat.Am
