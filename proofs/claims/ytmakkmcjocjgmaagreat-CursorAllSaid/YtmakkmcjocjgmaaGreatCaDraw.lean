/- A region whose order Go leaves open: the rule. -/
import Derived.Test.YtmakkmcjocjgmaaGreatCaRegion
namespace Go.Proofs.YtmakkmcjocjgmaaGreat.Am
open Go Go.RowKit
set_option linter.unusedVariables false
set_option linter.unusedSimpArgs false

section
variable {P : Program} {N : Nat} {ops : Array Oper} {bf : Nat → Nat → Bool} {base : Nat} {φ0 : Inj} {H0 : Hp} {w0 : World} {ro : Option Nat} {ds : List Deferred} {π0 : List Nat} {Q : Exit → Fr → Hp → Prop}

theorem Inv.congr {K : Fr → Hp → Prop} {S S' : Nat → Prop} {F : List Pend} {π : List Nat} {pend : List (Nat × List Nat)} {t : Fr} {H : Hp} {φ : Inj} {a : Act} {w : World} (h : Inv P N ops bf base φ0 H0 w0 ds K S F π pend t H φ a w) (e : ∀ i, S i ↔ S' i) : Inv P N ops bf base φ0 H0 w0 ds K S' F π pend t H φ a w := by
  have : S = S' := funext fun i => propext (e i)
  exact this ▸ h
theorem listed_set {l : Array Bool} {i j : Nat} (hi : i < l.size) : ((l.getD j false = true) ∨ j = i) ↔ (l.setIfInBounds i true).getD j false = true := by
  simp only [Array.getD_eq_getD_getElem?]
  by_cases e : j = i
  · subst e; simp [hi]
  · rw [Array.getElem?_setIfInBounds_ne (Ne.symm e)]
    simp [e]
theorem listed_dflt {l : Array Bool} {i : Nat} (hi : i < l.size) : l.getD i true = l.getD i false := by simp [Array.getD_eq_getD_getElem?, hi]
theorem mem_ready {l : Array Bool} {i : Nat} (hl : l.size = ops.size) : i ∈ Region.ready .any ops l ↔ i < ops.size ∧ l.getD i false = false ∧ ∀ j ∈ V0 ops i, l.getD j false = true := by
  unfold Region.ready
  simp only [List.mem_filter, List.mem_range, Bool.and_eq_true, Bool.not_eq_true']
  constructor
  · rintro ⟨h1, h2, h3⟩
    refine ⟨h1, by rw [← listed_dflt (by omega)]; exact h2, fun j hj => ?_⟩
    have h4 : ops[i]? = some ops[i] := Array.getElem?_eq_getElem h1
    simp only [V0, h4, List.mem_filterMap] at hj
    obtain ⟨e, he, hb⟩ := hj
    rw [h4] at h3
    simp only [Option.map_some, Option.getD_some] at h3
    have h5 := (Array.all_eq_true_iff_forall_mem.1 h3) e (Array.mem_toList_iff.1 he)
    split at hb
    · rename_i hbi
      injection hb with hb
      subst hb
      simpa [hbi] using h5
    · cases hb
  · rintro ⟨h1, h2, h3⟩
    refine ⟨h1, by rw [listed_dflt (by omega)]; exact h2, ?_⟩
    have h4 : ops[i]? = some ops[i] := Array.getElem?_eq_getElem h1
    rw [h4]
    simp only [Option.map_some, Option.getD_some]
    refine Array.all_eq_true_iff_forall_mem.2 fun e he => ?_
    by_cases hbi : Region.binds .any e = true
    · have := h3 e.on (by
        simp only [V0, h4, List.mem_filterMap]
        exact ⟨e, Array.mem_toList_iff.2 he, by rw [if_pos hbi]⟩)
      simp [hbi, this]
    · simp [hbi]

theorem inv_any (hr : RegOk N ops bf π0) : ∀ (fuel : Nat) (l : Array Bool) (a : Act) (w : World) (F : List Pend) (π : List Nat) (pend : List (Nat × List Nat)) (t : Fr) (H : Hp) (φ : Inj), fuel = F.length + π.length → l.size = ops.size →
    Inv P N ops bf base φ0 H0 w0 ds (fun t H => Q .normal t H) (fun i => l.getD i false = true) F π pend t H φ a w → wpAnyIn (FW ro) 9 P .any ops (PostC base φ0 H0 w0 N ds Q) fuel l a w
  | 0, l, a, w, F, π, pend, t, H, φ, hf, hl, h => by
    have e1 : F = [] := List.eq_nil_of_length_eq_zero (by omega)
    have e2 : π = [] := List.eq_nil_of_length_eq_zero (by omega)
    subst e1
    subst e2
    refine ⟨?_, t, H, φ, [], h.adr, h.rel, ⟨h.size, fun i => h.rest i (by simp)⟩, no_marks h.defers, h.step⟩
    cases hrd : Region.ready .any ops l with
    | nil => rfl
    | cons x xs =>
      obtain ⟨h1, h2, _⟩ := (mem_ready hl).1 (by rw [hrd]; simp : x ∈ Region.ready .any ops l)
      have := (h.un x h1).1 (by simp [h2])
      simp at this
  | fuel + 1, l, a, w, F0, π1, pend0, t0, H1, φ, hf, hl, h0 => by
    obtain ⟨F, π, pend, t, H, h, hhead, hlen⟩ := Inv.drain hr π1 F0 pend0 t0 H1 h0
    have hf' : fuel + 1 = F.length + π.length := by omega
    refine ⟨fun hnil => ?_, fun i hi => ?_⟩
    · exfalso
      cases hL : F.map (·.i) ++ π with
      | nil =>
        have := congrArg List.length hL
        rw [List.length_append, List.length_map, List.length_nil] at this
        omega
      | cons x s =>
        have hle := h.le
        rw [hL] at hle
        have hx : x < ops.size := by
          have hm : x ∈ F.map (·.i) ++ π := by rw [hL]; simp
          rcases List.mem_append.1 hm with hm | hm
          · obtain ⟨f, hf, rfl⟩ := List.mem_map.1 hm
            exact (Array.getElem?_eq_some_iff.1 (h.at_ f hf)).1
          · -- by counting: all that isn't listed is below the size
            rcases Nat.lt_or_ge x ops.size with hlt | hge
            · exact hlt
            · exfalso
              obtain ⟨p, q, hpq⟩ := List.append_of_mem hm
              have hadr := h.adr
              rw [hpq] at hadr
              have key : ∀ (p : List Nat) (pend : List (Nat × List Nat)) (t : Fr) (H : Hp), ADr P ops bf (p ++ x :: q) pend t H (fun t H => Q .normal t H) → F.map (·.i) ++ (p ++ x :: q) = x :: s → False := by
                intro p pend t H ha hcons
                cases p with
                | nil =>
                  obtain ⟨o, ho, _⟩ := ha
                  rw [Array.getElem?_eq_none hge] at ho
                  cases ho
                | cons y p =>
                  cases F with
                  | nil =>
                    simp at hcons
                    obtain ⟨rfl, _⟩ := hcons
                    obtain ⟨o, ho, _⟩ := ha
                    rw [Array.getElem?_eq_none hge] at ho
                    cases ho
                  | cons f F =>
                    simp at hcons
                    have := (Array.getElem?_eq_some_iff.1 (h.at_ f (by simp))).1
                    omega
              exact key p pend t H hadr (by rw [← hpq]; exact hL)
        have : x ∈ Region.ready .any ops l := (mem_ready hl).2 ⟨hx, by simpa using (h.un x hx).2 (by rw [hL]; simp), hle.1⟩
        rw [hnil] at this
        cases this
    · obtain ⟨hil, hiS, hidir⟩ := (mem_ready hl).1 hi
      have hready : ∀ j, bf i j = true → l.getD j false = true := fun j hb => by
        rcases hr.anc i j hb with h1 | ⟨k, h1, h2⟩
        · exact hidir j h1
        · exact h.closed k (hidir k h1) j h2
      have hl' : (l.setIfInBounds i true).size = ops.size := by simpa using hl
      have hset : ∀ j, ((l.getD j false = true) ∨ j = i) ↔ (l.setIfInBounds i true).getD j false = true := fun j => listed_set (by omega)
      rcases List.mem_append.1 ((h.un i hil).1 (by simp [hiS])) with hm | hm
      · obtain ⟨f, hfF, rfl⟩ := List.mem_map.1 hm
        obtain ⟨F1, F2, rfl⟩ := List.append_of_mem hfF
        have hfl : fuel = (F1 ++ F2).length + π.length := by simp at hf' ⊢; omega
        have hat := h.at_ f hfF
        have hok := hr.opers _ _ hat
        have hlooks : ∀ d ∈ f.o.looksAt ops, VRel φ (f.tf d) (a.tmps.getD d undef) := fun d hd => ((h.slots f hfF) d hd).2 fun q hq hqd => by
          cases hb : bf f.i q.i with
          | false => rfl
          | true => exact absurd (hready _ hb) (h.unl hq)
        have hwant := wanted_of (ops := ops) h.size hok hlooks
        have horel := orel_of hok hlooks
        have hkind := h.kind f hfF
        unfold wpOpIn
        simp only [hat]
        rw [hwant]
        unfold PendK at hkind
        cases hk : f.k with
        | skip =>
          simp only [hk] at hkind
          rw [hkind.1]
          simp only [Bool.false_eq_true, if_false]
          refine ⟨fun _ _ => trivial, inv_any hr fuel _ _ _ _ _ _ _ _ _ hfl hl' ((h.exec hr.names hr.opers hready (.refl φ) ?_ (fun _ _ _ _ e => e) h.rel h.step).congr hset)⟩
          rw [hkind.2]; exact undef_rel _
        | val R =>
          simp only [hk] at hkind
          rw [hkind.1]
          simp only [if_true]
          obtain ⟨v', w', r1, r2, r3⟩ := hkind.2.1 H (fun _ _ => rfl) base φ w a h.rel horel
          refine wpIn_of (U1 hok) ?_
          unfold Oper.wp
          rw [r1]
          exact inv_any hr fuel _ _ _ _ _ _ _ _ _ hfl hl' ((h.exec hr.names hr.opers hready (.refl φ) r2 (fun _ _ _ _ e => e) (h.rel.heap r3.heap) (h.step.trans (r3.step φ H))).congr hset)
        | make b mk x =>
          simp only [hk] at hkind
          obtain ⟨k1, k2, k3, k4, k5, k6, k7⟩ := hkind
          rw [k1]
          simp only [if_true]
          obtain ⟨v', w', g, r1, r2, r3, r4, r5⟩ := k2 base φ H w a b h.rel horel k4 k6 k5
          refine wpIn_of (U1 hok) ?_
          unfold Oper.wp
          rw [r1]
          refine inv_any hr fuel _ _ _ _ _ _ _ _ _ hfl hl' ((h.exec hr.names hr.opers hready (Inj.ext_set k6 g) (by rw [k3]; exact r3) (fun q hq c hc hn => ?_) r2 (h.step.make k7 k6 r4 r5)).congr hset)
          unfold Inj.set
          have hcb : c ≠ b := fun e => by
            subst e
            have hids := h.ids
            have hkid : f.k.ids = [c] := by rw [hk]; rfl
            rw [List.flatMap_append, List.flatMap_cons, hkid] at hids
            have := (nodup_mid (p := List.flatMap (fun f => f.k.ids) F1) (x := c) (s := List.flatMap (fun f => f.k.ids) F2) hids).1
            apply this
            rcases List.mem_append.1 hq with hq | hq
            · exact List.mem_append_left _ (List.mem_flatMap.2 ⟨q, hq, hc⟩)
            · exact List.mem_append_right _ (List.mem_flatMap.2 ⟨q, hq, hc⟩)
          rw [if_neg hcb]
          exact hn
      · rcases hhead with rfl | ⟨c, r, o, rfl, ho, hc, hwn⟩
        · cases hm
        · have hcS : ¬ (l.getD c false = true) := (h.un c (Array.getElem?_eq_some_iff.1 ho).1).2 (by simp)
          rcases List.mem_cons.1 hm with rfl | hm
          · obtain ⟨o', ho', hadr⟩ := h.adr
            rw [ho] at ho'
            injection ho' with ho'
            subst ho'
            rw [if_pos hwn, if_pos hc] at hadr
            have hok := hr.opers _ _ ho
            have hfl : fuel = F.length + r.length := by simp at hf'; omega
            have hlooks : ∀ d ∈ o.looksAt ops, VRel φ (t d) (a.tmps.getD d undef) := fun d hd => h.rest d fun f hfF hfd => by
              have hne : f.i ≠ i := fun e => by
                have := (List.nodup_append.1 h.nodup).2.2 f.i (List.mem_map.2 ⟨f, hfF, rfl⟩) i (by simp)
                exact this e
              rcases hr.names f.i i f.o o d hne (h.at_ f hfF) ho hfd hd with h1 | h1
              · exact h.unl hfF (hready _ h1)
              · rw [h.behind hr.anc hcS hfF] at h1; cases h1
            unfold wpOpIn
            simp only [ho]
            rw [wanted_of (ops := ops) h.size hok hlooks, hwn]
            simp only [if_true]
            refine wpIn_of (U1 hok) (hadr base φ w a h.rel (orel_of hok hlooks) _ _ fun v v' H' φ' w' hv hw' hvr hst => ?_)
            exact inv_any hr fuel _ _ _ _ _ _ _ _ _ hfl hl' ((h.link hr ho hready hv.2 hv.1 hvr hw' hst).congr hset)
          · have hb := h.chain [] c r o rfl ho hc i hm
            exact absurd (hready _ hb) hcS
theorem nodup_length_le : ∀ {l m : List Nat}, l.Nodup → (∀ x ∈ l, x ∈ m) → l.length ≤ m.length
  | [], _, _, _ => Nat.zero_le _
  | x :: l, m, hn, hs => by
    obtain ⟨h1, h2⟩ := List.nodup_cons.1 hn
    have hx := hs x (by simp)
    have h3 : l.length ≤ (m.erase x).length := nodup_length_le h2 fun y hy => (List.mem_erase_of_ne (fun e => h1 (by rw [← e]; exact hy))).2 (hs y (by simp [hy]))
    rw [List.length_erase_of_mem hx] at h3
    have : 0 < m.length := List.length_pos_of_mem hx
    simp
    omega
theorem Yy {z : Bool} {id : Nat} {t : Fr} {H : Hp} (hm : P.follows .mixedOrders = true) (hr : RegOk N ops bf π0) (h : ADr P ops bf π0 [] t H (fun t' H' => Q .normal t' H')) : ACode z P N (.region id ops true) Q t H := fun ro hz ds base φ w a hw ht hd => by
  refine wpIn_region_any hm ?_
  have hl : (Array.replicate ops.size false).size = ops.size := by simp
  have hS : ∀ i, ¬ ((Array.replicate ops.size false).getD i false = true) := fun i => by
    simp only [Array.getD_eq_getD_getElem?, Array.getElem?_replicate]
    split <;> simp
  have hst : Step φ H w φ H { w with drawn := w.drawn + 1 } := Step.drew rfl rfl rfl rfl (Nat.le_succ _)
  have hmem : ∀ i, i < ops.size → i ∈ π0 := by
    -- as many numbers below the size as there are, each once
    intro i hi
    refine Classical.byContradiction fun hni => ?_
    have h1 : (i :: π0).length ≤ (List.range ops.size).length := nodup_length_le (List.nodup_cons.2 ⟨hni, hr.nodup⟩) fun x hx => by
      rcases List.mem_cons.1 hx with rfl | hx
      · exact List.mem_range.2 hi
      · exact List.mem_range.2 (hr.lt x hx)
    rw [List.length_cons, List.length_range, hr.len] at h1
    omega
  refine inv_any hr ops.size _ a _ [] π0 [] t H φ (by simp [hr.len]) hl ⟨?_, fun i hi => ?_, by simpa using hr.nodup, hr.chain, h, fun i hi => absurd hi (hS i), by simp, by simp, by simp, by simp, by simp, by simp, fun d _ => ht.rel d, ht.size, hw.heap rfl, hst, hd⟩
  · simp only [List.map_nil, List.nil_append]
    exact LE.of_lin fun p i s e j hj => .inr (hr.lin p i s e j hj)
  · simp only [List.map_nil, List.nil_append]
    exact ⟨fun _ => hmem i hi, fun _ => hS i⟩
end
end Go.Proofs.YtmakkmcjocjgmaaGreat.Am
