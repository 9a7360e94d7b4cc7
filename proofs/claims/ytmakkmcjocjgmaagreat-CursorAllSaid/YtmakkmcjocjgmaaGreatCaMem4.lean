/- More rules: append. -/
import Derived.Test.YtmakkmcjocjgmaaGreatCaMem3
namespace Go.Proofs.YtmakkmcjocjgmaaGreat.Am
open Go Go.RowKit
set_option linter.unusedVariables false
set_option linter.unusedSimpArgs false

theorem kp_get (H : Hp) (b : Nat) (x : Blk) (i : Nat) : ((H.put b .dead).push x).get i = if i = H.size then x else if i = b then .dead else H.get i := rfl
theorem WRel.rename {base : Nat} {φ : Inj} {H : Hp} {w : World} (h : WRel base φ H w) {b o st : Nat} {cs : List Value} {g : Img} (hx : H.get b = .own st cs) (hg : φ b = some g) (ho : o ≤ cs.length) :
    WRel base (Inj.set φ H.size ⟨g.rb, o + g.d, g.m, g.st⟩) ((H.put b .dead).push (.own st (cs.drop o))) w := by
  have hext : Ext φ (Inj.set φ H.size ⟨g.rb, o + g.d, g.m, g.st⟩) := Inj.ext_set h.fresh _
  have hb : b < H.size := h.dom b g hg
  have old : ∀ i x, i ≠ H.size → Inj.set φ H.size ⟨g.rb, o + g.d, g.m, g.st⟩ i = some x → φ i = some x := fun i x hi hq => by unfold Inj.set at hq; rwa [if_neg hi] at hq
  have new : ∀ x, Inj.set φ H.size ⟨g.rb, o + g.d, g.m, g.st⟩ H.size = some x → x = ⟨g.rb, o + g.d, g.m, g.st⟩ := fun x hq => by unfold Inj.set at hq; rw [if_pos rfl] at hq; injection hq with hq; exact hq.symm
  have get_old : ∀ i, i ≠ H.size → i ≠ b → ((H.put b .dead).push (.own st (cs.drop o))).get i = H.get i := fun i h1 h2 => by rw [kp_get, if_neg h1, if_neg h2]
  have get_new : ((H.put b .dead).push (.own st (cs.drop o))).get H.size = .own st (cs.drop o) := by rw [kp_get, if_pos rfl]
  have get_b : ((H.put b .dead).push (.own st (cs.drop o))).get b = .dead := by rw [kp_get, if_neg (by omega), if_pos rfl]
  have live : (H.get b).live = true := by rw [hx]; rfl
  refine ⟨h.hb, fun i x hq => ?_, fun i f x hf hq => ?_, fun i s ds x hf hq => ?_, fun i es x hf hq => ?_, fun i es x hf hq => ?_, fun i j x x' hl hl' hq hq' he => ?_⟩
  · by_cases hi : i = H.size
    · simp; omega
    · have := h.dom i x (old i x hi hq); simp; omega
  · by_cases hi : i = H.size
    · subst hi; rw [get_new] at hf; cases hf
    · by_cases hib : i = b
      · subst hib; rw [get_b] at hf; cases hf
      · rw [get_old i hi hib] at hf
        obtain ⟨h1, h2, h3⟩ := h.ro i f x hf (old i x hi hq)
        exact ⟨h1, h2, fun j v hv => let ⟨v', a, c⟩ := h3 j v hv; ⟨v', a, c.mono hext⟩⟩
  · by_cases hi : i = H.size
    · subst hi
      rw [get_new] at hf
      injection hf with hf1 hf
      subst hf
      subst hf1
      obtain rfl := new x hq
      obtain ⟨h1, h2, c, e, h3, h4, h5, h6⟩ := h.own b st cs g hx hg
      refine ⟨h1, h2, c, e, h3, h4, by simp; omega, fun j v hv => ?_⟩
      rw [List.getElem?_drop] at hv
      obtain ⟨v', a, k⟩ := h6 _ v hv
      exact ⟨v', by simpa only [show o + j + g.d = j + (o + g.d) by omega] using a, k.mono hext⟩
    · by_cases hib : i = b
      · subst hib; rw [get_b] at hf; cases hf
      · rw [get_old i hi hib] at hf
        obtain ⟨h1, h2, c, e, h3, h4, h5, h6⟩ := h.own i s ds x hf (old i x hi hq)
        exact ⟨h1, h2, c, e, h3, h4, h5, fun j v hv => let ⟨v', a, k⟩ := h6 j v hv; ⟨v', a, k.mono hext⟩⟩
  · by_cases hi : i = H.size
    · subst hi; rw [get_new] at hf; cases hf
    · by_cases hib : i = b
      · subst hib; rw [get_b] at hf; cases hf
      · rw [get_old i hi hib] at hf
        obtain ⟨h1, ens, clock, h2, h3⟩ := h.map i es x hf (old i x hi hq)
        exact ⟨h1, ens, clock, h2, h3.mono hext⟩
  · by_cases hi : i = H.size
    · subst hi; rw [get_new] at hf; cases hf
    · by_cases hib : i = b
      · subst hib; rw [get_b] at hf; cases hf
      · rw [get_old i hi hib] at hf
        obtain ⟨h1, ens, clock, h2, h3⟩ := h.romap i es x hf (old i x hi hq)
        exact ⟨h1, ens, clock, h2, h3.mono hext⟩
  · have nb : ∀ i, ((((H.put b .dead).push (.own st (cs.drop o))).get i).live = true) → i ≠ b := fun i hl e => by subst e; rw [get_b] at hl; cases hl
    by_cases hi : i = H.size
    · by_cases hj : j = H.size
      · omega
      · subst hi
        obtain rfl := new x hq
        have := nb j hl'
        rw [get_old j hj this] at hl'
        exact absurd (h.inj b j g x' live hl' hg (old j x' hj hq') he) (fun e => this e.symm)
    · by_cases hj : j = H.size
      · subst hj
        obtain rfl := new x' hq'
        have := nb i hl
        rw [get_old i hi this] at hl
        exact absurd (h.inj i b x g hl live (old i x hi hq) hg he) this
      · have e1 := nb i hl
        have e2 := nb j hl'
        rw [get_old i hi e1] at hl
        rw [get_old j hj e2] at hl'
        exact h.inj i j x x' hl hl' (old i x hi hq) (old j x' hj hq') he
theorem Step.killpush {base : Nat} {φ : Inj} {H : Hp} {w w' : World} (hw : WRel base φ H w) {b : Nat} (x : Blk) {g : Img} (h1 : w'.os = w.os) (h2 : w'.tape = w.tape) (h3 : w'.output = w.output) (h7 : w.drawn ≤ w'.drawn) (h4 : w.heap.size ≤ w'.heap.size) (h5 : ∀ k, k < w.heap.size → ¬ Foot φ H k → w'.heap[k]? = w.heap[k]?)
    (h6 : w.heap.size ≤ g.rb ∨ Foot φ H g.rb) (hb : b < H.size) : Step φ H w (Inj.set φ H.size g) ((H.put b .dead).push x) w' where
  ext := Inj.ext_set hw.fresh g
  hsize := by simp
  dead i hi hd := by
    rw [kp_get, if_neg (by omega)]
    split
    · rfl
    · exact hd
  nomap i hi hn := by unfold Inj.set; rw [if_neg (by omega)]; exact hn
  os := h1
  tape := h2
  output := h3
  drawn := h7
  size := h4
  keep k hk hn := by
    refine ⟨h5 k hk hn, fun ⟨i, g', hl, hg', he⟩ => ?_⟩
    unfold Inj.set at hg'
    split at hg'
    · injection hg' with hg'
      subst hg'
      rcases h6 with h6 | h6
      · omega
      · exact hn (he ▸ h6)
    · rename_i hi
      rw [kp_get, if_neg hi] at hl
      split at hl
      · cases hl
      · exact hn ⟨i, g', hl, hg', he⟩
theorem Step.push {base : Nat} {φ : Inj} {H : Hp} {w w' : World} (hw : WRel base φ H w) (x : Blk) {g : Img} (h1 : w'.os = w.os) (h2 : w'.tape = w.tape) (h3 : w'.output = w.output) (h7 : w.drawn ≤ w'.drawn) (h4 : w.heap.size ≤ w'.heap.size) (h5 : ∀ k, k < w.heap.size → w'.heap[k]? = w.heap[k]?) (h6 : w.heap.size ≤ g.rb) :
    Step φ H w (Inj.set φ H.size g) (H.push x) w' where
  ext := Inj.ext_set hw.fresh g
  hsize := by simp
  dead i hi hd := by rw [Hp.push_old _ _ hi]; exact hd
  nomap i hi hn := by unfold Inj.set; rw [if_neg (by omega)]; exact hn
  os := h1
  tape := h2
  output := h3
  drawn := h7
  size := h4
  keep k hk hn := by
    refine ⟨h5 k hk, fun ⟨i, g', hl, hg', he⟩ => ?_⟩
    unfold Inj.set at hg'
    split at hg'
    · injection hg' with hg'
      subst hg'
      omega
    · rename_i hi
      rw [Hp.push_get, if_neg hi] at hl
      exact hn ⟨i, g', hl, hg', he⟩

section
variable {P : Program} {t : Fr} {H : Hp} {d : Option Tmp} {ty : TypeId} {pos : String} {after : Array Edge} {guard : Option (Nat × Bool)} {K : Value → Hp → Prop}

theorem append_run {at_ : TypeId} {x y : Operand} {a : Act} {v' : Value} {w w' : World} (h : (Builtin.append_ #[at_, at_] ty #[a.eval x, a.eval y]).run P w = .ok v' w') : (execOp a.eval ⟨d, .call ⟨.builtin .append, #[x, y], #[at_, at_]⟩, ty, pos, after, guard⟩).run P w = .ok (.value v') w' := by
  simp [execOp, resolve, invoke, builtin, h]
theorem info3 {P : Program} {e sz by_ : Nat} {z : Value} (hi : (P.info? e).map (fun i => (i.zero, i.size, i.bytes)) = some (some z, sz, by_)) : ∃ i, P.info? e = some i ∧ i.zero = some z ∧ i.size = sz ∧ i.bytes = by_ := by
  cases h : P.info? e with
  | none => rw [h] at hi; cases hi
  | some i => rw [h] at hi; simp at hi; exact ⟨i, rfl, hi.1, hi.2.1, hi.2.2⟩
theorem grown_row {base : Nat} {φ : Inj} {H : Hp} {w : World} (hw : WRel base φ H w) {cells cells' : List Value} (hl : LRel φ cells cells') {e n : Nat} {z : Value} {i : TypeInfo} (hzs : z.cells.size = i.size) (hcl : cells.length = n * i.size) {c : Nat} (hc : n ≤ c) :
    WRel base (Inj.set φ H.size ⟨w.heap.size, 0, c * i.size, i.size⟩) (H.push (.own i.size cells)) (w.drew.alloc (.cells (cells'.toArray ++ Builtin.zeroCells z.cells (c - n)) e)) ∧
    VRel (Inj.set φ H.size ⟨w.heap.size, 0, c * i.size, i.size⟩) (.slice (some ⟨H.size, 0, none⟩) n unk) (.slice (some ⟨w.heap.size, 0, none⟩) n c) := by
  have hsz : (cells'.toArray ++ Builtin.zeroCells z.cells (c - n)).size = c * i.size := by
    have h1 : cells'.length = n * i.size := by rw [← hl.1]; exact hcl
    simp only [Array.size_append, List.size_toArray, h1, Builtin.zeroCells, Array.size_map, Array.size_range, hzs]
    rw [← Nat.add_mul]
    congr 1
    omega
  have hw1 : WRel base φ H w.drew := hw.heap rfl
  have := hw1.alloc (cs := cells) (c := cells'.toArray ++ Builtin.zeroCells z.cells (c - n)) e i.size (by rw [hsz, hcl]; exact Nat.mul_le_mul_right _ hc) (fun j v hv => by
    obtain ⟨v', k1, k2⟩ := hl.2 j v hv
    refine ⟨v', ?_, k2⟩
    have hj : j < cells'.length := (List.getElem?_eq_some_iff.1 k1).1
    rw [Array.getElem?_append_left (by simpa using hj)]
    simpa using k1)
  rw [hsz] at this
  refine ⟨this, ?_⟩
  have := VRel.slice (φ := Inj.set φ H.size ⟨w.heap.size, 0, c * i.size, i.size⟩) (b := H.size) (g := ⟨w.heap.size, 0, c * i.size, i.size⟩) 0 n unk c (by simp [Inj.set]) hc (.inr rfl) (.inr (by simp))
  simpa using this

theorem aop_append_none {at_ e : TypeId} {x y : Operand} {A B : Option Addr} {n c c2 : Nat} (hu : P.underlying at_ = some (.slice e)) (hz : (P.info? e).isSome = true) (hs : t.eval x = .slice A n c) (hy : t.eval y = .slice B 0 c2) (k : K (.slice A n c) H) :
    AOp P ⟨d, .call ⟨.builtin .append, #[x, y], #[at_, at_]⟩, ty, pos, after, guard⟩ t H K := fun base φ w a hw ho next Q' hk => by
  obtain ⟨i, hi⟩ := Option.isSome_iff_exists.1 hz
  have h1 := ho x (by simp [Op.operands, Call.operands])
  have h2 := ho y (by simp [Op.operands, Call.operands])
  rw [hs] at h1
  rw [hy] at h2
  have hx : ∃ A' c', a.eval x = .slice A' n c' ∧ n ≤ c' := by
    generalize a.eval x = u at h1
    cases h1 with
    | sliceNil => exact ⟨_, _, rfl, Nat.le_refl _⟩
    | slice o n c c' hg hn => exact ⟨_, _, rfl, hn⟩
    | slice0 => exact ⟨_, _, rfl, Nat.le_refl _⟩
  have hy' : ∃ B' c', a.eval y = .slice B' 0 c' := by
    generalize a.eval y = u at h2
    cases h2 <;> exact ⟨_, _, rfl⟩
  obtain ⟨A', c', e1, e2⟩ := hx
  obtain ⟨B', c2', e3⟩ := hy'
  have hrun : (Builtin.append_ #[at_, at_] ty #[a.eval x, a.eval y]).run P w = .ok (a.eval x) w := by
    rw [e1, e3]
    have hf : (Builtin.firstCells i.size 0 (.slice B' 0 c2')).run P w = .ok #[] w := by cases B' <;> simp [Builtin.firstCells, loadCells, loadCellsFrom]
    cases A' <;> simp [Builtin.append_, run_underlying hu, sizeOf, typeInfo, hi, Builtin.lenOf, e2, hf, storeCells]
  unfold Oper.wp
  rw [append_run hrun]
  exact hk _ _ H φ w k hw h1 (.refl _ _ _)
theorem aop_append_new {at_ e : TypeId} {x y : Operand} {sz by_ n m c c2 b2 o2 : Nat} {A : Option Addr} {z : Value} {olds news : List Value} (hu : P.underlying at_ = some (.slice e)) (hi : (P.info? e).map (fun i => (i.zero, i.size, i.bytes)) = some (some z, sz, by_)) (hzs : z.cells.size = sz)
    (hs : t.eval x = .slice A n c) (hA : (A = none ∧ n = 0 ∧ c = 0 ∧ olds = []) ∨ ∃ b o, A = some ⟨b, o, none⟩ ∧ c ≠ unk ∧ Cells H b o olds ∧ olds.length = n * sz) (hfull : c < n + m)
    (hy : t.eval y = .slice (some ⟨b2, o2, none⟩) m c2) (hn : Cells H b2 o2 news) (hl : news.length = m * sz) (hm : 0 < m) (hb1 : n + m ≤ 9223372036854775807) (hb2 : (n + m) * by_ ≤ 140737488355328)
    (k : K (.slice (some ⟨H.size, 0, none⟩) (n + m) unk) (H.push (.own sz (olds ++ news)))) : AOp P ⟨d, .call ⟨.builtin .append, #[x, y], #[at_, at_]⟩, ty, pos, after, guard⟩ t H K := fun base φ w a hw ho next Q' hk => by
  obtain ⟨i, hinf, hz, rfl, rfl⟩ := info3 hi
  have h1 := ho x (by simp [Op.operands, Call.operands])
  have h2 := ho y (by simp [Op.operands, Call.operands])
  rw [hs] at h1
  rw [hy] at h2
  generalize hqx : a.eval x = ux at h1
  generalize hqy : a.eval y = uy at h2
  have e6 : ∀ (ad : Addr) (j : Nat), ad.spot = none → ad.add j = ⟨ad.block, ad.off + j, none⟩ := fun ad j hs => by obtain ⟨p, q, r⟩ := ad; simp only at hs; subst hs; exact Addr.add_lit _ _ _
  cases h2 with
  | slice0 => omega
  | @slice _ g2 o2 m c2 c2' hg2 hn2 hc2 hin2 =>
    obtain ⟨news', hln, hcn⟩ := hn.real hw hg2
    have hnl : news'.length = m * i.size := by rw [← hln.1]; exact hl
    have hnews : ∀ (j : Nat) v, news'[j]? = some v → w.cell? ((⟨g2.rb, o2 + g2.d, none⟩ : Addr).add j) = some v := fun j v hj => by rw [Addr.add_lit]; exact hcn j v hj
    have done : ∀ (olds' : List Value) (c' : Nat), LRel φ olds olds' → olds.length = n * i.size → n + m ≤ c' → (Builtin.append_ #[at_, at_] ty #[a.eval x, a.eval y]).run P w = .ok (.slice (some ⟨w.heap.size, 0, none⟩) (n + m) c') (w.drew.alloc (.cells ((olds' ++ news').toArray ++ Builtin.zeroCells z.cells (c' - (n + m))) e)) →
        Oper.wp P ⟨d, .call ⟨.builtin .append, #[x, y], #[at_, at_]⟩, ty, pos, after, guard⟩ a w next Q' := by
      intro olds' c' ho1 ho2 hcap hrun
      obtain ⟨r1, r2⟩ := grown_row (e := e) hw (ho1.append hln) hzs (n := n + m) (by rw [List.length_append, ho2, hl, Nat.add_mul]) hcap
      unfold Oper.wp
      rw [append_run hrun]
      exact hk _ _ _ _ _ k r1 r2 (Step.push hw _ rfl rfl rfl (by first | exact Nat.le_refl _ | exact Nat.le_succ _) (by show w.heap.size ≤ (w.drew.heap.push _).size; simp) (fun q hq => Below.heap_alloc w.drew _ q hq) (Nat.le_refl _))
    rcases hA with ⟨rfl, rfl, rfl, rfl⟩ | ⟨b, o, rfl, hcu, hco, hlo⟩
    · cases h1
      have hrun := run_append_nil (P := P) w at_ ty e i z hu hinf hz ⟨g2.rb, o2 + g2.d, none⟩ m c2' news' hnl hnews hm (by omega) (by rw [Nat.zero_add] at hb2; omega)
      refine done [] (grownCap w m 0 e) (.nil _) (by simp) (by rw [Nat.zero_add]; exact grownCap_ge w m 0 e) ?_
      rw [hqx, hqy, hrun]
      simp
    · cases h1 with
      | @slice _ g o n c c' hg hnc hc hin =>
        have hcc : c = c' := hc.resolve_right hcu
        subst hcc
        obtain ⟨olds', hlo', hco'⟩ := hco.real hw hg
        have hrun := run_append_grow (P := P) w at_ ty e i z hu hinf hz ⟨g.rb, o + g.d, none⟩ n c olds' (by rw [← hlo'.1]; exact hlo) (fun j v hj => by rw [Addr.add_lit]; exact hco' j v hj) ⟨g2.rb, o2 + g2.d, none⟩ m c2' news' hnl hnews hfull (by omega) (growslice_fits hfull hb2)
        refine done olds' (grownCap w (n + m) c e) hlo' hlo (grownCap_ge w (n + m) c e) ?_
        rw [hqx, hqy, hrun]
        simp
      | slice0 a1 a' c hc =>
        have hcc : c = 0 := hc.resolve_right hcu
        subst hcc
        obtain rfl : olds = [] := List.eq_nil_of_length_eq_zero (by simpa using hlo)
        have hrun := run_append_grow (P := P) w at_ ty e i z hu hinf hz a' 0 0 [] (by simp) (fun j v hj => by simp at hj) ⟨g2.rb, o2 + g2.d, none⟩ m c2' news' hnl hnews hfull (by omega) (growslice_fits hfull hb2)
        refine done [] (grownCap w (0 + m) 0 e) (.nil _) (by simp) (grownCap_ge w (0 + m) 0 e) ?_
        rw [hqx, hqy, hrun]
        simp
theorem aop_append_kill {at_ e : TypeId} {x y : Operand} {sz by_ n m c c2 b o b2 o2 : Nat} {z : Value} {cs news : List Value} (hu : P.underlying at_ = some (.slice e)) (hi : (P.info? e).map (fun i => (i.zero, i.size, i.bytes)) = some (some z, sz, by_)) (hzs : z.cells.size = sz) (h0 : sz ≠ 0) (hz1 : z.cells.size = z.cells.size)
    (hs : t.eval x = .slice (some ⟨b, o, none⟩) n c) (hc : c = unk ∨ n + m ≤ c) (hb : H.get b = .own sz cs) (hlen : o + n * sz ≤ cs.length)
    (hy : t.eval y = .slice (some ⟨b2, o2, none⟩) m c2) (hn : Cells H b2 o2 news) (hl : news.length = m * sz) (h1c : news.all Value.oneCell' = true) (hm : 0 < m) (hb1 : n + m ≤ 9223372036854775807) (hb2 : (n + m) * by_ ≤ 140737488355328)
    (k : K (.slice (some ⟨H.size, 0, none⟩) (n + m) c) ((H.put b .dead).push (.own sz ((cs.drop o).take (n * sz) ++ news)))) : AOp P ⟨d, .call ⟨.builtin .append, #[x, y], #[at_, at_]⟩, ty, pos, after, guard⟩ t H K := fun base φ w a hw ho next Q' hk => by
  obtain ⟨i, hinf, hz, rfl, rfl⟩ := info3 hi
  have h1 := ho x (by simp [Op.operands, Call.operands])
  have h2 := ho y (by simp [Op.operands, Call.operands])
  rw [hs] at h1
  rw [hy] at h2
  generalize hqx : a.eval x = ux at h1
  generalize hqy : a.eval y = uy at h2
  have hcells : Cells H b o ((cs.drop o).take (n * i.size)) := fun j v hj => by
    rw [List.getElem?_take] at hj
    split at hj
    · rw [List.getElem?_drop] at hj
      simp only [Hp.cell?, hb, Blk.cell?]
      exact hj
    · cases hj
  have hlo : ((cs.drop o).take (n * i.size)).length = n * i.size := by simp; omega
  cases h2 with
  | slice0 => omega
  | @slice _ g2 o2 m c2 c2' hg2 hn2 hc2 hin2 =>
    obtain ⟨news', hln, hcn⟩ := hn.real hw hg2
    have hnl : news'.length = m * i.size := by rw [← hln.1]; exact hl
    have hnews : ∀ (j : Nat) v, news'[j]? = some v → w.cell? ((⟨g2.rb, o2 + g2.d, none⟩ : Addr).add j) = some v := fun j v hj => by rw [Addr.add_lit]; exact hcn j v hj
    -- a new row
    have done : ∀ (olds' : List Value) (c' : Nat), c = unk → b < H.size → LRel φ ((cs.drop o).take (n * i.size)) olds' → n + m ≤ c' → (Builtin.append_ #[at_, at_] ty #[a.eval x, a.eval y]).run P w = .ok (.slice (some ⟨w.heap.size, 0, none⟩) (n + m) c') (w.drew.alloc (.cells ((olds' ++ news').toArray ++ Builtin.zeroCells z.cells (c' - (n + m))) e)) →
        Oper.wp P ⟨d, .call ⟨.builtin .append, #[x, y], #[at_, at_]⟩, ty, pos, after, guard⟩ a w next Q' := by
      intro olds' c' hcu hbs ho1 hcap hrun
      obtain ⟨r1, r2⟩ := grown_row (H := H.put b .dead) (e := e) (hw.kill b) (ho1.append hln) hzs (n := n + m) (by rw [List.length_append, hlo, hl, Nat.add_mul]) hcap
      unfold Oper.wp
      rw [append_run hrun]
      simp only [Hp.put_size] at r1 r2
      subst hcu
      exact hk _ _ _ _ _ k r1 r2 (Step.killpush hw _ rfl rfl rfl (by first | exact Nat.le_refl _ | exact Nat.le_succ _) (by show w.heap.size ≤ (w.drew.heap.push _).size; simp) (fun q hq _ => Below.heap_alloc w.drew _ q hq) (.inl (Nat.le_refl _)) hbs)
    cases h1 with
    | slice0 a1 a' c hc0 =>
      have hcu : c = unk := by
        rcases hc0 with rfl | rfl
        · rcases hc with hc | hc
          · exact hc
          · omega
        · rfl
      subst hcu
      by_cases hbs : b < H.size
      · have hrun := run_append_grow (P := P) w at_ ty e i z hu hinf hz a' 0 0 [] (by simp) (fun j v hj => by simp at hj) ⟨g2.rb, o2 + g2.d, none⟩ m c2' news' hnl hnews (by omega) (by omega) (growslice_fits (by omega) hb2)
        refine done [] (grownCap w (0 + m) 0 e) rfl hbs ?_ (grownCap_ge w (0 + m) 0 e) ?_
        · have : (cs.drop o).take (0 * i.size) = [] := by simp
          rw [this]; exact .nil _
        · rw [hqx, hqy, hrun]
          simp
      · -- nothing lies there: give up what isn't there
        have hrun := run_append_grow (P := P) w at_ ty e i z hu hinf hz a' 0 0 [] (by simp) (fun j v hj => by simp at hj) ⟨g2.rb, o2 + g2.d, none⟩ m c2' news' hnl hnews (by omega) (by omega) (growslice_fits (by omega) hb2)
        obtain ⟨r1, r2⟩ := grown_row (H := H.put b .dead) (e := e) (hw.kill b) (cells := (cs.drop o).take (0 * i.size) ++ news) (cells' := [] ++ news') (by have : (cs.drop o).take (0 * i.size) = [] := by simp
                                                                                                                                                            rw [this]; exact (LRel.nil φ).append hln) hzs (n := 0 + m) (by simp [hl]) (grownCap_ge w (0 + m) 0 e)
        unfold Oper.wp
        rw [append_run (by rw [hqx, hqy, hrun])]
        simp only [Hp.put_size] at r1 r2
        refine hk _ _ _ _ _ k (by simpa using r1) r2 ?_
        have st := Step.push (H := H) hw (.own i.size ((cs.drop o).take (0 * i.size) ++ news)) (g := ⟨w.heap.size, 0, grownCap w (0 + m) 0 e * i.size, i.size⟩) (w' := w.drew.alloc (.cells (([] : List Value).toArray ++ news'.toArray ++ Builtin.zeroCells z.cells (grownCap w (0 + m) 0 e - (0 + m))) e)) rfl rfl rfl (by first | exact Nat.le_refl _ | exact Nat.le_succ _) (by show w.heap.size ≤ (w.drew.heap.push _).size; simp) (fun q hq => Below.heap_alloc w.drew _ q hq) (Nat.le_refl _)
        refine ⟨st.ext, st.hsize, fun q hq hd => ?_, st.nomap, st.os, st.tape, st.output, st.drawn, st.size, fun q hq hn => ?_⟩
        · rw [kp_get, if_neg (by omega), if_neg (by omega)]; exact hd
        · obtain ⟨s1, s2⟩ := st.keep q hq hn
          refine ⟨s1, fun ⟨p, g', hl', hg', he⟩ => s2 ⟨p, g', ?_, hg', he⟩⟩
          rw [kp_get] at hl'
          rw [Hp.push_get]
          split at hl'
          · rename_i hp; rw [if_pos hp]; exact hl'
          · rename_i hp
            rw [if_neg hp]
            split at hl'
            · cases hl'
            · exact hl'
    | @slice _ g o n c c' hg hnc hcc hin =>
      have hbs := hw.dom b g hg
      obtain ⟨r1, r2, cur, ec, r3, r4, r5, r6⟩ := hw.own b i.size cs g hb hg
      obtain ⟨olds', hlo', hco'⟩ := hcells.real hw hg
      by_cases hroom : n + m ≤ c'
      · -- in place
        have hin' : o + g.d + c' * i.size ≤ g.m := by
          rcases hin with h3 | h3
          · omega
          · rw [← r2]; exact h3
        have hmul : n * i.size + m * i.size ≤ c' * i.size := by rw [← Nat.add_mul]; exact Nat.mul_le_mul_right _ hroom
        have h1c' : ∀ v ∈ news', v.oneCell' = true := by
          intro v hm
          obtain ⟨j, hj⟩ := List.getElem?_of_mem hm
          obtain ⟨u, hu, hru⟩ := hln.get hj
          rw [hru.oneCell]
          exact List.all_eq_true.1 h1c u (List.mem_of_getElem? hu)
        have hst := run_storeCells_at (P := P) g.rb (o + g.d + n * i.size) ec news' 0 cur w r3 (by rw [hnl]; omega) h1c'
        simp only [Nat.add_zero] at hst
        have hfc := run_firstCells_some (P := P) w i.size m ⟨g2.rb, o2 + g2.d, none⟩ m c2' news' hnl hnews
        have hrun : (Builtin.append_ #[at_, at_] ty #[a.eval x, a.eval y]).run P w = .ok (.slice (some ⟨g.rb, o + g.d, none⟩) (n + m) c') (w.setRow g.rb (setR cur.toList (o + g.d + n * i.size) news').toArray) := by
          rw [hqx, hqy]
          simp [Builtin.append_, run_underlying hu, sizeOf, typeInfo, hinf, Builtin.lenOf, hroom, hfc, Addr.add_lit, hst, setR]
        have hcl : (cs.take (o + n * i.size) ++ news).length = o + n * i.size + m * i.size := by simp [hl]; omega
        have hw1 := hw.write (cs' := cs.take (o + n * i.size) ++ news) (c' := (setR cur.toList (o + g.d + n * i.size) news').toArray) hb hg (by simp; rw [Uf (by simp [hnl]; omega)]; simpa using r4) (by rw [hcl]; omega) (fun j v hj => by
          have e1 : (setR cur.toList (o + g.d + n * i.size) news')[j + g.d]? = if o + g.d + n * i.size ≤ j + g.d ∧ j + g.d < o + g.d + n * i.size + news'.length then news'[j + g.d - (o + g.d + n * i.size)]? else cur.toList[j + g.d]? := setR_get (by simp [hnl]; omega) _
          rw [List.getElem?_append] at hj
          have e2 : (cs.take (o + n * i.size)).length = o + n * i.size := by simp; omega
          rw [e2] at hj
          split at hj
          · rename_i hj1
            rw [List.getElem?_take, if_pos hj1] at hj
            obtain ⟨v', k1, k2⟩ := r6 j v hj
            refine ⟨v', ?_, k2⟩
            rw [List.getElem?_toArray, e1, if_neg (by omega)]
            simpa using k1
          · rename_i hj1
            obtain ⟨v', k1, k2⟩ := hln.2 _ v hj
            have hjl := (List.getElem?_eq_some_iff.1 k1).1
            refine ⟨v', ?_, k2⟩
            rw [List.getElem?_toArray, e1, if_pos (by omega), show j + g.d - (o + g.d + n * i.size) = j - (o + n * i.size) by omega]
            exact k1)
        have hw2 := hw1.rename (b := b) (o := o) (by rw [Hp.put_same]) hg (by rw [hcl]; omega)
        have e3 : (cs.take (o + n * i.size) ++ news).drop o = (cs.drop o).take (n * i.size) ++ news := by
          rw [List.drop_append_of_le_length (by simp; omega), List.drop_take]
          congr 2
          omega
        rw [e3, Hp.put_put] at hw2
        simp only [Hp.put_size] at hw2
        unfold Oper.wp
        rw [append_run hrun]
        refine hk _ _ _ _ _ k hw2 ?_ (Step.killpush hw _ rfl rfl rfl (by first | exact Nat.le_refl _ | exact Nat.le_succ _) (by rw [Uh]; exact Nat.le_refl _) (fun q hq hn => Vo (fun e => hn ⟨b, g, by rw [hb]; rfl, hg, e.symm⟩)) (.inr ⟨b, g, by rw [hb]; rfl, hg, rfl⟩) hbs)
        have := VRel.slice (φ := Inj.set φ H.size ⟨g.rb, o + g.d, g.m, g.st⟩) (b := H.size) (g := ⟨g.rb, o + g.d, g.m, g.st⟩) 0 (n + m) c c' (by simp [Inj.set]) hroom hcc (.inr (by simp only []; rw [r2]; omega))
        simpa using this
      · have hcu : c = unk := by
          rcases hcc with rfl | h
          · rcases hc with h | h
            · exact h
            · omega
          · exact h
        have hrun := run_append_grow (P := P) w at_ ty e i z hu hinf hz ⟨g.rb, o + g.d, none⟩ n c' olds' (by rw [← hlo'.1]; exact hlo) (fun j v hj => by rw [Addr.add_lit]; exact hco' j v hj) ⟨g2.rb, o2 + g2.d, none⟩ m c2' news' hnl hnews (by omega) (by omega) (growslice_fits (by omega) hb2)
        refine done olds' (grownCap w (n + m) c' e) hcu hbs hlo' (grownCap_ge w (n + m) c' e) ?_
        rw [hqx, hqy, hrun]
        simp
end
end Go.Proofs.YtmakkmcjocjgmaaGreat.Am
