/- More rules: slicing, store, append. -/
import Derived.Test.YtmakkmcjocjgmaaGreatCaMem2
namespace Go.Proofs.YtmakkmcjocjgmaaGreat.Am
open Go Go.RowKit
set_option linter.unusedVariables false
set_option linter.unusedSimpArgs false

def setR (cs : List Value) (o : Nat) (vs : List Value) : List Value := cs.take o ++ vs ++ cs.drop (o + vs.length)
theorem Uf {cs : List Value} {o : Nat} {vs : List Value} (h : o + vs.length ≤ cs.length) : (setR cs o vs).length = cs.length := by simp [setR]; omega
theorem setR_one {cs : List Value} {o : Nat} {v : Value} (h : o < cs.length) : setR cs o [v] = cs.set o v := by
  simp only [setR, List.length_singleton]
  rw [List.set_eq_take_append_cons_drop, if_pos h]
  simp
theorem setR_get {cs : List Value} {o : Nat} {vs : List Value} (h : o + vs.length ≤ cs.length) (i : Nat) : (setR cs o vs)[i]? = if o ≤ i ∧ i < o + vs.length then vs[i - o]? else cs[i]? := by
  have e : min o cs.length = o := by omega
  simp only [setR, List.append_assoc, List.getElem?_append, List.length_take, e, List.length_append]
  by_cases h1 : i < o
  · rw [if_pos h1, if_neg (by omega), List.getElem?_take, if_pos h1]
  · rw [if_neg h1]
    by_cases h2 : i - o < vs.length
    · rw [if_pos h2, if_pos (by omega)]
    · rw [if_neg h2, if_neg (by omega), List.getElem?_drop]
      congr 1
      omega

section
variable {P : Program} {t : Fr} {H : Hp} {d : Option Tmp} {ty : TypeId} {pos : String} {after : Array Edge} {guard : Option (Nat × Bool)} {K : Value → Hp → Prop}

theorem run_bound {v : Value} {k : IntKind} {l y : Nat} (h : v = .int k l) (hl : l ≤ y) (code : BoundsCode) (w : World) : (Instr.sliceBound v y code).run P w = .ok l w := by
  subst h
  have : ((l : Int) ≤ (y : Int)) := by omega
  simp [Instr.sliceBound, asIntOf, this]
theorem run_bounds {n c l h m : Nat} {lo hi mx : Option Value} (hl : (lo = none ∧ l = 0) ∨ ∃ k, lo = some (.int k l)) (hh : (hi = none ∧ h = n) ∨ ∃ k, hi = some (.int k h)) (hm : (mx = none ∧ m = c) ∨ ((∃ k, mx = some (.int k m)) ∧ hi.isSome = true)) (h1 : l ≤ h) (h2 : h ≤ m) (h3 : m ≤ c) (w : World) :
    (Instr.sliceBounds true n c lo hi mx).run P w = .ok (l, h, m) w := by
  rcases hl with ⟨rfl, rfl⟩ | ⟨k1, rfl⟩ <;> rcases hh with ⟨rfl, rfl⟩ | ⟨k2, rfl⟩ <;> rcases hm with ⟨rfl, rfl⟩ | ⟨⟨k3, rfl⟩, hq⟩ <;>
    first
    | (simp at hq; done)
    | simp [Instr.sliceBounds, run_bound (P := P) rfl h1, run_bound (P := P) rfl h2, run_bound (P := P) rfl h3]
theorem run_sliceAt {xt e sz n c l h m : Nat} {A : Option Addr} {lo hi mx : Option Value} (hu : P.underlying xt = some (.slice e)) (hs : (P.info? e).map (·.size) = some sz) (hl : (lo = none ∧ l = 0) ∨ ∃ k, lo = some (.int k l)) (hh : (hi = none ∧ h = n) ∨ ∃ k, hi = some (.int k h)) (hm : (mx = none ∧ m = c) ∨ ((∃ k, mx = some (.int k m)) ∧ hi.isSome = true)) (h1 : l ≤ h) (h2 : h ≤ m) (h3 : m ≤ c) (w : World) :
    (Instr.sliceAt xt (.slice A n c) lo hi mx).run P w = .ok (.slice (if m = l then A else A.map (·.add (l * sz))) (h - l) (m - l)) w := by
  obtain ⟨i, hi', rfl⟩ := info_size hs
  simp only [Instr.sliceAt, Instr.slice, Sem.run_bind, run_underlying hu, Result.andThen_ok, run_bounds hl hh hm h1 h2 h3, Vz hi']
  rfl
def bndIs (t : Fr) (o : Option Operand) (l dflt : Nat) : Prop := (o = none ∧ l = dflt) ∨ ∃ x k, o = some x ∧ t.eval x = .int k l
theorem bnd_real {φ : Inj} {t : Fr} {a : Act} {o : Option Operand} {l dflt : Nat} (h : bndIs t o l dflt) (hr : ∀ x, o = some x → VRel φ (t.eval x) (a.eval x)) : (o.map a.eval = none ∧ l = dflt) ∨ ∃ k, o.map a.eval = some (.int k l) := by
  rcases h with ⟨rfl, rfl⟩ | ⟨x, k, rfl, hx⟩
  · exact .inl ⟨rfl, rfl⟩
  · refine .inr ⟨k, ?_⟩
    have := (hr x rfl).scal (by rw [hx]; rfl)
    simp [this, hx]
theorem av_slice {xt e sz n c l h b o : Nat} {x : Operand} {lo hi : Option Operand} (hx : t.eval x = .slice (some ⟨b, o, none⟩) n c) (hu : P.underlying xt = some (.slice e)) (hs : (P.info? e).map (·.size) = some sz) (hl : bndIs t lo l 0) (hh : bndIs t hi h n) (h1 : l ≤ h) (h2 : h ≤ n)
    (hk : (∃ f, H.get b = .ro f) ∨ ∃ cs, H.get b = .own sz cs) :
    AVal P ⟨d, .slice xt x lo hi none, ty, pos, after, guard⟩ t [b] H (.slice (some ⟨b, if c ≠ unk ∧ c = l then o else o + l * sz, none⟩) (h - l) (if c = unk then unk else c - l)) := fun H' he base φ w a hw ho => by
  have hr := ho x (by simp [Op.operands])
  rw [hx] at hr
  generalize hq : a.eval x = u at hr
  have hl' := bnd_real (a := a) (φ := φ) hl (fun y hy => ho y (by simp [Op.operands, hy]))
  have hh' := bnd_real (a := a) (φ := φ) hh (fun y hy => ho y (by simp [Op.operands, hy]))
  have hst : ∀ g, φ b = some g → g.st = 0 ∨ g.st = sz := by
    intro g hg
    rcases hk with ⟨f, hf⟩ | ⟨cs, hf⟩
    · exact .inl (hw.ro b f g (by rw [he b (by simp)]; exact hf) hg).2.1
    · exact .inr (hw.own b sz cs g (by rw [he b (by simp)]; exact hf) hg).2.1
  have hrun : ∀ A c', h ≤ c' → a.eval x = .slice A n c' → (execOp a.eval ⟨d, .slice xt x lo hi none, ty, pos, after, guard⟩).run P w = .ok (.value (.slice (if c' = l then A else A.map (·.add (l * sz))) (h - l) (c' - l))) w := by
    intro A c' hc' hA
    simp only [execOp, hA, Sem.run_bind]
    rw [show (none : Option Operand).map a.eval = none from rfl, run_sliceAt hu hs hl' hh' (.inl ⟨rfl, rfl⟩) h1 hc' (Nat.le_refl _)]
    rfl
  cases hr with
  | @slice _ g o n c c' hg hn hc hin =>
    refine ⟨_, w, hrun _ _ (by omega) hq, ?_, .refl w⟩
    · have hin' : ∀ l, l ≤ c' → g.st = 0 ∨ (o + l * sz) + g.d + (c' - l) * g.st ≤ g.m := by
        intro l hl
        rcases hst g hg with h0 | h0
        · exact .inl h0
        · rcases hin with h3 | h3
          · exact .inl h3
          · refine .inr ?_
            have : l * sz + (c' - l) * g.st = c' * g.st := by rw [h0, ← Nat.add_mul]; congr 1; omega
            omega
      rcases hc with rfl | rfl
      · by_cases hu2 : c = unk
        · -- a real capacity may be this number: then it is known
          by_cases h3 : c = l
          · subst h3
            have h4 : h = c := by omega
            subst h4
            simp only [hu2, ne_eq, not_true_eq_false, false_and, if_false, if_true, Nat.sub_self]
            exact .slice0 _ _ _ (.inr rfl)
          · rw [if_neg (fun e => h3 e)]
            simp only [hu2, ne_eq, not_true_eq_false, false_and, if_false, if_true]
            rw [← hu2]
            simp only [Option.map_some, Addr.add_lit]
            have := VRel.slice (φ := φ) (o + l * sz) (h - l) unk (c - l) hg (by omega) (.inr rfl) (hin' l (by omega))
            rw [show o + g.d + l * sz = o + l * sz + g.d by omega, hu2] 
            rw [hu2] at this
            exact this
        · by_cases h3 : c = l
          · subst h3
            simp only [hu2, ne_eq, not_false_eq_true, true_and, if_true, if_false]
            have := VRel.slice (φ := φ) o (h - c) (c - c) (c - c) hg (by omega) (.inl rfl) (by rcases hin with h4 | h4; exact .inl h4; right; simp; have := Nat.zero_le (c * g.st); omega)
            exact this
          · simp only [hu2, h3, ne_eq, not_false_eq_true, true_and, if_false]
            simp only [Option.map_some, Addr.add_lit]
            rw [show o + g.d + l * sz = o + l * sz + g.d by omega]
            exact VRel.slice (φ := φ) (o + l * sz) (h - l) (c - l) (c - l) hg (by omega) (.inl rfl) (hin' l (by omega))
      · simp only [ne_eq, not_true_eq_false, false_and, if_false, if_true]
        by_cases h3 : c' = l
        · subst h3
          have h4 : h = c' := by omega
          subst h4
          simp only [if_true, Nat.sub_self]
          exact .slice0 _ _ _ (.inr rfl)
        · rw [if_neg h3]
          simp only [Option.map_some, Addr.add_lit]
          rw [show o + g.d + l * sz = o + l * sz + g.d by omega]
          exact VRel.slice (φ := φ) (o + l * sz) (h - l) unk (c' - l) hg (by omega) (.inr rfl) (hin' l (by omega))
  | slice0 a1 a' c hc =>
    have e1 : l = 0 := by omega
    have e2 : h = 0 := by omega
    subst e1
    subst e2
    refine ⟨_, w, hrun _ _ (Nat.le_refl _) hq, ?_, .refl w⟩
    · refine VRel.slice0 _ _ _ ?_
      rcases hc with rfl | rfl
      · left; simp [unk]
      · right; simp
theorem av_slice_nil {xt e sz : Nat} {x : Operand} {lo hi : Option Operand} (hx : t.eval x = .slice none 0 0) (hu : P.underlying xt = some (.slice e)) (hs : (P.info? e).map (·.size) = some sz) (hl : bndIs t lo 0 0) (hh : bndIs t hi 0 0) :
    AVal P ⟨d, .slice xt x lo hi none, ty, pos, after, guard⟩ t [] H (.slice none 0 0) := fun H' he base φ w a hw ho => by
  have hr := ho x (by simp [Op.operands])
  rw [hx] at hr
  generalize hq : a.eval x = u at hr
  have hl' := bnd_real (a := a) (φ := φ) hl (fun y hy => ho y (by simp [Op.operands, hy]))
  have hh' := bnd_real (a := a) (φ := φ) hh (fun y hy => ho y (by simp [Op.operands, hy]))
  cases hr with
  | sliceNil =>
    refine ⟨.slice none 0 0, w, ?_, .sliceNil, .refl w⟩
    simp only [execOp, hq, Sem.run_bind]
    rw [show (none : Option Operand).map a.eval = none from rfl, run_sliceAt hu hs hl' hh' (.inl ⟨rfl, rfl⟩) (Nat.le_refl _) (Nat.le_refl _) (Nat.le_refl _)]
    rfl
theorem av_slice3 {xt e sz n c l h m b o : Nat} {x y : Operand} {lo : Option Operand} {hi : Operand} {k1 k2 : IntKind} (hx : t.eval x = .slice (some ⟨b, o, none⟩) n c) (hu : P.underlying xt = some (.slice e)) (hs : (P.info? e).map (·.size) = some sz) (hl : bndIs t lo l 0) (hh : t.eval hi = .int k1 h) (hm : t.eval y = .int k2 m)
    (h1 : l ≤ h) (h2 : h ≤ m) (h3 : m ≤ n) (hk : (∃ f, H.get b = .ro f) ∨ ∃ cs, H.get b = .own sz cs) :
    AVal P ⟨d, .slice xt x lo (some hi) (some y), ty, pos, after, guard⟩ t [b] H (.slice (some ⟨b, if m = l then o else o + l * sz, none⟩) (h - l) (m - l)) := fun H' he base φ w a hw ho => by
  have hr := ho x (by simp [Op.operands])
  rw [hx] at hr
  generalize hq : a.eval x = u at hr
  have hl' := bnd_real (a := a) (φ := φ) hl (fun y hy => ho y (by simp [Op.operands, hy]))
  have hh' : a.eval hi = .int k1 h := by rw [(ho hi (by simp [Op.operands])).scal (by rw [hh]; rfl), hh]
  have hm' : a.eval y = .int k2 m := by rw [(ho y (by simp [Op.operands])).scal (by rw [hm]; rfl), hm]
  have hst : ∀ g, φ b = some g → g.st = 0 ∨ g.st = sz := by
    intro g hg
    rcases hk with ⟨f, hf⟩ | ⟨cs, hf⟩
    · exact .inl (hw.ro b f g (by rw [he b (by simp)]; exact hf) hg).2.1
    · exact .inr (hw.own b sz cs g (by rw [he b (by simp)]; exact hf) hg).2.1
  have hrun : ∀ A c', m ≤ c' → a.eval x = .slice A n c' → (execOp a.eval ⟨d, .slice xt x lo (some hi) (some y), ty, pos, after, guard⟩).run P w = .ok (.value (.slice (if m = l then A else A.map (·.add (l * sz))) (h - l) (m - l))) w := by
    intro A c' hc' hA
    simp only [execOp, hA, Sem.run_bind]
    rw [run_sliceAt hu hs hl' (.inr ⟨k1, by simp [hh']⟩) (.inr ⟨⟨k2, by simp [hm']⟩, rfl⟩) h1 h2 hc']
    rfl
  cases hr with
  | @slice _ g o n c c' hg hn hc hin =>
    refine ⟨_, w, hrun _ _ (by omega) hq, ?_, .refl w⟩
    by_cases h4 : m = l
    · subst h4
      simp only [if_true]
      exact VRel.slice (φ := φ) o (h - m) (m - m) (m - m) hg (by omega) (.inl rfl) (by rcases hin with h5 | h5; exact .inl h5; right; simp; have := Nat.zero_le (c' * g.st); omega)
    · simp only [h4, if_false, Option.map_some, Addr.add_lit]
      rw [show o + g.d + l * sz = o + l * sz + g.d by omega]
      refine VRel.slice (φ := φ) (o + l * sz) (h - l) (m - l) (m - l) hg (by omega) (.inl rfl) ?_
      rcases hst g hg with h0 | h0
      · exact .inl h0
      · rcases hin with h5 | h5
        · exact .inl h5
        · refine .inr ?_
          have e1 : l * sz + (m - l) * g.st = m * g.st := by rw [h0, ← Nat.add_mul]; congr 1; omega
          have e2 : m * g.st ≤ c' * g.st := Nat.mul_le_mul_right _ (by omega)
          omega
  | slice0 a1 a' c hc =>
    have e1 : l = 0 := by omega
    have e2 : h = 0 := by omega
    have e3 : m = 0 := by omega
    subst e1
    subst e2
    subst e3
    refine ⟨_, w, hrun _ _ (Nat.le_refl _) hq, ?_, .refl w⟩
    exact VRel.slice0 _ _ _ (.inl rfl)
theorem av_substr {xt l h : Nat} {x : Operand} {lo hi : Option Operand} {s : ByteArray} (hx : t.eval x = .string s) (hu : P.underlying xt = some .string) (hl : bndIs t lo l 0) (hh : bndIs t hi h s.size) (h1 : l ≤ h) (h2 : h ≤ s.size) :
    AVal P ⟨d, .slice xt x lo hi none, ty, pos, after, guard⟩ t [] H (.string (s.extract l h)) := fun H' he base φ w a hw ho => by
  have hx' : a.eval x = .string s := by rw [(ho x (by simp [Op.operands])).scal (by rw [hx]; rfl), hx]
  have hl' := bnd_real (a := a) (φ := φ) hl (fun y hy => ho y (by simp [Op.operands, hy]))
  have hh' := bnd_real (a := a) (φ := φ) hh (fun y hy => ho y (by simp [Op.operands, hy]))
  refine ⟨_, w, ?_, .string _, .refl w⟩
  have hb : (Instr.sliceBounds false s.size s.size (lo.map a.eval) (hi.map a.eval) none).run P w = .ok (l, h, s.size) w := by
    rcases hl' with ⟨e1, rfl⟩ | ⟨k1, e1⟩ <;> rcases hh' with ⟨e2, rfl⟩ | ⟨k2, e2⟩ <;> rw [e1, e2] <;> simp [Instr.sliceBounds, run_bound (P := P) rfl h1, run_bound (P := P) rfl h2]
  simp only [execOp, hx', Sem.run_bind, Instr.sliceAt, Instr.slice, run_underlying hu, Result.andThen_ok]
  simp [hb]

theorem Step.write {base : Nat} {φ : Inj} {H : Hp} {w : World} (hw : WRel base φ H w) {b st : Nat} {cs cs' : List Value} {g : Img} (hx : H.get b = .own st cs) (hg : φ b = some g) (c' : Array Value) : Step φ H w φ (H.put b (.own st cs')) (w.setRow g.rb c') where
  ext := .refl φ
  hsize := Nat.le_refl _
  dead i hi hd := by
    rw [Hp.put_other _ _ (fun e => by subst e; rw [hx] at hd; cases hd)]
    exact hd
  nomap _ _ h := h
  os := rfl
  tape := rfl
  output := rfl
  drawn := Nat.le_refl _
  size := by rw [Uh]; exact Nat.le_refl _
  keep k hk hn := by
    have hne : k ≠ g.rb := fun e => hn ⟨b, g, by rw [hx]; rfl, hg, e.symm⟩
    refine ⟨Vo hne, fun ⟨i, g', hl, hg', he⟩ => hn ⟨i, g', ?_, hg', he⟩⟩
    by_cases hi : i = b
    · subst hi; rw [hx]; rfl
    · rwa [Hp.put_other _ _ hi] at hl
theorem aop_store {sty : TypeId} {x y : Operand} {b o st : Nat} {cs vs : List Value} (hx : t.eval x = .pointer (some ⟨b, o, none⟩)) (hy : (t.eval y).cells.toList = vs) (hn : (P.info? sty).map (·.size) = some vs.length) (hb : H.get b = .own st cs) (hl : o + vs.length ≤ cs.length)
    (h1 : vs.all Value.oneCell' = true) (k : K undef (H.put b (.own st (setR cs o vs)))) : AOp P ⟨d, .store sty x y, ty, pos, after, guard⟩ t H K := fun base φ w a hw ho next Q' hk => by
  have hr := ho x (by simp [Op.operands])
  rw [hx] at hr
  have hv := (ho y (by simp [Op.operands])).cells
  rw [hy] at hv
  generalize hq : a.eval x = u at hr
  obtain ⟨i, hi, hsz⟩ := info_size hn
  cases hr with
  | @ptr _ g o hg =>
    obtain ⟨r1, r2, c, e, r3, r4, r5, r6⟩ := hw.own b st cs g hb hg
    have h1' : ∀ v ∈ (a.eval y).cells.toList, v.oneCell' = true := by
      intro v hm
      obtain ⟨j, hj⟩ := List.getElem?_of_mem hm
      obtain ⟨u, hu, hru⟩ := hv.get hj
      rw [hru.oneCell]
      exact List.all_eq_true.1 h1 u (List.mem_of_getElem? hu)
    have hlen : (a.eval y).cells.toList.length = vs.length := hv.1.symm
    have hst := run_storeCells_at (P := P) g.rb (o + g.d) e (a.eval y).cells.toList 0 c w r3 (by rw [hlen]; omega) h1'
    have hrun : (execOp a.eval ⟨d, .store sty x y, ty, pos, after, guard⟩).run P w = .ok .skip (w.setRow g.rb (setR c.toList (o + g.d) (a.eval y).cells.toList).toArray) := by
      have hsz' : ¬ (a.eval y).cells.size ≠ i.size := by
        have : (a.eval y).cells.size = vs.length := by simpa using hlen
        omega
      simp only [execOp, hq, Instr.storeAt, Instr.sureAddr, Sem.run_bind, Sem.run_pure, Result.andThen_ok, storeVar, Vz hi]
      rw [if_neg hsz']
      rw [hst]
      simp [setR]
    unfold Oper.wp
    rw [hrun]
    refine hk undef undef _ φ _ k (hw.write hb hg (by simp; rw [Uf (by rw [hlen]; simp; omega)]; simpa using r4) (by rw [Uf hl]; exact r5) fun j v hj => ?_) (undef_rel _) (Step.write hw hb hg _)
    rw [setR_get hl] at hj
    have hc : (setR c.toList (o + g.d) (a.eval y).cells.toList)[j + g.d]? = if o + g.d ≤ j + g.d ∧ j + g.d < o + g.d + (a.eval y).cells.toList.length then (a.eval y).cells.toList[j + g.d - (o + g.d)]? else c.toList[j + g.d]? := setR_get (by rw [hlen]; simp; omega) _
    split at hj
    · rename_i hc1
      obtain ⟨v', k1, k2⟩ := hv.2 _ v hj
      refine ⟨v', ?_, k2⟩
      rw [List.getElem?_toArray, hc, if_pos (by rw [hlen]; omega), show j + g.d - (o + g.d) = j - o by omega]
      exact k1
    · rename_i hc1
      obtain ⟨v', k1, k2⟩ := r6 j v hj
      refine ⟨v', ?_, k2⟩
      rw [List.getElem?_toArray, hc, if_neg (by rw [hlen]; omega)]
      simpa using k1
end
end Go.Proofs.YtmakkmcjocjgmaaGreat.Am
