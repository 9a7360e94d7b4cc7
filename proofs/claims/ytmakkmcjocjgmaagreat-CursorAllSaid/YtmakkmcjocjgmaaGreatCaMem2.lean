/- More rules: slice literals, make, slicing, store, append. -/
import Derived.Test.YtmakkmcjocjgmaaGreatCaMem
namespace Go.Proofs.YtmakkmcjocjgmaaGreat.Am
open Go Go.RowKit
set_option linter.unusedVariables false
set_option linter.unusedSimpArgs false

section
variable {P : Program} {t : Fr} {H : Hp} {d : Option Tmp} {ty : TypeId} {pos : String} {after : Array Edge} {guard : Option (Nat × Bool)}

theorem repl_mod (z : Array Value) (n : Nat) (hz : z.size ≠ 0) : ((Array.range (n * z.size)).map (z[· % z.size]!)).toList = (List.replicate n z.toList).flatten := by
  induction n with
  | zero => simp
  | succ n ih =>
    have e : (Array.range ((n + 1) * z.size)).map (z[· % z.size]!) = (Array.range (n * z.size)).map (z[· % z.size]!) ++ z := by
      apply Array.ext
      · simp [Nat.add_mul]
      · intro i h1 h2
        simp only [Array.size_map, Array.size_range, Array.size_append] at h1 h2
        simp only [Array.getElem_map, Array.getElem_range, Array.getElem_append, Array.size_map, Array.size_range]
        split
        · rfl
        · rename_i h3
          have h4 : i - n * z.size < z.size := by rw [Nat.add_mul] at h1; omega
          have h5 : i % z.size = i - n * z.size := by
            have hm := Nat.mul_comm z.size n
            have : i = (i - n * z.size) + z.size * n := by omega
            rw [this, Nat.add_mul_mod_self_left, Nat.mod_eq_of_lt h4]
            omega
          rw [h5, getElem!_pos z _ h4]
    rw [e, Array.toList_append, ih, List.replicate_succ', List.flatten_append]
    simp
theorem Yh {bt e sz len : Nat} {ps : Array (Nat × Operand)} {z : Value} {r : List Value} (hu : P.underlying bt = some (.slice e)) (hs : (P.info? e).map (·.size) = some sz) (hz : (P.info? e).map (·.zero) = some (some z)) (hzs : z.cells.size = sz) (h0 : sz ≠ 0) (hp : z.cells.toList.all plainV = true) (hlen : len * sz ≤ 2 ^ 24)
    (hr : fillA (fun i => some (i * sz, sz)) (List.replicate len z.cells.toList).flatten (ps.toList.map fun p => (p.1, t.eval p.2)) = some r) :
    AMake P ⟨d, .buildSlice bt len ps, ty, pos, after, guard⟩ t (fun b => .slice (some ⟨b, 0, none⟩) len len) (.own sz r) := fun base φ H w a b hw ho hb hn hx => by
  obtain ⟨i, hi, hz⟩ := zero_info hz
  obtain ⟨j, hj, rfl⟩ := info_size hs
  rw [hi] at hj
  injection hj with hj
  subst hj
  obtain ⟨h3, h4⟩ := parts_rel (t := t) (a := a) (φ := φ) (ps := ps) (fun x hx => ho x (by simpa [Op.operands] using hx))
  have hzc : LRel φ (List.replicate len z.cells.toList).flatten (((Array.range (len * z.cells.size)).map (z.cells[· % z.cells.size]!)).toList) := by
    rw [repl_mod _ _ (by omega)]
    refine LRel.plain ?_
    rw [List.all_flatten]
    simp only [List.all_replicate]
    split
    · rfl
    · exact hp
  obtain ⟨r', h5, h6⟩ := fill_rel (fun x => some (x * i.size, i.size)) _ _ _ _ r h3 h4 hzc hr
  obtain ⟨k1, k2, k3⟩ := make_row hw hb hn hx e h6
  have hrl : r.length = len * i.size := by
    have : ∀ (parts : List (Nat × Value)) (cells r : List Value), fillA (fun x => some (x * i.size, i.size)) cells parts = some r → r.length = cells.length := by
      intro parts
      induction parts with
      | nil => intro cells r h; injection h with h; rw [h]
      | cons p parts ih =>
        intro cells r h
        obtain ⟨pi, pv⟩ := p
        simp only [fillA] at h
        split at h
        · cases h
        · rename_i hc
          simp only [Bool.or_eq_true, not_or, decide_eq_true_eq, gt_iff_lt] at hc
          rw [ih _ _ h]
          simp
          omega
    rw [this _ _ _ hr]
    have : (List.replicate len z.cells.toList).flatten.length = len * z.cells.size := by simp
    rw [this, hzs]
  have hr' : r'.size = len * i.size := by have := h6.1; simp at this; omega
  refine ⟨.slice (some ⟨w.heap.size, 0, none⟩) len len, w.alloc (.cells r'.toList.toArray e), _, ?_, k1, ?_, grew_alloc _ _, rfl⟩
  · have e1 : ¬ len * i.size > 2 ^ 24 := by omega
    have h8 : (Instr.buildSlice bt len (ps.map fun (i, x) => (i, a.eval x))).run P w = .ok (.slice (some ⟨w.heap.size, 0, none⟩) len len) (w.alloc (.cells r' e)) := by
      simp only [Instr.buildSlice, Sem.run_bind, run_underlying hu, Result.andThen_ok, Vz hi]
      rw [if_neg e1]
      by_cases hl : len = 0
      · subst hl
        simp only [Nat.zero_mul] at h5 ⊢
        simp only [if_true]
        have h9 : Instr.fill (fun x => some (x * i.size, i.size)) ((Array.range 0).map ((#[] : Array Value)[· % (#[] : Array Value).size]!)) (ps.map fun (i, x) => (i, a.eval x)).toList = some r' := by
          rw [← h5]
          congr 1
          apply Array.ext
          · simp
          · intro i h; simp at h
        simp at h9
        simp [h9, newRow]
      · have e2 : ¬ len * i.size = 0 := by rw [Nat.mul_eq_zero]; omega
        rw [if_neg e2]
        have h9 : Instr.fill (fun x => some (x * i.size, i.size)) ((Array.range (len * i.size)).map (z.cells[· % z.cells.size]!)) (ps.map fun (i, x) => (i, a.eval x)).toList = some r' := by
          rw [← h5, hzs]
        simp at h9
        simp [Uo hi hz, h9, newRow]
    simp only [execOp, Sem.run_bind, h8, Result.andThen_ok]
    simp
  · have := VRel.slice (φ := Inj.set φ b ⟨w.heap.size, 0, r'.toList.length, i.size⟩) 0 len len len k3 (Nat.le_refl _) (.inl rfl) (.inr (by simp; omega))
    simpa using this
theorem am_makeSlice {mt e sz by_ n c : Nat} {x y : Operand} {k1 k2 : IntKind} {z : Value} (hu : P.underlying mt = some (.slice e)) (hi : (P.info? e).map (fun i => (i.zero, i.size, i.bytes)) = some (some z, sz, by_)) (hzs : z.cells.size = sz) (h0 : sz ≠ 0) (hp : z.cells.toList.all plainV = true)
    (hx : t.eval x = .int k1 n) (hy : t.eval y = .int k2 c) (hnc : n ≤ c) (hc : c * by_ ≤ 140737488355328) (hc2 : c < 9223372036854775808) :
    AMake P ⟨d, .makeSlice mt x y, ty, pos, after, guard⟩ t (fun b => .slice (some ⟨b, 0, none⟩) n c) (.own sz (List.replicate c z.cells.toList).flatten) := fun base φ H w a b hw ho hb hn hx' => by
  obtain ⟨i, hinf, hz, rfl, rfl⟩ : ∃ i, P.info? e = some i ∧ i.zero = some z ∧ i.size = sz ∧ i.bytes = by_ := by
    cases h : P.info? e with
    | none => rw [h] at hi; cases hi
    | some i => rw [h] at hi; simp at hi; exact ⟨i, rfl, hi.1, hi.2.1, hi.2.2⟩
  have e1 : a.eval x = .int k1 n := by rw [(ho x (by simp [Op.operands])).scal (by rw [hx]; rfl), hx]
  have e2 : a.eval y = .int k2 c := by rw [(ho y (by simp [Op.operands])).scal (by rw [hy]; rfl), hy]
  have hzc : LRel φ (List.replicate c z.cells.toList).flatten (((Array.range (c * z.cells.size)).map (z.cells[· % z.cells.size]!)).toList) := by
    rw [repl_mod _ _ (by omega)]
    refine LRel.plain ?_
    rw [List.all_flatten]
    simp only [List.all_replicate]
    split
    · rfl
    · exact hp
  obtain ⟨k1', k2', k3'⟩ := make_row hw hb hn hx' e hzc
  have w1 : IntKind.i64.wrap (n : Int) = n := by
    unfold IntKind.wrap
    simp [IntKind.signed, IntKind.bits]
    omega
  have w2 : IntKind.i64.wrap (c : Int) = c := by
    unfold IntKind.wrap
    simp [IntKind.signed, IntKind.bits]
    omega
  rw [Array.toArray_toList] at k1'
  refine ⟨.slice (some ⟨w.heap.size, 0, none⟩) n c, w.alloc (.cells ((Array.range (c * z.cells.size)).map (z.cells[· % z.cells.size]!)) e), _, ?_, k1', ?_, grew_alloc _ _, rfl⟩
  · have h8 : (Instr.makeSlice mt (.int k1 n) (.int k2 c)).run P w = .ok (.slice (some ⟨w.heap.size, 0, none⟩) n c) (w.alloc (.cells ((Array.range (c * z.cells.size)).map (z.cells[· % z.cells.size]!)) e)) := by
      have hb1 : ¬ ((i.bytes : Int) * (c : Int) > 2 ^ 48) := by
        have : ((i.bytes : Int) * (c : Int)) = ((c * i.bytes : Nat) : Int) := by push_cast; rw [Int.mul_comm]
        rw [this]; omega
      have hc0 : ¬ ((c : Int) < 0) := by omega
      have hn0 : ¬ ((n : Int) < 0) := by omega
      have hnc' : ¬ ((n : Int) > (c : Int)) := by omega
      simp only [Instr.makeSlice, Sem.run_bind, run_underlying hu, Result.andThen_ok, asInt, asIntOf, Sem.run_pure, typeInfo, run_program, hinf, w1, w2]
      have hcond : ((decide ((c : Int) < 0) || decide ((i.bytes : Int) * (c : Int) > 2 ^ 48)) || decide ((n : Int) < 0) || decide ((n : Int) > (c : Int))) = false := by
        simp [hc0, hb1, hn0, hnc']
        omega
      simp only [hcond, Bool.false_eq_true, if_false]
      by_cases hl : c = 0
      · subst hl
        simp [Vz hinf, newRow]
        refine congrArg (fun c => w.alloc (.cells c e)) (Array.ext ?_ ?_)
        · simp
        · intro i h; simp at h
      · have e3 : ¬ c * i.size = 0 := by rw [Nat.mul_eq_zero]; omega
        simp [Vz hinf, Uo hinf hz, e3, newRow, hzs]
    simp only [execOp, e1, e2, Sem.run_bind, h8, Result.andThen_ok]
    simp
  · have := VRel.slice (φ := Inj.set φ b ⟨w.heap.size, 0, ((Array.range (c * z.cells.size)).map (z.cells[· % z.cells.size]!)).toList.length, i.size⟩) 0 n c c k3' hnc (.inl rfl) (.inr (by simp [hzs]))
    simpa using this
end
end Go.Proofs.YtmakkmcjocjgmaaGreat.Am
