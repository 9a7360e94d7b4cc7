/- The rules of operations that make memory or write it: variables, struct and slice literals, make, slicing, store, append. -/
import Derived.Test.YtmakkmcjocjgmaaGreatCaRules
import Derived.ArgAppend
import Derived.Laws.Append
namespace Go.Proofs.YtmakkmcjocjgmaaGreat.Am
open Go Go.RowKit
set_option linter.unusedVariables false
set_option linter.unusedSimpArgs false

theorem grew_alloc (w : World) (o : Obj) : Grew w (w.alloc o) := ⟨rfl, rfl, rfl, Nat.le_refl _, by show w.heap.size < (w.heap.push o).size; simp, fun k hk => Below.heap_alloc w o k hk⟩
theorem LRel.cells {φ : Inj} {cs cs' : List Value} (h : LRel φ cs cs') : ∀ (i : Nat) v, cs[i]? = some v → ∃ v', cs'.toArray[i]? = some v' ∧ VRel φ v v' := fun i v hv => by
  obtain ⟨v', h1, h2⟩ := h.2 i v hv
  exact ⟨v', by simpa using h1, h2⟩
theorem make_row {base : Nat} {φ : Inj} {H : Hp} {w : World} {b st : Nat} {cs cs' : List Value} (hw : WRel base φ H w) (hb : b < H.size) (hn : φ b = none) (hx : H.get b = .own st cs) (e : TypeId) (h : LRel φ cs cs') :
    WRel base (Inj.set φ b ⟨w.heap.size, 0, cs'.length, st⟩) H (w.alloc (.cells cs'.toArray e)) ∧ Ext φ (Inj.set φ b ⟨w.heap.size, 0, cs'.length, st⟩) ∧ Inj.set φ b ⟨w.heap.size, 0, cs'.length, st⟩ b = some ⟨w.heap.size, 0, cs'.length, st⟩ := by
  refine ⟨?_, Inj.ext_set hn _, by simp [Inj.set]⟩
  have := hw.bind hb hn hx (c := cs'.toArray) e (by simpa using Nat.le_of_eq h.1) h.cells
  simpa using this
theorem zero_info {P : Program} {e : TypeId} {z : Value} (hz : (P.info? e).map (·.zero) = some (some z)) : ∃ i, P.info? e = some i ∧ i.zero = some z := by
  cases h : P.info? e with
  | none => rw [h] at hz; cases hz
  | some i => rw [h] at hz; exact ⟨i, rfl, by simpa using hz⟩
theorem Uo {P : Program} {e : TypeId} {i : TypeInfo} {z : Value} (hi : P.info? e = some i) (hz : i.zero = some z) (w : World) : (zeroValue e).run P w = .ok z w := by simp [zeroValue, typeInfo, hi, hz]
theorem LRel.plain {φ : Inj} : ∀ {cs : List Value}, cs.all plainV = true → LRel φ cs cs
  | [], _ => .nil _
  | c :: cs, h => by simp only [List.all_cons, Bool.and_eq_true] at h; exact .cons (.plain h.1) (.plain h.2)

section
variable {P : Program} {t : Fr} {H : Hp} {d : Option Tmp} {ty : TypeId} {pos : String} {after : Array Edge} {guard : Option (Nat × Bool)}

theorem am_alloc {e : TypeId} {z : Value} (hz : (P.info? e).map (·.zero) = some (some z)) (hp : z.cells.toList.all plainV = true) : AMake P ⟨d, .alloc e, ty, pos, after, guard⟩ t (fun b => .pointer (some ⟨b, 0, none⟩)) (.own 0 z.cells.toList) := fun base φ H w a b hw ho hb hn hx => by
  obtain ⟨i, hi, hz⟩ := zero_info hz
  obtain ⟨h1, h2, h3⟩ := make_row hw hb hn hx e (LRel.plain hp)
  refine ⟨.pointer (some ⟨w.heap.size, 0, none⟩), w.alloc (.cells z.cells.toList.toArray e), _, ?_, h1, ?_, grew_alloc _ _, rfl⟩
  · simp [execOp, Instr.alloc, Uo hi hz, newVar, newRow]
  · have := VRel.ptr 0 h3; simpa using this
theorem am_box {e : TypeId} {x : Operand} {cs : List Value} (hx : (t.eval x).cells.toList = cs) : AMake P ⟨d, .box e x, ty, pos, after, guard⟩ t (fun b => .pointer (some ⟨b, 0, none⟩)) (.own 0 cs) := fun base φ H w a b hw ho hb hn hc => by
  have hr := (ho x (by simp [Op.operands])).cells
  rw [hx] at hr
  obtain ⟨h1, h2, h3⟩ := make_row hw hb hn hc e hr
  refine ⟨.pointer (some ⟨w.heap.size, 0, none⟩), w.alloc (.cells (a.eval x).cells.toList.toArray e), _, ?_, h1, ?_, grew_alloc _ _, rfl⟩
  · simp [execOp, Instr.box, newVar, newRow]
  · have := VRel.ptr 0 h3; simpa using this

def fillA (place : Nat → Option (Nat × Nat)) (cells : List Value) : List (Nat × Value) → Option (List Value)
  | [] => some cells
  | (i, v) :: rest =>
    match place i with
    | none => none
    | some (off, size) => if v.cells.size ≠ size || off + v.cells.size > cells.length then none else fillA place (cells.take off ++ v.cells.toList ++ cells.drop (off + v.cells.size)) rest
theorem fold_set (off : Nat) : ∀ (vs : List Value) (j : Nat) (cells : Array Value), off + j + vs.length ≤ cells.size →
    ((vs.zipIdx j).foldl (fun cs (p : Value × Nat) => cs.setIfInBounds (off + p.2) p.1) cells).toList = cells.toList.take (off + j) ++ vs ++ cells.toList.drop (off + j + vs.length)
  | [], j, cells, h => by simp
  | v :: vs, j, cells, h => by
    simp only [List.zipIdx_cons, List.foldl_cons]
    simp only [List.length_cons] at h
    rw [fold_set off vs (j + 1) _ (by simp; omega)]
    simp only [Array.toList_setIfInBounds, List.length_cons]
    apply List.ext_getElem?
    intro i
    have hl : off + j < cells.toList.length := by simp; omega
    by_cases h1 : i < off + j
    · simp [List.getElem?_append, List.getElem?_take, List.getElem?_set, h1, show i < off + (j + 1) by omega, show ¬ off + j = i by omega]
      have e1 : min (off + (j + 1)) cells.size = off + (j + 1) := by omega
      have e2 : min (off + j) cells.size = off + j := by omega
      simp [e1, e2, h1, show i < off + (j + 1) by omega]
    · by_cases h2 : i = off + j
      · subst h2
        have e1 : min (off + (j + 1)) cells.size = off + (j + 1) := by omega
        have e2 : min (off + j) cells.size = off + j := by omega
        simp [List.getElem?_append, List.getElem?_take, List.getElem?_set, e1, e2, show off + j < off + (j + 1) by omega, show off + j < cells.size by omega]
      · have e1 : min (off + (j + 1)) cells.size = off + (j + 1) := by omega
        have e2 : min (off + j) cells.size = off + j := by omega
        have h3 : ¬ i < off + (j + 1) := by omega
        obtain ⟨k, rfl⟩ : ∃ k, i = off + j + 1 + k := ⟨i - (off + j + 1), by omega⟩
        simp only [List.append_assoc, List.getElem?_append, List.length_take, List.length_set, Array.length_toList, List.length_append, List.length_cons, e1, e2]
        have a1 : ¬ off + j + 1 + k < off + (j + 1) := by omega
        have a2 : ¬ off + j + 1 + k < off + j := by omega
        have a3 : off + j + 1 + k - (off + (j + 1)) = k := by omega
        have a4 : off + j + 1 + k - (off + j) = k + 1 := by omega
        rw [if_neg a1, if_neg a2, a3, a4]
        by_cases h4 : k < vs.length
        · rw [if_pos h4, if_pos (by omega), List.getElem?_cons_succ]
        · rw [if_neg h4, if_neg (by omega)]
          simp only [List.getElem?_drop, List.getElem?_set]
          have a5 : ¬ off + j = off + (j + 1) + vs.length + (k - vs.length) := by omega
          rw [if_neg a5]
          congr 1
          omega
theorem fill_rel {φ : Inj} (place : Nat → Option (Nat × Nat)) : ∀ (parts : List (Nat × Value)) (parts' : List (Nat × Value)) (cells : List Value) (cells' : Array Value) (r : List Value),
    parts.length = parts'.length → (∀ (j : Nat) i v, parts[j]? = some (i, v) → ∃ v', parts'[j]? = some (i, v') ∧ VRel φ v v') → LRel φ cells cells'.toList → fillA place cells parts = some r → ∃ r', Instr.fill place cells' parts' = some r' ∧ LRel φ r r'.toList
  | [], [], cells, cells', r, _, _, hc, h => by injection h with h; subst h; exact ⟨cells', rfl, hc⟩
  | [], _ :: _, _, _, _, hl, _, _, _ => by simp at hl
  | _ :: _, [], _, _, _, hl, _, _, _ => by simp at hl
  | (i, v) :: parts, (i', v') :: parts', cells, cells', r, hl, hp, hc, h => by
    obtain ⟨u, h1, h2⟩ := hp 0 i v (by simp)
    simp only [List.getElem?_cons_zero, Option.some.injEq, Prod.mk.injEq] at h1
    obtain ⟨rfl, rfl⟩ := h1
    have hsz : v'.cells.size = v.cells.size := by have := h2.cells.1; simpa using this.symm
    have hlen : cells'.size = cells.length := by have := hc.1; simpa using this.symm
    simp only [fillA, Instr.fill] at h ⊢
    cases hpl : place i' with
    | none => rw [hpl] at h; cases h
    | some q =>
      obtain ⟨off, size⟩ := q
      rw [hpl] at h
      simp only at h ⊢
      rw [hsz, hlen]
      split at h
      · cases h
      · rename_i hc2
        rw [if_neg hc2]
        simp only [Bool.or_eq_true, not_or, decide_eq_true_eq, gt_iff_lt] at hc2
        refine fill_rel place parts parts' _ _ r (by simpa using hl) (fun j i v hj => hp (j + 1) i v (by simpa using hj)) ?_ h
        have hf := fold_set off v'.cells.toList 0 cells' (by simp; omega)
        simp only [Nat.add_zero, Array.length_toList] at hf
        have he : (Array.foldl (fun cs (x : Value × Nat) => cs.setIfInBounds (off + x.2) x.1) cells' v'.cells.zipIdx) = (v'.cells.toList.zipIdx).foldl (fun cs (p : Value × Nat) => cs.setIfInBounds (off + p.2) p.1) cells' := by
          rw [← Array.foldl_toList]; simp
        show LRel φ _ (Array.foldl (fun cs (x : Value × Nat) => cs.setIfInBounds (off + x.2) x.1) cells' v'.cells.zipIdx).toList
        rw [he, hf, hsz]
        exact ((hc.take off).append h2.cells).append (hc.drop _)
theorem parts_rel {φ : Inj} {a : Act} {ps : Array (Nat × Operand)} (h : ∀ x ∈ (ps.toList.map (·.2)).toArray, VRel φ (t.eval x) (a.eval x)) :
    (ps.toList.map fun p => (p.1, t.eval p.2)).length = (ps.map fun (i, x) => (i, a.eval x)).toList.length ∧ ∀ (j : Nat) i v, (ps.toList.map fun p => (p.1, t.eval p.2))[j]? = some (i, v) → ∃ v', (ps.map fun (i, x) => (i, a.eval x)).toList[j]? = some (i, v') ∧ VRel φ v v' := by
  refine ⟨by simp, fun j i v hj => ?_⟩
  simp only [List.getElem?_map, Option.map_eq_some_iff, Prod.mk.injEq] at hj
  obtain ⟨q, hq, rfl, rfl⟩ := hj
  refine ⟨a.eval q.2, ?_, h q.2 ?_⟩
  · simp only [Array.toList_map, List.getElem?_map, hq, Option.map_some]
  · simp only [List.mem_toArray, List.mem_map]
    exact ⟨q, List.mem_of_getElem? hq, rfl⟩
def placeOf (f : Field) : Sem (Nat × Nat) := do pure (f.offset, ← sizeOf f.type)
theorem run_places {w : World} : ∀ (fs : List Field) (pl : List (Nat × Nat)), fs.map (fun f => ((P.info? f.type).map (·.size)).map fun n => (f.offset, n)) = pl.map some → (fs.mapM placeOf).run P w = .ok pl w
  | [], [], _ => by simp
  | [], _ :: _, h => by simp at h
  | _ :: _, [], h => by simp at h
  | f :: fs, q :: pl, h => by
    simp only [List.map_cons, List.cons.injEq] at h
    obtain ⟨h1, h2⟩ := h
    cases hq : P.info? f.type with
    | none => rw [hq] at h1; cases h1
    | some inf =>
      rw [hq] at h1
      simp only [Option.map_some, Option.some.injEq] at h1
      subst h1
      have h3 : (placeOf f).run P w = .ok (f.offset, inf.size) w := by simp [placeOf, Vz hq]
      simp [List.mapM_cons, h3, run_places fs pl h2]
theorem Y6 {bt : TypeId} {ps : Array (Nat × Operand)} {fs : Array Field} {z : Value} {pl : List (Nat × Nat)} {r : List Value} (hu : P.underlying bt = some (.struct fs)) (hz : (P.info? bt).map (·.zero) = some (some z)) (hp : z.cells.toList.all plainV = true)
    (hpl : fs.toList.map (fun f => ((P.info? f.type).map (·.size)).map fun n => (f.offset, n)) = pl.map some) (hr : fillA (fun i => pl[i]?) z.cells.toList (ps.toList.map fun p => (p.1, t.eval p.2)) = some r) :
    AVal P ⟨d, .build bt ps, ty, pos, after, guard⟩ t [] H (.agg r.toArray) := fun _ _ _ φ w a _ ho => by
  obtain ⟨i, hi, hz⟩ := zero_info hz
  have h1 := run_places (P := P) (w := w) fs.toList pl hpl
  have h2 : (fs.mapM placeOf).run P w = .ok pl.toArray w := by
    rw [Array.mapM_eq_mapM_toList]
    simp [h1]
  obtain ⟨h3, h4⟩ := parts_rel (t := t) (a := a) (φ := φ) (ps := ps) (fun x hx => ho x (by simpa [Op.operands] using hx))
  obtain ⟨r', h5, h6⟩ := fill_rel (fun i => pl[i]?) _ _ _ z.cells r h3 h4 (LRel.plain hp) hr
  refine ⟨.agg r', w, ?_, by have := VRel.agg_list h6; simpa using this, .refl w⟩
  have h7 : Instr.fill (fun x => pl.toArray[x]?) z.cells (ps.map fun (i, x) => (i, a.eval x)).toList = some r' := by
    simpa using h5
  have h8 : (Instr.build bt (ps.map fun (i, x) => (i, a.eval x))).run P w = .ok (.agg r') w := by
    simp only [Instr.build, Sem.run_bind, Uo hi hz, Result.andThen_ok, run_underlying hu]
    show ((fs.mapM placeOf).run P w).andThen _ = _
    rw [h2]
    simp only [Result.andThen_ok]
    rw [h7]
    rfl
  simp only [execOp, Sem.run_bind, h8, Result.andThen_ok]
  rfl
end
end Go.Proofs.YtmakkmcjocjgmaaGreat.Am
