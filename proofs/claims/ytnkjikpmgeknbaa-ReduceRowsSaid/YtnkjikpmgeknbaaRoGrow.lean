/- append of so many zeros to no slice. -/
import Derived.Test.YtnkjikpmgeknbaaRoOwn
namespace Go.Proofs.Ytnkjikpmgeknbaa.Am
open Go Go.RowKit
set_option linter.unusedVariables false
set_option linter.unusedSimpArgs false

section
variable {P : Program} {H : Hp} {t : Fr} {d : Option Tmp} {ty : TypeId} {pos : String} {after : Array Edge} {guard : Option (Nat × Bool)} {K : Value → Hp → Prop}
theorem av_cap_nil {x : Operand} {st e : TypeId} (hx : t.eval x = .slice none 0 0) (hu : P.underlying st = some (.slice e)) : AVal P ⟨d, .call ⟨.builtin .cap, #[x], #[st]⟩, ty, pos, after, guard⟩ t [] H (.int .i64 0) := fun _ _ _ φ w a _ ho => by
  have hr := ho x (by simp [Op.operands, Call.operands])
  rw [hx] at hr
  generalize hq : a.eval x = u at hr
  cases hr
  exact ⟨_, w, by simp [execOp, resolve, invoke, builtin, hq, Builtin.cap_, run_underlying hu, goInt], .int _ _, .refl w⟩
theorem append_run2 {at_ it : TypeId} {x y : Operand} {a : Act} {v' : Value} {w w' : World} (h : (Builtin.append_ #[at_, it] ty #[a.eval x, a.eval y]).run P w = .ok v' w') : (execOp a.eval ⟨d, .call ⟨.builtin .append, #[x, y], #[at_, it]⟩, ty, pos, after, guard⟩).run P w = .ok (.value v') w' := by
  simp [execOp, resolve, invoke, builtin, h]
theorem run_append_make (w : World) (at_ it ty e : TypeId) (kk : IntKind) (i : TypeInfo) (z : Value) (ht : P.underlying at_ = some (.slice e)) (hit : P.underlying it = some (.int kk)) (hi : P.info? e = some i) (hz : i.zero = some z) (n : Nat)
    (h0 : 0 < n) (h63 : (n : Int) ≤ 9223372036854775807) (h48 : n * i.bytes ≤ 281474976710656) (hs : i.size ≠ 0) :
    (Builtin.append_ #[at_, it] ty #[.slice none 0 0, .int .i64 n]).run P w =
      .ok (.slice (some ⟨w.heap.size, 0, none⟩) n (grownCap w n 0 e)) (w.drew.alloc (.cells (Builtin.zeroCells z.cells n ++ Builtin.zeroCells z.cells (grownCap w n 0 e - n)) e)) := by
  have hn : n ≠ 0 := by omega
  have h63' : ¬ (9223372036854775807 < (n : Int)) := by omega
  have h48' : ¬ (281474976710656 < Builtin.nextslicecap n 0 * i.bytes) := by rw [nextslicecap_zero h0]; omega
  have hw : IntKind.i64.wrap (n : Int) = n := by
    unfold IntKind.wrap
    simp [IntKind.signed, IntKind.bits]
    omega
  have hneg : ¬ ((n : Int) < 0) := by omega
  have hbig : ¬ (281474976710656 < (n : Int) * (i.bytes : Int)) := by
    have : (n : Int) * (i.bytes : Int) = ((n * i.bytes : Nat) : Int) := by push_cast; rfl
    rw [this]; omega
  have hsz : ¬ n * i.size = 0 := by
    intro h
    rcases Nat.mul_eq_zero.1 h with h | h
    · exact hn h
    · exact hs h
  simp [Builtin.append_, run_underlying ht, run_underlying hit, sizeOf, typeInfo, zeroValue, hi, hz, asInt, asIntOf, hw, hneg, hbig, hn, hs, h63', h48', Question.forced, run_firstCells_none, newRow, grownCap]
  intro h; exact absurd h hsz
/-- append of so many zeros to no slice: a new row. -/
theorem aop_append_make {at_ it e : TypeId} {x y : Operand} {sz by_ m : Nat} {kk : IntKind} {z : Value} (hu : P.underlying at_ = some (.slice e)) (hit : P.underlying it = some (.int kk)) (hi : (P.info? e).map (fun i => (i.zero, i.size, i.bytes)) = some (some z, sz, by_)) (hzs : z.cells.size = sz) (h0 : sz ≠ 0) (hp : z.cells.toList.all plainV = true)
    (hx : t.eval x = .slice none 0 0) (hy : t.eval y = .int .i64 m) (hm : 0 < m) (hb1 : m ≤ 9223372036854775807) (hb2 : m * by_ ≤ 140737488355328)
    (k : K (.slice (some ⟨H.size, 0, none⟩) m unk) (H.push (.own sz (List.replicate m z.cells.toList).flatten))) : AOp P ⟨d, .call ⟨.builtin .append, #[x, y], #[at_, it]⟩, ty, pos, after, guard⟩ t H K := fun base φ w a hw ho next Q' hk => by
  obtain ⟨i, hinf, hz, rfl, rfl⟩ := info3 hi
  have h1 := ho x (by simp [Op.operands, Call.operands])
  have h2 := ho y (by simp [Op.operands, Call.operands])
  rw [hx] at h1
  rw [hy] at h2
  have e2 : a.eval y = .int .i64 m := h2.scal rfl
  have e1 : a.eval x = .slice none 0 0 := by
    generalize hqx : a.eval x = ux at h1
    cases h1; rfl
  have hzc : LRel φ (List.replicate m z.cells.toList).flatten (Builtin.zeroCells z.cells m).toList := by
    rw [show (Builtin.zeroCells z.cells m).toList = (List.replicate m z.cells.toList).flatten from repl_mod _ _ (by omega)]
    refine LRel.plain ?_
    rw [List.all_flatten]
    simp only [List.all_replicate]
    split
    · rfl
    · exact hp
  have hcap : m ≤ grownCap w m 0 e := grownCap_ge w m 0 e
  have hlen : (List.replicate m z.cells.toList).flatten.length = m * i.size := by simp [hzs]
  obtain ⟨r1, r2⟩ := grown_row (e := e) hw hzc hzs (n := m) hlen hcap
  have hrun := run_append_make (P := P) w at_ it ty e kk i z hu hit hinf hz m hm (by omega) (by omega) h0
  unfold Oper.wp
  rw [append_run2 (by rw [e1, e2]; exact hrun)]
  simp only [Array.toArray_toList] at r1
  exact hk _ _ _ _ _ k r1 r2 (Step.push hw _ rfl rfl rfl (by first | exact Nat.le_refl _ | exact Nat.le_succ _) (by show w.heap.size ≤ (w.drew.heap.push _).size; simp) (fun q hq => Below.heap_alloc w.drew _ q hq) (Nat.le_refl _))
end
end Go.Proofs.Ytnkjikpmgeknbaa.Am
