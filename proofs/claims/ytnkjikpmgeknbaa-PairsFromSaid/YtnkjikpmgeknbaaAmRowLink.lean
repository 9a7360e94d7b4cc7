/- Links among the arguments of a statement. -/
import Derived.Test.YtnkjikpmgeknbaaAmLink
import Derived.Test.YtnkjikpmgeknbaaAmRow
namespace Go.Proofs.Ytnkjikpmgeknbaa.Am
open Go Go.RowKit
set_option maxRecDepth 100000
theorem cells_i64 : Try.prog.cellsOf 3 = 1 := by kernel_rfl
theorem cells_u64 : Try.prog.cellsOf 26 = 1 := by kernel_rfl
theorem cells_link : Try.prog.cellsOf 28 = 4 := by kernel_rfl
theorem opens_ints : Opens Try.prog (kSl (kInt .i64)) 29 (fun xs => xs.length ≤ maxLen ∧ ∀ x ∈ xs, fits .i64 x) := opens_sl Try.underlying29 cells_i64 (opens_int Try.underlying3)
theorem opens_link : Opens Try.prog kLink 28 (fun x => fits .i64 x.a ∧ fits .i64 x.b ∧ fits .i64 x.cost ∧ fits .u64 x.n) := fun Hh enc W fuel cs x h => by
  obtain ⟨xs, n, _, _, hl, hxs, hf⟩ := DataW.trod_struct Try.underlying28 h
  rw [cells_link] at hl
  have hxs : xs.length = 4 := hxs
  match cs, hl with
  | [c0, c1, c2, c3], _ =>
    have f0 : DataW.trod enc Try.prog W 0 (fun _ => true) true n 3 (([c0, c1, c2, c3].drop 0).take (Try.prog.cellsOf 3)) = xs[0]? := hf 0 _ rfl
    have f1 : DataW.trod enc Try.prog W 0 (fun _ => true) true n 3 (([c0, c1, c2, c3].drop 1).take (Try.prog.cellsOf 3)) = xs[1]? := hf 1 _ rfl
    have f2 : DataW.trod enc Try.prog W 0 (fun _ => true) true n 3 (([c0, c1, c2, c3].drop 2).take (Try.prog.cellsOf 3)) = xs[2]? := hf 2 _ rfl
    have f3 : DataW.trod enc Try.prog W 0 (fun _ => true) true n 26 (([c0, c1, c2, c3].drop 3).take (Try.prog.cellsOf 26)) = xs[3]? := hf 3 _ rfl
    rw [cells_i64, List.getElem?_eq_getElem (show 0 < xs.length by omega)] at f0
    rw [cells_i64, List.getElem?_eq_getElem (show 1 < xs.length by omega)] at f1
    rw [cells_i64, List.getElem?_eq_getElem (show 2 < xs.length by omega)] at f2
    rw [cells_u64, List.getElem?_eq_getElem (show 3 < xs.length by omega)] at f3
    obtain ⟨y0, r0, b0, v0⟩ := opens_int (P := Try.prog) Try.underlying3 Hh enc W n _ _ f0
    obtain ⟨y1, r1, b1, v1⟩ := opens_int (P := Try.prog) Try.underlying3 Hh enc W n _ _ f1
    obtain ⟨y2, r2, b2, v2⟩ := opens_int (P := Try.prog) Try.underlying3 Hh enc W n _ _ f2
    obtain ⟨y3, r3, b3, v3⟩ := opens_int (P := Try.prog) Try.underlying26 Hh enc W n _ _ f3
    refine ⟨⟨y0, y1, y2, y3⟩, ?_, ⟨b0, b1, b2, b3⟩, fun v hv => ?_⟩
    · have e0 : [absV W c0] = [Value.int .i64 y0] := r0
      have e1 : [absV W c1] = [Value.int .i64 y1] := r1
      have e2 : [absV W c2] = [Value.int .i64 y2] := r2
      have e3 : [absV W c3] = [Value.int .u64 y3] := r3
      simp only [List.cons.injEq, and_true] at e0 e1 e2 e3
      simp [kLink, e0, e1, e2, e3]
    · simp at hv
      rcases hv with rfl | rfl | rfl | rfl
      · exact v0 _ (List.mem_singleton.2 rfl)
      · exact v1 _ (List.mem_singleton.2 rfl)
      · exact v2 _ (List.mem_singleton.2 rfl)
      · exact v3 _ (List.mem_singleton.2 rfl)
theorem opens_links : Opens Try.prog (kSl kLink) 22 (fun xs => xs.length ≤ maxLen ∧ ∀ x ∈ xs, fits .i64 x.a ∧ fits .i64 x.b ∧ fits .i64 x.cost ∧ fits .u64 x.n) := opens_sl Try.underlying22 cells_link opens_link
end Go.Proofs.Ytnkjikpmgeknbaa.Am
