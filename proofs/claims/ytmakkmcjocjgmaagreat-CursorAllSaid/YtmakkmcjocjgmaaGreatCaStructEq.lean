/- Structs of numbers, bools and texts: whether two are one. -/
import Derived.Test.YtmakkmcjocjgmaaGreatCaOwn
import Derived.Laws.StructEq
namespace Go.Proofs.YtmakkmcjocjgmaaGreat.Am
open Go Go.RowKit
set_option linter.unusedVariables false
set_option linter.unusedSimpArgs false

def scalEq : Value → Value → Bool
  | .int _ a, .int _ b => a == b
  | .bool a, .bool b => a == b
  | .string a, .string b => a.toList == b.toList
  | _, _ => false
def fitsF (P : Program) (f : Field) (x y : Value) : Prop :=
  f.name ≠ "_" ∧ ((∃ k a b, P.underlying f.type = some (.int k) ∧ x = .int k a ∧ y = .int k b) ∨ (∃ a b, P.underlying f.type = some .bool ∧ x = .bool a ∧ y = .bool b) ∨ ∃ a b, P.underlying f.type = some .string ∧ x = .string a ∧ y = .string b)
theorem fitsF.int {P : Program} {f : Field} {k : IntKind} {a b : Int} (h : P.underlying f.type = some (.int k)) (hn : f.name ≠ "_") : fitsF P f (.int k a) (.int k b) := ⟨hn, .inl ⟨k, a, b, h, rfl, rfl⟩⟩
theorem fitsF.bool {P : Program} {f : Field} {a b : Bool} (h : P.underlying f.type = some .bool) (hn : f.name ≠ "_") : fitsF P f (.bool a) (.bool b) := ⟨hn, .inr (.inl ⟨a, b, h, rfl, rfl⟩)⟩
def allEq (xs ys : List Value) : List Field → Bool
  | [] => true
  | f :: fs => scalEq (xs.getD f.offset undef) (ys.getD f.offset undef) && allEq xs ys fs
theorem run_part {P : Program} {t : TypeId} {u : TypeDesc} {cs : Array Value} {o : Nat} {v : Value} (hu : P.underlying t = some u) (hn : notAgg u = true) (h : cs[o]? = some v) (w : World) : (part t cs o).run P w = .ok v w := by
  unfold part
  simp only [Sem.run_bind, run_isAgg_no hu hn, Result.andThen_ok, Bool.false_eq_true, if_false, h]
  rfl
theorem run_eqFields {P : Program} (w : World) (xs ys : List Value) : ∀ fs : List Field, (∀ f ∈ fs, f.offset < xs.length ∧ f.offset < ys.length ∧ fitsF P f (xs.getD f.offset undef) (ys.getD f.offset undef)) → (Op.eqFields 9999 xs.toArray ys.toArray fs).run P w = .ok (allEq xs ys fs) w
  | [], _ => rfl
  | f :: fs, h => by
    obtain ⟨h1, h2, hn, hk⟩ := h f List.mem_cons_self
    have ih := run_eqFields w xs ys fs fun g hg => h g (List.mem_cons_of_mem _ hg)
    have g1 : xs.toArray[f.offset]? = some (xs.getD f.offset undef) := by
      rw [List.getD_eq_getElem?_getD, List.getElem?_eq_getElem h1]; simp [h1]
    have g2 : ys.toArray[f.offset]? = some (ys.getD f.offset undef) := by
      rw [List.getD_eq_getElem?_getD, List.getElem?_eq_getElem h2]; simp [h2]
    unfold Op.eqFields allEq
    rw [if_pos hn]
    rcases hk with ⟨k, a, b, hu, ex, ey⟩ | ⟨a, b, hu, ex, ey⟩ | ⟨a, b, hu, ex, ey⟩
    · simp only [Sem.run_bind, run_part hu rfl g1, run_part hu rfl g2, Result.andThen_ok, ex, ey, run_equalIn_int w 9998 f.type k k a b hu, scalEq]
      by_cases e : (a == b) = true
      · simp only [e, Bool.not_true, Bool.false_eq_true, if_false, Bool.true_and]; exact ih
      · simp [e]
    · simp only [Sem.run_bind, run_part hu rfl g1, run_part hu rfl g2, Result.andThen_ok, ex, ey, run_equalIn_bool' w 9998 f.type a b hu, scalEq]
      by_cases e : (a == b) = true
      · simp only [e, Bool.not_true, Bool.false_eq_true, if_false, Bool.true_and]; exact ih
      · simp [e]
    · simp only [Sem.run_bind, run_part hu rfl g1, run_part hu rfl g2, Result.andThen_ok, ex, ey, run_equalIn_string w 9998 f.type a b hu, scalEq]
      by_cases e : (a.toList == b.toList) = true
      · simp only [e, Bool.not_true, Bool.false_eq_true, if_false, Bool.true_and]; exact ih
      · simp [e]
theorem VRels.scal' {φ : Inj} {xs ys : Array Value} (h : LRel φ xs.toList ys.toList) (hs : ∀ v ∈ xs.toList, Am.scal v = true) : ys = xs := by
  apply Array.ext'
  apply List.ext_getElem?
  intro i
  by_cases hi : i < xs.toList.length
  · obtain ⟨v', e, hv⟩ := h.2 i _ (List.getElem?_eq_getElem hi)
    rw [e, List.getElem?_eq_getElem hi, hv.scal (hs _ (List.getElem_mem hi))]
  · rw [List.getElem?_eq_none (by have := h.1; omega), List.getElem?_eq_none (by omega)]
theorem VRel.agg_scal {φ : Inj} {xs : List Value} {v' : Value} (h : VRel φ (.agg xs.toArray) v') (hs : ∀ v ∈ xs, Am.scal v = true) : v' = .agg xs.toArray := by
  cases h with
  | agg _ xs' h1 h2 => rw [VRels.scal' (LRel.of_arr h1 h2) (by simpa using hs)]
section
variable {P : Program} {t : Fr} {H : Hp} {d : Option Tmp} {ty : TypeId} {pos : String} {after : Array Edge} {guard : Option (Nat × Bool)} {x y : Operand} {xt yt : TypeId} {xs ys : List Value} {fs : Array Field}
theorem run_struct_eq (hu : P.underlying xt = some (.struct fs)) (hp : P.stoodInHeld xt = false) (hf : ∀ f ∈ fs.toList, f.offset < xs.length ∧ f.offset < ys.length ∧ fitsF P f (xs.getD f.offset undef) (ys.getD f.offset undef)) (w : World) :
    (Op.equalIn 10000 xt (.agg xs.toArray) (.agg ys.toArray)).run P w = .ok (allEq xs ys fs.toList) w := by
  have hfo : P.fieldsOf xt = fs := by simp [Program.fieldsOf, hu]
  rw [run_equalIn_struct w 9999 xt _ _ (by rw [hfo]; exact hu) hp, hfo]
  exact run_eqFields w xs ys fs.toList hf
end
end Go.Proofs.YtmakkmcjocjgmaaGreat.Am
