/- Numbers: the lesser, the greater; calls of the library that reckon alone. -/
import Derived.Test.YtmakkmcjocjgmaaGreatCaOwn
import Derived.Shelf.Bits.Mul64
namespace Go.Proofs.YtmakkmcjocjgmaaGreat.Am
open Go Go.RowKit Go.Shelf
set_option linter.unusedVariables false
set_option linter.unusedSimpArgs false

section
variable {P : Program} {t : Fr} {H : Hp} {d : Option Tmp} {ty : TypeId} {pos : String} {after : Array Edge} {guard : Option (Nat × Bool)} {k : IntKind} {a b : Int}
theorem av_min2 {x y : Operand} {ts : Array TypeId} (hx : t.eval x = .int k a) (hy : t.eval y = .int k b) : AVal P ⟨d, .call ⟨.builtin .min, #[x, y], ts⟩, ty, pos, after, guard⟩ t [] H (.int k (if b < a then b else a)) :=
  .two hx hy rfl rfl rfl (by simp [Op.operands, Call.operands]) (by simp [Op.operands, Call.operands]) fun ρ w e1 e2 => by
    simp [execOp, resolve, invoke, builtin, e1, e2, Builtin.min_, Builtin.min2]
end
theorem VRels.scal {φ : Inj} {args args' : Array Value} (h : VRels φ args args') (hs : ∀ v ∈ args.toList, Am.scal v = true) : args' = args := by
  apply Array.ext'
  apply List.ext_getElem?
  intro i
  by_cases hi : i < args.toList.length
  · obtain ⟨v', e, hv⟩ := h.2 i _ (List.getElem?_eq_getElem hi)
    rw [e, List.getElem?_eq_getElem hi, hv.scal (hs _ (List.getElem_mem hi))]
  · rw [List.getElem?_eq_none (by have := h.1; omega), List.getElem?_eq_none (by omega)]
theorem ACalls.of_real {P : Program} {f : FuncId} {args : Array Value} {v : Value} (hs : ∀ v ∈ args.toList, Am.scal v = true) (hv : ∀ φ, VRel φ v v) (h : ∀ w, Calls P f args w fun e w' => e = .returned v ∧ w' = w) (H : Hp) : ACalls P f args H (fun r H' => r = v ∧ H' = H) := fun base φ w args' hw ha => by
  rw [VRels.scal ha hs]
  refine (h w).mono fun e w' ⟨he, hww⟩ => ?_
  subst hww
  exact ⟨v, v, H, φ, he, ⟨rfl, rfl⟩, hw, hv φ, Step.refl _ _ _⟩
theorem mul64_real {P : Program} {ρ : Ren} (L : Lays.n264 P ρ) (x y : Nat) (hx : x < 18446744073709551616) (hy : y < 18446744073709551616) (H : Hp) :
    ACalls P (ρ.f 264) #[.int .u64 x, .int .u64 y] H (fun r H' => r = .tuple #[.int .u64 ((x * y / 18446744073709551616 : Nat) : Int), .int .u64 ((x * y % 18446744073709551616 : Nat) : Int)] ∧ H' = H) :=
  ACalls.of_real (by intro v hv; simp at hv; rcases hv with rfl | rfl <;> rfl) (fun φ => .tuple_list (.cons (.int _ _) (.cons (.int _ _) (.nil _)))) (fun w => Any.bits_Mul64 L x y hx hy w) H
def Zh : Int := 4611686018427387904
def Zi (a b : Int) : Int := min (min a Zh * min b Zh) Zh
def addI (a b : Int) : Int := min (min a Zh + min b Zh) Zh
end Go.Proofs.YtmakkmcjocjgmaaGreat.Am
