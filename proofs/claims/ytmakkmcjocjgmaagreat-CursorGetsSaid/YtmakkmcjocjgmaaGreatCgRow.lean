/- The arguments of a statement, as they lie when the call begins: all that is read of them. -/
import Derived.Test.YtmakkmcjocjgmaaGreatCgOwn
import GoSem.ClaimChange
import Derived.ChangeArms
import Derived.ChangeShapes
import Derived.WideShapes
import Derived.ProofKit
import Derived.Below
import Derived.ChangeOld
namespace Go.Proofs.YtmakkmcjocjgmaaGreat.Am
open Go Go.RowKit
set_option linter.unusedVariables false
set_option linter.unusedSimpArgs false

def idInj (W : World) : Inj := fun b => if b < W.heap.size then some ⟨b, 0, 0, 0⟩ else none
def absV (W : World) : Value → Value
  | .slice (some _) 0 0 => .slice (some ⟨W.heap.size, 0, none⟩) 0 0
  | v => v
open Classical in
noncomputable def snap (W : World) : Hp := ⟨fun b => if b = W.heap.size then .ro (fun _ => none) else if b < W.heap.size then
    (match W.heap[b]? with
     | some (.cells c _ _) => .ro fun i => match c[i]? with
        | some v => if VRel (idInj W) (absV W v) v then some (absV W v) else none
        | none => none
     | some (.map ens _) => if MRel (idInj W) (ens.toList.map fun e => (absV W e.key, absV W e.val)) ens then .romap (ens.toList.map fun e => (absV W e.key, absV W e.val)) else .dead
     | _ => .dead) else .dead, W.heap.size + 1⟩
theorem snap_size (W : World) : (snap W).size = W.heap.size + 1 := rfl
theorem idInj_some {W : World} {b : Nat} {g : Img} (h : idInj W b = some g) : b < W.heap.size ∧ g = ⟨b, 0, 0, 0⟩ := by
  unfold idInj at h
  split at h
  · injection h with h; exact ⟨by assumption, h.symm⟩
  · cases h
open Classical in
theorem snap_live (W : World) : ∀ b, ((snap W).get b).live = false := fun b => by
  simp only [snap]
  split
  · rfl
  · split
    · split
      · rfl
      · split <;> rfl
      · rfl
    · rfl
theorem snap_wrel (W : World) : WRel W.heap.size (idInj W) (snap W) W := by
  have live := snap_live W
  refine ⟨Nat.le_refl _, fun b g hg => ?_, fun b f g hf hg => ?_, fun b st cs g hf hg => ?_, fun b es g hf hg => ?_, fun b es g hf hg => ?_, fun b b' g g' hl => ?_⟩
  · have := (idInj_some hg).1
    rw [snap_size]; omega
  · obtain ⟨hb, rfl⟩ := idInj_some hg
    refine ⟨hb, rfl, fun i v hv => ?_⟩
    simp only [snap] at hf
    rw [if_neg (by omega), if_pos hb] at hf
    cases hc : W.heap[b]? with
    | none => rw [hc] at hf; cases hf
    | some blk =>
      rw [hc] at hf
      cases blk with
      | map ens clock => simp only at hf; split at hf <;> cases hf
      | cells c e fr =>
        simp only [Blk.ro.injEq] at hf
        subst hf
        simp only at hv
        cases hi : c[i]? with
        | none => rw [hi] at hv; cases hv
        | some u =>
          rw [hi] at hv
          simp only at hv
          split at hv
          · next hr =>
            injection hv with hv
            subst hv
            exact ⟨u, by simp [World.cell?, hc, hi], hr⟩
          · cases hv
      | _ => simp only at hf; cases hf
  · have := live b; rw [hf] at this; cases this
  · have := live b; rw [hf] at this; cases this
  · obtain ⟨hb, rfl⟩ := idInj_some hg
    refine ⟨hb, ?_⟩
    simp only [snap] at hf
    rw [if_neg (by omega), if_pos hb] at hf
    cases hc : W.heap[b]? with
    | none => rw [hc] at hf; cases hf
    | some blk =>
      rw [hc] at hf
      cases blk with
      | cells c e fr => simp only at hf; cases hf
      | map ens clock =>
        simp only at hf
        split at hf
        · next hr =>
          injection hf with hf
          subst hf
          exact ⟨ens, clock, rfl, hr⟩
        · cases hf
      | _ => simp only at hf; cases hf
  · rw [live b] at hl; cases hl
section
variable {Hh : Type} {enc : TypeId × Value → Hh} {P : Program} {W : World}
def fits (k : IntKind) (n : Int) : Prop := (Lit.int k n).wf = true
end
theorem ACalls.law {P : Program} {f : FuncId} {args args' : Array Value} {W : World} {R : Hp → Prop} (h : ACalls P f args (snap W) (fun r H' => r = .bool true ∧ R H')) (ha : VRels (idInj W) args args') : Calls P f args' W fun e W' => e = .returned (.bool true) ∧ Below W.heap.size W W' :=
  (h _ _ _ _ (snap_wrel W) ha).mono fun e W' ⟨v, v', H', φ', he, hr, hw, hv, hst⟩ => by
    obtain ⟨rfl, _⟩ := hr
    refine ⟨?_, hst.below (snap_wrel W)⟩
    rw [he]
    cases hv
    rfl
end Go.Proofs.YtmakkmcjocjgmaaGreat.Am
