/- The arguments of a statement, as they lie when the call begins: all that is read of them. -/
import Derived.Test.YtmakkmcjocjgmaaGreatCaOwn
import GoSem.ClaimChange
import Derived.ChangeArms
import Derived.ChangeShapes
import Derived.WideShapes
import Derived.ProofKit
import Derived.Below
import Derived.ChangeOld
namespace Go.Proofs.YtmakkmcjocjgmaaGreat.Am
open Go Go.RowKit
set_option linter.unusedVariables false
set_option linter.unusedSimpArgs false

def idInj (W : World) : Inj := fun b => if b < W.heap.size then some ⟨b, 0, 0, 0⟩ else none
def absV (W : World) : Value → Value
  | .slice (some _) 0 0 => .slice (some ⟨W.heap.size, 0, none⟩) 0 0
  | v => v
open Classical in
noncomputable def snap (W : World) : Hp := ⟨fun b => if b = W.heap.size then .ro (fun _ => none) else if b < W.heap.size then
    (match W.heap[b]? with
     | some (.cells c _ _) => .ro fun i => match c[i]? with
        | some v => if VRel (idInj W) (absV W v) v then some (absV W v) else none
        | none => none
     | some (.map ens _) => if MRel (idInj W) (ens.toList.map fun e => (absV W e.key, absV W e.val)) ens then .romap (ens.toList.map fun e => (absV W e.key, absV W e.val)) else .dead
     | _ => .dead) else .dead, W.heap.size + 1⟩
theorem snap_size (W : World) : (snap W).size = W.heap.size + 1 := rfl
theorem idInj_some {W : World} {b : Nat} {g : Img} (h : idInj W b = some g) : b < W.heap.size ∧ g = ⟨b, 0, 0, 0⟩ := by
  unfold idInj at h
  split at h
  · injection h with h; exact ⟨by assumption, h.symm⟩
  · cases h
open Classical in
theorem snap_live (W : World) : ∀ b, ((snap W).get b).live = false := fun b => by
  simp only [snap]
  split
  · rfl
  · split
    · split
      · rfl
      · split <;> rfl
      · rfl
    · rfl
theorem snap_wrel (W : World) : WRel W.heap.size (idInj W) (snap W) W := by
  have live := snap_live W
  refine ⟨Nat.le_refl _, fun b g hg => ?_, fun b f g hf hg => ?_, fun b st cs g hf hg => ?_, fun b es g hf hg => ?_, fun b es g hf hg => ?_, fun b b' g g' hl => ?_⟩
  · have := (idInj_some hg).1
    rw [snap_size]; omega
  · obtain ⟨hb, rfl⟩ := idInj_some hg
    refine ⟨hb, rfl, fun i v hv => ?_⟩
    simp only [snap] at hf
    rw [if_neg (by omega), if_pos hb] at hf
    cases hc : W.heap[b]? with
    | none => rw [hc] at hf; cases hf
    | some blk =>
      rw [hc] at hf
      cases blk with
      | map ens clock => simp only at hf; split at hf <;> cases hf
      | cells c e fr =>
        simp only [Blk.ro.injEq] at hf
        subst hf
        simp only at hv
        cases hi : c[i]? with
        | none => rw [hi] at hv; cases hv
        | some u =>
          rw [hi] at hv
          simp only at hv
          split at hv
          · next hr =>
            injection hv with hv
            subst hv
            exact ⟨u, by simp [World.cell?, hc, hi], hr⟩
          · cases hv
      | _ => simp only at hf; cases hf
  · have := live b; rw [hf] at this; cases this
  · have := live b; rw [hf] at this; cases this
  · obtain ⟨hb, rfl⟩ := idInj_some hg
    refine ⟨hb, ?_⟩
    simp only [snap] at hf
    rw [if_neg (by omega), if_pos hb] at hf
    cases hc : W.heap[b]? with
    | none => rw [hc] at hf; cases hf
    | some blk =>
      rw [hc] at hf
      cases blk with
      | cells c e fr => simp only at hf; cases hf
      | map ens clock =>
        simp only at hf
        split at hf
        · next hr =>
          injection hf with hf
          subst hf
          exact ⟨ens, clock, rfl, hr⟩
        · cases hf
      | _ => simp only at hf; cases hf
  · rw [live b] at hl; cases hl
open Classical in
theorem snap_cell {W : World} {a : Addr} {v : Value} (hc : W.cell? a = some v) (hv : VRel (idInj W) (absV W v) v) : a.spot = none ∧ a.block < W.heap.size ∧ ((snap W).get a.block).cut 1 ∧ (snap W).cell? a.block a.off = some (absV W v) := by
  have hl := World.block_lt_of_cell? W a hc
  simp only [World.cell?] at hc
  cases hb : W.heap[a.block]? with
  | none => rw [hb] at hc; cases hc
  | some blk =>
    rw [hb] at hc
    cases blk with
    | map ens clock => cases hc
    | cells c e fr =>
      simp only at hc
      have hs : a.spot = none := by
        cases hs : a.spot with
        | none => rfl
        | some s => rw [hs] at hc; simp at hc
      rw [hs] at hc
      simp only [Option.isSome_none, Bool.false_eq_true, if_false] at hc
      have hg : (snap W).get a.block = .ro fun i => match c[i]? with
          | some v => if VRel (idInj W) (absV W v) v then some (absV W v) else none
          | none => none := by
        simp only [snap]
        rw [if_neg (by omega), if_pos hl, hb]
      refine ⟨hs, hl, by rw [hg]; trivial, ?_⟩
      simp only [Hp.cell?, hg, Blk.cell?]
      rw [hc]
      simp only
      rw [if_pos hv]
    | _ => cases hc

section
variable {Hh : Type} {enc : TypeId × Value → Hh} {P : Program} {W : World}
def Opens (P : Program) {α : Type} (k : Kd α) (t : TypeId) (bnd : α → Prop) : Prop :=
  ∀ (Hh : Type) (enc : TypeId × Value → Hh) (W : World) (fuel : Nat) (cs : List Value) (x : DataW Hh × List MemPlace), DataW.trod enc P W 0 (fun _ => true) true fuel t cs = some x →
    ∃ y, k.rep (snap W) y (cs.map (absV W)) ∧ bnd y ∧ ∀ v ∈ cs, VRel (idInj W) (absV W v) v
def fits (k : IntKind) (n : Int) : Prop := (Lit.int k n).wf = true
theorem opens_int {t : TypeId} {k : IntKind} (ht : P.underlying t = some (.int k)) : Opens P (Y1 k) t (fits k) := fun Hh enc W fuel cs x h => by
  obtain ⟨n, rfl, _, hw⟩ := DataW.trod_int ht h
  exact ⟨n, rfl, hw, fun v hv => by simp at hv; subst hv; exact .int k n⟩
theorem opens_str {t : TypeId} (ht : P.underlying t = some .string) : Opens P kStr t (fun s => s.size ≤ maxLen) := fun Hh enc W fuel cs x h => by
  obtain ⟨n, rfl, _, hw⟩ := DataW.trod_string ht h
  exact ⟨n, rfl, hw, fun v hv => by simp at hv; subst hv; exact .string n⟩
theorem list_of {β : Type} {P : Nat → β → Prop} : ∀ n, (∀ i, i < n → ∃ y, P i y) → ∃ ys : List β, ys.length = n ∧ ∀ (i : Nat) y, ys[i]? = some y → P i y
  | 0, _ => ⟨[], rfl, fun i y h => by simp at h⟩
  | n + 1, h => by
    obtain ⟨ys, h1, h2⟩ := list_of n fun i hi => h i (by omega)
    obtain ⟨y, hy⟩ := h n (by omega)
    refine ⟨ys ++ [y], by simp [h1], fun i z hz => ?_⟩
    by_cases hi : i < ys.length
    · rw [List.getElem?_append_left hi] at hz; exact h2 i z hz
    · rw [List.getElem?_append_right (by omega)] at hz
      have : i - ys.length = 0 := by
        have := (List.getElem?_eq_some_iff.1 hz).1
        simp at this; omega
      rw [this] at hz
      simp at hz
      subst hz
      rwa [show i = n by omega]
theorem cells?_get {W : World} {a : Addr} {n : Nat} {cs : List Value} (h : W.cells? 0 a n = some cs) : cs.length = n ∧ ∀ (j : Nat) v, cs[j]? = some v → W.cell? (a.add j) = some v := by
  unfold World.cells? at h
  rw [if_pos (Nat.zero_le _)] at h
  have hl : cs.length = n := by simpa using mapM_some_length h
  refine ⟨hl, fun j v hv => ?_⟩
  have := mapM_some_get h j j (List.getElem?_range (by have := (List.getElem?_eq_some_iff.1 hv).1; omega))
  rw [this]; exact hv
theorem absV_id {W : World} {a : Addr} {n c : Nat} (h : c ≠ 0) : absV W (.slice (some a) n c) = .slice (some a) n c := by
  unfold absV
  split
  · next e => injection e with _ _ e; exact absurd e h
  · rfl
theorem opens_sl {α : Type} {k : Kd α} {t e : TypeId} {bnd : α → Prop} (ht : P.underlying t = some (.slice e)) (hsz : P.cellsOf e = k.sz) (ho : Opens P k e bnd) : Opens P (V1 k) t (fun xs => xs.length ≤ maxLen ∧ ∀ x ∈ xs, bnd x) := fun Hh enc W fuel cs x h => by
  rcases DataW.trod_slice ht h with ⟨rfl, _⟩ | ⟨a, len, cap, elems, rest, n, _, rfl, _, _, hlc, hcm, hel, hget, hsp, _⟩
  · exact ⟨[], ⟨_, rfl, .inl ⟨rfl, rfl⟩⟩, ⟨Nat.zero_le _, by simp⟩, fun v hv => by simp at hv; subst hv; exact .sliceNil⟩
  · rw [hsz] at hget hsp
    by_cases hc0 : cap = 0
    · subst hc0
      obtain rfl : len = 0 := by omega
      refine ⟨[], ⟨.slice (some ⟨W.heap.size, 0, none⟩) 0 0, rfl, .inr ⟨W.heap.size, 0, 0, rfl, by rw [snap_size]; omega, ?_, fun i x hx => by simp at hx⟩⟩, ⟨Nat.zero_le _, by simp⟩, fun v hv => ?_⟩
      · have : (snap W).get W.heap.size = .ro (fun _ => none) := by simp only [snap]; rw [if_pos trivial]
        rw [this]; trivial
      · simp at hv
        subst hv
        exact .slice0 _ _ 0 (.inl rfl)
    · have hone : ∀ i, i < cap → ∃ cs y, W.cells? 0 (a.add (i * k.sz)) k.sz = some cs ∧ DataW.trod enc P W 0 (fun _ => true) true n e cs = some y := fun i hi => by
        have : ∃ y, (W.cells? 0 (a.add (i * k.sz)) k.sz).bind (DataW.trod enc P W 0 (fun _ => true) true n e) = some y := by
          by_cases hil : i < len
          · exact ⟨elems[i], by rw [hget i hil, List.getElem?_eq_getElem (by omega)]⟩
          · obtain ⟨hr1, hr2⟩ := hsp rfl
            have := hr2 (i - len) (by omega)
            rw [show len + (i - len) = i by omega] at this
            exact ⟨rest[i - len], by rw [this, List.getElem?_eq_getElem (by omega)]⟩
        obtain ⟨y, hy⟩ := this
        cases hcs : W.cells? 0 (a.add (i * k.sz)) k.sz with
        | none => rw [hcs] at hy; cases hy
        | some cs => rw [hcs] at hy; exact ⟨cs, y, rfl, hy⟩
      have hpos := k.pos
      have hfirst : a.spot = none ∧ a.block < W.heap.size ∧ ((snap W).get a.block).cut 1 := by
        obtain ⟨cs, y, h1, h2⟩ := hone 0 (by omega)
        obtain ⟨z, _, _, hv⟩ := ho Hh enc W n cs y h2
        obtain ⟨hl, hg⟩ := cells?_get h1
        have h0 := hg 0 cs[0] (List.getElem?_eq_getElem (by omega))
        rw [Nat.zero_mul] at h0
        have h0' : W.cell? a = some cs[0] := by simpa [Addr.add] using h0
        obtain ⟨p1, p2, p3, _⟩ := snap_cell h0' (hv _ (List.getElem_mem _))
        exact ⟨p1, p2, p3⟩
      obtain ⟨hspot, hlt, hcut⟩ := hfirst
      obtain ⟨b, o, sp⟩ := a
      simp only at hspot hlt hcut
      subst hspot
      have hadd : ∀ o m, (⟨b, o, none⟩ : Addr).add m = ⟨b, o + m, none⟩ := fun o m => by
        unfold Addr.add; split
        · next e => subst e; rfl
        · rfl
      obtain ⟨ys, hlen, hys⟩ := list_of (P := fun i y => (∃ cs, k.rep (snap W) y cs ∧ Cells (snap W) b (o + i * k.sz) cs) ∧ bnd y) len fun i hi => by
        obtain ⟨cs, y, h1, h2⟩ := hone i (by omega)
        obtain ⟨z, hr, hb, hv⟩ := ho Hh enc W n cs y h2
        obtain ⟨hl, hg⟩ := cells?_get h1
        refine ⟨z, ⟨_, hr, fun j v hj => ?_⟩, hb⟩
        rw [List.getElem?_map] at hj
        cases hcj : cs[j]? with
        | none => rw [hcj] at hj; cases hj
        | some u =>
          rw [hcj] at hj
          injection hj with hj
          subst hj
          have hcell := hg j u hcj
          rw [hadd, hadd] at hcell
          exact (snap_cell hcell (hv u (List.mem_of_getElem? hcj))).2.2.2
      refine ⟨ys, ⟨.slice (some ⟨b, o, none⟩) len cap, by simp [absV_id hc0], .inr ⟨b, o, cap, by rw [hlen], by rw [snap_size]; omega, ?_, fun i x hx => (hys i x hx).1⟩⟩, ⟨by omega, fun x hx => ?_⟩, fun v hv => ?_⟩
      · cases hq : (snap W).get b <;> rw [hq] at hcut <;> first | trivial | cases hcut
        have := snap_live W b
        rw [hq] at this; cases this
      · obtain ⟨i, hi⟩ := List.getElem?_of_mem hx
        exact (hys i x hi).2
      · simp at hv
        subst hv
        rw [absV_id hc0]
        exact VRel.slice (φ := idInj W) (g := ⟨b, 0, 0, 0⟩) o len cap cap (by simp [idInj, hlt]) hlc (.inl rfl) (.inl rfl)
end
theorem ACalls.law {P : Program} {f : FuncId} {args args' : Array Value} {W : World} {R : Hp → Prop} (h : ACalls P f args (snap W) (fun r H' => r = .bool true ∧ R H')) (ha : VRels (idInj W) args args') : Calls P f args' W fun e W' => e = .returned (.bool true) ∧ Below W.heap.size W W' :=
  (h _ _ _ _ (snap_wrel W) ha).mono fun e W' ⟨v, v', H', φ', he, hr, hw, hv, hst⟩ => by
    obtain ⟨rfl, _⟩ := hr
    refine ⟨?_, hst.below (snap_wrel W)⟩
    rw [he]
    cases hv
    rfl
theorem arg_cells {α : Type} {k : Kd α} {W : World} {y : α} {v : Value} (hk : k.sz ≠ 1) (h : k.rep (snap W) y (v.cells.toList.map (absV W))) (hv : ∀ u ∈ v.cells.toList, VRel (idInj W) (absV W u) u) :
    ∃ cs, k.rep (snap W) y cs ∧ VRel (idInj W) (.agg cs.toArray) v := by
  have hl := k.len h
  rw [List.length_map] at hl
  have : ∃ xs, v = .agg xs := by
    cases v <;> first | exact ⟨_, rfl⟩ | exact absurd hl (fun e => hk (by simpa [Value.cells] using e.symm))
  obtain ⟨xs, rfl⟩ := this
  refine ⟨_, h, ?_⟩
  have : VRel (idInj W) (.agg (xs.toList.map (absV W)).toArray) (.agg xs.toList.toArray) := VRel.agg_list ⟨by simp, fun i u hu => by
    rw [List.getElem?_map] at hu
    cases hx : xs.toList[i]? with
    | none => rw [hx] at hu; cases hu
    | some z =>
      rw [hx] at hu
      injection hu with hu
      subst hu
      exact ⟨z, rfl, hv z (List.mem_of_getElem? hx)⟩⟩
  simpa [Value.cells] using this
theorem trod_blocks {Hh : Type} {enc : TypeId × Value → Hh} {P : Program} {W : World} {t : TypeId} {v : Value} {d : DataW Hh} {ps : List MemPlace} (h : DataW.Trod enc P W 0 (fun _ => true) true t v d ps) : ∀ x ∈ ps, x.block < W.heap.size := by
  obtain ⟨m, hm⟩ := h
  exact DataW.trod_lt m _ _ _ hm
end Go.Proofs.YtmakkmcjocjgmaaGreat.Am
