/- Maps: whether a key is there; keys that are numbers. -/
import Derived.Test.YtmakkmcjocjgmaaGreatAaMaps
namespace Go.Proofs.YtmakkmcjocjgmaaGreat.Am
open Go Go.RowKit
set_option linter.unusedVariables false
set_option linter.unusedSimpArgs false

section
variable {P : Program} {t : Fr} {H : Hp} {d : Option Tmp} {ty : TypeId} {pos : String} {after : Array Edge} {guard : Option (Nat × Bool)}
theorem av_lookup2 {mt kt et : TypeId} {K : Value → Prop} {x y : Operand} {b : Nat} {es : List (Value × Value)} {k z : Value} (hu : P.underlying mt = some (.map kt et)) (hK : KeyTy P kt K) (hz : (P.info? et).map (·.zero) = some (some z)) (hp : ∀ φ : Inj, VRel φ z z)
    (hx : t.eval x = .map (some b)) (hy : t.eval y = k) (hk : K k) (hb : H.get b = .map es ∨ H.get b = .romap es) (hes : ∀ e ∈ es, K e.1) :
    AVal P ⟨d, .lookup mt x y true, ty, pos, after, guard⟩ t [b] H (.tuple #[(Y3 es k).getD z, .bool (Y3 es k).isSome]) := fun H' he base φ w a hw ho => by
  obtain ⟨i, hi, hz⟩ := zero_info hz
  have h1 := ho x (by simp [Op.operands])
  have h2 := ho y (by simp [Op.operands])
  rw [hx] at h1
  rw [hy] at h2
  have e2 : a.eval y = k := hK.same hk h2
  generalize hqx : a.eval x = ux at h1
  have pair : ∀ {u u' : Value} (c : Bool), VRel φ u u' → VRel φ (.tuple #[u, .bool c]) (.tuple #[u', .bool c]) := fun {u u'} c h => VRel.tuple_list (xs := [u, .bool c]) (ys := [u', .bool c]) (.cons h (LRel.plain rfl))
  cases h1 with
  | @map _ g hg =>
    have hbb := he b (by simp)
    obtain ⟨ens, clock, h3, h4⟩ : ∃ ens clock, w.heap[g.rb]? = some (.map ens clock) ∧ MRel φ es ens := by
      rcases hb with hb | hb
      · obtain ⟨_, ens, clock, p1, p2⟩ := hw.map b es g (hbb.trans hb) hg; exact ⟨ens, clock, p1, p2⟩
      · obtain ⟨_, ens, clock, p1, p2⟩ := hw.romap b es g (hbb.trans hb) hg; exact ⟨ens, clock, p1, p2⟩
    have hget := Go.MapKept.run_getObj_map (P := P) h3
    rcases hK.both h4 hes hk w with ⟨f1, f2⟩ | ⟨j, e, v, f1, f2, f3, f4, f5, f6⟩
    · refine ⟨.tuple #[z, .bool false], w, ?_, ?_, .refl w⟩
      · simp [execOp, Instr.lookup, run_underlying hu, hqx, e2, hget, hK.check w _ hk, f1, V5 hi hz]
      · unfold Y3; rw [f2]; exact pair _ (hp _)
    · refine ⟨.tuple #[e.val, .bool true], w, ?_, ?_, .refl w⟩
      · simp [execOp, Instr.lookup, run_underlying hu, hqx, e2, hget, hK.check w _ hk, f1]
      · unfold Y3; rw [f4]; simp only [Option.bind_some, f5, Option.map_some, Option.getD_some, Option.isSome_some]; exact pair _ f6
end
theorem findNow_first {d : TypeDesc} {k : Value} (hk : MapKept.IsKey d k) : ∀ (l : List MapEntry) (i : Nat), (∀ x ∈ l, MapKept.IsKey d x.key) →
    (Instr.findNow d k l i = some none ∧ ∀ x ∈ l, x.key ≠ k) ∨ ∃ j e, Instr.findNow d k l i = some (some (i + j, e.val)) ∧ l[j]? = some e ∧ e.key = k ∧ ∀ m, m < j → ∀ e', l[m]? = some e' → e'.key ≠ k
  | [], _, _ => .inl ⟨rfl, by simp⟩
  | e :: l, i, h => by
    obtain ⟨r, h1, h2⟩ := MapKept.sameNow_of_keys hk (h e (by simp))
    by_cases hr : r = true
    · subst hr
      exact .inr ⟨0, e, by simp [Instr.findNow, h1], rfl, (h2.1 rfl).symm, fun m hm => absurd hm (Nat.not_lt_zero _)⟩
    · have hne : e.key ≠ k := fun q => hr (h2.2 q.symm)
      have hf : r = false := by simpa using hr
      subst hf
      rcases findNow_first hk l (i + 1) (fun x hx => h x (by simp [hx])) with ⟨h3, h4⟩ | ⟨j, e', h3, h4, h5, h6⟩
      · refine .inl ⟨by simp [Instr.findNow, h1, h3], fun x hx => ?_⟩
        rcases List.mem_cons.1 hx with rfl | hx
        · exact hne
        · exact h4 x hx
      · refine .inr ⟨j + 1, e', by simp [Instr.findNow, h1, h3]; omega, by simpa using h4, h5, fun m hm e2 he2 => ?_⟩
        cases m with
        | zero => simp at he2; subst he2; exact hne
        | succ m => exact h6 m (by omega) e2 (by simpa using he2)
theorem keyTy_plain {P : Program} {kt : TypeId} {d : TypeDesc} (hu : P.underlying kt = some d) : KeyTy P kt (MapKept.IsKey d) where
  same := fun {φ v v'} hk h => by cases d <;> cases h <;> first | rfl | (simp [MapKept.IsKey] at hk)
  check := fun w em {v} hk => MapKept.run_checkKey hu hk em 9999
  find := fun w {x} hx es hes => by
    rcases findNow_first hx es 0 hes with ⟨h1, h2⟩ | ⟨j, e, h1, h2, h3, h4⟩
    · exact .inl ⟨MapKept.run_findKey hu h1, h2⟩
    · rw [Nat.zero_add] at h1
      exact .inr ⟨j, e, MapKept.run_findKey hu h1, h2, h3, h4⟩
  stays := fun w {v} hk => MapKept.run_keyThatStays hk
end Go.Proofs.YtmakkmcjocjgmaaGreat.Am
