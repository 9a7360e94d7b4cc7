/- A slice with no room behind, all of it; and one more. -/
import Derived.Test.YtmakkmcjocjgmaaGreatAaOwn2
namespace Go.Proofs.YtmakkmcjocjgmaaGreat.Am
open Go Go.RowKit
set_option linter.unusedVariables false
set_option linter.unusedSimpArgs false

theorem av_slice3_nil {P : Program} {t : Fr} {H : Hp} {d : Option Tmp} {ty : TypeId} {pos : String} {after : Array Edge} {guard : Option (Nat × Bool)} {xt e sz : Nat} {x y : Operand} {lo : Option Operand} {hi : Operand} {k1 k2 : IntKind} (hx : t.eval x = .slice none 0 0) (hu : P.underlying xt = some (.slice e)) (hs : (P.info? e).map (·.size) = some sz) (hl : bndIs t lo 0 0) (hh : t.eval hi = .int k1 (0 : Nat)) (hm : t.eval y = .int k2 (0 : Nat)) :
    AVal P ⟨d, .slice xt x lo (some hi) (some y), ty, pos, after, guard⟩ t [] H (.slice none 0 0) := fun H' he base φ w a hw ho => by
  have hr := ho x (by simp [Op.operands])
  rw [hx] at hr
  generalize hq : a.eval x = u at hr
  have hl' := bnd_real (a := a) (φ := φ) hl (fun y hy => ho y (by simp [Op.operands, hy]))
  have hh' : a.eval hi = .int k1 (0 : Nat) := by rw [(ho hi (by simp [Op.operands])).scal (by rw [hh]; rfl), hh]
  have hm' : a.eval y = .int k2 (0 : Nat) := by rw [(ho y (by simp [Op.operands])).scal (by rw [hm]; rfl), hm]
  cases hr with
  | sliceNil =>
    refine ⟨.slice none 0 0, w, ?_, .sliceNil, .refl w⟩
    simp only [execOp, hq, Sem.run_bind]
    rw [run_sliceAt (h := 0) (m := 0) hu hs hl' (.inr ⟨k1, by simpa using hh'⟩) (.inr ⟨⟨k2, by simpa using hm'⟩, rfl⟩) (Nat.le_refl _) (Nat.le_refl _) (Nat.le_refl _)]
    rfl
theorem Sl.capsAll {α : Type} {k : Kd α} {H0 : Hp} {v : Value} {xs : List α} (hs : Sl k H0 v xs) : ∃ A S, Sl k H0 (.slice A xs.length xs.length) xs ∧ (∀ b ∈ S, b < H0.size ∧ H0.get b ≠ .dead) ∧
    ∀ (P : Program) (H : Hp) (t : Fr) (d : Option Tmp) (ty : TypeId) (pos : String) (after : Array Edge) (guard : Option (Nat × Bool)) (x y z : Operand) (xt e : TypeId) (k1 k2 : IntKind), H0.le H → t.eval x = v → P.underlying xt = some (.slice e) → (P.info? e).map (·.size) = some k.sz → t.eval y = .int k1 xs.length → t.eval z = .int k2 xs.length →
      AVal P ⟨d, .slice xt x none (some y) (some z), ty, pos, after, guard⟩ t S H (.slice A xs.length xs.length) := by
  rcases hs with ⟨rfl, rfl⟩ | ⟨b, o, c, rfl, hb, hk, hx⟩
  · exact ⟨none, [], .inl ⟨rfl, rfl⟩, fun b h => (by cases h), fun P H t d ty pos after guard x y z xt e k1 k2 hle h1 h2 h3 h4 h5 => av_slice3_nil h1 h2 h3 (.inl ⟨rfl, rfl⟩) h4 h5⟩
  · refine ⟨some ⟨b, o, none⟩, [b], .inr ⟨b, o, xs.length, rfl, hb, hk, hx⟩, fun u hu => by simp at hu; subst hu; exact ⟨hb, Blk.cut_ne hk⟩, fun P H t d ty pos after guard x y z xt e k1 k2 hle h1 h2 h3 h4 h5 => ?_⟩
    have := av_slice3 (P := P) (t := t) (H := H) (d := d) (ty := ty) (pos := pos) (after := after) (guard := guard) (lo := none) (l := 0) (h := xs.length) (m := xs.length) h1 h2 h3 (.inl ⟨rfl, rfl⟩) h4 h5 (Nat.zero_le _) (Nat.le_refl _) (Nat.le_refl _) (by rw [hle.2 b hb (Blk.cut_ne hk)]; exact Blk.cut_or hk)
    have e1 : (if xs.length = 0 then o else o + 0 * k.sz) = o := by split <;> simp
    rwa [e1, Nat.sub_zero] at this
theorem Sl.growAll {P : Program} {t : Fr} {d : Option Tmp} {ty : TypeId} {pos : String} {after : Array Edge} {guard : Option (Nat × Bool)} {K : Value → Hp → Prop} {H : Hp} {A : Option Addr} {xs : List Int} {b2 c2 : Nat} {m : Int} {at_ e : TypeId} {x y : Operand} {by_ : Nat} {z : Value} (hs : Sl (Yz .i64) H (.slice A xs.length xs.length) xs) (hu : P.underlying at_ = some (.slice e)) (hi : (P.info? e).map (fun i => (i.zero, i.size, i.bytes)) = some (some z, 1, by_)) (hzs : z.cells.size = 1)
    (hx : t.eval x = .slice A xs.length xs.length) (hy : t.eval y = .slice (some ⟨b2, 0, none⟩) 1 c2) (hg : H.get b2 = .own 1 [.int .i64 m]) (hb1 : xs.length + 1 ≤ 1000000) (hb2 : (xs.length + 1) * by_ ≤ 140737488355328)
    (hk : ∀ H', H' = H.push (.own 1 ((xs ++ [m]).map (Value.int .i64))) → Sl (Yz .i64) H' (.slice (some ⟨H.size, 0, none⟩) (xs.length + 1) unk) (xs ++ [m]) → K (.slice (some ⟨H.size, 0, none⟩) (xs.length + 1) unk) H') : AOp P ⟨d, .call ⟨.builtin .append, #[x, y], #[at_, at_]⟩, ty, pos, after, guard⟩ t H K := by
  have e1 : xs.map (Value.int .i64) ++ [.int .i64 m] = (xs ++ [m]).map (Value.int .i64) := by rw [List.map_append]; rfl
  have hl2 : xs.length + 1 = (xs ++ [m]).length := by rw [List.length_append]; rfl
  refine aop_append_new (olds := xs.map (Value.int .i64)) (news := [.int .i64 m]) hu hi hzs hx ?_ (by omega) hy ?_ rfl (by decide) (by omega) hb2 ?_
  · rcases hs with ⟨h, h2⟩ | ⟨b, o, c, h, h2, h3, h4⟩
    · subst h2
      injection h with h
      exact .inl ⟨h, rfl, rfl, rfl⟩
    · injection h with h5 h6 h7
      subst h5
      refine .inr ⟨b, o, rfl, by unfold unk; omega, fun j v hj => ?_, by rw [List.length_map, Nat.mul_one]⟩
      rw [List.getElem?_map] at hj
      cases hxj : xs[j]? with
      | none => rw [hxj] at hj; cases hj
      | some a =>
        rw [hxj] at hj
        injection hj with hj
        subst hj
        have hjl := (List.getElem?_eq_some_iff.1 hxj).1
        have hs' : Sl (Yz .i64) H (.slice (some ⟨b, o, none⟩) xs.length c) xs := .inr ⟨b, o, c, rfl, h2, h3, h4⟩
        obtain ⟨b', o', e', hb', hc'⟩ := hs'.int_at (i := (j : Int)) (by omega) (by omega)
        simp only [Option.some.injEq, Addr.mk.injEq, and_true] at e'
        obtain ⟨rfl, rfl⟩ := e'
        rw [Int.toNat_natCast, Nat.mul_one, List.getD_eq_getElem?_getD, hxj] at hc'
        exact hc'
  · intro j v hj
    cases j with
    | zero => injection hj with hj; subst hj; unfold Hp.cell?; rw [hg]; rfl
    | succ j => simp at hj
  · rw [e1]
    exact hk _ rfl (by rw [hl2]; exact sl_ints (by simp) (Hp.push_new _ _))
end Go.Proofs.YtmakkmcjocjgmaaGreat.Am
