/- What is asked of a region's order, as one Bool. -/
import Derived.Test.YtmakkmcjocjgmaaGreatCaDraw
import Derived.Test.YtmakkmcjocjgmaaGreatCaMem4
namespace Go.Proofs.YtmakkmcjocjgmaaGreat.Am
open Go Go.RowKit
set_option linter.unusedVariables false
set_option linter.unusedSimpArgs false

def bfOf (B : List Nat) (i j : Nat) : Bool := (B.getD i 0).testBit j
def maskOf (B : List Nat) : List Nat → Nat
  | [] => 0
  | k :: r => (2 ^ k ||| B.getD k 0) ||| maskOf B r
theorem mask_bit {B : List Nat} {j : Nat} : ∀ {l : List Nat}, (maskOf B l).testBit j = true → j ∈ l ∨ ∃ k ∈ l, bfOf B k j = true
  | [], h => by simp [maskOf] at h
  | k :: r, h => by
    simp only [maskOf, Nat.testBit_or, Bool.or_eq_true, Nat.testBit_two_pow] at h
    rcases h with (h | h) | h
    · exact .inl (by simp at h; simp [h])
    · exact .inr ⟨k, by simp, h⟩
    · rcases mask_bit h with h1 | ⟨x, h1, h2⟩
      · exact .inl (by simp [h1])
      · exact .inr ⟨x, by simp [h1], h2⟩
def linB (ops : Array Oper) : List Nat → List Nat → Bool
  | _, [] => true
  | acc, i :: r => (V0 ops i).all (fun j => acc.contains j) && linB ops (i :: acc) r
theorem lin_of {ops : Array Oper} : ∀ {π acc : List Nat}, linB ops acc π = true → ∀ p i s, π = p ++ i :: s → ∀ j ∈ V0 ops i, j ∈ acc ∨ j ∈ p
  | [], _, _, p, i, s, e, _, _ => by simp at e
  | x :: r, acc, h, p, i, s, e, j, hj => by
    simp only [linB, Bool.and_eq_true] at h
    cases p with
    | nil =>
      simp at e
      obtain ⟨rfl, rfl⟩ := e
      exact .inl (by simpa using List.all_eq_true.1 h.1 j hj)
    | cons y p =>
      simp at e
      obtain ⟨rfl, rfl⟩ := e
      rcases lin_of h.2 p i s rfl j hj with h1 | h1
      · rcases List.mem_cons.1 h1 with rfl | h1
        · exact .inr (by simp)
        · exact .inl h1
      · exact .inr (by simp [h1])
def chB (ops : Array Oper) (B : List Nat) : List Nat → Bool
  | [] => true
  | i :: s => (match ops[i]? with | some o => !Ur o || s.all (fun x => bfOf B x i) | none => true) && chB ops B s
theorem ch_of {ops : Array Oper} {B : List Nat} : ∀ {π : List Nat}, chB ops B π = true → ∀ p i s o, π = p ++ i :: s → ops[i]? = some o → Ur o = true → ∀ x ∈ s, bfOf B x i = true
  | [], _, p, i, s, o, e, _, _, _, _ => by simp at e
  | y :: r, h, p, i, s, o, e, ho, hc, x, hx => by
    simp only [chB, Bool.and_eq_true] at h
    cases p with
    | nil =>
      simp at e
      obtain ⟨rfl, rfl⟩ := e
      have h1 := h.1
      rw [ho] at h1
      simp only [hc, Bool.not_true, Bool.false_or] at h1
      exact List.all_eq_true.1 h1 x hx
    | cons z p =>
      simp at e
      obtain ⟨rfl, rfl⟩ := e
      exact ch_of h.2 p i s o rfl ho hc x hx
def nmB (ops : Array Oper) (B : List Nat) : Bool :=
  (List.range ops.size).all fun i => match ops[i]? with
    | some o => (match o.dst with
      | some d => (List.range ops.size).all fun j => i == j || (match ops[j]? with
        | some q => q.dst != some d && (!(q.looksAt ops).contains d || bfOf B j i || bfOf B i j)
        | none => true)
      | none => true)
    | none => true
theorem nm_of {ops : Array Oper} {B : List Nat} (h : nmB ops B = true) {i j : Nat} {o q : Oper} {d : Tmp} (hne : i ≠ j) (ho : ops[i]? = some o) (hq : ops[j]? = some q) (hd : o.dst = some d) : q.dst ≠ some d ∧ (d ∈ q.looksAt ops → bfOf B j i = true ∨ bfOf B i j = true) := by
  have h1 := List.all_eq_true.1 h i (List.mem_range.2 (Array.getElem?_eq_some_iff.1 ho).1)
  simp only [ho, hd] at h1
  have h2 := List.all_eq_true.1 h1 j (List.mem_range.2 (Array.getElem?_eq_some_iff.1 hq).1)
  simp only [hq, Bool.or_eq_true, Bool.and_eq_true, beq_iff_eq, bne_iff_ne, ne_eq, Bool.not_eq_true'] at h2
  rcases h2 with h2 | ⟨h2, h3⟩
  · exact absurd h2 hne
  · refine ⟨h2, fun hm => ?_⟩
    rcases h3 with (h3 | h3) | h3
    · have : (q.looksAt ops).contains d = true := by simpa using hm
      rw [this] at h3; cases h3
    · exact .inl h3
    · exact .inr h3
def regB (N : Nat) (ops : Array Oper) (B π : List Nat) : Bool :=
  π.length == ops.size && decide π.Nodup && π.all (fun i => decide (i < ops.size)) && ((List.range B.length).all fun i => B.getD i 0 == maskOf B (V0 ops i)) && ((List.range B.length).all fun i => !bfOf B i i) && linB ops [] π && chB ops B π && nmB ops B && ops.toList.all (Vr N ops)
theorem Y4 {N : Nat} {ops : Array Oper} {B π : List Nat} (h : regB N ops B π = true) : RegOk N ops (bfOf B) π := by
  simp only [regB, Bool.and_eq_true, beq_iff_eq, decide_eq_true_eq] at h
  obtain ⟨⟨⟨⟨⟨⟨⟨⟨h1, h2⟩, h3⟩, h4⟩, h5⟩, h6⟩, h7⟩, h8⟩, h9⟩ := h
  have hlt : ∀ i j, bfOf B i j = true → i < B.length := fun i j hb => by
    rcases Nat.lt_or_ge i B.length with hl | hl
    · exact hl
    · simp [bfOf, List.getD_eq_getElem?_getD, List.getElem?_eq_none hl] at hb
  refine ⟨h1, h2, fun i hi => by simpa using List.all_eq_true.1 h3 i hi, fun i j hb => ?_, fun i => ?_, fun p i s e j hj => by simpa using lin_of h6 p i s e j hj, ch_of h7, fun i j o q d hne ho hq hd => (nm_of h8 hne ho hq hd).1, fun i j o q d hne ho hq hd hm => (nm_of h8 hne ho hq hd).2 hm, fun i o ho => List.all_eq_true.1 h9 o ?_⟩
  · have := List.all_eq_true.1 h4 i (List.mem_range.2 (hlt i j hb))
    simp only [beq_iff_eq] at this
    unfold bfOf at hb
    rw [this] at hb
    exact mask_bit hb
  · cases hb : bfOf B i i with
    | false => rfl
    | true =>
      have := List.all_eq_true.1 h5 i (List.mem_range.2 (hlt i i hb))
      rw [hb] at this
      cases this
  · exact List.mem_of_getElem? (by simpa using ho)
end Go.Proofs.YtmakkmcjocjgmaaGreat.Am
