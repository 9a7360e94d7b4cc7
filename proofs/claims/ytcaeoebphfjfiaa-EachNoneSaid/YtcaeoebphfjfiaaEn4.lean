/- Texts that the proof rests on, part 4: lemmas for every heap that is related to a world, no condition beyond each lemma's own. -/
import Derived.Test.YtcaeoebphfjfiaaEn3
import Derived.Test.YtcaeoebphfjfiaaEnOwnL
import Derived.Test.YtcaeoebphfjfiaaEn1
import Derived.Test.YtcaeoebphfjfiaaEnRow

/- Walks as they are told to others; the first row; all rows. -/
namespace Go.Proofs.Ytcaeoebphfjfiaa.Am
open Go Go.RowKit
set_option maxRecDepth 100000
set_option linter.unusedVariables false
set_option linter.unusedSimpArgs false

def w0 : Y9 := ⟨[], false, false, 0⟩
def w1 : Y9 := ⟨[], false, true, 0⟩
theorem val_w0 (T : TreeT) : ValS T w0 := ⟨Nat.zero_le _, fun i h => absurd h (Nat.not_lt_zero _)⟩
theorem val_w1 (T : TreeT) : ValS T w1 := ⟨Nat.zero_le _, fun i h => absurd h (Nat.not_lt_zero _)⟩
def noT : TreeT := ⟨[], [], []⟩
theorem good_noT : GoodT noT := ⟨rfl, rfl, by decide, fun l h => (by cases h), fun i h => absurd h (Nat.not_lt_zero _), fun i above => by
  unfold TreeT.group
  rw [if_neg]
  · exact List.Pairwise.nil
  · intro h
    have h2 : i < 0 := h.2
    omega, fun l h => (by cases h)⟩
theorem alive_noT : Alive noT := fun ns hp h0 hn => absurd hn (Nat.not_lt_zero _)
theorem Next_walk {T : TreeT} (hT : GoodT T) (hA : Alive T) {tv : Value} {S : Y9} {wb : Nat} {G H : Hp} (hW : Zq G H wb tv S) (ht : S.over = false → TreeR G tv T) (hv : ValS T S) (hs0 : 0 ≤ S.steps) (hs1 : S.steps ≤ 100000000000) (htv : ∃ v, tv = .pointer v) :
    ACalls Try.prog 38 #[.pointer (some ⟨wb, 0, none⟩)] H (fun r H' => ∃ G', Away wb G G' ∧ Zq G' H' wb tv (Zk T S).1 ∧ RowO G' r (Zk T S).2) := by
  have zz : H.size = G.size := by obtain ⟨_, _, _, _, hown⟩ := hW; exact hown.size
  have hwb0 : wb < G.size := by obtain ⟨_, _, h, _, _⟩ := hW; exact h
  have hW1 : Zq (G.push (.own 0 [.slice none 0 0, .int .i64 0, .int .u64 0])) (H.push (.own 0 [.slice none 0 0, .int .i64 0, .int .u64 0])) wb tv S := by
    obtain ⟨B, c, hwb, gw, hown⟩ := hW
    exact ⟨B, c, by simp; omega, (Hp.push_old _ _ hwb).trans gw, hown.push _⟩
  refine Xq Try.func38 rfl rfl rfl (by simp) ?_
  refine Xd ?_
  refine Xb (by kernel_rfl) ?_
  refine X1 (Yo (l := [.slice none 0 0, .int .i64 0, .int .u64 0]) inf44.zero rfl (by decide)) ?_
  refine Xa (Xh rfl) ?_
  refine Xd ?_
  refine Xb (by kernel_rfl) ?_
  refine Xa (Xp rfl) ?_
  refine Xx (Xz (next_walk hT hA hW1 (fun h => (ht h).mono (G.le_push _)) hv hs0 hs1 htv) rfl Try.func69 rfl rfl rfl ?_)
  rintro v11 H9 ⟨G9, aw9, ⟨B9, c9, hwb9, gw9, hown9⟩, A9, k9, rfl, sl9⟩; have z9 := aw9.size; simp only [Hp.push_size] at z9; have gz9 := aw9.keep (by simp) (by omega) (by intro e; cases e) (Hp.push_new G _); have hz9 := Xv hown9.le (by omega) (by intro e; cases e) gz9; rw [← zz] at gz9 hz9; have zz9 := hown9.size
  refine Xa (Ya rfl rfl) ?_
  refine Xa (Ya rfl rfl) ?_
  refine Xx (Yd (vs := [.slice _ _ _, .int .i64 _, .int .u64 _]) rfl rfl inf44.size X9 X8 rfl rfl ?_)
  refine Xa (Xh rfl) ?_
  refine X6 ?_
  exact ⟨_, Yt (Yl Xn (Yk (cs := [_, _, _]) Try.underlying44 rfl inf44.size Yc)) (Xy rfl), G9.put H.size _, ((Away.of_le (G.le_push _)).trans aw9).put_new (by omega) (by omega) _, ⟨B9, c9, by simpa using hwb9, by rw [Hp.put_other _ _ (by omega)]; exact gw9, hown9.put (by rw [gz9]; intro e; cases e) _ (Hp.sees_box _ gz9)⟩, A9, k9, rfl, sl9.mono (Hp.sees_box _ gz9)⟩
theorem New_nil (H : Hp) : ACalls Try.prog 41 #[.pointer none] H (fun r H' => r = .pointer (some ⟨H.size, 0, none⟩) ∧ H.le H' ∧ Zq H' H' H.size (.pointer none) w1) := by
  refine Xq Try.func41 rfl rfl rfl (by simp) ?_
  refine Xd ?_
  refine Xb (by kernel_rfl) ?_
  refine Xa (Y1 rfl) ?_
  refine Xd ?_
  refine Xb (by kernel_rfl) ?_
  refine Xa (Xp rfl) ?_
  refine Xx (Xz (fresh_nil _) rfl Try.func70 rfl rfl rfl ?_)
  rintro v3 H3 ⟨rfl, hle3, hW3⟩
  refine Xa (Y1 rfl) ?_
  refine X6 ?_
  exact ⟨_, X4 (Xy rfl), rfl, hle3, hW3⟩
theorem First_gen {T : TreeT} (hT : GoodT T) (hA : Alive T) (v : Option Addr) (S : Y9) (hS : S = w0 ∨ S = w1) (hf : ∀ H, ACalls Try.prog 70 #[.pointer v] H (fun r H' => r = .pointer (some ⟨H.size, 0, none⟩) ∧ H.le H' ∧ Zq H' H' H.size (.pointer v) S)) (H : Hp) (ht : S.over = false → TreeR H (.pointer v) T) :
    ACalls Try.prog 39 #[.pointer v] H (fun r H' => H.le H' ∧ RowO H' r (Zk T S).2) := by
  have hv : ValS T S := by rcases hS with rfl | rfl; exact val_w0 T; exact val_w1 T
  have hs : S.steps = 0 := by rcases hS with rfl | rfl <;> rfl
  refine Xq Try.func39 rfl rfl rfl (by simp) ?_
  refine Xd ?_
  refine Xb (by kernel_rfl) ?_
  refine X1 (Yo (l := [.slice none 0 0, .int .i64 0, .int .u64 0]) inf44.zero rfl (by decide)) ?_
  refine Xa (Xh rfl) ?_
  refine Xd ?_
  refine Xb (by kernel_rfl) ?_
  refine Xa (Xp rfl) ?_
  refine Xx (Xz (hf _) rfl Try.func70 rfl rfl rfl ?_)
  rintro v3 H3 ⟨rfl, hle3, hW3⟩; have z3 := hle3.1; simp only [Hp.push_size] at z3; have hz3 : H3.get H.size = .own 0 [.slice none 0 0, .int .i64 0, .int .u64 0] := Xv hle3 (by simp) (by intro e; cases e) X9
  refine Xx (Xz (next_walk hT hA hW3 (fun h => ((ht h).mono (H.le_push _)).mono hle3) hv (by omega) (by omega) ⟨_, rfl⟩) rfl Try.func69 rfl rfl rfl ?_)
  rintro v11 H9 ⟨G9, aw9, ⟨B9, c9, hwb9, gw9, hown9⟩, A9, k9, rfl, sl9⟩; have z9 := aw9.size; have gz9 := aw9.keep (by omega) (by simp) (by intro e; cases e) hz3; have hz9 := Xv hown9.le (by omega) (by intro e; cases e) gz9; have leG9 := aw9.base (K := H) (Hp.le_trans (H.le_push _) hle3) (by simp)
  refine Xa (Ya rfl rfl) ?_
  refine Xa (Ya rfl rfl) ?_
  refine Xx (Yd (vs := [.slice _ _ _, .int .i64 _, .int .u64 _]) rfl rfl inf44.size X9 X8 rfl rfl ?_)
  refine Xa (Xh rfl) ?_
  refine X6 ?_
  exact ⟨_, Yt (Yl Xn (Yk (cs := [_, _, _]) Try.underlying44 rfl inf44.size Yc)) (Xy rfl), Hp.le_put_new (Hp.le_trans leG9 hown9.le) (Nat.le_refl _) _, A9, k9, rfl, (sl9.mono hown9.le.sees).mono (Hp.sees_box _ hz9)⟩
def kRaw : Kd (Value × Int × Int) where
  sz := 3
  pos := by decide
  rep _ x cs := cs = [x.1, .int .i64 x.2.1, .int .u64 x.2.2] ∧ x.1.oneCell' = true
  len h := by rw [h.1]; rfl
  mono _ h := h
  one h v hv := by rw [h.1] at hv; simp at hv; rcases hv with rfl | rfl | rfl; exact h.2; rfl; rfl
theorem stable_raw (st : Nat) : Zx kRaw st := Plain.stable (fun _ _ _ _ h => h) st
structure Raws (G : Hp) (raws : List (Value × Int × Int)) (rows : List RowT) : Prop where
  len : raws.length = rows.length
  at_ : ∀ (i : Nat) (h : i < raws.length) (h' : i < rows.length), raws[i].2.1 = rows[i].cost ∧ raws[i].2.2 = rows[i].n ∧ Sl (Y4 .i64) G raws[i].1 rows[i].nodes
theorem Raws.mono {G G' : Hp} (h : G.sees G') {raws : List (Value × Int × Int)} {rows : List RowT} (hr : Raws G raws rows) : Raws G' raws rows :=
  ⟨hr.len, fun i a b => ⟨(hr.at_ i a b).1, (hr.at_ i a b).2.1, (hr.at_ i a b).2.2.mono h⟩⟩
theorem Raws.snoc {G : Hp} {raws : List (Value × Int × Int)} {rows : List RowT} (hr : Raws G raws rows) {v : Value} {r : RowT} (hs : Sl (Y4 .i64) G v r.nodes) : Raws G (raws ++ [(v, r.cost, r.n)]) (rows ++ [r]) := by
  have hl := hr.len
  refine ⟨by simp [hl], fun i a b => ?_⟩
  rw [List.length_append, List.length_singleton] at a b
  by_cases h : i < raws.length
  · have h' : i < rows.length := by omega
    rw [List.getElem_append_left h, List.getElem_append_left h']
    exact hr.at_ i h h'
  · obtain rfl : i = raws.length := by omega
    rw [List.getElem_append_right (Nat.le_refl _), List.getElem_append_right (by omega)]
    simp only [Nat.sub_self, List.getElem_cons_zero, hl]
    exact ⟨trivial, trivial, hs⟩
theorem Raws.sl {G H : Hp} {raws : List (Value × Int × Int)} {rows : List RowT} (hr : Raws G raws rows) (hle : G.sees H) {v : Value} (hs : Sl kRaw H v raws) : Sl kRow H v rows := by
  rcases hs with ⟨rfl, rfl⟩ | ⟨b, o, c, rfl, hb, hk, hx⟩
  · have := hr.len
    exact .inl ⟨rfl, List.eq_nil_of_length_eq_zero (by simpa using this.symm)⟩
  · refine .inr ⟨b, o, c, by rw [hr.len], hb, hk, fun i x hi => ?_⟩
    obtain ⟨hi', rfl⟩ := List.getElem?_eq_some_iff.1 hi
    have hi2 : i < raws.length := by rw [hr.len]; exact hi'
    obtain ⟨cs, h1, h2⟩ := hx i raws[i] (List.getElem?_eq_getElem hi2)
    obtain ⟨e1, e2, e3⟩ := hr.at_ i hi2 hi'
    refine ⟨cs, ⟨raws[i].1, ?_, e3.mono hle⟩, h2⟩
    rw [h1.1, e1, e2]
theorem OwnP.away {α : Type} {k : Kd α} {G0 G G' : Hp} {v : Value} {xs : List α} (h : OwnP k G0 G v xs) {wb : Nat} {cs : List Value} (hw : G.get wb = .own 0 cs) (hA : Away wb G G') : ∃ G1, Away wb G0 G1 ∧ OwnP k G1 G' v xs ∧ G0.get wb = .own 0 cs := by
  rcases h with ⟨rfl, rfl, rfl⟩ | ⟨b, ds, c, rfl, hb, hd, rfl, hcap, he⟩
  · exact ⟨G', hA, .inl ⟨rfl, rfl, rfl⟩, hw⟩
  · have hne : wb ≠ b := fun e => by
      subst e
      rw [Hp.put_same] at hw
      injection hw with h1 _
      exact k.pos h1
    have hw0 : G0.get wb = .own 0 cs := by rw [Hp.put_other _ _ hne] at hw; exact hw
    have hg : G'.get b = .own k.sz ds := hA.keep (by simpa using hb) (Ne.symm hne) (by intro e; cases e) (Hp.put_same _ _ _)
    have aw : Away wb G0 (G'.put b .dead) := by
      refine ⟨by have := hA.size; simpa using this, fun i hi hn => ?_⟩
      by_cases h1 : i = wb
      · subst h1; rw [Hp.put_same] at hn; exact absurd rfl hn
      · rw [Hp.put_other _ _ h1] at hn ⊢
        rw [Hp.put_other _ _ h1]
        have h2 : i ≠ b := fun e => hn (by rw [e]; exact hd)
        rw [Hp.put_other _ _ h2]
        exact hA.keep (by simpa using hi) h1 hn (Hp.put_other _ _ h2)
    exact ⟨G'.put b .dead, aw, .inr ⟨b, ds, c, rfl, by have := hA.size; simp at *; omega, Hp.put_same _ _ _, by rw [Hp.put_put]; exact (Hp.put_self _ hg).symm, hcap, he.mono (aw.sees hw0)⟩, hw0⟩
theorem OwnP.low_get {α : Type} {k : Kd α} {G H : Hp} {v : Value} {xs : List α} (h : OwnP k G H v xs) {b : Nat} {cs : List Value} (hg : H.get b = .own 0 cs) : G.get b = .own 0 cs := by
  rcases h with ⟨rfl, rfl, rfl⟩ | ⟨b1, ds, c, rfl, hb, hd, rfl, hcap, he⟩
  · exact hg
  · have hne : b ≠ b1 := fun e => by
      subst e
      rw [Hp.put_same] at hg
      injection hg with h1 _
      exact k.pos h1
    rwa [Hp.put_other _ _ hne] at hg
def allN (T : TreeT) : Nat → Y9 → List RowT
  | 0, _ => []
  | k + 1, S => match Zk T S with
    | (S1, some r) => r :: allN T k S1
    | (_, none) => []
set_option maxHeartbeats 1000000 in
theorem All_gen {T : TreeT} (hT : GoodT T) (hA : Alive T) (v : Option Addr) (S : Y9) (hS : S = w0 ∨ S = w1) (hf : ∀ H, ACalls Try.prog 70 #[.pointer v] H (fun r H' => r = .pointer (some ⟨H.size, 0, none⟩) ∧ H.le H' ∧ Zq H' H' H.size (.pointer v) S)) (H : Hp) (ht : S.over = false → TreeR H (.pointer v) T) (most : Int) (hm : ∀ k, (allN T k S).length ≤ 1000000) :
    ACalls Try.prog 45 #[.pointer v, .int .i64 most] H (fun r H' => H.le H' ∧ Sl kRow H' r (allN T most.toNat S)) := by
  have hv : ValS T S := by rcases hS with rfl | rfl; exact val_w0 T; exact val_w1 T
  have hs : S.steps = 0 := by rcases hS with rfl | rfl <;> rfl
  refine Xq Try.func45 rfl rfl rfl (by simp) ?_
  refine Xd ?_
  refine Xb (by kernel_rfl) ?_
  refine Xa (X5 rfl) ?_
  refine Xd ?_
  refine Xb (by kernel_rfl) ?_
  refine Xa (X5 rfl) ?_
  refine Xd ?_
  refine Xb (by kernel_rfl) ?_
  refine Xa (Xp rfl) ?_
  refine Xx (Xz (hf _) rfl Try.func70 rfl rfl rfl ?_)
  rintro v3 H3 ⟨rfl, hle3, hW3⟩
  refine Xa (Y1 rfl) ?_
  refine Xd ?_
  refine Yi ?_
  refine Zd (fun n t H' => ∃ (S1 : Y9) (G0 G : Hp) (C : Option Addr) (c5 : Nat) (raws : List (Value × Int × Int)) (rows : List RowT), n = most.toNat + 1 - rows.length ∧ H.le G0 ∧ OwnP kRaw G0 G (.slice C raws.length c5) raws ∧ Raws G0 raws rows ∧ Zq G H' H.size (.pointer v) S1 ∧ rows ++ allN T (most.toNat - rows.length) S1 = allN T most.toNat S ∧ (rows.length : Int) ≤ max most 0 ∧ ValS T S1 ∧ (S1.over = false → TreeR G0 (.pointer v) T) ∧ 0 ≤ S1.steps ∧ S1.steps ≤ 10000 * rows.length ∧ t 1 = .int .i64 most ∧ t 5 = .slice C raws.length c5 ∧ t 6 = .pointer (some ⟨H.size, 0, none⟩)) (most.toNat + 1) (⟨S, H3, H3, none, 0, [], [], by simp, hle3, OwnP.nil _ _, ⟨rfl, fun i a _ => absurd a (Nat.not_lt_zero _)⟩, hW3, by simp, by simp; omega, hv, fun h => (ht h).mono hle3, by omega, by simp; omega, rfl, rfl, rfl⟩) ?_
  rintro n t H1 ⟨S1, G0, G, C, c5, raws, rows, rfl, leG0, hout, hraw, hW1, hall, hmost, hv1, ht1, hst0, hst1, e1, e5, e6⟩
  have hlr := hraw.len
  obtain ⟨B1, c1, hwb1, hwG, hown1⟩ := id hW1
  have hrl : rows.length ≤ 1000000 := by have := hm most.toNat; rw [← hall, List.length_append] at this; omega
  have hph := phi_le hv1.len
  have hfew := hT.few
  refine Xd ?_
  refine Xd ?_
  refine Xb (by kernel_rfl) ?_
  refine Xa (X2 Xn) ?_
  refine Xa (Yw rfl Try.underlying82) ?_
  refine Xa (Xc Xn) ?_
  refine Xa (Zl rfl rfl) ?_
  refine Yb rfl rfl ?_ ?_
  intro hc1
  have hless : (raws.length : Int) < most := of_decide_eq_true hc1
  refine Yf ?_
  refine Yi ?_
  refine Xd ?_
  refine Xb (by kernel_rfl) ?_
  refine Xa (Xp Xn) ?_
  refine Xx (Xz (next_walk hT hA hW1 (fun h => (ht1 h).mono hout.le) hv1 hst0 (by omega) ⟨_, rfl⟩) rfl Try.func69 rfl rfl rfl ?_)
  rintro v7 H7 ⟨G7, aw7, hW7, A7, k7, rfl, sl7⟩
  refine Xa (Zh rfl) ?_
  refine Xa (Ya rfl rfl) ?_
  refine Xa (Ya rfl rfl) ?_
  refine X1 (Yo (l := [.slice none 0 0, .int .i64 0, .int .u64 0]) inf44.zero rfl (by decide)) ?_
  refine Xx (Yd (vs := [.slice _ _ _, .int .i64 _, .int .u64 _]) rfl rfl inf44.size X9 X8 rfl rfl ?_)
  refine Xa (Xh rfl) ?_
  refine Xd ?_
  refine Xd ?_
  have htell := next_tells hT hA _ S1 hv1 (Nat.le_refl _)
  obtain ⟨o, ho7⟩ : ∃ o, o = (Zk T S1).2 := ⟨_, rfl⟩
  obtain ⟨S7, hS7⟩ : ∃ S7, S7 = (Zk T S1).1 := ⟨_, rfl⟩
  have hpair : Zk T S1 = (S7, o) := by rw [ho7, hS7]
  rw [← hS7] at hW7 htell
  rw [← ho7] at sl7 htell
  rw [← ho7]
  obtain ⟨q, hq⟩ : ∃ q, most.toNat - rows.length = q + 1 := ⟨most.toNat - rows.length - 1, by omega⟩
  rw [hq] at hall
  simp only [allN, hpair] at hall
  obtain ⟨B7, c7, hwb7, gw7, hown7⟩ := id hW7
  have zz7 := hown7.size
  obtain ⟨G1, aw1, hout1, hw0⟩ := hout.away hwG aw7
  have hraw1 := hraw.mono (aw1.sees hw0)
  have leG1 : H.le G1 := aw1.base leG0 (Nat.le_refl _)
  have zz1 := hout1.size
  refine Xb (by kernel_rfl) ?_
  refine Xa (Xr rfl) ?_
  refine Xa (Zu rfl) ?_
  refine Yb rfl rfl ?_ ?_
  intro hc2
  obtain rfl : o = none := by have h := hc2; cases o with | none => rfl | some r => cases h
  simp only [List.append_nil] at hall
  refine Za ?_
  refine Xd ?_
  refine Xb (by kernel_rfl) ?_
  refine Xa (X2 Xn) ?_
  refine Xa (X5 rfl) ?_
  refine X6 ?_
  first
    | (refine ⟨_, X4 (Xy rfl), Hp.le_put_new (Hp.le_push' (Hp.le_trans (Hp.le_trans leG1 hout1.le) hown7.le) _) (by have := leG1.1; omega) _, ?_⟩
       rw [← hall]
       have se : G7.sees ((H7.push (.own 0 [.slice none 0 0, .int .i64 0, .int .u64 0])).put H7.size (.own 0 [.slice A7 (rowN (none : Option RowT)).length k7, .int .i64 (rowC none), .int .u64 (rowM none)])) := Hp.sees_put_new (hown7.le.sees.push _) (by omega) _
       exact hraw1.sl (hout1.le.sees.trans se) (hout1.sl.mono se))
    | (refine ⟨_, X4 (Xy rfl), Hp.le_trans leG0 (Hp.le_trans hout.le hown1.le), ?_⟩
       have h0 : most.toNat - rows.length = 0 := by omega
       rw [h0] at hall
       simp only [allN, List.append_nil] at hall
       rw [← hall]
       exact hraw.sl (hout.le.sees.trans hown1.le.sees) (hout.sl.mono hown1.le.sees))
  intro hc2
  obtain ⟨r7, rfl⟩ : ∃ r7, o = some r7 := by have h := hc2; cases o with | none => cases h | some r => exact ⟨r, rfl⟩
  simp only at hall
  have hno : S1.over = false := by
    cases ho1 : S1.over with
    | false => rfl
    | true => rw [next_over ho1] at hpair; cases hpair
  have htr1 := aw1.tree hw0 (ht1 hno)
  have slr : Sl (Y4 .i64) G1 (.slice A7 (rowN (some r7)).length k7) r7.nodes := hout1.below (Z4 _) (by decide) sl7
  have leP : H.le ((G1.push (.own 0 [.slice none 0 0, .int .i64 0, .int .u64 0])).put H7.size (.own 0 [.slice A7 (rowN (some r7)).length k7, .int .i64 (rowC (some r7)), .int .u64 (rowM (some r7))])) := Hp.le_put_new (Hp.le_push' leG1 _) (by have := leG1.1; have := hout1.size; omega) _
  have hoB := hout1.boxed [.slice none 0 0, .int .i64 0, .int .u64 0] [.slice A7 (rowN (some r7)).length k7, .int .i64 (rowC (some r7)), .int .u64 (rowM (some r7))]
  rw [← zz7] at hoB
  have hnB := hown7.boxed [.slice none 0 0, .int .i64 0, .int .u64 0] [.slice A7 (rowN (some r7)).length k7, .int .i64 (rowC (some r7)), .int .u64 (rowM (some r7))]
  obtain ⟨Gn, hn1, ho1⟩ := OwnP.swap2 (Z4 _) hoB hnB
  have seB : G1.sees ((G1.push (.own 0 [.slice none 0 0, .int .i64 0, .int .u64 0])).put H7.size (.own 0 [.slice A7 (rowN (some r7)).length k7, .int .i64 (rowC (some r7)), .int .u64 (rowM (some r7))])) := Hp.sees_put_new (Hp.le_push _ _).sees (by have := hout1.size; omega) _
  have gwB : ((G7.push (.own 0 [.slice none 0 0, .int .i64 0, .int .u64 0])).put H7.size (.own 0 [.slice A7 (rowN (some r7)).length k7, .int .i64 (rowC (some r7)), .int .u64 (rowM (some r7))])).get H.size = .own 0 [.pointer v, .slice B7 S7.nodes.length c7, .bool S7.back, .bool S7.over, .int .i64 S7.steps] := by rw [Hp.put_other _ _ (by omega), Hp.push_old _ _ (by omega)]; exact gw7
  refine Yf ?_
  refine Xb (by kernel_rfl) ?_
  refine Xa (X2 Xn) ?_
  refine Xa (Yr (cs := [.slice _ _ _, .int .i64 _, .int .u64 _]) rfl Try.underlying44 rfl inf44.size Yc) ?_
  refine X1 (Yg (r := [.slice _ _ _, .int .i64 _, .int .u64 _]) Try.underlying82 inf44.size inf44.zero rfl (by decide) (by decide) (by decide) rfl) ?_
  refine Xx (OwnP.append (ys := [(.slice A7 (rowN (some r7)).length k7, rowC (some r7), rowM (some r7))]) (ho1.push _) Try.underlying82 inf44 Xn Xn rfl (Vg (k := kRaw) ⟨rfl, rfl⟩ rfl ho1.size rfl) (by simp only [List.length_singleton]; omega) (by simp only [List.length_singleton]; omega) ?_)
  rintro v8 G8 H8 hle8 hown8
  obtain ⟨C8, k8, rfl⟩ := hown8.shape
  obtain ⟨G9, le9, hn9⟩ := hn1.later (Hp.le_trans (Hp.le_push Gn _) hle8)
  obtain ⟨G10, ho10, hn10⟩ := OwnP.swap2 (stable_raw _) hn9 hown8
  have gwL := hoB.low_get gwB
  have hzB := hoB.size
  have gw9 := Xv le9 (by simp; omega) (by intro e; cases e) gwL
  have z9 := le9.1
  have gw10 := Xv ho10.le (by simp at z9; omega) (by intro e; cases e) gw9
  refine Xa (X5 rfl) ?_
  refine ⟨most.toNat + 1 - (rows.length + 1), by omega, S7, G9, G10, C8, k8, raws ++ [(.slice A7 (rowN (some r7)).length k7, rowC (some r7), rowM (some r7))], rows ++ [r7], by simp, Hp.le_trans leP le9, ho10, (hraw1.mono (seB.trans le9.sees)).snoc (slr.mono (seB.trans le9.sees)), ⟨B7, c7, ?_, ?_, hn10⟩, ?_, ?_, htell.1, ?_, ?_, ?_, e1, rfl, e6⟩
  · have := ho10.size; simp at z9; omega
  · exact gw10
  · rw [← hall]; simp [show most.toNat - (rows.length + 1) = q by omega]
  · simp; omega
  · intro _; exact (htr1.mono (Hp.le_put_new (G1.le_push _) (by omega) _)).mono le9
  · omega
  · simp; omega
  intro hc1
  have hless : ¬ (raws.length : Int) < most := of_decide_eq_false hc1
  refine Za ?_
  refine Xd ?_
  refine Xb (by kernel_rfl) ?_
  refine Xa (X2 Xn) ?_
  refine Xa (X5 rfl) ?_
  refine X6 ?_
  first
    | (refine ⟨_, X4 (Xy rfl), Hp.le_put_new (Hp.le_push' (Hp.le_trans (Hp.le_trans leG1 hout1.le) hown7.le) _) (by have := leG1.1; omega) _, ?_⟩
       rw [← hall]
       have se : G7.sees ((H7.push (.own 0 [.slice none 0 0, .int .i64 0, .int .u64 0])).put H7.size (.own 0 [.slice A7 (rowN (none : Option RowT)).length k7, .int .i64 (rowC none), .int .u64 (rowM none)])) := Hp.sees_put_new (hown7.le.sees.push _) (by omega) _
       exact hraw1.sl (hout1.le.sees.trans se) (hout1.sl.mono se))
    | (refine ⟨_, X4 (Xy rfl), Hp.le_trans leG0 (Hp.le_trans hout.le hown1.le), ?_⟩
       have h0 : most.toNat - rows.length = 0 := by omega
       rw [h0] at hall
       simp only [allN, List.append_nil] at hall
       rw [← hall]
       exact hraw.sl (hout.le.sees.trans hown1.le.sees) (hout.sl.mono hown1.le.sees))
end Go.Proofs.Ytcaeoebphfjfiaa.Am


/- Variables that hang from nobody. -/
namespace Go.Proofs.Ytcaeoebphfjfiaa.Am
open Go Go.RowKit
set_option maxRecDepth 100000
set_option linter.unusedVariables false
set_option linter.unusedSimpArgs false

def apartL (ways : Int) (m : Nat) : List Link := (List.range m).map fun (k : Nat) => ⟨k, k, k, ways⟩
def apartF (k : Nat) : Forest := ⟨List.replicate k ⟨#[120]⟩, (List.range k).map fun (i : Nat) => (i : Int), List.replicate k (-1), List.replicate k [], List.replicate k []⟩
def apartP (ways : Int) (sizes : List Int) : Parts := ⟨sizes.map fun m => apartL ways m.toNat, sizes.map fun _ => []⟩
theorem apartL_next (ways : Int) (m : Nat) : apartL ways (m + 1) = apartL ways m ++ [⟨m, m, m, ways⟩] := by
  unfold apartL
  rw [List.range_succ, List.map_append]; rfl
theorem apartL_len (ways : Int) (m : Nat) : (apartL ways m).length = m := by unfold apartL; simp
structure ApartR (G : Hp) (ways : Int) (sizes : List Int) (i : Nat) (nds : List (List Value)) : Prop where
  len : nds.length = i
  at_ : ∀ (j : Nat) (h : j < nds.length) (h' : j < sizes.length), ∃ w, nds[j] = [w] ∧ Sl kLink G w (apartL ways sizes[j].toNat)
theorem ApartR.mono {G G' : Hp} (h : G.sees G') {ways : Int} {sizes : List Int} {i : Nat} {nds : List (List Value)} (hr : ApartR G ways sizes i nds) : ApartR G' ways sizes i nds :=
  ⟨hr.len, fun j a b => let ⟨w, h1, h2⟩ := hr.at_ j a b; ⟨w, h1, h2.mono h⟩⟩
theorem ApartR.snoc {G : Hp} {ways : Int} {sizes : List Int} {i : Nat} {nds : List (List Value)} (hr : ApartR G ways sizes i nds) (hi : i < sizes.length) {w : Value} (hs : Sl kLink G w (apartL ways sizes[i].toNat)) : ApartR G ways sizes (i + 1) (nds ++ [[w]]) := by
  have hl := hr.len
  refine ⟨by simp [hl], fun j a b => ?_⟩
  rw [List.length_append, List.length_singleton] at a
  by_cases h : j < nds.length
  · rw [List.getElem_append_left h]; exact hr.at_ j h b
  · obtain rfl : j = nds.length := by omega
    rw [List.getElem_append_right (Nat.le_refl _)]
    simp only [Nat.sub_self, List.getElem_cons_zero]
    subst hl
    exact ⟨w, rfl, hs⟩
theorem rep_next {α : Type} (n : Nat) (x : α) : List.replicate n x ++ [x] = List.replicate (n + 1) x := by rw [List.replicate_succ']
def eStr (v : Value) (i : Nat) : Ent := ⟨1, by decide, v, List.replicate i [.string ⟨#[120]⟩]⟩
def eInt (v : Value) (i : Nat) : Ent := ⟨1, by decide, v, (List.range i).map fun (k : Nat) => [.int .i64 k]⟩
def eNeg (v : Value) (i : Nat) : Ent := ⟨1, by decide, v, List.replicate i [.int .i64 (-1)]⟩
def Vo (v : Value) (i : Nat) : Ent := ⟨1, by decide, v, List.replicate i [.slice none 0 0]⟩
def eNds (v : Value) (nds : List (List Value)) : Ent := ⟨1, by decide, v, nds⟩
theorem range_cells (i : Nat) : ((List.range i).map fun (k : Nat) => [Value.int .i64 k]) ++ [[.int .i64 i]] = (List.range (i + 1)).map fun (k : Nat) => [Value.int .i64 k] := by rw [List.range_succ, List.map_append]; rfl
theorem eStr_next (v w : Value) (i : Nat) : (⟨(eStr v i).sz, (eStr v i).pos, w, (eStr v i).raws ++ [[.string ⟨#[120]⟩]]⟩ : Ent) = eStr w (i + 1) := by unfold eStr; simp only [rep_next]
theorem eInt_next (v w : Value) (i : Nat) : (⟨(eInt v i).sz, (eInt v i).pos, w, (eInt v i).raws ++ [[.int .i64 i]]⟩ : Ent) = eInt w (i + 1) := by unfold eInt; simp only [range_cells]
theorem eNeg_next (v w : Value) (i : Nat) : (⟨(eNeg v i).sz, (eNeg v i).pos, w, (eNeg v i).raws ++ [[.int .i64 (-1)]]⟩ : Ent) = eNeg w (i + 1) := by unfold eNeg; simp only [rep_next]
theorem eNil_next (v w : Value) (i : Nat) : (⟨(Vo v i).sz, (Vo v i).pos, w, (Vo v i).raws ++ [[.slice none 0 0]]⟩ : Ent) = Vo w (i + 1) := by unfold Vo; simp only [rep_next]
theorem eNds_next (v w : Value) (nds : List (List Value)) (x : List Value) : (⟨(eNds v nds).sz, (eNds v nds).pos, w, (eNds v nds).raws ++ [x]⟩ : Ent) = eNds w (nds ++ [x]) := rfl
def BxP (H G : Hp) (b2 b3 : List Value) : Prop := H.le G ∧ H.size + 4 ≤ G.size ∧ G.get H.size = .own 0 [.slice none 0 0, .slice none 0 0, .slice none 0 0, .slice none 0 0, .slice none 0 0] ∧ G.get (H.size + 1) = .own 0 [.slice none 0 0, .slice none 0 0] ∧ G.get (H.size + 2) = .own 0 b2 ∧ G.get (H.size + 3) = .own 0 b3
theorem BxP.le {H G G' : Hp} {b2 b3 : List Value} (h : BxP H G b2 b3) (hle : G.le G') : BxP H G' b2 b3 :=
  ⟨Hp.le_trans h.1 hle, Nat.le_trans h.2.1 hle.1, Xv hle (by have := h.2.1; omega) (by intro e; cases e) h.2.2.1, Xv hle (by have := h.2.1; omega) (by intro e; cases e) h.2.2.2.1, Xv hle (by have := h.2.1; omega) (by intro e; cases e) h.2.2.2.2.1, Xv hle (by have := h.2.1; omega) (by intro e; cases e) h.2.2.2.2.2⟩
theorem BxP.put2 {H G : Hp} {b2 b3 : List Value} (h : BxP H G b2 b3) (b2' : List Value) : BxP H (G.put (H.size + 2) (.own 0 b2')) b2' b3 :=
  ⟨Hp.le_put_new h.1 (by omega) _, h.2.1, by rw [Hp.put_other _ _ (by omega)]; exact h.2.2.1, by rw [Hp.put_other _ _ (by omega)]; exact h.2.2.2.1, Hp.put_same _ _ _, by rw [Hp.put_other _ _ (by omega)]; exact h.2.2.2.2.2⟩
theorem BxP.put3 {H G : Hp} {b2 b3 : List Value} (h : BxP H G b2 b3) (b3' : List Value) : BxP H (G.put (H.size + 3) (.own 0 b3')) b2 b3' :=
  ⟨Hp.le_put_new h.1 (by omega) _, h.2.1, by rw [Hp.put_other _ _ (by omega)]; exact h.2.2.1, by rw [Hp.put_other _ _ (by omega)]; exact h.2.2.2.1, by rw [Hp.put_other _ _ (by omega)]; exact h.2.2.2.2.1, Hp.put_same _ _ _⟩
theorem Zj {H : Hp} {h : 1 ≠ 0} {v : Value} {raws : List (List Value)} {i : Nat} (hs : Sl (kCel 1 h) H v raws) (hl : raws.length = i) : ∃ A c, v = .slice A i c := by
  obtain ⟨A, c, e⟩ := hs.shape
  exact ⟨A, c, by rw [e, hl]⟩
set_option maxHeartbeats 4000000 in
theorem Apart_ok (ways : Int) (sizes : List Int) (u : Value) (H : Hp) (hs : Sl (Y4 .i64) H u sizes) (hl : sizes.length ≤ 1000) (hm : ∀ m ∈ sizes, m ≤ 100000) :
    ACalls Try.prog 30 #[.int .u64 ways, u] H (fun r H' => ∃ cs ds, r = .tuple #[.agg cs.toArray, .agg ds.toArray] ∧ kForest.rep H' (apartF sizes.length) cs ∧ kParts.rep H' (apartP ways sizes) ds ∧ H.le H') := by
  obtain ⟨Au, cu, rfl⟩ := hs.shape
  refine Xq Try.func30 rfl rfl rfl (by simp) ?_
  refine Xd ?_
  refine Xb (by kernel_rfl) ?_
  refine X1 (Yo (l := [.slice none 0 0, .slice none 0 0, .slice none 0 0, .slice none 0 0, .slice none 0 0]) inf26.zero rfl (by decide)) ?_
  refine X1 (Yo (l := [.slice none 0 0, .slice none 0 0]) inf29.zero rfl (by decide)) ?_
  refine Xd ?_
  refine Xb (by kernel_rfl) ?_
  refine Xa (Yv (pl := [(0, 1), (1, 1), (2, 1), (3, 1), (4, 1)]) (r := [.slice _ _ _, .slice _ _ _, .slice _ _ _, .slice _ _ _, .slice _ _ _]) Try.underlying26 inf26.zero (by decide) rfl rfl) ?_
  refine Xa (Yv (pl := [(0, 1), (1, 1)]) (r := [.slice _ _ _, .slice _ _ _]) Try.underlying29 inf29.zero (by decide) rfl rfl) ?_
  refine X1 (Yo (l := [.slice none 0 0, .slice none 0 0, .slice none 0 0, .slice none 0 0, .slice none 0 0]) inf26.zero rfl (by decide)) ?_
  refine X1 (Yo (l := [.slice none 0 0, .slice none 0 0]) inf29.zero rfl (by decide)) ?_
  refine Xx (Yd (vs := [.slice _ _ _, .slice _ _ _, .slice _ _ _, .slice _ _ _, .slice _ _ _]) rfl rfl inf26.size X9 X8 rfl rfl ?_)
  refine Xx (Yd (vs := [.slice _ _ _, .slice _ _ _]) rfl rfl inf29.size X9 X8 rfl rfl ?_)
  refine Xd ?_
  refine Xd ?_
  refine Xb (by kernel_rfl) ?_
  refine Xa (Xo rfl) ?_
  refine Yi ?_
  refine Zd (fun n t H' => ∃ (i : Nat) (G : Hp) (v0 v1 v2 v3 v4 v5 v6 : Value) (nds : List (List Value)), i ≤ sizes.length ∧ n = sizes.length - i ∧ BxP H G [v0, v1, v2, v3, v4] [v5, v6] ∧ OwnL G [eStr v0 i, eInt v1 i, eNeg v2 i, Vo v3 i, Vo v4 i, eNds v5 nds, Vo v6 i] H' ∧ ApartR G ways sizes i nds ∧ t 0 = .int .u64 ways ∧ t 1 = .slice Au sizes.length cu ∧ t 4 = .pointer (some ⟨H.size, 0, none⟩) ∧ t 5 = .pointer (some ⟨H.size + 1, 0, none⟩) ∧ t 6 = .pointer (some ⟨H.size + 2, 0, none⟩) ∧ t 7 = .pointer (some ⟨H.size + 3, 0, none⟩) ∧ t 8 = .int .i64 i) (sizes.length) (⟨0, _, .slice none 0 0, .slice none 0 0, .slice none 0 0, .slice none 0 0, .slice none 0 0, .slice none 0 0, .slice none 0 0, [], by omega, rfl, ⟨t_le, by simp, X9, X9, X9, X9⟩, ⟨_, OwnP.nil _ _, _, OwnP.nil _ _, _, OwnP.nil _ _, _, OwnP.nil _ _, _, OwnP.nil _ _, _, OwnP.nil _ _, _, OwnP.nil _ _, rfl⟩, ⟨rfl, fun j h _ => absurd h (Nat.not_lt_zero _)⟩, rfl, rfl, rfl, rfl, rfl, rfl, rfl⟩) ?_
  rintro n t H1 ⟨i, G, v0, v1, v2, v3, v4, v5, v6, nds, hi, rfl, hb, hown, hr, e0, e1, e4, e5, e6, e7, e8⟩
  obtain ⟨A0, k0, rfl⟩ := Zj (hown.sl (eStr v0 i) (by simp)) (List.length_replicate)
  obtain ⟨A1, k1, rfl⟩ := Zj (hown.sl (eInt v1 i) (by simp)) (show ((List.range i).map fun (k : Nat) => [Value.int .i64 k]).length = i by simp)
  obtain ⟨A2, k2, rfl⟩ := Zj (hown.sl (eNeg v2 i) (by simp)) (List.length_replicate)
  obtain ⟨A3, k3, rfl⟩ := Zj (hown.sl (Vo v3 i) (by simp)) (List.length_replicate)
  obtain ⟨A4, k4, rfl⟩ := Zj (hown.sl (Vo v4 i) (by simp)) (List.length_replicate)
  obtain ⟨A5, k5, rfl⟩ := Zj (hown.sl (eNds v5 nds) (by simp)) hr.len
  obtain ⟨A6, k6, rfl⟩ := Zj (hown.sl (Vo v6 i) (by simp)) (List.length_replicate)
  have bH := hb.le hown.le
  obtain ⟨leH1, zH1, q0, q1, q2, q3⟩ := id bH
  have zz := hown.size
  refine Xd ?_
  refine Xd ?_
  refine Xb (by kernel_rfl) ?_
  refine Xa (Xc Xn) ?_
  refine Xa (X2 Xn) ?_
  refine Xa (Yw rfl Try.underlying23) ?_
  refine Xa (Zl rfl rfl) ?_
  refine Yb rfl rfl ?_ ?_
  intro hc1
  (try simp only [decide_eq_true_eq, decide_eq_false_iff_not, Bool.not_eq_true', Bool.not_eq_false'] at hc1)
  refine Yf ?_
  refine Xd ?_
  refine Yi ?_
  refine Xd ?_
  have hix : i < sizes.length := by omega
  have zz5 := hown.size
  have hL := (((hown.push (.own 1 [.string ⟨#[120]⟩])).push (.own 1 [.int .i64 i])).push (.own 1 [.int .i64 (-1)]))
  have leP : G.le (((G.push (.own 1 [.string ⟨#[120]⟩])).push (.own 1 [.int .i64 i])).push (.own 1 [.int .i64 (-1)])) := Hp.le_trans (Hp.le_trans (Hp.le_push (G) (.own 1 [.string ⟨#[120]⟩])) (Hp.le_push ((G.push (.own 1 [.string ⟨#[120]⟩]))) (.own 1 [.int .i64 i]))) (Hp.le_push (((G.push (.own 1 [.string ⟨#[120]⟩])).push (.own 1 [.int .i64 i]))) (.own 1 [.int .i64 (-1)]))
  have bL := hb.le leP
  have rL := hr.mono leP.sees
  have l0 : (((G.push (.own 1 [.string ⟨#[120]⟩])).push (.own 1 [.int .i64 i])).push (.own 1 [.int .i64 (-1)])).get (H1.size) = .own 1 [.string ⟨#[120]⟩] := by rw [zz5]; exact X9
  have l1 : (((G.push (.own 1 [.string ⟨#[120]⟩])).push (.own 1 [.int .i64 i])).push (.own 1 [.int .i64 (-1)])).get (H1.size + 1) = .own 1 [.int .i64 i] := by rw [zz5]; exact X9
  have l2 : (((G.push (.own 1 [.string ⟨#[120]⟩])).push (.own 1 [.int .i64 i])).push (.own 1 [.int .i64 (-1)])).get (H1.size + 2) = .own 1 [.int .i64 (-1)] := by rw [zz5]; exact X9
  have zL : H1.size + 3 ≤ (((G.push (.own 1 [.string ⟨#[120]⟩])).push (.own 1 [.int .i64 i])).push (.own 1 [.int .i64 (-1)])).size := by simp; omega
  obtain ⟨GP, hGP⟩ : ∃ GP, GP = (((G.push (.own 1 [.string ⟨#[120]⟩])).push (.own 1 [.int .i64 i])).push (.own 1 [.int .i64 (-1)])) := ⟨_, rfl⟩
  rw [← hGP] at hL bL rL zL l0 l1 l2
  clear hGP leP
  refine Yx (by kernel_rfl) (Y3 (B := [0, 1, 0, 7, 0, 16, 0, 64, 255, 0, 512, 0, 4095, 1599, 16383, 32767, 65535, 131071, 262143]) (π := [0, 1, 2, 4, 5, 6, 7, 9, 10, 11, 3, 13, 8, 12, 14, 15, 16, 17, 18]) (by kernel_rfl)) ?_
  refine Xe rfl rfl (Xg (off := 0) Xn Try.underlying26 Xn inf22.size (by decide) Xn) Xs ?_
  refine Xe rfl rfl (Xk rfl Try.underlying22 rfl Xt) Xs ?_
  first | refine Zf rfl rfl (Yg (r := [.string _]) Try.underlying22 inf9.size inf9.zero rfl (by decide) (by decide) (by decide) rfl) ?_
  refine Xe rfl rfl (Xg (off := 1) Xn Try.underlying26 Xn inf23.size (by decide) Xn) Xs ?_
  refine Xe rfl rfl (Xk rfl Try.underlying23 rfl Xt) Xs ?_
  refine Xe rfl rfl (Xc Xn) Xs ?_
  first | refine Zf rfl rfl (Yg (r := [.int .i64 _]) Try.underlying23 inf3.size inf3.zero rfl (by decide) (by decide) (by decide) rfl) ?_
  refine Xe rfl rfl (Xg (off := 2) Xn Try.underlying26 Xn inf23.size (by decide) Xn) Xs ?_
  refine Xe rfl rfl (Xk rfl Try.underlying23 rfl Xt) Xs ?_
  first | refine Zf rfl rfl (Yg (r := [.int .i64 _]) Try.underlying23 inf3.size inf3.zero rfl (by decide) (by decide) (by decide) rfl) ?_
  obtain ⟨Ga0, leGa0, ha0, back0⟩ := hL.rot.last
  have zGa := leGa0.1
  obtain ⟨_, zA, qa, qb, qc, qd⟩ := bL.le leGa0
  have m0 := Xv leGa0 (by omega) (by intro e; cases e) l0
  have m1 := Xv leGa0 (by omega) (by intro e; cases e) l1
  have m2 := Xv leGa0 (by omega) (by intro e; cases e) l2
  refine Yj rfl rfl (Ent.append ha0 Try.underlying22 inf9 Xn Xn rfl (lb := H1.size) (by omega) m0 rfl (by intro v hv; simp at hv; subst hv; rfl) (by simp only [eStr, List.length_replicate]; omega) (by decide) ?_)
  rintro w0 Gb0 Hb0 leb0 hb0
  have hsameO := Ent.sameO ha0 leb0 hb0
  obtain ⟨Gc0, lec0, hc0⟩ := back0 Gb0 Hb0 _ leb0 hb0
  rw [eStr_next] at hc0 hb0
  obtain ⟨W0, cw0, rfl⟩ : ∃ A c, w0 = Value.slice A (i + 1) c := Zj (i := i + 1) (OwnP.sl hb0) (by simp [eStr])
  have bb0 := (bL.le lec0).le hc0.le
  obtain ⟨_, zb, qa0, qb0, qc0, qd0⟩ := id bb0
  have l1b := Xv hc0.le (by have := lec0.1; omega) (by intro e; cases e) (Xv lec0 (by omega) (by intro e; cases e) l1)
  have l2b := Xv hc0.le (by have := lec0.1; omega) (by intro e; cases e) (Xv lec0 (by omega) (by intro e; cases e) l2)
  refine ⟨Yh, ?_⟩
  clear hsameO qa qb qc qd m0 m1 m2
  clear l1b
  have l1 := Xv lec0 (by omega) (by intro e; cases e) l1
  clear l2b
  have l2 := Xv lec0 (by omega) (by intro e; cases e) l2
  replace bL := bL.le lec0
  replace rL := rL.mono lec0.sees
  replace zL := Nat.le_trans zL lec0.1
  clear hL
  have hL := hc0
  have zH0 := hL.size
  refine Xe rfl rfl (Xg (off := 0) Xn Try.underlying26 Xn inf22.size (by decide) Xn) Xs ?_
  obtain ⟨Ga1, leGa1, ha1, back1⟩ := hL.rot.last
  have zGa := leGa1.1
  obtain ⟨_, zA, qa, qb, qc, qd⟩ := bL.le leGa1
  have m0 := Xv leGa1 (by omega) (by intro e; cases e) l1
  have m1 := Xv leGa1 (by omega) (by intro e; cases e) l2
  refine Yj rfl rfl (Ent.append ha1 Try.underlying23 inf3 Xn Xn rfl (lb := H1.size + 1) (by omega) m0 rfl (by intro v hv; simp at hv; subst hv; rfl) (by simp only [eInt, List.length_map, List.length_range]; omega) (by decide) ?_)
  rintro w1 Gb1 Hb1 leb1 hb1
  have hsameO := Ent.sameO ha1 leb1 hb1
  obtain ⟨Gc1, lec1, hc1⟩ := back1 Gb1 Hb1 _ leb1 hb1
  rw [eInt_next] at hc1 hb1
  obtain ⟨W1, cw1, rfl⟩ : ∃ A c, w1 = Value.slice A (i + 1) c := Zj (i := i + 1) (OwnP.sl hb1) (by simp [eInt])
  have bb1 := (bL.le lec1).le hc1.le
  obtain ⟨_, zb, qa1, qb1, qc1, qd1⟩ := id bb1
  have l2b := Xv hc1.le (by have := lec1.1; omega) (by intro e; cases e) (Xv lec1 (by omega) (by intro e; cases e) l2)
  refine ⟨Yh, ?_⟩
  clear hsameO qa qb qc qd m0 m1
  clear l2b
  have l2 := Xv lec1 (by omega) (by intro e; cases e) l2
  replace bL := bL.le lec1
  replace rL := rL.mono lec1.sees
  replace zL := Nat.le_trans zL lec1.1
  clear hL
  have hL := hc1
  have zH1 := hL.size
  obtain ⟨Ga2, leGa2, ha2, back2⟩ := hL.rot.last
  have zGa := leGa2.1
  obtain ⟨_, zA, qa, qb, qc, qd⟩ := bL.le leGa2
  have m0 := Xv leGa2 (by omega) (by intro e; cases e) l2
  refine Yj rfl rfl (Ent.append ha2 Try.underlying23 inf3 Xn Xn rfl (lb := H1.size + 2) (by omega) m0 rfl (by intro v hv; simp at hv; subst hv; rfl) (by simp only [eNeg, List.length_replicate]; omega) (by decide) ?_)
  rintro w2 Gb2 Hb2 leb2 hb2
  have hsameO := Ent.sameO ha2 leb2 hb2
  obtain ⟨Gc2, lec2, hc2⟩ := back2 Gb2 Hb2 _ leb2 hb2
  rw [eNeg_next] at hc2 hb2
  obtain ⟨W2, cw2, rfl⟩ : ∃ A c, w2 = Value.slice A (i + 1) c := Zj (i := i + 1) (OwnP.sl hb2) (by simp [eNeg])
  have bb2 := (bL.le lec2).le hc2.le
  obtain ⟨_, zb, qa2, qb2, qc2, qd2⟩ := id bb2
  refine ⟨Yh, ?_⟩
  clear hsameO qa qb qc qd m0
  replace bL := bL.le lec2
  replace rL := rL.mono lec2.sees
  replace zL := Nat.le_trans zL lec2.1
  clear hL
  have hL := hc2
  have zH2 := hL.size
  first | refine Yj rfl rfl (Ys rfl rfl rfl inf22.size X9 X8 rfl ?_)
  refine ⟨Yh, ?_⟩
  refine Xe rfl rfl (Xg (off := 1) Xn Try.underlying26 Xn inf23.size (by decide) Xn) Xs ?_
  first | refine Yj rfl rfl (Ys rfl rfl rfl inf23.size X9 X8 rfl ?_)
  refine ⟨Yh, ?_⟩
  refine Xe rfl rfl (Xg (off := 2) Xn Try.underlying26 Xn inf23.size (by decide) Xn) Xs ?_
  first | refine Yj rfl rfl (Ys rfl rfl rfl inf23.size X9 X8 rfl ?_)
  refine ⟨Yh, ?_⟩
  refine Xd ?_
  obtain ⟨H6, hH6⟩ : ∃ H6, H6 = Hb2.put (H.size + 2) (.own 0 [.slice W0 (i + 1) cw0, .slice W1 (i + 1) cw1, .slice W2 (i + 1) cw2, .slice A3 i k3, .slice A4 i k4]) := ⟨_, rfl⟩
  obtain ⟨G6, hG6⟩ : ∃ G6, G6 = Gc2.put (H.size + 2) (.own 0 [.slice W0 (i + 1) cw0, .slice W1 (i + 1) cw1, .slice W2 (i + 1) cw2, .slice A3 i k3, .slice A4 i k4]) := ⟨_, rfl⟩
  have ownG6 := hL.put_box (by have := bL.2.1; omega) bL.2.2.2.2.1 [.slice W0 (i + 1) cw0, .slice W1 (i + 1) cw1, .slice W2 (i + 1) cw2, .slice A3 i k3, .slice A4 i k4]
  have bG6 := bL.put2 [.slice W0 (i + 1) cw0, .slice W1 (i + 1) cw1, .slice W2 (i + 1) cw2, .slice A3 i k3, .slice A4 i k4]
  have rG6 := rL.mono (Hp.sees_box (cs' := [.slice W0 (i + 1) cw0, .slice W1 (i + 1) cw1, .slice W2 (i + 1) cw2, .slice A3 i k3, .slice A4 i k4]) _ bL.2.2.2.2.1)
  rw [← hG6] at ownG6 bG6 rG6
  rw [← hH6] at ownG6
  change ACode true _ _ _ _ _ (((Hb2.put (H.size + 2) (.own 0 [.slice W0 (i + 1) cw0, .slice A1 i k1, .slice A2 i k2, .slice A3 i k3, .slice A4 i k4])).put (H.size + 2) (.own 0 [.slice W0 (i + 1) cw0, .slice W1 (i + 1) cw1, .slice A2 i k2, .slice A3 i k3, .slice A4 i k4])).put (H.size + 2) (.own 0 [.slice W0 (i + 1) cw0, .slice W1 (i + 1) cw1, .slice W2 (i + 1) cw2, .slice A3 i k3, .slice A4 i k4]))
  rw [Hp.put_put]
  rw [Hp.put_put]
  rw [← hH6]
  clear hH6 hG6 hL bL rL zL
  have bbH6 := bG6.le ownG6.le
  obtain ⟨_, zzH6, s0H6, s1H6, s2H6, s3H6⟩ := id bbH6
  have zz6 := ownG6.size
  have hL := ((ownG6.push (.own 1 [.slice none 0 0])).push (.own 1 [.slice none 0 0]))
  have leP : G6.le ((G6.push (.own 1 [.slice none 0 0])).push (.own 1 [.slice none 0 0])) := Hp.le_trans (Hp.le_push (G6) (.own 1 [.slice none 0 0])) (Hp.le_push ((G6.push (.own 1 [.slice none 0 0]))) (.own 1 [.slice none 0 0]))
  have bL := bG6.le leP
  have rL := rG6.mono leP.sees
  have l0 : ((G6.push (.own 1 [.slice none 0 0])).push (.own 1 [.slice none 0 0])).get (H6.size) = .own 1 [.slice none 0 0] := by rw [zz6]; exact X9
  have l1 : ((G6.push (.own 1 [.slice none 0 0])).push (.own 1 [.slice none 0 0])).get (H6.size + 1) = .own 1 [.slice none 0 0] := by rw [zz6]; exact X9
  have zL : H6.size + 2 ≤ ((G6.push (.own 1 [.slice none 0 0])).push (.own 1 [.slice none 0 0])).size := by simp; omega
  obtain ⟨GP, hGP⟩ : ∃ GP, GP = ((G6.push (.own 1 [.slice none 0 0])).push (.own 1 [.slice none 0 0])) := ⟨_, rfl⟩
  rw [← hGP] at hL bL rL zL l0 l1
  clear hGP leP
  refine Yx (by kernel_rfl) (Y3 (B := [0, 1, 0, 7, 0, 16, 0, 127, 63, 511, 1023, 2047]) (π := [0, 1, 2, 4, 5, 6, 3, 8, 7, 9, 10, 11]) (by kernel_rfl)) ?_
  refine Xe rfl rfl (Xg (off := 3) Xn Try.underlying26 Xn inf24.size (by decide) Xn) Xs ?_
  refine Xe rfl rfl (Xk rfl Try.underlying24 rfl Xt) Xs ?_
  refine Zf rfl rfl (Yg (r := [.slice _ _ _]) Try.underlying24 inf23.size inf23.zero rfl (by decide) (by decide) (by decide) rfl) ?_
  refine Xe rfl rfl (Xg (off := 4) Xn Try.underlying26 Xn inf24.size (by decide) Xn) Xs ?_
  refine Xe rfl rfl (Xk rfl Try.underlying24 rfl Xt) Xs ?_
  refine Zf rfl rfl (Yg (r := [.slice _ _ _]) Try.underlying24 inf23.size inf23.zero rfl (by decide) (by decide) (by decide) rfl) ?_
  obtain ⟨Ga3, leGa3, ha3, back3⟩ := hL.rot.last
  have zGa := leGa3.1
  obtain ⟨_, zA, qa, qb, qc, qd⟩ := bL.le leGa3
  have m0 := Xv leGa3 (by omega) (by intro e; cases e) l0
  have m1 := Xv leGa3 (by omega) (by intro e; cases e) l1
  refine Yj rfl rfl (Ent.append ha3 Try.underlying24 inf23 Xn Xn rfl (lb := H6.size) (by omega) m0 rfl (by intro v hv; simp at hv; subst hv; rfl) (by simp only [Vo, List.length_replicate]; omega) (by decide) ?_)
  rintro w3 Gb3 Hb3 leb3 hb3
  have hsameO := Ent.sameO ha3 leb3 hb3
  obtain ⟨Gc3, lec3, hc3⟩ := back3 Gb3 Hb3 _ leb3 hb3
  rw [eNil_next] at hc3 hb3
  obtain ⟨W3, cw3, rfl⟩ : ∃ A c, w3 = Value.slice A (i + 1) c := Zj (i := i + 1) (OwnP.sl hb3) (by simp [Vo])
  have bb3 := (bL.le lec3).le hc3.le
  obtain ⟨_, zb, qa3, qb3, qc3, qd3⟩ := id bb3
  have l1b := Xv hc3.le (by have := lec3.1; omega) (by intro e; cases e) (Xv lec3 (by omega) (by intro e; cases e) l1)
  refine ⟨Yh, ?_⟩
  clear hsameO qa qb qc qd m0 m1
  clear l1b
  have l1 := Xv lec3 (by omega) (by intro e; cases e) l1
  replace bL := bL.le lec3
  replace rL := rL.mono lec3.sees
  replace zL := Nat.le_trans zL lec3.1
  clear hL
  have hL := hc3
  have zH3 := hL.size
  refine Xe rfl rfl (Xg (off := 3) Xn Try.underlying26 Xn inf24.size (by decide) Xn) Xs ?_
  obtain ⟨Ga4, leGa4, ha4, back4⟩ := hL.rot.last
  have zGa := leGa4.1
  obtain ⟨_, zA, qa, qb, qc, qd⟩ := bL.le leGa4
  have m0 := Xv leGa4 (by omega) (by intro e; cases e) l1
  refine Yj rfl rfl (Ent.append ha4 Try.underlying24 inf23 Xn Xn rfl (lb := H6.size + 1) (by omega) m0 rfl (by intro v hv; simp at hv; subst hv; rfl) (by simp only [Vo, List.length_replicate]; omega) (by decide) ?_)
  rintro w4 Gb4 Hb4 leb4 hb4
  have hsameO := Ent.sameO ha4 leb4 hb4
  obtain ⟨Gc4, lec4, hc4⟩ := back4 Gb4 Hb4 _ leb4 hb4
  rw [eNil_next] at hc4 hb4
  obtain ⟨W4, cw4, rfl⟩ : ∃ A c, w4 = Value.slice A (i + 1) c := Zj (i := i + 1) (OwnP.sl hb4) (by simp [Vo])
  have bb4 := (bL.le lec4).le hc4.le
  obtain ⟨_, zb, qa4, qb4, qc4, qd4⟩ := id bb4
  refine ⟨Yh, ?_⟩
  clear hsameO qa qb qc qd m0
  replace bL := bL.le lec4
  replace rL := rL.mono lec4.sees
  replace zL := Nat.le_trans zL lec4.1
  clear hL
  have hL := hc4
  have zH4 := hL.size
  first | refine Yj rfl rfl (Ys rfl rfl rfl inf24.size X9 X8 rfl ?_)
  refine ⟨Yh, ?_⟩
  refine Xe rfl rfl (Xg (off := 4) Xn Try.underlying26 Xn inf24.size (by decide) Xn) Xs ?_
  first | refine Yj rfl rfl (Ys rfl rfl rfl inf24.size X9 X8 rfl ?_)
  refine ⟨Yh, ?_⟩
  refine Xd ?_
  obtain ⟨H7, hH7⟩ : ∃ H7, H7 = Hb4.put (H.size + 2) (.own 0 [.slice W0 (i + 1) cw0, .slice W1 (i + 1) cw1, .slice W2 (i + 1) cw2, .slice W3 (i + 1) cw3, .slice W4 (i + 1) cw4]) := ⟨_, rfl⟩
  obtain ⟨G7, hG7⟩ : ∃ G7, G7 = Gc4.put (H.size + 2) (.own 0 [.slice W0 (i + 1) cw0, .slice W1 (i + 1) cw1, .slice W2 (i + 1) cw2, .slice W3 (i + 1) cw3, .slice W4 (i + 1) cw4]) := ⟨_, rfl⟩
  have ownG7 := hL.put_box (by have := bL.2.1; omega) bL.2.2.2.2.1 [.slice W0 (i + 1) cw0, .slice W1 (i + 1) cw1, .slice W2 (i + 1) cw2, .slice W3 (i + 1) cw3, .slice W4 (i + 1) cw4]
  have bG7 := bL.put2 [.slice W0 (i + 1) cw0, .slice W1 (i + 1) cw1, .slice W2 (i + 1) cw2, .slice W3 (i + 1) cw3, .slice W4 (i + 1) cw4]
  have rG7 := rL.mono (Hp.sees_box (cs' := [.slice W0 (i + 1) cw0, .slice W1 (i + 1) cw1, .slice W2 (i + 1) cw2, .slice W3 (i + 1) cw3, .slice W4 (i + 1) cw4]) _ bL.2.2.2.2.1)
  rw [← hG7] at ownG7 bG7 rG7
  rw [← hH7] at ownG7
  change ACode true _ _ _ _ _ ((Hb4.put (H.size + 2) (.own 0 [.slice W0 (i + 1) cw0, .slice W1 (i + 1) cw1, .slice W2 (i + 1) cw2, .slice W3 (i + 1) cw3, .slice A4 i k4])).put (H.size + 2) (.own 0 [.slice W0 (i + 1) cw0, .slice W1 (i + 1) cw1, .slice W2 (i + 1) cw2, .slice W3 (i + 1) cw3, .slice W4 (i + 1) cw4]))
  rw [Hp.put_put]
  rw [← hH7]
  clear hH7 hG7 hL bL rL zL
  have bbH7 := bG7.le ownG7.le
  obtain ⟨_, zzH7, s0H7, s1H7, s2H7, s3H7⟩ := id bbH7
  have lit7 := OwnP.lit kLink H7 (cs := [])
  have own7 := ownG7.push .dead
  have b7 := bG7.le (G7.le_push .dead)
  have r7 := rG7.mono (G7.le_push .dead).sees
  obtain ⟨bs, os, es, hbs, hcs⟩ := (hs.mono leH1.sees).int_at (i := (i : Int)) (by omega) (by omega)
  subst es
  rw [Int.toNat_natCast, Ze hix] at hcs
  have hmi := hm _ (List.getElem_mem hix)
  have hcs0 : H.cell? bs (os + i * 1) = some (.int .i64 sizes[i]) := by
    obtain ⟨b9, o9, e9, hb9, hc9⟩ := hs.int_at (i := (i : Int)) (by omega) (by omega)
    simp only [Option.some.injEq, Addr.mk.injEq, and_true] at e9
    obtain ⟨rfl, rfl⟩ := e9
    rwa [Int.toNat_natCast, Ze hix] at hc9
  have hbs0 : bs < H.size := by
    obtain ⟨b9, o9, e9, hb9, hc9⟩ := hs.int_at (i := (i : Int)) (by omega) (by omega)
    simp only [Option.some.injEq, Addr.mk.injEq, and_true] at e9
    obtain ⟨rfl, rfl⟩ := e9
    exact hb9
  have hlen7 : nds.length = i := hr.len
  refine Xb (by kernel_rfl) ?_
  first | refine X1 (Yg (r := []) Try.underlying50 inf54.size inf54.zero rfl (by decide) (by decide) (by decide) rfl) ?_
  refine Xa (X5 rfl) ?_
  refine Xd ?_
  refine Xd ?_
  refine Xb (by kernel_rfl) ?_
  refine Xa (Xo rfl) ?_
  refine Yi ?_
  refine Zd (fun n t H' => ∃ (k : Nat) (Gx Gm : Hp) (C : Option Addr) (c9 : Nat), k ≤ sizes[i].toNat ∧ n = sizes[i].toNat - k ∧ BxP H Gx [.slice W0 (i + 1) cw0, .slice W1 (i + 1) cw1, .slice W2 (i + 1) cw2, .slice W3 (i + 1) cw3, .slice W4 (i + 1) cw4] [.slice A5 i k5, .slice A6 i k6] ∧ OwnL Gx [eNds (.slice A5 i k5) nds, Vo (.slice A6 i k6) i, eStr (.slice W0 (i + 1) cw0) (i + 1), eInt (.slice W1 (i + 1) cw1) (i + 1), eNeg (.slice W2 (i + 1) cw2) (i + 1), Vo (.slice W3 (i + 1) cw3) (i + 1), Vo (.slice W4 (i + 1) cw4) (i + 1)] Gm ∧ ApartR Gx ways sizes i nds ∧ OwnP kLink Gm H' (.slice C k c9) (apartL ways k) ∧ t 0 = .int .u64 ways ∧ t 1 = .slice (some ⟨bs, os, none⟩) sizes.length cu ∧ t 4 = .pointer (some ⟨H.size, 0, none⟩) ∧ t 5 = .pointer (some ⟨H.size + 1, 0, none⟩) ∧ t 6 = .pointer (some ⟨H.size + 2, 0, none⟩) ∧ t 7 = .pointer (some ⟨H.size + 3, 0, none⟩) ∧ t 8 = .int .i64 i ∧ t 9 = .slice C k c9 ∧ t 10 = .int .i64 k) (sizes[i].toNat) (⟨0, _, _, _, _, by omega, rfl, b7, own7, r7, lit7, e0, e1, e4, e5, e6, e7, e8, rfl, rfl⟩) ?_
  rintro n t H8 ⟨k, Gx, Gm, C, c9, hk, rfl, bx, ownx, rx, ownl, e0, e1, e4, e5, e6, e7, e8, e9, e10⟩
  have leH8 := (bx.le (Hp.le_trans ownx.le ownl.le)).1
  have hcs8 := leH8.cell1 hbs0 hcs0
  have hll := apartL_len ways k
  have zl := ownl.size
  refine Xd ?_
  refine Xd ?_
  refine Xb (by kernel_rfl) ?_
  refine Xa (Xc Xn) ?_
  refine Xa (X2 Xn) ?_
  refine Xa (Xc Xn) ?_
  refine Xa (Xw rfl rfl Try.underlying23 inf3.size X7 X7) ?_
  refine Xa (Xk rfl Try.underlying3 rfl Xt) ?_
  refine Xa (Zl rfl rfl) ?_
  refine Yb rfl rfl ?_ ?_
  intro hc2
  (try simp only [decide_eq_true_eq, decide_eq_false_iff_not, Bool.not_eq_true', Bool.not_eq_false'] at hc2)
  refine Yf ?_
  refine Xd ?_
  refine Yi ?_
  refine Xb (by kernel_rfl) ?_
  refine Xa (X2 Xn) ?_
  refine Xa (Xc Xn) ?_
  refine Xa (Xc Xn) ?_
  refine Xa (Xc Xn) ?_
  refine Xa (Xc Xn) ?_
  refine Xa (Yv (pl := [(0, 1), (1, 1), (2, 1), (3, 1)]) (r := [.int .i64 _, .int .i64 _, .int .i64 _, .int .u64 _]) Try.underlying54 inf54.zero (by decide) rfl rfl) ?_
  first | refine X1 (Yg (r := [.int .i64 _, .int .i64 _, .int .i64 _, .int .u64 _]) Try.underlying50 inf54.size inf54.zero rfl (by decide) (by decide) (by decide) rfl) ?_
  refine Xx (OwnP.append (ys := [⟨k, k, k, ways⟩]) (ownl.push _) Try.underlying50 inf54 Xn Xn rfl (Vg (k := kLink) rfl rfl ownl.size rfl) (by rw [hll]; simp only [List.length_singleton]; omega) (by rw [hll]; simp only [List.length_singleton]; omega) ?_)
  rintro w9 G9 H9 le9 own9
  obtain ⟨C9, c99, e99⟩ := own9.shape
  rw [← apartL_next] at own9
  rw [List.length_append, hll, List.length_singleton] at e99
  subst e99
  obtain ⟨Gy, ley, owny⟩ := ownx.later (Hp.le_trans (Gm.le_push _) le9)
  refine Xa (X5 rfl) ?_
  refine Xb (by kernel_rfl) ?_
  refine Xa (Xc Xn) ?_
  refine Xa (Yu rfl rfl Y7) ?_
  refine Xa (Xo rfl) ?_
  exact ⟨sizes[i].toNat - (k + 1), by omega, k + 1, Gy, G9, C9, c99, by omega, rfl, bx.le ley, owny, rx.mono ley.sees, own9, e0, e1, e4, e5, e6, e7, e8, rfl, rfl⟩
  intro hc2
  (try simp only [decide_eq_true_eq, decide_eq_false_iff_not, Bool.not_eq_true', Bool.not_eq_false'] at hc2)
  refine Za ?_
  obtain rfl : k = sizes[i].toNat := by omega
  obtain ⟨Gy, ley, owny⟩ := ownx.later ownl.le
  have by' := bx.le ley
  have slN := owny.below (k' := kLink) (fun st => Y2 st) (by intro e he; simp at he; rcases he with rfl | rfl | rfl | rfl | rfl | rfl | rfl <;> exact (show (1 : Nat) ≠ 4 by decide)) ownl.sl
  have ry := rx.mono ley.sees
  obtain ⟨_, zz8, s08, s18, s28, s38⟩ := by'.le owny.le
  have zz12 := owny.size
  have hL := ((owny.push (.own 1 [.slice C sizes[i].toNat c9])).push (.own 1 [.slice none 0 0]))
  have leP : Gy.le ((Gy.push (.own 1 [.slice C sizes[i].toNat c9])).push (.own 1 [.slice none 0 0])) := Hp.le_trans (Hp.le_push (Gy) (.own 1 [.slice C sizes[i].toNat c9])) (Hp.le_push ((Gy.push (.own 1 [.slice C sizes[i].toNat c9]))) (.own 1 [.slice none 0 0]))
  have bL := by'.le leP
  have rL := ry.mono leP.sees
  have sN := slN.mono leP.sees
  have l0 : ((Gy.push (.own 1 [.slice C sizes[i].toNat c9])).push (.own 1 [.slice none 0 0])).get (H8.size) = .own 1 [.slice C sizes[i].toNat c9] := by rw [zz12]; exact X9
  have l1 : ((Gy.push (.own 1 [.slice C sizes[i].toNat c9])).push (.own 1 [.slice none 0 0])).get (H8.size + 1) = .own 1 [.slice none 0 0] := by rw [zz12]; exact X9
  have zL : H8.size + 2 ≤ ((Gy.push (.own 1 [.slice C sizes[i].toNat c9])).push (.own 1 [.slice none 0 0])).size := by simp; omega
  obtain ⟨GP, hGP⟩ : ∃ GP, GP = ((Gy.push (.own 1 [.slice C sizes[i].toNat c9])).push (.own 1 [.slice none 0 0])) := ⟨_, rfl⟩
  rw [← hGP] at hL bL rL zL sN l0 l1
  clear hGP leP
  refine Yx (by kernel_rfl) (Y3 (B := [0, 1, 0, 4, 15, 0, 32, 0, 255, 127, 1023, 2047, 4095]) (π := [0, 1, 2, 3, 5, 6, 7, 4, 9, 8, 10, 11, 12]) (by kernel_rfl)) ?_
  refine Xe rfl rfl (Xg (off := 0) Xn Try.underlying29 Xn inf27.size (by decide) Xn) Xs ?_
  refine Xe rfl rfl (Xk rfl Try.underlying27 rfl Xt) Xs ?_
  refine Xe rfl rfl (X2 Xn) Xs ?_
  refine Zf rfl rfl (Yg (r := [.slice _ _ _]) Try.underlying27 inf50.size inf50.zero rfl (by decide) (by decide) (by decide) rfl) ?_
  refine Xe rfl rfl (Xg (off := 1) Xn Try.underlying29 Xn inf27.size (by decide) Xn) Xs ?_
  refine Xe rfl rfl (Xk rfl Try.underlying27 rfl Xt) Xs ?_
  refine Zf rfl rfl (Yg (r := [.slice _ _ _]) Try.underlying27 inf50.size inf50.zero rfl (by decide) (by decide) (by decide) rfl) ?_
  obtain ⟨Ga5, leGa5, ha5, back5⟩ := hL.rot.last
  have zGa := leGa5.1
  obtain ⟨_, zA, qa, qb, qc, qd⟩ := bL.le leGa5
  have m0 := Xv leGa5 (by omega) (by intro e; cases e) l0
  have m1 := Xv leGa5 (by omega) (by intro e; cases e) l1
  refine Yj rfl rfl (Ent.append ha5 Try.underlying27 inf50 Xn Xn rfl (lb := H8.size) (by omega) m0 rfl (by intro v hv; simp at hv; subst hv; rfl) (by simp only [eNds, rL.len]; omega) (by decide) ?_)
  rintro w5 Gb5 Hb5 leb5 hb5
  have hsameO := Ent.sameO ha5 leb5 hb5
  obtain ⟨Gc5, lec5, hc5⟩ := back5 Gb5 Hb5 _ leb5 hb5
  rw [eNds_next] at hc5 hb5
  obtain ⟨W5, cw5, rfl⟩ : ∃ A c, w5 = Value.slice A (i + 1) c := Zj (i := i + 1) (OwnP.sl hb5) (by simp [eNds, rL.len])
  have bb5 := (bL.le lec5).le hc5.le
  obtain ⟨_, zb, qa5, qb5, qc5, qd5⟩ := id bb5
  have l1b := Xv hc5.le (by have := lec5.1; omega) (by intro e; cases e) (Xv lec5 (by omega) (by intro e; cases e) l1)
  refine ⟨Yh, ?_⟩
  clear hsameO qa qb qc qd m0 m1
  clear l1b
  have l1 := Xv lec5 (by omega) (by intro e; cases e) l1
  replace bL := bL.le lec5
  replace sN := sN.mono lec5.sees
  replace rL := rL.mono lec5.sees
  replace zL := Nat.le_trans zL lec5.1
  clear hL
  have hL := hc5
  have zH5 := hL.size
  refine Xe rfl rfl (Xg (off := 0) Xn Try.underlying29 Xn inf27.size (by decide) Xn) Xs ?_
  obtain ⟨Ga6, leGa6, ha6, back6⟩ := hL.rot.last
  have zGa := leGa6.1
  obtain ⟨_, zA, qa, qb, qc, qd⟩ := bL.le leGa6
  have m0 := Xv leGa6 (by omega) (by intro e; cases e) l1
  refine Yj rfl rfl (Ent.append ha6 Try.underlying27 inf50 Xn Xn rfl (lb := H8.size + 1) (by omega) m0 rfl (by intro v hv; simp at hv; subst hv; rfl) (by simp only [Vo, List.length_replicate]; omega) (by decide) ?_)
  rintro w6 Gb6 Hb6 leb6 hb6
  have hsameO := Ent.sameO ha6 leb6 hb6
  obtain ⟨Gc6, lec6, hc6⟩ := back6 Gb6 Hb6 _ leb6 hb6
  rw [eNil_next] at hc6 hb6
  obtain ⟨W6, cw6, rfl⟩ : ∃ A c, w6 = Value.slice A (i + 1) c := Zj (i := i + 1) (OwnP.sl hb6) (by simp [Vo])
  have bb6 := (bL.le lec6).le hc6.le
  obtain ⟨_, zb, qa6, qb6, qc6, qd6⟩ := id bb6
  refine ⟨Yh, ?_⟩
  clear hsameO qa qb qc qd m0
  replace bL := bL.le lec6
  replace sN := sN.mono lec6.sees
  replace rL := rL.mono lec6.sees
  replace zL := Nat.le_trans zL lec6.1
  clear hL
  have hL := hc6
  have zH6 := hL.size
  first | refine Yj rfl rfl (Ys rfl rfl rfl inf27.size X9 X8 rfl ?_)
  refine ⟨Yh, ?_⟩
  refine Xe rfl rfl (Xg (off := 1) Xn Try.underlying29 Xn inf27.size (by decide) Xn) Xs ?_
  first | refine Yj rfl rfl (Ys rfl rfl rfl inf27.size X9 X8 rfl ?_)
  refine ⟨Yh, ?_⟩
  obtain ⟨H4, hH4⟩ : ∃ H4, H4 = Hb6.put (H.size + 3) (.own 0 [.slice W5 (i + 1) cw5, .slice W6 (i + 1) cw6]) := ⟨_, rfl⟩
  obtain ⟨G4, hG4⟩ : ∃ G4, G4 = Gc6.put (H.size + 3) (.own 0 [.slice W5 (i + 1) cw5, .slice W6 (i + 1) cw6]) := ⟨_, rfl⟩
  have ownG4 := hL.put_box (by have := bL.2.1; omega) bL.2.2.2.2.2 [.slice W5 (i + 1) cw5, .slice W6 (i + 1) cw6]
  have bG4 := bL.put3 [.slice W5 (i + 1) cw5, .slice W6 (i + 1) cw6]
  have rG4 := rL.mono (Hp.sees_box (cs' := [.slice W5 (i + 1) cw5, .slice W6 (i + 1) cw6]) _ bL.2.2.2.2.2)
  rw [← hG4] at ownG4 bG4 rG4
  rw [← hH4] at ownG4
  change ACode true _ _ _ _ _ ((Hb6.put (H.size + 3) (.own 0 [.slice W5 (i + 1) cw5, .slice A6 i k6])).put (H.size + 3) (.own 0 [.slice W5 (i + 1) cw5, .slice W6 (i + 1) cw6]))
  rw [Hp.put_put]
  rw [← hH4]
  have sN4 := sN.mono (Hp.sees_box (cs' := [.slice W5 (i + 1) cw5, .slice W6 (i + 1) cw6]) _ bL.2.2.2.2.2)
  rw [← hG4] at sN4
  clear hH4 hG4 hL bL rL zL
  have bbH4 := bG4.le ownG4.le
  obtain ⟨_, zzH4, s0H4, s1H4, s2H4, s3H4⟩ := id bbH4
  refine Xb (by kernel_rfl) ?_
  refine Xa (Xc Xn) ?_
  refine Xa (Yu rfl rfl Y7) ?_
  refine Xa (Xo rfl) ?_
  exact ⟨sizes.length - (i + 1), by omega, i + 1, G4, _, _, _, _, _, _, _, (nds ++ [[Value.slice C sizes[i].toNat c9]] : List (List Value)), by omega, rfl, bG4, ownG4, rG4.snoc hix sN4, e0, e1, e4, e5, e6, e7, rfl⟩
  intro hc1
  (try simp only [decide_eq_true_eq, decide_eq_false_iff_not, Bool.not_eq_true', Bool.not_eq_false'] at hc1)
  refine Za ?_
  refine Xd ?_
  refine Yx (by kernel_rfl) (Y3 (B := [0, 0, 1, 7]) (π := [0, 1, 2, 3]) (by kernel_rfl)) ?_
  refine Xe rfl rfl (Yr (cs := [.slice _ _ _, .slice _ _ _, .slice _ _ _, .slice _ _ _, .slice _ _ _]) Xn Try.underlying26 Xn inf26.size Yc) Xs ?_
  refine Xe rfl rfl (Yr (cs := [.slice _ _ _, .slice _ _ _]) Xn Try.underlying29 Xn inf29.size Yc) Xs ?_
  refine Yj rfl rfl (Yd (vs := [.slice _ _ _, .slice _ _ _, .slice _ _ _, .slice _ _ _, .slice _ _ _]) Xn Xn inf26.size X9 X8 Xn Xn ?_)
  refine ⟨Yh, ?_⟩
  refine Yj rfl rfl (Yd (vs := [.slice _ _ _, .slice _ _ _]) Xn Xn inf29.size X9 X8 Xn Xn ?_)
  refine ⟨Yh, ?_⟩
  refine X6 ?_
  obtain rfl : i = sizes.length := by omega
  have se := hown.le.sees
  have p0 := hown.sl (eStr (.slice A0 sizes.length k0) sizes.length) (by simp)
  have p1 := hown.sl (eInt (.slice A1 sizes.length k1) sizes.length) (by simp)
  have p2 := hown.sl (eNeg (.slice A2 sizes.length k2) sizes.length) (by simp)
  have p3 := hown.sl (Vo (.slice A3 sizes.length k3) sizes.length) (by simp)
  have p4 := hown.sl (Vo (.slice A4 sizes.length k4) sizes.length) (by simp)
  have p5 := hown.sl (eNds (.slice A5 sizes.length k5) nds) (by simp)
  have p6 := hown.sl (Vo (.slice A6 sizes.length k6) sizes.length) (by simp)
  have hrl := hr.len
  have hz1 : H1.sees (H1.put H.size (.own 0 [.slice A0 sizes.length k0, .slice A1 sizes.length k1, .slice A2 sizes.length k2, .slice A3 sizes.length k3, .slice A4 sizes.length k4])) := Hp.sees_box _ q0
  have hz2 : (H1.put H.size (.own 0 [.slice A0 sizes.length k0, .slice A1 sizes.length k1, .slice A2 sizes.length k2, .slice A3 sizes.length k3, .slice A4 sizes.length k4])).sees ((H1.put H.size (.own 0 [.slice A0 sizes.length k0, .slice A1 sizes.length k1, .slice A2 sizes.length k2, .slice A3 sizes.length k3, .slice A4 sizes.length k4])).put (H.size + 1) (.own 0 [.slice A5 sizes.length k5, .slice A6 sizes.length k6])) := Hp.sees_box (cs := [.slice none 0 0, .slice none 0 0]) _ (by rw [Hp.put_other _ _ (by omega)]; exact q1)
  have hz := hz1.trans hz2
  refine ⟨_, Yt (Yl Xn (Yk (cs := [.slice A0 sizes.length k0, .slice A1 sizes.length k1, .slice A2 sizes.length k2, .slice A3 sizes.length k3, .slice A4 sizes.length k4]) Try.underlying26 rfl inf26.size Yc)) (Yl Xn (Yk (cs := [.slice A5 sizes.length k5, .slice A6 sizes.length k6]) Try.underlying29 rfl inf29.size Yc)), [_, _, _, _, _], [_, _], rfl, ⟨_, _, _, _, _, rfl, ?_, ?_, ?_, ?_, ?_⟩, ⟨_, _, rfl, ?_, ?_⟩, Hp.le_put_new (Hp.le_put_new leH1 (Nat.le_refl _) _) (by omega) _⟩
  · exact Sl.conv (k := kStr) (p0.mono hz) (by simp [eStr, apartF]) (fun j a b => by simp [eStr, apartF, kStr])
  · exact Sl.conv (k := Y4 .i64) (p1.mono hz) (by simp [eInt, apartF]) (fun j a b => by simp [eInt, apartF, Y4])
  · exact Sl.conv (k := Y4 .i64) (p2.mono hz) (by simp [eNeg, apartF]) (fun j a b => by simp [eNeg, apartF, Y4])
  · exact Sl.conv (k := kSl (Y4 .i64)) (p3.mono hz) (by simp [Vo, apartF]) (fun j a b => by simp only [Vo, apartF, List.getElem_replicate]; exact ⟨_, rfl, Sl.nil _ _⟩)
  · exact Sl.conv (k := kSl (Y4 .i64)) (p4.mono hz) (by simp [Vo, apartF]) (fun j a b => by simp only [Vo, apartF, List.getElem_replicate]; exact ⟨_, rfl, Sl.nil _ _⟩)
  · exact Sl.conv (k := kSl kLink) (p5.mono hz) (by simp [eNds, apartP, hrl]) (fun j a b => by
      obtain ⟨w, h1, h2⟩ := hr.at_ j a (by simpa [apartP] using b)
      simp only [apartP, List.getElem_map]
      exact ⟨w, h1, (h2.mono se).mono hz⟩)
  · exact Sl.conv (k := kSl kLink) (p6.mono hz) (by simp [Vo, apartP]) (fun j a b => by simp only [Vo, apartP, List.getElem_replicate, List.getElem_map]; exact ⟨_, rfl, Sl.nil _ _⟩)
end Go.Proofs.Ytcaeoebphfjfiaa.Am


/- What is told of no tree and of no walk; the small living call of the statements on walks. -/
namespace Go.Proofs.Ytcaeoebphfjfiaa.Am
open Go Go.RowKit
set_option maxRecDepth 100000
set_option linter.unusedVariables false
set_option linter.unusedSimpArgs false

theorem allN_nodes {T : TreeT} (hT : GoodT T) (hA : Alive T) : ∀ (k : Nat) (S : Y9), ValS T S → (allN T k S).map RowT.nodes = (Zo T S).take k ∧ ∀ r ∈ allN T k S, rowT T r.nodes = some r
  | 0, S, _ => ⟨by simp [allN], fun r h => by cases h⟩
  | k + 1, S, hv => by
    obtain ⟨h1, h2, _, _⟩ := next_tells hT hA _ S hv (Nat.le_refl _)
    rw [allN]
    cases hn : Zk T S with
    | mk S1 o =>
      rw [hn] at h1 h2
      cases o with
      | none =>
        have h2 : Zo T S = [] ∧ _ := h2
        simp [h2.1]
      | some r =>
        have h2 : Zo T S = r.nodes :: Zo T S1 ∧ rowT T r.nodes = some r := h2
        obtain ⟨i1, i2⟩ := allN_nodes hT hA k S1 h1
        refine ⟨by simp only [List.map_cons, i1, h2.1, List.take_succ_cons], fun r' h => ?_⟩
        rcases List.mem_cons.1 h with rfl | h
        · exact h2.2
        · exact i2 r' h
theorem allN_len {T : TreeT} (hT : GoodT T) (hA : Alive T) (k : Nat) (S : Y9) (hv : ValS T S) : (allN T k S).length ≤ (Zo T S).length := by
  have h := congrArg List.length (allN_nodes hT hA k S hv).1
  rw [List.length_map, List.length_take] at h
  omega
def liveF : Forest := apartF 2
def liveP : Parts := apartP 1 [2, 2]
def liveT : TreeT := ⟨[⟨#[120]⟩, ⟨#[120]⟩], [-1, -1], [[⟨0, 0, 0, 1⟩, ⟨1, 1, 1, 1⟩], [⟨0, 0, 0, 1⟩, ⟨1, 1, 1, 1⟩]]⟩
theorem good_live : GoodP liveF liveP := by
  refine ⟨⟨rfl, rfl, rfl, rfl, fun i hi => ?_⟩, rfl, rfl, fun v hv => ?_⟩
  · have hi' : i < 2 := hi
    rcases (by omega : i = 0 ∨ i = 1) with rfl | rfl <;> (unfold OkF; decide)
  · have hv' : v < 2 := hv
    rcases (by omega : v = 0 ∨ v = 1) with rfl | rfl <;> (unfold OkP; rw [goodL_iff, goodL_iff]; unfold OkL; decide)
theorem small_live : Small liveF liveP := ⟨by decide, by decide, by decide, by decide, by decide, by decide, by decide⟩
theorem cheap_live : Cheap liveP := by
  refine ⟨fun v => ?_, fun v => ?_⟩
  · match v with
    | 0 => decide
    | 1 => decide
    | v + 2 => intro x hx; cases hx
  · match v with
    | 0 => decide
    | 1 => decide
    | v + 2 => intro x hx; cases hx
theorem of_live : ofP liveF liveP = liveP := by
  refine ofP_fix good_live.gf good_live.lens good_live.nb (fun v hv hp => ?_) (fun h => ?_)
  · have hv' : v < 2 := hv
    rcases (by omega : v = 0 ∨ v = 1) with rfl | rfl <;> exact absurd rfl hp
  · have : liveF.order.any (Z1 liveF liveP) = false := by decide
    rw [this] at h; cases h
theorem tree_live : Zn liveF (ofP liveF liveP) = liveT := by rw [of_live]; rfl
theorem goodT_live : GoodT liveT := by
  have h := ofP_all good_live
  have := good_tree (ofP_good good_live) (by rw [of_live]; exact small_live) (cheap_live.sub h.2.1) (by decide)
  rwa [tree_live] at this
theorem alive_live : Alive liveT := by have := alive_tree good_live; rwa [tree_live] at this
set_option maxHeartbeats 1000000 in
theorem lives31_ok (H : Hp) : ACalls Try.prog 46 #[] H (fun r H' => r = .bool true ∧ H.le H') := by
  refine Xq Try.func46 rfl rfl rfl (by simp) ?_
  refine Xd ?_
  refine Xb (by kernel_rfl) ?_
  refine Xa (Xh rfl) ?_
  refine Xd ?_
  refine Xb (by kernel_rfl) ?_
  first | refine X1 (Yg (r := [.int .i64 _, .int .i64 _]) Try.underlying23 inf3.size inf3.zero rfl (by decide) (by decide) (by decide) rfl) ?_
  refine Xx (Xz (Apart_ok 1 [2, 2] (.slice (some ⟨H.size, 0, none⟩) 2 2) _ (sl_two (k := Y4 .i64) X9 (by simp) rfl rfl rfl) (by decide) (by decide)) rfl Try.func30 rfl rfl rfl ?_)
  rintro v1 H1 ⟨cs1, ds1, rfl, hf1, hp1, hle1⟩; have hf10 := hf1; have hp10 := hp1; obtain ⟨a0, a1, a2, a3, a4, rfl, hs0, hs1, hs2, hs3, hs4⟩ := hf1; obtain ⟨A0, c0, rfl⟩ := hs0.shape; obtain ⟨A1, c1, rfl⟩ := hs1.shape; obtain ⟨A2, c2, rfl⟩ := hs2.shape; obtain ⟨A3, c3, rfl⟩ := hs3.shape; obtain ⟨A4, c4, rfl⟩ := hs4.shape; obtain ⟨u0, u1, rfl, hn0, hn1⟩ := hp1; obtain ⟨B0, d0, rfl⟩ := hn0.shape; obtain ⟨B1, d1, rfl⟩ := hn1.shape; have hz1 := hle1.1; simp only [Hp.push_size] at hz1
  refine Xa (Zh rfl) ?_
  refine Xa (Ya rfl rfl) ?_
  refine Xa (Ya rfl rfl) ?_
  refine X1 (Yo (l := [.slice none 0 0, .slice none 0 0, .slice none 0 0, .slice none 0 0, .slice none 0 0]) inf26.zero rfl (by decide)) ?_
  refine X1 (Yo (l := [.slice none 0 0, .slice none 0 0]) inf29.zero rfl (by decide)) ?_
  refine Xx (Yd (vs := [.slice _ _ _, .slice _ _ _, .slice _ _ _, .slice _ _ _, .slice _ _ _]) rfl rfl inf26.size X9 X8 rfl rfl ?_)
  refine Xx (Yd (vs := [.slice _ _ _, .slice _ _ _]) rfl rfl inf29.size X9 X8 rfl rfl ?_)
  refine Xd ?_
  refine Xb (by kernel_rfl) ?_
  refine Xa (Yr (cs := [.slice _ _ _, .slice _ _ _, .slice _ _ _, .slice _ _ _, .slice _ _ _]) rfl Try.underlying26 rfl inf26.size Yc) ?_
  refine Xa (Yr (cs := [.slice _ _ _, .slice _ _ _]) rfl Try.underlying29 rfl inf29.size Yc) ?_
  refine Xx (Xz (New_good liveF liveP _ _ _ (kForest.mono Zi hf10) (kParts.mono Zi hp10) small_live cheap_live good_live) rfl Try.func11 rfl rfl rfl ?_)
  rintro v2 H2 ⟨hle2, tb, rfl, htr⟩; rw [tree_live] at htr
  refine Xa (Zh rfl) ?_
  refine Xa (Ya rfl rfl) ?_
  refine Xa (Ya rfl rfl) ?_
  refine Xa (Y1 rfl) ?_
  refine Xa (Xo rfl) ?_
  refine Xd ?_
  have leH1 : H.le H1 := Hp.le_trans (H.le_push _) hle1
  have leH2 : H.le H2 := Hp.le_trans t_le hle2
  clear hle2
  refine Xb (by kernel_rfl) ?_
  refine Xa (Xp rfl) ?_
  refine Xx (Xz (All_gen goodT_live alive_live (some ⟨tb, 0, none⟩) w0 (.inl rfl) (fun H => fresh_tree tb H) _ (fun _ => htr) 9 (fun k => Nat.le_trans (allN_len goodT_live alive_live k w0 (val_w0 _)) (by decide))) rfl Try.func45 rfl rfl rfl ?_)
  rintro v3 H3 ⟨hle3, hs3⟩; rw [show allN liveT (9 : Int).toNat w0 = [⟨[0, 0], 0, 1⟩, ⟨[0, 1], 1, 1⟩, ⟨[1, 0], 1, 1⟩, ⟨[1, 1], 2, 1⟩] from rfl] at hs3; obtain ⟨A3, k3, rfl⟩ := hs3.shape
  refine Xa (X5 rfl) ?_
  refine Xd ?_
  obtain ⟨b5, o5, w5, e5, hb5, hc5, hw5⟩ := hs3.row_at (i := 1) (by decide)
  subst e5
  obtain ⟨A5, k5, rfl⟩ := hw5.shape
  have hc50 := hc5 0 _ rfl
  obtain ⟨b6, o6, e6, hb6, hc6⟩ := hw5.int_at (i := 0) (by decide) (by decide)
  obtain ⟨b7, o7, e7, hb7, hc7⟩ := hw5.int_at (i := 1) (by decide) (by decide)
  subst e6
  simp only [Option.some.injEq, Addr.mk.injEq, and_true] at e7
  obtain ⟨rfl, rfl⟩ := e7
  refine Xb (by kernel_rfl) ?_
  refine Xa (Xc rfl) ?_
  refine Xa (Vh rfl rfl) ?_
  refine Xa (Xr rfl) ?_
  refine Ye rfl rfl rfl ?_ ?_
  intro hg1
  have hp1 := hg1; try simp only [decide_eq_true_eq, decide_eq_false_iff_not, Bool.not_eq_true', Bool.not_eq_false'] at hp1
  refine Xl (Xi rfl rfl rfl hg1) (X2 rfl) ?_
  refine Xl (Xi rfl rfl rfl hg1) (Yw rfl Try.underlying82) ?_
  refine Xl (Xi rfl rfl rfl hg1) (Vh rfl rfl) ?_
  refine Xa (Xm (congrArg Value.bool hg1) rfl) ?_
  refine Xa (Xr rfl) ?_
  refine Ye rfl rfl rfl ?_ ?_
  intro hg2
  have hp2 := hg2; try simp only [decide_eq_true_eq, decide_eq_false_iff_not, Bool.not_eq_true', Bool.not_eq_false'] at hp2
  refine Xl (Xi rfl rfl rfl hg2) (X2 rfl) ?_
  refine Xl (Xi rfl rfl rfl hg2) (Xw rfl rfl Try.underlying82 inf44.size X7 X7) ?_
  refine Xl (Xi rfl rfl rfl hg2) (Xg (off := 0) rfl Try.underlying44 rfl inf23.size (by decide) rfl) ?_
  refine Xl (Xi rfl rfl rfl hg2) (Xk rfl Try.underlying23 rfl Xt) ?_
  refine Xl (Xi rfl rfl rfl hg2) (Yw rfl Try.underlying23) ?_
  refine Xl (Xi rfl rfl rfl hg2) (Vh rfl rfl) ?_
  refine Xa (Xm (congrArg Value.bool hg2) rfl) ?_
  refine Xa (Xr rfl) ?_
  refine Ye rfl rfl rfl ?_ ?_
  intro hg3
  have hp3 := hg3; try simp only [decide_eq_true_eq, decide_eq_false_iff_not, Bool.not_eq_true', Bool.not_eq_false'] at hp3
  refine Xl (Xi rfl rfl rfl hg3) (X2 rfl) ?_
  refine Xl (Xi rfl rfl rfl hg3) (Xw rfl rfl Try.underlying82 inf44.size X7 X7) ?_
  refine Xl (Xi rfl rfl rfl hg3) (Xg (off := 0) rfl Try.underlying44 rfl inf23.size (by decide) rfl) ?_
  refine Xl (Xi rfl rfl rfl hg3) (Xk rfl Try.underlying23 rfl Xt) ?_
  refine Xl (Xi rfl rfl rfl hg3) (Xw rfl rfl Try.underlying23 inf3.size X7 X7) ?_
  refine Xl (Xi rfl rfl rfl hg3) (Xk rfl Try.underlying3 rfl Xt) ?_
  refine Xl (Xi rfl rfl rfl hg3) (Vh rfl rfl) ?_
  refine Xa (Xm (congrArg Value.bool hg3) rfl) ?_
  refine Xa (Xr rfl) ?_
  refine Ye rfl rfl rfl ?_ ?_
  intro hg4
  have hp4 := hg4; try simp only [decide_eq_true_eq, decide_eq_false_iff_not, Bool.not_eq_true', Bool.not_eq_false'] at hp4
  refine Xl (Xi rfl rfl rfl hg4) (X2 rfl) ?_
  refine Xl (Xi rfl rfl rfl hg4) (Xw rfl rfl Try.underlying82 inf44.size X7 X7) ?_
  refine Xl (Xi rfl rfl rfl hg4) (Xg (off := 0) rfl Try.underlying44 rfl inf23.size (by decide) rfl) ?_
  refine Xl (Xi rfl rfl rfl hg4) (Xk rfl Try.underlying23 rfl Xt) ?_
  refine Xl (Xi rfl rfl rfl hg4) (Xw rfl rfl Try.underlying23 inf3.size X7 X7) ?_
  refine Xl (Xi rfl rfl rfl hg4) (Xk rfl Try.underlying3 rfl Xt) ?_
  refine Xl (Xi rfl rfl rfl hg4) (Vh rfl rfl) ?_
  refine Xa (Xm (congrArg Value.bool hg4) rfl) ?_
  refine Xa (Xh rfl) ?_
  refine X6 ?_
  exact ⟨.bool true, X4 (Xy rfl), rfl, Hp.le_trans leH2 hle3⟩
  intro hg4
  exact absurd hg4 (by decide)
  intro hg3
  exact absurd hg3 (by decide)
  intro hg2
  exact absurd hg2 (by decide)
  intro hg1
  exact absurd hg1 (by decide)
theorem step_no (H : Hp) : ACalls Try.prog 68 #[.pointer none] H (fun r H' => r = .tuple #[.agg #[.slice none 0 0, .int .i64 0, .int .u64 0], .bool false] ∧ H.le H') := by
  refine Xq Try.func68 rfl rfl rfl (by simp) ?_
  refine Xd ?_
  refine Xb (by kernel_rfl) ?_
  refine X1 (Yo (l := [.slice none 0 0, .int .i64 0, .int .u64 0]) inf44.zero rfl (by decide)) ?_
  refine Xa (Xh rfl) ?_
  refine Xd ?_
  refine Xd ?_
  refine Xb (by kernel_rfl) ?_
  refine Xa (Xp rfl) ?_
  refine Xa (Zc rfl t_spot rfl Try.underlying76) ?_
  refine Xa (Xr rfl) ?_
  refine Ye rfl rfl rfl ?_ ?_
  intro hg1
  have hp1 := hg1; try simp only [decide_eq_true_eq, decide_eq_false_iff_not, Bool.not_eq_true', Bool.not_eq_false'] at hp1
  refine Xf (Xj rfl rfl rfl hg1 rfl) ?_
  refine Xf (Xj rfl rfl rfl hg1 rfl) ?_
  refine Xf (Xj rfl rfl rfl hg1 rfl) ?_
  refine Xf (Xj rfl rfl rfl hg1 rfl) ?_
  refine Xa (Xm (congrArg Value.bool hg1) rfl) ?_
  refine Yp rfl rfl ?_
  refine Xd ?_
  refine Xb (by kernel_rfl) ?_
  refine Xa (Yv (pl := [(0, 1), (1, 1), (2, 1)]) (r := [.slice _ _ _, .int .i64 _, .int .u64 _]) Try.underlying44 inf44.zero (by decide) rfl rfl) ?_
  refine Xx (Yd (vs := [.slice _ _ _, .int .i64 _, .int .u64 _]) rfl rfl inf44.size X9 X8 rfl rfl ?_)
  refine Xa (Xh rfl) ?_
  refine X6 ?_
  exact ⟨_, Yt (Yl Xn (Yk (cs := [_, _, _]) Try.underlying44 rfl inf44.size Yc)) (Xy rfl), rfl, Hp.le_put_new (H.le_push _) (Nat.le_refl _) _⟩
  intro hg1
  exact absurd hg1 (by decide)
theorem next_no (H : Hp) : ACalls Try.prog 69 #[.pointer none] H (fun r H' => r = .tuple #[.agg #[.slice none 0 0, .int .i64 0, .int .u64 0], .bool false] ∧ H.le H') := by
  refine Xq Try.func69 rfl rfl rfl (by simp) ?_
  refine Xd ?_
  refine Xb (by kernel_rfl) ?_
  refine X1 (Yo (l := [.slice none 0 0, .int .i64 0, .int .u64 0]) inf44.zero rfl (by decide)) ?_
  refine Xa (Xh rfl) ?_
  refine Xd ?_
  refine Yi ?_
  refine Zd (fun n t H' => n = 0 ∧ H' = H.push (.own 0 [.slice none 0 0, .int .i64 0, .int .u64 0]) ∧ t 0 = .pointer none ∧ t 2 = .pointer (some ⟨H.size, 0, none⟩)) (0) (⟨rfl, rfl, rfl, rfl⟩) ?_
  rintro n t H1 ⟨rfl, rfl, e0, e2⟩
  refine Xd ?_
  refine Xd ?_
  refine Xb (by kernel_rfl) ?_
  refine Xa (Xp Xn) ?_
  refine Xa (av_ptr_ne_nil rfl rfl Try.underlying76) ?_
  refine Xa (Xr rfl) ?_
  refine Ye rfl rfl rfl ?_ ?_
  intro hg1
  exact absurd hg1 (by decide)
  intro hg1
  have hp1 := hg1; try simp only [decide_eq_true_eq, decide_eq_false_iff_not, Bool.not_eq_true', Bool.not_eq_false'] at hp1
  refine Xf (Xj rfl rfl rfl hg1 rfl) ?_
  refine Xf (Xj rfl rfl rfl hg1 rfl) ?_
  refine Xf (Xj rfl rfl rfl hg1 rfl) ?_
  refine Xf (Xj rfl rfl rfl hg1 rfl) ?_
  refine Xf (Xj rfl rfl rfl hg1 rfl) ?_
  refine Xa (Xm (congrArg Value.bool hg1) Xn) ?_
  refine Zb rfl rfl ?_
  refine Za ?_
  refine Xd ?_
  refine Xb (by kernel_rfl) ?_
  refine Xa (Yv (pl := [(0, 1), (1, 1), (2, 1)]) (r := [.slice _ _ _, .int .i64 _, .int .u64 _]) Try.underlying44 inf44.zero (by decide) rfl rfl) ?_
  refine Xx (Yd (vs := [.slice _ _ _, .int .i64 _, .int .u64 _]) Xn Xn inf44.size X9 X8 Xn Xn ?_)
  refine Xa (Xh rfl) ?_
  refine X6 ?_
  exact ⟨_, Yt (Yl Xn (Yk (cs := [_, _, _]) Try.underlying44 rfl inf44.size Yc)) (Xy rfl), rfl, Hp.le_put_new (H.le_push _) (Nat.le_refl _) _⟩
theorem Step_no (H : Hp) : ACalls Try.prog 37 #[.pointer none] H (fun r H' => r = .tuple #[.agg #[.slice none 0 0, .int .i64 0, .int .u64 0], .bool false] ∧ H.le H') := by
  refine Xq Try.func37 rfl rfl rfl (by simp) ?_
  refine Xd ?_
  refine Xb (by kernel_rfl) ?_
  refine X1 (Yo (l := [.slice none 0 0, .int .i64 0, .int .u64 0]) inf44.zero rfl (by decide)) ?_
  refine Xa (Xh rfl) ?_
  refine Xd ?_
  refine Xb (by kernel_rfl) ?_
  refine Xa (Xp rfl) ?_
  refine Xx (Xz (step_no _) rfl Try.func68 rfl rfl rfl ?_)
  rintro v5 H5 ⟨rfl, hle5⟩; have hz5 := hle5.1; simp only [Hp.push_size] at hz5
  refine Xa (Ya rfl rfl) ?_
  refine Xa (Ya rfl rfl) ?_
  refine Xx (Yd (vs := [.slice _ _ _, .int .i64 _, .int .u64 _]) rfl rfl inf44.size X9 X8 rfl rfl ?_)
  refine Xa (Xh rfl) ?_
  refine X6 ?_
  exact ⟨_, Yt (Yl Xn (Yk (cs := [_, _, _]) Try.underlying44 rfl inf44.size Yc)) (Xy rfl), rfl, Hp.le_put_new (Hp.le_trans (H.le_push _) hle5) (Nat.le_refl _) _⟩
theorem Next_no (H : Hp) : ACalls Try.prog 38 #[.pointer none] H (fun r H' => r = .tuple #[.agg #[.slice none 0 0, .int .i64 0, .int .u64 0], .bool false] ∧ H.le H') := by
  refine Xq Try.func38 rfl rfl rfl (by simp) ?_
  refine Xd ?_
  refine Xb (by kernel_rfl) ?_
  refine X1 (Yo (l := [.slice none 0 0, .int .i64 0, .int .u64 0]) inf44.zero rfl (by decide)) ?_
  refine Xa (Xh rfl) ?_
  refine Xd ?_
  refine Xb (by kernel_rfl) ?_
  refine Xa (Xp rfl) ?_
  refine Xx (Xz (next_no _) rfl Try.func69 rfl rfl rfl ?_)
  rintro v5 H5 ⟨rfl, hle5⟩; have hz5 := hle5.1; simp only [Hp.push_size] at hz5
  refine Xa (Ya rfl rfl) ?_
  refine Xa (Ya rfl rfl) ?_
  refine Xx (Yd (vs := [.slice _ _ _, .int .i64 _, .int .u64 _]) rfl rfl inf44.size X9 X8 rfl rfl ?_)
  refine Xa (Xh rfl) ?_
  refine X6 ?_
  exact ⟨_, Yt (Yl Xn (Yk (cs := [_, _, _]) Try.underlying44 rfl inf44.size Yc)) (Xy rfl), rfl, Hp.le_put_new (Hp.le_trans (H.le_push _) hle5) (Nat.le_refl _) _⟩
theorem Over_no (H : Hp) : ACalls Try.prog 42 #[.pointer none] H (fun r H' => r = .bool true ∧ H' = H) := by
  refine Xq Try.func42 rfl rfl rfl (by simp) ?_
  refine Xd ?_
  refine Xb (by kernel_rfl) ?_
  refine Xa (Xh rfl) ?_
  refine Xd ?_
  refine Xb (by kernel_rfl) ?_
  refine Xa (Xp rfl) ?_
  refine Xa (Zc rfl t_spot rfl Try.underlying76) ?_
  refine Xa (Xr rfl) ?_
  refine Ye rfl rfl rfl ?_ ?_
  intro hg1
  have hp1 := hg1; try simp only [decide_eq_true_eq, decide_eq_false_iff_not, Bool.not_eq_true', Bool.not_eq_false'] at hp1
  refine Xf (Xj rfl rfl rfl hg1 rfl) ?_
  refine Xf (Xj rfl rfl rfl hg1 rfl) ?_
  refine Xf (Xj rfl rfl rfl hg1 rfl) ?_
  refine Xf (Xj rfl rfl rfl hg1 rfl) ?_
  refine Xa (Xm (congrArg Value.bool hg1) rfl) ?_
  refine Xa (Xh rfl) ?_
  refine X6 ?_
  exact ⟨.bool true, X4 (Xy rfl), rfl, rfl⟩
  intro hg1
  exact absurd hg1 (by decide)
theorem Steps_no (H : Hp) : ACalls Try.prog 43 #[.pointer none] H (fun r H' => r = .int .i64 0 ∧ H' = H) := by
  refine Xq Try.func43 rfl rfl rfl (by simp) ?_
  refine Xd ?_
  refine Xb (by kernel_rfl) ?_
  refine Xa (Xo rfl) ?_
  refine Xd ?_
  refine Xd ?_
  refine Xb (by kernel_rfl) ?_
  refine Xa (Xp rfl) ?_
  refine Xa (Zc rfl t_spot rfl Try.underlying76) ?_
  refine Yb rfl rfl ?_ ?_
  intro hc1
  (try simp only [decide_eq_true_eq, decide_eq_false_iff_not, Bool.not_eq_true', Bool.not_eq_false'] at hc1)
  refine Xd ?_
  refine Xb (by kernel_rfl) ?_
  refine Xa (Xo rfl) ?_
  refine X6 ?_
  exact ⟨.int .i64 0, X4 (Xy rfl), rfl, rfl⟩
  intro hc1
  exact absurd hc1 (by decide)
theorem To_no (u : Value) (H : Hp) : ACalls Try.prog 44 #[.pointer none, u] H (fun r H' => r = .bool false ∧ H' = H) := by
  refine Xq Try.func44 rfl rfl rfl (by simp) ?_
  refine Xd ?_
  refine Xb (by kernel_rfl) ?_
  refine Xa (Xh rfl) ?_
  refine Xd ?_
  refine Xd ?_
  refine Xb (by kernel_rfl) ?_
  refine Xa (Xp rfl) ?_
  refine Xa (Zc rfl t_spot rfl Try.underlying76) ?_
  refine Yb rfl rfl ?_ ?_
  intro hc1
  (try simp only [decide_eq_true_eq, decide_eq_false_iff_not, Bool.not_eq_true', Bool.not_eq_false'] at hc1)
  refine Xd ?_
  refine Xb (by kernel_rfl) ?_
  refine Xa (Xh rfl) ?_
  refine X6 ?_
  exact ⟨.bool false, X4 (Xy rfl), rfl, rfl⟩
  intro hc1
  exact absurd hc1 (by decide)
end Go.Proofs.Ytcaeoebphfjfiaa.Am


/- The statement EachNone, as the abstract machine runs it. -/
namespace Go.Proofs.Ytcaeoebphfjfiaa.Am
open Go Go.RowKit
set_option maxRecDepth 100000
set_option linter.unusedVariables false
set_option linter.unusedSimpArgs false

theorem Behind_no (A : Option Addr) (n c : Nat) (H : Hp) : ACalls Try.prog 40 #[.pointer none, .slice A n c] H (fun r H' => r = .tuple #[.agg #[.slice none 0 0, .int .i64 0, .int .u64 0], .bool false] ∧ H.le H') := by
  refine Xq Try.func40 rfl rfl rfl (by simp) ?_
  refine Xd ?_
  refine Xb (by kernel_rfl) ?_
  refine X1 (am_box_sl rfl) ?_
  refine X1 (Yo (l := [.slice none 0 0, .int .i64 0, .int .u64 0]) inf44.zero rfl (by decide)) ?_
  refine Xa (Xh rfl) ?_
  refine Xd ?_
  refine Xd ?_
  refine Yx (by kernel_rfl) (Y3 (B := [0, 1, 3, 7, 15, 7, 39, 127, 255]) (π := [0, 1, 2, 3, 4, 5, 6, 7, 8]) (by kernel_rfl)) ?_
  refine Xe rfl rfl (Xp rfl) Xs ?_
  refine Xe rfl rfl (Zc rfl t_spot rfl Try.underlying33) Xs ?_
  refine Xe rfl rfl (Xr rfl) Xs ?_
  refine Z7 rfl rfl rfl rfl ?_ ?_
  intro hg1
  have hp1 := hg1; try simp only [decide_eq_true_eq, decide_eq_false_iff_not, Bool.not_eq_true', Bool.not_eq_false'] at hp1
  refine Xu rfl (Xj rfl rfl rfl hg1 rfl) ?_
  refine Xu rfl (Xj rfl rfl rfl hg1 rfl) ?_
  refine Xu rfl (Xj rfl rfl rfl hg1 rfl) ?_
  refine Xu rfl (Xj rfl rfl rfl hg1 rfl) ?_
  refine Xu rfl (Xj rfl rfl rfl hg1 rfl) ?_
  refine Xe rfl rfl (Xm (congrArg Value.bool hg1) rfl) Xs ?_
  refine Yp rfl rfl ?_
  refine Xd ?_
  refine Xb (by kernel_rfl) ?_
  refine Xa (Yv (pl := [(0, 1), (1, 1), (2, 1)]) (r := [.slice _ _ _, .int .i64 _, .int .u64 _]) Try.underlying44 inf44.zero (by decide) rfl rfl) ?_
  refine Xx (Yd (vs := [.slice _ _ _, .int .i64 _, .int .u64 _]) rfl rfl inf44.size X9 X8 rfl rfl ?_)
  refine Xa (Xh rfl) ?_
  refine X6 ?_
  · exact ⟨_, Yt (Yl Xn (Yk (cs := [_, _, _]) Try.underlying44 rfl inf44.size Yc)) (Xy rfl), rfl, Hp.le_put_new (Hp.le_push' (H.le_push _) _) (by first | (simp; done) | (simp; omega) | omega) _⟩
  intro hg1
  exact absurd hg1 (by decide)
set_option maxHeartbeats 2000000 in
theorem EachNone_ok (ns : List Int) (vn : Value) (H : Hp) (hn : Sl (Y4 .i64) H vn ns) (hbn : ns.length ≤ 9223372036854775807) :
    ACalls Try.prog 7 #[vn] H (fun r H' => r = .bool true ∧ H.le H') := by
  obtain ⟨An, cn, rfl⟩ := hn.shape
  have hno : Zk noT w1 = (w1, none) := next_over rfl
  refine Xq Try.func7 rfl rfl rfl (by simp) ?_
  refine Xd ?_
  refine Xb (by kernel_rfl) ?_
  refine Xa (Xh rfl) ?_
  refine Xd ?_
  refine Xb (by kernel_rfl) ?_
  refine Xa (Y1 rfl) ?_
  refine Xd ?_
  refine Xb (by kernel_rfl) ?_
  refine Xa (Xp rfl) ?_
  refine Xx (Xz (Step_no _) rfl Try.func37 rfl rfl rfl ?_)
  rintro v1 H1 ⟨rfl, hle1⟩
  refine Xa (Zh rfl) ?_
  refine Xa (Ya rfl rfl) ?_
  refine Xa (Ya rfl rfl) ?_
  refine X1 (Yo (l := [.slice none 0 0, .int .i64 0, .int .u64 0]) inf44.zero rfl (by decide)) ?_
  refine Xx (Yd (vs := [.slice _ _ _, .int .i64 _, .int .u64 _]) rfl rfl inf44.size X9 X8 rfl rfl ?_)
  refine Xa (Xh rfl) ?_
  refine Xd ?_
  refine Xb (by kernel_rfl) ?_
  refine Xa (Xp rfl) ?_
  refine Xx (Xz (Next_no _) rfl Try.func38 rfl rfl rfl ?_)
  rintro v2 H2 ⟨rfl, hle2⟩
  refine Xa (Zh rfl) ?_
  refine Xa (Ya rfl rfl) ?_
  refine Xa (Ya rfl rfl) ?_
  refine X1 (Yo (l := [.slice none 0 0, .int .i64 0, .int .u64 0]) inf44.zero rfl (by decide)) ?_
  refine Xx (Yd (vs := [.slice _ _ _, .int .i64 _, .int .u64 _]) rfl rfl inf44.size X9 X8 rfl rfl ?_)
  refine Xa (Xh rfl) ?_
  refine Xd ?_
  refine Xb (by kernel_rfl) ?_
  refine Xx (Xz (First_gen good_noT alive_noT none w1 (.inr rfl) (fun H => fresh_nil H) _ (fun h => by cases h)) rfl Try.func39 rfl rfl rfl ?_)
  rintro v3 H3 ⟨hle3, A3, c3, rfl, sl3⟩
  refine Xa (Zh rfl) ?_
  refine Xa (Ya rfl rfl) ?_
  refine Xa (Ya rfl rfl) ?_
  refine X1 (Yo (l := [.slice none 0 0, .int .i64 0, .int .u64 0]) inf44.zero rfl (by decide)) ?_
  refine Xx (Yd (vs := [.slice _ _ _, .int .i64 _, .int .u64 _]) rfl rfl inf44.size X9 X8 rfl rfl ?_)
  refine Xa (Xh rfl) ?_
  refine Xd ?_
  have le1 := Hp.le_put_new (Hp.le_push' hle1 (.own 0 [.slice none 0 0, .int .i64 0, .int .u64 0])) hle1.1 (.own 0 [.slice none 0 0, .int .i64 0, .int .u64 0])
  have le2 := Hp.le_trans le1 hle2
  have le2' := Hp.le_put_new (Hp.le_push' le2 (.own 0 [.slice none 0 0, .int .i64 0, .int .u64 0])) le2.1 (.own 0 [.slice none 0 0, .int .i64 0, .int .u64 0])
  have le3 := Hp.le_trans le2' hle3
  have le3' := Hp.le_put_new (Hp.le_push' le3 (.own 0 [.slice none 0 0, .int .i64 0, .int .u64 0])) le3.1 (.own 0 [.slice A3 (rowN (Zk noT w1).2).length c3, .int .i64 (rowC (Zk noT w1).2), .int .u64 (rowM (Zk noT w1).2)])
  refine Xb (by kernel_rfl) ?_
  refine Xa (X2 rfl) ?_
  refine Xx (Xz (Few_ints ns _ 5 _ (hn.mono le3'.sees) hbn (by omega) (by omega)) rfl Try.func10 rfl rfl rfl ?_)
  rintro v4 H4 ⟨hle4, hs4⟩; obtain ⟨A4, c4, rfl⟩ := hs4.shape
  refine Xx (Xz (Behind_no _ _ _ _) rfl Try.func40 rfl rfl rfl ?_)
  rintro v5 H5 ⟨rfl, hle5⟩
  refine Xa (Zh rfl) ?_
  refine Xa (Ya rfl rfl) ?_
  refine Xa (Ya rfl rfl) ?_
  refine X1 (Yo (l := [.slice none 0 0, .int .i64 0, .int .u64 0]) inf44.zero rfl (by decide)) ?_
  refine Xx (Yd (vs := [.slice _ _ _, .int .i64 _, .int .u64 _]) rfl rfl inf44.size X9 X8 rfl rfl ?_)
  refine Xa (Xh rfl) ?_
  refine Xd ?_
  have le5 := Hp.le_trans (Hp.le_trans le3' hle4) hle5
  have le5' := Hp.le_put_new (Hp.le_push' le5 (.own 0 [.slice none 0 0, .int .i64 0, .int .u64 0])) le5.1 (.own 0 [.slice none 0 0, .int .i64 0, .int .u64 0])
  refine Xb (by kernel_rfl) ?_
  refine Xx (Xz (New_nil _) rfl Try.func41 rfl rfl rfl ?_)
  rintro v6 H6 ⟨rfl, hle6, hW6⟩
  refine Xx (Xz (Next_walk good_noT alive_noT hW6 (fun h => by cases h) (val_w1 _) (by decide) (by decide) ⟨_, rfl⟩) rfl Try.func38 rfl rfl rfl ?_)
  rintro v7 H7 ⟨G7, aw7, hW7, A7, c7, rfl, sl7⟩; have leG7 := aw7.base (Hp.le_trans le5' hle6) le5'.1; have le7 : H.le H7 := by obtain ⟨_, _, _, _, hown⟩ := hW7; exact Hp.le_trans leG7 hown.le
  refine Xa (Zh rfl) ?_
  refine Xa (Ya rfl rfl) ?_
  refine Xa (Ya rfl rfl) ?_
  refine X1 (Yo (l := [.slice none 0 0, .int .i64 0, .int .u64 0]) inf44.zero rfl (by decide)) ?_
  refine Xx (Yd (vs := [.slice _ _ _, .int .i64 _, .int .u64 _]) rfl rfl inf44.size X9 X8 rfl rfl ?_)
  refine Xa (Xh rfl) ?_
  refine Xd ?_
  have le7' := Hp.le_put_new (Hp.le_push' le7 (.own 0 [.slice none 0 0, .int .i64 0, .int .u64 0])) le7.1 (.own 0 [.slice A7 (rowN (Zk noT w1).2).length c7, .int .i64 (rowC (Zk noT w1).2), .int .u64 (rowM (Zk noT w1).2)])
  refine Xb (by kernel_rfl) ?_
  refine Xa (Xr rfl) ?_
  refine Xa (Zu rfl) ?_
  refine Xa (Xr rfl) ?_
  refine Ye rfl rfl rfl ?_ ?_
  intro hg1
  have hp1 := hg1; try simp only [decide_eq_true_eq, decide_eq_false_iff_not, Bool.not_eq_true', Bool.not_eq_false'] at hp1
  refine Xl (Xi rfl rfl rfl hg1) (Xr rfl) ?_
  refine Xl (Xi rfl rfl rfl hg1) (Zu rfl) ?_
  refine Xa (Xm (congrArg Value.bool hg1) rfl) ?_
  refine Xa (Xr rfl) ?_
  refine Ye rfl rfl rfl ?_ ?_
  intro hg2
  have hp2 := hg2; try simp only [decide_eq_true_eq, decide_eq_false_iff_not, Bool.not_eq_true', Bool.not_eq_false'] at hp2
  refine Xl (Xi rfl rfl rfl hg2) (Xr rfl) ?_
  refine Xl (Xi rfl rfl rfl hg2) (Zu rfl) ?_
  refine Xa (Xm (congrArg Value.bool hg2) rfl) ?_
  refine Xa (Xr rfl) ?_
  refine Ye rfl rfl rfl ?_ ?_
  intro hg3
  have hp3 := hg3; try simp only [decide_eq_true_eq, decide_eq_false_iff_not, Bool.not_eq_true', Bool.not_eq_false'] at hp3
  refine Xl (Xi rfl rfl rfl hg3) (Xr rfl) ?_
  refine Xl (Xi rfl rfl rfl hg3) (Zu rfl) ?_
  refine Xa (Xm (congrArg Value.bool hg3) rfl) ?_
  refine Xa (Xr rfl) ?_
  refine Ye rfl rfl rfl ?_ ?_
  intro hg4
  have hp4 := hg4; try simp only [decide_eq_true_eq, decide_eq_false_iff_not, Bool.not_eq_true', Bool.not_eq_false'] at hp4
  refine Xl (Xi rfl rfl rfl hg4) (Xr rfl) ?_
  refine Xl (Xi rfl rfl rfl hg4) (Zu rfl) ?_
  refine Xa (Xm (congrArg Value.bool hg4) rfl) ?_
  refine Xa (Xr rfl) ?_
  refine Ye rfl rfl rfl ?_ ?_
  intro hg5
  have hp5 := hg5; try simp only [decide_eq_true_eq, decide_eq_false_iff_not, Bool.not_eq_true', Bool.not_eq_false'] at hp5
  refine Xl (Xi rfl rfl rfl hg5) (Xp rfl) ?_
  refine Zm (Xi rfl rfl rfl hg5) (Xz (Over_no _) rfl Try.func42 rfl rfl rfl ?_)
  rintro v H ⟨rfl, rfl⟩
  refine Xa (Xm (congrArg Value.bool hg5) rfl) ?_
  refine Xa (Xr rfl) ?_
  refine Ye rfl rfl rfl ?_ ?_
  intro hg6
  have hp6 := hg6; try simp only [decide_eq_true_eq, decide_eq_false_iff_not, Bool.not_eq_true', Bool.not_eq_false'] at hp6
  refine Zm (Xi rfl rfl rfl hg6) (Xz (New_nil _) rfl Try.func41 rfl rfl rfl ?_)
  rintro v8 H8 ⟨rfl, hle8, hW8⟩
  refine Zm (Xi rfl rfl rfl hg6) (Xz (Over_walk hW8) rfl Try.func42 rfl rfl rfl ?_)
  rintro v9 H8 ⟨rfl, rfl⟩
  refine Xa (Xm (congrArg Value.bool hg6) rfl) ?_
  refine Xa (Xr rfl) ?_
  refine Ye rfl rfl rfl ?_ ?_
  intro hg7
  have hp7 := hg7; try simp only [decide_eq_true_eq, decide_eq_false_iff_not, Bool.not_eq_true', Bool.not_eq_false'] at hp7
  refine Xl (Xi rfl rfl rfl hg7) (Xp rfl) ?_
  refine Zm (Xi rfl rfl rfl hg7) (Xz (Steps_no _) rfl Try.func43 rfl rfl rfl ?_)
  rintro v H ⟨rfl, rfl⟩
  refine Xl (Xi rfl rfl rfl hg7) (Vh rfl rfl) ?_
  refine Xa (Xm (congrArg Value.bool hg7) rfl) ?_
  refine Xa (Xr rfl) ?_
  refine Ye rfl rfl rfl ?_ ?_
  intro hg8
  have hp8 := hg8; try simp only [decide_eq_true_eq, decide_eq_false_iff_not, Bool.not_eq_true', Bool.not_eq_false'] at hp8
  refine Xl (Xi rfl rfl rfl hg8) (Xp rfl) ?_
  refine Xl (Xi rfl rfl rfl hg8) (X2 rfl) ?_
  refine Zm (Xi rfl rfl rfl hg8) (Xz (Few_ints ns _ 5 _ (hn.mono (Hp.le_trans le7' hle8).sees) hbn (by omega) (by omega)) rfl Try.func10 rfl rfl rfl ?_)
  rintro v10 H10 ⟨hle10, hs10⟩; obtain ⟨A10, c10, rfl⟩ := hs10.shape
  refine Zm (Xi rfl rfl rfl hg8) (Xz (To_no _ _) rfl Try.func44 rfl rfl rfl ?_)
  rintro v H ⟨rfl, rfl⟩
  refine Xl (Xi rfl rfl rfl hg8) (Zu rfl) ?_
  refine Xa (Xm (congrArg Value.bool hg8) rfl) ?_
  refine Xa (Xr rfl) ?_
  refine Ye rfl rfl rfl ?_ ?_
  intro hg9
  have hp9 := hg9; try simp only [decide_eq_true_eq, decide_eq_false_iff_not, Bool.not_eq_true', Bool.not_eq_false'] at hp9
  refine Zm (Xi rfl rfl rfl hg9) (Xz (All_gen good_noT alive_noT none w1 (.inr rfl) (fun H => fresh_nil H) _ (fun h => by cases h) 5 (fun k => Nat.le_trans (allN_len good_noT alive_noT k w1 (val_w1 _)) (by decide))) rfl Try.func45 rfl rfl rfl ?_)
  rintro v11 H11 ⟨hle11, hs11⟩; have h11 : (allN noT (5 : Int).toNat w1).length = 0 := (by have := allN_len good_noT alive_noT (5 : Int).toNat w1 (val_w1 _); have e : (Zo noT w1).length = 0 := rfl; omega); obtain ⟨A11, c11, rfl⟩ := hs11.shape
  refine Xl (Xi rfl rfl rfl hg9) (Yw rfl Try.underlying82) ?_
  refine Xl (Xi rfl rfl rfl hg9) (Vh rfl rfl) ?_
  refine Xa (Xm (congrArg Value.bool hg9) rfl) ?_
  refine Xa (Xr rfl) ?_
  refine Ye rfl rfl rfl ?_ ?_
  intro hg10
  have hp10 := hg10; try simp only [decide_eq_true_eq, decide_eq_false_iff_not, Bool.not_eq_true', Bool.not_eq_false'] at hp10
  refine Zm (Xi rfl rfl rfl hg10) (Xz (lives31_ok _) rfl Try.func46 rfl rfl rfl ?_)
  rintro v H' ⟨rfl, hlv⟩
  refine Xa (Xm (congrArg Value.bool hg10) rfl) ?_
  refine Xa (Xh rfl) ?_
  refine X6 ?_
  exact ⟨.bool true, X4 (Xy rfl), rfl, Hp.le_trans (Hp.le_trans (Hp.le_trans (Hp.le_trans le7' hle8) hle10) hle11) hlv⟩
  intro hg10
  (have h := hg10; rw [h11] at h; exact absurd h (by decide))
  intro hg9
  exact absurd hg9 (by decide)
  intro hg8
  exact absurd hg8 (by decide)
  intro hg7
  exact absurd hg7 (by decide)
  intro hg6
  exact absurd hg6 (by decide)
  intro hg5
  (have h := hg5; rw [hno] at h; cases h)
  intro hg4
  exact absurd hg4 (by decide)
  intro hg3
  (have h := hg3; rw [hno] at h; cases h)
  intro hg2
  exact absurd hg2 (by decide)
  intro hg1
  exact absurd hg1 (by decide)
end Go.Proofs.Ytcaeoebphfjfiaa.Am


/- Links among the arguments of a statement. -/
namespace Go.Proofs.Ytcaeoebphfjfiaa.Am
open Go Go.RowKit
set_option maxRecDepth 100000
theorem cells_i64 : Try.prog.cellsOf 3 = 1 := by kernel_rfl
theorem opens_ints : Opens Try.prog (kSl (Y4 .i64)) 23 (fun xs => xs.length ≤ maxLen ∧ ∀ x ∈ xs, fits .i64 x) := opens_sl Try.underlying23 cells_i64 (opens_int Try.underlying3)
end Go.Proofs.Ytcaeoebphfjfiaa.Am
