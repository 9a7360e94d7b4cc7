/- Many own slices beside each other, by their cells. -/
import Derived.Test.YtmakkmcjocjgmaaGreatCaOwn2
namespace Go.Proofs.YtmakkmcjocjgmaaGreat.Am
open Go Go.RowKit
set_option linter.unusedVariables false
set_option linter.unusedSimpArgs false

def kCel (n : Nat) (h : n ≠ 0) : Kd (List Value) where
  sz := n
  pos := h
  rep _ x cs := cs = x ∧ x.length = n ∧ ∀ v ∈ x, v.oneCell' = true
  len h := by rw [h.1, h.2.1]
  mono _ h := h
  one h v hv := by rw [h.1] at hv; exact h.2.2 v hv
theorem stable_cel (n : Nat) (h : n ≠ 0) (st : Nat) : V8 (kCel n h) st := Plain.stable (fun _ _ _ _ h => h) st
theorem Sl.conv {α : Type} {k : Kd α} {H : Hp} {v : Value} {raws : List (List Value)} {xs : List α} {h : k.sz ≠ 0} (hs : Sl (kCel k.sz h) H v raws) (hl : raws.length = xs.length) (hr : ∀ (i : Nat) (a : i < raws.length) (b : i < xs.length), k.rep H xs[i] raws[i]) : Sl k H v xs := by
  rcases hs with ⟨rfl, rfl⟩ | ⟨b, o, c, rfl, hb, hk, hx⟩
  · exact .inl ⟨rfl, List.eq_nil_of_length_eq_zero (by simpa using hl.symm)⟩
  · refine .inr ⟨b, o, c, by rw [hl], hb, hk, fun i x hi => ?_⟩
    obtain ⟨hi', rfl⟩ := List.getElem?_eq_some_iff.1 hi
    obtain ⟨cs, h1, h2⟩ := hx i raws[i] (List.getElem?_eq_getElem (by omega))
    exact ⟨cs, by rw [h1.1]; exact hr i (by omega) hi', h2⟩
structure Ent where
  sz : Nat
  pos : sz ≠ 0
  v : Value
  raws : List (List Value)
def Ent.own (e : Ent) (G H : Hp) : Prop := OwnP (kCel e.sz e.pos) G H e.v e.raws
def OwnL : Hp → List Ent → Hp → Prop
  | G, [], H => G = H
  | G, e :: L, H => ∃ G1, e.own G G1 ∧ OwnL G1 L H
theorem OwnL.le : ∀ {L : List Ent} {G H : Hp}, OwnL G L H → G.le H
  | [], G, H, h => by rw [show G = H from h]; exact Hp.le_refl _
  | e :: L, G, H, ⟨G1, a, b⟩ => Hp.le_trans (OwnP.le a) (OwnL.le b)
theorem OwnL.size : ∀ {L : List Ent} {G H : Hp}, OwnL G L H → H.size = G.size
  | [], G, H, h => by rw [show G = H from h]
  | e :: L, G, H, ⟨G1, a, b⟩ => (OwnL.size b).trans (OwnP.size a)
theorem OwnL.push : ∀ {L : List Ent} {G H : Hp}, OwnL G L H → ∀ x, OwnL (G.push x) L (H.push x)
  | [], G, H, h, x => by rw [show G = H from h]; rfl
  | e :: L, G, H, ⟨G1, a, b⟩, x => ⟨G1.push x, OwnP.push a x, OwnL.push b x⟩
theorem OwnL.put_box : ∀ {L : List Ent} {G H : Hp}, OwnL G L H → ∀ {b1 : Nat} {cs : List Value}, b1 < G.size → G.get b1 = .own 0 cs → ∀ cs', OwnL (G.put b1 (.own 0 cs')) L (H.put b1 (.own 0 cs'))
  | [], G, H, h, b1, cs, hb, hg, cs' => by rw [show G = H from h]; rfl
  | e :: L, G, H, ⟨G1, a, b⟩, b1, cs, hb, hg, cs' => by
    have g1 := Xr (OwnP.le a) hb (by intro e; cases e) hg
    exact ⟨G1.put b1 (.own 0 cs'), OwnP.put a (by rw [hg]; intro e; cases e) _ (Hp.sees_box _ hg), OwnL.put_box b (by have := OwnP.size a; omega) g1 cs'⟩
theorem OwnL.later : ∀ {L : List Ent} {G H : Hp}, OwnL G L H → ∀ {H1 : Hp}, H.le H1 → ∃ G1, G.le G1 ∧ OwnL G1 L H1
  | [], G, H, h, H1, hle => ⟨H1, by rw [show G = H from h]; exact hle, rfl⟩
  | e :: L, G, H, ⟨Gm, a, b⟩, H1, hle => by
    obtain ⟨G2, l2, b'⟩ := OwnL.later b hle
    obtain ⟨G3, l3, a'⟩ := OwnP.later a l2
    exact ⟨G3, l3, G2, a', b'⟩
theorem OwnL.rot : ∀ {L : List Ent} {e : Ent} {G H : Hp}, OwnL G (e :: L) H → OwnL G (L ++ [e]) H
  | [], e, G, H, h => h
  | a :: L, e, G, H, ⟨G1, he, G2, ha, hL⟩ => by
    obtain ⟨Gn, ha', he'⟩ := OwnP.swap2 (stable_cel _ _ _) he ha
    exact ⟨Gn, ha', OwnL.rot ⟨G2, he', hL⟩⟩
theorem OwnL.last : ∀ {L : List Ent} {e : Ent} {G H : Hp}, OwnL G (L ++ [e]) H → ∃ G2, G.le G2 ∧ e.own G2 H ∧ ∀ (G2' H' : Hp) (e' : Ent), G2.le G2' → e'.own G2' H' → ∃ G', G.le G' ∧ OwnL G' (L ++ [e']) H'
  | [], e, G, H, ⟨G1, a, b⟩ => by
    have b : G1 = H := b
    subst b
    exact ⟨G, Hp.le_refl _, a, fun G2' H' e' hle h => ⟨G2', hle, H', h, rfl⟩⟩
  | x :: L, e, G, H, ⟨G1, a, b⟩ => by
    obtain ⟨G2, l2, he, back⟩ := OwnL.last b
    refine ⟨G2, Hp.le_trans (OwnP.le a) l2, he, fun G2' H' e' hle h => ?_⟩
    obtain ⟨G3, l3, b'⟩ := back G2' H' e' hle h
    obtain ⟨G4, l4, a'⟩ := OwnP.later a l3
    exact ⟨G4, l4, G3, a', b'⟩
theorem OwnL.sl : ∀ {L : List Ent} {G H : Hp}, OwnL G L H → ∀ e ∈ L, Sl (kCel e.sz e.pos) H e.v e.raws
  | [], G, H, h, e, he => by cases he
  | x :: L, G, H, ⟨G1, a, b⟩, e, he => by
    rcases List.mem_cons.1 he with rfl | he
    · exact (OwnP.sl a).mono (OwnL.le b).sees
    · exact OwnL.sl b e he
theorem OwnL.below {α : Type} {k' : Kd α} (hk : ∀ st, V8 k' st) : ∀ {L : List Ent} {G H : Hp}, OwnL G L H → (∀ e ∈ L, e.sz ≠ k'.sz) → ∀ {r : Value} {ys : List α}, Sl k' H r ys → Sl k' G r ys
  | [], G, H, h, _, r, ys, hs => by rw [show G = H from h]; exact hs
  | x :: L, G, H, ⟨G1, a, b⟩, hn, r, ys, hs => OwnP.below a (hk _) (hn x (by simp)) (OwnL.below hk b (fun e he => hn e (by simp [he])) hs)
theorem Ent.append {P : Program} {t : Fr} {d : Option Tmp} {ty : TypeId} {pos : String} {after : Array Edge} {guard : Option (Nat × Bool)} {K : Value → Hp → Prop} {e : Ent} {G H : Hp} (h : e.own G H) {at_ et : TypeId} {x y : Operand} {by_ : Nat} {z : Value} {cs : List Value} {lb cc : Nat} (hu : P.underlying at_ = some (.slice et)) (hi : (P.info? et).map (fun i => (i.zero, i.size, i.bytes)) = some (some z, e.sz, by_)) (hzs : z.cells.size = e.sz)
    (hx : t.eval x = e.v) (hy : t.eval y = .slice (some ⟨lb, 0, none⟩) 1 cc) (hlb : lb < G.size) (hl : G.get lb = .own e.sz cs) (hc : cs.length = e.sz) (hone : ∀ v ∈ cs, v.oneCell' = true) (hb1 : e.raws.length ≤ 1000000) (hby : by_ ≤ 1000)
    (hk : ∀ v' G' H', G.le G' → Ent.own ⟨e.sz, e.pos, v', e.raws ++ [cs]⟩ G' H' → K v' H') : AOp P ⟨d, .call ⟨.builtin .append, #[x, y], #[at_, at_]⟩, ty, pos, after, guard⟩ t H K :=
  OwnP.append (k := kCel e.sz e.pos) h hu hi hzs hx hy (ys := [cs]) (Els.sl (k := kCel e.sz e.pos) (xs := [cs]) (cs := cs) (by
    have := Els.cons (k := kCel e.sz e.pos) (G := G) (x := cs) (xs := []) (c := cs) (cs := []) ⟨rfl, hc, hone⟩ (Els.nil _ _ [])
    simpa using this) (Hp.sees.refl _) hlb hl rfl) (by simp only [List.length_singleton]; omega) (by
      simp only [List.length_singleton]
      have := Nat.mul_le_mul (show e.raws.length + 1 ≤ 1000001 by omega) hby
      omega) hk
theorem Ent.le {e : Ent} {G H : Hp} (h : e.own G H) : G.le H := OwnP.le h
theorem Ent.shape {e : Ent} {G H : Hp} (h : e.own G H) : ∃ A c, e.v = .slice A e.raws.length c := OwnP.shape h
theorem Ent.sameO {e : Ent} {v' : Value} {raws' : List (List Value)} {G H G' H' : Hp} (h : e.own G H) (hle : G.le G') (h' : Ent.own ⟨e.sz, e.pos, v', raws'⟩ G' H') : ∀ (c st : Nat) (cs : List Value), c < G.size → G.get c = .own st cs → H'.get c = H.get c := OwnP.sameO (k := kCel e.sz e.pos) h hle h'
end Go.Proofs.YtmakkmcjocjgmaaGreat.Am
