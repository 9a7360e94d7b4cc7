/- Several slices of one's own beside each other. -/
import Derived.Test.YtmakkmcjocjgmaaGreatCaOwn
namespace Go.Proofs.YtmakkmcjocjgmaaGreat.Am
open Go Go.RowKit
set_option linter.unusedVariables false
set_option linter.unusedSimpArgs false

def V8 {α : Type} (k : Kd α) (st : Nat) : Prop := ∀ (G : Hp) (b : Nat) (cs : List Value) (x : Blk) (y : α) (c : List Value), G.get b = .own st cs → k.rep G y c → k.rep (G.put b x) y c
def Plain {α : Type} (k : Kd α) : Prop := ∀ (H H' : Hp) x cs, k.rep H x cs → k.rep H' x cs
theorem Plain.stable {α : Type} {k : Kd α} (h : Plain k) (st : Nat) : V8 k st := fun _ _ _ _ _ _ _ hr => h _ _ _ _ hr
theorem Sl.stable {α : Type} {k : Kd α} {st : Nat} (hk : V8 k st) (hne : st ≠ k.sz) {G : Hp} {v : Value} {xs : List α} (h : Sl k G v xs) {b1 : Nat} {cs : List Value} (hb : G.get b1 = .own st cs) (x : Blk) : Sl k (G.put b1 x) v xs := by
  rcases h with h | ⟨b, o, c, e, h1, h2, h3⟩
  · exact .inl h
  · have hne' : b ≠ b1 := fun e => by subst e; rw [hb] at h2; exact hne h2
    refine .inr ⟨b, o, c, e, h1, by rw [Hp.put_other _ _ hne']; exact h2, fun i y hy => ?_⟩
    obtain ⟨d, r, hc⟩ := h3 i y hy
    exact ⟨d, hk _ _ _ _ _ _ hb r, fun j u hj => by have := hc j u hj; rw [cell_put_old hne']; exact this⟩
theorem stable_sl {α : Type} {k : Kd α} {st : Nat} (hk : V8 k st) (hne : st ≠ k.sz) : V8 (V1 k) st := fun G b cs x y c hb ⟨v, e, hs⟩ => ⟨v, e, hs.stable hk hne hb x⟩
theorem Els.stable {α : Type} {k : Kd α} {st : Nat} (hk : V8 k st) {G : Hp} {xs : List α} {ds : List Value} (h : Els k G xs ds) {b1 : Nat} {cs : List Value} (hb : G.get b1 = .own st cs) (x : Blk) : Els k (G.put b1 x) xs ds :=
  ⟨h.1, fun i y hy => let ⟨c, h1, h2⟩ := h.2 i y hy; ⟨c, hk _ _ _ _ _ _ hb h1, h2⟩⟩
theorem OwnP.below {α β : Type} {k : Kd α} {k' : Kd β} {G H : Hp} {v r : Value} {xs : List α} {ys : List β} (h : OwnP k G H v xs) (hk : V8 k' k.sz) (hne : k.sz ≠ k'.sz) (hs : Sl k' H r ys) : Sl k' G r ys := by
  rcases h with ⟨rfl, rfl, rfl⟩ | ⟨b, cs, d, rfl, hb, hd, rfl, _⟩
  · exact hs
  · have := hs.stable hk hne (b1 := b) (cs := cs) (Hp.put_same _ _ _) .dead
    rwa [Hp.put_put, Hp.put_self _ hd] at this
theorem OwnP.swap2 {α β : Type} {k1 : Kd α} {k2 : Kd β} {G Gm H : Hp} {v1 v2 : Value} {xs : List α} {ys : List β} (hs : V8 k2 k1.sz) (h1 : OwnP k1 G Gm v1 xs) (h2 : OwnP k2 Gm H v2 ys) : ∃ Gn, OwnP k2 G Gn v2 ys ∧ OwnP k1 Gn H v1 xs := by
  rcases h1 with ⟨rfl, rfl, rfl⟩ | ⟨b, cs, c, rfl, hb, hd, rfl, hcap, he⟩
  · exact ⟨H, h2, .inl ⟨rfl, rfl, rfl⟩⟩
  · rcases h2 with ⟨rfl, rfl, rfl⟩ | ⟨b2, cs2, c2, rfl, hb2, hd2, rfl, hcap2, he2⟩
    · exact ⟨G, .inl ⟨rfl, rfl, rfl⟩, .inr ⟨b, cs, c, rfl, hb, hd, rfl, hcap, he⟩⟩
    · have hne : b2 ≠ b := fun e => by subst e; rw [Hp.put_same] at hd2; cases hd2
      have hd2' : G.get b2 = .dead := by rw [Hp.put_other _ _ hne] at hd2; exact hd2
      have he2' : Els k2 G ys cs2 := by
        have := he2.stable hs (Hp.put_same _ _ _) .dead
        rw [Hp.put_put, Hp.put_self _ hd] at this
        exact this
      exact ⟨G.put b2 (.own k2.sz cs2), .inr ⟨b2, cs2, c2, rfl, by simpa using hb2, hd2', rfl, hcap2, he2'⟩, .inr ⟨b, cs, c, rfl, by simpa using hb, by rw [Hp.put_other _ _ (Ne.symm hne)]; exact hd, Hp.put_comm _ (Ne.symm hne) _ _, hcap, he.mono (G.le_put hd2' _).sees⟩⟩
theorem OwnP.later {α : Type} {k : Kd α} {G H H1 : Hp} {v : Value} {xs : List α} (h : OwnP k G H v xs) (hle : H.le H1) : ∃ G1, G.le G1 ∧ OwnP k G1 H1 v xs := by
  rcases h with ⟨rfl, rfl, rfl⟩ | ⟨b, cs, c, rfl, hb, hd, rfl, hcap, he⟩
  · exact ⟨H1, hle, .inl ⟨rfl, rfl, rfl⟩⟩
  · have hg : H1.get b = .own k.sz cs := by
      rw [hle.2 b (by simpa using hb) (by rw [Hp.put_same]; intro e; cases e), Hp.put_same]
    have hle1 : G.le (H1.put b .dead) := ⟨by have := hle.1; simpa using this, fun i hi hn => by
      have hne : i ≠ b := fun e => by subst e; exact hn hd
      rw [Hp.put_other _ _ hne, hle.2 i (by simpa using hi) (by rw [Hp.put_other _ _ hne]; exact hn), Hp.put_other _ _ hne]⟩
    exact ⟨H1.put b .dead, hle1, .inr ⟨b, cs, c, rfl, by have := hle.1; simp at *; omega, Hp.put_same _ _ _, by rw [Hp.put_put]; exact (Hp.put_self _ hg).symm, hcap, he.mono hle1.sees⟩⟩
def Own3 {α β γ : Type} (k1 : Kd α) (k2 : Kd β) (k3 : Kd γ) (G H : Hp) (v1 v2 v3 : Value) (xs : List α) (ys : List β) (zs : List γ) : Prop := ∃ G1 G2, OwnP k1 G G1 v1 xs ∧ OwnP k2 G1 G2 v2 ys ∧ OwnP k3 G2 H v3 zs
section
variable {α β γ : Type} {k1 : Kd α} {k2 : Kd β} {k3 : Kd γ} {G H : Hp} {v1 v2 v3 : Value} {xs : List α} {ys : List β} {zs : List γ}
theorem Own3.rot (h : Own3 k1 k2 k3 G H v1 v2 v3 xs ys zs) (h12 : V8 k2 k1.sz) (h13 : V8 k3 k1.sz) : Own3 k2 k3 k1 G H v2 v3 v1 ys zs xs := by
  obtain ⟨G1, G2, a, b, c⟩ := h
  obtain ⟨Gn, b', a'⟩ := OwnP.swap2 h12 a b
  obtain ⟨Gp, c', a''⟩ := OwnP.swap2 h13 a' c
  exact ⟨Gn, Gp, b', c', a''⟩
theorem Own3.le (h : Own3 k1 k2 k3 G H v1 v2 v3 xs ys zs) : G.le H := let ⟨_, _, a, b, c⟩ := h; Hp.le_trans a.le (Hp.le_trans b.le c.le)
theorem Own3.size (h : Own3 k1 k2 k3 G H v1 v2 v3 xs ys zs) : H.size = G.size := let ⟨_, _, a, b, c⟩ := h; c.size.trans (b.size.trans a.size)
theorem Own3.sl3 (h : Own3 k1 k2 k3 G H v1 v2 v3 xs ys zs) : Sl k3 H v3 zs := let ⟨_, _, _, _, c⟩ := h; c.sl
theorem Own3.later {H1 : Hp} (h : Own3 k1 k2 k3 G H v1 v2 v3 xs ys zs) (hle : H.le H1) : ∃ G1, G.le G1 ∧ Own3 k1 k2 k3 G1 H1 v1 v2 v3 xs ys zs := by
  obtain ⟨G1, G2, a, b, c⟩ := h
  obtain ⟨G3, l3, c'⟩ := c.later hle
  obtain ⟨G4, l4, b'⟩ := b.later l3
  obtain ⟨G5, l5, a'⟩ := a.later l4
  exact ⟨G5, l5, G4, G3, a', b', c'⟩
theorem Own3.sls (h : Own3 k1 k2 k3 G H v1 v2 v3 xs ys zs) : Sl k1 H v1 xs ∧ Sl k2 H v2 ys ∧ Sl k3 H v3 zs :=
  let ⟨_, _, a, b, c⟩ := h; ⟨a.sl.mono (b.le.sees.trans c.le.sees), b.sl.mono c.le.sees, c.sl⟩
theorem Own3.push (h : Own3 k1 k2 k3 G H v1 v2 v3 xs ys zs) (x : Blk) : Own3 k1 k2 k3 (G.push x) (H.push x) v1 v2 v3 xs ys zs :=
  let ⟨G1, G2, a, b, c⟩ := h; ⟨G1.push x, G2.push x, a.push x, b.push x, c.push x⟩
theorem Own3.put_box (h : Own3 k1 k2 k3 G H v1 v2 v3 xs ys zs) {b1 : Nat} {cs : List Value} (hb : b1 < G.size) (hg : G.get b1 = .own 0 cs) (cs' : List Value) : Own3 k1 k2 k3 (G.put b1 (.own 0 cs')) (H.put b1 (.own 0 cs')) v1 v2 v3 xs ys zs := by
  obtain ⟨G1, G2, a, b, c⟩ := h
  have g1 := Xr a.le hb (by intro e; cases e) hg
  have g2 := Xr b.le (by have := a.size; omega) (by intro e; cases e) g1
  exact ⟨G1.put b1 (.own 0 cs'), G2.put b1 (.own 0 cs'), a.put (by rw [hg]; intro e; cases e) _ (Hp.sees_box _ hg), b.put (by rw [g1]; intro e; cases e) _ (Hp.sees_box _ g1), c.put (by rw [g2]; intro e; cases e) _ (Hp.sees_box _ g2)⟩
theorem Hp.sees_map (H : Hp) {b : Nat} {es : List (Value × Value)} (hb : H.get b = .map es) (x : Blk) : H.sees (H.put b x) where
  size := Nat.le_refl _
  cell c o v sz hc hz hk hv := by
    have hn : c ≠ b := fun e => by subst e; rw [hb] at hk; cases hk
    unfold Hp.cell? at *
    rw [Hp.put_other _ _ hn]; exact hv
  cut c sz hc hz hk := by
    have hn : c ≠ b := fun e => by subst e; rw [hb] at hk; cases hk
    rw [Hp.put_other _ _ hn]; exact hk
theorem Own3.put_map (h : Own3 k1 k2 k3 G H v1 v2 v3 xs ys zs) {b1 : Nat} {es : List (Value × Value)} (hb : b1 < G.size) (hg : G.get b1 = .map es) (es' : List (Value × Value)) : Own3 k1 k2 k3 (G.put b1 (.map es')) (H.put b1 (.map es')) v1 v2 v3 xs ys zs := by
  obtain ⟨G1, G2, a, b, c⟩ := h
  have g1 := Xr a.le hb (by intro e; cases e) hg
  have g2 := Xr b.le (by have := a.size; omega) (by intro e; cases e) g1
  exact ⟨G1.put b1 (.map es'), G2.put b1 (.map es'), a.put (by rw [hg]; intro e; cases e) _ (Hp.sees_map _ hg _), b.put (by rw [g1]; intro e; cases e) _ (Hp.sees_map _ g1 _), c.put (by rw [g2]; intro e; cases e) _ (Hp.sees_map _ g2 _)⟩
theorem Own3.open3 (h : Own3 k1 k2 k3 G H v1 v2 v3 xs ys zs) : ∃ G2, G.le G2 ∧ OwnP k3 G2 H v3 zs ∧ ∀ (G2' H' : Hp) (v3' : Value) (zs' : List γ), G2.le G2' → OwnP k3 G2' H' v3' zs' → ∃ G', G.le G' ∧ Own3 k1 k2 k3 G' H' v1 v2 v3' xs ys zs' := by
  obtain ⟨G1, G2, a, b, c⟩ := h
  refine ⟨G2, Hp.le_trans a.le b.le, c, fun G2' H' v3' zs' hle c' => ?_⟩
  obtain ⟨G4, l4, b'⟩ := b.later hle
  obtain ⟨G5, l5, a'⟩ := a.later l4
  exact ⟨G5, l5, G4, G2', a', b', c'⟩
theorem Own3.below {δ : Type} {k' : Kd δ} (h : Own3 k1 k2 k3 G H v1 v2 v3 xs ys zs) (s1 : V8 k' k1.sz) (s2 : V8 k' k2.sz) (s3 : V8 k' k3.sz) (n1 : k1.sz ≠ k'.sz) (n2 : k2.sz ≠ k'.sz) (n3 : k3.sz ≠ k'.sz) {r : Value} {us : List δ} (hs : Sl k' H r us) : Sl k' G r us :=
  let ⟨_, _, a, b, c⟩ := h; a.below s1 n1 (b.below s2 n2 (c.below s3 n3 hs))
end
theorem ac_cut {z : Bool} {P : Program} {N : Nat} {Q : Exit → Fr → Hp → Prop} {t : Fr} {H : Hp} {x : Code} (I : Fr → Hp → Prop) (h1 : ACode z P N x (AThen I Q) t H) (h2 : ∀ t H, I t H → Q .normal t H) : ACode z P N x Q t H :=
  h1.mono fun e t H h => by
    cases e with
    | normal => exact h2 t H h
    | exit id => exact h
    | goto l => exact h
    | ret => exact h
    | panic ch => exact h
    | outgrown => exact h
end Go.Proofs.YtmakkmcjocjgmaaGreat.Am
