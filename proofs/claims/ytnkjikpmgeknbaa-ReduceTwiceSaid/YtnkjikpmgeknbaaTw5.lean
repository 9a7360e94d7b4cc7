/- Texts that the proof rests on, part 5: lemmas for every heap that is related to a world, no condition beyond each lemma's own. -/
import Derived.Test.YtnkjikpmgeknbaaTw4
import Derived.Test.YtnkjikpmgeknbaaTw1
import Derived.Test.YtnkjikpmgeknbaaAmRow
namespace Go.Proofs.Ytnkjikpmgeknbaa.Am
open Go Go.RowKit
set_option maxRecDepth 100000
set_option linter.unusedVariables false
set_option linter.unusedSimpArgs false

def BS (p : Parts) (v : Nat) : Prop := ∀ x ∈ lk p v, x.b ∈ firsts (nd p v)
def UP (f : Forest) (p : Parts) (v : Nat) : Prop := ∀ y ∈ nd p (par f v).toNat, y.a ∈ firsts (lk p v)
structure Full (f : Forest) (p : Parts) (v : Nat) : Prop where
  ends : ∀ x ∈ lk p v, x.a ∈ firsts (nd p (par f v).toNat) ∧ x.b ∈ firsts (nd p v)
  up : UP f p v
  down : ∀ y ∈ nd p v, y.a ∈ lasts (lk p v)
/-- A variable whose parent is another one. -/
structure Kid (f : Forest) (n w : Nat) : Prop where
  lt : w < n
  ge : -1 ≤ par f w
  up : (par f w).toNat < n
  ne : par f w ≠ w
theorem Kid.ne' {f : Forest} {n w : Nat} (h : Kid f n w) (hp : par f w ≠ -1) : w ≠ (par f w).toNat := fun e => h.ne (by have := h.ge; omega)
theorem GoodF.kid {f : Forest} (h : GoodF f) {d r : List Int} {w : Nat} (e : f.order = d ++ (w : Int) :: r) : Kid f f.vars.length w := by
  obtain ⟨⟨h1, h2⟩, h3, h4, h5⟩ := h.cut e
  have h6 := h.parent_ge (v := w) (by omega)
  have h7 : par f w ≠ w := fun e2 => by
    rw [Int.toNat_natCast] at h5
    rcases h5 with h5 | h5
    · omega
    · rw [e2] at h5; exact h3 h5
  exact ⟨by omega, h6.1, by have := h6.2; unfold par; omega, h7⟩
theorem up_step_inv {f : Forest} {n : Nat} {p : Parts} {w : Nat} {done : List Int} (hl : Lens n p) (hk : Kid f n w) (hwd : (w : Int) ∉ done) (hpd : par f w ∉ done) (h : ∀ v : Nat, (v : Int) ∈ done → par f v ≠ -1 → BS p v ∧ UP f p v) :
    ∀ v : Nat, (v : Int) ∈ done ++ [(w : Int)] → par f v ≠ -1 → BS (upC f p w) v ∧ UP f (upC f p w) v := by
  intro v hv hpv
  have hsub := Sub.up hl hk.up hk.lt
  rcases List.mem_append.1 hv with hv | hv
  · obtain ⟨h1, h2⟩ := h v hv hpv
    have hne : v ≠ w := fun e => hwd (e ▸ hv)
    have hlk : lk (upC f p w) v = lk p v := by rw [lk_up hl hk.lt, if_neg (fun h => hne h.2)]
    have hnd : nd (upC f p w) v = nd p v := by
      rw [nd_up hl hk.up, if_neg]
      intro ⟨h3, h4⟩
      exact hpd (by rwa [show par f w = (v : Int) by have := hk.ge; omega])
    refine ⟨fun x hx => ?_, fun y hy => ?_⟩
    · rw [hlk] at hx; rw [hnd]; exact h1 x hx
    · rw [hlk]; exact h2 y ((hsub _).1.subset hy)
  · obtain rfl : v = w := by have := List.mem_singleton.1 hv; omega
    have hlk : lk (upC f p v) v = left p v (par f v).toNat := by rw [lk_up hl hk.lt, if_pos ⟨hpv, rfl⟩]
    have hnd : nd (upC f p v) v = nd p v := by rw [nd_up hl hk.up, if_neg (fun h => hk.ne' hpv h.2)]
    refine ⟨fun x hx => ?_, fun y hy => ?_⟩
    · rw [hlk] at hx; rw [hnd]; exact (left_mem.1 hx).2.2
    · rw [hlk]
      unfold UP at *
      rw [nd_up hl hk.up, if_pos ⟨hpv, rfl⟩, List.mem_filter, decide_eq_true_eq] at hy
      exact hy.2
theorem down_step_inv {f : Forest} {n : Nat} {p : Parts} {w : Nat} {done : List Int} (hl : Lens n p) (hb : NB p) (hk : Kid f n w) (hwd : (w : Int) ∉ done) (hpd : ∀ v : Nat, (v : Int) ∈ done → par f v ≠ -1 → par f v ≠ w) (hge : ∀ v : Nat, (v : Int) ∈ done → -1 ≤ par f v)
    (h1 : ∀ v : Nat, (v : Int) ∈ done → par f v ≠ -1 → Full f p v) (h2 : ∀ v : Nat, v < n → (v : Int) ∉ done → par f v ≠ -1 → BS p v ∧ UP f p v) :
    (∀ v : Nat, (v : Int) ∈ done ++ [(w : Int)] → par f v ≠ -1 → Full f (downC f p w) v) ∧ (∀ v : Nat, v < n → (v : Int) ∉ done ++ [(w : Int)] → par f v ≠ -1 → BS (downC f p w) v ∧ UP f (downC f p w) v) := by
  have hsub := Sub.down (f := f) hl hk.lt
  constructor
  · intro v hv hpv
    rcases List.mem_append.1 hv with hv | hv
    · obtain ⟨k1, k2, k3⟩ := h1 v hv hpv
      have hne : v ≠ w := fun e => hwd (e ▸ hv)
      have hlk : lk (downC f p w) v = lk p v := by rw [lk_down hl hk.lt, if_neg (fun h => hne h.2)]
      have hnd : nd (downC f p w) v = nd p v := by rw [nd_down hl hk.lt, if_neg (fun h => hne h.2)]
      refine ⟨fun x hx => ?_, fun y hy => ?_, fun y hy => ?_⟩
      · rw [hlk] at hx
        rw [hnd]
        have hnu : nd (downC f p w) (par f v).toNat = nd p (par f v).toNat := by
          rw [nd_down hl hk.lt, if_neg (fun h => hpd v hv hpv (by have := h.2; have := hge v hv; omega))]
        rw [hnu]; exact k1 x hx
      · rw [hlk]; exact k2 y ((hsub _).1.subset hy)
      · rw [hlk]; rw [hnd] at hy; exact k3 y hy
    · obtain rfl : v = w := by have := List.mem_singleton.1 hv; omega
      obtain ⟨k1, k2⟩ := h2 v hk.lt hwd hpv
      have hlk : lk (downC f p v) v = left p v (par f v).toNat := by rw [lk_down hl hk.lt, if_pos ⟨hpv, rfl⟩]
      have hnu : nd (downC f p v) (par f v).toNat = nd p (par f v).toNat := by rw [nd_down hl hk.lt, if_neg (fun h => hk.ne' hpv h.2.symm)]
      have hnd : nd (downC f p v) v = (nd p v).filter fun x => decide (x.a ∈ lasts (left p v (par f v).toNat)) := by rw [nd_down hl hk.lt, if_pos ⟨hpv, rfl⟩]
      refine ⟨fun x hx => ?_, fun y hy => ?_, fun y hy => ?_⟩
      · rw [hlk] at hx
        obtain ⟨m1, m2, m3⟩ := left_mem.1 hx
        rw [hnu, hnd]
        refine ⟨m2, ?_⟩
        obtain ⟨z, hz, e⟩ := List.mem_map.1 m3
        exact List.mem_map.2 ⟨z, List.mem_filter.2 ⟨hz, by rw [decide_eq_true_eq, e]; exact List.mem_map.2 ⟨x, hx, rfl⟩⟩, e⟩
      · rw [hnu] at hy
        rw [hlk]
        obtain ⟨x, hx, e⟩ := List.mem_map.1 (k2 y hy)
        exact List.mem_map.2 ⟨x, left_mem.2 ⟨hx, by rw [e]; exact List.mem_map.2 ⟨y, hy, rfl⟩, k1 x hx⟩, e⟩
      · rw [hnd, List.mem_filter, decide_eq_true_eq] at hy
        rw [hlk]; exact hy.2
  · intro v hv hvd hpv
    simp only [List.mem_append, List.mem_singleton, not_or] at hvd
    obtain ⟨k1, k2⟩ := h2 v hv hvd.1 hpv
    have hne : v ≠ w := fun e => hvd.2 (by rw [e])
    have hlk : lk (downC f p w) v = lk p v := by rw [lk_down hl hk.lt, if_neg (fun h => hne h.2)]
    have hnd : nd (downC f p w) v = nd p v := by rw [nd_down hl hk.lt, if_neg (fun h => hne h.2)]
    refine ⟨fun x hx => ?_, fun y hy => ?_⟩
    · rw [hlk] at hx; rw [hnd]; exact k1 x hx
    · rw [hlk]; exact k2 y ((hsub _).1.subset hy)
theorem up_all {f : Forest} (hg : GoodF f) : ∀ (rest done : List Int) (p : Parts), f.order.reverse = done ++ rest → Lens f.vars.length p → NB p → (∀ v : Nat, (v : Int) ∈ done → par f v ≠ -1 → BS p v ∧ UP f p v) →
    Lens f.vars.length (rest.foldl (fun p v => upC f p v.toNat) p) ∧ Sub (rest.foldl (fun p v => upC f p v.toNat) p) p ∧ (∀ v : Nat, v < f.vars.length → par f v ≠ -1 → BS (rest.foldl (fun p v => upC f p v.toNat) p) v ∧ UP f (rest.foldl (fun p v => upC f p v.toNat) p) v) ∧ rest.foldl (fun p v => upStep f p v.toNat) p = rest.foldl (fun p v => upC f p v.toNat) p
  | [], done, p, e, hl, hb, h => ⟨hl, Sub.refl p, fun v hv hp => h v (by have := hg.in_order hv; rw [← List.mem_reverse, e, List.append_nil] at this; exact this) hp, rfl⟩
  | w :: rest, done, p, e, hl, hb, h => by
    have e' : f.order = rest.reverse ++ w :: done.reverse := by
      have := congrArg List.reverse e
      rw [List.reverse_reverse, List.reverse_append, List.reverse_cons, List.append_assoc] at this
      exact this
    obtain ⟨⟨w1, w2⟩, w3, w4, w5⟩ := hg.cut e'
    obtain ⟨m, rfl⟩ : ∃ m : Nat, w = m := ⟨w.toNat, by omega⟩
    have hk := hg.kid e'
    have hnd := hg.nodup
    rw [e'] at hnd
    have hdis := (List.nodup_append.1 hnd).2.2
    rw [Int.toNat_natCast] at w5
    have hpd : par f m ∉ done := fun hm => by
      rcases w5 with h5 | h5
      · rw [h5] at hm
        have : (-1 : Int) ∈ f.order := by rw [e']; simp [hm]
        have := (hg.order_in this).1
        omega
      · exact hdis _ h5 _ (List.mem_cons_of_mem _ (List.mem_reverse.2 hm)) rfl
    have hs := up_step_inv hl hk (fun hm => w4 (List.mem_reverse.2 hm)) hpd h
    have hsub := Sub.up hl hk.up hk.lt
    obtain ⟨k1, k2, k3, k4⟩ := up_all hg rest (done ++ [(m : Int)]) (upC f p m) (by rw [e, List.append_assoc]; rfl) (hl.up m) (hb.sub hsub) hs
    simp only [List.foldl_cons, Int.toNat_natCast]
    refine ⟨k1, k2.trans hsub, k3, ?_⟩
    rw [upStep_eq hb (by rw [hl.2]; exact hk.lt)]
    exact k4
theorem down_all {f : Forest} (hg : GoodF f) : ∀ (rest done : List Int) (p : Parts), f.order = done ++ rest → Lens f.vars.length p → NB p → (∀ v : Nat, (v : Int) ∈ done → par f v ≠ -1 → Full f p v) → (∀ v : Nat, v < f.vars.length → (v : Int) ∉ done → par f v ≠ -1 → BS p v ∧ UP f p v) →
    Lens f.vars.length (rest.foldl (fun p v => downC f p v.toNat) p) ∧ Sub (rest.foldl (fun p v => downC f p v.toNat) p) p ∧ (∀ v : Nat, v < f.vars.length → par f v ≠ -1 → Full f (rest.foldl (fun p v => downC f p v.toNat) p) v)
  | [], done, p, e, hl, hb, h, h2 => ⟨hl, Sub.refl p, fun v hv hp => h v (by have := hg.in_order hv; rw [e, List.append_nil] at this; exact this) hp⟩
  | w :: rest, done, p, e, hl, hb, h, h2 => by
    obtain ⟨⟨w1, w2⟩, w3, w4, w5⟩ := hg.cut e
    obtain ⟨m, rfl⟩ : ∃ m : Nat, w = m := ⟨w.toNat, by omega⟩
    have hk := hg.kid e
    have hpd : ∀ v : Nat, (v : Int) ∈ done → par f v ≠ -1 → par f v ≠ m := fun v hv hp hm => by
      obtain ⟨d1, d2, e2⟩ := List.append_of_mem hv
      have e3 : f.order = d1 ++ (v : Int) :: (d2 ++ (m : Int) :: rest) := by rw [e, e2]; simp
      obtain ⟨_, _, _, h5⟩ := hg.cut e3
      rw [Int.toNat_natCast] at h5
      rcases h5 with h5 | h5
      · exact hp h5
      · rw [hm] at h5; exact w3 (by rw [e2]; simp [h5])
    have hge : ∀ v : Nat, (v : Int) ∈ done → -1 ≤ par f v := fun v hv => (hg.parent_ge (by have := hg.order_in (v := v) (by rw [e]; simp [hv]); omega)).1
    obtain ⟨s1, s2⟩ := down_step_inv hl hb hk w3 hpd hge h h2
    have hsub := Sub.down (f := f) hl hk.lt
    obtain ⟨k1, k2, k3⟩ := down_all hg rest (done ++ [(m : Int)]) (downC f p m) (by rw [e, List.append_assoc]; rfl) (hl.down m) (hb.sub hsub) s1 s2
    simp only [List.foldl_cons, Int.toNat_natCast]
    exact ⟨k1, k2.trans hsub, k3⟩
theorem down_fold {f : Forest} {n : Nat} : ∀ (rest : List Int) (p : Parts), (∀ v ∈ rest, v.toNat < n) → Lens n p → NB p → rest.foldl (fun p v => downStep f p v.toNat) p = rest.foldl (fun p v => downC f p v.toNat) p
  | [], _, _, _, _ => rfl
  | w :: rest, p, hr, hl, hb => by
    have hw := hr w (by simp)
    simp only [List.foldl_cons]
    rw [downStep_eq hb (by rw [hl.2]; exact hw)]
    exact down_fold rest _ (fun v hv => hr v (by simp [hv])) (hl.down _) (hb.sub (Sub.down hl hw))
end Go.Proofs.Ytnkjikpmgeknbaa.Am
namespace Go.Proofs.Ytnkjikpmgeknbaa.Am
open Go Go.RowKit
set_option maxRecDepth 100000
set_option linter.unusedVariables false
set_option linter.unusedSimpArgs false

theorem lessL_trans {x y z : Link} (h : lessL x y = true) (k : lessL y z = true) : lessL x z = true := by
  simp only [lessL, Bool.or_eq_true, Bool.and_eq_true, decide_eq_true_eq] at *
  omega
theorem pairwise_near {α : Type} {R : α → α → Prop} (tr : ∀ x y z, R x y → R y z → R x z) {xs : List α} (h : ∀ (i : Nat) (hi : i < xs.length), 0 < i → R (xs[i - 1]'(by omega)) xs[i]) : xs.Pairwise R := by
  rw [List.pairwise_iff_getElem]
  intro i j hi hj hij
  obtain ⟨d, rfl⟩ : ∃ d, j = i + 1 + d := ⟨j - i - 1, by omega⟩
  clear hij
  induction d with
  | zero => exact h (i + 1) hj (by omega)
  | succ d ih => exact tr _ _ _ (ih (by omega)) (h (i + 1 + d + 1) hj (by omega))
theorem goodL_iff {xs : List Link} : GoodL xs ↔ (∀ x ∈ xs, OkL x) ∧ xs.Pairwise fun x y => lessL x y = true := by
  constructor
  · intro h
    refine ⟨fun x hx => ?_, pairwise_near (R := fun x y => lessL x y = true) (fun _ _ _ h1 h2 => lessL_trans h1 h2) fun i hi h0 => (h i hi).2 h0⟩
    obtain ⟨i, hi, rfl⟩ := List.getElem_of_mem hx
    exact (h i hi).1
  · intro ⟨h1, h2⟩ i hi
    exact ⟨h1 _ (List.getElem_mem hi), fun h0 => (List.pairwise_iff_getElem.1 h2) (i - 1) i (by omega) hi (by omega)⟩
theorem GoodL.sub {xs ys : List Link} (h : GoodL xs) (hs : ys.Sublist xs) : GoodL ys := by
  rw [goodL_iff] at *
  exact ⟨fun x hx => h.1 x (hs.subset hx), h.2.sublist hs⟩
theorem GoodP.lens {f : Forest} {p : Parts} (h : GoodP f p) : Lens f.vars.length p := ⟨h.n1, h.n2⟩
theorem GoodP.nb {f : Forest} {p : Parts} (h : GoodP f p) : NB p := fun v x hx => by
  by_cases hv : v < f.vars.length
  · exact (h.ok v hv).2.2.1 x hx
  · unfold nd at hx
    rw [List.getD_eq_getElem?_getD, List.getElem?_eq_none (by have := h.n1; omega)] at hx
    simp at hx
theorem GoodP.sub {f : Forest} {p q : Parts} (h : GoodP f p) (hl : Lens f.vars.length q) (hs : Sub q p) : GoodP f q := by
  refine ⟨h.gf, hl.1, hl.2, fun v hv => ?_⟩
  obtain ⟨k1, k2, k3, k4⟩ := h.ok v hv
  obtain ⟨s1, s2⟩ := hs v
  unfold nd at s1
  unfold lk at s2
  refine ⟨k1.sub s1, k2.sub s2, fun x hx => k3 x (s1.subset hx), fun hp => ?_⟩
  have := k4 hp
  rw [this] at s2
  exact List.sublist_nil.1 s2
theorem reduced {f : Forest} {p : Parts} (h : GoodP f p) : Lens f.vars.length (upP f p) ∧ Sub (upP f p) p ∧ Lens f.vars.length (downP f (upP f p)) ∧ Sub (downP f (upP f p)) p ∧ ∀ v : Nat, v < f.vars.length → par f v ≠ -1 → Full f (downP f (upP f p)) v := by
  obtain ⟨k1, k2, k3, k4⟩ := up_all h.gf f.order.reverse [] p rfl h.lens h.nb (fun v hv => by simp at hv)
  have e1 : upP f p = f.order.reverse.foldl (fun p v => upC f p v.toNat) p := k4
  rw [← e1] at k1 k2 k3
  have hb := h.nb.sub k2
  obtain ⟨d1, d2, d3⟩ := down_all h.gf f.order [] (upP f p) rfl k1 hb (fun v hv => by simp at hv) (fun v hv _ hp => k3 v hv hp)
  have e2 : downP f (upP f p) = f.order.foldl (fun p v => downC f p v.toNat) (upP f p) := down_fold _ _ (fun v hv => by have := h.gf.order_in hv; omega) k1 hb
  rw [← e2] at d1 d2 d3
  exact ⟨k1, k2, d1, d2.trans k2, d3⟩
theorem set_getD {ns : List (List Link)} {v : Nat} (hv : v < ns.length) : ns.set v (ns.getD v []) = ns := by
  rw [getD_list hv]; exact List.set_getElem_self _
theorem Full.left {f : Forest} {p : Parts} {v : Nat} (h : Full f p v) : left p v (par f v).toNat = lk p v := by
  unfold Am.left
  rw [List.filter_eq_self]
  intro x hx
  obtain ⟨h1, h2⟩ := h.ends x hx
  rw [decide_eq_true h1, decide_eq_true h2]; rfl
theorem up_stays {f : Forest} {n : Nat} {p : Parts} {v : Nat} (hl : Lens n p) (hb : NB p) (hv : v < n) (hu : (par f v).toNat < n) (h : par f v ≠ -1 → Full f p v) : upStep f p v = p := by
  rw [upStep_eq hb (by rw [hl.2]; exact hv)]
  unfold upC
  split
  · rfl
  · rename_i hp
    have hF := h hp
    rw [hF.left, List.filter_eq_self.2 (fun y hy => by rw [decide_eq_true_eq]; exact hF.up y hy)]
    unfold nd lk
    rw [set_getD (by rw [hl.1]; exact hu), set_getD (by rw [hl.2]; exact hv)]
theorem down_stays {f : Forest} {n : Nat} {p : Parts} {v : Nat} (hl : Lens n p) (hb : NB p) (hv : v < n) (h : par f v ≠ -1 → Full f p v) : downStep f p v = p := by
  rw [downStep_eq hb (by rw [hl.2]; exact hv)]
  unfold downC
  split
  · rfl
  · rename_i hp
    have hF := h hp
    rw [hF.left, List.filter_eq_self.2 (fun y hy => by rw [decide_eq_true_eq]; exact hF.down y hy)]
    unfold nd lk
    rw [set_getD (by rw [hl.1]; exact hv), set_getD (by rw [hl.2]; exact hv)]
theorem foldl_self {α β : Type} {g : α → β → α} {a : α} : ∀ (l : List β), (∀ b ∈ l, g a b = a) → l.foldl g a = a
  | [], _ => rfl
  | b :: l, h => by rw [List.foldl_cons, h b (by simp)]; exact foldl_self l fun c hc => h c (by simp [hc])
theorem all_stays {f : Forest} {p : Parts} (hg : GoodF f) (hl : Lens f.vars.length p) (hb : NB p) (h : ∀ v : Nat, v < f.vars.length → par f v ≠ -1 → Full f p v) : upP f p = p ∧ downP f p = p := by
  have hv : ∀ v ∈ f.order, v.toNat < f.vars.length := fun v hv => by have := hg.order_in hv; omega
  refine ⟨foldl_self _ fun v hm => ?_, foldl_self _ fun v hm => ?_⟩
  · rw [List.mem_reverse] at hm
    have := hv v hm
    exact up_stays hl hb this (by have := (hg.parent_ge this); unfold par; omega) (h _ this)
  · exact down_stays hl hb (hv v hm) (h _ (hv v hm))
def empties (n : Nat) : Parts := ⟨List.replicate n [], List.replicate n []⟩
theorem nd_empties (n v : Nat) : nd (empties n) v = [] := by
  unfold nd empties
  rw [List.getD_eq_getElem?_getD, List.getElem?_replicate]
  split <;> rfl
theorem lk_empties (n v : Nat) : lk (empties n) v = [] := nd_empties n v
theorem lens_empties (n : Nat) : Lens n (empties n) := ⟨by simp [empties], by simp [empties]⟩
theorem sub_empties (n : Nat) (p : Parts) : Sub (empties n) p := fun v => by rw [nd_empties, lk_empties]; exact ⟨List.nil_sublist _, List.nil_sublist _⟩
theorem full_empties (f : Forest) (n v : Nat) : Full f (empties n) v :=
  ⟨fun x hx => by rw [lk_empties] at hx; simp at hx, fun y hy => by rw [nd_empties] at hy; simp at hy, fun y hy => by rw [nd_empties] at hy; simp at hy⟩
/-- What is left fits together, and is of what there was. -/
theorem ofP_all {f : Forest} {p : Parts} (h : GoodP f p) : Lens f.vars.length (ofP f p) ∧ Sub (ofP f p) p ∧ (∀ v : Nat, v < f.vars.length → par f v ≠ -1 → Full f (ofP f p) v) ∧ (f.order.any (rootless f (ofP f p)) = true → ofP f p = empties f.vars.length) := by
  obtain ⟨k1, k2, d1, d2, d3⟩ := reduced h
  unfold ofP
  split
  · exact ⟨lens_empties _, sub_empties _ _, fun v _ _ => full_empties f _ v, fun _ => rfl⟩
  · rename_i hr
    exact ⟨d1, d2, d3, fun h => absurd h hr⟩
theorem ofP_good {f : Forest} {p : Parts} (h : GoodP f p) : GoodP f (ofP f p) := h.sub (ofP_all h).1 (ofP_all h).2.1
theorem ofP_fix {f : Forest} {p : Parts} (hg : GoodF f) (hl : Lens f.vars.length p) (hb : NB p) (h : ∀ v : Nat, v < f.vars.length → par f v ≠ -1 → Full f p v) (hr : f.order.any (rootless f p) = true → p = empties f.vars.length) : ofP f p = p := by
  obtain ⟨e1, e2⟩ := all_stays hg hl hb h
  unfold ofP
  rw [e1, e2]
  split
  · rename_i h; exact (hr h).symm
  · rfl
theorem ofP_twice {f : Forest} {p : Parts} (h : GoodP f p) : ofP f (ofP f p) = ofP f p := by
  obtain ⟨k1, k2, k3, k4⟩ := ofP_all h
  exact ofP_fix h.gf k1 (h.nb.sub k2) k3 k4
end Go.Proofs.Ytnkjikpmgeknbaa.Am
namespace Go.Proofs.Ytnkjikpmgeknbaa.Am
open Go Go.RowKit
set_option maxRecDepth 100000
set_option linter.unusedVariables false
set_option linter.unusedSimpArgs false

def twoR : Parts := ⟨[[⟨0, 0, 0, 1⟩], [⟨1, 1, 0, 1⟩]], [[], [⟨0, 1, 0, 1⟩]]⟩
theorem good_two : GoodP twoF twoP := by
  refine ⟨⟨rfl, rfl, rfl, rfl, fun i hi => ?_⟩, rfl, rfl, fun v hv => ?_⟩
  · have hi' : i < 2 := hi
    rcases (by omega : i = 0 ∨ i = 1) with rfl | rfl <;> (unfold OkF; decide)
  · have hv' : v < 2 := hv
    rcases (by omega : v = 0 ∨ v = 1) with rfl | rfl <;> (unfold OkP; rw [goodL_iff, goodL_iff]; unfold OkL; decide)
theorem small_two : Small twoF twoP := ⟨by decide, by decide, by decide, by decide, by decide, by decide, by decide⟩
theorem of_two : ofP twoF twoP = twoR := by
  have h := good_two
  obtain ⟨k1, k2, k3, k4⟩ := up_all h.gf twoF.order.reverse [] twoP rfl h.lens h.nb (fun v hv => by simp at hv)
  have e1 : upP twoF twoP = twoF.order.reverse.foldl (fun p v => upC twoF p v.toNat) twoP := k4
  rw [← e1] at k1 k2
  have e2 : downP twoF (upP twoF twoP) = twoF.order.foldl (fun p v => downC twoF p v.toNat) (upP twoF twoP) := down_fold _ _ (fun v hv => by have := h.gf.order_in hv; omega) k1 (h.nb.sub k2)
  unfold ofP
  rw [e2, e1]
  rfl
theorem of_twoR : ofP twoF twoR = twoR := by have := ofP_twice good_two; rwa [of_two] at this
theorem good_twoR : GoodP twoF twoR := by have := ofP_good good_two; rwa [of_two] at this
theorem small_twoR : Small twoF twoR := ⟨by decide, by decide, by decide, by decide, by decide, by decide, by decide⟩
theorem Of_good (f : Forest) (p : Parts) (cs ds : List Value) (H : Hp) (hp : kForest.rep H f cs) (hq : kParts.rep H p ds) (hsm : Small f p) (hg : GoodP f p) :
    ACalls Try.prog 35 #[.agg cs.toArray, .agg ds.toArray] H (fun r H' => ∃ (u v : Value), r = .tuple #[.agg #[u, v], .int .i64 0] ∧ Sl (kSl kLink) H' u (ofP f p).nodes ∧ Sl (kSl kLink) H' v (ofP f p).links ∧ H.le H') :=
  (Of_parts f p cs ds H hp hq hsm).mono fun r H' ⟨g, es, h1, h2, h3, h4⟩ => by
    obtain rfl : g = true := h1.2 hg
    obtain ⟨u, v, rfl, h5, h6⟩ := h3
    exact ⟨u, v, h2, h5, h6, h4⟩
theorem Of_bad (f : Forest) (p : Parts) (cs ds : List Value) (H : Hp) (hp : kForest.rep H f cs) (hq : kParts.rep H p ds) (hsm : Small f p) (hg : ¬ GoodP f p) :
    ACalls Try.prog 35 #[.agg cs.toArray, .agg ds.toArray] H (fun r H' => ∃ (u v : Value), r = .tuple #[.agg #[u, v], .int .i64 1] ∧ Sl (kSl kLink) H' u [] ∧ Sl (kSl kLink) H' v [] ∧ H.le H') :=
  (Of_parts f p cs ds H hp hq hsm).mono fun r H' ⟨g, es, h1, h2, h3, h4⟩ => by
    obtain rfl : g = false := by cases g with | false => rfl | true => exact absurd (h1.1 rfl) hg
    obtain ⟨u, v, rfl, h5, h6⟩ := h3
    exact ⟨u, v, h2, h5, h6, h4⟩
theorem Is_true (f : Forest) (p : Parts) (cs ds : List Value) (H : Hp) (hp : kForest.rep H f cs) (hq : kParts.rep H p ds) (hsm : Small f p) (hg : GoodP f p) (he : ofP f p = p) :
    ACalls Try.prog 39 #[.agg cs.toArray, .agg ds.toArray] H (fun r H' => r = .bool true ∧ H' = H) :=
  (Is_parts f p cs ds H hp hq hsm).mono fun r H' ⟨⟨g, h1, h2⟩, h3⟩ => by
    obtain rfl : g = true := h2.2 ⟨hg, by rw [he], by rw [he]⟩
    exact ⟨h1, h3⟩
theorem Is_false (f : Forest) (p : Parts) (cs ds : List Value) (H : Hp) (hp : kForest.rep H f cs) (hq : kParts.rep H p ds) (hsm : Small f p) (he : (ofP f p).nodes ≠ p.nodes) :
    ACalls Try.prog 39 #[.agg cs.toArray, .agg ds.toArray] H (fun r H' => r = .bool false ∧ H' = H) :=
  (Is_parts f p cs ds H hp hq hsm).mono fun r H' ⟨⟨g, h1, h2⟩, h3⟩ => by
    obtain rfl : g = false := by cases g with | false => rfl | true => exact absurd (h2.1 rfl).2.1 he
    exact ⟨h1, h3⟩
set_option maxHeartbeats 1000000 in
theorem lives28_ok (H : Hp) : ACalls Try.prog 37 #[] H (fun r H' => r = .bool true ∧ H.le H') := by
  refine acalls_of_code Try.func37 rfl rfl rfl (by simp) ?_
  refine ac_seq ?_
  refine ac_region (by kernel_rfl) ?_
  first | refine aops_val (av_assign_bool rfl) ?_ | refine aops_val (av_assign rfl) ?_
  refine ac_seq ?_
  refine ac_region (by kernel_rfl) ?_
  refine aops_op (aop_call (two_ok _) rfl Try.func99 rfl rfl rfl ?_)
  rintro v1 H1 ⟨cs1, ds1, rfl, hf1, hp1, hle1⟩; have hf10 := hf1; have hp10 := hp1; obtain ⟨a0, a1, a2, a3, a4, rfl, hs0, hs1, hs2, hs3, hs4⟩ := hf1; obtain ⟨A0, c0, rfl⟩ := hs0.shape; obtain ⟨A1, c1, rfl⟩ := hs1.shape; obtain ⟨A2, c2, rfl⟩ := hs2.shape; obtain ⟨A3, c3, rfl⟩ := hs3.shape; obtain ⟨A4, c4, rfl⟩ := hs4.shape; obtain ⟨u0, u1, rfl, hn0, hn1⟩ := hp1; obtain ⟨B0, d0, rfl⟩ := hn0.shape; obtain ⟨B1, d1, rfl⟩ := hn1.shape
  refine aops_val (av_move rfl) ?_
  refine aops_val (av_extract rfl rfl) ?_
  refine aops_val (av_extract rfl rfl) ?_
  refine aops_make (am_zero (l := [.slice none 0 0, .slice none 0 0, .slice none 0 0, .slice none 0 0, .slice none 0 0]) inf62.zero rfl (by decide)) ?_
  refine aops_make (am_zero (l := [.slice none 0 0, .slice none 0 0]) inf65.zero rfl (by decide)) ?_
  first | refine aops_op (aop_putN (vs := [.slice _ _ _, .slice _ _ _, .slice _ _ _, .slice _ _ _, .slice _ _ _]) rfl rfl inf62.size t_get t_room rfl rfl ?_) | refine aops_op (aop_putN (vs := [_, _, _, _, _]) rfl rfl inf62.size t_get t_room rfl rfl ?_)
  first | refine aops_op (aop_putN (vs := [.slice _ _ _, .slice _ _ _]) rfl rfl inf65.size t_get t_room rfl rfl ?_) | refine aops_op (aop_putN (vs := [_, _]) rfl rfl inf65.size t_get t_room rfl rfl ?_)
  refine ac_seq ?_
  refine ac_region (by kernel_rfl) ?_
  first | refine aops_val (av_loadN (cs := [.slice _ _ _, .slice _ _ _, .slice _ _ _, .slice _ _ _, .slice _ _ _]) rfl Try.underlying62 rfl inf62.size t_cells) ?_ | refine aops_val (av_loadN (cs := [_, _, _, _, _]) rfl Try.underlying62 rfl inf62.size t_cells) ?_
  first | refine aops_val (av_loadN (cs := [.slice _ _ _, .slice _ _ _]) rfl Try.underlying65 rfl inf65.size t_cells) ?_ | refine aops_val (av_loadN (cs := [_, _]) rfl Try.underlying65 rfl inf65.size t_cells) ?_
  refine aops_op (aop_call (Of_good twoF twoP _ _ _ (kForest.mono t_sees hf10) (kParts.mono t_sees hp10) small_two good_two) rfl Try.func35 rfl rfl rfl ?_)
  rintro v2 H2 ⟨w0, w1, rfl, hm0, hm1, hle2⟩; rw [of_two] at hm0 hm1; obtain ⟨C0, k0, rfl⟩ := hm0.shape; obtain ⟨C1, k1, rfl⟩ := hm1.shape; have hz2 := hle2.1; simp only [Hp.push_size, Hp.put_size] at hz2
  refine aops_val (av_move rfl) ?_
  refine aops_val (av_extract rfl rfl) ?_
  refine aops_val (av_extract rfl rfl) ?_
  refine aops_make (am_zero (l := [.slice none 0 0, .slice none 0 0]) inf65.zero rfl (by decide)) ?_
  first | refine aops_op (aop_putN (vs := [.slice _ _ _, .slice _ _ _]) rfl rfl inf65.size t_get t_room rfl rfl ?_) | refine aops_op (aop_putN (vs := [_, _]) rfl rfl inf65.size t_get t_room rfl rfl ?_)
  first | refine aops_val (av_assign_int rfl) ?_ | refine aops_val (av_assign rfl) ?_
  refine ac_seq ?_
  refine ac_region (by kernel_rfl) ?_
  first | refine aops_val (av_move_int rfl) ?_ | refine aops_val (av_move rfl) ?_
  refine aops_val (av_eq rfl rfl) ?_
  first | refine aops_val (av_move_bool rfl) ?_ | refine aops_val (av_move rfl) ?_
  refine aops_guard rfl rfl rfl ?_ ?_
  · intro hg1
    have hp1 := hg1; try simp only [decide_eq_true_eq, decide_eq_false_iff_not, Bool.not_eq_true', Bool.not_eq_false'] at hp1
    refine aops_wval (want_yes rfl rfl rfl hg1) (av_fieldOff (off := 0) rfl Try.underlying65 rfl inf63.size (by decide) rfl) ?_
    refine aops_wval (want_yes rfl rfl rfl hg1) (av_load1 rfl Try.underlying63 rfl t_cell) ?_
    refine aops_wval (want_yes rfl rfl rfl hg1) (av_len rfl Try.underlying63) ?_
    refine aops_wval (want_yes rfl rfl rfl hg1) (av_eq rfl rfl) ?_
    refine aops_val (av_pick_bool (congrArg Value.bool hg1) rfl) ?_
    first | refine aops_val (av_move_bool rfl) ?_ | refine aops_val (av_move rfl) ?_
    refine aops_guard rfl rfl rfl ?_ ?_
    · intro hg2
      have hp2 := hg2; try simp only [decide_eq_true_eq, decide_eq_false_iff_not, Bool.not_eq_true', Bool.not_eq_false'] at hp2
      refine aops_wval (want_yes rfl rfl rfl hg2) (av_fieldOff (off := 0) rfl Try.underlying65 rfl inf63.size (by decide) rfl) ?_
      refine aops_wval (want_yes rfl rfl rfl hg2) (av_load1 rfl Try.underlying63 rfl t_cell) ?_
      obtain ⟨b, o, ks, eB, hb, ⟨w3, rfl, hw3⟩, hcell3⟩ := hm0.elem_at (i := 0) (by decide)
      obtain ⟨b', o', ks', eB', hb', ⟨w4, rfl, hw4⟩, hcell4⟩ := hm0.elem_at (i := 1) (by decide)
      obtain ⟨rfl⟩ : C0 = some ⟨b, o, none⟩ := eB
      simp only [Option.some.injEq, Addr.mk.injEq, and_true] at eB'
      obtain ⟨rfl, rfl⟩ := eB'
      have hcell3' := hcell3.one
      have hcell4' := hcell4.one
      obtain ⟨C3, k3, rfl⟩ := hw3.shape
      obtain ⟨C4, k4, rfl⟩ := hw4.shape
      refine aops_wval (want_yes rfl rfl rfl hg2) (av_indexAddr rfl rfl Try.underlying63 inf22.size t_idx t_idx) ?_
      refine aops_wval (want_yes rfl rfl rfl hg2) (av_load1 rfl Try.underlying22 rfl t_cell) ?_
      refine aops_wval (want_yes rfl rfl rfl hg2) (av_len rfl Try.underlying22) ?_
      refine aops_wval (want_yes rfl rfl rfl hg2) (av_eq rfl rfl) ?_
      refine aops_val (av_pick_bool (congrArg Value.bool hg2) rfl) ?_
      first | refine aops_val (av_move_bool rfl) ?_ | refine aops_val (av_move rfl) ?_
      refine aops_guard rfl rfl rfl ?_ ?_
      · intro hg3
        have hp3 := hg3; try simp only [decide_eq_true_eq, decide_eq_false_iff_not, Bool.not_eq_true', Bool.not_eq_false'] at hp3
        refine aops_wval (want_yes rfl rfl rfl hg3) (av_fieldOff (off := 0) rfl Try.underlying65 rfl inf63.size (by decide) rfl) ?_
        refine aops_wval (want_yes rfl rfl rfl hg3) (av_load1 rfl Try.underlying63 rfl t_cell) ?_
        refine aops_wval (want_yes rfl rfl rfl hg3) (av_indexAddr rfl rfl Try.underlying63 inf22.size t_idx t_idx) ?_
        refine aops_wval (want_yes rfl rfl rfl hg3) (av_load1 rfl Try.underlying22 rfl t_cell) ?_
        refine aops_wval (want_yes rfl rfl rfl hg3) (av_len rfl Try.underlying22) ?_
        refine aops_wval (want_yes rfl rfl rfl hg3) (av_eq rfl rfl) ?_
        refine aops_val (av_pick_bool (congrArg Value.bool hg3) rfl) ?_
        first | refine aops_val (av_move_bool rfl) ?_ | refine aops_val (av_move rfl) ?_
        refine aops_guard rfl rfl rfl ?_ ?_
        · intro hg4
          have hp4 := hg4; try simp only [decide_eq_true_eq, decide_eq_false_iff_not, Bool.not_eq_true', Bool.not_eq_false'] at hp4
          first | refine aops_wval (want_yes rfl rfl rfl hg4) (av_loadN (cs := [.slice _ _ _, .slice _ _ _, .slice _ _ _, .slice _ _ _, .slice _ _ _]) rfl Try.underlying62 rfl inf62.size t_cells) ?_ | refine aops_wval (want_yes rfl rfl rfl hg4) (av_loadN (cs := [_, _, _, _, _]) rfl Try.underlying62 rfl inf62.size t_cells) ?_
          first | refine aops_wval (want_yes rfl rfl rfl hg4) (av_loadN (cs := [.slice _ _ _, .slice _ _ _]) rfl Try.underlying65 rfl inf65.size t_cells) ?_ | refine aops_wval (want_yes rfl rfl rfl hg4) (av_loadN (cs := [_, _]) rfl Try.underlying65 rfl inf65.size t_cells) ?_
          refine aops_want (want_yes rfl rfl rfl hg4) (aop_call (Is_false twoF twoP _ _ _ (kForest.mono t_sees hf10) (kParts.mono t_sees hp10) small_two (by rw [of_two]; decide)) rfl Try.func39 rfl rfl rfl ?_)
          rintro v5 H5 ⟨rfl, rfl⟩
          refine aops_wval (want_yes rfl rfl rfl hg4) (av_not rfl) ?_
          refine aops_val (av_pick_bool (congrArg Value.bool hg4) rfl) ?_
          first | refine aops_val (av_move_bool rfl) ?_ | refine aops_val (av_move rfl) ?_
          refine aops_guard rfl rfl rfl ?_ ?_
          · intro hg5
            have hp5 := hg5; try simp only [decide_eq_true_eq, decide_eq_false_iff_not, Bool.not_eq_true', Bool.not_eq_false'] at hp5
            first | refine aops_wval (want_yes rfl rfl rfl hg5) (av_loadN (cs := [.slice _ _ _, .slice _ _ _, .slice _ _ _, .slice _ _ _, .slice _ _ _]) rfl Try.underlying62 rfl inf62.size t_cells) ?_ | refine aops_wval (want_yes rfl rfl rfl hg5) (av_loadN (cs := [_, _, _, _, _]) rfl Try.underlying62 rfl inf62.size t_cells) ?_
            first | refine aops_wval (want_yes rfl rfl rfl hg5) (av_loadN (cs := [.slice _ _ _, .slice _ _ _]) rfl Try.underlying65 rfl inf65.size t_cells) ?_ | refine aops_wval (want_yes rfl rfl rfl hg5) (av_loadN (cs := [_, _]) rfl Try.underlying65 rfl inf65.size t_cells) ?_
            refine aops_want (want_yes rfl rfl rfl hg5) (aop_call (Is_true twoF twoR _ [_, _] _ (kForest.mono t_sees hf10) ⟨_, _, rfl, hm0.mono t_sees, hm1.mono t_sees⟩ small_twoR good_twoR of_twoR) rfl Try.func39 rfl rfl rfl ?_)
            rintro v6 H6 ⟨rfl, rfl⟩
            refine aops_val (av_pick_bool (congrArg Value.bool hg5) rfl) ?_
            first | refine aops_val (av_assign_bool rfl) ?_ | refine aops_val (av_assign rfl) ?_
            refine ac_ret ?_
            exact ⟨.bool true, aresult1 (ares_tmp rfl), rfl, Hp.le_put_new (Hp.le_push' (Hp.le_trans (Hp.le_put_new (Hp.le_put_new (Hp.le_push' (Hp.le_push' hle1 _) _) (by have := hle1.1; simp <;> omega) _) (by have := hle1.1; simp <;> omega) _) hle2) _) (by have := hle1.1; omega) _⟩
          · intro hg5
            exact absurd hg5 (by decide)
        · intro hg4
          exact absurd hg4 (by decide)
      · intro hg3
        exact absurd hg3 (by decide)
    · intro hg2
      exact absurd hg2 (by decide)
  · intro hg1
    exact absurd hg1 (by decide)
end Go.Proofs.Ytnkjikpmgeknbaa.Am
namespace Go.Proofs.Ytnkjikpmgeknbaa.Am
open Go Go.RowKit
set_option maxRecDepth 100000
set_option linter.unusedVariables false
set_option linter.unusedSimpArgs false

structure BigF (f : Forest) : Prop where
  l0 : f.vars.length ≤ 9223372036854775807
  l1 : f.order.length ≤ 9223372036854775807
  l2 : f.parent.length ≤ 9223372036854775807
  l3 : f.links.length ≤ 9223372036854775807
  l4 : f.loops.length ≤ 9223372036854775807
  s3 : ∀ l ∈ f.links, l.length ≤ 9223372036854775807
  s4 : ∀ l ∈ f.loops, l.length ≤ 9223372036854775807
structure BigP (p : Parts) : Prop where
  l0 : p.nodes.length ≤ 9223372036854775807
  l1 : p.links.length ≤ 9223372036854775807
  s0 : ∀ l ∈ p.nodes, l.length ≤ 9223372036854775807
  s1 : ∀ l ∈ p.links, l.length ≤ 9223372036854775807
theorem Forest_28 (f : Forest) (cs : List Value) (H : Hp) (hp : kForest.rep H f cs) (hb : BigF f) :
    ACalls Try.prog 33 #[.agg cs.toArray] H (fun r H' => H.le H' ∧ ∃ ds, r = .agg ds.toArray ∧ kForest.rep H' f.few ds) := by
  have hp0 := hp
  obtain ⟨v0, v1, v2, v3, v4, rfl, hs0, hs1, hs2, hs3, hs4⟩ := hp
  obtain ⟨A0, c0, rfl⟩ := hs0.shape
  obtain ⟨A1, c1, rfl⟩ := hs1.shape
  obtain ⟨A2, c2, rfl⟩ := hs2.shape
  obtain ⟨A3, c3, rfl⟩ := hs3.shape
  obtain ⟨A4, c4, rfl⟩ := hs4.shape
  refine acalls_of_code Try.func33 rfl rfl rfl (by simp) ?_
  refine ac_seq ?_
  refine ac_region (by kernel_rfl) ?_
  refine aops_make (am_box_agg rfl) ?_
  refine aops_make (am_zero (l := [.slice none 0 0, .slice none 0 0, .slice none 0 0, .slice none 0 0, .slice none 0 0]) inf62.zero rfl (by decide)) ?_
  refine ac_seq ?_
  refine ac_region (by kernel_rfl) ?_
  first | refine aops_val (av_loadN (cs := [.slice _ _ _, .slice _ _ _, .slice _ _ _, .slice _ _ _, .slice _ _ _]) rfl Try.underlying62 rfl inf62.size t_cells) ?_ | refine aops_val (av_loadN (cs := [_, _, _, _, _]) rfl Try.underlying62 rfl inf62.size t_cells) ?_
  refine aops_op (aop_call (Few_forest f _ _ (kForest.mono t_sees hp0) hb.l0 hb.l1 hb.l2 hb.l3 hb.l4 hb.s3 hb.s4) rfl Try.func94 rfl rfl rfl ?_)
  rintro v2 H2 ⟨hle2, ds, rfl, hds⟩; have hds0 := hds; obtain ⟨a0, a1, a2, a3, a4, rfl, ht0, ht1, ht2, ht3, ht4⟩ := hds; obtain ⟨B0, d0, rfl⟩ := ht0.shape; obtain ⟨B1, d1, rfl⟩ := ht1.shape; obtain ⟨B2, d2, rfl⟩ := ht2.shape; obtain ⟨B3, d3, rfl⟩ := ht3.shape; obtain ⟨B4, d4, rfl⟩ := ht4.shape; have hz2 := hle2.1; simp only [Hp.push_size] at hz2
  first | refine aops_op (aop_putN (vs := [.slice _ _ _, .slice _ _ _, .slice _ _ _, .slice _ _ _, .slice _ _ _]) rfl rfl inf62.size t_get t_room rfl rfl ?_) | refine aops_op (aop_putN (vs := [_, _, _, _, _]) rfl rfl inf62.size t_get t_room rfl rfl ?_)
  refine ac_ret ?_
  have k1 : H2.get (H.size + 1) = .own 0 [.slice none 0 0, .slice none 0 0, .slice none 0 0, .slice none 0 0, .slice none 0 0] := le_got hle2 (by simp) (by intro e; cases e) t_get
  exact ⟨_, aresult1 (ares_cell (by first | assumption | rfl) (aload_agg (cs := [_, _, _, _, _]) Try.underlying62 rfl inf62.size t_cells)), Hp.le_put_new (Hp.le_trans (Hp.le_push' (H.le_push _) _) hle2) (by simp <;> omega) _, [_, _, _, _, _], rfl, kForest.mono (Hp.sees_box _ k1) hds0⟩
theorem small_few (f : Forest) (p : Parts) : Small f.few p.few4 := by
  have h8 : ∀ {α : Type} (xs : List α), (xs.take 8).length ≤ 8 := fun xs => by rw [List.length_take]; omega
  refine ⟨?_, ?_, ?_, ?_, ?_, fun l hl => ?_, fun l hl => ?_⟩
  · show ((f.vars.take 8).map _).length ≤ _; rw [List.length_map]; have := h8 f.vars; omega
  · show (f.order.take 8).length ≤ _; have := h8 f.order; omega
  · show (f.parent.take 8).length ≤ _; have := h8 f.parent; omega
  · show (((p.nodes.take 8).map fewL).map _).length ≤ _; rw [List.length_map, List.length_map]; have := h8 p.nodes; omega
  · show ((p.links.take 8).map fewL).length ≤ _; rw [List.length_map]; have := h8 p.links; omega
  · obtain ⟨m, _, rfl⟩ := List.mem_map.1 hl
    rw [List.length_take]; omega
  · obtain ⟨m, _, rfl⟩ := List.mem_map.1 hl
    unfold fewL; rw [List.length_map, List.length_take]; omega
theorem Link.few_few (x : Link) : x.few.few = x.few := by
  unfold Link.few
  by_cases h : 1000000000 < x.cost
  · rw [if_pos h]; simp
  · rw [if_neg h, if_neg h]
theorem fewL_le (xs : List Link) : (fewL xs).length ≤ 25 := by unfold fewL; rw [List.length_map, List.length_take]; omega
theorem fewL_take (m : Nat) (xs : List Link) : fewL ((fewL xs).take m) = (fewL xs).take m := by
  have h : (fewL xs).map Link.few = fewL xs := by
    unfold fewL
    rw [List.map_map, show Link.few ∘ Link.few = Link.few from funext Link.few_few]
  show (((fewL xs).take m).take 25).map Link.few = _
  rw [List.take_of_length_le (by rw [List.length_take]; have := fewL_le xs; omega), List.map_take, h]
theorem fewL_idem (xs : List Link) : fewL (fewL xs) = fewL xs := by
  have := fewL_take (fewL xs).length xs
  rwa [List.take_length] at this
theorem few4_few4 (p : Parts) : p.few4.few4 = p.few4 := by
  unfold Parts.few4 Parts.few
  simp only [List.map_map, ← List.map_take, List.take_take, Nat.min_self]
  congr 1
  · refine List.map_congr_left fun l _ => ?_
    simp only [Function.comp]
    rw [fewL_take, List.take_take, Nat.min_self]
  · exact List.map_congr_left fun l _ => fewL_idem l
theorem cutS_idem (s : ByteArray) : cutS (cutS s 32) 32 = cutS s 32 := by
  unfold cutS
  by_cases h : 32 < s.size
  · rw [if_pos h, if_neg (by rw [ByteArray.size_extract]; omega)]
  · rw [if_neg h, if_neg h]
theorem ffew_ffew (f : Forest) : f.few.few = f.few := by
  unfold Forest.few
  simp only [← List.map_take, List.take_take, Nat.min_self, List.map_map]
  congr 1
  · exact List.map_congr_left fun s _ => cutS_idem s
  · exact List.map_congr_left fun l _ => by simp [List.take_take]
  · exact List.map_congr_left fun l _ => by simp [List.take_take]
theorem bigF_few (f : Forest) : BigF f.few := by
  have h := (small_few f ⟨[], []⟩)
  have h8 : ∀ {α : Type} (xs : List α), (xs.take 8).length ≤ 8 := fun xs => by rw [List.length_take]; omega
  refine ⟨by have := h.s0; omega, by have := h.s1; omega, by have := h.s2; omega, ?_, ?_, fun l hl => ?_, fun l hl => ?_⟩
  · show ((f.links.take 8).map _).length ≤ _; rw [List.length_map]; have := h8 f.links; omega
  · show ((f.loops.take 8).map _).length ≤ _; rw [List.length_map]; have := h8 f.loops; omega
  · obtain ⟨m, _, rfl⟩ := List.mem_map.1 hl; rw [List.length_take]; omega
  · obtain ⟨m, _, rfl⟩ := List.mem_map.1 hl; rw [List.length_take]; omega
theorem bigP_few (p : Parts) : BigP p.few4 := by
  have h := (small_few ⟨[], [], [], [], []⟩ p)
  exact ⟨by have := h.s3; omega, by have := h.s4; omega, fun l hl => by have := h.s5 l hl; omega, fun l hl => by have := h.s6 l hl; omega⟩
end Go.Proofs.Ytnkjikpmgeknbaa.Am
namespace Go.Proofs.Ytnkjikpmgeknbaa.Am
open Go Go.RowKit
set_option maxRecDepth 100000
set_option linter.unusedVariables false
set_option linter.unusedSimpArgs false

theorem Same_true (p q : Parts) (cs ds : List Value) (H : Hp) (hp : kParts.rep H p cs) (hq : kParts.rep H q ds) (hn : p.nodes.length ≤ 1000000) (hl : p.links.length ≤ 1000000) (h3 : ∀ l ∈ p.nodes, l.length ≤ 1000000) (h4 : ∀ l ∈ p.links, l.length ≤ 1000000) (he : p = q) :
    ACalls Try.prog 38 #[.agg cs.toArray, .agg ds.toArray] H (fun r H' => r = .bool true ∧ H' = H) :=
  (Same_parts p q cs ds H hp hq hn hl h3 h4).mono fun r H' ⟨⟨g, h1, h2⟩, h3⟩ => by
    obtain rfl : g = true := h2.2 ⟨by rw [he], by rw [he]⟩
    exact ⟨h1, h3⟩
theorem small_sub {f : Forest} {p q : Parts} (h : Small f p) (hl : Lens f.vars.length q) (hs : Sub q p) : Small f q :=
  ⟨h.s0, h.s1, h.s2, by rw [hl.1]; exact h.s0, by rw [hl.2]; exact h.s0, fun l hm => by
    obtain ⟨i, hi, rfl⟩ := List.getElem_of_mem hm
    have k1 := (hs i).1.length_le
    unfold nd at k1
    rw [getD_list hi] at k1
    exact Nat.le_trans k1 (getD_len h.s5 i), fun l hm => by
    obtain ⟨i, hi, rfl⟩ := List.getElem_of_mem hm
    have k1 := (hs i).2.length_le
    unfold lk at k1
    rw [getD_list hi] at k1
    exact Nat.le_trans k1 (getD_len h.s6 i)⟩
set_option maxHeartbeats 2000000 in
theorem ReduceTwice_ok (f : Forest) (p : Parts) (cs ds : List Value) (H : Hp) (hp : kForest.rep H f cs) (hq : kParts.rep H p ds) (hbf : BigF f) (hbp : BigP p) :
    ACalls Try.prog 5 #[.agg cs.toArray, .agg ds.toArray] H (fun r H' => r = .bool true ∧ H.le H') := by
  have hp0 := hp
  have hq0 := hq
  obtain ⟨v0, v1, v2, v3, v4, rfl, hs0, hs1, hs2, hs3, hs4⟩ := hp
  obtain ⟨A0, c0, rfl⟩ := hs0.shape
  obtain ⟨A1, c1, rfl⟩ := hs1.shape
  obtain ⟨A2, c2, rfl⟩ := hs2.shape
  obtain ⟨A3, c3, rfl⟩ := hs3.shape
  obtain ⟨A4, c4, rfl⟩ := hs4.shape
  obtain ⟨u0, u1, rfl, hn0, hn1⟩ := hq
  obtain ⟨B0, d0, rfl⟩ := hn0.shape
  obtain ⟨B1, d1, rfl⟩ := hn1.shape
  have hsm := small_few f p
  have hbq := bigP_few p
  have hpp := few4_few4 p
  obtain ⟨F, hF⟩ : ∃ F, F = f.few := ⟨_, rfl⟩
  obtain ⟨Q, hQ⟩ : ∃ Q, Q = p.few4 := ⟨_, rfl⟩
  rw [← hF, ← hQ] at hsm
  rw [← hQ] at hpp hbq
  refine acalls_of_code Try.func5 rfl rfl rfl (by simp) ?_
  refine ac_seq ?_
  refine ac_region (by kernel_rfl) ?_
  refine aops_make (am_box_agg rfl) ?_
  refine aops_make (am_box_agg rfl) ?_
  first | refine aops_val (av_assign_bool rfl) ?_ | refine aops_val (av_assign rfl) ?_
  refine ac_seq ?_
  refine ac_draw (by kernel_rfl) (reg_of (B := [0, 1, 0, 7, 15, 31]) (π := [0, 2, 1, 3, 4, 5]) (by kernel_rfl)) ?_
  first | refine adr_val rfl rfl (av_loadN (cs := [.slice _ _ _, .slice _ _ _, .slice _ _ _, .slice _ _ _, .slice _ _ _]) rfl Try.underlying62 rfl inf62.size t_cells) t_lt ?_ | refine adr_val rfl rfl (av_loadN (cs := [_, _, _, _, _]) rfl Try.underlying62 rfl inf62.size t_cells) t_lt ?_
  first | refine adr_val rfl rfl (av_loadN (cs := [.slice _ _ _, .slice _ _ _]) rfl Try.underlying65 rfl inf65.size t_cells) t_lt ?_ | refine adr_val rfl rfl (av_loadN (cs := [_, _]) rfl Try.underlying65 rfl inf65.size t_cells) t_lt ?_
  refine adr_op rfl rfl (aop_call (Forest_28 f _ _ (kForest.mono t_sees hp0) hbf) rfl Try.func33 rfl rfl rfl ?_)
  rintro v5 H5 ⟨hle5, es, rfl, hes⟩; rw [← hF] at hes; have hf5 := hes; obtain ⟨a0, a1, a2, a3, a4, rfl, ht0, ht1, ht2, ht3, ht4⟩ := hes; obtain ⟨C0, k0, rfl⟩ := ht0.shape; obtain ⟨C1, k1, rfl⟩ := ht1.shape; obtain ⟨C2, k2, rfl⟩ := ht2.shape; obtain ⟨C3, k3, rfl⟩ := ht3.shape; obtain ⟨C4, k4, rfl⟩ := ht4.shape; have hz5 := hle5.1; simp only [Hp.push_size] at hz5
  refine ⟨t_pend, ?_⟩
  refine adr_op rfl rfl (aop_call (Few4_parts p _ _ (kParts.mono t_sees hq0) hbp.l0 hbp.l1 hbp.s0 hbp.s1) rfl Try.func34 rfl rfl rfl ?_)
  rintro v6 H6 ⟨hle6, es, rfl, hes⟩; rw [← hQ] at hes; have hq6 := hes; obtain ⟨b0, b1, rfl, hm0, hm1⟩ := hes; obtain ⟨D0, m0, rfl⟩ := hm0.shape; obtain ⟨D1, m1, rfl⟩ := hm1.shape; have hz6 := hle6.1; have hf6 := kForest.mono hle6.sees hf5; have h60 : H6.get H.size = .own 0 [.slice A0 f.vars.length c0, .slice A1 f.order.length c1, .slice A2 f.parent.length c2, .slice A3 f.links.length c3, .slice A4 f.loops.length c4] := le_got (Hp.le_trans hle5 hle6) (by simp <;> omega) (by intro e; cases e) t_get; have h61 : H6.get (H.size + 1) = .own 0 [.slice B0 p.nodes.length d0, .slice B1 p.links.length d1] := le_got (Hp.le_trans hle5 hle6) (by simp <;> omega) (by intro e; cases e) t_get
  refine ⟨t_pend, ?_⟩
  first | refine adr_op rfl rfl (aop_putN (vs := [.slice _ _ _, .slice _ _ _, .slice _ _ _, .slice _ _ _, .slice _ _ _]) rfl rfl inf62.size t_get t_room rfl rfl ?_) | refine adr_op rfl rfl (aop_putN (vs := [_, _, _, _, _]) rfl rfl inf62.size t_get t_room rfl rfl ?_)
  refine ⟨t_pend, ?_⟩
  first | refine adr_op rfl rfl (aop_putN (vs := [.slice _ _ _, .slice _ _ _]) rfl rfl inf65.size t_get t_room rfl rfl ?_) | refine adr_op rfl rfl (aop_putN (vs := [_, _]) rfl rfl inf65.size t_get t_room rfl rfl ?_)
  refine ⟨t_pend, ?_⟩
  refine ac_seq ?_
  obtain ⟨HA, hHA⟩ : ∃ HA, HA = (H6.put H.size (.own 0 [.slice C0 F.vars.length k0, .slice C1 F.order.length k1, .slice C2 F.parent.length k2, .slice C3 F.links.length k3, .slice C4 F.loops.length k4])).put (H.size + 1) (.own 0 [.slice D0 Q.nodes.length m0, .slice D1 Q.links.length m1]) := ⟨_, rfl⟩
  have g5 : H6.sees (H6.put H.size (.own 0 [.slice C0 F.vars.length k0, .slice C1 F.order.length k1, .slice C2 F.parent.length k2, .slice C3 F.links.length k3, .slice C4 F.loops.length k4])) := Hp.sees_box _ h60
  have g6 : (H6.put H.size (.own 0 [.slice C0 F.vars.length k0, .slice C1 F.order.length k1, .slice C2 F.parent.length k2, .slice C3 F.links.length k3, .slice C4 F.loops.length k4])).sees HA := by rw [hHA]; exact Hp.sees_box _ (by rw [Hp.put_other _ _ (by omega)]; exact h61)
  have fA := kForest.mono (g5.trans g6) hf6
  have qA := kParts.mono (g5.trans g6) hq6
  have leA : H.le HA := by rw [hHA]; exact Hp.le_put_new (Hp.le_put_new (Hp.le_trans (Hp.le_trans (Hp.le_push' (H.le_push _) _) hle5) hle6) (by omega) _) (by omega) _
  have zA : H.size + 2 ≤ HA.size := by rw [hHA]; simp; omega
  have A0' : HA.get H.size = .own 0 [.slice C0 F.vars.length k0, .slice C1 F.order.length k1, .slice C2 F.parent.length k2, .slice C3 F.links.length k3, .slice C4 F.loops.length k4] := by rw [hHA, Hp.put_other _ _ (by omega)]; exact Hp.put_same _ _ _
  have A1' : HA.get (H.size + 1) = .own 0 [.slice D0 Q.nodes.length m0, .slice D1 Q.links.length m1] := by rw [hHA]; exact Hp.put_same _ _ _
  change ACode true _ _ _ _ _ ((H6.put H.size (.own 0 [.slice C0 F.vars.length k0, .slice C1 F.order.length k1, .slice C2 F.parent.length k2, .slice C3 F.links.length k3, .slice C4 F.loops.length k4])).put (H.size + 1) (.own 0 [.slice D0 Q.nodes.length m0, .slice D1 Q.links.length m1]))
  rw [← hHA]
  clear hHA g5 g6 h60 h61 hf6 hq6 hle5 hle6 hz5 hz6 hf5
  refine ac_region (by kernel_rfl) ?_
  first | refine aops_val (av_loadN (cs := [.slice _ _ _, .slice _ _ _]) rfl Try.underlying65 rfl inf65.size t_cells) ?_ | refine aops_val (av_loadN (cs := [_, _]) rfl Try.underlying65 rfl inf65.size t_cells) ?_
  refine aops_op (aop_call (Few4_parts Q _ _ qA hbq.l0 hbq.l1 hbq.s0 hbq.s1) rfl Try.func34 rfl rfl rfl ?_)
  rintro v7 H7 ⟨hle7, es, rfl, hes⟩; rw [hpp] at hes; have q7 := hes; obtain ⟨b2, b3, rfl, hm2, hm3⟩ := hes; obtain ⟨D2, m2, rfl⟩ := hm2.shape; obtain ⟨D3, m3, rfl⟩ := hm3.shape
  refine aops_make (am_zero (l := [.slice none 0 0, .slice none 0 0]) inf65.zero rfl (by decide)) ?_
  first | refine aops_op (aop_putN (vs := [.slice _ _ _, .slice _ _ _]) rfl rfl inf65.size t_get t_room rfl rfl ?_) | refine aops_op (aop_putN (vs := [_, _]) rfl rfl inf65.size t_get t_room rfl rfl ?_)
  refine ac_seq ?_
  obtain ⟨HB, hHB⟩ : ∃ HB, HB = (H7.push (.own 0 [.slice none 0 0, .slice none 0 0])).put H7.size (.own 0 [.slice D2 Q.nodes.length m2, .slice D3 Q.links.length m3]) := ⟨_, rfl⟩
  have le7 : H7.le HB := by rw [hHB]; exact Hp.le_put_new (H7.le_push _) (Nat.le_refl _) _
  have leAB := Hp.le_trans hle7 le7
  have leB := Hp.le_trans leA leAB
  have z7 := hle7.1
  have zB : HB.size = H7.size + 1 := by rw [hHB]; simp
  have fB := kForest.mono leAB.sees fA
  have qB := kParts.mono leAB.sees qA
  have mB := kParts.mono le7.sees q7
  have B0' := le_got leAB (by omega) (by intro e; cases e) A0'
  have B1' := le_got leAB (by omega) (by intro e; cases e) A1'
  have B5' : HB.get H7.size = .own 0 [.slice D2 Q.nodes.length m2, .slice D3 Q.links.length m3] := by rw [hHB]; exact Hp.put_same _ _ _
  change ACode true _ _ _ _ _ ((H7.push (.own 0 [.slice none 0 0, .slice none 0 0])).put H7.size (.own 0 [.slice D2 Q.nodes.length m2, .slice D3 Q.links.length m3]))
  rw [← hHB]
  clear hHB
  refine ac_region (by kernel_rfl) ?_
  first | refine aops_val (av_loadN (cs := [.slice _ _ _, .slice _ _ _, .slice _ _ _, .slice _ _ _, .slice _ _ _]) rfl Try.underlying62 rfl inf62.size t_cells) ?_ | refine aops_val (av_loadN (cs := [_, _, _, _, _]) rfl Try.underlying62 rfl inf62.size t_cells) ?_
  first | refine aops_val (av_loadN (cs := [.slice _ _ _, .slice _ _ _]) rfl Try.underlying65 rfl inf65.size t_cells) ?_ | refine aops_val (av_loadN (cs := [_, _]) rfl Try.underlying65 rfl inf65.size t_cells) ?_
  refine aops_op (aop_call (Of_parts F Q _ _ _ fB mB hsm) rfl Try.func35 rfl rfl rfl ?_)
  rintro v8 H8 ⟨g, es, hg, rfl, hes, hle8⟩; have x8 := hes; obtain ⟨b4, b5, rfl, hm4, hm5⟩ := hes; obtain ⟨D4, m4, rfl⟩ := hm4.shape; obtain ⟨D5, m5, rfl⟩ := hm5.shape
  refine aops_val (av_move rfl) ?_
  refine aops_val (av_extract rfl rfl) ?_
  refine aops_val (av_extract rfl rfl) ?_
  refine aops_make (am_zero (l := [.slice none 0 0, .slice none 0 0]) inf65.zero rfl (by decide)) ?_
  first | refine aops_op (aop_putN (vs := [.slice _ _ _, .slice _ _ _]) rfl rfl inf65.size t_get t_room rfl rfl ?_) | refine aops_op (aop_putN (vs := [_, _]) rfl rfl inf65.size t_get t_room rfl rfl ?_)
  first | refine aops_val (av_assign_int rfl) ?_ | refine aops_val (av_assign rfl) ?_
  refine ac_seq ?_
  refine ac_seq ?_
  obtain ⟨HC', hHC'⟩ : ∃ HC', HC' = (H8.push (.own 0 [.slice none 0 0, .slice none 0 0])).put H8.size (.own 0 [.slice D4 (if g = true then ofP F Q else noParts).nodes.length m4, .slice D5 (if g = true then ofP F Q else noParts).links.length m5]) := ⟨_, rfl⟩
  have le8 : H8.le HC' := by rw [hHC']; exact Hp.le_put_new (H8.le_push _) (Nat.le_refl _) _
  have leBC := Hp.le_trans hle8 le8
  have leC := Hp.le_trans leB leBC
  have z8 := hle8.1
  have zC : HC'.size = H8.size + 1 := by rw [hHC']; simp
  have fC := kForest.mono leBC.sees fB
  have qC := kParts.mono leBC.sees qB
  have mC := kParts.mono leBC.sees mB
  have xC := kParts.mono le8.sees x8
  have C0' := le_got leBC (by omega) (by intro e; cases e) B0'
  have C1' := le_got leBC (by omega) (by intro e; cases e) B1'
  have C5' := le_got leBC (by omega) (by intro e; cases e) B5'
  have C6' : HC'.get H8.size = .own 0 [.slice D4 (if g = true then ofP F Q else noParts).nodes.length m4, .slice D5 (if g = true then ofP F Q else noParts).links.length m5] := by rw [hHC']; exact Hp.put_same _ _ _
  change ACode true _ _ _ _ _ ((H8.push (.own 0 [.slice none 0 0, .slice none 0 0])).put H8.size (.own 0 [.slice D4 (if g = true then ofP F Q else noParts).nodes.length m4, .slice D5 (if g = true then ofP F Q else noParts).links.length m5]))
  rw [← hHC']
  clear hHC'
  refine ac_region (by kernel_rfl) ?_
  first | refine aops_val (av_loadN (cs := [.slice _ _ _, .slice _ _ _, .slice _ _ _, .slice _ _ _, .slice _ _ _]) rfl Try.underlying62 rfl inf62.size t_cells) ?_ | refine aops_val (av_loadN (cs := [_, _, _, _, _]) rfl Try.underlying62 rfl inf62.size t_cells) ?_
  first | refine aops_val (av_loadN (cs := [.slice _ _ _, .slice _ _ _]) rfl Try.underlying65 rfl inf65.size t_cells) ?_ | refine aops_val (av_loadN (cs := [_, _]) rfl Try.underlying65 rfl inf65.size t_cells) ?_
  refine aops_op (aop_call (GoodP_ref F Q _ _ _ fC qC hsm) rfl Try.func36 rfl rfl rfl ?_)
  rintro v9 HC' ⟨⟨g2, rfl, hg2⟩, rfl⟩
  refine aops_val (av_not rfl) ?_
  refine ac_split rfl rfl ?_ ?_
  · intro hc1
    obtain rfl : g2 = false := by simpa using hc1
    obtain rfl : g = false := by cases g with | false => rfl | true => exact absurd (hg2.2 (hg.1 rfl)) (by simp)
    refine ac_seq ?_
    refine ac_region (by kernel_rfl) ?_
    first | refine aops_val (av_move_int rfl) ?_ | refine aops_val (av_move rfl) ?_
    refine aops_val (av_eq rfl rfl) ?_
    first | refine aops_val (av_move_bool rfl) ?_ | refine aops_val (av_move rfl) ?_
    refine aops_guard rfl rfl rfl ?_ ?_
    · intro hg2
      have hp2 := hg2; try simp only [decide_eq_true_eq, decide_eq_false_iff_not, Bool.not_eq_true', Bool.not_eq_false'] at hp2
      refine aops_want (want_yes rfl rfl rfl hg2) (aop_call (lives28_ok _) rfl Try.func37 rfl rfl rfl ?_)
      rintro v H' ⟨rfl, hlv⟩
      refine aops_val (av_pick_bool (congrArg Value.bool hg2) rfl) ?_
      first | refine aops_val (av_assign_bool rfl) ?_ | refine aops_val (av_assign rfl) ?_
      refine ac_ret ?_
      exact ⟨.bool true, aresult1 (ares_tmp rfl), rfl, Hp.le_trans leC hlv⟩
    · intro hg2
      exact absurd hg2 (by decide)
  · intro hc1
    obtain rfl : g2 = true := by simpa using hc1
    have hG := hg2.1 rfl
    obtain rfl : g = true := hg.2 hG
    obtain ⟨k1, k2, k3, k4⟩ := ofP_all hG
    have hX := ofP_good hG
    have hsx := small_sub hsm k1 k2
    have hfix := ofP_twice hG
    simp only [if_true] at xC C6'
    obtain ⟨X, hXe⟩ : ∃ X, X = ofP F Q := ⟨_, rfl⟩
    rw [← hXe] at hX hsx hfix xC C6'
    refine ac_skip ?_
    refine ac_seq ?_
    refine ac_region (by kernel_rfl) ?_
    first | refine aops_val (av_loadN (cs := [.slice _ _ _, .slice _ _ _, .slice _ _ _, .slice _ _ _, .slice _ _ _]) rfl Try.underlying62 rfl inf62.size t_cells) ?_ | refine aops_val (av_loadN (cs := [_, _, _, _, _]) rfl Try.underlying62 rfl inf62.size t_cells) ?_
    first | refine aops_val (av_loadN (cs := [.slice _ _ _, .slice _ _ _]) rfl Try.underlying65 rfl inf65.size t_cells) ?_ | refine aops_val (av_loadN (cs := [_, _]) rfl Try.underlying65 rfl inf65.size t_cells) ?_
    refine aops_op (aop_call (Of_good F X _ _ _ fC xC hsx hX) rfl Try.func35 rfl rfl rfl ?_)
    rintro v10 H10 ⟨w0, w1, rfl, hm6, hm7, hle10⟩; rw [hfix] at hm6 hm7; obtain ⟨D6, m6, rfl⟩ := hm6.shape; obtain ⟨D7, m7, rfl⟩ := hm7.shape
    refine aops_val (av_move rfl) ?_
    refine aops_val (av_extract rfl rfl) ?_
    refine aops_val (av_extract rfl rfl) ?_
    refine aops_make (am_zero (l := [.slice none 0 0, .slice none 0 0]) inf65.zero rfl (by decide)) ?_
    first | refine aops_op (aop_putN (vs := [.slice _ _ _, .slice _ _ _]) rfl rfl inf65.size t_get t_room rfl rfl ?_) | refine aops_op (aop_putN (vs := [_, _]) rfl rfl inf65.size t_get t_room rfl rfl ?_)
    first | refine aops_val (av_assign_int rfl) ?_ | refine aops_val (av_assign rfl) ?_
    refine ac_seq ?_
    obtain ⟨HD, hHD⟩ : ∃ HD, HD = (H10.push (.own 0 [.slice none 0 0, .slice none 0 0])).put H10.size (.own 0 [.slice D6 X.nodes.length m6, .slice D7 X.links.length m7]) := ⟨_, rfl⟩
    have le10 : H10.le HD := by rw [hHD]; exact Hp.le_put_new (H10.le_push _) (Nat.le_refl _) _
    have leCD := Hp.le_trans hle10 le10
    have leD := Hp.le_trans leC leCD
    have z10 := hle10.1
    have fD := kForest.mono leCD.sees fC
    have qD := kParts.mono leCD.sees qC
    have mD := kParts.mono leCD.sees mC
    have xD := kParts.mono leCD.sees xC
    have yD : kParts.rep HD X [.slice D6 X.nodes.length m6, .slice D7 X.links.length m7] := ⟨_, _, rfl, hm6.mono le10.sees, hm7.mono le10.sees⟩
    have D0' := le_got leCD (by omega) (by intro e; cases e) C0'
    have D1' := le_got leCD (by omega) (by intro e; cases e) C1'
    have D5' := le_got leCD (by omega) (by intro e; cases e) C5'
    have D6' := le_got leCD (by omega) (by intro e; cases e) C6'
    have D8' : HD.get H10.size = .own 0 [.slice D6 X.nodes.length m6, .slice D7 X.links.length m7] := by rw [hHD]; exact Hp.put_same _ _ _
    change ACode true _ _ _ _ _ ((H10.push (.own 0 [.slice none 0 0, .slice none 0 0])).put H10.size (.own 0 [.slice D6 X.nodes.length m6, .slice D7 X.links.length m7]))
    rw [← hHD]
    clear hHD
    refine ac_region (by kernel_rfl) ?_
    first | refine aops_val (av_move_int rfl) ?_ | refine aops_val (av_move rfl) ?_
    refine aops_val (av_eq rfl rfl) ?_
    first | refine aops_val (av_move_bool rfl) ?_ | refine aops_val (av_move rfl) ?_
    refine aops_guard rfl rfl rfl ?_ ?_
    · intro hg3
      have hp3 := hg3; try simp only [decide_eq_true_eq, decide_eq_false_iff_not, Bool.not_eq_true', Bool.not_eq_false'] at hp3
      first | refine aops_wval (want_yes rfl rfl rfl hg3) (av_move_int rfl) ?_ | refine aops_wval (want_yes rfl rfl rfl hg3) (av_move rfl) ?_
      refine aops_wval (want_yes rfl rfl rfl hg3) (av_eq rfl rfl) ?_
      refine aops_val (av_pick_bool (congrArg Value.bool hg3) rfl) ?_
      first | refine aops_val (av_move_bool rfl) ?_ | refine aops_val (av_move rfl) ?_
      refine aops_guard rfl rfl rfl ?_ ?_
      · intro hg4
        have hp4 := hg4; try simp only [decide_eq_true_eq, decide_eq_false_iff_not, Bool.not_eq_true', Bool.not_eq_false'] at hp4
        first | refine aops_wval (want_yes rfl rfl rfl hg4) (av_loadN (cs := [.slice _ _ _, .slice _ _ _]) rfl Try.underlying65 rfl inf65.size t_cells) ?_ | refine aops_wval (want_yes rfl rfl rfl hg4) (av_loadN (cs := [_, _]) rfl Try.underlying65 rfl inf65.size t_cells) ?_
        first | refine aops_wval (want_yes rfl rfl rfl hg4) (av_loadN (cs := [.slice _ _ _, .slice _ _ _]) rfl Try.underlying65 rfl inf65.size t_cells) ?_ | refine aops_wval (want_yes rfl rfl rfl hg4) (av_loadN (cs := [_, _]) rfl Try.underlying65 rfl inf65.size t_cells) ?_
        refine aops_want (want_yes rfl rfl rfl hg4) (aop_call (Same_true X X _ _ _ xD yD hsx.s3 hsx.s4 hsx.s5 hsx.s6 rfl) rfl Try.func38 rfl rfl rfl ?_)
        rintro v11 HD ⟨rfl, rfl⟩
        refine aops_val (av_pick_bool (congrArg Value.bool hg4) rfl) ?_
        first | refine aops_val (av_move_bool rfl) ?_ | refine aops_val (av_move rfl) ?_
        refine aops_guard rfl rfl rfl ?_ ?_
        · intro hg5
          have hp5 := hg5; try simp only [decide_eq_true_eq, decide_eq_false_iff_not, Bool.not_eq_true', Bool.not_eq_false'] at hp5
          first | refine aops_wval (want_yes rfl rfl rfl hg5) (av_loadN (cs := [.slice _ _ _, .slice _ _ _, .slice _ _ _, .slice _ _ _, .slice _ _ _]) rfl Try.underlying62 rfl inf62.size t_cells) ?_ | refine aops_wval (want_yes rfl rfl rfl hg5) (av_loadN (cs := [_, _, _, _, _]) rfl Try.underlying62 rfl inf62.size t_cells) ?_
          first | refine aops_wval (want_yes rfl rfl rfl hg5) (av_loadN (cs := [.slice _ _ _, .slice _ _ _]) rfl Try.underlying65 rfl inf65.size t_cells) ?_ | refine aops_wval (want_yes rfl rfl rfl hg5) (av_loadN (cs := [_, _]) rfl Try.underlying65 rfl inf65.size t_cells) ?_
          refine aops_want (want_yes rfl rfl rfl hg5) (aop_call (Is_true F X _ _ _ fD xD hsx hX hfix) rfl Try.func39 rfl rfl rfl ?_)
          rintro v12 HD ⟨rfl, rfl⟩
          refine aops_val (av_pick_bool (congrArg Value.bool hg5) rfl) ?_
          first | refine aops_val (av_move_bool rfl) ?_ | refine aops_val (av_move rfl) ?_
          refine aops_guard rfl rfl rfl ?_ ?_
          · intro hg6
            have hp6 := hg6; try simp only [decide_eq_true_eq, decide_eq_false_iff_not, Bool.not_eq_true', Bool.not_eq_false'] at hp6
            first | refine aops_wval (want_yes rfl rfl rfl hg6) (av_loadN (cs := [.slice _ _ _, .slice _ _ _]) rfl Try.underlying65 rfl inf65.size t_cells) ?_ | refine aops_wval (want_yes rfl rfl rfl hg6) (av_loadN (cs := [_, _]) rfl Try.underlying65 rfl inf65.size t_cells) ?_
            first | refine aops_wval (want_yes rfl rfl rfl hg6) (av_loadN (cs := [.slice _ _ _, .slice _ _ _]) rfl Try.underlying65 rfl inf65.size t_cells) ?_ | refine aops_wval (want_yes rfl rfl rfl hg6) (av_loadN (cs := [_, _]) rfl Try.underlying65 rfl inf65.size t_cells) ?_
            refine aops_want (want_yes rfl rfl rfl hg6) (aop_call (Same_true Q Q _ _ _ mD qD hsm.s3 hsm.s4 hsm.s5 hsm.s6 rfl) rfl Try.func38 rfl rfl rfl ?_)
            rintro v13 HD ⟨rfl, rfl⟩
            refine aops_val (av_pick_bool (congrArg Value.bool hg6) rfl) ?_
            first | refine aops_val (av_move_bool rfl) ?_ | refine aops_val (av_move rfl) ?_
            refine aops_guard rfl rfl rfl ?_ ?_
            · intro hg7
              have hp7 := hg7; try simp only [decide_eq_true_eq, decide_eq_false_iff_not, Bool.not_eq_true', Bool.not_eq_false'] at hp7
              refine aops_want (want_yes rfl rfl rfl hg7) (aop_call (lives28_ok _) rfl Try.func37 rfl rfl rfl ?_)
              rintro v H' ⟨rfl, hlv⟩
              refine aops_val (av_pick_bool (congrArg Value.bool hg7) rfl) ?_
              first | refine aops_val (av_assign_bool rfl) ?_ | refine aops_val (av_assign rfl) ?_
              refine ac_ret ?_
              exact ⟨.bool true, aresult1 (ares_tmp rfl), rfl, Hp.le_trans leD hlv⟩
            · intro hg7
              exact absurd hg7 (by decide)
          · intro hg6
            exact absurd hg6 (by decide)
        · intro hg5
          exact absurd hg5 (by decide)
      · intro hg4
        exact absurd hg4 (by decide)
    · intro hg3
      exact absurd hg3 (by decide)
end Go.Proofs.Ytnkjikpmgeknbaa.Am
namespace Go.Proofs.Ytnkjikpmgeknbaa.Am
open Go Go.RowKit
set_option maxRecDepth 100000
theorem cells_i64 : Try.prog.cellsOf 3 = 1 := by kernel_rfl
theorem cells_u64 : Try.prog.cellsOf 26 = 1 := by kernel_rfl
theorem cells_link : Try.prog.cellsOf 28 = 4 := by kernel_rfl
theorem opens_ints : Opens Try.prog (kSl (kInt .i64)) 29 (fun xs => xs.length ≤ maxLen ∧ ∀ x ∈ xs, fits .i64 x) := opens_sl Try.underlying29 cells_i64 (opens_int Try.underlying3)
theorem opens_link : Opens Try.prog kLink 28 (fun x => fits .i64 x.a ∧ fits .i64 x.b ∧ fits .i64 x.cost ∧ fits .u64 x.n) := fun Hh enc W fuel cs x h => by
  obtain ⟨xs, n, _, _, hl, hxs, hf⟩ := DataW.trod_struct Try.underlying28 h
  rw [cells_link] at hl
  have hxs : xs.length = 4 := hxs
  match cs, hl with
  | [c0, c1, c2, c3], _ =>
    have f0 : DataW.trod enc Try.prog W 0 (fun _ => true) true n 3 (([c0, c1, c2, c3].drop 0).take (Try.prog.cellsOf 3)) = xs[0]? := hf 0 _ rfl
    have f1 : DataW.trod enc Try.prog W 0 (fun _ => true) true n 3 (([c0, c1, c2, c3].drop 1).take (Try.prog.cellsOf 3)) = xs[1]? := hf 1 _ rfl
    have f2 : DataW.trod enc Try.prog W 0 (fun _ => true) true n 3 (([c0, c1, c2, c3].drop 2).take (Try.prog.cellsOf 3)) = xs[2]? := hf 2 _ rfl
    have f3 : DataW.trod enc Try.prog W 0 (fun _ => true) true n 26 (([c0, c1, c2, c3].drop 3).take (Try.prog.cellsOf 26)) = xs[3]? := hf 3 _ rfl
    rw [cells_i64, List.getElem?_eq_getElem (show 0 < xs.length by omega)] at f0
    rw [cells_i64, List.getElem?_eq_getElem (show 1 < xs.length by omega)] at f1
    rw [cells_i64, List.getElem?_eq_getElem (show 2 < xs.length by omega)] at f2
    rw [cells_u64, List.getElem?_eq_getElem (show 3 < xs.length by omega)] at f3
    obtain ⟨y0, r0, b0, v0⟩ := opens_int (P := Try.prog) Try.underlying3 Hh enc W n _ _ f0
    obtain ⟨y1, r1, b1, v1⟩ := opens_int (P := Try.prog) Try.underlying3 Hh enc W n _ _ f1
    obtain ⟨y2, r2, b2, v2⟩ := opens_int (P := Try.prog) Try.underlying3 Hh enc W n _ _ f2
    obtain ⟨y3, r3, b3, v3⟩ := opens_int (P := Try.prog) Try.underlying26 Hh enc W n _ _ f3
    refine ⟨⟨y0, y1, y2, y3⟩, ?_, ⟨b0, b1, b2, b3⟩, fun v hv => ?_⟩
    · have e0 : [absV W c0] = [Value.int .i64 y0] := r0
      have e1 : [absV W c1] = [Value.int .i64 y1] := r1
      have e2 : [absV W c2] = [Value.int .i64 y2] := r2
      have e3 : [absV W c3] = [Value.int .u64 y3] := r3
      simp only [List.cons.injEq, and_true] at e0 e1 e2 e3
      simp [kLink, e0, e1, e2, e3]
    · simp at hv
      rcases hv with rfl | rfl | rfl | rfl
      · exact v0 _ (List.mem_singleton.2 rfl)
      · exact v1 _ (List.mem_singleton.2 rfl)
      · exact v2 _ (List.mem_singleton.2 rfl)
      · exact v3 _ (List.mem_singleton.2 rfl)
theorem opens_links : Opens Try.prog (kSl kLink) 22 (fun xs => xs.length ≤ maxLen ∧ ∀ x ∈ xs, fits .i64 x.a ∧ fits .i64 x.b ∧ fits .i64 x.cost ∧ fits .u64 x.n) := opens_sl Try.underlying22 cells_link opens_link
end Go.Proofs.Ytnkjikpmgeknbaa.Am
namespace Go.Proofs.Ytnkjikpmgeknbaa.Am
open Go Go.RowKit
set_option maxRecDepth 100000
theorem cells_links : Try.prog.cellsOf 22 = 1 := by kernel_rfl
theorem cells_ints : Try.prog.cellsOf 29 = 1 := by kernel_rfl
theorem cells_str : Try.prog.cellsOf 9 = 1 := by kernel_rfl
theorem cells_strs : Try.prog.cellsOf 59 = 1 := by kernel_rfl
theorem cells_intss : Try.prog.cellsOf 60 = 1 := by kernel_rfl
theorem cells_linkss : Try.prog.cellsOf 63 = 1 := by kernel_rfl
theorem cells_parts : Try.prog.cellsOf 65 = 2 := by kernel_rfl
theorem cells_forest : Try.prog.cellsOf 62 = 5 := by kernel_rfl
theorem opens_strs : Opens Try.prog (kSl kStr) 59 (fun xs => xs.length ≤ maxLen ∧ ∀ x ∈ xs, x.size ≤ maxLen) := opens_sl Try.underlying59 cells_str (opens_str Try.underlying9)
theorem opens_intss : Opens Try.prog (kSl (kSl (kInt .i64))) 60 (fun xs => xs.length ≤ maxLen ∧ ∀ x ∈ xs, x.length ≤ maxLen ∧ ∀ n ∈ x, fits .i64 n) := opens_sl Try.underlying60 cells_ints opens_ints
theorem opens_linkss : Opens Try.prog (kSl (kSl kLink)) 63 (fun xs : List (List Link) => xs.length ≤ maxLen ∧ ∀ l ∈ xs, l.length ≤ maxLen ∧ ∀ x ∈ l, fits .i64 x.a ∧ fits .i64 x.b ∧ fits .i64 x.cost ∧ fits .u64 x.n) := opens_sl Try.underlying63 cells_links opens_links
theorem opens_parts : Opens Try.prog kParts 65 BigP := fun Hh enc W fuel cs x h => by
  obtain ⟨xs, n, _, _, hl, hxs, hf⟩ := DataW.trod_struct Try.underlying65 h
  rw [cells_parts] at hl
  have hxs : xs.length = 2 := hxs
  match cs, hl with
  | [c0, c1], _ =>
    have f0 : DataW.trod enc Try.prog W 0 (fun _ => true) true n 63 (([c0, c1].drop 0).take (Try.prog.cellsOf 63)) = xs[0]? := hf 0 _ rfl
    have f1 : DataW.trod enc Try.prog W 0 (fun _ => true) true n 63 (([c0, c1].drop 1).take (Try.prog.cellsOf 63)) = xs[1]? := hf 1 _ rfl
    rw [cells_linkss, List.getElem?_eq_getElem (show 0 < xs.length by omega)] at f0
    rw [cells_linkss, List.getElem?_eq_getElem (show 1 < xs.length by omega)] at f1
    obtain ⟨y0, ⟨w0, r0, s0⟩, b0, v0⟩ := opens_linkss Hh enc W n _ _ f0
    obtain ⟨y1, ⟨w1, r1, s1⟩, b1, v1⟩ := opens_linkss Hh enc W n _ _ f1
    refine ⟨⟨y0, y1⟩, ⟨w0, w1, ?_, s0, s1⟩, ⟨b0.1, b1.1, fun l hl => (b0.2 l hl).1, fun l hl => (b1.2 l hl).1⟩, fun v hv => ?_⟩
    · have e0 : [absV W c0] = [w0] := r0
      have e1 : [absV W c1] = [w1] := r1
      simp only [List.cons.injEq, and_true] at e0 e1
      simp [e0, e1]
    · simp at hv
      rcases hv with rfl | rfl
      · exact v0 _ (List.mem_singleton.2 rfl)
      · exact v1 _ (List.mem_singleton.2 rfl)
theorem opens_forest : Opens Try.prog kForest 62 BigF := fun Hh enc W fuel cs x h => by
  obtain ⟨xs, n, _, _, hl, hxs, hf⟩ := DataW.trod_struct Try.underlying62 h
  rw [cells_forest] at hl
  have hxs : xs.length = 5 := hxs
  match cs, hl with
  | [c0, c1, c2, c3, c4], _ =>
    have f0 : DataW.trod enc Try.prog W 0 (fun _ => true) true n 59 (([c0, c1, c2, c3, c4].drop 0).take (Try.prog.cellsOf 59)) = xs[0]? := hf 0 _ rfl
    have f1 : DataW.trod enc Try.prog W 0 (fun _ => true) true n 29 (([c0, c1, c2, c3, c4].drop 1).take (Try.prog.cellsOf 29)) = xs[1]? := hf 1 _ rfl
    have f2 : DataW.trod enc Try.prog W 0 (fun _ => true) true n 29 (([c0, c1, c2, c3, c4].drop 2).take (Try.prog.cellsOf 29)) = xs[2]? := hf 2 _ rfl
    have f3 : DataW.trod enc Try.prog W 0 (fun _ => true) true n 60 (([c0, c1, c2, c3, c4].drop 3).take (Try.prog.cellsOf 60)) = xs[3]? := hf 3 _ rfl
    have f4 : DataW.trod enc Try.prog W 0 (fun _ => true) true n 60 (([c0, c1, c2, c3, c4].drop 4).take (Try.prog.cellsOf 60)) = xs[4]? := hf 4 _ rfl
    rw [cells_strs, List.getElem?_eq_getElem (show 0 < xs.length by omega)] at f0
    rw [cells_ints, List.getElem?_eq_getElem (show 1 < xs.length by omega)] at f1
    rw [cells_ints, List.getElem?_eq_getElem (show 2 < xs.length by omega)] at f2
    rw [cells_intss, List.getElem?_eq_getElem (show 3 < xs.length by omega)] at f3
    rw [cells_intss, List.getElem?_eq_getElem (show 4 < xs.length by omega)] at f4
    obtain ⟨y0, ⟨w0, r0, s0⟩, b0, v0⟩ := opens_strs Hh enc W n _ _ f0
    obtain ⟨y1, ⟨w1, r1, s1⟩, b1, v1⟩ := opens_ints Hh enc W n _ _ f1
    obtain ⟨y2, ⟨w2, r2, s2⟩, b2, v2⟩ := opens_ints Hh enc W n _ _ f2
    obtain ⟨y3, ⟨w3, r3, s3⟩, b3, v3⟩ := opens_intss Hh enc W n _ _ f3
    obtain ⟨y4, ⟨w4, r4, s4⟩, b4, v4⟩ := opens_intss Hh enc W n _ _ f4
    refine ⟨⟨y0, y1, y2, y3, y4⟩, ⟨w0, w1, w2, w3, w4, ?_, s0, s1, s2, s3, s4⟩, ⟨b0.1, b1.1, b2.1, b3.1, b4.1, fun l hl => (b3.2 l hl).1, fun l hl => (b4.2 l hl).1⟩, fun v hv => ?_⟩
    · have e0 : [absV W c0] = [w0] := r0
      have e1 : [absV W c1] = [w1] := r1
      have e2 : [absV W c2] = [w2] := r2
      have e3 : [absV W c3] = [w3] := r3
      have e4 : [absV W c4] = [w4] := r4
      simp only [List.cons.injEq, and_true] at e0 e1 e2 e3 e4
      simp [e0, e1, e2, e3, e4]
    · simp at hv
      rcases hv with rfl | rfl | rfl | rfl | rfl
      · exact v0 _ (List.mem_singleton.2 rfl)
      · exact v1 _ (List.mem_singleton.2 rfl)
      · exact v2 _ (List.mem_singleton.2 rfl)
      · exact v3 _ (List.mem_singleton.2 rfl)
      · exact v4 _ (List.mem_singleton.2 rfl)
end Go.Proofs.Ytnkjikpmgeknbaa.Am
