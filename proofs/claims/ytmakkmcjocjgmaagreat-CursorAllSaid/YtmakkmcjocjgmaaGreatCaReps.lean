/- How Go's data lie in the abstract heap: kinds of elements, slices of them. -/
import Derived.Test.YtmakkmcjocjgmaaGreatCaSteps
namespace Go.Proofs.YtmakkmcjocjgmaaGreat.Am
open Go Go.RowKit
set_option linter.unusedVariables false
set_option linter.unusedSimpArgs false

def Blk.cut (sz : Nat) : Blk → Prop
  | .ro _ => True
  | .own st _ => st = sz
  | _ => False
theorem Blk.cut_ne {sz : Nat} {x : Blk} (h : x.cut sz) : x ≠ .dead := fun e => by rw [e] at h; cases h
theorem Blk.cut_or {sz : Nat} {x : Blk} (h : x.cut sz) : (∃ f, x = .ro f) ∨ ∃ cs, x = .own sz cs := by
  cases x with
  | ro f => exact .inl ⟨f, rfl⟩
  | own st cs => have : st = sz := h; subst this; exact .inr ⟨cs, rfl⟩
  | dead => cases h
  | map es => cases h
  | romap es => cases h


structure Hp.sees (H H' : Hp) : Prop where
  size : H.size ≤ H'.size
  cell : ∀ b o v sz, b < H.size → sz ≠ 0 → (H.get b).cut sz → H.cell? b o = some v → H'.cell? b o = some v
  cut : ∀ b sz, b < H.size → sz ≠ 0 → (H.get b).cut sz → (H'.get b).cut sz
theorem Hp.le.sees {H H' : Hp} (h : H.le H') : H.sees H' where
  size := h.1
  cell b o v sz hb _ hk hc := by
    unfold Hp.cell? at *
    rw [h.2 b hb (Blk.cut_ne hk)]
    exact hc
  cut b sz hb _ hc := by rw [h.2 b hb (Blk.cut_ne hc)]; exact hc
theorem Hp.sees.refl (H : Hp) : H.sees H := (Hp.le_refl H).sees
theorem Hp.sees.trans {H H1 H2 : Hp} (h : H.sees H1) (k : H1.sees H2) : H.sees H2 :=
  ⟨Nat.le_trans h.size k.size, fun b o v sz hb hz hk hc => k.cell b o v sz (Nat.lt_of_lt_of_le hb h.size) hz (h.cut b sz hb hz hk) (h.cell b o v sz hb hz hk hc), fun b sz hb hz hc => k.cut b sz (Nat.lt_of_lt_of_le hb h.size) hz (h.cut b sz hb hz hc)⟩
theorem Hp.sees.push {H H1 : Hp} (h : H.sees H1) (x : Blk) : H.sees (H1.push x) := h.trans (H1.le_push x).sees
theorem Hp.sees_box (H : Hp) {b : Nat} {cs cs' : List Value} (hb : H.get b = .own 0 cs) : H.sees (H.put b (.own 0 cs')) where
  size := Nat.le_refl _
  cell c o v sz hc hz hk hv := by
    have hn : c ≠ b := fun e => by subst e; rw [hb] at hk; exact hz hk.symm
    unfold Hp.cell? at *
    rw [Hp.put_other _ _ hn]; exact hv
  cut c sz hc hz hk := by
    have hn : c ≠ b := fun e => by subst e; rw [hb] at hk; exact hz hk.symm
    rw [Hp.put_other _ _ hn]; exact hk
theorem Hp.sees_any (H : Hp) {b : Nat} {cs : List Value} (hb : H.get b = .own 0 cs) (x : Blk) : H.sees (H.put b x) where
  size := Nat.le_refl _
  cell c o v sz hc hz hk hv := by
    have hn : c ≠ b := fun e => by subst e; rw [hb] at hk; exact hz hk.symm
    unfold Hp.cell? at *
    rw [Hp.put_other _ _ hn]; exact hv
  cut c sz hc hz hk := by
    have hn : c ≠ b := fun e => by subst e; rw [hb] at hk; exact hz hk.symm
    rw [Hp.put_other _ _ hn]; exact hk
theorem Hp.sees.box {H H1 : Hp} (h : H.sees H1) {b : Nat} {cs cs' : List Value} (hb : H1.get b = .own 0 cs) : H.sees (H1.put b (.own 0 cs')) := h.trans (H1.sees_box hb)
theorem Hp.sees.dead {H H1 : Hp} (h : H.sees H1) {b : Nat} (hb : H1.get b = .dead) (x : Blk) : H.sees (H1.put b x) := h.trans (H1.le_put hb x).sees
theorem Hp.le_put_new {H H1 : Hp} (h : H.le H1) {b : Nat} (hb : H.size ≤ b) (x : Blk) : H.le (H1.put b x) := ⟨h.1, fun c hc hd => by rw [Hp.put_other _ _ (by omega)]; exact h.2 c hc hd⟩
theorem Hp.sees_put_new {H H1 : Hp} (h : H.sees H1) {b : Nat} (hb : H.size ≤ b) (x : Blk) : H.sees (H1.put b x) :=
  ⟨h.size, fun c o v sz hc hz hk hv => by have := h.cell c o v sz hc hz hk hv; unfold Hp.cell? at *; rw [Hp.put_other _ _ (by omega)]; exact this, fun c sz hc hz hk => by rw [Hp.put_other _ _ (by omega)]; exact h.cut c sz hc hz hk⟩
def Blk.ro' : Blk → Blk
  | .own _ cs => .ro fun i => cs[i]?
  | .map es => .romap es
  | x => x
def Hp.ro (H : Hp) : Hp := ⟨fun b => (H.get b).ro', H.size⟩
theorem Hp.sees_ro (H : Hp) : H.sees H.ro where
  size := Nat.le_refl _
  cell b o v _ _ _ _ hc := by
    unfold Hp.cell? Hp.ro at *
    simp only
    cases h : H.get b <;> rw [h] at hc <;> first | exact hc | cases hc
  cut b sz _ _ hc := by
    unfold Hp.ro
    simp only
    cases h : H.get b <;> rw [h] at hc <;> first | exact hc | exact trivial | cases hc
theorem Cells.sees {H H' : Hp} (h : H.sees H') {b o sz : Nat} {cs : List Value} (hb : b < H.size) (hz : sz ≠ 0) (hk : (H.get b).cut sz) (hc : Cells H b o cs) : Cells H' b o cs := fun j v hj => h.cell _ _ _ sz hb hz hk (hc j v hj)

structure Kd (α : Type) where
  sz : Nat
  pos : sz ≠ 0
  rep : Hp → α → List Value → Prop
  len : ∀ {H x cs}, rep H x cs → cs.length = sz
  mono : ∀ {H H' x cs}, H.sees H' → rep H x cs → rep H' x cs
  one : ∀ {H x cs}, rep H x cs → ∀ v ∈ cs, v.oneCell' = true

def Sl {α : Type} (k : Kd α) (H : Hp) (v : Value) (xs : List α) : Prop :=
  (v = .slice none 0 0 ∧ xs = []) ∨ ∃ b o c, v = .slice (some ⟨b, o, none⟩) xs.length c ∧ b < H.size ∧ (H.get b).cut k.sz ∧ ∀ (i : Nat) x, xs[i]? = some x → ∃ cs, k.rep H x cs ∧ Cells H b (o + i * k.sz) cs
theorem Sl.mono {α : Type} {k : Kd α} {H H' : Hp} (h : H.sees H') {v : Value} {xs : List α} (hs : Sl k H v xs) : Sl k H' v xs := by
  rcases hs with hs | ⟨b, o, c, e, hb, hc, hx⟩
  · exact .inl hs
  · refine .inr ⟨b, o, c, e, Nat.lt_of_lt_of_le hb h.size, h.cut b _ hb k.pos hc, fun i x hi => ?_⟩
    obtain ⟨cs, h1, h2⟩ := hx i x hi
    exact ⟨cs, k.mono h h1, h2.sees h hb k.pos hc⟩
theorem Sl.nil {α : Type} (k : Kd α) (H : Hp) : Sl k H (.slice none 0 0) [] := .inl ⟨rfl, rfl⟩
theorem Sl.shape {α : Type} {k : Kd α} {H : Hp} {v : Value} {xs : List α} (h : Sl k H v xs) : ∃ A c, v = .slice A xs.length c := by
  rcases h with ⟨rfl, rfl⟩ | ⟨b, o, c, rfl, _⟩
  · exact ⟨_, _, rfl⟩
  · exact ⟨_, _, rfl⟩
theorem Sl.place {α : Type} {k : Kd α} {H : Hp} {A : Option Addr} {n c : Nat} {xs : List α} (h : Sl k H (.slice A n c) xs) (hn : 0 < xs.length) :
    ∃ b o, A = Option.some ⟨b, o, none⟩ ∧ n = xs.length ∧ b < H.size ∧ (H.get b).cut k.sz ∧ ∀ (i : Nat) x, xs[i]? = Option.some x → ∃ cs, k.rep H x cs ∧ Cells H b (o + i * k.sz) cs := by
  rcases h with ⟨_, rfl⟩ | ⟨b, o, c', e, h1, h2, h3⟩
  · simp at hn
  · injection e with e1 e2 e3
    exact ⟨b, o, e1, e2, h1, h2, h3⟩

def Y1 (k : IntKind) : Kd Int where
  sz := 1
  pos := by decide
  rep _ n cs := cs = [.int k n]
  len h := by rw [h]; rfl
  mono _ h := h
  one h v hv := by rw [h] at hv; simp at hv; subst hv; rfl
def kStr : Kd ByteArray where
  sz := 1
  pos := by decide
  rep _ s cs := cs = [.string s]
  len h := by rw [h]; rfl
  mono _ h := h
  one h v hv := by rw [h] at hv; simp at hv; subst hv; rfl
def V1 {α : Type} (k : Kd α) : Kd (List α) where
  sz := 1
  pos := by decide
  rep H xs cs := ∃ v, cs = [v] ∧ Sl k H v xs
  len h := by obtain ⟨v, rfl, _⟩ := h; rfl
  mono he h := by obtain ⟨v, rfl, hs⟩ := h; exact ⟨v, rfl, hs.mono he⟩
  one h u hu := by
    obtain ⟨v, rfl, hs⟩ := h
    simp at hu
    subst hu
    obtain ⟨A, c, rfl⟩ := hs.shape
    rfl
theorem Cells.one {H : Hp} {b o : Nat} {v : Value} (h : Cells H b o [v]) : H.cell? b o = some v := by simpa using h 0 v (by simp)
theorem Sl.int_at {k : IntKind} {H : Hp} {A : Option Addr} {n c : Nat} {xs : List Int} (h : Sl (Y1 k) H (.slice A n c) xs) {i : Int} (h0 : 0 ≤ i) (h1 : i < xs.length) :
    ∃ b o, A = Option.some ⟨b, o, none⟩ ∧ b < H.size ∧ H.cell? b (o + i.toNat * 1) = Option.some (.int k (xs.getD i.toNat 0)) := by
  obtain ⟨b, o, rfl, _, hb, _, hx⟩ := h.place (by omega)
  refine ⟨b, o, rfl, hb, ?_⟩
  have hi : i.toNat < xs.length := by omega
  obtain ⟨cs, hr, hc⟩ := hx i.toNat xs[i.toNat] (List.getElem?_eq_getElem hi)
  have : cs = [.int k xs[i.toNat]] := hr
  subst this
  rw [List.getD_eq_getElem?_getD, List.getElem?_eq_getElem hi]
  exact hc.one

def Inj.ro (φ : Inj) : Inj := fun b => (φ b).map fun g => { g with st := 0 }
theorem VRel.ro {φ : Inj} {v v' : Value} (h : VRel φ v v') : VRel (Inj.ro φ) v v' := by
  induction h with
  | bool b => exact .bool b
  | int k n => exact .int k n
  | float k n => exact .float k n
  | string s => exact .string s
  | ptrNil => exact .ptrNil
  | @ptr b g o h => exact VRel.ptr (φ := Inj.ro φ) (g := { g with st := 0 }) o (by simp [Inj.ro, h])
  | sliceNil => exact .sliceNil
  | @slice b g o n c c' h hn hc hin => exact VRel.slice (φ := Inj.ro φ) (g := { g with st := 0 }) o n c c' (by simp [Inj.ro, h]) hn hc (.inl rfl)
  | slice0 a a' c hc => exact .slice0 a a' c hc
  | mapNil => exact .mapNil
  | @map b g h => exact VRel.map (φ := Inj.ro φ) (g := { g with st := 0 }) (by simp [Inj.ro, h])
  | func f xs ys xs' ys' h1 _ h3 _ ih2 ih4 => exact .func f xs ys xs' ys' h1 ih2 h3 ih4
  | nilFunc => exact .nilFunc
  | nilIface => exact .nilIface
  | iface t _ ih => exact .iface t ih
  | agg xs xs' h1 _ ih => exact .agg xs xs' h1 ih
  | tuple xs xs' h1 _ ih => exact .tuple xs xs' h1 ih
theorem LRel.ro {φ : Inj} {xs ys : List Value} (h : LRel φ xs ys) : LRel (Inj.ro φ) xs ys := ⟨h.1, fun i v hv => let ⟨v', a, b⟩ := h.2 i v hv; ⟨v', a, b.ro⟩⟩
theorem MRel.ro {φ : Inj} {es : List (Value × Value)} {ens : Array MapEntry} (h : MRel φ es ens) : MRel (Inj.ro φ) es ens := ⟨h.1, fun i k v hv => let ⟨e, a, b, c⟩ := h.2 i k v hv; ⟨e, a, b.ro, c.ro⟩⟩
theorem Inj.ro_some {φ : Inj} {b : Nat} {g : Img} (h : Inj.ro φ b = some g) : ∃ g', φ b = some g' ∧ g = { g' with st := 0 } := by
  unfold Inj.ro at h
  cases hb : φ b with
  | none => rw [hb] at h; cases h
  | some g' => rw [hb] at h; injection h with h; exact ⟨g', rfl, h.symm⟩
theorem WRel.ro_ {base : Nat} {φ : Inj} {H : Hp} {w : World} (h : WRel base φ H w) : WRel w.heap.size (Inj.ro φ) H.ro w := by
  have live : ∀ b, (H.ro.get b).live = false := fun b => by
    show ((H.get b).ro').live = false
    cases H.get b <;> rfl
  refine ⟨Nat.le_refl _, fun b g hg => ?_, fun b f g hf hg => ?_, fun b st cs g hf hg => ?_, fun b es g hf hg => ?_, fun b es g hf hg => ?_, fun b b' g g' hl => ?_⟩
  · obtain ⟨g', h1, rfl⟩ := Inj.ro_some hg
    exact h.dom b g' h1
  · obtain ⟨g', h1, rfl⟩ := Inj.ro_some hg
    have hf' : (H.get b).ro' = .ro f := hf
    cases hb : H.get b with
    | ro f' =>
      rw [hb] at hf'
      injection hf' with hf'
      subst hf'
      obtain ⟨a1, a2, a3⟩ := h.ro b _ g' hb h1
      have := h.hb
      exact ⟨by simp only; omega, rfl, fun i v hv => let ⟨v', x, y⟩ := a3 i v hv; ⟨v', x, y.ro⟩⟩
    | own st cs =>
      rw [hb] at hf'
      injection hf' with hf'
      subst hf'
      obtain ⟨a1, a2, c, e, a3, a4, a5, a6⟩ := h.own b st cs g' hb h1
      refine ⟨(Array.getElem?_eq_some_iff.1 a3).1, rfl, fun i v hv => ?_⟩
      obtain ⟨v', x, y⟩ := a6 i v hv
      exact ⟨v', by simp [World.cell?, a3, x], y.ro⟩
    | dead => rw [hb] at hf'; cases hf'
    | map es => rw [hb] at hf'; cases hf'
    | romap es => rw [hb] at hf'; cases hf'
  · have := live b; rw [hf] at this; cases this
  · have := live b; rw [hf] at this; cases this
  · obtain ⟨g', h1, rfl⟩ := Inj.ro_some hg
    have hf' : (H.get b).ro' = .romap es := hf
    cases hb : H.get b with
    | map es' =>
      rw [hb] at hf'
      injection hf' with hf'
      subst hf'
      obtain ⟨a1, ens, clock, a2, a3⟩ := h.map b _ g' hb h1
      exact ⟨(Array.getElem?_eq_some_iff.1 a2).1, ens, clock, a2, a3.ro⟩
    | romap es' =>
      rw [hb] at hf'
      injection hf' with hf'
      subst hf'
      obtain ⟨a1, ens, clock, a2, a3⟩ := h.romap b _ g' hb h1
      exact ⟨(Array.getElem?_eq_some_iff.1 a2).1, ens, clock, a2, a3.ro⟩
    | dead => rw [hb] at hf'; cases hf'
    | ro f => rw [hb] at hf'; cases hf'
    | own st cs => rw [hb] at hf'; cases hf'
  · rw [live b] at hl; cases hl
theorem WRel.old {base : Nat} {φ : Inj} {H : Hp} {w w' : World} (h : WRel base φ H w) (hs : w.heap.size ≤ w'.heap.size) (hk : ∀ k, k < w.heap.size → w'.heap[k]? = w.heap[k]?) : WRel base φ H w' := by
  have cell : ∀ a v, w.cell? a = some v → w'.cell? a = some v := fun a v hc => by
    have hl := World.block_lt_of_cell? w a hc
    simp only [World.cell?] at hc ⊢
    rw [hk _ hl]; exact hc
  have at_ : ∀ (k : Nat) x, w.heap[k]? = some x → w'.heap[k]? = some x := fun k x hx => by rw [hk k (Array.getElem?_eq_some_iff.1 hx).1]; exact hx
  refine ⟨Nat.le_trans h.hb hs, h.dom, fun b f g hf hg => ?_, fun b st cs g hf hg => ?_, fun b es g hf hg => ?_, fun b es g hf hg => ?_, h.inj⟩
  · obtain ⟨a1, a2, a3⟩ := h.ro b f g hf hg
    exact ⟨a1, a2, fun i v hv => let ⟨v', x, y⟩ := a3 i v hv; ⟨v', cell _ _ x, y⟩⟩
  · obtain ⟨a1, a2, c, e, a3, a4⟩ := h.own b st cs g hf hg
    exact ⟨a1, a2, c, e, at_ _ _ a3, a4⟩
  · obtain ⟨a1, ens, clock, a2, a3⟩ := h.map b es g hf hg
    exact ⟨a1, ens, clock, at_ _ _ a2, a3⟩
  · obtain ⟨a1, ens, clock, a2, a3⟩ := h.romap b es g hf hg
    exact ⟨a1, ens, clock, at_ _ _ a2, a3⟩
theorem ACalls.pure {P : Program} {f : FuncId} {args : Array Value} {H : Hp} {R : Value → Prop} (hR : ∀ v, R v → scal v = true) (h : ACalls P f args H.ro (fun v _ => R v)) : ACalls P f args H (fun v H' => R v ∧ H' = H) := fun base φ w args' hw ha =>
  (h w.heap.size (Inj.ro φ) w args' hw.ro_ (LRel.ro ha)).mono fun e w' ⟨v, v', H', φ', he, hr, hw', hv, hst⟩ => by
    have foot : ∀ k, ¬ Foot (Inj.ro φ) H.ro k := fun k ⟨b, g, hl, _⟩ => by
      have : ((H.get b).ro').live = true := hl
      cases hb : H.get b <;> rw [hb] at this <;> cases this
    have keep : ∀ k, k < w.heap.size → w'.heap[k]? = w.heap[k]? := fun k hk => (hst.keep k hk (foot k)).1
    refine ⟨v, v', H, φ, he, ⟨hr, rfl⟩, hw.old hst.size keep, ?_, ⟨.refl φ, Nat.le_refl _, fun _ _ h => h, fun _ _ h => h, hst.os, hst.tape, hst.output, hst.drawn, hst.size, fun k hk hn => ⟨keep k hk, hn⟩⟩⟩
    rw [hv.scal (hR v hr)]
    exact .of_scal (hR v hr)

theorem cell_push_new {H : Hp} {st : Nat} {cs : List Value} {o : Nat} : (H.push (.own st cs)).cell? H.size o = cs[o]? := by simp [Hp.cell?, Blk.cell?]
theorem cell_put_new {H : Hp} {st : Nat} {cs : List Value} {b o : Nat} : (H.put b (.own st cs)).cell? b o = cs[o]? := by simp [Hp.cell?, Blk.cell?]
theorem cell_put_old {H : Hp} {x : Blk} {b c o : Nat} (h : c ≠ b) : (H.put b x).cell? c o = H.cell? c o := by simp [Hp.cell?, Hp.put_other _ _ h]
theorem Z7 {H : Hp} {st b o : Nat} {cs : List Value} (h : H.get b = .own st cs) : H.cell? b o = cs[o]? := by simp [Hp.cell?, h, Blk.cell?]
theorem sl_ints {H : Hp} {b c : Nat} {k : IntKind} {xs : List Int} (hb : b < H.size) (h : H.get b = .own 1 (xs.map (Value.int k))) : Sl (Y1 k) H (.slice (some ⟨b, 0, none⟩) xs.length c) xs := by
  refine .inr ⟨b, 0, c, rfl, hb, by rw [h]; rfl, fun i x hi => ⟨[.int k x], rfl, fun j v hj => ?_⟩⟩
  cases j with
  | zero =>
    simp at hj
    subst hj
    rw [Z7 h]
    show (xs.map (Value.int k))[0 + i * 1 + 0]? = _
    rw [show 0 + i * 1 + 0 = i by omega, List.getElem?_map, hi]
    rfl
  | succ j => simp at hj
theorem Xr {H H' : Hp} {b : Nat} {x : Blk} (h : H.le H') (hb : b < H.size) (hn : x ≠ .dead) (hg : H.get b = x) : H'.get b = x := (h.2 b hb (by rw [hg]; exact hn)).trans hg
theorem cells_get {H : Hp} {b o st : Nat} {full cs : List Value} (h : H.get b = .own st full) (hc : (full.drop o).take cs.length = cs) : Cells H b o cs := fun j v hj => by
  rw [Z7 h]
  rw [← hc, List.getElem?_take] at hj
  split at hj
  · rwa [List.getElem?_drop] at hj
  · cases hj
section
variable {P : Program} {t : Fr} {H : Hp} {d : Option Tmp} {ty : TypeId} {pos : String} {after : Array Edge} {guard : Option (Nat × Bool)} {K : Value → Hp → Prop}
theorem Y3 {sty : TypeId} {x y : Operand} {b o st : Nat} {cs cs' : List Value} {u : Value} (hx : t.eval x = .pointer (some ⟨b, o, none⟩)) (hy : t.eval y = u) (hone : u.oneCell' = true) (hn : (P.info? sty).map (·.size) = some 1) (hb : H.get b = .own st cs) (hl : o < cs.length) (hs : cs.set o u = cs')
    (k : K undef (H.put b (.own st cs'))) : AOp P ⟨d, .store sty x y, ty, pos, after, guard⟩ t H K := by
  have hc : (t.eval y).cells.toList = [u] := by rw [hy]; cases u <;> first | rfl | cases hone
  refine aop_store hx hc hn hb (by simp only [List.length_singleton]; omega) (by simp [hone]) ?_
  rw [setR_one hl, hs]; exact k
theorem Yf {sty : TypeId} {x y : Operand} {b o st : Nat} {cs cs' vs : List Value} (hx : t.eval x = .pointer (some ⟨b, o, none⟩)) (hy : t.eval y = .agg vs.toArray) (hn : (P.info? sty).map (·.size) = some vs.length) (hb : H.get b = .own st cs) (hl : o + vs.length ≤ cs.length) (hone : vs.all Value.oneCell' = true) (hs : setR cs o vs = cs')
    (k : K undef (H.put b (.own st cs'))) : AOp P ⟨d, .store sty x y, ty, pos, after, guard⟩ t H K :=
  aop_store hx (by rw [hy]; rfl) hn hb hl hone (by rw [hs]; exact k)
end
theorem sl_int1 {G : Hp} {k : IntKind} {x : Int} {c : Nat} : Sl (Y1 k) (G.push (.own 1 [.int k x])) (.slice (some ⟨G.size, 0, none⟩) 1 c) [x] := sl_ints (xs := [x]) (by simp) (Hp.push_new _ _)
theorem Zo {α : Type} {k : Kd α} {G G' : Hp} {x : α} {cs : List Value} {c st b : Nat} (h : k.rep G x cs) (hs : k.sz = st) (hb : b = G.size) (hg : G' = G.push (.own st cs)) : Sl k G' (.slice (some ⟨b, 0, none⟩) 1 c) [x] := by
  subst hs hb hg
  refine .inr ⟨G.size, 0, c, rfl, by simp, by rw [Hp.push_new]; rfl, fun i y hy => ?_⟩
  cases i with
  | zero =>
    simp at hy
    subst hy
    exact ⟨cs, k.mono (G.le_push _).sees h, fun j v hj => by rw [cell_push_new]; simpa using hj⟩
  | succ i => simp at hy
theorem Hp.le.cells {H H' : Hp} (h : H.le H') {b o : Nat} {cs : List Value} (hb : b < H.size) (hc : Cells H b o cs) : Cells H' b o cs := fun j v hj => by
  have := hc j v hj
  unfold Hp.cell? at this ⊢
  rw [h.2 b hb (fun e => by rw [e] at this; cases this)]
  exact this
theorem Hp.le.cell1 {H H' : Hp} (h : H.le H') {b o : Nat} {v : Value} (hb : b < H.size) (hc : H.cell? b o = some v) : H'.cell? b o = some v := by
  have := h.cells hb (cs := [v]) (o := o) (fun j u hj => by
    cases j with
    | zero => simp at hj; subst hj; exact hc
    | succ j => simp at hj)
  exact this.one
theorem Hp.le.same {H H' : Hp} (h : H.le H') {b st : Nat} {cs : List Value} (hb : b < H.size) (hg : H.get b = .own st cs) : H'.get b = H.get b := h.2 b hb (by rw [hg]; intro e; cases e)
theorem Cells.le {H H' : Hp} {b o : Nat} {cs : List Value} (hc : Cells H b o cs) (h : H.le H') (hb : b < H.size) : Cells H' b o cs := h.cells hb hc
theorem Hp.cell_le {H H' : Hp} {b o : Nat} {v : Value} (hc : H.cell? b o = some v) (h : H.le H') (hb : b < H.size) : H'.cell? b o = some v := h.cell1 hb hc
theorem Sl.elem_at {α : Type} {k : Kd α} {H : Hp} {A : Option Addr} {n c : Nat} {xs : List α} (h : Sl k H (.slice A n c) xs) {i : Nat} (hi : i < xs.length) :
    ∃ b o cs, A = Option.some ⟨b, o, none⟩ ∧ b < H.size ∧ k.rep H xs[i] cs ∧ Cells H b (o + i * k.sz) cs := by
  obtain ⟨b, o, rfl, _, hb, _, hx⟩ := h.place (by omega)
  obtain ⟨cs, hr, hc⟩ := hx i xs[i] (List.getElem?_eq_getElem hi)
  exact ⟨b, o, cs, rfl, hb, hr, hc⟩
end Go.Proofs.YtmakkmcjocjgmaaGreat.Am
