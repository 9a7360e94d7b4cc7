/- The abstract heap, the relation of its values and blocks to a real world's, and what becomes of it when a block is made, written or given up. -/
import Derived.Below
import Derived.Orders
import Derived.Deep.Draws
import Derived.Laws.CopyRow
import Derived.Laws.Cells
namespace Go.Proofs.YtmakkmcjocjgmaaGreat.Am
open Go Go.RowKit
set_option linter.unusedVariables false
set_option linter.unusedSimpArgs false

def unk : Nat := 18446744073709551616

inductive Blk where
  | dead
  | ro (f : Nat → Option Value)
  | own (st : Nat) (cs : List Value)
  | map (es : List (Value × Value))
  | romap (es : List (Value × Value))

structure Hp where
  get : Nat → Blk
  size : Nat

def Blk.cell? : Blk → Nat → Option Value
  | .ro f, o => f o
  | .own _ cs, o => cs[o]?
  | _, _ => none
def Hp.cell? (H : Hp) (b o : Nat) : Option Value := (H.get b).cell? o
def Hp.push (H : Hp) (x : Blk) : Hp := ⟨fun i => if i = H.size then x else H.get i, H.size + 1⟩
def Hp.put (H : Hp) (b : Nat) (x : Blk) : Hp := ⟨fun i => if i = b then x else H.get i, H.size⟩
def Hp.le (H H' : Hp) : Prop := H.size ≤ H'.size ∧ ∀ b, b < H.size → H.get b ≠ .dead → H'.get b = H.get b

theorem Hp.le_refl (H : Hp) : H.le H := ⟨Nat.le_refl _, fun _ _ _ => rfl⟩
theorem Hp.le_trans {H H1 H2 : Hp} (h : H.le H1) (k : H1.le H2) : H.le H2 :=
  ⟨Nat.le_trans h.1 k.1, fun b hb hd => by have e := h.2 b hb hd; rw [k.2 b (Nat.lt_of_lt_of_le hb h.1) (by rw [e]; exact hd), e]⟩
@[simp] theorem Hp.push_size (H : Hp) (x : Blk) : (H.push x).size = H.size + 1 := rfl
@[simp] theorem Hp.put_size (H : Hp) (b : Nat) (x : Blk) : (H.put b x).size = H.size := rfl
theorem Hp.push_get (H : Hp) (x : Blk) (i : Nat) : (H.push x).get i = if i = H.size then x else H.get i := rfl
theorem Hp.put_get (H : Hp) (b : Nat) (x : Blk) (i : Nat) : (H.put b x).get i = if i = b then x else H.get i := rfl
@[simp] theorem Hp.push_new (H : Hp) (x : Blk) : (H.push x).get H.size = x := by simp [Hp.push_get]
@[simp] theorem Hp.put_same (H : Hp) (b : Nat) (x : Blk) : (H.put b x).get b = x := by simp [Hp.put_get]
theorem Hp.push_old (H : Hp) (x : Blk) {i : Nat} (h : i < H.size) : (H.push x).get i = H.get i := by rw [Hp.push_get, if_neg (by omega)]
theorem Hp.put_other (H : Hp) {b : Nat} (x : Blk) {i : Nat} (h : i ≠ b) : (H.put b x).get i = H.get i := by rw [Hp.put_get, if_neg h]
theorem Hp.le_push (H : Hp) (x : Blk) : H.le (H.push x) := ⟨Nat.le_succ _, fun b hb _ => H.push_old x hb⟩
theorem Hp.le_push' {H H1 : Hp} (h : H.le H1) (x : Blk) : H.le (H1.push x) := Hp.le_trans h (H1.le_push x)
theorem Hp.le_put (H : Hp) {b : Nat} (hb : H.get b = .dead) (x : Blk) : H.le (H.put b x) :=
  ⟨Nat.le_refl _, fun c _ hd => Hp.put_other _ _ (fun e => hd (by rw [e]; exact hb))⟩
theorem Hp.ext' {H H1 : Hp} (h : H.size = H1.size) (g : ∀ b, H.get b = H1.get b) : H = H1 := by
  cases H; cases H1; simp only at h g; subst h; congr 1; exact funext g
@[simp] theorem Hp.put_put (H : Hp) (b : Nat) (x y : Blk) : (H.put b x).put b y = H.put b y := Hp.ext' rfl fun c => by simp only [Hp.put_get]; split <;> rfl
theorem Hp.put_comm (H : Hp) {b c : Nat} (hn : b ≠ c) (x y : Blk) : (H.put b x).put c y = (H.put c y).put b x := Hp.ext' rfl fun d => by
  simp only [Hp.put_get]
  split <;> split <;> first | rfl | omega
theorem Hp.put_self (H : Hp) {b : Nat} {x : Blk} (h : H.get b = x) : H.put b x = H := Hp.ext' rfl fun c => by
  simp only [Hp.put_get]
  split
  · subst_vars; rfl
  · rfl
theorem Hp.push_put (H : Hp) (x y : Blk) : (H.push x).put H.size y = H.push y := Hp.ext' rfl fun c => by simp only [Hp.push_get, Hp.put_get]; split <;> rfl

structure Img where
  rb : Nat
  d : Nat
  m : Nat
  st : Nat
abbrev Inj := Nat → Option Img
def Ext (φ φ' : Inj) : Prop := ∀ b g, φ b = some g → φ' b = some g
theorem Ext.refl (φ : Inj) : Ext φ φ := fun _ _ h => h
theorem Ext.trans {φ φ1 φ2 : Inj} (h : Ext φ φ1) (k : Ext φ1 φ2) : Ext φ φ2 := fun b g e => k b g (h b g e)

inductive VRel (φ : Inj) : Value → Value → Prop
  | bool (b : Bool) : VRel φ (.bool b) (.bool b)
  | int (k : IntKind) (n : Int) : VRel φ (.int k n) (.int k n)
  | float (k : FloatKind) (n : Nat) : VRel φ (.float k n) (.float k n)
  | string (s : ByteArray) : VRel φ (.string s) (.string s)
  | ptrNil : VRel φ (.pointer none) (.pointer none)
  | ptr {b : Nat} {g : Img} (o : Nat) (h : φ b = some g) : VRel φ (.pointer (some ⟨b, o, none⟩)) (.pointer (some ⟨g.rb, o + g.d, none⟩))
  | sliceNil : VRel φ (.slice none 0 0) (.slice none 0 0)
  | slice {b : Nat} {g : Img} (o n c c' : Nat) (h : φ b = some g) (hn : n ≤ c') (hc : c = c' ∨ c = unk) (hin : g.st = 0 ∨ o + g.d + c' * g.st ≤ g.m) :
      VRel φ (.slice (some ⟨b, o, none⟩) n c) (.slice (some ⟨g.rb, o + g.d, none⟩) n c')
  | slice0 (a a' : Addr) (c : Nat) (hc : c = 0 ∨ c = unk) : VRel φ (.slice (some a) 0 c) (.slice (some a') 0 0)
  | mapNil : VRel φ (.map none) (.map none)
  | map {b : Nat} {g : Img} (h : φ b = some g) : VRel φ (.map (some b)) (.map (some g.rb))
  | func (f : FuncId) (xs ys xs' ys' : Array Value) (h1 : xs.size = xs'.size) (h2 : ∀ (i : Nat) (a : i < xs.size) (b : i < xs'.size), VRel φ xs[i] xs'[i])
      (h3 : ys.size = ys'.size) (h4 : ∀ (i : Nat) (a : i < ys.size) (b : i < ys'.size), VRel φ ys[i] ys'[i]) : VRel φ (.func (.func f) xs ys) (.func (.func f) xs' ys')
  | nilFunc : VRel φ .nilFunc .nilFunc
  | nilIface : VRel φ .nilIface .nilIface
  | iface (t : TypeId) {v v' : Value} (h : VRel φ v v') : VRel φ (.iface t v) (.iface t v')
  | agg (xs xs' : Array Value) (h1 : xs.size = xs'.size) (h2 : ∀ (i : Nat) (a : i < xs.size) (b : i < xs'.size), VRel φ xs[i] xs'[i]) : VRel φ (.agg xs) (.agg xs')
  | tuple (xs xs' : Array Value) (h1 : xs.size = xs'.size) (h2 : ∀ (i : Nat) (a : i < xs.size) (b : i < xs'.size), VRel φ xs[i] xs'[i]) : VRel φ (.tuple xs) (.tuple xs')

theorem VRel.mono {φ φ' : Inj} (he : Ext φ φ') {v v' : Value} (h : VRel φ v v') : VRel φ' v v' := by
  induction h with
  | bool b => exact .bool b
  | int k n => exact .int k n
  | float k n => exact .float k n
  | string s => exact .string s
  | ptrNil => exact .ptrNil
  | ptr o h => exact .ptr o (he _ _ h)
  | sliceNil => exact .sliceNil
  | slice o n c c' h hn hc hin => exact .slice o n c c' (he _ _ h) hn hc hin
  | slice0 a a' c hc => exact .slice0 a a' c hc
  | mapNil => exact .mapNil
  | map h => exact .map (he _ _ h)
  | func f xs ys xs' ys' h1 _ h3 _ ih2 ih4 => exact .func f xs ys xs' ys' h1 ih2 h3 ih4
  | nilFunc => exact .nilFunc
  | nilIface => exact .nilIface
  | iface t _ ih => exact .iface t ih
  | agg xs xs' h1 _ ih => exact .agg xs xs' h1 ih
  | tuple xs xs' h1 _ ih => exact .tuple xs xs' h1 ih

def LRel (φ : Inj) (xs ys : List Value) : Prop := xs.length = ys.length ∧ ∀ (i : Nat) (v : Value), xs[i]? = some v → ∃ v', ys[i]? = some v' ∧ VRel φ v v'
theorem LRel.mono {φ φ' : Inj} (he : Ext φ φ') {xs ys : List Value} (h : LRel φ xs ys) : LRel φ' xs ys :=
  ⟨h.1, fun i v hv => let ⟨v', a, b⟩ := h.2 i v hv; ⟨v', a, b.mono he⟩⟩
theorem LRel.nil (φ : Inj) : LRel φ [] [] := ⟨rfl, fun i v h => by simp at h⟩
theorem LRel.cons {φ : Inj} {x y : Value} {xs ys : List Value} (h : VRel φ x y) (hs : LRel φ xs ys) : LRel φ (x :: xs) (y :: ys) := by
  refine ⟨by simp [hs.1], fun i v hv => ?_⟩
  cases i with
  | zero => simp at hv; subst hv; exact ⟨y, by simp, h⟩
  | succ i => simp only [List.getElem?_cons_succ] at hv ⊢; exact hs.2 i v hv
theorem LRel.append {φ : Inj} {xs ys as bs : List Value} (h : LRel φ xs ys) (k : LRel φ as bs) : LRel φ (xs ++ as) (ys ++ bs) := by
  refine ⟨by simp [h.1, k.1], fun i v hv => ?_⟩
  by_cases hi : i < xs.length
  · rw [List.getElem?_append_left hi] at hv
    rw [List.getElem?_append_left (by rw [← h.1]; exact hi)]
    exact h.2 i v hv
  · rw [List.getElem?_append_right (by omega)] at hv
    rw [List.getElem?_append_right (by rw [← h.1]; omega), ← h.1]
    exact k.2 _ v hv
theorem LRel.take {φ : Inj} {xs ys : List Value} (h : LRel φ xs ys) (n : Nat) : LRel φ (xs.take n) (ys.take n) := by
  refine ⟨by simp [h.1], fun i v hv => ?_⟩
  rw [List.getElem?_take] at hv ⊢
  split at hv
  · rename_i hi; rw [if_pos hi]; exact h.2 i v hv
  · cases hv
theorem LRel.drop {φ : Inj} {xs ys : List Value} (h : LRel φ xs ys) (n : Nat) : LRel φ (xs.drop n) (ys.drop n) := by
  refine ⟨by simp [h.1], fun i v hv => ?_⟩
  rw [List.getElem?_drop] at hv ⊢
  exact h.2 _ v hv
theorem LRel.get {φ : Inj} {xs ys : List Value} (h : LRel φ xs ys) {i : Nat} {v' : Value} (hv : ys[i]? = some v') : ∃ v, xs[i]? = some v ∧ VRel φ v v' := by
  have hi : i < xs.length := by rw [h.1]; exact (List.getElem?_eq_some_iff.1 hv).1
  obtain ⟨u, a, b⟩ := h.2 i xs[i] (List.getElem?_eq_getElem hi)
  rw [hv] at a
  injection a with a
  exact ⟨_, List.getElem?_eq_getElem hi, a ▸ b⟩
theorem LRel.of_arr {φ : Inj} {xs ys : Array Value} (h1 : xs.size = ys.size) (h2 : ∀ (i : Nat) (a : i < xs.size) (b : i < ys.size), VRel φ xs[i] ys[i]) : LRel φ xs.toList ys.toList := by
  refine ⟨by simpa using h1, fun i v hv => ?_⟩
  simp only [Array.getElem?_toList] at hv ⊢
  obtain ⟨hi, rfl⟩ := Array.getElem?_eq_some_iff.1 hv
  exact ⟨ys[i], Array.getElem?_eq_getElem (h1 ▸ hi), h2 i hi (h1 ▸ hi)⟩
theorem LRel.arr {φ : Inj} {xs ys : List Value} (h : LRel φ xs ys) : xs.toArray.size = ys.toArray.size ∧ ∀ (i : Nat) (a : i < xs.toArray.size) (b : i < ys.toArray.size), VRel φ xs.toArray[i] ys.toArray[i] := by
  refine ⟨by simpa using h.1, fun i a b => ?_⟩
  simp at a b
  obtain ⟨v', hv, hr⟩ := h.2 i xs[i] (List.getElem?_eq_getElem a)
  rw [List.getElem?_eq_getElem b] at hv
  injection hv with hv
  simp only [List.getElem_toArray]
  rw [hv]; exact hr
theorem VRel.agg_list {φ : Inj} {xs ys : List Value} (h : LRel φ xs ys) : VRel φ (.agg xs.toArray) (.agg ys.toArray) := .agg _ _ h.arr.1 h.arr.2
theorem VRel.tuple_list {φ : Inj} {xs ys : List Value} (h : LRel φ xs ys) : VRel φ (.tuple xs.toArray) (.tuple ys.toArray) := .tuple _ _ h.arr.1 h.arr.2
theorem VRel.oneCell {φ : Inj} {v v' : Value} (h : VRel φ v v') : v'.oneCell' = v.oneCell' := by cases h <;> rfl
theorem VRel.cells {φ : Inj} {v v' : Value} (h : VRel φ v v') : LRel φ v.cells.toList v'.cells.toList := by
  cases h with
  | agg xs xs' h1 h2 => exact LRel.of_arr h1 h2
  | tuple xs xs' h1 h2 => exact .cons (.tuple xs xs' h1 h2) (.nil _)
  | bool b => exact .cons (.bool b) (.nil _)
  | int k n => exact .cons (.int k n) (.nil _)
  | float k n => exact .cons (.float k n) (.nil _)
  | string s => exact .cons (.string s) (.nil _)
  | ptrNil => exact .cons .ptrNil (.nil _)
  | ptr o h => exact .cons (.ptr o h) (.nil _)
  | sliceNil => exact .cons .sliceNil (.nil _)
  | slice o n c c' h hn hc hin => exact .cons (.slice o n c c' h hn hc hin) (.nil _)
  | slice0 a a' c hc => exact .cons (.slice0 a a' c hc) (.nil _)
  | mapNil => exact .cons .mapNil (.nil _)
  | map h => exact .cons (.map h) (.nil _)
  | func f xs ys xs' ys' h1 h2 h3 h4 => exact .cons (.func f xs ys xs' ys' h1 h2 h3 h4) (.nil _)
  | nilFunc => exact .cons .nilFunc (.nil _)
  | nilIface => exact .cons .nilIface (.nil _)
  | iface t h => exact .cons (.iface t h) (.nil _)

def VRels (φ : Inj) (xs ys : Array Value) : Prop := LRel φ xs.toList ys.toList
theorem VRels.mono {φ φ' : Inj} (he : Ext φ φ') {xs ys : Array Value} (h : VRels φ xs ys) : VRels φ' xs ys := LRel.mono he h

def MRel (φ : Inj) (es : List (Value × Value)) (ens : Array MapEntry) : Prop :=
  es.length = ens.size ∧ ∀ (i : Nat) (k v : Value), es[i]? = some (k, v) → ∃ e, ens[i]? = some e ∧ VRel φ k e.key ∧ VRel φ v e.val
theorem MRel.mono {φ φ' : Inj} (he : Ext φ φ') {es : List (Value × Value)} {ens : Array MapEntry} (h : MRel φ es ens) : MRel φ' es ens :=
  ⟨h.1, fun i k v hv => let ⟨e, a, b, c⟩ := h.2 i k v hv; ⟨e, a, b.mono he, c.mono he⟩⟩

def Blk.live : Blk → Bool
  | .own .. | .map _ => true
  | _ => false

structure WRel (base : Nat) (φ : Inj) (H : Hp) (w : World) : Prop where
  hb : base ≤ w.heap.size
  dom : ∀ b g, φ b = some g → b < H.size
  ro : ∀ b f g, H.get b = .ro f → φ b = some g → g.rb < base ∧ g.st = 0 ∧ ∀ i v, f i = some v → ∃ v', w.cell? ⟨g.rb, i + g.d, none⟩ = some v' ∧ VRel φ v v'
  own : ∀ b st cs g, H.get b = .own st cs → φ b = some g → base ≤ g.rb ∧ g.st = st ∧ ∃ c e, w.heap[g.rb]? = some (.cells c e (0, 0)) ∧ c.size = g.m ∧ g.d + cs.length ≤ g.m ∧
    ∀ i v, cs[i]? = some v → ∃ v', c[i + g.d]? = some v' ∧ VRel φ v v'
  map : ∀ b es g, H.get b = .map es → φ b = some g → base ≤ g.rb ∧ ∃ ens clock, w.heap[g.rb]? = some (.map ens clock) ∧ MRel φ es ens
  romap : ∀ b es g, H.get b = .romap es → φ b = some g → g.rb < base ∧ ∃ ens clock, w.heap[g.rb]? = some (.map ens clock) ∧ MRel φ es ens
  inj : ∀ b b' g g', (H.get b).live = true → (H.get b').live = true → φ b = some g → φ b' = some g' → g.rb = g'.rb → b = b'

theorem cell_heap {w w' : World} (h : w'.heap = w.heap) (a : Addr) : w'.cell? a = w.cell? a := by simp [World.cell?, h]
theorem WRel.heap {base : Nat} {φ : Inj} {H : Hp} {w w' : World} (h : WRel base φ H w) (e : w'.heap = w.heap) : WRel base φ H w' where
  hb := e ▸ h.hb
  dom := h.dom
  ro b f g hf hg := ⟨(h.ro b f g hf hg).1, (h.ro b f g hf hg).2.1, fun i v hv => by rw [cell_heap e]; exact (h.ro b f g hf hg).2.2 i v hv⟩
  own b st cs g hf hg := by rw [e]; exact h.own b st cs g hf hg
  map b es g hf hg := by rw [e]; exact h.map b es g hf hg
  romap b es g hf hg := by rw [e]; exact h.romap b es g hf hg
  inj := h.inj
theorem WRel.cell {base : Nat} {φ : Inj} {H : Hp} {w : World} (h : WRel base φ H w) {b o : Nat} {g : Img} {v : Value} (hg : φ b = some g) (hc : H.cell? b o = some v) :
    ∃ v', w.cell? ⟨g.rb, o + g.d, none⟩ = some v' ∧ VRel φ v v' := by
  unfold Hp.cell? at hc
  cases hb : H.get b with
  | ro f => rw [hb] at hc; exact (h.ro b f g hb hg).2.2 o v hc
  | own st cs =>
    rw [hb] at hc
    obtain ⟨_, _, c, e, h1, _, _, h4⟩ := h.own b st cs g hb hg
    obtain ⟨v', hv, hr⟩ := h4 o v hc
    exact ⟨v', by simp [World.cell?, h1, hv], hr⟩
  | dead => rw [hb] at hc; cases hc
  | map es => rw [hb] at hc; cases hc
  | romap es => rw [hb] at hc; cases hc

def Inj.set (φ : Inj) (b : Nat) (g : Img) : Inj := fun i => if i = b then some g else φ i
theorem Inj.ext_set {φ : Inj} {b : Nat} (h : φ b = none) (g : Img) : Ext φ (Inj.set φ b g) := fun i x e => by
  unfold Inj.set
  split
  · subst_vars; rw [h] at e; cases e
  · exact e
theorem WRel.fresh {base : Nat} {φ : Inj} {H : Hp} {w : World} (h : WRel base φ H w) : φ H.size = none := by
  cases e : φ H.size with
  | none => rfl
  | some g => exact absurd (h.dom _ _ e) (by omega)

theorem WRel.ghost {base : Nat} {φ : Inj} {H : Hp} {w : World} (h : WRel base φ H w) (x : Blk) : WRel base φ (H.push x) w where
  hb := h.hb
  dom b g hg := Nat.lt_succ_of_lt (h.dom b g hg)
  ro b f g hf hg := by rw [Hp.push_old _ _ (h.dom b g hg)] at hf; exact h.ro b f g hf hg
  own b st cs g hf hg := by rw [Hp.push_old _ _ (h.dom b g hg)] at hf; exact h.own b st cs g hf hg
  map b es g hf hg := by rw [Hp.push_old _ _ (h.dom b g hg)] at hf; exact h.map b es g hf hg
  romap b es g hf hg := by rw [Hp.push_old _ _ (h.dom b g hg)] at hf; exact h.romap b es g hf hg
  inj b b' g g' hl hl' hg hg' he := by rw [Hp.push_old _ _ (h.dom b g hg)] at hl; rw [Hp.push_old _ _ (h.dom b' g' hg')] at hl'; exact h.inj b b' g g' hl hl' hg hg' he

theorem cell_alloc {w : World} {o : Obj} {a : Addr} {v : Value} (h : w.cell? a = some v) : (w.alloc o).cell? a = some v := by
  have hl := World.block_lt_of_cell? w a h
  simp only [World.cell?] at h ⊢
  rw [Below.heap_alloc _ _ _ hl]
  exact h
theorem heap_alloc_at {w : World} {o : Obj} {k : Nat} {x : Obj} (h : w.heap[k]? = some x) : (w.alloc o).heap[k]? = some x := by
  rw [Below.heap_alloc _ _ _ (Array.getElem?_eq_some_iff.1 h).1]; exact h
theorem heap_alloc_new' (w : World) (o : Obj) : (w.alloc o).heap[w.heap.size]? = some o := by
  show (w.heap.push o)[w.heap.size]? = some o
  simp

theorem WRel.bind {base : Nat} {φ : Inj} {H : Hp} {w : World} (h : WRel base φ H w) {b : Nat} (hb : b < H.size) (hn : φ b = none) {cs : List Value} {st : Nat} (hx : H.get b = .own st cs) {c : Array Value} (e : TypeId)
    (hl : cs.length ≤ c.size) (hc : ∀ (i : Nat) v, cs[i]? = some v → ∃ v', c[i]? = some v' ∧ VRel φ v v') :
    WRel base (Inj.set φ b ⟨w.heap.size, 0, c.size, st⟩) H (w.alloc (.cells c e)) := by
  have hext : Ext φ (Inj.set φ b ⟨w.heap.size, 0, c.size, st⟩) := Inj.ext_set hn _
  have old : ∀ i g, i ≠ b → Inj.set φ b ⟨w.heap.size, 0, c.size, st⟩ i = some g → φ i = some g := fun i g hi hg => by unfold Inj.set at hg; rwa [if_neg hi] at hg
  have new : ∀ g, Inj.set φ b ⟨w.heap.size, 0, c.size, st⟩ b = some g → g = ⟨w.heap.size, 0, c.size, st⟩ := fun g hg => by unfold Inj.set at hg; rw [if_pos rfl] at hg; injection hg with hg; exact hg.symm
  have lt : ∀ i g, (H.get i).live = true → φ i = some g → g.rb < w.heap.size := by
    intro i g hl hg
    cases hi : H.get i with
    | own st cs => obtain ⟨_, _, c, e, h1, _⟩ := h.own i st cs g hi hg; exact (Array.getElem?_eq_some_iff.1 h1).1
    | map es => obtain ⟨_, c, e, h1, _⟩ := h.map i es g hi hg; exact (Array.getElem?_eq_some_iff.1 h1).1
    | dead => rw [hi] at hl; cases hl
    | ro f => rw [hi] at hl; cases hl
    | romap es => rw [hi] at hl; cases hl
  refine ⟨?_, fun i g hg => ?_, fun i f g hf hg => ?_, fun i st' ds g hf hg => ?_, fun i es g hf hg => ?_, fun i es g hf hg => ?_, fun i j g g' hl1 hl2 hg hg' he => ?_⟩
  · have := h.hb
    show base ≤ (w.heap.push _).size
    rw [Array.size_push]; omega
  · by_cases hi : i = b
    · omega
    · exact h.dom i g (old i g hi hg)
  · by_cases hi : i = b
    · subst hi; rw [hx] at hf; cases hf
    · have hg' := old i g hi hg
      refine ⟨(h.ro i f g hf hg').1, (h.ro i f g hf hg').2.1, fun j v hv => ?_⟩
      obtain ⟨v', h1, h2⟩ := (h.ro i f g hf hg').2.2 j v hv
      exact ⟨v', cell_alloc h1, h2.mono hext⟩
  · by_cases hi : i = b
    · subst hi
      rw [hx] at hf
      injection hf with hf1 hf
      subst hf
      subst hf1
      obtain rfl := new g hg
      refine ⟨h.hb, rfl, c, e, heap_alloc_new' _ _, rfl, by simpa using hl, fun j v hv => ?_⟩
      obtain ⟨v', h1, h2⟩ := hc j v hv
      exact ⟨v', by simpa using h1, h2.mono hext⟩
    · obtain ⟨h0, h0', c', e', h1, h2, h3, h4⟩ := h.own i st' ds g hf (old i g hi hg)
      refine ⟨h0, h0', c', e', heap_alloc_at h1, h2, h3, fun j v hv => ?_⟩
      obtain ⟨v', h5, h6⟩ := h4 j v hv
      exact ⟨v', h5, h6.mono hext⟩
  · by_cases hi : i = b
    · subst hi; rw [hx] at hf; cases hf
    · obtain ⟨h0, ens, clock, h1, h2⟩ := h.map i es g hf (old i g hi hg)
      exact ⟨h0, ens, clock, heap_alloc_at h1, h2.mono hext⟩
  · by_cases hi : i = b
    · subst hi; rw [hx] at hf; cases hf
    · obtain ⟨h0, ens, clock, h1, h2⟩ := h.romap i es g hf (old i g hi hg)
      exact ⟨h0, ens, clock, heap_alloc_at h1, h2.mono hext⟩
  · by_cases hi : i = b
    · by_cases hj : j = b
      · omega
      · subst hi
        obtain rfl := new g hg
        have := lt j g' hl2 (old j g' hj hg')
        simp at he
        omega
    · by_cases hj : j = b
      · subst hj
        obtain rfl := new g' hg'
        have := lt i g hl1 (old i g hi hg)
        simp at he
        omega
      · exact h.inj i j g g' hl1 hl2 (old i g hi hg) (old j g' hj hg') he

theorem WRel.alloc {base : Nat} {φ : Inj} {H : Hp} {w : World} (h : WRel base φ H w) {cs : List Value} {c : Array Value} (e : TypeId) (st : Nat)
    (hl : cs.length ≤ c.size) (hc : ∀ (i : Nat) v, cs[i]? = some v → ∃ v', c[i]? = some v' ∧ VRel φ v v') :
    WRel base (Inj.set φ H.size ⟨w.heap.size, 0, c.size, st⟩) (H.push (.own st cs)) (w.alloc (.cells c e)) :=
  (h.ghost (.own st cs)).bind (b := H.size) (by simp) h.fresh (by simp) e hl hc

theorem WRel.kill {base : Nat} {φ : Inj} {H : Hp} {w : World} (h : WRel base φ H w) (b : Nat) : WRel base φ (H.put b .dead) w where
  hb := h.hb
  dom := h.dom
  ro i f g hf hg := by
    by_cases hi : i = b
    · subst hi; rw [Hp.put_same] at hf; cases hf
    · rw [Hp.put_other _ _ hi] at hf; exact h.ro i f g hf hg
  own i st f g hf hg := by
    by_cases hi : i = b
    · subst hi; rw [Hp.put_same] at hf; cases hf
    · rw [Hp.put_other _ _ hi] at hf; exact h.own i st f g hf hg
  map i f g hf hg := by
    by_cases hi : i = b
    · subst hi; rw [Hp.put_same] at hf; cases hf
    · rw [Hp.put_other _ _ hi] at hf; exact h.map i f g hf hg
  romap i f g hf hg := by
    by_cases hi : i = b
    · subst hi; rw [Hp.put_same] at hf; cases hf
    · rw [Hp.put_other _ _ hi] at hf; exact h.romap i f g hf hg
  inj i j g g' hl hl' hg hg' he := by
    have e1 : i ≠ b := fun e => by subst e; rw [Hp.put_same] at hl; cases hl
    have e2 : j ≠ b := fun e => by subst e; rw [Hp.put_same] at hl'; cases hl'
    rw [Hp.put_other _ _ e1] at hl
    rw [Hp.put_other _ _ e2] at hl'
    exact h.inj i j g g' hl hl' hg hg' he

theorem Vo {w : World} {g k : Nat} {c : Array Value} (h : k ≠ g) : (w.setRow g c).heap[k]? = w.heap[k]? := by
  simp only [World.setRow, Array.getElem?_modify]
  rw [if_neg (by omega)]
theorem Uh (w : World) (g : Nat) (c : Array Value) : (w.setRow g c).heap.size = w.heap.size := by simp [World.setRow]

theorem WRel.write {base : Nat} {φ : Inj} {H : Hp} {w : World} (h : WRel base φ H w) {b : Nat} {cs cs' : List Value} {st : Nat} {g : Img} (hx : H.get b = .own st cs) (hg : φ b = some g) {c' : Array Value}
    (hm : c'.size = g.m) (hl : g.d + cs'.length ≤ g.m) (hc : ∀ (i : Nat) v, cs'[i]? = some v → ∃ v', c'[i + g.d]? = some v' ∧ VRel φ v v') :
    WRel base φ (H.put b (.own st cs')) (w.setRow g.rb c') := by
  obtain ⟨h0, h00, c0, e0, h1, h2, h3, h4⟩ := h.own b st cs g hx hg
  have live : (H.get b).live = true := by rw [hx]; rfl
  have far : ∀ i g', (H.get i).live = true → i ≠ b → φ i = some g' → g'.rb ≠ g.rb := fun i g' hl hi hg' he => hi (h.inj i b g' g hl live hg' hg he)
  refine ⟨by rw [Uh]; exact h.hb, fun i g hg => h.dom i g hg, fun i f g' hf hg' => ?_, fun i st' ds g' hf hg' => ?_, fun i es g' hf hg' => ?_, fun i es g' hf hg' => ?_, fun i j g1 g2 hl1 hl2 hg1 hg2 he => ?_⟩
  · by_cases hi : i = b
    · subst hi; rw [Hp.put_same] at hf; cases hf
    · rw [Hp.put_other _ _ hi] at hf
      obtain ⟨h5, h55, h6⟩ := h.ro i f g' hf hg'
      refine ⟨h5, h55, fun j v hv => ?_⟩
      obtain ⟨v', h7, h8⟩ := h6 j v hv
      refine ⟨v', ?_, h8⟩
      simp only [World.cell?] at h7 ⊢
      rw [Vo (by omega)]
      exact h7
  · by_cases hi : i = b
    · subst hi
      rw [Hp.put_same] at hf
      injection hf with hf1 hf
      subst hf
      subst hf1
      rw [hg] at hg'
      injection hg' with hg'
      subst hg'
      exact ⟨h0, h00, c', e0, setRow_heap w g.rb c0 c' e0 _ h1, hm, hl, hc⟩
    · rw [Hp.put_other _ _ hi] at hf
      obtain ⟨h5, h55, c, e, h6, h7⟩ := h.own i st' ds g' hf hg'
      exact ⟨h5, h55, c, e, by rw [Vo (far i g' (by rw [hf]; rfl) hi hg')]; exact h6, h7⟩
  · by_cases hi : i = b
    · subst hi; rw [Hp.put_same] at hf; cases hf
    · rw [Hp.put_other _ _ hi] at hf
      obtain ⟨h5, c, e, h6, h7⟩ := h.map i es g' hf hg'
      exact ⟨h5, c, e, by rw [Vo (far i g' (by rw [hf]; rfl) hi hg')]; exact h6, h7⟩
  · by_cases hi : i = b
    · subst hi; rw [Hp.put_same] at hf; cases hf
    · rw [Hp.put_other _ _ hi] at hf
      obtain ⟨h5, c, e, h6, h7⟩ := h.romap i es g' hf hg'
      exact ⟨h5, c, e, by rw [Vo (by omega)]; exact h6, h7⟩
  · have k1 : (H.get i).live = true := by
      by_cases hi : i = b
      · subst hi; exact live
      · rwa [Hp.put_other _ _ hi] at hl1
    have k2 : (H.get j).live = true := by
      by_cases hi : j = b
      · subst hi; exact live
      · rwa [Hp.put_other _ _ hi] at hl2
    exact h.inj i j g1 g2 k1 k2 hg1 hg2 he

end Go.Proofs.YtmakkmcjocjgmaaGreat.Am
