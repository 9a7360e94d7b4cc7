/- Rules in the form in which a walk takes them. -/
import Derived.Test.YtmakkmcjocjgmaaGreatCaCheck
import Derived.Laws.Strings
namespace Go.Proofs.YtmakkmcjocjgmaaGreat.Am
open Go Go.RowKit
set_option linter.unusedVariables false
set_option linter.unusedSimpArgs false
theorem ByteArray.toList_inj_iff {a b : ByteArray} : a.toList = b.toList ↔ a = b := ⟨fun h => by
  have h1 : a.data.toList = b.data.toList := by rw [← ByteArray.toList_eq, ← ByteArray.toList_eq, h]
  cases a; cases b; simp only at h1; congr 1; exact Array.toList_inj.1 h1, fun h => by rw [h]⟩
section
variable {P : Program} {ops : Array Oper} {d : Option Tmp} {op : Op} {ty : TypeId} {pos : String} {after : Array Edge} {r : List Oper} {t : Fr} {H : Hp} {K : Fr → Hp → Prop}
theorem Xa {S : List Nat} {v : Value} (h : AVal P ⟨d, op, ty, pos, after, none⟩ t S H v) (k : AOps P ops r (t.put d v) H K) : AOps P ops (⟨d, op, ty, pos, after, none⟩ :: r) t H K := by
  unfold AOps
  rw [if_pos (by unfold Zt Region.wanted; rfl)]
  exact .val h k
theorem Xw (h : AOp P ⟨d, op, ty, pos, after, none⟩ t H (fun v H' => AOps P ops r (t.put d v) H' K)) : AOps P ops (⟨d, op, ty, pos, after, none⟩ :: r) t H K := by
  unfold AOps
  rw [if_pos (by unfold Zt Region.wanted; rfl)]
  exact h
end
section
variable {P : Program} {ops : Array Oper} {d : Option Tmp} {op : Op} {ty : TypeId} {pos : String} {after : Array Edge} {r : List Oper} {t : Fr} {H : Hp} {K : Fr → Hp → Prop} {j : Nat} {w : Bool}
theorem Xc (hw : Zt ops t ⟨d, op, ty, pos, after, some (j, w)⟩ = false) (k : AOps P ops r (t.put d undef) H K) : AOps P ops (⟨d, op, ty, pos, after, some (j, w)⟩ :: r) t H K := by
  unfold AOps
  rw [if_neg (by rw [hw]; simp)]
  exact k
theorem Z1 (hw : Zt ops t ⟨d, op, ty, pos, after, some (j, w)⟩ = true) (h : AOp P ⟨d, op, ty, pos, after, some (j, w)⟩ t H (fun v H' => AOps P ops r (t.put d v) H' K)) : AOps P ops (⟨d, op, ty, pos, after, some (j, w)⟩ :: r) t H K := by
  unfold AOps
  rw [if_pos hw]
  exact h
theorem Xj {S : List Nat} {v : Value} (hw : Zt ops t ⟨d, op, ty, pos, after, some (j, w)⟩ = true) (h : AVal P ⟨d, op, ty, pos, after, some (j, w)⟩ t S H v) (k : AOps P ops r (t.put d v) H K) : AOps P ops (⟨d, op, ty, pos, after, some (j, w)⟩ :: r) t H K := Z1 hw (.val h k)
theorem Xz {mk : Nat → Value} {x : Blk} (h : AMake P ⟨d, op, ty, pos, after, none⟩ t mk x) (k : AOps P ops r (t.put d (mk H.size)) (H.push x) K) : AOps P ops (⟨d, op, ty, pos, after, none⟩ :: r) t H K := Xw (.make h k)
end
theorem X5 {z : Bool} {P : Program} {N : Nat} {Q : Exit → Fr → Hp → Prop} {t : Fr} {H : Hp} {c : Operand} {x y : Code} {b : Bool} (hc : t.eval c = .bool b) (hp : plainO c = true) (h1 : b = true → ACode z P N x Q t H) (h2 : b = false → ACode z P N y Q t H) : ACode z P N (.cond c x y) Q t H := by
  cases b
  · exact Y2 hc hp (h2 rfl)
  · exact Yu hc hp (h1 rfl)
theorem Xy {P : Program} {f : FuncId} {fn : Func} {t : Fr} {H : Hp} {K R : Value → Hp → Prop} {d : Option Tmp} {x : Operand} {xs : Array Operand} {ts : Array TypeId} {ty : TypeId} {pos : String} {after : Array Edge} {guard : Option (Nat × Bool)} {first cap args : Array Value}
    (h : ACalls P f args H R) (hx : t.eval x = .func (.func f) first cap) (hf : P.funcs[f]? = some fn) (hb : fn.body.isSome = true) (hn : (fn.name == "runtime.NumGoroutine") = false) (hargs : first.toList ++ xs.toList.map t.eval ++ cap.toList = args.toList) (k : ∀ v H', R v H' → K v H') :
    AOp P ⟨d, .call ⟨.value x, xs, ts⟩, ty, pos, after, guard⟩ t H K := .call hx hf hb hn hargs (h.mono k)
section
variable {P : Program} {t : Fr} {H : Hp} {d : Option Tmp} {ty : TypeId} {pos : String} {after : Array Edge} {guard : Option (Nat × Bool)} {x : Operand}
theorem Xb {k : IntKind} {n : Int} (hx : t.eval x = .int k n) : AVal P ⟨d, .move x, ty, pos, after, guard⟩ t [] H (.int k n) := Zm hx
theorem Xo {b : Bool} (hx : t.eval x = .bool b) : AVal P ⟨d, .move x, ty, pos, after, guard⟩ t [] H (.bool b) := Zm hx
theorem Z2 {s : ByteArray} (hx : t.eval x = .string s) : AVal P ⟨d, .move x, ty, pos, after, guard⟩ t [] H (.string s) := Zm hx
theorem X1 {A : Option Addr} {n c : Nat} (hx : t.eval x = .slice A n c) : AVal P ⟨d, .move x, ty, pos, after, guard⟩ t [] H (.slice A n c) := Zm hx
theorem X0 {A : Option Addr} (hx : t.eval x = .pointer A) : AVal P ⟨d, .move x, ty, pos, after, guard⟩ t [] H (.pointer A) := Zm hx
theorem Vd {f : Fn} {a c : Array Value} (hx : t.eval x = .func f a c) : AVal P ⟨d, .move x, ty, pos, after, guard⟩ t [] H (.func f a c) := Zm hx
theorem Xi {k : IntKind} {n : Int} (hx : t.eval x = .int k n) : AVal P ⟨d, .assign x, ty, pos, after, guard⟩ t [] H (.int k n) := Vf hx
theorem Xn {b : Bool} (hx : t.eval x = .bool b) : AVal P ⟨d, .assign x, ty, pos, after, guard⟩ t [] H (.bool b) := Vf hx
theorem Zd {s : ByteArray} (hx : t.eval x = .string s) : AVal P ⟨d, .assign x, ty, pos, after, guard⟩ t [] H (.string s) := Vf hx
theorem Yc {A : Option Addr} {n c : Nat} (hx : t.eval x = .slice A n c) : AVal P ⟨d, .assign x, ty, pos, after, guard⟩ t [] H (.slice A n c) := Vf hx
theorem Z3 {A : Option Addr} (hx : t.eval x = .pointer A) : AVal P ⟨d, .assign x, ty, pos, after, guard⟩ t [] H (.pointer A) := Vf hx
theorem U4 {f : Fn} {a c : Array Value} (hx : t.eval x = .func f a c) : AVal P ⟨d, .assign x, ty, pos, after, guard⟩ t [] H (.func f a c) := Vf hx
theorem Xl {c y : Operand} {b e : Bool} (hc : t.eval c = .bool b) (hv : (if b then t.eval x else t.eval y) = .bool e) : AVal P ⟨d, .pick c x y, ty, pos, after, guard⟩ t [] H (.bool e) := av_pick hc hv
theorem av_str_eql {y : Operand} {xt yt : TypeId} {a b : ByteArray} (hx : t.eval x = .string a) (hy : t.eval y = .string b) : AVal P ⟨d, .binOp .eql xt x y yt, ty, pos, after, guard⟩ t [] H (.bool (decide (a = b))) :=
  av_str hx hy rfl (fun w => by simp only [Op.stringOp, Sem.run_pure]; congr 2; rw [Bool.eq_iff_iff]; simp [ByteArray.toList_inj_iff]) ⟨by simp, by simp⟩
theorem av_str_neq {y : Operand} {xt yt : TypeId} {a b : ByteArray} (hx : t.eval x = .string a) (hy : t.eval y = .string b) : AVal P ⟨d, .binOp .neq xt x y yt, ty, pos, after, guard⟩ t [] H (.bool (decide (a ≠ b))) :=
  av_str hx hy rfl (fun w => by simp only [Op.stringOp, Sem.run_pure]; congr 2; rw [Bool.eq_iff_iff]; simp [ByteArray.toList_inj_iff]) ⟨by simp, by simp⟩
theorem want_eq {ops : Array Oper} {o : Oper} {j : Nat} {w b : Bool} {e : Tmp} (hg : o.guard = some (j, w)) (hj : (ops[j]?).bind (·.dst) = some e) (hb : t e = .bool b) : Zt ops t o = (b == w) := by
  simp only [Zt, Region.wanted, hg, yieldedF, hj, hb]
  cases b <;> cases w <;> rfl
theorem Xh {ops : Array Oper} {o : Oper} {j : Nat} {w b : Bool} {e : Tmp} (hg : o.guard = some (j, w)) (hj : (ops[j]?).bind (·.dst) = some e) (hb : t e = .bool b) (hn : b = w) : Zt ops t o = true := by
  rw [want_eq hg hj hb, hn]; cases w <;> rfl
theorem Xg {ops : Array Oper} {o : Oper} {j : Nat} {w b u : Bool} {e : Tmp} (hg : o.guard = some (j, w)) (hj : (ops[j]?).bind (·.dst) = some e) (hb : t e = .bool b) (hn : b = u) (hu : (u == w) = false) : Zt ops t o = false := by
  rw [want_eq hg hj hb, hn]; exact hu
theorem Yb {ops : Array Oper} {o : Oper} {j : Nat} {w : Bool} {e : Tmp} (hg : o.guard = some (j, w)) (hj : (ops[j]?).bind (·.dst) = some e) (hb : t e = undef) : Zt ops t o = false := by
  simp only [Zt, Region.wanted, hg, yieldedF, hj, hb, undef]
  cases w <;> rfl
theorem Ya {P : Program} {ops : Array Oper} {o : Oper} {r : List Oper} {t : Fr} {H : Hp} {K : Fr → Hp → Prop} {j : Nat} {w b : Bool} {e : Tmp} (hg : o.guard = some (j, w)) (hj : (ops[j]?).bind (·.dst) = some e) (hb : t e = .bool b)
    (h1 : b = true → AOps P ops (o :: r) t H K) (h2 : b = false → AOps P ops (o :: r) t H K) : AOps P ops (o :: r) t H K := by
  cases b
  · exact h2 rfl
  · exact h1 rfl
section draw
variable {ops : Array Oper} {bf : Nat → Nat → Bool} {i : Nat} {r : List Nat} {pend : List (Nat × List Nat)} {K : Fr → Hp → Prop} {op : Op} {j : Nat} {w : Bool}
theorem Xd {S : List Nat} {v : Value} (ho : ops[i]? = some ⟨d, op, ty, pos, after, none⟩) (hc : Ur ⟨d, op, ty, pos, after, none⟩ = false) (h : AVal P ⟨d, op, ty, pos, after, none⟩ t S H v) (hS : ∀ b ∈ S, b < H.size) (k : ADr P ops bf r ((i, S) :: pend) (t.put d v) H K) : ADr P ops bf (i :: r) pend t H K :=
  ⟨_, ho, by rw [if_pos (show Zt ops t _ = true from rfl), if_neg (by rw [hc]; simp)]; exact .inl ⟨S, v, h, hS, k⟩⟩
theorem Yr {S : List Nat} {v : Value} (ho : ops[i]? = some ⟨d, op, ty, pos, after, some (j, w)⟩) (hw : Zt ops t ⟨d, op, ty, pos, after, some (j, w)⟩ = true) (hc : Ur ⟨d, op, ty, pos, after, some (j, w)⟩ = false) (h : AVal P ⟨d, op, ty, pos, after, some (j, w)⟩ t S H v) (hS : ∀ b ∈ S, b < H.size) (k : ADr P ops bf r ((i, S) :: pend) (t.put d v) H K) : ADr P ops bf (i :: r) pend t H K :=
  ⟨_, ho, by rw [if_pos hw, if_neg (by rw [hc]; simp)]; exact .inl ⟨S, v, h, hS, k⟩⟩
theorem Zb {mk : Nat → Value} {x : Blk} (ho : ops[i]? = some ⟨d, op, ty, pos, after, none⟩) (hc : Ur ⟨d, op, ty, pos, after, none⟩ = false) (h : AMake P ⟨d, op, ty, pos, after, none⟩ t mk x) (k : ADr P ops bf r ((i, [H.size]) :: pend) (t.put d (mk H.size)) (H.push x) K) : ADr P ops bf (i :: r) pend t H K :=
  ⟨_, ho, by rw [if_pos (show Zt ops t _ = true from rfl), if_neg (by rw [hc]; simp)]; exact .inr ⟨mk, x, h, k⟩⟩
theorem X7 (ho : ops[i]? = some ⟨d, op, ty, pos, after, some (j, w)⟩) (hw : Zt ops t ⟨d, op, ty, pos, after, some (j, w)⟩ = false) (k : ADr P ops bf r pend (t.put d undef) H K) : ADr P ops bf (i :: r) pend t H K :=
  ⟨_, ho, by rw [if_neg (by rw [hw]; simp)]; exact k⟩
theorem Ym (ho : ops[i]? = some ⟨d, op, ty, pos, after, none⟩) (hc : Ur ⟨d, op, ty, pos, after, none⟩ = true) (h : AOp P ⟨d, op, ty, pos, after, none⟩ t H (fun v H' => (∀ p ∈ pend, bf i p.1 = false → ∀ b ∈ p.2, H'.get b = H.get b) ∧ ADr P ops bf r pend (t.put d v) H' K)) : ADr P ops bf (i :: r) pend t H K :=
  ⟨_, ho, by rw [if_pos (show Zt ops t _ = true from rfl), if_pos hc]; exact h⟩
theorem adr_wop (ho : ops[i]? = some ⟨d, op, ty, pos, after, some (j, w)⟩) (hw : Zt ops t ⟨d, op, ty, pos, after, some (j, w)⟩ = true) (hc : Ur ⟨d, op, ty, pos, after, some (j, w)⟩ = true) (h : AOp P ⟨d, op, ty, pos, after, some (j, w)⟩ t H (fun v H' => (∀ p ∈ pend, bf i p.1 = false → ∀ b ∈ p.2, H'.get b = H.get b) ∧ ADr P ops bf r pend (t.put d v) H' K)) : ADr P ops bf (i :: r) pend t H K :=
  ⟨_, ho, by rw [if_pos hw, if_pos hc]; exact h⟩
theorem Va {o : Oper} {b : Bool} {e : Tmp} (ho : ops[i]? = some o) (hg : o.guard = some (j, w)) (hj : (ops[j]?).bind (·.dst) = some e) (hb : t e = .bool b) (h1 : b = true → ADr P ops bf (i :: r) pend t H K) (h2 : b = false → ADr P ops bf (i :: r) pend t H K) : ADr P ops bf (i :: r) pend t H K := by
  cases b
  · exact h2 rfl
  · exact h1 rfl
end draw
end
section
variable {P : Program} {t : Fr} {H : Hp} {d : Option Tmp} {ty : TypeId} {pos : String} {after : Array Edge} {guard : Option (Nat × Bool)} {x : Operand} {e : TypeId}
theorem Yw {l : List Value} (hx : t.eval x = .agg l.toArray) : AMake P ⟨d, .box e x, ty, pos, after, guard⟩ t (fun b => .pointer (some ⟨b, 0, none⟩)) (.own 0 l) := am_box (by rw [hx]; rfl)
theorem am_box_int {k : IntKind} {n : Int} (hx : t.eval x = .int k n) : AMake P ⟨d, .box e x, ty, pos, after, guard⟩ t (fun b => .pointer (some ⟨b, 0, none⟩)) (.own 0 [.int k n]) := am_box (by rw [hx]; rfl)
theorem am_box_sl {A : Option Addr} {n c : Nat} (hx : t.eval x = .slice A n c) : AMake P ⟨d, .box e x, ty, pos, after, guard⟩ t (fun b => .pointer (some ⟨b, 0, none⟩)) (.own 0 [.slice A n c]) := am_box (by rw [hx]; rfl)
theorem Yz {l : List Value} {z : Value} (hz : (P.info? e).map (·.zero) = some (some z)) (hl : z.cells.toList = l) (hp : l.all plainV = true) : AMake P ⟨d, .alloc e, ty, pos, after, guard⟩ t (fun b => .pointer (some ⟨b, 0, none⟩)) (.own 0 l) := by
  have := am_alloc (P := P) (t := t) (d := d) (ty := ty) (pos := pos) (after := after) (guard := guard) hz (by rw [hl]; exact hp)
  rwa [hl] at this
theorem Xf {xt : TypeId} {fs : Array Field} {i : Nat} {f : Field} {b o n off : Nat} (hx : t.eval x = .pointer (some ⟨b, o, none⟩)) (hu : P.underlying xt = some (.struct fs)) (hf : fs[i]? = some f) (hn : (P.info? f.type).map (·.size) = some n) (h0 : 0 < n) (ho : f.offset = off) :
    AVal P ⟨d, .fieldAddr xt x i, ty, pos, after, guard⟩ t [] H (.pointer (some ⟨b, o + off, none⟩)) := ho ▸ av_fieldAddr hx hu hf hn h0
end
theorem wrap_i64 {n : Int} (h0 : -9223372036854775808 ≤ n) (h1 : n ≤ 9223372036854775807) : IntKind.i64.wrap n = n := by
  unfold IntKind.wrap
  simp [IntKind.signed, IntKind.bits]
  omega
section
variable {P : Program} {t : Fr} {H : Hp} {d : Option Tmp} {ty : TypeId} {pos : String} {after : Array Edge} {guard : Option (Nat × Bool)} {x y : Operand} {xt yt : TypeId} {a b : Int}
theorem Yn (hx : t.eval x = .int .i64 a) (hy : t.eval y = .int .i64 b) (h0 : -9223372036854775808 ≤ a + b ∧ a + b ≤ 9223372036854775807) : AVal P ⟨d, .binOp .add xt x y yt, ty, pos, after, guard⟩ t [] H (.int .i64 (a + b)) := by
  have := av_add (P := P) (H := H) (d := d) (ty := ty) (pos := pos) (after := after) (guard := guard) (xt := xt) (yt := yt) hx hy
  rwa [wrap_i64 h0.1 h0.2] at this
theorem av_sub64 (hx : t.eval x = .int .i64 a) (hy : t.eval y = .int .i64 b) (h0 : -9223372036854775808 ≤ a - b ∧ a - b ≤ 9223372036854775807) : AVal P ⟨d, .binOp .sub xt x y yt, ty, pos, after, guard⟩ t [] H (.int .i64 (a - b)) := by
  have := av_sub (P := P) (H := H) (d := d) (ty := ty) (pos := pos) (after := after) (guard := guard) (xt := xt) (yt := yt) hx hy
  rwa [wrap_i64 h0.1 h0.2] at this
theorem av_sub_is {r : Int} (hx : t.eval x = .int .i64 a) (hy : t.eval y = .int .i64 b) (he : a - b = r) (h0 : -9223372036854775808 ≤ r ∧ r ≤ 9223372036854775807) : AVal P ⟨d, .binOp .sub xt x y yt, ty, pos, after, guard⟩ t [] H (.int .i64 r) := by
  subst he; exact av_sub64 hx hy h0
theorem av_mul64 (hx : t.eval x = .int .i64 a) (hy : t.eval y = .int .i64 b) (h0 : -9223372036854775808 ≤ a * b ∧ a * b ≤ 9223372036854775807) : AVal P ⟨d, .binOp .mul xt x y yt, ty, pos, after, guard⟩ t [] H (.int .i64 (a * b)) := by
  have := av_mul (P := P) (H := H) (d := d) (ty := ty) (pos := pos) (after := after) (guard := guard) (xt := xt) (yt := yt) hx hy
  rwa [wrap_i64 h0.1 h0.2] at this
end
theorem av_take {P : Program} {t : Fr} {H : Hp} {d : Option Tmp} {ty : TypeId} {pos : String} {after : Array Edge} {guard : Option (Nat × Bool)} {x y : Operand} {xt e sz n c b o m : Nat} {k : IntKind} {i : Int} (hx : t.eval x = .slice (some ⟨b, o, none⟩) n c) (hu : P.underlying xt = some (.slice e)) (hs : (P.info? e).map (·.size) = some sz) (hy : t.eval y = .int k i) (he : i = (m : Nat)) (h2 : m ≤ n)
    (hk : (∃ f, H.get b = .ro f) ∨ ∃ cs, H.get b = .own sz cs) : AVal P ⟨d, .slice xt x none (some y) none, ty, pos, after, guard⟩ t [b] H (.slice (some ⟨b, o, none⟩) m c) := by
  subst he
  have := av_slice (P := P) (t := t) (H := H) (d := d) (ty := ty) (pos := pos) (after := after) (guard := guard) (lo := none) (hi := some y) (l := 0) (h := m) hx hu hs (.inl ⟨rfl, rfl⟩) (.inr ⟨y, k, rfl, hy⟩) (Nat.zero_le _) h2 hk
  have e1 : (if c ≠ unk ∧ c = 0 then o else o + 0 * sz) = o := by split <;> simp
  have e2 : (if c = unk then unk else c - 0) = c := by split <;> simp_all
  rwa [e1, e2, Nat.sub_zero] at this
end Go.Proofs.YtmakkmcjocjgmaaGreat.Am
