/- The rules of single operations: numbers, bools, texts, tuples, structs; addresses; what is read; what is made. -/
import Derived.Test.YtmakkmcjocjgmaaGreatCaOps
import Derived.Laws.Slices
namespace Go.Proofs.YtmakkmcjocjgmaaGreat.Am
open Go Go.RowKit
set_option linter.unusedVariables false
set_option linter.unusedSimpArgs false

def scal : Value → Bool
  | .bool _ | .int .. | .float .. | .string _ | .pointer none | .slice none 0 0 | .map none | .nilFunc | .nilIface => true
  | _ => false
theorem VRel.scal {φ : Inj} {u u' : Value} (h : VRel φ u u') (hs : scal u = true) : u' = u := by cases h <;> first | rfl | cases hs
theorem VRel.of_scal {φ : Inj} {u : Value} (hs : Am.scal u = true) : VRel φ u u := by
  unfold Am.scal at hs
  split at hs <;> first | constructor | cases hs

section
variable {P : Program} {t : Fr} {H : Hp} {d : Option Tmp} {ty : TypeId} {pos : String} {after : Array Edge} {guard : Option (Nat × Bool)}

theorem AVal.one {o : Oper} {v : Value} {x : Operand} {u : Value} (hx : t.eval x = u) (hs : scal u = true) (hv : scal v = true) (hm : x ∈ o.op.operands) (h : ∀ (ρ : Operand → Value) w, ρ x = u → (execOp ρ o).run P w = .ok (.value v) w) : AVal P o t [] H v :=
  fun _ _ _ φ w a _ ho => ⟨v, w, h a.eval w (by rw [(ho x hm).scal (hx ▸ hs), hx]), .of_scal hv, .refl w⟩
theorem AVal.two {o : Oper} {v : Value} {x y : Operand} {u z : Value} (hx : t.eval x = u) (hy : t.eval y = z) (hs : scal u = true) (hz : scal z = true) (hv : scal v = true) (hm : x ∈ o.op.operands) (hn : y ∈ o.op.operands) (h : ∀ (ρ : Operand → Value) w, ρ x = u → ρ y = z → (execOp ρ o).run P w = .ok (.value v) w) : AVal P o t [] H v :=
  fun _ _ _ φ w a _ ho => ⟨v, w, h a.eval w (by rw [(ho x hm).scal (hx ▸ hs), hx]) (by rw [(ho y hn).scal (hy ▸ hz), hy]), .of_scal hv, .refl w⟩

theorem Zm {x : Operand} {v : Value} (hx : t.eval x = v) : AVal P ⟨d, .move x, ty, pos, after, guard⟩ t [] H v :=
  fun _ _ _ φ w a _ ho => ⟨a.eval x, w, rfl, hx ▸ ho x (by simp [Op.operands]), .refl w⟩
theorem Vf {x : Operand} {v : Value} (hx : t.eval x = v) : AVal P ⟨d, .assign x, ty, pos, after, guard⟩ t [] H v :=
  fun _ _ _ φ w a _ ho => ⟨a.eval x, w, rfl, hx ▸ ho x (by simp [Op.operands]), .refl w⟩
theorem av_pick {c x y : Operand} {b : Bool} {v : Value} (hc : t.eval c = .bool b) (hv : (if b then t.eval x else t.eval y) = v) : AVal P ⟨d, .pick c x y, ty, pos, after, guard⟩ t [] H v := fun _ _ _ φ w a _ ho => by
  have h1 : a.eval c = .bool b := by rw [(ho c (by simp [Op.operands])).scal (by rw [hc]; rfl), hc]
  refine ⟨if b then a.eval x else a.eval y, w, by cases b <;> simp [execOp, h1, asBool], ?_, .refl w⟩
  subst hv
  cases b
  · exact ho y (by simp [Op.operands])
  · exact ho x (by simp [Op.operands])

section ints
variable {op : BinOp} {x y : Operand} {xt yt : TypeId} {k yk : IntKind} {a b : Int}
theorem av_bin {v : Value} (hx : t.eval x = .int k a) (hy : t.eval y = .int yk b) (hv : scal v = true) (h : ∀ w, (binOp op xt (.int k a) (.int yk b)).run P w = .ok v w) : AVal P ⟨d, .binOp op xt x y yt, ty, pos, after, guard⟩ t [] H v :=
  .two hx hy rfl rfl hv (by simp [Op.operands]) (by simp [Op.operands]) fun ρ w h1 h2 => by
    have e : eqGuard op xt x y (.int k a) (.int yk b) = pure () := by cases op <;> rfl
    simp [execOp, h1, h2, e, h w]
theorem av_add (hx : t.eval x = .int k a) (hy : t.eval y = .int k b) : AVal P ⟨d, .binOp .add xt x y yt, ty, pos, after, guard⟩ t [] H (.int k (k.wrap (a + b))) := av_bin hx hy rfl fun w => by simp [binOp, Op.intArith]
theorem av_sub (hx : t.eval x = .int k a) (hy : t.eval y = .int k b) : AVal P ⟨d, .binOp .sub xt x y yt, ty, pos, after, guard⟩ t [] H (.int k (k.wrap (a - b))) := av_bin hx hy rfl fun w => by simp [binOp, Op.intArith]
theorem av_mul (hx : t.eval x = .int k a) (hy : t.eval y = .int k b) : AVal P ⟨d, .binOp .mul xt x y yt, ty, pos, after, guard⟩ t [] H (.int k (k.wrap (a * b))) := av_bin hx hy rfl fun w => by simp [binOp, Op.intArith]
theorem av_quo (hx : t.eval x = .int k a) (hy : t.eval y = .int k b) (h0 : b ≠ 0) : AVal P ⟨d, .binOp .quo xt x y yt, ty, pos, after, guard⟩ t [] H (.int k (k.wrap (a.tdiv b))) := av_bin hx hy rfl fun w => by simp [binOp, Op.intDiv, h0]
theorem av_shl (hx : t.eval x = .int k a) (hy : t.eval y = .int yk b) (h0 : 0 ≤ b) : AVal P ⟨d, .binOp .shl xt x y yt, ty, pos, after, guard⟩ t [] H (.int k (k.wrap (a * 2 ^ min b.toNat k.bits))) := av_bin hx hy rfl fun w => by
  have : ¬ b < 0 := by omega
  simp [binOp, Op.shift, this]
theorem av_shr (hx : t.eval x = .int k a) (hy : t.eval y = .int yk b) (h0 : 0 ≤ b) : AVal P ⟨d, .binOp .shr xt x y yt, ty, pos, after, guard⟩ t [] H (.int k (a.fdiv (2 ^ min b.toNat k.bits))) := av_bin hx hy rfl fun w => by
  have : ¬ b < 0 := by omega
  simp [binOp, Op.shift, this]
theorem av_or (hx : t.eval x = .int k a) (hy : t.eval y = .int k b) : AVal P ⟨d, .binOp .or xt x y yt, ty, pos, after, guard⟩ t [] H (.int k (k.wrap (BitVec.ofInt k.bits a ||| BitVec.ofInt k.bits b).toNat)) := av_bin hx hy rfl fun w => by simp [binOp, Op.intBits]
theorem Zx (hx : t.eval x = .int k a) (hy : t.eval y = .int k b) : AVal P ⟨d, .binOp .eql xt x y yt, ty, pos, after, guard⟩ t [] H (.bool (decide (a = b))) := av_bin hx hy rfl fun w => by simp [binOp, Op.intCmp]; rfl
theorem Zw (hx : t.eval x = .int k a) (hy : t.eval y = .int k b) : AVal P ⟨d, .binOp .neq xt x y yt, ty, pos, after, guard⟩ t [] H (.bool (decide (a ≠ b))) := av_bin hx hy rfl fun w => by simp [binOp, Op.intCmp, bne]; rfl
theorem Za (hx : t.eval x = .int k a) (hy : t.eval y = .int k b) : AVal P ⟨d, .binOp .lss xt x y yt, ty, pos, after, guard⟩ t [] H (.bool (decide (a < b))) := av_bin hx hy rfl fun w => by simp [binOp, Op.intCmp]
theorem Vu (hx : t.eval x = .int k a) (hy : t.eval y = .int k b) : AVal P ⟨d, .binOp .gtr xt x y yt, ty, pos, after, guard⟩ t [] H (.bool (decide (a > b))) := av_bin hx hy rfl fun w => by simp [binOp, Op.intCmp]
theorem av_ge (hx : t.eval x = .int k a) (hy : t.eval y = .int k b) : AVal P ⟨d, .binOp .geq xt x y yt, ty, pos, after, guard⟩ t [] H (.bool (decide (a ≥ b))) := av_bin hx hy rfl fun w => by simp [binOp, Op.intCmp]
end ints

theorem Zz {x : Operand} {xt : TypeId} {b : Bool} (hx : t.eval x = .bool b) : AVal P ⟨d, .unOp .not xt x, ty, pos, after, guard⟩ t [] H (.bool (!b)) := .one hx rfl rfl (by simp [Op.operands]) fun ρ w h => by simp [execOp, h, Op.unary]
theorem av_conv {x : Operand} {src dst : TypeId} {k k' : IntKind} {a : Int} (hx : t.eval x = .int k a) (hs : (P.underlying src).isSome = true) (hd : P.underlying dst = some (.int k')) : AVal P ⟨d, .convert src dst x, ty, pos, after, guard⟩ t [] H (.int k' (k'.wrap a)) :=
  .one hx rfl rfl (by simp [Op.operands]) fun ρ w h => by
    obtain ⟨u, hu⟩ := Option.isSome_iff_exists.1 hs
    simp [execOp, h, convert, run_underlying hu, run_underlying hd, Conv.intToInt]
theorem av_str {op : BinOp} {x y : Operand} {xt yt : TypeId} {a b : ByteArray} {v : Value} (hx : t.eval x = .string a) (hy : t.eval y = .string b) (hv : scal v = true) (h : ∀ w, (Op.stringOp op a b).run P w = .ok v w) (hop : op ≠ .shl ∧ op ≠ .shr) :
    AVal P ⟨d, .binOp op xt x y yt, ty, pos, after, guard⟩ t [] H v :=
  .two hx hy rfl rfl hv (by simp [Op.operands]) (by simp [Op.operands]) fun ρ w h1 h2 => by
    have e : eqGuard op xt x y (.string a) (.string b) = pure () := by cases op <;> rfl
    have e2 : binOp op xt (.string a) (.string b) = Op.stringOp op a b := by cases op <;> rfl
    simp [execOp, h1, h2, e, e2, h w]
theorem run_eql {xt : TypeId} {u v : Value} {b : Bool} {w : World} (h : (Op.equal xt u v).run P w = .ok b w) (e1 : binOp .eql xt u v = (do pure (.bool (← Op.equal xt u v)))) : (binOp .eql xt u v).run P w = .ok (.bool b) w := by
  rw [e1]; simp only [Sem.run_bind, h, Result.andThen_ok]; rfl
theorem run_neq {xt : TypeId} {u v : Value} {b : Bool} {w : World} (h : (Op.equal xt u v).run P w = .ok b w) (e1 : binOp .neq xt u v = (do pure (.bool (!(← Op.equal xt u v))))) : (binOp .neq xt u v).run P w = .ok (.bool !b) w := by
  rw [e1]; simp only [Sem.run_bind, h, Result.andThen_ok]; rfl
theorem run_equal_bool {xt : TypeId} (hu : P.underlying xt = some .bool) (a b : Bool) (w : World) : (Op.equal xt (.bool a) (.bool b)).run P w = .ok (a == b) w := by
  unfold Op.equal
  rw [show Op.maxDepth = 9999 + 1 from rfl, Op.equalIn]
  simp only [Sem.run_bind, run_underlying hu, Result.andThen_ok]
  rfl
theorem run_equal_ptr {xt e : TypeId} (hu : P.underlying xt = some (.pointer e)) (a : Option Addr) (w : World) : (Op.equal xt (.pointer a) (.pointer none)).run P w = .ok a.isNone w := by
  unfold Op.equal
  rw [show Op.maxDepth = 9999 + 1 from rfl, Op.equalIn]
  simp only [Sem.run_bind, run_underlying hu, Result.andThen_ok]
  cases a <;> rfl
theorem run_equal_sl {xt e : TypeId} (hu : P.underlying xt = some (.slice e)) (a : Option Addr) (n c : Nat) (w : World) : (Op.equal xt (.slice a n c) (.slice none 0 0)).run P w = .ok a.isNone w := by
  unfold Op.equal
  rw [show Op.maxDepth = 9999 + 1 from rfl, Op.equalIn]
  simp only [Sem.run_bind, run_underlying hu, Result.andThen_ok]
  cases a <;> rfl
theorem Vx {op : BinOp} {x y : Operand} {xt yt : TypeId} {ρ : Operand → Value} {v : Value} {w : World} (hg : eqGuard op xt x y (ρ x) (ρ y) = pure ()) (h : (binOp op xt (ρ x) (ρ y)).run P w = .ok v w) : (execOp ρ ⟨d, .binOp op xt x y yt, ty, pos, after, guard⟩).run P w = .ok (.value v) w := by
  simp only [execOp, hg, Sem.run_bind, Sem.run_pure, Result.andThen_ok, h]
theorem av_bne {x y : Operand} {xt yt : TypeId} {a b : Bool} (hx : t.eval x = .bool a) (hy : t.eval y = .bool b) (hu : P.underlying xt = some .bool) : AVal P ⟨d, .binOp .neq xt x y yt, ty, pos, after, guard⟩ t [] H (.bool (!(a == b))) :=
  .two hx hy rfl rfl rfl (by simp [Op.operands]) (by simp [Op.operands]) fun ρ w h1 h2 =>
    Vx (by rw [h1, h2]; rfl) (by rw [h1, h2]; exact run_neq (run_equal_bool hu a b w) rfl)
theorem Yj {x : Operand} {i : Nat} {vs : Array Value} {v : Value} (hx : t.eval x = .tuple vs) (hv : vs[i]? = some v) : AVal P ⟨d, .extract x i, ty, pos, after, guard⟩ t [] H v := fun _ _ _ φ w a _ ho => by
  have hr := ho x (by simp [Op.operands])
  rw [hx] at hr
  generalize hu : a.eval x = u at hr
  cases hr with
  | tuple xs xs' h1 h2 =>
    obtain ⟨v', h3, h4⟩ := (LRel.of_arr h1 h2).2 i v (by simpa using hv)
    refine ⟨v', w, ?_, h4, .refl w⟩
    have h5 : xs'[i]? = some v' := by simpa using h3
    simp [execOp, hu, Instr.extract, h5]
theorem Yi {x : Operand} {b o : Nat} (hx : t.eval x = .pointer (some ⟨b, o, none⟩)) : AVal P ⟨d, .nilCheck x, ty, pos, after, guard⟩ t [] H (.pointer (some ⟨b, o, none⟩)) := fun _ _ _ φ w a _ ho => by
  have hr := ho x (by simp [Op.operands])
  rw [hx] at hr
  generalize hu : a.eval x = u at hr
  cases hr with
  | ptr o hg => exact ⟨_, w, by simp [execOp, hu], .ptr o hg, .refl w⟩
theorem av_makeFunc {f : FuncId} {first cap : Array Operand} : AVal P ⟨d, .makeFunc (.func f) first cap, ty, pos, after, guard⟩ t [] H (.func (.func f) (first.toList.map t.eval).toArray (cap.toList.map t.eval).toArray) := fun _ _ _ φ w a _ ho => by
  rw [show (first.toList.map t.eval).toArray = first.map t.eval from Array.ext' (by rw [Array.toList_map]), show (cap.toList.map t.eval).toArray = cap.map t.eval from Array.ext' (by rw [Array.toList_map])]
  refine ⟨.func (.func f) (first.map a.eval) (cap.map a.eval), w, by simp [execOp, Instr.makeFunc], .func _ _ _ _ _ (by simp) (fun i h1 h2 => ?_) (by simp) (fun i h1 h2 => ?_), .refl w⟩
  · simp only [Array.getElem_map]; exact ho _ (by simp [Op.operands])
  · simp only [Array.getElem_map]; exact ho _ (by simp [Op.operands])
theorem Un {x y : Operand} {xt yt e : TypeId} {v : Option Addr} (hx : t.eval x = .pointer v) (hv : ∀ a, v = some a → a.spot = none) (hy : t.eval y = .pointer none) (hu : P.underlying xt = some (.pointer e)) : AVal P ⟨d, .binOp .eql xt x y yt, ty, pos, after, guard⟩ t [] H (.bool v.isNone) := fun _ _ _ φ w a _ ho => by
  have hr := ho x (by simp [Op.operands])
  have hr2 : a.eval y = .pointer none := by rw [(ho y (by simp [Op.operands])).scal (by rw [hy]; rfl), hy]
  rw [hx] at hr
  generalize hq : a.eval x = u at hr
  cases hr with
  | ptrNil => exact ⟨.bool true, w, Vx (by rw [hq, hr2]; rfl) (by rw [hq, hr2]; exact run_eql (run_equal_ptr hu _ w) rfl), .bool _, .refl w⟩
  | ptr o hg => exact ⟨.bool false, w, Vx (by rw [hq, hr2]; rfl) (by rw [hq, hr2]; exact run_eql (run_equal_ptr hu _ w) rfl), .bool _, .refl w⟩
theorem av_ptr_ne_nil {x y : Operand} {xt yt e : TypeId} {v : Option Addr} (hx : t.eval x = .pointer v) (hy : t.eval y = .pointer none) (hu : P.underlying xt = some (.pointer e)) : AVal P ⟨d, .binOp .neq xt x y yt, ty, pos, after, guard⟩ t [] H (.bool v.isSome) := fun _ _ _ φ w a _ ho => by
  have hr := ho x (by simp [Op.operands])
  have hr2 : a.eval y = .pointer none := by rw [(ho y (by simp [Op.operands])).scal (by rw [hy]; rfl), hy]
  rw [hx] at hr
  generalize hq : a.eval x = u at hr
  cases hr with
  | ptrNil => exact ⟨.bool false, w, Vx (by rw [hq, hr2]; rfl) (by rw [hq, hr2]; exact run_neq (run_equal_ptr hu _ w) rfl), .bool _, .refl w⟩
  | ptr o hg => exact ⟨.bool true, w, Vx (by rw [hq, hr2]; rfl) (by rw [hq, hr2]; exact run_neq (run_equal_ptr hu _ w) rfl), .bool _, .refl w⟩
theorem av_sl_eq_nil {x y : Operand} {xt yt e : TypeId} {v : Option Addr} {n c : Nat} (hx : t.eval x = .slice v n c) (hy : t.eval y = .slice none 0 0) (hu : P.underlying xt = some (.slice e)) : AVal P ⟨d, .binOp .eql xt x y yt, ty, pos, after, guard⟩ t [] H (.bool v.isNone) := fun _ _ _ φ w a _ ho => by
  have hr := ho x (by simp [Op.operands])
  have hr2 : a.eval y = .slice none 0 0 := by rw [(ho y (by simp [Op.operands])).scal (by rw [hy]; rfl), hy]
  rw [hx] at hr
  generalize hq : a.eval x = u at hr
  cases hr with
  | sliceNil => exact ⟨.bool true, w, Vx (by rw [hq, hr2]; rfl) (by rw [hq, hr2]; exact run_eql (run_equal_sl hu _ _ _ w) rfl), .bool _, .refl w⟩
  | slice => exact ⟨.bool false, w, Vx (by rw [hq, hr2]; rfl) (by rw [hq, hr2]; exact run_eql (run_equal_sl hu _ _ _ w) rfl), .bool _, .refl w⟩
  | slice0 => exact ⟨.bool false, w, Vx (by rw [hq, hr2]; rfl) (by rw [hq, hr2]; exact run_eql (run_equal_sl hu _ _ _ w) rfl), .bool _, .refl w⟩

theorem Ys {x : Operand} {st e : TypeId} {A : Option Addr} {n c : Nat} (hx : t.eval x = .slice A n c) (hu : P.underlying st = some (.slice e)) : AVal P ⟨d, .call ⟨.builtin .len, #[x], #[st]⟩, ty, pos, after, guard⟩ t [] H (.int .i64 n) := fun _ _ _ φ w a _ ho => by
  have hr := ho x (by simp [Op.operands, Call.operands])
  rw [hx] at hr
  generalize hq : a.eval x = u at hr
  cases hr <;> exact ⟨_, w, by simp [execOp, resolve, invoke, builtin, hq, Builtin.len_, run_underlying hu, goInt], .int _ _, .refl w⟩
theorem av_len_str {x : Operand} {st : TypeId} {s : ByteArray} (hx : t.eval x = .string s) (hu : P.underlying st = some .string) : AVal P ⟨d, .call ⟨.builtin .len, #[x], #[st]⟩, ty, pos, after, guard⟩ t [] H (.int .i64 s.size) :=
  .one hx rfl rfl (by simp [Op.operands, Call.operands]) fun ρ w h => by simp [execOp, resolve, invoke, builtin, h, Builtin.len_, run_underlying hu, goInt]
theorem av_str_index {x y : Operand} {xt : TypeId} {s : ByteArray} {k : IntKind} {i : Int} (hx : t.eval x = .string s) (hy : t.eval y = .int k i) (hu : P.underlying xt = some .string) (h0 : 0 ≤ i) (h1 : i < s.size) :
    AVal P ⟨d, .index xt x y, ty, pos, after, guard⟩ t [] H (.int .u8 (s[i.toNat]'(by omega)).toNat) :=
  .two hx hy rfl rfl rfl (by simp [Op.operands]) (by simp [Op.operands]) fun ρ w e1 e2 => by
    have : s[i.toNat]? = some (s[i.toNat]'(by omega)) := by simp [show i.toNat < s.size by omega]
    simp [execOp, e1, e2, Instr.index, asIntOf, run_underlying hu, h0, this]

theorem av_fieldAddr {x : Operand} {xt : TypeId} {fs : Array Field} {i : Nat} {f : Field} {b o n : Nat} (hx : t.eval x = .pointer (some ⟨b, o, none⟩)) (hu : P.underlying xt = some (.struct fs)) (hf : fs[i]? = some f) (hn : (P.info? f.type).map (·.size) = some n) (h0 : 0 < n) :
    AVal P ⟨d, .fieldAddr xt x i, ty, pos, after, guard⟩ t [] H (.pointer (some ⟨b, o + f.offset, none⟩)) := fun _ _ _ φ w a _ ho => by
  have hr := ho x (by simp [Op.operands])
  rw [hx] at hr
  generalize hq : a.eval x = u at hr
  obtain ⟨inf, hi, rfl⟩ := info_size hn
  cases hr with
  | @ptr _ g o hg =>
    refine ⟨.pointer (some ⟨g.rb, o + f.offset + g.d, none⟩), w, ?_, .ptr _ hg, .refl w⟩
    have hz : ¬ inf.size = 0 := by omega
    simp [execOp, hq, Instr.fieldAt, run_underlying hu, hf, Instr.sureAddr, fieldPlace, Vz hi, hz, Addr.add_lit]
    omega
theorem Xt {x y : Operand} {xt e : TypeId} {b o n c sz : Nat} {k : IntKind} {i : Int} (hx : t.eval x = .slice (some ⟨b, o, none⟩) n c) (hy : t.eval y = .int k i) (hu : P.underlying xt = some (.slice e)) (hn : (P.info? e).map (·.size) = some sz) (h0 : 0 ≤ i) (h1 : i < n) :
    AVal P ⟨d, .indexAddr xt x y, ty, pos, after, guard⟩ t [] H (.pointer (some ⟨b, o + i.toNat * sz, none⟩)) := fun _ _ _ φ w a _ ho => by
  have hr := ho x (by simp [Op.operands])
  have hi : a.eval y = .int k i := by rw [(ho y (by simp [Op.operands])).scal (by rw [hy]; rfl), hy]
  rw [hx] at hr
  generalize hq : a.eval x = u at hr
  obtain ⟨inf, hinf, rfl⟩ := info_size hn
  cases hr with
  | @slice _ g o n c c' hg _ _ _ =>
    refine ⟨.pointer (some ⟨g.rb, o + i.toNat * inf.size + g.d, none⟩), w, ?_, .ptr _ hg, .refl w⟩
    simp [execOp, hq, hi, Instr.indexAt, asIntOf, run_underlying hu, h0, h1, Vz hinf, Addr.add_lit]
    omega
  | slice0 => omega
theorem av_load {x : Operand} {lt : TypeId} {b o : Nat} {v : Value} (hx : t.eval x = .pointer (some ⟨b, o, none⟩)) (hl : ∀ H', H'.get b = H.get b → ALoad P lt H' b o v) : AVal P ⟨d, .load lt x, ty, pos, after, guard⟩ t [b] H v := fun H' he base φ w a hw ho => by
  have hr := ho x (by simp [Op.operands])
  rw [hx] at hr
  generalize hq : a.eval x = u at hr
  cases hr with
  | ptr o hg =>
    obtain ⟨v', h1, h2⟩ := hl H' (he b (by simp)) base φ w _ hw hg
    exact ⟨v', w, by simp [execOp, hq, Instr.loadAt, Instr.sureAddr, h1], h2, .refl w⟩
theorem cell_of_get {H H' : Hp} {b : Nat} (h : H'.get b = H.get b) (o : Nat) : H'.cell? b o = H.cell? b o := by simp [Hp.cell?, h]
theorem Xk {x : Operand} {lt : TypeId} {b o : Nat} {v : Value} {ds : TypeDesc} (hx : t.eval x = .pointer (some ⟨b, o, none⟩)) (hu : P.underlying lt = some ds) (hd : notAgg ds = true) (hc : H.cell? b o = some v) : AVal P ⟨d, .load lt x, ty, pos, after, guard⟩ t [b] H v :=
  av_load hx fun H' h => aload_one hu hd ((cell_of_get h o).trans hc)
theorem Yl {x : Operand} {lt : TypeId} {b o : Nat} {cs : List Value} {ds : TypeDesc} (hx : t.eval x = .pointer (some ⟨b, o, none⟩)) (hu : P.underlying lt = some ds) (hd : notAgg ds = false) (hi : (P.info? lt).map (·.size) = some cs.length) (hc : Cells H b o cs) :
    AVal P ⟨d, .load lt x, ty, pos, after, guard⟩ t [b] H (.agg cs.toArray) :=
  av_load hx fun H' h => Yo hu hd hi fun j v hj => (cell_of_get h _).trans (hc j v hj)
end
end Go.Proofs.YtmakkmcjocjgmaaGreat.Am
