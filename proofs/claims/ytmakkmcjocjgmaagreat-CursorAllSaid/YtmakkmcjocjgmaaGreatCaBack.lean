
/- A slice of numbers, read from its end: the library's iterator. -/
import Derived.RangeFuncBox
import Derived.RangeFuncLeaves
import Derived.Shelf.Abstract
import Derived.WalkKit
import Derived.OwnWalkIn
import Derived.TacticsInMore
import Derived.LoopNIn
import Derived.LoopIn
import Derived.Test.YtmakkmcjocjgmaaGreatCaTy
import Derived.Test.YtmakkmcjocjgmaaGreatCaOwn
import Derived.Test.YtmakkmcjocjgmaaGreatCaEach
namespace Go.Proofs.YtmakkmcjocjgmaaGreat.Am
open Go Go.RowKit Go.Shelf
set_option linter.unusedVariables false
set_option linter.unusedSimpArgs false
attribute [local go_sem] Oper.semAt_some

set_option maxRecDepth 100000 in
set_option maxHeartbeats 2000000 in
theorem back_real (F : Fence) (n : Nat) (h7 : F.fn 146) (hro : F.round = none) (hn : 1 ≤ n) (l : Nat) (pb : Addr) (b off len : Nat) (zs : List Int) (hreach : len * 8 ≤ 140737488351232) (J : Nat → World → Prop)
  (hB : ∀ k W, J k W → (∃ cap, W.cell? pb = some (.slice (some ⟨b, off, none⟩) len cap)) ∧ ∀ j, j < len → W.cell? ⟨b, off + j, none⟩ = some (.int .i64 (zs[j]?.getD 0)))
  (hY : ∀ k W, k < len → J k W → YieldAt F (n - 1) Tryz.prog l #[.int .i64 ((len - 1 - k : Nat) : Int), .int .i64 (zs[len - 1 - k]?.getD 0)] W fun e W' => e = .returned (.bool true) ∧ J (k + 1) W')
  (W : World) (h0 : J 0 W) :
  CallsIn F n Tryz.prog 146 #[.func (.yield l) #[] #[], .pointer (some pb)] W fun e W' => (∃ v, e = .returned v) ∧ J len W' := by
 refine callsIn_of_wp Tryz.func146 rfl h7 ?_ hro
 simp only [Tryz.ntmps146, List.size_toArray, List.length_cons, List.length_nil, Nat.reduceAdd, Nat.reduceSub, Array.replicate_succ, Array.replicate_zero, List.push_toArray, List.append_toArray, List.nil_append, List.cons_append]
 obtain ⟨⟨cap0, hb0⟩, hc0⟩ := hB 0 W h0
 gi_wp2
 gi_loopw [3] (fun i wr => ∃ k : Nat, k ≤ len ∧ i = .int .i64 ((len : Int) - 1 - k) ∧ J k wr) (fun i _ => (intOf i + 1).toNat)
 case atStart => exact ⟨0, Nat.zero_le _, by simp, h0⟩
 case round =>
  obtain ⟨k, hk, rfl, hJs⟩ := hrel
  obtain ⟨⟨cap, hb1⟩, hc1⟩ := hB k wr hJs
  by_cases hlt : k < len
  ·obtain ⟨fn, tmps, assign, body, hy, hR⟩ := hY k wr hlt hJs
   have hcx := hc1 (len - 1 - k) (by omega)
   have hix : ((len - 1 - k : Nat) : Int) = (len : Int) - 1 - k := by omega
   rw [hix] at hy
   have hge : (0 : Int) ≤ (len : Int) - 1 - k := by omega
   have hlt' : (len : Int) - 1 - k < len := by omega
   have hto : ((len : Int) - 1 - k).toNat = len - 1 - k := by omega
   gi_wp2
   refine hR.mono ?_
   rintro e W3 ⟨rfl, hJ3⟩
   gi_wp2
   go_roundw
   case rel => exact ⟨k + 1, by omega, by simp; omega, hJ3⟩
   case measure => simp [intOf]; omega
  ·obtain rfl : k = len := by omega
   gi_wp2
   go_end0
   exact ⟨⟨_, rfl⟩, hJs⟩

set_option maxRecDepth 100000 in
set_option maxHeartbeats 2000000 in
theorem back_real0 (F : Fence) (n : Nat) (h7 : F.fn 146) (hro : F.round = none) (hn : 1 ≤ n) (l : Nat) (pb : Addr) (A : Option Addr) (cap : Nat) (J : Nat → World → Prop)
  (W : World) (hb0 : W.cell? pb = some (.slice A 0 cap)) (h0 : J 0 W) :
  CallsIn F n Tryz.prog 146 #[.func (.yield l) #[] #[], .pointer (some pb)] W fun e W' => (∃ v, e = .returned v) ∧ J 0 W' := by
 refine callsIn_of_wp Tryz.func146 rfl h7 ?_ hro
 simp only [Tryz.ntmps146, List.size_toArray, List.length_cons, List.length_nil, Nat.reduceAdd, Nat.reduceSub, Array.replicate_succ, Array.replicate_zero, List.push_toArray, List.append_toArray, List.nil_append, List.cons_append]
 gi_wp2
 gi_loopw [3] (fun i wr => i = .int .i64 (-1) ∧ J 0 wr) (fun i _ => (intOf i + 1).toNat)
 case atStart => exact ⟨rfl, h0⟩
 case round =>
  obtain ⟨rfl, hJs⟩ := hrel
  gi_wp2
  go_end0
  exact ⟨⟨_, rfl⟩, hJs⟩

theorem Back_each {G H : Hp} {b c : Nat} {A : Option Addr} {xs : List Int} (hle : G.le H) (hb : b < G.size) (hbox : G.get b = .own 0 [.slice A xs.length c]) (hs : Sl (Y1 .i64) G (.slice A xs.length c) xs) (hl : xs.length ≤ 1000000) :
  AEach Tryz.prog (.func (.func 146) #[] #[.pointer (some ⟨b, 0, none⟩)]) H (fun H' => G.le H') xs.length (fun k => .int .i64 ((xs.length - 1 - k : Nat) : Int)) (fun k => .int .i64 (xs[xs.length - 1 - k]?.getD 0)) := by
 intro base φ w g' hw hg
 cases hg with
 | func f xs0 ys0 xs' ys' h1 h2 h3 h4 =>
  have hx' : xs' = #[] := by apply Array.eq_empty_of_size_eq_zero; simpa using h1.symm
  subst hx'
  have hz : ys'.size = 1 := by simpa using h3.symm
  obtain ⟨p, rfl⟩ : ∃ p, ys' = #[p] := ⟨ys'[0], by
   apply Array.ext
   ·simp [hz]
   ·intro i hi hi2
    have : i = 0 := by omega
    subst this
    rfl⟩
  have hp := h4 0 (by simp) (by simp)
  simp only [List.getElem_toArray, List.getElem_cons_zero] at hp
  cases hp with
  | ptr o hφ =>
   rename_i g
   refine ⟨_, _, rfl, enters_of Tryz.func146 (by kernel_rfl) rfl, fun l J hJ hY W h0 => ?_⟩
   have hcell : ∀ H', G.le H' → H'.cell? b 0 = some (.slice A xs.length c) := fun H' h => h.cell1 hb (Z7 hbox)
   by_cases hn : xs.length = 0
   ·obtain ⟨φ', H', hw', he, hle'⟩ := hJ 0 W h0
    obtain ⟨v', e1, e2⟩ := hw'.cell (he _ _ hφ) (hcell H' hle')
    rw [hn] at e2 ⊢
    obtain ⟨A', c', rfl⟩ : ∃ A' c', v' = .slice A' 0 c' := by cases e2 <;> exact ⟨_, _, rfl⟩
    exact back_real0 (FW none) 8 trivial rfl (by decide) l _ A' c' J W e1 h0
   ·obtain ⟨rb, ro, rfl, _, hrb, _, _⟩ := hs.place (by omega)
    obtain ⟨v0, e0, r0⟩ := hw.cell hφ (hcell H hle)
    obtain ⟨g0, hg0⟩ : ∃ g0, φ rb = some g0 := by
     obtain ⟨m, hm⟩ : ∃ m, m = xs.length := ⟨_, rfl⟩
     rw [← hm] at r0
     cases r0 with
     | slice _ _ _ _ h _ _ _ => exact ⟨_, h⟩
     | slice0 _ _ _ _ => exact absurd hm.symm hn
    refine back_real (FW none) 8 trivial rfl (by decide) l _ g0.rb (ro + g0.d) xs.length xs (by omega) J (fun k W hk => ?_) (fun k W hk hJk => hY k W hk hJk) W h0
    obtain ⟨φ', H', hw', he, hle'⟩ := hJ k W hk
    obtain ⟨v', e1, e2⟩ := hw'.cell (he _ _ hφ) (hcell H' hle')
    refine ⟨?_, fun j hj => ?_⟩
    ·obtain ⟨m, hm⟩ : ∃ m, m = xs.length := ⟨_, rfl⟩
     rw [← hm] at e2 ⊢
     cases e2 with
     | slice o n cc c' h hn' hc hin =>
      rename_i g1
      rw [he _ _ hg0] at h
      injection h with h
      subst h
      exact ⟨_, e1⟩
     | slice0 _ _ _ _ => exact absurd hm.symm hn
    ·obtain ⟨b2, o2, e3, hb2, hc2⟩ := hs.int_at (i := (j : Int)) (by omega) (by omega)
     injection e3 with e3
     injection e3 with e3 e4
     subst e3
     subst e4
     obtain ⟨v2, e5, e6⟩ := hw'.cell (he _ _ hg0) (hle'.cell1 hb2 hc2)
     cases e6
     have : ro + g0.d + j = ro + (j : Int).toNat * 1 + g0.d := by simp; omega
     rw [this]
     rw [e5]
     simp [List.getD_eq_getElem?_getD]
end Go.Proofs.YtmakkmcjocjgmaaGreat.Am
