/- The statement HeapSorts, as the abstract machine runs it. -/
import Derived.Test.YtinfigghaonceaaAmRefPush
namespace Go.Proofs.Ytinfigghaonceaa.Am
open Go Go.RowKit
set_option linter.unusedVariables false
set_option linter.unusedSimpArgs false

/-- A call that doesn't know of the heap. -/
theorem HeapP.calls {G H : Hp} {v : Value} {xs : List Item} (h : HeapP G H v xs) {P : Program} {f : FuncId} {args : Array Value} {R : Value → Hp → Prop} (hc : ACalls P f args G R) (hle : ∀ r G', R r G' → G.le G') :
    ACalls P f args H (fun r H' => ∃ G', R r G' ∧ HeapP G' H' v xs ∧ H.le H') := by
  obtain ⟨hb, s, rfl, h1, h2, h3⟩ := h
  refine (h3.calls (hc.frame h1 h2 _) (fun r G' ⟨G2, a, b, c, d⟩ => ?_)).mono fun r H' ⟨G', ⟨G2, a, b, c, d⟩, e, g⟩ => ⟨G2, a, ⟨hb, s, rfl, c, b, d ▸ e⟩, g⟩
  rw [d]; exact Hp.le_put_both (hle r G2 a) hb _
theorem HeapP.push {G H : Hp} {v : Value} {xs : List Item} (h : HeapP G H v xs) (x : Blk) : HeapP (G.push x) (H.push x) v xs := by
  obtain ⟨hb, s, rfl, h1, h2, h3⟩ := h
  refine ⟨hb, s, rfl, by simp; omega, by rw [Hp.push_old _ _ h1]; exact h2, ?_⟩
  rw [← push_put_comm G h1]; exact h3.push x
theorem sl_lit {α : Type} {k : Kd α} {H : Hp} {b c st : Nat} {cs : List Value} (hb : b < H.size) (hg : H.get b = .own st cs) (hst : k.sz = st) : Sl k H (.slice (some ⟨b, 0, none⟩) 0 c) [] :=
  .inr ⟨b, 0, c, rfl, hb, by rw [hg]; exact hst.symm, fun i x hx => by simp at hx⟩
theorem Both.good {hs l : List Item} (h : Both hs l) (hg : Good l) : Good hs := fun x hx => hg x (h.perm.mem_iff.1 hx)
theorem good_ins {l : List Item} {x : Item} (h : Good l) (hx : x.nodes.length < 9223372036854775807) : Good (insM l x) := fun y hy => by
  rcases List.mem_cons.1 ((insM_perm l x).mem_iff.1 hy) with rfl | hy
  · exact hx
  · exact h y hy
theorem HeapSorts_ok (ls : List Item) (v : Value) (H : Hp) (hs : Sl kItem H v ls) (hl : ls.length ≤ 9223372036854775807) (hx : ∀ x ∈ ls, x.nodes.length ≤ 9223372036854775807) :
    ACalls Try.prog 4 #[v] H (fun r H' => r = .bool true ∧ H.le H') := by
  obtain ⟨A, c, rfl⟩ := hs.shape
  have hXl : ((ls.take 30).map Item.cut).length ≤ 30 := by simp; omega
  have hXg := good_cut (ls.take 30)
  have hXc : ∀ x ∈ (ls.take 30).map Item.cut, x.cut = x := fun x hx => by
    obtain ⟨y, _, rfl⟩ := List.mem_map.1 hx
    exact cut_cut y
  have hX5 : ∀ x ∈ (ls.take 30).map Item.cut, x.nodes.length ≤ 5 := fun x hx => by
    obtain ⟨y, _, rfl⟩ := List.mem_map.1 hx
    exact cut_len y
  refine acalls_of_code Try.func4 rfl rfl rfl (by simp) ?_
  refine ac_seq ?_
  refine ac_region (by kernel_rfl) ?_
  first | refine aops_val (av_assign_bool rfl) ?_ | refine aops_val (av_assign rfl) ?_
  refine ac_seq ?_
  refine ac_region (by kernel_rfl) ?_
  refine aops_op (aop_call (New_items [] _ _ (Sl.nil _ _) (by intro x hx; simp at hx) (by simp) (by intro x hx; simp at hx)) rfl Try.func15 rfl rfl rfl ?_)
  rintro vh H1 ⟨G1, hle1, hp⟩
  first | refine aops_make (am_buildSlice (r := []) Try.underlying25 inf24.size inf24.zero rfl (by decide) (by decide) (by decide) rfl) ?_
  first | refine aops_val (av_assign_ptr rfl) ?_ | refine aops_val (av_assign rfl) ?_
  first | refine aops_val (av_assign_sl rfl) ?_ | refine aops_val (av_assign rfl) ?_
  refine ac_seq ?_
  refine ac_region (by kernel_rfl) ?_
  first | refine aops_val (av_move_sl rfl) ?_ | refine aops_val (av_move rfl) ?_
  refine aops_op (aop_call ((hp.push (.own 4 [])).calls (items_items ls _ 30 _ (hs.mono (by (repeat (first | assumption | exact Hp.sees.refl _ | refine Hp.sees_put_new ?_ (by (first | assumption | (simp; done) | (simp; omega) | omega)) _ | refine Hp.sees.push ?_ _ | refine Hp.sees.trans ?_ (by assumption) | refine Hp.sees.trans ?_ (Hp.le.sees (by assumption)) | refine Hp.sees.box ?_ (by (repeat (first | assumption | exact Hp.push_new _ _ | exact Hp.put_same _ _ _ | refine (Hp.push_old _ _ (by (first | assumption | (simp; done) | (simp; omega) | omega))).trans ?_ | refine (Hp.put_other _ _ (by (first | assumption | omega | (simp; done) | (simp; omega)))).trans ?_ | refine le_got (by assumption) (by (first | assumption | (simp; done) | (simp; omega) | omega)) (by intro e; cases e) ?_))))))) hx hl (by omega) (by omega)) (fun r G' ⟨G2, a, b⟩ => Hp.le_trans a b.le)) rfl Try.func9 rfl rfl rfl ?_)
  rintro vx H2 ⟨G2, ⟨G3, hle3, hown3⟩, hq, hle2⟩; have hsx := hown3.sl; have hleG2 := Hp.le_trans hle3 hown3.le
  first | refine aops_val (av_assign_sl rfl) ?_ | refine aops_val (av_assign rfl) ?_
  refine ac_seq ?_
  refine ac_seq ?_
  rw [show (30 : Int).toNat = 30 from rfl] at hsx hown3
  generalize (ls.take 30).map Item.cut = X at hsx hown3 hXl hXg hXc hX5
  obtain ⟨AX, cX, rfl⟩ := hsx.shape
  refine ac_region (by kernel_rfl) ?_
  first | refine aops_val (av_assign_int rfl) ?_ | refine aops_val (av_assign rfl) ?_
  refine ac_block ?_
  refine ac_loop (fun n t H' => ∃ (i : Nat) (G : Hp) (hs l : List Item) (B : Option Addr) (c5 : Nat), i ≤ X.length ∧ n = X.length - i ∧ G2.le G ∧ HeapP G H' vh hs ∧ Both hs l ∧ l.length = i ∧ Good l ∧ Sl kItem G (.slice B l.length c5) l ∧ t 3 = vh ∧ t 4 = .slice B l.length c5 ∧ t 5 = .slice AX X.length cX ∧ t 6 = .int .i64 i) (X.length) (⟨0, G2, [], [], _, _, Nat.zero_le _, rfl, Hp.le_refl _, hq, Both.nil, rfl, (fun x hx => by simp at hx), sl_lit (st := 4) (by have := hp.size; have := hleG2.1; simp at this; omega) (le_got hleG2 (by have := hp.size; simp; omega) (by intro e; cases e) (by rw [show H1.size = G1.size from hp.size]; exact Hp.push_new _ _)) rfl, rfl, rfl, rfl, rfl⟩) ?_
  rintro n t H3 ⟨i, G, hs3, l, B, c5, hi, rfl, hleG, hp3, hboth, hli, hgl, hsl, e3, e4, e5, e6⟩
  have hlen3 := hboth.length
  refine ac_seq ?_
  refine ac_seq ?_
  refine ac_region (by kernel_rfl) ?_
  first | refine aops_val (av_move_int (by first | assumption | rfl)) ?_ | refine aops_val (av_move (by first | assumption | rfl)) ?_
  first | refine aops_val (av_move_sl (by first | assumption | rfl)) ?_ | refine aops_val (av_move (by first | assumption | rfl)) ?_
  refine aops_val (av_len rfl Try.underlying25) ?_
  refine aops_val (av_lt rfl rfl) ?_
  refine ac_split rfl rfl ?_ ?_
  · intro hc1
    (try simp only [decide_eq_true_eq, decide_eq_false_iff_not, Bool.not_eq_true', Bool.not_eq_false'] at hc1)
    refine ac_skip ?_
    refine ac_seq ?_
    refine ac_block ?_
    refine ac_seq ?_
    refine ac_region (by kernel_rfl) ?_
    first | refine aops_val (av_move_ptr (by first | assumption | rfl)) ?_ | refine aops_val (av_move (by first | assumption | rfl)) ?_
    first | refine aops_val (av_move_sl (by first | assumption | rfl)) ?_ | refine aops_val (av_move (by first | assumption | rfl)) ?_
    first | refine aops_val (av_move_int (by first | assumption | rfl)) ?_ | refine aops_val (av_move (by first | assumption | rfl)) ?_
    have hix : i < X.length := by omega
    obtain ⟨b, o, cs, rfl, hb, ⟨w1, rfl, hw1⟩, hcell0⟩ := (hsx.mono hleG.sees).elem_at hix
    obtain ⟨A6, c6, rfl⟩ := hw1.shape
    have hcells := hp3.le.cells hb hcell0
    have hm := List.getElem_mem hix
    have h5 := hX5 _ hm
    refine aops_val (av_indexAddr rfl rfl Try.underlying25 inf24.size (by (first | assumption | omega | (simp only [Int.toNat_natCast] at *; omega))) (by (first | assumption | omega | (simp only [Int.toNat_natCast] at *; omega)))) ?_
    first | refine aops_val (av_loadN (cs := [.int .i64 _, .slice _ _ _, .int .i64 _, .int .i64 _]) rfl Try.underlying24 rfl inf24.size (by (first | assumption | exact cells_get (by (repeat (first | assumption | exact Hp.push_new _ _ | exact Hp.put_same _ _ _ | refine (Hp.push_old _ _ (by (first | assumption | (simp; done) | (simp; omega) | omega))).trans ?_ | refine (Hp.put_other _ _ (by (first | assumption | omega | (simp; done) | (simp; omega)))).trans ?_ | refine le_got (by assumption) (by (first | assumption | (simp; done) | (simp; omega) | omega)) (by intro e; cases e) ?_))) rfl | exact Cells.le (by assumption) (by (repeat (first | assumption | exact Hp.le_refl _ | refine Hp.le_put_new ?_ (by (first | assumption | (simp; done) | (simp; omega) | omega)) _ | refine Hp.le_push' ?_ _ | refine Hp.le_trans ?_ (by assumption)))) (by (first | assumption | (simp; done) | (simp; omega) | omega))))) ?_ | refine aops_val (av_loadN (cs := [.int .i64 _, _, .int .i64 _, .int .i64 _]) rfl Try.underlying24 rfl inf24.size (by (first | assumption | exact cells_get (by (repeat (first | assumption | exact Hp.push_new _ _ | exact Hp.put_same _ _ _ | refine (Hp.push_old _ _ (by (first | assumption | (simp; done) | (simp; omega) | omega))).trans ?_ | refine (Hp.put_other _ _ (by (first | assumption | omega | (simp; done) | (simp; omega)))).trans ?_ | refine le_got (by assumption) (by (first | assumption | (simp; done) | (simp; omega) | omega)) (by intro e; cases e) ?_))) rfl | exact Cells.le (by assumption) (by (repeat (first | assumption | exact Hp.le_refl _ | refine Hp.le_put_new ?_ (by (first | assumption | (simp; done) | (simp; omega) | omega)) _ | refine Hp.le_push' ?_ _ | refine Hp.le_trans ?_ (by assumption)))) (by (first | assumption | (simp; done) | (simp; omega) | omega))))) ?_
    refine aops_op (aop_call (hp3.calls (Item_item X[i] _ _ ⟨_, rfl, hw1⟩ (by omega)) (fun _ _ h => h.1)) rfl Try.func8 rfl rfl rfl ?_)
    rintro v5 H5 ⟨G5, ⟨hle5, ds, rfl, hr5⟩, hp5, hleH5⟩; rw [hXc _ hm] at hr5; obtain ⟨u5, rfl, hu5⟩ := hr5; obtain ⟨A5, c5', rfl⟩ := hu5.shape
    refine aops_op (aop_call (Push_heap hp5 ⟨_, rfl, hu5⟩ (hboth.good hgl) (by omega) (by omega)) rfl Try.func16 rfl rfl rfl ?_)
    rintro v6 H6 ⟨G6, hle6, hp6, rfl⟩
    refine ac_region (by kernel_rfl) ?_
    first | refine aops_val (av_move_sl (by first | assumption | rfl)) ?_ | refine aops_val (av_move (by first | assumption | rfl)) ?_
    first | refine aops_val (av_move_sl (by first | assumption | rfl)) ?_ | refine aops_val (av_move (by first | assumption | rfl)) ?_
    first | refine aops_val (av_move_int (by first | assumption | rfl)) ?_ | refine aops_val (av_move (by first | assumption | rfl)) ?_
    have hle36 := Hp.le_trans hle5 hle6
    have hcells7 := hp6.le.cells (Nat.lt_of_lt_of_le hb hle36.1) (hcell0.le hle36 hb)
    refine aops_val (av_indexAddr rfl rfl Try.underlying25 inf24.size (by (first | assumption | omega | (simp only [Int.toNat_natCast] at *; omega))) (by (first | assumption | omega | (simp only [Int.toNat_natCast] at *; omega)))) ?_
    first | refine aops_val (av_loadN (cs := [.int .i64 _, .slice _ _ _, .int .i64 _, .int .i64 _]) rfl Try.underlying24 rfl inf24.size (by (first | assumption | exact cells_get (by (repeat (first | assumption | exact Hp.push_new _ _ | exact Hp.put_same _ _ _ | refine (Hp.push_old _ _ (by (first | assumption | (simp; done) | (simp; omega) | omega))).trans ?_ | refine (Hp.put_other _ _ (by (first | assumption | omega | (simp; done) | (simp; omega)))).trans ?_ | refine le_got (by assumption) (by (first | assumption | (simp; done) | (simp; omega) | omega)) (by intro e; cases e) ?_))) rfl | exact Cells.le (by assumption) (by (repeat (first | assumption | exact Hp.le_refl _ | refine Hp.le_put_new ?_ (by (first | assumption | (simp; done) | (simp; omega) | omega)) _ | refine Hp.le_push' ?_ _ | refine Hp.le_trans ?_ (by assumption)))) (by (first | assumption | (simp; done) | (simp; omega) | omega))))) ?_ | refine aops_val (av_loadN (cs := [.int .i64 _, _, .int .i64 _, .int .i64 _]) rfl Try.underlying24 rfl inf24.size (by (first | assumption | exact cells_get (by (repeat (first | assumption | exact Hp.push_new _ _ | exact Hp.put_same _ _ _ | refine (Hp.push_old _ _ (by (first | assumption | (simp; done) | (simp; omega) | omega))).trans ?_ | refine (Hp.put_other _ _ (by (first | assumption | omega | (simp; done) | (simp; omega)))).trans ?_ | refine le_got (by assumption) (by (first | assumption | (simp; done) | (simp; omega) | omega)) (by intro e; cases e) ?_))) rfl | exact Cells.le (by assumption) (by (repeat (first | assumption | exact Hp.le_refl _ | refine Hp.le_put_new ?_ (by (first | assumption | (simp; done) | (simp; omega) | omega)) _ | refine Hp.le_push' ?_ _ | refine Hp.le_trans ?_ (by assumption)))) (by (first | assumption | (simp; done) | (simp; omega) | omega))))) ?_
    refine aops_op (aop_call (hp6.calls (refPush_items l X[i] _ _ _ (hsl.mono hle36.sees) ⟨_, rfl, hw1.mono hle36.sees⟩ hgl (by omega) (by omega)) (fun _ _ h => h.1)) rfl Try.func17 rfl rfl rfl ?_)
    rintro v7 H7 ⟨G7, ⟨hle7, hs7⟩, hp7, hleH7⟩; obtain ⟨B7, c7, rfl⟩ := hs7.shape
    first | refine aops_val (av_assign_sl rfl) ?_ | refine aops_val (av_assign rfl) ?_
    refine ac_region (by kernel_rfl) ?_
    first | refine aops_val (av_move_int (by first | assumption | rfl)) ?_ | refine aops_val (av_move (by first | assumption | rfl)) ?_
    first | refine aops_val (av_add64 rfl rfl (by (first | assumption | omega | (simp; omega)))) ?_ | refine aops_val (av_add rfl rfl) ?_
    first | refine aops_val (av_assign_int rfl) ?_ | refine aops_val (av_assign rfl) ?_
    exact ⟨X.length - (i + 1), by omega, i + 1, G7, _, _, B7, c7, by omega, rfl, Hp.le_trans hleG (Hp.le_trans hle36 hle7), hp7, hboth.push X[i], by rw [insM_length]; omega, good_ins hgl (by omega), hs7, e3, rfl, e5, rfl⟩
  · intro hc1
    (try simp only [decide_eq_true_eq, decide_eq_false_iff_not, Bool.not_eq_true', Bool.not_eq_false'] at hc1)
    refine ac_exit ?_
    refine ac_seq ?_
    refine ac_seq ?_
    refine ac_region (by kernel_rfl) ?_
    first | refine aops_val (av_assign_int rfl) ?_ | refine aops_val (av_assign rfl) ?_
    refine ac_block ?_
    refine ac_loop (fun n t H' => ∃ (j : Nat) (G : Hp) (hs : List Item), j ≤ l.length ∧ n = l.length - j ∧ G2.le G ∧ HeapP G H' vh hs ∧ Both hs (l.drop j) ∧ Sl kItem G (.slice B l.length c5) l ∧ t 3 = vh ∧ t 4 = .slice B l.length c5 ∧ t 7 = .int .i64 j) (l.length) (⟨0, G, hs3, Nat.zero_le _, rfl, hleG, hp3, hboth, hsl, e3, e4, rfl⟩) ?_
    rintro n t H4 ⟨j, G4, hs4, hj, rfl, hleG4, hp4, hboth4, hsl4, e3, e4, e7⟩
    have hlen4 := hboth4.length
    rw [List.length_drop] at hlen4
    have hg4 : Good hs4 := hboth4.good (fun x hx => hgl x (List.mem_of_mem_drop hx))
    refine ac_seq ?_
    refine ac_seq ?_
    refine ac_region (by kernel_rfl) ?_
    first | refine aops_val (av_move_int (by first | assumption | rfl)) ?_ | refine aops_val (av_move (by first | assumption | rfl)) ?_
    first | refine aops_val (av_move_sl (by first | assumption | rfl)) ?_ | refine aops_val (av_move (by first | assumption | rfl)) ?_
    refine aops_val (av_len rfl Try.underlying25) ?_
    refine aops_val (av_lt rfl rfl) ?_
    refine ac_split rfl rfl ?_ ?_
    · intro hc2
      (try simp only [decide_eq_true_eq, decide_eq_false_iff_not, Bool.not_eq_true', Bool.not_eq_false'] at hc2)
      refine ac_skip ?_
      refine ac_seq ?_
      refine ac_block ?_
      refine ac_seq ?_
      refine ac_region (by kernel_rfl) ?_
      first | refine aops_val (av_move_ptr (by first | assumption | rfl)) ?_ | refine aops_val (av_move (by first | assumption | rfl)) ?_
      refine aops_op (aop_call (Pop_heap hp4 hg4 (by omega)) rfl Try.func18 rfl rfl rfl ?_)
      rintro v8 H8 ⟨G8, cs8, hle8, hp8, rfl, hr8⟩; have hleP8 := hp8.le; have hz8 := hp8.size; obtain ⟨w8, rfl, hw8⟩ := hr8; obtain ⟨A8, c8, rfl⟩ := hw8.shape
      refine aops_val (av_move rfl) ?_
      refine aops_val (av_extract rfl rfl) ?_
      refine aops_val (av_extract rfl rfl) ?_
      refine aops_make (am_zero (l := [.int .i64 0, .slice none 0 0, .int .i64 0, .int .i64 0]) inf24.zero rfl (by decide)) ?_
      first | refine aops_op (aop_putN (vs := [.int .i64 _, .slice _ _ _, .int .i64 _, .int .i64 _]) rfl rfl inf24.size (by (repeat (first | assumption | exact Hp.push_new _ _ | exact Hp.put_same _ _ _ | refine (Hp.push_old _ _ (by (first | assumption | (simp; done) | (simp; omega) | omega))).trans ?_ | refine (Hp.put_other _ _ (by (first | assumption | omega | (simp; done) | (simp; omega)))).trans ?_ | refine le_got (by assumption) (by (first | assumption | (simp; done) | (simp; omega) | omega)) (by intro e; cases e) ?_))) (by (first | (simp; done) | (simp; omega) | omega | (rw [setR_length (by first | (simp; omega) | omega)]; first | (simp; omega) | omega))) rfl rfl ?_) | refine aops_op (aop_putN (vs := [.int .i64 _, _, .int .i64 _, .int .i64 _]) rfl rfl inf24.size (by (repeat (first | assumption | exact Hp.push_new _ _ | exact Hp.put_same _ _ _ | refine (Hp.push_old _ _ (by (first | assumption | (simp; done) | (simp; omega) | omega))).trans ?_ | refine (Hp.put_other _ _ (by (first | assumption | omega | (simp; done) | (simp; omega)))).trans ?_ | refine le_got (by assumption) (by (first | assumption | (simp; done) | (simp; omega) | omega)) (by intro e; cases e) ?_))) (by (first | (simp; done) | (simp; omega) | omega | (rw [setR_length (by first | (simp; omega) | omega)]; first | (simp; omega) | omega))) rfl rfl ?_)
      first | refine aops_val (av_assign_bool rfl) ?_ | refine aops_val (av_assign rfl) ?_
      refine ac_seq ?_
      refine ac_draw (by kernel_rfl) (reg_of (B := [0, 1, 3, 7, 7, 7, 55, 119, 255, 511, 1023]) (π := [0, 1, 2, 3, 4, 5, 6, 7, 8, 9, 10]) (by kernel_rfl)) ?_
      first | refine adr_val rfl rfl (av_move_bool rfl) (by (simp only [List.not_mem_nil, List.mem_singleton, false_implies, forall_eq, implies_true, Hp.put_size, Hp.push_size]; try omega)) ?_ | refine adr_val rfl rfl (av_move rfl) (by (simp only [List.not_mem_nil, List.mem_singleton, false_implies, forall_eq, implies_true, Hp.put_size, Hp.push_size]; try omega)) ?_
      refine adr_val rfl rfl (av_not rfl) (by (simp only [List.not_mem_nil, List.mem_singleton, false_implies, forall_eq, implies_true, Hp.put_size, Hp.push_size]; try omega)) ?_
      first | refine adr_val rfl rfl (av_move_bool rfl) (by (simp only [List.not_mem_nil, List.mem_singleton, false_implies, forall_eq, implies_true, Hp.put_size, Hp.push_size]; try omega)) ?_ | refine adr_val rfl rfl (av_move rfl) (by (simp only [List.not_mem_nil, List.mem_singleton, false_implies, forall_eq, implies_true, Hp.put_size, Hp.push_size]; try omega)) ?_
      refine adr_guard rfl rfl rfl rfl ?_ ?_
      · intro hg3
        exfalso; simp only [Bool.not_eq_true', decide_eq_false_iff_not] at hg3; omega
      · intro hg3
        have hp3 := hg3; try simp only [decide_eq_true_eq, decide_eq_false_iff_not, Bool.not_eq_true', Bool.not_eq_false'] at hp3
        first | refine adr_wval rfl (want_yes rfl rfl rfl hg3) rfl (av_loadN (cs := [.int .i64 _, .slice _ _ _, .int .i64 _, .int .i64 _]) rfl Try.underlying24 rfl inf24.size (by (first | assumption | exact cells_get (by (repeat (first | assumption | exact Hp.push_new _ _ | exact Hp.put_same _ _ _ | refine (Hp.push_old _ _ (by (first | assumption | (simp; done) | (simp; omega) | omega))).trans ?_ | refine (Hp.put_other _ _ (by (first | assumption | omega | (simp; done) | (simp; omega)))).trans ?_ | refine le_got (by assumption) (by (first | assumption | (simp; done) | (simp; omega) | omega)) (by intro e; cases e) ?_))) rfl | exact Cells.le (by assumption) (by (repeat (first | assumption | exact Hp.le_refl _ | refine Hp.le_put_new ?_ (by (first | assumption | (simp; done) | (simp; omega) | omega)) _ | refine Hp.le_push' ?_ _ | refine Hp.le_trans ?_ (by assumption)))) (by (first | assumption | (simp; done) | (simp; omega) | omega))))) (by (simp only [List.not_mem_nil, List.mem_singleton, false_implies, forall_eq, implies_true, Hp.put_size, Hp.push_size]; try omega)) ?_ | refine adr_wval rfl (want_yes rfl rfl rfl hg3) rfl (av_loadN (cs := [.int .i64 _, _, .int .i64 _, .int .i64 _]) rfl Try.underlying24 rfl inf24.size (by (first | assumption | exact cells_get (by (repeat (first | assumption | exact Hp.push_new _ _ | exact Hp.put_same _ _ _ | refine (Hp.push_old _ _ (by (first | assumption | (simp; done) | (simp; omega) | omega))).trans ?_ | refine (Hp.put_other _ _ (by (first | assumption | omega | (simp; done) | (simp; omega)))).trans ?_ | refine le_got (by assumption) (by (first | assumption | (simp; done) | (simp; omega) | omega)) (by intro e; cases e) ?_))) rfl | exact Cells.le (by assumption) (by (repeat (first | assumption | exact Hp.le_refl _ | refine Hp.le_put_new ?_ (by (first | assumption | (simp; done) | (simp; omega) | omega)) _ | refine Hp.le_push' ?_ _ | refine Hp.le_trans ?_ (by assumption)))) (by (first | assumption | (simp; done) | (simp; omega) | omega))))) (by (simp only [List.not_mem_nil, List.mem_singleton, false_implies, forall_eq, implies_true, Hp.put_size, Hp.push_size]; try omega)) ?_
        first | refine adr_wval rfl (want_yes rfl rfl rfl hg3) rfl (av_move_sl (by first | assumption | rfl)) (by (simp only [List.not_mem_nil, List.mem_singleton, false_implies, forall_eq, implies_true, Hp.put_size, Hp.push_size]; try omega)) ?_ | refine adr_wval rfl (want_yes rfl rfl rfl hg3) rfl (av_move (by first | assumption | rfl)) (by (simp only [List.not_mem_nil, List.mem_singleton, false_implies, forall_eq, implies_true, Hp.put_size, Hp.push_size]; try omega)) ?_
        first | refine adr_wval rfl (want_yes rfl rfl rfl hg3) rfl (av_move_int (by first | assumption | rfl)) (by (simp only [List.not_mem_nil, List.mem_singleton, false_implies, forall_eq, implies_true, Hp.put_size, Hp.push_size]; try omega)) ?_ | refine adr_wval rfl (want_yes rfl rfl rfl hg3) rfl (av_move (by first | assumption | rfl)) (by (simp only [List.not_mem_nil, List.mem_singleton, false_implies, forall_eq, implies_true, Hp.put_size, Hp.push_size]; try omega)) ?_
        have hjx : j < l.length := by omega
        obtain ⟨b, o, ds, rfl, hb, ⟨w9, rfl, hw9⟩, hcell0⟩ := (hsl4.mono hle8.sees).elem_at hjx
        obtain ⟨A9, c9, rfl⟩ := hw9.shape
        have hcells := hp8.le.cells hb hcell0
        have hbH : b < H8.size := by omega
        have heq : hs4.getD 0 dItem = l[j] := by
          rw [hboth4.head (by rw [List.length_drop]; omega), getD_item (by rw [List.length_drop]; omega), List.getElem_drop]; rfl
        have hgn : (hs4.getD 0 dItem).nodes.length < 9223372036854775807 := by rw [heq]; exact hgl _ (List.getElem_mem hjx)
        refine adr_wval rfl (want_yes rfl rfl rfl hg3) rfl (av_indexAddr rfl rfl Try.underlying25 inf24.size (by (first | assumption | omega | (simp only [Int.toNat_natCast] at *; omega))) (by (first | assumption | omega | (simp only [Int.toNat_natCast] at *; omega)))) (by (simp only [List.not_mem_nil, List.mem_singleton, false_implies, forall_eq, implies_true, Hp.put_size, Hp.push_size]; try omega)) ?_
        first | refine adr_wval rfl (want_yes rfl rfl rfl hg3) rfl (av_loadN (cs := [.int .i64 _, .slice _ _ _, .int .i64 _, .int .i64 _]) rfl Try.underlying24 rfl inf24.size (by (first | assumption | exact cells_get (by (repeat (first | assumption | exact Hp.push_new _ _ | exact Hp.put_same _ _ _ | refine (Hp.push_old _ _ (by (first | assumption | (simp; done) | (simp; omega) | omega))).trans ?_ | refine (Hp.put_other _ _ (by (first | assumption | omega | (simp; done) | (simp; omega)))).trans ?_ | refine le_got (by assumption) (by (first | assumption | (simp; done) | (simp; omega) | omega)) (by intro e; cases e) ?_))) rfl | exact Cells.le (by assumption) (by (repeat (first | assumption | exact Hp.le_refl _ | refine Hp.le_put_new ?_ (by (first | assumption | (simp; done) | (simp; omega) | omega)) _ | refine Hp.le_push' ?_ _ | refine Hp.le_trans ?_ (by assumption)))) (by (first | assumption | (simp; done) | (simp; omega) | omega))))) (by (simp only [List.not_mem_nil, List.mem_singleton, false_implies, forall_eq, implies_true, Hp.put_size, Hp.push_size]; try omega)) ?_ | refine adr_wval rfl (want_yes rfl rfl rfl hg3) rfl (av_loadN (cs := [.int .i64 _, _, .int .i64 _, .int .i64 _]) rfl Try.underlying24 rfl inf24.size (by (first | assumption | exact cells_get (by (repeat (first | assumption | exact Hp.push_new _ _ | exact Hp.put_same _ _ _ | refine (Hp.push_old _ _ (by (first | assumption | (simp; done) | (simp; omega) | omega))).trans ?_ | refine (Hp.put_other _ _ (by (first | assumption | omega | (simp; done) | (simp; omega)))).trans ?_ | refine le_got (by assumption) (by (first | assumption | (simp; done) | (simp; omega) | omega)) (by intro e; cases e) ?_))) rfl | exact Cells.le (by assumption) (by (repeat (first | assumption | exact Hp.le_refl _ | refine Hp.le_put_new ?_ (by (first | assumption | (simp; done) | (simp; omega) | omega)) _ | refine Hp.le_push' ?_ _ | refine Hp.le_trans ?_ (by assumption)))) (by (first | assumption | (simp; done) | (simp; omega) | omega))))) (by (simp only [List.not_mem_nil, List.mem_singleton, false_implies, forall_eq, implies_true, Hp.put_size, Hp.push_size]; try omega)) ?_
        refine adr_wop rfl (want_yes rfl rfl rfl hg3) rfl (aop_call (refOrder_item (hs4.getD 0 dItem) l[j] _ _ _ ⟨_, rfl, hw8.mono (by (repeat (first | assumption | exact Hp.sees.refl _ | refine Hp.sees_put_new ?_ (by (first | assumption | (simp; done) | (simp; omega) | omega)) _ | refine Hp.sees.push ?_ _ | refine Hp.sees.trans ?_ (by assumption) | refine Hp.sees.trans ?_ (Hp.le.sees (by assumption)) | refine Hp.sees.box ?_ (by (repeat (first | assumption | exact Hp.push_new _ _ | exact Hp.put_same _ _ _ | refine (Hp.push_old _ _ (by (first | assumption | (simp; done) | (simp; omega) | omega))).trans ?_ | refine (Hp.put_other _ _ (by (first | assumption | omega | (simp; done) | (simp; omega)))).trans ?_ | refine le_got (by assumption) (by (first | assumption | (simp; done) | (simp; omega) | omega)) (by intro e; cases e) ?_))))))⟩ ⟨_, rfl, hw9.mono (by (repeat (first | assumption | exact Hp.sees.refl _ | refine Hp.sees_put_new ?_ (by (first | assumption | (simp; done) | (simp; omega) | omega)) _ | refine Hp.sees.push ?_ _ | refine Hp.sees.trans ?_ (by assumption) | refine Hp.sees.trans ?_ (Hp.le.sees (by assumption)) | refine Hp.sees.box ?_ (by (repeat (first | assumption | exact Hp.push_new _ _ | exact Hp.put_same _ _ _ | refine (Hp.push_old _ _ (by (first | assumption | (simp; done) | (simp; omega) | omega))).trans ?_ | refine (Hp.put_other _ _ (by (first | assumption | omega | (simp; done) | (simp; omega)))).trans ?_ | refine le_got (by assumption) (by (first | assumption | (simp; done) | (simp; omega) | omega)) (by intro e; cases e) ?_))))))⟩ hgn (hgl _ (List.getElem_mem hjx))) rfl Try.func11 rfl rfl rfl ?_)
        rintro v H ⟨rfl, rfl⟩
        refine ⟨by (first | exact fun _ _ _ _ _ => rfl | (repeat (first | exact List.forall_mem_nil _ | refine List.forall_mem_cons.2 ⟨?_, ?_⟩ | (intro hb b hbm; first | (dsimp only at hb; exact absurd hb (by decide)) | (exact absurd hbm (List.not_mem_nil)) | (simp only [List.mem_singleton] at hbm; subst hbm; (first | rfl | exact Hp.put_other _ _ (by (first | assumption | omega | (simp; done) | (simp; omega))) | exact Hp.le.same (by assumption) (by (first | assumption | (simp; done) | (simp; omega) | omega)) (by (repeat (first | assumption | exact Hp.push_new _ _ | exact Hp.put_same _ _ _ | refine (Hp.push_old _ _ (by (first | assumption | (simp; done) | (simp; omega) | omega))).trans ?_ | refine (Hp.put_other _ _ (by (first | assumption | omega | (simp; done) | (simp; omega)))).trans ?_ | refine le_got (by assumption) (by (first | assumption | (simp; done) | (simp; omega) | omega)) (by intro e; cases e) ?_))) | exact hsameO _ _ _ (by (first | assumption | (simp; done) | (simp; omega) | omega)) (by (repeat (first | assumption | exact Hp.push_new _ _ | exact Hp.put_same _ _ _ | refine (Hp.push_old _ _ (by (first | assumption | (simp; done) | (simp; omega) | omega))).trans ?_ | refine (Hp.put_other _ _ (by (first | assumption | omega | (simp; done) | (simp; omega)))).trans ?_ | refine le_got (by assumption) (by (first | assumption | (simp; done) | (simp; omega) | omega)) (by intro e; cases e) ?_))))) | exact hsame _ hbm)))), ?_⟩
        refine adr_wval rfl (want_yes rfl rfl rfl hg3) rfl (av_ne rfl rfl) (by (simp only [List.not_mem_nil, List.mem_singleton, false_implies, forall_eq, implies_true, Hp.put_size, Hp.push_size]; try omega)) ?_
        refine adr_val rfl rfl (av_pick_bool (congrArg Value.bool hg3) rfl) (by (simp only [List.not_mem_nil, List.mem_singleton, false_implies, forall_eq, implies_true, Hp.put_size, Hp.push_size]; try omega)) ?_
        refine ac_split rfl rfl ?_ ?_
        · intro hc4
          exact absurd (by rw [heq]; exact cmpItem_self _) (of_decide_eq_true hc4)
        · intro hc4
          (try simp only [decide_eq_true_eq, decide_eq_false_iff_not, Bool.not_eq_true', Bool.not_eq_false'] at hc4)
          refine ac_skip ?_
          refine ac_region (by kernel_rfl) ?_
          first | refine aops_val (av_move_int (by first | assumption | rfl)) ?_ | refine aops_val (av_move (by first | assumption | rfl)) ?_
          first | refine aops_val (av_add64 rfl rfl (by (first | assumption | omega | (simp; omega)))) ?_ | refine aops_val (av_add rfl rfl) ?_
          first | refine aops_val (av_assign_int rfl) ?_ | refine aops_val (av_assign rfl) ?_
          refine ⟨l.length - (j + 1), by omega, j + 1, _, popM hs4, by omega, rfl, ?_, hp8.boxed _ _, ?_, ?_, e3, e4, rfl⟩
          · exact Hp.le_put_new (Hp.le_push' (Hp.le_trans hleG4 hle8) _) (by rw [hz8]; exact Nat.le_trans hleG4.1 hle8.1) _
          · have := hboth4.pop (by rw [List.length_drop]; omega)
            rwa [List.drop_drop] at this
          · exact hsl4.mono (Hp.sees.trans hle8.sees (by (repeat (first | assumption | exact Hp.sees.refl _ | refine Hp.sees_put_new ?_ (by (first | assumption | (simp; done) | (simp; omega) | omega)) _ | refine Hp.sees.push ?_ _ | refine Hp.sees.trans ?_ (by assumption) | refine Hp.sees.trans ?_ (Hp.le.sees (by assumption)) | refine Hp.sees.box ?_ (by (repeat (first | assumption | exact Hp.push_new _ _ | exact Hp.put_same _ _ _ | refine (Hp.push_old _ _ (by (first | assumption | (simp; done) | (simp; omega) | omega))).trans ?_ | refine (Hp.put_other _ _ (by (first | assumption | omega | (simp; done) | (simp; omega)))).trans ?_ | refine le_got (by assumption) (by (first | assumption | (simp; done) | (simp; omega) | omega)) (by intro e; cases e) ?_)))))))
    · intro hc2
      (try simp only [decide_eq_true_eq, decide_eq_false_iff_not, Bool.not_eq_true', Bool.not_eq_false'] at hc2)
      refine ac_exit ?_
      refine ac_seq ?_
      refine ac_region (by kernel_rfl) ?_
      first | refine aops_val (av_move_ptr (by first | assumption | rfl)) ?_ | refine aops_val (av_move (by first | assumption | rfl)) ?_
      refine aops_op (aop_call (Pop_heap hp4 hg4 (by omega)) rfl Try.func18 rfl rfl rfl ?_)
      rintro v8 H8 ⟨G8, cs8, hle8, hp8, rfl, hr8⟩; have hleP8 := hp8.le; have hz8 := hp8.size; obtain ⟨w8, rfl, hw8⟩ := hr8; obtain ⟨A8, c8, rfl⟩ := hw8.shape; have hlp := popM_length hs4
      refine aops_val (av_move rfl) ?_
      refine aops_val (av_extract rfl rfl) ?_
      refine aops_val (av_extract rfl rfl) ?_
      refine aops_make (am_zero (l := [.int .i64 0, .slice none 0 0, .int .i64 0, .int .i64 0]) inf24.zero rfl (by decide)) ?_
      first | refine aops_op (aop_putN (vs := [.int .i64 _, .slice _ _ _, .int .i64 _, .int .i64 _]) rfl rfl inf24.size (by (repeat (first | assumption | exact Hp.push_new _ _ | exact Hp.put_same _ _ _ | refine (Hp.push_old _ _ (by (first | assumption | (simp; done) | (simp; omega) | omega))).trans ?_ | refine (Hp.put_other _ _ (by (first | assumption | omega | (simp; done) | (simp; omega)))).trans ?_ | refine le_got (by assumption) (by (first | assumption | (simp; done) | (simp; omega) | omega)) (by intro e; cases e) ?_))) (by (first | (simp; done) | (simp; omega) | omega | (rw [setR_length (by first | (simp; omega) | omega)]; first | (simp; omega) | omega))) rfl rfl ?_) | refine aops_op (aop_putN (vs := [.int .i64 _, _, .int .i64 _, .int .i64 _]) rfl rfl inf24.size (by (repeat (first | assumption | exact Hp.push_new _ _ | exact Hp.put_same _ _ _ | refine (Hp.push_old _ _ (by (first | assumption | (simp; done) | (simp; omega) | omega))).trans ?_ | refine (Hp.put_other _ _ (by (first | assumption | omega | (simp; done) | (simp; omega)))).trans ?_ | refine le_got (by assumption) (by (first | assumption | (simp; done) | (simp; omega) | omega)) (by intro e; cases e) ?_))) (by (first | (simp; done) | (simp; omega) | omega | (rw [setR_length (by first | (simp; omega) | omega)]; first | (simp; omega) | omega))) rfl rfl ?_)
      first | refine aops_val (av_assign_bool rfl) ?_ | refine aops_val (av_assign rfl) ?_
      refine ac_seq ?_
      refine ac_region (by kernel_rfl) ?_
      first | refine aops_val (av_move_bool rfl) ?_ | refine aops_val (av_move rfl) ?_
      refine aops_val (av_not rfl) ?_
      first | refine aops_val (av_move_bool rfl) ?_ | refine aops_val (av_move rfl) ?_
      refine aops_guard rfl rfl rfl ?_ ?_
      · intro hg5
        have hp5 := hg5; try simp only [decide_eq_true_eq, decide_eq_false_iff_not, Bool.not_eq_true', Bool.not_eq_false'] at hp5
        first | refine aops_wval (want_yes rfl rfl rfl hg5) (av_move_ptr (by first | assumption | rfl)) ?_ | refine aops_wval (want_yes rfl rfl rfl hg5) (av_move (by first | assumption | rfl)) ?_
        refine aops_want (want_yes rfl rfl rfl hg5) (aop_call (Len_heap (hp8.boxed _ _)) rfl Try.func19 rfl rfl rfl ?_)
        rintro v9 H9 ⟨rfl, rfl⟩
        refine aops_wval (want_yes rfl rfl rfl hg5) (av_eq rfl rfl) ?_
        refine aops_val (av_pick_bool (congrArg Value.bool hg5) rfl) ?_
        first | refine aops_val (av_move_bool rfl) ?_ | refine aops_val (av_move rfl) ?_
        refine aops_guard rfl rfl rfl ?_ ?_
        · intro hg6
          have hp6 := hg6; try simp only [decide_eq_true_eq, decide_eq_false_iff_not, Bool.not_eq_true', Bool.not_eq_false'] at hp6
          refine aops_want (want_yes rfl rfl rfl hg6) (aop_call ((hp8.boxed _ _).calls (lives_ok _) (fun _ _ h => h.2)) rfl Try.func14 rfl rfl rfl ?_)
          rintro v11 H11 ⟨G11, ⟨rfl, hle11⟩, hp11, hleH11⟩
          refine aops_val (av_pick_bool (congrArg Value.bool hg6) rfl) ?_
          first | refine aops_val (av_assign_bool rfl) ?_ | refine aops_val (av_assign rfl) ?_
          refine ac_ret ?_
          refine ⟨.bool true, aresult1 (ares_tmp rfl), rfl, ?_⟩
          have e1 : H.le G8 := Hp.le_trans (Hp.le_trans (Hp.le_trans (Hp.le_push' hle1 _) hleG2) hleG4) hle8
          exact Hp.le_trans (Hp.le_trans (Hp.le_put_new (Hp.le_push' e1 _) (by have := e1.1; omega) _) hle11) hp11.le
        · intro hg6
          exfalso; have := of_decide_eq_false hg6; omega
      · intro hg5
        exfalso; simp only [Bool.not_eq_false', decide_eq_true_eq] at hg5; omega
end Go.Proofs.Ytinfigghaonceaa.Am
