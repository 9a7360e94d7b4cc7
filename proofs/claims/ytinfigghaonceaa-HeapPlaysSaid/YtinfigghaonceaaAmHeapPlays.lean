/- The statement HeapPlays, as the abstract machine runs it. -/
import Derived.Test.YtinfigghaonceaaAmHeapList
namespace Go.Proofs.Ytinfigghaonceaa.Am
open Go Go.RowKit
set_option linter.unusedVariables false
set_option linter.unusedSimpArgs false

theorem Both.few {hs l : List Item} (h : Both hs l) (k : ∀ x ∈ l, x.nodes.length ≤ 5) : ∀ x ∈ hs, x.nodes.length ≤ 5 := fun x hx => k x (h.perm.mem_iff.1 hx)
theorem few_good {l : List Item} (h : ∀ x ∈ l, x.nodes.length ≤ 5) : Good l := fun x hx => by have := h x hx; omega
theorem few_ins {l : List Item} {x : Item} (h : ∀ x ∈ l, x.nodes.length ≤ 5) (hx : x.nodes.length ≤ 5) : ∀ y ∈ insM l x, y.nodes.length ≤ 5 := fun y hy => by
  rcases List.mem_cons.1 ((insM_perm l x).mem_iff.1 hy) with rfl | hy
  · exact hx
  · exact h y hy
theorem popM_nil : popM [] = [] := List.eq_nil_of_length_eq_zero (by rw [popM_length]; rfl)
theorem sorted_unique {a b : List Item} (h : a.Perm b) (ha : Sorted a) (hb : Sorted b) : a = b := by
  induction a generalizing b with
  | nil => exact (List.perm_nil.1 h.symm).symm
  | cons x a ih =>
    cases b with
    | nil => exact absurd (List.perm_nil.1 h) (by simp)
    | cons y b =>
      have hx : leI x y := by
        rcases List.mem_cons.1 (h.mem_iff.2 List.mem_cons_self) with e | e
        · rw [e]; exact leI.refl _
        · exact List.rel_of_pairwise_cons ha e
      have hy : leI y x := by
        rcases List.mem_cons.1 (h.mem_iff.1 List.mem_cons_self) with e | e
        · rw [e]; exact leI.refl _
        · exact List.rel_of_pairwise_cons hb e
      obtain rfl := leI.antisymm hx hy
      rw [ih (List.perm_cons x |>.1 h) (List.Pairwise.of_cons ha) (List.Pairwise.of_cons hb)]
theorem sameF_head {hs l : List Item} (h : Both hs l) : sameF (hs.getD 0 dItem) (decide (0 < hs.length)) l = true := by
  have hl := h.length
  unfold sameF
  by_cases h0 : l.length = 0
  · have : hs = [] := List.eq_nil_of_length_eq_zero (by omega)
    subst this
    rw [if_pos h0]; rfl
  · rw [if_neg h0, h.head (by omega), cmpItem_self]
    simp; omega
set_option maxHeartbeats 4000000 in
theorem HeapPlays_ok (fs ms : List Item) (ps : List Bool) (v u z : Value) (H : Hp) (hs : Sl kItem H v fs) (hu : Sl kItem H u ms) (hz : Sl kBool H z ps) (hl : fs.length ≤ 9223372036854775807) (hl2 : ms.length ≤ 9223372036854775807) (hl3 : ps.length ≤ 9223372036854775807) (hx : ∀ x ∈ fs, x.nodes.length ≤ 9223372036854775807) (hx2 : ∀ x ∈ ms, x.nodes.length ≤ 9223372036854775807) :
    ACalls Try.prog 5 #[v, u, z] H (fun r H' => r = .bool true ∧ H.le H') := by
  obtain ⟨A, c, rfl⟩ := hs.shape
  obtain ⟨A2, c2, rfl⟩ := hu.shape
  obtain ⟨A3, c3, rfl⟩ := hz.shape
  have hXl : ((fs.take 12).map Item.cut).length ≤ 12 := by simp; omega
  have hXg := good_cut (fs.take 12)
  have hX5 : ∀ x ∈ (fs.take 12).map Item.cut, x.nodes.length ≤ 5 := fun x hx => by
    obtain ⟨y, _, rfl⟩ := List.mem_map.1 hx
    exact cut_len y
  have hYl : ((ms.take 20).map Item.cut).length ≤ 20 := by simp; omega
  have hYc : ∀ x ∈ (ms.take 20).map Item.cut, x.cut = x := fun x hx => by
    obtain ⟨y, _, rfl⟩ := List.mem_map.1 hx
    exact cut_cut y
  have hY5 : ∀ x ∈ (ms.take 20).map Item.cut, x.nodes.length ≤ 5 := fun x hx => by
    obtain ⟨y, _, rfl⟩ := List.mem_map.1 hx
    exact cut_len y
  obtain ⟨X, hX⟩ : ∃ X, X = (fs.take 12).map Item.cut := ⟨_, rfl⟩
  obtain ⟨Y, hY⟩ : ∃ Y, Y = (ms.take 20).map Item.cut := ⟨_, rfl⟩
  rw [← hX] at hXl hXg hX5
  rw [← hY] at hYl hYc hY5
  refine acalls_of_code Try.func5 rfl rfl rfl (by simp) ?_
  refine ac_seq ?_
  refine ac_region (by kernel_rfl) ?_
  first | refine aops_val (av_assign_bool rfl) ?_ | refine aops_val (av_assign rfl) ?_
  refine ac_seq ?_
  refine ac_region (by kernel_rfl) ?_
  first | refine aops_val (av_move_sl rfl) ?_ | refine aops_val (av_move rfl) ?_
  refine aops_op (aop_call (items_items fs _ 12 _ hs hx hl (by omega) (by omega)) rfl Try.func9 rfl rfl rfl ?_)
  rintro vx H1 ⟨G1, hle1, hown1⟩; have hleH1 := Hp.le_trans hle1 hown1.le; rw [show (12 : Int).toNat = 12 from rfl, ← hX] at hown1; have hsx := hown1.sl
  refine aops_op (aop_call (New_items X _ _ hsx hXg (by omega) (fun x hx => by have := hX5 x hx; omega)) rfl Try.func15 rfl rfl rfl ?_)
  rintro vh H2 ⟨G2, hle2, hq2⟩; have hz2 := hq2.size
  first | refine aops_make (am_buildSlice (r := []) Try.underlying25 inf24.size inf24.zero rfl (by decide) (by decide) (by decide) rfl) ?_
  first | refine aops_val (av_assign_ptr rfl) ?_ | refine aops_val (av_assign rfl) ?_
  first | refine aops_val (av_assign_sl rfl) ?_ | refine aops_val (av_assign rfl) ?_
  refine ac_seq ?_
  refine ac_region (by kernel_rfl) ?_
  first | refine aops_val (av_move_sl rfl) ?_ | refine aops_val (av_move rfl) ?_
  refine aops_op (aop_call ((hq2.push (.own 4 [])).calls (items_items fs _ 12 _ (hs.mono (Hp.le_push' (Hp.le_trans hleH1 hle2) _).sees) hx hl (by omega) (by omega)) (fun r G' ⟨G2, a, b⟩ => Hp.le_trans a b.le)) rfl Try.func9 rfl rfl rfl ?_)
  rintro vx2 H3 ⟨G3, ⟨G30, hle3, hown3⟩, hq3, hleH3⟩; rw [show (12 : Int).toNat = 12 from rfl, ← hX] at hown3; have hsx2 := hown3.sl; have hleG3 := Hp.le_trans hle3 hown3.le; have hleHG3 := Hp.le_trans (Hp.le_push' (Hp.le_trans hleH1 hle2) _) hleG3; have hzG3 := hleG3.1; simp only [Hp.push_size] at hzG3
  first | refine aops_val (av_assign_sl rfl) ?_ | refine aops_val (av_assign rfl) ?_
  refine ac_seq ?_
  refine ac_seq ?_
  obtain ⟨AX, cX, rfl⟩ := hsx2.shape
  refine ac_region (by kernel_rfl) ?_
  first | refine aops_val (av_assign_int rfl) ?_ | refine aops_val (av_assign rfl) ?_
  refine ac_block ?_
  refine ac_loop (fun n t H' => ∃ (i : Nat) (G : Hp) (l : List Item) (B : Option Addr) (c5 : Nat), i ≤ X.length ∧ n = X.length - i ∧ G3.le G ∧ HeapP G H' vh (newM X) ∧ Sorted l ∧ l.Perm (X.take i) ∧ Sl kItem G (.slice B l.length c5) l ∧ t 1 = .slice A2 ms.length c2 ∧ t 2 = .slice A3 ps.length c3 ∧ t 7 = vh ∧ t 8 = .slice B l.length c5 ∧ t 9 = .slice AX X.length cX ∧ t 10 = .int .i64 i) (X.length) (⟨0, G3, [], _, _, Nat.zero_le _, rfl, Hp.le_refl _, hq3, List.Pairwise.nil, .refl _, sl_lit (st := 4) (by omega) (le_got hleG3 (by simp; omega) (by intro e; cases e) (by rw [hz2]; exact Hp.push_new _ _)) rfl, rfl, rfl, rfl, rfl, rfl, rfl⟩) ?_
  rintro n t H4 ⟨i, G, l, B, c5, hi, rfl, hleG, hq4, hsrt, hperm, hsl, e1, e2, e7, e8, e9, e10⟩
  have hll := hperm.length_eq
  rw [List.length_take] at hll
  have hl5 : ∀ x ∈ l, x.nodes.length ≤ 5 := fun x hx => hX5 x (List.mem_of_mem_take (hperm.mem_iff.1 hx))
  refine ac_seq ?_
  refine ac_seq ?_
  refine ac_region (by kernel_rfl) ?_
  first | refine aops_val (av_move_int (by first | assumption | rfl)) ?_ | refine aops_val (av_move (by first | assumption | rfl)) ?_
  first | refine aops_val (av_move_sl (by first | assumption | rfl)) ?_ | refine aops_val (av_move (by first | assumption | rfl)) ?_
  refine aops_val (av_len rfl Try.underlying25) ?_
  refine aops_val (av_lt rfl rfl) ?_
  refine ac_split rfl rfl ?_ ?_
  · intro hc1
    (try simp only [decide_eq_true_eq, decide_eq_false_iff_not, Bool.not_eq_true', Bool.not_eq_false'] at hc1)
    refine ac_skip ?_
    refine ac_seq ?_
    refine ac_block ?_
    refine ac_region (by kernel_rfl) ?_
    first | refine aops_val (av_move_sl (by first | assumption | rfl)) ?_ | refine aops_val (av_move (by first | assumption | rfl)) ?_
    first | refine aops_val (av_move_sl (by first | assumption | rfl)) ?_ | refine aops_val (av_move (by first | assumption | rfl)) ?_
    first | refine aops_val (av_move_int (by first | assumption | rfl)) ?_ | refine aops_val (av_move (by first | assumption | rfl)) ?_
    have hix : i < X.length := by omega
    obtain ⟨b, o, cs, rfl, hb, ⟨w1, rfl, hw1⟩, hcell0⟩ := (hsx2.mono hleG.sees).elem_at hix
    obtain ⟨A6, c6, rfl⟩ := hw1.shape
    have hcells := hq4.le.cells hb hcell0
    have hx5 := hX5 _ (List.getElem_mem hix)
    refine aops_val (av_indexAddr rfl rfl Try.underlying25 inf24.size (by (first | assumption | omega | (simp only [Int.toNat_natCast] at *; omega))) (by (first | assumption | omega | (simp only [Int.toNat_natCast] at *; omega)))) ?_
    first | refine aops_val (av_loadN (cs := [.int .i64 _, .slice _ _ _, .int .i64 _, .int .i64 _]) rfl Try.underlying24 rfl inf24.size (by (first | assumption | exact cells_get (by (repeat (first | assumption | exact Hp.push_new _ _ | exact Hp.put_same _ _ _ | refine (Hp.push_old _ _ (by (first | assumption | (simp; done) | (simp; omega) | omega))).trans ?_ | refine (Hp.put_other _ _ (by (first | assumption | omega | (simp; done) | (simp; omega)))).trans ?_ | refine le_got (by assumption) (by (first | assumption | (simp; done) | (simp; omega) | omega)) (by intro e; cases e) ?_))) rfl | exact Cells.le (by assumption) (by (repeat (first | assumption | exact Hp.le_refl _ | refine Hp.le_put_new ?_ (by (first | assumption | (simp; done) | (simp; omega) | omega)) _ | refine Hp.le_push' ?_ _ | refine Hp.le_trans ?_ (by assumption)))) (by (first | assumption | (simp; done) | (simp; omega) | omega))))) ?_ | refine aops_val (av_loadN (cs := [.int .i64 _, _, .int .i64 _, .int .i64 _]) rfl Try.underlying24 rfl inf24.size (by (first | assumption | exact cells_get (by (repeat (first | assumption | exact Hp.push_new _ _ | exact Hp.put_same _ _ _ | refine (Hp.push_old _ _ (by (first | assumption | (simp; done) | (simp; omega) | omega))).trans ?_ | refine (Hp.put_other _ _ (by (first | assumption | omega | (simp; done) | (simp; omega)))).trans ?_ | refine le_got (by assumption) (by (first | assumption | (simp; done) | (simp; omega) | omega)) (by intro e; cases e) ?_))) rfl | exact Cells.le (by assumption) (by (repeat (first | assumption | exact Hp.le_refl _ | refine Hp.le_put_new ?_ (by (first | assumption | (simp; done) | (simp; omega) | omega)) _ | refine Hp.le_push' ?_ _ | refine Hp.le_trans ?_ (by assumption)))) (by (first | assumption | (simp; done) | (simp; omega) | omega))))) ?_
    refine aops_op (aop_call (hq4.calls (refPush_items l X[i] _ _ _ hsl ⟨_, rfl, hw1⟩ (few_good hl5) (by omega) (by omega)) (fun _ _ h => h.1)) rfl Try.func17 rfl rfl rfl ?_)
    rintro v7 H7 ⟨G7, ⟨hle7, hs7⟩, hq7, hleH7⟩; obtain ⟨B7, c7, rfl⟩ := hs7.shape
    first | refine aops_val (av_assign_sl rfl) ?_ | refine aops_val (av_assign rfl) ?_
    refine ac_region (by kernel_rfl) ?_
    first | refine aops_val (av_move_int (by first | assumption | rfl)) ?_ | refine aops_val (av_move (by first | assumption | rfl)) ?_
    first | refine aops_val (av_add64 rfl rfl (by (first | assumption | omega | (simp; omega)))) ?_ | refine aops_val (av_add rfl rfl) ?_
    first | refine aops_val (av_assign_int rfl) ?_ | refine aops_val (av_assign rfl) ?_
    exact ⟨X.length - (i + 1), by omega, i + 1, G7, _, B7, c7, by omega, rfl, Hp.le_trans hleG hle7, hq7, insM_sorted _ hsrt, (insM_perm _ _).trans (by rw [← take_next hix]; exact (List.Perm.cons _ hperm).trans (List.perm_append_comm (l₁ := [X[i]]))), hs7, e1, e2, e7, rfl, e9, rfl⟩
  · intro hc1
    (try simp only [decide_eq_true_eq, decide_eq_false_iff_not, Bool.not_eq_true', Bool.not_eq_false'] at hc1)
    refine ac_exit ?_
    refine ac_seq ?_
    have hB : Both (newM X) l := ⟨newM_heap X, hsrt, (newM_perm X).trans (by have : X.take i = X := List.take_of_length_le (by omega); rw [this] at hperm; exact hperm.symm)⟩
    have hleHG := Hp.le_trans hleHG3 hleG
    refine ac_region (by kernel_rfl) ?_
    first | refine aops_val (av_move_sl (by first | assumption | rfl)) ?_ | refine aops_val (av_move (by first | assumption | rfl)) ?_
    refine aops_op (aop_call (hq4.calls (items_items ms _ 20 _ (hu.mono hleHG.sees) hx2 hl2 (by omega) (by omega)) (fun r G' ⟨G2, a, b⟩ => Hp.le_trans a b.le)) rfl Try.func9 rfl rfl rfl ?_)
    rintro vy H5 ⟨G5, ⟨G50, hle5, hown5⟩, hq5, hleH5⟩; rw [show (20 : Int).toNat = 20 from rfl, ← hY] at hown5; have hsy := hown5.sl; have hleG5 := Hp.le_trans hle5 hown5.le; have hleHG5 := Hp.le_trans hleHG hleG5
    first | refine aops_val (av_assign_sl rfl) ?_ | refine aops_val (av_assign rfl) ?_
    refine ac_seq ?_
    refine ac_seq ?_
    obtain ⟨AY, cY, rfl⟩ := hsy.shape
    refine ac_region (by kernel_rfl) ?_
    first | refine aops_val (av_assign_int rfl) ?_ | refine aops_val (av_assign rfl) ?_
    refine ac_block ?_
    refine ac_loop (fun n t H' => ∃ (i : Nat) (G : Hp) (hs l : List Item) (B : Option Addr) (c5 : Nat), i ≤ ps.length ∧ n = ps.length - i ∧ i ≤ 40 ∧ G5.le G ∧ HeapP G H' vh hs ∧ Both hs l ∧ (∀ x ∈ l, x.nodes.length ≤ 5) ∧ l.length ≤ 12 + i ∧ Sl kItem G (.slice B l.length c5) l ∧ t 2 = .slice A3 ps.length c3 ∧ t 7 = vh ∧ t 8 = .slice B l.length c5 ∧ t 11 = .slice AY Y.length cY ∧ t 12 = .int .i64 i) (ps.length) (⟨0, G5, newM X, l, B, c5, Nat.zero_le _, rfl, by omega, Hp.le_refl _, hq5, hB, hl5, by omega, hsl.mono hleG5.sees, e2, e7, e8, rfl, rfl⟩) ?_
    rintro n t H6 ⟨k, G6, hs6, l6, B6, c6, hk, rfl, hk40, hleG6, hq6, hB6, hl6, hn6, hsl6, e2, e7, e8, e11, e12⟩
    have hlen6 := hB6.length
    have hh5 := hB6.few hl6
    refine ac_seq ?_
    refine ac_seq ?_
    refine ac_region (by kernel_rfl) ?_
    first | refine aops_val (av_move_int (by first | assumption | rfl)) ?_ | refine aops_val (av_move (by first | assumption | rfl)) ?_
    first | refine aops_val (av_move_sl (by first | assumption | rfl)) ?_ | refine aops_val (av_move (by first | assumption | rfl)) ?_
    refine aops_val (av_len rfl Try.underlying40) ?_
    refine aops_val (av_lt rfl rfl) ?_
    first | refine aops_val (av_move_bool rfl) ?_ | refine aops_val (av_move rfl) ?_
    refine aops_guard rfl rfl rfl ?_ ?_
    · intro hg2
      have hp2 := hg2; try simp only [decide_eq_true_eq, decide_eq_false_iff_not, Bool.not_eq_true', Bool.not_eq_false'] at hp2
      first | refine aops_wval (want_yes rfl rfl rfl hg2) (av_move_int (by first | assumption | rfl)) ?_ | refine aops_wval (want_yes rfl rfl rfl hg2) (av_move (by first | assumption | rfl)) ?_
      refine aops_wval (want_yes rfl rfl rfl hg2) (av_lt rfl rfl) ?_
      refine aops_val (av_pick_bool (congrArg Value.bool hg2) rfl) ?_
      refine ac_split rfl rfl ?_ ?_
      · intro hc3
        (try simp only [decide_eq_true_eq, decide_eq_false_iff_not, Bool.not_eq_true', Bool.not_eq_false'] at hc3)
        refine ac_skip ?_
        refine ac_seq ?_
        refine ac_block ?_
        refine ac_seq ?_
        refine ac_seq ?_
        refine ac_region (by kernel_rfl) ?_
        first | refine aops_val (av_move_sl (by first | assumption | rfl)) ?_ | refine aops_val (av_move (by first | assumption | rfl)) ?_
        first | refine aops_val (av_move_int (by first | assumption | rfl)) ?_ | refine aops_val (av_move (by first | assumption | rfl)) ?_
        have hip : k < ps.length := by omega
        obtain ⟨b, o, cs, rfl, hb, hcs, hcell0⟩ := (hz.mono (Hp.le_trans hleHG5 hleG6).sees).elem_at hip
        have hcs' : cs = [.bool ps[k]] := hcs
        subst hcs'
        have hcell1 := (hq6.le.cells hb hcell0).one
        refine aops_val (av_indexAddr rfl rfl Try.underlying40 inf4.size (by (first | assumption | omega | (simp only [Int.toNat_natCast] at *; omega))) (by (first | assumption | omega | (simp only [Int.toNat_natCast] at *; omega)))) ?_
        refine aops_val (av_load1 rfl Try.underlying4 rfl (by (first | assumption | exact (cell_own (by (repeat (first | assumption | exact Hp.push_new _ _ | exact Hp.put_same _ _ _ | refine (Hp.push_old _ _ (by (first | assumption | (simp; done) | (simp; omega) | omega))).trans ?_ | refine (Hp.put_other _ _ (by (first | assumption | omega | (simp; done) | (simp; omega)))).trans ?_ | refine le_got (by assumption) (by (first | assumption | (simp; done) | (simp; omega) | omega)) (by intro e; cases e) ?_)))).trans rfl | exact Hp.cell_le (by assumption) (by (repeat (first | assumption | exact Hp.le_refl _ | refine Hp.le_put_new ?_ (by (first | assumption | (simp; done) | (simp; omega) | omega)) _ | refine Hp.le_push' ?_ _ | refine Hp.le_trans ?_ (by assumption)))) (by (first | assumption | (simp; done) | (simp; omega) | omega))))) ?_
        first | refine aops_val (av_move_bool rfl) ?_ | refine aops_val (av_move rfl) ?_
        refine aops_guard rfl rfl rfl ?_ ?_
        · intro hg4
          have hp4 := hg4; try simp only [decide_eq_true_eq, decide_eq_false_iff_not, Bool.not_eq_true', Bool.not_eq_false'] at hp4
          refine aops_skip (want_no rfl rfl rfl hg4 rfl) ?_
          refine aops_skip (want_no rfl rfl rfl hg4 rfl) ?_
          refine aops_skip (want_no rfl rfl rfl hg4 rfl) ?_
          refine aops_skip (want_no rfl rfl rfl hg4 rfl) ?_
          refine aops_val (av_pick_bool (congrArg Value.bool hg4) (by first | assumption | rfl)) ?_
          refine ac_cond_true rfl rfl ?_
          refine ac_seq ?_
          refine ac_region (by kernel_rfl) ?_
          first | refine aops_val (av_move_ptr (by first | assumption | rfl)) ?_ | refine aops_val (av_move (by first | assumption | rfl)) ?_
          refine aops_op (aop_call (Pop_heap hq6 (few_good hh5) (by omega)) rfl Try.func18 rfl rfl rfl ?_)
          rintro v8 H8 ⟨G8, cs8, hle8, hq8, rfl, hr8⟩; have hz8 := hq8.size; obtain ⟨w8, rfl, hw8⟩ := hr8; obtain ⟨A8, c8, rfl⟩ := hw8.shape
          refine aops_val (av_move rfl) ?_
          refine aops_val (av_extract rfl rfl) ?_
          refine aops_val (av_extract rfl rfl) ?_
          refine aops_make (am_zero (l := [.int .i64 0, .slice none 0 0, .int .i64 0, .int .i64 0]) inf24.zero rfl (by decide)) ?_
          first | refine aops_op (aop_putN (vs := [.int .i64 _, .slice _ _ _, .int .i64 _, .int .i64 _]) rfl rfl inf24.size (by (repeat (first | assumption | exact Hp.push_new _ _ | exact Hp.put_same _ _ _ | refine (Hp.push_old _ _ (by (first | assumption | (simp; done) | (simp; omega) | omega))).trans ?_ | refine (Hp.put_other _ _ (by (first | assumption | omega | (simp; done) | (simp; omega)))).trans ?_ | refine le_got (by assumption) (by (first | assumption | (simp; done) | (simp; omega) | omega)) (by intro e; cases e) ?_))) (by (first | (simp; done) | (simp; omega) | omega | (rw [setR_length (by first | (simp; omega) | omega)]; first | (simp; omega) | omega))) rfl rfl ?_) | refine aops_op (aop_putN (vs := [.int .i64 _, _, .int .i64 _, .int .i64 _]) rfl rfl inf24.size (by (repeat (first | assumption | exact Hp.push_new _ _ | exact Hp.put_same _ _ _ | refine (Hp.push_old _ _ (by (first | assumption | (simp; done) | (simp; omega) | omega))).trans ?_ | refine (Hp.put_other _ _ (by (first | assumption | omega | (simp; done) | (simp; omega)))).trans ?_ | refine le_got (by assumption) (by (first | assumption | (simp; done) | (simp; omega) | omega)) (by intro e; cases e) ?_))) (by (first | (simp; done) | (simp; omega) | omega | (rw [setR_length (by first | (simp; omega) | omega)]; first | (simp; omega) | omega))) rfl rfl ?_)
          first | refine aops_val (av_assign_bool rfl) ?_ | refine aops_val (av_assign rfl) ?_
          refine ac_seq ?_
          refine ac_seq ?_
          have hq9 := hq8.boxed [.int .i64 0, .slice none 0 0, .int .i64 0, .int .i64 0] [.int .i64 (hs6.getD 0 dItem).cost, .slice A8 (hs6.getD 0 dItem).nodes.length c8, .int .i64 (hs6.getD 0 dItem).place, .int .i64 (hs6.getD 0 dItem).rank]
          have hleG68 : G6.le _ := Hp.le_put_new (b := H8.size) (Hp.le_push' hle8 (.own 0 [.int .i64 0, .slice none 0 0, .int .i64 0, .int .i64 0])) (by rw [hz8]; exact hle8.1) (.own 0 [.int .i64 (hs6.getD 0 dItem).cost, .slice A8 (hs6.getD 0 dItem).nodes.length c8, .int .i64 (hs6.getD 0 dItem).place, .int .i64 (hs6.getD 0 dItem).rank])
          have hleG8 : G8.le _ := Hp.le_put_new (b := H8.size) (G8.le_push (.own 0 [.int .i64 0, .slice none 0 0, .int .i64 0, .int .i64 0])) (by rw [hz8]; exact Nat.le_refl _) (.own 0 [.int .i64 (hs6.getD 0 dItem).cost, .slice A8 (hs6.getD 0 dItem).nodes.length c8, .int .i64 (hs6.getD 0 dItem).place, .int .i64 (hs6.getD 0 dItem).rank])
          have hle9 := Hp.le_trans hleG6 hleG68
          have hg8 : (hs6.getD 0 dItem).nodes.length ≤ 5 := by
            by_cases h0 : 0 < hs6.length
            · rw [getD_item h0]; exact hh5 _ (List.getElem_mem h0)
            · rw [List.eq_nil_of_length_eq_zero (by omega : hs6.length = 0)]; exact Nat.zero_le _
          obtain ⟨hs9, hhs9⟩ : ∃ z, z = popM hs6 := ⟨_, rfl⟩
          rw [← hhs9] at hq9
          refine ac_region (by kernel_rfl) ?_
          first | refine aops_val (av_loadN (cs := [.int .i64 _, .slice _ _ _, .int .i64 _, .int .i64 _]) rfl Try.underlying24 rfl inf24.size (by (first | assumption | exact cells_get (by (repeat (first | assumption | exact Hp.push_new _ _ | exact Hp.put_same _ _ _ | refine (Hp.push_old _ _ (by (first | assumption | (simp; done) | (simp; omega) | omega))).trans ?_ | refine (Hp.put_other _ _ (by (first | assumption | omega | (simp; done) | (simp; omega)))).trans ?_ | refine le_got (by assumption) (by (first | assumption | (simp; done) | (simp; omega) | omega)) (by intro e; cases e) ?_))) rfl | exact Cells.le (by assumption) (by (repeat (first | assumption | exact Hp.le_refl _ | refine Hp.le_put_new ?_ (by (first | assumption | (simp; done) | (simp; omega) | omega)) _ | refine Hp.le_push' ?_ _ | refine Hp.le_trans ?_ (by assumption)))) (by (first | assumption | (simp; done) | (simp; omega) | omega))))) ?_ | refine aops_val (av_loadN (cs := [.int .i64 _, _, .int .i64 _, .int .i64 _]) rfl Try.underlying24 rfl inf24.size (by (first | assumption | exact cells_get (by (repeat (first | assumption | exact Hp.push_new _ _ | exact Hp.put_same _ _ _ | refine (Hp.push_old _ _ (by (first | assumption | (simp; done) | (simp; omega) | omega))).trans ?_ | refine (Hp.put_other _ _ (by (first | assumption | omega | (simp; done) | (simp; omega)))).trans ?_ | refine le_got (by assumption) (by (first | assumption | (simp; done) | (simp; omega) | omega)) (by intro e; cases e) ?_))) rfl | exact Cells.le (by assumption) (by (repeat (first | assumption | exact Hp.le_refl _ | refine Hp.le_put_new ?_ (by (first | assumption | (simp; done) | (simp; omega) | omega)) _ | refine Hp.le_push' ?_ _ | refine Hp.le_trans ?_ (by assumption)))) (by (first | assumption | (simp; done) | (simp; omega) | omega))))) ?_
          first | refine aops_val (av_move_bool rfl) ?_ | refine aops_val (av_move rfl) ?_
          first | refine aops_val (av_move_sl (by first | assumption | rfl)) ?_ | refine aops_val (av_move (by first | assumption | rfl)) ?_
          refine aops_op (aop_call (same_item (hs6.getD 0 dItem) _ _ (decide (0 < hs6.length)) l6 _ ⟨_, rfl, hw8.mono (Hp.le_trans hleG8 hq9.le).sees⟩ (hsl6.mono (Hp.le_trans hleG68 hq9.le).sees) (by omega) (few_good hl6) (by omega)) rfl Try.func20 rfl rfl rfl ?_)
          rintro v H ⟨rfl, rfl⟩
          refine aops_val (av_not rfl) ?_
          refine ac_split rfl rfl ?_ ?_
          · intro hc6
            exact absurd (sameF_head hB6) (by simpa using hc6)
          · intro hc6
            (try simp only [decide_eq_true_eq, decide_eq_false_iff_not, Bool.not_eq_true', Bool.not_eq_false'] at hc6)
            refine ac_skip ?_
            refine ac_seq ?_
            refine ac_region (by kernel_rfl) ?_
            first | refine aops_val (av_move_bool rfl) ?_ | refine aops_val (av_move rfl) ?_
            refine ac_split rfl rfl ?_ ?_
            · intro hc7
              have hpos : 0 < l6.length := by have := of_decide_eq_true hc7; omega
              have hB9 := hB6.pop hpos
              obtain ⟨l9, hl9e⟩ : ∃ z, z = l6.drop 1 := ⟨_, rfl⟩
              have hl9 : ∀ x ∈ l9, x.nodes.length ≤ 5 := fun x hx => hl6 x (List.mem_of_mem_drop (hl9e ▸ hx))
              have hn9 : l9.length ≤ 13 + k := by rw [hl9e, List.length_drop]; omega
              rw [← hl9e, ← hhs9] at hB9
              refine ac_region (by kernel_rfl) ?_
              first | refine aops_val (av_move_sl (by first | assumption | rfl)) ?_ | refine aops_val (av_move (by first | assumption | rfl)) ?_
              obtain ⟨A9, c9, S9, hsl9a, hS9, hop9⟩ := hsl6.drops (i := 1) hpos
              have e1 : l6.length - 1 = l9.length := by rw [hl9e, List.length_drop]
              rw [e1] at hop9
              rw [e1, ← hl9e] at hsl9a
              have hsl9 := hsl9a.mono hleG68.sees
              refine aops_val (hop9 _ _ _ _ _ _ _ _ _ _ _ _ _ (Hp.le_trans hleG68 hq9.le) (by first | rfl | assumption) Try.underlying25 inf24.size (by first | rfl | assumption)) ?_
              first | refine aops_val (av_assign_sl rfl) ?_ | refine aops_val (av_assign rfl) ?_
              refine ac_seq ?_
              have hlen9 := hB9.length
              have hh9 := hB9.few hl9
              refine ac_region (by kernel_rfl) ?_
              first | refine aops_val (av_move_ptr (by first | assumption | rfl)) ?_ | refine aops_val (av_move (by first | assumption | rfl)) ?_
              refine aops_op (aop_call (Peek_heap hq9 (fun x hx => by have := hh9 x hx; omega)) rfl Try.func21 rfl rfl rfl ?_)
              rintro v10 H10 ⟨G10, cs10, hle10, hq10, rfl, hr10⟩; have hz10 := hq10.size; obtain ⟨w10, rfl, hw10⟩ := hr10; obtain ⟨A10, c10, rfl⟩ := hw10.shape
              refine aops_val (av_move rfl) ?_
              refine aops_val (av_extract rfl rfl) ?_
              refine aops_val (av_extract rfl rfl) ?_
              refine aops_make (am_zero (l := [.int .i64 0, .slice none 0 0, .int .i64 0, .int .i64 0]) inf24.zero rfl (by decide)) ?_
              first | refine aops_op (aop_putN (vs := [.int .i64 _, .slice _ _ _, .int .i64 _, .int .i64 _]) rfl rfl inf24.size (by (repeat (first | assumption | exact Hp.push_new _ _ | exact Hp.put_same _ _ _ | refine (Hp.push_old _ _ (by (first | assumption | (simp; done) | (simp; omega) | omega))).trans ?_ | refine (Hp.put_other _ _ (by (first | assumption | omega | (simp; done) | (simp; omega)))).trans ?_ | refine le_got (by assumption) (by (first | assumption | (simp; done) | (simp; omega) | omega)) (by intro e; cases e) ?_))) (by (first | (simp; done) | (simp; omega) | omega | (rw [setR_length (by first | (simp; omega) | omega)]; first | (simp; omega) | omega))) rfl rfl ?_) | refine aops_op (aop_putN (vs := [.int .i64 _, _, .int .i64 _, .int .i64 _]) rfl rfl inf24.size (by (repeat (first | assumption | exact Hp.push_new _ _ | exact Hp.put_same _ _ _ | refine (Hp.push_old _ _ (by (first | assumption | (simp; done) | (simp; omega) | omega))).trans ?_ | refine (Hp.put_other _ _ (by (first | assumption | omega | (simp; done) | (simp; omega)))).trans ?_ | refine le_got (by assumption) (by (first | assumption | (simp; done) | (simp; omega) | omega)) (by intro e; cases e) ?_))) (by (first | (simp; done) | (simp; omega) | omega | (rw [setR_length (by first | (simp; omega) | omega)]; first | (simp; omega) | omega))) rfl rfl ?_)
              first | refine aops_val (av_assign_bool rfl) ?_ | refine aops_val (av_assign rfl) ?_
              refine ac_seq ?_
              have hq11 := hq10.boxed [.int .i64 0, .slice none 0 0, .int .i64 0, .int .i64 0] [.int .i64 (hs9.getD 0 dItem).cost, .slice A10 (hs9.getD 0 dItem).nodes.length c10, .int .i64 (hs9.getD 0 dItem).place, .int .i64 (hs9.getD 0 dItem).rank]
              have hle11 : G10.le _ := Hp.le_put_new (b := H10.size) (G10.le_push (.own 0 [.int .i64 0, .slice none 0 0, .int .i64 0, .int .i64 0])) (by rw [hz10]; exact Nat.le_refl _) (.own 0 [.int .i64 (hs9.getD 0 dItem).cost, .slice A10 (hs9.getD 0 dItem).nodes.length c10, .int .i64 (hs9.getD 0 dItem).place, .int .i64 (hs9.getD 0 dItem).rank])
              have hg10 : (hs9.getD 0 dItem).nodes.length ≤ 5 := by
                by_cases h0 : 0 < hs9.length
                · rw [getD_item h0]; exact hh9 _ (List.getElem_mem h0)
                · rw [List.eq_nil_of_length_eq_zero (by omega : hs9.length = 0)]; exact Nat.zero_le _
              refine ac_region (by kernel_rfl) ?_
              first | refine aops_val (av_loadN (cs := [.int .i64 _, .slice _ _ _, .int .i64 _, .int .i64 _]) rfl Try.underlying24 rfl inf24.size (by (first | assumption | exact cells_get (by (repeat (first | assumption | exact Hp.push_new _ _ | exact Hp.put_same _ _ _ | refine (Hp.push_old _ _ (by (first | assumption | (simp; done) | (simp; omega) | omega))).trans ?_ | refine (Hp.put_other _ _ (by (first | assumption | omega | (simp; done) | (simp; omega)))).trans ?_ | refine le_got (by assumption) (by (first | assumption | (simp; done) | (simp; omega) | omega)) (by intro e; cases e) ?_))) rfl | exact Cells.le (by assumption) (by (repeat (first | assumption | exact Hp.le_refl _ | refine Hp.le_put_new ?_ (by (first | assumption | (simp; done) | (simp; omega) | omega)) _ | refine Hp.le_push' ?_ _ | refine Hp.le_trans ?_ (by assumption)))) (by (first | assumption | (simp; done) | (simp; omega) | omega))))) ?_ | refine aops_val (av_loadN (cs := [.int .i64 _, _, .int .i64 _, .int .i64 _]) rfl Try.underlying24 rfl inf24.size (by (first | assumption | exact cells_get (by (repeat (first | assumption | exact Hp.push_new _ _ | exact Hp.put_same _ _ _ | refine (Hp.push_old _ _ (by (first | assumption | (simp; done) | (simp; omega) | omega))).trans ?_ | refine (Hp.put_other _ _ (by (first | assumption | omega | (simp; done) | (simp; omega)))).trans ?_ | refine le_got (by assumption) (by (first | assumption | (simp; done) | (simp; omega) | omega)) (by intro e; cases e) ?_))) rfl | exact Cells.le (by assumption) (by (repeat (first | assumption | exact Hp.le_refl _ | refine Hp.le_put_new ?_ (by (first | assumption | (simp; done) | (simp; omega) | omega)) _ | refine Hp.le_push' ?_ _ | refine Hp.le_trans ?_ (by assumption)))) (by (first | assumption | (simp; done) | (simp; omega) | omega))))) ?_
              first | refine aops_val (av_move_bool rfl) ?_ | refine aops_val (av_move rfl) ?_
              first | refine aops_val (av_move_sl rfl) ?_ | refine aops_val (av_move rfl) ?_
              refine aops_op (aop_call (same_item (hs9.getD 0 dItem) _ _ (decide (0 < hs9.length)) l9 _ ⟨_, rfl, hw10.mono (Hp.le_trans hle11 hq11.le).sees⟩ (hsl9.mono (Hp.le_trans (Hp.le_trans hle10 hle11) hq11.le).sees) (by omega) (few_good hl9) (by omega)) rfl Try.func20 rfl rfl rfl ?_)
              rintro v H ⟨rfl, rfl⟩
              refine aops_val (av_not rfl) ?_
              first | refine aops_val (av_move_bool rfl) ?_ | refine aops_val (av_move rfl) ?_
              refine aops_guard rfl rfl rfl ?_ ?_
              · intro hg8
                exact absurd (sameF_head hB9) (by simpa using hg8)
              · intro hg8
                have hp8 := hg8; try simp only [decide_eq_true_eq, decide_eq_false_iff_not, Bool.not_eq_true', Bool.not_eq_false'] at hp8
                first | refine aops_wval (want_yes rfl rfl rfl hg8) (av_move_ptr (by first | assumption | rfl)) ?_ | refine aops_wval (want_yes rfl rfl rfl hg8) (av_move (by first | assumption | rfl)) ?_
                refine aops_want (want_yes rfl rfl rfl hg8) (aop_call (Len_heap hq11) rfl Try.func19 rfl rfl rfl ?_)
                rintro v11 _ ⟨rfl, rfl⟩
                first | refine aops_wval (want_yes rfl rfl rfl hg8) (av_move_sl rfl) ?_ | refine aops_wval (want_yes rfl rfl rfl hg8) (av_move rfl) ?_
                refine aops_wval (want_yes rfl rfl rfl hg8) (av_len rfl Try.underlying25) ?_
                refine aops_wval (want_yes rfl rfl rfl hg8) (av_ne rfl rfl) ?_
                refine aops_val (av_pick_bool (congrArg Value.bool hg8) rfl) ?_
                first | refine aops_val (av_move_bool rfl) ?_ | refine aops_val (av_move rfl) ?_
                refine aops_guard rfl rfl rfl ?_ ?_
                · intro hg9
                  exact absurd (of_decide_eq_true hg9) (by simp [hlen9])
                · intro hg9
                  have hp9 := hg9; try simp only [decide_eq_true_eq, decide_eq_false_iff_not, Bool.not_eq_true', Bool.not_eq_false'] at hp9
                  first | refine aops_wval (want_yes rfl rfl rfl hg9) (av_move_ptr (by first | assumption | rfl)) ?_ | refine aops_wval (want_yes rfl rfl rfl hg9) (av_move (by first | assumption | rfl)) ?_
                  refine aops_want (want_yes rfl rfl rfl hg9) (aop_call (List_heap hq11 (few_good hh9) (by omega) (fun x hx => by have := hh9 x hx; omega)) rfl Try.func22 rfl rfl rfl ?_)
                  rintro v12 H12 ⟨hle12, ys, hpy, hsy12, hsl12⟩
                  first | refine aops_wval (want_yes rfl rfl rfl hg9) (av_move_sl rfl) ?_ | refine aops_wval (want_yes rfl rfl rfl hg9) (av_move rfl) ?_
                  refine aops_want (want_yes rfl rfl rfl hg9) (aop_call (refSame_items ys l9 _ _ _ hsl12 (hsl9.mono (Hp.le_trans (Hp.le_trans (Hp.le_trans hle10 hle11) hq11.le) hle12).sees) (fun x hx => few_good hh9 x (hpy.mem_iff.1 hx)) (few_good hl9) (by have := hpy.length_eq; omega)) rfl Try.func13 rfl rfl rfl ?_)
                  rintro v H ⟨rfl, rfl⟩
                  refine aops_wval (want_yes rfl rfl rfl hg9) (av_not rfl) ?_
                  refine aops_val (av_pick_bool (congrArg Value.bool hg9) rfl) ?_
                  refine ac_split rfl rfl ?_ ?_
                  · intro hc10
                    exact absurd (sameL_self l9) (by have := sorted_unique (hpy.trans hB9.perm) hsy12 hB9.sorted; subst this; simpa using hc10)
                  · intro hc10
                    (try simp only [decide_eq_true_eq, decide_eq_false_iff_not, Bool.not_eq_true', Bool.not_eq_false'] at hc10)
                    refine ac_skip ?_
                    refine ac_region (by kernel_rfl) ?_
                    first | refine aops_val (av_move_int (by first | assumption | rfl)) ?_ | refine aops_val (av_move (by first | assumption | rfl)) ?_
                    first | refine aops_val (av_add64 rfl rfl (by (first | assumption | omega | (simp; omega)))) ?_ | refine aops_val (av_add rfl rfl) ?_
                    first | refine aops_val (av_assign_int rfl) ?_ | refine aops_val (av_assign rfl) ?_
                    obtain ⟨G13, hle13, hq13⟩ := hq11.grown hle12
                    have hle913 := Hp.le_trans (Hp.le_trans hle10 hle11) hle13
                    exact ⟨ps.length - (k + 1), by omega, k + 1, G13, hs9, l9, _, _, by omega, rfl, by omega, Hp.le_trans hle9 hle913, hq13, hB9, hl9, by omega, hsl9.mono hle913.sees, e2, e7, by first | rfl | exact e8, e11, rfl⟩
            · intro hc7
              have hpos : ¬ 0 < hs6.length := of_decide_eq_false hc7
              obtain ⟨l9, hl9e⟩ : ∃ z, z = l6 := ⟨_, rfl⟩
              have h60 : hs6 = [] := List.eq_nil_of_length_eq_zero (by omega)
              have hB9 : Both hs9 l9 := by rw [hhs9, hl9e]; rw [h60] at hB6 ⊢; rw [popM_nil]; exact hB6
              rw [← hl9e] at hsl6 hl6 hn6 e8
              have hl9 := hl6
              have hn9 : l9.length ≤ 13 + k := by omega
              have hsl9 := hsl6.mono hleG68.sees
              refine ac_skip ?_
              refine ac_seq ?_
              have hlen9 := hB9.length
              have hh9 := hB9.few hl9
              refine ac_region (by kernel_rfl) ?_
              first | refine aops_val (av_move_ptr (by first | assumption | rfl)) ?_ | refine aops_val (av_move (by first | assumption | rfl)) ?_
              refine aops_op (aop_call (Peek_heap hq9 (fun x hx => by have := hh9 x hx; omega)) rfl Try.func21 rfl rfl rfl ?_)
              rintro v10 H10 ⟨G10, cs10, hle10, hq10, rfl, hr10⟩; have hz10 := hq10.size; obtain ⟨w10, rfl, hw10⟩ := hr10; obtain ⟨A10, c10, rfl⟩ := hw10.shape
              refine aops_val (av_move rfl) ?_
              refine aops_val (av_extract rfl rfl) ?_
              refine aops_val (av_extract rfl rfl) ?_
              refine aops_make (am_zero (l := [.int .i64 0, .slice none 0 0, .int .i64 0, .int .i64 0]) inf24.zero rfl (by decide)) ?_
              first | refine aops_op (aop_putN (vs := [.int .i64 _, .slice _ _ _, .int .i64 _, .int .i64 _]) rfl rfl inf24.size (by (repeat (first | assumption | exact Hp.push_new _ _ | exact Hp.put_same _ _ _ | refine (Hp.push_old _ _ (by (first | assumption | (simp; done) | (simp; omega) | omega))).trans ?_ | refine (Hp.put_other _ _ (by (first | assumption | omega | (simp; done) | (simp; omega)))).trans ?_ | refine le_got (by assumption) (by (first | assumption | (simp; done) | (simp; omega) | omega)) (by intro e; cases e) ?_))) (by (first | (simp; done) | (simp; omega) | omega | (rw [setR_length (by first | (simp; omega) | omega)]; first | (simp; omega) | omega))) rfl rfl ?_) | refine aops_op (aop_putN (vs := [.int .i64 _, _, .int .i64 _, .int .i64 _]) rfl rfl inf24.size (by (repeat (first | assumption | exact Hp.push_new _ _ | exact Hp.put_same _ _ _ | refine (Hp.push_old _ _ (by (first | assumption | (simp; done) | (simp; omega) | omega))).trans ?_ | refine (Hp.put_other _ _ (by (first | assumption | omega | (simp; done) | (simp; omega)))).trans ?_ | refine le_got (by assumption) (by (first | assumption | (simp; done) | (simp; omega) | omega)) (by intro e; cases e) ?_))) (by (first | (simp; done) | (simp; omega) | omega | (rw [setR_length (by first | (simp; omega) | omega)]; first | (simp; omega) | omega))) rfl rfl ?_)
              first | refine aops_val (av_assign_bool rfl) ?_ | refine aops_val (av_assign rfl) ?_
              refine ac_seq ?_
              have hq11 := hq10.boxed [.int .i64 0, .slice none 0 0, .int .i64 0, .int .i64 0] [.int .i64 (hs9.getD 0 dItem).cost, .slice A10 (hs9.getD 0 dItem).nodes.length c10, .int .i64 (hs9.getD 0 dItem).place, .int .i64 (hs9.getD 0 dItem).rank]
              have hle11 : G10.le _ := Hp.le_put_new (b := H10.size) (G10.le_push (.own 0 [.int .i64 0, .slice none 0 0, .int .i64 0, .int .i64 0])) (by rw [hz10]; exact Nat.le_refl _) (.own 0 [.int .i64 (hs9.getD 0 dItem).cost, .slice A10 (hs9.getD 0 dItem).nodes.length c10, .int .i64 (hs9.getD 0 dItem).place, .int .i64 (hs9.getD 0 dItem).rank])
              have hg10 : (hs9.getD 0 dItem).nodes.length ≤ 5 := by
                by_cases h0 : 0 < hs9.length
                · rw [getD_item h0]; exact hh9 _ (List.getElem_mem h0)
                · rw [List.eq_nil_of_length_eq_zero (by omega : hs9.length = 0)]; exact Nat.zero_le _
              refine ac_region (by kernel_rfl) ?_
              first | refine aops_val (av_loadN (cs := [.int .i64 _, .slice _ _ _, .int .i64 _, .int .i64 _]) rfl Try.underlying24 rfl inf24.size (by (first | assumption | exact cells_get (by (repeat (first | assumption | exact Hp.push_new _ _ | exact Hp.put_same _ _ _ | refine (Hp.push_old _ _ (by (first | assumption | (simp; done) | (simp; omega) | omega))).trans ?_ | refine (Hp.put_other _ _ (by (first | assumption | omega | (simp; done) | (simp; omega)))).trans ?_ | refine le_got (by assumption) (by (first | assumption | (simp; done) | (simp; omega) | omega)) (by intro e; cases e) ?_))) rfl | exact Cells.le (by assumption) (by (repeat (first | assumption | exact Hp.le_refl _ | refine Hp.le_put_new ?_ (by (first | assumption | (simp; done) | (simp; omega) | omega)) _ | refine Hp.le_push' ?_ _ | refine Hp.le_trans ?_ (by assumption)))) (by (first | assumption | (simp; done) | (simp; omega) | omega))))) ?_ | refine aops_val (av_loadN (cs := [.int .i64 _, _, .int .i64 _, .int .i64 _]) rfl Try.underlying24 rfl inf24.size (by (first | assumption | exact cells_get (by (repeat (first | assumption | exact Hp.push_new _ _ | exact Hp.put_same _ _ _ | refine (Hp.push_old _ _ (by (first | assumption | (simp; done) | (simp; omega) | omega))).trans ?_ | refine (Hp.put_other _ _ (by (first | assumption | omega | (simp; done) | (simp; omega)))).trans ?_ | refine le_got (by assumption) (by (first | assumption | (simp; done) | (simp; omega) | omega)) (by intro e; cases e) ?_))) rfl | exact Cells.le (by assumption) (by (repeat (first | assumption | exact Hp.le_refl _ | refine Hp.le_put_new ?_ (by (first | assumption | (simp; done) | (simp; omega) | omega)) _ | refine Hp.le_push' ?_ _ | refine Hp.le_trans ?_ (by assumption)))) (by (first | assumption | (simp; done) | (simp; omega) | omega))))) ?_
              first | refine aops_val (av_move_bool rfl) ?_ | refine aops_val (av_move rfl) ?_
              first | refine aops_val (av_move_sl (by first | assumption | rfl)) ?_ | refine aops_val (av_move (by first | assumption | rfl)) ?_
              refine aops_op (aop_call (same_item (hs9.getD 0 dItem) _ _ (decide (0 < hs9.length)) l9 _ ⟨_, rfl, hw10.mono (Hp.le_trans hle11 hq11.le).sees⟩ (hsl9.mono (Hp.le_trans (Hp.le_trans hle10 hle11) hq11.le).sees) (by omega) (few_good hl9) (by omega)) rfl Try.func20 rfl rfl rfl ?_)
              rintro v H ⟨rfl, rfl⟩
              refine aops_val (av_not rfl) ?_
              first | refine aops_val (av_move_bool rfl) ?_ | refine aops_val (av_move rfl) ?_
              refine aops_guard rfl rfl rfl ?_ ?_
              · intro hg11
                exact absurd (sameF_head hB9) (by simpa using hg11)
              · intro hg11
                have hp11 := hg11; try simp only [decide_eq_true_eq, decide_eq_false_iff_not, Bool.not_eq_true', Bool.not_eq_false'] at hp11
                first | refine aops_wval (want_yes rfl rfl rfl hg11) (av_move_ptr (by first | assumption | rfl)) ?_ | refine aops_wval (want_yes rfl rfl rfl hg11) (av_move (by first | assumption | rfl)) ?_
                refine aops_want (want_yes rfl rfl rfl hg11) (aop_call (Len_heap hq11) rfl Try.func19 rfl rfl rfl ?_)
                rintro v11 _ ⟨rfl, rfl⟩
                first | refine aops_wval (want_yes rfl rfl rfl hg11) (av_move_sl (by first | assumption | rfl)) ?_ | refine aops_wval (want_yes rfl rfl rfl hg11) (av_move (by first | assumption | rfl)) ?_
                refine aops_wval (want_yes rfl rfl rfl hg11) (av_len rfl Try.underlying25) ?_
                refine aops_wval (want_yes rfl rfl rfl hg11) (av_ne rfl rfl) ?_
                refine aops_val (av_pick_bool (congrArg Value.bool hg11) rfl) ?_
                first | refine aops_val (av_move_bool rfl) ?_ | refine aops_val (av_move rfl) ?_
                refine aops_guard rfl rfl rfl ?_ ?_
                · intro hg12
                  exact absurd (of_decide_eq_true hg12) (by simp [hlen9])
                · intro hg12
                  have hp12 := hg12; try simp only [decide_eq_true_eq, decide_eq_false_iff_not, Bool.not_eq_true', Bool.not_eq_false'] at hp12
                  first | refine aops_wval (want_yes rfl rfl rfl hg12) (av_move_ptr (by first | assumption | rfl)) ?_ | refine aops_wval (want_yes rfl rfl rfl hg12) (av_move (by first | assumption | rfl)) ?_
                  refine aops_want (want_yes rfl rfl rfl hg12) (aop_call (List_heap hq11 (few_good hh9) (by omega) (fun x hx => by have := hh9 x hx; omega)) rfl Try.func22 rfl rfl rfl ?_)
                  rintro v12 H12 ⟨hle12, ys, hpy, hsy12, hsl12⟩
                  first | refine aops_wval (want_yes rfl rfl rfl hg12) (av_move_sl (by first | assumption | rfl)) ?_ | refine aops_wval (want_yes rfl rfl rfl hg12) (av_move (by first | assumption | rfl)) ?_
                  refine aops_want (want_yes rfl rfl rfl hg12) (aop_call (refSame_items ys l9 _ _ _ hsl12 (hsl9.mono (Hp.le_trans (Hp.le_trans (Hp.le_trans hle10 hle11) hq11.le) hle12).sees) (fun x hx => few_good hh9 x (hpy.mem_iff.1 hx)) (few_good hl9) (by have := hpy.length_eq; omega)) rfl Try.func13 rfl rfl rfl ?_)
                  rintro v H ⟨rfl, rfl⟩
                  refine aops_wval (want_yes rfl rfl rfl hg12) (av_not rfl) ?_
                  refine aops_val (av_pick_bool (congrArg Value.bool hg12) rfl) ?_
                  refine ac_split rfl rfl ?_ ?_
                  · intro hc13
                    exact absurd (sameL_self l9) (by have := sorted_unique (hpy.trans hB9.perm) hsy12 hB9.sorted; subst this; simpa using hc13)
                  · intro hc13
                    (try simp only [decide_eq_true_eq, decide_eq_false_iff_not, Bool.not_eq_true', Bool.not_eq_false'] at hc13)
                    refine ac_skip ?_
                    refine ac_region (by kernel_rfl) ?_
                    first | refine aops_val (av_move_int (by first | assumption | rfl)) ?_ | refine aops_val (av_move (by first | assumption | rfl)) ?_
                    first | refine aops_val (av_add64 rfl rfl (by (first | assumption | omega | (simp; omega)))) ?_ | refine aops_val (av_add rfl rfl) ?_
                    first | refine aops_val (av_assign_int rfl) ?_ | refine aops_val (av_assign rfl) ?_
                    obtain ⟨G13, hle13, hq13⟩ := hq11.grown hle12
                    have hle913 := Hp.le_trans (Hp.le_trans hle10 hle11) hle13
                    exact ⟨ps.length - (k + 1), by omega, k + 1, G13, hs9, l9, _, _, by omega, rfl, by omega, Hp.le_trans hle9 hle913, hq13, hB9, hl9, by omega, hsl9.mono hle913.sees, e2, e7, by first | rfl | exact e8, e11, rfl⟩
        · intro hg4
          have hp4 := hg4; try simp only [decide_eq_true_eq, decide_eq_false_iff_not, Bool.not_eq_true', Bool.not_eq_false'] at hp4
          first | refine aops_wval (want_yes rfl rfl rfl hg4) (av_move_int (by first | assumption | rfl)) ?_ | refine aops_wval (want_yes rfl rfl rfl hg4) (av_move (by first | assumption | rfl)) ?_
          first | refine aops_wval (want_yes rfl rfl rfl hg4) (av_move_sl (by first | assumption | rfl)) ?_ | refine aops_wval (want_yes rfl rfl rfl hg4) (av_move (by first | assumption | rfl)) ?_
          refine aops_wval (want_yes rfl rfl rfl hg4) (av_len rfl Try.underlying25) ?_
          refine aops_wval (want_yes rfl rfl rfl hg4) (av_ge rfl rfl) ?_
          refine aops_val (av_pick_bool (congrArg Value.bool hg4) rfl) ?_
          refine ac_split rfl rfl ?_ ?_
          · intro hc14
            (try simp only [decide_eq_true_eq, decide_eq_false_iff_not, Bool.not_eq_true', Bool.not_eq_false'] at hc14)
            refine ac_seq ?_
            refine ac_region (by kernel_rfl) ?_
            first | refine aops_val (av_move_ptr (by first | assumption | rfl)) ?_ | refine aops_val (av_move (by first | assumption | rfl)) ?_
            refine aops_op (aop_call (Pop_heap hq6 (few_good hh5) (by omega)) rfl Try.func18 rfl rfl rfl ?_)
            rintro v8 H8 ⟨G8, cs8, hle8, hq8, rfl, hr8⟩; have hz8 := hq8.size; obtain ⟨w8, rfl, hw8⟩ := hr8; obtain ⟨A8, c8, rfl⟩ := hw8.shape
            refine aops_val (av_move rfl) ?_
            refine aops_val (av_extract rfl rfl) ?_
            refine aops_val (av_extract rfl rfl) ?_
            refine aops_make (am_zero (l := [.int .i64 0, .slice none 0 0, .int .i64 0, .int .i64 0]) inf24.zero rfl (by decide)) ?_
            first | refine aops_op (aop_putN (vs := [.int .i64 _, .slice _ _ _, .int .i64 _, .int .i64 _]) rfl rfl inf24.size (by (repeat (first | assumption | exact Hp.push_new _ _ | exact Hp.put_same _ _ _ | refine (Hp.push_old _ _ (by (first | assumption | (simp; done) | (simp; omega) | omega))).trans ?_ | refine (Hp.put_other _ _ (by (first | assumption | omega | (simp; done) | (simp; omega)))).trans ?_ | refine le_got (by assumption) (by (first | assumption | (simp; done) | (simp; omega) | omega)) (by intro e; cases e) ?_))) (by (first | (simp; done) | (simp; omega) | omega | (rw [setR_length (by first | (simp; omega) | omega)]; first | (simp; omega) | omega))) rfl rfl ?_) | refine aops_op (aop_putN (vs := [.int .i64 _, _, .int .i64 _, .int .i64 _]) rfl rfl inf24.size (by (repeat (first | assumption | exact Hp.push_new _ _ | exact Hp.put_same _ _ _ | refine (Hp.push_old _ _ (by (first | assumption | (simp; done) | (simp; omega) | omega))).trans ?_ | refine (Hp.put_other _ _ (by (first | assumption | omega | (simp; done) | (simp; omega)))).trans ?_ | refine le_got (by assumption) (by (first | assumption | (simp; done) | (simp; omega) | omega)) (by intro e; cases e) ?_))) (by (first | (simp; done) | (simp; omega) | omega | (rw [setR_length (by first | (simp; omega) | omega)]; first | (simp; omega) | omega))) rfl rfl ?_)
            first | refine aops_val (av_assign_bool rfl) ?_ | refine aops_val (av_assign rfl) ?_
            refine ac_seq ?_
            refine ac_seq ?_
            have hq9 := hq8.boxed [.int .i64 0, .slice none 0 0, .int .i64 0, .int .i64 0] [.int .i64 (hs6.getD 0 dItem).cost, .slice A8 (hs6.getD 0 dItem).nodes.length c8, .int .i64 (hs6.getD 0 dItem).place, .int .i64 (hs6.getD 0 dItem).rank]
            have hleG68 : G6.le _ := Hp.le_put_new (b := H8.size) (Hp.le_push' hle8 (.own 0 [.int .i64 0, .slice none 0 0, .int .i64 0, .int .i64 0])) (by rw [hz8]; exact hle8.1) (.own 0 [.int .i64 (hs6.getD 0 dItem).cost, .slice A8 (hs6.getD 0 dItem).nodes.length c8, .int .i64 (hs6.getD 0 dItem).place, .int .i64 (hs6.getD 0 dItem).rank])
            have hleG8 : G8.le _ := Hp.le_put_new (b := H8.size) (G8.le_push (.own 0 [.int .i64 0, .slice none 0 0, .int .i64 0, .int .i64 0])) (by rw [hz8]; exact Nat.le_refl _) (.own 0 [.int .i64 (hs6.getD 0 dItem).cost, .slice A8 (hs6.getD 0 dItem).nodes.length c8, .int .i64 (hs6.getD 0 dItem).place, .int .i64 (hs6.getD 0 dItem).rank])
            have hle9 := Hp.le_trans hleG6 hleG68
            have hg8 : (hs6.getD 0 dItem).nodes.length ≤ 5 := by
              by_cases h0 : 0 < hs6.length
              · rw [getD_item h0]; exact hh5 _ (List.getElem_mem h0)
              · rw [List.eq_nil_of_length_eq_zero (by omega : hs6.length = 0)]; exact Nat.zero_le _
            obtain ⟨hs9, hhs9⟩ : ∃ z, z = popM hs6 := ⟨_, rfl⟩
            rw [← hhs9] at hq9
            refine ac_region (by kernel_rfl) ?_
            first | refine aops_val (av_loadN (cs := [.int .i64 _, .slice _ _ _, .int .i64 _, .int .i64 _]) rfl Try.underlying24 rfl inf24.size (by (first | assumption | exact cells_get (by (repeat (first | assumption | exact Hp.push_new _ _ | exact Hp.put_same _ _ _ | refine (Hp.push_old _ _ (by (first | assumption | (simp; done) | (simp; omega) | omega))).trans ?_ | refine (Hp.put_other _ _ (by (first | assumption | omega | (simp; done) | (simp; omega)))).trans ?_ | refine le_got (by assumption) (by (first | assumption | (simp; done) | (simp; omega) | omega)) (by intro e; cases e) ?_))) rfl | exact Cells.le (by assumption) (by (repeat (first | assumption | exact Hp.le_refl _ | refine Hp.le_put_new ?_ (by (first | assumption | (simp; done) | (simp; omega) | omega)) _ | refine Hp.le_push' ?_ _ | refine Hp.le_trans ?_ (by assumption)))) (by (first | assumption | (simp; done) | (simp; omega) | omega))))) ?_ | refine aops_val (av_loadN (cs := [.int .i64 _, _, .int .i64 _, .int .i64 _]) rfl Try.underlying24 rfl inf24.size (by (first | assumption | exact cells_get (by (repeat (first | assumption | exact Hp.push_new _ _ | exact Hp.put_same _ _ _ | refine (Hp.push_old _ _ (by (first | assumption | (simp; done) | (simp; omega) | omega))).trans ?_ | refine (Hp.put_other _ _ (by (first | assumption | omega | (simp; done) | (simp; omega)))).trans ?_ | refine le_got (by assumption) (by (first | assumption | (simp; done) | (simp; omega) | omega)) (by intro e; cases e) ?_))) rfl | exact Cells.le (by assumption) (by (repeat (first | assumption | exact Hp.le_refl _ | refine Hp.le_put_new ?_ (by (first | assumption | (simp; done) | (simp; omega) | omega)) _ | refine Hp.le_push' ?_ _ | refine Hp.le_trans ?_ (by assumption)))) (by (first | assumption | (simp; done) | (simp; omega) | omega))))) ?_
            first | refine aops_val (av_move_bool rfl) ?_ | refine aops_val (av_move rfl) ?_
            first | refine aops_val (av_move_sl (by first | assumption | rfl)) ?_ | refine aops_val (av_move (by first | assumption | rfl)) ?_
            refine aops_op (aop_call (same_item (hs6.getD 0 dItem) _ _ (decide (0 < hs6.length)) l6 _ ⟨_, rfl, hw8.mono (Hp.le_trans hleG8 hq9.le).sees⟩ (hsl6.mono (Hp.le_trans hleG68 hq9.le).sees) (by omega) (few_good hl6) (by omega)) rfl Try.func20 rfl rfl rfl ?_)
            rintro v H ⟨rfl, rfl⟩
            refine aops_val (av_not rfl) ?_
            refine ac_split rfl rfl ?_ ?_
            · intro hc15
              exact absurd (sameF_head hB6) (by simpa using hc15)
            · intro hc15
              (try simp only [decide_eq_true_eq, decide_eq_false_iff_not, Bool.not_eq_true', Bool.not_eq_false'] at hc15)
              refine ac_skip ?_
              refine ac_seq ?_
              refine ac_region (by kernel_rfl) ?_
              first | refine aops_val (av_move_bool rfl) ?_ | refine aops_val (av_move rfl) ?_
              refine ac_split rfl rfl ?_ ?_
              · intro hc16
                have hpos : 0 < l6.length := by have := of_decide_eq_true hc16; omega
                have hB9 := hB6.pop hpos
                obtain ⟨l9, hl9e⟩ : ∃ z, z = l6.drop 1 := ⟨_, rfl⟩
                have hl9 : ∀ x ∈ l9, x.nodes.length ≤ 5 := fun x hx => hl6 x (List.mem_of_mem_drop (hl9e ▸ hx))
                have hn9 : l9.length ≤ 13 + k := by rw [hl9e, List.length_drop]; omega
                rw [← hl9e, ← hhs9] at hB9
                refine ac_region (by kernel_rfl) ?_
                first | refine aops_val (av_move_sl (by first | assumption | rfl)) ?_ | refine aops_val (av_move (by first | assumption | rfl)) ?_
                obtain ⟨A9, c9, S9, hsl9a, hS9, hop9⟩ := hsl6.drops (i := 1) hpos
                have e1 : l6.length - 1 = l9.length := by rw [hl9e, List.length_drop]
                rw [e1] at hop9
                rw [e1, ← hl9e] at hsl9a
                have hsl9 := hsl9a.mono hleG68.sees
                refine aops_val (hop9 _ _ _ _ _ _ _ _ _ _ _ _ _ (Hp.le_trans hleG68 hq9.le) (by first | rfl | assumption) Try.underlying25 inf24.size (by first | rfl | assumption)) ?_
                first | refine aops_val (av_assign_sl rfl) ?_ | refine aops_val (av_assign rfl) ?_
                refine ac_seq ?_
                have hlen9 := hB9.length
                have hh9 := hB9.few hl9
                refine ac_region (by kernel_rfl) ?_
                first | refine aops_val (av_move_ptr (by first | assumption | rfl)) ?_ | refine aops_val (av_move (by first | assumption | rfl)) ?_
                refine aops_op (aop_call (Peek_heap hq9 (fun x hx => by have := hh9 x hx; omega)) rfl Try.func21 rfl rfl rfl ?_)
                rintro v10 H10 ⟨G10, cs10, hle10, hq10, rfl, hr10⟩; have hz10 := hq10.size; obtain ⟨w10, rfl, hw10⟩ := hr10; obtain ⟨A10, c10, rfl⟩ := hw10.shape
                refine aops_val (av_move rfl) ?_
                refine aops_val (av_extract rfl rfl) ?_
                refine aops_val (av_extract rfl rfl) ?_
                refine aops_make (am_zero (l := [.int .i64 0, .slice none 0 0, .int .i64 0, .int .i64 0]) inf24.zero rfl (by decide)) ?_
                first | refine aops_op (aop_putN (vs := [.int .i64 _, .slice _ _ _, .int .i64 _, .int .i64 _]) rfl rfl inf24.size (by (repeat (first | assumption | exact Hp.push_new _ _ | exact Hp.put_same _ _ _ | refine (Hp.push_old _ _ (by (first | assumption | (simp; done) | (simp; omega) | omega))).trans ?_ | refine (Hp.put_other _ _ (by (first | assumption | omega | (simp; done) | (simp; omega)))).trans ?_ | refine le_got (by assumption) (by (first | assumption | (simp; done) | (simp; omega) | omega)) (by intro e; cases e) ?_))) (by (first | (simp; done) | (simp; omega) | omega | (rw [setR_length (by first | (simp; omega) | omega)]; first | (simp; omega) | omega))) rfl rfl ?_) | refine aops_op (aop_putN (vs := [.int .i64 _, _, .int .i64 _, .int .i64 _]) rfl rfl inf24.size (by (repeat (first | assumption | exact Hp.push_new _ _ | exact Hp.put_same _ _ _ | refine (Hp.push_old _ _ (by (first | assumption | (simp; done) | (simp; omega) | omega))).trans ?_ | refine (Hp.put_other _ _ (by (first | assumption | omega | (simp; done) | (simp; omega)))).trans ?_ | refine le_got (by assumption) (by (first | assumption | (simp; done) | (simp; omega) | omega)) (by intro e; cases e) ?_))) (by (first | (simp; done) | (simp; omega) | omega | (rw [setR_length (by first | (simp; omega) | omega)]; first | (simp; omega) | omega))) rfl rfl ?_)
                first | refine aops_val (av_assign_bool rfl) ?_ | refine aops_val (av_assign rfl) ?_
                refine ac_seq ?_
                have hq11 := hq10.boxed [.int .i64 0, .slice none 0 0, .int .i64 0, .int .i64 0] [.int .i64 (hs9.getD 0 dItem).cost, .slice A10 (hs9.getD 0 dItem).nodes.length c10, .int .i64 (hs9.getD 0 dItem).place, .int .i64 (hs9.getD 0 dItem).rank]
                have hle11 : G10.le _ := Hp.le_put_new (b := H10.size) (G10.le_push (.own 0 [.int .i64 0, .slice none 0 0, .int .i64 0, .int .i64 0])) (by rw [hz10]; exact Nat.le_refl _) (.own 0 [.int .i64 (hs9.getD 0 dItem).cost, .slice A10 (hs9.getD 0 dItem).nodes.length c10, .int .i64 (hs9.getD 0 dItem).place, .int .i64 (hs9.getD 0 dItem).rank])
                have hg10 : (hs9.getD 0 dItem).nodes.length ≤ 5 := by
                  by_cases h0 : 0 < hs9.length
                  · rw [getD_item h0]; exact hh9 _ (List.getElem_mem h0)
                  · rw [List.eq_nil_of_length_eq_zero (by omega : hs9.length = 0)]; exact Nat.zero_le _
                refine ac_region (by kernel_rfl) ?_
                first | refine aops_val (av_loadN (cs := [.int .i64 _, .slice _ _ _, .int .i64 _, .int .i64 _]) rfl Try.underlying24 rfl inf24.size (by (first | assumption | exact cells_get (by (repeat (first | assumption | exact Hp.push_new _ _ | exact Hp.put_same _ _ _ | refine (Hp.push_old _ _ (by (first | assumption | (simp; done) | (simp; omega) | omega))).trans ?_ | refine (Hp.put_other _ _ (by (first | assumption | omega | (simp; done) | (simp; omega)))).trans ?_ | refine le_got (by assumption) (by (first | assumption | (simp; done) | (simp; omega) | omega)) (by intro e; cases e) ?_))) rfl | exact Cells.le (by assumption) (by (repeat (first | assumption | exact Hp.le_refl _ | refine Hp.le_put_new ?_ (by (first | assumption | (simp; done) | (simp; omega) | omega)) _ | refine Hp.le_push' ?_ _ | refine Hp.le_trans ?_ (by assumption)))) (by (first | assumption | (simp; done) | (simp; omega) | omega))))) ?_ | refine aops_val (av_loadN (cs := [.int .i64 _, _, .int .i64 _, .int .i64 _]) rfl Try.underlying24 rfl inf24.size (by (first | assumption | exact cells_get (by (repeat (first | assumption | exact Hp.push_new _ _ | exact Hp.put_same _ _ _ | refine (Hp.push_old _ _ (by (first | assumption | (simp; done) | (simp; omega) | omega))).trans ?_ | refine (Hp.put_other _ _ (by (first | assumption | omega | (simp; done) | (simp; omega)))).trans ?_ | refine le_got (by assumption) (by (first | assumption | (simp; done) | (simp; omega) | omega)) (by intro e; cases e) ?_))) rfl | exact Cells.le (by assumption) (by (repeat (first | assumption | exact Hp.le_refl _ | refine Hp.le_put_new ?_ (by (first | assumption | (simp; done) | (simp; omega) | omega)) _ | refine Hp.le_push' ?_ _ | refine Hp.le_trans ?_ (by assumption)))) (by (first | assumption | (simp; done) | (simp; omega) | omega))))) ?_
                first | refine aops_val (av_move_bool rfl) ?_ | refine aops_val (av_move rfl) ?_
                first | refine aops_val (av_move_sl rfl) ?_ | refine aops_val (av_move rfl) ?_
                refine aops_op (aop_call (same_item (hs9.getD 0 dItem) _ _ (decide (0 < hs9.length)) l9 _ ⟨_, rfl, hw10.mono (Hp.le_trans hle11 hq11.le).sees⟩ (hsl9.mono (Hp.le_trans (Hp.le_trans hle10 hle11) hq11.le).sees) (by omega) (few_good hl9) (by omega)) rfl Try.func20 rfl rfl rfl ?_)
                rintro v H ⟨rfl, rfl⟩
                refine aops_val (av_not rfl) ?_
                first | refine aops_val (av_move_bool rfl) ?_ | refine aops_val (av_move rfl) ?_
                refine aops_guard rfl rfl rfl ?_ ?_
                · intro hg17
                  exact absurd (sameF_head hB9) (by simpa using hg17)
                · intro hg17
                  have hp17 := hg17; try simp only [decide_eq_true_eq, decide_eq_false_iff_not, Bool.not_eq_true', Bool.not_eq_false'] at hp17
                  first | refine aops_wval (want_yes rfl rfl rfl hg17) (av_move_ptr (by first | assumption | rfl)) ?_ | refine aops_wval (want_yes rfl rfl rfl hg17) (av_move (by first | assumption | rfl)) ?_
                  refine aops_want (want_yes rfl rfl rfl hg17) (aop_call (Len_heap hq11) rfl Try.func19 rfl rfl rfl ?_)
                  rintro v11 _ ⟨rfl, rfl⟩
                  first | refine aops_wval (want_yes rfl rfl rfl hg17) (av_move_sl rfl) ?_ | refine aops_wval (want_yes rfl rfl rfl hg17) (av_move rfl) ?_
                  refine aops_wval (want_yes rfl rfl rfl hg17) (av_len rfl Try.underlying25) ?_
                  refine aops_wval (want_yes rfl rfl rfl hg17) (av_ne rfl rfl) ?_
                  refine aops_val (av_pick_bool (congrArg Value.bool hg17) rfl) ?_
                  first | refine aops_val (av_move_bool rfl) ?_ | refine aops_val (av_move rfl) ?_
                  refine aops_guard rfl rfl rfl ?_ ?_
                  · intro hg18
                    exact absurd (of_decide_eq_true hg18) (by simp [hlen9])
                  · intro hg18
                    have hp18 := hg18; try simp only [decide_eq_true_eq, decide_eq_false_iff_not, Bool.not_eq_true', Bool.not_eq_false'] at hp18
                    first | refine aops_wval (want_yes rfl rfl rfl hg18) (av_move_ptr (by first | assumption | rfl)) ?_ | refine aops_wval (want_yes rfl rfl rfl hg18) (av_move (by first | assumption | rfl)) ?_
                    refine aops_want (want_yes rfl rfl rfl hg18) (aop_call (List_heap hq11 (few_good hh9) (by omega) (fun x hx => by have := hh9 x hx; omega)) rfl Try.func22 rfl rfl rfl ?_)
                    rintro v12 H12 ⟨hle12, ys, hpy, hsy12, hsl12⟩
                    first | refine aops_wval (want_yes rfl rfl rfl hg18) (av_move_sl rfl) ?_ | refine aops_wval (want_yes rfl rfl rfl hg18) (av_move rfl) ?_
                    refine aops_want (want_yes rfl rfl rfl hg18) (aop_call (refSame_items ys l9 _ _ _ hsl12 (hsl9.mono (Hp.le_trans (Hp.le_trans (Hp.le_trans hle10 hle11) hq11.le) hle12).sees) (fun x hx => few_good hh9 x (hpy.mem_iff.1 hx)) (few_good hl9) (by have := hpy.length_eq; omega)) rfl Try.func13 rfl rfl rfl ?_)
                    rintro v H ⟨rfl, rfl⟩
                    refine aops_wval (want_yes rfl rfl rfl hg18) (av_not rfl) ?_
                    refine aops_val (av_pick_bool (congrArg Value.bool hg18) rfl) ?_
                    refine ac_split rfl rfl ?_ ?_
                    · intro hc19
                      exact absurd (sameL_self l9) (by have := sorted_unique (hpy.trans hB9.perm) hsy12 hB9.sorted; subst this; simpa using hc19)
                    · intro hc19
                      (try simp only [decide_eq_true_eq, decide_eq_false_iff_not, Bool.not_eq_true', Bool.not_eq_false'] at hc19)
                      refine ac_skip ?_
                      refine ac_region (by kernel_rfl) ?_
                      first | refine aops_val (av_move_int (by first | assumption | rfl)) ?_ | refine aops_val (av_move (by first | assumption | rfl)) ?_
                      first | refine aops_val (av_add64 rfl rfl (by (first | assumption | omega | (simp; omega)))) ?_ | refine aops_val (av_add rfl rfl) ?_
                      first | refine aops_val (av_assign_int rfl) ?_ | refine aops_val (av_assign rfl) ?_
                      obtain ⟨G13, hle13, hq13⟩ := hq11.grown hle12
                      have hle913 := Hp.le_trans (Hp.le_trans hle10 hle11) hle13
                      exact ⟨ps.length - (k + 1), by omega, k + 1, G13, hs9, l9, _, _, by omega, rfl, by omega, Hp.le_trans hle9 hle913, hq13, hB9, hl9, by omega, hsl9.mono hle913.sees, e2, e7, by first | rfl | exact e8, e11, rfl⟩
              · intro hc16
                have hpos : ¬ 0 < hs6.length := of_decide_eq_false hc16
                obtain ⟨l9, hl9e⟩ : ∃ z, z = l6 := ⟨_, rfl⟩
                have h60 : hs6 = [] := List.eq_nil_of_length_eq_zero (by omega)
                have hB9 : Both hs9 l9 := by rw [hhs9, hl9e]; rw [h60] at hB6 ⊢; rw [popM_nil]; exact hB6
                rw [← hl9e] at hsl6 hl6 hn6 e8
                have hl9 := hl6
                have hn9 : l9.length ≤ 13 + k := by omega
                have hsl9 := hsl6.mono hleG68.sees
                refine ac_skip ?_
                refine ac_seq ?_
                have hlen9 := hB9.length
                have hh9 := hB9.few hl9
                refine ac_region (by kernel_rfl) ?_
                first | refine aops_val (av_move_ptr (by first | assumption | rfl)) ?_ | refine aops_val (av_move (by first | assumption | rfl)) ?_
                refine aops_op (aop_call (Peek_heap hq9 (fun x hx => by have := hh9 x hx; omega)) rfl Try.func21 rfl rfl rfl ?_)
                rintro v10 H10 ⟨G10, cs10, hle10, hq10, rfl, hr10⟩; have hz10 := hq10.size; obtain ⟨w10, rfl, hw10⟩ := hr10; obtain ⟨A10, c10, rfl⟩ := hw10.shape
                refine aops_val (av_move rfl) ?_
                refine aops_val (av_extract rfl rfl) ?_
                refine aops_val (av_extract rfl rfl) ?_
                refine aops_make (am_zero (l := [.int .i64 0, .slice none 0 0, .int .i64 0, .int .i64 0]) inf24.zero rfl (by decide)) ?_
                first | refine aops_op (aop_putN (vs := [.int .i64 _, .slice _ _ _, .int .i64 _, .int .i64 _]) rfl rfl inf24.size (by (repeat (first | assumption | exact Hp.push_new _ _ | exact Hp.put_same _ _ _ | refine (Hp.push_old _ _ (by (first | assumption | (simp; done) | (simp; omega) | omega))).trans ?_ | refine (Hp.put_other _ _ (by (first | assumption | omega | (simp; done) | (simp; omega)))).trans ?_ | refine le_got (by assumption) (by (first | assumption | (simp; done) | (simp; omega) | omega)) (by intro e; cases e) ?_))) (by (first | (simp; done) | (simp; omega) | omega | (rw [setR_length (by first | (simp; omega) | omega)]; first | (simp; omega) | omega))) rfl rfl ?_) | refine aops_op (aop_putN (vs := [.int .i64 _, _, .int .i64 _, .int .i64 _]) rfl rfl inf24.size (by (repeat (first | assumption | exact Hp.push_new _ _ | exact Hp.put_same _ _ _ | refine (Hp.push_old _ _ (by (first | assumption | (simp; done) | (simp; omega) | omega))).trans ?_ | refine (Hp.put_other _ _ (by (first | assumption | omega | (simp; done) | (simp; omega)))).trans ?_ | refine le_got (by assumption) (by (first | assumption | (simp; done) | (simp; omega) | omega)) (by intro e; cases e) ?_))) (by (first | (simp; done) | (simp; omega) | omega | (rw [setR_length (by first | (simp; omega) | omega)]; first | (simp; omega) | omega))) rfl rfl ?_)
                first | refine aops_val (av_assign_bool rfl) ?_ | refine aops_val (av_assign rfl) ?_
                refine ac_seq ?_
                have hq11 := hq10.boxed [.int .i64 0, .slice none 0 0, .int .i64 0, .int .i64 0] [.int .i64 (hs9.getD 0 dItem).cost, .slice A10 (hs9.getD 0 dItem).nodes.length c10, .int .i64 (hs9.getD 0 dItem).place, .int .i64 (hs9.getD 0 dItem).rank]
                have hle11 : G10.le _ := Hp.le_put_new (b := H10.size) (G10.le_push (.own 0 [.int .i64 0, .slice none 0 0, .int .i64 0, .int .i64 0])) (by rw [hz10]; exact Nat.le_refl _) (.own 0 [.int .i64 (hs9.getD 0 dItem).cost, .slice A10 (hs9.getD 0 dItem).nodes.length c10, .int .i64 (hs9.getD 0 dItem).place, .int .i64 (hs9.getD 0 dItem).rank])
                have hg10 : (hs9.getD 0 dItem).nodes.length ≤ 5 := by
                  by_cases h0 : 0 < hs9.length
                  · rw [getD_item h0]; exact hh9 _ (List.getElem_mem h0)
                  · rw [List.eq_nil_of_length_eq_zero (by omega : hs9.length = 0)]; exact Nat.zero_le _
                refine ac_region (by kernel_rfl) ?_
                first | refine aops_val (av_loadN (cs := [.int .i64 _, .slice _ _ _, .int .i64 _, .int .i64 _]) rfl Try.underlying24 rfl inf24.size (by (first | assumption | exact cells_get (by (repeat (first | assumption | exact Hp.push_new _ _ | exact Hp.put_same _ _ _ | refine (Hp.push_old _ _ (by (first | assumption | (simp; done) | (simp; omega) | omega))).trans ?_ | refine (Hp.put_other _ _ (by (first | assumption | omega | (simp; done) | (simp; omega)))).trans ?_ | refine le_got (by assumption) (by (first | assumption | (simp; done) | (simp; omega) | omega)) (by intro e; cases e) ?_))) rfl | exact Cells.le (by assumption) (by (repeat (first | assumption | exact Hp.le_refl _ | refine Hp.le_put_new ?_ (by (first | assumption | (simp; done) | (simp; omega) | omega)) _ | refine Hp.le_push' ?_ _ | refine Hp.le_trans ?_ (by assumption)))) (by (first | assumption | (simp; done) | (simp; omega) | omega))))) ?_ | refine aops_val (av_loadN (cs := [.int .i64 _, _, .int .i64 _, .int .i64 _]) rfl Try.underlying24 rfl inf24.size (by (first | assumption | exact cells_get (by (repeat (first | assumption | exact Hp.push_new _ _ | exact Hp.put_same _ _ _ | refine (Hp.push_old _ _ (by (first | assumption | (simp; done) | (simp; omega) | omega))).trans ?_ | refine (Hp.put_other _ _ (by (first | assumption | omega | (simp; done) | (simp; omega)))).trans ?_ | refine le_got (by assumption) (by (first | assumption | (simp; done) | (simp; omega) | omega)) (by intro e; cases e) ?_))) rfl | exact Cells.le (by assumption) (by (repeat (first | assumption | exact Hp.le_refl _ | refine Hp.le_put_new ?_ (by (first | assumption | (simp; done) | (simp; omega) | omega)) _ | refine Hp.le_push' ?_ _ | refine Hp.le_trans ?_ (by assumption)))) (by (first | assumption | (simp; done) | (simp; omega) | omega))))) ?_
                first | refine aops_val (av_move_bool rfl) ?_ | refine aops_val (av_move rfl) ?_
                first | refine aops_val (av_move_sl (by first | assumption | rfl)) ?_ | refine aops_val (av_move (by first | assumption | rfl)) ?_
                refine aops_op (aop_call (same_item (hs9.getD 0 dItem) _ _ (decide (0 < hs9.length)) l9 _ ⟨_, rfl, hw10.mono (Hp.le_trans hle11 hq11.le).sees⟩ (hsl9.mono (Hp.le_trans (Hp.le_trans hle10 hle11) hq11.le).sees) (by omega) (few_good hl9) (by omega)) rfl Try.func20 rfl rfl rfl ?_)
                rintro v H ⟨rfl, rfl⟩
                refine aops_val (av_not rfl) ?_
                first | refine aops_val (av_move_bool rfl) ?_ | refine aops_val (av_move rfl) ?_
                refine aops_guard rfl rfl rfl ?_ ?_
                · intro hg20
                  exact absurd (sameF_head hB9) (by simpa using hg20)
                · intro hg20
                  have hp20 := hg20; try simp only [decide_eq_true_eq, decide_eq_false_iff_not, Bool.not_eq_true', Bool.not_eq_false'] at hp20
                  first | refine aops_wval (want_yes rfl rfl rfl hg20) (av_move_ptr (by first | assumption | rfl)) ?_ | refine aops_wval (want_yes rfl rfl rfl hg20) (av_move (by first | assumption | rfl)) ?_
                  refine aops_want (want_yes rfl rfl rfl hg20) (aop_call (Len_heap hq11) rfl Try.func19 rfl rfl rfl ?_)
                  rintro v11 _ ⟨rfl, rfl⟩
                  first | refine aops_wval (want_yes rfl rfl rfl hg20) (av_move_sl (by first | assumption | rfl)) ?_ | refine aops_wval (want_yes rfl rfl rfl hg20) (av_move (by first | assumption | rfl)) ?_
                  refine aops_wval (want_yes rfl rfl rfl hg20) (av_len rfl Try.underlying25) ?_
                  refine aops_wval (want_yes rfl rfl rfl hg20) (av_ne rfl rfl) ?_
                  refine aops_val (av_pick_bool (congrArg Value.bool hg20) rfl) ?_
                  first | refine aops_val (av_move_bool rfl) ?_ | refine aops_val (av_move rfl) ?_
                  refine aops_guard rfl rfl rfl ?_ ?_
                  · intro hg21
                    exact absurd (of_decide_eq_true hg21) (by simp [hlen9])
                  · intro hg21
                    have hp21 := hg21; try simp only [decide_eq_true_eq, decide_eq_false_iff_not, Bool.not_eq_true', Bool.not_eq_false'] at hp21
                    first | refine aops_wval (want_yes rfl rfl rfl hg21) (av_move_ptr (by first | assumption | rfl)) ?_ | refine aops_wval (want_yes rfl rfl rfl hg21) (av_move (by first | assumption | rfl)) ?_
                    refine aops_want (want_yes rfl rfl rfl hg21) (aop_call (List_heap hq11 (few_good hh9) (by omega) (fun x hx => by have := hh9 x hx; omega)) rfl Try.func22 rfl rfl rfl ?_)
                    rintro v12 H12 ⟨hle12, ys, hpy, hsy12, hsl12⟩
                    first | refine aops_wval (want_yes rfl rfl rfl hg21) (av_move_sl (by first | assumption | rfl)) ?_ | refine aops_wval (want_yes rfl rfl rfl hg21) (av_move (by first | assumption | rfl)) ?_
                    refine aops_want (want_yes rfl rfl rfl hg21) (aop_call (refSame_items ys l9 _ _ _ hsl12 (hsl9.mono (Hp.le_trans (Hp.le_trans (Hp.le_trans hle10 hle11) hq11.le) hle12).sees) (fun x hx => few_good hh9 x (hpy.mem_iff.1 hx)) (few_good hl9) (by have := hpy.length_eq; omega)) rfl Try.func13 rfl rfl rfl ?_)
                    rintro v H ⟨rfl, rfl⟩
                    refine aops_wval (want_yes rfl rfl rfl hg21) (av_not rfl) ?_
                    refine aops_val (av_pick_bool (congrArg Value.bool hg21) rfl) ?_
                    refine ac_split rfl rfl ?_ ?_
                    · intro hc22
                      exact absurd (sameL_self l9) (by have := sorted_unique (hpy.trans hB9.perm) hsy12 hB9.sorted; subst this; simpa using hc22)
                    · intro hc22
                      (try simp only [decide_eq_true_eq, decide_eq_false_iff_not, Bool.not_eq_true', Bool.not_eq_false'] at hc22)
                      refine ac_skip ?_
                      refine ac_region (by kernel_rfl) ?_
                      first | refine aops_val (av_move_int (by first | assumption | rfl)) ?_ | refine aops_val (av_move (by first | assumption | rfl)) ?_
                      first | refine aops_val (av_add64 rfl rfl (by (first | assumption | omega | (simp; omega)))) ?_ | refine aops_val (av_add rfl rfl) ?_
                      first | refine aops_val (av_assign_int rfl) ?_ | refine aops_val (av_assign rfl) ?_
                      obtain ⟨G13, hle13, hq13⟩ := hq11.grown hle12
                      have hle913 := Hp.le_trans (Hp.le_trans hle10 hle11) hle13
                      exact ⟨ps.length - (k + 1), by omega, k + 1, G13, hs9, l9, _, _, by omega, rfl, by omega, Hp.le_trans hle9 hle913, hq13, hB9, hl9, by omega, hsl9.mono hle913.sees, e2, e7, by first | rfl | exact e8, e11, rfl⟩
          · intro hc14
            (try simp only [decide_eq_true_eq, decide_eq_false_iff_not, Bool.not_eq_true', Bool.not_eq_false'] at hc14)
            refine ac_seq ?_
            refine ac_region (by kernel_rfl) ?_
            first | refine aops_val (av_move_ptr (by first | assumption | rfl)) ?_ | refine aops_val (av_move (by first | assumption | rfl)) ?_
            first | refine aops_val (av_move_sl (by first | assumption | rfl)) ?_ | refine aops_val (av_move (by first | assumption | rfl)) ?_
            first | refine aops_val (av_move_int (by first | assumption | rfl)) ?_ | refine aops_val (av_move (by first | assumption | rfl)) ?_
            have hiy : k < Y.length := by omega
            obtain ⟨b, o, cs, rfl, hb, ⟨w1, rfl, hw1⟩, hcell0⟩ := (hsy.mono hleG6.sees).elem_at hiy
            obtain ⟨A7, c7, rfl⟩ := hw1.shape
            have hcells := hq6.le.cells hb hcell0
            have hy5 := hY5 _ (List.getElem_mem hiy)
            refine aops_val (av_indexAddr rfl rfl Try.underlying25 inf24.size (by (first | assumption | omega | (simp only [Int.toNat_natCast] at *; omega))) (by (first | assumption | omega | (simp only [Int.toNat_natCast] at *; omega)))) ?_
            first | refine aops_val (av_loadN (cs := [.int .i64 _, .slice _ _ _, .int .i64 _, .int .i64 _]) rfl Try.underlying24 rfl inf24.size (by (first | assumption | exact cells_get (by (repeat (first | assumption | exact Hp.push_new _ _ | exact Hp.put_same _ _ _ | refine (Hp.push_old _ _ (by (first | assumption | (simp; done) | (simp; omega) | omega))).trans ?_ | refine (Hp.put_other _ _ (by (first | assumption | omega | (simp; done) | (simp; omega)))).trans ?_ | refine le_got (by assumption) (by (first | assumption | (simp; done) | (simp; omega) | omega)) (by intro e; cases e) ?_))) rfl | exact Cells.le (by assumption) (by (repeat (first | assumption | exact Hp.le_refl _ | refine Hp.le_put_new ?_ (by (first | assumption | (simp; done) | (simp; omega) | omega)) _ | refine Hp.le_push' ?_ _ | refine Hp.le_trans ?_ (by assumption)))) (by (first | assumption | (simp; done) | (simp; omega) | omega))))) ?_ | refine aops_val (av_loadN (cs := [.int .i64 _, _, .int .i64 _, .int .i64 _]) rfl Try.underlying24 rfl inf24.size (by (first | assumption | exact cells_get (by (repeat (first | assumption | exact Hp.push_new _ _ | exact Hp.put_same _ _ _ | refine (Hp.push_old _ _ (by (first | assumption | (simp; done) | (simp; omega) | omega))).trans ?_ | refine (Hp.put_other _ _ (by (first | assumption | omega | (simp; done) | (simp; omega)))).trans ?_ | refine le_got (by assumption) (by (first | assumption | (simp; done) | (simp; omega) | omega)) (by intro e; cases e) ?_))) rfl | exact Cells.le (by assumption) (by (repeat (first | assumption | exact Hp.le_refl _ | refine Hp.le_put_new ?_ (by (first | assumption | (simp; done) | (simp; omega) | omega)) _ | refine Hp.le_push' ?_ _ | refine Hp.le_trans ?_ (by assumption)))) (by (first | assumption | (simp; done) | (simp; omega) | omega))))) ?_
            refine aops_op (aop_call (hq6.calls (Item_item Y[k] _ _ ⟨_, rfl, hw1⟩ (by omega)) (fun _ _ h => h.1)) rfl Try.func8 rfl rfl rfl ?_)
            rintro v5 H7 ⟨G7, ⟨hle7, ds, rfl, hr7⟩, hq7, hleH7⟩; rw [hYc _ (List.getElem_mem hiy)] at hr7; obtain ⟨u7, rfl, hu7⟩ := hr7; obtain ⟨A70, c70, rfl⟩ := hu7.shape
            refine aops_op (aop_call (Push_heap hq7 ⟨_, rfl, hu7⟩ (few_good hh5) (by omega) (by omega)) rfl Try.func16 rfl rfl rfl ?_)
            rintro v6 H8 ⟨G8, hle8, hq8, rfl⟩
            refine ac_region (by kernel_rfl) ?_
            first | refine aops_val (av_move_sl (by first | assumption | rfl)) ?_ | refine aops_val (av_move (by first | assumption | rfl)) ?_
            first | refine aops_val (av_move_sl (by first | assumption | rfl)) ?_ | refine aops_val (av_move (by first | assumption | rfl)) ?_
            first | refine aops_val (av_move_int (by first | assumption | rfl)) ?_ | refine aops_val (av_move (by first | assumption | rfl)) ?_
            have hle68 := Hp.le_trans hle7 hle8
            have hcells7 := hq8.le.cells (Nat.lt_of_lt_of_le hb hle68.1) (hcell0.le hle68 hb)
            refine aops_val (av_indexAddr rfl rfl Try.underlying25 inf24.size (by (first | assumption | omega | (simp only [Int.toNat_natCast] at *; omega))) (by (first | assumption | omega | (simp only [Int.toNat_natCast] at *; omega)))) ?_
            first | refine aops_val (av_loadN (cs := [.int .i64 _, .slice _ _ _, .int .i64 _, .int .i64 _]) rfl Try.underlying24 rfl inf24.size (by (first | assumption | exact cells_get (by (repeat (first | assumption | exact Hp.push_new _ _ | exact Hp.put_same _ _ _ | refine (Hp.push_old _ _ (by (first | assumption | (simp; done) | (simp; omega) | omega))).trans ?_ | refine (Hp.put_other _ _ (by (first | assumption | omega | (simp; done) | (simp; omega)))).trans ?_ | refine le_got (by assumption) (by (first | assumption | (simp; done) | (simp; omega) | omega)) (by intro e; cases e) ?_))) rfl | exact Cells.le (by assumption) (by (repeat (first | assumption | exact Hp.le_refl _ | refine Hp.le_put_new ?_ (by (first | assumption | (simp; done) | (simp; omega) | omega)) _ | refine Hp.le_push' ?_ _ | refine Hp.le_trans ?_ (by assumption)))) (by (first | assumption | (simp; done) | (simp; omega) | omega))))) ?_ | refine aops_val (av_loadN (cs := [.int .i64 _, _, .int .i64 _, .int .i64 _]) rfl Try.underlying24 rfl inf24.size (by (first | assumption | exact cells_get (by (repeat (first | assumption | exact Hp.push_new _ _ | exact Hp.put_same _ _ _ | refine (Hp.push_old _ _ (by (first | assumption | (simp; done) | (simp; omega) | omega))).trans ?_ | refine (Hp.put_other _ _ (by (first | assumption | omega | (simp; done) | (simp; omega)))).trans ?_ | refine le_got (by assumption) (by (first | assumption | (simp; done) | (simp; omega) | omega)) (by intro e; cases e) ?_))) rfl | exact Cells.le (by assumption) (by (repeat (first | assumption | exact Hp.le_refl _ | refine Hp.le_put_new ?_ (by (first | assumption | (simp; done) | (simp; omega) | omega)) _ | refine Hp.le_push' ?_ _ | refine Hp.le_trans ?_ (by assumption)))) (by (first | assumption | (simp; done) | (simp; omega) | omega))))) ?_
            refine aops_op (aop_call (hq8.calls (refPush_items l6 Y[k] _ _ _ (hsl6.mono hle68.sees) ⟨_, rfl, hw1.mono hle68.sees⟩ (few_good hl6) (by omega) (by omega)) (fun _ _ h => h.1)) rfl Try.func17 rfl rfl rfl ?_)
            rintro v7 H9 ⟨G9, ⟨hle9a, hs9⟩, hq9, hleH9⟩; obtain ⟨B9, c9, rfl⟩ := hs9.shape
            have hle9 := Hp.le_trans hleG6 (Hp.le_trans hle68 hle9a)
            have hsl9 := hs9
            have hB9 := hB6.push Y[k]
            have hl9 := few_ins hl6 hy5
            have hn9 : (insM l6 Y[k]).length ≤ 13 + k := by rw [insM_length]; omega
            clear hs9
            obtain ⟨hs9, hhs9⟩ : ∃ z, z = pushM hs6 Y[k] := ⟨_, rfl⟩
            obtain ⟨l9, hl9e⟩ : ∃ z, z = insM l6 Y[k] := ⟨_, rfl⟩
            rw [← hl9e] at hsl9 hB9 hl9 hn9
            rw [← hhs9] at hq9 hB9
            try rw [← hl9e]
            first | refine aops_val (av_assign_sl rfl) ?_ | refine aops_val (av_assign rfl) ?_
            refine ac_seq ?_
            have hlen9 := hB9.length
            have hh9 := hB9.few hl9
            refine ac_region (by kernel_rfl) ?_
            first | refine aops_val (av_move_ptr (by first | assumption | rfl)) ?_ | refine aops_val (av_move (by first | assumption | rfl)) ?_
            refine aops_op (aop_call (Peek_heap hq9 (fun x hx => by have := hh9 x hx; omega)) rfl Try.func21 rfl rfl rfl ?_)
            rintro v10 H10 ⟨G10, cs10, hle10, hq10, rfl, hr10⟩; have hz10 := hq10.size; obtain ⟨w10, rfl, hw10⟩ := hr10; obtain ⟨A10, c10, rfl⟩ := hw10.shape
            refine aops_val (av_move rfl) ?_
            refine aops_val (av_extract rfl rfl) ?_
            refine aops_val (av_extract rfl rfl) ?_
            refine aops_make (am_zero (l := [.int .i64 0, .slice none 0 0, .int .i64 0, .int .i64 0]) inf24.zero rfl (by decide)) ?_
            first | refine aops_op (aop_putN (vs := [.int .i64 _, .slice _ _ _, .int .i64 _, .int .i64 _]) rfl rfl inf24.size (by (repeat (first | assumption | exact Hp.push_new _ _ | exact Hp.put_same _ _ _ | refine (Hp.push_old _ _ (by (first | assumption | (simp; done) | (simp; omega) | omega))).trans ?_ | refine (Hp.put_other _ _ (by (first | assumption | omega | (simp; done) | (simp; omega)))).trans ?_ | refine le_got (by assumption) (by (first | assumption | (simp; done) | (simp; omega) | omega)) (by intro e; cases e) ?_))) (by (first | (simp; done) | (simp; omega) | omega | (rw [setR_length (by first | (simp; omega) | omega)]; first | (simp; omega) | omega))) rfl rfl ?_) | refine aops_op (aop_putN (vs := [.int .i64 _, _, .int .i64 _, .int .i64 _]) rfl rfl inf24.size (by (repeat (first | assumption | exact Hp.push_new _ _ | exact Hp.put_same _ _ _ | refine (Hp.push_old _ _ (by (first | assumption | (simp; done) | (simp; omega) | omega))).trans ?_ | refine (Hp.put_other _ _ (by (first | assumption | omega | (simp; done) | (simp; omega)))).trans ?_ | refine le_got (by assumption) (by (first | assumption | (simp; done) | (simp; omega) | omega)) (by intro e; cases e) ?_))) (by (first | (simp; done) | (simp; omega) | omega | (rw [setR_length (by first | (simp; omega) | omega)]; first | (simp; omega) | omega))) rfl rfl ?_)
            first | refine aops_val (av_assign_bool rfl) ?_ | refine aops_val (av_assign rfl) ?_
            refine ac_seq ?_
            have hq11 := hq10.boxed [.int .i64 0, .slice none 0 0, .int .i64 0, .int .i64 0] [.int .i64 (hs9.getD 0 dItem).cost, .slice A10 (hs9.getD 0 dItem).nodes.length c10, .int .i64 (hs9.getD 0 dItem).place, .int .i64 (hs9.getD 0 dItem).rank]
            have hle11 : G10.le _ := Hp.le_put_new (b := H10.size) (G10.le_push (.own 0 [.int .i64 0, .slice none 0 0, .int .i64 0, .int .i64 0])) (by rw [hz10]; exact Nat.le_refl _) (.own 0 [.int .i64 (hs9.getD 0 dItem).cost, .slice A10 (hs9.getD 0 dItem).nodes.length c10, .int .i64 (hs9.getD 0 dItem).place, .int .i64 (hs9.getD 0 dItem).rank])
            have hg10 : (hs9.getD 0 dItem).nodes.length ≤ 5 := by
              by_cases h0 : 0 < hs9.length
              · rw [getD_item h0]; exact hh9 _ (List.getElem_mem h0)
              · rw [List.eq_nil_of_length_eq_zero (by omega : hs9.length = 0)]; exact Nat.zero_le _
            refine ac_region (by kernel_rfl) ?_
            first | refine aops_val (av_loadN (cs := [.int .i64 _, .slice _ _ _, .int .i64 _, .int .i64 _]) rfl Try.underlying24 rfl inf24.size (by (first | assumption | exact cells_get (by (repeat (first | assumption | exact Hp.push_new _ _ | exact Hp.put_same _ _ _ | refine (Hp.push_old _ _ (by (first | assumption | (simp; done) | (simp; omega) | omega))).trans ?_ | refine (Hp.put_other _ _ (by (first | assumption | omega | (simp; done) | (simp; omega)))).trans ?_ | refine le_got (by assumption) (by (first | assumption | (simp; done) | (simp; omega) | omega)) (by intro e; cases e) ?_))) rfl | exact Cells.le (by assumption) (by (repeat (first | assumption | exact Hp.le_refl _ | refine Hp.le_put_new ?_ (by (first | assumption | (simp; done) | (simp; omega) | omega)) _ | refine Hp.le_push' ?_ _ | refine Hp.le_trans ?_ (by assumption)))) (by (first | assumption | (simp; done) | (simp; omega) | omega))))) ?_ | refine aops_val (av_loadN (cs := [.int .i64 _, _, .int .i64 _, .int .i64 _]) rfl Try.underlying24 rfl inf24.size (by (first | assumption | exact cells_get (by (repeat (first | assumption | exact Hp.push_new _ _ | exact Hp.put_same _ _ _ | refine (Hp.push_old _ _ (by (first | assumption | (simp; done) | (simp; omega) | omega))).trans ?_ | refine (Hp.put_other _ _ (by (first | assumption | omega | (simp; done) | (simp; omega)))).trans ?_ | refine le_got (by assumption) (by (first | assumption | (simp; done) | (simp; omega) | omega)) (by intro e; cases e) ?_))) rfl | exact Cells.le (by assumption) (by (repeat (first | assumption | exact Hp.le_refl _ | refine Hp.le_put_new ?_ (by (first | assumption | (simp; done) | (simp; omega) | omega)) _ | refine Hp.le_push' ?_ _ | refine Hp.le_trans ?_ (by assumption)))) (by (first | assumption | (simp; done) | (simp; omega) | omega))))) ?_
            first | refine aops_val (av_move_bool rfl) ?_ | refine aops_val (av_move rfl) ?_
            first | refine aops_val (av_move_sl rfl) ?_ | refine aops_val (av_move rfl) ?_
            refine aops_op (aop_call (same_item (hs9.getD 0 dItem) _ _ (decide (0 < hs9.length)) l9 _ ⟨_, rfl, hw10.mono (Hp.le_trans hle11 hq11.le).sees⟩ (hsl9.mono (Hp.le_trans (Hp.le_trans hle10 hle11) hq11.le).sees) (by omega) (few_good hl9) (by omega)) rfl Try.func20 rfl rfl rfl ?_)
            rintro v H ⟨rfl, rfl⟩
            refine aops_val (av_not rfl) ?_
            first | refine aops_val (av_move_bool rfl) ?_ | refine aops_val (av_move rfl) ?_
            refine aops_guard rfl rfl rfl ?_ ?_
            · intro hg23
              exact absurd (sameF_head hB9) (by simpa using hg23)
            · intro hg23
              have hp23 := hg23; try simp only [decide_eq_true_eq, decide_eq_false_iff_not, Bool.not_eq_true', Bool.not_eq_false'] at hp23
              first | refine aops_wval (want_yes rfl rfl rfl hg23) (av_move_ptr (by first | assumption | rfl)) ?_ | refine aops_wval (want_yes rfl rfl rfl hg23) (av_move (by first | assumption | rfl)) ?_
              refine aops_want (want_yes rfl rfl rfl hg23) (aop_call (Len_heap hq11) rfl Try.func19 rfl rfl rfl ?_)
              rintro v11 _ ⟨rfl, rfl⟩
              first | refine aops_wval (want_yes rfl rfl rfl hg23) (av_move_sl rfl) ?_ | refine aops_wval (want_yes rfl rfl rfl hg23) (av_move rfl) ?_
              refine aops_wval (want_yes rfl rfl rfl hg23) (av_len rfl Try.underlying25) ?_
              refine aops_wval (want_yes rfl rfl rfl hg23) (av_ne rfl rfl) ?_
              refine aops_val (av_pick_bool (congrArg Value.bool hg23) rfl) ?_
              first | refine aops_val (av_move_bool rfl) ?_ | refine aops_val (av_move rfl) ?_
              refine aops_guard rfl rfl rfl ?_ ?_
              · intro hg24
                exact absurd (of_decide_eq_true hg24) (by simp [hlen9])
              · intro hg24
                have hp24 := hg24; try simp only [decide_eq_true_eq, decide_eq_false_iff_not, Bool.not_eq_true', Bool.not_eq_false'] at hp24
                first | refine aops_wval (want_yes rfl rfl rfl hg24) (av_move_ptr (by first | assumption | rfl)) ?_ | refine aops_wval (want_yes rfl rfl rfl hg24) (av_move (by first | assumption | rfl)) ?_
                refine aops_want (want_yes rfl rfl rfl hg24) (aop_call (List_heap hq11 (few_good hh9) (by omega) (fun x hx => by have := hh9 x hx; omega)) rfl Try.func22 rfl rfl rfl ?_)
                rintro v12 H12 ⟨hle12, ys, hpy, hsy12, hsl12⟩
                first | refine aops_wval (want_yes rfl rfl rfl hg24) (av_move_sl rfl) ?_ | refine aops_wval (want_yes rfl rfl rfl hg24) (av_move rfl) ?_
                refine aops_want (want_yes rfl rfl rfl hg24) (aop_call (refSame_items ys l9 _ _ _ hsl12 (hsl9.mono (Hp.le_trans (Hp.le_trans (Hp.le_trans hle10 hle11) hq11.le) hle12).sees) (fun x hx => few_good hh9 x (hpy.mem_iff.1 hx)) (few_good hl9) (by have := hpy.length_eq; omega)) rfl Try.func13 rfl rfl rfl ?_)
                rintro v H ⟨rfl, rfl⟩
                refine aops_wval (want_yes rfl rfl rfl hg24) (av_not rfl) ?_
                refine aops_val (av_pick_bool (congrArg Value.bool hg24) rfl) ?_
                refine ac_split rfl rfl ?_ ?_
                · intro hc25
                  exact absurd (sameL_self l9) (by have := sorted_unique (hpy.trans hB9.perm) hsy12 hB9.sorted; subst this; simpa using hc25)
                · intro hc25
                  (try simp only [decide_eq_true_eq, decide_eq_false_iff_not, Bool.not_eq_true', Bool.not_eq_false'] at hc25)
                  refine ac_skip ?_
                  refine ac_region (by kernel_rfl) ?_
                  first | refine aops_val (av_move_int (by first | assumption | rfl)) ?_ | refine aops_val (av_move (by first | assumption | rfl)) ?_
                  first | refine aops_val (av_add64 rfl rfl (by (first | assumption | omega | (simp; omega)))) ?_ | refine aops_val (av_add rfl rfl) ?_
                  first | refine aops_val (av_assign_int rfl) ?_ | refine aops_val (av_assign rfl) ?_
                  obtain ⟨G13, hle13, hq13⟩ := hq11.grown hle12
                  have hle913 := Hp.le_trans (Hp.le_trans hle10 hle11) hle13
                  exact ⟨ps.length - (k + 1), by omega, k + 1, G13, hs9, l9, _, _, by omega, rfl, by omega, Hp.le_trans hle9 hle913, hq13, hB9, hl9, by omega, hsl9.mono hle913.sees, e2, e7, by first | rfl | exact e8, e11, rfl⟩
      · intro hc3
        (try simp only [decide_eq_true_eq, decide_eq_false_iff_not, Bool.not_eq_true', Bool.not_eq_false'] at hc3)
        refine ac_exit ?_
        refine ac_seq ?_
        refine ac_region (by kernel_rfl) ?_
        refine aops_op (aop_call (lives_ok _) rfl Try.func14 rfl rfl rfl ?_)
        rintro v14 H14 ⟨rfl, hle14⟩
        first | refine aops_val (av_assign_bool rfl) ?_ | refine aops_val (av_assign rfl) ?_
        refine ac_ret ?_
        exact ⟨.bool true, aresult1 (ares_tmp rfl), rfl, Hp.le_trans (Hp.le_trans (Hp.le_trans hleHG5 hleG6) hq6.le) hle14⟩
    · intro hg2
      have hp2 := hg2; try simp only [decide_eq_true_eq, decide_eq_false_iff_not, Bool.not_eq_true', Bool.not_eq_false'] at hp2
      refine aops_skip (want_no rfl rfl rfl hg2 rfl) ?_
      refine aops_skip (want_no rfl rfl rfl hg2 rfl) ?_
      refine aops_val (av_pick_bool (congrArg Value.bool hg2) (by first | assumption | rfl)) ?_
      refine ac_cond_false rfl rfl ?_
      refine ac_exit ?_
      refine ac_seq ?_
      refine ac_region (by kernel_rfl) ?_
      refine aops_op (aop_call (lives_ok _) rfl Try.func14 rfl rfl rfl ?_)
      rintro v14 H14 ⟨rfl, hle14⟩
      first | refine aops_val (av_assign_bool rfl) ?_ | refine aops_val (av_assign rfl) ?_
      refine ac_ret ?_
      exact ⟨.bool true, aresult1 (ares_tmp rfl), rfl, Hp.le_trans (Hp.le_trans (Hp.le_trans hleHG5 hleG6) hq6.le) hle14⟩
end Go.Proofs.Ytinfigghaonceaa.Am
