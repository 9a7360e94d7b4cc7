/- Texts that the proof rests on, part 6: lemmas for every heap that is related to a world, no condition beyond each lemma's own. -/
import Derived.Test.YtnkjikpmgeknbaaHa5
import Derived.Test.YtnkjikpmgeknbaaHa1
import Derived.Test.YtnkjikpmgeknbaaAmRow
namespace Go.Proofs.Ytnkjikpmgeknbaa.Am
open Go Go.RowKit
set_option maxRecDepth 100000
set_option linter.unusedVariables false
set_option linter.unusedSimpArgs false

theorem withinR_left {p : Parts} (hb : NB p) (v u : Nat) : withinR (lk p v) (nd p u) (nd p v) = left p v u := by
  have key : ∀ (w : Nat) (a : Int), findI (nd p w) a a ≥ 0 ↔ a ∈ firsts (nd p w) := fun w a => by
    rw [findI_ge]
    constructor
    · intro ⟨y, hy, e, _⟩; exact List.mem_map.2 ⟨y, hy, e⟩
    · intro h
      obtain ⟨y, hy, e⟩ := List.mem_map.1 h
      exact ⟨y, hy, e, by rw [← hb w y hy]; exact e⟩
  unfold withinR left
  exact List.filter_congr fun x _ => by simp only [key]
theorem endedR_first (ns ls : List Link) : endedR ns ls false = ns.filter fun x => decide (x.a ∈ firsts ls) := by
  unfold endedR
  exact List.filter_congr fun x _ => by
    rw [Bool.eq_iff_iff, List.any_eq_true, decide_eq_true_eq]
    unfold firsts
    simp [List.mem_map]
theorem endedR_last (ns ls : List Link) : endedR ns ls true = ns.filter fun x => decide (x.a ∈ lasts ls) := by
  unfold endedR
  exact List.filter_congr fun x _ => by
    rw [Bool.eq_iff_iff, List.any_eq_true, decide_eq_true_eq]
    unfold lasts
    simp [List.mem_map]
def upR (f : Forest) (p : Parts) (k : Nat) : Parts := (f.order.reverse.take k).foldl (fun p v => upC f p v.toNat) p
def downR (f : Forest) (p : Parts) (k : Nat) : Parts := (f.order.take k).foldl (fun p v => downC f p v.toNat) p
theorem upR_succ (f : Forest) (p : Parts) {k : Nat} (h : k < f.order.length) : upR f p (k + 1) = upC f (upR f p k) (f.order.getD (f.order.length - 1 - k) 0).toNat := by
  unfold upR
  rw [List.take_succ_eq_append_getElem (by simpa using h), List.foldl_append]
  simp only [List.foldl_cons, List.foldl_nil]
  rw [List.getElem_reverse, getD_at (by omega)]
theorem downR_succ (f : Forest) (p : Parts) {k : Nat} (h : k < f.order.length) : downR f p (k + 1) = downC f (downR f p k) (f.order.getD k 0).toNat := by
  unfold downR
  rw [List.take_succ_eq_append_getElem h, List.foldl_append, getD_at h]
  rfl
theorem up_fold_ok {f : Forest} {n : Nat} : ∀ (vs : List Int) (p : Parts), (∀ v ∈ vs, v.toNat < n ∧ (par f v.toNat).toNat < n) → Lens n p → Lens n (vs.foldl (fun p v => upC f p v.toNat) p) ∧ Sub (vs.foldl (fun p v => upC f p v.toNat) p) p
  | [], p, _, h => ⟨h, Sub.refl p⟩
  | v :: vs, p, hv, h => by
    obtain ⟨h1, h2⟩ := hv v (by simp)
    obtain ⟨k1, k2⟩ := up_fold_ok vs (upC f p v.toNat) (fun w hw => hv w (by simp [hw])) (h.up _)
    exact ⟨k1, k2.trans (Sub.up h h2 h1)⟩
theorem down_fold_ok {f : Forest} {n : Nat} : ∀ (vs : List Int) (p : Parts), (∀ v ∈ vs, v.toNat < n) → Lens n p → Lens n (vs.foldl (fun p v => downC f p v.toNat) p) ∧ Sub (vs.foldl (fun p v => downC f p v.toNat) p) p
  | [], p, _, h => ⟨h, Sub.refl p⟩
  | v :: vs, p, hv, h => by
    have h1 := hv v (by simp)
    obtain ⟨k1, k2⟩ := down_fold_ok vs (downC f p v.toNat) (fun w hw => hv w (by simp [hw])) (h.down _)
    exact ⟨k1, k2.trans (Sub.down h h1)⟩
theorem upR_ok {f : Forest} {p : Parts} (h : GoodP f p) (k : Nat) : Lens f.vars.length (upR f p k) ∧ Sub (upR f p k) p :=
  up_fold_ok _ _ (fun v hv => by
    have hm := List.mem_reverse.1 (List.mem_of_mem_take hv)
    have h1 := h.gf.order_in hm
    have h2 := h.gf.parent_ge (v := v.toNat) (by omega)
    unfold par
    omega) h.lens
theorem downR_ok {f : Forest} {p : Parts} (h : GoodP f p) (k : Nat) : Lens f.vars.length (downR f p k) ∧ Sub (downR f p k) p :=
  down_fold_ok _ _ (fun v hv => by
    have h1 := h.gf.order_in (List.mem_of_mem_take hv)
    omega) h.lens
theorem upR_all {f : Forest} {p : Parts} (h : GoodP f p) : upR f p f.order.length = upP f p := by
  obtain ⟨_, _, _, k4⟩ := up_all h.gf f.order.reverse [] p rfl h.lens h.nb (fun v hv => by simp at hv)
  unfold upR
  rw [List.take_of_length_le (by simp)]
  exact k4.symm
theorem downR_all {f : Forest} {p : Parts} (h : GoodP f p) : downR f p f.order.length = downP f p := by
  unfold downR
  rw [List.take_of_length_le (Nat.le_refl _)]
  exact (down_fold _ _ (fun v hv => by have := h.gf.order_in hv; omega) h.lens h.nb).symm
theorem len_nd {n : Nat} {p q : Parts} (h : Sub q p) (hs : ∀ l ∈ p.nodes, l.length ≤ 1000000) (v : Nat) : (nd q v).length ≤ 1000000 := Nat.le_trans (h v).1.length_le (getD_len hs v)
theorem len_lk {n : Nat} {p q : Parts} (h : Sub q p) (hs : ∀ l ∈ p.links, l.length ≤ 1000000) (v : Nat) : (lk q v).length ≤ 1000000 := Nat.le_trans (h v).2.length_le (getD_len hs v)
set_option maxHeartbeats 2000000 in
theorem Up_ref (f : Forest) (p : Parts) (cs ds : List Value) (H : Hp) (hp : kForest.rep H f cs) (hq : kParts.rep H p ds) (hG : GoodP f p) (hsm : Small f p) :
    ACalls Try.prog 42 #[.agg cs.toArray, .agg ds.toArray] H (fun r H' => ∃ G' N L, H.le G' ∧ r = .agg #[N, L] ∧ PartsP G' H' N L (upP f p).nodes (upP f p).links) := by
  have hg := hG.gf
  have hq0 := hq
  obtain ⟨v0, v1, v2, v3, v4, rfl, hs0, hs1, hs2, hs3, hs4⟩ := hp
  obtain ⟨A0, c0, rfl⟩ := hs0.shape
  obtain ⟨A1, c1, rfl⟩ := hs1.shape
  obtain ⟨A2, c2, rfl⟩ := hs2.shape
  obtain ⟨A3, c3, rfl⟩ := hs3.shape
  obtain ⟨A4, c4, rfl⟩ := hs4.shape
  obtain ⟨u0, u1, rfl, hn0, hn1⟩ := hq
  obtain ⟨B0, d0, rfl⟩ := hn0.shape
  obtain ⟨B1, d1, rfl⟩ := hn1.shape
  have hgl := hg.l1
  have hgp := hg.l2
  have hvn := hsm.s0
  refine acalls_of_code Try.func42 rfl rfl rfl (by simp) ?_
  refine ac_seq ?_
  refine ac_region (by kernel_rfl) ?_
  refine aops_make (am_box_agg rfl) ?_
  refine aops_make (am_box_agg rfl) ?_
  refine aops_make (am_zero (l := [.slice none 0 0, .slice none 0 0]) inf65.zero rfl (by decide)) ?_
  refine ac_seq ?_
  refine ac_region (by kernel_rfl) ?_
  first | refine aops_val (av_loadN (cs := [.slice _ _ _, .slice _ _ _]) rfl Try.underlying65 rfl inf65.size t_cells) ?_ | refine aops_val (av_loadN (cs := [_, _]) rfl Try.underlying65 rfl inf65.size t_cells) ?_
  refine aops_op (aop_call (copied_parts p _ _ (kParts.mono t_sees hq0) hsm.s3 hsm.s4) rfl Try.func104 rfl rfl rfl ?_)
  rintro v5 H5 ⟨G5, N, L, hle5, rfl, hpp5⟩; obtain ⟨AN, cN, rfl⟩ := hpp5.slN.shape; obtain ⟨AL, cL, rfl⟩ := hpp5.slL.shape; have hz5 := hle5.1; simp only [Hp.push_size] at hz5; have hzz5 := hpp5.size; have h51 : G5.get (H.size + 1) = .own 0 [.slice B0 p.nodes.length d0, .slice B1 p.links.length d1] := le_got hle5 (by simp) (by intro e; cases e) t_get; have k51 := le_got hpp5.le (by omega) (by intro e; cases e) h51
  first | refine aops_op (aop_putN (vs := [.slice _ _ _, .slice _ _ _]) rfl rfl inf65.size t_get t_room rfl rfl ?_) | refine aops_op (aop_putN (vs := [_, _]) rfl rfl inf65.size t_get t_room rfl rfl ?_)
  refine ac_seq ?_
  refine ac_seq ?_
  have hlN := hG.n1
  have hlL := hG.n2
  rw [hlN, hlL] at hpp5
  obtain ⟨H6, hH6⟩ : ∃ H6, H6 = H5.put (H.size + 1) (.own 0 [.slice AN f.vars.length cN, .slice AL f.vars.length cL]) := ⟨_, rfl⟩
  obtain ⟨G6, hG6⟩ : ∃ G6, G6 = G5.put (H.size + 1) (.own 0 [.slice AN f.vars.length cN, .slice AL f.vars.length cL]) := ⟨_, rfl⟩
  have hpp6 : PartsP G6 H6 (.slice AN f.vars.length cN) (.slice AL f.vars.length cL) p.nodes p.links := by rw [hH6, hG6]; exact hpp5.box_put (by omega) h51 _
  have k0 : G6.get H.size = .own 0 [.slice A0 f.vars.length c0, .slice A1 f.order.length c1, .slice A2 f.parent.length c2, .slice A3 f.links.length c3, .slice A4 f.loops.length c4] := by rw [hG6, Hp.put_other _ _ (by omega)]; exact le_got hle5 (by simp; omega) (by intro e; cases e) t_get
  have k1 : G6.get (H.size + 1) = .own 0 [.slice AN f.vars.length cN, .slice AL f.vars.length cL] := by rw [hG6]; exact Hp.put_same _ _ _
  have k2 : G6.get (H.size + 2) = .own 0 [.slice none 0 0, .slice none 0 0] := by rw [hG6, Hp.put_other _ _ (by omega)]; exact le_got hle5 (by simp) (by intro e; cases e) t_get
  have hz6 : G6.size = G5.size := by rw [hG6]; simp
  have hzz6 := hpp6.size
  have hleH6 : H.le G6 := by rw [hG6]; exact Hp.le_put_new (Hp.le_trans (Hp.le_push' (Hp.le_push' (H.le_push _) _) _) hle5) (by omega) _
  have h0 := le_got hpp6.le (by omega) (by intro e; cases e) k0
  have h1 := le_got hpp6.le (by omega) (by intro e; cases e) k1
  have h2 := le_got hpp6.le (by omega) (by intro e; cases e) k2
  rw [hlN, hlL]
  change ACode true _ _ _ _ _ (H5.put (H.size + 1) (.own 0 [.slice AN f.vars.length cN, .slice AL f.vars.length cL]))
  rw [← hH6]
  refine ac_region (by kernel_rfl) ?_
  refine aops_val (av_fieldOff (off := 1) rfl Try.underlying62 rfl inf29.size (by decide) rfl) ?_
  refine aops_val (av_load1 rfl Try.underlying29 rfl t_cell) ?_
  refine aops_val (av_len rfl Try.underlying29) ?_
  first | refine aops_val (av_sub64 rfl rfl t_fits) ?_ | refine aops_val (av_sub rfl rfl) ?_
  first | refine aops_val (av_assign_int rfl) ?_ | refine aops_val (av_assign rfl) ?_
  refine ac_block ?_
  refine ac_loop (fun n t H' => ∃ (k : Nat) (G' : Hp), k ≤ f.order.length ∧ n = f.order.length - k ∧ G6.le G' ∧ PartsP G' H' (.slice AN f.vars.length cN) (.slice AL f.vars.length cL) (upR f p k).nodes (upR f p k).links ∧ t 2 = .pointer (some ⟨H.size, 0, none⟩) ∧ t 3 = .pointer (some ⟨H.size + 1, 0, none⟩) ∧ t 4 = .pointer (some ⟨H.size + 2, 0, none⟩) ∧ t 5 = .int .i64 ((f.order.length : Int) - 1 - k)) (f.order.length) (⟨0, G6, by omega, rfl, Hp.le_refl _, hpp6, rfl, rfl, rfl, (by refine congrArg (Value.int .i64) (?_ : (f.order.length : Int) - 1 = _); simp)⟩) ?_
  rintro n t H8 ⟨k, G8, hk, rfl, hle8, hpp8, e2, e3, e4, e5⟩
  obtain ⟨hlens, hsub⟩ := upR_ok hG k
  have hnb := hG.nb.sub hsub
  have hleH8 : H.le H8 := Hp.le_trans hleH6 (Hp.le_trans hle8 hpp8.le)
  have hz8 := hle8.1
  have kg0 := le_got hle8 (by omega) (by intro e; cases e) k0
  have kg1 := le_got hle8 (by omega) (by intro e; cases e) k1
  have kg2 := le_got hle8 (by omega) (by intro e; cases e) k2
  have hg0 := le_got hpp8.le (by omega) (by intro e; cases e) kg0
  have hg1 := le_got hpp8.le (by omega) (by intro e; cases e) kg1
  have hg2 := le_got hpp8.le (by omega) (by intro e; cases e) kg2
  have hzz8 := hpp8.size
  refine ac_seq ?_
  refine ac_seq ?_
  refine ac_region (by kernel_rfl) ?_
  first | refine aops_val (av_move_int (by first | assumption | rfl)) ?_ | refine aops_val (av_move (by first | assumption | rfl)) ?_
  refine aops_val (av_ge rfl rfl) ?_
  refine ac_split rfl rfl ?_ ?_
  · intro hc1
    (try simp only [decide_eq_true_eq, decide_eq_false_iff_not, Bool.not_eq_true', Bool.not_eq_false'] at hc1)
    refine ac_skip ?_
    refine ac_seq ?_
    refine ac_block ?_
    refine ac_seq ?_
    have hk' : k < f.order.length := by omega
    have hik : f.order.length - 1 - k < f.order.length := by omega
    have hwm : f.order.getD (f.order.length - 1 - k) 0 ∈ f.order := by rw [getD_at hik]; exact List.getElem_mem hik
    obtain ⟨b1, o1, rfl, hb1, hcell1⟩ := hs1.int_at (i := ((f.order.length : Int) - 1 - k)) (by omega) (by omega)
    have hcell1' := hleH8.cell1 hb1 hcell1
    obtain ⟨w, hw⟩ : ∃ w : Nat, f.order.getD (f.order.length - 1 - k) 0 = (w : Int) := ⟨(f.order.getD (f.order.length - 1 - k) 0).toNat, by have := hg.order_in hwm; omega⟩
    have hwn : w < f.vars.length := by have := hg.order_in hwm; omega
    have hsucc := upR_succ f p hk'
    rw [hw, Int.toNat_natCast] at hsucc
    rw [show f.order.getD (((f.order.length : Int) - 1 - k) : Int).toNat 0 = (w : Int) by rw [show (((f.order.length : Int) - 1 - k) : Int).toNat = f.order.length - 1 - k by omega]; exact hw] at hcell1'
    have hge := hg.parent_ge hwn
    obtain ⟨b2, o2, rfl, hb2, hcell2⟩ := hs2.int_at (i := (w : Int)) (by omega) (by omega)
    rw [Int.toNat_natCast] at hcell2
    have hcell2' := hleH8.cell1 hb2 hcell2
    skip
    refine ac_region (by kernel_rfl) ?_
    refine aops_val (av_fieldOff (off := 1) (by first | assumption | rfl) Try.underlying62 (by first | assumption | rfl) inf29.size (by decide) (by first | assumption | rfl)) ?_
    refine aops_val (av_load1 rfl Try.underlying29 rfl t_cell) ?_
    first | refine aops_val (av_move_int (by first | assumption | rfl)) ?_ | refine aops_val (av_move (by first | assumption | rfl)) ?_
    refine aops_val (av_indexAddr rfl rfl Try.underlying29 inf3.size t_idx t_idx) ?_
    refine aops_val (av_load1 rfl Try.underlying3 rfl t_cell) ?_
    first | refine aops_val (av_assign_int rfl) ?_ | refine aops_val (av_assign rfl) ?_
    refine ac_seq ?_
    refine ac_region (by kernel_rfl) ?_
    refine aops_val (av_fieldOff (off := 2) (by first | assumption | rfl) Try.underlying62 (by first | assumption | rfl) inf29.size (by decide) (by first | assumption | rfl)) ?_
    refine aops_val (av_load1 rfl Try.underlying29 rfl t_cell) ?_
    first | refine aops_val (av_move_int rfl) ?_ | refine aops_val (av_move rfl) ?_
    refine aops_val (av_indexAddr rfl rfl Try.underlying29 inf3.size t_idx t_idx) ?_
    refine aops_val (av_load1 rfl Try.underlying3 rfl t_cell) ?_
    first | refine aops_val (av_assign_int rfl) ?_ | refine aops_val (av_assign rfl) ?_
    refine ac_seq ?_
    refine ac_region (by kernel_rfl) ?_
    first | refine aops_val (av_move_int rfl) ?_ | refine aops_val (av_move rfl) ?_
    refine aops_val (av_ge rfl rfl) ?_
    refine ac_split rfl rfl ?_ ?_
    · intro hc2
      have hpar : f.parent.getD w 0 ≥ 0 := of_decide_eq_true hc2
      obtain ⟨u, hu⟩ : ∃ u : Nat, f.parent.getD w 0 = (u : Int) := ⟨(f.parent.getD w 0).toNat, by omega⟩
      have hun : u < f.vars.length := by omega
      have hpu : par f w = (u : Int) := hu
      unfold upC at hsucc
      rw [if_neg (by rw [hpu]; omega), hpu, Int.toNat_natCast] at hsucc
      rw [hu]
      refine ac_seq ?_
      have hlq1 := hlens.1
      have hlq2 := hlens.2
      obtain ⟨Q, hQ⟩ : ∃ Q, Q = upR f p k := ⟨_, rfl⟩
      rw [← hQ] at hsucc hpp8 hlq1 hlq2 hsub hnb
      obtain ⟨bL, xL, csL, wv, eL, hbL, hgL, hcellL, hcsL, hwv⟩ := hpp8.spotL (i := w) (by omega)
      injection eL with eL1 eL2 eL3
      subst eL1
      obtain ⟨bN, xN, csN, wu, eN, hbN, hgN, hcellNu, hcsN, hwu⟩ := hpp8.spotN (i := u) (by omega)
      injection eN with eN1 eN2 eN3
      subst eN1
      obtain ⟨bM, xM, csM, ww, eM, hbM, hgM, hcellNw, hcsM, hww⟩ := hpp8.spotN (i := w) (by omega)
      simp only [Value.slice.injEq, Option.some.injEq, Addr.mk.injEq, and_true] at eM
      obtain ⟨rfl, eM2, eM3⟩ := eM
      obtain ⟨Av, cv, rfl⟩ := hwv.shape
      obtain ⟨Au, cu, rfl⟩ := hwu.shape
      obtain ⟨Aw, cw, rfl⟩ := hww.shape
      have gLv : Q.links[w]'(by omega) = lk Q w := (getD_list (by omega)).symm
      have gNu : Q.nodes[u]'(by omega) = nd Q u := (getD_list (by omega)).symm
      have gNw : Q.nodes[w]'(by omega) = nd Q w := (getD_list (by omega)).symm
      rw [gLv] at hwv hcellL
      rw [gNu] at hwu hcellNu
      rw [gNw] at hww hcellNw
      refine ac_draw (by kernel_rfl) (reg_of (B := [0, 1, 0, 0, 8, 0, 56, 120, 0, 256, 0, 1792, 3840, 0, 8192, 0, 57344, 122880, 262136, 524287, 1048575]) (π := [0, 1, 2, 3, 4, 5, 6, 7, 8, 9, 10, 11, 12, 13, 14, 15, 16, 17, 18, 19, 20]) (by kernel_rfl)) ?_
      refine adr_val rfl rfl (av_fieldOff (off := 1) (by first | assumption | rfl) Try.underlying65 (by first | assumption | rfl) inf63.size (by decide) (by first | assumption | rfl)) t_lt ?_
      refine adr_val rfl rfl (av_load1 rfl Try.underlying63 rfl t_cell) t_lt ?_
      first | refine adr_val rfl rfl (av_move_int rfl) t_lt ?_ | refine adr_val rfl rfl (av_move rfl) t_lt ?_
      refine adr_val rfl rfl (av_fieldOff (off := 1) (by first | assumption | rfl) Try.underlying65 (by first | assumption | rfl) inf63.size (by decide) (by first | assumption | rfl)) t_lt ?_
      refine adr_val rfl rfl (av_load1 rfl Try.underlying63 rfl t_cell) t_lt ?_
      first | refine adr_val rfl rfl (av_move_int rfl) t_lt ?_ | refine adr_val rfl rfl (av_move rfl) t_lt ?_
      refine adr_val rfl rfl (av_indexAddr rfl rfl Try.underlying63 inf22.size t_idx t_idx) t_lt ?_
      refine adr_val rfl rfl (av_load1 rfl Try.underlying22 rfl t_cell) t_lt ?_
      refine adr_val rfl rfl (av_fieldOff (off := 0) (by first | assumption | rfl) Try.underlying65 (by first | assumption | rfl) inf63.size (by decide) (by first | assumption | rfl)) t_lt ?_
      refine adr_val rfl rfl (av_load1 rfl Try.underlying63 rfl t_cell) t_lt ?_
      first | refine adr_val rfl rfl (av_move_int rfl) t_lt ?_ | refine adr_val rfl rfl (av_move rfl) t_lt ?_
      refine adr_val rfl rfl (av_indexAddr rfl rfl Try.underlying63 inf22.size t_idx t_idx) t_lt ?_
      refine adr_val rfl rfl (av_load1 rfl Try.underlying22 rfl t_cell) t_lt ?_
      refine adr_val rfl rfl (av_fieldOff (off := 0) (by first | assumption | rfl) Try.underlying65 (by first | assumption | rfl) inf63.size (by decide) (by first | assumption | rfl)) t_lt ?_
      refine adr_val rfl rfl (av_load1 rfl Try.underlying63 rfl t_cell) t_lt ?_
      first | refine adr_val rfl rfl (av_move_int rfl) t_lt ?_ | refine adr_val rfl rfl (av_move rfl) t_lt ?_
      refine adr_val rfl rfl (av_indexAddr rfl rfl Try.underlying63 inf22.size t_idx t_idx) t_lt ?_
      refine adr_val rfl rfl (av_load1 rfl Try.underlying22 rfl t_cell) t_lt ?_
      refine adr_op rfl rfl (aop_call (within_ref (lk Q w) (nd Q u) (nd Q w) _ _ _ _ hwv hwu hww (len_lk (n := 0) hsub hsm.s6 w) (len_nd (n := 0) hsub hsm.s5 u) (len_nd (n := 0) hsub hsm.s5 w)) rfl Try.func105 rfl rfl rfl ?_)
      rintro v9 H9 ⟨G9, hle9, hown9⟩; rw [withinR_left hnb] at hown9; have hleC9 := Hp.le_trans hle9 hown9.le; obtain ⟨A9, c9, rfl⟩ := hown9.shape; have hg9 := le_got hleC9 hbL (by intro e; cases e) hgL; have hz9 := hleC9.1
      refine ⟨t_pend, ?_⟩
      refine adr_val rfl rfl (av_indexAddr rfl rfl Try.underlying63 inf22.size t_idx t_idx) t_lt ?_
      first | refine adr_op rfl rfl (aop_put1 rfl rfl rfl inf22.size t_get t_room rfl ?_)
      refine ⟨t_pend, ?_⟩
      obtain ⟨G10, hle10, hpp10⟩ := hpp8.storeL hleC9 hown9.sl (i := w) (by omega) hg9 (off := 0 + (w : Int).toNat * 1) (by simp)
      rw [setR_one (by simp; omega)] at hpp10
      obtain ⟨H10, hH10⟩ : ∃ H10, H10 = H9.put bL (.own 1 (csL.set (0 + (w : Int).toNat * 1) (.slice A9 (left Q w u).length c9))) := ⟨_, rfl⟩
      rw [← hH10] at hpp10
      change ACode true _ _ _ _ _ (H9.put bL (.own 1 (csL.set (0 + (w : Int).toNat * 1) (.slice A9 (left Q w u).length c9))))
      rw [← hH10]
      have hz10 := hle10.1
      have hzz10 := hpp10.size
      have kg01 := le_got hle10 (by omega) (by intro e; cases e) kg1
      have hg11 := le_got hpp10.le (by omega) (by intro e; cases e) kg01
      have hlset : (Q.links.set w (left Q w u)).length = f.vars.length := by simp [hlq2]
      obtain ⟨bK, xK, csK, wk, eK, hbK, hgK, hcellK, hcsK, hwk⟩ := hpp10.spotL (i := w) (by omega)
      simp only [Value.slice.injEq, Option.some.injEq, Addr.mk.injEq, and_true] at eK
      obtain ⟨rfl, eK2, eK3⟩ := eK
      obtain ⟨bJ, xJ, csJ, wj, eJ, hbJ, hgJ, hcellJ, hcsJ, hwj⟩ := hpp10.spotN (i := u) (by omega)
      simp only [Value.slice.injEq, Option.some.injEq, Addr.mk.injEq, and_true] at eJ
      obtain ⟨rfl, eJ2, eJ3⟩ := eJ
      obtain ⟨Ak, ck, rfl⟩ := hwk.shape
      obtain ⟨Aj, cj, rfl⟩ := hwj.shape
      have gKw : (Q.links.set w (left Q w u))[w]'(by omega) = left Q w u := by simp
      have gJ : Q.nodes[u]'(by omega) = nd Q u := (getD_list (by omega)).symm
      rw [gKw] at hwk hcellK
      rw [gJ] at hwj hcellJ
      have hlleft : (left Q w u).length ≤ 1000000 := Nat.le_trans (List.length_filter_le _ _) (len_lk (n := 0) hsub hsm.s6 w)
      refine ac_draw (by kernel_rfl) (reg_of (B := [0, 1, 0, 0, 8, 0, 56, 120, 0, 256, 0, 1792, 3840, 8184, 16383, 32767]) (π := [0, 1, 2, 3, 4, 5, 6, 7, 8, 9, 10, 11, 12, 13, 14, 15]) (by kernel_rfl)) ?_
      refine adr_val rfl rfl (av_fieldOff (off := 0) (by first | assumption | rfl) Try.underlying65 (by first | assumption | rfl) inf63.size (by decide) (by first | assumption | rfl)) t_lt ?_
      refine adr_val rfl rfl (av_load1 rfl Try.underlying63 rfl t_cell) t_lt ?_
      first | refine adr_val rfl rfl (av_move_int rfl) t_lt ?_ | refine adr_val rfl rfl (av_move rfl) t_lt ?_
      refine adr_val rfl rfl (av_fieldOff (off := 0) (by first | assumption | rfl) Try.underlying65 (by first | assumption | rfl) inf63.size (by decide) (by first | assumption | rfl)) t_lt ?_
      refine adr_val rfl rfl (av_load1 rfl Try.underlying63 rfl t_cell) t_lt ?_
      first | refine adr_val rfl rfl (av_move_int rfl) t_lt ?_ | refine adr_val rfl rfl (av_move rfl) t_lt ?_
      refine adr_val rfl rfl (av_indexAddr rfl rfl Try.underlying63 inf22.size t_idx t_idx) t_lt ?_
      refine adr_val rfl rfl (av_load1 rfl Try.underlying22 rfl t_cell) t_lt ?_
      refine adr_val rfl rfl (av_fieldOff (off := 1) (by first | assumption | rfl) Try.underlying65 (by first | assumption | rfl) inf63.size (by decide) (by first | assumption | rfl)) t_lt ?_
      refine adr_val rfl rfl (av_load1 rfl Try.underlying63 rfl t_cell) t_lt ?_
      first | refine adr_val rfl rfl (av_move_int rfl) t_lt ?_ | refine adr_val rfl rfl (av_move rfl) t_lt ?_
      refine adr_val rfl rfl (av_indexAddr rfl rfl Try.underlying63 inf22.size t_idx t_idx) t_lt ?_
      refine adr_val rfl rfl (av_load1 rfl Try.underlying22 rfl t_cell) t_lt ?_
      refine adr_op rfl rfl (aop_call (ended_ref (nd Q u) (left Q w u) false _ _ _ hwj hwk (len_nd (n := 0) hsub hsm.s5 u) hlleft) rfl Try.func106 rfl rfl rfl ?_)
      rintro v11 H11 ⟨G11, hle11, hown11⟩; rw [endedR_first] at hown11; have hleC11 := Hp.le_trans hle11 hown11.le; obtain ⟨A11, c11, rfl⟩ := hown11.shape; have hg12 := le_got hleC11 hbJ (by intro e; cases e) hgJ; have hz11 := hleC11.1
      refine ⟨t_pend, ?_⟩
      refine adr_val rfl rfl (av_indexAddr rfl rfl Try.underlying63 inf22.size t_idx t_idx) t_lt ?_
      first | refine adr_op rfl rfl (aop_put1 rfl rfl rfl inf22.size t_get t_room rfl ?_)
      refine ⟨t_pend, ?_⟩
      refine ac_region (by kernel_rfl) ?_
      first | refine aops_val (av_move_int (by first | assumption | rfl)) ?_ | refine aops_val (av_move (by first | assumption | rfl)) ?_
      first | refine aops_val (av_sub64 rfl rfl t_fits) ?_ | refine aops_val (av_sub rfl rfl) ?_
      first | refine aops_val (av_assign_int rfl) ?_ | refine aops_val (av_assign rfl) ?_
      first
        | (obtain ⟨G12, hle12, hpp12⟩ := hpp10.storeN hleC11 hown11.sl (i := u) (by omega) hg12 (off := 0 + (u : Int).toNat * 1) (by simp)
           rw [setR_one (by simp; omega)] at hpp12
           exact ⟨f.order.length - (k + 1), by omega, k + 1, G12, by omega, rfl, Hp.le_trans hle8 (Hp.le_trans hle10 hle12), by rw [hsucc]; exact hpp12, e2, e3, e4, (by refine congrArg (Value.int .i64) (?_ : (f.order.length : Int) - 1 - k - 1 = _); omega)⟩)
        | (exact ⟨f.order.length - (k + 1), by omega, k + 1, G8, by omega, rfl, hle8, by rw [hsucc]; exact hpp8, e2, e3, e4, (by refine congrArg (Value.int .i64) (?_ : (f.order.length : Int) - 1 - k - 1 = _); omega)⟩)
    · intro hc2
      have hpar : ¬ f.parent.getD w 0 ≥ 0 := of_decide_eq_false hc2
      unfold upC at hsucc
      rw [if_pos (by unfold par; omega)] at hsucc
      refine ac_skip ?_
      refine ac_region (by kernel_rfl) ?_
      first | refine aops_val (av_move_int (by first | assumption | rfl)) ?_ | refine aops_val (av_move (by first | assumption | rfl)) ?_
      first | refine aops_val (av_sub64 rfl rfl t_fits) ?_ | refine aops_val (av_sub rfl rfl) ?_
      first | refine aops_val (av_assign_int rfl) ?_ | refine aops_val (av_assign rfl) ?_
      first
        | (obtain ⟨G12, hle12, hpp12⟩ := hpp10.storeN hleC11 hown11.sl (i := u) (by omega) hg12 (off := 0 + (u : Int).toNat * 1) (by simp)
           rw [setR_one (by simp; omega)] at hpp12
           exact ⟨f.order.length - (k + 1), by omega, k + 1, G12, by omega, rfl, Hp.le_trans hle8 (Hp.le_trans hle10 hle12), by rw [hsucc]; exact hpp12, e2, e3, e4, (by refine congrArg (Value.int .i64) (?_ : (f.order.length : Int) - 1 - k - 1 = _); omega)⟩)
        | (exact ⟨f.order.length - (k + 1), by omega, k + 1, G8, by omega, rfl, hle8, by rw [hsucc]; exact hpp8, e2, e3, e4, (by refine congrArg (Value.int .i64) (?_ : (f.order.length : Int) - 1 - k - 1 = _); omega)⟩)
  · intro hc1
    (try simp only [decide_eq_true_eq, decide_eq_false_iff_not, Bool.not_eq_true', Bool.not_eq_false'] at hc1)
    refine ac_exit ?_
    refine ac_seq ?_
    have hkn : k = f.order.length := by omega
    subst hkn
    rw [upR_all hG] at hpp8
    refine ac_region (by kernel_rfl) ?_
    first | refine aops_val (av_loadN (cs := [.slice _ _ _, .slice _ _ _]) (by first | assumption | rfl) Try.underlying65 (by first | assumption | rfl) inf65.size t_cells) ?_ | refine aops_val (av_loadN (cs := [_, _]) (by first | assumption | rfl) Try.underlying65 (by first | assumption | rfl) inf65.size t_cells) ?_
    first | refine aops_op (aop_putN (vs := [.slice _ _ _, .slice _ _ _]) (by first | assumption | rfl) (by first | assumption | rfl) inf65.size t_get t_room (by first | assumption | rfl) (by first | assumption | rfl) ?_) | refine aops_op (aop_putN (vs := [_, _]) (by first | assumption | rfl) (by first | assumption | rfl) inf65.size t_get t_room (by first | assumption | rfl) (by first | assumption | rfl) ?_)
    refine ac_ret ?_
    exact ⟨_, aresult1 (ares_cell (by first | assumption | rfl) (aload_agg (cs := [.slice AN f.vars.length cN, .slice AL f.vars.length cL]) Try.underlying65 rfl inf65.size t_cells)), _, _, _, Hp.le_put_new (Hp.le_trans hleH6 hle8) (by omega) _, rfl, hpp8.box_put (by omega) kg2 _⟩
set_option maxHeartbeats 2000000 in
theorem Down_ref (f : Forest) (p : Parts) (cs ds : List Value) (H : Hp) (hp : kForest.rep H f cs) (hq : kParts.rep H p ds) (hG : GoodP f p) (hsm : Small f p) :
    ACalls Try.prog 43 #[.agg cs.toArray, .agg ds.toArray] H (fun r H' => ∃ G' N L, H.le G' ∧ r = .agg #[N, L] ∧ PartsP G' H' N L (downP f p).nodes (downP f p).links) := by
  have hg := hG.gf
  have hq0 := hq
  obtain ⟨v0, v1, v2, v3, v4, rfl, hs0, hs1, hs2, hs3, hs4⟩ := hp
  obtain ⟨A0, c0, rfl⟩ := hs0.shape
  obtain ⟨A1, c1, rfl⟩ := hs1.shape
  obtain ⟨A2, c2, rfl⟩ := hs2.shape
  obtain ⟨A3, c3, rfl⟩ := hs3.shape
  obtain ⟨A4, c4, rfl⟩ := hs4.shape
  obtain ⟨u0, u1, rfl, hn0, hn1⟩ := hq
  obtain ⟨B0, d0, rfl⟩ := hn0.shape
  obtain ⟨B1, d1, rfl⟩ := hn1.shape
  have hgl := hg.l1
  have hgp := hg.l2
  have hvn := hsm.s0
  refine acalls_of_code Try.func43 rfl rfl rfl (by simp) ?_
  refine ac_seq ?_
  refine ac_region (by kernel_rfl) ?_
  refine aops_make (am_box_agg rfl) ?_
  refine aops_make (am_box_agg rfl) ?_
  refine aops_make (am_zero (l := [.slice none 0 0, .slice none 0 0]) inf65.zero rfl (by decide)) ?_
  refine ac_seq ?_
  refine ac_region (by kernel_rfl) ?_
  first | refine aops_val (av_loadN (cs := [.slice _ _ _, .slice _ _ _]) rfl Try.underlying65 rfl inf65.size t_cells) ?_ | refine aops_val (av_loadN (cs := [_, _]) rfl Try.underlying65 rfl inf65.size t_cells) ?_
  refine aops_op (aop_call (copied_parts p _ _ (kParts.mono t_sees hq0) hsm.s3 hsm.s4) rfl Try.func104 rfl rfl rfl ?_)
  rintro v5 H5 ⟨G5, N, L, hle5, rfl, hpp5⟩; obtain ⟨AN, cN, rfl⟩ := hpp5.slN.shape; obtain ⟨AL, cL, rfl⟩ := hpp5.slL.shape; have hz5 := hle5.1; simp only [Hp.push_size] at hz5; have hzz5 := hpp5.size; have h51 : G5.get (H.size + 1) = .own 0 [.slice B0 p.nodes.length d0, .slice B1 p.links.length d1] := le_got hle5 (by simp) (by intro e; cases e) t_get; have k51 := le_got hpp5.le (by omega) (by intro e; cases e) h51
  first | refine aops_op (aop_putN (vs := [.slice _ _ _, .slice _ _ _]) rfl rfl inf65.size t_get t_room rfl rfl ?_) | refine aops_op (aop_putN (vs := [_, _]) rfl rfl inf65.size t_get t_room rfl rfl ?_)
  refine ac_seq ?_
  refine ac_seq ?_
  have hlN := hG.n1
  have hlL := hG.n2
  rw [hlN, hlL] at hpp5
  obtain ⟨H6, hH6⟩ : ∃ H6, H6 = H5.put (H.size + 1) (.own 0 [.slice AN f.vars.length cN, .slice AL f.vars.length cL]) := ⟨_, rfl⟩
  obtain ⟨G6, hG6⟩ : ∃ G6, G6 = G5.put (H.size + 1) (.own 0 [.slice AN f.vars.length cN, .slice AL f.vars.length cL]) := ⟨_, rfl⟩
  have hpp6 : PartsP G6 H6 (.slice AN f.vars.length cN) (.slice AL f.vars.length cL) p.nodes p.links := by rw [hH6, hG6]; exact hpp5.box_put (by omega) h51 _
  have k0 : G6.get H.size = .own 0 [.slice A0 f.vars.length c0, .slice A1 f.order.length c1, .slice A2 f.parent.length c2, .slice A3 f.links.length c3, .slice A4 f.loops.length c4] := by rw [hG6, Hp.put_other _ _ (by omega)]; exact le_got hle5 (by simp; omega) (by intro e; cases e) t_get
  have k1 : G6.get (H.size + 1) = .own 0 [.slice AN f.vars.length cN, .slice AL f.vars.length cL] := by rw [hG6]; exact Hp.put_same _ _ _
  have k2 : G6.get (H.size + 2) = .own 0 [.slice none 0 0, .slice none 0 0] := by rw [hG6, Hp.put_other _ _ (by omega)]; exact le_got hle5 (by simp) (by intro e; cases e) t_get
  have hz6 : G6.size = G5.size := by rw [hG6]; simp
  have hzz6 := hpp6.size
  have hleH6 : H.le G6 := by rw [hG6]; exact Hp.le_put_new (Hp.le_trans (Hp.le_push' (Hp.le_push' (H.le_push _) _) _) hle5) (by omega) _
  have h0 := le_got hpp6.le (by omega) (by intro e; cases e) k0
  have h1 := le_got hpp6.le (by omega) (by intro e; cases e) k1
  have h2 := le_got hpp6.le (by omega) (by intro e; cases e) k2
  rw [hlN, hlL]
  change ACode true _ _ _ _ _ (H5.put (H.size + 1) (.own 0 [.slice AN f.vars.length cN, .slice AL f.vars.length cL]))
  rw [← hH6]
  refine ac_region (by kernel_rfl) ?_
  first | refine aops_val (av_assign_int rfl) ?_ | refine aops_val (av_assign rfl) ?_
  refine ac_block ?_
  refine ac_loop (fun n t H' => ∃ (k : Nat) (G' : Hp), k ≤ f.order.length ∧ n = f.order.length - k ∧ G6.le G' ∧ PartsP G' H' (.slice AN f.vars.length cN) (.slice AL f.vars.length cL) (downR f p k).nodes (downR f p k).links ∧ t 2 = .pointer (some ⟨H.size, 0, none⟩) ∧ t 3 = .pointer (some ⟨H.size + 1, 0, none⟩) ∧ t 4 = .pointer (some ⟨H.size + 2, 0, none⟩) ∧ t 5 = .int .i64 (k : Int)) (f.order.length) (⟨0, G6, by omega, rfl, Hp.le_refl _, hpp6, rfl, rfl, rfl, rfl⟩) ?_
  rintro n t H8 ⟨k, G8, hk, rfl, hle8, hpp8, e2, e3, e4, e5⟩
  obtain ⟨hlens, hsub⟩ := downR_ok hG k
  have hnb := hG.nb.sub hsub
  have hleH8 : H.le H8 := Hp.le_trans hleH6 (Hp.le_trans hle8 hpp8.le)
  have hz8 := hle8.1
  have kg0 := le_got hle8 (by omega) (by intro e; cases e) k0
  have kg1 := le_got hle8 (by omega) (by intro e; cases e) k1
  have kg2 := le_got hle8 (by omega) (by intro e; cases e) k2
  have hg0 := le_got hpp8.le (by omega) (by intro e; cases e) kg0
  have hg1 := le_got hpp8.le (by omega) (by intro e; cases e) kg1
  have hg2 := le_got hpp8.le (by omega) (by intro e; cases e) kg2
  have hzz8 := hpp8.size
  refine ac_seq ?_
  refine ac_seq ?_
  refine ac_region (by kernel_rfl) ?_
  first | refine aops_val (av_move_int (by first | assumption | rfl)) ?_ | refine aops_val (av_move (by first | assumption | rfl)) ?_
  refine aops_val (av_fieldOff (off := 1) (by first | assumption | rfl) Try.underlying62 (by first | assumption | rfl) inf29.size (by decide) (by first | assumption | rfl)) ?_
  refine aops_val (av_load1 rfl Try.underlying29 rfl t_cell) ?_
  refine aops_val (av_len rfl Try.underlying29) ?_
  refine aops_val (av_lt rfl rfl) ?_
  refine ac_split rfl rfl ?_ ?_
  · intro hc1
    (try simp only [decide_eq_true_eq, decide_eq_false_iff_not, Bool.not_eq_true', Bool.not_eq_false'] at hc1)
    refine ac_skip ?_
    refine ac_seq ?_
    refine ac_block ?_
    refine ac_seq ?_
    have hk' : k < f.order.length := by omega
    have hik : k < f.order.length := by omega
    have hwm : f.order.getD (k) 0 ∈ f.order := by rw [getD_at hik]; exact List.getElem_mem hik
    obtain ⟨b1, o1, rfl, hb1, hcell1⟩ := hs1.int_at (i := (k : Int)) (by omega) (by omega)
    have hcell1' := hleH8.cell1 hb1 hcell1
    obtain ⟨w, hw⟩ : ∃ w : Nat, f.order.getD (k) 0 = (w : Int) := ⟨(f.order.getD (k) 0).toNat, by have := hg.order_in hwm; omega⟩
    have hwn : w < f.vars.length := by have := hg.order_in hwm; omega
    have hsucc := downR_succ f p hk'
    rw [hw, Int.toNat_natCast] at hsucc
    rw [show f.order.getD ((k : Int) : Int).toNat 0 = (w : Int) by rw [show ((k : Int) : Int).toNat = k by omega]; exact hw] at hcell1'
    have hge := hg.parent_ge hwn
    obtain ⟨b2, o2, rfl, hb2, hcell2⟩ := hs2.int_at (i := (w : Int)) (by omega) (by omega)
    rw [Int.toNat_natCast] at hcell2
    have hcell2' := hleH8.cell1 hb2 hcell2
    skip
    refine ac_region (by kernel_rfl) ?_
    refine aops_val (av_fieldOff (off := 1) (by first | assumption | rfl) Try.underlying62 (by first | assumption | rfl) inf29.size (by decide) (by first | assumption | rfl)) ?_
    refine aops_val (av_load1 rfl Try.underlying29 rfl t_cell) ?_
    first | refine aops_val (av_move_int (by first | assumption | rfl)) ?_ | refine aops_val (av_move (by first | assumption | rfl)) ?_
    refine aops_val (av_indexAddr rfl rfl Try.underlying29 inf3.size t_idx t_idx) ?_
    refine aops_val (av_load1 rfl Try.underlying3 rfl t_cell) ?_
    first | refine aops_val (av_assign_int rfl) ?_ | refine aops_val (av_assign rfl) ?_
    refine ac_seq ?_
    refine ac_region (by kernel_rfl) ?_
    refine aops_val (av_fieldOff (off := 2) (by first | assumption | rfl) Try.underlying62 (by first | assumption | rfl) inf29.size (by decide) (by first | assumption | rfl)) ?_
    refine aops_val (av_load1 rfl Try.underlying29 rfl t_cell) ?_
    first | refine aops_val (av_move_int rfl) ?_ | refine aops_val (av_move rfl) ?_
    refine aops_val (av_indexAddr rfl rfl Try.underlying29 inf3.size t_idx t_idx) ?_
    refine aops_val (av_load1 rfl Try.underlying3 rfl t_cell) ?_
    first | refine aops_val (av_assign_int rfl) ?_ | refine aops_val (av_assign rfl) ?_
    refine ac_seq ?_
    refine ac_region (by kernel_rfl) ?_
    first | refine aops_val (av_move_int rfl) ?_ | refine aops_val (av_move rfl) ?_
    refine aops_val (av_ge rfl rfl) ?_
    refine ac_split rfl rfl ?_ ?_
    · intro hc2
      have hpar : f.parent.getD w 0 ≥ 0 := of_decide_eq_true hc2
      obtain ⟨u, hu⟩ : ∃ u : Nat, f.parent.getD w 0 = (u : Int) := ⟨(f.parent.getD w 0).toNat, by omega⟩
      have hun : u < f.vars.length := by omega
      have hpu : par f w = (u : Int) := hu
      unfold downC at hsucc
      rw [if_neg (by rw [hpu]; omega), hpu, Int.toNat_natCast] at hsucc
      rw [hu]
      refine ac_seq ?_
      have hlq1 := hlens.1
      have hlq2 := hlens.2
      obtain ⟨Q, hQ⟩ : ∃ Q, Q = downR f p k := ⟨_, rfl⟩
      rw [← hQ] at hsucc hpp8 hlq1 hlq2 hsub hnb
      obtain ⟨bL, xL, csL, wv, eL, hbL, hgL, hcellL, hcsL, hwv⟩ := hpp8.spotL (i := w) (by omega)
      injection eL with eL1 eL2 eL3
      subst eL1
      obtain ⟨bN, xN, csN, wu, eN, hbN, hgN, hcellNu, hcsN, hwu⟩ := hpp8.spotN (i := u) (by omega)
      injection eN with eN1 eN2 eN3
      subst eN1
      obtain ⟨bM, xM, csM, ww, eM, hbM, hgM, hcellNw, hcsM, hww⟩ := hpp8.spotN (i := w) (by omega)
      simp only [Value.slice.injEq, Option.some.injEq, Addr.mk.injEq, and_true] at eM
      obtain ⟨rfl, eM2, eM3⟩ := eM
      obtain ⟨Av, cv, rfl⟩ := hwv.shape
      obtain ⟨Au, cu, rfl⟩ := hwu.shape
      obtain ⟨Aw, cw, rfl⟩ := hww.shape
      have gLv : Q.links[w]'(by omega) = lk Q w := (getD_list (by omega)).symm
      have gNu : Q.nodes[u]'(by omega) = nd Q u := (getD_list (by omega)).symm
      have gNw : Q.nodes[w]'(by omega) = nd Q w := (getD_list (by omega)).symm
      rw [gLv] at hwv hcellL
      rw [gNu] at hwu hcellNu
      rw [gNw] at hww hcellNw
      refine ac_draw (by kernel_rfl) (reg_of (B := [0, 1, 0, 0, 8, 0, 56, 120, 0, 256, 0, 1792, 3840, 0, 8192, 0, 57344, 122880, 262136, 524287, 1048575]) (π := [0, 1, 2, 3, 4, 5, 6, 7, 8, 9, 10, 11, 12, 13, 14, 15, 16, 17, 18, 19, 20]) (by kernel_rfl)) ?_
      refine adr_val rfl rfl (av_fieldOff (off := 1) (by first | assumption | rfl) Try.underlying65 (by first | assumption | rfl) inf63.size (by decide) (by first | assumption | rfl)) t_lt ?_
      refine adr_val rfl rfl (av_load1 rfl Try.underlying63 rfl t_cell) t_lt ?_
      first | refine adr_val rfl rfl (av_move_int rfl) t_lt ?_ | refine adr_val rfl rfl (av_move rfl) t_lt ?_
      refine adr_val rfl rfl (av_fieldOff (off := 1) (by first | assumption | rfl) Try.underlying65 (by first | assumption | rfl) inf63.size (by decide) (by first | assumption | rfl)) t_lt ?_
      refine adr_val rfl rfl (av_load1 rfl Try.underlying63 rfl t_cell) t_lt ?_
      first | refine adr_val rfl rfl (av_move_int rfl) t_lt ?_ | refine adr_val rfl rfl (av_move rfl) t_lt ?_
      refine adr_val rfl rfl (av_indexAddr rfl rfl Try.underlying63 inf22.size t_idx t_idx) t_lt ?_
      refine adr_val rfl rfl (av_load1 rfl Try.underlying22 rfl t_cell) t_lt ?_
      refine adr_val rfl rfl (av_fieldOff (off := 0) (by first | assumption | rfl) Try.underlying65 (by first | assumption | rfl) inf63.size (by decide) (by first | assumption | rfl)) t_lt ?_
      refine adr_val rfl rfl (av_load1 rfl Try.underlying63 rfl t_cell) t_lt ?_
      first | refine adr_val rfl rfl (av_move_int rfl) t_lt ?_ | refine adr_val rfl rfl (av_move rfl) t_lt ?_
      refine adr_val rfl rfl (av_indexAddr rfl rfl Try.underlying63 inf22.size t_idx t_idx) t_lt ?_
      refine adr_val rfl rfl (av_load1 rfl Try.underlying22 rfl t_cell) t_lt ?_
      refine adr_val rfl rfl (av_fieldOff (off := 0) (by first | assumption | rfl) Try.underlying65 (by first | assumption | rfl) inf63.size (by decide) (by first | assumption | rfl)) t_lt ?_
      refine adr_val rfl rfl (av_load1 rfl Try.underlying63 rfl t_cell) t_lt ?_
      first | refine adr_val rfl rfl (av_move_int rfl) t_lt ?_ | refine adr_val rfl rfl (av_move rfl) t_lt ?_
      refine adr_val rfl rfl (av_indexAddr rfl rfl Try.underlying63 inf22.size t_idx t_idx) t_lt ?_
      refine adr_val rfl rfl (av_load1 rfl Try.underlying22 rfl t_cell) t_lt ?_
      refine adr_op rfl rfl (aop_call (within_ref (lk Q w) (nd Q u) (nd Q w) _ _ _ _ hwv hwu hww (len_lk (n := 0) hsub hsm.s6 w) (len_nd (n := 0) hsub hsm.s5 u) (len_nd (n := 0) hsub hsm.s5 w)) rfl Try.func105 rfl rfl rfl ?_)
      rintro v9 H9 ⟨G9, hle9, hown9⟩; rw [withinR_left hnb] at hown9; have hleC9 := Hp.le_trans hle9 hown9.le; obtain ⟨A9, c9, rfl⟩ := hown9.shape; have hg9 := le_got hleC9 hbL (by intro e; cases e) hgL; have hz9 := hleC9.1
      refine ⟨t_pend, ?_⟩
      refine adr_val rfl rfl (av_indexAddr rfl rfl Try.underlying63 inf22.size t_idx t_idx) t_lt ?_
      first | refine adr_op rfl rfl (aop_put1 rfl rfl rfl inf22.size t_get t_room rfl ?_)
      refine ⟨t_pend, ?_⟩
      obtain ⟨G10, hle10, hpp10⟩ := hpp8.storeL hleC9 hown9.sl (i := w) (by omega) hg9 (off := 0 + (w : Int).toNat * 1) (by simp)
      rw [setR_one (by simp; omega)] at hpp10
      obtain ⟨H10, hH10⟩ : ∃ H10, H10 = H9.put bL (.own 1 (csL.set (0 + (w : Int).toNat * 1) (.slice A9 (left Q w u).length c9))) := ⟨_, rfl⟩
      rw [← hH10] at hpp10
      change ACode true _ _ _ _ _ (H9.put bL (.own 1 (csL.set (0 + (w : Int).toNat * 1) (.slice A9 (left Q w u).length c9))))
      rw [← hH10]
      have hz10 := hle10.1
      have hzz10 := hpp10.size
      have kg01 := le_got hle10 (by omega) (by intro e; cases e) kg1
      have hg11 := le_got hpp10.le (by omega) (by intro e; cases e) kg01
      have hlset : (Q.links.set w (left Q w u)).length = f.vars.length := by simp [hlq2]
      obtain ⟨bK, xK, csK, wk, eK, hbK, hgK, hcellK, hcsK, hwk⟩ := hpp10.spotL (i := w) (by omega)
      simp only [Value.slice.injEq, Option.some.injEq, Addr.mk.injEq, and_true] at eK
      obtain ⟨rfl, eK2, eK3⟩ := eK
      obtain ⟨bJ, xJ, csJ, wj, eJ, hbJ, hgJ, hcellJ, hcsJ, hwj⟩ := hpp10.spotN (i := w) (by omega)
      simp only [Value.slice.injEq, Option.some.injEq, Addr.mk.injEq, and_true] at eJ
      obtain ⟨rfl, eJ2, eJ3⟩ := eJ
      obtain ⟨Ak, ck, rfl⟩ := hwk.shape
      obtain ⟨Aj, cj, rfl⟩ := hwj.shape
      have gKw : (Q.links.set w (left Q w u))[w]'(by omega) = left Q w u := by simp
      have gJ : Q.nodes[w]'(by omega) = nd Q w := (getD_list (by omega)).symm
      rw [gKw] at hwk hcellK
      rw [gJ] at hwj hcellJ
      have hlleft : (left Q w u).length ≤ 1000000 := Nat.le_trans (List.length_filter_le _ _) (len_lk (n := 0) hsub hsm.s6 w)
      refine ac_draw (by kernel_rfl) (reg_of (B := [0, 1, 0, 0, 8, 0, 56, 120, 0, 256, 0, 1792, 3840, 8184, 16383, 32767]) (π := [0, 1, 2, 3, 4, 5, 6, 7, 8, 9, 10, 11, 12, 13, 14, 15]) (by kernel_rfl)) ?_
      refine adr_val rfl rfl (av_fieldOff (off := 0) (by first | assumption | rfl) Try.underlying65 (by first | assumption | rfl) inf63.size (by decide) (by first | assumption | rfl)) t_lt ?_
      refine adr_val rfl rfl (av_load1 rfl Try.underlying63 rfl t_cell) t_lt ?_
      first | refine adr_val rfl rfl (av_move_int rfl) t_lt ?_ | refine adr_val rfl rfl (av_move rfl) t_lt ?_
      refine adr_val rfl rfl (av_fieldOff (off := 0) (by first | assumption | rfl) Try.underlying65 (by first | assumption | rfl) inf63.size (by decide) (by first | assumption | rfl)) t_lt ?_
      refine adr_val rfl rfl (av_load1 rfl Try.underlying63 rfl t_cell) t_lt ?_
      first | refine adr_val rfl rfl (av_move_int rfl) t_lt ?_ | refine adr_val rfl rfl (av_move rfl) t_lt ?_
      refine adr_val rfl rfl (av_indexAddr rfl rfl Try.underlying63 inf22.size t_idx t_idx) t_lt ?_
      refine adr_val rfl rfl (av_load1 rfl Try.underlying22 rfl t_cell) t_lt ?_
      refine adr_val rfl rfl (av_fieldOff (off := 1) (by first | assumption | rfl) Try.underlying65 (by first | assumption | rfl) inf63.size (by decide) (by first | assumption | rfl)) t_lt ?_
      refine adr_val rfl rfl (av_load1 rfl Try.underlying63 rfl t_cell) t_lt ?_
      first | refine adr_val rfl rfl (av_move_int rfl) t_lt ?_ | refine adr_val rfl rfl (av_move rfl) t_lt ?_
      refine adr_val rfl rfl (av_indexAddr rfl rfl Try.underlying63 inf22.size t_idx t_idx) t_lt ?_
      refine adr_val rfl rfl (av_load1 rfl Try.underlying22 rfl t_cell) t_lt ?_
      refine adr_op rfl rfl (aop_call (ended_ref (nd Q w) (left Q w u) true _ _ _ hwj hwk (len_nd (n := 0) hsub hsm.s5 w) hlleft) rfl Try.func106 rfl rfl rfl ?_)
      rintro v11 H11 ⟨G11, hle11, hown11⟩; rw [endedR_last] at hown11; have hleC11 := Hp.le_trans hle11 hown11.le; obtain ⟨A11, c11, rfl⟩ := hown11.shape; have hg12 := le_got hleC11 hbJ (by intro e; cases e) hgJ; have hz11 := hleC11.1
      refine ⟨t_pend, ?_⟩
      refine adr_val rfl rfl (av_indexAddr rfl rfl Try.underlying63 inf22.size t_idx t_idx) t_lt ?_
      first | refine adr_op rfl rfl (aop_put1 rfl rfl rfl inf22.size t_get t_room rfl ?_)
      refine ⟨t_pend, ?_⟩
      refine ac_region (by kernel_rfl) ?_
      first | refine aops_val (av_move_int (by first | assumption | rfl)) ?_ | refine aops_val (av_move (by first | assumption | rfl)) ?_
      first | refine aops_val (av_add64 rfl rfl t_fits) ?_ | refine aops_val (av_add rfl rfl) ?_
      first | refine aops_val (av_assign_int rfl) ?_ | refine aops_val (av_assign rfl) ?_
      first
        | (obtain ⟨G12, hle12, hpp12⟩ := hpp10.storeN hleC11 hown11.sl (i := w) (by omega) hg12 (off := 0 + (w : Int).toNat * 1) (by simp)
           rw [setR_one (by simp; omega)] at hpp12
           exact ⟨f.order.length - (k + 1), by omega, k + 1, G12, by omega, rfl, Hp.le_trans hle8 (Hp.le_trans hle10 hle12), by rw [hsucc]; exact hpp12, e2, e3, e4, rfl⟩)
        | (exact ⟨f.order.length - (k + 1), by omega, k + 1, G8, by omega, rfl, hle8, by rw [hsucc]; exact hpp8, e2, e3, e4, rfl⟩)
    · intro hc2
      have hpar : ¬ f.parent.getD w 0 ≥ 0 := of_decide_eq_false hc2
      unfold downC at hsucc
      rw [if_pos (by unfold par; omega)] at hsucc
      refine ac_skip ?_
      refine ac_region (by kernel_rfl) ?_
      first | refine aops_val (av_move_int (by first | assumption | rfl)) ?_ | refine aops_val (av_move (by first | assumption | rfl)) ?_
      first | refine aops_val (av_add64 rfl rfl t_fits) ?_ | refine aops_val (av_add rfl rfl) ?_
      first | refine aops_val (av_assign_int rfl) ?_ | refine aops_val (av_assign rfl) ?_
      first
        | (obtain ⟨G12, hle12, hpp12⟩ := hpp10.storeN hleC11 hown11.sl (i := w) (by omega) hg12 (off := 0 + (w : Int).toNat * 1) (by simp)
           rw [setR_one (by simp; omega)] at hpp12
           exact ⟨f.order.length - (k + 1), by omega, k + 1, G12, by omega, rfl, Hp.le_trans hle8 (Hp.le_trans hle10 hle12), by rw [hsucc]; exact hpp12, e2, e3, e4, rfl⟩)
        | (exact ⟨f.order.length - (k + 1), by omega, k + 1, G8, by omega, rfl, hle8, by rw [hsucc]; exact hpp8, e2, e3, e4, rfl⟩)
  · intro hc1
    (try simp only [decide_eq_true_eq, decide_eq_false_iff_not, Bool.not_eq_true', Bool.not_eq_false'] at hc1)
    refine ac_exit ?_
    refine ac_seq ?_
    have hkn : k = f.order.length := by omega
    subst hkn
    rw [downR_all hG] at hpp8
    refine ac_region (by kernel_rfl) ?_
    first | refine aops_val (av_loadN (cs := [.slice _ _ _, .slice _ _ _]) (by first | assumption | rfl) Try.underlying65 (by first | assumption | rfl) inf65.size t_cells) ?_ | refine aops_val (av_loadN (cs := [_, _]) (by first | assumption | rfl) Try.underlying65 (by first | assumption | rfl) inf65.size t_cells) ?_
    first | refine aops_op (aop_putN (vs := [.slice _ _ _, .slice _ _ _]) (by first | assumption | rfl) (by first | assumption | rfl) inf65.size t_get t_room (by first | assumption | rfl) (by first | assumption | rfl) ?_) | refine aops_op (aop_putN (vs := [_, _]) (by first | assumption | rfl) (by first | assumption | rfl) inf65.size t_get t_room (by first | assumption | rfl) (by first | assumption | rfl) ?_)
    refine ac_ret ?_
    exact ⟨_, aresult1 (ares_cell (by first | assumption | rfl) (aload_agg (cs := [.slice AN f.vars.length cN, .slice AL f.vars.length cL]) Try.underlying65 rfl inf65.size t_cells)), _, _, _, Hp.le_put_new (Hp.le_trans hleH6 hle8) (by omega) _, rfl, hpp8.box_put (by omega) kg2 _⟩
end Go.Proofs.Ytnkjikpmgeknbaa.Am
namespace Go.Proofs.Ytnkjikpmgeknbaa.Am
open Go Go.RowKit
set_option maxRecDepth 100000
set_option linter.unusedVariables false
set_option linter.unusedSimpArgs false

theorem small_none {f : Forest} {p : Parts} (h : Small f p) : Small f noParts := ⟨h.s0, h.s1, h.s2, by simp [noParts], by simp [noParts], by simp [noParts], by simp [noParts]⟩
set_option maxHeartbeats 2000000 in
theorem ReduceHalves_ok (f : Forest) (p : Parts) (cs ds : List Value) (H : Hp) (hp : kForest.rep H f cs) (hq : kParts.rep H p ds) (hbf : BigF f) (hbp : BigP p) :
    ACalls Try.prog 6 #[.agg cs.toArray, .agg ds.toArray] H (fun r H' => r = .bool true ∧ H.le H') := by
  have hp0 := hp
  have hq0 := hq
  obtain ⟨v0, v1, v2, v3, v4, rfl, hs0, hs1, hs2, hs3, hs4⟩ := hp
  obtain ⟨A0, c0, rfl⟩ := hs0.shape
  obtain ⟨A1, c1, rfl⟩ := hs1.shape
  obtain ⟨A2, c2, rfl⟩ := hs2.shape
  obtain ⟨A3, c3, rfl⟩ := hs3.shape
  obtain ⟨A4, c4, rfl⟩ := hs4.shape
  obtain ⟨u0, u1, rfl, hn0, hn1⟩ := hq
  obtain ⟨B0, d0, rfl⟩ := hn0.shape
  obtain ⟨B1, d1, rfl⟩ := hn1.shape
  have hsm := small_few f p
  have hbq := bigP_few p
  have hbg := bigF_few f
  have hpp := few4_few4 p
  have hff := ffew_ffew f
  obtain ⟨F, hF⟩ : ∃ F, F = f.few := ⟨_, rfl⟩
  obtain ⟨Q, hQ⟩ : ∃ Q, Q = p.few4 := ⟨_, rfl⟩
  rw [← hF, ← hQ] at hsm
  rw [← hQ] at hpp hbq
  rw [← hF] at hff hbg
  refine acalls_of_code Try.func6 rfl rfl rfl (by simp) ?_
  refine ac_seq ?_
  refine ac_region (by kernel_rfl) ?_
  refine aops_make (am_box_agg rfl) ?_
  refine aops_make (am_box_agg rfl) ?_
  first | refine aops_val (av_assign_bool rfl) ?_ | refine aops_val (av_assign rfl) ?_
  refine ac_seq ?_
  refine ac_draw (by kernel_rfl) (reg_of (B := [0, 1, 0, 7, 15, 31]) (π := [0, 2, 1, 3, 4, 5]) (by kernel_rfl)) ?_
  first | refine adr_val rfl rfl (av_loadN (cs := [.slice _ _ _, .slice _ _ _, .slice _ _ _, .slice _ _ _, .slice _ _ _]) rfl Try.underlying62 rfl inf62.size t_cells) t_lt ?_ | refine adr_val rfl rfl (av_loadN (cs := [_, _, _, _, _]) rfl Try.underlying62 rfl inf62.size t_cells) t_lt ?_
  first | refine adr_val rfl rfl (av_loadN (cs := [.slice _ _ _, .slice _ _ _]) rfl Try.underlying65 rfl inf65.size t_cells) t_lt ?_ | refine adr_val rfl rfl (av_loadN (cs := [_, _]) rfl Try.underlying65 rfl inf65.size t_cells) t_lt ?_
  refine adr_op rfl rfl (aop_call (Forest_28 f _ _ (kForest.mono t_sees hp0) hbf) rfl Try.func33 rfl rfl rfl ?_)
  rintro v5 H5 ⟨hle5, es, rfl, hes⟩; rw [← hF] at hes; have hf5 := hes; obtain ⟨a0, a1, a2, a3, a4, rfl, ht0, ht1, ht2, ht3, ht4⟩ := hes; obtain ⟨C0, k0, rfl⟩ := ht0.shape; obtain ⟨C1, k1, rfl⟩ := ht1.shape; obtain ⟨C2, k2, rfl⟩ := ht2.shape; obtain ⟨C3, k3, rfl⟩ := ht3.shape; obtain ⟨C4, k4, rfl⟩ := ht4.shape; have hz5 := hle5.1; simp only [Hp.push_size] at hz5
  refine ⟨t_pend, ?_⟩
  refine adr_op rfl rfl (aop_call (Few4_parts p _ _ (kParts.mono t_sees hq0) hbp.l0 hbp.l1 hbp.s0 hbp.s1) rfl Try.func34 rfl rfl rfl ?_)
  rintro v6 H6 ⟨hle6, es, rfl, hes⟩; rw [← hQ] at hes; have hq6 := hes; obtain ⟨b0, b1, rfl, hm0, hm1⟩ := hes; obtain ⟨D0, m0, rfl⟩ := hm0.shape; obtain ⟨D1, m1, rfl⟩ := hm1.shape; have hz6 := hle6.1; have hf6 := kForest.mono hle6.sees hf5; have h60 : H6.get H.size = .own 0 [.slice A0 f.vars.length c0, .slice A1 f.order.length c1, .slice A2 f.parent.length c2, .slice A3 f.links.length c3, .slice A4 f.loops.length c4] := le_got (Hp.le_trans hle5 hle6) (by simp <;> omega) (by intro e; cases e) t_get; have h61 : H6.get (H.size + 1) = .own 0 [.slice B0 p.nodes.length d0, .slice B1 p.links.length d1] := le_got (Hp.le_trans hle5 hle6) (by simp <;> omega) (by intro e; cases e) t_get
  refine ⟨t_pend, ?_⟩
  first | refine adr_op rfl rfl (aop_putN (vs := [.slice _ _ _, .slice _ _ _, .slice _ _ _, .slice _ _ _, .slice _ _ _]) rfl rfl inf62.size t_get t_room rfl rfl ?_) | refine adr_op rfl rfl (aop_putN (vs := [_, _, _, _, _]) rfl rfl inf62.size t_get t_room rfl rfl ?_)
  refine ⟨t_pend, ?_⟩
  first | refine adr_op rfl rfl (aop_putN (vs := [.slice _ _ _, .slice _ _ _]) rfl rfl inf65.size t_get t_room rfl rfl ?_) | refine adr_op rfl rfl (aop_putN (vs := [_, _]) rfl rfl inf65.size t_get t_room rfl rfl ?_)
  refine ⟨t_pend, ?_⟩
  refine ac_seq ?_
  obtain ⟨HA, hHA⟩ : ∃ HA, HA = (H6.put H.size (.own 0 [.slice C0 F.vars.length k0, .slice C1 F.order.length k1, .slice C2 F.parent.length k2, .slice C3 F.links.length k3, .slice C4 F.loops.length k4])).put (H.size + 1) (.own 0 [.slice D0 Q.nodes.length m0, .slice D1 Q.links.length m1]) := ⟨_, rfl⟩
  have g5 : H6.sees (H6.put H.size (.own 0 [.slice C0 F.vars.length k0, .slice C1 F.order.length k1, .slice C2 F.parent.length k2, .slice C3 F.links.length k3, .slice C4 F.loops.length k4])) := Hp.sees_box _ h60
  have g6 : (H6.put H.size (.own 0 [.slice C0 F.vars.length k0, .slice C1 F.order.length k1, .slice C2 F.parent.length k2, .slice C3 F.links.length k3, .slice C4 F.loops.length k4])).sees HA := by rw [hHA]; exact Hp.sees_box _ (by rw [Hp.put_other _ _ (by omega)]; exact h61)
  have fA := kForest.mono (g5.trans g6) hf6
  have qA := kParts.mono (g5.trans g6) hq6
  have leA : H.le HA := by rw [hHA]; exact Hp.le_put_new (Hp.le_put_new (Hp.le_trans (Hp.le_trans (Hp.le_push' (H.le_push _) _) hle5) hle6) (by omega) _) (by omega) _
  have zA : H.size + 2 ≤ HA.size := by rw [hHA]; simp; omega
  have A0' : HA.get H.size = .own 0 [.slice C0 F.vars.length k0, .slice C1 F.order.length k1, .slice C2 F.parent.length k2, .slice C3 F.links.length k3, .slice C4 F.loops.length k4] := by rw [hHA, Hp.put_other _ _ (by omega)]; exact Hp.put_same _ _ _
  have A1' : HA.get (H.size + 1) = .own 0 [.slice D0 Q.nodes.length m0, .slice D1 Q.links.length m1] := by rw [hHA]; exact Hp.put_same _ _ _
  change ACode true _ _ _ _ _ ((H6.put H.size (.own 0 [.slice C0 F.vars.length k0, .slice C1 F.order.length k1, .slice C2 F.parent.length k2, .slice C3 F.links.length k3, .slice C4 F.loops.length k4])).put (H.size + 1) (.own 0 [.slice D0 Q.nodes.length m0, .slice D1 Q.links.length m1]))
  rw [← hHA]
  clear hHA g5 g6 h60 h61 hf6 hq6 hle5 hle6 hz5 hz6 hf5
  refine ac_draw (by kernel_rfl) (reg_of (B := [0, 1, 0, 7, 15, 31, 63, 63, 0, 383, 1023]) (π := [0, 2, 8, 1, 3, 4, 5, 6, 7, 9, 10]) (by kernel_rfl)) ?_
  first | refine adr_val rfl rfl (av_loadN (cs := [.slice _ _ _, .slice _ _ _, .slice _ _ _, .slice _ _ _, .slice _ _ _]) rfl Try.underlying62 rfl inf62.size t_cells) t_lt ?_ | refine adr_val rfl rfl (av_loadN (cs := [_, _, _, _, _]) rfl Try.underlying62 rfl inf62.size t_cells) t_lt ?_
  first | refine adr_val rfl rfl (av_loadN (cs := [.slice _ _ _, .slice _ _ _]) rfl Try.underlying65 rfl inf65.size t_cells) t_lt ?_ | refine adr_val rfl rfl (av_loadN (cs := [_, _]) rfl Try.underlying65 rfl inf65.size t_cells) t_lt ?_
  refine adr_make rfl rfl (am_zero (l := [.slice none 0 0, .slice none 0 0]) inf65.zero rfl (by decide)) ?_
  refine adr_op rfl rfl (aop_call (Forest_28 F _ _ (kForest.mono t_sees fA) hbg) rfl Try.func33 rfl rfl rfl ?_)
  rintro v7 H7 ⟨hle7, es, rfl, hes⟩; rw [hff] at hes; have f7 := hes; obtain ⟨a5, a6, a7, a8, a9, rfl, hu0, hu1, hu2, hu3, hu4⟩ := hes; obtain ⟨E0, l0, rfl⟩ := hu0.shape; obtain ⟨E1, l1, rfl⟩ := hu1.shape; obtain ⟨E2, l2, rfl⟩ := hu2.shape; obtain ⟨E3, l3, rfl⟩ := hu3.shape; obtain ⟨E4, l4, rfl⟩ := hu4.shape; have hz7 := hle7.1; simp only [Hp.push_size] at hz7
  refine ⟨t_pend, ?_⟩
  refine adr_op rfl rfl (aop_call (Few4_parts Q _ _ (kParts.mono (Hp.sees.trans (Hp.le_push _ _).sees hle7.sees) qA) hbq.l0 hbq.l1 hbq.s0 hbq.s1) rfl Try.func34 rfl rfl rfl ?_)
  rintro v8 H8 ⟨hle8, es, rfl, hes⟩; rw [hpp] at hes; have q8 := hes; obtain ⟨b2, b3, rfl, hm2, hm3⟩ := hes; obtain ⟨D2, m2, rfl⟩ := hm2.shape; obtain ⟨D3, m3, rfl⟩ := hm3.shape; have hz8 := hle8.1; have h85 : H8.get HA.size = .own 0 [.slice none 0 0, .slice none 0 0] := le_got (Hp.le_trans hle7 hle8) (by simp) (by intro e; cases e) t_get
  refine ⟨t_pend, ?_⟩
  refine adr_op rfl rfl (aop_call (UpE_parts F Q _ _ _ (kForest.mono hle8.sees f7) q8 hsm) rfl Try.func40 rfl rfl rfl ?_)
  rintro v9 H9 ⟨g, es, hg, rfl, hes, hle9⟩; have x9 := hes; obtain ⟨b4, b5, rfl, hm4, hm5⟩ := hes; obtain ⟨D4, m4, rfl⟩ := hm4.shape; obtain ⟨D5, m5, rfl⟩ := hm5.shape; have le79 := Hp.le_trans hle7 (Hp.le_trans hle8 hle9); have h95 : H9.get HA.size = .own 0 [.slice none 0 0, .slice none 0 0] := le_got le79 (by simp) (by intro e; cases e) t_get
  refine ⟨t_pend, ?_⟩
  refine adr_val rfl rfl (av_move rfl) t_lt ?_
  refine adr_val rfl rfl (av_extract rfl rfl) t_lt ?_
  refine adr_val rfl rfl (av_extract rfl rfl) t_lt ?_
  first | refine adr_op rfl rfl (aop_putN (vs := [.slice _ _ _, .slice _ _ _]) rfl rfl inf65.size t_get t_room rfl rfl ?_) | refine adr_op rfl rfl (aop_putN (vs := [_, _]) rfl rfl inf65.size t_get t_room rfl rfl ?_)
  refine ⟨t_pend, ?_⟩
  first | refine adr_val rfl rfl (av_assign_int rfl) t_lt ?_ | refine adr_val rfl rfl (av_assign rfl) t_lt ?_
  refine ac_seq ?_
  obtain ⟨HB, hHB⟩ : ∃ HB, HB = H9.put HA.size (.own 0 [.slice D4 (if g = true then upP F Q else noParts).nodes.length m4, .slice D5 (if g = true then upP F Q else noParts).links.length m5]) := ⟨_, rfl⟩
  have leAB : HA.le HB := by rw [hHB]; exact Hp.le_put_new (Hp.le_trans (Hp.le_push _ _) le79) (Nat.le_refl _) _
  have leB := Hp.le_trans leA leAB
  have zB : HA.size + 1 ≤ HB.size := by rw [hHB]; have := le79.1; simp at *; omega
  have fB := kForest.mono leAB.sees fA
  have qB := kParts.mono leAB.sees qA
  have sB : H9.sees HB := by rw [hHB]; exact Hp.sees_box _ h95
  have xB := kParts.mono sB x9
  have B0' := le_got leAB (by omega) (by intro e; cases e) A0'
  have B1' := le_got leAB (by omega) (by intro e; cases e) A1'
  have B5' : HB.get HA.size = .own 0 [.slice D4 (if g = true then upP F Q else noParts).nodes.length m4, .slice D5 (if g = true then upP F Q else noParts).links.length m5] := by rw [hHB]; exact Hp.put_same _ _ _
  change ACode true _ _ _ _ _ (H9.put HA.size (.own 0 [.slice D4 (if g = true then upP F Q else noParts).nodes.length m4, .slice D5 (if g = true then upP F Q else noParts).links.length m5]))
  rw [← hHB]
  clear hHB le79 hle7 hle8 hle9
  refine ac_draw (by kernel_rfl) (reg_of (B := [0, 1, 0, 7, 15, 31, 63, 63, 0, 383, 1023]) (π := [0, 2, 8, 1, 3, 4, 5, 6, 7, 9, 10]) (by kernel_rfl)) ?_
  first | refine adr_val rfl rfl (av_loadN (cs := [.slice _ _ _, .slice _ _ _, .slice _ _ _, .slice _ _ _, .slice _ _ _]) rfl Try.underlying62 rfl inf62.size t_cells) t_lt ?_ | refine adr_val rfl rfl (av_loadN (cs := [_, _, _, _, _]) rfl Try.underlying62 rfl inf62.size t_cells) t_lt ?_
  first | refine adr_val rfl rfl (av_loadN (cs := [.slice _ _ _, .slice _ _ _]) rfl Try.underlying65 rfl inf65.size t_cells) t_lt ?_ | refine adr_val rfl rfl (av_loadN (cs := [_, _]) rfl Try.underlying65 rfl inf65.size t_cells) t_lt ?_
  refine adr_make rfl rfl (am_zero (l := [.slice none 0 0, .slice none 0 0]) inf65.zero rfl (by decide)) ?_
  refine adr_op rfl rfl (aop_call (Forest_28 F _ _ (kForest.mono t_sees fB) hbg) rfl Try.func33 rfl rfl rfl ?_)
  rintro v10 H10 ⟨hle10, es, rfl, hes⟩; rw [hff] at hes; have f10 := hes; obtain ⟨w5, w6, w7, w8, w9, rfl, hw0, hw1, hw2, hw3, hw4⟩ := hes; obtain ⟨I0, i0, rfl⟩ := hw0.shape; obtain ⟨I1, i1, rfl⟩ := hw1.shape; obtain ⟨I2, i2, rfl⟩ := hw2.shape; obtain ⟨I3, i3, rfl⟩ := hw3.shape; obtain ⟨I4, i4, rfl⟩ := hw4.shape; have hz10 := hle10.1; simp only [Hp.push_size] at hz10
  refine ⟨t_pend, ?_⟩
  refine adr_op rfl rfl (aop_call (Few4_parts Q _ _ (kParts.mono (Hp.sees.trans (Hp.le_push _ _).sees hle10.sees) qB) hbq.l0 hbq.l1 hbq.s0 hbq.s1) rfl Try.func34 rfl rfl rfl ?_)
  rintro v11 H11 ⟨hle11, es, rfl, hes⟩; rw [hpp] at hes; have q11 := hes; obtain ⟨b6, b7, rfl, hm6, hm7⟩ := hes; obtain ⟨D6, m6, rfl⟩ := hm6.shape; obtain ⟨D7, m7, rfl⟩ := hm7.shape; have hz11 := hle11.1; have h117 : H11.get HB.size = .own 0 [.slice none 0 0, .slice none 0 0] := le_got (Hp.le_trans hle10 hle11) (by simp) (by intro e; cases e) t_get
  refine ⟨t_pend, ?_⟩
  refine adr_op rfl rfl (aop_call (DownE_parts F Q _ _ _ (kForest.mono hle11.sees f10) q11 hsm) rfl Try.func41 rfl rfl rfl ?_)
  rintro v12 H12 ⟨g3, es, hg3, rfl, hes, hle12⟩; have y12 := hes; obtain ⟨b8, b9, rfl, hm8, hm9⟩ := hes; obtain ⟨D8, m8, rfl⟩ := hm8.shape; obtain ⟨D9, m9, rfl⟩ := hm9.shape; have le712 := Hp.le_trans hle10 (Hp.le_trans hle11 hle12); have h127 : H12.get HB.size = .own 0 [.slice none 0 0, .slice none 0 0] := le_got le712 (by simp) (by intro e; cases e) t_get
  refine ⟨t_pend, ?_⟩
  refine adr_val rfl rfl (av_move rfl) t_lt ?_
  refine adr_val rfl rfl (av_extract rfl rfl) t_lt ?_
  refine adr_val rfl rfl (av_extract rfl rfl) t_lt ?_
  first | refine adr_op rfl rfl (aop_putN (vs := [.slice _ _ _, .slice _ _ _]) rfl rfl inf65.size t_get t_room rfl rfl ?_) | refine adr_op rfl rfl (aop_putN (vs := [_, _]) rfl rfl inf65.size t_get t_room rfl rfl ?_)
  refine ⟨t_pend, ?_⟩
  first | refine adr_val rfl rfl (av_assign_int rfl) t_lt ?_ | refine adr_val rfl rfl (av_assign rfl) t_lt ?_
  refine ac_seq ?_
  refine ac_seq ?_
  obtain ⟨HC', hHC⟩ : ∃ HC', HC' = H12.put HB.size (.own 0 [.slice D8 (if g3 = true then downP F Q else noParts).nodes.length m8, .slice D9 (if g3 = true then downP F Q else noParts).links.length m9]) := ⟨_, rfl⟩
  have leBC : HB.le HC' := by rw [hHC]; exact Hp.le_put_new (Hp.le_trans (Hp.le_push _ _) le712) (Nat.le_refl _) _
  have leC := Hp.le_trans leB leBC
  have zC : HB.size + 1 ≤ HC'.size := by rw [hHC]; have := le712.1; simp at *; omega
  have fC := kForest.mono leBC.sees fB
  have qC := kParts.mono leBC.sees qB
  have xC := kParts.mono leBC.sees xB
  have sC : H12.sees HC' := by rw [hHC]; exact Hp.sees_box _ h127
  have yC := kParts.mono sC y12
  have C0' := le_got leBC (by omega) (by intro e; cases e) B0'
  have C1' := le_got leBC (by omega) (by intro e; cases e) B1'
  have C5' := le_got leBC (by omega) (by intro e; cases e) B5'
  have C7' : HC'.get HB.size = .own 0 [.slice D8 (if g3 = true then downP F Q else noParts).nodes.length m8, .slice D9 (if g3 = true then downP F Q else noParts).links.length m9] := by rw [hHC]; exact Hp.put_same _ _ _
  change ACode true _ _ _ _ _ (H12.put HB.size (.own 0 [.slice D8 (if g3 = true then downP F Q else noParts).nodes.length m8, .slice D9 (if g3 = true then downP F Q else noParts).links.length m9]))
  rw [← hHC]
  clear hHC le712 hle10 hle11 hle12
  refine ac_region (by kernel_rfl) ?_
  first | refine aops_val (av_loadN (cs := [.slice _ _ _, .slice _ _ _, .slice _ _ _, .slice _ _ _, .slice _ _ _]) rfl Try.underlying62 rfl inf62.size t_cells) ?_ | refine aops_val (av_loadN (cs := [_, _, _, _, _]) rfl Try.underlying62 rfl inf62.size t_cells) ?_
  first | refine aops_val (av_loadN (cs := [.slice _ _ _, .slice _ _ _]) rfl Try.underlying65 rfl inf65.size t_cells) ?_ | refine aops_val (av_loadN (cs := [_, _]) rfl Try.underlying65 rfl inf65.size t_cells) ?_
  refine aops_op (aop_call (GoodP_ref F Q _ _ _ fC qC hsm) rfl Try.func36 rfl rfl rfl ?_)
  rintro v13 HC' ⟨⟨g2, rfl, hg2⟩, rfl⟩
  refine aops_val (av_not rfl) ?_
  refine ac_split rfl rfl ?_ ?_
  · intro hc1
    obtain rfl : g2 = false := by simpa using hc1
    obtain rfl : g = false := by cases g with | false => rfl | true => exact absurd (hg2.2 (hg.1 rfl)) (by simp)
    obtain rfl : g3 = false := by cases g3 with | false => rfl | true => exact absurd (hg2.2 (hg3.1 rfl)) (by simp)
    refine ac_seq ?_
    refine ac_region (by kernel_rfl) ?_
    first | refine aops_val (av_loadN (cs := [.slice _ _ _, .slice _ _ _]) rfl Try.underlying65 rfl inf65.size t_cells) ?_ | refine aops_val (av_loadN (cs := [_, _]) rfl Try.underlying65 rfl inf65.size t_cells) ?_
    first | refine aops_val (av_build (pl := [(0, 1), (1, 1)]) (r := [.slice _ _ _, .slice _ _ _]) Try.underlying65 inf65.zero (by decide) rfl rfl) ?_ | refine aops_val (av_build (pl := [(0, 1), (1, 1)]) (r := [_, _]) Try.underlying65 inf65.zero (by decide) rfl rfl) ?_
    refine aops_op (aop_call (Same_true noParts noParts _ [_, _] _ xC (noParts_rep _) (by simp [noParts]) (by simp [noParts]) (by simp [noParts]) (by simp [noParts]) rfl) rfl Try.func38 rfl rfl rfl ?_)
    rintro v14 HC' ⟨rfl, rfl⟩
    first | refine aops_val (av_move_bool rfl) ?_ | refine aops_val (av_move rfl) ?_
    refine aops_guard rfl rfl rfl ?_ ?_
    · intro hg2
      have hp2 := hg2; try simp only [decide_eq_true_eq, decide_eq_false_iff_not, Bool.not_eq_true', Bool.not_eq_false'] at hp2
      first | refine aops_wval (want_yes rfl rfl rfl hg2) (av_move_int rfl) ?_ | refine aops_wval (want_yes rfl rfl rfl hg2) (av_move rfl) ?_
      refine aops_wval (want_yes rfl rfl rfl hg2) (av_eq rfl rfl) ?_
      refine aops_val (av_pick_bool (congrArg Value.bool hg2) rfl) ?_
      first | refine aops_val (av_move_bool rfl) ?_ | refine aops_val (av_move rfl) ?_
      refine aops_guard rfl rfl rfl ?_ ?_
      · intro hg3
        have hp3 := hg3; try simp only [decide_eq_true_eq, decide_eq_false_iff_not, Bool.not_eq_true', Bool.not_eq_false'] at hp3
        first | refine aops_wval (want_yes rfl rfl rfl hg3) (av_loadN (cs := [.slice _ _ _, .slice _ _ _]) rfl Try.underlying65 rfl inf65.size t_cells) ?_ | refine aops_wval (want_yes rfl rfl rfl hg3) (av_loadN (cs := [_, _]) rfl Try.underlying65 rfl inf65.size t_cells) ?_
        first | refine aops_wval (want_yes rfl rfl rfl hg3) (av_build (pl := [(0, 1), (1, 1)]) (r := [.slice _ _ _, .slice _ _ _]) Try.underlying65 inf65.zero (by decide) rfl rfl) ?_ | refine aops_wval (want_yes rfl rfl rfl hg3) (av_build (pl := [(0, 1), (1, 1)]) (r := [_, _]) Try.underlying65 inf65.zero (by decide) rfl rfl) ?_
        refine aops_want (want_yes rfl rfl rfl hg3) (aop_call (Same_true noParts noParts _ [_, _] _ yC (noParts_rep _) (by simp [noParts]) (by simp [noParts]) (by simp [noParts]) (by simp [noParts]) rfl) rfl Try.func38 rfl rfl rfl ?_)
        rintro v15 HC' ⟨rfl, rfl⟩
        refine aops_val (av_pick_bool (congrArg Value.bool hg3) rfl) ?_
        first | refine aops_val (av_move_bool rfl) ?_ | refine aops_val (av_move rfl) ?_
        refine aops_guard rfl rfl rfl ?_ ?_
        · intro hg4
          have hp4 := hg4; try simp only [decide_eq_true_eq, decide_eq_false_iff_not, Bool.not_eq_true', Bool.not_eq_false'] at hp4
          first | refine aops_wval (want_yes rfl rfl rfl hg4) (av_move_int rfl) ?_ | refine aops_wval (want_yes rfl rfl rfl hg4) (av_move rfl) ?_
          refine aops_wval (want_yes rfl rfl rfl hg4) (av_eq rfl rfl) ?_
          refine aops_val (av_pick_bool (congrArg Value.bool hg4) rfl) ?_
          first | refine aops_val (av_move_bool rfl) ?_ | refine aops_val (av_move rfl) ?_
          refine aops_guard rfl rfl rfl ?_ ?_
          · intro hg5
            have hp5 := hg5; try simp only [decide_eq_true_eq, decide_eq_false_iff_not, Bool.not_eq_true', Bool.not_eq_false'] at hp5
            refine aops_want (want_yes rfl rfl rfl hg5) (aop_call (lives28_ok _) rfl Try.func37 rfl rfl rfl ?_)
            rintro v H' ⟨rfl, hlv⟩
            refine aops_val (av_pick_bool (congrArg Value.bool hg5) rfl) ?_
            first | refine aops_val (av_assign_bool rfl) ?_ | refine aops_val (av_assign rfl) ?_
            refine ac_ret ?_
            exact ⟨.bool true, aresult1 (ares_tmp rfl), rfl, Hp.le_trans leC hlv⟩
          · intro hg5
            exact absurd hg5 (by decide)
        · intro hg4
          exact absurd hg4 (by decide)
      · intro hg3
        exact absurd hg3 (by decide)
    · intro hg2
      exact absurd hg2 (by decide)
  · intro hc1
    obtain rfl : g2 = true := by simpa using hc1
    have hG := hg2.1 rfl
    obtain rfl : g = true := hg.2 hG
    obtain rfl : g3 = true := hg3.2 hG
    have hus := upR_ok hG F.order.length
    have hds := downR_ok hG F.order.length
    rw [upR_all hG] at hus
    rw [downR_all hG] at hds
    have hsx := small_sub hsm hus.1 hus.2
    have hsy := small_sub hsm hds.1 hds.2
    simp only [if_true] at xC yC C5' C7'
    refine ac_skip ?_
    refine ac_seq ?_
    refine ac_draw (by kernel_rfl) (reg_of (B := [0, 1, 3, 7, 15, 31, 63, 127, 127, 127, 895, 2047, 4095, 8191, 16383, 16383, 16383, 114687, 262143, 524287, 1048575, 2097151, 4194303, 8388607]) (π := [0, 1, 2, 3, 4, 5, 6, 7, 8, 9, 10, 11, 12, 13, 14, 15, 16, 17, 18, 19, 20, 21, 22, 23]) (by kernel_rfl)) ?_
    first | refine adr_val rfl rfl (av_move_int rfl) t_lt ?_ | refine adr_val rfl rfl (av_move rfl) t_lt ?_
    refine adr_val rfl rfl (av_eq rfl rfl) t_lt ?_
    first | refine adr_val rfl rfl (av_move_bool rfl) t_lt ?_ | refine adr_val rfl rfl (av_move rfl) t_lt ?_
    refine adr_guard rfl rfl rfl rfl ?_ ?_
    · intro hg6
      have hp6 := hg6; try simp only [decide_eq_true_eq, decide_eq_false_iff_not, Bool.not_eq_true', Bool.not_eq_false'] at hp6
      first | refine adr_wval rfl (want_yes rfl rfl rfl hg6) rfl (av_move_int rfl) t_lt ?_ | refine adr_wval rfl (want_yes rfl rfl rfl hg6) rfl (av_move rfl) t_lt ?_
      refine adr_wval rfl (want_yes rfl rfl rfl hg6) rfl (av_eq rfl rfl) t_lt ?_
      refine adr_val rfl rfl (av_pick_bool (congrArg Value.bool hg6) rfl) t_lt ?_
      first | refine adr_val rfl rfl (av_move_bool rfl) t_lt ?_ | refine adr_val rfl rfl (av_move rfl) t_lt ?_
      refine adr_guard rfl rfl rfl rfl ?_ ?_
      · intro hg7
        have hp7 := hg7; try simp only [decide_eq_true_eq, decide_eq_false_iff_not, Bool.not_eq_true', Bool.not_eq_false'] at hp7
        first | refine adr_wval rfl (want_yes rfl rfl rfl hg7) rfl (av_loadN (cs := [.slice _ _ _, .slice _ _ _]) rfl Try.underlying65 rfl inf65.size t_cells) t_lt ?_ | refine adr_wval rfl (want_yes rfl rfl rfl hg7) rfl (av_loadN (cs := [_, _]) rfl Try.underlying65 rfl inf65.size t_cells) t_lt ?_
        first | refine adr_wval rfl (want_yes rfl rfl rfl hg7) rfl (av_loadN (cs := [.slice _ _ _, .slice _ _ _, .slice _ _ _, .slice _ _ _, .slice _ _ _]) rfl Try.underlying62 rfl inf62.size t_cells) t_lt ?_ | refine adr_wval rfl (want_yes rfl rfl rfl hg7) rfl (av_loadN (cs := [_, _, _, _, _]) rfl Try.underlying62 rfl inf62.size t_cells) t_lt ?_
        first | refine adr_wval rfl (want_yes rfl rfl rfl hg7) rfl (av_loadN (cs := [.slice _ _ _, .slice _ _ _]) rfl Try.underlying65 rfl inf65.size t_cells) t_lt ?_ | refine adr_wval rfl (want_yes rfl rfl rfl hg7) rfl (av_loadN (cs := [_, _]) rfl Try.underlying65 rfl inf65.size t_cells) t_lt ?_
        refine adr_wop rfl (want_yes rfl rfl rfl hg7) rfl (aop_call (Up_ref F Q _ _ _ fC qC hG hsm) rfl Try.func42 rfl rfl rfl ?_)
        rintro v16 H16 ⟨G16, N16, L16, hle16, rfl, hpp16⟩; have hleC16 := Hp.le_trans hle16 hpp16.le; have hz16 := hleC16.1; have rep16 : kParts.rep H16 (upP F Q) [N16, L16] := ⟨_, _, rfl, hpp16.slN, hpp16.slL⟩
        refine ⟨t_pend, ?_⟩
        refine adr_wop rfl (want_yes rfl rfl rfl hg7) rfl (aop_call (Same_true (upP F Q) (upP F Q) _ [_, _] _ (kParts.mono hleC16.sees xC) rep16 hsx.s3 hsx.s4 hsx.s5 hsx.s6 rfl) rfl Try.func38 rfl rfl rfl ?_)
        rintro v17 H17 ⟨rfl, rfl⟩
        refine ⟨t_pend, ?_⟩
        refine adr_val rfl rfl (av_pick_bool (congrArg Value.bool hg7) rfl) t_lt ?_
        first | refine adr_val rfl rfl (av_move_bool rfl) t_lt ?_ | refine adr_val rfl rfl (av_move rfl) t_lt ?_
        refine adr_guard rfl rfl rfl rfl ?_ ?_
        · intro hg8
          have hp8 := hg8; try simp only [decide_eq_true_eq, decide_eq_false_iff_not, Bool.not_eq_true', Bool.not_eq_false'] at hp8
          first | refine adr_wval rfl (want_yes rfl rfl rfl hg8) rfl (av_loadN (cs := [.slice _ _ _, .slice _ _ _]) rfl Try.underlying65 rfl inf65.size t_cells) t_lt ?_ | refine adr_wval rfl (want_yes rfl rfl rfl hg8) rfl (av_loadN (cs := [_, _]) rfl Try.underlying65 rfl inf65.size t_cells) t_lt ?_
          first | refine adr_wval rfl (want_yes rfl rfl rfl hg8) rfl (av_loadN (cs := [.slice _ _ _, .slice _ _ _, .slice _ _ _, .slice _ _ _, .slice _ _ _]) rfl Try.underlying62 rfl inf62.size t_cells) t_lt ?_ | refine adr_wval rfl (want_yes rfl rfl rfl hg8) rfl (av_loadN (cs := [_, _, _, _, _]) rfl Try.underlying62 rfl inf62.size t_cells) t_lt ?_
          first | refine adr_wval rfl (want_yes rfl rfl rfl hg8) rfl (av_loadN (cs := [.slice _ _ _, .slice _ _ _]) rfl Try.underlying65 rfl inf65.size t_cells) t_lt ?_ | refine adr_wval rfl (want_yes rfl rfl rfl hg8) rfl (av_loadN (cs := [_, _]) rfl Try.underlying65 rfl inf65.size t_cells) t_lt ?_
          refine adr_wop rfl (want_yes rfl rfl rfl hg8) rfl (aop_call (Down_ref F Q _ _ _ (kForest.mono t_sees fC) (kParts.mono t_sees qC) hG hsm) rfl Try.func43 rfl rfl rfl ?_)
          rintro v18 H18 ⟨G18, N18, L18, hle18, rfl, hpp18⟩; have hleC18 := Hp.le_trans hle18 hpp18.le; have hz18 := hleC18.1; have rep18 : kParts.rep H18 (downP F Q) [N18, L18] := ⟨_, _, rfl, hpp18.slN, hpp18.slL⟩
          refine ⟨t_pend, ?_⟩
          refine adr_wop rfl (want_yes rfl rfl rfl hg8) rfl (aop_call (Same_true (downP F Q) (downP F Q) _ [_, _] _ (kParts.mono (Hp.sees.trans t_sees hleC18.sees) yC) rep18 hsy.s3 hsy.s4 hsy.s5 hsy.s6 rfl) rfl Try.func38 rfl rfl rfl ?_)
          rintro v19 H19 ⟨rfl, rfl⟩
          refine ⟨t_pend, ?_⟩
          refine adr_val rfl rfl (av_pick_bool (congrArg Value.bool hg8) rfl) t_lt ?_
          first | refine adr_val rfl rfl (av_move_bool rfl) t_lt ?_ | refine adr_val rfl rfl (av_move rfl) t_lt ?_
          refine adr_guard rfl rfl rfl rfl ?_ ?_
          · intro hg9
            have hp9 := hg9; try simp only [decide_eq_true_eq, decide_eq_false_iff_not, Bool.not_eq_true', Bool.not_eq_false'] at hp9
            refine adr_wop rfl (want_yes rfl rfl rfl hg9) rfl (aop_call (lives28_ok _) rfl Try.func37 rfl rfl rfl ?_)
            rintro v H' ⟨rfl, hlv⟩
            refine ⟨t_pend, ?_⟩
            refine adr_val rfl rfl (av_pick_bool (congrArg Value.bool hg9) rfl) t_lt ?_
            first | refine adr_val rfl rfl (av_assign_bool rfl) t_lt ?_ | refine adr_val rfl rfl (av_assign rfl) t_lt ?_
            refine ac_ret ?_
            exact ⟨.bool true, aresult1 (ares_tmp rfl), rfl, Hp.le_trans leC (Hp.le_trans hleC16 (Hp.le_trans hleC18 hlv))⟩
          · intro hg9
            exact absurd hg9 (by decide)
        · intro hg8
          exact absurd hg8 (by decide)
      · intro hg7
        exact absurd hg7 (by decide)
    · intro hg6
      exact absurd hg6 (by decide)
end Go.Proofs.Ytnkjikpmgeknbaa.Am
namespace Go.Proofs.Ytnkjikpmgeknbaa.Am
open Go Go.RowKit
set_option maxRecDepth 100000
theorem cells_i64 : Try.prog.cellsOf 3 = 1 := by kernel_rfl
theorem cells_u64 : Try.prog.cellsOf 26 = 1 := by kernel_rfl
theorem cells_link : Try.prog.cellsOf 28 = 4 := by kernel_rfl
theorem opens_ints : Opens Try.prog (kSl (kInt .i64)) 29 (fun xs => xs.length ≤ maxLen ∧ ∀ x ∈ xs, fits .i64 x) := opens_sl Try.underlying29 cells_i64 (opens_int Try.underlying3)
theorem opens_link : Opens Try.prog kLink 28 (fun x => fits .i64 x.a ∧ fits .i64 x.b ∧ fits .i64 x.cost ∧ fits .u64 x.n) := fun Hh enc W fuel cs x h => by
  obtain ⟨xs, n, _, _, hl, hxs, hf⟩ := DataW.trod_struct Try.underlying28 h
  rw [cells_link] at hl
  have hxs : xs.length = 4 := hxs
  match cs, hl with
  | [c0, c1, c2, c3], _ =>
    have f0 : DataW.trod enc Try.prog W 0 (fun _ => true) true n 3 (([c0, c1, c2, c3].drop 0).take (Try.prog.cellsOf 3)) = xs[0]? := hf 0 _ rfl
    have f1 : DataW.trod enc Try.prog W 0 (fun _ => true) true n 3 (([c0, c1, c2, c3].drop 1).take (Try.prog.cellsOf 3)) = xs[1]? := hf 1 _ rfl
    have f2 : DataW.trod enc Try.prog W 0 (fun _ => true) true n 3 (([c0, c1, c2, c3].drop 2).take (Try.prog.cellsOf 3)) = xs[2]? := hf 2 _ rfl
    have f3 : DataW.trod enc Try.prog W 0 (fun _ => true) true n 26 (([c0, c1, c2, c3].drop 3).take (Try.prog.cellsOf 26)) = xs[3]? := hf 3 _ rfl
    rw [cells_i64, List.getElem?_eq_getElem (show 0 < xs.length by omega)] at f0
    rw [cells_i64, List.getElem?_eq_getElem (show 1 < xs.length by omega)] at f1
    rw [cells_i64, List.getElem?_eq_getElem (show 2 < xs.length by omega)] at f2
    rw [cells_u64, List.getElem?_eq_getElem (show 3 < xs.length by omega)] at f3
    obtain ⟨y0, r0, b0, v0⟩ := opens_int (P := Try.prog) Try.underlying3 Hh enc W n _ _ f0
    obtain ⟨y1, r1, b1, v1⟩ := opens_int (P := Try.prog) Try.underlying3 Hh enc W n _ _ f1
    obtain ⟨y2, r2, b2, v2⟩ := opens_int (P := Try.prog) Try.underlying3 Hh enc W n _ _ f2
    obtain ⟨y3, r3, b3, v3⟩ := opens_int (P := Try.prog) Try.underlying26 Hh enc W n _ _ f3
    refine ⟨⟨y0, y1, y2, y3⟩, ?_, ⟨b0, b1, b2, b3⟩, fun v hv => ?_⟩
    · have e0 : [absV W c0] = [Value.int .i64 y0] := r0
      have e1 : [absV W c1] = [Value.int .i64 y1] := r1
      have e2 : [absV W c2] = [Value.int .i64 y2] := r2
      have e3 : [absV W c3] = [Value.int .u64 y3] := r3
      simp only [List.cons.injEq, and_true] at e0 e1 e2 e3
      simp [kLink, e0, e1, e2, e3]
    · simp at hv
      rcases hv with rfl | rfl | rfl | rfl
      · exact v0 _ (List.mem_singleton.2 rfl)
      · exact v1 _ (List.mem_singleton.2 rfl)
      · exact v2 _ (List.mem_singleton.2 rfl)
      · exact v3 _ (List.mem_singleton.2 rfl)
theorem opens_links : Opens Try.prog (kSl kLink) 22 (fun xs => xs.length ≤ maxLen ∧ ∀ x ∈ xs, fits .i64 x.a ∧ fits .i64 x.b ∧ fits .i64 x.cost ∧ fits .u64 x.n) := opens_sl Try.underlying22 cells_link opens_link
end Go.Proofs.Ytnkjikpmgeknbaa.Am
namespace Go.Proofs.Ytnkjikpmgeknbaa.Am
open Go Go.RowKit
set_option maxRecDepth 100000
theorem cells_links : Try.prog.cellsOf 22 = 1 := by kernel_rfl
theorem cells_ints : Try.prog.cellsOf 29 = 1 := by kernel_rfl
theorem cells_str : Try.prog.cellsOf 9 = 1 := by kernel_rfl
theorem cells_strs : Try.prog.cellsOf 59 = 1 := by kernel_rfl
theorem cells_intss : Try.prog.cellsOf 60 = 1 := by kernel_rfl
theorem cells_linkss : Try.prog.cellsOf 63 = 1 := by kernel_rfl
theorem cells_parts : Try.prog.cellsOf 65 = 2 := by kernel_rfl
theorem cells_forest : Try.prog.cellsOf 62 = 5 := by kernel_rfl
theorem opens_strs : Opens Try.prog (kSl kStr) 59 (fun xs => xs.length ≤ maxLen ∧ ∀ x ∈ xs, x.size ≤ maxLen) := opens_sl Try.underlying59 cells_str (opens_str Try.underlying9)
theorem opens_intss : Opens Try.prog (kSl (kSl (kInt .i64))) 60 (fun xs => xs.length ≤ maxLen ∧ ∀ x ∈ xs, x.length ≤ maxLen ∧ ∀ n ∈ x, fits .i64 n) := opens_sl Try.underlying60 cells_ints opens_ints
theorem opens_linkss : Opens Try.prog (kSl (kSl kLink)) 63 (fun xs : List (List Link) => xs.length ≤ maxLen ∧ ∀ l ∈ xs, l.length ≤ maxLen ∧ ∀ x ∈ l, fits .i64 x.a ∧ fits .i64 x.b ∧ fits .i64 x.cost ∧ fits .u64 x.n) := opens_sl Try.underlying63 cells_links opens_links
theorem opens_parts : Opens Try.prog kParts 65 BigP := fun Hh enc W fuel cs x h => by
  obtain ⟨xs, n, _, _, hl, hxs, hf⟩ := DataW.trod_struct Try.underlying65 h
  rw [cells_parts] at hl
  have hxs : xs.length = 2 := hxs
  match cs, hl with
  | [c0, c1], _ =>
    have f0 : DataW.trod enc Try.prog W 0 (fun _ => true) true n 63 (([c0, c1].drop 0).take (Try.prog.cellsOf 63)) = xs[0]? := hf 0 _ rfl
    have f1 : DataW.trod enc Try.prog W 0 (fun _ => true) true n 63 (([c0, c1].drop 1).take (Try.prog.cellsOf 63)) = xs[1]? := hf 1 _ rfl
    rw [cells_linkss, List.getElem?_eq_getElem (show 0 < xs.length by omega)] at f0
    rw [cells_linkss, List.getElem?_eq_getElem (show 1 < xs.length by omega)] at f1
    obtain ⟨y0, ⟨w0, r0, s0⟩, b0, v0⟩ := opens_linkss Hh enc W n _ _ f0
    obtain ⟨y1, ⟨w1, r1, s1⟩, b1, v1⟩ := opens_linkss Hh enc W n _ _ f1
    refine ⟨⟨y0, y1⟩, ⟨w0, w1, ?_, s0, s1⟩, ⟨b0.1, b1.1, fun l hl => (b0.2 l hl).1, fun l hl => (b1.2 l hl).1⟩, fun v hv => ?_⟩
    · have e0 : [absV W c0] = [w0] := r0
      have e1 : [absV W c1] = [w1] := r1
      simp only [List.cons.injEq, and_true] at e0 e1
      simp [e0, e1]
    · simp at hv
      rcases hv with rfl | rfl
      · exact v0 _ (List.mem_singleton.2 rfl)
      · exact v1 _ (List.mem_singleton.2 rfl)
theorem opens_forest : Opens Try.prog kForest 62 BigF := fun Hh enc W fuel cs x h => by
  obtain ⟨xs, n, _, _, hl, hxs, hf⟩ := DataW.trod_struct Try.underlying62 h
  rw [cells_forest] at hl
  have hxs : xs.length = 5 := hxs
  match cs, hl with
  | [c0, c1, c2, c3, c4], _ =>
    have f0 : DataW.trod enc Try.prog W 0 (fun _ => true) true n 59 (([c0, c1, c2, c3, c4].drop 0).take (Try.prog.cellsOf 59)) = xs[0]? := hf 0 _ rfl
    have f1 : DataW.trod enc Try.prog W 0 (fun _ => true) true n 29 (([c0, c1, c2, c3, c4].drop 1).take (Try.prog.cellsOf 29)) = xs[1]? := hf 1 _ rfl
    have f2 : DataW.trod enc Try.prog W 0 (fun _ => true) true n 29 (([c0, c1, c2, c3, c4].drop 2).take (Try.prog.cellsOf 29)) = xs[2]? := hf 2 _ rfl
    have f3 : DataW.trod enc Try.prog W 0 (fun _ => true) true n 60 (([c0, c1, c2, c3, c4].drop 3).take (Try.prog.cellsOf 60)) = xs[3]? := hf 3 _ rfl
    have f4 : DataW.trod enc Try.prog W 0 (fun _ => true) true n 60 (([c0, c1, c2, c3, c4].drop 4).take (Try.prog.cellsOf 60)) = xs[4]? := hf 4 _ rfl
    rw [cells_strs, List.getElem?_eq_getElem (show 0 < xs.length by omega)] at f0
    rw [cells_ints, List.getElem?_eq_getElem (show 1 < xs.length by omega)] at f1
    rw [cells_ints, List.getElem?_eq_getElem (show 2 < xs.length by omega)] at f2
    rw [cells_intss, List.getElem?_eq_getElem (show 3 < xs.length by omega)] at f3
    rw [cells_intss, List.getElem?_eq_getElem (show 4 < xs.length by omega)] at f4
    obtain ⟨y0, ⟨w0, r0, s0⟩, b0, v0⟩ := opens_strs Hh enc W n _ _ f0
    obtain ⟨y1, ⟨w1, r1, s1⟩, b1, v1⟩ := opens_ints Hh enc W n _ _ f1
    obtain ⟨y2, ⟨w2, r2, s2⟩, b2, v2⟩ := opens_ints Hh enc W n _ _ f2
    obtain ⟨y3, ⟨w3, r3, s3⟩, b3, v3⟩ := opens_intss Hh enc W n _ _ f3
    obtain ⟨y4, ⟨w4, r4, s4⟩, b4, v4⟩ := opens_intss Hh enc W n _ _ f4
    refine ⟨⟨y0, y1, y2, y3, y4⟩, ⟨w0, w1, w2, w3, w4, ?_, s0, s1, s2, s3, s4⟩, ⟨b0.1, b1.1, b2.1, b3.1, b4.1, fun l hl => (b3.2 l hl).1, fun l hl => (b4.2 l hl).1⟩, fun v hv => ?_⟩
    · have e0 : [absV W c0] = [w0] := r0
      have e1 : [absV W c1] = [w1] := r1
      have e2 : [absV W c2] = [w2] := r2
      have e3 : [absV W c3] = [w3] := r3
      have e4 : [absV W c4] = [w4] := r4
      simp only [List.cons.injEq, and_true] at e0 e1 e2 e3 e4
      simp [e0, e1, e2, e3, e4]
    · simp at hv
      rcases hv with rfl | rfl | rfl | rfl | rfl
      · exact v0 _ (List.mem_singleton.2 rfl)
      · exact v1 _ (List.mem_singleton.2 rfl)
      · exact v2 _ (List.mem_singleton.2 rfl)
      · exact v3 _ (List.mem_singleton.2 rfl)
      · exact v4 _ (List.mem_singleton.2 rfl)
end Go.Proofs.Ytnkjikpmgeknbaa.Am
