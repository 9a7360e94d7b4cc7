/- Texts that the proof rests on, part 5: lemmas for every heap that is related to a world, no condition beyond each lemma's own. -/
import Derived.Test.YtcaeoebphfjfiaaTr4
import Derived.Test.YtcaeoebphfjfiaaTr3
import Derived.Test.YtcaeoebphfjfiaaTr1

/- Trees are asked for a link. -/
namespace Go.Proofs.Ytcaeoebphfjfiaa.Am
open Go Go.RowKit
set_option maxRecDepth 100000
set_option linter.unusedVariables false
set_option linter.unusedSimpArgs false

theorem find1_raw (xs : List Link) (A : Option Addr) (c i : Nat) (m : Int) (b1 b2 : Nat) (H : Hp) (h1 : H.cell? b1 0 = some (.slice A xs.length c)) (h2 : H.cell? b2 0 = some (.int .i64 m)) (hs : Sl kLink H (.slice A xs.length c) xs) (hi : i < xs.length) (hb1 : b1 < H.size) (hb2 : b2 < H.size) :
    ACalls Try.prog 82 #[.int .i64 i, .pointer (some ⟨b1, 0, none⟩), .pointer (some ⟨b2, 0, none⟩)] H (fun r _ => r = .bool (decide (m ≤ xs[i].b))) := by
  obtain ⟨b, o, rfl, hb, hcell⟩ := hs.link_at hi
  have hcellb := hcell 1 _ rfl
  refine acalls_of_code Try.func82 rfl rfl rfl (by simp) ?_
  refine ac_seq ?_
  refine ac_region (by kernel_rfl) ?_
  first | refine aops_val (av_assign_bool rfl) ?_ | refine aops_val (av_assign rfl) ?_
  refine ac_seq ?_
  refine ac_draw (by kernel_rfl) (reg_of (B := [0, 0, 3, 7, 15, 0, 63, 127]) (π := [0, 1, 2, 3, 4, 5, 6, 7]) (by kernel_rfl)) ?_
  refine adr_val rfl rfl (av_load1 rfl Try.underlying50 rfl t_cell) t_lt ?_
  first | refine adr_val rfl rfl (av_move_int rfl) t_lt ?_ | refine adr_val rfl rfl (av_move rfl) t_lt ?_
  refine adr_val rfl rfl (av_indexAddr rfl rfl Try.underlying50 inf54.size t_idx t_idx) t_lt ?_
  refine adr_val rfl rfl (av_fieldOff (off := 1) rfl Try.underlying54 rfl inf3.size (by decide) rfl) t_lt ?_
  refine adr_val rfl rfl (av_load1 rfl Try.underlying3 rfl t_cell) t_lt ?_
  refine adr_val rfl rfl (av_load1 rfl Try.underlying3 rfl t_cell) t_lt ?_
  refine adr_val rfl rfl (av_ge rfl rfl) t_lt ?_
  first | refine adr_val rfl rfl (av_assign_bool rfl) t_lt ?_ | refine adr_val rfl rfl (av_assign rfl) t_lt ?_
  refine ac_ret ?_
  exact ⟨_, aresult1 (ares_tmp rfl), rfl⟩
def findB (g : List Link) (node : Int) : Option Link := g.find? fun l => decide (l.b = node)
theorem findB_some {g : List Link} {node : Int} {i : Nat} (hi : i < g.length) (h : g[i].b = node) (hno : ∀ j, j < i → ∀ h : j < g.length, g[j].b ≠ node) : findB g node = some g[i] := by
  unfold findB
  rw [List.find?_eq_some_iff_getElem]
  exact ⟨decide_eq_true h, i, hi, rfl, fun j hj => by simp [hno j hj (by omega)]⟩
theorem findB_none {g : List Link} {node : Int} (h : ∀ l ∈ g, l.b ≠ node) : findB g node = none := by
  unfold findB
  rw [List.find?_eq_none]
  intro l hl
  simp [h l hl]
set_option maxHeartbeats 1000000 in
theorem find_tree {T : TreeT} {v : Value} {H : Hp} (ht : TreeR H v T) (hl : T.parent.length = T.vars.length) (hl2 : T.links.length = T.vars.length) (hx : ∀ l ∈ T.links, l.length ≤ 1000000) (i above node : Int) (hsort : (T.group i above).Pairwise fun x y => x.b < y.b) :
    ACalls Try.prog 60 #[v, .int .i64 i, .int .i64 above, .int .i64 node] H (fun r H' => H.le H' ∧ r = .tuple #[.agg #[.int .i64 ((findB (T.group i above) node).getD dLink).a, .int .i64 ((findB (T.group i above) node).getD dLink).b, .int .i64 ((findB (T.group i above) node).getD dLink).cost, .int .u64 ((findB (T.group i above) node).getD dLink).n], .bool (findB (T.group i above) node).isSome]) := by
  obtain ⟨b0, _, _, _, _, _, hv, _⟩ := id ht
  have hgl := group_len hx i above
  obtain ⟨g, hg⟩ : ∃ g, g = T.group i above := ⟨_, rfl⟩
  rw [← hg] at hgl hsort
  have hmono : ∀ (a b : Nat) (ha : a < g.length) (hb : b < g.length), a < b → g[a].b < g[b].b := fun a b ha hb h => List.pairwise_iff_getElem.1 hsort a b ha hb h
  rw [← hg]
  refine acalls_of_code Try.func60 rfl rfl rfl (by simp) ?_
  refine ac_seq ?_
  refine ac_region (by kernel_rfl) ?_
  refine aops_make (am_box_int rfl) ?_
  refine aops_make (am_zero (l := [.int .i64 0, .int .i64 0, .int .i64 0, .int .u64 0]) inf54.zero rfl (by decide)) ?_
  first | refine aops_val (av_assign_bool rfl) ?_ | refine aops_val (av_assign rfl) ?_
  refine ac_seq ?_
  refine ac_region (by kernel_rfl) ?_
  first | refine aops_val (av_move_ptr rfl) ?_ | refine aops_val (av_move rfl) ?_
  first | refine aops_val (av_move_int rfl) ?_ | refine aops_val (av_move rfl) ?_
  first | refine aops_val (av_move_int rfl) ?_ | refine aops_val (av_move rfl) ?_
  refine aops_op (aop_call (row_tree (ht.mono (Hp.le_push' (H.le_push _) _)) hl hl2 hx i above) rfl Try.func62 rfl rfl rfl ?_)
  rintro v5 H5 ⟨hle5, hs5⟩; change Sl kLink H5 v5 (T.group i above) at hs5; rw [← hg] at hs5; obtain ⟨A5, c5, rfl⟩ := hs5.shape; have hz5 := hle5.1; simp only [Hp.push_size] at hz5
  refine aops_make (am_zero (l := [.slice none 0 0]) inf50.zero rfl (by decide)) ?_
  first | refine aops_op (aop_put1 rfl rfl rfl inf50.size t_get t_room rfl ?_)
  refine ac_seq ?_
  obtain ⟨HS, hHS⟩ : ∃ HS, HS = (H5.push (.own 0 [.slice none 0 0])).put H5.size (.own 0 [.slice A5 g.length c5]) := ⟨_, rfl⟩
  have leS : H5.le HS := by rw [hHS]; exact Hp.le_put_new (H5.le_push _) (Nat.le_refl _) _
  have zS : HS.size = H5.size + 1 := by rw [hHS]; simp
  have leB := Hp.le_trans hle5 leS
  have gn : HS.get H.size = .own 0 [.int .i64 node] := le_got leB (by simp <;> omega) (by intro e; cases e) t_get
  have gz : HS.get (H.size + 1) = .own 0 [.int .i64 0, .int .i64 0, .int .i64 0, .int .u64 0] := le_got leB (by simp <;> omega) (by intro e; cases e) t_get
  have gl : HS.get H5.size = .own 0 [.slice A5 g.length c5] := by rw [hHS]; exact Hp.put_same _ _ _
  have hsS := hs5.mono leS.sees
  have leH : H.le HS := Hp.le_trans (Hp.le_push' (H.le_push _) _) leB
  change ACode true _ _ _ _ _ ((H5.push (.own 0 [.slice none 0 0])).put H5.size (.own 0 [.slice A5 g.length c5]))
  rw [← hHS]
  have c1 : HS.cell? H5.size 0 = some (.slice A5 g.length c5) := cell_own (cs := [.slice A5 g.length c5]) gl
  have c2 : HS.cell? H.size 0 = some (.int .i64 node) := cell_own (cs := [.int .i64 node]) gn
  have call1 : ∀ k, k < g.length → ACalls Try.prog 82 (#[.int .i64 (k : Nat)] ++ #[.pointer (some ⟨H5.size, 0, none⟩), .pointer (some ⟨H.size, 0, none⟩)]) HS (fun r H' => r = .bool (if h : k < g.length then decide (node ≤ g[k].b) else true) ∧ H' = HS) := fun k hk =>
    ACalls.pure (R := fun r => r = .bool (if h : k < g.length then decide (node ≤ g[k].b) else true)) (fun v h => by rw [h]; rfl) ((find1_raw g A5 c5 k node H5.size H.size HS.ro (cell_ro c1) (cell_ro c2) (hsS.mono HS.sees_ro) hk (by show H5.size < HS.size; omega) (by show H.size < HS.size; omega)).mono fun r _ h => by rw [h, dif_pos hk])
  have mono1 : ∀ a b, a ≤ b → b < g.length → (if h : a < g.length then decide (node ≤ g[a].b) else true) = true → (if h : b < g.length then decide (node ≤ g[b].b) else true) = true := fun a b hab hb h => by
    rw [dif_pos (by omega)] at h ⊢
    rcases Nat.lt_or_eq_of_le hab with h1 | h1
    · have := hmono a b (by omega) hb h1
      have := of_decide_eq_true h
      exact decide_eq_true (by omega)
    · subst h1; exact h
  refine ac_region (by kernel_rfl) ?_
  refine aops_val (av_load1 rfl Try.underlying50 rfl t_cell) ?_
  refine aops_val (av_len rfl Try.underlying50) ?_
  refine aops_val (av_makeFunc) ?_
  refine aops_op (aop_call (Search_gen g.length 82 _ #[.pointer (some ⟨H5.size, 0, none⟩), .pointer (some ⟨H.size, 0, none⟩)] (fun k => if h : k < g.length then decide (node ≤ g[k].b) else true) HS Try.func82 rfl rfl call1 mono1 (by omega)) rfl Try.func72 rfl rfl rfl ?_)
  rintro v6 HS ⟨⟨lo, rfl, hlo, hlo1, hlo2⟩, rfl⟩
  first | refine aops_val (av_assign_int rfl) ?_ | refine aops_val (av_assign rfl) ?_
  refine ac_seq ?_
  refine ac_seq ?_
  refine ac_draw (by kernel_rfl) (reg_of (B := [0, 0, 2, 7, 15, 31, 31, 127, 255, 511, 31, 2047, 4095]) (π := [0, 1, 2, 3, 4, 5, 6, 7, 8, 9, 10, 11, 12]) (by kernel_rfl)) ?_
  first | refine adr_val rfl rfl (av_move_int rfl) t_lt ?_ | refine adr_val rfl rfl (av_move rfl) t_lt ?_
  refine adr_val rfl rfl (av_load1 rfl Try.underlying50 rfl t_cell) t_lt ?_
  refine adr_val rfl rfl (av_len rfl Try.underlying50) t_lt ?_
  refine adr_val rfl rfl (av_eq rfl rfl) t_lt ?_
  first | refine adr_val rfl rfl (av_move_bool rfl) t_lt ?_ | refine adr_val rfl rfl (av_move rfl) t_lt ?_
  refine adr_guard rfl rfl rfl rfl ?_ ?_
  · intro hg1
    have heq : lo = g.length := by have := of_decide_eq_true hg1; omega
    have hfb : findB g node = none := findB_none fun l hl => by
      obtain ⟨j, hj, rfl⟩ := List.getElem_of_mem hl
      have := hlo1 j (by omega)
      rw [dif_pos hj] at this
      have := of_decide_eq_false this
      omega
    refine adr_skip rfl (want_no rfl rfl rfl hg1 rfl) ?_
    refine adr_skip rfl (want_no rfl rfl rfl hg1 rfl) ?_
    refine adr_skip rfl (want_no rfl rfl rfl hg1 rfl) ?_
    refine adr_skip rfl (want_no rfl rfl rfl hg1 rfl) ?_
    refine adr_skip rfl (want_no rfl rfl rfl hg1 rfl) ?_
    refine adr_skip rfl (want_no rfl rfl rfl hg1 rfl) ?_
    refine adr_skip rfl (want_no rfl rfl rfl hg1 rfl) ?_
    refine adr_val rfl rfl (av_pick_bool (congrArg Value.bool hg1) rfl) t_lt ?_
    refine ac_cond_true rfl rfl ?_
    refine ac_seq ?_
    refine ac_region (by kernel_rfl) ?_
    refine aops_val (av_build (pl := [(0, 1), (1, 1), (2, 1), (3, 1)]) (r := [.int .i64 _, .int .i64 _, .int .i64 _, .int .u64 _]) Try.underlying54 inf54.zero (by decide) rfl rfl) ?_
    first | refine aops_op (aop_putN (vs := [.int .i64 _, .int .i64 _, .int .i64 _, .int .u64 _]) rfl rfl inf54.size t_get t_room rfl rfl ?_)
    first | refine aops_val (av_assign_bool rfl) ?_ | refine aops_val (av_assign rfl) ?_
    refine ac_ret ?_
    rw [hfb]
    exact ⟨_, aresult2 (ares_cell (by first | assumption | rfl) (aload_agg (cs := [.int .i64 0, .int .i64 0, .int .i64 0, .int .u64 0]) Try.underlying54 rfl inf54.size t_cells)) (ares_tmp rfl), Hp.le_put_new leH (by simp <;> omega) _, rfl⟩
  · intro hg1
    have hlt : lo < g.length := by have := of_decide_eq_false hg1; omega
    obtain ⟨bx, ox, eA, hbx, hcx⟩ := hsS.link_at hlt
    subst eA
    have hcxb := hcx 1 _ rfl
    have hge : node ≤ g[lo].b := by have := hlo2 lo (Nat.le_refl _) hlt; rw [dif_pos hlt] at this; exact of_decide_eq_true this
    have hbelow : ∀ j, j < lo → ∀ h : j < g.length, g[j].b ≠ node := fun j hj h e => by
      have := hlo1 j hj
      rw [dif_pos h] at this
      have := of_decide_eq_false this
      omega
    refine adr_wval rfl (want_yes rfl rfl rfl hg1) rfl (av_load1 rfl Try.underlying50 rfl t_cell) t_lt ?_
    first | refine adr_wval rfl (want_yes rfl rfl rfl hg1) rfl (av_move_int rfl) t_lt ?_ | refine adr_wval rfl (want_yes rfl rfl rfl hg1) rfl (av_move rfl) t_lt ?_
    refine adr_wval rfl (want_yes rfl rfl rfl hg1) rfl (av_indexAddr rfl rfl Try.underlying50 inf54.size t_idx t_idx) t_lt ?_
    refine adr_wval rfl (want_yes rfl rfl rfl hg1) rfl (av_fieldOff (off := 1) rfl Try.underlying54 rfl inf3.size (by decide) rfl) t_lt ?_
    refine adr_wval rfl (want_yes rfl rfl rfl hg1) rfl (av_load1 rfl Try.underlying3 rfl t_cell) t_lt ?_
    refine adr_wval rfl (want_yes rfl rfl rfl hg1) rfl (av_load1 rfl Try.underlying3 rfl t_cell) t_lt ?_
    refine adr_wval rfl (want_yes rfl rfl rfl hg1) rfl (av_ne rfl rfl) t_lt ?_
    refine adr_val rfl rfl (av_pick_bool (congrArg Value.bool hg1) rfl) t_lt ?_
    refine ac_split rfl rfl ?_ ?_
    · intro hc3
      have hne : g[lo].b ≠ node := by have h := hc3; simpa using h
      have hfb : findB g node = none := findB_none fun l hl => by
        obtain ⟨j, hj, rfl⟩ := List.getElem_of_mem hl
        rcases Nat.lt_trichotomy j lo with h | h | h
        · exact hbelow j h hj
        · subst h; exact hne
        · have := hmono lo j hlt hj h; omega
      refine ac_seq ?_
      refine ac_region (by kernel_rfl) ?_
      refine aops_val (av_build (pl := [(0, 1), (1, 1), (2, 1), (3, 1)]) (r := [.int .i64 _, .int .i64 _, .int .i64 _, .int .u64 _]) Try.underlying54 inf54.zero (by decide) rfl rfl) ?_
      first | refine aops_op (aop_putN (vs := [.int .i64 _, .int .i64 _, .int .i64 _, .int .u64 _]) rfl rfl inf54.size t_get t_room rfl rfl ?_)
      first | refine aops_val (av_assign_bool rfl) ?_ | refine aops_val (av_assign rfl) ?_
      refine ac_ret ?_
      rw [hfb]
      exact ⟨_, aresult2 (ares_cell (by first | assumption | rfl) (aload_agg (cs := [.int .i64 0, .int .i64 0, .int .i64 0, .int .u64 0]) Try.underlying54 rfl inf54.size t_cells)) (ares_tmp rfl), Hp.le_put_new leH (by simp <;> omega) _, rfl⟩
    · intro hc3
      have he : g[lo].b = node := by have h := hc3; simpa using h
      have hfb : findB g node = some g[lo] := findB_some hlt he hbelow
      refine ac_skip ?_
      refine ac_seq ?_
      refine ac_region (by kernel_rfl) ?_
      refine aops_val (av_load1 rfl Try.underlying50 rfl t_cell) ?_
      first | refine aops_val (av_move_int rfl) ?_ | refine aops_val (av_move rfl) ?_
      refine aops_val (av_indexAddr rfl rfl Try.underlying50 inf54.size t_idx t_idx) ?_
      refine aops_val (av_loadN (cs := [.int .i64 _, .int .i64 _, .int .i64 _, .int .u64 _]) rfl Try.underlying54 rfl inf54.size t_cells) ?_
      first | refine aops_op (aop_putN (vs := [.int .i64 _, .int .i64 _, .int .i64 _, .int .u64 _]) rfl rfl inf54.size t_get t_room rfl rfl ?_)
      first | refine aops_val (av_assign_bool rfl) ?_ | refine aops_val (av_assign rfl) ?_
      refine ac_ret ?_
      rw [hfb]
      exact ⟨_, aresult2 (ares_cell (by first | assumption | rfl) (aload_agg (cs := [_, _, _, _]) Try.underlying54 rfl inf54.size t_cells)) (ares_tmp rfl), Hp.le_put_new leH (by simp <;> omega) _, rfl⟩
end Go.Proofs.Ytcaeoebphfjfiaa.Am


/- Links with what their second ends cost. -/
namespace Go.Proofs.Ytcaeoebphfjfiaa.Am
open Go Go.RowKit
set_option maxRecDepth 100000
set_option linter.unusedVariables false
set_option linter.unusedSimpArgs false

theorem weighed1_raw (xs : List Link) (A : Option Addr) (c i : Nat) (m : Int) (b1 b2 : Nat) (H : Hp) (h1 : H.cell? b1 0 = some (.slice A xs.length c)) (h2 : H.cell? b2 1 = some (.int .i64 m)) (hs : Sl kLink H (.slice A xs.length c) xs) (hi : i < xs.length) (hb1 : b1 < H.size) (hb2 : b2 < H.size) :
    ACalls Try.prog 79 #[.int .i64 i, .pointer (some ⟨b1, 0, none⟩), .pointer (some ⟨b2, 0, none⟩)] H (fun r _ => r = .bool (decide (m ≤ xs[i].a))) := by
  obtain ⟨b, o, rfl, hb, hcell⟩ := hs.link_at hi
  have hcella := hcell 0 _ rfl
  refine acalls_of_code Try.func79 rfl rfl rfl (by simp) ?_
  refine ac_seq ?_
  refine ac_region (by kernel_rfl) ?_
  first | refine aops_val (av_assign_bool rfl) ?_ | refine aops_val (av_assign rfl) ?_
  refine ac_seq ?_
  refine ac_draw (by kernel_rfl) (reg_of (B := [0, 0, 3, 7, 15, 0, 32, 127, 255]) (π := [0, 1, 2, 3, 4, 5, 6, 7, 8]) (by kernel_rfl)) ?_
  refine adr_val rfl rfl (av_load1 rfl Try.underlying50 rfl t_cell) t_lt ?_
  first | refine adr_val rfl rfl (av_move_int rfl) t_lt ?_ | refine adr_val rfl rfl (av_move rfl) t_lt ?_
  refine adr_val rfl rfl (av_indexAddr rfl rfl Try.underlying50 inf54.size t_idx t_idx) t_lt ?_
  refine adr_val rfl rfl (av_fieldOff (off := 0) rfl Try.underlying54 rfl inf3.size (by decide) rfl) t_lt ?_
  refine adr_val rfl rfl (av_load1 rfl Try.underlying3 rfl t_cell) t_lt ?_
  refine adr_val rfl rfl (av_fieldOff (off := 1) rfl Try.underlying54 rfl inf3.size (by decide) rfl) t_lt ?_
  refine adr_val rfl rfl (av_load1 rfl Try.underlying3 rfl t_cell) t_lt ?_
  refine adr_val rfl rfl (av_ge rfl rfl) t_lt ?_
  first | refine adr_val rfl rfl (av_assign_bool rfl) t_lt ?_ | refine adr_val rfl rfl (av_assign rfl) t_lt ?_
  refine ac_ret ?_
  exact ⟨_, aresult1 (ares_tmp rfl), rfl⟩
theorem av_makeFunc2 {P : Program} {t : Fr} {H : Hp} {d : Option Tmp} {ty : TypeId} {pos : String} {after : Array Edge} {guard : Option (Nat × Bool)} {f : FuncId} {cap : Array Operand} {vs : List Value} (h : cap.toList.map t.eval = vs) : AVal P ⟨d, .makeFunc (.func f) #[] cap, ty, pos, after, guard⟩ t [] H (.func (.func f) #[] vs.toArray) := by
  have := av_makeFunc (P := P) (t := t) (H := H) (d := d) (ty := ty) (pos := pos) (after := after) (guard := guard) (f := f) (first := #[]) (cap := cap)
  rw [h] at this
  exact this
theorem nodeOf_at {ns : List Link} {b : Int} {m : Nat} (hm : m < ns.length) (h : ns[m].a = b) (hno : ∀ j, j < m → ∀ h : j < ns.length, ns[j].a ≠ b) : nodeOf ns b = ns[m] := by
  unfold nodeOf
  have : ns.find? (fun y => decide (y.a = b)) = some ns[m] := by
    rw [List.find?_eq_some_iff_getElem]
    exact ⟨decide_eq_true h, m, hm, rfl, fun j hj => by simp [hno j hj (by omega)]⟩
  rw [this]; rfl
set_option maxHeartbeats 1000000 in
theorem weighed_links (ls ns : List Link) (v u : Value) (H : Hp) (hs : Sl kLink H v ls) (hn : Sl kLink H u ns) (hl : ls.length ≤ 1000000) (hnl : ns.length ≤ 1000000) (hsort : ns.Pairwise fun x y => x.a < y.a) (hin : ∀ l ∈ ls, l.b ∈ firsts ns)
    (hcl : ∀ l ∈ ls, 0 ≤ l.cost ∧ l.cost ≤ 1000000000 ∧ 0 ≤ l.n) (hcn : ∀ l ∈ ns, 0 ≤ l.cost ∧ l.cost ≤ 1000000000 ∧ 0 ≤ l.n) :
    ACalls Try.prog 50 #[v, u] H (fun r H' => ∃ G', H.le G' ∧ OwnP kLink G' H' r (ls.map (weigh ns))) := by
  obtain ⟨A, c, rfl⟩ := hs.shape
  obtain ⟨An, cn, rfl⟩ := hn.shape
  have hmono : ∀ (a b : Nat) (ha : a < ns.length) (hb : b < ns.length), a < b → ns[a].a < ns[b].a := fun a b ha hb h => List.pairwise_iff_getElem.1 hsort a b ha hb h
  refine acalls_of_code Try.func50 rfl rfl rfl (by simp) ?_
  refine ac_seq ?_
  refine ac_region (by kernel_rfl) ?_
  refine aops_make (am_box_sl rfl) ?_
  first | refine aops_val (av_assign_sl rfl) ?_ | refine aops_val (av_assign rfl) ?_
  refine ac_seq ?_
  refine ac_region (by kernel_rfl) ?_
  first | refine aops_val (av_assign_sl rfl) ?_ | refine aops_val (av_assign rfl) ?_
  refine ac_seq ?_
  refine ac_seq ?_
  refine ac_region (by kernel_rfl) ?_
  first | refine aops_val (av_move_sl rfl) ?_ | refine aops_val (av_move rfl) ?_
  refine aops_val (av_len rfl Try.underlying50) ?_
  first | refine aops_val (av_move_int rfl) ?_ | refine aops_val (av_move rfl) ?_
  refine ac_block ?_
  refine ac_loop (fun n t H' => ∃ (i : Nat) (G : Hp) (B : Option Addr) (c5 : Nat), i ≤ ls.length ∧ n = ls.length - i ∧ (H.push (.own 0 [.slice An ns.length cn])).le G ∧ OwnP kLink G H' (.slice B i c5) ((ls.take i).map (weigh ns)) ∧ t 3 = .pointer (some ⟨H.size, 0, none⟩) ∧ t 5 = .slice B i c5 ∧ t 9 = .slice A ls.length c ∧ t 10 = .int .i64 ls.length ∧ t 11 = .int .i64 i) (ls.length) (⟨0, _, _, _, by omega, rfl, Hp.le_refl _, OwnP.nil _ _, rfl, rfl, rfl, rfl, rfl⟩) ?_
  rintro n t H1 ⟨i, G, B, c5, hi, rfl, hle, hown, e3, e5, e9, e10, e11⟩
  have hz := hown.size
  have hz1 := hle.1
  simp only [Hp.push_size] at hz1
  have leH : H.le G := Hp.le_trans (H.le_push _) hle
  have leH1 : H.le H1 := Hp.le_trans leH hown.le
  have kb : G.get H.size = .own 0 [.slice An ns.length cn] := le_got hle (by simp) (by intro e; cases e) t_get
  have hb1 := le_got hown.le (by omega) (by intro e; cases e) kb
  refine ac_seq ?_
  refine ac_region (by kernel_rfl) ?_
  refine aops_val (av_lt (by first | assumption | rfl) (by first | assumption | rfl)) ?_
  refine ac_seq ?_
  refine ac_split rfl rfl ?_ ?_
  · intro hc1
    (try simp only [decide_eq_true_eq, decide_eq_false_iff_not, Bool.not_eq_true', Bool.not_eq_false'] at hc1)
    refine ac_skip ?_
    refine ac_seq ?_
    refine ac_block ?_
    refine ac_seq ?_
    refine ac_region (by kernel_rfl) ?_
    have hix : i < ls.length := by omega
    obtain ⟨b, o, eA, hb, hcell0⟩ := hs.link_at hix
    subst eA
    have hcells := leH1.cells hb hcell0
    obtain ⟨l, hl'⟩ : ∃ l, l = ls[i] := ⟨_, rfl⟩
    rw [← hl'] at hcells
    have hlm : l ∈ ls := by rw [hl']; exact List.getElem_mem hix
    obtain ⟨hl0, hl1, hl2⟩ := hcl l hlm
    obtain ⟨y, hy, hya⟩ := List.mem_map.1 (hin l hlm)
    obtain ⟨j, hj, rfl⟩ := List.getElem_of_mem hy
    refine aops_val (av_indexAddr (by first | assumption | rfl) (by first | assumption | rfl) Try.underlying50 inf54.size t_idx t_idx) ?_
    refine aops_val (av_loadN (cs := [.int .i64 _, .int .i64 _, .int .i64 _, .int .u64 _]) rfl Try.underlying54 rfl inf54.size t_cells) ?_
    refine aops_make (am_zero (l := [.int .i64 0, .int .i64 0, .int .i64 0, .int .u64 0]) inf54.zero rfl (by decide)) ?_
    first | refine aops_op (aop_putN (vs := [.int .i64 _, .int .i64 _, .int .i64 _, .int .u64 _]) rfl rfl inf54.size t_get t_room rfl rfl ?_)
    refine ac_seq ?_
    obtain ⟨H2, hH2⟩ : ∃ H2, H2 = (H1.push (.own 0 [.int .i64 0, .int .i64 0, .int .i64 0, .int .u64 0])).put H1.size (.own 0 [.int .i64 l.a, .int .i64 l.b, .int .i64 l.cost, .int .u64 l.n]) := ⟨_, rfl⟩
    obtain ⟨G2, hG2⟩ : ∃ G2, G2 = (G.push (.own 0 [.int .i64 0, .int .i64 0, .int .i64 0, .int .u64 0])).put H1.size (.own 0 [.int .i64 l.a, .int .i64 l.b, .int .i64 l.cost, .int .u64 l.n]) := ⟨_, rfl⟩
    have hown2 : OwnP kLink G2 H2 (.slice B i c5) ((ls.take i).map (weigh ns)) := by rw [hH2, hG2]; exact hown.boxed _ _
    have hle2 : (H.push (.own 0 [.slice An ns.length cn])).le G2 := by rw [hG2]; exact Hp.le_put_new (Hp.le_push' hle _) (by simp; omega) _
    have g2 : H2.get H1.size = .own 0 [.int .i64 l.a, .int .i64 l.b, .int .i64 l.cost, .int .u64 l.n] := by rw [hH2]; exact Hp.put_same _ _ _
    have kg2 : G2.get H1.size = .own 0 [.int .i64 l.a, .int .i64 l.b, .int .i64 l.cost, .int .u64 l.n] := by rw [hG2]; exact Hp.put_same _ _ _
    have z2 : H2.size = H1.size + 1 := by rw [hH2]; simp
    have zz2 := hown2.size
    have hb2 : H2.get H.size = .own 0 [.slice An ns.length cn] := by rw [hH2, Hp.put_other _ _ (by omega), Hp.push_old _ _ (by omega)]; exact hb1
    change ACode true _ _ _ _ _ ((H1.push (.own 0 [.int .i64 0, .int .i64 0, .int .i64 0, .int .u64 0])).put H1.size (.own 0 [.int .i64 l.a, .int .i64 l.b, .int .i64 l.cost, .int .u64 l.n]))
    rw [← hH2]
    have leH2 : H.le H2 := Hp.le_trans (Hp.le_trans (H.le_push _) hle2) hown2.le
    have hn2 := hn.mono leH2.sees
    have c1 : H2.cell? H.size 0 = some (.slice An ns.length cn) := cell_own (cs := [.slice An ns.length cn]) hb2
    have c2 : H2.cell? H1.size 1 = some (.int .i64 l.b) := cell_own (cs := [.int .i64 l.a, .int .i64 l.b, .int .i64 l.cost, .int .u64 l.n]) g2
    have call1 : ∀ k, k < ns.length → ACalls Try.prog 79 (#[.int .i64 (k : Nat)] ++ #[.pointer (some ⟨H.size, 0, none⟩), .pointer (some ⟨H1.size, 0, none⟩)]) H2 (fun r H' => r = .bool (if h : k < ns.length then decide (l.b ≤ ns[k].a) else true) ∧ H' = H2) := fun k hk =>
      ACalls.pure (R := fun r => r = .bool (if h : k < ns.length then decide (l.b ≤ ns[k].a) else true)) (fun v h => by rw [h]; rfl) ((weighed1_raw ns An cn k l.b H.size H1.size H2.ro (cell_ro c1) (cell_ro c2) (hn2.mono H2.sees_ro) hk (by show H.size < H2.size; omega) (by show H1.size < H2.size; omega)).mono fun r _ h => by rw [h, dif_pos hk])
    have mono1 : ∀ a b, a ≤ b → b < ns.length → (if h : a < ns.length then decide (l.b ≤ ns[a].a) else true) = true → (if h : b < ns.length then decide (l.b ≤ ns[b].a) else true) = true := fun a b hab hb h => by
      rw [dif_pos (by omega)] at h ⊢
      rcases Nat.lt_or_eq_of_le hab with h1 | h1
      · have := hmono a b (by omega) hb h1
        have := of_decide_eq_true h
        exact decide_eq_true (by omega)
      · subst h1; exact h
    refine ac_region (by kernel_rfl) ?_
    refine aops_val (av_load1 (by first | assumption | rfl) Try.underlying50 (by first | assumption | rfl) t_cell) ?_
    refine aops_val (av_len rfl Try.underlying50) ?_
    refine aops_val (av_makeFunc2 (vs := [.pointer (some ⟨H.size, 0, none⟩), .pointer (some ⟨H1.size, 0, none⟩)]) (by simp [Fr.put, Fr.eval, e3])) ?_
    refine aops_op (aop_call (Search_gen ns.length 79 _ #[.pointer (some ⟨H.size, 0, none⟩), .pointer (some ⟨H1.size, 0, none⟩)] (fun k => if h : k < ns.length then decide (l.b ≤ ns[k].a) else true) H2 Try.func79 rfl rfl call1 mono1 (by omega)) rfl Try.func72 rfl rfl rfl ?_)
    rintro v6 H2 ⟨⟨m, rfl, hm, hm1, hm2⟩, rfl⟩
    first | refine aops_val (av_assign_int rfl) ?_ | refine aops_val (av_assign rfl) ?_
    refine ac_seq ?_
    have hmj : m = j := by
      rcases Nat.lt_trichotomy m j with h | h | h
      · have h1 := hm2 m (Nat.le_refl _) (by omega)
        rw [dif_pos (by omega)] at h1
        have := of_decide_eq_true h1
        have := hmono m j (by omega) hj h
        omega
      · exact h
      · have h1 := hm1 j h
        rw [dif_pos hj] at h1
        have := of_decide_eq_false h1
        omega
    subst hmj
    have hnode : nodeOf ns l.b = ns[m] := nodeOf_at hj hya fun k hk h e => by
      have h1 := hm1 k hk
      rw [dif_pos h] at h1
      have := of_decide_eq_false h1
      omega
    obtain ⟨hc0, hc1, hc2⟩ := hcn ns[m] (List.getElem_mem hj)
    obtain ⟨bn, on, eN, hbn, hcelln⟩ := hn2.link_at hj
    subst eN
    have hcelln2 := hcelln 2 _ rfl
    have hcelln3 := hcelln 3 _ rfl
    refine ac_draw (by kernel_rfl) (reg_of (B := [0, 1, 0, 0, 12, 28, 60, 127, 255, 511]) (π := [0, 1, 2, 3, 4, 5, 6, 7, 8, 9]) (by kernel_rfl)) ?_
    refine adr_val rfl rfl (av_fieldOff (off := 2) rfl Try.underlying54 rfl inf3.size (by decide) rfl) t_lt ?_
    refine adr_val rfl rfl (av_load1 rfl Try.underlying3 rfl t_cell) t_lt ?_
    refine adr_val rfl rfl (av_load1 (by first | assumption | rfl) Try.underlying50 (by first | assumption | rfl) t_cell) t_lt ?_
    first | refine adr_val rfl rfl (av_move_int rfl) t_lt ?_ | refine adr_val rfl rfl (av_move rfl) t_lt ?_
    refine adr_val rfl rfl (av_indexAddr rfl rfl Try.underlying50 inf54.size t_idx t_idx) t_lt ?_
    refine adr_val rfl rfl (av_fieldOff (off := 2) rfl Try.underlying54 rfl inf3.size (by decide) rfl) t_lt ?_
    refine adr_val rfl rfl (av_load1 rfl Try.underlying3 rfl t_cell) t_lt ?_
    first | refine adr_val rfl rfl (av_add64 rfl rfl t_fits) t_lt ?_ | refine adr_val rfl rfl (av_add rfl rfl) t_lt ?_
    refine adr_val rfl rfl (av_fieldOff (off := 2) rfl Try.underlying54 rfl inf3.size (by decide) rfl) t_lt ?_
    first | refine adr_op rfl rfl (aop_put1 rfl rfl rfl inf3.size t_get t_room rfl ?_)
    refine ⟨t_pend, ?_⟩
    refine ac_seq ?_
    obtain ⟨H3, hH3⟩ : ∃ H3, H3 = H2.put H1.size (.own 0 [.int .i64 l.a, .int .i64 l.b, .int .i64 (l.cost + ns[m].cost), .int .u64 l.n]) := ⟨_, rfl⟩
    have g3 : H3.get H1.size = .own 0 [.int .i64 l.a, .int .i64 l.b, .int .i64 (l.cost + ns[m].cost), .int .u64 l.n] := by rw [hH3]; exact Hp.put_same _ _ _
    have hn3 : Sl kLink H3 (.slice (some ⟨bn, on, none⟩) ns.length cn) ns := by rw [hH3]; exact hn2.mono (Hp.sees_box _ g2)
    have hb3 : H3.get H.size = .own 0 [.slice (some ⟨bn, on, none⟩) ns.length cn] := by rw [hH3, Hp.put_other _ _ (by omega)]; exact hb2
    have z3 : H3.size = H2.size := by rw [hH3]; simp
    change ACode true _ _ _ _ _ (H2.put H1.size (.own 0 [.int .i64 l.a, .int .i64 l.b, .int .i64 (l.cost + ns[m].cost), .int .u64 l.n]))
    rw [← hH3]
    obtain ⟨bn2, on2, eN2, hbn3, hcell3⟩ := hn3.link_at hj
    simp only [Option.some.injEq, Addr.mk.injEq, and_true] at eN2
    obtain ⟨rfl, rfl⟩ := eN2
    have hcell32 := hcell3 3 _ rfl
    refine ac_draw (by kernel_rfl) (reg_of (B := [0, 1, 0, 0, 12, 28, 60, 127, 255, 511]) (π := [0, 1, 2, 3, 4, 5, 6, 7, 8, 9]) (by kernel_rfl)) ?_
    refine adr_val rfl rfl (av_fieldOff (off := 3) rfl Try.underlying54 rfl inf42.size (by decide) rfl) t_lt ?_
    refine adr_val rfl rfl (av_load1 rfl Try.underlying42 rfl t_cell) t_lt ?_
    refine adr_val rfl rfl (av_load1 (by first | assumption | rfl) Try.underlying50 (by first | assumption | rfl) t_cell) t_lt ?_
    first | refine adr_val rfl rfl (av_move_int rfl) t_lt ?_ | refine adr_val rfl rfl (av_move rfl) t_lt ?_
    refine adr_val rfl rfl (av_indexAddr rfl rfl Try.underlying50 inf54.size t_idx t_idx) t_lt ?_
    refine adr_val rfl rfl (av_fieldOff (off := 3) rfl Try.underlying54 rfl inf42.size (by decide) rfl) t_lt ?_
    refine adr_val rfl rfl (av_load1 rfl Try.underlying42 rfl t_cell) t_lt ?_
    refine adr_op rfl rfl (aop_call (Times_u64 l.n ns[m].n hl2 hc2 _) rfl Try.func61 rfl rfl rfl ?_)
    rintro v7 H3 ⟨rfl, rfl⟩
    refine ⟨t_pend, ?_⟩
    refine adr_val rfl rfl (av_fieldOff (off := 3) rfl Try.underlying54 rfl inf42.size (by decide) rfl) t_lt ?_
    first | refine adr_op rfl rfl (aop_put1 rfl rfl rfl inf42.size t_get t_room rfl ?_)
    refine ⟨t_pend, ?_⟩
    obtain ⟨H4, hH4⟩ : ∃ H4, H4 = H3.put H1.size (.own 0 [.int .i64 l.a, .int .i64 l.b, .int .i64 (l.cost + ns[m].cost), .int .u64 (timesI l.n ns[m].n)]) := ⟨_, rfl⟩
    obtain ⟨G4, hG4⟩ : ∃ G4, G4 = (G2.put H1.size (.own 0 [.int .i64 l.a, .int .i64 l.b, .int .i64 (l.cost + ns[m].cost), .int .u64 l.n])).put H1.size (.own 0 [.int .i64 l.a, .int .i64 l.b, .int .i64 (l.cost + ns[m].cost), .int .u64 (timesI l.n ns[m].n)]) := ⟨_, rfl⟩
    have hown4 : OwnP kLink G4 H4 (.slice B i c5) ((ls.take i).map (weigh ns)) := by
      rw [hH4, hH3, hG4]
      exact (hown2.box_put kg2 [.int .i64 l.a, .int .i64 l.b, .int .i64 (l.cost + ns[m].cost), .int .u64 l.n]).box_put (Hp.put_same _ _ _) [.int .i64 l.a, .int .i64 l.b, .int .i64 (l.cost + ns[m].cost), .int .u64 (timesI l.n ns[m].n)]
    have g4 : H4.get H1.size = .own 0 [.int .i64 l.a, .int .i64 l.b, .int .i64 (l.cost + ns[m].cost), .int .u64 (timesI l.n ns[m].n)] := by rw [hH4]; exact Hp.put_same _ _ _
    have hle4 : (H.push (.own 0 [.slice (some ⟨bn, on, none⟩) ns.length cn])).le G4 := by rw [hG4]; exact Hp.le_put_new (Hp.le_put_new hle2 (by simp; omega) _) (by simp; omega) _
    change ACode true _ _ _ _ _ (H3.put H1.size (.own 0 [.int .i64 l.a, .int .i64 l.b, .int .i64 (l.cost + ns[m].cost), .int .u64 (timesI l.n ns[m].n)]))
    rw [← hH4]
    refine ac_region (by kernel_rfl) ?_
    first | refine aops_val (av_move_sl (by first | assumption | rfl)) ?_ | refine aops_val (av_move (by first | assumption | rfl)) ?_
    refine aops_val (av_loadN (cs := [.int .i64 _, .int .i64 _, .int .i64 _, .int .u64 _]) rfl Try.underlying54 rfl inf54.size t_cells) ?_
    first | refine aops_make (am_buildSlice (r := [.int .i64 _, .int .i64 _, .int .i64 _, .int .u64 _]) Try.underlying50 inf54.size inf54.zero rfl (by decide) (by decide) (by decide) rfl) ?_
    have hlen : ((ls.take i).map (weigh ns)).length = i := by rw [List.length_map, List.length_take]; omega
    have hw : weigh ns l = ⟨l.a, l.b, l.cost + ns[m].cost, timesI l.n ns[m].n⟩ := by unfold weigh; rw [hnode]
    refine aops_op (OwnP.append (ys := [weigh ns l]) (hown4.push _) Try.underlying50 inf54 rfl rfl rfl (sl_one (k := kLink) (by rw [hw]; rfl) rfl hown4.size rfl) (by rw [hlen]; simp only [List.length_singleton]; omega) (by rw [hlen]; simp only [List.length_singleton]; omega) ?_)
    rintro v8 G8 H8 hle8 hown8
    obtain ⟨B8, c8, e8⟩ := hown8.shape
    rw [List.length_append, hlen, List.length_singleton] at e8
    subst e8
    rw [hl', ← List.map_singleton, ← List.map_append, take_next hix] at hown8
    first | refine aops_val (av_assign_sl rfl) ?_ | refine aops_val (av_assign rfl) ?_
    refine ac_region (by kernel_rfl) ?_
    first | refine aops_val (av_add64 (by first | assumption | rfl) (by first | assumption | rfl) t_fits) ?_ | refine aops_val (av_add (by first | assumption | rfl) (by first | assumption | rfl)) ?_
    first | refine aops_val (av_move_int rfl) ?_ | refine aops_val (av_move rfl) ?_
    exact ⟨ls.length - (i + 1), by omega, i + 1, G8, B8, c8, by omega, rfl, Hp.le_trans (Hp.le_push' hle4 _) hle8, hown8, e3, rfl, e9, e10, rfl⟩
  · intro hc1
    (try simp only [decide_eq_true_eq, decide_eq_false_iff_not, Bool.not_eq_true', Bool.not_eq_false'] at hc1)
    refine ac_exit ?_
    refine ac_seq ?_
    refine ac_region (by kernel_rfl) ?_
    first | refine aops_val (av_move_sl (by first | assumption | rfl)) ?_ | refine aops_val (av_move (by first | assumption | rfl)) ?_
    first | refine aops_val (av_assign_sl rfl) ?_ | refine aops_val (av_assign rfl) ?_
    refine ac_ret ?_
    have h2 : (ls.take i).map (weigh ns) = ls.map (weigh ns) := by rw [List.take_of_length_le (by omega)]
    rw [h2] at hown
    exact ⟨_, aresult1 (ares_tmp rfl), G, leH, hown⟩
end Go.Proofs.Ytcaeoebphfjfiaa.Am


/- The links that begin at a node. -/
namespace Go.Proofs.Ytcaeoebphfjfiaa.Am
open Go Go.RowKit
set_option maxRecDepth 100000
set_option linter.unusedVariables false
set_option linter.unusedSimpArgs false

/-- Links that rise by their first ends. -/
def RiseA (xs : List Link) : Prop := ∀ (i j : Nat) (hi : i < xs.length) (hj : j < xs.length), i ≤ j → xs[i].a ≤ xs[j].a
theorem filter_mid {xs : List Link} {a : Int} {lo hi : Nat} (h1 : lo ≤ xs.length) (h2 : hi ≤ xs.length) (hlo : ∀ (i : Nat) (h : i < xs.length), i < lo → ¬ a ≤ xs[i].a) (hlo2 : ∀ (i : Nat) (h : i < xs.length), lo ≤ i → a ≤ xs[i].a) (hhi : ∀ (i : Nat) (h : i < xs.length), i < hi → ¬ a < xs[i].a) (hhi2 : ∀ (i : Nat) (h : i < xs.length), hi ≤ i → a < xs[i].a) :
    lo ≤ hi ∧ (xs.take hi).drop lo = xs.filter fun x => decide (x.a = a) := by
  have hle : lo ≤ hi := by
    rcases Nat.lt_or_ge hi lo with h | h
    · have a1 := hlo hi (by omega) h
      have a2 := hhi2 hi (by omega) (Nat.le_refl _)
      omega
    · exact h
  refine ⟨hle, ?_⟩
  have e : xs = xs.take lo ++ ((xs.take hi).drop lo ++ xs.drop hi) := by
    have : (xs.take hi).drop lo ++ xs.drop hi = xs.drop lo := by
      rw [List.drop_take, show xs.drop hi = (xs.drop lo).drop (hi - lo) by rw [List.drop_drop]; congr 1; omega]
      exact List.take_append_drop _ _
    rw [this]; exact (List.take_append_drop _ _).symm
  have f1 : (xs.take lo).filter (fun x => decide (x.a = a)) = [] := by
    rw [List.filter_eq_nil_iff]
    intro x hx
    obtain ⟨i, hi1, rfl⟩ := List.getElem_of_mem hx
    rw [List.length_take] at hi1
    rw [List.getElem_take]
    have := hlo i (by omega) (by omega)
    simp; omega
  have f2 : (xs.drop hi).filter (fun x => decide (x.a = a)) = [] := by
    rw [List.filter_eq_nil_iff]
    intro x hx
    obtain ⟨i, hi1, rfl⟩ := List.getElem_of_mem hx
    rw [List.length_drop] at hi1
    rw [List.getElem_drop]
    have := hhi2 (hi + i) (by omega) (by omega)
    simp; omega
  have f3 : ((xs.take hi).drop lo).filter (fun x => decide (x.a = a)) = (xs.take hi).drop lo := by
    rw [List.filter_eq_self]
    intro x hx
    obtain ⟨i, hi1, rfl⟩ := List.getElem_of_mem hx
    rw [List.length_drop, List.length_take] at hi1
    rw [List.getElem_drop, List.getElem_take]
    have a1 := hlo2 (lo + i) (by omega) (by omega)
    have a2 := hhi (lo + i) (by omega) (by omega)
    simp; omega
  have := congrArg (List.filter fun x => decide (x.a = a)) e
  rw [List.filter_append, List.filter_append, f1, f2, f3, List.nil_append, List.append_nil] at this
  exact this.symm
end Go.Proofs.Ytcaeoebphfjfiaa.Am


/- Where the groups of a place stand. -/
namespace Go.Proofs.Ytcaeoebphfjfiaa.Am
open Go Go.RowKit
set_option maxRecDepth 100000
set_option linter.unusedVariables false
set_option linter.unusedSimpArgs false

/-- The groups of a place that are noted. -/
structure Noted (ls : List Link) (i : Nat) (k : Nat) (es0 es : List (Value × Value)) : Prop where
  keys : ∀ e ∈ es, IsSpot e.1
  yes : ∀ above : Int, (∃ (j : Nat) (h : j < ls.length), j < k ∧ ls[j].a = above) → ∃ fr to : Nat, mapGet es (spotV i above) = some (spanV fr to) ∧ fr ≤ to ∧ to ≤ ls.length ∧ (ls.take to).drop fr = ls.filter fun l => decide (l.a = above)
  no : ∀ above : Int, (¬ ∃ (j : Nat) (h : j < ls.length), j < k ∧ ls[j].a = above) → mapGet es (spotV i above) = none
  other : ∀ (i' : Nat) above, i' ≠ i → mapGet es (spotV i' above) = mapGet es0 (spotV i' above)
theorem Noted.step {ls : List Link} {i k to : Nat} {es0 es : List (Value × Value)} (h : Noted ls i k es0 es) (hr : RiseA ls) (hk : k < ls.length) (hkt : k < to) (ht : to ≤ ls.length) (hbnd : ∀ j (hj : j < ls.length), j < k → ls[j].a < ls[k].a)
    (hsame : ∀ j (hj : j < ls.length), k ≤ j → j < to → ls[j].a = ls[k].a) (hend : ∀ h : to < ls.length, ls[to].a ≠ ls[k].a) : Noted ls i to es0 (mapPut es (spotV i ls[k].a) (spanV k to)) := by
  have hge : ∀ j (hj : j < ls.length), to ≤ j → ls[k].a < ls[j].a := fun j hj h1 => by
    have h2 := hend (by omega)
    have h3 := hr k to hk (by omega) (by omega)
    have h4 := hr to j (by omega) hj h1
    omega
  obtain ⟨_, hfil⟩ := filter_mid (xs := ls) (a := ls[k].a) (lo := k) (hi := to) (by omega) ht (fun j hj h1 => by have := hbnd j hj h1; omega) (fun j hj h1 => hr k j hk hj h1) (fun j hj h1 => by
    rcases Nat.lt_or_ge j k with h2 | h2
    · have := hbnd j hj h2; omega
    · have := hsame j hj h2 h1; omega) (fun j hj h1 => hge j hj h1)
  refine ⟨mapPut_keys h.keys ⟨_, _, rfl⟩, fun above hab => ?_, fun above hab => ?_, fun i' above hi => ?_⟩
  · by_cases he : above = ls[k].a
    · subst he
      exact ⟨k, to, mapGet_put, by omega, ht, hfil⟩
    · rw [mapGet_other (fun e => he (spotV_inj e).2)]
      refine h.yes above ?_
      obtain ⟨j, hj, h1, h2⟩ := hab
      refine ⟨j, hj, ?_, h2⟩
      rcases Nat.lt_or_ge j k with h3 | h3
      · exact h3
      · exact absurd (h2.symm.trans (hsame j hj h3 h1)) he
  · have he : above ≠ ls[k].a := fun e => hab ⟨k, hk, hkt, e.symm⟩
    rw [mapGet_other (fun e => he (spotV_inj e).2)]
    exact h.no above fun ⟨j, hj, h1, h2⟩ => hab ⟨j, hj, by omega, h2⟩
  · rw [mapGet_other (fun e => hi (by have := (spotV_inj e).1; omega))]
    exact h.other i' above hi
set_option maxHeartbeats 1000000 in
theorem group_tree {b mb : Nat} {s0 s1 s2 : Value} {ps : List Int} {lss : List (List Link)} {es : List (Value × Value)} {H : Hp} (hb : b < H.size) (hmb : mb < H.size) (hg : H.get b = .own 0 [s0, s1, s2, .map (some mb)]) (hs1 : Sl (kInt .i64) H s1 ps) (hs2 : Sl (kSl kLink) H s2 lss) (hm : H.get mb = .map es)
    (i : Nat) (hi : i < lss.length) (hpi : i < ps.length) (hlen : lss[i].length ≤ 1000000) (hr : ps.getD i 0 ≠ -1 → RiseA lss[i]) (hk : ∀ e ∈ es, IsSpot e.1) (hno : ∀ above, mapGet es (spotV i above) = none) :
    ACalls Try.prog 53 #[.pointer (some ⟨b, 0, none⟩), .int .i64 i] H (fun r H' => ∃ es', H' = H.put mb (.map es') ∧ (if ps.getD i 0 = -1 then es' = mapPut es (spotV i (-1)) (spanV 0 lss[i].length) else Noted lss[i] i lss[i].length es es')) := by
  obtain ⟨A1, c1, rfl⟩ := hs1.shape
  obtain ⟨A2, c2, rfl⟩ := hs2.shape
  obtain ⟨b1, o1, rfl, hb1, hcell1⟩ := hs1.int_at (i := (i : Int)) (by omega) (by omega)
  rw [Int.toNat_natCast] at hcell1
  obtain ⟨b2, o2, ks, eB, hb2, ⟨w0, rfl, hw0⟩, hcell2⟩ := hs2.elem_at hi
  subst eB
  have hcell2' := hcell2.one
  obtain ⟨A6, c6, rfl⟩ := hw0.shape
  have hbm : b ≠ mb := fun e => by subst e; rw [hg] at hm; cases hm
  refine acalls_of_code Try.func53 rfl rfl rfl (by simp) ?_
  refine ac_seq ?_
  refine ac_region (by kernel_rfl) ?_
  first | refine aops_val (av_move_ptr rfl) ?_ | refine aops_val (av_move rfl) ?_
  refine aops_val (av_nilCheck rfl) ?_
  refine aops_val (av_fieldOff (off := 2) rfl Try.underlying89 rfl inf27.size (by decide) rfl) ?_
  refine aops_val (av_load1 rfl Try.underlying27 rfl t_cell) ?_
  first | refine aops_val (av_move_int rfl) ?_ | refine aops_val (av_move rfl) ?_
  refine aops_val (av_indexAddr rfl rfl Try.underlying27 inf50.size t_idx t_idx) ?_
  refine aops_val (av_load1 rfl Try.underlying50 rfl t_cell) ?_
  first | refine aops_val (av_assign_sl rfl) ?_ | refine aops_val (av_assign rfl) ?_
  refine ac_seq ?_
  refine ac_seq ?_
  refine ac_region (by kernel_rfl) ?_
  first | refine aops_val (av_move_ptr rfl) ?_ | refine aops_val (av_move rfl) ?_
  refine aops_val (av_nilCheck rfl) ?_
  refine aops_val (av_fieldOff (off := 1) rfl Try.underlying89 rfl inf23.size (by decide) rfl) ?_
  refine aops_val (av_load1 rfl Try.underlying23 rfl t_cell) ?_
  first | refine aops_val (av_move_int rfl) ?_ | refine aops_val (av_move rfl) ?_
  refine aops_val (av_indexAddr rfl rfl Try.underlying23 inf3.size t_idx t_idx) ?_
  refine aops_val (av_load1 rfl Try.underlying3 rfl t_cell) ?_
  refine aops_val (av_eq rfl rfl) ?_
  refine ac_split rfl rfl ?_ ?_
  · intro hc1
    have hroot : ps.getD i 0 = -1 := of_decide_eq_true hc1
    refine ac_seq ?_
    refine ac_region (by kernel_rfl) ?_
    first | refine aops_val (av_move_ptr rfl) ?_ | refine aops_val (av_move rfl) ?_
    refine aops_val (av_nilCheck rfl) ?_
    refine aops_val (av_fieldOff (off := 3) rfl Try.underlying89 rfl inf87.size (by decide) rfl) ?_
    refine aops_val (av_load1 rfl Try.underlying87 rfl t_cell) ?_
    first | refine aops_val (av_move_int rfl) ?_ | refine aops_val (av_move rfl) ?_
    refine aops_val (av_build (pl := [(0, 1), (1, 1)]) (r := [.int .i64 _, .int .i64 _]) Try.underlying113 inf113.zero (by decide) rfl rfl) ?_
    first | refine aops_val (av_move_sl rfl) ?_ | refine aops_val (av_move rfl) ?_
    refine aops_val (av_len rfl Try.underlying50) ?_
    refine aops_val (av_build (pl := [(0, 1), (1, 1)]) (r := [.int .i64 _, .int .i64 _]) Try.underlying111 inf111.zero (by decide) rfl rfl) ?_
    refine aops_op (aop_mapUpdate Try.underlying87 keyTy_spot rfl rfl rfl ⟨_, _, rfl⟩ hm hk ?_)
    refine ac_ret ?_
    exact ⟨_, aresult0, _, rfl, by rw [if_pos hroot]; rfl⟩
  · intro hc1
    have hroot : ps.getD i 0 ≠ -1 := of_decide_eq_false hc1
    refine ac_skip ?_
    refine ac_seq ?_
    refine ac_region (by kernel_rfl) ?_
    first | refine aops_val (av_assign_int rfl) ?_ | refine aops_val (av_assign rfl) ?_
    refine ac_block ?_
    refine ac_loop (fun n t H' => ∃ (k : Nat) (es' : List (Value × Value)), k ≤ lss[i].length ∧ n = lss[i].length - k ∧ H' = H.put mb (.map es') ∧ Noted lss[i] i k es es' ∧ (∀ (hk : k < lss[i].length) j (hj : j < lss[i].length), j < k → lss[i][j].a < lss[i][k].a) ∧ t 0 = .pointer (some ⟨b, 0, none⟩) ∧ t 1 = .int .i64 i ∧ t 4 = .slice A6 lss[i].length c6 ∧ t 5 = .int .i64 k) (lss[i].length) (⟨0, es, by omega, rfl, (Hp.put_self _ hm).symm, ⟨hk, fun above ⟨j, hj, h, _⟩ => by omega, fun above _ => hno above, fun _ _ _ => rfl⟩, fun _ j _ h => by omega, rfl, rfl, rfl, rfl⟩) ?_
    rintro n t H1 ⟨k, es', hkl, rfl, hH1, hnoted, hbnd, e0, e1, e4, e5⟩
    have hse : H.sees H1 := by rw [hH1]; exact Hp.sees_map H hm _
    have hm1 : H1.get mb = .map es' := by rw [hH1]; exact Hp.put_same _ _ _
    have hg1 : H1.get b = .own 0 [s0, .slice (some ⟨b1, o1, none⟩) ps.length c1, .slice (some ⟨b2, o2, none⟩) lss.length c2, .map (some mb)] := by rw [hH1, Hp.put_other _ _ hbm]; exact hg
    have hz1 : H1.size = H.size := by rw [hH1]; rfl
    have hw1 := hw0.mono hse
    refine ac_seq ?_
    refine ac_seq ?_
    refine ac_region (by kernel_rfl) ?_
    first | refine aops_val (av_move_int (by first | assumption | rfl)) ?_ | refine aops_val (av_move (by first | assumption | rfl)) ?_
    first | refine aops_val (av_move_sl (by first | assumption | rfl)) ?_ | refine aops_val (av_move (by first | assumption | rfl)) ?_
    refine aops_val (av_len rfl Try.underlying50) ?_
    refine aops_val (av_lt rfl rfl) ?_
    refine ac_split rfl rfl ?_ ?_
    · intro hc2
      (try simp only [decide_eq_true_eq, decide_eq_false_iff_not, Bool.not_eq_true', Bool.not_eq_false'] at hc2)
      refine ac_skip ?_
      refine ac_block ?_
      refine ac_seq ?_
      have hkx : k < lss[i].length := by omega
      obtain ⟨bk, ok, eA, hbk, hck⟩ := hw1.link_at hkx
      subst eA
      have hck0 := hck 0 _ rfl
      refine ac_region (by kernel_rfl) ?_
      first | refine aops_val (av_move_int (by first | assumption | rfl)) ?_ | refine aops_val (av_move (by first | assumption | rfl)) ?_
      first | refine aops_val (av_assign_int rfl) ?_ | refine aops_val (av_assign rfl) ?_
      refine ac_seq ?_
      refine ac_block ?_
      refine ac_loop (fun n t H' => ∃ (m : Nat), k ≤ m ∧ m ≤ lss[i].length ∧ n = lss[i].length - m ∧ H' = H1 ∧ (∀ j (hj : j < lss[i].length), k ≤ j → j < m → lss[i][j].a = lss[i][k].a) ∧ t 0 = .pointer (some ⟨b, 0, none⟩) ∧ t 1 = .int .i64 i ∧ t 4 = .slice (some ⟨bk, ok, none⟩) lss[i].length c6 ∧ t 5 = .int .i64 k ∧ t 6 = .int .i64 m) (lss[i].length - k) (⟨k, by omega, by omega, by omega, rfl, fun j _ h1 h2 => by omega, e0, e1, e4, e5, rfl⟩) ?_
      rintro n t H1 ⟨m, hkm, hml, rfl, rfl, hsame, e0, e1, e4, e5, e6⟩
      refine ac_seq ?_
      refine ac_seq ?_
      refine ac_draw (by kernel_rfl) (reg_of (B := [0, 0, 2, 7, 15, 31, 31, 127, 255, 511, 31, 31, 3103, 7199, 15391, 32767, 65535]) (π := [0, 1, 2, 3, 4, 5, 6, 7, 8, 9, 10, 11, 12, 13, 14, 15, 16]) (by kernel_rfl)) ?_
      first | refine adr_val rfl rfl (av_move_int (by first | assumption | rfl)) t_lt ?_ | refine adr_val rfl rfl (av_move (by first | assumption | rfl)) t_lt ?_
      first | refine adr_val rfl rfl (av_move_sl (by first | assumption | rfl)) t_lt ?_ | refine adr_val rfl rfl (av_move (by first | assumption | rfl)) t_lt ?_
      refine adr_val rfl rfl (av_len rfl Try.underlying50) t_lt ?_
      refine adr_val rfl rfl (av_lt rfl rfl) t_lt ?_
      first | refine adr_val rfl rfl (av_move_bool rfl) t_lt ?_ | refine adr_val rfl rfl (av_move rfl) t_lt ?_
      refine adr_guard rfl rfl rfl rfl ?_ ?_
      · intro hg3
        have hmx : m < lss[i].length := by have := of_decide_eq_true hg3; omega
        obtain ⟨bm, om, eM, hbm2, hcm⟩ := hw1.link_at hmx
        simp only [Option.some.injEq, Addr.mk.injEq, and_true] at eM
        obtain ⟨rfl, rfl⟩ := eM
        have hcm0 := hcm 0 _ rfl
        first | refine adr_wval rfl (want_yes rfl rfl rfl hg3) rfl (av_move_sl (by first | assumption | rfl)) t_lt ?_ | refine adr_wval rfl (want_yes rfl rfl rfl hg3) rfl (av_move (by first | assumption | rfl)) t_lt ?_
        first | refine adr_wval rfl (want_yes rfl rfl rfl hg3) rfl (av_move_int (by first | assumption | rfl)) t_lt ?_ | refine adr_wval rfl (want_yes rfl rfl rfl hg3) rfl (av_move (by first | assumption | rfl)) t_lt ?_
        refine adr_wval rfl (want_yes rfl rfl rfl hg3) rfl (av_indexAddr rfl rfl Try.underlying50 inf54.size t_idx t_idx) t_lt ?_
        refine adr_wval rfl (want_yes rfl rfl rfl hg3) rfl (av_fieldOff (off := 0) rfl Try.underlying54 rfl inf3.size (by decide) rfl) t_lt ?_
        refine adr_wval rfl (want_yes rfl rfl rfl hg3) rfl (av_load1 rfl Try.underlying3 rfl t_cell) t_lt ?_
        first | refine adr_wval rfl (want_yes rfl rfl rfl hg3) rfl (av_move_sl (by first | assumption | rfl)) t_lt ?_ | refine adr_wval rfl (want_yes rfl rfl rfl hg3) rfl (av_move (by first | assumption | rfl)) t_lt ?_
        first | refine adr_wval rfl (want_yes rfl rfl rfl hg3) rfl (av_move_int (by first | assumption | rfl)) t_lt ?_ | refine adr_wval rfl (want_yes rfl rfl rfl hg3) rfl (av_move (by first | assumption | rfl)) t_lt ?_
        refine adr_wval rfl (want_yes rfl rfl rfl hg3) rfl (av_indexAddr rfl rfl Try.underlying50 inf54.size t_idx t_idx) t_lt ?_
        refine adr_wval rfl (want_yes rfl rfl rfl hg3) rfl (av_fieldOff (off := 0) rfl Try.underlying54 rfl inf3.size (by decide) rfl) t_lt ?_
        refine adr_wval rfl (want_yes rfl rfl rfl hg3) rfl (av_load1 rfl Try.underlying3 rfl t_cell) t_lt ?_
        refine adr_wval rfl (want_yes rfl rfl rfl hg3) rfl (av_eq rfl rfl) t_lt ?_
        refine adr_val rfl rfl (av_pick_bool (congrArg Value.bool hg3) rfl) t_lt ?_
        refine ac_split rfl rfl ?_ ?_
        · intro hc4
          have heq : lss[i][m].a = lss[i][k].a := of_decide_eq_true hc4
          refine ac_skip ?_
          refine ac_block ?_
          refine ac_region (by kernel_rfl) ?_
          first | refine aops_val (av_move_int (by first | assumption | rfl)) ?_ | refine aops_val (av_move (by first | assumption | rfl)) ?_
          first | refine aops_val (av_add64 rfl rfl t_fits) ?_ | refine aops_val (av_add rfl rfl) ?_
          first | refine aops_val (av_assign_int rfl) ?_ | refine aops_val (av_assign rfl) ?_
          refine ⟨lss[i].length - (m + 1), by omega, m + 1, by omega, by omega, rfl, rfl, fun j hj h1 h2 => ?_, e0, e1, e4, e5, rfl⟩
          rcases Nat.lt_or_ge j m with h | h
          · exact hsame j hj h1 h
          · obtain rfl : j = m := by omega
            exact heq
        · intro hc4
          have hneq : lss[i][m].a ≠ lss[i][k].a := of_decide_eq_false hc4
          refine ac_exit ?_
          refine ac_seq ?_
          have hend : ∀ h : m < lss[i].length, lss[i][m].a ≠ lss[i][k].a := fun h => by first | exact absurd h hmx | exact hneq
          have hkm' : k < m := by
            rcases Nat.lt_or_ge k m with h | h
            · exact h
            · exfalso
              have : m = k := by omega
              subst this
              exact hend hkx rfl
          have hst := hnoted.step (hr hroot) hkx hkm' hml (hbnd hkx) hsame hend
          refine ac_draw (by kernel_rfl) (reg_of (B := [0, 1, 3, 7, 0, 0, 0, 96, 224, 480, 1008, 0, 0, 6144, 16383]) (π := [0, 1, 2, 3, 4, 5, 6, 7, 8, 9, 10, 11, 12, 13, 14]) (by kernel_rfl)) ?_
          first | refine adr_val rfl rfl (av_move_ptr (by first | assumption | rfl)) t_lt ?_ | refine adr_val rfl rfl (av_move (by first | assumption | rfl)) t_lt ?_
          refine adr_val rfl rfl (av_nilCheck rfl) t_lt ?_
          refine adr_val rfl rfl (av_fieldOff (off := 3) rfl Try.underlying89 rfl inf87.size (by decide) rfl) t_lt ?_
          refine adr_val rfl rfl (av_load1 rfl Try.underlying87 rfl t_cell) t_lt ?_
          first | refine adr_val rfl rfl (av_move_int (by first | assumption | rfl)) t_lt ?_ | refine adr_val rfl rfl (av_move (by first | assumption | rfl)) t_lt ?_
          first | refine adr_val rfl rfl (av_move_sl (by first | assumption | rfl)) t_lt ?_ | refine adr_val rfl rfl (av_move (by first | assumption | rfl)) t_lt ?_
          first | refine adr_val rfl rfl (av_move_int (by first | assumption | rfl)) t_lt ?_ | refine adr_val rfl rfl (av_move (by first | assumption | rfl)) t_lt ?_
          refine adr_val rfl rfl (av_indexAddr rfl rfl Try.underlying50 inf54.size t_idx t_idx) t_lt ?_
          refine adr_val rfl rfl (av_fieldOff (off := 0) rfl Try.underlying54 rfl inf3.size (by decide) rfl) t_lt ?_
          refine adr_val rfl rfl (av_load1 rfl Try.underlying3 rfl t_cell) t_lt ?_
          refine adr_val rfl rfl (av_build (pl := [(0, 1), (1, 1)]) (r := [.int .i64 _, .int .i64 _]) Try.underlying113 inf113.zero (by decide) rfl rfl) t_lt ?_
          first | refine adr_val rfl rfl (av_move_int (by first | assumption | rfl)) t_lt ?_ | refine adr_val rfl rfl (av_move (by first | assumption | rfl)) t_lt ?_
          first | refine adr_val rfl rfl (av_move_int (by first | assumption | rfl)) t_lt ?_ | refine adr_val rfl rfl (av_move (by first | assumption | rfl)) t_lt ?_
          refine adr_val rfl rfl (av_build (pl := [(0, 1), (1, 1)]) (r := [.int .i64 _, .int .i64 _]) Try.underlying111 inf111.zero (by decide) rfl rfl) t_lt ?_
          refine adr_op rfl rfl (aop_mapUpdate Try.underlying87 keyTy_spot rfl rfl rfl ⟨_, _, rfl⟩ hm1 hnoted.keys ?_)
          refine ⟨t_pend, ?_⟩
          refine ac_region (by kernel_rfl) ?_
          first | refine aops_val (av_move_int (by first | assumption | rfl)) ?_ | refine aops_val (av_move (by first | assumption | rfl)) ?_
          first | refine aops_val (av_assign_int rfl) ?_ | refine aops_val (av_assign rfl) ?_
          refine ⟨lss[i].length - m, by omega, m, _, by omega, rfl, by rw [hH1, Hp.put_put]; rfl, hst, fun hk j hj h => ?_, e0, e1, e4, rfl⟩
          rcases Nat.lt_or_ge j k with h1 | h1
          · have h2 := hbnd hkx j hj h1
            have h3 := hr hroot k m hkx hk (by omega)
            omega
          · have h2 := hsame j hj h1 h
            have h3 := hr hroot k m hkx hk (by omega)
            have h4 := hend hk
            omega
      · intro hg3
        have hmx : ¬ m < lss[i].length := by have := of_decide_eq_false hg3; omega
        refine adr_skip rfl (want_no rfl rfl rfl hg3 rfl) ?_
        refine adr_skip rfl (want_no rfl rfl rfl hg3 rfl) ?_
        refine adr_skip rfl (want_no rfl rfl rfl hg3 rfl) ?_
        refine adr_skip rfl (want_no rfl rfl rfl hg3 rfl) ?_
        refine adr_skip rfl (want_no rfl rfl rfl hg3 rfl) ?_
        refine adr_skip rfl (want_no rfl rfl rfl hg3 rfl) ?_
        refine adr_skip rfl (want_no rfl rfl rfl hg3 rfl) ?_
        refine adr_skip rfl (want_no rfl rfl rfl hg3 rfl) ?_
        refine adr_skip rfl (want_no rfl rfl rfl hg3 rfl) ?_
        refine adr_skip rfl (want_no rfl rfl rfl hg3 rfl) ?_
        refine adr_skip rfl (want_no rfl rfl rfl hg3 rfl) ?_
        refine adr_val rfl rfl (av_pick_bool (congrArg Value.bool hg3) (by first | assumption | rfl)) t_lt ?_
        refine ac_cond_false rfl rfl ?_
        refine ac_exit ?_
        refine ac_seq ?_
        have hend : ∀ h : m < lss[i].length, lss[i][m].a ≠ lss[i][k].a := fun h => by first | exact absurd h hmx | exact hneq
        have hkm' : k < m := by
          rcases Nat.lt_or_ge k m with h | h
          · exact h
          · exfalso
            have : m = k := by omega
            subst this
            exact hend hkx rfl
        have hst := hnoted.step (hr hroot) hkx hkm' hml (hbnd hkx) hsame hend
        refine ac_draw (by kernel_rfl) (reg_of (B := [0, 1, 3, 7, 0, 0, 0, 96, 224, 480, 1008, 0, 0, 6144, 16383]) (π := [0, 1, 2, 3, 4, 5, 6, 7, 8, 9, 10, 11, 12, 13, 14]) (by kernel_rfl)) ?_
        first | refine adr_val rfl rfl (av_move_ptr (by first | assumption | rfl)) t_lt ?_ | refine adr_val rfl rfl (av_move (by first | assumption | rfl)) t_lt ?_
        refine adr_val rfl rfl (av_nilCheck rfl) t_lt ?_
        refine adr_val rfl rfl (av_fieldOff (off := 3) rfl Try.underlying89 rfl inf87.size (by decide) rfl) t_lt ?_
        refine adr_val rfl rfl (av_load1 rfl Try.underlying87 rfl t_cell) t_lt ?_
        first | refine adr_val rfl rfl (av_move_int (by first | assumption | rfl)) t_lt ?_ | refine adr_val rfl rfl (av_move (by first | assumption | rfl)) t_lt ?_
        first | refine adr_val rfl rfl (av_move_sl (by first | assumption | rfl)) t_lt ?_ | refine adr_val rfl rfl (av_move (by first | assumption | rfl)) t_lt ?_
        first | refine adr_val rfl rfl (av_move_int (by first | assumption | rfl)) t_lt ?_ | refine adr_val rfl rfl (av_move (by first | assumption | rfl)) t_lt ?_
        refine adr_val rfl rfl (av_indexAddr rfl rfl Try.underlying50 inf54.size t_idx t_idx) t_lt ?_
        refine adr_val rfl rfl (av_fieldOff (off := 0) rfl Try.underlying54 rfl inf3.size (by decide) rfl) t_lt ?_
        refine adr_val rfl rfl (av_load1 rfl Try.underlying3 rfl t_cell) t_lt ?_
        refine adr_val rfl rfl (av_build (pl := [(0, 1), (1, 1)]) (r := [.int .i64 _, .int .i64 _]) Try.underlying113 inf113.zero (by decide) rfl rfl) t_lt ?_
        first | refine adr_val rfl rfl (av_move_int (by first | assumption | rfl)) t_lt ?_ | refine adr_val rfl rfl (av_move (by first | assumption | rfl)) t_lt ?_
        first | refine adr_val rfl rfl (av_move_int (by first | assumption | rfl)) t_lt ?_ | refine adr_val rfl rfl (av_move (by first | assumption | rfl)) t_lt ?_
        refine adr_val rfl rfl (av_build (pl := [(0, 1), (1, 1)]) (r := [.int .i64 _, .int .i64 _]) Try.underlying111 inf111.zero (by decide) rfl rfl) t_lt ?_
        refine adr_op rfl rfl (aop_mapUpdate Try.underlying87 keyTy_spot rfl rfl rfl ⟨_, _, rfl⟩ hm1 hnoted.keys ?_)
        refine ⟨t_pend, ?_⟩
        refine ac_region (by kernel_rfl) ?_
        first | refine aops_val (av_move_int (by first | assumption | rfl)) ?_ | refine aops_val (av_move (by first | assumption | rfl)) ?_
        first | refine aops_val (av_assign_int rfl) ?_ | refine aops_val (av_assign rfl) ?_
        refine ⟨lss[i].length - m, by omega, m, _, by omega, rfl, by rw [hH1, Hp.put_put]; rfl, hst, fun hk j hj h => ?_, e0, e1, e4, rfl⟩
        rcases Nat.lt_or_ge j k with h1 | h1
        · have h2 := hbnd hkx j hj h1
          have h3 := hr hroot k m hkx hk (by omega)
          omega
        · have h2 := hsame j hj h1 h
          have h3 := hr hroot k m hkx hk (by omega)
          have h4 := hend hk
          omega
    · intro hc2
      (try simp only [decide_eq_true_eq, decide_eq_false_iff_not, Bool.not_eq_true', Bool.not_eq_false'] at hc2)
      refine ac_exit ?_
      have hkl2 : k = lss[i].length := by omega
      subst hkl2
      exact ⟨_, aresult0, es', hH1, by rw [if_neg hroot]; exact hnoted⟩
end Go.Proofs.Ytcaeoebphfjfiaa.Am


/- Places of parents; how large a tree is; who is below. -/
namespace Go.Proofs.Ytcaeoebphfjfiaa.Am
open Go Go.RowKit
set_option maxRecDepth 100000
set_option linter.unusedVariables false
set_option linter.unusedSimpArgs false

theorem Index_ints (xs : List Int) (v : Value) (m : Int) (H : Hp) (hs : Sl (kInt .i64) H v xs) (hl : xs.length ≤ 9223372036854775807) :
    ACalls Try.prog 51 #[v, .int .i64 m] H (fun r H' => r = .int .i64 (atI xs m) ∧ H' = H) := by
  refine ACalls.pure (R := fun r => r = .int .i64 (atI xs m)) (fun v h => by rw [h]; rfl) ?_
  have hs := hs.mono H.sees_ro
  obtain ⟨A, c, rfl⟩ := hs.shape
  refine acalls_of_code Try.func51 rfl rfl rfl (by simp) ?_
  refine ac_seq ?_
  refine ac_region (by kernel_rfl) ?_
  first | refine aops_val (av_assign_int rfl) ?_ | refine aops_val (av_assign rfl) ?_
  refine ac_seq ?_
  refine ac_seq ?_
  refine ac_region (by kernel_rfl) ?_
  first | refine aops_val (av_move_sl rfl) ?_ | refine aops_val (av_move rfl) ?_
  refine aops_val (av_len rfl Try.underlying23) ?_
  first | refine aops_val (av_move_int rfl) ?_ | refine aops_val (av_move rfl) ?_
  refine ac_block ?_
  refine ac_loop (fun n t H' => ∃ i : Nat, i ≤ xs.length ∧ n = xs.length - i ∧ H' = H.ro ∧ m ∉ xs.take i ∧ t 0 = .slice A xs.length c ∧ t 1 = .int .i64 m ∧ t 7 = .int .i64 xs.length ∧ t 8 = .int .i64 i) (xs.length) (⟨0, by omega, rfl, rfl, by simp, rfl, rfl, rfl, rfl⟩) ?_
  rintro n t _ ⟨i, hi, rfl, rfl, hno, e0, e1, e7, e8⟩
  refine ac_seq ?_
  refine ac_region (by kernel_rfl) ?_
  refine aops_val (av_lt (by first | assumption | rfl) (by first | assumption | rfl)) ?_
  refine ac_seq ?_
  refine ac_split rfl rfl ?_ ?_
  · intro hc1
    (try simp only [decide_eq_true_eq, decide_eq_false_iff_not, Bool.not_eq_true', Bool.not_eq_false'] at hc1)
    refine ac_skip ?_
    refine ac_seq ?_
    refine ac_block ?_
    refine ac_seq ?_
    refine ac_region (by kernel_rfl) ?_
    first | refine aops_val (av_move_int (by first | assumption | rfl)) ?_ | refine aops_val (av_move (by first | assumption | rfl)) ?_
    first | refine aops_val (av_assign_int rfl) ?_ | refine aops_val (av_assign rfl) ?_
    refine ac_seq ?_
    refine ac_region (by kernel_rfl) ?_
    first | refine aops_val (av_move_int (by first | assumption | rfl)) ?_ | refine aops_val (av_move (by first | assumption | rfl)) ?_
    first | refine aops_val (av_move_sl (by first | assumption | rfl)) ?_ | refine aops_val (av_move (by first | assumption | rfl)) ?_
    first | refine aops_val (av_move_int rfl) ?_ | refine aops_val (av_move rfl) ?_
    have hix : i < xs.length := by omega
    obtain ⟨b, o, rfl, hb, hcell1⟩ := hs.int_at (i := (i : Int)) (by omega) (by omega)
    have hgi : xs.getD (i : Int).toNat 0 = xs[i] := by rw [Int.toNat_natCast]; exact getD_at hix
    rw [hgi] at hcell1
    refine aops_val (av_indexAddr rfl rfl Try.underlying23 inf3.size t_idx t_idx) ?_
    refine aops_val (av_load1 rfl Try.underlying3 rfl t_cell) ?_
    refine aops_val (av_eq rfl rfl) ?_
    refine ac_split rfl rfl ?_ ?_
    · intro hc2
      have he : m = xs[i] := of_decide_eq_true hc2
      refine ac_seq ?_
      refine ac_region (by kernel_rfl) ?_
      first | refine aops_val (av_move_int rfl) ?_ | refine aops_val (av_move rfl) ?_
      first | refine aops_val (av_assign_int rfl) ?_ | refine aops_val (av_assign rfl) ?_
      refine ac_ret ?_
      exact ⟨.int .i64 i, aresult1 (ares_tmp rfl), by rw [atI_some hix he.symm hno]⟩
    · intro hc2
      have hne : m ≠ xs[i] := of_decide_eq_false hc2
      refine ac_skip ?_
      refine ac_region (by kernel_rfl) ?_
      first | refine aops_val (av_add64 (by first | assumption | rfl) (by first | assumption | rfl) t_fits) ?_ | refine aops_val (av_add (by first | assumption | rfl) (by first | assumption | rfl)) ?_
      first | refine aops_val (av_move_int rfl) ?_ | refine aops_val (av_move rfl) ?_
      exact ⟨xs.length - (i + 1), by omega, i + 1, by omega, rfl, rfl, by rw [← take_next hix]; simp only [List.mem_append, List.mem_singleton, not_or]; exact ⟨hno, hne⟩, e0, e1, e7, rfl⟩
  · intro hc1
    (try simp only [decide_eq_true_eq, decide_eq_false_iff_not, Bool.not_eq_true', Bool.not_eq_false'] at hc1)
    refine ac_exit ?_
    refine ac_seq ?_
    refine ac_region (by kernel_rfl) ?_
    first | refine aops_val (av_assign_int rfl) ?_ | refine aops_val (av_assign rfl) ?_
    refine ac_ret ?_
    rw [List.take_of_length_le (by omega)] at hno
    exact ⟨.int .i64 (-1), aresult1 (ares_tmp rfl), by rw [atI_none hno]⟩
def belowL (ps : List Int) (i : Int) : List Int := if i < -1 then [] else ((List.range ps.length).filter fun k => decide (ps.getD k 0 = i)).map fun (k : Nat) => (k : Int)
end Go.Proofs.Ytcaeoebphfjfiaa.Am


/- A tree is asked whether nodes are a row. -/
namespace Go.Proofs.Ytcaeoebphfjfiaa.Am
open Go Go.RowKit
set_option maxRecDepth 100000
set_option linter.unusedVariables false
set_option linter.unusedSimpArgs false

def aboveOf (T : TreeT) (ns : List Int) (i : Nat) : Int := if T.parent.getD i 0 = -1 then -1 else ns.getD (T.parent.getD i 0).toNat 0
def rowAcc (T : TreeT) (ns : List Int) : Nat → Option (Int × Int)
  | 0 => some (0, 1)
  | i + 1 => (rowAcc T ns i).bind fun cn => (findB (T.group i (aboveOf T ns i)) (ns.getD i 0)).map fun y => (cn.1 + y.cost, timesI cn.2 y.n)
theorem rowAcc_none {T : TreeT} {ns : List Int} {i : Nat} (h : rowAcc T ns i = none) : ∀ j, i ≤ j → rowAcc T ns j = none
  | 0, hj => by have : i = 0 := by omega
                subst this; exact h
  | j + 1, hj => by
    rcases Nat.lt_or_ge i (j + 1) with h1 | h1
    · show (rowAcc T ns j).bind _ = none
      rw [rowAcc_none h j (by omega)]; rfl
    · have : i = j + 1 := by omega
      subst this; exact h
/-- What is asked of a tree. -/
structure GoodT (T : TreeT) : Prop where
  l1 : T.parent.length = T.vars.length
  l2 : T.links.length = T.vars.length
  few : T.vars.length ≤ 1000
  lens : ∀ l ∈ T.links, l.length ≤ 1000000
  par : ∀ i, i < T.vars.length → T.parent.getD i 0 = -1 ∨ (0 ≤ T.parent.getD i 0 ∧ T.parent.getD i 0 < i)
  sort : ∀ i above, (T.group i above).Pairwise fun x y => x.b < y.b
  cost : ∀ l ∈ T.links, ∀ x ∈ l, 0 ≤ x.cost ∧ x.cost ≤ 2000000000 ∧ 0 ≤ x.n
theorem GoodT.group_mem {T : TreeT} (h : GoodT T) {i above : Int} {x : Link} (hx : x ∈ T.group i above) : 0 ≤ x.cost ∧ x.cost ≤ 2000000000 ∧ 0 ≤ x.n := by
  unfold TreeT.group at hx
  split at hx
  · rename_i hi
    have hl : i.toNat < T.links.length := by rw [h.l2]; omega
    have hx2 : x ∈ T.links[i.toNat] := by
      unfold TreeT.row at hx
      rw [getD_list hl] at hx
      split at hx
      · exact hx
      · exact (List.mem_filter.1 hx).1
    exact h.cost _ (List.getElem_mem hl) x hx2
  · simp at hx
set_option maxHeartbeats 2000000 in
theorem Row_tree {T : TreeT} {v u : Value} {ns : List Int} {H : Hp} (ht : TreeR H v T) (hT : GoodT T) (hs : Sl (kInt .i64) H u ns) (hl : ns.length ≤ 1000000) :
    ACalls Try.prog 16 #[v, u] H (fun r H' => H.le H' ∧ ∃ w,
      (if ns.length = T.vars.length then (match rowAcc T ns T.vars.length with
        | some cn => r = .tuple #[.agg #[w, .int .i64 cn.1, .int .u64 cn.2], .bool true] ∧ Sl (kInt .i64) H' w ns
        | none => r = .tuple #[.agg #[.slice none 0 0, .int .i64 0, .int .u64 0], .bool false])
      else r = .tuple #[.agg #[.slice none 0 0, .int .i64 0, .int .u64 0], .bool false])) := by
  have ht0 := ht
  obtain ⟨b, mb, s0, s1, s2, es, rfl, hb, hmb, hg, hs0, hs1, hs2, hm, hsp⟩ := ht
  obtain ⟨A0, c0, rfl⟩ := hs0.shape
  obtain ⟨A1, c1, rfl⟩ := hs1.shape
  obtain ⟨A2, c2, rfl⟩ := hs2.shape
  obtain ⟨Au, cu, rfl⟩ := hs.shape
  have hp1 := hT.l1
  have hfew := hT.few
  refine acalls_of_code Try.func16 rfl rfl rfl (by simp) ?_
  refine ac_seq ?_
  refine ac_region (by kernel_rfl) ?_
  refine aops_make (am_zero (l := [.slice none 0 0, .int .i64 0, .int .u64 0]) inf44.zero rfl (by decide)) ?_
  first | refine aops_val (av_assign_bool rfl) ?_ | refine aops_val (av_assign rfl) ?_
  refine ac_seq ?_
  refine ac_seq ?_
  refine ac_region (by kernel_rfl) ?_
  first | refine aops_val (av_move_ptr rfl) ?_ | refine aops_val (av_move rfl) ?_
  refine aops_val (av_ptr_eq_nil rfl t_spot rfl Try.underlying33) ?_
  first | refine aops_val (av_move_bool rfl) ?_ | refine aops_val (av_move rfl) ?_
  refine aops_guard rfl rfl rfl ?_ ?_
  · intro hg1
    cases hg1
  · intro hg1
    have hp1 := hg1; try simp only [decide_eq_true_eq, decide_eq_false_iff_not, Bool.not_eq_true', Bool.not_eq_false'] at hp1
    first | refine aops_wval (want_yes rfl rfl rfl hg1) (av_move_sl rfl) ?_ | refine aops_wval (want_yes rfl rfl rfl hg1) (av_move rfl) ?_
    refine aops_wval (want_yes rfl rfl rfl hg1) (av_len rfl Try.underlying23) ?_
    first | refine aops_wval (want_yes rfl rfl rfl hg1) (av_move_ptr rfl) ?_ | refine aops_wval (want_yes rfl rfl rfl hg1) (av_move rfl) ?_
    refine aops_wval (want_yes rfl rfl rfl hg1) (av_nilCheck rfl) ?_
    refine aops_wval (want_yes rfl rfl rfl hg1) (av_fieldOff (off := 0) rfl Try.underlying89 rfl inf22.size (by decide) rfl) ?_
    refine aops_wval (want_yes rfl rfl rfl hg1) (av_load1 rfl Try.underlying22 rfl t_cell) ?_
    refine aops_wval (want_yes rfl rfl rfl hg1) (av_len rfl Try.underlying22) ?_
    refine aops_wval (want_yes rfl rfl rfl hg1) (av_ne rfl rfl) ?_
    refine aops_val (av_pick_bool (congrArg Value.bool hg1) rfl) ?_
    refine ac_split rfl rfl ?_ ?_
    · intro hc2
      have hne : ns.length ≠ T.vars.length := by have := of_decide_eq_true hc2; omega
      refine ac_seq ?_
      refine ac_region (by kernel_rfl) ?_
      first | refine aops_val (av_build (pl := [(0, 1), (1, 1), (2, 1)]) (r := [.slice _ _ _, .int .i64 _, .int .u64 _]) Try.underlying44 inf44.zero (by decide) rfl rfl) ?_ | refine aops_val (av_build (pl := [(0, 1), (1, 1), (2, 1)]) (r := [_, .int .i64 _, .int .u64 _]) Try.underlying44 inf44.zero (by decide) rfl rfl) ?_
      first | refine aops_op (aop_putN (vs := [.slice _ _ _, .int .i64 _, .int .u64 _]) rfl rfl inf44.size t_get t_room rfl rfl ?_) | refine aops_op (aop_putN (vs := [_, .int .i64 _, .int .u64 _]) rfl rfl inf44.size t_get t_room rfl rfl ?_)
      first | refine aops_val (av_assign_bool rfl) ?_ | refine aops_val (av_assign rfl) ?_
      refine ac_ret ?_
      exact ⟨_, aresult2 (ares_cell (by first | assumption | rfl) (aload_agg (cs := [_, _, _]) Try.underlying44 rfl inf44.size t_cells)) (ares_tmp rfl), Hp.le_put_new (H.le_push _) (Nat.le_refl _) _, .slice none 0 0, by rw [if_neg hne]; rfl⟩
    · intro hc2
      have hlen : ns.length = T.vars.length := by have := of_decide_eq_false hc2; omega
      refine ac_skip ?_
      refine ac_seq ?_
      refine ac_region (by kernel_rfl) ?_
      first | refine aops_val (av_move_sl rfl) ?_ | refine aops_val (av_move rfl) ?_
      refine aops_op (aop_call (Clone_ints ns _ _ (hs.mono (H.le_push _).sees) (by omega)) rfl Try.func59 rfl rfl rfl ?_)
      rintro v5 H5 ⟨hle5, hs5⟩; obtain ⟨A5, c5, rfl⟩ := hs5.shape; have hz5 := hle5.1; simp only [Hp.push_size] at hz5; have g4 : H5.get H.size = .own 0 [.slice none 0 0, .int .i64 0, .int .u64 0] := le_got hle5 (by simp) (by intro e; cases e) t_get
      first | refine aops_val (av_build (pl := [(0, 1), (1, 1), (2, 1)]) (r := [.slice _ _ _, .int .i64 _, .int .u64 _]) Try.underlying44 inf44.zero (by decide) rfl rfl) ?_ | refine aops_val (av_build (pl := [(0, 1), (1, 1), (2, 1)]) (r := [_, .int .i64 _, .int .u64 _]) Try.underlying44 inf44.zero (by decide) rfl rfl) ?_
      refine aops_make (am_zero (l := [.slice none 0 0, .int .i64 0, .int .u64 0]) inf44.zero rfl (by decide)) ?_
      first | refine aops_op (aop_putN (vs := [.slice _ _ _, .int .i64 _, .int .u64 _]) rfl rfl inf44.size t_get t_room rfl rfl ?_) | refine aops_op (aop_putN (vs := [_, .int .i64 _, .int .u64 _]) rfl rfl inf44.size t_get t_room rfl rfl ?_)
      refine ac_seq ?_
      refine ac_seq ?_
      refine ac_region (by kernel_rfl) ?_
      first | refine aops_val (av_move_sl rfl) ?_ | refine aops_val (av_move rfl) ?_
      refine aops_val (av_len rfl Try.underlying23) ?_
      first | refine aops_val (av_move_int rfl) ?_ | refine aops_val (av_move rfl) ?_
      refine ac_block ?_
      refine ac_loop (fun n t H' => ∃ (i : Nat) (c m : Int), i ≤ ns.length ∧ n = ns.length - i ∧ H5.le H' ∧ H5.size < H'.size ∧ H'.get H5.size = .own 0 [.slice A5 ns.length c5, .int .i64 c, .int .u64 m] ∧ rowAcc T ns i = some (c, m) ∧ 0 ≤ c ∧ c ≤ 2000000000 * i ∧ 0 ≤ m ∧ t 0 = .pointer (some ⟨b, 0, none⟩) ∧ t 1 = .slice Au ns.length cu ∧ t 4 = .pointer (some ⟨H.size, 0, none⟩) ∧ t 6 = .pointer (some ⟨H5.size, 0, none⟩) ∧ t 28 = .slice Au ns.length cu ∧ t 29 = .int .i64 ns.length ∧ t 30 = .int .i64 i) (ns.length) (⟨0, 0, 1, by omega, rfl, Hp.le_put_new (H5.le_push _) (Nat.le_refl _) _, by simp, Hp.put_same _ _ _, rfl, by omega, by omega, by omega, rfl, rfl, rfl, rfl, rfl, rfl, rfl⟩) ?_
      rintro n t H6 ⟨i, cc, m, hi, rfl, hle6, hz6, g6, hacc, hc0, hc1, hm0, e0, e1, e4, e6, e28, e29, e30⟩
      have g46 := le_got hle6 (by omega) (by intro e; cases e) g4
      have leH6 : H.le H6 := Hp.le_trans (H.le_push _) (Hp.le_trans hle5 hle6)
      have hg6 := le_got leH6 hb (by intro e; cases e) hg
      refine ac_seq ?_
      refine ac_region (by kernel_rfl) ?_
      refine aops_val (av_lt (by first | assumption | rfl) (by first | assumption | rfl)) ?_
      refine ac_seq ?_
      refine ac_split rfl rfl ?_ ?_
      · intro hc3
        (try simp only [decide_eq_true_eq, decide_eq_false_iff_not, Bool.not_eq_true', Bool.not_eq_false'] at hc3)
        refine ac_skip ?_
        refine ac_seq ?_
        refine ac_block ?_
        refine ac_seq ?_
        refine ac_region (by kernel_rfl) ?_
        have hix : i < ns.length := by omega
        obtain ⟨b1, o1, rfl, hb1, hcell1⟩ := (hs.mono leH6.sees).int_at (i := (i : Int)) (by omega) (by omega)
        rw [Int.toNat_natCast] at hcell1
        obtain ⟨b2, o2, rfl, hb2, hcell2⟩ := (hs1.mono leH6.sees).int_at (i := (i : Int)) (by omega) (by omega)
        rw [Int.toNat_natCast] at hcell2
        first | refine aops_val (av_move_int (by first | assumption | rfl)) ?_ | refine aops_val (av_move (by first | assumption | rfl)) ?_
        refine aops_val (av_indexAddr (by first | assumption | rfl) (by first | assumption | rfl) Try.underlying23 inf3.size t_idx t_idx) ?_
        refine aops_val (av_load1 rfl Try.underlying3 rfl t_cell) ?_
        first | refine aops_val (av_assign_int rfl) ?_ | refine aops_val (av_assign rfl) ?_
        first | refine aops_val (av_assign_int rfl) ?_ | refine aops_val (av_assign rfl) ?_
        refine ac_seq ?_
        refine ac_region (by kernel_rfl) ?_
        first | refine aops_val (av_assign_int rfl) ?_ | refine aops_val (av_assign rfl) ?_
        refine ac_seq ?_
        refine ac_seq ?_
        refine ac_region (by kernel_rfl) ?_
        first | refine aops_val (av_move_ptr (by first | assumption | rfl)) ?_ | refine aops_val (av_move (by first | assumption | rfl)) ?_
        refine aops_val (av_nilCheck rfl) ?_
        refine aops_val (av_fieldOff (off := 1) rfl Try.underlying89 rfl inf23.size (by decide) rfl) ?_
        refine aops_val (av_load1 rfl Try.underlying23 rfl t_cell) ?_
        first | refine aops_val (av_move_int rfl) ?_ | refine aops_val (av_move rfl) ?_
        refine aops_val (av_indexAddr rfl rfl Try.underlying23 inf3.size t_idx t_idx) ?_
        refine aops_val (av_load1 rfl Try.underlying3 rfl t_cell) ?_
        refine aops_val (av_ne rfl rfl) ?_
        refine ac_split rfl rfl ?_ ?_
        · intro hc4
          have hpar : T.parent.getD i 0 ≠ -1 := of_decide_eq_true hc4
          have hpi := (hT.par i (by omega)).resolve_left hpar
          have hab : aboveOf T ns i = ns.getD (T.parent.getD i 0).toNat 0 := by unfold aboveOf; rw [if_neg hpar]
          obtain ⟨b3, o3, e3, hb3, hcell3⟩ := (hs.mono leH6.sees).int_at (i := T.parent.getD i 0) hpi.1 (by omega)
          simp only [Option.some.injEq, Addr.mk.injEq, and_true] at e3
          obtain ⟨rfl, rfl⟩ := e3
          refine ac_region (by kernel_rfl) ?_
          first | refine aops_val (av_move_sl (by first | assumption | rfl)) ?_ | refine aops_val (av_move (by first | assumption | rfl)) ?_
          first | refine aops_val (av_move_ptr (by first | assumption | rfl)) ?_ | refine aops_val (av_move (by first | assumption | rfl)) ?_
          refine aops_val (av_nilCheck rfl) ?_
          refine aops_val (av_fieldOff (off := 1) rfl Try.underlying89 rfl inf23.size (by decide) rfl) ?_
          refine aops_val (av_load1 rfl Try.underlying23 rfl t_cell) ?_
          first | refine aops_val (av_move_int rfl) ?_ | refine aops_val (av_move rfl) ?_
          refine aops_val (av_indexAddr rfl rfl Try.underlying23 inf3.size t_idx t_idx) ?_
          refine aops_val (av_load1 rfl Try.underlying3 rfl t_cell) ?_
          refine aops_val (av_indexAddr rfl rfl Try.underlying23 inf3.size t_idx t_idx) ?_
          refine aops_val (av_load1 rfl Try.underlying3 rfl t_cell) ?_
          first | refine aops_val (av_assign_int rfl) ?_ | refine aops_val (av_assign rfl) ?_
          refine ac_seq ?_
          refine ac_region (by kernel_rfl) ?_
          first | refine aops_val (av_move_ptr (by first | assumption | rfl)) ?_ | refine aops_val (av_move (by first | assumption | rfl)) ?_
          first | refine aops_val (av_move_int rfl) ?_ | refine aops_val (av_move rfl) ?_
          first | refine aops_val (av_move_int rfl) ?_ | refine aops_val (av_move rfl) ?_
          first | refine aops_val (av_move_int rfl) ?_ | refine aops_val (av_move rfl) ?_
          refine aops_op (aop_call (find_tree (ht0.mono leH6) hT.l1 hT.l2 hT.lens i _ (ns.getD i 0) (hT.sort _ _)) rfl Try.func60 rfl rfl rfl ?_)
          rintro v7 H7 ⟨hle7, rfl⟩; obtain ⟨fo, hfo⟩ : ∃ fo, fo = findB (T.group i (aboveOf T ns i)) (ns.getD i 0) := ⟨_, rfl⟩; have hfo2 := hfo; rw [hab] at hfo2; rw [← hfo2]; have z7 := hle7.1; have g47 := le_got hle7 (by omega) (by intro e; cases e) g46; have g67 := le_got hle7 hz6 (by intro e; cases e) g6; have leH57 := Hp.le_trans hle6 hle7
          refine aops_val (av_move rfl) ?_
          refine aops_val (av_extract rfl rfl) ?_
          refine aops_val (av_extract rfl rfl) ?_
          refine aops_make (am_zero (l := [.int .i64 0, .int .i64 0, .int .i64 0, .int .u64 0]) inf54.zero rfl (by decide)) ?_
          first | refine aops_op (aop_putN (vs := [.int .i64 _, .int .i64 _, .int .i64 _, .int .u64 _]) rfl rfl inf54.size t_get t_room rfl rfl ?_)
          first | refine aops_val (av_assign_bool rfl) ?_ | refine aops_val (av_assign rfl) ?_
          refine ac_seq ?_
          refine ac_seq ?_
          have hfb : 0 ≤ (fo.getD dLink).cost ∧ (fo.getD dLink).cost ≤ 2000000000 ∧ 0 ≤ (fo.getD dLink).n := by
            cases hc : fo with
            | none => decide
            | some y => exact hT.group_mem (i := i) (above := aboveOf T ns i) (by rw [hfo] at hc; exact List.mem_of_find?_eq_some hc)
          have hnx : rowAcc T ns (i + 1) = fo.map fun y => (cc + y.cost, timesI m y.n) := by
            show (rowAcc T ns i).bind _ = _
            rw [hacc, hfo]; rfl
          refine ac_region (by kernel_rfl) ?_
          first | refine aops_val (av_move_bool rfl) ?_ | refine aops_val (av_move rfl) ?_
          refine aops_val (av_not rfl) ?_
          refine ac_split rfl rfl ?_ ?_
          · intro hc5
            have hnone : fo = none := by have h := hc5; cases hf : fo with | none => rfl | some y => rw [hf] at h; cases h
            have hlast : rowAcc T ns T.vars.length = none := rowAcc_none (i := i + 1) (by rw [hnx, hnone]; rfl) _ (by omega)
            refine ac_seq ?_
            refine ac_region (by kernel_rfl) ?_
            first | refine aops_val (av_build (pl := [(0, 1), (1, 1), (2, 1)]) (r := [.slice _ _ _, .int .i64 _, .int .u64 _]) Try.underlying44 inf44.zero (by decide) rfl rfl) ?_ | refine aops_val (av_build (pl := [(0, 1), (1, 1), (2, 1)]) (r := [_, .int .i64 _, .int .u64 _]) Try.underlying44 inf44.zero (by decide) rfl rfl) ?_
            first | refine aops_op (aop_putN (vs := [.slice _ _ _, .int .i64 _, .int .u64 _]) (by first | assumption | rfl) (by first | assumption | rfl) inf44.size t_get t_room (by first | assumption | rfl) (by first | assumption | rfl) ?_) | refine aops_op (aop_putN (vs := [_, .int .i64 _, .int .u64 _]) (by first | assumption | rfl) (by first | assumption | rfl) inf44.size t_get t_room (by first | assumption | rfl) (by first | assumption | rfl) ?_)
            first | refine aops_val (av_assign_bool rfl) ?_ | refine aops_val (av_assign rfl) ?_
            refine ac_ret ?_
            exact ⟨_, aresult2 (ares_cell (by first | assumption | rfl) (aload_agg (cs := [_, _, _]) Try.underlying44 rfl inf44.size t_cells)) (ares_tmp rfl), Hp.le_put_new (Hp.le_put_new (Hp.le_push' (Hp.le_trans leH6 hle7) _) (by first | omega | (simp; done) | (simp; omega)) _) (Nat.le_refl _) _, .slice none 0 0, by rw [if_pos hlen, hlast]; rfl⟩
          · intro hc5
            obtain ⟨y, rfl⟩ : ∃ y, fo = some y := by have h := hc5; cases hf : fo with | none => rw [hf] at h; cases h | some y => exact ⟨y, rfl⟩
            refine ac_skip ?_
            refine ac_seq ?_
            refine ac_region (by kernel_rfl) ?_
            refine aops_val (av_fieldOff (off := 1) (by first | assumption | rfl) Try.underlying44 (by first | assumption | rfl) inf3.size (by decide) (by first | assumption | rfl)) ?_
            refine aops_val (av_load1 rfl Try.underlying3 rfl t_cell) ?_
            refine aops_val (av_fieldOff (off := 2) rfl Try.underlying54 rfl inf3.size (by decide) rfl) ?_
            refine aops_val (av_load1 rfl Try.underlying3 rfl t_cell) ?_
            first | refine aops_val (av_add64 rfl rfl t_fits) ?_ | refine aops_val (av_add rfl rfl) ?_
            refine aops_val (av_fieldOff (off := 1) (by first | assumption | rfl) Try.underlying44 (by first | assumption | rfl) inf3.size (by decide) (by first | assumption | rfl)) ?_
            first | refine aops_op (aop_put1 rfl rfl rfl inf3.size t_get t_room rfl ?_)
            refine ac_region (by kernel_rfl) ?_
            refine aops_val (av_fieldOff (off := 2) (by first | assumption | rfl) Try.underlying44 (by first | assumption | rfl) inf42.size (by decide) (by first | assumption | rfl)) ?_
            refine aops_val (av_load1 rfl Try.underlying42 rfl t_cell) ?_
            refine aops_val (av_fieldOff (off := 3) rfl Try.underlying54 rfl inf42.size (by decide) rfl) ?_
            refine aops_val (av_load1 rfl Try.underlying42 rfl t_cell) ?_
            refine aops_op (aop_call (Times_u64 m ((some y).getD dLink).n hm0 hfb.2.2 _) rfl Try.func61 rfl rfl rfl ?_)
            rintro v8 H8 ⟨rfl, rfl⟩
            refine aops_val (av_fieldOff (off := 2) (by first | assumption | rfl) Try.underlying44 (by first | assumption | rfl) inf42.size (by decide) (by first | assumption | rfl)) ?_
            first | refine aops_op (aop_put1 rfl rfl rfl inf42.size t_get t_room rfl ?_)
            refine ac_region (by kernel_rfl) ?_
            first | refine aops_val (av_add64 (by first | assumption | rfl) (by first | assumption | rfl) t_fits) ?_ | refine aops_val (av_add (by first | assumption | rfl) (by first | assumption | rfl)) ?_
            first | refine aops_val (av_move_int rfl) ?_ | refine aops_val (av_move rfl) ?_
            exact ⟨ns.length - (i + 1), by omega, i + 1, cc + y.cost, timesI m y.n, by omega, rfl, Hp.le_put_new (Hp.le_put_new (Hp.le_put_new (Hp.le_push' leH57 _) (by omega) _) (Nat.le_refl _) _) (Nat.le_refl _) _, by simp; omega, Hp.put_same _ _ _, hnx, by have := hfb.1; simp only [Option.getD_some] at this; omega, by have := hfb.2.1; simp only [Option.getD_some] at this; omega, (timesI_le hm0 hfb.2.2).1, e0, e1, e4, e6, e28, e29, rfl⟩
        · intro hc4
          have hpar : T.parent.getD i 0 = -1 := by have := of_decide_eq_false hc4; exact Decidable.not_not.1 this
          have hab : aboveOf T ns i = -1 := by unfold aboveOf; rw [if_pos hpar]
          refine ac_skip ?_
          refine ac_seq ?_
          refine ac_region (by kernel_rfl) ?_
          first | refine aops_val (av_move_ptr (by first | assumption | rfl)) ?_ | refine aops_val (av_move (by first | assumption | rfl)) ?_
          first | refine aops_val (av_move_int rfl) ?_ | refine aops_val (av_move rfl) ?_
          first | refine aops_val (av_move_int rfl) ?_ | refine aops_val (av_move rfl) ?_
          first | refine aops_val (av_move_int rfl) ?_ | refine aops_val (av_move rfl) ?_
          refine aops_op (aop_call (find_tree (ht0.mono leH6) hT.l1 hT.l2 hT.lens i _ (ns.getD i 0) (hT.sort _ _)) rfl Try.func60 rfl rfl rfl ?_)
          rintro v7 H7 ⟨hle7, rfl⟩; obtain ⟨fo, hfo⟩ : ∃ fo, fo = findB (T.group i (aboveOf T ns i)) (ns.getD i 0) := ⟨_, rfl⟩; have hfo2 := hfo; rw [hab] at hfo2; rw [← hfo2]; have z7 := hle7.1; have g47 := le_got hle7 (by omega) (by intro e; cases e) g46; have g67 := le_got hle7 hz6 (by intro e; cases e) g6; have leH57 := Hp.le_trans hle6 hle7
          refine aops_val (av_move rfl) ?_
          refine aops_val (av_extract rfl rfl) ?_
          refine aops_val (av_extract rfl rfl) ?_
          refine aops_make (am_zero (l := [.int .i64 0, .int .i64 0, .int .i64 0, .int .u64 0]) inf54.zero rfl (by decide)) ?_
          first | refine aops_op (aop_putN (vs := [.int .i64 _, .int .i64 _, .int .i64 _, .int .u64 _]) rfl rfl inf54.size t_get t_room rfl rfl ?_)
          first | refine aops_val (av_assign_bool rfl) ?_ | refine aops_val (av_assign rfl) ?_
          refine ac_seq ?_
          refine ac_seq ?_
          have hfb : 0 ≤ (fo.getD dLink).cost ∧ (fo.getD dLink).cost ≤ 2000000000 ∧ 0 ≤ (fo.getD dLink).n := by
            cases hc : fo with
            | none => decide
            | some y => exact hT.group_mem (i := i) (above := aboveOf T ns i) (by rw [hfo] at hc; exact List.mem_of_find?_eq_some hc)
          have hnx : rowAcc T ns (i + 1) = fo.map fun y => (cc + y.cost, timesI m y.n) := by
            show (rowAcc T ns i).bind _ = _
            rw [hacc, hfo]; rfl
          refine ac_region (by kernel_rfl) ?_
          first | refine aops_val (av_move_bool rfl) ?_ | refine aops_val (av_move rfl) ?_
          refine aops_val (av_not rfl) ?_
          refine ac_split rfl rfl ?_ ?_
          · intro hc6
            have hnone : fo = none := by have h := hc6; cases hf : fo with | none => rfl | some y => rw [hf] at h; cases h
            have hlast : rowAcc T ns T.vars.length = none := rowAcc_none (i := i + 1) (by rw [hnx, hnone]; rfl) _ (by omega)
            refine ac_seq ?_
            refine ac_region (by kernel_rfl) ?_
            first | refine aops_val (av_build (pl := [(0, 1), (1, 1), (2, 1)]) (r := [.slice _ _ _, .int .i64 _, .int .u64 _]) Try.underlying44 inf44.zero (by decide) rfl rfl) ?_ | refine aops_val (av_build (pl := [(0, 1), (1, 1), (2, 1)]) (r := [_, .int .i64 _, .int .u64 _]) Try.underlying44 inf44.zero (by decide) rfl rfl) ?_
            first | refine aops_op (aop_putN (vs := [.slice _ _ _, .int .i64 _, .int .u64 _]) (by first | assumption | rfl) (by first | assumption | rfl) inf44.size t_get t_room (by first | assumption | rfl) (by first | assumption | rfl) ?_) | refine aops_op (aop_putN (vs := [_, .int .i64 _, .int .u64 _]) (by first | assumption | rfl) (by first | assumption | rfl) inf44.size t_get t_room (by first | assumption | rfl) (by first | assumption | rfl) ?_)
            first | refine aops_val (av_assign_bool rfl) ?_ | refine aops_val (av_assign rfl) ?_
            refine ac_ret ?_
            exact ⟨_, aresult2 (ares_cell (by first | assumption | rfl) (aload_agg (cs := [_, _, _]) Try.underlying44 rfl inf44.size t_cells)) (ares_tmp rfl), Hp.le_put_new (Hp.le_put_new (Hp.le_push' (Hp.le_trans leH6 hle7) _) (by first | omega | (simp; done) | (simp; omega)) _) (Nat.le_refl _) _, .slice none 0 0, by rw [if_pos hlen, hlast]; rfl⟩
          · intro hc6
            obtain ⟨y, rfl⟩ : ∃ y, fo = some y := by have h := hc6; cases hf : fo with | none => rw [hf] at h; cases h | some y => exact ⟨y, rfl⟩
            refine ac_skip ?_
            refine ac_seq ?_
            refine ac_region (by kernel_rfl) ?_
            refine aops_val (av_fieldOff (off := 1) (by first | assumption | rfl) Try.underlying44 (by first | assumption | rfl) inf3.size (by decide) (by first | assumption | rfl)) ?_
            refine aops_val (av_load1 rfl Try.underlying3 rfl t_cell) ?_
            refine aops_val (av_fieldOff (off := 2) rfl Try.underlying54 rfl inf3.size (by decide) rfl) ?_
            refine aops_val (av_load1 rfl Try.underlying3 rfl t_cell) ?_
            first | refine aops_val (av_add64 rfl rfl t_fits) ?_ | refine aops_val (av_add rfl rfl) ?_
            refine aops_val (av_fieldOff (off := 1) (by first | assumption | rfl) Try.underlying44 (by first | assumption | rfl) inf3.size (by decide) (by first | assumption | rfl)) ?_
            first | refine aops_op (aop_put1 rfl rfl rfl inf3.size t_get t_room rfl ?_)
            refine ac_region (by kernel_rfl) ?_
            refine aops_val (av_fieldOff (off := 2) (by first | assumption | rfl) Try.underlying44 (by first | assumption | rfl) inf42.size (by decide) (by first | assumption | rfl)) ?_
            refine aops_val (av_load1 rfl Try.underlying42 rfl t_cell) ?_
            refine aops_val (av_fieldOff (off := 3) rfl Try.underlying54 rfl inf42.size (by decide) rfl) ?_
            refine aops_val (av_load1 rfl Try.underlying42 rfl t_cell) ?_
            refine aops_op (aop_call (Times_u64 m ((some y).getD dLink).n hm0 hfb.2.2 _) rfl Try.func61 rfl rfl rfl ?_)
            rintro v8 H8 ⟨rfl, rfl⟩
            refine aops_val (av_fieldOff (off := 2) (by first | assumption | rfl) Try.underlying44 (by first | assumption | rfl) inf42.size (by decide) (by first | assumption | rfl)) ?_
            first | refine aops_op (aop_put1 rfl rfl rfl inf42.size t_get t_room rfl ?_)
            refine ac_region (by kernel_rfl) ?_
            first | refine aops_val (av_add64 (by first | assumption | rfl) (by first | assumption | rfl) t_fits) ?_ | refine aops_val (av_add (by first | assumption | rfl) (by first | assumption | rfl)) ?_
            first | refine aops_val (av_move_int rfl) ?_ | refine aops_val (av_move rfl) ?_
            exact ⟨ns.length - (i + 1), by omega, i + 1, cc + y.cost, timesI m y.n, by omega, rfl, Hp.le_put_new (Hp.le_put_new (Hp.le_put_new (Hp.le_push' leH57 _) (by omega) _) (Nat.le_refl _) _) (Nat.le_refl _) _, by simp; omega, Hp.put_same _ _ _, hnx, by have := hfb.1; simp only [Option.getD_some] at this; omega, by have := hfb.2.1; simp only [Option.getD_some] at this; omega, (timesI_le hm0 hfb.2.2).1, e0, e1, e4, e6, e28, e29, rfl⟩
      · intro hc3
        (try simp only [decide_eq_true_eq, decide_eq_false_iff_not, Bool.not_eq_true', Bool.not_eq_false'] at hc3)
        refine ac_exit ?_
        refine ac_seq ?_
        refine ac_region (by kernel_rfl) ?_
        first | refine aops_val (av_loadN (cs := [.slice _ _ _, .int .i64 _, .int .u64 _]) (by first | assumption | rfl) Try.underlying44 (by first | assumption | rfl) inf44.size t_cells) ?_ | refine aops_val (av_loadN (cs := [_, .int .i64 _, .int .u64 _]) (by first | assumption | rfl) Try.underlying44 (by first | assumption | rfl) inf44.size t_cells) ?_
        first | refine aops_op (aop_putN (vs := [.slice _ _ _, .int .i64 _, .int .u64 _]) (by first | assumption | rfl) (by first | assumption | rfl) inf44.size t_get t_room (by first | assumption | rfl) (by first | assumption | rfl) ?_) | refine aops_op (aop_putN (vs := [_, .int .i64 _, .int .u64 _]) (by first | assumption | rfl) (by first | assumption | rfl) inf44.size t_get t_room (by first | assumption | rfl) (by first | assumption | rfl) ?_)
        first | refine aops_val (av_assign_bool rfl) ?_ | refine aops_val (av_assign rfl) ?_
        refine ac_ret ?_
        have hk : i = T.vars.length := by omega
        subst hk
        exact ⟨_, aresult2 (ares_cell (by first | assumption | rfl) (aload_agg (cs := [_, _, _]) Try.underlying44 rfl inf44.size t_cells)) (ares_tmp rfl), Hp.le_put_new leH6 (Nat.le_refl _) _, .slice A5 ns.length c5, by rw [if_pos hlen, hacc]; exact ⟨rfl, hs5.mono (hle6.sees.trans (Hp.sees_box _ g46))⟩⟩
end Go.Proofs.Ytcaeoebphfjfiaa.Am


/- The tree that is made, place by place. -/
namespace Go.Proofs.Ytcaeoebphfjfiaa.Am
open Go Go.RowKit
set_option maxRecDepth 100000
set_option linter.unusedVariables false
set_option linter.unusedSimpArgs false

/-- Costs that may be added. -/
structure Cheap (p : Parts) : Prop where
  nodes : ∀ v, ∀ x ∈ nd p v, 0 ≤ x.cost ∧ x.cost ≤ 1000000000 ∧ 0 ≤ x.n
  links : ∀ v, ∀ x ∈ lk p v, 0 ≤ x.cost ∧ x.cost ≤ 1000000000 ∧ 0 ≤ x.n
theorem Cheap.sub {p q : Parts} (h : Cheap p) (hs : Sub q p) : Cheap q := ⟨fun v x hx => h.nodes v x ((hs v).1.subset hx), fun v x hx => h.links v x ((hs v).2.subset hx)⟩
theorem goodL_strict {xs : List Link} (h : GoodL xs) (hb : ∀ x ∈ xs, x.a = x.b) : xs.Pairwise fun x y => x.a < y.a := by
  refine List.Pairwise.imp_of_mem (R := fun x y => lessL x y = true) (fun {x y} hx hy hl => ?_) (goodL_iff.1 h).2
  have e1 := hb x hx
  have e2 := hb y hy
  simp only [lessL, Bool.or_eq_true, Bool.and_eq_true, decide_eq_true_eq] at hl
  omega
theorem rise_weigh {ns ls : List Link} (h : RiseA ls) : RiseA (ls.map (weigh ns)) := by
  intro i j hi hj hij
  rw [List.getElem_map, List.getElem_map]
  exact h i j (by simpa using hi) (by simpa using hj) hij
theorem treeOf_len {f : Forest} (x : Parts) : (treeOf f x).vars.length = f.order.length ∧ (treeOf f x).parent.length = f.order.length ∧ (treeOf f x).links.length = f.order.length := by simp [treeOf]
theorem vAt_get {f : Forest} {i : Nat} (hi : i < f.order.length) : vAt f i = f.order[i].toNat := by unfold vAt; rw [getD_at hi]
theorem treeOf_at {f : Forest} (x : Parts) {i : Nat} (hi : i < f.order.length) : (treeOf f x).vars[i]? = some (f.vars.getD (vAt f i) ⟨#[]⟩) ∧ (treeOf f x).parent[i]? = some (atI f.order (par f (vAt f i))) ∧ (treeOf f x).links[i]? = some (placeLinks f x (vAt f i)) := by
  have e := vAt_get hi
  refine ⟨?_, ?_, ?_⟩ <;> simp [treeOf, List.getElem?_eq_getElem hi, e]
theorem take_at {α : Type} {xs : List α} {i : Nat} {y : α} (h : xs[i]? = some y) : xs.take i ++ [y] = xs.take (i + 1) := by
  obtain ⟨hi, rfl⟩ := List.getElem?_eq_some_iff.1 h
  exact take_next hi
theorem mapGet_nil (k : Value) : mapGet [] k = none := mapGet_none fun e h => by cases h
theorem Spots.zero (T : TreeT) : Spots T 0 [] := ⟨fun e h => (by cases h), fun i h => (by omega), fun _ _ _ => mapGet_nil _⟩
theorem Spots.step {T : TreeT} {i : Nat} {es es' : List (Value × Value)} (h : Spots T i es)
    (hres : if T.parent.getD i 0 = -1 then es' = mapPut es (spotV i (-1)) (spanV 0 (T.links.getD i []).length) else Noted (T.links.getD i []) i (T.links.getD i []).length es es') : Spots T (i + 1) es' := by
  have other : ∀ (j : Nat) above, j ≠ i → mapGet es' (spotV j above) = mapGet es (spotV j above) := fun j above hj => by
    split at hres
    · subst hres
      exact mapGet_other fun e => hj (by have := (spotV_inj e).1; omega)
    · exact hres.other j above hj
  refine ⟨?_, fun j hj above hroot => ?_, fun j above hj => by rw [other j above (by omega)]; exact h.none j above (by omega)⟩
  · split at hres
    · subst hres; exact mapPut_keys h.keys ⟨_, _, rfl⟩
    · exact hres.keys
  · by_cases hji : j = i
    · subst hji
      split at hres
      · rename_i hr
        have := hroot hr
        subst this
        subst hres
        refine ⟨0, (T.links.getD j []).length, by rw [mapGet_put]; rfl, by omega, Nat.le_refl _, ?_⟩
        unfold TreeT.row
        rw [if_pos hr, List.drop_zero, List.take_length]
      · rename_i hr
        have hrow : T.row j above = (T.links.getD j []).filter fun l => decide (l.a = above) := by unfold TreeT.row; rw [if_neg hr]
        by_cases hex : ∃ (k : Nat) (h : k < (T.links.getD j []).length), k < (T.links.getD j []).length ∧ (T.links.getD j [])[k].a = above
        · obtain ⟨fr, to, h1, h2, h3, h4⟩ := hres.yes above hex
          exact ⟨fr, to, by rw [h1]; rfl, h2, h3, by rw [hrow]; exact h4⟩
        · refine ⟨0, 0, by rw [hres.no above hex]; rfl, Nat.le_refl _, Nat.zero_le _, ?_⟩
          rw [hrow, List.filter_eq_nil_iff.2]
          · rfl
          · intro l hl e
            obtain ⟨k, hk, rfl⟩ := List.getElem_of_mem hl
            exact hex ⟨k, hk, hk, of_decide_eq_true e⟩
    · rw [other j above hji]
      exact h.at_ j (by omega) above hroot
theorem stable_ints (st : Nat) : Stable (kInt .i64) st := Plain.stable (plain_int .i64) st
theorem stable_strs (st : Nat) : Stable kStr st := Plain.stable (fun _ _ _ _ h => h) st
theorem stable_links (st : Nat) : Stable kLink st := Plain.stable plain_link st
theorem stable_lists : Stable (kSl kLink) 1 := stable_sl (stable_links 1) (by decide)
end Go.Proofs.Ytcaeoebphfjfiaa.Am


/- All rows of good parts, by the document's words. -/
namespace Go.Proofs.Ytcaeoebphfjfiaa.Am
open Go Go.RowKit
set_option maxRecDepth 100000
set_option linter.unusedVariables false
set_option linter.unusedSimpArgs false

theorem findI_lt {xs : List Link} {a b : Int} (h : 0 ≤ findI xs a b) : ∃ m : Nat, findI xs a b = m ∧ ∃ hm : m < xs.length, xs[m].a = a ∧ xs[m].b = b := by
  unfold findI at *
  cases hf : xs.findIdx? (isAt a b) with
  | none => rw [hf] at h; simp at h
  | some i =>
    obtain ⟨hi, h1, _⟩ := List.findIdx?_eq_some_iff_getElem.1 hf
    unfold isAt at h1
    rw [Bool.and_eq_true, decide_eq_true_eq, decide_eq_true_eq] at h1
    exact ⟨i, rfl, hi, h1⟩
theorem rowOne_flat {f : Forest} {p : Parts} {w : Nat} {r : RowT} {x : Link} (h : ¬ 0 ≤ par f w) : rowOne f p w r x = some ⟨r.nodes ++ [x.a], r.cost + x.cost, timesI r.n x.n⟩ := if_neg h
theorem rowOne_none {f : Forest} {p : Parts} {w : Nat} {r : RowT} {x : Link} (h : 0 ≤ par f w) (h2 : ¬ 0 ≤ linkOf f p w r x) : rowOne f p w r x = none := by unfold rowOne; rw [if_pos h, if_neg h2]
theorem rowOne_link {f : Forest} {p : Parts} {w m : Nat} {r : RowT} {x : Link} (h : 0 ≤ par f w) (h2 : linkOf f p w r x = m) (hm : m < (lk p w).length) : rowOne f p w r x = some ⟨r.nodes ++ [x.a], r.cost + (x.cost + (lk p w)[m].cost), timesI r.n (timesI x.n (lk p w)[m].n)⟩ := by
  unfold rowOne
  rw [if_pos h, if_pos (by omega), h2, Int.toNat_natCast, List.getD_eq_getElem?_getD, List.getElem?_eq_getElem hm]; rfl
set_option maxHeartbeats 4000000 in
theorem Rows_ref (f : Forest) (p : Parts) (cs ds : List Value) (H : Hp) (hp : kForest.rep H f cs) (hq : kParts.rep H p ds) (hG : GoodP f p) (hsm : Small f p) (ht : Tiny f p) :
    ACalls Try.prog 15 #[.agg cs.toArray, .agg ds.toArray] H (fun r H' => H.le H' ∧ Sl kRow H' r (rowsP f p)) := by
  have hg := hG.gf
  have hp0 := hp
  have hq0 := hq
  obtain ⟨v0, v1, v2, v3, v4, rfl, hs0, hs1, hs2, hs3, hs4⟩ := hp
  obtain ⟨A0, c0, rfl⟩ := hs0.shape
  obtain ⟨A1, c1, rfl⟩ := hs1.shape
  obtain ⟨A2, c2, rfl⟩ := hs2.shape
  obtain ⟨A3, c3, rfl⟩ := hs3.shape
  obtain ⟨A4, c4, rfl⟩ := hs4.shape
  obtain ⟨u0, u1, rfl, hn0, hn1⟩ := hq
  obtain ⟨B0, d0, rfl⟩ := hn0.shape
  obtain ⟨B1, d1, rfl⟩ := hn1.shape
  have hgl := hg.l1
  have hgp := hg.l2
  have hvn := ht.vars
  refine acalls_of_code Try.func15 rfl rfl rfl (by simp) ?_
  refine ac_seq ?_
  refine ac_region (by kernel_rfl) ?_
  refine aops_make (am_box_agg rfl) ?_
  refine aops_make (am_box_agg rfl) ?_
  first | refine aops_val (av_assign_sl rfl) ?_ | refine aops_val (av_assign rfl) ?_
  refine ac_seq ?_
  refine ac_region (by kernel_rfl) ?_
  first | refine aops_val (av_build (pl := [(0, 1), (1, 1), (2, 1)]) (r := [.slice _ _ _, .int .i64 _, .int .u64 _]) Try.underlying49 inf49.zero (by decide) rfl rfl) ?_ | refine aops_val (av_build (pl := [(0, 1), (1, 1), (2, 1)]) (r := [_, .int .i64 _, .int .u64 _]) Try.underlying49 inf49.zero (by decide) rfl rfl) ?_
  first | refine aops_make (am_buildSlice (r := [.slice _ _ _, .int .i64 _, .int .u64 _]) Try.underlying40 inf49.size inf49.zero rfl (by decide) (by decide) (by decide) rfl) ?_ | refine aops_make (am_buildSlice (r := [_, .int .i64 _, .int .u64 _]) Try.underlying40 inf49.size inf49.zero rfl (by decide) (by decide) (by decide) rfl) ?_
  first | refine aops_val (av_assign_sl rfl) ?_ | refine aops_val (av_assign rfl) ?_
  refine ac_seq ?_
  refine ac_seq ?_
  refine ac_region (by kernel_rfl) ?_
  first | refine aops_val (av_assign_int rfl) ?_ | refine aops_val (av_assign rfl) ?_
  refine ac_block ?_
  refine ac_loop (fun n t H' => ∃ (i : Nat) (Ao : Option Addr) (co : Nat), i ≤ f.order.length ∧ n = f.order.length - i ∧ ((H.push (.own 0 [.slice A0 f.vars.length c0, .slice A1 f.order.length c1, .slice A2 f.parent.length c2, .slice A3 f.links.length c3, .slice A4 f.loops.length c4])).push (.own 0 [.slice B0 p.nodes.length d0, .slice B1 p.links.length d1])).le H' ∧ Sl kRow H' (.slice Ao (rowsK f p i).length co) (rowsK f p i) ∧ t 2 = .pointer (some ⟨H.size, 0, none⟩) ∧ t 3 = .pointer (some ⟨H.size + 1, 0, none⟩) ∧ t 5 = .slice Ao (rowsK f p i).length co ∧ t 6 = .int .i64 i) (f.order.length) (⟨0, _, _, by omega, rfl, Hp.le_push _ _, sl_one (k := kRow) (x := ⟨[], 0, 1⟩) ⟨_, rfl, Sl.nil _ _⟩ rfl rfl rfl, rfl, rfl, rfl, rfl⟩) ?_
  rintro n t H1 ⟨i, Ao, co, hi, rfl, hle1, hso, e2, e3, e5, e6⟩
  have hz1 := hle1.1
  simp only [Hp.push_size] at hz1
  have g0 : H1.get H.size = .own 0 [.slice A0 f.vars.length c0, .slice A1 f.order.length c1, .slice A2 f.parent.length c2, .slice A3 f.links.length c3, .slice A4 f.loops.length c4] := le_got hle1 (by simp <;> omega) (by intro e; cases e) t_get
  have g1 : H1.get (H.size + 1) = .own 0 [.slice B0 p.nodes.length d0, .slice B1 p.links.length d1] := le_got hle1 (by simp <;> omega) (by intro e; cases e) t_get
  have leH1 : H.le H1 := Hp.le_trans (Hp.le_push' (H.le_push _) _) hle1
  refine ac_seq ?_
  refine ac_seq ?_
  refine ac_region (by kernel_rfl) ?_
  first | refine aops_val (av_move_int (by first | assumption | rfl)) ?_ | refine aops_val (av_move (by first | assumption | rfl)) ?_
  refine aops_val (av_fieldOff (off := 1) (by first | assumption | rfl) Try.underlying26 (by first | assumption | rfl) inf23.size (by decide) (by first | assumption | rfl)) ?_
  refine aops_val (av_load1 rfl Try.underlying23 rfl t_cell) ?_
  refine aops_val (av_len rfl Try.underlying23) ?_
  refine aops_val (av_lt rfl rfl) ?_
  refine ac_split rfl rfl ?_ ?_
  · intro hc1
    (try simp only [decide_eq_true_eq, decide_eq_false_iff_not, Bool.not_eq_true', Bool.not_eq_false'] at hc1)
    refine ac_skip ?_
    refine ac_seq ?_
    refine ac_block ?_
    refine ac_seq ?_
    have hi' : i < f.order.length := by omega
    have hwm : f.order.getD i 0 ∈ f.order := by rw [getD_at hi']; exact List.getElem_mem hi'
    obtain ⟨b1, o1, rfl, hb1, hcell1⟩ := hs1.int_at (i := (i : Int)) (by omega) (by omega)
    rw [Int.toNat_natCast] at hcell1
    have hcell1' := leH1.cell1 hb1 hcell1
    obtain ⟨w, hw⟩ : ∃ w : Nat, f.order.getD i 0 = (w : Int) := ⟨(f.order.getD i 0).toNat, by have := hg.order_in hwm; omega⟩
    have hwn : w < f.vars.length := by have := hg.order_in hwm; omega
    have hvat : vAt f i = w := by unfold vAt; rw [hw]; rfl
    rw [hw] at hcell1'
    have hge := hg.parent_ge hwn
    obtain ⟨b2, o2, rfl, hb2, hcell2⟩ := hs2.int_at (i := (w : Int)) (by omega) (by omega)
    rw [Int.toNat_natCast] at hcell2
    have hcell2' := leH1.cell1 hb2 hcell2
    have hln := hG.n1
    have hll := hG.n2
    obtain ⟨b3, o3, ks3, eB0, hb3, ⟨wn, rfl, hsn⟩, hcell3⟩ := (hn0.mono leH1.sees).elem_at (i := w) (by omega)
    obtain ⟨b4, o4, ks4, eB1, hb4, ⟨wl, rfl, hsl⟩, hcell4⟩ := (hn1.mono leH1.sees).elem_at (i := w) (by omega)
    subst eB0 eB1
    have hcell3' := hcell3.one
    have hcell4' := hcell4.one
    have gn : p.nodes[w]'(by omega) = nd p w := (getD_list (by omega)).symm
    have gl : p.links[w]'(by omega) = lk p w := (getD_list (by omega)).symm
    rw [gn] at hsn
    rw [gl] at hsl
    obtain ⟨An, cn, rfl⟩ := hsn.shape
    obtain ⟨Al, cl, rfl⟩ := hsl.shape
    have hndl := ht.nodes w
    have hlkl : (lk p w).length ≤ 1000000 := getD_len hsm.s6 w
    have hrl : (rowsK f p i).length ≤ 1024 := Nat.le_trans (rowsK_len ht i) (Nat.pow_le_pow_right (by omega) (by omega : i ≤ 5))
    refine ac_draw (by kernel_rfl) (reg_of (B := [0, 0, 2, 0, 14, 30, 1, 127]) (π := [0, 1, 2, 3, 4, 5, 6, 7]) (by kernel_rfl)) ?_
    first | refine adr_make rfl rfl (am_buildSlice (r := []) Try.underlying40 inf49.size inf49.zero rfl (by decide) (by decide) (by decide) rfl) ?_
    refine adr_val rfl rfl (av_fieldOff (off := 1) (by first | assumption | rfl) Try.underlying26 (by first | assumption | rfl) inf23.size (by decide) (by first | assumption | rfl)) t_lt ?_
    refine adr_val rfl rfl (av_load1 rfl Try.underlying23 rfl t_cell) t_lt ?_
    first | refine adr_val rfl rfl (av_move_int (by first | assumption | rfl)) t_lt ?_ | refine adr_val rfl rfl (av_move (by first | assumption | rfl)) t_lt ?_
    refine adr_val rfl rfl (av_indexAddr rfl rfl Try.underlying23 inf3.size t_idx t_idx) t_lt ?_
    refine adr_val rfl rfl (av_load1 rfl Try.underlying3 rfl t_cell) t_lt ?_
    first | refine adr_val rfl rfl (av_assign_sl rfl) t_lt ?_ | refine adr_val rfl rfl (av_assign rfl) t_lt ?_
    first | refine adr_val rfl rfl (av_assign_int rfl) t_lt ?_ | refine adr_val rfl rfl (av_assign rfl) t_lt ?_
    refine ac_seq ?_
    refine ac_seq ?_
    refine ac_region (by kernel_rfl) ?_
    first | refine aops_val (av_assign_int rfl) ?_ | refine aops_val (av_assign rfl) ?_
    refine ac_block ?_
    refine ac_loop (fun n t H' => ∃ (k : Nat) (G : Hp) (rows : List RowT) (B : Option Addr) (c5 : Nat), k ≤ (rowsK f p i).length ∧ n = (rowsK f p i).length - k ∧ H1.le G ∧ rows = ((rowsK f p i).take k).flatMap (fun r => (nd p w).filterMap (rowOne f p w r)) ∧ OwnP kRow G H' (.slice B rows.length c5) rows ∧ t 2 = .pointer (some ⟨H.size, 0, none⟩) ∧ t 3 = .pointer (some ⟨H.size + 1, 0, none⟩) ∧ t 5 = .slice Ao (rowsK f p i).length co ∧ t 6 = .int .i64 i ∧ t 7 = .slice B rows.length c5 ∧ t 8 = .int .i64 w ∧ t 9 = .int .i64 k) ((rowsK f p i).length) (⟨0, H1.push .dead, [], _, _, by omega, rfl, H1.le_push _, rfl, OwnP.lit kRow H1, e2, e3, e5, e6, rfl, rfl, rfl⟩) ?_
    rintro n t H2 ⟨k, G2, rows, B, c5, hk, rfl, hle2, hrows, hown2, e2, e3, e5, e6, e7, e8, e9⟩
    have hz2 := hown2.size
    have leH2 := Hp.le_trans hle2 hown2.le
    have g02 := le_got leH2 (by omega) (by intro e; cases e) g0
    have g12 := le_got leH2 (by omega) (by intro e; cases e) g1
    have hrows4 : rows.length ≤ 4 * k := by rw [hrows]; have := flat_len (g := (fun r => (nd p w).filterMap (rowOne f p w r))) (m := 4) (fun r => Nat.le_trans (List.length_filterMap_le _ _) hndl) ((rowsK f p i).take k); rw [List.length_take] at this; omega
    refine ac_seq ?_
    refine ac_seq ?_
    refine ac_region (by kernel_rfl) ?_
    first | refine aops_val (av_move_int (by first | assumption | rfl)) ?_ | refine aops_val (av_move (by first | assumption | rfl)) ?_
    first | refine aops_val (av_move_sl (by first | assumption | rfl)) ?_ | refine aops_val (av_move (by first | assumption | rfl)) ?_
    refine aops_val (av_len rfl Try.underlying40) ?_
    refine aops_val (av_lt rfl rfl) ?_
    refine ac_split rfl rfl ?_ ?_
    · intro hc2
      (try simp only [decide_eq_true_eq, decide_eq_false_iff_not, Bool.not_eq_true', Bool.not_eq_false'] at hc2)
      refine ac_skip ?_
      refine ac_seq ?_
      refine ac_block ?_
      refine ac_seq ?_
      have hkx : k < (rowsK f p i).length := by omega
      obtain ⟨bo, oo, wr, eAo, hbo, hcello, hwr⟩ := hso.row_at hkx
      obtain ⟨_, _, eA2, _, _, hcuto, _⟩ := hso.place (by omega)
      subst eAo
      simp only [Option.some.injEq, Addr.mk.injEq, and_true] at eA2
      obtain ⟨rfl, rfl⟩ := eA2
      have hdo : H1.get bo ≠ .dead := Blk.cut_ne hcuto
      obtain ⟨r, hr⟩ : ∃ r, r = (rowsK f p i)[k] := ⟨_, rfl⟩
      rw [← hr] at hcello hwr
      have hrok : RowOk i r := rowsK_ok ht i r (by rw [hr]; exact List.getElem_mem hkx)
      obtain ⟨hrn, hr0, hr1, hr2, hr3⟩ := hrok
      obtain ⟨Ar, cr, rfl⟩ := hwr.shape
      refine ac_region (by kernel_rfl) ?_
      first | refine aops_val (av_assign_int rfl) ?_ | refine aops_val (av_assign rfl) ?_
      refine ac_block ?_
      refine ac_loop (fun n t H' => ∃ (j : Nat) (G : Hp) (rows3 : List RowT) (B : Option Addr) (c5 : Nat), j ≤ (nd p w).length ∧ n = (nd p w).length - j ∧ H1.le G ∧ rows3 = rows ++ ((nd p w).take j).filterMap (rowOne f p w r) ∧ OwnP kRow G H' (.slice B rows3.length c5) rows3 ∧ t 2 = .pointer (some ⟨H.size, 0, none⟩) ∧ t 3 = .pointer (some ⟨H.size + 1, 0, none⟩) ∧ t 5 = .slice (some ⟨bo, oo, none⟩) (rowsK f p i).length co ∧ t 6 = .int .i64 i ∧ t 7 = .slice B rows3.length c5 ∧ t 8 = .int .i64 w ∧ t 9 = .int .i64 k ∧ t 10 = .int .i64 j) ((nd p w).length) (⟨0, G2, rows, B, c5, by omega, rfl, hle2, by simp, hown2, e2, e3, e5, e6, e7, e8, e9, rfl⟩) ?_
      rintro n t H3 ⟨j, G3, rows3, B3, c53, hj, rfl, hle3, hrows3, hown3, e2, e3, e5, e6, e7, e8, e9, e10⟩
      have hz3 := hown3.size
      have leH3 := Hp.le_trans hle3 hown3.le
      have hs3' := leH3.1
      have g03 := le_got leH3 (by omega) (by intro e; cases e) g0
      have g13 := le_got leH3 (by omega) (by intro e; cases e) g1
      have hcell33 := leH3.cell1 hb3 hcell3'
      have hrows34 : rows3.length ≤ 4 * k + 4 := by rw [hrows3, List.length_append]; have := List.length_filterMap_le (rowOne f p w r) ((nd p w).take j); rw [List.length_take] at this; omega
      refine ac_seq ?_
      refine ac_seq ?_
      refine ac_region (by kernel_rfl) ?_
      first | refine aops_val (av_move_int (by first | assumption | rfl)) ?_ | refine aops_val (av_move (by first | assumption | rfl)) ?_
      refine aops_val (av_fieldOff (off := 0) (by first | assumption | rfl) Try.underlying29 (by first | assumption | rfl) inf27.size (by decide) (by first | assumption | rfl)) ?_
      refine aops_val (av_load1 rfl Try.underlying27 rfl t_cell) ?_
      first | refine aops_val (av_move_int (by first | assumption | rfl)) ?_ | refine aops_val (av_move (by first | assumption | rfl)) ?_
      refine aops_val (av_indexAddr rfl rfl Try.underlying27 inf50.size t_idx t_idx) ?_
      refine aops_val (av_load1 rfl Try.underlying50 rfl t_cell) ?_
      refine aops_val (av_len rfl Try.underlying50) ?_
      refine aops_val (av_lt rfl rfl) ?_
      refine ac_split rfl rfl ?_ ?_
      · intro hc3
        (try simp only [decide_eq_true_eq, decide_eq_false_iff_not, Bool.not_eq_true', Bool.not_eq_false'] at hc3)
        refine ac_skip ?_
        refine ac_seq ?_
        refine ac_block ?_
        refine ac_seq ?_
        have hjx : j < (nd p w).length := by omega
        obtain ⟨bx, ox, eAn, hbx, hcellx⟩ := hsn.link_at hjx
        subst eAn
        have hcellx3 := leH3.cells hbx hcellx
        obtain ⟨x, hx⟩ : ∃ x, x = (nd p w)[j] := ⟨_, rfl⟩
        rw [← hx] at hcellx hcellx3
        obtain ⟨hx0, hx1, hx2, hx3⟩ := ht.costN w x (by rw [hx]; exact List.getElem_mem hjx)
        have hnext := filterMap_next (g := rowOne f p w r) hjx
        rw [← hx] at hnext
        refine ac_region (by kernel_rfl) ?_
        refine aops_val (av_fieldOff (off := 0) (by first | assumption | rfl) Try.underlying29 (by first | assumption | rfl) inf27.size (by decide) (by first | assumption | rfl)) ?_
        refine aops_val (av_load1 rfl Try.underlying27 rfl t_cell) ?_
        first | refine aops_val (av_move_int (by first | assumption | rfl)) ?_ | refine aops_val (av_move (by first | assumption | rfl)) ?_
        refine aops_val (av_indexAddr rfl rfl Try.underlying27 inf50.size t_idx t_idx) ?_
        refine aops_val (av_load1 rfl Try.underlying50 rfl t_cell) ?_
        first | refine aops_val (av_move_int (by first | assumption | rfl)) ?_ | refine aops_val (av_move (by first | assumption | rfl)) ?_
        refine aops_val (av_indexAddr rfl rfl Try.underlying50 inf54.size t_idx t_idx) ?_
        refine aops_val (av_loadN (cs := [.int .i64 _, .int .i64 _, .int .i64 _, .int .u64 _]) rfl Try.underlying54 rfl inf54.size t_cells) ?_
        refine aops_make (am_zero (l := [.int .i64 0, .int .i64 0, .int .i64 0, .int .u64 0]) inf54.zero rfl (by decide)) ?_
        first | refine aops_op (aop_putN (vs := [.int .i64 _, .int .i64 _, .int .i64 _, .int .u64 _]) rfl rfl inf54.size t_get t_room rfl rfl ?_)
        refine ac_seq ?_
        obtain ⟨H4, hH4⟩ : ∃ H4, H4 = (H3.push (.own 0 [.int .i64 0, .int .i64 0, .int .i64 0, .int .u64 0])).put H3.size (.own 0 [.int .i64 x.a, .int .i64 x.b, .int .i64 x.cost, .int .u64 x.n]) := ⟨_, rfl⟩
        obtain ⟨G4, hG4⟩ : ∃ G4, G4 = (G3.push (.own 0 [.int .i64 0, .int .i64 0, .int .i64 0, .int .u64 0])).put H3.size (.own 0 [.int .i64 x.a, .int .i64 x.b, .int .i64 x.cost, .int .u64 x.n]) := ⟨_, rfl⟩
        have hown4 : OwnP kRow G4 H4 (.slice B3 rows3.length c53) rows3 := by rw [hH4, hG4]; exact hown3.boxed _ _
        have hle4 : H1.le G4 := by rw [hG4]; exact Hp.le_put_new (Hp.le_push' hle3 _) (by omega) _
        have g24 : H4.get H3.size = .own 0 [.int .i64 x.a, .int .i64 x.b, .int .i64 x.cost, .int .u64 x.n] := by rw [hH4]; exact Hp.put_same _ _ _
        have hz4 : H4.size = H3.size + 1 := by rw [hH4]; simp
        change ACode true _ _ _ _ _ ((H3.push (.own 0 [.int .i64 0, .int .i64 0, .int .i64 0, .int .u64 0])).put H3.size (.own 0 [.int .i64 x.a, .int .i64 x.b, .int .i64 x.cost, .int .u64 x.n]))
        rw [← hH4]
        have hzz4 := hown4.size
        have leH4 := Hp.le_trans hle4 hown4.le
        have g04 := le_got leH4 (by omega) (by intro e; cases e) g0
        have g14 := le_got leH4 (by omega) (by intro e; cases e) g1
        have hcell24 := leH4.cell1 (Nat.lt_of_lt_of_le hb2 leH1.1) hcell2'
        have hcello4 := leH4.cells hbo hcello
        have hcello0 := hcello4 0 _ rfl
        have hcello1 := hcello4 1 _ rfl
        have hcello2 := hcello4 2 _ rfl
        refine ac_draw (by kernel_rfl) (reg_of (B := [0, 1, 0, 4, 3, 31]) (π := [0, 1, 2, 3, 4, 5]) (by kernel_rfl)) ?_
        refine adr_val rfl rfl (av_fieldOff (off := 2) rfl Try.underlying54 rfl inf3.size (by decide) rfl) t_lt ?_
        refine adr_val rfl rfl (av_load1 rfl Try.underlying3 rfl t_cell) t_lt ?_
        refine adr_val rfl rfl (av_fieldOff (off := 3) rfl Try.underlying54 rfl inf42.size (by decide) rfl) t_lt ?_
        refine adr_val rfl rfl (av_load1 rfl Try.underlying42 rfl t_cell) t_lt ?_
        first | refine adr_val rfl rfl (av_assign_int rfl) t_lt ?_ | refine adr_val rfl rfl (av_assign rfl) t_lt ?_
        first | refine adr_val rfl rfl (av_assign_int rfl) t_lt ?_ | refine adr_val rfl rfl (av_assign rfl) t_lt ?_
        refine ac_seq ?_
        refine ac_seq ?_
        refine ac_region (by kernel_rfl) ?_
        refine aops_val (av_fieldOff (off := 2) (by first | assumption | rfl) Try.underlying26 (by first | assumption | rfl) inf23.size (by decide) (by first | assumption | rfl)) ?_
        refine aops_val (av_load1 rfl Try.underlying23 rfl t_cell) ?_
        first | refine aops_val (av_move_int (by first | assumption | rfl)) ?_ | refine aops_val (av_move (by first | assumption | rfl)) ?_
        refine aops_val (av_indexAddr rfl rfl Try.underlying23 inf3.size t_idx t_idx) ?_
        refine aops_val (av_load1 rfl Try.underlying3 rfl t_cell) ?_
        refine aops_val (av_ge rfl rfl) ?_
        refine ac_split rfl rfl ?_ ?_
        · intro hc4
          have hpar : 0 ≤ par f w := of_decide_eq_true hc4
          have hokf := (hg.ok i (by omega)).2.2.2
          rw [hw, Int.toNat_natCast] at hokf
          obtain ⟨q, hq1, hq2, hq3, hq4⟩ := atI_take (xs := f.order) (v := par f w) (i := i) (hokf.resolve_left (by unfold par at hpar; omega))
          have hlo : linkOf f p w r x = findI (lk p w) (r.nodes.getD q 0) x.a := by unfold linkOf; rw [hq1]; rfl
          obtain ⟨bq, oq, eAr, hbq, hcellq⟩ := hwr.int_at (i := (q : Int)) (by omega) (by omega)
          rw [Int.toNat_natCast] at hcellq
          subst eAr
          have hcellq4 := leH4.cell1 hbq hcellq
          have hcell44 := leH4.cell1 hb4 hcell4'
          refine ac_seq ?_
          refine ac_draw (by kernel_rfl) (reg_of (B := [0, 1, 0, 7, 15, 0, 0, 96, 224, 480, 0, 0, 2048, 0, 14336, 30720, 64512, 131040, 262112, 0, 524288, 2097151, 4194303]) (π := [0, 1, 2, 3, 4, 5, 6, 7, 8, 9, 10, 11, 12, 13, 14, 15, 19, 20, 16, 17, 18, 21, 22]) (by kernel_rfl)) ?_
          refine adr_val rfl rfl (av_fieldOff (off := 1) (by first | assumption | rfl) Try.underlying29 (by first | assumption | rfl) inf27.size (by decide) (by first | assumption | rfl)) t_lt ?_
          refine adr_val rfl rfl (av_load1 rfl Try.underlying27 rfl t_cell) t_lt ?_
          first | refine adr_val rfl rfl (av_move_int (by first | assumption | rfl)) t_lt ?_ | refine adr_val rfl rfl (av_move (by first | assumption | rfl)) t_lt ?_
          refine adr_val rfl rfl (av_indexAddr rfl rfl Try.underlying27 inf50.size t_idx t_idx) t_lt ?_
          refine adr_val rfl rfl (av_load1 rfl Try.underlying50 rfl t_cell) t_lt ?_
          first | refine adr_val rfl rfl (av_move_sl (by first | assumption | rfl)) t_lt ?_ | refine adr_val rfl rfl (av_move (by first | assumption | rfl)) t_lt ?_
          first | refine adr_val rfl rfl (av_move_int (by first | assumption | rfl)) t_lt ?_ | refine adr_val rfl rfl (av_move (by first | assumption | rfl)) t_lt ?_
          refine adr_val rfl rfl (av_indexAddr rfl rfl Try.underlying40 inf49.size t_idx t_idx) t_lt ?_
          refine adr_val rfl rfl (av_fieldOff (off := 0) rfl Try.underlying49 rfl inf23.size (by decide) rfl) t_lt ?_
          refine adr_val rfl rfl (av_load1 rfl Try.underlying23 rfl t_cell) t_lt ?_
          first | refine adr_val rfl rfl (av_loadN (cs := [.slice _ _ _, .slice _ _ _, .slice _ _ _, .slice _ _ _, .slice _ _ _]) (by first | assumption | rfl) Try.underlying26 (by first | assumption | rfl) inf26.size t_cells) t_lt ?_ | refine adr_val rfl rfl (av_loadN (cs := [_, _, _, _, _]) (by first | assumption | rfl) Try.underlying26 (by first | assumption | rfl) inf26.size t_cells) t_lt ?_
          refine adr_val rfl rfl (av_fieldOff (off := 2) (by first | assumption | rfl) Try.underlying26 (by first | assumption | rfl) inf23.size (by decide) (by first | assumption | rfl)) t_lt ?_
          refine adr_val rfl rfl (av_load1 rfl Try.underlying23 rfl t_cell) t_lt ?_
          first | refine adr_val rfl rfl (av_move_int (by first | assumption | rfl)) t_lt ?_ | refine adr_val rfl rfl (av_move (by first | assumption | rfl)) t_lt ?_
          refine adr_val rfl rfl (av_indexAddr rfl rfl Try.underlying23 inf3.size t_idx t_idx) t_lt ?_
          refine adr_val rfl rfl (av_load1 rfl Try.underlying3 rfl t_cell) t_lt ?_
          refine adr_val rfl rfl (av_fieldOff (off := 0) rfl Try.underlying54 rfl inf3.size (by decide) rfl) t_lt ?_
          refine adr_val rfl rfl (av_load1 rfl Try.underlying3 rfl t_cell) t_lt ?_
          refine adr_op rfl rfl (aop_call (at_forest f _ _ _ (kForest.mono (Hp.le_trans leH1 leH4).sees hp0) (by omega)) rfl Try.func58 rfl rfl rfl ?_)
          rintro v5 H4 ⟨rfl, rfl⟩; rw [show atI f.order (f.parent.getD w 0) = (q : Int) from hq1]
          refine ⟨t_pend, ?_⟩
          refine adr_val rfl rfl (av_indexAddr rfl rfl Try.underlying23 inf3.size t_idx t_idx) t_lt ?_
          refine adr_val rfl rfl (av_load1 rfl Try.underlying3 rfl t_cell) t_lt ?_
          refine adr_op rfl rfl (aop_call (Find_links (lk p w) _ _ _ _ (hsl.mono leH4.sees) (by omega)) rfl Try.func57 rfl rfl rfl ?_)
          rintro v6 H4 ⟨rfl, rfl⟩
          refine ⟨t_pend, ?_⟩
          first | refine adr_val rfl rfl (av_assign_int rfl) t_lt ?_ | refine adr_val rfl rfl (av_assign rfl) t_lt ?_
          refine ac_seq ?_
          refine ac_seq ?_
          refine ac_region (by kernel_rfl) ?_
          first | refine aops_val (av_move_int rfl) ?_ | refine aops_val (av_move rfl) ?_
          refine aops_val (av_lt rfl rfl) ?_
          refine ac_split rfl rfl ?_ ?_
          · intro hc5
            have hneg : ¬ 0 ≤ linkOf f p w r x := by have := of_decide_eq_true hc5; rw [hlo]; omega
            have hone := rowOne_none hpar hneg
            refine ac_exit ?_
            refine ac_region (by kernel_rfl) ?_
            first | refine aops_val (av_move_int (by first | assumption | rfl)) ?_ | refine aops_val (av_move (by first | assumption | rfl)) ?_
            first | refine aops_val (av_add64 rfl rfl t_fits) ?_ | refine aops_val (av_add rfl rfl) ?_
            first | refine aops_val (av_assign_int rfl) ?_ | refine aops_val (av_assign rfl) ?_
            first
              | (rw [hone] at hnext
                 exact ⟨(nd p w).length - (j + 1), by omega, j + 1, G10, _, A10, c10, by omega, rfl, Hp.le_trans (Hp.le_push' (Hp.le_trans hle4 hle9) _) hle10, by rw [hnext, hrows3]; simp, hown10, e2, e3, e5, e6, rfl, e8, e9, rfl⟩)
              | (rw [hone] at hnext
                 exact ⟨(nd p w).length - (j + 1), by omega, j + 1, G4, rows3, B3, c53, by omega, rfl, hle4, by rw [hnext, hrows3]; simp, hown4, e2, e3, e5, e6, e7, e8, e9, rfl⟩)
          · intro hc5
            have hpos : 0 ≤ findI (lk p w) (r.nodes.getD q 0) x.a := by have := of_decide_eq_false hc5; omega
            obtain ⟨m, hm1, hm2, hm3, hm4⟩ := findI_lt hpos
            rw [hm1] at hlo
            rw [hm1]
            have hone := rowOne_link (r := r) (x := x) hpar hlo hm2
            obtain ⟨bl, ol, eAl, hbl, hcelll⟩ := hsl.link_at hm2
            subst eAl
            have hcelll4 := leH4.cells hbl hcelll
            have hcelll2 := hcelll4 2 _ rfl
            have hcelll3 := hcelll4 3 _ rfl
            obtain ⟨hl0, hl1, hl2, hl3⟩ := ht.costL w (lk p w)[m] (List.getElem_mem hm2)
            refine ac_skip ?_
            refine ac_draw (by kernel_rfl) (reg_of (B := [0, 0, 2, 0, 14, 30, 0, 126, 254, 510, 1023, 0, 0, 4096, 0, 28672, 61440, 0, 258048, 520192, 1044480, 2095104, 4194303, 8388607]) (π := [0, 1, 2, 3, 4, 5, 6, 7, 8, 9, 10, 11, 12, 13, 14, 15, 16, 17, 18, 19, 20, 21, 22, 23]) (by kernel_rfl)) ?_
            first | refine adr_val rfl rfl (av_move_int rfl) t_lt ?_ | refine adr_val rfl rfl (av_move rfl) t_lt ?_
            refine adr_val rfl rfl (av_fieldOff (off := 1) (by first | assumption | rfl) Try.underlying29 (by first | assumption | rfl) inf27.size (by decide) (by first | assumption | rfl)) t_lt ?_
            refine adr_val rfl rfl (av_load1 rfl Try.underlying27 rfl t_cell) t_lt ?_
            first | refine adr_val rfl rfl (av_move_int (by first | assumption | rfl)) t_lt ?_ | refine adr_val rfl rfl (av_move (by first | assumption | rfl)) t_lt ?_
            refine adr_val rfl rfl (av_indexAddr rfl rfl Try.underlying27 inf50.size t_idx t_idx) t_lt ?_
            refine adr_val rfl rfl (av_load1 rfl Try.underlying50 rfl t_cell) t_lt ?_
            first | refine adr_val rfl rfl (av_move_int rfl) t_lt ?_ | refine adr_val rfl rfl (av_move rfl) t_lt ?_
            refine adr_val rfl rfl (av_indexAddr rfl rfl Try.underlying50 inf54.size t_idx t_idx) t_lt ?_
            refine adr_val rfl rfl (av_fieldOff (off := 2) rfl Try.underlying54 rfl inf3.size (by decide) rfl) t_lt ?_
            refine adr_val rfl rfl (av_load1 rfl Try.underlying3 rfl t_cell) t_lt ?_
            first | refine adr_val rfl rfl (av_add64 rfl rfl t_fits) t_lt ?_ | refine adr_val rfl rfl (av_add rfl rfl) t_lt ?_
            first | refine adr_val rfl rfl (av_move_int rfl) t_lt ?_ | refine adr_val rfl rfl (av_move rfl) t_lt ?_
            refine adr_val rfl rfl (av_fieldOff (off := 1) (by first | assumption | rfl) Try.underlying29 (by first | assumption | rfl) inf27.size (by decide) (by first | assumption | rfl)) t_lt ?_
            refine adr_val rfl rfl (av_load1 rfl Try.underlying27 rfl t_cell) t_lt ?_
            first | refine adr_val rfl rfl (av_move_int (by first | assumption | rfl)) t_lt ?_ | refine adr_val rfl rfl (av_move (by first | assumption | rfl)) t_lt ?_
            refine adr_val rfl rfl (av_indexAddr rfl rfl Try.underlying27 inf50.size t_idx t_idx) t_lt ?_
            refine adr_val rfl rfl (av_load1 rfl Try.underlying50 rfl t_cell) t_lt ?_
            first | refine adr_val rfl rfl (av_move_int rfl) t_lt ?_ | refine adr_val rfl rfl (av_move rfl) t_lt ?_
            refine adr_val rfl rfl (av_indexAddr rfl rfl Try.underlying50 inf54.size t_idx t_idx) t_lt ?_
            refine adr_val rfl rfl (av_fieldOff (off := 3) rfl Try.underlying54 rfl inf42.size (by decide) rfl) t_lt ?_
            refine adr_val rfl rfl (av_load1 rfl Try.underlying42 rfl t_cell) t_lt ?_
            refine adr_op rfl rfl (aop_call (timesR_u64 x.n (lk p w)[m].n hx2 hl2 _) rfl Try.func33 rfl rfl rfl ?_)
            rintro v7 H4 ⟨rfl, rfl⟩
            refine ⟨t_pend, ?_⟩
            first | refine adr_val rfl rfl (av_assign_int rfl) t_lt ?_ | refine adr_val rfl rfl (av_assign rfl) t_lt ?_
            first | refine adr_val rfl rfl (av_assign_int rfl) t_lt ?_ | refine adr_val rfl rfl (av_assign rfl) t_lt ?_
            first
              | (obtain ⟨C, hC⟩ : ∃ C, C = x.cost + (lk p w)[m].cost := ⟨_, rfl⟩
                 obtain ⟨N, hN⟩ : ∃ N, N = timesI x.n (lk p w)[m].n := ⟨_, rfl⟩
                 have hC01 : 0 ≤ C ∧ C ≤ 2000000000 := by omega
                 have hN0 : 0 ≤ N := by rw [hN]; exact (timesI_le hx2 hl2).1
                 rw [← hC, ← hN] at hone
                 rw [← hC, ← hN])
              | (obtain ⟨C, hC⟩ : ∃ C, C = x.cost := ⟨_, rfl⟩
                 obtain ⟨N, hN⟩ : ∃ N, N = x.n := ⟨_, rfl⟩
                 have hC01 : 0 ≤ C ∧ C ≤ 2000000000 := by omega
                 have hN0 : 0 ≤ N := by omega
                 have hone := rowOne_flat (p := p) (r := r) (x := x) hpar
                 rw [← hC, ← hN] at hone
                 rw [← hC, ← hN])
            have hsr : r.cost + C ≤ 9223372036854775807 := by omega
            refine ac_draw (by kernel_rfl) (reg_of (B := [0, 0, 0, 0, 12, 28, 60, 126, 0, 256, 768, 2046, 0, 0, 12288, 28672, 61440, 0, 258048, 0, 0, 1572864, 3670016, 7864320, 0, 33034238, 67108862, 134217726, 268435455, 536870911]) (π := [0, 1, 2, 3, 4, 5, 6, 8, 9, 10, 12, 13, 14, 15, 16, 17, 18, 19, 20, 21, 22, 23, 24, 7, 11, 25, 26, 27, 28, 29]) (by kernel_rfl)) ?_
            first | refine adr_val rfl rfl (av_move_sl (by first | assumption | rfl)) t_lt ?_ | refine adr_val rfl rfl (av_move (by first | assumption | rfl)) t_lt ?_
            first | refine adr_make rfl rfl (am_buildSlice (r := []) Try.underlying23 inf3.size inf3.zero rfl (by decide) (by decide) (by decide) rfl) ?_
            first | refine adr_val rfl rfl (av_move_sl (by first | assumption | rfl)) t_lt ?_ | refine adr_val rfl rfl (av_move (by first | assumption | rfl)) t_lt ?_
            first | refine adr_val rfl rfl (av_move_int (by first | assumption | rfl)) t_lt ?_ | refine adr_val rfl rfl (av_move (by first | assumption | rfl)) t_lt ?_
            refine adr_val rfl rfl (av_indexAddr rfl rfl Try.underlying40 inf49.size t_idx t_idx) t_lt ?_
            refine adr_val rfl rfl (av_fieldOff (off := 0) rfl Try.underlying49 rfl inf23.size (by decide) rfl) t_lt ?_
            refine adr_val rfl rfl (av_load1 rfl Try.underlying23 rfl t_cell) t_lt ?_
            refine adr_val rfl rfl (av_fieldOff (off := 0) rfl Try.underlying54 rfl inf3.size (by decide) rfl) t_lt ?_
            refine adr_val rfl rfl (av_load1 rfl Try.underlying3 rfl t_cell) t_lt ?_
            first | refine adr_make rfl rfl (am_buildSlice (r := [.int .i64 _]) Try.underlying23 inf3.size inf3.zero rfl (by decide) (by decide) (by decide) rfl) ?_
            first | refine adr_val rfl rfl (av_move_sl (by first | assumption | rfl)) t_lt ?_ | refine adr_val rfl rfl (av_move (by first | assumption | rfl)) t_lt ?_
            first | refine adr_val rfl rfl (av_move_int (by first | assumption | rfl)) t_lt ?_ | refine adr_val rfl rfl (av_move (by first | assumption | rfl)) t_lt ?_
            refine adr_val rfl rfl (av_indexAddr rfl rfl Try.underlying40 inf49.size t_idx t_idx) t_lt ?_
            refine adr_val rfl rfl (av_fieldOff (off := 1) rfl Try.underlying49 rfl inf3.size (by decide) rfl) t_lt ?_
            refine adr_val rfl rfl (av_load1 rfl Try.underlying3 rfl t_cell) t_lt ?_
            first | refine adr_val rfl rfl (av_move_int rfl) t_lt ?_ | refine adr_val rfl rfl (av_move rfl) t_lt ?_
            first | refine adr_val rfl rfl (av_add64 rfl rfl t_fits) t_lt ?_ | refine adr_val rfl rfl (av_add rfl rfl) t_lt ?_
            first | refine adr_val rfl rfl (av_move_sl (by first | assumption | rfl)) t_lt ?_ | refine adr_val rfl rfl (av_move (by first | assumption | rfl)) t_lt ?_
            first | refine adr_val rfl rfl (av_move_int (by first | assumption | rfl)) t_lt ?_ | refine adr_val rfl rfl (av_move (by first | assumption | rfl)) t_lt ?_
            refine adr_val rfl rfl (av_indexAddr rfl rfl Try.underlying40 inf49.size t_idx t_idx) t_lt ?_
            refine adr_val rfl rfl (av_fieldOff (off := 2) rfl Try.underlying49 rfl inf42.size (by decide) rfl) t_lt ?_
            refine adr_val rfl rfl (av_load1 rfl Try.underlying42 rfl t_cell) t_lt ?_
            first | refine adr_val rfl rfl (av_move_int rfl) t_lt ?_ | refine adr_val rfl rfl (av_move rfl) t_lt ?_
            have o1 := own_lit (kInt .i64) (H := (H4.push (.own 1 [])).push (.own 1 [.int .i64 x.a])) (b := H4.size) (c := 0) (cs := []) (by simp <;> omega) t_get
            have leA : H4.le (((H4.push (.own 1 [])).push (.own 1 [.int .i64 x.a])).put H4.size .dead) := Hp.le_put_new (Hp.le_push' (H4.le_push _) _) (Nat.le_refl _) _
            have hdo4 : H4.get bo ≠ .dead := by rw [leH4.2 bo hbo hdo]; exact hdo
            have hbo4 : bo < H4.size := Nat.lt_of_lt_of_le hbo leH4.1
            refine adr_op rfl rfl (OwnP.append (ys := r.nodes) o1 Try.underlying23 inf3 rfl rfl rfl (hwr.mono (Hp.le_trans leH4 leA).sees) (by simp only [List.length_nil]; omega) (by simp only [List.length_nil]; omega) ?_)
            rintro v7 G7 H7 hle7 hown7
            have hsameO := OwnP.sameO o1 hle7 hown7
            rw [List.nil_append] at hown7
            obtain ⟨A7, c7, rfl⟩ := hown7.shape
            have z7 := hle7.1
            simp only [Hp.put_size, Hp.push_size] at z7
            have z77 := hown7.size
            have g71 : G7.get (H4.size + 1) = .own 1 [.int .i64 x.a] := le_got hle7 (by simp) (by intro e; cases e) t_get
            have le47 : H4.le G7 := Hp.le_trans leA hle7
            have hsame : ∀ b ∈ [bo], H7.get b = ((H4.push (.own 1 [])).push (.own 1 [.int .i64 x.a])).get b := fun b hb => by
              rw [List.mem_singleton] at hb; subst hb
              rw [(Hp.le_trans le47 hown7.le).2 _ hbo4 hdo4, Hp.push_old _ _ (by simp; omega), Hp.push_old _ _ hbo4]
            refine ⟨t_pend, ?_⟩
            clear hsameO hsame
            refine adr_op rfl rfl (OwnP.append (ys := [x.a]) hown7 Try.underlying23 inf3 rfl rfl rfl (sl_lit1 (k := kInt .i64) g71 (show H4.size + 1 < G7.size by omega) rfl rfl) (by simp only [List.length_singleton]; omega) (by simp only [List.length_singleton]; omega) ?_)
            rintro v8 G8 H8 hle8 hown8
            have hsameO := OwnP.sameO hown7 hle8 hown8
            obtain ⟨A8, c8, rfl⟩ := hown8.shape
            have z8 := hle8.1
            have z88 := hown8.size
            have le48 : H4.le H8 := Hp.le_trans le47 (Hp.le_trans hle8 hown8.le)
            have hsame : ∀ b ∈ [bo], H8.get b = H7.get b := fun b hb => by
              rw [List.mem_singleton] at hb; subst hb
              rw [le48.2 _ hbo4 hdo4, (Hp.le_trans le47 hown7.le).2 _ hbo4 hdo4]
            refine ⟨t_pend, ?_⟩
            clear hsameO hsame
            refine adr_op rfl rfl (aop_call (timesR_u64 r.n N hr2 hN0 _) rfl Try.func33 rfl rfl rfl ?_)
            rintro v9 H8 ⟨rfl, rfl⟩
            refine ⟨t_pend, ?_⟩
            first | refine adr_val rfl rfl (av_build (pl := [(0, 1), (1, 1), (2, 1)]) (r := [.slice _ _ _, .int .i64 _, .int .u64 _]) Try.underlying49 inf49.zero (by decide) rfl rfl) t_lt ?_ | refine adr_val rfl rfl (av_build (pl := [(0, 1), (1, 1), (2, 1)]) (r := [_, .int .i64 _, .int .u64 _]) Try.underlying49 inf49.zero (by decide) rfl rfl) t_lt ?_
            first | refine adr_make rfl rfl (am_buildSlice (r := [.slice _ _ _, .int .i64 _, .int .u64 _]) Try.underlying40 inf49.size inf49.zero rfl (by decide) (by decide) (by decide) rfl) ?_ | refine adr_make rfl rfl (am_buildSlice (r := [_, .int .i64 _, .int .u64 _]) Try.underlying40 inf49.size inf49.zero rfl (by decide) (by decide) (by decide) rfl) ?_
            obtain ⟨G9, hle9, hown9, htr⟩ := hown4.stays le48
            have hnodes := htr (kInt .i64) _ _ (plain_int _) (by decide) hown8.sl
            have z99 := hown9.size
            refine adr_op rfl rfl (OwnP.append (ys := [⟨r.nodes ++ [x.a], r.cost + C, timesI r.n N⟩]) (hown9.push _) Try.underlying40 inf49 rfl rfl rfl (sl_one (k := kRow) ⟨_, rfl, hnodes⟩ rfl hown9.size rfl) (by simp only [List.length_singleton]; omega) (by simp only [List.length_singleton]; omega) ?_)
            rintro v10 G10 H10 hle10 hown10
            obtain ⟨A10, c10, e10⟩ := hown10.shape
            subst e10
            refine ⟨t_pend, ?_⟩
            first | refine adr_val rfl rfl (av_assign_sl rfl) t_lt ?_ | refine adr_val rfl rfl (av_assign rfl) t_lt ?_
            refine ac_region (by kernel_rfl) ?_
            first | refine aops_val (av_move_int (by first | assumption | rfl)) ?_ | refine aops_val (av_move (by first | assumption | rfl)) ?_
            first | refine aops_val (av_add64 rfl rfl t_fits) ?_ | refine aops_val (av_add rfl rfl) ?_
            first | refine aops_val (av_assign_int rfl) ?_ | refine aops_val (av_assign rfl) ?_
            first
              | (rw [hone] at hnext
                 exact ⟨(nd p w).length - (j + 1), by omega, j + 1, G10, _, A10, c10, by omega, rfl, Hp.le_trans (Hp.le_push' (Hp.le_trans hle4 hle9) _) hle10, by rw [hnext, hrows3]; simp, hown10, e2, e3, e5, e6, rfl, e8, e9, rfl⟩)
              | (rw [hone] at hnext
                 exact ⟨(nd p w).length - (j + 1), by omega, j + 1, G4, rows3, B3, c53, by omega, rfl, hle4, by rw [hnext, hrows3]; simp, hown4, e2, e3, e5, e6, e7, e8, e9, rfl⟩)
        · intro hc4
          have hpar : ¬ 0 ≤ par f w := of_decide_eq_false hc4
          refine ac_skip ?_
          first
            | (obtain ⟨C, hC⟩ : ∃ C, C = x.cost + (lk p w)[m].cost := ⟨_, rfl⟩
               obtain ⟨N, hN⟩ : ∃ N, N = timesI x.n (lk p w)[m].n := ⟨_, rfl⟩
               have hC01 : 0 ≤ C ∧ C ≤ 2000000000 := by omega
               have hN0 : 0 ≤ N := by rw [hN]; exact (timesI_le hx2 hl2).1
               rw [← hC, ← hN] at hone
               rw [← hC, ← hN])
            | (obtain ⟨C, hC⟩ : ∃ C, C = x.cost := ⟨_, rfl⟩
               obtain ⟨N, hN⟩ : ∃ N, N = x.n := ⟨_, rfl⟩
               have hC01 : 0 ≤ C ∧ C ≤ 2000000000 := by omega
               have hN0 : 0 ≤ N := by omega
               have hone := rowOne_flat (p := p) (r := r) (x := x) hpar
               rw [← hC, ← hN] at hone
               rw [← hC, ← hN])
          have hsr : r.cost + C ≤ 9223372036854775807 := by omega
          refine ac_draw (by kernel_rfl) (reg_of (B := [0, 0, 0, 0, 12, 28, 60, 126, 0, 256, 768, 2046, 0, 0, 12288, 28672, 61440, 0, 258048, 0, 0, 1572864, 3670016, 7864320, 0, 33034238, 67108862, 134217726, 268435455, 536870911]) (π := [0, 1, 2, 3, 4, 5, 6, 8, 9, 10, 12, 13, 14, 15, 16, 17, 18, 19, 20, 21, 22, 23, 24, 7, 11, 25, 26, 27, 28, 29]) (by kernel_rfl)) ?_
          first | refine adr_val rfl rfl (av_move_sl (by first | assumption | rfl)) t_lt ?_ | refine adr_val rfl rfl (av_move (by first | assumption | rfl)) t_lt ?_
          first | refine adr_make rfl rfl (am_buildSlice (r := []) Try.underlying23 inf3.size inf3.zero rfl (by decide) (by decide) (by decide) rfl) ?_
          first | refine adr_val rfl rfl (av_move_sl (by first | assumption | rfl)) t_lt ?_ | refine adr_val rfl rfl (av_move (by first | assumption | rfl)) t_lt ?_
          first | refine adr_val rfl rfl (av_move_int (by first | assumption | rfl)) t_lt ?_ | refine adr_val rfl rfl (av_move (by first | assumption | rfl)) t_lt ?_
          refine adr_val rfl rfl (av_indexAddr rfl rfl Try.underlying40 inf49.size t_idx t_idx) t_lt ?_
          refine adr_val rfl rfl (av_fieldOff (off := 0) rfl Try.underlying49 rfl inf23.size (by decide) rfl) t_lt ?_
          refine adr_val rfl rfl (av_load1 rfl Try.underlying23 rfl t_cell) t_lt ?_
          refine adr_val rfl rfl (av_fieldOff (off := 0) rfl Try.underlying54 rfl inf3.size (by decide) rfl) t_lt ?_
          refine adr_val rfl rfl (av_load1 rfl Try.underlying3 rfl t_cell) t_lt ?_
          first | refine adr_make rfl rfl (am_buildSlice (r := [.int .i64 _]) Try.underlying23 inf3.size inf3.zero rfl (by decide) (by decide) (by decide) rfl) ?_
          first | refine adr_val rfl rfl (av_move_sl (by first | assumption | rfl)) t_lt ?_ | refine adr_val rfl rfl (av_move (by first | assumption | rfl)) t_lt ?_
          first | refine adr_val rfl rfl (av_move_int (by first | assumption | rfl)) t_lt ?_ | refine adr_val rfl rfl (av_move (by first | assumption | rfl)) t_lt ?_
          refine adr_val rfl rfl (av_indexAddr rfl rfl Try.underlying40 inf49.size t_idx t_idx) t_lt ?_
          refine adr_val rfl rfl (av_fieldOff (off := 1) rfl Try.underlying49 rfl inf3.size (by decide) rfl) t_lt ?_
          refine adr_val rfl rfl (av_load1 rfl Try.underlying3 rfl t_cell) t_lt ?_
          first | refine adr_val rfl rfl (av_move_int rfl) t_lt ?_ | refine adr_val rfl rfl (av_move rfl) t_lt ?_
          first | refine adr_val rfl rfl (av_add64 rfl rfl t_fits) t_lt ?_ | refine adr_val rfl rfl (av_add rfl rfl) t_lt ?_
          first | refine adr_val rfl rfl (av_move_sl (by first | assumption | rfl)) t_lt ?_ | refine adr_val rfl rfl (av_move (by first | assumption | rfl)) t_lt ?_
          first | refine adr_val rfl rfl (av_move_int (by first | assumption | rfl)) t_lt ?_ | refine adr_val rfl rfl (av_move (by first | assumption | rfl)) t_lt ?_
          refine adr_val rfl rfl (av_indexAddr rfl rfl Try.underlying40 inf49.size t_idx t_idx) t_lt ?_
          refine adr_val rfl rfl (av_fieldOff (off := 2) rfl Try.underlying49 rfl inf42.size (by decide) rfl) t_lt ?_
          refine adr_val rfl rfl (av_load1 rfl Try.underlying42 rfl t_cell) t_lt ?_
          first | refine adr_val rfl rfl (av_move_int rfl) t_lt ?_ | refine adr_val rfl rfl (av_move rfl) t_lt ?_
          have o1 := own_lit (kInt .i64) (H := (H4.push (.own 1 [])).push (.own 1 [.int .i64 x.a])) (b := H4.size) (c := 0) (cs := []) (by simp <;> omega) t_get
          have leA : H4.le (((H4.push (.own 1 [])).push (.own 1 [.int .i64 x.a])).put H4.size .dead) := Hp.le_put_new (Hp.le_push' (H4.le_push _) _) (Nat.le_refl _) _
          have hdo4 : H4.get bo ≠ .dead := by rw [leH4.2 bo hbo hdo]; exact hdo
          have hbo4 : bo < H4.size := Nat.lt_of_lt_of_le hbo leH4.1
          refine adr_op rfl rfl (OwnP.append (ys := r.nodes) o1 Try.underlying23 inf3 rfl rfl rfl (hwr.mono (Hp.le_trans leH4 leA).sees) (by simp only [List.length_nil]; omega) (by simp only [List.length_nil]; omega) ?_)
          rintro v7 G7 H7 hle7 hown7
          have hsameO := OwnP.sameO o1 hle7 hown7
          rw [List.nil_append] at hown7
          obtain ⟨A7, c7, rfl⟩ := hown7.shape
          have z7 := hle7.1
          simp only [Hp.put_size, Hp.push_size] at z7
          have z77 := hown7.size
          have g71 : G7.get (H4.size + 1) = .own 1 [.int .i64 x.a] := le_got hle7 (by simp) (by intro e; cases e) t_get
          have le47 : H4.le G7 := Hp.le_trans leA hle7
          have hsame : ∀ b ∈ [bo], H7.get b = ((H4.push (.own 1 [])).push (.own 1 [.int .i64 x.a])).get b := fun b hb => by
            rw [List.mem_singleton] at hb; subst hb
            rw [(Hp.le_trans le47 hown7.le).2 _ hbo4 hdo4, Hp.push_old _ _ (by simp; omega), Hp.push_old _ _ hbo4]
          refine ⟨t_pend, ?_⟩
          clear hsameO hsame
          refine adr_op rfl rfl (OwnP.append (ys := [x.a]) hown7 Try.underlying23 inf3 rfl rfl rfl (sl_lit1 (k := kInt .i64) g71 (show H4.size + 1 < G7.size by omega) rfl rfl) (by simp only [List.length_singleton]; omega) (by simp only [List.length_singleton]; omega) ?_)
          rintro v8 G8 H8 hle8 hown8
          have hsameO := OwnP.sameO hown7 hle8 hown8
          obtain ⟨A8, c8, rfl⟩ := hown8.shape
          have z8 := hle8.1
          have z88 := hown8.size
          have le48 : H4.le H8 := Hp.le_trans le47 (Hp.le_trans hle8 hown8.le)
          have hsame : ∀ b ∈ [bo], H8.get b = H7.get b := fun b hb => by
            rw [List.mem_singleton] at hb; subst hb
            rw [le48.2 _ hbo4 hdo4, (Hp.le_trans le47 hown7.le).2 _ hbo4 hdo4]
          refine ⟨t_pend, ?_⟩
          clear hsameO hsame
          refine adr_op rfl rfl (aop_call (timesR_u64 r.n N hr2 hN0 _) rfl Try.func33 rfl rfl rfl ?_)
          rintro v9 H8 ⟨rfl, rfl⟩
          refine ⟨t_pend, ?_⟩
          first | refine adr_val rfl rfl (av_build (pl := [(0, 1), (1, 1), (2, 1)]) (r := [.slice _ _ _, .int .i64 _, .int .u64 _]) Try.underlying49 inf49.zero (by decide) rfl rfl) t_lt ?_ | refine adr_val rfl rfl (av_build (pl := [(0, 1), (1, 1), (2, 1)]) (r := [_, .int .i64 _, .int .u64 _]) Try.underlying49 inf49.zero (by decide) rfl rfl) t_lt ?_
          first | refine adr_make rfl rfl (am_buildSlice (r := [.slice _ _ _, .int .i64 _, .int .u64 _]) Try.underlying40 inf49.size inf49.zero rfl (by decide) (by decide) (by decide) rfl) ?_ | refine adr_make rfl rfl (am_buildSlice (r := [_, .int .i64 _, .int .u64 _]) Try.underlying40 inf49.size inf49.zero rfl (by decide) (by decide) (by decide) rfl) ?_
          obtain ⟨G9, hle9, hown9, htr⟩ := hown4.stays le48
          have hnodes := htr (kInt .i64) _ _ (plain_int _) (by decide) hown8.sl
          have z99 := hown9.size
          refine adr_op rfl rfl (OwnP.append (ys := [⟨r.nodes ++ [x.a], r.cost + C, timesI r.n N⟩]) (hown9.push _) Try.underlying40 inf49 rfl rfl rfl (sl_one (k := kRow) ⟨_, rfl, hnodes⟩ rfl hown9.size rfl) (by simp only [List.length_singleton]; omega) (by simp only [List.length_singleton]; omega) ?_)
          rintro v10 G10 H10 hle10 hown10
          obtain ⟨A10, c10, e10⟩ := hown10.shape
          subst e10
          refine ⟨t_pend, ?_⟩
          first | refine adr_val rfl rfl (av_assign_sl rfl) t_lt ?_ | refine adr_val rfl rfl (av_assign rfl) t_lt ?_
          refine ac_region (by kernel_rfl) ?_
          first | refine aops_val (av_move_int (by first | assumption | rfl)) ?_ | refine aops_val (av_move (by first | assumption | rfl)) ?_
          first | refine aops_val (av_add64 rfl rfl t_fits) ?_ | refine aops_val (av_add rfl rfl) ?_
          first | refine aops_val (av_assign_int rfl) ?_ | refine aops_val (av_assign rfl) ?_
          first
            | (rw [hone] at hnext
               exact ⟨(nd p w).length - (j + 1), by omega, j + 1, G10, _, A10, c10, by omega, rfl, Hp.le_trans (Hp.le_push' (Hp.le_trans hle4 hle9) _) hle10, by rw [hnext, hrows3]; simp, hown10, e2, e3, e5, e6, rfl, e8, e9, rfl⟩)
            | (rw [hone] at hnext
               exact ⟨(nd p w).length - (j + 1), by omega, j + 1, G4, rows3, B3, c53, by omega, rfl, hle4, by rw [hnext, hrows3]; simp, hown4, e2, e3, e5, e6, e7, e8, e9, rfl⟩)
      · intro hc3
        (try simp only [decide_eq_true_eq, decide_eq_false_iff_not, Bool.not_eq_true', Bool.not_eq_false'] at hc3)
        refine ac_exit ?_
        refine ac_region (by kernel_rfl) ?_
        first | refine aops_val (av_move_int (by first | assumption | rfl)) ?_ | refine aops_val (av_move (by first | assumption | rfl)) ?_
        first | refine aops_val (av_add64 rfl rfl t_fits) ?_ | refine aops_val (av_add rfl rfl) ?_
        first | refine aops_val (av_assign_int rfl) ?_ | refine aops_val (av_assign rfl) ?_
        have hj2 : (nd p w).take j = nd p w := List.take_of_length_le (by omega)
        rw [hj2] at hrows3
        exact ⟨(rowsK f p i).length - (k + 1), by omega, k + 1, G3, rows3, B3, c53, by omega, rfl, hle3, by rw [flatMap_next hkx, ← hrows, ← hr]; exact hrows3, hown3, e2, e3, e5, e6, e7, e8, rfl⟩
    · intro hc2
      (try simp only [decide_eq_true_eq, decide_eq_false_iff_not, Bool.not_eq_true', Bool.not_eq_false'] at hc2)
      refine ac_exit ?_
      refine ac_region (by kernel_rfl) ?_
      first | refine aops_val (av_move_sl (by first | assumption | rfl)) ?_ | refine aops_val (av_move (by first | assumption | rfl)) ?_
      first | refine aops_val (av_assign_sl rfl) ?_ | refine aops_val (av_assign rfl) ?_
      refine ac_region (by kernel_rfl) ?_
      first | refine aops_val (av_move_int (by first | assumption | rfl)) ?_ | refine aops_val (av_move (by first | assumption | rfl)) ?_
      first | refine aops_val (av_add64 rfl rfl t_fits) ?_ | refine aops_val (av_add rfl rfl) ?_
      first | refine aops_val (av_assign_int rfl) ?_ | refine aops_val (av_assign rfl) ?_
      have hk2 : (rowsK f p i).take k = rowsK f p i := List.take_of_length_le (by omega)
      rw [hk2] at hrows
      have hnew : rows = rowsK f p (i + 1) := by rw [hrows]; show _ = (rowsK f p i).flatMap _; rw [hvat]
      subst hnew
      exact ⟨f.order.length - (i + 1), by omega, i + 1, B, c5, by omega, rfl, Hp.le_trans hle1 leH2, hown2.sl, e2, e3, rfl, rfl⟩
  · intro hc1
    (try simp only [decide_eq_true_eq, decide_eq_false_iff_not, Bool.not_eq_true', Bool.not_eq_false'] at hc1)
    refine ac_exit ?_
    refine ac_seq ?_
    refine ac_region (by kernel_rfl) ?_
    first | refine aops_val (av_move_sl (by first | assumption | rfl)) ?_ | refine aops_val (av_move (by first | assumption | rfl)) ?_
    first | refine aops_val (av_assign_sl rfl) ?_ | refine aops_val (av_assign rfl) ?_
    refine ac_ret ?_
    have hk : i = f.order.length := by omega
    subst hk
    exact ⟨_, aresult1 (ares_tmp rfl), leH1, hso⟩
end Go.Proofs.Ytcaeoebphfjfiaa.Am


/- The nodes and links that are in rows, by the document's words. -/
namespace Go.Proofs.Ytcaeoebphfjfiaa.Am
open Go Go.RowKit
set_option maxRecDepth 100000
set_option linter.unusedVariables false
set_option linter.unusedSimpArgs false

def nodeAt (f : Forest) (r : RowT) (v : Int) : Int := r.nodes.getD (atI f.order v).toNat 0
def nodeIn (f : Forest) (rows : List RowT) (v : Nat) (x : Link) : Bool := rows.any fun r => decide (nodeAt f r v = x.a)
def linkIn (f : Forest) (rows : List RowT) (v : Nat) (x : Link) : Bool := rows.any fun r => decide (nodeAt f r v = x.b) && decide (nodeAt f r (par f v) = x.a)
def ofNodes (f : Forest) (p : Parts) (rows : List RowT) (v : Nat) : List Link := (nd p v).filter (nodeIn f rows v)
def ofLinks (f : Forest) (p : Parts) (rows : List RowT) (v : Nat) : List Link := (lk p v).filter (linkIn f rows v)
def ofTo (f : Forest) (p : Parts) (rows : List RowT) (k : Nat) : Parts := ⟨(List.range k).map (ofNodes f p rows), (List.range k).map (ofLinks f p rows)⟩
def refOf (f : Forest) (p : Parts) : Parts := ofTo f p (rowsP f p) f.vars.length
theorem OwnP.get_new {α : Type} {k : Kd α} {G H G' H' : Hp} {v : Value} {xs ys : List α} (h0 : OwnP k G H v xs) (h : OwnP k G' H' v ys) {c : Nat} (hc : G.size ≤ c) : G'.get c = H'.get c := by
  rcases h with ⟨rfl, rfl, rfl⟩ | ⟨b, cs, d, rfl, hb, hd, rfl, _⟩
  · rfl
  · rcases h0 with ⟨h, _⟩ | ⟨b', cs', d', e, hb', _⟩
    · cases h
    · simp only [Value.slice.injEq, Option.some.injEq, Addr.mk.injEq, and_true] at e
      obtain ⟨rfl, _⟩ := e
      rw [Hp.put_other _ _ (by omega)]
theorem OwnP.under {α β : Type} {k : Kd α} {k' : Kd β} {G H : Hp} {v r : Value} {xs : List α} {ys : List β} (h : OwnP k G H v xs) (hk : ∀ (H H' : Hp) x cs, k'.rep H x cs → k'.rep H' x cs) (hne : k.sz ≠ k'.sz) (hs : Sl k' H r ys) : Sl k' G r ys := by
  rcases h with ⟨rfl, rfl, rfl⟩ | ⟨b, cs, d, rfl, hb, hd, rfl, _⟩
  · exact hs
  · have := hs.put_odd hk (b1 := b) (st := k.sz) (cs := cs) (Hp.put_same _ _ _) hne .dead
    rwa [Hp.put_put, Hp.put_self _ hd] at this
end Go.Proofs.Ytcaeoebphfjfiaa.Am


/- Rows in plain words: which lists of nodes are a row; that what was reduced has the same rows; that each of its nodes and links is in some row. -/
namespace Go.Proofs.Ytcaeoebphfjfiaa.Am
open Go Go.RowKit
set_option maxRecDepth 100000
set_option linter.unusedVariables false
set_option linter.unusedSimpArgs false

/-- A variable's place. -/
def posOf (f : Forest) (v : Int) : Nat := (atI f.order v).toNat
theorem GoodF.vAt_lt {f : Forest} (h : GoodF f) {s : Nat} (hs : s < f.vars.length) : vAt f s < f.vars.length ∧ ((vAt f s : Nat) : Int) = f.order.getD s 0 := by
  have h1 := h.ok s hs
  have h2 := h1.1
  have h3 := h1.2.1
  unfold vAt
  omega
theorem GoodF.pos_vAt {f : Forest} (h : GoodF f) {s : Nat} (hs : s < f.vars.length) : posOf f (vAt f s) = s := by
  have hl := h.l1
  rw [(h.vAt_lt hs).2]
  unfold posOf
  have h1 := (h.ok s hs).2.2.1
  rw [atI_some (i := s) (by omega) (by rw [getD_at (by omega)]) h1]; rfl
theorem GoodF.pos_par {f : Forest} (h : GoodF f) {s : Nat} (hs : s < f.vars.length) (hp : 0 ≤ par f (vAt f s)) : posOf f (par f (vAt f s)) < s ∧ ((vAt f (posOf f (par f (vAt f s))) : Nat) : Int) = par f (vAt f s) := by
  have h1 := (h.ok s hs).2.2.2
  have h2 : (f.order.getD s 0).toNat = vAt f s := rfl
  rw [h2] at h1
  obtain ⟨q, hq1, hq2, hq3, hq4⟩ := atI_take (xs := f.order) (v := par f (vAt f s)) (i := s) (h1.resolve_left (by unfold par at hp; omega))
  have hq : posOf f (par f (vAt f s)) = q := by unfold posOf; rw [hq1]; rfl
  rw [hq]
  refine ⟨hq2, ?_⟩
  rw [(h.vAt_lt (by omega)).2, getD_at hq3, hq4]
theorem GoodF.vAt_pos {f : Forest} (h : GoodF f) {v : Nat} (hv : v < f.vars.length) : posOf f v < f.vars.length ∧ vAt f (posOf f v) = v := by
  have hl := h.l1
  obtain ⟨q, h1, _, h3, h4⟩ := atI_take (xs := f.order) (v := (v : Int)) (i := f.order.length) (by rw [List.take_length]; exact h.in_order hv)
  have hq : posOf f v = q := by unfold posOf; rw [h1]; rfl
  rw [hq]
  refine ⟨by omega, ?_⟩
  unfold vAt
  rw [getD_at h3, h4]; rfl
/-- The first nodes of a row. -/
def SatAt (f : Forest) (p : Parts) (ns : List Int) (s : Nat) : Prop :=
  ns.getD s 0 ∈ firsts (nd p (vAt f s)) ∧ (0 ≤ par f (vAt f s) → ∃ l ∈ lk p (vAt f s), l.a = ns.getD (posOf f (par f (vAt f s))) 0 ∧ l.b = ns.getD s 0)
def Sat (f : Forest) (p : Parts) (i : Nat) (ns : List Int) : Prop := ns.length = i ∧ ∀ s, s < i → SatAt f p ns s
theorem getD_app {ns : List Int} {a : Int} {s : Nat} (h : s < ns.length) : (ns ++ [a]).getD s 0 = ns.getD s 0 := by
  rw [List.getD_eq_getElem?_getD, List.getD_eq_getElem?_getD, List.getElem?_append_left h]
theorem getD_end {ns : List Int} {a : Int} : (ns ++ [a]).getD ns.length 0 = a := by
  rw [List.getD_eq_getElem?_getD, List.getElem?_append_right (Nat.le_refl _)]; simp
theorem SatAt.app {f : Forest} {p : Parts} {ns : List Int} {a : Int} {s : Nat} (hg : GoodF f) (hs : s < ns.length) (hn : ns.length < f.vars.length) : SatAt f p (ns ++ [a]) s ↔ SatAt f p ns s := by
  unfold SatAt
  rw [getD_app hs]
  constructor
  · intro ⟨h1, h2⟩
    refine ⟨h1, fun hp => ?_⟩
    obtain ⟨l, hl, e1, e2⟩ := h2 hp
    rw [getD_app (by have := (hg.pos_par (by omega) hp).1; omega)] at e1
    exact ⟨l, hl, e1, e2⟩
  · intro ⟨h1, h2⟩
    refine ⟨h1, fun hp => ?_⟩
    obtain ⟨l, hl, e1, e2⟩ := h2 hp
    exact ⟨l, hl, by rw [getD_app (by have := (hg.pos_par (by omega) hp).1; omega)]; exact e1, e2⟩
theorem sat_succ {f : Forest} {p : Parts} {ns : List Int} {a : Int} {i : Nat} (hg : GoodF f) (hl : ns.length = i) (hi : i < f.vars.length) : Sat f p (i + 1) (ns ++ [a]) ↔ Sat f p i ns ∧ SatAt f p (ns ++ [a]) i := by
  subst hl
  constructor
  · intro ⟨h1, h2⟩
    exact ⟨⟨rfl, fun s hs => (SatAt.app hg hs hi).1 (h2 s (by omega))⟩, h2 _ (by omega)⟩
  · intro ⟨⟨_, h1⟩, h2⟩
    refine ⟨by simp, fun s hs => ?_⟩
    rcases Nat.lt_or_ge s ns.length with h | h
    · exact (SatAt.app hg h hi).2 (h1 s h)
    · obtain rfl : s = ns.length := by omega
      exact h2
/-- What one node more makes of a row. -/
theorem rowOne_sat {f : Forest} {p : Parts} {r r' : RowT} {x : Link} {i : Nat} (hg : GoodF f) (hi : i < f.vars.length) (hr : r.nodes.length = i) (hx : x ∈ nd p (vAt f i)) (h : rowOne f p (vAt f i) r x = some r') : r'.nodes = r.nodes ++ [x.a] ∧ SatAt f p r'.nodes i := by
  subst hr
  have hfirst : x.a ∈ firsts (nd p (vAt f r.nodes.length)) := List.mem_map.2 ⟨x, hx, rfl⟩
  unfold rowOne at h
  split at h
  · rename_i hp
    split at h
    · rename_i hlo
      injection h with h
      subst h
      refine ⟨rfl, by rw [getD_end]; exact hfirst, fun _ => ?_⟩
      obtain ⟨l, hl, e1, e2⟩ := findI_ge.1 hlo
      have := (hg.pos_par hi hp).1
      exact ⟨l, hl, by rw [getD_app this]; exact e1, by rw [getD_end]; exact e2⟩
    · cases h
  · rename_i hp
    injection h with h
    subst h
    exact ⟨rfl, by rw [getD_end]; exact hfirst, fun h => absurd h hp⟩
theorem rowOne_some {f : Forest} {p : Parts} {r : RowT} {x : Link} {i : Nat} (hg : GoodF f) (hi : i < f.vars.length) (hr : r.nodes.length = i) (hs : SatAt f p (r.nodes ++ [x.a]) i) : ∃ r', rowOne f p (vAt f i) r x = some r' ∧ r'.nodes = r.nodes ++ [x.a] := by
  subst hr
  unfold rowOne
  by_cases hp : 0 ≤ par f (vAt f r.nodes.length)
  · obtain ⟨l, hl, e1, e2⟩ := hs.2 hp
    rw [getD_app (hg.pos_par hi hp).1] at e1
    rw [getD_end] at e2
    have hlo : 0 ≤ linkOf f p (vAt f r.nodes.length) r x := findI_ge.2 ⟨l, hl, e1, e2⟩
    rw [if_pos hp, if_pos hlo]
    exact ⟨_, rfl, rfl⟩
  · rw [if_neg hp]; exact ⟨_, rfl, rfl⟩
theorem rows_len {f : Forest} {p : Parts} : ∀ (i : Nat), ∀ r ∈ rowsK f p i, r.nodes.length = i
  | 0, r, h => by simp [rowsK] at h; subst h; rfl
  | i + 1, r, h => by
    obtain ⟨r0, h0, h1⟩ := List.mem_flatMap.1 h
    obtain ⟨x, hx, h2⟩ := List.mem_filterMap.1 h1
    have h3 := rows_len i r0 h0
    unfold rowOne at h2
    split at h2
    · split at h2
      · injection h2 with h2; subst h2; simp [h3]
      · cases h2
    · injection h2 with h2; subst h2; simp [h3]
theorem rows_sat {f : Forest} {p : Parts} (hg : GoodF f) : ∀ (i : Nat), i ≤ f.vars.length → ∀ r ∈ rowsK f p i, Sat f p i r.nodes
  | 0, _, r, h => by simp [rowsK] at h; subst h; exact ⟨rfl, fun s hs => by omega⟩
  | i + 1, hi, r, h => by
    obtain ⟨r0, h0, h1⟩ := List.mem_flatMap.1 h
    obtain ⟨x, hx, h2⟩ := List.mem_filterMap.1 h1
    have h3 := rows_len i r0 h0
    obtain ⟨e, hs⟩ := rowOne_sat hg (by omega) h3 hx h2
    rw [e] at hs ⊢
    exact (sat_succ hg h3 (by omega)).2 ⟨rows_sat hg i (by omega) r0 h0, hs⟩
theorem sat_rows {f : Forest} {p : Parts} (hg : GoodF f) : ∀ (i : Nat), i ≤ f.vars.length → ∀ ns, Sat f p i ns → ∃ r ∈ rowsK f p i, r.nodes = ns
  | 0, _, ns, ⟨h, _⟩ => ⟨⟨[], 0, 1⟩, by simp [rowsK], by rw [List.eq_nil_of_length_eq_zero h]⟩
  | i + 1, hi, ns, h => by
    obtain ⟨ns0, a, rfl⟩ : ∃ ns0 a, ns = ns0 ++ [a] := ⟨ns.dropLast, ns.getLast (by intro e; rw [e] at h; have := h.1; simp at this), (List.dropLast_concat_getLast _).symm⟩
    have hl : ns0.length = i := by have := h.1; simp at this; exact this
    obtain ⟨h1, h2⟩ := (sat_succ hg hl (by omega)).1 h
    obtain ⟨r0, h3, h4⟩ := sat_rows hg i (by omega) ns0 h1
    have h5 := h2.1
    rw [← hl, getD_end, hl] at h5
    obtain ⟨x, hx, e⟩ := List.mem_map.1 h5
    subst e
    rw [← h4] at h2 hl
    obtain ⟨r', h6, h7⟩ := rowOne_some hg (by omega) hl h2
    exact ⟨r', List.mem_flatMap.2 ⟨r0, h3, List.mem_filterMap.2 ⟨x, hx, h6⟩⟩, by rw [h7, h4]⟩
theorem Sat.sub {f : Forest} {p q : Parts} {i : Nat} {ns : List Int} (h : Sat f q i ns) (hs : Sub q p) : Sat f p i ns :=
  ⟨h.1, fun s hi => by
    obtain ⟨h1, h2⟩ := h.2 s hi
    refine ⟨?_, fun hp => ?_⟩
    · obtain ⟨x, hx, e⟩ := List.mem_map.1 h1
      exact List.mem_map.2 ⟨x, (hs _).1.subset hx, e⟩
    · obtain ⟨l, hl, e⟩ := h2 hp
      exact ⟨l, (hs _).2.subset hl, e⟩⟩
end Go.Proofs.Ytcaeoebphfjfiaa.Am


/- What was reduced has the same rows, and each of its nodes and links is in some row. -/
namespace Go.Proofs.Ytcaeoebphfjfiaa.Am
open Go Go.RowKit
set_option maxRecDepth 100000
set_option linter.unusedVariables false
set_option linter.unusedSimpArgs false

/-- Whole rows stay, step by step. -/
theorem sat_up {f : Forest} {p : Parts} {w : Nat} {ns : List Int} (hg : GoodF f) (hl : Lens f.vars.length p) (hw : w < f.vars.length) (h : Sat f p f.vars.length ns) : Sat f (upC f p w) f.vars.length ns ∧ Sat f (downC f p w) f.vars.length ns := by
  have hge : -1 ≤ par f w ∧ par f w < f.vars.length := hg.parent_ge hw
  have hu : (par f w).toNat < f.vars.length := by omega
  have hnn : par f w ≠ -1 → 0 ≤ par f w := fun h => by omega
  have hlink : par f w ≠ -1 → ∃ l ∈ left p w (par f w).toNat, l.a = ns.getD (posOf f (par f w)) 0 ∧ l.b = ns.getD (posOf f w) 0 := fun hp => by
    obtain ⟨k1, k2⟩ := hg.vAt_pos hw
    have hp0 : 0 ≤ par f w := hnn hp
    obtain ⟨h1, h2⟩ := h.2 (posOf f w) k1
    rw [k2] at h1 h2
    obtain ⟨l, hl1, e1, e2⟩ := h2 hp0
    have hpn : ((par f w).toNat : Int) = par f w := Int.toNat_of_nonneg hp0
    obtain ⟨k3, k4⟩ := hg.vAt_pos (v := (par f w).toNat) hu
    rw [hpn] at k3 k4
    have h3 := (h.2 _ k3).1
    rw [k4] at h3
    exact ⟨l, left_mem.2 ⟨hl1, by rw [e1]; exact h3, by rw [e2]; exact h1⟩, e1, e2⟩
  constructor
  · refine ⟨h.1, fun s hs => ?_⟩
    obtain ⟨h1, h2⟩ := h.2 s hs
    refine ⟨?_, fun hp => ?_⟩
    · rw [nd_up hl hu]
      split
      · rename_i hc
        obtain ⟨l, hl1, e1, e2⟩ := hlink hc.1
        obtain ⟨x, hx, e⟩ := List.mem_map.1 h1
        refine List.mem_map.2 ⟨x, List.mem_filter.2 ⟨hx, ?_⟩, e⟩
        rw [decide_eq_true_eq, e]
        have hps : posOf f (par f w) = s := by
          have := hg.pos_vAt hs
          rw [hc.2, show ((par f w).toNat : Int) = par f w from Int.toNat_of_nonneg (hnn hc.1)] at this
          exact this
        rw [hps] at e1
        exact List.mem_map.2 ⟨l, hl1, e1⟩
      · exact h1
    · rw [lk_up hl hw]
      split
      · rename_i hc
        obtain ⟨l, hl1, e1, e2⟩ := hlink hc.1
        have hps : posOf f w = s := by rw [← hc.2]; exact hg.pos_vAt hs
        rw [hps] at e2
        exact ⟨l, hl1, by rw [hc.2]; exact e1, e2⟩
      · exact h2 hp
  · refine ⟨h.1, fun s hs => ?_⟩
    obtain ⟨h1, h2⟩ := h.2 s hs
    refine ⟨?_, fun hp => ?_⟩
    · rw [nd_down hl hw]
      split
      · rename_i hc
        obtain ⟨l, hl1, e1, e2⟩ := hlink hc.1
        rw [hc.2] at h1
        obtain ⟨x, hx, e⟩ := List.mem_map.1 h1
        refine List.mem_map.2 ⟨x, List.mem_filter.2 ⟨hx, ?_⟩, e⟩
        rw [decide_eq_true_eq, e]
        have hps : posOf f w = s := by rw [← hc.2]; exact hg.pos_vAt hs
        rw [hps] at e2
        exact List.mem_map.2 ⟨l, hl1, e2⟩
      · exact h1
    · rw [lk_down hl hw]
      split
      · rename_i hc
        obtain ⟨l, hl1, e1, e2⟩ := hlink hc.1
        have hps : posOf f w = s := by rw [← hc.2]; exact hg.pos_vAt hs
        rw [hps] at e2
        exact ⟨l, hl1, by rw [hc.2]; exact e1, e2⟩
      · exact h2 hp
theorem sat_up_fold {f : Forest} {ns : List Int} (hg : GoodF f) : ∀ (vs : List Int) (p : Parts), (∀ v ∈ vs, v.toNat < f.vars.length) → Lens f.vars.length p → Sat f p f.vars.length ns → Sat f (vs.foldl (fun p v => upC f p v.toNat) p) f.vars.length ns
  | [], _, _, _, h => h
  | v :: vs, p, hv, hl, h => sat_up_fold hg vs _ (fun w hw => hv w (by simp [hw])) (hl.up _) (sat_up hg hl (hv v (by simp)) h).1
theorem sat_down_fold {f : Forest} {ns : List Int} (hg : GoodF f) : ∀ (vs : List Int) (p : Parts), (∀ v ∈ vs, v.toNat < f.vars.length) → Lens f.vars.length p → Sat f p f.vars.length ns → Sat f (vs.foldl (fun p v => downC f p v.toNat) p) f.vars.length ns
  | [], _, _, _, h => h
  | v :: vs, p, hv, hl, h => sat_down_fold hg vs _ (fun w hw => hv w (by simp [hw])) (hl.down _) (sat_up hg hl (hv v (by simp)) h).2
theorem sat_ofP {f : Forest} {p : Parts} {ns : List Int} (h : GoodP f p) (hs : Sat f p f.vars.length ns) : Sat f (ofP f p) f.vars.length ns := by
  obtain ⟨k1, k2, k3, k4⟩ := up_all h.gf f.order.reverse [] p rfl h.lens h.nb (fun v hv => by simp at hv)
  have e1 : upP f p = f.order.reverse.foldl (fun p v => upC f p v.toNat) p := k4
  rw [← e1] at k1 k2
  have e2 : downP f (upP f p) = f.order.foldl (fun p v => downC f p v.toNat) (upP f p) := down_fold _ _ (fun v hv => by have := h.gf.order_in hv; omega) k1 (h.nb.sub k2)
  have s1 : Sat f (upP f p) f.vars.length ns := by rw [e1]; exact sat_up_fold h.gf _ _ (fun v hv => by have := h.gf.order_in (List.mem_reverse.1 hv); omega) h.lens hs
  have s2 : Sat f (downP f (upP f p)) f.vars.length ns := by rw [e2]; exact sat_down_fold h.gf _ _ (fun v hv => by have := h.gf.order_in hv; omega) k1 s1
  unfold ofP
  split
  · rename_i hr
    exfalso
    obtain ⟨v, hv, hr2⟩ := List.any_eq_true.1 hr
    have hvv := h.gf.order_in hv
    obtain ⟨m, rfl⟩ : ∃ m : Nat, v = m := ⟨v.toNat, by omega⟩
    obtain ⟨q1, q2⟩ := h.gf.vAt_pos (v := m) (by omega)
    have h3 := (s2.2 _ q1).1
    rw [q2] at h3
    unfold rootless at hr2
    rw [Bool.and_eq_true, decide_eq_true_eq, decide_eq_true_eq, Int.toNat_natCast] at hr2
    rw [show nd (downP f (upP f p)) m = [] from List.eq_nil_of_length_eq_zero hr2.2] at h3
    simp [firsts] at h3
  · exact s2
/-- Nodes that are chosen, each with all above it. -/
def Pinned (f : Forest) (x : Parts) (pin : Nat → Option Int) : Prop := ∀ s a, pin s = some a → s < f.vars.length ∧ a ∈ firsts (nd x (vAt f s)) ∧ (0 ≤ par f (vAt f s) → ∃ l ∈ lk x (vAt f s), pin (posOf f (par f (vAt f s))) = some l.a ∧ l.b = a)
structure Fit (f : Forest) (x : Parts) : Prop where
  gf : GoodF f
  full : ∀ v : Nat, v < f.vars.length → par f v ≠ -1 → Full f x v
  root : ∀ v : Nat, v < f.vars.length → par f v = -1 → nd x v ≠ []
theorem mem_par {f : Forest} {x : Parts} {s : Nat} (hg : GoodF f) (hs : s < f.vars.length) (hp : 0 ≤ par f (vAt f s)) : (par f (vAt f s)).toNat = vAt f (posOf f (par f (vAt f s))) := by
  have := (hg.pos_par hs hp).2; omega
theorem pinned_row {f : Forest} {x : Parts} (hx : Fit f x) {pin : Nat → Option Int} (hpin : Pinned f x pin) : ∀ i, i ≤ f.vars.length → ∃ ns, Sat f x i ns ∧ ∀ s a, s < i → pin s = some a → ns.getD s 0 = a
  | 0, _ => ⟨[], ⟨rfl, fun s hs => by omega⟩, fun s a hs => by omega⟩
  | i + 1, hi => by
    obtain ⟨ns, h1, h2⟩ := pinned_row hx hpin i (by omega)
    have hlen := h1.1
    have key : ∃ a, SatAt f x (ns ++ [a]) i ∧ ∀ a', pin i = some a' → a = a' := by
      have hvl := (hx.gf.vAt_lt (s := i) (by omega)).1
      have hge : -1 ≤ par f (vAt f i) ∧ par f (vAt f i) < f.vars.length := hx.gf.parent_ge hvl
      cases hpi : pin i with
      | some a =>
        obtain ⟨k1, k2, k3⟩ := hpin i a hpi
        refine ⟨a, ⟨by rw [← hlen, getD_end, hlen]; exact k2, fun hp => ?_⟩, fun a' e => by injection e⟩
        obtain ⟨l, hl, e1, e2⟩ := k3 hp
        have hq := (hx.gf.pos_par (by omega) hp).1
        refine ⟨l, hl, ?_, ?_⟩
        · rw [getD_app (by omega)]; exact (h2 _ _ hq e1).symm
        · rw [← hlen, getD_end]; exact e2
      | none =>
        by_cases hp : par f (vAt f i) = -1
        · obtain ⟨y, hy⟩ := List.exists_mem_of_ne_nil _ (hx.root _ hvl hp)
          exact ⟨y.a, ⟨by rw [← hlen, getD_end, hlen]; exact List.mem_map.2 ⟨y, hy, rfl⟩, fun h => by omega⟩, fun a' e => by cases e⟩
        · have hp0 : 0 ≤ par f (vAt f i) := by omega
          have hF := hx.full _ hvl hp
          have hq := (hx.gf.pos_par (by omega) hp0).1
          have h3 := (h1.2 _ hq).1
          rw [← mem_par (x := x) hx.gf (by omega) hp0] at h3
          obtain ⟨y, hy, e⟩ := List.mem_map.1 h3
          obtain ⟨l, hl, e1⟩ := List.mem_map.1 (hF.up y hy)
          refine ⟨l.b, ⟨by rw [← hlen, getD_end, hlen]; exact (hF.ends l hl).2, fun _ => ⟨l, hl, ?_, by rw [← hlen, getD_end]⟩⟩, fun a' e => by cases e⟩
          rw [getD_app (by omega), ← e]; exact e1
    obtain ⟨a, k1, k2⟩ := key
    refine ⟨ns ++ [a], (sat_succ hx.gf hlen (by omega)).2 ⟨h1, k1⟩, fun s a' hs hp => ?_⟩
    rcases Nat.lt_or_ge s i with h | h
    · rw [getD_app (by omega)]; exact h2 s a' h hp
    · obtain rfl : s = i := by omega
      rw [← hlen, getD_end]; exact k2 a' hp
theorem pin_node {f : Forest} {x : Parts} (hx : Fit f x) : ∀ (s0 : Nat), s0 < f.vars.length → ∀ a0 ∈ firsts (nd x (vAt f s0)), ∃ pin, Pinned f x pin ∧ pin s0 = some a0 ∧ ∀ s, s0 < s → pin s = none := by
  intro s0
  induction s0 using Nat.strongRecOn with
  | ind s0 ih =>
    intro hs a0 ha
    have hvl := (hx.gf.vAt_lt hs).1
    have hge : -1 ≤ par f (vAt f s0) ∧ par f (vAt f s0) < f.vars.length := hx.gf.parent_ge hvl
    by_cases hp : par f (vAt f s0) = -1
    · refine ⟨fun s => if s = s0 then some a0 else none, fun s a e => ?_, by simp, fun s h => if_neg (by omega)⟩
      by_cases hss : s = s0
      · subst hss; simp at e; subst e; exact ⟨hs, ha, fun h => by omega⟩
      · simp [hss] at e
    · have hp0 : 0 ≤ par f (vAt f s0) := by omega
      have hF := hx.full _ hvl hp
      have hq := (hx.gf.pos_par hs hp0).1
      obtain ⟨y, hy, e⟩ := List.mem_map.1 ha
      obtain ⟨l, hl, e1⟩ := List.mem_map.1 (hF.down y hy)
      have h3 := (hF.ends l hl).1
      rw [mem_par (x := x) hx.gf hs hp0] at h3
      obtain ⟨pin, k1, k2, k3⟩ := ih _ hq (by omega) l.a h3
      refine ⟨fun s => if s = s0 then some a0 else pin s, fun s a ee => ?_, by simp, fun s h => (if_neg (by omega)).trans (k3 s (by omega))⟩
      by_cases hss : s = s0
      · subst hss
        simp at ee
        subst ee
        exact ⟨hs, ha, fun _ => ⟨l, hl, (if_neg (by omega)).trans k2, by rw [e1]; exact e⟩⟩
      · simp only [hss, if_false] at ee
        obtain ⟨j1, j2, j3⟩ := k1 s a ee
        refine ⟨j1, j2, fun h => ?_⟩
        obtain ⟨l', hl', e3, e4⟩ := j3 h
        refine ⟨l', hl', ?_, e4⟩
        have hsq : ¬ posOf f (par f (vAt f s0)) < s := fun h => by rw [k3 s h] at ee; cases ee
        have := (hx.gf.pos_par j1 h).1
        exact (if_neg (by omega)).trans e3
theorem pin_link {f : Forest} {x : Parts} (hx : Fit f x) {s0 : Nat} (hs : s0 < f.vars.length) (hp : par f (vAt f s0) ≠ -1) {l : Link} (hl : l ∈ lk x (vAt f s0)) : ∃ pin, Pinned f x pin ∧ pin s0 = some l.b ∧ pin (posOf f (par f (vAt f s0))) = some l.a := by
  have hvl := (hx.gf.vAt_lt hs).1
  have hge : -1 ≤ par f (vAt f s0) ∧ par f (vAt f s0) < f.vars.length := hx.gf.parent_ge hvl
  have hp0 : 0 ≤ par f (vAt f s0) := by omega
  have hF := hx.full _ hvl hp
  have hq := (hx.gf.pos_par hs hp0).1
  obtain ⟨h3, h4⟩ := hF.ends l hl
  rw [mem_par (x := x) hx.gf hs hp0] at h3
  obtain ⟨pin, k1, k2, k3⟩ := pin_node hx _ (by omega) l.a h3
  refine ⟨fun s => if s = s0 then some l.b else pin s, fun s a ee => ?_, by simp, (if_neg (by omega)).trans k2⟩
  by_cases hss : s = s0
  · subst hss
    simp at ee
    subst ee
    exact ⟨hs, h4, fun _ => ⟨l, hl, (if_neg (by omega)).trans k2, rfl⟩⟩
  · simp only [hss, if_false] at ee
    obtain ⟨j1, j2, j3⟩ := k1 s a ee
    refine ⟨j1, j2, fun h => ?_⟩
    obtain ⟨l', hl', e3, e4⟩ := j3 h
    refine ⟨l', hl', ?_, e4⟩
    have hsq : ¬ posOf f (par f (vAt f s0)) < s := fun h => by rw [k3 s h] at ee; cases ee
    have := (hx.gf.pos_par j1 h).1
    exact (if_neg (by omega)).trans e3
end Go.Proofs.Ytcaeoebphfjfiaa.Am
