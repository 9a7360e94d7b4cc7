/- Texts that the proof rests on, part 3: lemmas for every heap that is related to a world, no condition beyond each lemma's own. -/
import Derived.Test.YtcaeoebphfjfiaaTn2
import Derived.Test.YtcaeoebphfjfiaaTn1

/- Trees are asked for a link. -/
namespace Go.Proofs.Ytcaeoebphfjfiaa.Am
open Go Go.RowKit
set_option maxRecDepth 100000
set_option linter.unusedVariables false
set_option linter.unusedSimpArgs false

theorem find1_raw (xs : List Link) (A : Option Addr) (c i : Nat) (m : Int) (b1 b2 : Nat) (H : Hp) (h1 : H.cell? b1 0 = some (.slice A xs.length c)) (h2 : H.cell? b2 0 = some (.int .i64 m)) (hs : Sl kLink H (.slice A xs.length c) xs) (hi : i < xs.length) (hb1 : b1 < H.size) (hb2 : b2 < H.size) :
    ACalls Try.prog 82 #[.int .i64 i, .pointer (some ⟨b1, 0, none⟩), .pointer (some ⟨b2, 0, none⟩)] H (fun r _ => r = .bool (decide (m ≤ xs[i].b))) := by
  obtain ⟨b, o, rfl, hb, hcell⟩ := hs.link_at hi
  have hcellb := hcell 1 _ rfl
  refine acalls_of_code Try.func82 rfl rfl rfl (by simp) ?_
  refine ac_seq ?_
  refine ac_region (by kernel_rfl) ?_
  first | refine aops_val (av_assign_bool rfl) ?_ | refine aops_val (av_assign rfl) ?_
  refine ac_seq ?_
  refine ac_draw (by kernel_rfl) (reg_of (B := [0, 0, 3, 7, 15, 0, 63, 127]) (π := [0, 1, 2, 3, 4, 5, 6, 7]) (by kernel_rfl)) ?_
  refine adr_val rfl rfl (av_load1 rfl Try.underlying50 rfl t_cell) t_lt ?_
  first | refine adr_val rfl rfl (av_move_int rfl) t_lt ?_ | refine adr_val rfl rfl (av_move rfl) t_lt ?_
  refine adr_val rfl rfl (av_indexAddr rfl rfl Try.underlying50 inf54.size t_idx t_idx) t_lt ?_
  refine adr_val rfl rfl (av_fieldOff (off := 1) rfl Try.underlying54 rfl inf3.size (by decide) rfl) t_lt ?_
  refine adr_val rfl rfl (av_load1 rfl Try.underlying3 rfl t_cell) t_lt ?_
  refine adr_val rfl rfl (av_load1 rfl Try.underlying3 rfl t_cell) t_lt ?_
  refine adr_val rfl rfl (av_ge rfl rfl) t_lt ?_
  first | refine adr_val rfl rfl (av_assign_bool rfl) t_lt ?_ | refine adr_val rfl rfl (av_assign rfl) t_lt ?_
  refine ac_ret ?_
  exact ⟨_, aresult1 (ares_tmp rfl), rfl⟩
def findB (g : List Link) (node : Int) : Option Link := g.find? fun l => decide (l.b = node)
theorem findB_some {g : List Link} {node : Int} {i : Nat} (hi : i < g.length) (h : g[i].b = node) (hno : ∀ j, j < i → ∀ h : j < g.length, g[j].b ≠ node) : findB g node = some g[i] := by
  unfold findB
  rw [List.find?_eq_some_iff_getElem]
  exact ⟨decide_eq_true h, i, hi, rfl, fun j hj => by simp [hno j hj (by omega)]⟩
theorem findB_none {g : List Link} {node : Int} (h : ∀ l ∈ g, l.b ≠ node) : findB g node = none := by
  unfold findB
  rw [List.find?_eq_none]
  intro l hl
  simp [h l hl]
set_option maxHeartbeats 1000000 in
theorem find_tree {T : TreeT} {v : Value} {H : Hp} (ht : TreeR H v T) (hl : T.parent.length = T.vars.length) (hl2 : T.links.length = T.vars.length) (hx : ∀ l ∈ T.links, l.length ≤ 1000000) (i above node : Int) (hsort : (T.group i above).Pairwise fun x y => x.b < y.b) :
    ACalls Try.prog 60 #[v, .int .i64 i, .int .i64 above, .int .i64 node] H (fun r H' => H.le H' ∧ r = .tuple #[.agg #[.int .i64 ((findB (T.group i above) node).getD dLink).a, .int .i64 ((findB (T.group i above) node).getD dLink).b, .int .i64 ((findB (T.group i above) node).getD dLink).cost, .int .u64 ((findB (T.group i above) node).getD dLink).n], .bool (findB (T.group i above) node).isSome]) := by
  obtain ⟨b0, _, _, _, _, _, hv, _⟩ := id ht
  have hgl := group_len hx i above
  obtain ⟨g, hg⟩ : ∃ g, g = T.group i above := ⟨_, rfl⟩
  rw [← hg] at hgl hsort
  have hmono : ∀ (a b : Nat) (ha : a < g.length) (hb : b < g.length), a < b → g[a].b < g[b].b := fun a b ha hb h => List.pairwise_iff_getElem.1 hsort a b ha hb h
  rw [← hg]
  refine acalls_of_code Try.func60 rfl rfl rfl (by simp) ?_
  refine ac_seq ?_
  refine ac_region (by kernel_rfl) ?_
  refine aops_make (am_box_int rfl) ?_
  refine aops_make (am_zero (l := [.int .i64 0, .int .i64 0, .int .i64 0, .int .u64 0]) inf54.zero rfl (by decide)) ?_
  first | refine aops_val (av_assign_bool rfl) ?_ | refine aops_val (av_assign rfl) ?_
  refine ac_seq ?_
  refine ac_region (by kernel_rfl) ?_
  first | refine aops_val (av_move_ptr rfl) ?_ | refine aops_val (av_move rfl) ?_
  first | refine aops_val (av_move_int rfl) ?_ | refine aops_val (av_move rfl) ?_
  first | refine aops_val (av_move_int rfl) ?_ | refine aops_val (av_move rfl) ?_
  refine aops_op (aop_call (row_tree (ht.mono (Hp.le_push' (H.le_push _) _)) hl hl2 hx i above) rfl Try.func62 rfl rfl rfl ?_)
  rintro v5 H5 ⟨hle5, hs5⟩; change Sl kLink H5 v5 (T.group i above) at hs5; rw [← hg] at hs5; obtain ⟨A5, c5, rfl⟩ := hs5.shape; have hz5 := hle5.1; simp only [Hp.push_size] at hz5
  refine aops_make (am_zero (l := [.slice none 0 0]) inf50.zero rfl (by decide)) ?_
  first | refine aops_op (aop_put1 rfl rfl rfl inf50.size t_get t_room rfl ?_)
  refine ac_seq ?_
  obtain ⟨HS, hHS⟩ : ∃ HS, HS = (H5.push (.own 0 [.slice none 0 0])).put H5.size (.own 0 [.slice A5 g.length c5]) := ⟨_, rfl⟩
  have leS : H5.le HS := by rw [hHS]; exact Hp.le_put_new (H5.le_push _) (Nat.le_refl _) _
  have zS : HS.size = H5.size + 1 := by rw [hHS]; simp
  have leB := Hp.le_trans hle5 leS
  have gn : HS.get H.size = .own 0 [.int .i64 node] := le_got leB (by simp <;> omega) (by intro e; cases e) t_get
  have gz : HS.get (H.size + 1) = .own 0 [.int .i64 0, .int .i64 0, .int .i64 0, .int .u64 0] := le_got leB (by simp <;> omega) (by intro e; cases e) t_get
  have gl : HS.get H5.size = .own 0 [.slice A5 g.length c5] := by rw [hHS]; exact Hp.put_same _ _ _
  have hsS := hs5.mono leS.sees
  have leH : H.le HS := Hp.le_trans (Hp.le_push' (H.le_push _) _) leB
  change ACode true _ _ _ _ _ ((H5.push (.own 0 [.slice none 0 0])).put H5.size (.own 0 [.slice A5 g.length c5]))
  rw [← hHS]
  have c1 : HS.cell? H5.size 0 = some (.slice A5 g.length c5) := cell_own (cs := [.slice A5 g.length c5]) gl
  have c2 : HS.cell? H.size 0 = some (.int .i64 node) := cell_own (cs := [.int .i64 node]) gn
  have call1 : ∀ k, k < g.length → ACalls Try.prog 82 (#[.int .i64 (k : Nat)] ++ #[.pointer (some ⟨H5.size, 0, none⟩), .pointer (some ⟨H.size, 0, none⟩)]) HS (fun r H' => r = .bool (if h : k < g.length then decide (node ≤ g[k].b) else true) ∧ H' = HS) := fun k hk =>
    ACalls.pure (R := fun r => r = .bool (if h : k < g.length then decide (node ≤ g[k].b) else true)) (fun v h => by rw [h]; rfl) ((find1_raw g A5 c5 k node H5.size H.size HS.ro (cell_ro c1) (cell_ro c2) (hsS.mono HS.sees_ro) hk (by show H5.size < HS.size; omega) (by show H.size < HS.size; omega)).mono fun r _ h => by rw [h, dif_pos hk])
  have mono1 : ∀ a b, a ≤ b → b < g.length → (if h : a < g.length then decide (node ≤ g[a].b) else true) = true → (if h : b < g.length then decide (node ≤ g[b].b) else true) = true := fun a b hab hb h => by
    rw [dif_pos (by omega)] at h ⊢
    rcases Nat.lt_or_eq_of_le hab with h1 | h1
    · have := hmono a b (by omega) hb h1
      have := of_decide_eq_true h
      exact decide_eq_true (by omega)
    · subst h1; exact h
  refine ac_region (by kernel_rfl) ?_
  refine aops_val (av_load1 rfl Try.underlying50 rfl t_cell) ?_
  refine aops_val (av_len rfl Try.underlying50) ?_
  refine aops_val (av_makeFunc) ?_
  refine aops_op (aop_call (Search_gen g.length 82 _ #[.pointer (some ⟨H5.size, 0, none⟩), .pointer (some ⟨H.size, 0, none⟩)] (fun k => if h : k < g.length then decide (node ≤ g[k].b) else true) HS Try.func82 rfl rfl call1 mono1 (by omega)) rfl Try.func72 rfl rfl rfl ?_)
  rintro v6 HS ⟨⟨lo, rfl, hlo, hlo1, hlo2⟩, rfl⟩
  first | refine aops_val (av_assign_int rfl) ?_ | refine aops_val (av_assign rfl) ?_
  refine ac_seq ?_
  refine ac_seq ?_
  refine ac_draw (by kernel_rfl) (reg_of (B := [0, 0, 2, 7, 15, 31, 31, 127, 255, 511, 31, 2047, 4095]) (π := [0, 1, 2, 3, 4, 5, 6, 7, 8, 9, 10, 11, 12]) (by kernel_rfl)) ?_
  first | refine adr_val rfl rfl (av_move_int rfl) t_lt ?_ | refine adr_val rfl rfl (av_move rfl) t_lt ?_
  refine adr_val rfl rfl (av_load1 rfl Try.underlying50 rfl t_cell) t_lt ?_
  refine adr_val rfl rfl (av_len rfl Try.underlying50) t_lt ?_
  refine adr_val rfl rfl (av_eq rfl rfl) t_lt ?_
  first | refine adr_val rfl rfl (av_move_bool rfl) t_lt ?_ | refine adr_val rfl rfl (av_move rfl) t_lt ?_
  refine adr_guard rfl rfl rfl rfl ?_ ?_
  · intro hg1
    have heq : lo = g.length := by have := of_decide_eq_true hg1; omega
    have hfb : findB g node = none := findB_none fun l hl => by
      obtain ⟨j, hj, rfl⟩ := List.getElem_of_mem hl
      have := hlo1 j (by omega)
      rw [dif_pos hj] at this
      have := of_decide_eq_false this
      omega
    refine adr_skip rfl (want_no rfl rfl rfl hg1 rfl) ?_
    refine adr_skip rfl (want_no rfl rfl rfl hg1 rfl) ?_
    refine adr_skip rfl (want_no rfl rfl rfl hg1 rfl) ?_
    refine adr_skip rfl (want_no rfl rfl rfl hg1 rfl) ?_
    refine adr_skip rfl (want_no rfl rfl rfl hg1 rfl) ?_
    refine adr_skip rfl (want_no rfl rfl rfl hg1 rfl) ?_
    refine adr_skip rfl (want_no rfl rfl rfl hg1 rfl) ?_
    refine adr_val rfl rfl (av_pick_bool (congrArg Value.bool hg1) rfl) t_lt ?_
    refine ac_cond_true rfl rfl ?_
    refine ac_seq ?_
    refine ac_region (by kernel_rfl) ?_
    refine aops_val (av_build (pl := [(0, 1), (1, 1), (2, 1), (3, 1)]) (r := [.int .i64 _, .int .i64 _, .int .i64 _, .int .u64 _]) Try.underlying54 inf54.zero (by decide) rfl rfl) ?_
    first | refine aops_op (aop_putN (vs := [.int .i64 _, .int .i64 _, .int .i64 _, .int .u64 _]) rfl rfl inf54.size t_get t_room rfl rfl ?_)
    first | refine aops_val (av_assign_bool rfl) ?_ | refine aops_val (av_assign rfl) ?_
    refine ac_ret ?_
    rw [hfb]
    exact ⟨_, aresult2 (ares_cell (by first | assumption | rfl) (aload_agg (cs := [.int .i64 0, .int .i64 0, .int .i64 0, .int .u64 0]) Try.underlying54 rfl inf54.size t_cells)) (ares_tmp rfl), Hp.le_put_new leH (by simp <;> omega) _, rfl⟩
  · intro hg1
    have hlt : lo < g.length := by have := of_decide_eq_false hg1; omega
    obtain ⟨bx, ox, eA, hbx, hcx⟩ := hsS.link_at hlt
    subst eA
    have hcxb := hcx 1 _ rfl
    have hge : node ≤ g[lo].b := by have := hlo2 lo (Nat.le_refl _) hlt; rw [dif_pos hlt] at this; exact of_decide_eq_true this
    have hbelow : ∀ j, j < lo → ∀ h : j < g.length, g[j].b ≠ node := fun j hj h e => by
      have := hlo1 j hj
      rw [dif_pos h] at this
      have := of_decide_eq_false this
      omega
    refine adr_wval rfl (want_yes rfl rfl rfl hg1) rfl (av_load1 rfl Try.underlying50 rfl t_cell) t_lt ?_
    first | refine adr_wval rfl (want_yes rfl rfl rfl hg1) rfl (av_move_int rfl) t_lt ?_ | refine adr_wval rfl (want_yes rfl rfl rfl hg1) rfl (av_move rfl) t_lt ?_
    refine adr_wval rfl (want_yes rfl rfl rfl hg1) rfl (av_indexAddr rfl rfl Try.underlying50 inf54.size t_idx t_idx) t_lt ?_
    refine adr_wval rfl (want_yes rfl rfl rfl hg1) rfl (av_fieldOff (off := 1) rfl Try.underlying54 rfl inf3.size (by decide) rfl) t_lt ?_
    refine adr_wval rfl (want_yes rfl rfl rfl hg1) rfl (av_load1 rfl Try.underlying3 rfl t_cell) t_lt ?_
    refine adr_wval rfl (want_yes rfl rfl rfl hg1) rfl (av_load1 rfl Try.underlying3 rfl t_cell) t_lt ?_
    refine adr_wval rfl (want_yes rfl rfl rfl hg1) rfl (av_ne rfl rfl) t_lt ?_
    refine adr_val rfl rfl (av_pick_bool (congrArg Value.bool hg1) rfl) t_lt ?_
    refine ac_split rfl rfl ?_ ?_
    · intro hc3
      have hne : g[lo].b ≠ node := by have h := hc3; simpa using h
      have hfb : findB g node = none := findB_none fun l hl => by
        obtain ⟨j, hj, rfl⟩ := List.getElem_of_mem hl
        rcases Nat.lt_trichotomy j lo with h | h | h
        · exact hbelow j h hj
        · subst h; exact hne
        · have := hmono lo j hlt hj h; omega
      refine ac_seq ?_
      refine ac_region (by kernel_rfl) ?_
      refine aops_val (av_build (pl := [(0, 1), (1, 1), (2, 1), (3, 1)]) (r := [.int .i64 _, .int .i64 _, .int .i64 _, .int .u64 _]) Try.underlying54 inf54.zero (by decide) rfl rfl) ?_
      first | refine aops_op (aop_putN (vs := [.int .i64 _, .int .i64 _, .int .i64 _, .int .u64 _]) rfl rfl inf54.size t_get t_room rfl rfl ?_)
      first | refine aops_val (av_assign_bool rfl) ?_ | refine aops_val (av_assign rfl) ?_
      refine ac_ret ?_
      rw [hfb]
      exact ⟨_, aresult2 (ares_cell (by first | assumption | rfl) (aload_agg (cs := [.int .i64 0, .int .i64 0, .int .i64 0, .int .u64 0]) Try.underlying54 rfl inf54.size t_cells)) (ares_tmp rfl), Hp.le_put_new leH (by simp <;> omega) _, rfl⟩
    · intro hc3
      have he : g[lo].b = node := by have h := hc3; simpa using h
      have hfb : findB g node = some g[lo] := findB_some hlt he hbelow
      refine ac_skip ?_
      refine ac_seq ?_
      refine ac_region (by kernel_rfl) ?_
      refine aops_val (av_load1 rfl Try.underlying50 rfl t_cell) ?_
      first | refine aops_val (av_move_int rfl) ?_ | refine aops_val (av_move rfl) ?_
      refine aops_val (av_indexAddr rfl rfl Try.underlying50 inf54.size t_idx t_idx) ?_
      refine aops_val (av_loadN (cs := [.int .i64 _, .int .i64 _, .int .i64 _, .int .u64 _]) rfl Try.underlying54 rfl inf54.size t_cells) ?_
      first | refine aops_op (aop_putN (vs := [.int .i64 _, .int .i64 _, .int .i64 _, .int .u64 _]) rfl rfl inf54.size t_get t_room rfl rfl ?_)
      first | refine aops_val (av_assign_bool rfl) ?_ | refine aops_val (av_assign rfl) ?_
      refine ac_ret ?_
      rw [hfb]
      exact ⟨_, aresult2 (ares_cell (by first | assumption | rfl) (aload_agg (cs := [_, _, _, _]) Try.underlying54 rfl inf54.size t_cells)) (ares_tmp rfl), Hp.le_put_new leH (by simp <;> omega) _, rfl⟩
end Go.Proofs.Ytcaeoebphfjfiaa.Am


/- Links with what their second ends cost. -/
namespace Go.Proofs.Ytcaeoebphfjfiaa.Am
open Go Go.RowKit
set_option maxRecDepth 100000
set_option linter.unusedVariables false
set_option linter.unusedSimpArgs false

theorem weighed1_raw (xs : List Link) (A : Option Addr) (c i : Nat) (m : Int) (b1 b2 : Nat) (H : Hp) (h1 : H.cell? b1 0 = some (.slice A xs.length c)) (h2 : H.cell? b2 1 = some (.int .i64 m)) (hs : Sl kLink H (.slice A xs.length c) xs) (hi : i < xs.length) (hb1 : b1 < H.size) (hb2 : b2 < H.size) :
    ACalls Try.prog 79 #[.int .i64 i, .pointer (some ⟨b1, 0, none⟩), .pointer (some ⟨b2, 0, none⟩)] H (fun r _ => r = .bool (decide (m ≤ xs[i].a))) := by
  obtain ⟨b, o, rfl, hb, hcell⟩ := hs.link_at hi
  have hcella := hcell 0 _ rfl
  refine acalls_of_code Try.func79 rfl rfl rfl (by simp) ?_
  refine ac_seq ?_
  refine ac_region (by kernel_rfl) ?_
  first | refine aops_val (av_assign_bool rfl) ?_ | refine aops_val (av_assign rfl) ?_
  refine ac_seq ?_
  refine ac_draw (by kernel_rfl) (reg_of (B := [0, 0, 3, 7, 15, 0, 32, 127, 255]) (π := [0, 1, 2, 3, 4, 5, 6, 7, 8]) (by kernel_rfl)) ?_
  refine adr_val rfl rfl (av_load1 rfl Try.underlying50 rfl t_cell) t_lt ?_
  first | refine adr_val rfl rfl (av_move_int rfl) t_lt ?_ | refine adr_val rfl rfl (av_move rfl) t_lt ?_
  refine adr_val rfl rfl (av_indexAddr rfl rfl Try.underlying50 inf54.size t_idx t_idx) t_lt ?_
  refine adr_val rfl rfl (av_fieldOff (off := 0) rfl Try.underlying54 rfl inf3.size (by decide) rfl) t_lt ?_
  refine adr_val rfl rfl (av_load1 rfl Try.underlying3 rfl t_cell) t_lt ?_
  refine adr_val rfl rfl (av_fieldOff (off := 1) rfl Try.underlying54 rfl inf3.size (by decide) rfl) t_lt ?_
  refine adr_val rfl rfl (av_load1 rfl Try.underlying3 rfl t_cell) t_lt ?_
  refine adr_val rfl rfl (av_ge rfl rfl) t_lt ?_
  first | refine adr_val rfl rfl (av_assign_bool rfl) t_lt ?_ | refine adr_val rfl rfl (av_assign rfl) t_lt ?_
  refine ac_ret ?_
  exact ⟨_, aresult1 (ares_tmp rfl), rfl⟩
theorem av_makeFunc2 {P : Program} {t : Fr} {H : Hp} {d : Option Tmp} {ty : TypeId} {pos : String} {after : Array Edge} {guard : Option (Nat × Bool)} {f : FuncId} {cap : Array Operand} {vs : List Value} (h : cap.toList.map t.eval = vs) : AVal P ⟨d, .makeFunc (.func f) #[] cap, ty, pos, after, guard⟩ t [] H (.func (.func f) #[] vs.toArray) := by
  have := av_makeFunc (P := P) (t := t) (H := H) (d := d) (ty := ty) (pos := pos) (after := after) (guard := guard) (f := f) (first := #[]) (cap := cap)
  rw [h] at this
  exact this
theorem nodeOf_at {ns : List Link} {b : Int} {m : Nat} (hm : m < ns.length) (h : ns[m].a = b) (hno : ∀ j, j < m → ∀ h : j < ns.length, ns[j].a ≠ b) : nodeOf ns b = ns[m] := by
  unfold nodeOf
  have : ns.find? (fun y => decide (y.a = b)) = some ns[m] := by
    rw [List.find?_eq_some_iff_getElem]
    exact ⟨decide_eq_true h, m, hm, rfl, fun j hj => by simp [hno j hj (by omega)]⟩
  rw [this]; rfl
set_option maxHeartbeats 1000000 in
theorem weighed_links (ls ns : List Link) (v u : Value) (H : Hp) (hs : Sl kLink H v ls) (hn : Sl kLink H u ns) (hl : ls.length ≤ 1000000) (hnl : ns.length ≤ 1000000) (hsort : ns.Pairwise fun x y => x.a < y.a) (hin : ∀ l ∈ ls, l.b ∈ firsts ns)
    (hcl : ∀ l ∈ ls, 0 ≤ l.cost ∧ l.cost ≤ 1000000000 ∧ 0 ≤ l.n) (hcn : ∀ l ∈ ns, 0 ≤ l.cost ∧ l.cost ≤ 1000000000 ∧ 0 ≤ l.n) :
    ACalls Try.prog 50 #[v, u] H (fun r H' => ∃ G', H.le G' ∧ OwnP kLink G' H' r (ls.map (weigh ns))) := by
  obtain ⟨A, c, rfl⟩ := hs.shape
  obtain ⟨An, cn, rfl⟩ := hn.shape
  have hmono : ∀ (a b : Nat) (ha : a < ns.length) (hb : b < ns.length), a < b → ns[a].a < ns[b].a := fun a b ha hb h => List.pairwise_iff_getElem.1 hsort a b ha hb h
  refine acalls_of_code Try.func50 rfl rfl rfl (by simp) ?_
  refine ac_seq ?_
  refine ac_region (by kernel_rfl) ?_
  refine aops_make (am_box_sl rfl) ?_
  first | refine aops_val (av_assign_sl rfl) ?_ | refine aops_val (av_assign rfl) ?_
  refine ac_seq ?_
  refine ac_region (by kernel_rfl) ?_
  first | refine aops_val (av_assign_sl rfl) ?_ | refine aops_val (av_assign rfl) ?_
  refine ac_seq ?_
  refine ac_seq ?_
  refine ac_region (by kernel_rfl) ?_
  first | refine aops_val (av_move_sl rfl) ?_ | refine aops_val (av_move rfl) ?_
  refine aops_val (av_len rfl Try.underlying50) ?_
  first | refine aops_val (av_move_int rfl) ?_ | refine aops_val (av_move rfl) ?_
  refine ac_block ?_
  refine ac_loop (fun n t H' => ∃ (i : Nat) (G : Hp) (B : Option Addr) (c5 : Nat), i ≤ ls.length ∧ n = ls.length - i ∧ (H.push (.own 0 [.slice An ns.length cn])).le G ∧ OwnP kLink G H' (.slice B i c5) ((ls.take i).map (weigh ns)) ∧ t 3 = .pointer (some ⟨H.size, 0, none⟩) ∧ t 5 = .slice B i c5 ∧ t 9 = .slice A ls.length c ∧ t 10 = .int .i64 ls.length ∧ t 11 = .int .i64 i) (ls.length) (⟨0, _, _, _, by omega, rfl, Hp.le_refl _, OwnP.nil _ _, rfl, rfl, rfl, rfl, rfl⟩) ?_
  rintro n t H1 ⟨i, G, B, c5, hi, rfl, hle, hown, e3, e5, e9, e10, e11⟩
  have hz := hown.size
  have hz1 := hle.1
  simp only [Hp.push_size] at hz1
  have leH : H.le G := Hp.le_trans (H.le_push _) hle
  have leH1 : H.le H1 := Hp.le_trans leH hown.le
  have kb : G.get H.size = .own 0 [.slice An ns.length cn] := le_got hle (by simp) (by intro e; cases e) t_get
  have hb1 := le_got hown.le (by omega) (by intro e; cases e) kb
  refine ac_seq ?_
  refine ac_region (by kernel_rfl) ?_
  refine aops_val (av_lt (by first | assumption | rfl) (by first | assumption | rfl)) ?_
  refine ac_seq ?_
  refine ac_split rfl rfl ?_ ?_
  · intro hc1
    (try simp only [decide_eq_true_eq, decide_eq_false_iff_not, Bool.not_eq_true', Bool.not_eq_false'] at hc1)
    refine ac_skip ?_
    refine ac_seq ?_
    refine ac_block ?_
    refine ac_seq ?_
    refine ac_region (by kernel_rfl) ?_
    have hix : i < ls.length := by omega
    obtain ⟨b, o, eA, hb, hcell0⟩ := hs.link_at hix
    subst eA
    have hcells := leH1.cells hb hcell0
    obtain ⟨l, hl'⟩ : ∃ l, l = ls[i] := ⟨_, rfl⟩
    rw [← hl'] at hcells
    have hlm : l ∈ ls := by rw [hl']; exact List.getElem_mem hix
    obtain ⟨hl0, hl1, hl2⟩ := hcl l hlm
    obtain ⟨y, hy, hya⟩ := List.mem_map.1 (hin l hlm)
    obtain ⟨j, hj, rfl⟩ := List.getElem_of_mem hy
    refine aops_val (av_indexAddr (by first | assumption | rfl) (by first | assumption | rfl) Try.underlying50 inf54.size t_idx t_idx) ?_
    refine aops_val (av_loadN (cs := [.int .i64 _, .int .i64 _, .int .i64 _, .int .u64 _]) rfl Try.underlying54 rfl inf54.size t_cells) ?_
    refine aops_make (am_zero (l := [.int .i64 0, .int .i64 0, .int .i64 0, .int .u64 0]) inf54.zero rfl (by decide)) ?_
    first | refine aops_op (aop_putN (vs := [.int .i64 _, .int .i64 _, .int .i64 _, .int .u64 _]) rfl rfl inf54.size t_get t_room rfl rfl ?_)
    refine ac_seq ?_
    obtain ⟨H2, hH2⟩ : ∃ H2, H2 = (H1.push (.own 0 [.int .i64 0, .int .i64 0, .int .i64 0, .int .u64 0])).put H1.size (.own 0 [.int .i64 l.a, .int .i64 l.b, .int .i64 l.cost, .int .u64 l.n]) := ⟨_, rfl⟩
    obtain ⟨G2, hG2⟩ : ∃ G2, G2 = (G.push (.own 0 [.int .i64 0, .int .i64 0, .int .i64 0, .int .u64 0])).put H1.size (.own 0 [.int .i64 l.a, .int .i64 l.b, .int .i64 l.cost, .int .u64 l.n]) := ⟨_, rfl⟩
    have hown2 : OwnP kLink G2 H2 (.slice B i c5) ((ls.take i).map (weigh ns)) := by rw [hH2, hG2]; exact hown.boxed _ _
    have hle2 : (H.push (.own 0 [.slice An ns.length cn])).le G2 := by rw [hG2]; exact Hp.le_put_new (Hp.le_push' hle _) (by simp; omega) _
    have g2 : H2.get H1.size = .own 0 [.int .i64 l.a, .int .i64 l.b, .int .i64 l.cost, .int .u64 l.n] := by rw [hH2]; exact Hp.put_same _ _ _
    have kg2 : G2.get H1.size = .own 0 [.int .i64 l.a, .int .i64 l.b, .int .i64 l.cost, .int .u64 l.n] := by rw [hG2]; exact Hp.put_same _ _ _
    have z2 : H2.size = H1.size + 1 := by rw [hH2]; simp
    have zz2 := hown2.size
    have hb2 : H2.get H.size = .own 0 [.slice An ns.length cn] := by rw [hH2, Hp.put_other _ _ (by omega), Hp.push_old _ _ (by omega)]; exact hb1
    change ACode true _ _ _ _ _ ((H1.push (.own 0 [.int .i64 0, .int .i64 0, .int .i64 0, .int .u64 0])).put H1.size (.own 0 [.int .i64 l.a, .int .i64 l.b, .int .i64 l.cost, .int .u64 l.n]))
    rw [← hH2]
    have leH2 : H.le H2 := Hp.le_trans (Hp.le_trans (H.le_push _) hle2) hown2.le
    have hn2 := hn.mono leH2.sees
    have c1 : H2.cell? H.size 0 = some (.slice An ns.length cn) := cell_own (cs := [.slice An ns.length cn]) hb2
    have c2 : H2.cell? H1.size 1 = some (.int .i64 l.b) := cell_own (cs := [.int .i64 l.a, .int .i64 l.b, .int .i64 l.cost, .int .u64 l.n]) g2
    have call1 : ∀ k, k < ns.length → ACalls Try.prog 79 (#[.int .i64 (k : Nat)] ++ #[.pointer (some ⟨H.size, 0, none⟩), .pointer (some ⟨H1.size, 0, none⟩)]) H2 (fun r H' => r = .bool (if h : k < ns.length then decide (l.b ≤ ns[k].a) else true) ∧ H' = H2) := fun k hk =>
      ACalls.pure (R := fun r => r = .bool (if h : k < ns.length then decide (l.b ≤ ns[k].a) else true)) (fun v h => by rw [h]; rfl) ((weighed1_raw ns An cn k l.b H.size H1.size H2.ro (cell_ro c1) (cell_ro c2) (hn2.mono H2.sees_ro) hk (by show H.size < H2.size; omega) (by show H1.size < H2.size; omega)).mono fun r _ h => by rw [h, dif_pos hk])
    have mono1 : ∀ a b, a ≤ b → b < ns.length → (if h : a < ns.length then decide (l.b ≤ ns[a].a) else true) = true → (if h : b < ns.length then decide (l.b ≤ ns[b].a) else true) = true := fun a b hab hb h => by
      rw [dif_pos (by omega)] at h ⊢
      rcases Nat.lt_or_eq_of_le hab with h1 | h1
      · have := hmono a b (by omega) hb h1
        have := of_decide_eq_true h
        exact decide_eq_true (by omega)
      · subst h1; exact h
    refine ac_region (by kernel_rfl) ?_
    refine aops_val (av_load1 (by first | assumption | rfl) Try.underlying50 (by first | assumption | rfl) t_cell) ?_
    refine aops_val (av_len rfl Try.underlying50) ?_
    refine aops_val (av_makeFunc2 (vs := [.pointer (some ⟨H.size, 0, none⟩), .pointer (some ⟨H1.size, 0, none⟩)]) (by simp [Fr.put, Fr.eval, e3])) ?_
    refine aops_op (aop_call (Search_gen ns.length 79 _ #[.pointer (some ⟨H.size, 0, none⟩), .pointer (some ⟨H1.size, 0, none⟩)] (fun k => if h : k < ns.length then decide (l.b ≤ ns[k].a) else true) H2 Try.func79 rfl rfl call1 mono1 (by omega)) rfl Try.func72 rfl rfl rfl ?_)
    rintro v6 H2 ⟨⟨m, rfl, hm, hm1, hm2⟩, rfl⟩
    first | refine aops_val (av_assign_int rfl) ?_ | refine aops_val (av_assign rfl) ?_
    refine ac_seq ?_
    have hmj : m = j := by
      rcases Nat.lt_trichotomy m j with h | h | h
      · have h1 := hm2 m (Nat.le_refl _) (by omega)
        rw [dif_pos (by omega)] at h1
        have := of_decide_eq_true h1
        have := hmono m j (by omega) hj h
        omega
      · exact h
      · have h1 := hm1 j h
        rw [dif_pos hj] at h1
        have := of_decide_eq_false h1
        omega
    subst hmj
    have hnode : nodeOf ns l.b = ns[m] := nodeOf_at hj hya fun k hk h e => by
      have h1 := hm1 k hk
      rw [dif_pos h] at h1
      have := of_decide_eq_false h1
      omega
    obtain ⟨hc0, hc1, hc2⟩ := hcn ns[m] (List.getElem_mem hj)
    obtain ⟨bn, on, eN, hbn, hcelln⟩ := hn2.link_at hj
    subst eN
    have hcelln2 := hcelln 2 _ rfl
    have hcelln3 := hcelln 3 _ rfl
    refine ac_draw (by kernel_rfl) (reg_of (B := [0, 1, 0, 0, 12, 28, 60, 127, 255, 511]) (π := [0, 1, 2, 3, 4, 5, 6, 7, 8, 9]) (by kernel_rfl)) ?_
    refine adr_val rfl rfl (av_fieldOff (off := 2) rfl Try.underlying54 rfl inf3.size (by decide) rfl) t_lt ?_
    refine adr_val rfl rfl (av_load1 rfl Try.underlying3 rfl t_cell) t_lt ?_
    refine adr_val rfl rfl (av_load1 (by first | assumption | rfl) Try.underlying50 (by first | assumption | rfl) t_cell) t_lt ?_
    first | refine adr_val rfl rfl (av_move_int rfl) t_lt ?_ | refine adr_val rfl rfl (av_move rfl) t_lt ?_
    refine adr_val rfl rfl (av_indexAddr rfl rfl Try.underlying50 inf54.size t_idx t_idx) t_lt ?_
    refine adr_val rfl rfl (av_fieldOff (off := 2) rfl Try.underlying54 rfl inf3.size (by decide) rfl) t_lt ?_
    refine adr_val rfl rfl (av_load1 rfl Try.underlying3 rfl t_cell) t_lt ?_
    first | refine adr_val rfl rfl (av_add64 rfl rfl t_fits) t_lt ?_ | refine adr_val rfl rfl (av_add rfl rfl) t_lt ?_
    refine adr_val rfl rfl (av_fieldOff (off := 2) rfl Try.underlying54 rfl inf3.size (by decide) rfl) t_lt ?_
    first | refine adr_op rfl rfl (aop_put1 rfl rfl rfl inf3.size t_get t_room rfl ?_)
    refine ⟨t_pend, ?_⟩
    refine ac_seq ?_
    obtain ⟨H3, hH3⟩ : ∃ H3, H3 = H2.put H1.size (.own 0 [.int .i64 l.a, .int .i64 l.b, .int .i64 (l.cost + ns[m].cost), .int .u64 l.n]) := ⟨_, rfl⟩
    have g3 : H3.get H1.size = .own 0 [.int .i64 l.a, .int .i64 l.b, .int .i64 (l.cost + ns[m].cost), .int .u64 l.n] := by rw [hH3]; exact Hp.put_same _ _ _
    have hn3 : Sl kLink H3 (.slice (some ⟨bn, on, none⟩) ns.length cn) ns := by rw [hH3]; exact hn2.mono (Hp.sees_box _ g2)
    have hb3 : H3.get H.size = .own 0 [.slice (some ⟨bn, on, none⟩) ns.length cn] := by rw [hH3, Hp.put_other _ _ (by omega)]; exact hb2
    have z3 : H3.size = H2.size := by rw [hH3]; simp
    change ACode true _ _ _ _ _ (H2.put H1.size (.own 0 [.int .i64 l.a, .int .i64 l.b, .int .i64 (l.cost + ns[m].cost), .int .u64 l.n]))
    rw [← hH3]
    obtain ⟨bn2, on2, eN2, hbn3, hcell3⟩ := hn3.link_at hj
    simp only [Option.some.injEq, Addr.mk.injEq, and_true] at eN2
    obtain ⟨rfl, rfl⟩ := eN2
    have hcell32 := hcell3 3 _ rfl
    refine ac_draw (by kernel_rfl) (reg_of (B := [0, 1, 0, 0, 12, 28, 60, 127, 255, 511]) (π := [0, 1, 2, 3, 4, 5, 6, 7, 8, 9]) (by kernel_rfl)) ?_
    refine adr_val rfl rfl (av_fieldOff (off := 3) rfl Try.underlying54 rfl inf42.size (by decide) rfl) t_lt ?_
    refine adr_val rfl rfl (av_load1 rfl Try.underlying42 rfl t_cell) t_lt ?_
    refine adr_val rfl rfl (av_load1 (by first | assumption | rfl) Try.underlying50 (by first | assumption | rfl) t_cell) t_lt ?_
    first | refine adr_val rfl rfl (av_move_int rfl) t_lt ?_ | refine adr_val rfl rfl (av_move rfl) t_lt ?_
    refine adr_val rfl rfl (av_indexAddr rfl rfl Try.underlying50 inf54.size t_idx t_idx) t_lt ?_
    refine adr_val rfl rfl (av_fieldOff (off := 3) rfl Try.underlying54 rfl inf42.size (by decide) rfl) t_lt ?_
    refine adr_val rfl rfl (av_load1 rfl Try.underlying42 rfl t_cell) t_lt ?_
    refine adr_op rfl rfl (aop_call (Times_u64 l.n ns[m].n hl2 hc2 _) rfl Try.func61 rfl rfl rfl ?_)
    rintro v7 H3 ⟨rfl, rfl⟩
    refine ⟨t_pend, ?_⟩
    refine adr_val rfl rfl (av_fieldOff (off := 3) rfl Try.underlying54 rfl inf42.size (by decide) rfl) t_lt ?_
    first | refine adr_op rfl rfl (aop_put1 rfl rfl rfl inf42.size t_get t_room rfl ?_)
    refine ⟨t_pend, ?_⟩
    obtain ⟨H4, hH4⟩ : ∃ H4, H4 = H3.put H1.size (.own 0 [.int .i64 l.a, .int .i64 l.b, .int .i64 (l.cost + ns[m].cost), .int .u64 (timesI l.n ns[m].n)]) := ⟨_, rfl⟩
    obtain ⟨G4, hG4⟩ : ∃ G4, G4 = (G2.put H1.size (.own 0 [.int .i64 l.a, .int .i64 l.b, .int .i64 (l.cost + ns[m].cost), .int .u64 l.n])).put H1.size (.own 0 [.int .i64 l.a, .int .i64 l.b, .int .i64 (l.cost + ns[m].cost), .int .u64 (timesI l.n ns[m].n)]) := ⟨_, rfl⟩
    have hown4 : OwnP kLink G4 H4 (.slice B i c5) ((ls.take i).map (weigh ns)) := by
      rw [hH4, hH3, hG4]
      exact (hown2.box_put kg2 [.int .i64 l.a, .int .i64 l.b, .int .i64 (l.cost + ns[m].cost), .int .u64 l.n]).box_put (Hp.put_same _ _ _) [.int .i64 l.a, .int .i64 l.b, .int .i64 (l.cost + ns[m].cost), .int .u64 (timesI l.n ns[m].n)]
    have g4 : H4.get H1.size = .own 0 [.int .i64 l.a, .int .i64 l.b, .int .i64 (l.cost + ns[m].cost), .int .u64 (timesI l.n ns[m].n)] := by rw [hH4]; exact Hp.put_same _ _ _
    have hle4 : (H.push (.own 0 [.slice (some ⟨bn, on, none⟩) ns.length cn])).le G4 := by rw [hG4]; exact Hp.le_put_new (Hp.le_put_new hle2 (by simp; omega) _) (by simp; omega) _
    change ACode true _ _ _ _ _ (H3.put H1.size (.own 0 [.int .i64 l.a, .int .i64 l.b, .int .i64 (l.cost + ns[m].cost), .int .u64 (timesI l.n ns[m].n)]))
    rw [← hH4]
    refine ac_region (by kernel_rfl) ?_
    first | refine aops_val (av_move_sl (by first | assumption | rfl)) ?_ | refine aops_val (av_move (by first | assumption | rfl)) ?_
    refine aops_val (av_loadN (cs := [.int .i64 _, .int .i64 _, .int .i64 _, .int .u64 _]) rfl Try.underlying54 rfl inf54.size t_cells) ?_
    first | refine aops_make (am_buildSlice (r := [.int .i64 _, .int .i64 _, .int .i64 _, .int .u64 _]) Try.underlying50 inf54.size inf54.zero rfl (by decide) (by decide) (by decide) rfl) ?_
    have hlen : ((ls.take i).map (weigh ns)).length = i := by rw [List.length_map, List.length_take]; omega
    have hw : weigh ns l = ⟨l.a, l.b, l.cost + ns[m].cost, timesI l.n ns[m].n⟩ := by unfold weigh; rw [hnode]
    refine aops_op (OwnP.append (ys := [weigh ns l]) (hown4.push _) Try.underlying50 inf54 rfl rfl rfl (sl_one (k := kLink) (by rw [hw]; rfl) rfl hown4.size rfl) (by rw [hlen]; simp only [List.length_singleton]; omega) (by rw [hlen]; simp only [List.length_singleton]; omega) ?_)
    rintro v8 G8 H8 hle8 hown8
    obtain ⟨B8, c8, e8⟩ := hown8.shape
    rw [List.length_append, hlen, List.length_singleton] at e8
    subst e8
    rw [hl', ← List.map_singleton, ← List.map_append, take_next hix] at hown8
    first | refine aops_val (av_assign_sl rfl) ?_ | refine aops_val (av_assign rfl) ?_
    refine ac_region (by kernel_rfl) ?_
    first | refine aops_val (av_add64 (by first | assumption | rfl) (by first | assumption | rfl) t_fits) ?_ | refine aops_val (av_add (by first | assumption | rfl) (by first | assumption | rfl)) ?_
    first | refine aops_val (av_move_int rfl) ?_ | refine aops_val (av_move rfl) ?_
    exact ⟨ls.length - (i + 1), by omega, i + 1, G8, B8, c8, by omega, rfl, Hp.le_trans (Hp.le_push' hle4 _) hle8, hown8, e3, rfl, e9, e10, rfl⟩
  · intro hc1
    (try simp only [decide_eq_true_eq, decide_eq_false_iff_not, Bool.not_eq_true', Bool.not_eq_false'] at hc1)
    refine ac_exit ?_
    refine ac_seq ?_
    refine ac_region (by kernel_rfl) ?_
    first | refine aops_val (av_move_sl (by first | assumption | rfl)) ?_ | refine aops_val (av_move (by first | assumption | rfl)) ?_
    first | refine aops_val (av_assign_sl rfl) ?_ | refine aops_val (av_assign rfl) ?_
    refine ac_ret ?_
    have h2 : (ls.take i).map (weigh ns) = ls.map (weigh ns) := by rw [List.take_of_length_le (by omega)]
    rw [h2] at hown
    exact ⟨_, aresult1 (ares_tmp rfl), G, leH, hown⟩
end Go.Proofs.Ytcaeoebphfjfiaa.Am


/- The links that begin at a node. -/
namespace Go.Proofs.Ytcaeoebphfjfiaa.Am
open Go Go.RowKit
set_option maxRecDepth 100000
set_option linter.unusedVariables false
set_option linter.unusedSimpArgs false

/-- Links that rise by their first ends. -/
def RiseA (xs : List Link) : Prop := ∀ (i j : Nat) (hi : i < xs.length) (hj : j < xs.length), i ≤ j → xs[i].a ≤ xs[j].a
theorem filter_mid {xs : List Link} {a : Int} {lo hi : Nat} (h1 : lo ≤ xs.length) (h2 : hi ≤ xs.length) (hlo : ∀ (i : Nat) (h : i < xs.length), i < lo → ¬ a ≤ xs[i].a) (hlo2 : ∀ (i : Nat) (h : i < xs.length), lo ≤ i → a ≤ xs[i].a) (hhi : ∀ (i : Nat) (h : i < xs.length), i < hi → ¬ a < xs[i].a) (hhi2 : ∀ (i : Nat) (h : i < xs.length), hi ≤ i → a < xs[i].a) :
    lo ≤ hi ∧ (xs.take hi).drop lo = xs.filter fun x => decide (x.a = a) := by
  have hle : lo ≤ hi := by
    rcases Nat.lt_or_ge hi lo with h | h
    · have a1 := hlo hi (by omega) h
      have a2 := hhi2 hi (by omega) (Nat.le_refl _)
      omega
    · exact h
  refine ⟨hle, ?_⟩
  have e : xs = xs.take lo ++ ((xs.take hi).drop lo ++ xs.drop hi) := by
    have : (xs.take hi).drop lo ++ xs.drop hi = xs.drop lo := by
      rw [List.drop_take, show xs.drop hi = (xs.drop lo).drop (hi - lo) by rw [List.drop_drop]; congr 1; omega]
      exact List.take_append_drop _ _
    rw [this]; exact (List.take_append_drop _ _).symm
  have f1 : (xs.take lo).filter (fun x => decide (x.a = a)) = [] := by
    rw [List.filter_eq_nil_iff]
    intro x hx
    obtain ⟨i, hi1, rfl⟩ := List.getElem_of_mem hx
    rw [List.length_take] at hi1
    rw [List.getElem_take]
    have := hlo i (by omega) (by omega)
    simp; omega
  have f2 : (xs.drop hi).filter (fun x => decide (x.a = a)) = [] := by
    rw [List.filter_eq_nil_iff]
    intro x hx
    obtain ⟨i, hi1, rfl⟩ := List.getElem_of_mem hx
    rw [List.length_drop] at hi1
    rw [List.getElem_drop]
    have := hhi2 (hi + i) (by omega) (by omega)
    simp; omega
  have f3 : ((xs.take hi).drop lo).filter (fun x => decide (x.a = a)) = (xs.take hi).drop lo := by
    rw [List.filter_eq_self]
    intro x hx
    obtain ⟨i, hi1, rfl⟩ := List.getElem_of_mem hx
    rw [List.length_drop, List.length_take] at hi1
    rw [List.getElem_drop, List.getElem_take]
    have a1 := hlo2 (lo + i) (by omega) (by omega)
    have a2 := hhi (lo + i) (by omega) (by omega)
    simp; omega
  have := congrArg (List.filter fun x => decide (x.a = a)) e
  rw [List.filter_append, List.filter_append, f1, f2, f3, List.nil_append, List.append_nil] at this
  exact this.symm
end Go.Proofs.Ytcaeoebphfjfiaa.Am


/- Where the groups of a place stand. -/
namespace Go.Proofs.Ytcaeoebphfjfiaa.Am
open Go Go.RowKit
set_option maxRecDepth 100000
set_option linter.unusedVariables false
set_option linter.unusedSimpArgs false

/-- The groups of a place that are noted. -/
structure Noted (ls : List Link) (i : Nat) (k : Nat) (es0 es : List (Value × Value)) : Prop where
  keys : ∀ e ∈ es, IsSpot e.1
  yes : ∀ above : Int, (∃ (j : Nat) (h : j < ls.length), j < k ∧ ls[j].a = above) → ∃ fr to : Nat, mapGet es (spotV i above) = some (spanV fr to) ∧ fr ≤ to ∧ to ≤ ls.length ∧ (ls.take to).drop fr = ls.filter fun l => decide (l.a = above)
  no : ∀ above : Int, (¬ ∃ (j : Nat) (h : j < ls.length), j < k ∧ ls[j].a = above) → mapGet es (spotV i above) = none
  other : ∀ (i' : Nat) above, i' ≠ i → mapGet es (spotV i' above) = mapGet es0 (spotV i' above)
theorem Noted.step {ls : List Link} {i k to : Nat} {es0 es : List (Value × Value)} (h : Noted ls i k es0 es) (hr : RiseA ls) (hk : k < ls.length) (hkt : k < to) (ht : to ≤ ls.length) (hbnd : ∀ j (hj : j < ls.length), j < k → ls[j].a < ls[k].a)
    (hsame : ∀ j (hj : j < ls.length), k ≤ j → j < to → ls[j].a = ls[k].a) (hend : ∀ h : to < ls.length, ls[to].a ≠ ls[k].a) : Noted ls i to es0 (mapPut es (spotV i ls[k].a) (spanV k to)) := by
  have hge : ∀ j (hj : j < ls.length), to ≤ j → ls[k].a < ls[j].a := fun j hj h1 => by
    have h2 := hend (by omega)
    have h3 := hr k to hk (by omega) (by omega)
    have h4 := hr to j (by omega) hj h1
    omega
  obtain ⟨_, hfil⟩ := filter_mid (xs := ls) (a := ls[k].a) (lo := k) (hi := to) (by omega) ht (fun j hj h1 => by have := hbnd j hj h1; omega) (fun j hj h1 => hr k j hk hj h1) (fun j hj h1 => by
    rcases Nat.lt_or_ge j k with h2 | h2
    · have := hbnd j hj h2; omega
    · have := hsame j hj h2 h1; omega) (fun j hj h1 => hge j hj h1)
  refine ⟨mapPut_keys h.keys ⟨_, _, rfl⟩, fun above hab => ?_, fun above hab => ?_, fun i' above hi => ?_⟩
  · by_cases he : above = ls[k].a
    · subst he
      exact ⟨k, to, mapGet_put, by omega, ht, hfil⟩
    · rw [mapGet_other (fun e => he (spotV_inj e).2)]
      refine h.yes above ?_
      obtain ⟨j, hj, h1, h2⟩ := hab
      refine ⟨j, hj, ?_, h2⟩
      rcases Nat.lt_or_ge j k with h3 | h3
      · exact h3
      · exact absurd (h2.symm.trans (hsame j hj h3 h1)) he
  · have he : above ≠ ls[k].a := fun e => hab ⟨k, hk, hkt, e.symm⟩
    rw [mapGet_other (fun e => he (spotV_inj e).2)]
    exact h.no above fun ⟨j, hj, h1, h2⟩ => hab ⟨j, hj, by omega, h2⟩
  · rw [mapGet_other (fun e => hi (by have := (spotV_inj e).1; omega))]
    exact h.other i' above hi
set_option maxHeartbeats 1000000 in
theorem group_tree {b mb : Nat} {s0 s1 s2 : Value} {ps : List Int} {lss : List (List Link)} {es : List (Value × Value)} {H : Hp} (hb : b < H.size) (hmb : mb < H.size) (hg : H.get b = .own 0 [s0, s1, s2, .map (some mb)]) (hs1 : Sl (kInt .i64) H s1 ps) (hs2 : Sl (kSl kLink) H s2 lss) (hm : H.get mb = .map es)
    (i : Nat) (hi : i < lss.length) (hpi : i < ps.length) (hlen : lss[i].length ≤ 1000000) (hr : ps.getD i 0 ≠ -1 → RiseA lss[i]) (hk : ∀ e ∈ es, IsSpot e.1) (hno : ∀ above, mapGet es (spotV i above) = none) :
    ACalls Try.prog 53 #[.pointer (some ⟨b, 0, none⟩), .int .i64 i] H (fun r H' => ∃ es', H' = H.put mb (.map es') ∧ (if ps.getD i 0 = -1 then es' = mapPut es (spotV i (-1)) (spanV 0 lss[i].length) else Noted lss[i] i lss[i].length es es')) := by
  obtain ⟨A1, c1, rfl⟩ := hs1.shape
  obtain ⟨A2, c2, rfl⟩ := hs2.shape
  obtain ⟨b1, o1, rfl, hb1, hcell1⟩ := hs1.int_at (i := (i : Int)) (by omega) (by omega)
  rw [Int.toNat_natCast] at hcell1
  obtain ⟨b2, o2, ks, eB, hb2, ⟨w0, rfl, hw0⟩, hcell2⟩ := hs2.elem_at hi
  subst eB
  have hcell2' := hcell2.one
  obtain ⟨A6, c6, rfl⟩ := hw0.shape
  have hbm : b ≠ mb := fun e => by subst e; rw [hg] at hm; cases hm
  refine acalls_of_code Try.func53 rfl rfl rfl (by simp) ?_
  refine ac_seq ?_
  refine ac_region (by kernel_rfl) ?_
  first | refine aops_val (av_move_ptr rfl) ?_ | refine aops_val (av_move rfl) ?_
  refine aops_val (av_nilCheck rfl) ?_
  refine aops_val (av_fieldOff (off := 2) rfl Try.underlying89 rfl inf27.size (by decide) rfl) ?_
  refine aops_val (av_load1 rfl Try.underlying27 rfl t_cell) ?_
  first | refine aops_val (av_move_int rfl) ?_ | refine aops_val (av_move rfl) ?_
  refine aops_val (av_indexAddr rfl rfl Try.underlying27 inf50.size t_idx t_idx) ?_
  refine aops_val (av_load1 rfl Try.underlying50 rfl t_cell) ?_
  first | refine aops_val (av_assign_sl rfl) ?_ | refine aops_val (av_assign rfl) ?_
  refine ac_seq ?_
  refine ac_seq ?_
  refine ac_region (by kernel_rfl) ?_
  first | refine aops_val (av_move_ptr rfl) ?_ | refine aops_val (av_move rfl) ?_
  refine aops_val (av_nilCheck rfl) ?_
  refine aops_val (av_fieldOff (off := 1) rfl Try.underlying89 rfl inf23.size (by decide) rfl) ?_
  refine aops_val (av_load1 rfl Try.underlying23 rfl t_cell) ?_
  first | refine aops_val (av_move_int rfl) ?_ | refine aops_val (av_move rfl) ?_
  refine aops_val (av_indexAddr rfl rfl Try.underlying23 inf3.size t_idx t_idx) ?_
  refine aops_val (av_load1 rfl Try.underlying3 rfl t_cell) ?_
  refine aops_val (av_eq rfl rfl) ?_
  refine ac_split rfl rfl ?_ ?_
  · intro hc1
    have hroot : ps.getD i 0 = -1 := of_decide_eq_true hc1
    refine ac_seq ?_
    refine ac_region (by kernel_rfl) ?_
    first | refine aops_val (av_move_ptr rfl) ?_ | refine aops_val (av_move rfl) ?_
    refine aops_val (av_nilCheck rfl) ?_
    refine aops_val (av_fieldOff (off := 3) rfl Try.underlying89 rfl inf87.size (by decide) rfl) ?_
    refine aops_val (av_load1 rfl Try.underlying87 rfl t_cell) ?_
    first | refine aops_val (av_move_int rfl) ?_ | refine aops_val (av_move rfl) ?_
    refine aops_val (av_build (pl := [(0, 1), (1, 1)]) (r := [.int .i64 _, .int .i64 _]) Try.underlying113 inf113.zero (by decide) rfl rfl) ?_
    first | refine aops_val (av_move_sl rfl) ?_ | refine aops_val (av_move rfl) ?_
    refine aops_val (av_len rfl Try.underlying50) ?_
    refine aops_val (av_build (pl := [(0, 1), (1, 1)]) (r := [.int .i64 _, .int .i64 _]) Try.underlying111 inf111.zero (by decide) rfl rfl) ?_
    refine aops_op (aop_mapUpdate Try.underlying87 keyTy_spot rfl rfl rfl ⟨_, _, rfl⟩ hm hk ?_)
    refine ac_ret ?_
    exact ⟨_, aresult0, _, rfl, by rw [if_pos hroot]; rfl⟩
  · intro hc1
    have hroot : ps.getD i 0 ≠ -1 := of_decide_eq_false hc1
    refine ac_skip ?_
    refine ac_seq ?_
    refine ac_region (by kernel_rfl) ?_
    first | refine aops_val (av_assign_int rfl) ?_ | refine aops_val (av_assign rfl) ?_
    refine ac_block ?_
    refine ac_loop (fun n t H' => ∃ (k : Nat) (es' : List (Value × Value)), k ≤ lss[i].length ∧ n = lss[i].length - k ∧ H' = H.put mb (.map es') ∧ Noted lss[i] i k es es' ∧ (∀ (hk : k < lss[i].length) j (hj : j < lss[i].length), j < k → lss[i][j].a < lss[i][k].a) ∧ t 0 = .pointer (some ⟨b, 0, none⟩) ∧ t 1 = .int .i64 i ∧ t 4 = .slice A6 lss[i].length c6 ∧ t 5 = .int .i64 k) (lss[i].length) (⟨0, es, by omega, rfl, (Hp.put_self _ hm).symm, ⟨hk, fun above ⟨j, hj, h, _⟩ => by omega, fun above _ => hno above, fun _ _ _ => rfl⟩, fun _ j _ h => by omega, rfl, rfl, rfl, rfl⟩) ?_
    rintro n t H1 ⟨k, es', hkl, rfl, hH1, hnoted, hbnd, e0, e1, e4, e5⟩
    have hse : H.sees H1 := by rw [hH1]; exact Hp.sees_map H hm _
    have hm1 : H1.get mb = .map es' := by rw [hH1]; exact Hp.put_same _ _ _
    have hg1 : H1.get b = .own 0 [s0, .slice (some ⟨b1, o1, none⟩) ps.length c1, .slice (some ⟨b2, o2, none⟩) lss.length c2, .map (some mb)] := by rw [hH1, Hp.put_other _ _ hbm]; exact hg
    have hz1 : H1.size = H.size := by rw [hH1]; rfl
    have hw1 := hw0.mono hse
    refine ac_seq ?_
    refine ac_seq ?_
    refine ac_region (by kernel_rfl) ?_
    first | refine aops_val (av_move_int (by first | assumption | rfl)) ?_ | refine aops_val (av_move (by first | assumption | rfl)) ?_
    first | refine aops_val (av_move_sl (by first | assumption | rfl)) ?_ | refine aops_val (av_move (by first | assumption | rfl)) ?_
    refine aops_val (av_len rfl Try.underlying50) ?_
    refine aops_val (av_lt rfl rfl) ?_
    refine ac_split rfl rfl ?_ ?_
    · intro hc2
      (try simp only [decide_eq_true_eq, decide_eq_false_iff_not, Bool.not_eq_true', Bool.not_eq_false'] at hc2)
      refine ac_skip ?_
      refine ac_block ?_
      refine ac_seq ?_
      have hkx : k < lss[i].length := by omega
      obtain ⟨bk, ok, eA, hbk, hck⟩ := hw1.link_at hkx
      subst eA
      have hck0 := hck 0 _ rfl
      refine ac_region (by kernel_rfl) ?_
      first | refine aops_val (av_move_int (by first | assumption | rfl)) ?_ | refine aops_val (av_move (by first | assumption | rfl)) ?_
      first | refine aops_val (av_assign_int rfl) ?_ | refine aops_val (av_assign rfl) ?_
      refine ac_seq ?_
      refine ac_block ?_
      refine ac_loop (fun n t H' => ∃ (m : Nat), k ≤ m ∧ m ≤ lss[i].length ∧ n = lss[i].length - m ∧ H' = H1 ∧ (∀ j (hj : j < lss[i].length), k ≤ j → j < m → lss[i][j].a = lss[i][k].a) ∧ t 0 = .pointer (some ⟨b, 0, none⟩) ∧ t 1 = .int .i64 i ∧ t 4 = .slice (some ⟨bk, ok, none⟩) lss[i].length c6 ∧ t 5 = .int .i64 k ∧ t 6 = .int .i64 m) (lss[i].length - k) (⟨k, by omega, by omega, by omega, rfl, fun j _ h1 h2 => by omega, e0, e1, e4, e5, rfl⟩) ?_
      rintro n t H1 ⟨m, hkm, hml, rfl, rfl, hsame, e0, e1, e4, e5, e6⟩
      refine ac_seq ?_
      refine ac_seq ?_
      refine ac_draw (by kernel_rfl) (reg_of (B := [0, 0, 2, 7, 15, 31, 31, 127, 255, 511, 31, 31, 3103, 7199, 15391, 32767, 65535]) (π := [0, 1, 2, 3, 4, 5, 6, 7, 8, 9, 10, 11, 12, 13, 14, 15, 16]) (by kernel_rfl)) ?_
      first | refine adr_val rfl rfl (av_move_int (by first | assumption | rfl)) t_lt ?_ | refine adr_val rfl rfl (av_move (by first | assumption | rfl)) t_lt ?_
      first | refine adr_val rfl rfl (av_move_sl (by first | assumption | rfl)) t_lt ?_ | refine adr_val rfl rfl (av_move (by first | assumption | rfl)) t_lt ?_
      refine adr_val rfl rfl (av_len rfl Try.underlying50) t_lt ?_
      refine adr_val rfl rfl (av_lt rfl rfl) t_lt ?_
      first | refine adr_val rfl rfl (av_move_bool rfl) t_lt ?_ | refine adr_val rfl rfl (av_move rfl) t_lt ?_
      refine adr_guard rfl rfl rfl rfl ?_ ?_
      · intro hg3
        have hmx : m < lss[i].length := by have := of_decide_eq_true hg3; omega
        obtain ⟨bm, om, eM, hbm2, hcm⟩ := hw1.link_at hmx
        simp only [Option.some.injEq, Addr.mk.injEq, and_true] at eM
        obtain ⟨rfl, rfl⟩ := eM
        have hcm0 := hcm 0 _ rfl
        first | refine adr_wval rfl (want_yes rfl rfl rfl hg3) rfl (av_move_sl (by first | assumption | rfl)) t_lt ?_ | refine adr_wval rfl (want_yes rfl rfl rfl hg3) rfl (av_move (by first | assumption | rfl)) t_lt ?_
        first | refine adr_wval rfl (want_yes rfl rfl rfl hg3) rfl (av_move_int (by first | assumption | rfl)) t_lt ?_ | refine adr_wval rfl (want_yes rfl rfl rfl hg3) rfl (av_move (by first | assumption | rfl)) t_lt ?_
        refine adr_wval rfl (want_yes rfl rfl rfl hg3) rfl (av_indexAddr rfl rfl Try.underlying50 inf54.size t_idx t_idx) t_lt ?_
        refine adr_wval rfl (want_yes rfl rfl rfl hg3) rfl (av_fieldOff (off := 0) rfl Try.underlying54 rfl inf3.size (by decide) rfl) t_lt ?_
        refine adr_wval rfl (want_yes rfl rfl rfl hg3) rfl (av_load1 rfl Try.underlying3 rfl t_cell) t_lt ?_
        first | refine adr_wval rfl (want_yes rfl rfl rfl hg3) rfl (av_move_sl (by first | assumption | rfl)) t_lt ?_ | refine adr_wval rfl (want_yes rfl rfl rfl hg3) rfl (av_move (by first | assumption | rfl)) t_lt ?_
        first | refine adr_wval rfl (want_yes rfl rfl rfl hg3) rfl (av_move_int (by first | assumption | rfl)) t_lt ?_ | refine adr_wval rfl (want_yes rfl rfl rfl hg3) rfl (av_move (by first | assumption | rfl)) t_lt ?_
        refine adr_wval rfl (want_yes rfl rfl rfl hg3) rfl (av_indexAddr rfl rfl Try.underlying50 inf54.size t_idx t_idx) t_lt ?_
        refine adr_wval rfl (want_yes rfl rfl rfl hg3) rfl (av_fieldOff (off := 0) rfl Try.underlying54 rfl inf3.size (by decide) rfl) t_lt ?_
        refine adr_wval rfl (want_yes rfl rfl rfl hg3) rfl (av_load1 rfl Try.underlying3 rfl t_cell) t_lt ?_
        refine adr_wval rfl (want_yes rfl rfl rfl hg3) rfl (av_eq rfl rfl) t_lt ?_
        refine adr_val rfl rfl (av_pick_bool (congrArg Value.bool hg3) rfl) t_lt ?_
        refine ac_split rfl rfl ?_ ?_
        · intro hc4
          have heq : lss[i][m].a = lss[i][k].a := of_decide_eq_true hc4
          refine ac_skip ?_
          refine ac_block ?_
          refine ac_region (by kernel_rfl) ?_
          first | refine aops_val (av_move_int (by first | assumption | rfl)) ?_ | refine aops_val (av_move (by first | assumption | rfl)) ?_
          first | refine aops_val (av_add64 rfl rfl t_fits) ?_ | refine aops_val (av_add rfl rfl) ?_
          first | refine aops_val (av_assign_int rfl) ?_ | refine aops_val (av_assign rfl) ?_
          refine ⟨lss[i].length - (m + 1), by omega, m + 1, by omega, by omega, rfl, rfl, fun j hj h1 h2 => ?_, e0, e1, e4, e5, rfl⟩
          rcases Nat.lt_or_ge j m with h | h
          · exact hsame j hj h1 h
          · obtain rfl : j = m := by omega
            exact heq
        · intro hc4
          have hneq : lss[i][m].a ≠ lss[i][k].a := of_decide_eq_false hc4
          refine ac_exit ?_
          refine ac_seq ?_
          have hend : ∀ h : m < lss[i].length, lss[i][m].a ≠ lss[i][k].a := fun h => by first | exact absurd h hmx | exact hneq
          have hkm' : k < m := by
            rcases Nat.lt_or_ge k m with h | h
            · exact h
            · exfalso
              have : m = k := by omega
              subst this
              exact hend hkx rfl
          have hst := hnoted.step (hr hroot) hkx hkm' hml (hbnd hkx) hsame hend
          refine ac_draw (by kernel_rfl) (reg_of (B := [0, 1, 3, 7, 0, 0, 0, 96, 224, 480, 1008, 0, 0, 6144, 16383]) (π := [0, 1, 2, 3, 4, 5, 6, 7, 8, 9, 10, 11, 12, 13, 14]) (by kernel_rfl)) ?_
          first | refine adr_val rfl rfl (av_move_ptr (by first | assumption | rfl)) t_lt ?_ | refine adr_val rfl rfl (av_move (by first | assumption | rfl)) t_lt ?_
          refine adr_val rfl rfl (av_nilCheck rfl) t_lt ?_
          refine adr_val rfl rfl (av_fieldOff (off := 3) rfl Try.underlying89 rfl inf87.size (by decide) rfl) t_lt ?_
          refine adr_val rfl rfl (av_load1 rfl Try.underlying87 rfl t_cell) t_lt ?_
          first | refine adr_val rfl rfl (av_move_int (by first | assumption | rfl)) t_lt ?_ | refine adr_val rfl rfl (av_move (by first | assumption | rfl)) t_lt ?_
          first | refine adr_val rfl rfl (av_move_sl (by first | assumption | rfl)) t_lt ?_ | refine adr_val rfl rfl (av_move (by first | assumption | rfl)) t_lt ?_
          first | refine adr_val rfl rfl (av_move_int (by first | assumption | rfl)) t_lt ?_ | refine adr_val rfl rfl (av_move (by first | assumption | rfl)) t_lt ?_
          refine adr_val rfl rfl (av_indexAddr rfl rfl Try.underlying50 inf54.size t_idx t_idx) t_lt ?_
          refine adr_val rfl rfl (av_fieldOff (off := 0) rfl Try.underlying54 rfl inf3.size (by decide) rfl) t_lt ?_
          refine adr_val rfl rfl (av_load1 rfl Try.underlying3 rfl t_cell) t_lt ?_
          refine adr_val rfl rfl (av_build (pl := [(0, 1), (1, 1)]) (r := [.int .i64 _, .int .i64 _]) Try.underlying113 inf113.zero (by decide) rfl rfl) t_lt ?_
          first | refine adr_val rfl rfl (av_move_int (by first | assumption | rfl)) t_lt ?_ | refine adr_val rfl rfl (av_move (by first | assumption | rfl)) t_lt ?_
          first | refine adr_val rfl rfl (av_move_int (by first | assumption | rfl)) t_lt ?_ | refine adr_val rfl rfl (av_move (by first | assumption | rfl)) t_lt ?_
          refine adr_val rfl rfl (av_build (pl := [(0, 1), (1, 1)]) (r := [.int .i64 _, .int .i64 _]) Try.underlying111 inf111.zero (by decide) rfl rfl) t_lt ?_
          refine adr_op rfl rfl (aop_mapUpdate Try.underlying87 keyTy_spot rfl rfl rfl ⟨_, _, rfl⟩ hm1 hnoted.keys ?_)
          refine ⟨t_pend, ?_⟩
          refine ac_region (by kernel_rfl) ?_
          first | refine aops_val (av_move_int (by first | assumption | rfl)) ?_ | refine aops_val (av_move (by first | assumption | rfl)) ?_
          first | refine aops_val (av_assign_int rfl) ?_ | refine aops_val (av_assign rfl) ?_
          refine ⟨lss[i].length - m, by omega, m, _, by omega, rfl, by rw [hH1, Hp.put_put]; rfl, hst, fun hk j hj h => ?_, e0, e1, e4, rfl⟩
          rcases Nat.lt_or_ge j k with h1 | h1
          · have h2 := hbnd hkx j hj h1
            have h3 := hr hroot k m hkx hk (by omega)
            omega
          · have h2 := hsame j hj h1 h
            have h3 := hr hroot k m hkx hk (by omega)
            have h4 := hend hk
            omega
      · intro hg3
        have hmx : ¬ m < lss[i].length := by have := of_decide_eq_false hg3; omega
        refine adr_skip rfl (want_no rfl rfl rfl hg3 rfl) ?_
        refine adr_skip rfl (want_no rfl rfl rfl hg3 rfl) ?_
        refine adr_skip rfl (want_no rfl rfl rfl hg3 rfl) ?_
        refine adr_skip rfl (want_no rfl rfl rfl hg3 rfl) ?_
        refine adr_skip rfl (want_no rfl rfl rfl hg3 rfl) ?_
        refine adr_skip rfl (want_no rfl rfl rfl hg3 rfl) ?_
        refine adr_skip rfl (want_no rfl rfl rfl hg3 rfl) ?_
        refine adr_skip rfl (want_no rfl rfl rfl hg3 rfl) ?_
        refine adr_skip rfl (want_no rfl rfl rfl hg3 rfl) ?_
        refine adr_skip rfl (want_no rfl rfl rfl hg3 rfl) ?_
        refine adr_skip rfl (want_no rfl rfl rfl hg3 rfl) ?_
        refine adr_val rfl rfl (av_pick_bool (congrArg Value.bool hg3) (by first | assumption | rfl)) t_lt ?_
        refine ac_cond_false rfl rfl ?_
        refine ac_exit ?_
        refine ac_seq ?_
        have hend : ∀ h : m < lss[i].length, lss[i][m].a ≠ lss[i][k].a := fun h => by first | exact absurd h hmx | exact hneq
        have hkm' : k < m := by
          rcases Nat.lt_or_ge k m with h | h
          · exact h
          · exfalso
            have : m = k := by omega
            subst this
            exact hend hkx rfl
        have hst := hnoted.step (hr hroot) hkx hkm' hml (hbnd hkx) hsame hend
        refine ac_draw (by kernel_rfl) (reg_of (B := [0, 1, 3, 7, 0, 0, 0, 96, 224, 480, 1008, 0, 0, 6144, 16383]) (π := [0, 1, 2, 3, 4, 5, 6, 7, 8, 9, 10, 11, 12, 13, 14]) (by kernel_rfl)) ?_
        first | refine adr_val rfl rfl (av_move_ptr (by first | assumption | rfl)) t_lt ?_ | refine adr_val rfl rfl (av_move (by first | assumption | rfl)) t_lt ?_
        refine adr_val rfl rfl (av_nilCheck rfl) t_lt ?_
        refine adr_val rfl rfl (av_fieldOff (off := 3) rfl Try.underlying89 rfl inf87.size (by decide) rfl) t_lt ?_
        refine adr_val rfl rfl (av_load1 rfl Try.underlying87 rfl t_cell) t_lt ?_
        first | refine adr_val rfl rfl (av_move_int (by first | assumption | rfl)) t_lt ?_ | refine adr_val rfl rfl (av_move (by first | assumption | rfl)) t_lt ?_
        first | refine adr_val rfl rfl (av_move_sl (by first | assumption | rfl)) t_lt ?_ | refine adr_val rfl rfl (av_move (by first | assumption | rfl)) t_lt ?_
        first | refine adr_val rfl rfl (av_move_int (by first | assumption | rfl)) t_lt ?_ | refine adr_val rfl rfl (av_move (by first | assumption | rfl)) t_lt ?_
        refine adr_val rfl rfl (av_indexAddr rfl rfl Try.underlying50 inf54.size t_idx t_idx) t_lt ?_
        refine adr_val rfl rfl (av_fieldOff (off := 0) rfl Try.underlying54 rfl inf3.size (by decide) rfl) t_lt ?_
        refine adr_val rfl rfl (av_load1 rfl Try.underlying3 rfl t_cell) t_lt ?_
        refine adr_val rfl rfl (av_build (pl := [(0, 1), (1, 1)]) (r := [.int .i64 _, .int .i64 _]) Try.underlying113 inf113.zero (by decide) rfl rfl) t_lt ?_
        first | refine adr_val rfl rfl (av_move_int (by first | assumption | rfl)) t_lt ?_ | refine adr_val rfl rfl (av_move (by first | assumption | rfl)) t_lt ?_
        first | refine adr_val rfl rfl (av_move_int (by first | assumption | rfl)) t_lt ?_ | refine adr_val rfl rfl (av_move (by first | assumption | rfl)) t_lt ?_
        refine adr_val rfl rfl (av_build (pl := [(0, 1), (1, 1)]) (r := [.int .i64 _, .int .i64 _]) Try.underlying111 inf111.zero (by decide) rfl rfl) t_lt ?_
        refine adr_op rfl rfl (aop_mapUpdate Try.underlying87 keyTy_spot rfl rfl rfl ⟨_, _, rfl⟩ hm1 hnoted.keys ?_)
        refine ⟨t_pend, ?_⟩
        refine ac_region (by kernel_rfl) ?_
        first | refine aops_val (av_move_int (by first | assumption | rfl)) ?_ | refine aops_val (av_move (by first | assumption | rfl)) ?_
        first | refine aops_val (av_assign_int rfl) ?_ | refine aops_val (av_assign rfl) ?_
        refine ⟨lss[i].length - m, by omega, m, _, by omega, rfl, by rw [hH1, Hp.put_put]; rfl, hst, fun hk j hj h => ?_, e0, e1, e4, rfl⟩
        rcases Nat.lt_or_ge j k with h1 | h1
        · have h2 := hbnd hkx j hj h1
          have h3 := hr hroot k m hkx hk (by omega)
          omega
        · have h2 := hsame j hj h1 h
          have h3 := hr hroot k m hkx hk (by omega)
          have h4 := hend hk
          omega
    · intro hc2
      (try simp only [decide_eq_true_eq, decide_eq_false_iff_not, Bool.not_eq_true', Bool.not_eq_false'] at hc2)
      refine ac_exit ?_
      have hkl2 : k = lss[i].length := by omega
      subst hkl2
      exact ⟨_, aresult0, es', hH1, by rw [if_neg hroot]; exact hnoted⟩
end Go.Proofs.Ytcaeoebphfjfiaa.Am


/- Places of parents; how large a tree is; who is below. -/
namespace Go.Proofs.Ytcaeoebphfjfiaa.Am
open Go Go.RowKit
set_option maxRecDepth 100000
set_option linter.unusedVariables false
set_option linter.unusedSimpArgs false

theorem Index_ints (xs : List Int) (v : Value) (m : Int) (H : Hp) (hs : Sl (kInt .i64) H v xs) (hl : xs.length ≤ 9223372036854775807) :
    ACalls Try.prog 51 #[v, .int .i64 m] H (fun r H' => r = .int .i64 (atI xs m) ∧ H' = H) := by
  refine ACalls.pure (R := fun r => r = .int .i64 (atI xs m)) (fun v h => by rw [h]; rfl) ?_
  have hs := hs.mono H.sees_ro
  obtain ⟨A, c, rfl⟩ := hs.shape
  refine acalls_of_code Try.func51 rfl rfl rfl (by simp) ?_
  refine ac_seq ?_
  refine ac_region (by kernel_rfl) ?_
  first | refine aops_val (av_assign_int rfl) ?_ | refine aops_val (av_assign rfl) ?_
  refine ac_seq ?_
  refine ac_seq ?_
  refine ac_region (by kernel_rfl) ?_
  first | refine aops_val (av_move_sl rfl) ?_ | refine aops_val (av_move rfl) ?_
  refine aops_val (av_len rfl Try.underlying23) ?_
  first | refine aops_val (av_move_int rfl) ?_ | refine aops_val (av_move rfl) ?_
  refine ac_block ?_
  refine ac_loop (fun n t H' => ∃ i : Nat, i ≤ xs.length ∧ n = xs.length - i ∧ H' = H.ro ∧ m ∉ xs.take i ∧ t 0 = .slice A xs.length c ∧ t 1 = .int .i64 m ∧ t 7 = .int .i64 xs.length ∧ t 8 = .int .i64 i) (xs.length) (⟨0, by omega, rfl, rfl, by simp, rfl, rfl, rfl, rfl⟩) ?_
  rintro n t _ ⟨i, hi, rfl, rfl, hno, e0, e1, e7, e8⟩
  refine ac_seq ?_
  refine ac_region (by kernel_rfl) ?_
  refine aops_val (av_lt (by first | assumption | rfl) (by first | assumption | rfl)) ?_
  refine ac_seq ?_
  refine ac_split rfl rfl ?_ ?_
  · intro hc1
    (try simp only [decide_eq_true_eq, decide_eq_false_iff_not, Bool.not_eq_true', Bool.not_eq_false'] at hc1)
    refine ac_skip ?_
    refine ac_seq ?_
    refine ac_block ?_
    refine ac_seq ?_
    refine ac_region (by kernel_rfl) ?_
    first | refine aops_val (av_move_int (by first | assumption | rfl)) ?_ | refine aops_val (av_move (by first | assumption | rfl)) ?_
    first | refine aops_val (av_assign_int rfl) ?_ | refine aops_val (av_assign rfl) ?_
    refine ac_seq ?_
    refine ac_region (by kernel_rfl) ?_
    first | refine aops_val (av_move_int (by first | assumption | rfl)) ?_ | refine aops_val (av_move (by first | assumption | rfl)) ?_
    first | refine aops_val (av_move_sl (by first | assumption | rfl)) ?_ | refine aops_val (av_move (by first | assumption | rfl)) ?_
    first | refine aops_val (av_move_int rfl) ?_ | refine aops_val (av_move rfl) ?_
    have hix : i < xs.length := by omega
    obtain ⟨b, o, rfl, hb, hcell1⟩ := hs.int_at (i := (i : Int)) (by omega) (by omega)
    have hgi : xs.getD (i : Int).toNat 0 = xs[i] := by rw [Int.toNat_natCast]; exact getD_at hix
    rw [hgi] at hcell1
    refine aops_val (av_indexAddr rfl rfl Try.underlying23 inf3.size t_idx t_idx) ?_
    refine aops_val (av_load1 rfl Try.underlying3 rfl t_cell) ?_
    refine aops_val (av_eq rfl rfl) ?_
    refine ac_split rfl rfl ?_ ?_
    · intro hc2
      have he : m = xs[i] := of_decide_eq_true hc2
      refine ac_seq ?_
      refine ac_region (by kernel_rfl) ?_
      first | refine aops_val (av_move_int rfl) ?_ | refine aops_val (av_move rfl) ?_
      first | refine aops_val (av_assign_int rfl) ?_ | refine aops_val (av_assign rfl) ?_
      refine ac_ret ?_
      exact ⟨.int .i64 i, aresult1 (ares_tmp rfl), by rw [atI_some hix he.symm hno]⟩
    · intro hc2
      have hne : m ≠ xs[i] := of_decide_eq_false hc2
      refine ac_skip ?_
      refine ac_region (by kernel_rfl) ?_
      first | refine aops_val (av_add64 (by first | assumption | rfl) (by first | assumption | rfl) t_fits) ?_ | refine aops_val (av_add (by first | assumption | rfl) (by first | assumption | rfl)) ?_
      first | refine aops_val (av_move_int rfl) ?_ | refine aops_val (av_move rfl) ?_
      exact ⟨xs.length - (i + 1), by omega, i + 1, by omega, rfl, rfl, by rw [← take_next hix]; simp only [List.mem_append, List.mem_singleton, not_or]; exact ⟨hno, hne⟩, e0, e1, e7, rfl⟩
  · intro hc1
    (try simp only [decide_eq_true_eq, decide_eq_false_iff_not, Bool.not_eq_true', Bool.not_eq_false'] at hc1)
    refine ac_exit ?_
    refine ac_seq ?_
    refine ac_region (by kernel_rfl) ?_
    first | refine aops_val (av_assign_int rfl) ?_ | refine aops_val (av_assign rfl) ?_
    refine ac_ret ?_
    rw [List.take_of_length_le (by omega)] at hno
    exact ⟨.int .i64 (-1), aresult1 (ares_tmp rfl), by rw [atI_none hno]⟩
def belowL (ps : List Int) (i : Int) : List Int := if i < -1 then [] else ((List.range ps.length).filter fun k => decide (ps.getD k 0 = i)).map fun (k : Nat) => (k : Int)
end Go.Proofs.Ytcaeoebphfjfiaa.Am


/- A tree is asked whether nodes are a row. -/
namespace Go.Proofs.Ytcaeoebphfjfiaa.Am
open Go Go.RowKit
set_option maxRecDepth 100000
set_option linter.unusedVariables false
set_option linter.unusedSimpArgs false

def aboveOf (T : TreeT) (ns : List Int) (i : Nat) : Int := if T.parent.getD i 0 = -1 then -1 else ns.getD (T.parent.getD i 0).toNat 0
def rowAcc (T : TreeT) (ns : List Int) : Nat → Option (Int × Int)
  | 0 => some (0, 1)
  | i + 1 => (rowAcc T ns i).bind fun cn => (findB (T.group i (aboveOf T ns i)) (ns.getD i 0)).map fun y => (cn.1 + y.cost, timesI cn.2 y.n)
theorem rowAcc_none {T : TreeT} {ns : List Int} {i : Nat} (h : rowAcc T ns i = none) : ∀ j, i ≤ j → rowAcc T ns j = none
  | 0, hj => by have : i = 0 := by omega
                subst this; exact h
  | j + 1, hj => by
    rcases Nat.lt_or_ge i (j + 1) with h1 | h1
    · show (rowAcc T ns j).bind _ = none
      rw [rowAcc_none h j (by omega)]; rfl
    · have : i = j + 1 := by omega
      subst this; exact h
/-- What is asked of a tree. -/
structure GoodT (T : TreeT) : Prop where
  l1 : T.parent.length = T.vars.length
  l2 : T.links.length = T.vars.length
  few : T.vars.length ≤ 1000
  lens : ∀ l ∈ T.links, l.length ≤ 1000000
  par : ∀ i, i < T.vars.length → T.parent.getD i 0 = -1 ∨ (0 ≤ T.parent.getD i 0 ∧ T.parent.getD i 0 < i)
  sort : ∀ i above, (T.group i above).Pairwise fun x y => x.b < y.b
  cost : ∀ l ∈ T.links, ∀ x ∈ l, 0 ≤ x.cost ∧ x.cost ≤ 2000000000 ∧ 0 ≤ x.n
theorem GoodT.group_mem {T : TreeT} (h : GoodT T) {i above : Int} {x : Link} (hx : x ∈ T.group i above) : 0 ≤ x.cost ∧ x.cost ≤ 2000000000 ∧ 0 ≤ x.n := by
  unfold TreeT.group at hx
  split at hx
  · rename_i hi
    have hl : i.toNat < T.links.length := by rw [h.l2]; omega
    have hx2 : x ∈ T.links[i.toNat] := by
      unfold TreeT.row at hx
      rw [getD_list hl] at hx
      split at hx
      · exact hx
      · exact (List.mem_filter.1 hx).1
    exact h.cost _ (List.getElem_mem hl) x hx2
  · simp at hx
set_option maxHeartbeats 2000000 in
theorem Row_tree {T : TreeT} {v u : Value} {ns : List Int} {H : Hp} (ht : TreeR H v T) (hT : GoodT T) (hs : Sl (kInt .i64) H u ns) (hl : ns.length ≤ 1000000) :
    ACalls Try.prog 16 #[v, u] H (fun r H' => H.le H' ∧ ∃ w,
      (if ns.length = T.vars.length then (match rowAcc T ns T.vars.length with
        | some cn => r = .tuple #[.agg #[w, .int .i64 cn.1, .int .u64 cn.2], .bool true] ∧ Sl (kInt .i64) H' w ns
        | none => r = .tuple #[.agg #[.slice none 0 0, .int .i64 0, .int .u64 0], .bool false])
      else r = .tuple #[.agg #[.slice none 0 0, .int .i64 0, .int .u64 0], .bool false])) := by
  have ht0 := ht
  obtain ⟨b, mb, s0, s1, s2, es, rfl, hb, hmb, hg, hs0, hs1, hs2, hm, hsp⟩ := ht
  obtain ⟨A0, c0, rfl⟩ := hs0.shape
  obtain ⟨A1, c1, rfl⟩ := hs1.shape
  obtain ⟨A2, c2, rfl⟩ := hs2.shape
  obtain ⟨Au, cu, rfl⟩ := hs.shape
  have hp1 := hT.l1
  have hfew := hT.few
  refine acalls_of_code Try.func16 rfl rfl rfl (by simp) ?_
  refine ac_seq ?_
  refine ac_region (by kernel_rfl) ?_
  refine aops_make (am_zero (l := [.slice none 0 0, .int .i64 0, .int .u64 0]) inf44.zero rfl (by decide)) ?_
  first | refine aops_val (av_assign_bool rfl) ?_ | refine aops_val (av_assign rfl) ?_
  refine ac_seq ?_
  refine ac_seq ?_
  refine ac_region (by kernel_rfl) ?_
  first | refine aops_val (av_move_ptr rfl) ?_ | refine aops_val (av_move rfl) ?_
  refine aops_val (av_ptr_eq_nil rfl t_spot rfl Try.underlying33) ?_
  first | refine aops_val (av_move_bool rfl) ?_ | refine aops_val (av_move rfl) ?_
  refine aops_guard rfl rfl rfl ?_ ?_
  · intro hg1
    cases hg1
  · intro hg1
    have hp1 := hg1; try simp only [decide_eq_true_eq, decide_eq_false_iff_not, Bool.not_eq_true', Bool.not_eq_false'] at hp1
    first | refine aops_wval (want_yes rfl rfl rfl hg1) (av_move_sl rfl) ?_ | refine aops_wval (want_yes rfl rfl rfl hg1) (av_move rfl) ?_
    refine aops_wval (want_yes rfl rfl rfl hg1) (av_len rfl Try.underlying23) ?_
    first | refine aops_wval (want_yes rfl rfl rfl hg1) (av_move_ptr rfl) ?_ | refine aops_wval (want_yes rfl rfl rfl hg1) (av_move rfl) ?_
    refine aops_wval (want_yes rfl rfl rfl hg1) (av_nilCheck rfl) ?_
    refine aops_wval (want_yes rfl rfl rfl hg1) (av_fieldOff (off := 0) rfl Try.underlying89 rfl inf22.size (by decide) rfl) ?_
    refine aops_wval (want_yes rfl rfl rfl hg1) (av_load1 rfl Try.underlying22 rfl t_cell) ?_
    refine aops_wval (want_yes rfl rfl rfl hg1) (av_len rfl Try.underlying22) ?_
    refine aops_wval (want_yes rfl rfl rfl hg1) (av_ne rfl rfl) ?_
    refine aops_val (av_pick_bool (congrArg Value.bool hg1) rfl) ?_
    refine ac_split rfl rfl ?_ ?_
    · intro hc2
      have hne : ns.length ≠ T.vars.length := by have := of_decide_eq_true hc2; omega
      refine ac_seq ?_
      refine ac_region (by kernel_rfl) ?_
      first | refine aops_val (av_build (pl := [(0, 1), (1, 1), (2, 1)]) (r := [.slice _ _ _, .int .i64 _, .int .u64 _]) Try.underlying44 inf44.zero (by decide) rfl rfl) ?_ | refine aops_val (av_build (pl := [(0, 1), (1, 1), (2, 1)]) (r := [_, .int .i64 _, .int .u64 _]) Try.underlying44 inf44.zero (by decide) rfl rfl) ?_
      first | refine aops_op (aop_putN (vs := [.slice _ _ _, .int .i64 _, .int .u64 _]) rfl rfl inf44.size t_get t_room rfl rfl ?_) | refine aops_op (aop_putN (vs := [_, .int .i64 _, .int .u64 _]) rfl rfl inf44.size t_get t_room rfl rfl ?_)
      first | refine aops_val (av_assign_bool rfl) ?_ | refine aops_val (av_assign rfl) ?_
      refine ac_ret ?_
      exact ⟨_, aresult2 (ares_cell (by first | assumption | rfl) (aload_agg (cs := [_, _, _]) Try.underlying44 rfl inf44.size t_cells)) (ares_tmp rfl), Hp.le_put_new (H.le_push _) (Nat.le_refl _) _, .slice none 0 0, by rw [if_neg hne]; rfl⟩
    · intro hc2
      have hlen : ns.length = T.vars.length := by have := of_decide_eq_false hc2; omega
      refine ac_skip ?_
      refine ac_seq ?_
      refine ac_region (by kernel_rfl) ?_
      first | refine aops_val (av_move_sl rfl) ?_ | refine aops_val (av_move rfl) ?_
      refine aops_op (aop_call (Clone_ints ns _ _ (hs.mono (H.le_push _).sees) (by omega)) rfl Try.func59 rfl rfl rfl ?_)
      rintro v5 H5 ⟨hle5, hs5⟩; obtain ⟨A5, c5, rfl⟩ := hs5.shape; have hz5 := hle5.1; simp only [Hp.push_size] at hz5; have g4 : H5.get H.size = .own 0 [.slice none 0 0, .int .i64 0, .int .u64 0] := le_got hle5 (by simp) (by intro e; cases e) t_get
      first | refine aops_val (av_build (pl := [(0, 1), (1, 1), (2, 1)]) (r := [.slice _ _ _, .int .i64 _, .int .u64 _]) Try.underlying44 inf44.zero (by decide) rfl rfl) ?_ | refine aops_val (av_build (pl := [(0, 1), (1, 1), (2, 1)]) (r := [_, .int .i64 _, .int .u64 _]) Try.underlying44 inf44.zero (by decide) rfl rfl) ?_
      refine aops_make (am_zero (l := [.slice none 0 0, .int .i64 0, .int .u64 0]) inf44.zero rfl (by decide)) ?_
      first | refine aops_op (aop_putN (vs := [.slice _ _ _, .int .i64 _, .int .u64 _]) rfl rfl inf44.size t_get t_room rfl rfl ?_) | refine aops_op (aop_putN (vs := [_, .int .i64 _, .int .u64 _]) rfl rfl inf44.size t_get t_room rfl rfl ?_)
      refine ac_seq ?_
      refine ac_seq ?_
      refine ac_region (by kernel_rfl) ?_
      first | refine aops_val (av_move_sl rfl) ?_ | refine aops_val (av_move rfl) ?_
      refine aops_val (av_len rfl Try.underlying23) ?_
      first | refine aops_val (av_move_int rfl) ?_ | refine aops_val (av_move rfl) ?_
      refine ac_block ?_
      refine ac_loop (fun n t H' => ∃ (i : Nat) (c m : Int), i ≤ ns.length ∧ n = ns.length - i ∧ H5.le H' ∧ H5.size < H'.size ∧ H'.get H5.size = .own 0 [.slice A5 ns.length c5, .int .i64 c, .int .u64 m] ∧ rowAcc T ns i = some (c, m) ∧ 0 ≤ c ∧ c ≤ 2000000000 * i ∧ 0 ≤ m ∧ t 0 = .pointer (some ⟨b, 0, none⟩) ∧ t 1 = .slice Au ns.length cu ∧ t 4 = .pointer (some ⟨H.size, 0, none⟩) ∧ t 6 = .pointer (some ⟨H5.size, 0, none⟩) ∧ t 28 = .slice Au ns.length cu ∧ t 29 = .int .i64 ns.length ∧ t 30 = .int .i64 i) (ns.length) (⟨0, 0, 1, by omega, rfl, Hp.le_put_new (H5.le_push _) (Nat.le_refl _) _, by simp, Hp.put_same _ _ _, rfl, by omega, by omega, by omega, rfl, rfl, rfl, rfl, rfl, rfl, rfl⟩) ?_
      rintro n t H6 ⟨i, cc, m, hi, rfl, hle6, hz6, g6, hacc, hc0, hc1, hm0, e0, e1, e4, e6, e28, e29, e30⟩
      have g46 := le_got hle6 (by omega) (by intro e; cases e) g4
      have leH6 : H.le H6 := Hp.le_trans (H.le_push _) (Hp.le_trans hle5 hle6)
      have hg6 := le_got leH6 hb (by intro e; cases e) hg
      refine ac_seq ?_
      refine ac_region (by kernel_rfl) ?_
      refine aops_val (av_lt (by first | assumption | rfl) (by first | assumption | rfl)) ?_
      refine ac_seq ?_
      refine ac_split rfl rfl ?_ ?_
      · intro hc3
        (try simp only [decide_eq_true_eq, decide_eq_false_iff_not, Bool.not_eq_true', Bool.not_eq_false'] at hc3)
        refine ac_skip ?_
        refine ac_seq ?_
        refine ac_block ?_
        refine ac_seq ?_
        refine ac_region (by kernel_rfl) ?_
        have hix : i < ns.length := by omega
        obtain ⟨b1, o1, rfl, hb1, hcell1⟩ := (hs.mono leH6.sees).int_at (i := (i : Int)) (by omega) (by omega)
        rw [Int.toNat_natCast] at hcell1
        obtain ⟨b2, o2, rfl, hb2, hcell2⟩ := (hs1.mono leH6.sees).int_at (i := (i : Int)) (by omega) (by omega)
        rw [Int.toNat_natCast] at hcell2
        first | refine aops_val (av_move_int (by first | assumption | rfl)) ?_ | refine aops_val (av_move (by first | assumption | rfl)) ?_
        refine aops_val (av_indexAddr (by first | assumption | rfl) (by first | assumption | rfl) Try.underlying23 inf3.size t_idx t_idx) ?_
        refine aops_val (av_load1 rfl Try.underlying3 rfl t_cell) ?_
        first | refine aops_val (av_assign_int rfl) ?_ | refine aops_val (av_assign rfl) ?_
        first | refine aops_val (av_assign_int rfl) ?_ | refine aops_val (av_assign rfl) ?_
        refine ac_seq ?_
        refine ac_region (by kernel_rfl) ?_
        first | refine aops_val (av_assign_int rfl) ?_ | refine aops_val (av_assign rfl) ?_
        refine ac_seq ?_
        refine ac_seq ?_
        refine ac_region (by kernel_rfl) ?_
        first | refine aops_val (av_move_ptr (by first | assumption | rfl)) ?_ | refine aops_val (av_move (by first | assumption | rfl)) ?_
        refine aops_val (av_nilCheck rfl) ?_
        refine aops_val (av_fieldOff (off := 1) rfl Try.underlying89 rfl inf23.size (by decide) rfl) ?_
        refine aops_val (av_load1 rfl Try.underlying23 rfl t_cell) ?_
        first | refine aops_val (av_move_int rfl) ?_ | refine aops_val (av_move rfl) ?_
        refine aops_val (av_indexAddr rfl rfl Try.underlying23 inf3.size t_idx t_idx) ?_
        refine aops_val (av_load1 rfl Try.underlying3 rfl t_cell) ?_
        refine aops_val (av_ne rfl rfl) ?_
        refine ac_split rfl rfl ?_ ?_
        · intro hc4
          have hpar : T.parent.getD i 0 ≠ -1 := of_decide_eq_true hc4
          have hpi := (hT.par i (by omega)).resolve_left hpar
          have hab : aboveOf T ns i = ns.getD (T.parent.getD i 0).toNat 0 := by unfold aboveOf; rw [if_neg hpar]
          obtain ⟨b3, o3, e3, hb3, hcell3⟩ := (hs.mono leH6.sees).int_at (i := T.parent.getD i 0) hpi.1 (by omega)
          simp only [Option.some.injEq, Addr.mk.injEq, and_true] at e3
          obtain ⟨rfl, rfl⟩ := e3
          refine ac_region (by kernel_rfl) ?_
          first | refine aops_val (av_move_sl (by first | assumption | rfl)) ?_ | refine aops_val (av_move (by first | assumption | rfl)) ?_
          first | refine aops_val (av_move_ptr (by first | assumption | rfl)) ?_ | refine aops_val (av_move (by first | assumption | rfl)) ?_
          refine aops_val (av_nilCheck rfl) ?_
          refine aops_val (av_fieldOff (off := 1) rfl Try.underlying89 rfl inf23.size (by decide) rfl) ?_
          refine aops_val (av_load1 rfl Try.underlying23 rfl t_cell) ?_
          first | refine aops_val (av_move_int rfl) ?_ | refine aops_val (av_move rfl) ?_
          refine aops_val (av_indexAddr rfl rfl Try.underlying23 inf3.size t_idx t_idx) ?_
          refine aops_val (av_load1 rfl Try.underlying3 rfl t_cell) ?_
          refine aops_val (av_indexAddr rfl rfl Try.underlying23 inf3.size t_idx t_idx) ?_
          refine aops_val (av_load1 rfl Try.underlying3 rfl t_cell) ?_
          first | refine aops_val (av_assign_int rfl) ?_ | refine aops_val (av_assign rfl) ?_
          refine ac_seq ?_
          refine ac_region (by kernel_rfl) ?_
          first | refine aops_val (av_move_ptr (by first | assumption | rfl)) ?_ | refine aops_val (av_move (by first | assumption | rfl)) ?_
          first | refine aops_val (av_move_int rfl) ?_ | refine aops_val (av_move rfl) ?_
          first | refine aops_val (av_move_int rfl) ?_ | refine aops_val (av_move rfl) ?_
          first | refine aops_val (av_move_int rfl) ?_ | refine aops_val (av_move rfl) ?_
          refine aops_op (aop_call (find_tree (ht0.mono leH6) hT.l1 hT.l2 hT.lens i _ (ns.getD i 0) (hT.sort _ _)) rfl Try.func60 rfl rfl rfl ?_)
          rintro v7 H7 ⟨hle7, rfl⟩; obtain ⟨fo, hfo⟩ : ∃ fo, fo = findB (T.group i (aboveOf T ns i)) (ns.getD i 0) := ⟨_, rfl⟩; have hfo2 := hfo; rw [hab] at hfo2; rw [← hfo2]; have z7 := hle7.1; have g47 := le_got hle7 (by omega) (by intro e; cases e) g46; have g67 := le_got hle7 hz6 (by intro e; cases e) g6; have leH57 := Hp.le_trans hle6 hle7
          refine aops_val (av_move rfl) ?_
          refine aops_val (av_extract rfl rfl) ?_
          refine aops_val (av_extract rfl rfl) ?_
          refine aops_make (am_zero (l := [.int .i64 0, .int .i64 0, .int .i64 0, .int .u64 0]) inf54.zero rfl (by decide)) ?_
          first | refine aops_op (aop_putN (vs := [.int .i64 _, .int .i64 _, .int .i64 _, .int .u64 _]) rfl rfl inf54.size t_get t_room rfl rfl ?_)
          first | refine aops_val (av_assign_bool rfl) ?_ | refine aops_val (av_assign rfl) ?_
          refine ac_seq ?_
          refine ac_seq ?_
          have hfb : 0 ≤ (fo.getD dLink).cost ∧ (fo.getD dLink).cost ≤ 2000000000 ∧ 0 ≤ (fo.getD dLink).n := by
            cases hc : fo with
            | none => decide
            | some y => exact hT.group_mem (i := i) (above := aboveOf T ns i) (by rw [hfo] at hc; exact List.mem_of_find?_eq_some hc)
          have hnx : rowAcc T ns (i + 1) = fo.map fun y => (cc + y.cost, timesI m y.n) := by
            show (rowAcc T ns i).bind _ = _
            rw [hacc, hfo]; rfl
          refine ac_region (by kernel_rfl) ?_
          first | refine aops_val (av_move_bool rfl) ?_ | refine aops_val (av_move rfl) ?_
          refine aops_val (av_not rfl) ?_
          refine ac_split rfl rfl ?_ ?_
          · intro hc5
            have hnone : fo = none := by have h := hc5; cases hf : fo with | none => rfl | some y => rw [hf] at h; cases h
            have hlast : rowAcc T ns T.vars.length = none := rowAcc_none (i := i + 1) (by rw [hnx, hnone]; rfl) _ (by omega)
            refine ac_seq ?_
            refine ac_region (by kernel_rfl) ?_
            first | refine aops_val (av_build (pl := [(0, 1), (1, 1), (2, 1)]) (r := [.slice _ _ _, .int .i64 _, .int .u64 _]) Try.underlying44 inf44.zero (by decide) rfl rfl) ?_ | refine aops_val (av_build (pl := [(0, 1), (1, 1), (2, 1)]) (r := [_, .int .i64 _, .int .u64 _]) Try.underlying44 inf44.zero (by decide) rfl rfl) ?_
            first | refine aops_op (aop_putN (vs := [.slice _ _ _, .int .i64 _, .int .u64 _]) (by first | assumption | rfl) (by first | assumption | rfl) inf44.size t_get t_room (by first | assumption | rfl) (by first | assumption | rfl) ?_) | refine aops_op (aop_putN (vs := [_, .int .i64 _, .int .u64 _]) (by first | assumption | rfl) (by first | assumption | rfl) inf44.size t_get t_room (by first | assumption | rfl) (by first | assumption | rfl) ?_)
            first | refine aops_val (av_assign_bool rfl) ?_ | refine aops_val (av_assign rfl) ?_
            refine ac_ret ?_
            exact ⟨_, aresult2 (ares_cell (by first | assumption | rfl) (aload_agg (cs := [_, _, _]) Try.underlying44 rfl inf44.size t_cells)) (ares_tmp rfl), Hp.le_put_new (Hp.le_put_new (Hp.le_push' (Hp.le_trans leH6 hle7) _) (by first | omega | (simp; done) | (simp; omega)) _) (Nat.le_refl _) _, .slice none 0 0, by rw [if_pos hlen, hlast]; rfl⟩
          · intro hc5
            obtain ⟨y, rfl⟩ : ∃ y, fo = some y := by have h := hc5; cases hf : fo with | none => rw [hf] at h; cases h | some y => exact ⟨y, rfl⟩
            refine ac_skip ?_
            refine ac_seq ?_
            refine ac_region (by kernel_rfl) ?_
            refine aops_val (av_fieldOff (off := 1) (by first | assumption | rfl) Try.underlying44 (by first | assumption | rfl) inf3.size (by decide) (by first | assumption | rfl)) ?_
            refine aops_val (av_load1 rfl Try.underlying3 rfl t_cell) ?_
            refine aops_val (av_fieldOff (off := 2) rfl Try.underlying54 rfl inf3.size (by decide) rfl) ?_
            refine aops_val (av_load1 rfl Try.underlying3 rfl t_cell) ?_
            first | refine aops_val (av_add64 rfl rfl t_fits) ?_ | refine aops_val (av_add rfl rfl) ?_
            refine aops_val (av_fieldOff (off := 1) (by first | assumption | rfl) Try.underlying44 (by first | assumption | rfl) inf3.size (by decide) (by first | assumption | rfl)) ?_
            first | refine aops_op (aop_put1 rfl rfl rfl inf3.size t_get t_room rfl ?_)
            refine ac_region (by kernel_rfl) ?_
            refine aops_val (av_fieldOff (off := 2) (by first | assumption | rfl) Try.underlying44 (by first | assumption | rfl) inf42.size (by decide) (by first | assumption | rfl)) ?_
            refine aops_val (av_load1 rfl Try.underlying42 rfl t_cell) ?_
            refine aops_val (av_fieldOff (off := 3) rfl Try.underlying54 rfl inf42.size (by decide) rfl) ?_
            refine aops_val (av_load1 rfl Try.underlying42 rfl t_cell) ?_
            refine aops_op (aop_call (Times_u64 m ((some y).getD dLink).n hm0 hfb.2.2 _) rfl Try.func61 rfl rfl rfl ?_)
            rintro v8 H8 ⟨rfl, rfl⟩
            refine aops_val (av_fieldOff (off := 2) (by first | assumption | rfl) Try.underlying44 (by first | assumption | rfl) inf42.size (by decide) (by first | assumption | rfl)) ?_
            first | refine aops_op (aop_put1 rfl rfl rfl inf42.size t_get t_room rfl ?_)
            refine ac_region (by kernel_rfl) ?_
            first | refine aops_val (av_add64 (by first | assumption | rfl) (by first | assumption | rfl) t_fits) ?_ | refine aops_val (av_add (by first | assumption | rfl) (by first | assumption | rfl)) ?_
            first | refine aops_val (av_move_int rfl) ?_ | refine aops_val (av_move rfl) ?_
            exact ⟨ns.length - (i + 1), by omega, i + 1, cc + y.cost, timesI m y.n, by omega, rfl, Hp.le_put_new (Hp.le_put_new (Hp.le_put_new (Hp.le_push' leH57 _) (by omega) _) (Nat.le_refl _) _) (Nat.le_refl _) _, by simp; omega, Hp.put_same _ _ _, hnx, by have := hfb.1; simp only [Option.getD_some] at this; omega, by have := hfb.2.1; simp only [Option.getD_some] at this; omega, (timesI_le hm0 hfb.2.2).1, e0, e1, e4, e6, e28, e29, rfl⟩
        · intro hc4
          have hpar : T.parent.getD i 0 = -1 := by have := of_decide_eq_false hc4; exact Decidable.not_not.1 this
          have hab : aboveOf T ns i = -1 := by unfold aboveOf; rw [if_pos hpar]
          refine ac_skip ?_
          refine ac_seq ?_
          refine ac_region (by kernel_rfl) ?_
          first | refine aops_val (av_move_ptr (by first | assumption | rfl)) ?_ | refine aops_val (av_move (by first | assumption | rfl)) ?_
          first | refine aops_val (av_move_int rfl) ?_ | refine aops_val (av_move rfl) ?_
          first | refine aops_val (av_move_int rfl) ?_ | refine aops_val (av_move rfl) ?_
          first | refine aops_val (av_move_int rfl) ?_ | refine aops_val (av_move rfl) ?_
          refine aops_op (aop_call (find_tree (ht0.mono leH6) hT.l1 hT.l2 hT.lens i _ (ns.getD i 0) (hT.sort _ _)) rfl Try.func60 rfl rfl rfl ?_)
          rintro v7 H7 ⟨hle7, rfl⟩; obtain ⟨fo, hfo⟩ : ∃ fo, fo = findB (T.group i (aboveOf T ns i)) (ns.getD i 0) := ⟨_, rfl⟩; have hfo2 := hfo; rw [hab] at hfo2; rw [← hfo2]; have z7 := hle7.1; have g47 := le_got hle7 (by omega) (by intro e; cases e) g46; have g67 := le_got hle7 hz6 (by intro e; cases e) g6; have leH57 := Hp.le_trans hle6 hle7
          refine aops_val (av_move rfl) ?_
          refine aops_val (av_extract rfl rfl) ?_
          refine aops_val (av_extract rfl rfl) ?_
          refine aops_make (am_zero (l := [.int .i64 0, .int .i64 0, .int .i64 0, .int .u64 0]) inf54.zero rfl (by decide)) ?_
          first | refine aops_op (aop_putN (vs := [.int .i64 _, .int .i64 _, .int .i64 _, .int .u64 _]) rfl rfl inf54.size t_get t_room rfl rfl ?_)
          first | refine aops_val (av_assign_bool rfl) ?_ | refine aops_val (av_assign rfl) ?_
          refine ac_seq ?_
          refine ac_seq ?_
          have hfb : 0 ≤ (fo.getD dLink).cost ∧ (fo.getD dLink).cost ≤ 2000000000 ∧ 0 ≤ (fo.getD dLink).n := by
            cases hc : fo with
            | none => decide
            | some y => exact hT.group_mem (i := i) (above := aboveOf T ns i) (by rw [hfo] at hc; exact List.mem_of_find?_eq_some hc)
          have hnx : rowAcc T ns (i + 1) = fo.map fun y => (cc + y.cost, timesI m y.n) := by
            show (rowAcc T ns i).bind _ = _
            rw [hacc, hfo]; rfl
          refine ac_region (by kernel_rfl) ?_
          first | refine aops_val (av_move_bool rfl) ?_ | refine aops_val (av_move rfl) ?_
          refine aops_val (av_not rfl) ?_
          refine ac_split rfl rfl ?_ ?_
          · intro hc6
            have hnone : fo = none := by have h := hc6; cases hf : fo with | none => rfl | some y => rw [hf] at h; cases h
            have hlast : rowAcc T ns T.vars.length = none := rowAcc_none (i := i + 1) (by rw [hnx, hnone]; rfl) _ (by omega)
            refine ac_seq ?_
            refine ac_region (by kernel_rfl) ?_
            first | refine aops_val (av_build (pl := [(0, 1), (1, 1), (2, 1)]) (r := [.slice _ _ _, .int .i64 _, .int .u64 _]) Try.underlying44 inf44.zero (by decide) rfl rfl) ?_ | refine aops_val (av_build (pl := [(0, 1), (1, 1), (2, 1)]) (r := [_, .int .i64 _, .int .u64 _]) Try.underlying44 inf44.zero (by decide) rfl rfl) ?_
            first | refine aops_op (aop_putN (vs := [.slice _ _ _, .int .i64 _, .int .u64 _]) (by first | assumption | rfl) (by first | assumption | rfl) inf44.size t_get t_room (by first | assumption | rfl) (by first | assumption | rfl) ?_) | refine aops_op (aop_putN (vs := [_, .int .i64 _, .int .u64 _]) (by first | assumption | rfl) (by first | assumption | rfl) inf44.size t_get t_room (by first | assumption | rfl) (by first | assumption | rfl) ?_)
            first | refine aops_val (av_assign_bool rfl) ?_ | refine aops_val (av_assign rfl) ?_
            refine ac_ret ?_
            exact ⟨_, aresult2 (ares_cell (by first | assumption | rfl) (aload_agg (cs := [_, _, _]) Try.underlying44 rfl inf44.size t_cells)) (ares_tmp rfl), Hp.le_put_new (Hp.le_put_new (Hp.le_push' (Hp.le_trans leH6 hle7) _) (by first | omega | (simp; done) | (simp; omega)) _) (Nat.le_refl _) _, .slice none 0 0, by rw [if_pos hlen, hlast]; rfl⟩
          · intro hc6
            obtain ⟨y, rfl⟩ : ∃ y, fo = some y := by have h := hc6; cases hf : fo with | none => rw [hf] at h; cases h | some y => exact ⟨y, rfl⟩
            refine ac_skip ?_
            refine ac_seq ?_
            refine ac_region (by kernel_rfl) ?_
            refine aops_val (av_fieldOff (off := 1) (by first | assumption | rfl) Try.underlying44 (by first | assumption | rfl) inf3.size (by decide) (by first | assumption | rfl)) ?_
            refine aops_val (av_load1 rfl Try.underlying3 rfl t_cell) ?_
            refine aops_val (av_fieldOff (off := 2) rfl Try.underlying54 rfl inf3.size (by decide) rfl) ?_
            refine aops_val (av_load1 rfl Try.underlying3 rfl t_cell) ?_
            first | refine aops_val (av_add64 rfl rfl t_fits) ?_ | refine aops_val (av_add rfl rfl) ?_
            refine aops_val (av_fieldOff (off := 1) (by first | assumption | rfl) Try.underlying44 (by first | assumption | rfl) inf3.size (by decide) (by first | assumption | rfl)) ?_
            first | refine aops_op (aop_put1 rfl rfl rfl inf3.size t_get t_room rfl ?_)
            refine ac_region (by kernel_rfl) ?_
            refine aops_val (av_fieldOff (off := 2) (by first | assumption | rfl) Try.underlying44 (by first | assumption | rfl) inf42.size (by decide) (by first | assumption | rfl)) ?_
            refine aops_val (av_load1 rfl Try.underlying42 rfl t_cell) ?_
            refine aops_val (av_fieldOff (off := 3) rfl Try.underlying54 rfl inf42.size (by decide) rfl) ?_
            refine aops_val (av_load1 rfl Try.underlying42 rfl t_cell) ?_
            refine aops_op (aop_call (Times_u64 m ((some y).getD dLink).n hm0 hfb.2.2 _) rfl Try.func61 rfl rfl rfl ?_)
            rintro v8 H8 ⟨rfl, rfl⟩
            refine aops_val (av_fieldOff (off := 2) (by first | assumption | rfl) Try.underlying44 (by first | assumption | rfl) inf42.size (by decide) (by first | assumption | rfl)) ?_
            first | refine aops_op (aop_put1 rfl rfl rfl inf42.size t_get t_room rfl ?_)
            refine ac_region (by kernel_rfl) ?_
            first | refine aops_val (av_add64 (by first | assumption | rfl) (by first | assumption | rfl) t_fits) ?_ | refine aops_val (av_add (by first | assumption | rfl) (by first | assumption | rfl)) ?_
            first | refine aops_val (av_move_int rfl) ?_ | refine aops_val (av_move rfl) ?_
            exact ⟨ns.length - (i + 1), by omega, i + 1, cc + y.cost, timesI m y.n, by omega, rfl, Hp.le_put_new (Hp.le_put_new (Hp.le_put_new (Hp.le_push' leH57 _) (by omega) _) (Nat.le_refl _) _) (Nat.le_refl _) _, by simp; omega, Hp.put_same _ _ _, hnx, by have := hfb.1; simp only [Option.getD_some] at this; omega, by have := hfb.2.1; simp only [Option.getD_some] at this; omega, (timesI_le hm0 hfb.2.2).1, e0, e1, e4, e6, e28, e29, rfl⟩
      · intro hc3
        (try simp only [decide_eq_true_eq, decide_eq_false_iff_not, Bool.not_eq_true', Bool.not_eq_false'] at hc3)
        refine ac_exit ?_
        refine ac_seq ?_
        refine ac_region (by kernel_rfl) ?_
        first | refine aops_val (av_loadN (cs := [.slice _ _ _, .int .i64 _, .int .u64 _]) (by first | assumption | rfl) Try.underlying44 (by first | assumption | rfl) inf44.size t_cells) ?_ | refine aops_val (av_loadN (cs := [_, .int .i64 _, .int .u64 _]) (by first | assumption | rfl) Try.underlying44 (by first | assumption | rfl) inf44.size t_cells) ?_
        first | refine aops_op (aop_putN (vs := [.slice _ _ _, .int .i64 _, .int .u64 _]) (by first | assumption | rfl) (by first | assumption | rfl) inf44.size t_get t_room (by first | assumption | rfl) (by first | assumption | rfl) ?_) | refine aops_op (aop_putN (vs := [_, .int .i64 _, .int .u64 _]) (by first | assumption | rfl) (by first | assumption | rfl) inf44.size t_get t_room (by first | assumption | rfl) (by first | assumption | rfl) ?_)
        first | refine aops_val (av_assign_bool rfl) ?_ | refine aops_val (av_assign rfl) ?_
        refine ac_ret ?_
        have hk : i = T.vars.length := by omega
        subst hk
        exact ⟨_, aresult2 (ares_cell (by first | assumption | rfl) (aload_agg (cs := [_, _, _]) Try.underlying44 rfl inf44.size t_cells)) (ares_tmp rfl), Hp.le_put_new leH6 (Nat.le_refl _) _, .slice A5 ns.length c5, by rw [if_pos hlen, hacc]; exact ⟨rfl, hs5.mono (hle6.sees.trans (Hp.sees_box _ g46))⟩⟩
end Go.Proofs.Ytcaeoebphfjfiaa.Am


/- The tree that is made, place by place. -/
namespace Go.Proofs.Ytcaeoebphfjfiaa.Am
open Go Go.RowKit
set_option maxRecDepth 100000
set_option linter.unusedVariables false
set_option linter.unusedSimpArgs false

/-- Costs that may be added. -/
structure Cheap (p : Parts) : Prop where
  nodes : ∀ v, ∀ x ∈ nd p v, 0 ≤ x.cost ∧ x.cost ≤ 1000000000 ∧ 0 ≤ x.n
  links : ∀ v, ∀ x ∈ lk p v, 0 ≤ x.cost ∧ x.cost ≤ 1000000000 ∧ 0 ≤ x.n
theorem Cheap.sub {p q : Parts} (h : Cheap p) (hs : Sub q p) : Cheap q := ⟨fun v x hx => h.nodes v x ((hs v).1.subset hx), fun v x hx => h.links v x ((hs v).2.subset hx)⟩
theorem goodL_strict {xs : List Link} (h : GoodL xs) (hb : ∀ x ∈ xs, x.a = x.b) : xs.Pairwise fun x y => x.a < y.a := by
  refine List.Pairwise.imp_of_mem (R := fun x y => lessL x y = true) (fun {x y} hx hy hl => ?_) (goodL_iff.1 h).2
  have e1 := hb x hx
  have e2 := hb y hy
  simp only [lessL, Bool.or_eq_true, Bool.and_eq_true, decide_eq_true_eq] at hl
  omega
theorem rise_weigh {ns ls : List Link} (h : RiseA ls) : RiseA (ls.map (weigh ns)) := by
  intro i j hi hj hij
  rw [List.getElem_map, List.getElem_map]
  exact h i j (by simpa using hi) (by simpa using hj) hij
theorem treeOf_len {f : Forest} (x : Parts) : (treeOf f x).vars.length = f.order.length ∧ (treeOf f x).parent.length = f.order.length ∧ (treeOf f x).links.length = f.order.length := by simp [treeOf]
theorem vAt_get {f : Forest} {i : Nat} (hi : i < f.order.length) : vAt f i = f.order[i].toNat := by unfold vAt; rw [getD_at hi]
theorem treeOf_at {f : Forest} (x : Parts) {i : Nat} (hi : i < f.order.length) : (treeOf f x).vars[i]? = some (f.vars.getD (vAt f i) ⟨#[]⟩) ∧ (treeOf f x).parent[i]? = some (atI f.order (par f (vAt f i))) ∧ (treeOf f x).links[i]? = some (placeLinks f x (vAt f i)) := by
  have e := vAt_get hi
  refine ⟨?_, ?_, ?_⟩ <;> simp [treeOf, List.getElem?_eq_getElem hi, e]
theorem take_at {α : Type} {xs : List α} {i : Nat} {y : α} (h : xs[i]? = some y) : xs.take i ++ [y] = xs.take (i + 1) := by
  obtain ⟨hi, rfl⟩ := List.getElem?_eq_some_iff.1 h
  exact take_next hi
theorem mapGet_nil (k : Value) : mapGet [] k = none := mapGet_none fun e h => by cases h
theorem Spots.zero (T : TreeT) : Spots T 0 [] := ⟨fun e h => (by cases h), fun i h => (by omega), fun _ _ _ => mapGet_nil _⟩
theorem Spots.step {T : TreeT} {i : Nat} {es es' : List (Value × Value)} (h : Spots T i es)
    (hres : if T.parent.getD i 0 = -1 then es' = mapPut es (spotV i (-1)) (spanV 0 (T.links.getD i []).length) else Noted (T.links.getD i []) i (T.links.getD i []).length es es') : Spots T (i + 1) es' := by
  have other : ∀ (j : Nat) above, j ≠ i → mapGet es' (spotV j above) = mapGet es (spotV j above) := fun j above hj => by
    split at hres
    · subst hres
      exact mapGet_other fun e => hj (by have := (spotV_inj e).1; omega)
    · exact hres.other j above hj
  refine ⟨?_, fun j hj above hroot => ?_, fun j above hj => by rw [other j above (by omega)]; exact h.none j above (by omega)⟩
  · split at hres
    · subst hres; exact mapPut_keys h.keys ⟨_, _, rfl⟩
    · exact hres.keys
  · by_cases hji : j = i
    · subst hji
      split at hres
      · rename_i hr
        have := hroot hr
        subst this
        subst hres
        refine ⟨0, (T.links.getD j []).length, by rw [mapGet_put]; rfl, by omega, Nat.le_refl _, ?_⟩
        unfold TreeT.row
        rw [if_pos hr, List.drop_zero, List.take_length]
      · rename_i hr
        have hrow : T.row j above = (T.links.getD j []).filter fun l => decide (l.a = above) := by unfold TreeT.row; rw [if_neg hr]
        by_cases hex : ∃ (k : Nat) (h : k < (T.links.getD j []).length), k < (T.links.getD j []).length ∧ (T.links.getD j [])[k].a = above
        · obtain ⟨fr, to, h1, h2, h3, h4⟩ := hres.yes above hex
          exact ⟨fr, to, by rw [h1]; rfl, h2, h3, by rw [hrow]; exact h4⟩
        · refine ⟨0, 0, by rw [hres.no above hex]; rfl, Nat.le_refl _, Nat.zero_le _, ?_⟩
          rw [hrow, List.filter_eq_nil_iff.2]
          · rfl
          · intro l hl e
            obtain ⟨k, hk, rfl⟩ := List.getElem_of_mem hl
            exact hex ⟨k, hk, hk, of_decide_eq_true e⟩
    · rw [other j above hji]
      exact h.at_ j (by omega) above hroot
theorem stable_ints (st : Nat) : Stable (kInt .i64) st := Plain.stable (plain_int .i64) st
theorem stable_strs (st : Nat) : Stable kStr st := Plain.stable (fun _ _ _ _ h => h) st
theorem stable_links (st : Nat) : Stable kLink st := Plain.stable plain_link st
theorem stable_lists : Stable (kSl kLink) 1 := stable_sl (stable_links 1) (by decide)
end Go.Proofs.Ytcaeoebphfjfiaa.Am


/- Whether two parts are one, as the program judges it. -/
namespace Go.Proofs.Ytcaeoebphfjfiaa.Am
open Go Go.RowKit
set_option maxRecDepth 100000
set_option linter.unusedVariables false
set_option linter.unusedSimpArgs false

end Go.Proofs.Ytcaeoebphfjfiaa.Am


/- The exported functions of reducing. -/
namespace Go.Proofs.Ytcaeoebphfjfiaa.Am
open Go Go.RowKit
set_option maxRecDepth 100000
set_option linter.unusedVariables false
set_option linter.unusedSimpArgs false

theorem Small.fits {f : Forest} {p : Parts} (h : Small f p) (hg : GoodP f p) : Fits f.vars.length p := ⟨hg.n1, hg.n2, h.s5, h.s6⟩
def noParts : Parts := ⟨[], []⟩
theorem noParts_rep (H : Hp) : kParts.rep H noParts [.slice none 0 0, .slice none 0 0] := ⟨_, _, rfl, Sl.nil _ _, Sl.nil _ _⟩
theorem Of_parts (f : Forest) (p : Parts) (cs ds : List Value) (H : Hp) (hp : kForest.rep H f cs) (hq : kParts.rep H p ds) (hsm : Small f p) :
    ACalls Try.prog 49 #[.agg cs.toArray, .agg ds.toArray] H (fun r H' => ∃ (g : Bool) (es : List Value), (g = true ↔ GoodP f p) ∧ r = .tuple #[.agg es.toArray, .int .i64 (if g = true then 0 else 1)] ∧ kParts.rep H' (if g = true then ofP f p else noParts) es ∧ H.le H') := by
  have hp0 := hp
  have hq0 := hq
  obtain ⟨v0, v1, v2, v3, v4, rfl, hs0, hs1, hs2, hs3, hs4⟩ := hp
  obtain ⟨A0, c0, rfl⟩ := hs0.shape
  obtain ⟨A1, c1, rfl⟩ := hs1.shape
  obtain ⟨A2, c2, rfl⟩ := hs2.shape
  obtain ⟨A3, c3, rfl⟩ := hs3.shape
  obtain ⟨A4, c4, rfl⟩ := hs4.shape
  obtain ⟨u0, u1, rfl, hn0, hn1⟩ := hq
  obtain ⟨B0, d0, rfl⟩ := hn0.shape
  obtain ⟨B1, d1, rfl⟩ := hn1.shape
  refine acalls_of_code Try.func49 rfl rfl rfl (by simp) ?_
  refine ac_seq ?_
  refine ac_region (by kernel_rfl) ?_
  refine aops_make (am_box_agg rfl) ?_
  refine aops_make (am_box_agg rfl) ?_
  refine aops_make (am_zero (l := [.slice none 0 0, .slice none 0 0]) inf29.zero rfl (by decide)) ?_
  first | refine aops_val (av_assign_int rfl) ?_ | refine aops_val (av_assign rfl) ?_
  refine ac_seq ?_
  refine ac_seq ?_
  refine ac_region (by kernel_rfl) ?_
  first | refine aops_val (av_loadN (cs := [.slice _ _ _, .slice _ _ _, .slice _ _ _, .slice _ _ _, .slice _ _ _]) rfl Try.underlying26 rfl inf26.size t_cells) ?_ | refine aops_val (av_loadN (cs := [_, _, _, _, _]) rfl Try.underlying26 rfl inf26.size t_cells) ?_
  first | refine aops_val (av_loadN (cs := [.slice _ _ _, .slice _ _ _]) rfl Try.underlying29 rfl inf29.size t_cells) ?_ | refine aops_val (av_loadN (cs := [_, _]) rfl Try.underlying29 rfl inf29.size t_cells) ?_
  refine aops_op (aop_call (GoodP_dom f p _ _ _ (kForest.mono t_sees hp0) (kParts.mono t_sees hq0) hsm) rfl Try.func77 rfl rfl rfl ?_)
  rintro v5 H5 ⟨⟨g, rfl, hg⟩, rfl⟩
  refine aops_val (av_not rfl) ?_
  refine ac_split rfl rfl ?_ ?_
  · intro hc1
    have hgf : g = false := by simpa using hc1
    refine ac_seq ?_
    refine ac_region (by kernel_rfl) ?_
    first | refine aops_val (av_build (pl := [(0, 1), (1, 1)]) (r := [.slice _ _ _, .slice _ _ _]) Try.underlying29 inf29.zero (by decide) rfl rfl) ?_ | refine aops_val (av_build (pl := [(0, 1), (1, 1)]) (r := [_, _]) Try.underlying29 inf29.zero (by decide) rfl rfl) ?_
    first | refine aops_op (aop_putN (vs := [.slice _ _ _, .slice _ _ _]) rfl rfl inf29.size t_get t_room rfl rfl ?_) | refine aops_op (aop_putN (vs := [_, _]) rfl rfl inf29.size t_get t_room rfl rfl ?_)
    first | refine aops_val (av_assign_int rfl) ?_ | refine aops_val (av_assign rfl) ?_
    refine ac_ret ?_
    subst hgf
    exact ⟨_, aresult2 (ares_cell (by first | assumption | rfl) (aload_agg (cs := [_, _]) Try.underlying29 rfl inf29.size t_cells)) (ares_tmp rfl), false, [_, _], hg, rfl, noParts_rep _, Hp.le_put_new (Hp.le_push' (Hp.le_push' (H.le_push _) _) _) (by simp <;> omega) _⟩
  · intro hc1
    have hgt : g = true := by simpa using hc1
    refine ac_skip ?_
    refine ac_seq ?_
    refine ac_region (by kernel_rfl) ?_
    first | refine aops_val (av_loadN (cs := [.slice _ _ _, .slice _ _ _, .slice _ _ _, .slice _ _ _, .slice _ _ _]) rfl Try.underlying26 rfl inf26.size t_cells) ?_ | refine aops_val (av_loadN (cs := [_, _, _, _, _]) rfl Try.underlying26 rfl inf26.size t_cells) ?_
    first | refine aops_val (av_loadN (cs := [.slice _ _ _, .slice _ _ _]) rfl Try.underlying29 rfl inf29.size t_cells) ?_ | refine aops_val (av_loadN (cs := [_, _]) rfl Try.underlying29 rfl inf29.size t_cells) ?_
    refine aops_op (aop_call (of_parts f p _ _ _ (kForest.mono t_sees hp0) (kParts.mono t_sees hq0) (hg.1 hgt).gf (hsm.fits (hg.1 hgt)) hsm.s0) rfl Try.func78 rfl rfl rfl ?_)
    rintro v6 H6 ⟨es, rfl, hes, hle6⟩; have hz6 := hle6.1; simp only [Hp.push_size] at hz6; obtain ⟨w0, w1, rfl, hm0, hm1⟩ := hes; obtain ⟨C0, k0, rfl⟩ := hm0.shape; obtain ⟨C1, k1, rfl⟩ := hm1.shape
    first | refine aops_op (aop_putN (vs := [.slice _ _ _, .slice _ _ _]) rfl rfl inf29.size t_get t_room rfl rfl ?_) | refine aops_op (aop_putN (vs := [_, _]) rfl rfl inf29.size t_get t_room rfl rfl ?_)
    first | refine aops_val (av_assign_int rfl) ?_ | refine aops_val (av_assign rfl) ?_
    refine ac_ret ?_
    subst hgt
    have k2 : H6.get (H.size + 2) = .own 0 [.slice none 0 0, .slice none 0 0] := le_got hle6 (by simp) (by intro e; cases e) t_get
    exact ⟨_, aresult2 (ares_cell (by first | assumption | rfl) (aload_agg (cs := [_, _]) Try.underlying29 rfl inf29.size t_cells)) (ares_tmp rfl), true, [_, _], hg, rfl, ⟨_, _, rfl, hm0.mono (Hp.sees_box _ k2), hm1.mono (Hp.sees_box _ k2)⟩, Hp.le_put_new (Hp.le_trans (Hp.le_push' (Hp.le_push' (H.le_push _) _) _) hle6) (by simp <;> omega) _⟩
end Go.Proofs.Ytcaeoebphfjfiaa.Am


/- Rows in plain words: which lists of nodes are a row; that what was reduced has the same rows; that each of its nodes and links is in some row. -/
namespace Go.Proofs.Ytcaeoebphfjfiaa.Am
open Go Go.RowKit
set_option maxRecDepth 100000
set_option linter.unusedVariables false
set_option linter.unusedSimpArgs false

/-- A variable's place. -/
def posOf (f : Forest) (v : Int) : Nat := (atI f.order v).toNat
theorem GoodF.vAt_lt {f : Forest} (h : GoodF f) {s : Nat} (hs : s < f.vars.length) : vAt f s < f.vars.length ∧ ((vAt f s : Nat) : Int) = f.order.getD s 0 := by
  have h1 := h.ok s hs
  have h2 := h1.1
  have h3 := h1.2.1
  unfold vAt
  omega
theorem GoodF.pos_par {f : Forest} (h : GoodF f) {s : Nat} (hs : s < f.vars.length) (hp : 0 ≤ par f (vAt f s)) : posOf f (par f (vAt f s)) < s ∧ ((vAt f (posOf f (par f (vAt f s))) : Nat) : Int) = par f (vAt f s) := by
  have h1 := (h.ok s hs).2.2.2
  have h2 : (f.order.getD s 0).toNat = vAt f s := rfl
  rw [h2] at h1
  obtain ⟨q, hq1, hq2, hq3, hq4⟩ := atI_take (xs := f.order) (v := par f (vAt f s)) (i := s) (h1.resolve_left (by unfold par at hp; omega))
  have hq : posOf f (par f (vAt f s)) = q := by unfold posOf; rw [hq1]; rfl
  rw [hq]
  refine ⟨hq2, ?_⟩
  rw [(h.vAt_lt (by omega)).2, getD_at hq3, hq4]
/-- The first nodes of a row. -/
def SatAt (f : Forest) (p : Parts) (ns : List Int) (s : Nat) : Prop :=
  ns.getD s 0 ∈ firsts (nd p (vAt f s)) ∧ (0 ≤ par f (vAt f s) → ∃ l ∈ lk p (vAt f s), l.a = ns.getD (posOf f (par f (vAt f s))) 0 ∧ l.b = ns.getD s 0)
def Sat (f : Forest) (p : Parts) (i : Nat) (ns : List Int) : Prop := ns.length = i ∧ ∀ s, s < i → SatAt f p ns s
theorem Sat.sub {f : Forest} {p q : Parts} {i : Nat} {ns : List Int} (h : Sat f q i ns) (hs : Sub q p) : Sat f p i ns :=
  ⟨h.1, fun s hi => by
    obtain ⟨h1, h2⟩ := h.2 s hi
    refine ⟨?_, fun hp => ?_⟩
    · obtain ⟨x, hx, e⟩ := List.mem_map.1 h1
      exact List.mem_map.2 ⟨x, (hs _).1.subset hx, e⟩
    · obtain ⟨l, hl, e⟩ := h2 hp
      exact ⟨l, (hs _).2.subset hl, e⟩⟩
end Go.Proofs.Ytcaeoebphfjfiaa.Am


/- Links by the nodes at which they begin. -/
namespace Go.Proofs.Ytcaeoebphfjfiaa.Am
open Go Go.RowKit
set_option maxRecDepth 100000
set_option linter.unusedVariables false
set_option linter.unusedSimpArgs false

theorem goodL_rise {xs : List Link} (h : GoodL xs) : RiseA xs := by
  intro i j hi hj hij
  obtain ⟨d, rfl⟩ : ∃ d, j = i + d := ⟨j - i, by omega⟩
  clear hij
  induction d with
  | zero => exact Int.le_refl _
  | succ d ih =>
    have h1 := ih (by omega)
    have h2 := (h (i + (d + 1)) hj).2 (by omega)
    have e : i + (d + 1) - 1 = i + d := by omega
    simp only [e] at h2
    simp only [lessL, Bool.or_eq_true, Bool.and_eq_true, decide_eq_true_eq] at h2
    omega
end Go.Proofs.Ytcaeoebphfjfiaa.Am


/- A tree is made. -/
namespace Go.Proofs.Ytcaeoebphfjfiaa.Am
open Go Go.RowKit
set_option maxRecDepth 100000
set_option linter.unusedVariables false
set_option linter.unusedSimpArgs false

set_option maxHeartbeats 4000000 in
theorem New_tree (f : Forest) (p : Parts) (cs ds : List Value) (H : Hp) (hp : kForest.rep H f cs) (hq : kParts.rep H p ds) (hsm : Small f p) (hch : GoodP f p → Cheap p) :
    ACalls Try.prog 11 #[.agg cs.toArray, .agg ds.toArray] H (fun r H' => H.le H' ∧ ∃ (g : Bool) (v : Value), (g = true ↔ GoodP f p) ∧ r = .tuple #[v, .int .i64 (if g = true then 0 else 1)] ∧ (if g = true then TreeR H' v (treeOf f (ofP f p)) else v = .pointer none)) := by
  have hp0 := hp
  have hq0 := hq
  obtain ⟨v0, v1, v2, v3, v4, rfl, hs0, hs1, hs2, hs3, hs4⟩ := hp
  obtain ⟨A0, c0, rfl⟩ := hs0.shape
  obtain ⟨A1, c1, rfl⟩ := hs1.shape
  obtain ⟨A2, c2, rfl⟩ := hs2.shape
  obtain ⟨A3, c3, rfl⟩ := hs3.shape
  obtain ⟨A4, c4, rfl⟩ := hs4.shape
  obtain ⟨u0, u1, rfl, hn0, hn1⟩ := hq
  obtain ⟨B0, d0, rfl⟩ := hn0.shape
  obtain ⟨B1, d1, rfl⟩ := hn1.shape
  refine acalls_of_code Try.func11 rfl rfl rfl (by simp) ?_
  refine ac_seq ?_
  refine ac_region (by kernel_rfl) ?_
  refine aops_make (am_box_agg rfl) ?_
  refine aops_make (am_box_agg rfl) ?_
  first | refine aops_val (av_assign_ptr rfl) ?_ | refine aops_val (av_assign rfl) ?_
  first | refine aops_val (av_assign_int rfl) ?_ | refine aops_val (av_assign rfl) ?_
  refine ac_seq ?_
  refine ac_region (by kernel_rfl) ?_
  first | refine aops_val (av_loadN (cs := [.slice _ _ _, .slice _ _ _, .slice _ _ _, .slice _ _ _, .slice _ _ _]) rfl Try.underlying26 rfl inf26.size t_cells) ?_ | refine aops_val (av_loadN (cs := [_, _, _, _, _]) rfl Try.underlying26 rfl inf26.size t_cells) ?_
  first | refine aops_val (av_loadN (cs := [.slice _ _ _, .slice _ _ _]) rfl Try.underlying29 rfl inf29.size t_cells) ?_ | refine aops_val (av_loadN (cs := [_, _]) rfl Try.underlying29 rfl inf29.size t_cells) ?_
  refine aops_op (aop_call (Of_parts f p _ _ _ (kForest.mono t_sees hp0) (kParts.mono t_sees hq0) hsm) rfl Try.func49 rfl rfl rfl ?_)
  rintro v5 H5 ⟨g, es, hg, rfl, hes, hle5⟩; obtain ⟨w0, w1, rfl, hm0, hm1⟩ := hes; obtain ⟨C0, k0, rfl⟩ := hm0.shape; obtain ⟨C1, k1, rfl⟩ := hm1.shape; have hz5 := hle5.1; simp only [Hp.push_size] at hz5; have g51 : H5.get (H.size + 1) = .own 0 [.slice B0 p.nodes.length d0, .slice B1 p.links.length d1] := le_got hle5 (by simp) (by intro e; cases e) t_get
  refine aops_val (av_move rfl) ?_
  refine aops_val (av_extract rfl rfl) ?_
  refine aops_val (av_extract rfl rfl) ?_
  first | refine aops_op (aop_putN (vs := [.slice _ _ _, .slice _ _ _]) rfl rfl inf29.size t_get t_room rfl rfl ?_) | refine aops_op (aop_putN (vs := [_, _]) rfl rfl inf29.size t_get t_room rfl rfl ?_)
  first | refine aops_val (av_assign_int rfl) ?_ | refine aops_val (av_assign rfl) ?_
  refine ac_seq ?_
  refine ac_seq ?_
  refine ac_region (by kernel_rfl) ?_
  first | refine aops_val (av_move_int rfl) ?_ | refine aops_val (av_move rfl) ?_
  refine aops_val (av_ne rfl rfl) ?_
  refine ac_split rfl rfl ?_ ?_
  · intro hc1
    obtain rfl : g = false := by cases g with | false => rfl | true => exact absurd hc1 (by simp)
    refine ac_seq ?_
    refine ac_region (by kernel_rfl) ?_
    first | refine aops_val (av_move_int rfl) ?_ | refine aops_val (av_move rfl) ?_
    first | refine aops_val (av_assign_ptr rfl) ?_ | refine aops_val (av_assign rfl) ?_
    first | refine aops_val (av_assign_int rfl) ?_ | refine aops_val (av_assign rfl) ?_
    refine ac_ret ?_
    exact ⟨_, aresult2 (ares_tmp rfl) (ares_tmp rfl), Hp.le_put_new (Hp.le_trans (Hp.le_push' (H.le_push _) _) hle5) (Nat.le_succ _) _, false, .pointer none, hg, rfl, by simp⟩
  · intro hc1
    obtain rfl : g = true := by cases g with | true => rfl | false => exact absurd hc1 (by simp)
    refine ac_skip ?_
    refine ac_seq ?_
    have hG := hg.1 rfl
    obtain ⟨k1', k2', k3', k4'⟩ := ofP_all hG
    have hXg := ofP_good hG
    have hcx := (hch hG).sub k2'
    simp only [if_true] at hm0 hm1
    obtain ⟨X, hX⟩ : ∃ X, X = ofP f p := ⟨_, rfl⟩
    rw [← hX] at k1' k2' k3' hXg hcx hm0 hm1
    rw [← hX]
    have hlens5 : ∀ l ∈ X.nodes, l.length ≤ 1000000 := fun l hm => by
      obtain ⟨i, hi, rfl⟩ := List.getElem_of_mem hm
      have h1 := (k2' i).1.length_le
      unfold nd at h1
      rw [getD_list hi] at h1
      exact Nat.le_trans h1 (getD_len hsm.s5 i)
    have hlens6 : ∀ l ∈ X.links, l.length ≤ 1000000 := fun l hm => by
      obtain ⟨i, hi, rfl⟩ := List.getElem_of_mem hm
      have h1 := (k2' i).2.length_le
      unfold lk at h1
      rw [getD_list hi] at h1
      exact Nat.le_trans h1 (getD_len hsm.s6 i)
    obtain ⟨T, hT⟩ : ∃ T, T = treeOf f X := ⟨_, rfl⟩
    obtain ⟨tl1, tl2, tl3⟩ := treeOf_len (f := f) X
    have tat := fun {i : Nat} (hi : i < f.order.length) => treeOf_at (f := f) X hi
    rw [← hT] at tl1 tl2 tl3
    simp only [← hT] at tat
    rw [← hT]
    obtain ⟨K, hK⟩ : ∃ K, K = H5.put (H.size + 1) (.own 0 [.slice C0 X.nodes.length k0, .slice C1 X.links.length k1]) := ⟨_, rfl⟩
    have s5K : H5.sees K := by rw [hK]; exact Hp.sees_box _ g51
    have leK : H.le K := by rw [hK]; exact Hp.le_put_new (Hp.le_trans (Hp.le_push' (H.le_push _) _) hle5) (by omega) _
    have zK : H.size + 2 ≤ K.size := by rw [hK]; simp; omega
    have gK0 : K.get H.size = .own 0 [.slice A0 f.vars.length c0, .slice A1 f.order.length c1, .slice A2 f.parent.length c2, .slice A3 f.links.length c3, .slice A4 f.loops.length c4] := by rw [hK, Hp.put_other _ _ (by omega)]; exact le_got hle5 (by simp; omega) (by intro e; cases e) t_get
    have gK1 : K.get (H.size + 1) = .own 0 [.slice C0 X.nodes.length k0, .slice C1 X.links.length k1] := by rw [hK]; exact Hp.put_same _ _ _
    have m0K := hm0.mono s5K
    have m1K := hm1.mono s5K
    have s0K := hs0.mono leK.sees
    have s1K := hs1.mono leK.sees
    have s2K := hs2.mono leK.sees
    have hol : f.order.length = f.vars.length := hG.gf.l1
    have hpl : f.parent.length = f.vars.length := hG.gf.l2
    have hs0' := hsm.s0
    have hxn := k1'.1
    have hxl := k1'.2
    change ACode true _ _ _ _ _ (H5.put (H.size + 1) (.own 0 [.slice C0 X.nodes.length k0, .slice C1 X.links.length k1]))
    rw [← hK]
    clear hK s5K hm0 hm1 hle5 g51 hz5 hn0 hn1 hq0 hp0 hs3 hs4
    refine ac_region (by kernel_rfl) ?_
    refine aops_make (am_makeMap) ?_
    first | refine aops_val (av_build (pl := [(0, 1), (1, 1), (2, 1), (3, 1)]) (r := [.slice _ _ _, .slice _ _ _, .slice _ _ _, .map _]) Try.underlying89 inf89.zero (by decide) rfl rfl) ?_ | refine aops_val (av_build (pl := [(0, 1), (1, 1), (2, 1), (3, 1)]) (r := [_, _, _, _]) Try.underlying89 inf89.zero (by decide) rfl rfl) ?_
    refine aops_make (am_box_agg rfl) ?_
    first | refine aops_val (av_assign_ptr rfl) ?_ | refine aops_val (av_assign rfl) ?_
    refine ac_seq ?_
    refine ac_seq ?_
    refine ac_region (by kernel_rfl) ?_
    refine aops_val (av_fieldOff (off := 1) rfl Try.underlying26 rfl inf23.size (by decide) rfl) ?_
    refine aops_val (av_load1 rfl Try.underlying23 rfl t_cell) ?_
    refine aops_val (av_len rfl Try.underlying23) ?_
    first | refine aops_val (av_move_int rfl) ?_ | refine aops_val (av_move rfl) ?_
    refine ac_block ?_
    refine ac_loop (fun n t H' => ∃ (i : Nat) (G : Hp) (A B C : Value) (es : List (Value × Value)), i ≤ f.order.length ∧ n = f.order.length - i ∧ K.le G ∧ K.size + 2 ≤ G.size ∧ G.get K.size = .map es ∧ G.get (K.size + 1) = .own 0 [A, B, C, .map (some K.size)] ∧ Own3 kStr (kInt .i64) (kSl kLink) G H' A B C (T.vars.take i) (T.parent.take i) (T.links.take i) ∧ Spots T i es ∧ t 2 = .pointer (some ⟨H.size, 0, none⟩) ∧ t 3 = .pointer (some ⟨H.size + 1, 0, none⟩) ∧ t 7 = .pointer (some ⟨K.size + 1, 0, none⟩) ∧ t 24 = .slice A1 f.order.length c1 ∧ t 25 = .int .i64 f.order.length ∧ t 26 = .int .i64 i) (f.order.length) (⟨0, _, _, _, _, [], by omega, rfl, Hp.le_push' (K.le_push _) _, by simp, t_get, t_get, ⟨_, _, OwnP.nil _ _, OwnP.nil _ _, OwnP.nil _ _⟩, Spots.zero T, rfl, rfl, rfl, rfl, rfl, rfl⟩) ?_
    rintro n t H1 ⟨i, G, A, B, C, es, hi, rfl, leG, zG, gm, gt, hown, hsp, e2, e3, e7, e24, e25, e26⟩
    have leK1 := Hp.le_trans leG hown.le
    have zH1 := hown.size
    have zK1 := leK1.1
    refine ac_seq ?_
    refine ac_region (by kernel_rfl) ?_
    refine aops_val (av_lt (by first | assumption | rfl) (by first | assumption | rfl)) ?_
    refine ac_seq ?_
    refine ac_split rfl rfl ?_ ?_
    · intro hc2
      (try simp only [decide_eq_true_eq, decide_eq_false_iff_not, Bool.not_eq_true', Bool.not_eq_false'] at hc2)
      refine ac_skip ?_
      refine ac_seq ?_
      refine ac_block ?_
      refine ac_seq ?_
      have hix : i < f.order.length := by omega
      obtain ⟨b1, o1, rfl, hb1, hcell1⟩ := s1K.int_at (i := (i : Int)) (by omega) (by omega)
      rw [Int.toNat_natCast] at hcell1
      have hcell1' := leK1.cell1 hb1 hcell1
      obtain ⟨hwn, hwv⟩ := hG.gf.vAt_lt (s := i) (by omega)
      obtain ⟨w, hw⟩ : ∃ w : Nat, w = vAt f i := ⟨_, rfl⟩
      rw [← hw] at hwn hwv
      rw [← hwv] at hcell1'
      obtain ⟨tv, tp, tl⟩ := tat hix
      rw [← hw] at tv tp tl
      refine ac_region (by kernel_rfl) ?_
      first | refine aops_val (av_move_int (by first | assumption | rfl)) ?_ | refine aops_val (av_move (by first | assumption | rfl)) ?_
      refine aops_val (av_indexAddr (by first | assumption | rfl) (by first | assumption | rfl) Try.underlying23 inf3.size t_idx t_idx) ?_
      refine aops_val (av_load1 rfl Try.underlying3 rfl t_cell) ?_
      first | refine aops_val (av_assign_int rfl) ?_ | refine aops_val (av_assign rfl) ?_
      first | refine aops_val (av_assign_int rfl) ?_ | refine aops_val (av_assign rfl) ?_
      refine ac_seq ?_
      obtain ⟨bn, on, ks, eN, hbn, ⟨wn, rfl, hwN⟩, hcellN⟩ := m0K.elem_at (i := w) (by have := k1'.1; omega)
      subst eN
      have hcellN' := leK1.cell1 hbn hcellN.one
      have ndw : nd X w = X.nodes[w]'(by have := k1'.1; omega) := getD_list _
      rw [← ndw] at hwN
      obtain ⟨An, cn, rfl⟩ := hwN.shape
      have hnl : (nd X w).length ≤ 1000000 := by rw [ndw]; exact hlens5 _ (List.getElem_mem _)
      have gH0 := le_got leK1 (by omega) (by intro e; cases e) gK0
      have gH1 := le_got leK1 (by omega) (by intro e; cases e) gK1
      refine ac_region (by kernel_rfl) ?_
      refine aops_val (av_fieldOff (off := 0) (by first | assumption | rfl) Try.underlying29 (by first | assumption | rfl) inf27.size (by decide) (by first | assumption | rfl)) ?_
      refine aops_val (av_load1 rfl Try.underlying27 rfl t_cell) ?_
      first | refine aops_val (av_move_int rfl) ?_ | refine aops_val (av_move rfl) ?_
      refine aops_val (av_indexAddr rfl rfl Try.underlying27 inf50.size t_idx t_idx) ?_
      refine aops_val (av_load1 rfl Try.underlying50 rfl t_cell) ?_
      first | refine aops_val (av_assign_sl rfl) ?_ | refine aops_val (av_assign rfl) ?_
      refine ac_seq ?_
      refine ac_seq ?_
      obtain ⟨b2, o2, rfl, hb2, hcell2⟩ := s2K.int_at (i := (w : Int)) (by omega) (by omega)
      rw [Int.toNat_natCast] at hcell2
      have hcell2' := leK1.cell1 hb2 hcell2
      refine ac_region (by kernel_rfl) ?_
      refine aops_val (av_fieldOff (off := 2) (by first | assumption | rfl) Try.underlying26 (by first | assumption | rfl) inf23.size (by decide) (by first | assumption | rfl)) ?_
      refine aops_val (av_load1 rfl Try.underlying23 rfl t_cell) ?_
      first | refine aops_val (av_move_int rfl) ?_ | refine aops_val (av_move rfl) ?_
      refine aops_val (av_indexAddr rfl rfl Try.underlying23 inf3.size t_idx t_idx) ?_
      refine aops_val (av_load1 rfl Try.underlying3 rfl t_cell) ?_
      refine aops_val (av_ne rfl rfl) ?_
      refine ac_split rfl rfl ?_ ?_
      · intro hc3
        have hpar : par f w ≠ -1 := of_decide_eq_true hc3
        obtain ⟨bl, ol, ks, eL, hbl, ⟨wl, rfl, hwL⟩, hcellL⟩ := m1K.elem_at (i := w) (by have := k1'.2; omega)
        subst eL
        have hcellL' := leK1.cell1 hbl hcellL.one
        have lkw : lk X w = X.links[w]'(by have := k1'.2; omega) := getD_list _
        rw [← lkw] at hwL
        obtain ⟨Al, cl, rfl⟩ := hwL.shape
        have hll : (lk X w).length ≤ 1000000 := by rw [lkw]; exact hlens6 _ (List.getElem_mem _)
        have hpk : placeLinks f X w = (lk X w).map (weigh (nd X w)) := by unfold placeLinks; rw [if_neg hpar]
        have hpll : (placeLinks f X w).length ≤ 1000000 := by rw [hpk, List.length_map]; exact hll
        have hrise : RiseA (placeLinks f X w) := by rw [hpk]; exact rise_weigh (goodL_rise (hXg.ok w hwn).2.1)
        refine ac_draw (by kernel_rfl) (reg_of (B := [0, 1, 0, 7, 15, 0, 32, 0, 224, 480, 1023, 2047]) (π := [0, 1, 2, 3, 4, 5, 6, 7, 8, 9, 10, 11]) (by kernel_rfl)) ?_
        refine adr_val rfl rfl (av_fieldOff (off := 1) (by first | assumption | rfl) Try.underlying29 (by first | assumption | rfl) inf27.size (by decide) (by first | assumption | rfl)) t_lt ?_
        refine adr_val rfl rfl (av_load1 rfl Try.underlying27 rfl t_cell) t_lt ?_
        first | refine adr_val rfl rfl (av_move_int rfl) t_lt ?_ | refine adr_val rfl rfl (av_move rfl) t_lt ?_
        refine adr_val rfl rfl (av_indexAddr rfl rfl Try.underlying27 inf50.size t_idx t_idx) t_lt ?_
        refine adr_val rfl rfl (av_load1 rfl Try.underlying50 rfl t_cell) t_lt ?_
        refine adr_val rfl rfl (av_fieldOff (off := 0) (by first | assumption | rfl) Try.underlying29 (by first | assumption | rfl) inf27.size (by decide) (by first | assumption | rfl)) t_lt ?_
        refine adr_val rfl rfl (av_load1 rfl Try.underlying27 rfl t_cell) t_lt ?_
        first | refine adr_val rfl rfl (av_move_int rfl) t_lt ?_ | refine adr_val rfl rfl (av_move rfl) t_lt ?_
        refine adr_val rfl rfl (av_indexAddr rfl rfl Try.underlying27 inf50.size t_idx t_idx) t_lt ?_
        refine adr_val rfl rfl (av_load1 rfl Try.underlying50 rfl t_cell) t_lt ?_
        refine adr_op rfl rfl (aop_call (weighed_links (lk X w) (nd X w) _ _ _ (hwL.mono leK1.sees) (hwN.mono leK1.sees) hll hnl (goodL_strict (hXg.ok w hwn).1 (hXg.ok w hwn).2.2.1) (fun l hl => ((k3' w hwn hpar).ends l hl).2) (fun l hl => hcx.links w l hl) (fun l hl => hcx.nodes w l hl)) rfl Try.func50 rfl rfl rfl ?_)
        rintro v10 H2 ⟨Gw, hleW, hownW⟩; rw [← hpk] at hownW; obtain ⟨Aw, cw, rfl⟩ := hownW.shape; have hsl2 := hownW.sl; have hle2 := Hp.le_trans hleW hownW.le
        refine ⟨t_pend, ?_⟩
        first | refine adr_val rfl rfl (av_assign_sl rfl) t_lt ?_ | refine adr_val rfl rfl (av_assign rfl) t_lt ?_
        refine ac_seq ?_
        obtain ⟨G2, hleG2, hown2⟩ := hown.later hle2
        have leG2 := Hp.le_trans leG hleG2
        have leK2 := Hp.le_trans leK1 hle2
        have g2m := le_got hleG2 (by omega) (by intro e; cases e) gm
        have g2t := le_got hleG2 (by omega) (by intro e; cases e) gt
        have z2 := hleG2.1
        have zz2 := hown2.size
        obtain ⟨Ga, hleGa, hoA, backA⟩ := (hown2.rot (stable_ints _) stable_lists).open3
        obtain ⟨AA, cA, rfl⟩ := hoA.shape
        obtain ⟨slA, slB, slC⟩ := hown2.sls
        obtain ⟨AB, cB, rfl⟩ := slB.shape
        obtain ⟨AC, cC, rfl⟩ := slC.shape
        have lenA : (T.vars.take i).length = i := by rw [List.length_take]; omega
        have lenB : (T.parent.take i).length = i := by rw [List.length_take]; omega
        have lenC : (T.links.take i).length = i := by rw [List.length_take]; omega
        have h2t := le_got hown2.le (by omega) (by intro e; cases e) g2t
        have h20 := le_got leK2 (by omega) (by intro e; cases e) gK0
        obtain ⟨bs, os, ks, eS, hbs, rfl, hcellS⟩ := s0K.elem_at (i := w) hwn
        subst eS
        have hcellS' := leK2.cell1 hbs hcellS.one
        have zoA := hoA.size
        have za := hleGa.1
        have slG2 := hown2.below (stable_links _) (stable_links _) (stable_links _) (by decide) (by decide) (by decide) hsl2
        refine ac_draw (by kernel_rfl) (reg_of (B := [0, 0, 2, 6, 14, 0, 32, 0, 224, 480, 992, 2046, 4095, 8191, 16383]) (π := [0, 1, 2, 3, 4, 5, 6, 7, 8, 9, 10, 11, 12, 13, 14]) (by kernel_rfl)) ?_
        first | refine adr_val rfl rfl (av_move_ptr (by first | assumption | rfl)) t_lt ?_ | refine adr_val rfl rfl (av_move (by first | assumption | rfl)) t_lt ?_
        first | refine adr_val rfl rfl (av_move_ptr (by first | assumption | rfl)) t_lt ?_ | refine adr_val rfl rfl (av_move (by first | assumption | rfl)) t_lt ?_
        refine adr_val rfl rfl (av_nilCheck rfl) t_lt ?_
        refine adr_val rfl rfl (av_fieldOff (off := 0) rfl Try.underlying89 rfl inf22.size (by decide) rfl) t_lt ?_
        refine adr_val rfl rfl (av_load1 rfl Try.underlying22 rfl t_cell) t_lt ?_
        refine adr_val rfl rfl (av_fieldOff (off := 0) (by first | assumption | rfl) Try.underlying26 (by first | assumption | rfl) inf22.size (by decide) (by first | assumption | rfl)) t_lt ?_
        refine adr_val rfl rfl (av_load1 rfl Try.underlying22 rfl t_cell) t_lt ?_
        first | refine adr_val rfl rfl (av_move_int rfl) t_lt ?_ | refine adr_val rfl rfl (av_move rfl) t_lt ?_
        refine adr_val rfl rfl (av_indexAddr rfl rfl Try.underlying22 inf9.size t_idx t_idx) t_lt ?_
        refine adr_val rfl rfl (av_load1 rfl Try.underlying9 rfl t_cell) t_lt ?_
        first | refine adr_make rfl rfl (am_buildSlice (r := [.string _]) Try.underlying22 inf9.size inf9.zero rfl (by decide) (by decide) (by decide) rfl) ?_
        refine adr_op rfl rfl (OwnP.append (ys := [f.vars[w]]) (hoA.push _) Try.underlying22 inf9 rfl rfl rfl (sl_one (k := kStr) rfl rfl hoA.size rfl) (by rw [lenA]; simp only [List.length_singleton]; omega) (by rw [lenA]; simp only [List.length_singleton]; omega) ?_)
        rintro v3 G3 H3 hle3 hown3
        have hsameO := OwnP.sameO (hoA.push _) hle3 hown3
        have ev : f.vars.getD w ⟨#[]⟩ = f.vars[w] := by rw [List.getD_eq_getElem?_getD, List.getElem?_eq_getElem hwn]; rfl
        rw [← ev, take_at tv] at hown3
        obtain ⟨AA', cA', rfl⟩ := hown3.shape
        have hle3' := Hp.le_trans (Hp.le_push _ _) hle3
        obtain ⟨G4, hleG4, hown4⟩ := backA G3 H3 _ _ hle3' hown3
        have g4t := le_got hleG4 (by omega) (by intro e; cases e) g2t
        have h3t := le_got hown4.le (by have := hleG4.1; omega) (by intro e; cases e) g4t
        refine ⟨t_pend, ?_⟩
        refine adr_val rfl rfl (av_nilCheck rfl) t_lt ?_
        refine adr_val rfl rfl (av_fieldOff (off := 0) rfl Try.underlying89 rfl inf22.size (by decide) rfl) t_lt ?_
        first | refine adr_op rfl rfl (aop_put1 rfl rfl rfl inf22.size t_get t_room rfl ?_)
        refine ⟨t_pend, ?_⟩
        refine ac_seq ?_
        obtain ⟨H5, hH5⟩ : ∃ H5, H5 = H3.put (K.size + 1) (.own 0 [.slice AA' (T.vars.take (i + 1)).length cA', .slice AB (T.parent.take i).length cB, .slice AC (T.links.take i).length cC, .map (some K.size)]) := ⟨_, rfl⟩
        obtain ⟨G5, hG5⟩ : ∃ G5, G5 = G4.put (K.size + 1) (.own 0 [.slice AA' (T.vars.take (i + 1)).length cA', .slice AB (T.parent.take i).length cB, .slice AC (T.links.take i).length cC, .map (some K.size)]) := ⟨_, rfl⟩
        have z4 := hleG4.1
        have hown5 := hown4.put_box (by omega) g4t [.slice AA' (T.vars.take (i + 1)).length cA', .slice AB (T.parent.take i).length cB, .slice AC (T.links.take i).length cC, .map (some K.size)]
        rw [← hG5, ← hH5] at hown5
        have leG5 : K.le G5 := by rw [hG5]; exact Hp.le_put_new (Hp.le_trans leG2 hleG4) (by omega) _
        have g5m : G5.get K.size = .map es := by rw [hG5, Hp.put_other _ _ (by omega)]; exact le_got hleG4 (by omega) (by intro e; cases e) g2m
        have g5t : G5.get (K.size + 1) = .own 0 [.slice AA' (T.vars.take (i + 1)).length cA', .slice AB (T.parent.take i).length cB, .slice AC (T.links.take i).length cC, .map (some K.size)] := by rw [hG5]; exact Hp.put_same _ _ _
        have z5 : K.size + 2 ≤ G5.size := by rw [hG5]; simp; omega
        change ACode true _ _ _ _ _ (H3.put (K.size + 1) (.own 0 [.slice AA' (T.vars.take (i + 1)).length cA', .slice AB (T.parent.take i).length cB, .slice AC (T.links.take i).length cC, .map (some K.size)]))
        rw [← hH5]
        have slG5 : Sl kLink G5 (.slice Aw (placeLinks f X w).length cw) (placeLinks f X w) := by
          rw [hG5]
          exact (slG2.mono hleG4.sees).mono (Hp.sees_box _ g4t)
        obtain ⟨Gb, hleGb, hoB, backB⟩ := (hown5.rot stable_lists (stable_strs _)).open3
        have leK5 := Hp.le_trans leG5 hown5.le
        have h5t := le_got hown5.le (by omega) (by intro e; cases e) g5t
        have h50 := le_got leK5 (by omega) (by intro e; cases e) gK0
        have hcell25 := leK5.cell1 hb2 hcell2
        have zoB := hoB.size
        have zz5 := hown5.size
        have zb := hleGb.1
        clear hH5 hG5 hsameO
        refine ac_draw (by kernel_rfl) (reg_of (B := [0, 0, 2, 6, 14, 0, 32, 0, 128, 0, 896, 1920, 4064, 8160, 16382, 32767, 65535, 131071]) (π := [0, 1, 2, 3, 4, 5, 6, 7, 8, 9, 10, 11, 12, 13, 14, 15, 16, 17]) (by kernel_rfl)) ?_
        first | refine adr_val rfl rfl (av_move_ptr (by first | assumption | rfl)) t_lt ?_ | refine adr_val rfl rfl (av_move (by first | assumption | rfl)) t_lt ?_
        first | refine adr_val rfl rfl (av_move_ptr (by first | assumption | rfl)) t_lt ?_ | refine adr_val rfl rfl (av_move (by first | assumption | rfl)) t_lt ?_
        refine adr_val rfl rfl (av_nilCheck rfl) t_lt ?_
        refine adr_val rfl rfl (av_fieldOff (off := 1) rfl Try.underlying89 rfl inf23.size (by decide) rfl) t_lt ?_
        refine adr_val rfl rfl (av_load1 rfl Try.underlying23 rfl t_cell) t_lt ?_
        refine adr_val rfl rfl (av_fieldOff (off := 1) (by first | assumption | rfl) Try.underlying26 (by first | assumption | rfl) inf23.size (by decide) (by first | assumption | rfl)) t_lt ?_
        refine adr_val rfl rfl (av_load1 rfl Try.underlying23 rfl t_cell) t_lt ?_
        refine adr_val rfl rfl (av_fieldOff (off := 2) (by first | assumption | rfl) Try.underlying26 (by first | assumption | rfl) inf23.size (by decide) (by first | assumption | rfl)) t_lt ?_
        refine adr_val rfl rfl (av_load1 rfl Try.underlying23 rfl t_cell) t_lt ?_
        first | refine adr_val rfl rfl (av_move_int rfl) t_lt ?_ | refine adr_val rfl rfl (av_move rfl) t_lt ?_
        refine adr_val rfl rfl (av_indexAddr rfl rfl Try.underlying23 inf3.size t_idx t_idx) t_lt ?_
        refine adr_val rfl rfl (av_load1 rfl Try.underlying3 rfl t_cell) t_lt ?_
        refine adr_op rfl rfl (aop_call (Index_ints f.order _ (par f w) _ (s1K.mono leK5.sees) (by omega)) rfl Try.func51 rfl rfl rfl ?_)
        rintro v6 H5 ⟨rfl, rfl⟩
        refine ⟨t_pend, ?_⟩
        first | refine adr_make rfl rfl (am_buildSlice (r := [.int .i64 _]) Try.underlying23 inf3.size inf3.zero rfl (by decide) (by decide) (by decide) rfl) ?_
        refine adr_op rfl rfl (OwnP.append (ys := [atI f.order (par f w)]) (hoB.push _) Try.underlying23 inf3 rfl rfl rfl (sl_one (k := kInt .i64) rfl rfl hoB.size rfl) (by rw [lenB]; simp only [List.length_singleton]; omega) (by rw [lenB]; simp only [List.length_singleton]; omega) ?_)
        rintro v7 G7 H7 hle7 hown7
        have hsameO := OwnP.sameO (hoB.push _) hle7 hown7
        rw [take_at tp] at hown7
        obtain ⟨AB', cB', rfl⟩ := hown7.shape
        have hle7' := Hp.le_trans (Hp.le_push _ _) hle7
        obtain ⟨G8, hleG8, hown8⟩ := backB G7 H7 _ _ hle7' hown7
        have g8t := le_got hleG8 (by omega) (by intro e; cases e) g5t
        have h7t := le_got hown8.le (by have := hleG8.1; omega) (by intro e; cases e) g8t
        refine ⟨t_pend, ?_⟩
        refine adr_val rfl rfl (av_nilCheck rfl) t_lt ?_
        refine adr_val rfl rfl (av_fieldOff (off := 1) rfl Try.underlying89 rfl inf23.size (by decide) rfl) t_lt ?_
        first | refine adr_op rfl rfl (aop_put1 rfl rfl rfl inf23.size t_get t_room rfl ?_)
        refine ⟨t_pend, ?_⟩
        refine ac_seq ?_
        obtain ⟨H9, hH9⟩ : ∃ H9, H9 = H7.put (K.size + 1) (.own 0 [.slice AA' (T.vars.take (i + 1)).length cA', .slice AB' (T.parent.take (i + 1)).length cB', .slice AC (T.links.take i).length cC, .map (some K.size)]) := ⟨_, rfl⟩
        obtain ⟨G9, hG9⟩ : ∃ G9, G9 = G8.put (K.size + 1) (.own 0 [.slice AA' (T.vars.take (i + 1)).length cA', .slice AB' (T.parent.take (i + 1)).length cB', .slice AC (T.links.take i).length cC, .map (some K.size)]) := ⟨_, rfl⟩
        have z8 := hleG8.1
        have hown9 := hown8.put_box (by omega) g8t [.slice AA' (T.vars.take (i + 1)).length cA', .slice AB' (T.parent.take (i + 1)).length cB', .slice AC (T.links.take i).length cC, .map (some K.size)]
        rw [← hG9, ← hH9] at hown9
        have leG9 : K.le G9 := by rw [hG9]; exact Hp.le_put_new (Hp.le_trans leG5 hleG8) (by omega) _
        have g9m : G9.get K.size = .map es := by rw [hG9, Hp.put_other _ _ (by omega)]; exact le_got hleG8 (by omega) (by intro e; cases e) g5m
        have g9t : G9.get (K.size + 1) = .own 0 [.slice AA' (T.vars.take (i + 1)).length cA', .slice AB' (T.parent.take (i + 1)).length cB', .slice AC (T.links.take i).length cC, .map (some K.size)] := by rw [hG9]; exact Hp.put_same _ _ _
        have z9 : K.size + 2 ≤ G9.size := by rw [hG9]; simp; omega
        change ACode true _ _ _ _ _ (H7.put (K.size + 1) (.own 0 [.slice AA' (T.vars.take (i + 1)).length cA', .slice AB' (T.parent.take (i + 1)).length cB', .slice AC (T.links.take i).length cC, .map (some K.size)]))
        rw [← hH9]
        have slG9 : Sl kLink G9 (.slice Aw (placeLinks f X w).length cw) (placeLinks f X w) := by
          rw [hG9]
          exact (slG5.mono hleG8.sees).mono (Hp.sees_box _ g8t)
        have hsl9 := slG9.mono hown9.le.sees
        have h9t := le_got hown9.le (by omega) (by intro e; cases e) g9t
        have zz9 := hown9.size
        clear hH9 hG9 hsameO
        refine ac_draw (by kernel_rfl) (reg_of (B := [0, 0, 2, 6, 14, 0, 32, 96, 254, 511, 1023, 2047]) (π := [0, 1, 2, 3, 4, 5, 6, 7, 8, 9, 10, 11]) (by kernel_rfl)) ?_
        first | refine adr_val rfl rfl (av_move_ptr (by first | assumption | rfl)) t_lt ?_ | refine adr_val rfl rfl (av_move (by first | assumption | rfl)) t_lt ?_
        first | refine adr_val rfl rfl (av_move_ptr (by first | assumption | rfl)) t_lt ?_ | refine adr_val rfl rfl (av_move (by first | assumption | rfl)) t_lt ?_
        refine adr_val rfl rfl (av_nilCheck rfl) t_lt ?_
        refine adr_val rfl rfl (av_fieldOff (off := 2) rfl Try.underlying89 rfl inf27.size (by decide) rfl) t_lt ?_
        refine adr_val rfl rfl (av_load1 rfl Try.underlying27 rfl t_cell) t_lt ?_
        first | refine adr_val rfl rfl (av_move_sl rfl) t_lt ?_ | refine adr_val rfl rfl (av_move rfl) t_lt ?_
        refine adr_op rfl rfl (aop_call (Clone_links _ _ _ hsl9 hpll) rfl Try.func52 rfl rfl rfl ?_)
        rintro v10 H10 ⟨G10', hle10, hownL⟩; obtain ⟨AL, cL, rfl⟩ := hownL.shape; have hle10' := Hp.le_trans hle10 hownL.le; obtain ⟨G10, hleG10, hown10⟩ := hown9.later hle10'; have slL := hown10.below (stable_links _) (stable_links _) (stable_links _) (by decide) (by decide) (by decide) hownL.sl; obtain ⟨Gc, hleGc, hoC, backC⟩ := (hown10.rot (stable_strs _) (stable_ints _)).open3; have slLc := slL.mono hleGc.sees; have zoC := hoC.size; have h10t := le_got hle10' (by omega) (by intro e; cases e) h9t; have z10 := hleG10.1; have zc := hleGc.1
        refine ⟨t_pend, ?_⟩
        first | refine adr_make rfl rfl (am_buildSlice (r := [.slice _ _ _]) Try.underlying27 inf50.size inf50.zero rfl (by decide) (by decide) (by decide) rfl) ?_ | refine adr_make rfl rfl (am_buildSlice (r := [_]) Try.underlying27 inf50.size inf50.zero rfl (by decide) (by decide) (by decide) rfl) ?_
        refine adr_op rfl rfl (OwnP.append (ys := [placeLinks f X w]) (hoC.push _) Try.underlying27 inf50 rfl rfl rfl (sl_one (k := kSl kLink) ⟨_, rfl, slLc⟩ rfl hoC.size rfl) (by rw [lenC]; simp only [List.length_singleton]; omega) (by rw [lenC]; simp only [List.length_singleton]; omega) ?_)
        rintro v11 G11 H11 hle11 hown11
        have hsameO := OwnP.sameO (hoC.push _) hle11 hown11
        rw [take_at tl] at hown11
        obtain ⟨AC', cC', rfl⟩ := hown11.shape
        have hle11' := Hp.le_trans (Hp.le_push _ _) hle11
        obtain ⟨G12, hleG12, hown12⟩ := backC G11 H11 _ _ hle11' hown11
        have g10t := le_got hleG10 (by omega) (by intro e; cases e) g9t
        have g12t := le_got hleG12 (by omega) (by intro e; cases e) g10t
        have h11t := le_got hown12.le (by have := hleG12.1; omega) (by intro e; cases e) g12t
        refine ⟨t_pend, ?_⟩
        refine adr_val rfl rfl (av_nilCheck rfl) t_lt ?_
        refine adr_val rfl rfl (av_fieldOff (off := 2) rfl Try.underlying89 rfl inf27.size (by decide) rfl) t_lt ?_
        first | refine adr_op rfl rfl (aop_put1 rfl rfl rfl inf27.size t_get t_room rfl ?_)
        refine ⟨t_pend, ?_⟩
        obtain ⟨H13, hH13⟩ : ∃ H13, H13 = H11.put (K.size + 1) (.own 0 [.slice AA' (T.vars.take (i + 1)).length cA', .slice AB' (T.parent.take (i + 1)).length cB', .slice AC' (T.links.take (i + 1)).length cC', .map (some K.size)]) := ⟨_, rfl⟩
        obtain ⟨G13, hG13⟩ : ∃ G13, G13 = G12.put (K.size + 1) (.own 0 [.slice AA' (T.vars.take (i + 1)).length cA', .slice AB' (T.parent.take (i + 1)).length cB', .slice AC' (T.links.take (i + 1)).length cC', .map (some K.size)]) := ⟨_, rfl⟩
        have z12 := hleG12.1
        have hown13 := hown12.put_box (by omega) g12t [.slice AA' (T.vars.take (i + 1)).length cA', .slice AB' (T.parent.take (i + 1)).length cB', .slice AC' (T.links.take (i + 1)).length cC', .map (some K.size)]
        rw [← hG13, ← hH13] at hown13
        have leG13 : K.le G13 := by rw [hG13]; exact Hp.le_put_new (Hp.le_trans leG9 (Hp.le_trans hleG10 hleG12)) (by omega) _
        have g13m : G13.get K.size = .map es := by rw [hG13, Hp.put_other _ _ (by omega)]; exact le_got (Hp.le_trans hleG10 hleG12) (by omega) (by intro e; cases e) g9m
        have g13t : G13.get (K.size + 1) = .own 0 [.slice AA' (T.vars.take (i + 1)).length cA', .slice AB' (T.parent.take (i + 1)).length cB', .slice AC' (T.links.take (i + 1)).length cC', .map (some K.size)] := by rw [hG13]; exact Hp.put_same _ _ _
        have z13 : K.size + 2 ≤ G13.size := by rw [hG13]; simp; omega
        change ACode true _ _ _ _ _ (H11.put (K.size + 1) (.own 0 [.slice AA' (T.vars.take (i + 1)).length cA', .slice AB' (T.parent.take (i + 1)).length cB', .slice AC' (T.links.take (i + 1)).length cC', .map (some K.size)]))
        rw [← hH13]
        have h13t := le_got hown13.le (by omega) (by intro e; cases e) g13t
        have h13m := le_got hown13.le (by omega) (by intro e; cases e) g13m
        have zz13 := hown13.size
        obtain ⟨sl1, sl2, sl3⟩ := hown13.sls
        clear hH13 hG13 hsameO
        have eP : (T.parent.take (i + 1)).getD i 0 = T.parent.getD i 0 := by rw [List.getD_eq_getElem?_getD, List.getD_eq_getElem?_getD, List.getElem?_take, if_pos (by omega)]
        have hiL : i < (T.links.take (i + 1)).length := by rw [List.length_take]; omega
        have eL : (T.links.take (i + 1))[i]'hiL = placeLinks f X w := by
          rw [List.getElem_take]
          exact (List.getElem?_eq_some_iff.1 tl).2
        have eL2 : T.links.getD i [] = placeLinks f X w := by rw [List.getD_eq_getElem?_getD, tl]; rfl
        refine ac_region (by kernel_rfl) ?_
        first | refine aops_val (av_move_ptr (by first | assumption | rfl)) ?_ | refine aops_val (av_move (by first | assumption | rfl)) ?_
        first | refine aops_val (av_move_int rfl) ?_ | refine aops_val (av_move rfl) ?_
        refine aops_op (aop_call (group_tree (b := K.size + 1) (mb := K.size) (by omega) (by omega) h13t sl2 sl3 h13m i hiL (by rw [List.length_take]; omega) (by rw [eL]; exact hpll) (fun _ => by rw [eL]; exact hrise) hsp.keys (fun a => hsp.none i a (Nat.le_refl _))) rfl Try.func53 rfl rfl rfl ?_)
        rintro v14 H14 ⟨es', rfl, hes'⟩
        refine ac_region (by kernel_rfl) ?_
        first | refine aops_val (av_add64 (by first | assumption | rfl) (by first | assumption | rfl) t_fits) ?_ | refine aops_val (av_add (by first | assumption | rfl) (by first | assumption | rfl)) ?_
        first | refine aops_val (av_move_int rfl) ?_ | refine aops_val (av_move rfl) ?_
        refine ⟨f.order.length - (i + 1), by omega, i + 1, G13.put K.size (.map es'), _, _, _, es', by omega, rfl, Hp.le_put_new leG13 (Nat.le_refl _) _, by simp; omega, Hp.put_same _ _ _, by rw [Hp.put_other _ _ (by omega)]; exact g13t, hown13.put_map (by omega) g13m es', hsp.step ?_, e2, e3, e7, e24, e25, rfl⟩
        rw [eP, eL] at hes'
        rw [eL2]
        exact hes'
      · intro hc3
        have hpar : par f w = -1 := Decidable.not_not.1 (of_decide_eq_false hc3)
        have hpk : placeLinks f X w = nd X w := by unfold placeLinks; rw [if_pos hpar]
        have hpll : (placeLinks f X w).length ≤ 1000000 := by rw [hpk]; exact hnl
        have hrise : RiseA (placeLinks f X w) := by rw [hpk]; exact goodL_rise (hXg.ok w hwn).1
        obtain ⟨w10, hw10⟩ : ∃ w10, w10 = Value.slice An (nd X w).length cn := ⟨_, rfl⟩
        have hle2 := Hp.le_refl H1
        have hsl2 : Sl kLink H1 (.slice An (placeLinks f X w).length cn) (placeLinks f X w) := by rw [hpk]; exact hwN.mono leK1.sees
        rw [← hpk]
        obtain ⟨H2, e2'⟩ : ∃ H2, H2 = H1 := ⟨_, rfl⟩
        subst e2'
        obtain ⟨Aw, cw, eAw, eCw⟩ : ∃ Aw cw, Aw = An ∧ cw = cn := ⟨_, _, rfl, rfl⟩
        subst eAw
        subst eCw
        refine ac_skip ?_
        refine ac_seq ?_
        obtain ⟨G2, hleG2, hown2⟩ := hown.later hle2
        have leG2 := Hp.le_trans leG hleG2
        have leK2 := Hp.le_trans leK1 hle2
        have g2m := le_got hleG2 (by omega) (by intro e; cases e) gm
        have g2t := le_got hleG2 (by omega) (by intro e; cases e) gt
        have z2 := hleG2.1
        have zz2 := hown2.size
        obtain ⟨Ga, hleGa, hoA, backA⟩ := (hown2.rot (stable_ints _) stable_lists).open3
        obtain ⟨AA, cA, rfl⟩ := hoA.shape
        obtain ⟨slA, slB, slC⟩ := hown2.sls
        obtain ⟨AB, cB, rfl⟩ := slB.shape
        obtain ⟨AC, cC, rfl⟩ := slC.shape
        have lenA : (T.vars.take i).length = i := by rw [List.length_take]; omega
        have lenB : (T.parent.take i).length = i := by rw [List.length_take]; omega
        have lenC : (T.links.take i).length = i := by rw [List.length_take]; omega
        have h2t := le_got hown2.le (by omega) (by intro e; cases e) g2t
        have h20 := le_got leK2 (by omega) (by intro e; cases e) gK0
        obtain ⟨bs, os, ks, eS, hbs, rfl, hcellS⟩ := s0K.elem_at (i := w) hwn
        subst eS
        have hcellS' := leK2.cell1 hbs hcellS.one
        have zoA := hoA.size
        have za := hleGa.1
        have slG2 := hown2.below (stable_links _) (stable_links _) (stable_links _) (by decide) (by decide) (by decide) hsl2
        refine ac_draw (by kernel_rfl) (reg_of (B := [0, 0, 2, 6, 14, 0, 32, 0, 224, 480, 992, 2046, 4095, 8191, 16383]) (π := [0, 1, 2, 3, 4, 5, 6, 7, 8, 9, 10, 11, 12, 13, 14]) (by kernel_rfl)) ?_
        first | refine adr_val rfl rfl (av_move_ptr (by first | assumption | rfl)) t_lt ?_ | refine adr_val rfl rfl (av_move (by first | assumption | rfl)) t_lt ?_
        first | refine adr_val rfl rfl (av_move_ptr (by first | assumption | rfl)) t_lt ?_ | refine adr_val rfl rfl (av_move (by first | assumption | rfl)) t_lt ?_
        refine adr_val rfl rfl (av_nilCheck rfl) t_lt ?_
        refine adr_val rfl rfl (av_fieldOff (off := 0) rfl Try.underlying89 rfl inf22.size (by decide) rfl) t_lt ?_
        refine adr_val rfl rfl (av_load1 rfl Try.underlying22 rfl t_cell) t_lt ?_
        refine adr_val rfl rfl (av_fieldOff (off := 0) (by first | assumption | rfl) Try.underlying26 (by first | assumption | rfl) inf22.size (by decide) (by first | assumption | rfl)) t_lt ?_
        refine adr_val rfl rfl (av_load1 rfl Try.underlying22 rfl t_cell) t_lt ?_
        first | refine adr_val rfl rfl (av_move_int rfl) t_lt ?_ | refine adr_val rfl rfl (av_move rfl) t_lt ?_
        refine adr_val rfl rfl (av_indexAddr rfl rfl Try.underlying22 inf9.size t_idx t_idx) t_lt ?_
        refine adr_val rfl rfl (av_load1 rfl Try.underlying9 rfl t_cell) t_lt ?_
        first | refine adr_make rfl rfl (am_buildSlice (r := [.string _]) Try.underlying22 inf9.size inf9.zero rfl (by decide) (by decide) (by decide) rfl) ?_
        refine adr_op rfl rfl (OwnP.append (ys := [f.vars[w]]) (hoA.push _) Try.underlying22 inf9 rfl rfl rfl (sl_one (k := kStr) rfl rfl hoA.size rfl) (by rw [lenA]; simp only [List.length_singleton]; omega) (by rw [lenA]; simp only [List.length_singleton]; omega) ?_)
        rintro v3 G3 H3 hle3 hown3
        have hsameO := OwnP.sameO (hoA.push _) hle3 hown3
        have ev : f.vars.getD w ⟨#[]⟩ = f.vars[w] := by rw [List.getD_eq_getElem?_getD, List.getElem?_eq_getElem hwn]; rfl
        rw [← ev, take_at tv] at hown3
        obtain ⟨AA', cA', rfl⟩ := hown3.shape
        have hle3' := Hp.le_trans (Hp.le_push _ _) hle3
        obtain ⟨G4, hleG4, hown4⟩ := backA G3 H3 _ _ hle3' hown3
        have g4t := le_got hleG4 (by omega) (by intro e; cases e) g2t
        have h3t := le_got hown4.le (by have := hleG4.1; omega) (by intro e; cases e) g4t
        refine ⟨t_pend, ?_⟩
        refine adr_val rfl rfl (av_nilCheck rfl) t_lt ?_
        refine adr_val rfl rfl (av_fieldOff (off := 0) rfl Try.underlying89 rfl inf22.size (by decide) rfl) t_lt ?_
        first | refine adr_op rfl rfl (aop_put1 rfl rfl rfl inf22.size t_get t_room rfl ?_)
        refine ⟨t_pend, ?_⟩
        refine ac_seq ?_
        obtain ⟨H5, hH5⟩ : ∃ H5, H5 = H3.put (K.size + 1) (.own 0 [.slice AA' (T.vars.take (i + 1)).length cA', .slice AB (T.parent.take i).length cB, .slice AC (T.links.take i).length cC, .map (some K.size)]) := ⟨_, rfl⟩
        obtain ⟨G5, hG5⟩ : ∃ G5, G5 = G4.put (K.size + 1) (.own 0 [.slice AA' (T.vars.take (i + 1)).length cA', .slice AB (T.parent.take i).length cB, .slice AC (T.links.take i).length cC, .map (some K.size)]) := ⟨_, rfl⟩
        have z4 := hleG4.1
        have hown5 := hown4.put_box (by omega) g4t [.slice AA' (T.vars.take (i + 1)).length cA', .slice AB (T.parent.take i).length cB, .slice AC (T.links.take i).length cC, .map (some K.size)]
        rw [← hG5, ← hH5] at hown5
        have leG5 : K.le G5 := by rw [hG5]; exact Hp.le_put_new (Hp.le_trans leG2 hleG4) (by omega) _
        have g5m : G5.get K.size = .map es := by rw [hG5, Hp.put_other _ _ (by omega)]; exact le_got hleG4 (by omega) (by intro e; cases e) g2m
        have g5t : G5.get (K.size + 1) = .own 0 [.slice AA' (T.vars.take (i + 1)).length cA', .slice AB (T.parent.take i).length cB, .slice AC (T.links.take i).length cC, .map (some K.size)] := by rw [hG5]; exact Hp.put_same _ _ _
        have z5 : K.size + 2 ≤ G5.size := by rw [hG5]; simp; omega
        change ACode true _ _ _ _ _ (H3.put (K.size + 1) (.own 0 [.slice AA' (T.vars.take (i + 1)).length cA', .slice AB (T.parent.take i).length cB, .slice AC (T.links.take i).length cC, .map (some K.size)]))
        rw [← hH5]
        have slG5 : Sl kLink G5 (.slice Aw (placeLinks f X w).length cw) (placeLinks f X w) := by
          rw [hG5]
          exact (slG2.mono hleG4.sees).mono (Hp.sees_box _ g4t)
        obtain ⟨Gb, hleGb, hoB, backB⟩ := (hown5.rot stable_lists (stable_strs _)).open3
        have leK5 := Hp.le_trans leG5 hown5.le
        have h5t := le_got hown5.le (by omega) (by intro e; cases e) g5t
        have h50 := le_got leK5 (by omega) (by intro e; cases e) gK0
        have hcell25 := leK5.cell1 hb2 hcell2
        have zoB := hoB.size
        have zz5 := hown5.size
        have zb := hleGb.1
        clear hH5 hG5 hsameO
        refine ac_draw (by kernel_rfl) (reg_of (B := [0, 0, 2, 6, 14, 0, 32, 0, 128, 0, 896, 1920, 4064, 8160, 16382, 32767, 65535, 131071]) (π := [0, 1, 2, 3, 4, 5, 6, 7, 8, 9, 10, 11, 12, 13, 14, 15, 16, 17]) (by kernel_rfl)) ?_
        first | refine adr_val rfl rfl (av_move_ptr (by first | assumption | rfl)) t_lt ?_ | refine adr_val rfl rfl (av_move (by first | assumption | rfl)) t_lt ?_
        first | refine adr_val rfl rfl (av_move_ptr (by first | assumption | rfl)) t_lt ?_ | refine adr_val rfl rfl (av_move (by first | assumption | rfl)) t_lt ?_
        refine adr_val rfl rfl (av_nilCheck rfl) t_lt ?_
        refine adr_val rfl rfl (av_fieldOff (off := 1) rfl Try.underlying89 rfl inf23.size (by decide) rfl) t_lt ?_
        refine adr_val rfl rfl (av_load1 rfl Try.underlying23 rfl t_cell) t_lt ?_
        refine adr_val rfl rfl (av_fieldOff (off := 1) (by first | assumption | rfl) Try.underlying26 (by first | assumption | rfl) inf23.size (by decide) (by first | assumption | rfl)) t_lt ?_
        refine adr_val rfl rfl (av_load1 rfl Try.underlying23 rfl t_cell) t_lt ?_
        refine adr_val rfl rfl (av_fieldOff (off := 2) (by first | assumption | rfl) Try.underlying26 (by first | assumption | rfl) inf23.size (by decide) (by first | assumption | rfl)) t_lt ?_
        refine adr_val rfl rfl (av_load1 rfl Try.underlying23 rfl t_cell) t_lt ?_
        first | refine adr_val rfl rfl (av_move_int rfl) t_lt ?_ | refine adr_val rfl rfl (av_move rfl) t_lt ?_
        refine adr_val rfl rfl (av_indexAddr rfl rfl Try.underlying23 inf3.size t_idx t_idx) t_lt ?_
        refine adr_val rfl rfl (av_load1 rfl Try.underlying3 rfl t_cell) t_lt ?_
        refine adr_op rfl rfl (aop_call (Index_ints f.order _ (par f w) _ (s1K.mono leK5.sees) (by omega)) rfl Try.func51 rfl rfl rfl ?_)
        rintro v6 H5 ⟨rfl, rfl⟩
        refine ⟨t_pend, ?_⟩
        first | refine adr_make rfl rfl (am_buildSlice (r := [.int .i64 _]) Try.underlying23 inf3.size inf3.zero rfl (by decide) (by decide) (by decide) rfl) ?_
        refine adr_op rfl rfl (OwnP.append (ys := [atI f.order (par f w)]) (hoB.push _) Try.underlying23 inf3 rfl rfl rfl (sl_one (k := kInt .i64) rfl rfl hoB.size rfl) (by rw [lenB]; simp only [List.length_singleton]; omega) (by rw [lenB]; simp only [List.length_singleton]; omega) ?_)
        rintro v7 G7 H7 hle7 hown7
        have hsameO := OwnP.sameO (hoB.push _) hle7 hown7
        rw [take_at tp] at hown7
        obtain ⟨AB', cB', rfl⟩ := hown7.shape
        have hle7' := Hp.le_trans (Hp.le_push _ _) hle7
        obtain ⟨G8, hleG8, hown8⟩ := backB G7 H7 _ _ hle7' hown7
        have g8t := le_got hleG8 (by omega) (by intro e; cases e) g5t
        have h7t := le_got hown8.le (by have := hleG8.1; omega) (by intro e; cases e) g8t
        refine ⟨t_pend, ?_⟩
        refine adr_val rfl rfl (av_nilCheck rfl) t_lt ?_
        refine adr_val rfl rfl (av_fieldOff (off := 1) rfl Try.underlying89 rfl inf23.size (by decide) rfl) t_lt ?_
        first | refine adr_op rfl rfl (aop_put1 rfl rfl rfl inf23.size t_get t_room rfl ?_)
        refine ⟨t_pend, ?_⟩
        refine ac_seq ?_
        obtain ⟨H9, hH9⟩ : ∃ H9, H9 = H7.put (K.size + 1) (.own 0 [.slice AA' (T.vars.take (i + 1)).length cA', .slice AB' (T.parent.take (i + 1)).length cB', .slice AC (T.links.take i).length cC, .map (some K.size)]) := ⟨_, rfl⟩
        obtain ⟨G9, hG9⟩ : ∃ G9, G9 = G8.put (K.size + 1) (.own 0 [.slice AA' (T.vars.take (i + 1)).length cA', .slice AB' (T.parent.take (i + 1)).length cB', .slice AC (T.links.take i).length cC, .map (some K.size)]) := ⟨_, rfl⟩
        have z8 := hleG8.1
        have hown9 := hown8.put_box (by omega) g8t [.slice AA' (T.vars.take (i + 1)).length cA', .slice AB' (T.parent.take (i + 1)).length cB', .slice AC (T.links.take i).length cC, .map (some K.size)]
        rw [← hG9, ← hH9] at hown9
        have leG9 : K.le G9 := by rw [hG9]; exact Hp.le_put_new (Hp.le_trans leG5 hleG8) (by omega) _
        have g9m : G9.get K.size = .map es := by rw [hG9, Hp.put_other _ _ (by omega)]; exact le_got hleG8 (by omega) (by intro e; cases e) g5m
        have g9t : G9.get (K.size + 1) = .own 0 [.slice AA' (T.vars.take (i + 1)).length cA', .slice AB' (T.parent.take (i + 1)).length cB', .slice AC (T.links.take i).length cC, .map (some K.size)] := by rw [hG9]; exact Hp.put_same _ _ _
        have z9 : K.size + 2 ≤ G9.size := by rw [hG9]; simp; omega
        change ACode true _ _ _ _ _ (H7.put (K.size + 1) (.own 0 [.slice AA' (T.vars.take (i + 1)).length cA', .slice AB' (T.parent.take (i + 1)).length cB', .slice AC (T.links.take i).length cC, .map (some K.size)]))
        rw [← hH9]
        have slG9 : Sl kLink G9 (.slice Aw (placeLinks f X w).length cw) (placeLinks f X w) := by
          rw [hG9]
          exact (slG5.mono hleG8.sees).mono (Hp.sees_box _ g8t)
        have hsl9 := slG9.mono hown9.le.sees
        have h9t := le_got hown9.le (by omega) (by intro e; cases e) g9t
        have zz9 := hown9.size
        clear hH9 hG9 hsameO
        refine ac_draw (by kernel_rfl) (reg_of (B := [0, 0, 2, 6, 14, 0, 32, 96, 254, 511, 1023, 2047]) (π := [0, 1, 2, 3, 4, 5, 6, 7, 8, 9, 10, 11]) (by kernel_rfl)) ?_
        first | refine adr_val rfl rfl (av_move_ptr (by first | assumption | rfl)) t_lt ?_ | refine adr_val rfl rfl (av_move (by first | assumption | rfl)) t_lt ?_
        first | refine adr_val rfl rfl (av_move_ptr (by first | assumption | rfl)) t_lt ?_ | refine adr_val rfl rfl (av_move (by first | assumption | rfl)) t_lt ?_
        refine adr_val rfl rfl (av_nilCheck rfl) t_lt ?_
        refine adr_val rfl rfl (av_fieldOff (off := 2) rfl Try.underlying89 rfl inf27.size (by decide) rfl) t_lt ?_
        refine adr_val rfl rfl (av_load1 rfl Try.underlying27 rfl t_cell) t_lt ?_
        first | refine adr_val rfl rfl (av_move_sl rfl) t_lt ?_ | refine adr_val rfl rfl (av_move rfl) t_lt ?_
        refine adr_op rfl rfl (aop_call (Clone_links _ _ _ hsl9 hpll) rfl Try.func52 rfl rfl rfl ?_)
        rintro v10 H10 ⟨G10', hle10, hownL⟩; obtain ⟨AL, cL, rfl⟩ := hownL.shape; have hle10' := Hp.le_trans hle10 hownL.le; obtain ⟨G10, hleG10, hown10⟩ := hown9.later hle10'; have slL := hown10.below (stable_links _) (stable_links _) (stable_links _) (by decide) (by decide) (by decide) hownL.sl; obtain ⟨Gc, hleGc, hoC, backC⟩ := (hown10.rot (stable_strs _) (stable_ints _)).open3; have slLc := slL.mono hleGc.sees; have zoC := hoC.size; have h10t := le_got hle10' (by omega) (by intro e; cases e) h9t; have z10 := hleG10.1; have zc := hleGc.1
        refine ⟨t_pend, ?_⟩
        first | refine adr_make rfl rfl (am_buildSlice (r := [.slice _ _ _]) Try.underlying27 inf50.size inf50.zero rfl (by decide) (by decide) (by decide) rfl) ?_ | refine adr_make rfl rfl (am_buildSlice (r := [_]) Try.underlying27 inf50.size inf50.zero rfl (by decide) (by decide) (by decide) rfl) ?_
        refine adr_op rfl rfl (OwnP.append (ys := [placeLinks f X w]) (hoC.push _) Try.underlying27 inf50 rfl rfl rfl (sl_one (k := kSl kLink) ⟨_, rfl, slLc⟩ rfl hoC.size rfl) (by rw [lenC]; simp only [List.length_singleton]; omega) (by rw [lenC]; simp only [List.length_singleton]; omega) ?_)
        rintro v11 G11 H11 hle11 hown11
        have hsameO := OwnP.sameO (hoC.push _) hle11 hown11
        rw [take_at tl] at hown11
        obtain ⟨AC', cC', rfl⟩ := hown11.shape
        have hle11' := Hp.le_trans (Hp.le_push _ _) hle11
        obtain ⟨G12, hleG12, hown12⟩ := backC G11 H11 _ _ hle11' hown11
        have g10t := le_got hleG10 (by omega) (by intro e; cases e) g9t
        have g12t := le_got hleG12 (by omega) (by intro e; cases e) g10t
        have h11t := le_got hown12.le (by have := hleG12.1; omega) (by intro e; cases e) g12t
        refine ⟨t_pend, ?_⟩
        refine adr_val rfl rfl (av_nilCheck rfl) t_lt ?_
        refine adr_val rfl rfl (av_fieldOff (off := 2) rfl Try.underlying89 rfl inf27.size (by decide) rfl) t_lt ?_
        first | refine adr_op rfl rfl (aop_put1 rfl rfl rfl inf27.size t_get t_room rfl ?_)
        refine ⟨t_pend, ?_⟩
        obtain ⟨H13, hH13⟩ : ∃ H13, H13 = H11.put (K.size + 1) (.own 0 [.slice AA' (T.vars.take (i + 1)).length cA', .slice AB' (T.parent.take (i + 1)).length cB', .slice AC' (T.links.take (i + 1)).length cC', .map (some K.size)]) := ⟨_, rfl⟩
        obtain ⟨G13, hG13⟩ : ∃ G13, G13 = G12.put (K.size + 1) (.own 0 [.slice AA' (T.vars.take (i + 1)).length cA', .slice AB' (T.parent.take (i + 1)).length cB', .slice AC' (T.links.take (i + 1)).length cC', .map (some K.size)]) := ⟨_, rfl⟩
        have z12 := hleG12.1
        have hown13 := hown12.put_box (by omega) g12t [.slice AA' (T.vars.take (i + 1)).length cA', .slice AB' (T.parent.take (i + 1)).length cB', .slice AC' (T.links.take (i + 1)).length cC', .map (some K.size)]
        rw [← hG13, ← hH13] at hown13
        have leG13 : K.le G13 := by rw [hG13]; exact Hp.le_put_new (Hp.le_trans leG9 (Hp.le_trans hleG10 hleG12)) (by omega) _
        have g13m : G13.get K.size = .map es := by rw [hG13, Hp.put_other _ _ (by omega)]; exact le_got (Hp.le_trans hleG10 hleG12) (by omega) (by intro e; cases e) g9m
        have g13t : G13.get (K.size + 1) = .own 0 [.slice AA' (T.vars.take (i + 1)).length cA', .slice AB' (T.parent.take (i + 1)).length cB', .slice AC' (T.links.take (i + 1)).length cC', .map (some K.size)] := by rw [hG13]; exact Hp.put_same _ _ _
        have z13 : K.size + 2 ≤ G13.size := by rw [hG13]; simp; omega
        change ACode true _ _ _ _ _ (H11.put (K.size + 1) (.own 0 [.slice AA' (T.vars.take (i + 1)).length cA', .slice AB' (T.parent.take (i + 1)).length cB', .slice AC' (T.links.take (i + 1)).length cC', .map (some K.size)]))
        rw [← hH13]
        have h13t := le_got hown13.le (by omega) (by intro e; cases e) g13t
        have h13m := le_got hown13.le (by omega) (by intro e; cases e) g13m
        have zz13 := hown13.size
        obtain ⟨sl1, sl2, sl3⟩ := hown13.sls
        clear hH13 hG13 hsameO
        have eP : (T.parent.take (i + 1)).getD i 0 = T.parent.getD i 0 := by rw [List.getD_eq_getElem?_getD, List.getD_eq_getElem?_getD, List.getElem?_take, if_pos (by omega)]
        have hiL : i < (T.links.take (i + 1)).length := by rw [List.length_take]; omega
        have eL : (T.links.take (i + 1))[i]'hiL = placeLinks f X w := by
          rw [List.getElem_take]
          exact (List.getElem?_eq_some_iff.1 tl).2
        have eL2 : T.links.getD i [] = placeLinks f X w := by rw [List.getD_eq_getElem?_getD, tl]; rfl
        refine ac_region (by kernel_rfl) ?_
        first | refine aops_val (av_move_ptr (by first | assumption | rfl)) ?_ | refine aops_val (av_move (by first | assumption | rfl)) ?_
        first | refine aops_val (av_move_int rfl) ?_ | refine aops_val (av_move rfl) ?_
        refine aops_op (aop_call (group_tree (b := K.size + 1) (mb := K.size) (by omega) (by omega) h13t sl2 sl3 h13m i hiL (by rw [List.length_take]; omega) (by rw [eL]; exact hpll) (fun _ => by rw [eL]; exact hrise) hsp.keys (fun a => hsp.none i a (Nat.le_refl _))) rfl Try.func53 rfl rfl rfl ?_)
        rintro v14 H14 ⟨es', rfl, hes'⟩
        refine ac_region (by kernel_rfl) ?_
        first | refine aops_val (av_add64 (by first | assumption | rfl) (by first | assumption | rfl) t_fits) ?_ | refine aops_val (av_add (by first | assumption | rfl) (by first | assumption | rfl)) ?_
        first | refine aops_val (av_move_int rfl) ?_ | refine aops_val (av_move rfl) ?_
        refine ⟨f.order.length - (i + 1), by omega, i + 1, G13.put K.size (.map es'), _, _, _, es', by omega, rfl, Hp.le_put_new leG13 (Nat.le_refl _) _, by simp; omega, Hp.put_same _ _ _, by rw [Hp.put_other _ _ (by omega)]; exact g13t, hown13.put_map (by omega) g13m es', hsp.step ?_, e2, e3, e7, e24, e25, rfl⟩
        rw [eP, eL] at hes'
        rw [eL2]
        exact hes'
    · intro hc2
      (try simp only [decide_eq_true_eq, decide_eq_false_iff_not, Bool.not_eq_true', Bool.not_eq_false'] at hc2)
      refine ac_exit ?_
      refine ac_seq ?_
      refine ac_region (by kernel_rfl) ?_
      first | refine aops_val (av_move_ptr (by first | assumption | rfl)) ?_ | refine aops_val (av_move (by first | assumption | rfl)) ?_
      first | refine aops_val (av_assign_ptr rfl) ?_ | refine aops_val (av_assign rfl) ?_
      first | refine aops_val (av_assign_int rfl) ?_ | refine aops_val (av_assign rfl) ?_
      refine ac_ret ?_
      obtain rfl : i = f.order.length := by omega
      obtain ⟨sl1, sl2, sl3⟩ := hown.sls
      rw [List.take_of_length_le (by omega)] at sl1 sl2 sl3
      have zz := hown.size
      exact ⟨_, aresult2 (ares_tmp rfl) (ares_tmp rfl), Hp.le_trans leK leK1, true, .pointer (some ⟨K.size + 1, 0, none⟩), hg, rfl, by
        rw [if_pos rfl]
        exact ⟨K.size + 1, K.size, A, B, C, es, rfl, by omega, by omega, le_got hown.le (by omega) (by intro e; cases e) gt, sl1, sl2, sl3, le_got hown.le (by omega) (by intro e; cases e) gm, by rw [tl3]; exact hsp⟩⟩
end Go.Proofs.Ytcaeoebphfjfiaa.Am


/- All rows of good parts, by the document's words. -/
namespace Go.Proofs.Ytcaeoebphfjfiaa.Am
open Go Go.RowKit
set_option maxRecDepth 100000
set_option linter.unusedVariables false
set_option linter.unusedSimpArgs false

end Go.Proofs.Ytcaeoebphfjfiaa.Am


/- The nodes and links that are in rows, by the document's words. -/
namespace Go.Proofs.Ytcaeoebphfjfiaa.Am
open Go Go.RowKit
set_option maxRecDepth 100000
set_option linter.unusedVariables false
set_option linter.unusedSimpArgs false

def nodeAt (f : Forest) (r : RowT) (v : Int) : Int := r.nodes.getD (atI f.order v).toNat 0
def nodeIn (f : Forest) (rows : List RowT) (v : Nat) (x : Link) : Bool := rows.any fun r => decide (nodeAt f r v = x.a)
def linkIn (f : Forest) (rows : List RowT) (v : Nat) (x : Link) : Bool := rows.any fun r => decide (nodeAt f r v = x.b) && decide (nodeAt f r (par f v) = x.a)
def ofNodes (f : Forest) (p : Parts) (rows : List RowT) (v : Nat) : List Link := (nd p v).filter (nodeIn f rows v)
def ofLinks (f : Forest) (p : Parts) (rows : List RowT) (v : Nat) : List Link := (lk p v).filter (linkIn f rows v)
def ofTo (f : Forest) (p : Parts) (rows : List RowT) (k : Nat) : Parts := ⟨(List.range k).map (ofNodes f p rows), (List.range k).map (ofLinks f p rows)⟩
def refOf (f : Forest) (p : Parts) : Parts := ofTo f p (rowsP f p) f.vars.length
theorem OwnP.get_new {α : Type} {k : Kd α} {G H G' H' : Hp} {v : Value} {xs ys : List α} (h0 : OwnP k G H v xs) (h : OwnP k G' H' v ys) {c : Nat} (hc : G.size ≤ c) : G'.get c = H'.get c := by
  rcases h with ⟨rfl, rfl, rfl⟩ | ⟨b, cs, d, rfl, hb, hd, rfl, _⟩
  · rfl
  · rcases h0 with ⟨h, _⟩ | ⟨b', cs', d', e, hb', _⟩
    · cases h
    · simp only [Value.slice.injEq, Option.some.injEq, Addr.mk.injEq, and_true] at e
      obtain ⟨rfl, _⟩ := e
      rw [Hp.put_other _ _ (by omega)]
theorem OwnP.under {α β : Type} {k : Kd α} {k' : Kd β} {G H : Hp} {v r : Value} {xs : List α} {ys : List β} (h : OwnP k G H v xs) (hk : ∀ (H H' : Hp) x cs, k'.rep H x cs → k'.rep H' x cs) (hne : k.sz ≠ k'.sz) (hs : Sl k' H r ys) : Sl k' G r ys := by
  rcases h with ⟨rfl, rfl, rfl⟩ | ⟨b, cs, d, rfl, hb, hd, rfl, _⟩
  · exact hs
  · have := hs.put_odd hk (b1 := b) (st := k.sz) (cs := cs) (Hp.put_same _ _ _) hne .dead
    rwa [Hp.put_put, Hp.put_self _ hd] at this
end Go.Proofs.Ytcaeoebphfjfiaa.Am


/- What was reduced has the same rows, and each of its nodes and links is in some row. -/
namespace Go.Proofs.Ytcaeoebphfjfiaa.Am
open Go Go.RowKit
set_option maxRecDepth 100000
set_option linter.unusedVariables false
set_option linter.unusedSimpArgs false

/-- Nodes that are chosen, each with all above it. -/
def Pinned (f : Forest) (x : Parts) (pin : Nat → Option Int) : Prop := ∀ s a, pin s = some a → s < f.vars.length ∧ a ∈ firsts (nd x (vAt f s)) ∧ (0 ≤ par f (vAt f s) → ∃ l ∈ lk x (vAt f s), pin (posOf f (par f (vAt f s))) = some l.a ∧ l.b = a)
structure Fit (f : Forest) (x : Parts) : Prop where
  gf : GoodF f
  full : ∀ v : Nat, v < f.vars.length → par f v ≠ -1 → Full f x v
  root : ∀ v : Nat, v < f.vars.length → par f v = -1 → nd x v ≠ []
end Go.Proofs.Ytcaeoebphfjfiaa.Am


/- Just those nodes and links are left that are in some row, and the rows are what they were. -/
namespace Go.Proofs.Ytcaeoebphfjfiaa.Am
open Go Go.RowKit
set_option maxRecDepth 100000
set_option linter.unusedVariables false
set_option linter.unusedSimpArgs false

end Go.Proofs.Ytcaeoebphfjfiaa.Am


/- What the document calls reduced is what is left. -/
namespace Go.Proofs.Ytcaeoebphfjfiaa.Am
open Go Go.RowKit
set_option maxRecDepth 100000
set_option linter.unusedVariables false
set_option linter.unusedSimpArgs false

end Go.Proofs.Ytcaeoebphfjfiaa.Am


/- Places of parents, groups and rows, by the document's words. -/
namespace Go.Proofs.Ytcaeoebphfjfiaa.Am
open Go Go.RowKit
set_option maxRecDepth 100000
set_option linter.unusedVariables false
set_option linter.unusedSimpArgs false

def parR (f : Forest) (i : Int) : Int := if 0 ≤ i ∧ i < f.order.length then atI f.order (par f (vAt f i.toNat)) else -1
def findRow (rows : List RowT) (ns : List Int) : Int := match rows.findIdx? (fun r => decide (r.nodes = ns)) with
  | some i => i
  | none => -1
def groupOne (f : Forest) (x : Parts) (v : Nat) (above : Int) (y : Link) : Option Link :=
  if 0 ≤ par f v then
    if 0 ≤ findI (lk x v) above y.a then some ⟨above, y.a, y.cost + ((lk x v).getD (findI (lk x v) above y.a).toNat dLink).cost, timesI y.n ((lk x v).getD (findI (lk x v) above y.a).toNat dLink).n⟩ else none
  else some y
def groupR (f : Forest) (x : Parts) (i above : Int) : List Link := if 0 ≤ i ∧ i < f.order.length then (nd x (vAt f i.toNat)).filterMap (groupOne f x (vAt f i.toNat) above) else []
end Go.Proofs.Ytcaeoebphfjfiaa.Am


/- What is asked of a tree holds of the trees that are made; their groups are those of the document's words. -/
namespace Go.Proofs.Ytcaeoebphfjfiaa.Am
open Go Go.RowKit
set_option maxRecDepth 100000
set_option linter.unusedVariables false
set_option linter.unusedSimpArgs false

theorem nodeOf_or (ns : List Link) (b : Int) : nodeOf ns b ∈ ns ∨ nodeOf ns b = dLink := by
  unfold nodeOf
  cases h : ns.find? (fun y => decide (y.a = b)) with
  | none => exact .inr rfl
  | some y => exact .inl (List.mem_of_find?_eq_some h)
theorem nd_rise {f : Forest} {x : Parts} (h : GoodP f x) {v : Nat} (hv : v < f.vars.length) : (nd x v).Pairwise fun y z => y.b < z.b :=
  List.Pairwise.imp_of_mem (R := fun y z => y.a < z.a) (fun {y z} hy hz hl => by have := (h.ok v hv).2.2.1 y hy; have := (h.ok v hv).2.2.1 z hz; omega) (goodL_strict (h.ok v hv).1 (h.ok v hv).2.2.1)
theorem tree_par {f : Forest} (x : Parts) (hg : GoodF f) {i : Nat} (hi : i < f.vars.length) : (treeOf f x).parent.getD i 0 = atI f.order (par f (vAt f i)) := by
  rw [List.getD_eq_getElem?_getD, (treeOf_at x (by rw [hg.l1]; exact hi)).2.1]; rfl
theorem tree_links {f : Forest} (x : Parts) (hg : GoodF f) {i : Nat} (hi : i < f.vars.length) : (treeOf f x).links.getD i [] = placeLinks f x (vAt f i) := by
  rw [List.getD_eq_getElem?_getD, (treeOf_at x (by rw [hg.l1]; exact hi)).2.2]; rfl
/-- Who has no parent has none in the tree. -/
theorem at_root {f : Forest} (hg : GoodF f) {i : Nat} (hi : i < f.vars.length) : (par f (vAt f i) = -1 ∧ atI f.order (par f (vAt f i)) = -1) ∨ (0 ≤ par f (vAt f i) ∧ 0 ≤ atI f.order (par f (vAt f i)) ∧ atI f.order (par f (vAt f i)) = posOf f (par f (vAt f i)) ∧ posOf f (par f (vAt f i)) < i) := by
  have hge := hg.parent_ge (hg.vAt_lt hi).1
  change -1 ≤ par f (vAt f i) ∧ par f (vAt f i) < _ at hge
  by_cases h : par f (vAt f i) = -1
  · refine .inl ⟨h, ?_⟩
    rw [h]
    exact atI_none fun hm => by have := hg.order_in hm; omega
  · have h0 : 0 ≤ par f (vAt f i) := by omega
    obtain ⟨p1, p2⟩ := hg.pos_par hi h0
    have hm : par f (vAt f i) ∈ f.order := by
      have := hg.in_order (v := (par f (vAt f i)).toNat) (by omega)
      rwa [Int.toNat_of_nonneg h0] at this
    obtain ⟨q, hq, _⟩ := atI_take (i := f.order.length) (by rw [List.take_length]; exact hm)
    exact .inr ⟨h0, by omega, by unfold posOf; omega, p1⟩
theorem place_row {f : Forest} {x : Parts} (hG : GoodP f x) {i : Nat} (hi : i < f.vars.length) (above : Int) : (treeOf f x).row i above = if par f (vAt f i) = -1 then nd x (vAt f i) else ((lk x (vAt f i)).map (weigh (nd x (vAt f i)))).filter fun l => decide (l.a = above) := by
  unfold TreeT.row
  rw [tree_par x hG.gf hi, tree_links x hG.gf hi]
  unfold placeLinks
  rcases at_root hG.gf hi with ⟨h1, h2⟩ | ⟨h1, h2, _⟩
  · rw [if_pos h2, if_pos h1, if_pos h1]
  · rw [if_neg (by omega), if_neg (by omega), if_neg (by omega)]
theorem row_rise {f : Forest} {x : Parts} (hG : GoodP f x) {i : Nat} (hi : i < f.vars.length) (above : Int) : ((treeOf f x).row i above).Pairwise fun y z => y.b < z.b := by
  have hv := (hG.gf.vAt_lt hi).1
  rw [place_row hG hi]
  split
  · exact nd_rise hG hv
  · have h1 := (goodL_iff.1 (hG.ok _ hv).2.1).2
    refine List.Pairwise.imp_of_mem (R := fun y z => lessL y z = true) (fun {y z} hy hz hl => ?_) ((List.Pairwise.map (R := fun y z => lessL y z = true) (weigh (nd x (vAt f i))) (fun a b h => h) h1).filter _)
    have e1 := of_decide_eq_true (List.mem_filter.1 hy).2
    have e2 := of_decide_eq_true (List.mem_filter.1 hz).2
    simp only [lessL, Bool.or_eq_true, Bool.and_eq_true, decide_eq_true_eq] at hl
    omega
theorem weigh_ok {f : Forest} {x : Parts} (hch : Cheap x) {v : Nat} {l : Link} (hl : l ∈ lk x v) : 0 ≤ (weigh (nd x v) l).cost ∧ (weigh (nd x v) l).cost ≤ 2000000000 ∧ 0 ≤ (weigh (nd x v) l).n := by
  obtain ⟨a1, a2, a3⟩ := hch.links v l hl
  have hb : 0 ≤ (nodeOf (nd x v) l.b).cost ∧ (nodeOf (nd x v) l.b).cost ≤ 1000000000 ∧ 0 ≤ (nodeOf (nd x v) l.b).n := by
    rcases nodeOf_or (nd x v) l.b with h | h
    · exact hch.nodes v _ h
    · rw [h]; decide
  exact ⟨by show 0 ≤ _ + _; omega, by show _ + _ ≤ _; omega, (timesI_le a3 hb.2.2).1⟩
theorem good_tree {f : Forest} {x : Parts} (hG : GoodP f x) (hs : Small f x) (hch : Cheap x) (hv : f.vars.length ≤ 1000) : GoodT (treeOf f x) := by
  obtain ⟨t1, t2, t3⟩ := treeOf_len (f := f) x
  have hol : f.order.length = f.vars.length := hG.gf.l1
  have mem : ∀ l ∈ (treeOf f x).links, ∃ v, l = placeLinks f x v := fun l hl => by
    obtain ⟨v, _, rfl⟩ := List.mem_map.1 hl
    exact ⟨_, rfl⟩
  refine ⟨by omega, by omega, by omega, fun l hl => ?_, fun i hi => ?_, fun i above => ?_, fun l hl y hy => ?_⟩
  · obtain ⟨v, rfl⟩ := mem l hl
    unfold placeLinks
    split
    · exact getD_len hs.s5 v
    · rw [List.length_map]; exact getD_len hs.s6 v
  · rw [tree_par x hG.gf (by omega)]
    rcases at_root hG.gf (i := i) (by omega) with ⟨_, h2⟩ | ⟨_, h2, h3, h4⟩
    · exact .inl h2
    · exact .inr ⟨h2, by omega⟩
  · unfold TreeT.group
    split
    · exact row_rise hG (by omega) _
    · exact List.Pairwise.nil
  · obtain ⟨v, rfl⟩ := mem l hl
    unfold placeLinks at hy
    split at hy
    · obtain ⟨a1, a2, a3⟩ := hch.nodes v y hy
      exact ⟨a1, by omega, a3⟩
    · obtain ⟨l, hl, rfl⟩ := List.mem_map.1 hy
      exact weigh_ok (f := f) hch hl
end Go.Proofs.Ytcaeoebphfjfiaa.Am


/- Two variables, of which one link leads from the one to the other; the small living call of the statements on reducing. -/
namespace Go.Proofs.Ytcaeoebphfjfiaa.Am
open Go Go.RowKit
set_option maxRecDepth 100000
set_option linter.unusedVariables false
set_option linter.unusedSimpArgs false

def twoF : Forest := ⟨[⟨#[120]⟩, ⟨#[121]⟩], [0, 1], [-1, 0], [[], [0]], [[], []]⟩
def twoP : Parts := ⟨[[⟨0, 0, 0, 1⟩, ⟨1, 1, 0, 1⟩], [⟨0, 0, 0, 1⟩, ⟨1, 1, 0, 1⟩]], [[], [⟨0, 1, 0, 1⟩]]⟩
theorem rep_link (G : Hp) (x : Link) : kLink.rep G x [.int .i64 x.a, .int .i64 x.b, .int .i64 x.cost, .int .u64 x.n] := rfl
theorem sl_two {α : Type} {k : Kd α} {H : Hp} {b c st : Nat} {x y : α} {u v : Value} (hg : H.get b = .own st [u, v]) (hb : b < H.size) (h1 : k.rep H x [u]) (h2 : k.rep H y [v]) (hst : k.sz = st) : Sl k H (.slice (some ⟨b, 0, none⟩) 2 c) [x, y] :=
  Els.sl (xs := [x, y]) (cs := [u, v]) (Els.cons (c := [u]) h1 (Els.cons (c := [v]) h2 (Els.nil _ _ []))) (Hp.sees.refl _) hb hg hst
theorem sl_one1 {α : Type} {k : Kd α} {H : Hp} {b c st : Nat} {x : α} {u : Value} (hg : H.get b = .own st [u]) (hb : b < H.size) (h1 : k.rep H x [u]) (hst : k.sz = st) : Sl k H (.slice (some ⟨b, 0, none⟩) 1 c) [x] :=
  Els.sl (xs := [x]) (cs := [u]) (Els.cons (c := [u]) h1 (Els.nil _ _ [])) (Hp.sees.refl _) hb hg hst
theorem sl_link1 {H : Hp} {b c : Nat} {x : Link} (hg : H.get b = .own 4 [.int .i64 x.a, .int .i64 x.b, .int .i64 x.cost, .int .u64 x.n]) (hb : b < H.size) : Sl kLink H (.slice (some ⟨b, 0, none⟩) 1 c) [x] :=
  Els.sl (xs := [x]) (cs := _) (Els.cons (c := _) (rep_link H x) (Els.nil _ _ [])) (Hp.sees.refl _) hb hg rfl
theorem sl_link2 {H : Hp} {b c : Nat} {x y : Link} (hg : H.get b = .own 4 [.int .i64 x.a, .int .i64 x.b, .int .i64 x.cost, .int .u64 x.n, .int .i64 y.a, .int .i64 y.b, .int .i64 y.cost, .int .u64 y.n]) (hb : b < H.size) : Sl kLink H (.slice (some ⟨b, 0, none⟩) 2 c) [x, y] :=
  Els.sl (xs := [x, y]) (cs := _) (Els.cons (c := _) (rep_link H x) (Els.cons (c := _) (rep_link H y) (Els.nil _ _ []))) (Hp.sees.refl _) hb hg rfl
end Go.Proofs.Ytcaeoebphfjfiaa.Am


/- Whether two lists of rows are one; whether a forest is small. -/
namespace Go.Proofs.Ytcaeoebphfjfiaa.Am
open Go Go.RowKit
set_option maxRecDepth 100000
set_option linter.unusedVariables false
set_option linter.unusedSimpArgs false

end Go.Proofs.Ytcaeoebphfjfiaa.Am
