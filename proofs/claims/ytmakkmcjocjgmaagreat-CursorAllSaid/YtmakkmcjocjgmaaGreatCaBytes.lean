/- Bytes become a text. -/
import Derived.Test.YtmakkmcjocjgmaaGreatCaSlice3
import Derived.Laws.BytesString
namespace Go.Proofs.YtmakkmcjocjgmaaGreat.Am
open Go Go.RowKit
set_option linter.unusedVariables false
set_option linter.unusedSimpArgs false

theorem LRel.scals {φ : Inj} {xs ys : List Value} (h : LRel φ xs ys) (hs : ∀ v ∈ xs, Am.scal v = true) : ys = xs := by
  refine List.ext_getElem (by rw [h.1]) fun i h1 h2 => ?_
  obtain ⟨v, hv, hr⟩ := h.get (List.getElem?_eq_getElem h1)
  rw [List.getElem?_eq_getElem h2] at hv
  have hv := Option.some.inj hv
  subst hv
  exact hr.scal (hs _ (List.getElem_mem h2))
def Zv (ns : List Int) : ByteArray := ns.foldl (fun r n => r.push (UInt8.ofNat n.toNat)) ByteArray.empty
theorem av_bytes {P : Program} {t : Fr} {H : Hp} {d : Option Tmp} {ty : TypeId} {pos : String} {after : Array Edge} {guard : Option (Nat × Bool)} {src dst e : TypeId} {x : Operand} {n c b o : Nat} {ns : List Int} (hx : t.eval x = .slice (some ⟨b, o, none⟩) n c) (hs : P.underlying src = some (.slice e)) (he : P.underlying e = some (.int .u8)) (hd : P.underlying dst = some .string) (hc : Cells H b o (ns.map (Value.int .u8))) (hl : ns.length = n) (hpos : 0 < n) :
    AVal P ⟨d, .convert src dst x, ty, pos, after, guard⟩ t [b] H (.string (Zv ns)) := fun H' hH base φ w a hw ho => by
  have h1 := ho x (by simp [Op.operands])
  rw [hx] at h1
  generalize hq : a.eval x = u at h1
  cases h1 with
  | @slice _ g o n c c' hg hn hcap hin =>
    have hc' : Cells H' b o (ns.map (Value.int .u8)) := fun j v hj => by
      have h2 := hc j v hj
      unfold Hp.cell? at h2 ⊢
      rw [hH b (by simp)]; exact h2
    obtain ⟨cs', hl', hr⟩ := hc'.real hw hg
    obtain rfl : cs' = ns.map (Value.int .u8) := hl'.scals fun v hv => by
      obtain ⟨m, _, rfl⟩ := List.mem_map.1 hv
      rfl
    have hload := run_loadCells_list (P := P) w ⟨g.rb, o + g.d, none⟩ (ns.map (Value.int .u8)) (fun j v hj => by rw [Addr.add_lit]; exact hr j v hj)
    rw [List.length_map, hl] at hload
    refine ⟨_, w, ?_, VRel.of_scal rfl, .refl w⟩
    have hb := run_bytesToString w ⟨g.rb, o + g.d, none⟩ n c' ns hload
    simp [execOp, hq, convert, run_underlying hs, run_underlying hd, run_underlying he, hb, Zv]
  | slice0 a1 a' c hc => omega
end Go.Proofs.YtmakkmcjocjgmaaGreat.Am
