/-
  No cell of these rows narrows 'for every input' (looked for: loops, veiled, ifaces, maps, wideKeys, modest, calm, conditions, laid).
  DERIVED. THE GIVEN ROWS OF THIS SEAT. 7 by the template 'for every input the law returns true; each argument reads behind the call as it read before'; 0 by the template 'total and deterministic' (their statements: YtmakkmcjocjgmaaGreatTotals.lean).
  GIVEN WITH THE SEED: the statements are not yours to turn. If you find one false, say at which input.
  Laid BY PROGRAM, IN A SANDBOX (cutbox-rows.mjs): the forced cells as the released guide's own fill.sh prints them over the translation 44a22c006c1002af… (all of the seat's roots in one cut). By AI agents, Wed Nov 11 2026. No macro, syntax, notation, axiom, sorry.
-/
import Derived.Test.YtmakkmcjocjgmaaGreatChecked
import GoSem.Claim
import GoSem.ClaimJoined
import GoSem.ClaimMapViews
import Derived.JoinedTies
import Derived.KernelRfl
namespace Go.Proofs.YtmakkmcjocjgmaaGreat
/- THE CELL 'sum', in the pinned program and in every row, IS THE sha256 OF THE DUMP (.gsa) THAT YtmakkmcjocjgmaaGreatProg.lean LOADS. Nothing in Lean hashes anything: it is a label: what it is worth is what the hold of that sum in a sandbox is worth. -/
noncomputable def Tryz.pinned : Pinned := { name := "ytmakkmcjocjgmaagreat", sum := "44a22c006c1002afc3ccb4e0f51eb302cc5a59d918c6dad14a66cf0aa7d467db", checked := Tryz.checked }
namespace Rows
def none {H : Type} : Left H := { results := [], args := [] }

/-- 'bridlewaylaw36.CursorNext': WHATEVER THE INPUT: true; the input reads as it did. -/
def cursorNextSpec : ChangeSpec := { name := "cursorNext", fn := fun _ => fun
  | [d1, d2, d3] => { results := [.lit (.bool true)], args := [d1, d2, d3] }
  | _ => none }
def cursorNextRow : OpenClaim := { program := "ytmakkmcjocjgmaagreat", sum := "44a22c006c1002afc3ccb4e0f51eb302cc5a59d918c6dad14a66cf0aa7d467db", func := "bridleway/bridlewaylaw36.CursorNext", spec := "cursorNext", unfollowed := true, recurses := true, plainKeys := false, apart := false }
def CursorNextSaid : Prop := cursorNextRow.holds Tryz.pinned (OpenSpec.ofChange cursorNextSpec)

/-- ITS FALSE NEIGHBOUR: 'it returns false'. Refute it at one input. -/
def cursorNextWrong : ChangeSpec := { name := "cursorNext", fn := fun _ => fun
  | [d1, d2, d3] => { results := [.lit (.bool false)], args := [d1, d2, d3] }
  | _ => none }
def CursorNextWrongFalsely : Prop := cursorNextRow.holds Tryz.pinned (OpenSpec.ofChange cursorNextWrong)

/-- 'bridlewaylaw36.CursorNone': WHATEVER THE INPUT: true; the input reads as it did. -/
def cursorNoneSpec : ChangeSpec := { name := "cursorNone", fn := fun _ => fun
  | [d] => { results := [.lit (.bool true)], args := [d] }
  | _ => none }
def cursorNoneRow : OpenClaim := { program := "ytmakkmcjocjgmaagreat", sum := "44a22c006c1002afc3ccb4e0f51eb302cc5a59d918c6dad14a66cf0aa7d467db", func := "bridleway/bridlewaylaw36.CursorNone", spec := "cursorNone", unfollowed := true, recurses := true, plainKeys := false, apart := false }
def CursorNoneSaid : Prop := cursorNoneRow.holds Tryz.pinned (OpenSpec.ofChange cursorNoneSpec)

/-- ITS FALSE NEIGHBOUR: 'it returns false'. Refute it at one input. -/
def cursorNoneWrong : ChangeSpec := { name := "cursorNone", fn := fun _ => fun
  | [d] => { results := [.lit (.bool false)], args := [d] }
  | _ => none }
def CursorNoneWrongFalsely : Prop := cursorNoneRow.holds Tryz.pinned (OpenSpec.ofChange cursorNoneWrong)

/-- 'bridlewaylaw32.AccessRank': WHATEVER THE INPUT: true; the input reads as it did. -/
def accessRankSpec : ChangeSpec := { name := "accessRank", fn := fun _ => fun
  | [d1, d2, d3] => { results := [.lit (.bool true)], args := [d1, d2, d3] }
  | _ => none }
def accessRankRow : OpenClaim := { program := "ytmakkmcjocjgmaagreat", sum := "44a22c006c1002afc3ccb4e0f51eb302cc5a59d918c6dad14a66cf0aa7d467db", func := "bridleway/bridlewaylaw32.AccessRank", spec := "accessRank", unfollowed := true, recurses := true, plainKeys := false, apart := false }
def AccessRankSaid : Prop := accessRankRow.holds Tryz.pinned (OpenSpec.ofChange accessRankSpec)

/-- ITS FALSE NEIGHBOUR: 'it returns false'. Refute it at one input. -/
def accessRankWrong : ChangeSpec := { name := "accessRank", fn := fun _ => fun
  | [d1, d2, d3] => { results := [.lit (.bool false)], args := [d1, d2, d3] }
  | _ => none }
def AccessRankWrongFalsely : Prop := accessRankRow.holds Tryz.pinned (OpenSpec.ofChange accessRankWrong)

/-- 'bridlewaylaw32.AccessAt': WHATEVER THE INPUT: true; the input reads as it did. -/
def accessAtSpec : ChangeSpec := { name := "accessAt", fn := fun _ => fun
  | [d1, d2, d3] => { results := [.lit (.bool true)], args := [d1, d2, d3] }
  | _ => none }
def accessAtRow : OpenClaim := { program := "ytmakkmcjocjgmaagreat", sum := "44a22c006c1002afc3ccb4e0f51eb302cc5a59d918c6dad14a66cf0aa7d467db", func := "bridleway/bridlewaylaw32.AccessAt", spec := "accessAt", unfollowed := true, recurses := true, plainKeys := false, apart := false }
def AccessAtSaid : Prop := accessAtRow.holds Tryz.pinned (OpenSpec.ofChange accessAtSpec)

/-- ITS FALSE NEIGHBOUR: 'it returns false'. Refute it at one input. -/
def accessAtWrong : ChangeSpec := { name := "accessAt", fn := fun _ => fun
  | [d1, d2, d3] => { results := [.lit (.bool false)], args := [d1, d2, d3] }
  | _ => none }
def AccessAtWrongFalsely : Prop := accessAtRow.holds Tryz.pinned (OpenSpec.ofChange accessAtWrong)

/-- 'bridlewaylaw36.CursorGets': WHATEVER THE INPUT: true; the input reads as it did. -/
def cursorGetsSpec : ChangeSpec := { name := "cursorGets", fn := fun _ => fun
  | [d] => { results := [.lit (.bool true)], args := [d] }
  | _ => none }
def cursorGetsRow : OpenClaim := { program := "ytmakkmcjocjgmaagreat", sum := "44a22c006c1002afc3ccb4e0f51eb302cc5a59d918c6dad14a66cf0aa7d467db", func := "bridleway/bridlewaylaw36.CursorGets", spec := "cursorGets", unfollowed := true, recurses := true, plainKeys := false, apart := false }
def CursorGetsSaid : Prop := cursorGetsRow.holds Tryz.pinned (OpenSpec.ofChange cursorGetsSpec)

/-- ITS FALSE NEIGHBOUR: 'it returns false'. Refute it at one input. -/
def cursorGetsWrong : ChangeSpec := { name := "cursorGets", fn := fun _ => fun
  | [d] => { results := [.lit (.bool false)], args := [d] }
  | _ => none }
def CursorGetsWrongFalsely : Prop := cursorGetsRow.holds Tryz.pinned (OpenSpec.ofChange cursorGetsWrong)

/-- 'bridlewaylaw36.CursorAll': WHATEVER THE INPUT: true; the input reads as it did. -/
def cursorAllSpec : ChangeSpec := { name := "cursorAll", fn := fun _ => fun
  | [d1, d2] => { results := [.lit (.bool true)], args := [d1, d2] }
  | _ => none }
def cursorAllRow : OpenClaim := { program := "ytmakkmcjocjgmaagreat", sum := "44a22c006c1002afc3ccb4e0f51eb302cc5a59d918c6dad14a66cf0aa7d467db", func := "bridleway/bridlewaylaw36.CursorAll", spec := "cursorAll", unfollowed := true, recurses := true, plainKeys := false, apart := false }
def CursorAllSaid : Prop := cursorAllRow.holds Tryz.pinned (OpenSpec.ofChange cursorAllSpec)

/-- ITS FALSE NEIGHBOUR: 'it returns false'. Refute it at one input. -/
def cursorAllWrong : ChangeSpec := { name := "cursorAll", fn := fun _ => fun
  | [d1, d2] => { results := [.lit (.bool false)], args := [d1, d2] }
  | _ => none }
def CursorAllWrongFalsely : Prop := cursorAllRow.holds Tryz.pinned (OpenSpec.ofChange cursorAllWrong)

/-- 'bridlewaylaw36.CursorPuts': WHATEVER THE INPUT: true; the input reads as it did. -/
def cursorPutsSpec : ChangeSpec := { name := "cursorPuts", fn := fun _ => fun
  | [d1, d2] => { results := [.lit (.bool true)], args := [d1, d2] }
  | _ => none }
def cursorPutsRow : OpenClaim := { program := "ytmakkmcjocjgmaagreat", sum := "44a22c006c1002afc3ccb4e0f51eb302cc5a59d918c6dad14a66cf0aa7d467db", func := "bridleway/bridlewaylaw36.CursorPuts", spec := "cursorPuts", unfollowed := true, recurses := true, plainKeys := false, apart := false }
def CursorPutsSaid : Prop := cursorPutsRow.holds Tryz.pinned (OpenSpec.ofChange cursorPutsSpec)

/-- ITS FALSE NEIGHBOUR: 'it returns false'. Refute it at one input. -/
def cursorPutsWrong : ChangeSpec := { name := "cursorPuts", fn := fun _ => fun
  | [d1, d2] => { results := [.lit (.bool false)], args := [d1, d2] }
  | _ => none }
def CursorPutsWrongFalsely : Prop := cursorPutsRow.holds Tryz.pinned (OpenSpec.ofChange cursorPutsWrong)

/- THE SECOND FORM. 'bulk': how many values and letters a reading holds, each counted each time it is reached (what is shared counts as often as it is met; a slice's spare places count too). A statement '..UptoSaid' is the law's where the arguments, and the package variables that the reading takes, are together of bulk at most 1048576: NARROWER than '..Said'. Prove '..Said' where nothing that the law and all that it calls make is longer than what came in: it says more and counts as full. Else prove '..UptoSaid'. A law counts once. -/
mutual
def uptoBulk {H : Type} : DataW H → Nat
  | .lit (.string bytes) => bytes.length + 1
  | .lit _ => 1
  | .nil => 1
  | .ptr d => uptoBulk d + 1
  | .slice elems spare => uptoBulkAll elems + uptoBulkAll spare + 1
  | .agg parts => uptoBulkAll parts + 1
  | .iface _ d => uptoBulk d + 1
  | .map entries => uptoBulkEntries entries + 1
  | .held _ => 1
def uptoBulkAll {H : Type} : List (DataW H) → Nat
  | [] => 0
  | d :: r => uptoBulk d + uptoBulkAll r
def uptoBulkEntries {H : Type} : List (Lit × DataW H) → Nat
  | [] => 0
  | x :: r => uptoBulkEntry x + uptoBulkEntries r
def uptoBulkEntry {H : Type} : Lit × DataW H → Nat
  | (.string bytes, d) => bytes.length + uptoBulk d + 1
  | (_, d) => uptoBulk d + 1
 end
def uptoSmall : (H : Type) → List (DataW H) → Bool := fun _ ds => decide (uptoBulkAll ds ≤ 1048576)
def OpenSpec.upto (s : _root_.Go.ChangeSpec) : _root_.Go.OpenSpec := { _root_.Go.OpenSpec.ofChange s with cond := some uptoSmall }

/-- 'bridlewaylaw36.CursorNext', WHERE WHAT IT READS IS OF BULK AT MOST 1048576: true; the input reads as it did. -/
def cursorNextUptoRow : OpenClaim := { program := "ytmakkmcjocjgmaagreat", sum := "44a22c006c1002afc3ccb4e0f51eb302cc5a59d918c6dad14a66cf0aa7d467db", func := "bridleway/bridlewaylaw36.CursorNext", spec := "cursorNext", unfollowed := true, recurses := true, plainKeys := false, apart := false, narrowed := true }
def CursorNextUptoSaid : Prop := cursorNextUptoRow.holds Tryz.pinned (OpenSpec.upto cursorNextSpec)

/-- 'bridlewaylaw36.CursorNone', WHERE WHAT IT READS IS OF BULK AT MOST 1048576: true; the input reads as it did. -/
def cursorNoneUptoRow : OpenClaim := { program := "ytmakkmcjocjgmaagreat", sum := "44a22c006c1002afc3ccb4e0f51eb302cc5a59d918c6dad14a66cf0aa7d467db", func := "bridleway/bridlewaylaw36.CursorNone", spec := "cursorNone", unfollowed := true, recurses := true, plainKeys := false, apart := false, narrowed := true }
def CursorNoneUptoSaid : Prop := cursorNoneUptoRow.holds Tryz.pinned (OpenSpec.upto cursorNoneSpec)

/-- 'bridlewaylaw32.AccessRank', WHERE WHAT IT READS IS OF BULK AT MOST 1048576: true; the input reads as it did. -/
def accessRankUptoRow : OpenClaim := { program := "ytmakkmcjocjgmaagreat", sum := "44a22c006c1002afc3ccb4e0f51eb302cc5a59d918c6dad14a66cf0aa7d467db", func := "bridleway/bridlewaylaw32.AccessRank", spec := "accessRank", unfollowed := true, recurses := true, plainKeys := false, apart := false, narrowed := true }
def AccessRankUptoSaid : Prop := accessRankUptoRow.holds Tryz.pinned (OpenSpec.upto accessRankSpec)

/-- 'bridlewaylaw32.AccessAt', WHERE WHAT IT READS IS OF BULK AT MOST 1048576: true; the input reads as it did. -/
def accessAtUptoRow : OpenClaim := { program := "ytmakkmcjocjgmaagreat", sum := "44a22c006c1002afc3ccb4e0f51eb302cc5a59d918c6dad14a66cf0aa7d467db", func := "bridleway/bridlewaylaw32.AccessAt", spec := "accessAt", unfollowed := true, recurses := true, plainKeys := false, apart := false, narrowed := true }
def AccessAtUptoSaid : Prop := accessAtUptoRow.holds Tryz.pinned (OpenSpec.upto accessAtSpec)

/-- 'bridlewaylaw36.CursorGets', WHERE WHAT IT READS IS OF BULK AT MOST 1048576: true; the input reads as it did. -/
def cursorGetsUptoRow : OpenClaim := { program := "ytmakkmcjocjgmaagreat", sum := "44a22c006c1002afc3ccb4e0f51eb302cc5a59d918c6dad14a66cf0aa7d467db", func := "bridleway/bridlewaylaw36.CursorGets", spec := "cursorGets", unfollowed := true, recurses := true, plainKeys := false, apart := false, narrowed := true }
def CursorGetsUptoSaid : Prop := cursorGetsUptoRow.holds Tryz.pinned (OpenSpec.upto cursorGetsSpec)

/-- 'bridlewaylaw36.CursorAll', WHERE WHAT IT READS IS OF BULK AT MOST 1048576: true; the input reads as it did. -/
def cursorAllUptoRow : OpenClaim := { program := "ytmakkmcjocjgmaagreat", sum := "44a22c006c1002afc3ccb4e0f51eb302cc5a59d918c6dad14a66cf0aa7d467db", func := "bridleway/bridlewaylaw36.CursorAll", spec := "cursorAll", unfollowed := true, recurses := true, plainKeys := false, apart := false, narrowed := true }
def CursorAllUptoSaid : Prop := cursorAllUptoRow.holds Tryz.pinned (OpenSpec.upto cursorAllSpec)

/-- 'bridlewaylaw36.CursorPuts', WHERE WHAT IT READS IS OF BULK AT MOST 1048576: true; the input reads as it did. -/
def cursorPutsUptoRow : OpenClaim := { program := "ytmakkmcjocjgmaagreat", sum := "44a22c006c1002afc3ccb4e0f51eb302cc5a59d918c6dad14a66cf0aa7d467db", func := "bridleway/bridlewaylaw36.CursorPuts", spec := "cursorPuts", unfollowed := true, recurses := true, plainKeys := false, apart := false, narrowed := true }
def CursorPutsUptoSaid : Prop := cursorPutsUptoRow.holds Tryz.pinned (OpenSpec.upto cursorPutsSpec)

end Rows
end Go.Proofs.YtmakkmcjocjgmaaGreat
