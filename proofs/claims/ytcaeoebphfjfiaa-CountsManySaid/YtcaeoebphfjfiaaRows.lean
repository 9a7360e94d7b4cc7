/-
  No cell of these rows narrows 'for every input' (looked for: loops, veiled, ifaces, maps, wideKeys, modest, calm, conditions, laid).
  DERIVED. THE GIVEN ROWS OF THIS SEAT. 5 by the template 'for every input the law returns true; each argument reads behind the call as it read before'; 0 by the template 'total and deterministic' (their statements: YtcaeoebphfjfiaaTotals.lean).
  GIVEN WITH THE SEED: the statements are not yours to turn. If you find one false, say at which input.
  Laid BY PROGRAM, IN A SANDBOX (cutbox-rows.mjs): the forced cells as the released guide's own fill.sh prints them over the translation 504fec8cf27d2b6d… (all of the seat's roots in one cut). By AI agents, Wed Nov 11 2026. No macro, syntax, notation, axiom, sorry.
-/
import Derived.Test.YtcaeoebphfjfiaaChecked
import GoSem.Claim
import GoSem.ClaimJoined
import GoSem.ClaimMapViews
import Derived.JoinedTies
import Derived.KernelRfl
namespace Go.Proofs.Ytcaeoebphfjfiaa
/- THE CELL 'sum', in the pinned program and in every row, IS THE sha256 OF THE DUMP (.gsa) THAT YtcaeoebphfjfiaaProg.lean LOADS. Nothing in Lean hashes anything: it is a label: what it is worth is what the hold of that sum in a sandbox is worth. -/
noncomputable def Try.pinned : Pinned := { name := "ytcaeoebphfjfiaa", sum := "504fec8cf27d2b6df51a8d0c88dc47818eb09d5c782d7d7237a1740eb0c85bab", checked := Try.checked }
namespace Rows
def none {H : Type} : Left H := { results := [], args := [] }

/-- 'bridlewaylaw29.TreeRows': WHATEVER THE INPUT: true; the input reads as it did. -/
def treeRowsSpec : ChangeSpec := { name := "treeRows", fn := fun _ => fun
  | [d1, d2, d3] => { results := [.lit (.bool true)], args := [d1, d2, d3] }
  | _ => none }
def treeRowsRow : OpenClaim := { program := "ytcaeoebphfjfiaa", sum := "504fec8cf27d2b6df51a8d0c88dc47818eb09d5c782d7d7237a1740eb0c85bab", func := "bridleway/bridlewaylaw29.TreeRows", spec := "treeRows", unfollowed := true, recurses := true, plainKeys := false, apart := false }
def TreeRowsSaid : Prop := treeRowsRow.holds Try.pinned (OpenSpec.ofChange treeRowsSpec)

/-- ITS FALSE NEIGHBOUR: 'it returns false'. Refute it at one input. -/
def treeRowsWrong : ChangeSpec := { name := "treeRows", fn := fun _ => fun
  | [d1, d2, d3] => { results := [.lit (.bool false)], args := [d1, d2, d3] }
  | _ => none }
def TreeRowsWrongFalsely : Prop := treeRowsRow.holds Try.pinned (OpenSpec.ofChange treeRowsWrong)

/-- 'bridlewaylaw29.TreeGroups': WHATEVER THE INPUT: true; the input reads as it did. -/
def treeGroupsSpec : ChangeSpec := { name := "treeGroups", fn := fun _ => fun
  | [d1, d2, d3] => { results := [.lit (.bool true)], args := [d1, d2, d3] }
  | _ => none }
def treeGroupsRow : OpenClaim := { program := "ytcaeoebphfjfiaa", sum := "504fec8cf27d2b6df51a8d0c88dc47818eb09d5c782d7d7237a1740eb0c85bab", func := "bridleway/bridlewaylaw29.TreeGroups", spec := "treeGroups", unfollowed := true, recurses := true, plainKeys := false, apart := false }
def TreeGroupsSaid : Prop := treeGroupsRow.holds Try.pinned (OpenSpec.ofChange treeGroupsSpec)

/-- ITS FALSE NEIGHBOUR: 'it returns false'. Refute it at one input. -/
def treeGroupsWrong : ChangeSpec := { name := "treeGroups", fn := fun _ => fun
  | [d1, d2, d3] => { results := [.lit (.bool false)], args := [d1, d2, d3] }
  | _ => none }
def TreeGroupsWrongFalsely : Prop := treeGroupsRow.holds Try.pinned (OpenSpec.ofChange treeGroupsWrong)

/-- 'bridlewaylaw29.TreeNone': WHATEVER THE INPUT: true; the input reads as it did. -/
def treeNoneSpec : ChangeSpec := { name := "treeNone", fn := fun _ => fun
  | [d1, d2, d3] => { results := [.lit (.bool true)], args := [d1, d2, d3] }
  | _ => none }
def treeNoneRow : OpenClaim := { program := "ytcaeoebphfjfiaa", sum := "504fec8cf27d2b6df51a8d0c88dc47818eb09d5c782d7d7237a1740eb0c85bab", func := "bridleway/bridlewaylaw29.TreeNone", spec := "treeNone", unfollowed := true, recurses := true, plainKeys := false, apart := false }
def TreeNoneSaid : Prop := treeNoneRow.holds Try.pinned (OpenSpec.ofChange treeNoneSpec)

/-- ITS FALSE NEIGHBOUR: 'it returns false'. Refute it at one input. -/
def treeNoneWrong : ChangeSpec := { name := "treeNone", fn := fun _ => fun
  | [d1, d2, d3] => { results := [.lit (.bool false)], args := [d1, d2, d3] }
  | _ => none }
def TreeNoneWrongFalsely : Prop := treeNoneRow.holds Try.pinned (OpenSpec.ofChange treeNoneWrong)

/-- 'bridlewaylaw30.CountsMany': WHATEVER THE INPUT: true; the input reads as it did. -/
def countsManySpec : ChangeSpec := { name := "countsMany", fn := fun _ => fun
  | [d1, d2, d3] => { results := [.lit (.bool true)], args := [d1, d2, d3] }
  | _ => none }
def countsManyRow : OpenClaim := { program := "ytcaeoebphfjfiaa", sum := "504fec8cf27d2b6df51a8d0c88dc47818eb09d5c782d7d7237a1740eb0c85bab", func := "bridleway/bridlewaylaw30.CountsMany", spec := "countsMany", unfollowed := true, recurses := true, plainKeys := false, apart := false }
def CountsManySaid : Prop := countsManyRow.holds Try.pinned (OpenSpec.ofChange countsManySpec)

/-- ITS FALSE NEIGHBOUR: 'it returns false'. Refute it at one input. -/
def countsManyWrong : ChangeSpec := { name := "countsMany", fn := fun _ => fun
  | [d1, d2, d3] => { results := [.lit (.bool false)], args := [d1, d2, d3] }
  | _ => none }
def CountsManyWrongFalsely : Prop := countsManyRow.holds Try.pinned (OpenSpec.ofChange countsManyWrong)

/-- 'bridlewaylaw31.EachNone': WHATEVER THE INPUT: true; the input reads as it did. -/
def eachNoneSpec : ChangeSpec := { name := "eachNone", fn := fun _ => fun
  | [d] => { results := [.lit (.bool true)], args := [d] }
  | _ => none }
def eachNoneRow : OpenClaim := { program := "ytcaeoebphfjfiaa", sum := "504fec8cf27d2b6df51a8d0c88dc47818eb09d5c782d7d7237a1740eb0c85bab", func := "bridleway/bridlewaylaw31.EachNone", spec := "eachNone", unfollowed := true, recurses := true, plainKeys := false, apart := false }
def EachNoneSaid : Prop := eachNoneRow.holds Try.pinned (OpenSpec.ofChange eachNoneSpec)

/-- ITS FALSE NEIGHBOUR: 'it returns false'. Refute it at one input. -/
def eachNoneWrong : ChangeSpec := { name := "eachNone", fn := fun _ => fun
  | [d] => { results := [.lit (.bool false)], args := [d] }
  | _ => none }
def EachNoneWrongFalsely : Prop := eachNoneRow.holds Try.pinned (OpenSpec.ofChange eachNoneWrong)

/- THE SECOND FORM. 'bulk': how many values and letters a reading holds, each counted each time it is reached (what is shared counts as often as it is met; a slice's spare places count too). A statement '..UptoSaid' is the law's where the arguments, and the package variables that the reading takes, are together of bulk at most 1048576: NARROWER than '..Said'. Prove '..Said' where nothing that the law and all that it calls make is longer than what came in: it says more and counts as full. Else prove '..UptoSaid'. A law counts once. -/
mutual
def uptoBulk {H : Type} : DataW H → Nat
  | .lit (.string bytes) => bytes.length + 1
  | .lit _ => 1
  | .nil => 1
  | .ptr d => uptoBulk d + 1
  | .slice elems spare => uptoBulkAll elems + uptoBulkAll spare + 1
  | .agg parts => uptoBulkAll parts + 1
  | .iface _ d => uptoBulk d + 1
  | .map entries => uptoBulkEntries entries + 1
  | .held _ => 1
def uptoBulkAll {H : Type} : List (DataW H) → Nat
  | [] => 0
  | d :: r => uptoBulk d + uptoBulkAll r
def uptoBulkEntries {H : Type} : List (Lit × DataW H) → Nat
  | [] => 0
  | x :: r => uptoBulkEntry x + uptoBulkEntries r
def uptoBulkEntry {H : Type} : Lit × DataW H → Nat
  | (.string bytes, d) => bytes.length + uptoBulk d + 1
  | (_, d) => uptoBulk d + 1
 end
def uptoSmall : (H : Type) → List (DataW H) → Bool := fun _ ds => decide (uptoBulkAll ds ≤ 1048576)
def OpenSpec.upto (s : _root_.Go.ChangeSpec) : _root_.Go.OpenSpec := { _root_.Go.OpenSpec.ofChange s with cond := some uptoSmall }

/-- 'bridlewaylaw29.TreeRows', WHERE WHAT IT READS IS OF BULK AT MOST 1048576: true; the input reads as it did. -/
def treeRowsUptoRow : OpenClaim := { program := "ytcaeoebphfjfiaa", sum := "504fec8cf27d2b6df51a8d0c88dc47818eb09d5c782d7d7237a1740eb0c85bab", func := "bridleway/bridlewaylaw29.TreeRows", spec := "treeRows", unfollowed := true, recurses := true, plainKeys := false, apart := false, narrowed := true }
def TreeRowsUptoSaid : Prop := treeRowsUptoRow.holds Try.pinned (OpenSpec.upto treeRowsSpec)

/-- 'bridlewaylaw29.TreeGroups', WHERE WHAT IT READS IS OF BULK AT MOST 1048576: true; the input reads as it did. -/
def treeGroupsUptoRow : OpenClaim := { program := "ytcaeoebphfjfiaa", sum := "504fec8cf27d2b6df51a8d0c88dc47818eb09d5c782d7d7237a1740eb0c85bab", func := "bridleway/bridlewaylaw29.TreeGroups", spec := "treeGroups", unfollowed := true, recurses := true, plainKeys := false, apart := false, narrowed := true }
def TreeGroupsUptoSaid : Prop := treeGroupsUptoRow.holds Try.pinned (OpenSpec.upto treeGroupsSpec)

/-- 'bridlewaylaw29.TreeNone', WHERE WHAT IT READS IS OF BULK AT MOST 1048576: true; the input reads as it did. -/
def treeNoneUptoRow : OpenClaim := { program := "ytcaeoebphfjfiaa", sum := "504fec8cf27d2b6df51a8d0c88dc47818eb09d5c782d7d7237a1740eb0c85bab", func := "bridleway/bridlewaylaw29.TreeNone", spec := "treeNone", unfollowed := true, recurses := true, plainKeys := false, apart := false, narrowed := true }
def TreeNoneUptoSaid : Prop := treeNoneUptoRow.holds Try.pinned (OpenSpec.upto treeNoneSpec)

/-- 'bridlewaylaw30.CountsMany', WHERE WHAT IT READS IS OF BULK AT MOST 1048576: true; the input reads as it did. -/
def countsManyUptoRow : OpenClaim := { program := "ytcaeoebphfjfiaa", sum := "504fec8cf27d2b6df51a8d0c88dc47818eb09d5c782d7d7237a1740eb0c85bab", func := "bridleway/bridlewaylaw30.CountsMany", spec := "countsMany", unfollowed := true, recurses := true, plainKeys := false, apart := false, narrowed := true }
def CountsManyUptoSaid : Prop := countsManyUptoRow.holds Try.pinned (OpenSpec.upto countsManySpec)

/-- 'bridlewaylaw31.EachNone', WHERE WHAT IT READS IS OF BULK AT MOST 1048576: true; the input reads as it did. -/
def eachNoneUptoRow : OpenClaim := { program := "ytcaeoebphfjfiaa", sum := "504fec8cf27d2b6df51a8d0c88dc47818eb09d5c782d7d7237a1740eb0c85bab", func := "bridleway/bridlewaylaw31.EachNone", spec := "eachNone", unfollowed := true, recurses := true, plainKeys := false, apart := false, narrowed := true }
def EachNoneUptoSaid : Prop := eachNoneUptoRow.holds Try.pinned (OpenSpec.upto eachNoneSpec)

end Rows
end Go.Proofs.Ytcaeoebphfjfiaa
