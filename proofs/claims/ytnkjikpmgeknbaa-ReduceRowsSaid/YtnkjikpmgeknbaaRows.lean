/-
  No cell of these rows narrows 'for every input' (looked for: loops, veiled, ifaces, maps, wideKeys, modest, calm, conditions, laid).
  DERIVED. THE GIVEN ROWS OF THIS SEAT. 11 by the template 'for every input the law returns true; each argument reads behind the call as it read before'; 0 by the template 'total and deterministic' (their statements: YtnkjikpmgeknbaaTotals.lean).
  GIVEN WITH THE SEED: the statements are not yours to turn. If you find one false, say at which input.
  Laid BY PROGRAM, IN A SANDBOX (cutbox-rows.mjs): the forced cells as the released guide's own fill.sh prints them over the translation 503e16123c33b7b1… (all of the seat's roots in one cut). By AI agents, Wed Nov 11 2026. No macro, syntax, notation, axiom, sorry.
-/
import Derived.Test.YtnkjikpmgeknbaaChecked
import GoSem.Claim
import GoSem.ClaimJoined
import GoSem.ClaimMapViews
import Derived.JoinedTies
import Derived.KernelRfl
namespace Go.Proofs.Ytnkjikpmgeknbaa
/- THE CELL 'sum', in the pinned program and in every row, IS THE sha256 OF THE DUMP (.gsa) THAT YtnkjikpmgeknbaaProg.lean LOADS. Nothing in Lean hashes anything: it is a label: what it is worth is what the hold of that sum in a sandbox is worth. -/
noncomputable def Try.pinned : Pinned := { name := "ytnkjikpmgeknbaa", sum := "503e16123c33b7b113598f854836b03b98d5458f7b2f525f2e40d3c2c27bc464", checked := Try.checked }
namespace Rows
def none {H : Type} : Left H := { results := [], args := [] }

/-- 'bridlewaylaw22.PairsFrom': WHATEVER THE INPUT: true; the input reads as it did. -/
def pairsFromSpec : ChangeSpec := { name := "pairsFrom", fn := fun _ => fun
  | [d1, d2] => { results := [.lit (.bool true)], args := [d1, d2] }
  | _ => none }
def pairsFromRow : OpenClaim := { program := "ytnkjikpmgeknbaa", sum := "503e16123c33b7b113598f854836b03b98d5458f7b2f525f2e40d3c2c27bc464", func := "bridleway/bridlewaylaw22.PairsFrom", spec := "pairsFrom", unfollowed := true, recurses := true, plainKeys := false, apart := false }
def PairsFromSaid : Prop := pairsFromRow.holds Try.pinned (OpenSpec.ofChange pairsFromSpec)

/-- ITS FALSE NEIGHBOUR: 'it returns false'. Refute it at one input. -/
def pairsFromWrong : ChangeSpec := { name := "pairsFrom", fn := fun _ => fun
  | [d1, d2] => { results := [.lit (.bool false)], args := [d1, d2] }
  | _ => none }
def PairsFromWrongFalsely : Prop := pairsFromRow.holds Try.pinned (OpenSpec.ofChange pairsFromWrong)

/-- 'bridlewaylaw08.ColsOwn': WHATEVER THE INPUT: true; the input reads as it did. -/
def colsOwnSpec : ChangeSpec := { name := "colsOwn", fn := fun _ => fun
  | [d1, d2] => { results := [.lit (.bool true)], args := [d1, d2] }
  | _ => none }
def colsOwnRow : OpenClaim := { program := "ytnkjikpmgeknbaa", sum := "503e16123c33b7b113598f854836b03b98d5458f7b2f525f2e40d3c2c27bc464", func := "bridleway/bridlewaylaw08.ColsOwn", spec := "colsOwn", inPlace := ["internal/bytealg.abigen_runtime_cmpstring"], unfollowed := true, recurses := true, plainKeys := false, apart := false }
def ColsOwnSaid : Prop := colsOwnRow.holds Try.pinned (OpenSpec.ofChange colsOwnSpec)

/-- ITS FALSE NEIGHBOUR: 'it returns false'. Refute it at one input. -/
def colsOwnWrong : ChangeSpec := { name := "colsOwn", fn := fun _ => fun
  | [d1, d2] => { results := [.lit (.bool false)], args := [d1, d2] }
  | _ => none }
def ColsOwnWrongFalsely : Prop := colsOwnRow.holds Try.pinned (OpenSpec.ofChange colsOwnWrong)

/-- 'bridlewaylaw28.ReduceTwice': WHATEVER THE INPUT: true; the input reads as it did. -/
def reduceTwiceSpec : ChangeSpec := { name := "reduceTwice", fn := fun _ => fun
  | [d1, d2] => { results := [.lit (.bool true)], args := [d1, d2] }
  | _ => none }
def reduceTwiceRow : OpenClaim := { program := "ytnkjikpmgeknbaa", sum := "503e16123c33b7b113598f854836b03b98d5458f7b2f525f2e40d3c2c27bc464", func := "bridleway/bridlewaylaw28.ReduceTwice", spec := "reduceTwice", unfollowed := true, recurses := true, plainKeys := false, apart := false }
def ReduceTwiceSaid : Prop := reduceTwiceRow.holds Try.pinned (OpenSpec.ofChange reduceTwiceSpec)

/-- ITS FALSE NEIGHBOUR: 'it returns false'. Refute it at one input. -/
def reduceTwiceWrong : ChangeSpec := { name := "reduceTwice", fn := fun _ => fun
  | [d1, d2] => { results := [.lit (.bool false)], args := [d1, d2] }
  | _ => none }
def ReduceTwiceWrongFalsely : Prop := reduceTwiceRow.holds Try.pinned (OpenSpec.ofChange reduceTwiceWrong)

/-- 'bridlewaylaw28.ReduceHalves': WHATEVER THE INPUT: true; the input reads as it did. -/
def reduceHalvesSpec : ChangeSpec := { name := "reduceHalves", fn := fun _ => fun
  | [d1, d2] => { results := [.lit (.bool true)], args := [d1, d2] }
  | _ => none }
def reduceHalvesRow : OpenClaim := { program := "ytnkjikpmgeknbaa", sum := "503e16123c33b7b113598f854836b03b98d5458f7b2f525f2e40d3c2c27bc464", func := "bridleway/bridlewaylaw28.ReduceHalves", spec := "reduceHalves", unfollowed := true, recurses := true, plainKeys := false, apart := false }
def ReduceHalvesSaid : Prop := reduceHalvesRow.holds Try.pinned (OpenSpec.ofChange reduceHalvesSpec)

/-- ITS FALSE NEIGHBOUR: 'it returns false'. Refute it at one input. -/
def reduceHalvesWrong : ChangeSpec := { name := "reduceHalves", fn := fun _ => fun
  | [d1, d2] => { results := [.lit (.bool false)], args := [d1, d2] }
  | _ => none }
def ReduceHalvesWrongFalsely : Prop := reduceHalvesRow.holds Try.pinned (OpenSpec.ofChange reduceHalvesWrong)

/-- 'bridlewaylaw28.ReduceRows': WHATEVER THE INPUT: true; the input reads as it did. -/
def reduceRowsSpec : ChangeSpec := { name := "reduceRows", fn := fun _ => fun
  | [d1, d2] => { results := [.lit (.bool true)], args := [d1, d2] }
  | _ => none }
def reduceRowsRow : OpenClaim := { program := "ytnkjikpmgeknbaa", sum := "503e16123c33b7b113598f854836b03b98d5458f7b2f525f2e40d3c2c27bc464", func := "bridleway/bridlewaylaw28.ReduceRows", spec := "reduceRows", unfollowed := true, recurses := true, plainKeys := false, apart := false }
def ReduceRowsSaid : Prop := reduceRowsRow.holds Try.pinned (OpenSpec.ofChange reduceRowsSpec)

/-- ITS FALSE NEIGHBOUR: 'it returns false'. Refute it at one input. -/
def reduceRowsWrong : ChangeSpec := { name := "reduceRows", fn := fun _ => fun
  | [d1, d2] => { results := [.lit (.bool false)], args := [d1, d2] }
  | _ => none }
def ReduceRowsWrongFalsely : Prop := reduceRowsRow.holds Try.pinned (OpenSpec.ofChange reduceRowsWrong)

/-- 'bridlewaylaw07.CsrAll': WHATEVER THE INPUT: true; the input reads as it did. -/
def csrAllSpec : ChangeSpec := { name := "csrAll", fn := fun _ => fun
  | [d] => { results := [.lit (.bool true)], args := [d] }
  | _ => none }
def csrAllRow : OpenClaim := { program := "ytnkjikpmgeknbaa", sum := "503e16123c33b7b113598f854836b03b98d5458f7b2f525f2e40d3c2c27bc464", func := "bridleway/bridlewaylaw07.CsrAll", spec := "csrAll", unfollowed := true, recurses := true, plainKeys := false, apart := false }
def CsrAllSaid : Prop := csrAllRow.holds Try.pinned (OpenSpec.ofChange csrAllSpec)

/-- ITS FALSE NEIGHBOUR: 'it returns false'. Refute it at one input. -/
def csrAllWrong : ChangeSpec := { name := "csrAll", fn := fun _ => fun
  | [d] => { results := [.lit (.bool false)], args := [d] }
  | _ => none }
def CsrAllWrongFalsely : Prop := csrAllRow.holds Try.pinned (OpenSpec.ofChange csrAllWrong)

/-- 'bridlewaylaw07.CsrRows': WHATEVER THE INPUT: true; the input reads as it did. -/
def csrRowsSpec : ChangeSpec := { name := "csrRows", fn := fun _ => fun
  | [d1, d2, d3] => { results := [.lit (.bool true)], args := [d1, d2, d3] }
  | _ => none }
def csrRowsRow : OpenClaim := { program := "ytnkjikpmgeknbaa", sum := "503e16123c33b7b113598f854836b03b98d5458f7b2f525f2e40d3c2c27bc464", func := "bridleway/bridlewaylaw07.CsrRows", spec := "csrRows", unfollowed := true, recurses := true, plainKeys := false, apart := false }
def CsrRowsSaid : Prop := csrRowsRow.holds Try.pinned (OpenSpec.ofChange csrRowsSpec)

/-- ITS FALSE NEIGHBOUR: 'it returns false'. Refute it at one input. -/
def csrRowsWrong : ChangeSpec := { name := "csrRows", fn := fun _ => fun
  | [d1, d2, d3] => { results := [.lit (.bool false)], args := [d1, d2, d3] }
  | _ => none }
def CsrRowsWrongFalsely : Prop := csrRowsRow.holds Try.pinned (OpenSpec.ofChange csrRowsWrong)

/-- 'bridlewaylaw07.CsrNone': WHATEVER THE INPUT: true; the input reads as it did. -/
def csrNoneSpec : ChangeSpec := { name := "csrNone", fn := fun _ => fun
  | [d1, d2] => { results := [.lit (.bool true)], args := [d1, d2] }
  | _ => none }
def csrNoneRow : OpenClaim := { program := "ytnkjikpmgeknbaa", sum := "503e16123c33b7b113598f854836b03b98d5458f7b2f525f2e40d3c2c27bc464", func := "bridleway/bridlewaylaw07.CsrNone", spec := "csrNone", unfollowed := true, recurses := true, plainKeys := false, apart := false }
def CsrNoneSaid : Prop := csrNoneRow.holds Try.pinned (OpenSpec.ofChange csrNoneSpec)

/-- ITS FALSE NEIGHBOUR: 'it returns false'. Refute it at one input. -/
def csrNoneWrong : ChangeSpec := { name := "csrNone", fn := fun _ => fun
  | [d1, d2] => { results := [.lit (.bool false)], args := [d1, d2] }
  | _ => none }
def CsrNoneWrongFalsely : Prop := csrNoneRow.holds Try.pinned (OpenSpec.ofChange csrNoneWrong)

/-- 'bridlewaylaw22.PairsEdges': WHATEVER THE INPUT: true; the input reads as it did. -/
def pairsEdgesSpec : ChangeSpec := { name := "pairsEdges", fn := fun _ => fun
  | [d1, d2] => { results := [.lit (.bool true)], args := [d1, d2] }
  | _ => none }
def pairsEdgesRow : OpenClaim := { program := "ytnkjikpmgeknbaa", sum := "503e16123c33b7b113598f854836b03b98d5458f7b2f525f2e40d3c2c27bc464", func := "bridleway/bridlewaylaw22.PairsEdges", spec := "pairsEdges", unfollowed := true, recurses := true, plainKeys := false, apart := false }
def PairsEdgesSaid : Prop := pairsEdgesRow.holds Try.pinned (OpenSpec.ofChange pairsEdgesSpec)

/-- ITS FALSE NEIGHBOUR: 'it returns false'. Refute it at one input. -/
def pairsEdgesWrong : ChangeSpec := { name := "pairsEdges", fn := fun _ => fun
  | [d1, d2] => { results := [.lit (.bool false)], args := [d1, d2] }
  | _ => none }
def PairsEdgesWrongFalsely : Prop := pairsEdgesRow.holds Try.pinned (OpenSpec.ofChange pairsEdgesWrong)

/-- 'bridlewaylaw08.ColsTells': WHATEVER THE INPUT: true; the input reads as it did. -/
def colsTellsSpec : ChangeSpec := { name := "colsTells", fn := fun _ => fun
  | [d1, d2] => { results := [.lit (.bool true)], args := [d1, d2] }
  | _ => none }
def colsTellsRow : OpenClaim := { program := "ytnkjikpmgeknbaa", sum := "503e16123c33b7b113598f854836b03b98d5458f7b2f525f2e40d3c2c27bc464", func := "bridleway/bridlewaylaw08.ColsTells", spec := "colsTells", inPlace := ["internal/bytealg.abigen_runtime_cmpstring"], unfollowed := true, recurses := true, plainKeys := false, apart := false }
def ColsTellsSaid : Prop := colsTellsRow.holds Try.pinned (OpenSpec.ofChange colsTellsSpec)

/-- ITS FALSE NEIGHBOUR: 'it returns false'. Refute it at one input. -/
def colsTellsWrong : ChangeSpec := { name := "colsTells", fn := fun _ => fun
  | [d1, d2] => { results := [.lit (.bool false)], args := [d1, d2] }
  | _ => none }
def ColsTellsWrongFalsely : Prop := colsTellsRow.holds Try.pinned (OpenSpec.ofChange colsTellsWrong)

/-- 'bridlewaylaw08.ColsNone': WHATEVER THE INPUT: true; the input reads as it did. -/
def colsNoneSpec : ChangeSpec := { name := "colsNone", fn := fun _ => fun
  | [d] => { results := [.lit (.bool true)], args := [d] }
  | _ => none }
def colsNoneRow : OpenClaim := { program := "ytnkjikpmgeknbaa", sum := "503e16123c33b7b113598f854836b03b98d5458f7b2f525f2e40d3c2c27bc464", func := "bridleway/bridlewaylaw08.ColsNone", spec := "colsNone", inPlace := ["internal/bytealg.abigen_runtime_cmpstring"], unfollowed := true, recurses := true, plainKeys := false, apart := false }
def ColsNoneSaid : Prop := colsNoneRow.holds Try.pinned (OpenSpec.ofChange colsNoneSpec)

/-- ITS FALSE NEIGHBOUR: 'it returns false'. Refute it at one input. -/
def colsNoneWrong : ChangeSpec := { name := "colsNone", fn := fun _ => fun
  | [d] => { results := [.lit (.bool false)], args := [d] }
  | _ => none }
def ColsNoneWrongFalsely : Prop := colsNoneRow.holds Try.pinned (OpenSpec.ofChange colsNoneWrong)

/- THE SECOND FORM. 'bulk': how many values and letters a reading holds, each counted each time it is reached (what is shared counts as often as it is met; a slice's spare places count too). A statement '..UptoSaid' is the law's where the arguments, and the package variables that the reading takes, are together of bulk at most 1048576: NARROWER than '..Said'. Prove '..Said' where nothing that the law and all that it calls make is longer than what came in: it says more and counts as full. Else prove '..UptoSaid'. A law counts once. -/
mutual
def uptoBulk {H : Type} : DataW H → Nat
  | .lit (.string bytes) => bytes.length + 1
  | .lit _ => 1
  | .nil => 1
  | .ptr d => uptoBulk d + 1
  | .slice elems spare => uptoBulkAll elems + uptoBulkAll spare + 1
  | .agg parts => uptoBulkAll parts + 1
  | .iface _ d => uptoBulk d + 1
  | .map entries => uptoBulkEntries entries + 1
  | .held _ => 1
def uptoBulkAll {H : Type} : List (DataW H) → Nat
  | [] => 0
  | d :: r => uptoBulk d + uptoBulkAll r
def uptoBulkEntries {H : Type} : List (Lit × DataW H) → Nat
  | [] => 0
  | x :: r => uptoBulkEntry x + uptoBulkEntries r
def uptoBulkEntry {H : Type} : Lit × DataW H → Nat
  | (.string bytes, d) => bytes.length + uptoBulk d + 1
  | (_, d) => uptoBulk d + 1
 end
def uptoSmall : (H : Type) → List (DataW H) → Bool := fun _ ds => decide (uptoBulkAll ds ≤ 1048576)
def OpenSpec.upto (s : _root_.Go.ChangeSpec) : _root_.Go.OpenSpec := { _root_.Go.OpenSpec.ofChange s with cond := some uptoSmall }

/-- 'bridlewaylaw22.PairsFrom', WHERE WHAT IT READS IS OF BULK AT MOST 1048576: true; the input reads as it did. -/
def pairsFromUptoRow : OpenClaim := { program := "ytnkjikpmgeknbaa", sum := "503e16123c33b7b113598f854836b03b98d5458f7b2f525f2e40d3c2c27bc464", func := "bridleway/bridlewaylaw22.PairsFrom", spec := "pairsFrom", unfollowed := true, recurses := true, plainKeys := false, apart := false, narrowed := true }
def PairsFromUptoSaid : Prop := pairsFromUptoRow.holds Try.pinned (OpenSpec.upto pairsFromSpec)

/-- 'bridlewaylaw08.ColsOwn', WHERE WHAT IT READS IS OF BULK AT MOST 1048576: true; the input reads as it did. -/
def colsOwnUptoRow : OpenClaim := { program := "ytnkjikpmgeknbaa", sum := "503e16123c33b7b113598f854836b03b98d5458f7b2f525f2e40d3c2c27bc464", func := "bridleway/bridlewaylaw08.ColsOwn", spec := "colsOwn", inPlace := ["internal/bytealg.abigen_runtime_cmpstring"], unfollowed := true, recurses := true, plainKeys := false, apart := false, narrowed := true }
def ColsOwnUptoSaid : Prop := colsOwnUptoRow.holds Try.pinned (OpenSpec.upto colsOwnSpec)

/-- 'bridlewaylaw28.ReduceTwice', WHERE WHAT IT READS IS OF BULK AT MOST 1048576: true; the input reads as it did. -/
def reduceTwiceUptoRow : OpenClaim := { program := "ytnkjikpmgeknbaa", sum := "503e16123c33b7b113598f854836b03b98d5458f7b2f525f2e40d3c2c27bc464", func := "bridleway/bridlewaylaw28.ReduceTwice", spec := "reduceTwice", unfollowed := true, recurses := true, plainKeys := false, apart := false, narrowed := true }
def ReduceTwiceUptoSaid : Prop := reduceTwiceUptoRow.holds Try.pinned (OpenSpec.upto reduceTwiceSpec)

/-- 'bridlewaylaw28.ReduceHalves', WHERE WHAT IT READS IS OF BULK AT MOST 1048576: true; the input reads as it did. -/
def reduceHalvesUptoRow : OpenClaim := { program := "ytnkjikpmgeknbaa", sum := "503e16123c33b7b113598f854836b03b98d5458f7b2f525f2e40d3c2c27bc464", func := "bridleway/bridlewaylaw28.ReduceHalves", spec := "reduceHalves", unfollowed := true, recurses := true, plainKeys := false, apart := false, narrowed := true }
def ReduceHalvesUptoSaid : Prop := reduceHalvesUptoRow.holds Try.pinned (OpenSpec.upto reduceHalvesSpec)

/-- 'bridlewaylaw28.ReduceRows', WHERE WHAT IT READS IS OF BULK AT MOST 1048576: true; the input reads as it did. -/
def reduceRowsUptoRow : OpenClaim := { program := "ytnkjikpmgeknbaa", sum := "503e16123c33b7b113598f854836b03b98d5458f7b2f525f2e40d3c2c27bc464", func := "bridleway/bridlewaylaw28.ReduceRows", spec := "reduceRows", unfollowed := true, recurses := true, plainKeys := false, apart := false, narrowed := true }
def ReduceRowsUptoSaid : Prop := reduceRowsUptoRow.holds Try.pinned (OpenSpec.upto reduceRowsSpec)

/-- 'bridlewaylaw07.CsrAll', WHERE WHAT IT READS IS OF BULK AT MOST 1048576: true; the input reads as it did. -/
def csrAllUptoRow : OpenClaim := { program := "ytnkjikpmgeknbaa", sum := "503e16123c33b7b113598f854836b03b98d5458f7b2f525f2e40d3c2c27bc464", func := "bridleway/bridlewaylaw07.CsrAll", spec := "csrAll", unfollowed := true, recurses := true, plainKeys := false, apart := false, narrowed := true }
def CsrAllUptoSaid : Prop := csrAllUptoRow.holds Try.pinned (OpenSpec.upto csrAllSpec)

/-- 'bridlewaylaw07.CsrRows', WHERE WHAT IT READS IS OF BULK AT MOST 1048576: true; the input reads as it did. -/
def csrRowsUptoRow : OpenClaim := { program := "ytnkjikpmgeknbaa", sum := "503e16123c33b7b113598f854836b03b98d5458f7b2f525f2e40d3c2c27bc464", func := "bridleway/bridlewaylaw07.CsrRows", spec := "csrRows", unfollowed := true, recurses := true, plainKeys := false, apart := false, narrowed := true }
def CsrRowsUptoSaid : Prop := csrRowsUptoRow.holds Try.pinned (OpenSpec.upto csrRowsSpec)

/-- 'bridlewaylaw07.CsrNone', WHERE WHAT IT READS IS OF BULK AT MOST 1048576: true; the input reads as it did. -/
def csrNoneUptoRow : OpenClaim := { program := "ytnkjikpmgeknbaa", sum := "503e16123c33b7b113598f854836b03b98d5458f7b2f525f2e40d3c2c27bc464", func := "bridleway/bridlewaylaw07.CsrNone", spec := "csrNone", unfollowed := true, recurses := true, plainKeys := false, apart := false, narrowed := true }
def CsrNoneUptoSaid : Prop := csrNoneUptoRow.holds Try.pinned (OpenSpec.upto csrNoneSpec)

/-- 'bridlewaylaw22.PairsEdges', WHERE WHAT IT READS IS OF BULK AT MOST 1048576: true; the input reads as it did. -/
def pairsEdgesUptoRow : OpenClaim := { program := "ytnkjikpmgeknbaa", sum := "503e16123c33b7b113598f854836b03b98d5458f7b2f525f2e40d3c2c27bc464", func := "bridleway/bridlewaylaw22.PairsEdges", spec := "pairsEdges", unfollowed := true, recurses := true, plainKeys := false, apart := false, narrowed := true }
def PairsEdgesUptoSaid : Prop := pairsEdgesUptoRow.holds Try.pinned (OpenSpec.upto pairsEdgesSpec)

/-- 'bridlewaylaw08.ColsTells', WHERE WHAT IT READS IS OF BULK AT MOST 1048576: true; the input reads as it did. -/
def colsTellsUptoRow : OpenClaim := { program := "ytnkjikpmgeknbaa", sum := "503e16123c33b7b113598f854836b03b98d5458f7b2f525f2e40d3c2c27bc464", func := "bridleway/bridlewaylaw08.ColsTells", spec := "colsTells", inPlace := ["internal/bytealg.abigen_runtime_cmpstring"], unfollowed := true, recurses := true, plainKeys := false, apart := false, narrowed := true }
def ColsTellsUptoSaid : Prop := colsTellsUptoRow.holds Try.pinned (OpenSpec.upto colsTellsSpec)

/-- 'bridlewaylaw08.ColsNone', WHERE WHAT IT READS IS OF BULK AT MOST 1048576: true; the input reads as it did. -/
def colsNoneUptoRow : OpenClaim := { program := "ytnkjikpmgeknbaa", sum := "503e16123c33b7b113598f854836b03b98d5458f7b2f525f2e40d3c2c27bc464", func := "bridleway/bridlewaylaw08.ColsNone", spec := "colsNone", inPlace := ["internal/bytealg.abigen_runtime_cmpstring"], unfollowed := true, recurses := true, plainKeys := false, apart := false, narrowed := true }
def ColsNoneUptoSaid : Prop := colsNoneUptoRow.holds Try.pinned (OpenSpec.upto colsNoneSpec)

end Rows
end Go.Proofs.Ytnkjikpmgeknbaa
