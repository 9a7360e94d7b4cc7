/-
  No cell of these rows narrows 'for every input' (looked for: loops, veiled, ifaces, maps, wideKeys, modest, calm, conditions, laid).
  DERIVED. THE GIVEN ROWS OF THIS SEAT. 3 by the template 'for every input the law returns true; each argument reads behind the call as it read before'; 0 by the template 'total and deterministic' (their statements: YtmakkmcjocjgmaaTotals.lean).
  GIVEN WITH THE SEED: the statements are not yours to turn. If you find one false, say at which input.
  Laid BY PROGRAM, IN A SANDBOX (cutbox-rows.mjs): the forced cells as the released guide's own fill.sh prints them over the translation fe3ba0c102e21575… (all of the seat's roots in one cut). By AI agents, Wed Nov 11 2026. No macro, syntax, notation, axiom, sorry.
-/
import Derived.Test.YtmakkmcjocjgmaaChecked
import GoSem.Claim
import GoSem.ClaimJoined
import GoSem.ClaimMapViews
import Derived.JoinedTies
import Derived.KernelRfl
namespace Go.Proofs.Ytmakkmcjocjgmaa
/- THE CELL 'sum', in the pinned program and in every row, IS THE sha256 OF THE DUMP (.gsa) THAT YtmakkmcjocjgmaaProg.lean LOADS. Nothing in Lean hashes anything: it is a label: what it is worth is what the hold of that sum in a sandbox is worth. -/
noncomputable def Try.pinned : Pinned := { name := "ytmakkmcjocjgmaa", sum := "fe3ba0c102e215757aa09af47f14385a284848d984a88aa2a19c32a957d7ba8d", checked := Try.checked }
namespace Rows
def none {H : Type} : Left H := { results := [], args := [] }

/-- 'bridlewaylaw32.AccessDigits': WHATEVER THE INPUT: true; the input reads as it did. -/
def accessDigitsSpec : ChangeSpec := { name := "accessDigits", fn := fun _ => fun
  | [d1, d2] => { results := [.lit (.bool true)], args := [d1, d2] }
  | _ => none }
def accessDigitsRow : OpenClaim := { program := "ytmakkmcjocjgmaa", sum := "fe3ba0c102e215757aa09af47f14385a284848d984a88aa2a19c32a957d7ba8d", func := "bridleway/bridlewaylaw32.AccessDigits", spec := "accessDigits", unfollowed := true, recurses := true, plainKeys := false, apart := false }
def AccessDigitsSaid : Prop := accessDigitsRow.holds Try.pinned (OpenSpec.ofChange accessDigitsSpec)

/-- ITS FALSE NEIGHBOUR: 'it returns false'. Refute it at one input. -/
def accessDigitsWrong : ChangeSpec := { name := "accessDigits", fn := fun _ => fun
  | [d1, d2] => { results := [.lit (.bool false)], args := [d1, d2] }
  | _ => none }
def AccessDigitsWrongFalsely : Prop := accessDigitsRow.holds Try.pinned (OpenSpec.ofChange accessDigitsWrong)

/-- 'bridlewaylaw32.AccessNumber': WHATEVER THE INPUT: true; the input reads as it did. -/
def accessNumberSpec : ChangeSpec := { name := "accessNumber", fn := fun _ => fun
  | [d1, d2] => { results := [.lit (.bool true)], args := [d1, d2] }
  | _ => none }
def accessNumberRow : OpenClaim := { program := "ytmakkmcjocjgmaa", sum := "fe3ba0c102e215757aa09af47f14385a284848d984a88aa2a19c32a957d7ba8d", func := "bridleway/bridlewaylaw32.AccessNumber", spec := "accessNumber", unfollowed := true, recurses := true, plainKeys := false, apart := false }
def AccessNumberSaid : Prop := accessNumberRow.holds Try.pinned (OpenSpec.ofChange accessNumberSpec)

/-- ITS FALSE NEIGHBOUR: 'it returns false'. Refute it at one input. -/
def accessNumberWrong : ChangeSpec := { name := "accessNumber", fn := fun _ => fun
  | [d1, d2] => { results := [.lit (.bool false)], args := [d1, d2] }
  | _ => none }
def AccessNumberWrongFalsely : Prop := accessNumberRow.holds Try.pinned (OpenSpec.ofChange accessNumberWrong)

/-- 'bridlewaylaw32.AccessNone': WHATEVER THE INPUT: true; the input reads as it did. -/
def accessNoneSpec : ChangeSpec := { name := "accessNone", fn := fun _ => fun
  | [d1, d2] => { results := [.lit (.bool true)], args := [d1, d2] }
  | _ => none }
def accessNoneRow : OpenClaim := { program := "ytmakkmcjocjgmaa", sum := "fe3ba0c102e215757aa09af47f14385a284848d984a88aa2a19c32a957d7ba8d", func := "bridleway/bridlewaylaw32.AccessNone", spec := "accessNone", unfollowed := true, recurses := true, plainKeys := false, apart := false }
def AccessNoneSaid : Prop := accessNoneRow.holds Try.pinned (OpenSpec.ofChange accessNoneSpec)

/-- ITS FALSE NEIGHBOUR: 'it returns false'. Refute it at one input. -/
def accessNoneWrong : ChangeSpec := { name := "accessNone", fn := fun _ => fun
  | [d1, d2] => { results := [.lit (.bool false)], args := [d1, d2] }
  | _ => none }
def AccessNoneWrongFalsely : Prop := accessNoneRow.holds Try.pinned (OpenSpec.ofChange accessNoneWrong)

/- THE SECOND FORM. 'bulk': how many values and letters a reading holds, each counted each time it is reached (what is shared counts as often as it is met; a slice's spare places count too). A statement '..UptoSaid' is the law's where the arguments, and the package variables that the reading takes, are together of bulk at most 1048576: NARROWER than '..Said'. Prove '..Said' where nothing that the law and all that it calls make is longer than what came in: it says more and counts as full. Else prove '..UptoSaid'. A law counts once. -/
mutual
def uptoBulk {H : Type} : DataW H → Nat
  | .lit (.string bytes) => bytes.length + 1
  | .lit _ => 1
  | .nil => 1
  | .ptr d => uptoBulk d + 1
  | .slice elems spare => uptoBulkAll elems + uptoBulkAll spare + 1
  | .agg parts => uptoBulkAll parts + 1
  | .iface _ d => uptoBulk d + 1
  | .map entries => uptoBulkEntries entries + 1
  | .held _ => 1
def uptoBulkAll {H : Type} : List (DataW H) → Nat
  | [] => 0
  | d :: r => uptoBulk d + uptoBulkAll r
def uptoBulkEntries {H : Type} : List (Lit × DataW H) → Nat
  | [] => 0
  | x :: r => uptoBulkEntry x + uptoBulkEntries r
def uptoBulkEntry {H : Type} : Lit × DataW H → Nat
  | (.string bytes, d) => bytes.length + uptoBulk d + 1
  | (_, d) => uptoBulk d + 1
 end
def uptoSmall : (H : Type) → List (DataW H) → Bool := fun _ ds => decide (uptoBulkAll ds ≤ 1048576)
def OpenSpec.upto (s : _root_.Go.ChangeSpec) : _root_.Go.OpenSpec := { _root_.Go.OpenSpec.ofChange s with cond := some uptoSmall }

/-- 'bridlewaylaw32.AccessDigits', WHERE WHAT IT READS IS OF BULK AT MOST 1048576: true; the input reads as it did. -/
def accessDigitsUptoRow : OpenClaim := { program := "ytmakkmcjocjgmaa", sum := "fe3ba0c102e215757aa09af47f14385a284848d984a88aa2a19c32a957d7ba8d", func := "bridleway/bridlewaylaw32.AccessDigits", spec := "accessDigits", unfollowed := true, recurses := true, plainKeys := false, apart := false, narrowed := true }
def AccessDigitsUptoSaid : Prop := accessDigitsUptoRow.holds Try.pinned (OpenSpec.upto accessDigitsSpec)

/-- 'bridlewaylaw32.AccessNumber', WHERE WHAT IT READS IS OF BULK AT MOST 1048576: true; the input reads as it did. -/
def accessNumberUptoRow : OpenClaim := { program := "ytmakkmcjocjgmaa", sum := "fe3ba0c102e215757aa09af47f14385a284848d984a88aa2a19c32a957d7ba8d", func := "bridleway/bridlewaylaw32.AccessNumber", spec := "accessNumber", unfollowed := true, recurses := true, plainKeys := false, apart := false, narrowed := true }
def AccessNumberUptoSaid : Prop := accessNumberUptoRow.holds Try.pinned (OpenSpec.upto accessNumberSpec)

/-- 'bridlewaylaw32.AccessNone', WHERE WHAT IT READS IS OF BULK AT MOST 1048576: true; the input reads as it did. -/
def accessNoneUptoRow : OpenClaim := { program := "ytmakkmcjocjgmaa", sum := "fe3ba0c102e215757aa09af47f14385a284848d984a88aa2a19c32a957d7ba8d", func := "bridleway/bridlewaylaw32.AccessNone", spec := "accessNone", unfollowed := true, recurses := true, plainKeys := false, apart := false, narrowed := true }
def AccessNoneUptoSaid : Prop := accessNoneUptoRow.holds Try.pinned (OpenSpec.upto accessNoneSpec)

end Rows
end Go.Proofs.Ytmakkmcjocjgmaa
