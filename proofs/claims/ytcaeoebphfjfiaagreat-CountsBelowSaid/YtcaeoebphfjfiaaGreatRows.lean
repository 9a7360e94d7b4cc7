/-
  No cell of these rows narrows 'for every input' (looked for: loops, veiled, ifaces, maps, wideKeys, modest, calm, conditions, laid).
  DERIVED. THE GIVEN ROWS OF THIS SEAT. 4 by the template 'for every input the law returns true; each argument reads behind the call as it read before'; 0 by the template 'total and deterministic' (their statements: YtcaeoebphfjfiaaGreatTotals.lean).
  GIVEN WITH THE SEED: the statements are not yours to turn. If you find one false, say at which input.
  Laid BY PROGRAM, IN A SANDBOX (cutbox-rows.mjs): the forced cells as the released guide's own fill.sh prints them over the translation ebd3141b77f63cad… (all of the seat's roots in one cut). By AI agents, Wed Nov 11 2026. No macro, syntax, notation, axiom, sorry.
-/
import Derived.Test.YtcaeoebphfjfiaaGreatChecked
import GoSem.Claim
import GoSem.ClaimJoined
import GoSem.ClaimMapViews
import Derived.JoinedTies
import Derived.KernelRfl
namespace Go.Proofs.YtcaeoebphfjfiaaGreat
/- THE CELL 'sum', in the pinned program and in every row, IS THE sha256 OF THE DUMP (.gsa) THAT YtcaeoebphfjfiaaGreatProg.lean LOADS. Nothing in Lean hashes anything: it is a label: what it is worth is what the hold of that sum in a sandbox is worth. -/
noncomputable def Tryz.pinned : Pinned := { name := "ytcaeoebphfjfiaagreat", sum := "ebd3141b77f63cad0babe2bf4f9f37e7dfb393fac4077cfba162675ed4f1ef6e", checked := Tryz.checked }
namespace Rows
def none {H : Type} : Left H := { results := [], args := [] }

/-- 'bridlewaylaw31.EachSteps': WHATEVER THE INPUT: true; the input reads as it did. -/
def eachStepsSpec : ChangeSpec := { name := "eachSteps", fn := fun _ => fun
  | [d1, d2, d3] => { results := [.lit (.bool true)], args := [d1, d2, d3] }
  | _ => none }
def eachStepsRow : OpenClaim := { program := "ytcaeoebphfjfiaagreat", sum := "ebd3141b77f63cad0babe2bf4f9f37e7dfb393fac4077cfba162675ed4f1ef6e", func := "bridleway/bridlewaylaw31.EachSteps", spec := "eachSteps", unfollowed := true, recurses := true, plainKeys := false, apart := false }
def EachStepsSaid : Prop := eachStepsRow.holds Tryz.pinned (OpenSpec.ofChange eachStepsSpec)

/-- ITS FALSE NEIGHBOUR: 'it returns false'. Refute it at one input. -/
def eachStepsWrong : ChangeSpec := { name := "eachSteps", fn := fun _ => fun
  | [d1, d2, d3] => { results := [.lit (.bool false)], args := [d1, d2, d3] }
  | _ => none }
def EachStepsWrongFalsely : Prop := eachStepsRow.holds Tryz.pinned (OpenSpec.ofChange eachStepsWrong)

/-- 'bridlewaylaw31.EachRows': WHATEVER THE INPUT: true; the input reads as it did. -/
def eachRowsSpec : ChangeSpec := { name := "eachRows", fn := fun _ => fun
  | [d1, d2] => { results := [.lit (.bool true)], args := [d1, d2] }
  | _ => none }
def eachRowsRow : OpenClaim := { program := "ytcaeoebphfjfiaagreat", sum := "ebd3141b77f63cad0babe2bf4f9f37e7dfb393fac4077cfba162675ed4f1ef6e", func := "bridleway/bridlewaylaw31.EachRows", spec := "eachRows", unfollowed := true, recurses := true, plainKeys := false, apart := false }
def EachRowsSaid : Prop := eachRowsRow.holds Tryz.pinned (OpenSpec.ofChange eachRowsSpec)

/-- ITS FALSE NEIGHBOUR: 'it returns false'. Refute it at one input. -/
def eachRowsWrong : ChangeSpec := { name := "eachRows", fn := fun _ => fun
  | [d1, d2] => { results := [.lit (.bool false)], args := [d1, d2] }
  | _ => none }
def EachRowsWrongFalsely : Prop := eachRowsRow.holds Tryz.pinned (OpenSpec.ofChange eachRowsWrong)

/-- 'bridlewaylaw30.CountsBelow': WHATEVER THE INPUT: true; the input reads as it did. -/
def countsBelowSpec : ChangeSpec := { name := "countsBelow", fn := fun _ => fun
  | [d1, d2, d3] => { results := [.lit (.bool true)], args := [d1, d2, d3] }
  | _ => none }
def countsBelowRow : OpenClaim := { program := "ytcaeoebphfjfiaagreat", sum := "ebd3141b77f63cad0babe2bf4f9f37e7dfb393fac4077cfba162675ed4f1ef6e", func := "bridleway/bridlewaylaw30.CountsBelow", spec := "countsBelow", unfollowed := true, recurses := true, plainKeys := false, apart := false }
def CountsBelowSaid : Prop := countsBelowRow.holds Tryz.pinned (OpenSpec.ofChange countsBelowSpec)

/-- ITS FALSE NEIGHBOUR: 'it returns false'. Refute it at one input. -/
def countsBelowWrong : ChangeSpec := { name := "countsBelow", fn := fun _ => fun
  | [d1, d2, d3] => { results := [.lit (.bool false)], args := [d1, d2, d3] }
  | _ => none }
def CountsBelowWrongFalsely : Prop := countsBelowRow.holds Tryz.pinned (OpenSpec.ofChange countsBelowWrong)

/-- 'bridlewaylaw31.EachBehind': WHATEVER THE INPUT: true; the input reads as it did. -/
def eachBehindSpec : ChangeSpec := { name := "eachBehind", fn := fun _ => fun
  | [d1, d2, d3] => { results := [.lit (.bool true)], args := [d1, d2, d3] }
  | _ => none }
def eachBehindRow : OpenClaim := { program := "ytcaeoebphfjfiaagreat", sum := "ebd3141b77f63cad0babe2bf4f9f37e7dfb393fac4077cfba162675ed4f1ef6e", func := "bridleway/bridlewaylaw31.EachBehind", spec := "eachBehind", unfollowed := true, recurses := true, plainKeys := false, apart := false }
def EachBehindSaid : Prop := eachBehindRow.holds Tryz.pinned (OpenSpec.ofChange eachBehindSpec)

/-- ITS FALSE NEIGHBOUR: 'it returns false'. Refute it at one input. -/
def eachBehindWrong : ChangeSpec := { name := "eachBehind", fn := fun _ => fun
  | [d1, d2, d3] => { results := [.lit (.bool false)], args := [d1, d2, d3] }
  | _ => none }
def EachBehindWrongFalsely : Prop := eachBehindRow.holds Tryz.pinned (OpenSpec.ofChange eachBehindWrong)

/- THE SECOND FORM. 'bulk': how many values and letters a reading holds, each counted each time it is reached (what is shared counts as often as it is met; a slice's spare places count too). A statement '..UptoSaid' is the law's where the arguments, and the package variables that the reading takes, are together of bulk at most 1048576: NARROWER than '..Said'. Prove '..Said' where nothing that the law and all that it calls make is longer than what came in: it says more and counts as full. Else prove '..UptoSaid'. A law counts once. -/
mutual
def uptoBulk {H : Type} : DataW H → Nat
  | .lit (.string bytes) => bytes.length + 1
  | .lit _ => 1
  | .nil => 1
  | .ptr d => uptoBulk d + 1
  | .slice elems spare => uptoBulkAll elems + uptoBulkAll spare + 1
  | .agg parts => uptoBulkAll parts + 1
  | .iface _ d => uptoBulk d + 1
  | .map entries => uptoBulkEntries entries + 1
  | .held _ => 1
def uptoBulkAll {H : Type} : List (DataW H) → Nat
  | [] => 0
  | d :: r => uptoBulk d + uptoBulkAll r
def uptoBulkEntries {H : Type} : List (Lit × DataW H) → Nat
  | [] => 0
  | x :: r => uptoBulkEntry x + uptoBulkEntries r
def uptoBulkEntry {H : Type} : Lit × DataW H → Nat
  | (.string bytes, d) => bytes.length + uptoBulk d + 1
  | (_, d) => uptoBulk d + 1
 end
def uptoSmall : (H : Type) → List (DataW H) → Bool := fun _ ds => decide (uptoBulkAll ds ≤ 1048576)
def OpenSpec.upto (s : _root_.Go.ChangeSpec) : _root_.Go.OpenSpec := { _root_.Go.OpenSpec.ofChange s with cond := some uptoSmall }

/-- 'bridlewaylaw31.EachSteps', WHERE WHAT IT READS IS OF BULK AT MOST 1048576: true; the input reads as it did. -/
def eachStepsUptoRow : OpenClaim := { program := "ytcaeoebphfjfiaagreat", sum := "ebd3141b77f63cad0babe2bf4f9f37e7dfb393fac4077cfba162675ed4f1ef6e", func := "bridleway/bridlewaylaw31.EachSteps", spec := "eachSteps", unfollowed := true, recurses := true, plainKeys := false, apart := false, narrowed := true }
def EachStepsUptoSaid : Prop := eachStepsUptoRow.holds Tryz.pinned (OpenSpec.upto eachStepsSpec)

/-- 'bridlewaylaw31.EachRows', WHERE WHAT IT READS IS OF BULK AT MOST 1048576: true; the input reads as it did. -/
def eachRowsUptoRow : OpenClaim := { program := "ytcaeoebphfjfiaagreat", sum := "ebd3141b77f63cad0babe2bf4f9f37e7dfb393fac4077cfba162675ed4f1ef6e", func := "bridleway/bridlewaylaw31.EachRows", spec := "eachRows", unfollowed := true, recurses := true, plainKeys := false, apart := false, narrowed := true }
def EachRowsUptoSaid : Prop := eachRowsUptoRow.holds Tryz.pinned (OpenSpec.upto eachRowsSpec)

/-- 'bridlewaylaw30.CountsBelow', WHERE WHAT IT READS IS OF BULK AT MOST 1048576: true; the input reads as it did. -/
def countsBelowUptoRow : OpenClaim := { program := "ytcaeoebphfjfiaagreat", sum := "ebd3141b77f63cad0babe2bf4f9f37e7dfb393fac4077cfba162675ed4f1ef6e", func := "bridleway/bridlewaylaw30.CountsBelow", spec := "countsBelow", unfollowed := true, recurses := true, plainKeys := false, apart := false, narrowed := true }
def CountsBelowUptoSaid : Prop := countsBelowUptoRow.holds Tryz.pinned (OpenSpec.upto countsBelowSpec)

/-- 'bridlewaylaw31.EachBehind', WHERE WHAT IT READS IS OF BULK AT MOST 1048576: true; the input reads as it did. -/
def eachBehindUptoRow : OpenClaim := { program := "ytcaeoebphfjfiaagreat", sum := "ebd3141b77f63cad0babe2bf4f9f37e7dfb393fac4077cfba162675ed4f1ef6e", func := "bridleway/bridlewaylaw31.EachBehind", spec := "eachBehind", unfollowed := true, recurses := true, plainKeys := false, apart := false, narrowed := true }
def EachBehindUptoSaid : Prop := eachBehindUptoRow.holds Tryz.pinned (OpenSpec.upto eachBehindSpec)

end Rows
end Go.Proofs.YtcaeoebphfjfiaaGreat
