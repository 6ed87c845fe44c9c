/-
  No cell of these rows narrows 'for every input' (looked for: loops, veiled, ifaces, maps, wideKeys, modest, calm, conditions, laid).
  DERIVED. THE GIVEN ROWS OF THIS SEAT. 5 by the template 'for every input the law returns true; each argument reads behind the call as it read before'; 0 by the template 'total and deterministic' (their statements: YtjegeohghefdiaaTotals.lean).
  GIVEN WITH THE SEED: the statements are not yours to turn. If you find one false, say at which input.
  Laid BY PROGRAM, IN A SANDBOX (cutbox-rows.mjs): the forced cells as the released guide's own fill.sh prints them over the translation 338cd745fbcc2d31… (all of the seat's roots in one cut). By AI agents, Wed Nov 11 2026. No macro, syntax, notation, axiom, sorry.
-/
import Derived.Test.YtjegeohghefdiaaChecked
import GoSem.Claim
import GoSem.ClaimJoined
import GoSem.ClaimMapViews
import Derived.JoinedTies
import Derived.KernelRfl
namespace Go.Proofs.Ytjegeohghefdiaa
/- THE CELL 'sum', in the pinned program and in every row, IS THE sha256 OF THE DUMP (.gsa) THAT YtjegeohghefdiaaProg.lean LOADS. Nothing in Lean hashes anything: it is a label: what it is worth is what the hold of that sum in a sandbox is worth. -/
noncomputable def Try.pinned : Pinned := { name := "ytjegeohghefdiaa", sum := "338cd745fbcc2d3134f6635491f6686f4632e366aeb42619d72871e786a6e8c0", checked := Try.checked }
namespace Rows
def none {H : Type} : Left H := { results := [], args := [] }

/-- 'wharflaw02.EscapeTells': WHATEVER THE INPUT: true; the input reads as it did. -/
def escapeTellsSpec : ChangeSpec := { name := "escapeTells", fn := fun _ => fun
  | [d] => { results := [.lit (.bool true)], args := [d] }
  | _ => none }
def escapeTellsRow : OpenClaim := { program := "ytjegeohghefdiaa", sum := "338cd745fbcc2d3134f6635491f6686f4632e366aeb42619d72871e786a6e8c0", func := "wharf/wharflaw02.EscapeTells", spec := "escapeTells", inPlace := ["internal/abi.NoEscape"], apart := false }
def EscapeTellsSaid : Prop := escapeTellsRow.holds Try.pinned (OpenSpec.ofChange escapeTellsSpec)

/-- ITS FALSE NEIGHBOUR: 'it returns false'. Refute it at one input. -/
def escapeTellsWrong : ChangeSpec := { name := "escapeTells", fn := fun _ => fun
  | [d] => { results := [.lit (.bool false)], args := [d] }
  | _ => none }
def EscapeTellsWrongFalsely : Prop := escapeTellsRow.holds Try.pinned (OpenSpec.ofChange escapeTellsWrong)

/-- 'wharflaw02.EscapeBack': WHATEVER THE INPUT: true; the input reads as it did. -/
def escapeBackSpec : ChangeSpec := { name := "escapeBack", fn := fun _ => fun
  | [d] => { results := [.lit (.bool true)], args := [d] }
  | _ => none }
def escapeBackRow : OpenClaim := { program := "ytjegeohghefdiaa", sum := "338cd745fbcc2d3134f6635491f6686f4632e366aeb42619d72871e786a6e8c0", func := "wharf/wharflaw02.EscapeBack", spec := "escapeBack", inPlace := ["internal/abi.NoEscape"], apart := false }
def EscapeBackSaid : Prop := escapeBackRow.holds Try.pinned (OpenSpec.ofChange escapeBackSpec)

/-- ITS FALSE NEIGHBOUR: 'it returns false'. Refute it at one input. -/
def escapeBackWrong : ChangeSpec := { name := "escapeBack", fn := fun _ => fun
  | [d] => { results := [.lit (.bool false)], args := [d] }
  | _ => none }
def EscapeBackWrongFalsely : Prop := escapeBackRow.holds Try.pinned (OpenSpec.ofChange escapeBackWrong)

/-- 'wharflaw02.EscapeApart': WHATEVER THE INPUT: true; the input reads as it did. -/
def escapeApartSpec : ChangeSpec := { name := "escapeApart", fn := fun _ => fun
  | [d1, d2] => { results := [.lit (.bool true)], args := [d1, d2] }
  | _ => none }
def escapeApartRow : OpenClaim := { program := "ytjegeohghefdiaa", sum := "338cd745fbcc2d3134f6635491f6686f4632e366aeb42619d72871e786a6e8c0", func := "wharf/wharflaw02.EscapeApart", spec := "escapeApart", inPlace := ["internal/abi.NoEscape"], apart := false }
def EscapeApartSaid : Prop := escapeApartRow.holds Try.pinned (OpenSpec.ofChange escapeApartSpec)

/-- ITS FALSE NEIGHBOUR: 'it returns false'. Refute it at one input. -/
def escapeApartWrong : ChangeSpec := { name := "escapeApart", fn := fun _ => fun
  | [d1, d2] => { results := [.lit (.bool false)], args := [d1, d2] }
  | _ => none }
def EscapeApartWrongFalsely : Prop := escapeApartRow.holds Try.pinned (OpenSpec.ofChange escapeApartWrong)

/-- 'wharflaw02.EscapePlain': WHATEVER THE INPUT: true; the input reads as it did. -/
def escapePlainSpec : ChangeSpec := { name := "escapePlain", fn := fun _ => fun
  | [d1, d2] => { results := [.lit (.bool true)], args := [d1, d2] }
  | _ => none }
def escapePlainRow : OpenClaim := { program := "ytjegeohghefdiaa", sum := "338cd745fbcc2d3134f6635491f6686f4632e366aeb42619d72871e786a6e8c0", func := "wharf/wharflaw02.EscapePlain", spec := "escapePlain", inPlace := ["internal/abi.NoEscape"], apart := false }
def EscapePlainSaid : Prop := escapePlainRow.holds Try.pinned (OpenSpec.ofChange escapePlainSpec)

/-- ITS FALSE NEIGHBOUR: 'it returns false'. Refute it at one input. -/
def escapePlainWrong : ChangeSpec := { name := "escapePlain", fn := fun _ => fun
  | [d1, d2] => { results := [.lit (.bool false)], args := [d1, d2] }
  | _ => none }
def EscapePlainWrongFalsely : Prop := escapePlainRow.holds Try.pinned (OpenSpec.ofChange escapePlainWrong)

/-- 'wharflaw02.EscapeTwice': WHATEVER THE INPUT: true; the input reads as it did. -/
def escapeTwiceSpec : ChangeSpec := { name := "escapeTwice", fn := fun _ => fun
  | [d] => { results := [.lit (.bool true)], args := [d] }
  | _ => none }
def escapeTwiceRow : OpenClaim := { program := "ytjegeohghefdiaa", sum := "338cd745fbcc2d3134f6635491f6686f4632e366aeb42619d72871e786a6e8c0", func := "wharf/wharflaw02.EscapeTwice", spec := "escapeTwice", inPlace := ["internal/abi.NoEscape"], apart := false }
def EscapeTwiceSaid : Prop := escapeTwiceRow.holds Try.pinned (OpenSpec.ofChange escapeTwiceSpec)

/-- ITS FALSE NEIGHBOUR: 'it returns false'. Refute it at one input. -/
def escapeTwiceWrong : ChangeSpec := { name := "escapeTwice", fn := fun _ => fun
  | [d] => { results := [.lit (.bool false)], args := [d] }
  | _ => none }
def EscapeTwiceWrongFalsely : Prop := escapeTwiceRow.holds Try.pinned (OpenSpec.ofChange escapeTwiceWrong)

/- THE SECOND FORM. 'bulk': how many values and letters a reading holds, each counted each time it is reached (what is shared counts as often as it is met; a slice's spare places count too). A statement '..UptoSaid' is the law's where the arguments, and the package variables that the reading takes, are together of bulk at most 1048576: NARROWER than '..Said'. Prove '..Said' where nothing that the law and all that it calls make is longer than what came in: it says more and counts as full. Else prove '..UptoSaid'. A law counts once. -/
mutual
def uptoBulk {H : Type} : DataW H → Nat
  | .lit (.string bytes) => bytes.length + 1
  | .lit _ => 1
  | .nil => 1
  | .ptr d => uptoBulk d + 1
  | .slice elems spare => uptoBulkAll elems + uptoBulkAll spare + 1
  | .agg parts => uptoBulkAll parts + 1
  | .iface _ d => uptoBulk d + 1
  | .map entries => uptoBulkEntries entries + 1
  | .held _ => 1
def uptoBulkAll {H : Type} : List (DataW H) → Nat
  | [] => 0
  | d :: r => uptoBulk d + uptoBulkAll r
def uptoBulkEntries {H : Type} : List (Lit × DataW H) → Nat
  | [] => 0
  | x :: r => uptoBulkEntry x + uptoBulkEntries r
def uptoBulkEntry {H : Type} : Lit × DataW H → Nat
  | (.string bytes, d) => bytes.length + uptoBulk d + 1
  | (_, d) => uptoBulk d + 1
 end
def uptoSmall : (H : Type) → List (DataW H) → Bool := fun _ ds => decide (uptoBulkAll ds ≤ 1048576)
def OpenSpec.upto (s : _root_.Go.ChangeSpec) : _root_.Go.OpenSpec := { _root_.Go.OpenSpec.ofChange s with cond := some uptoSmall }

/-- 'wharflaw02.EscapeTells', WHERE WHAT IT READS IS OF BULK AT MOST 1048576: true; the input reads as it did. -/
def escapeTellsUptoRow : OpenClaim := { program := "ytjegeohghefdiaa", sum := "338cd745fbcc2d3134f6635491f6686f4632e366aeb42619d72871e786a6e8c0", func := "wharf/wharflaw02.EscapeTells", spec := "escapeTells", inPlace := ["internal/abi.NoEscape"], apart := false, narrowed := true }
def EscapeTellsUptoSaid : Prop := escapeTellsUptoRow.holds Try.pinned (OpenSpec.upto escapeTellsSpec)

/-- 'wharflaw02.EscapeBack', WHERE WHAT IT READS IS OF BULK AT MOST 1048576: true; the input reads as it did. -/
def escapeBackUptoRow : OpenClaim := { program := "ytjegeohghefdiaa", sum := "338cd745fbcc2d3134f6635491f6686f4632e366aeb42619d72871e786a6e8c0", func := "wharf/wharflaw02.EscapeBack", spec := "escapeBack", inPlace := ["internal/abi.NoEscape"], apart := false, narrowed := true }
def EscapeBackUptoSaid : Prop := escapeBackUptoRow.holds Try.pinned (OpenSpec.upto escapeBackSpec)

/-- 'wharflaw02.EscapeApart', WHERE WHAT IT READS IS OF BULK AT MOST 1048576: true; the input reads as it did. -/
def escapeApartUptoRow : OpenClaim := { program := "ytjegeohghefdiaa", sum := "338cd745fbcc2d3134f6635491f6686f4632e366aeb42619d72871e786a6e8c0", func := "wharf/wharflaw02.EscapeApart", spec := "escapeApart", inPlace := ["internal/abi.NoEscape"], apart := false, narrowed := true }
def EscapeApartUptoSaid : Prop := escapeApartUptoRow.holds Try.pinned (OpenSpec.upto escapeApartSpec)

/-- 'wharflaw02.EscapePlain', WHERE WHAT IT READS IS OF BULK AT MOST 1048576: true; the input reads as it did. -/
def escapePlainUptoRow : OpenClaim := { program := "ytjegeohghefdiaa", sum := "338cd745fbcc2d3134f6635491f6686f4632e366aeb42619d72871e786a6e8c0", func := "wharf/wharflaw02.EscapePlain", spec := "escapePlain", inPlace := ["internal/abi.NoEscape"], apart := false, narrowed := true }
def EscapePlainUptoSaid : Prop := escapePlainUptoRow.holds Try.pinned (OpenSpec.upto escapePlainSpec)

/-- 'wharflaw02.EscapeTwice', WHERE WHAT IT READS IS OF BULK AT MOST 1048576: true; the input reads as it did. -/
def escapeTwiceUptoRow : OpenClaim := { program := "ytjegeohghefdiaa", sum := "338cd745fbcc2d3134f6635491f6686f4632e366aeb42619d72871e786a6e8c0", func := "wharf/wharflaw02.EscapeTwice", spec := "escapeTwice", inPlace := ["internal/abi.NoEscape"], apart := false, narrowed := true }
def EscapeTwiceUptoSaid : Prop := escapeTwiceUptoRow.holds Try.pinned (OpenSpec.upto escapeTwiceSpec)

end Rows
end Go.Proofs.Ytjegeohghefdiaa
