/-
  No cell of these rows narrows 'for every input' (looked for: loops, veiled, ifaces, maps, wideKeys, modest, calm, conditions, laid).
  DERIVED. THE GIVEN ROWS OF THIS SEAT. 4 by the template 'for every input the law returns true; each argument reads behind the call as it read before'; 0 by the template 'total and deterministic' (their statements: YtcgopnknnolhkaaTotals.lean).
  GIVEN WITH THE SEED: the statements are not yours to turn. If you find one false, say at which input.
  Laid BY PROGRAM, IN A SANDBOX (cutbox-rows.mjs): the forced cells as the released guide's own fill.sh prints them over the translation f561f4d6ccc2a1d6… (all of the seat's roots in one cut). By AI agents, Wed Nov 11 2026. No macro, syntax, notation, axiom, sorry.
-/
import Derived.Test.YtcgopnknnolhkaaChecked
import GoSem.Claim
import GoSem.ClaimJoined
import GoSem.ClaimMapViews
import Derived.JoinedTies
import Derived.KernelRfl
namespace Go.Proofs.Ytcgopnknnolhkaa
/- THE CELL 'sum', in the pinned program and in every row, IS THE sha256 OF THE DUMP (.gsa) THAT YtcgopnknnolhkaaProg.lean LOADS. Nothing in Lean hashes anything: it is a label: what it is worth is what the hold of that sum in a sandbox is worth. -/
noncomputable def Try.pinned : Pinned := { name := "ytcgopnknnolhkaa", sum := "f561f4d6ccc2a1d60b5b07c5fc90bd231b2dde7ee3eb73a17e8b96548721a8c8", checked := Try.checked }
namespace Rows
def none {H : Type} : Left H := { results := [], args := [] }

/-- 'wharflaw07.DigestMd5': WHATEVER THE INPUT: true; the input reads as it did. -/
def digestMd5Spec : ChangeSpec := { name := "digestMd5", fn := fun _ => fun
  | [d] => { results := [.lit (.bool true)], args := [d] }
  | _ => none }
def digestMd5Row : OpenClaim := { program := "ytcgopnknnolhkaa", sum := "f561f4d6ccc2a1d60b5b07c5fc90bd231b2dde7ee3eb73a17e8b96548721a8c8", func := "wharf/wharflaw07.DigestMd5", spec := "digestMd5", inPlace := ["internal/abi.NoEscape"], apart := false }
def DigestMd5Said : Prop := digestMd5Row.holds Try.pinned (OpenSpec.ofChange digestMd5Spec)

/-- ITS FALSE NEIGHBOUR: 'it returns false'. Refute it at one input. -/
def digestMd5Wrong : ChangeSpec := { name := "digestMd5", fn := fun _ => fun
  | [d] => { results := [.lit (.bool false)], args := [d] }
  | _ => none }
def DigestMd5WrongFalsely : Prop := digestMd5Row.holds Try.pinned (OpenSpec.ofChange digestMd5Wrong)

/-- 'wharflaw07.DigestSha1': WHATEVER THE INPUT: true; the input reads as it did. -/
def digestSha1Spec : ChangeSpec := { name := "digestSha1", fn := fun _ => fun
  | [d] => { results := [.lit (.bool true)], args := [d] }
  | _ => none }
def digestSha1Row : OpenClaim := { program := "ytcgopnknnolhkaa", sum := "f561f4d6ccc2a1d60b5b07c5fc90bd231b2dde7ee3eb73a17e8b96548721a8c8", func := "wharf/wharflaw07.DigestSha1", spec := "digestSha1", inPlace := ["internal/abi.NoEscape"], apart := false }
def DigestSha1Said : Prop := digestSha1Row.holds Try.pinned (OpenSpec.ofChange digestSha1Spec)

/-- ITS FALSE NEIGHBOUR: 'it returns false'. Refute it at one input. -/
def digestSha1Wrong : ChangeSpec := { name := "digestSha1", fn := fun _ => fun
  | [d] => { results := [.lit (.bool false)], args := [d] }
  | _ => none }
def DigestSha1WrongFalsely : Prop := digestSha1Row.holds Try.pinned (OpenSpec.ofChange digestSha1Wrong)

/-- 'wharflaw07.DigestLengths': WHATEVER THE INPUT: true; the input reads as it did. -/
def digestLengthsSpec : ChangeSpec := { name := "digestLengths", fn := fun _ => fun
  | [d1, d2] => { results := [.lit (.bool true)], args := [d1, d2] }
  | _ => none }
def digestLengthsRow : OpenClaim := { program := "ytcgopnknnolhkaa", sum := "f561f4d6ccc2a1d60b5b07c5fc90bd231b2dde7ee3eb73a17e8b96548721a8c8", func := "wharf/wharflaw07.DigestLengths", spec := "digestLengths", inPlace := ["internal/abi.NoEscape"], apart := false }
def DigestLengthsSaid : Prop := digestLengthsRow.holds Try.pinned (OpenSpec.ofChange digestLengthsSpec)

/-- ITS FALSE NEIGHBOUR: 'it returns false'. Refute it at one input. -/
def digestLengthsWrong : ChangeSpec := { name := "digestLengths", fn := fun _ => fun
  | [d1, d2] => { results := [.lit (.bool false)], args := [d1, d2] }
  | _ => none }
def DigestLengthsWrongFalsely : Prop := digestLengthsRow.holds Try.pinned (OpenSpec.ofChange digestLengthsWrong)

/-- 'wharflaw07.DigestSalted': WHATEVER THE INPUT: true; the input reads as it did. -/
def digestSaltedSpec : ChangeSpec := { name := "digestSalted", fn := fun _ => fun
  | [d1, d2, d3] => { results := [.lit (.bool true)], args := [d1, d2, d3] }
  | _ => none }
def digestSaltedRow : OpenClaim := { program := "ytcgopnknnolhkaa", sum := "f561f4d6ccc2a1d60b5b07c5fc90bd231b2dde7ee3eb73a17e8b96548721a8c8", func := "wharf/wharflaw07.DigestSalted", spec := "digestSalted", inPlace := ["internal/abi.NoEscape"], apart := false }
def DigestSaltedSaid : Prop := digestSaltedRow.holds Try.pinned (OpenSpec.ofChange digestSaltedSpec)

/-- ITS FALSE NEIGHBOUR: 'it returns false'. Refute it at one input. -/
def digestSaltedWrong : ChangeSpec := { name := "digestSalted", fn := fun _ => fun
  | [d1, d2, d3] => { results := [.lit (.bool false)], args := [d1, d2, d3] }
  | _ => none }
def DigestSaltedWrongFalsely : Prop := digestSaltedRow.holds Try.pinned (OpenSpec.ofChange digestSaltedWrong)

/- THE SECOND FORM. 'bulk': how many values and letters a reading holds, each counted each time it is reached (what is shared counts as often as it is met; a slice's spare places count too). A statement '..UptoSaid' is the law's where the arguments, and the package variables that the reading takes, are together of bulk at most 1048576: NARROWER than '..Said'. Prove '..Said' where nothing that the law and all that it calls make is longer than what came in: it says more and counts as full. Else prove '..UptoSaid'. A law counts once. -/
mutual
def uptoBulk {H : Type} : DataW H → Nat
  | .lit (.string bytes) => bytes.length + 1
  | .lit _ => 1
  | .nil => 1
  | .ptr d => uptoBulk d + 1
  | .slice elems spare => uptoBulkAll elems + uptoBulkAll spare + 1
  | .agg parts => uptoBulkAll parts + 1
  | .iface _ d => uptoBulk d + 1
  | .map entries => uptoBulkEntries entries + 1
  | .held _ => 1
def uptoBulkAll {H : Type} : List (DataW H) → Nat
  | [] => 0
  | d :: r => uptoBulk d + uptoBulkAll r
def uptoBulkEntries {H : Type} : List (Lit × DataW H) → Nat
  | [] => 0
  | x :: r => uptoBulkEntry x + uptoBulkEntries r
def uptoBulkEntry {H : Type} : Lit × DataW H → Nat
  | (.string bytes, d) => bytes.length + uptoBulk d + 1
  | (_, d) => uptoBulk d + 1
 end
def uptoSmall : (H : Type) → List (DataW H) → Bool := fun _ ds => decide (uptoBulkAll ds ≤ 1048576)
def OpenSpec.upto (s : _root_.Go.ChangeSpec) : _root_.Go.OpenSpec := { _root_.Go.OpenSpec.ofChange s with cond := some uptoSmall }

/-- 'wharflaw07.DigestMd5', WHERE WHAT IT READS IS OF BULK AT MOST 1048576: true; the input reads as it did. -/
def digestMd5UptoRow : OpenClaim := { program := "ytcgopnknnolhkaa", sum := "f561f4d6ccc2a1d60b5b07c5fc90bd231b2dde7ee3eb73a17e8b96548721a8c8", func := "wharf/wharflaw07.DigestMd5", spec := "digestMd5", inPlace := ["internal/abi.NoEscape"], apart := false, narrowed := true }
def DigestMd5UptoSaid : Prop := digestMd5UptoRow.holds Try.pinned (OpenSpec.upto digestMd5Spec)

/-- 'wharflaw07.DigestSha1', WHERE WHAT IT READS IS OF BULK AT MOST 1048576: true; the input reads as it did. -/
def digestSha1UptoRow : OpenClaim := { program := "ytcgopnknnolhkaa", sum := "f561f4d6ccc2a1d60b5b07c5fc90bd231b2dde7ee3eb73a17e8b96548721a8c8", func := "wharf/wharflaw07.DigestSha1", spec := "digestSha1", inPlace := ["internal/abi.NoEscape"], apart := false, narrowed := true }
def DigestSha1UptoSaid : Prop := digestSha1UptoRow.holds Try.pinned (OpenSpec.upto digestSha1Spec)

/-- 'wharflaw07.DigestLengths', WHERE WHAT IT READS IS OF BULK AT MOST 1048576: true; the input reads as it did. -/
def digestLengthsUptoRow : OpenClaim := { program := "ytcgopnknnolhkaa", sum := "f561f4d6ccc2a1d60b5b07c5fc90bd231b2dde7ee3eb73a17e8b96548721a8c8", func := "wharf/wharflaw07.DigestLengths", spec := "digestLengths", inPlace := ["internal/abi.NoEscape"], apart := false, narrowed := true }
def DigestLengthsUptoSaid : Prop := digestLengthsUptoRow.holds Try.pinned (OpenSpec.upto digestLengthsSpec)

/-- 'wharflaw07.DigestSalted', WHERE WHAT IT READS IS OF BULK AT MOST 1048576: true; the input reads as it did. -/
def digestSaltedUptoRow : OpenClaim := { program := "ytcgopnknnolhkaa", sum := "f561f4d6ccc2a1d60b5b07c5fc90bd231b2dde7ee3eb73a17e8b96548721a8c8", func := "wharf/wharflaw07.DigestSalted", spec := "digestSalted", inPlace := ["internal/abi.NoEscape"], apart := false, narrowed := true }
def DigestSaltedUptoSaid : Prop := digestSaltedUptoRow.holds Try.pinned (OpenSpec.upto digestSaltedSpec)

end Rows
end Go.Proofs.Ytcgopnknnolhkaa
