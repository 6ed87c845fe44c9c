/-
  No cell of these rows narrows 'for every input' (looked for: loops, veiled, ifaces, maps, wideKeys, modest, calm, conditions, laid).
  DERIVED. THE GIVEN ROWS OF THIS SEAT. 4 by the template 'for every input the law returns true; each argument reads behind the call as it read before'; 0 by the template 'total and deterministic' (their statements: YthpkmcohcjpmhaaTotals.lean).
  GIVEN WITH THE SEED: the statements are not yours to turn. If you find one false, say at which input.
  Laid BY PROGRAM, IN A SANDBOX (cutbox-rows.mjs): the forced cells as the released guide's own fill.sh prints them over the translation 4ca6e59dd9d9d019… (all of the seat's roots in one cut). By AI agents, Wed Nov 11 2026. No macro, syntax, notation, axiom, sorry.
-/
import Derived.Test.YthpkmcohcjpmhaaChecked
import GoSem.Claim
import GoSem.ClaimJoined
import GoSem.ClaimMapViews
import Derived.JoinedTies
import Derived.KernelRfl
namespace Go.Proofs.Ythpkmcohcjpmhaa
/- THE CELL 'sum', in the pinned program and in every row, IS THE sha256 OF THE DUMP (.gsa) THAT YthpkmcohcjpmhaaProg.lean LOADS. Nothing in Lean hashes anything: it is a label: what it is worth is what the hold of that sum in a sandbox is worth. -/
noncomputable def Try.pinned : Pinned := { name := "ythpkmcohcjpmhaa", sum := "4ca6e59dd9d9d0197a686e6c0750a34b89d5268a8aeeb18070b855ddf6615ca2", checked := Try.checked }
namespace Rows
def none {H : Type} : Left H := { results := [], args := [] }

/-- 'wharflaw21.SlabRuns': WHATEVER THE INPUT: true; the input reads as it did. -/
def slabRunsSpec : ChangeSpec := { name := "slabRuns", fn := fun _ => fun
  | [d1, d2] => { results := [.lit (.bool true)], args := [d1, d2] }
  | _ => none }
def slabRunsRow : OpenClaim := { program := "ythpkmcohcjpmhaa", sum := "4ca6e59dd9d9d0197a686e6c0750a34b89d5268a8aeeb18070b855ddf6615ca2", func := "wharf/wharflaw21.SlabRuns", spec := "slabRuns", apart := false }
def SlabRunsSaid : Prop := slabRunsRow.holds Try.pinned (OpenSpec.ofChange slabRunsSpec)

/-- ITS FALSE NEIGHBOUR: 'it returns false'. Refute it at one input. -/
def slabRunsWrong : ChangeSpec := { name := "slabRuns", fn := fun _ => fun
  | [d1, d2] => { results := [.lit (.bool false)], args := [d1, d2] }
  | _ => none }
def SlabRunsWrongFalsely : Prop := slabRunsRow.holds Try.pinned (OpenSpec.ofChange slabRunsWrong)

/-- 'wharflaw21.SlabTorn': WHATEVER THE INPUT: true; the input reads as it did. -/
def slabTornSpec : ChangeSpec := { name := "slabTorn", fn := fun _ => fun
  | [d1, d2, d3] => { results := [.lit (.bool true)], args := [d1, d2, d3] }
  | _ => none }
def slabTornRow : OpenClaim := { program := "ythpkmcohcjpmhaa", sum := "4ca6e59dd9d9d0197a686e6c0750a34b89d5268a8aeeb18070b855ddf6615ca2", func := "wharf/wharflaw21.SlabTorn", spec := "slabTorn", apart := false }
def SlabTornSaid : Prop := slabTornRow.holds Try.pinned (OpenSpec.ofChange slabTornSpec)

/-- ITS FALSE NEIGHBOUR: 'it returns false'. Refute it at one input. -/
def slabTornWrong : ChangeSpec := { name := "slabTorn", fn := fun _ => fun
  | [d1, d2, d3] => { results := [.lit (.bool false)], args := [d1, d2, d3] }
  | _ => none }
def SlabTornWrongFalsely : Prop := slabTornRow.holds Try.pinned (OpenSpec.ofChange slabTornWrong)

/-- 'wharflaw21.SlabNil': WHATEVER THE INPUT: true; the input reads as it did. -/
def slabNilSpec : ChangeSpec := { name := "slabNil", fn := fun _ => fun
  | [d1, d2] => { results := [.lit (.bool true)], args := [d1, d2] }
  | _ => none }
def slabNilRow : OpenClaim := { program := "ythpkmcohcjpmhaa", sum := "4ca6e59dd9d9d0197a686e6c0750a34b89d5268a8aeeb18070b855ddf6615ca2", func := "wharf/wharflaw21.SlabNil", spec := "slabNil", apart := false }
def SlabNilSaid : Prop := slabNilRow.holds Try.pinned (OpenSpec.ofChange slabNilSpec)

/-- ITS FALSE NEIGHBOUR: 'it returns false'. Refute it at one input. -/
def slabNilWrong : ChangeSpec := { name := "slabNil", fn := fun _ => fun
  | [d1, d2] => { results := [.lit (.bool false)], args := [d1, d2] }
  | _ => none }
def SlabNilWrongFalsely : Prop := slabNilRow.holds Try.pinned (OpenSpec.ofChange slabNilWrong)

/-- 'wharflaw21.SlabApart': WHATEVER THE INPUT: true; the input reads as it did. -/
def slabApartSpec : ChangeSpec := { name := "slabApart", fn := fun _ => fun
  | [d1, d2, d3] => { results := [.lit (.bool true)], args := [d1, d2, d3] }
  | _ => none }
def slabApartRow : OpenClaim := { program := "ythpkmcohcjpmhaa", sum := "4ca6e59dd9d9d0197a686e6c0750a34b89d5268a8aeeb18070b855ddf6615ca2", func := "wharf/wharflaw21.SlabApart", spec := "slabApart", apart := false }
def SlabApartSaid : Prop := slabApartRow.holds Try.pinned (OpenSpec.ofChange slabApartSpec)

/-- ITS FALSE NEIGHBOUR: 'it returns false'. Refute it at one input. -/
def slabApartWrong : ChangeSpec := { name := "slabApart", fn := fun _ => fun
  | [d1, d2, d3] => { results := [.lit (.bool false)], args := [d1, d2, d3] }
  | _ => none }
def SlabApartWrongFalsely : Prop := slabApartRow.holds Try.pinned (OpenSpec.ofChange slabApartWrong)

/- THE SECOND FORM. 'bulk': how many values and letters a reading holds, each counted each time it is reached (what is shared counts as often as it is met; a slice's spare places count too). A statement '..UptoSaid' is the law's where the arguments, and the package variables that the reading takes, are together of bulk at most 1048576: NARROWER than '..Said'. Prove '..Said' where nothing that the law and all that it calls make is longer than what came in: it says more and counts as full. Else prove '..UptoSaid'. A law counts once. -/
mutual
def uptoBulk {H : Type} : DataW H → Nat
  | .lit (.string bytes) => bytes.length + 1
  | .lit _ => 1
  | .nil => 1
  | .ptr d => uptoBulk d + 1
  | .slice elems spare => uptoBulkAll elems + uptoBulkAll spare + 1
  | .agg parts => uptoBulkAll parts + 1
  | .iface _ d => uptoBulk d + 1
  | .map entries => uptoBulkEntries entries + 1
  | .held _ => 1
def uptoBulkAll {H : Type} : List (DataW H) → Nat
  | [] => 0
  | d :: r => uptoBulk d + uptoBulkAll r
def uptoBulkEntries {H : Type} : List (Lit × DataW H) → Nat
  | [] => 0
  | x :: r => uptoBulkEntry x + uptoBulkEntries r
def uptoBulkEntry {H : Type} : Lit × DataW H → Nat
  | (.string bytes, d) => bytes.length + uptoBulk d + 1
  | (_, d) => uptoBulk d + 1
 end
def uptoSmall : (H : Type) → List (DataW H) → Bool := fun _ ds => decide (uptoBulkAll ds ≤ 1048576)
def OpenSpec.upto (s : _root_.Go.ChangeSpec) : _root_.Go.OpenSpec := { _root_.Go.OpenSpec.ofChange s with cond := some uptoSmall }

/-- 'wharflaw21.SlabRuns', WHERE WHAT IT READS IS OF BULK AT MOST 1048576: true; the input reads as it did. -/
def slabRunsUptoRow : OpenClaim := { program := "ythpkmcohcjpmhaa", sum := "4ca6e59dd9d9d0197a686e6c0750a34b89d5268a8aeeb18070b855ddf6615ca2", func := "wharf/wharflaw21.SlabRuns", spec := "slabRuns", apart := false, narrowed := true }
def SlabRunsUptoSaid : Prop := slabRunsUptoRow.holds Try.pinned (OpenSpec.upto slabRunsSpec)

/-- 'wharflaw21.SlabTorn', WHERE WHAT IT READS IS OF BULK AT MOST 1048576: true; the input reads as it did. -/
def slabTornUptoRow : OpenClaim := { program := "ythpkmcohcjpmhaa", sum := "4ca6e59dd9d9d0197a686e6c0750a34b89d5268a8aeeb18070b855ddf6615ca2", func := "wharf/wharflaw21.SlabTorn", spec := "slabTorn", apart := false, narrowed := true }
def SlabTornUptoSaid : Prop := slabTornUptoRow.holds Try.pinned (OpenSpec.upto slabTornSpec)

/-- 'wharflaw21.SlabNil', WHERE WHAT IT READS IS OF BULK AT MOST 1048576: true; the input reads as it did. -/
def slabNilUptoRow : OpenClaim := { program := "ythpkmcohcjpmhaa", sum := "4ca6e59dd9d9d0197a686e6c0750a34b89d5268a8aeeb18070b855ddf6615ca2", func := "wharf/wharflaw21.SlabNil", spec := "slabNil", apart := false, narrowed := true }
def SlabNilUptoSaid : Prop := slabNilUptoRow.holds Try.pinned (OpenSpec.upto slabNilSpec)

/-- 'wharflaw21.SlabApart', WHERE WHAT IT READS IS OF BULK AT MOST 1048576: true; the input reads as it did. -/
def slabApartUptoRow : OpenClaim := { program := "ythpkmcohcjpmhaa", sum := "4ca6e59dd9d9d0197a686e6c0750a34b89d5268a8aeeb18070b855ddf6615ca2", func := "wharf/wharflaw21.SlabApart", spec := "slabApart", apart := false, narrowed := true }
def SlabApartUptoSaid : Prop := slabApartUptoRow.holds Try.pinned (OpenSpec.upto slabApartSpec)

end Rows
end Go.Proofs.Ythpkmcohcjpmhaa
