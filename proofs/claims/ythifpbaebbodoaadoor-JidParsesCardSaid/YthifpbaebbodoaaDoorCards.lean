/-
  DERIVED. GIVEN WITH THE SEED: THE CARDS: each row of YthifpbaebbodoaaDoorRows.lean that lists a variable, with what it lists TIED to the program's text (the seventh form; the later family's looks); each row that meets fmt, with fmt's text TOLD by the authors' own Lean function (tested against real Go, not proved from fmt's source: count such statements apart). THE CARD IS WHAT COUNTS. Prove the row's statement (the work); the ties are given (YthifpbaebbodoaaDoorTie.lean); close each card by the builder's one call (the guide's Derived/Test/ToyasCard.lean, 'card_holds'). Laid BY PROGRAM, IN A SANDBOX (cutbox-door.mjs). By AI agents, Wed Nov 11 2026. No macro, syntax, notation, axiom, sorry.
-/
import Derived.Test.YthifpbaebbodoaaDoorRows
import GoSem.ClaimSeven
namespace Go.Proofs.YthifpbaebbodoaaDoor
namespace Rows

/-- THE TIED CARD OF 'wharflaw03.JidParses'. -/
def jidParsesCard : Claim7 := { stood := { row := jidParsesRow, standIns := [], harness := (true, "49237eeeab3e34aced89369dd8c3687731264c599009710586c5d01e531210f2"), looks := false }, kinds := [], alts := [], laidByText := true, laidKinds := [.data, .pinned], laidTests := true, laidLooks := .later }
def JidParsesCardSaid : Prop := Claim7.holds Tryd.pinned (.plain (OpenSpec.ofChange jidParsesSpec)) jidParsesCard

/-- THE TIED CARD OF 'wharflaw03.JidChecks'. -/
def jidChecksCard : Claim7 := { stood := { row := jidChecksRow, standIns := [], harness := (true, "49237eeeab3e34aced89369dd8c3687731264c599009710586c5d01e531210f2"), looks := false }, kinds := [], alts := [], laidByText := true, laidKinds := [.data, .pinned], laidTests := true, laidLooks := .later }
def JidChecksCardSaid : Prop := Claim7.holds Tryd.pinned (.plain (OpenSpec.ofChange jidChecksSpec)) jidChecksCard

/-- THE TIED CARD OF 'wharflaw03.JidBack'. -/
def jidBackCard : Claim7 := { stood := { row := jidBackRow, standIns := [], harness := (true, "49237eeeab3e34aced89369dd8c3687731264c599009710586c5d01e531210f2"), looks := false }, kinds := [], alts := [], laidByText := true, laidKinds := [.data, .pinned], laidTests := true, laidLooks := .later }
def JidBackCardSaid : Prop := Claim7.holds Tryd.pinned (.plain (OpenSpec.ofChange jidBackSpec)) jidBackCard

/-- THE TIED CARD OF 'wharflaw03.JidCase'. -/
def jidCaseCard : Claim7 := { stood := { row := jidCaseRow, standIns := [], harness := (true, "49237eeeab3e34aced89369dd8c3687731264c599009710586c5d01e531210f2"), looks := false }, kinds := [], alts := [], laidByText := true, laidKinds := [.data, .pinned], laidTests := true, laidLooks := .later }
def JidCaseCardSaid : Prop := Claim7.holds Tryd.pinned (.plain (OpenSpec.ofChange jidCaseSpec)) jidCaseCard

/-- THE TIED CARD OF 'wharflaw03.JidParts'. -/
def jidPartsCard : Claim7 := { stood := { row := jidPartsRow, standIns := [], harness := (true, "49237eeeab3e34aced89369dd8c3687731264c599009710586c5d01e531210f2"), looks := false }, kinds := [], alts := [], laidByText := true, laidKinds := [.data, .pinned], laidTests := true, laidLooks := .later }
def JidPartsCardSaid : Prop := Claim7.holds Tryd.pinned (.plain (OpenSpec.ofChange jidPartsSpec)) jidPartsCard

/-- THE TIED CARD OF 'wharflaw03.JidNorm'. -/
def jidNormCard : Claim7 := { stood := { row := jidNormRow, standIns := [], harness := (true, "49237eeeab3e34aced89369dd8c3687731264c599009710586c5d01e531210f2"), looks := false }, kinds := [], alts := [], laidByText := true, laidKinds := [.data, .pinned], laidTests := true, laidLooks := .later }
def JidNormCardSaid : Prop := Claim7.holds Tryd.pinned (.plain (OpenSpec.ofChange jidNormSpec)) jidNormCard

/-- THE SECOND FORM's CARD OF 'wharflaw03.JidParses'. -/
def jidParsesUptoCard : Claim7 := { stood := { row := jidParsesUptoRow, standIns := [], harness := (true, "49237eeeab3e34aced89369dd8c3687731264c599009710586c5d01e531210f2"), looks := false }, kinds := [], alts := [], laidByText := true, laidKinds := [.data, .pinned], laidTests := true, laidLooks := .later }
def JidParsesUptoCardSaid : Prop := Claim7.holds Tryd.pinned (.plain (OpenSpec.upto jidParsesSpec)) jidParsesUptoCard

/-- THE SECOND FORM's CARD OF 'wharflaw03.JidChecks'. -/
def jidChecksUptoCard : Claim7 := { stood := { row := jidChecksUptoRow, standIns := [], harness := (true, "49237eeeab3e34aced89369dd8c3687731264c599009710586c5d01e531210f2"), looks := false }, kinds := [], alts := [], laidByText := true, laidKinds := [.data, .pinned], laidTests := true, laidLooks := .later }
def JidChecksUptoCardSaid : Prop := Claim7.holds Tryd.pinned (.plain (OpenSpec.upto jidChecksSpec)) jidChecksUptoCard

/-- THE SECOND FORM's CARD OF 'wharflaw03.JidBack'. -/
def jidBackUptoCard : Claim7 := { stood := { row := jidBackUptoRow, standIns := [], harness := (true, "49237eeeab3e34aced89369dd8c3687731264c599009710586c5d01e531210f2"), looks := false }, kinds := [], alts := [], laidByText := true, laidKinds := [.data, .pinned], laidTests := true, laidLooks := .later }
def JidBackUptoCardSaid : Prop := Claim7.holds Tryd.pinned (.plain (OpenSpec.upto jidBackSpec)) jidBackUptoCard

/-- THE SECOND FORM's CARD OF 'wharflaw03.JidCase'. -/
def jidCaseUptoCard : Claim7 := { stood := { row := jidCaseUptoRow, standIns := [], harness := (true, "49237eeeab3e34aced89369dd8c3687731264c599009710586c5d01e531210f2"), looks := false }, kinds := [], alts := [], laidByText := true, laidKinds := [.data, .pinned], laidTests := true, laidLooks := .later }
def JidCaseUptoCardSaid : Prop := Claim7.holds Tryd.pinned (.plain (OpenSpec.upto jidCaseSpec)) jidCaseUptoCard

/-- THE SECOND FORM's CARD OF 'wharflaw03.JidParts'. -/
def jidPartsUptoCard : Claim7 := { stood := { row := jidPartsUptoRow, standIns := [], harness := (true, "49237eeeab3e34aced89369dd8c3687731264c599009710586c5d01e531210f2"), looks := false }, kinds := [], alts := [], laidByText := true, laidKinds := [.data, .pinned], laidTests := true, laidLooks := .later }
def JidPartsUptoCardSaid : Prop := Claim7.holds Tryd.pinned (.plain (OpenSpec.upto jidPartsSpec)) jidPartsUptoCard

/-- THE SECOND FORM's CARD OF 'wharflaw03.JidNorm'. -/
def jidNormUptoCard : Claim7 := { stood := { row := jidNormUptoRow, standIns := [], harness := (true, "49237eeeab3e34aced89369dd8c3687731264c599009710586c5d01e531210f2"), looks := false }, kinds := [], alts := [], laidByText := true, laidKinds := [.data, .pinned], laidTests := true, laidLooks := .later }
def JidNormUptoCardSaid : Prop := Claim7.holds Tryd.pinned (.plain (OpenSpec.upto jidNormSpec)) jidNormUptoCard
end Rows
end Go.Proofs.YthifpbaebbodoaaDoor
