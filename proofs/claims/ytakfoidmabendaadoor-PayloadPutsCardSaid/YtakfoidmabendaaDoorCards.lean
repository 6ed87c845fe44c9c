/-
  DERIVED. GIVEN WITH THE SEED: THE CARDS: each row of YtakfoidmabendaaDoorRows.lean that lists a variable, with what it lists TIED to the program's text (the seventh form; the later family's looks); each row that meets fmt, with fmt's text TOLD by the authors' own Lean function (tested against real Go, not proved from fmt's source: count such statements apart). THE CARD IS WHAT COUNTS. Prove the row's statement (the work); the ties are given (YtakfoidmabendaaDoorTie.lean); close each card by the builder's one call (the guide's Derived/Test/ToyasCard.lean, 'card_holds'). Laid BY PROGRAM, IN A SANDBOX (cutbox-door.mjs). By AI agents, Wed Nov 11 2026. No macro, syntax, notation, axiom, sorry.
-/
import Derived.Test.YtakfoidmabendaaDoorRows
import GoSem.ClaimSeven
namespace Go.Proofs.YtakfoidmabendaaDoor
namespace Rows

/-- THE TIED CARD OF 'wharflaw10.PayloadBack'. -/
def payloadBackCard : Claim7 := { stood := { row := payloadBackRow, standIns := [], harness := (true, "80d13fa6fa6e8277b296b2555a8cc2b17556f580467da389ae18c420130436b8"), looks := false }, kinds := [], alts := [], laidByText := true, laidKinds := [.data, .pinned], laidTests := true, laidLooks := .later }
def PayloadBackCardSaid : Prop := Claim7.holds Tryd.pinned (.plain (OpenSpec.ofChange payloadBackSpec)) payloadBackCard

/-- THE TIED CARD OF 'wharflaw10.PayloadDigits'. -/
def payloadDigitsCard : Claim7 := { stood := { row := payloadDigitsRow, standIns := [], harness := (true, "80d13fa6fa6e8277b296b2555a8cc2b17556f580467da389ae18c420130436b8"), looks := false }, kinds := [], alts := [], laidByText := true, laidKinds := [.data, .pinned], laidTests := true, laidLooks := .later }
def PayloadDigitsCardSaid : Prop := Claim7.holds Tryd.pinned (.plain (OpenSpec.ofChange payloadDigitsSpec)) payloadDigitsCard

/-- THE TIED CARD OF 'wharflaw10.PayloadPuts'. -/
def payloadPutsCard : Claim7 := { stood := { row := payloadPutsRow, standIns := [], harness := (true, "80d13fa6fa6e8277b296b2555a8cc2b17556f580467da389ae18c420130436b8"), looks := false }, kinds := [], alts := [], laidByText := true, laidKinds := [.data, .pinned], laidTests := true, laidLooks := .later }
def PayloadPutsCardSaid : Prop := Claim7.holds Tryd.pinned (.plain (OpenSpec.ofChange payloadPutsSpec)) payloadPutsCard

/-- THE SECOND FORM's CARD OF 'wharflaw10.PayloadBack'. -/
def payloadBackUptoCard : Claim7 := { stood := { row := payloadBackUptoRow, standIns := [], harness := (true, "80d13fa6fa6e8277b296b2555a8cc2b17556f580467da389ae18c420130436b8"), looks := false }, kinds := [], alts := [], laidByText := true, laidKinds := [.data, .pinned], laidTests := true, laidLooks := .later }
def PayloadBackUptoCardSaid : Prop := Claim7.holds Tryd.pinned (.plain (OpenSpec.upto payloadBackSpec)) payloadBackUptoCard

/-- THE SECOND FORM's CARD OF 'wharflaw10.PayloadDigits'. -/
def payloadDigitsUptoCard : Claim7 := { stood := { row := payloadDigitsUptoRow, standIns := [], harness := (true, "80d13fa6fa6e8277b296b2555a8cc2b17556f580467da389ae18c420130436b8"), looks := false }, kinds := [], alts := [], laidByText := true, laidKinds := [.data, .pinned], laidTests := true, laidLooks := .later }
def PayloadDigitsUptoCardSaid : Prop := Claim7.holds Tryd.pinned (.plain (OpenSpec.upto payloadDigitsSpec)) payloadDigitsUptoCard

/-- THE SECOND FORM's CARD OF 'wharflaw10.PayloadPuts'. -/
def payloadPutsUptoCard : Claim7 := { stood := { row := payloadPutsUptoRow, standIns := [], harness := (true, "80d13fa6fa6e8277b296b2555a8cc2b17556f580467da389ae18c420130436b8"), looks := false }, kinds := [], alts := [], laidByText := true, laidKinds := [.data, .pinned], laidTests := true, laidLooks := .later }
def PayloadPutsUptoCardSaid : Prop := Claim7.holds Tryd.pinned (.plain (OpenSpec.upto payloadPutsSpec)) payloadPutsUptoCard
end Rows
end Go.Proofs.YtakfoidmabendaaDoor
