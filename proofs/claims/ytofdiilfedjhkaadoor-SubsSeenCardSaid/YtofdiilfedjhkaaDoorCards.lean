/-
  DERIVED. GIVEN WITH THE SEED: THE CARDS: each row of YtofdiilfedjhkaaDoorRows.lean that lists a variable, with what it lists TIED to the program's text (the seventh form; the later family's looks); each row that meets fmt, with fmt's text TOLD by the authors' own Lean function (tested against real Go, not proved from fmt's source: count such statements apart). THE CARD IS WHAT COUNTS. Prove the row's statement (the work); the ties are given (YtofdiilfedjhkaaDoorTie.lean); close each card by the builder's one call (the guide's Derived/Test/ToyasCard.lean, 'card_holds'). Laid BY PROGRAM, IN A SANDBOX (cutbox-door.mjs). By AI agents, Wed Nov 11 2026. No macro, syntax, notation, axiom, sorry.
-/
import Derived.Test.YtofdiilfedjhkaaDoorRows
import GoSem.ClaimSeven
namespace Go.Proofs.YtofdiilfedjhkaaDoor
namespace Rows

/-- THE TIED CARD OF 'wharflaw23.SubsAsked'. -/
def subsAskedCard : Claim7 := { stood := { row := subsAskedRow, standIns := [], harness := (true, "1fa628e02efa97fc3dae8d11e7a815974a5c678d92cc6332108c705d38e9575e"), looks := false }, kinds := [], alts := [], laidByText := true, laidKinds := [.data, .pinned], laidTests := true, laidLooks := .later }
def SubsAskedCardSaid : Prop := Claim7.holds Tryd.pinned (.plain (OpenSpec.ofChange subsAskedSpec)) subsAskedCard

/-- THE TIED CARD OF 'wharflaw23.SubsRows'. -/
def subsRowsCard : Claim7 := { stood := { row := subsRowsRow, standIns := [], harness := (true, "1fa628e02efa97fc3dae8d11e7a815974a5c678d92cc6332108c705d38e9575e"), looks := false }, kinds := [], alts := [], laidByText := true, laidKinds := [.data, .pinned], laidTests := true, laidLooks := .later }
def SubsRowsCardSaid : Prop := Claim7.holds Tryd.pinned (.plain (OpenSpec.ofChange subsRowsSpec)) subsRowsCard

/-- THE TIED CARD OF 'wharflaw23.SubsTurns'. -/
def subsTurnsCard : Claim7 := { stood := { row := subsTurnsRow, standIns := [], harness := (true, "1fa628e02efa97fc3dae8d11e7a815974a5c678d92cc6332108c705d38e9575e"), looks := false }, kinds := [], alts := [], laidByText := true, laidKinds := [.data, .pinned], laidTests := true, laidLooks := .later }
def SubsTurnsCardSaid : Prop := Claim7.holds Tryd.pinned (.plain (OpenSpec.ofChange subsTurnsSpec)) subsTurnsCard

/-- THE TIED CARD OF 'wharflaw23.SubsSeen'. -/
def subsSeenCard : Claim7 := { stood := { row := subsSeenRow, standIns := [], harness := (true, "1fa628e02efa97fc3dae8d11e7a815974a5c678d92cc6332108c705d38e9575e"), looks := false }, kinds := [], alts := [], laidByText := true, laidKinds := [.data, .pinned], laidTests := true, laidLooks := .later }
def SubsSeenCardSaid : Prop := Claim7.holds Tryd.pinned (.plain (OpenSpec.ofChange subsSeenSpec)) subsSeenCard

/-- THE SECOND FORM's CARD OF 'wharflaw23.SubsAsked'. -/
def subsAskedUptoCard : Claim7 := { stood := { row := subsAskedUptoRow, standIns := [], harness := (true, "1fa628e02efa97fc3dae8d11e7a815974a5c678d92cc6332108c705d38e9575e"), looks := false }, kinds := [], alts := [], laidByText := true, laidKinds := [.data, .pinned], laidTests := true, laidLooks := .later }
def SubsAskedUptoCardSaid : Prop := Claim7.holds Tryd.pinned (.plain (OpenSpec.upto subsAskedSpec)) subsAskedUptoCard

/-- THE SECOND FORM's CARD OF 'wharflaw23.SubsRows'. -/
def subsRowsUptoCard : Claim7 := { stood := { row := subsRowsUptoRow, standIns := [], harness := (true, "1fa628e02efa97fc3dae8d11e7a815974a5c678d92cc6332108c705d38e9575e"), looks := false }, kinds := [], alts := [], laidByText := true, laidKinds := [.data, .pinned], laidTests := true, laidLooks := .later }
def SubsRowsUptoCardSaid : Prop := Claim7.holds Tryd.pinned (.plain (OpenSpec.upto subsRowsSpec)) subsRowsUptoCard

/-- THE SECOND FORM's CARD OF 'wharflaw23.SubsTurns'. -/
def subsTurnsUptoCard : Claim7 := { stood := { row := subsTurnsUptoRow, standIns := [], harness := (true, "1fa628e02efa97fc3dae8d11e7a815974a5c678d92cc6332108c705d38e9575e"), looks := false }, kinds := [], alts := [], laidByText := true, laidKinds := [.data, .pinned], laidTests := true, laidLooks := .later }
def SubsTurnsUptoCardSaid : Prop := Claim7.holds Tryd.pinned (.plain (OpenSpec.upto subsTurnsSpec)) subsTurnsUptoCard

/-- THE SECOND FORM's CARD OF 'wharflaw23.SubsSeen'. -/
def subsSeenUptoCard : Claim7 := { stood := { row := subsSeenUptoRow, standIns := [], harness := (true, "1fa628e02efa97fc3dae8d11e7a815974a5c678d92cc6332108c705d38e9575e"), looks := false }, kinds := [], alts := [], laidByText := true, laidKinds := [.data, .pinned], laidTests := true, laidLooks := .later }
def SubsSeenUptoCardSaid : Prop := Claim7.holds Tryd.pinned (.plain (OpenSpec.upto subsSeenSpec)) subsSeenUptoCard
end Rows
end Go.Proofs.YtofdiilfedjhkaaDoor
