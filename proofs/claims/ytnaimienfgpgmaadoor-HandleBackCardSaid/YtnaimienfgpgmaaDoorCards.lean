/-
  DERIVED. GIVEN WITH THE SEED: THE CARDS: each row of YtnaimienfgpgmaaDoorRows.lean that lists a variable, with what it lists TIED to the program's text (the seventh form; the later family's looks); each row that meets fmt, with fmt's text TOLD by the authors' own Lean function (tested against real Go, not proved from fmt's source: count such statements apart). THE CARD IS WHAT COUNTS. Prove the row's statement (the work); the ties are given (YtnaimienfgpgmaaDoorTie.lean); close each card by the builder's one call (the guide's Derived/Test/ToyasCard.lean, 'card_holds'). Laid BY PROGRAM, IN A SANDBOX (cutbox-door.mjs). By AI agents, Wed Nov 11 2026. No macro, syntax, notation, axiom, sorry.
-/
import Derived.Test.YtnaimienfgpgmaaDoorRows
import GoSem.ClaimSeven
namespace Go.Proofs.YtnaimienfgpgmaaDoor
namespace Rows

/-- THE TIED CARD OF 'wharflaw04.HandleChecks'. -/
def handleChecksCard : Claim7 := { stood := { row := handleChecksRow, standIns := [], harness := (true, "3dbc2a6df81065c5f7c1cd29c913dc067d716ee204de330b4c5c601011cd1083"), looks := false }, kinds := [], alts := [], laidByText := true, laidKinds := [.data, .pinned], laidTests := true, laidLooks := .later }
def HandleChecksCardSaid : Prop := Claim7.holds Tryd.pinned (.plain (OpenSpec.ofChange handleChecksSpec)) handleChecksCard

/-- THE TIED CARD OF 'wharflaw04.HandleJids'. -/
def handleJidsCard : Claim7 := { stood := { row := handleJidsRow, standIns := [], harness := (true, "3dbc2a6df81065c5f7c1cd29c913dc067d716ee204de330b4c5c601011cd1083"), looks := false }, kinds := [], alts := [], laidByText := true, laidKinds := [.data, .pinned], laidTests := true, laidLooks := .later }
def HandleJidsCardSaid : Prop := Claim7.holds Tryd.pinned (.plain (OpenSpec.ofChange handleJidsSpec)) handleJidsCard

/-- THE TIED CARD OF 'wharflaw04.HandleBack'. -/
def handleBackCard : Claim7 := { stood := { row := handleBackRow, standIns := [], harness := (true, "3dbc2a6df81065c5f7c1cd29c913dc067d716ee204de330b4c5c601011cd1083"), looks := false }, kinds := [], alts := [], laidByText := true, laidKinds := [.data, .pinned], laidTests := true, laidLooks := .later }
def HandleBackCardSaid : Prop := Claim7.holds Tryd.pinned (.plain (OpenSpec.ofChange handleBackSpec)) handleBackCard

/-- THE TIED CARD OF 'wharflaw04.HandleApart'. -/
def handleApartCard : Claim7 := { stood := { row := handleApartRow, standIns := [], harness := (true, "3dbc2a6df81065c5f7c1cd29c913dc067d716ee204de330b4c5c601011cd1083"), looks := false }, kinds := [], alts := [], laidByText := true, laidKinds := [.data, .pinned], laidTests := true, laidLooks := .later }
def HandleApartCardSaid : Prop := Claim7.holds Tryd.pinned (.plain (OpenSpec.ofChange handleApartSpec)) handleApartCard

/-- THE TIED CARD OF 'wharflaw04.HandlePlain'. -/
def handlePlainCard : Claim7 := { stood := { row := handlePlainRow, standIns := [], harness := (true, "3dbc2a6df81065c5f7c1cd29c913dc067d716ee204de330b4c5c601011cd1083"), looks := false }, kinds := [], alts := [], laidByText := true, laidKinds := [.data, .pinned], laidTests := true, laidLooks := .later }
def HandlePlainCardSaid : Prop := Claim7.holds Tryd.pinned (.plain (OpenSpec.ofChange handlePlainSpec)) handlePlainCard

/-- THE SECOND FORM's CARD OF 'wharflaw04.HandleChecks'. -/
def handleChecksUptoCard : Claim7 := { stood := { row := handleChecksUptoRow, standIns := [], harness := (true, "3dbc2a6df81065c5f7c1cd29c913dc067d716ee204de330b4c5c601011cd1083"), looks := false }, kinds := [], alts := [], laidByText := true, laidKinds := [.data, .pinned], laidTests := true, laidLooks := .later }
def HandleChecksUptoCardSaid : Prop := Claim7.holds Tryd.pinned (.plain (OpenSpec.upto handleChecksSpec)) handleChecksUptoCard

/-- THE SECOND FORM's CARD OF 'wharflaw04.HandleJids'. -/
def handleJidsUptoCard : Claim7 := { stood := { row := handleJidsUptoRow, standIns := [], harness := (true, "3dbc2a6df81065c5f7c1cd29c913dc067d716ee204de330b4c5c601011cd1083"), looks := false }, kinds := [], alts := [], laidByText := true, laidKinds := [.data, .pinned], laidTests := true, laidLooks := .later }
def HandleJidsUptoCardSaid : Prop := Claim7.holds Tryd.pinned (.plain (OpenSpec.upto handleJidsSpec)) handleJidsUptoCard

/-- THE SECOND FORM's CARD OF 'wharflaw04.HandleBack'. -/
def handleBackUptoCard : Claim7 := { stood := { row := handleBackUptoRow, standIns := [], harness := (true, "3dbc2a6df81065c5f7c1cd29c913dc067d716ee204de330b4c5c601011cd1083"), looks := false }, kinds := [], alts := [], laidByText := true, laidKinds := [.data, .pinned], laidTests := true, laidLooks := .later }
def HandleBackUptoCardSaid : Prop := Claim7.holds Tryd.pinned (.plain (OpenSpec.upto handleBackSpec)) handleBackUptoCard

/-- THE SECOND FORM's CARD OF 'wharflaw04.HandleApart'. -/
def handleApartUptoCard : Claim7 := { stood := { row := handleApartUptoRow, standIns := [], harness := (true, "3dbc2a6df81065c5f7c1cd29c913dc067d716ee204de330b4c5c601011cd1083"), looks := false }, kinds := [], alts := [], laidByText := true, laidKinds := [.data, .pinned], laidTests := true, laidLooks := .later }
def HandleApartUptoCardSaid : Prop := Claim7.holds Tryd.pinned (.plain (OpenSpec.upto handleApartSpec)) handleApartUptoCard

/-- THE SECOND FORM's CARD OF 'wharflaw04.HandlePlain'. -/
def handlePlainUptoCard : Claim7 := { stood := { row := handlePlainUptoRow, standIns := [], harness := (true, "3dbc2a6df81065c5f7c1cd29c913dc067d716ee204de330b4c5c601011cd1083"), looks := false }, kinds := [], alts := [], laidByText := true, laidKinds := [.data, .pinned], laidTests := true, laidLooks := .later }
def HandlePlainUptoCardSaid : Prop := Claim7.holds Tryd.pinned (.plain (OpenSpec.upto handlePlainSpec)) handlePlainUptoCard
end Rows
end Go.Proofs.YtnaimienfgpgmaaDoor
