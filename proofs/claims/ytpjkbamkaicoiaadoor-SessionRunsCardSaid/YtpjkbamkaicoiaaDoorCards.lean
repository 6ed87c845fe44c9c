/-
  DERIVED. GIVEN WITH THE SEED: THE CARDS: each row of YtpjkbamkaicoiaaDoorRows.lean that lists a variable, with what it lists TIED to the program's text (the seventh form; the later family's looks); each row that meets fmt, with fmt's text TOLD by the authors' own Lean function (tested against real Go, not proved from fmt's source: count such statements apart). THE CARD IS WHAT COUNTS. Prove the row's statement (the work); the ties are given (YtpjkbamkaicoiaaDoorTie.lean); close each card by the builder's one call (the guide's Derived/Test/ToyasCard.lean, 'card_holds'). Laid BY PROGRAM, IN A SANDBOX (cutbox-door.mjs). By AI agents, Wed Nov 11 2026. No macro, syntax, notation, axiom, sorry.
-/
import Derived.Test.YtpjkbamkaicoiaaDoorRows
import GoSem.ClaimSeven
namespace Go.Proofs.YtpjkbamkaicoiaaDoor
namespace Rows

/-- THE TIED CARD OF 'wharflaw15.SessionComes'. -/
def sessionComesCard : Claim7 := { stood := { row := sessionComesRow, standIns := [], harness := (true, "39b842255bf0195fd361ea540c3e918f493247231afb27bfcfedea8932c81252"), looks := false }, kinds := [], alts := [], laidByText := true, laidKinds := [.data, .pinned], laidTests := true, laidLooks := .later }
def SessionComesCardSaid : Prop := Claim7.holds Tryd.pinned (.plain (OpenSpec.ofChange sessionComesSpec)) sessionComesCard

/-- THE TIED CARD OF 'wharflaw15.SessionHeard'. -/
def sessionHeardCard : Claim7 := { stood := { row := sessionHeardRow, standIns := [], harness := (true, "39b842255bf0195fd361ea540c3e918f493247231afb27bfcfedea8932c81252"), looks := false }, kinds := [], alts := [], laidByText := true, laidKinds := [.data, .pinned], laidTests := true, laidLooks := .later }
def SessionHeardCardSaid : Prop := Claim7.holds Tryd.pinned (.plain (OpenSpec.ofChange sessionHeardSpec)) sessionHeardCard

/-- THE TIED CARD OF 'wharflaw15.SessionRuns'. -/
def sessionRunsCard : Claim7 := { stood := { row := sessionRunsRow, standIns := [], harness := (true, "39b842255bf0195fd361ea540c3e918f493247231afb27bfcfedea8932c81252"), looks := false }, kinds := [], alts := [], laidByText := true, laidKinds := [.data, .pinned], laidTests := true, laidLooks := .later }
def SessionRunsCardSaid : Prop := Claim7.holds Tryd.pinned (.plain (OpenSpec.ofChange sessionRunsSpec)) sessionRunsCard

/-- THE TIED CARD OF 'wharflaw15.SessionStands'. -/
def sessionStandsCard : Claim7 := { stood := { row := sessionStandsRow, standIns := [], harness := (true, "39b842255bf0195fd361ea540c3e918f493247231afb27bfcfedea8932c81252"), looks := false }, kinds := [], alts := [], laidByText := true, laidKinds := [.data, .pinned], laidTests := true, laidLooks := .later }
def SessionStandsCardSaid : Prop := Claim7.holds Tryd.pinned (.plain (OpenSpec.ofChange sessionStandsSpec)) sessionStandsCard

/-- THE TIED CARD OF 'wharflaw15.SessionOrder'. -/
def sessionOrderCard : Claim7 := { stood := { row := sessionOrderRow, standIns := [], harness := (true, "39b842255bf0195fd361ea540c3e918f493247231afb27bfcfedea8932c81252"), looks := false }, kinds := [], alts := [], laidByText := true, laidKinds := [.data, .pinned], laidTests := true, laidLooks := .later }
def SessionOrderCardSaid : Prop := Claim7.holds Tryd.pinned (.plain (OpenSpec.ofChange sessionOrderSpec)) sessionOrderCard

/-- THE SECOND FORM's CARD OF 'wharflaw15.SessionComes'. -/
def sessionComesUptoCard : Claim7 := { stood := { row := sessionComesUptoRow, standIns := [], harness := (true, "39b842255bf0195fd361ea540c3e918f493247231afb27bfcfedea8932c81252"), looks := false }, kinds := [], alts := [], laidByText := true, laidKinds := [.data, .pinned], laidTests := true, laidLooks := .later }
def SessionComesUptoCardSaid : Prop := Claim7.holds Tryd.pinned (.plain (OpenSpec.upto sessionComesSpec)) sessionComesUptoCard

/-- THE SECOND FORM's CARD OF 'wharflaw15.SessionHeard'. -/
def sessionHeardUptoCard : Claim7 := { stood := { row := sessionHeardUptoRow, standIns := [], harness := (true, "39b842255bf0195fd361ea540c3e918f493247231afb27bfcfedea8932c81252"), looks := false }, kinds := [], alts := [], laidByText := true, laidKinds := [.data, .pinned], laidTests := true, laidLooks := .later }
def SessionHeardUptoCardSaid : Prop := Claim7.holds Tryd.pinned (.plain (OpenSpec.upto sessionHeardSpec)) sessionHeardUptoCard

/-- THE SECOND FORM's CARD OF 'wharflaw15.SessionRuns'. -/
def sessionRunsUptoCard : Claim7 := { stood := { row := sessionRunsUptoRow, standIns := [], harness := (true, "39b842255bf0195fd361ea540c3e918f493247231afb27bfcfedea8932c81252"), looks := false }, kinds := [], alts := [], laidByText := true, laidKinds := [.data, .pinned], laidTests := true, laidLooks := .later }
def SessionRunsUptoCardSaid : Prop := Claim7.holds Tryd.pinned (.plain (OpenSpec.upto sessionRunsSpec)) sessionRunsUptoCard

/-- THE SECOND FORM's CARD OF 'wharflaw15.SessionStands'. -/
def sessionStandsUptoCard : Claim7 := { stood := { row := sessionStandsUptoRow, standIns := [], harness := (true, "39b842255bf0195fd361ea540c3e918f493247231afb27bfcfedea8932c81252"), looks := false }, kinds := [], alts := [], laidByText := true, laidKinds := [.data, .pinned], laidTests := true, laidLooks := .later }
def SessionStandsUptoCardSaid : Prop := Claim7.holds Tryd.pinned (.plain (OpenSpec.upto sessionStandsSpec)) sessionStandsUptoCard

/-- THE SECOND FORM's CARD OF 'wharflaw15.SessionOrder'. -/
def sessionOrderUptoCard : Claim7 := { stood := { row := sessionOrderUptoRow, standIns := [], harness := (true, "39b842255bf0195fd361ea540c3e918f493247231afb27bfcfedea8932c81252"), looks := false }, kinds := [], alts := [], laidByText := true, laidKinds := [.data, .pinned], laidTests := true, laidLooks := .later }
def SessionOrderUptoCardSaid : Prop := Claim7.holds Tryd.pinned (.plain (OpenSpec.upto sessionOrderSpec)) sessionOrderUptoCard
end Rows
end Go.Proofs.YtpjkbamkaicoiaaDoor
