/-
  DERIVED. GIVEN WITH THE SEED: THE CARDS: each row of YtdpnpipninggeaaGreatDoorRows.lean that lists a variable, with what it lists TIED to the program's text (the seventh form; the later family's looks); each row that meets fmt, with fmt's text TOLD by the authors' own Lean function (tested against real Go, not proved from fmt's source: count such statements apart). THE CARD IS WHAT COUNTS. Prove the row's statement (the work); the ties are given (YtdpnpipninggeaaGreatDoorTie.lean); close each card by the builder's one call (the guide's Derived/Test/ToyasCard.lean, 'card_holds'). Laid BY PROGRAM, IN A SANDBOX (cutbox-door.mjs). By AI agents, Wed Nov 11 2026. No macro, syntax, notation, axiom, sorry.
-/
import Derived.Test.YtdpnpipninggeaaGreatDoorRows
import GoSem.ClaimSeven
namespace Go.Proofs.YtdpnpipninggeaaGreatDoor
namespace Rows

/-- THE TIED CARD OF 'ephemerislaw13.AppdPlays'. -/
def appdPlaysCard : Claim7 := { stood := { row := appdPlaysRow, standIns := [], harness := (true, "e9b95bf6a01a4149678ef495c5a97f8c479d73363a8b6b8db3f00adec867771f"), looks := false }, kinds := [], alts := [], laidByText := true, laidKinds := [.data], laidTests := true, laidLooks := .later }
def AppdPlaysCardSaid : Prop := Claim7.holds Tryz.pinned (.plain (OpenSpec.ofChange appdPlaysSpec)) appdPlaysCard

/-- THE SECOND FORM's CARD OF 'ephemerislaw13.AppdPlays'. -/
def appdPlaysUptoCard : Claim7 := { stood := { row := appdPlaysUptoRow, standIns := [], harness := (true, "e9b95bf6a01a4149678ef495c5a97f8c479d73363a8b6b8db3f00adec867771f"), looks := false }, kinds := [], alts := [], laidByText := true, laidKinds := [.data], laidTests := true, laidLooks := .later }
def AppdPlaysUptoCardSaid : Prop := Claim7.holds Tryz.pinned (.plain (OpenSpec.upto appdPlaysSpec)) appdPlaysUptoCard
end Rows
end Go.Proofs.YtdpnpipninggeaaGreatDoor
