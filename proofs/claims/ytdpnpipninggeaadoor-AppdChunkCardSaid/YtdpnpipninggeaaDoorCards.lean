/-
  DERIVED. GIVEN WITH THE SEED: THE CARDS: each row of YtdpnpipninggeaaDoorRows.lean that lists a variable, with what it lists TIED to the program's text (the seventh form; the later family's looks); each row that meets fmt, with fmt's text TOLD by the authors' own Lean function (tested against real Go, not proved from fmt's source: count such statements apart). THE CARD IS WHAT COUNTS. Prove the row's statement (the work); the ties are given (YtdpnpipninggeaaDoorTie.lean); close each card by the builder's one call (the guide's Derived/Test/ToyasCard.lean, 'card_holds'). Laid BY PROGRAM, IN A SANDBOX (cutbox-door.mjs). By AI agents, Wed Nov 11 2026. No macro, syntax, notation, axiom, sorry.
-/
import Derived.Test.YtdpnpipninggeaaDoorRows
import GoSem.ClaimSeven
namespace Go.Proofs.YtdpnpipninggeaaDoor
namespace Rows

/-- THE TIED CARD OF 'ephemerislaw13.AppdChunk'. -/
def appdChunkCard : Claim7 := { stood := { row := appdChunkRow, standIns := [], harness := (true, "e247bf24ed99e61ea99fbfd970b35f961622050f950e69bb29501a6a47e1b75b"), looks := false }, kinds := [], alts := [], laidByText := true, laidKinds := [.data], laidTests := true, laidLooks := .later }
def AppdChunkCardSaid : Prop := Claim7.holds Tryd.pinned (.plain (OpenSpec.ofChange appdChunkSpec)) appdChunkCard

/-- THE TIED CARD OF 'ephemerislaw13.AppdOwn'. -/
def appdOwnCard : Claim7 := { stood := { row := appdOwnRow, standIns := [], harness := (true, "e247bf24ed99e61ea99fbfd970b35f961622050f950e69bb29501a6a47e1b75b"), looks := false }, kinds := [], alts := [], laidByText := true, laidKinds := [.data], laidTests := true, laidLooks := .later }
def AppdOwnCardSaid : Prop := Claim7.holds Tryd.pinned (.plain (OpenSpec.ofChange appdOwnSpec)) appdOwnCard

/-- THE SECOND FORM's CARD OF 'ephemerislaw13.AppdChunk'. -/
def appdChunkUptoCard : Claim7 := { stood := { row := appdChunkUptoRow, standIns := [], harness := (true, "e247bf24ed99e61ea99fbfd970b35f961622050f950e69bb29501a6a47e1b75b"), looks := false }, kinds := [], alts := [], laidByText := true, laidKinds := [.data], laidTests := true, laidLooks := .later }
def AppdChunkUptoCardSaid : Prop := Claim7.holds Tryd.pinned (.plain (OpenSpec.upto appdChunkSpec)) appdChunkUptoCard

/-- THE SECOND FORM's CARD OF 'ephemerislaw13.AppdOwn'. -/
def appdOwnUptoCard : Claim7 := { stood := { row := appdOwnUptoRow, standIns := [], harness := (true, "e247bf24ed99e61ea99fbfd970b35f961622050f950e69bb29501a6a47e1b75b"), looks := false }, kinds := [], alts := [], laidByText := true, laidKinds := [.data], laidTests := true, laidLooks := .later }
def AppdOwnUptoCardSaid : Prop := Claim7.holds Tryd.pinned (.plain (OpenSpec.upto appdOwnSpec)) appdOwnUptoCard
end Rows
end Go.Proofs.YtdpnpipninggeaaDoor
