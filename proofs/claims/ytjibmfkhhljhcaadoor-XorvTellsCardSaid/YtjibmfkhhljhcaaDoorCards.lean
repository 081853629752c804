/-
  DERIVED. GIVEN WITH THE SEED: THE CARDS: each row of YtjibmfkhhljhcaaDoorRows.lean that lists a variable, with what it lists TIED to the program's text (the seventh form; the later family's looks); each row that meets fmt, with fmt's text TOLD by the authors' own Lean function (tested against real Go, not proved from fmt's source: count such statements apart). THE CARD IS WHAT COUNTS. Prove the row's statement (the work); the ties are given (YtjibmfkhhljhcaaDoorTie.lean); close each card by the builder's one call (the guide's Derived/Test/ToyasCard.lean, 'card_holds'). Laid BY PROGRAM, IN A SANDBOX (cutbox-door.mjs). By AI agents, Wed Nov 11 2026. No macro, syntax, notation, axiom, sorry.
-/
import Derived.Test.YtjibmfkhhljhcaaDoorRows
import GoSem.ClaimSeven
namespace Go.Proofs.YtjibmfkhhljhcaaDoor
namespace Rows

/-- THE TIED CARD OF 'ephemerislaw5.XorvCost'. -/
def xorvCostCard : Claim7 := { stood := { row := xorvCostRow, standIns := [], harness := (true, "5ff9c335e5e7abd360e5efb5664fea29ca0e2c38eab4ed3cff6f6a6e8783b8e8"), looks := false }, kinds := [], alts := [], laidByText := true, laidKinds := [.data], laidTests := true, laidLooks := .later }
def XorvCostCardSaid : Prop := Claim7.holds Tryd.pinned (.plain (OpenSpec.ofChange xorvCostSpec)) xorvCostCard

/-- THE TIED CARD OF 'ephemerislaw5.XorvTells'. -/
def xorvTellsCard : Claim7 := { stood := { row := xorvTellsRow, standIns := [], harness := (true, "5ff9c335e5e7abd360e5efb5664fea29ca0e2c38eab4ed3cff6f6a6e8783b8e8"), looks := false }, kinds := [], alts := [], laidByText := true, laidKinds := [.data], laidTests := true, laidLooks := .later }
def XorvTellsCardSaid : Prop := Claim7.holds Tryd.pinned (.plain (OpenSpec.ofChange xorvTellsSpec)) xorvTellsCard

/-- THE TIED CARD OF 'ephemerislaw5.XorvBack'. -/
def xorvBackCard : Claim7 := { stood := { row := xorvBackRow, standIns := [], harness := (true, "5ff9c335e5e7abd360e5efb5664fea29ca0e2c38eab4ed3cff6f6a6e8783b8e8"), looks := false }, kinds := [], alts := [], laidByText := true, laidKinds := [.data], laidTests := true, laidLooks := .later }
def XorvBackCardSaid : Prop := Claim7.holds Tryd.pinned (.plain (OpenSpec.ofChange xorvBackSpec)) xorvBackCard

/-- THE SECOND FORM's CARD OF 'ephemerislaw5.XorvCost'. -/
def xorvCostUptoCard : Claim7 := { stood := { row := xorvCostUptoRow, standIns := [], harness := (true, "5ff9c335e5e7abd360e5efb5664fea29ca0e2c38eab4ed3cff6f6a6e8783b8e8"), looks := false }, kinds := [], alts := [], laidByText := true, laidKinds := [.data], laidTests := true, laidLooks := .later }
def XorvCostUptoCardSaid : Prop := Claim7.holds Tryd.pinned (.plain (OpenSpec.upto xorvCostSpec)) xorvCostUptoCard

/-- THE SECOND FORM's CARD OF 'ephemerislaw5.XorvTells'. -/
def xorvTellsUptoCard : Claim7 := { stood := { row := xorvTellsUptoRow, standIns := [], harness := (true, "5ff9c335e5e7abd360e5efb5664fea29ca0e2c38eab4ed3cff6f6a6e8783b8e8"), looks := false }, kinds := [], alts := [], laidByText := true, laidKinds := [.data], laidTests := true, laidLooks := .later }
def XorvTellsUptoCardSaid : Prop := Claim7.holds Tryd.pinned (.plain (OpenSpec.upto xorvTellsSpec)) xorvTellsUptoCard

/-- THE SECOND FORM's CARD OF 'ephemerislaw5.XorvBack'. -/
def xorvBackUptoCard : Claim7 := { stood := { row := xorvBackUptoRow, standIns := [], harness := (true, "5ff9c335e5e7abd360e5efb5664fea29ca0e2c38eab4ed3cff6f6a6e8783b8e8"), looks := false }, kinds := [], alts := [], laidByText := true, laidKinds := [.data], laidTests := true, laidLooks := .later }
def XorvBackUptoCardSaid : Prop := Claim7.holds Tryd.pinned (.plain (OpenSpec.upto xorvBackSpec)) xorvBackUptoCard
end Rows
end Go.Proofs.YtjibmfkhhljhcaaDoor
