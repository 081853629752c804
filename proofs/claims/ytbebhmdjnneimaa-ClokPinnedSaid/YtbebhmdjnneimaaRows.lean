/-
  No cell of these rows narrows 'for every input' (looked for: loops, veiled, ifaces, maps, wideKeys, modest, calm, conditions, laid).
  DERIVED. THE GIVEN ROWS OF THIS SEAT. 12 by the template 'for every input the law returns true; each argument reads behind the call as it read before'; 0 by the template 'total and deterministic' (their statements: YtbebhmdjnneimaaTotals.lean).
  GIVEN WITH THE SEED: the statements are not yours to turn. If you find one false, say at which input.
  Laid BY PROGRAM, IN A SANDBOX (cutbox-rows.mjs): the forced cells as the released guide's own fill.sh prints them over the translation cdcde04922bae6c8… (all of the seat's roots in one cut). By AI agents, Wed Nov 11 2026. No macro, syntax, notation, axiom, sorry.
-/
import Derived.Test.YtbebhmdjnneimaaChecked
import GoSem.Claim
import GoSem.ClaimJoined
import GoSem.ClaimMapViews
import Derived.JoinedTies
import Derived.KernelRfl
namespace Go.Proofs.Ytbebhmdjnneimaa
/- THE CELL 'sum', in the pinned program and in every row, IS THE sha256 OF THE DUMP (.gsa) THAT YtbebhmdjnneimaaProg.lean LOADS. Nothing in Lean hashes anything: it is a label: what it is worth is what the hold of that sum in a sandbox is worth. -/
noncomputable def Try.pinned : Pinned := { name := "ytbebhmdjnneimaa", sum := "cdcde04922bae6c87deb9d1f30ec85399f2336e7d9e5612ed88ac308c16f8163", checked := Try.checked }
namespace Rows
def none {H : Type} : Left H := { results := [], args := [] }

/-- 'ephemerislaw14.ModlForms': WHATEVER THE INPUT: true; the input reads as it did. -/
def modlFormsSpec : ChangeSpec := { name := "modlForms", fn := fun _ => fun
  | [d] => { results := [.lit (.bool true)], args := [d] }
  | _ => none }
def modlFormsRow : OpenClaim := { program := "ytbebhmdjnneimaa", sum := "cdcde04922bae6c87deb9d1f30ec85399f2336e7d9e5612ed88ac308c16f8163", func := "ephemeris/ephemerislaw14.ModlForms", spec := "modlForms", inPlace := ["slices.overlaps[ephemeris/api.Series]"], unfollowed := true, recurses := true, plainKeys := false, apart := false }
def ModlFormsSaid : Prop := modlFormsRow.holds Try.pinned (OpenSpec.ofChange modlFormsSpec)

/-- ITS FALSE NEIGHBOUR: 'it returns false'. Refute it at one input. -/
def modlFormsWrong : ChangeSpec := { name := "modlForms", fn := fun _ => fun
  | [d] => { results := [.lit (.bool false)], args := [d] }
  | _ => none }
def ModlFormsWrongFalsely : Prop := modlFormsRow.holds Try.pinned (OpenSpec.ofChange modlFormsWrong)

/-- 'ephemerislaw14.ModlEdges': WHATEVER THE INPUT: true; the input reads as it did. -/
def modlEdgesSpec : ChangeSpec := { name := "modlEdges", fn := fun _ => fun
  | [d1, d2, d3] => { results := [.lit (.bool true)], args := [d1, d2, d3] }
  | _ => none }
def modlEdgesRow : OpenClaim := { program := "ytbebhmdjnneimaa", sum := "cdcde04922bae6c87deb9d1f30ec85399f2336e7d9e5612ed88ac308c16f8163", func := "ephemeris/ephemerislaw14.ModlEdges", spec := "modlEdges", inPlace := ["slices.overlaps[ephemeris/api.Series]"], unfollowed := true, recurses := true, plainKeys := false, apart := false }
def ModlEdgesSaid : Prop := modlEdgesRow.holds Try.pinned (OpenSpec.ofChange modlEdgesSpec)

/-- ITS FALSE NEIGHBOUR: 'it returns false'. Refute it at one input. -/
def modlEdgesWrong : ChangeSpec := { name := "modlEdges", fn := fun _ => fun
  | [d1, d2, d3] => { results := [.lit (.bool false)], args := [d1, d2, d3] }
  | _ => none }
def ModlEdgesWrongFalsely : Prop := modlEdgesRow.holds Try.pinned (OpenSpec.ofChange modlEdgesWrong)

/-- 'ephemerislaw14.ModlOwn': WHATEVER THE INPUT: true; the input reads as it did. -/
def modlOwnSpec : ChangeSpec := { name := "modlOwn", fn := fun _ => fun
  | [d1, d2] => { results := [.lit (.bool true)], args := [d1, d2] }
  | _ => none }
def modlOwnRow : OpenClaim := { program := "ytbebhmdjnneimaa", sum := "cdcde04922bae6c87deb9d1f30ec85399f2336e7d9e5612ed88ac308c16f8163", func := "ephemeris/ephemerislaw14.ModlOwn", spec := "modlOwn", inPlace := ["slices.overlaps[ephemeris/api.Series]"], unfollowed := true, recurses := true, plainKeys := false, apart := false }
def ModlOwnSaid : Prop := modlOwnRow.holds Try.pinned (OpenSpec.ofChange modlOwnSpec)

/-- ITS FALSE NEIGHBOUR: 'it returns false'. Refute it at one input. -/
def modlOwnWrong : ChangeSpec := { name := "modlOwn", fn := fun _ => fun
  | [d1, d2] => { results := [.lit (.bool false)], args := [d1, d2] }
  | _ => none }
def ModlOwnWrongFalsely : Prop := modlOwnRow.holds Try.pinned (OpenSpec.ofChange modlOwnWrong)

/-- 'ephemerislaw14.ModlPlays': WHATEVER THE INPUT: true; the input reads as it did. -/
def modlPlaysSpec : ChangeSpec := { name := "modlPlays", fn := fun _ => fun
  | [d1, d2] => { results := [.lit (.bool true)], args := [d1, d2] }
  | _ => none }
def modlPlaysRow : OpenClaim := { program := "ytbebhmdjnneimaa", sum := "cdcde04922bae6c87deb9d1f30ec85399f2336e7d9e5612ed88ac308c16f8163", func := "ephemeris/ephemerislaw14.ModlPlays", spec := "modlPlays", inPlace := ["slices.overlaps[ephemeris/api.Series]"], unfollowed := true, recurses := true, plainKeys := false, apart := false }
def ModlPlaysSaid : Prop := modlPlaysRow.holds Try.pinned (OpenSpec.ofChange modlPlaysSpec)

/-- ITS FALSE NEIGHBOUR: 'it returns false'. Refute it at one input. -/
def modlPlaysWrong : ChangeSpec := { name := "modlPlays", fn := fun _ => fun
  | [d1, d2] => { results := [.lit (.bool false)], args := [d1, d2] }
  | _ => none }
def ModlPlaysWrongFalsely : Prop := modlPlaysRow.holds Try.pinned (OpenSpec.ofChange modlPlaysWrong)

/-- 'ephemerislaw14.ModlIters': WHATEVER THE INPUT: true; the input reads as it did. -/
def modlItersSpec : ChangeSpec := { name := "modlIters", fn := fun _ => fun
  | [d1, d2, d3, d4, d5] => { results := [.lit (.bool true)], args := [d1, d2, d3, d4, d5] }
  | _ => none }
def modlItersRow : OpenClaim := { program := "ytbebhmdjnneimaa", sum := "cdcde04922bae6c87deb9d1f30ec85399f2336e7d9e5612ed88ac308c16f8163", func := "ephemeris/ephemerislaw14.ModlIters", spec := "modlIters", inPlace := ["slices.overlaps[ephemeris/api.Series]"], unfollowed := true, recurses := true, plainKeys := false, apart := false }
def ModlItersSaid : Prop := modlItersRow.holds Try.pinned (OpenSpec.ofChange modlItersSpec)

/-- ITS FALSE NEIGHBOUR: 'it returns false'. Refute it at one input. -/
def modlItersWrong : ChangeSpec := { name := "modlIters", fn := fun _ => fun
  | [d1, d2, d3, d4, d5] => { results := [.lit (.bool false)], args := [d1, d2, d3, d4, d5] }
  | _ => none }
def ModlItersWrongFalsely : Prop := modlItersRow.holds Try.pinned (OpenSpec.ofChange modlItersWrong)

/-- 'ephemerislaw25.HistBegins': WHATEVER THE INPUT: true; the input reads as it did. -/
def histBeginsSpec : ChangeSpec := { name := "histBegins", fn := fun _ => fun
  | [d1, d2] => { results := [.lit (.bool true)], args := [d1, d2] }
  | _ => none }
def histBeginsRow : OpenClaim := { program := "ytbebhmdjnneimaa", sum := "cdcde04922bae6c87deb9d1f30ec85399f2336e7d9e5612ed88ac308c16f8163", func := "ephemeris/ephemerislaw25.HistBegins", spec := "histBegins", inPlace := ["slices.overlaps[ephemeris/api.Series]"], unfollowed := true, recurses := true, plainKeys := false, apart := false }
def HistBeginsSaid : Prop := histBeginsRow.holds Try.pinned (OpenSpec.ofChange histBeginsSpec)

/-- ITS FALSE NEIGHBOUR: 'it returns false'. Refute it at one input. -/
def histBeginsWrong : ChangeSpec := { name := "histBegins", fn := fun _ => fun
  | [d1, d2] => { results := [.lit (.bool false)], args := [d1, d2] }
  | _ => none }
def HistBeginsWrongFalsely : Prop := histBeginsRow.holds Try.pinned (OpenSpec.ofChange histBeginsWrong)

/-- 'ephemerislaw25.HistTells': WHATEVER THE INPUT: true; the input reads as it did. -/
def histTellsSpec : ChangeSpec := { name := "histTells", fn := fun _ => fun
  | [d1, d2] => { results := [.lit (.bool true)], args := [d1, d2] }
  | _ => none }
def histTellsRow : OpenClaim := { program := "ytbebhmdjnneimaa", sum := "cdcde04922bae6c87deb9d1f30ec85399f2336e7d9e5612ed88ac308c16f8163", func := "ephemeris/ephemerislaw25.HistTells", spec := "histTells", inPlace := ["slices.overlaps[ephemeris/api.Series]"], unfollowed := true, recurses := true, plainKeys := false, apart := false }
def HistTellsSaid : Prop := histTellsRow.holds Try.pinned (OpenSpec.ofChange histTellsSpec)

/-- ITS FALSE NEIGHBOUR: 'it returns false'. Refute it at one input. -/
def histTellsWrong : ChangeSpec := { name := "histTells", fn := fun _ => fun
  | [d1, d2] => { results := [.lit (.bool false)], args := [d1, d2] }
  | _ => none }
def HistTellsWrongFalsely : Prop := histTellsRow.holds Try.pinned (OpenSpec.ofChange histTellsWrong)

/-- 'ephemerislaw25.HistOne': WHATEVER THE INPUT: true; the input reads as it did. -/
def histOneSpec : ChangeSpec := { name := "histOne", fn := fun _ => fun
  | [d1, d2] => { results := [.lit (.bool true)], args := [d1, d2] }
  | _ => none }
def histOneRow : OpenClaim := { program := "ytbebhmdjnneimaa", sum := "cdcde04922bae6c87deb9d1f30ec85399f2336e7d9e5612ed88ac308c16f8163", func := "ephemeris/ephemerislaw25.HistOne", spec := "histOne", inPlace := ["slices.overlaps[ephemeris/api.Series]"], unfollowed := true, recurses := true, plainKeys := false, apart := false }
def HistOneSaid : Prop := histOneRow.holds Try.pinned (OpenSpec.ofChange histOneSpec)

/-- ITS FALSE NEIGHBOUR: 'it returns false'. Refute it at one input. -/
def histOneWrong : ChangeSpec := { name := "histOne", fn := fun _ => fun
  | [d1, d2] => { results := [.lit (.bool false)], args := [d1, d2] }
  | _ => none }
def HistOneWrongFalsely : Prop := histOneRow.holds Try.pinned (OpenSpec.ofChange histOneWrong)

/-- 'ephemerislaw15.ClokPinned': WHATEVER THE INPUT: true; the input reads as it did. -/
def clokPinnedSpec : ChangeSpec := { name := "clokPinned", fn := fun _ => fun
  | [d1, d2, d3] => { results := [.lit (.bool true)], args := [d1, d2, d3] }
  | _ => none }
def clokPinnedRow : OpenClaim := { program := "ytbebhmdjnneimaa", sum := "cdcde04922bae6c87deb9d1f30ec85399f2336e7d9e5612ed88ac308c16f8163", func := "ephemeris/ephemerislaw15.ClokPinned", spec := "clokPinned", inPlace := ["slices.overlaps[ephemeris/api.Page]"], unfollowed := true, recurses := true, plainKeys := false, apart := false }
def ClokPinnedSaid : Prop := clokPinnedRow.holds Try.pinned (OpenSpec.ofChange clokPinnedSpec)

/-- ITS FALSE NEIGHBOUR: 'it returns false'. Refute it at one input. -/
def clokPinnedWrong : ChangeSpec := { name := "clokPinned", fn := fun _ => fun
  | [d1, d2, d3] => { results := [.lit (.bool false)], args := [d1, d2, d3] }
  | _ => none }
def ClokPinnedWrongFalsely : Prop := clokPinnedRow.holds Try.pinned (OpenSpec.ofChange clokPinnedWrong)

/-- 'ephemerislaw15.ClokBounds': WHATEVER THE INPUT: true; the input reads as it did. -/
def clokBoundsSpec : ChangeSpec := { name := "clokBounds", fn := fun _ => fun
  | [d1, d2] => { results := [.lit (.bool true)], args := [d1, d2] }
  | _ => none }
def clokBoundsRow : OpenClaim := { program := "ytbebhmdjnneimaa", sum := "cdcde04922bae6c87deb9d1f30ec85399f2336e7d9e5612ed88ac308c16f8163", func := "ephemeris/ephemerislaw15.ClokBounds", spec := "clokBounds", inPlace := ["slices.overlaps[ephemeris/api.Page]"], unfollowed := true, recurses := true, plainKeys := false, apart := false }
def ClokBoundsSaid : Prop := clokBoundsRow.holds Try.pinned (OpenSpec.ofChange clokBoundsSpec)

/-- ITS FALSE NEIGHBOUR: 'it returns false'. Refute it at one input. -/
def clokBoundsWrong : ChangeSpec := { name := "clokBounds", fn := fun _ => fun
  | [d1, d2] => { results := [.lit (.bool false)], args := [d1, d2] }
  | _ => none }
def ClokBoundsWrongFalsely : Prop := clokBoundsRow.holds Try.pinned (OpenSpec.ofChange clokBoundsWrong)

/-- 'ephemerislaw15.ClokOwn': WHATEVER THE INPUT: true; the input reads as it did. -/
def clokOwnSpec : ChangeSpec := { name := "clokOwn", fn := fun _ => fun
  | [d1, d2, d3] => { results := [.lit (.bool true)], args := [d1, d2, d3] }
  | _ => none }
def clokOwnRow : OpenClaim := { program := "ytbebhmdjnneimaa", sum := "cdcde04922bae6c87deb9d1f30ec85399f2336e7d9e5612ed88ac308c16f8163", func := "ephemeris/ephemerislaw15.ClokOwn", spec := "clokOwn", inPlace := ["slices.overlaps[ephemeris/api.Page]"], unfollowed := true, recurses := true, plainKeys := false, apart := false }
def ClokOwnSaid : Prop := clokOwnRow.holds Try.pinned (OpenSpec.ofChange clokOwnSpec)

/-- ITS FALSE NEIGHBOUR: 'it returns false'. Refute it at one input. -/
def clokOwnWrong : ChangeSpec := { name := "clokOwn", fn := fun _ => fun
  | [d1, d2, d3] => { results := [.lit (.bool false)], args := [d1, d2, d3] }
  | _ => none }
def ClokOwnWrongFalsely : Prop := clokOwnRow.holds Try.pinned (OpenSpec.ofChange clokOwnWrong)

/-- 'ephemerislaw15.ClokPlays': WHATEVER THE INPUT: true; the input reads as it did. -/
def clokPlaysSpec : ChangeSpec := { name := "clokPlays", fn := fun _ => fun
  | [d1, d2] => { results := [.lit (.bool true)], args := [d1, d2] }
  | _ => none }
def clokPlaysRow : OpenClaim := { program := "ytbebhmdjnneimaa", sum := "cdcde04922bae6c87deb9d1f30ec85399f2336e7d9e5612ed88ac308c16f8163", func := "ephemeris/ephemerislaw15.ClokPlays", spec := "clokPlays", inPlace := ["slices.overlaps[ephemeris/api.Page]"], unfollowed := true, recurses := true, plainKeys := false, apart := false }
def ClokPlaysSaid : Prop := clokPlaysRow.holds Try.pinned (OpenSpec.ofChange clokPlaysSpec)

/-- ITS FALSE NEIGHBOUR: 'it returns false'. Refute it at one input. -/
def clokPlaysWrong : ChangeSpec := { name := "clokPlays", fn := fun _ => fun
  | [d1, d2] => { results := [.lit (.bool false)], args := [d1, d2] }
  | _ => none }
def ClokPlaysWrongFalsely : Prop := clokPlaysRow.holds Try.pinned (OpenSpec.ofChange clokPlaysWrong)

/- THE SECOND FORM. 'bulk': how many values and letters a reading holds, each counted each time it is reached (what is shared counts as often as it is met; a slice's spare places count too). A statement '..UptoSaid' is the law's where the arguments, and the package variables that the reading takes, are together of bulk at most 1048576: NARROWER than '..Said'. Prove '..Said' where nothing that the law and all that it calls make is longer than what came in: it says more and counts as full. Else prove '..UptoSaid'. A law counts once. -/
mutual
def uptoBulk {H : Type} : DataW H → Nat
  | .lit (.string bytes) => bytes.length + 1
  | .lit _ => 1
  | .nil => 1
  | .ptr d => uptoBulk d + 1
  | .slice elems spare => uptoBulkAll elems + uptoBulkAll spare + 1
  | .agg parts => uptoBulkAll parts + 1
  | .iface _ d => uptoBulk d + 1
  | .map entries => uptoBulkEntries entries + 1
  | .held _ => 1
def uptoBulkAll {H : Type} : List (DataW H) → Nat
  | [] => 0
  | d :: r => uptoBulk d + uptoBulkAll r
def uptoBulkEntries {H : Type} : List (Lit × DataW H) → Nat
  | [] => 0
  | x :: r => uptoBulkEntry x + uptoBulkEntries r
def uptoBulkEntry {H : Type} : Lit × DataW H → Nat
  | (.string bytes, d) => bytes.length + uptoBulk d + 1
  | (_, d) => uptoBulk d + 1
 end
def uptoSmall : (H : Type) → List (DataW H) → Bool := fun _ ds => decide (uptoBulkAll ds ≤ 1048576)
def OpenSpec.upto (s : _root_.Go.ChangeSpec) : _root_.Go.OpenSpec := { _root_.Go.OpenSpec.ofChange s with cond := some uptoSmall }

/-- 'ephemerislaw14.ModlForms', WHERE WHAT IT READS IS OF BULK AT MOST 1048576: true; the input reads as it did. -/
def modlFormsUptoRow : OpenClaim := { program := "ytbebhmdjnneimaa", sum := "cdcde04922bae6c87deb9d1f30ec85399f2336e7d9e5612ed88ac308c16f8163", func := "ephemeris/ephemerislaw14.ModlForms", spec := "modlForms", inPlace := ["slices.overlaps[ephemeris/api.Series]"], unfollowed := true, recurses := true, plainKeys := false, apart := false, narrowed := true }
def ModlFormsUptoSaid : Prop := modlFormsUptoRow.holds Try.pinned (OpenSpec.upto modlFormsSpec)

/-- 'ephemerislaw14.ModlEdges', WHERE WHAT IT READS IS OF BULK AT MOST 1048576: true; the input reads as it did. -/
def modlEdgesUptoRow : OpenClaim := { program := "ytbebhmdjnneimaa", sum := "cdcde04922bae6c87deb9d1f30ec85399f2336e7d9e5612ed88ac308c16f8163", func := "ephemeris/ephemerislaw14.ModlEdges", spec := "modlEdges", inPlace := ["slices.overlaps[ephemeris/api.Series]"], unfollowed := true, recurses := true, plainKeys := false, apart := false, narrowed := true }
def ModlEdgesUptoSaid : Prop := modlEdgesUptoRow.holds Try.pinned (OpenSpec.upto modlEdgesSpec)

/-- 'ephemerislaw14.ModlOwn', WHERE WHAT IT READS IS OF BULK AT MOST 1048576: true; the input reads as it did. -/
def modlOwnUptoRow : OpenClaim := { program := "ytbebhmdjnneimaa", sum := "cdcde04922bae6c87deb9d1f30ec85399f2336e7d9e5612ed88ac308c16f8163", func := "ephemeris/ephemerislaw14.ModlOwn", spec := "modlOwn", inPlace := ["slices.overlaps[ephemeris/api.Series]"], unfollowed := true, recurses := true, plainKeys := false, apart := false, narrowed := true }
def ModlOwnUptoSaid : Prop := modlOwnUptoRow.holds Try.pinned (OpenSpec.upto modlOwnSpec)

/-- 'ephemerislaw14.ModlPlays', WHERE WHAT IT READS IS OF BULK AT MOST 1048576: true; the input reads as it did. -/
def modlPlaysUptoRow : OpenClaim := { program := "ytbebhmdjnneimaa", sum := "cdcde04922bae6c87deb9d1f30ec85399f2336e7d9e5612ed88ac308c16f8163", func := "ephemeris/ephemerislaw14.ModlPlays", spec := "modlPlays", inPlace := ["slices.overlaps[ephemeris/api.Series]"], unfollowed := true, recurses := true, plainKeys := false, apart := false, narrowed := true }
def ModlPlaysUptoSaid : Prop := modlPlaysUptoRow.holds Try.pinned (OpenSpec.upto modlPlaysSpec)

/-- 'ephemerislaw14.ModlIters', WHERE WHAT IT READS IS OF BULK AT MOST 1048576: true; the input reads as it did. -/
def modlItersUptoRow : OpenClaim := { program := "ytbebhmdjnneimaa", sum := "cdcde04922bae6c87deb9d1f30ec85399f2336e7d9e5612ed88ac308c16f8163", func := "ephemeris/ephemerislaw14.ModlIters", spec := "modlIters", inPlace := ["slices.overlaps[ephemeris/api.Series]"], unfollowed := true, recurses := true, plainKeys := false, apart := false, narrowed := true }
def ModlItersUptoSaid : Prop := modlItersUptoRow.holds Try.pinned (OpenSpec.upto modlItersSpec)

/-- 'ephemerislaw25.HistBegins', WHERE WHAT IT READS IS OF BULK AT MOST 1048576: true; the input reads as it did. -/
def histBeginsUptoRow : OpenClaim := { program := "ytbebhmdjnneimaa", sum := "cdcde04922bae6c87deb9d1f30ec85399f2336e7d9e5612ed88ac308c16f8163", func := "ephemeris/ephemerislaw25.HistBegins", spec := "histBegins", inPlace := ["slices.overlaps[ephemeris/api.Series]"], unfollowed := true, recurses := true, plainKeys := false, apart := false, narrowed := true }
def HistBeginsUptoSaid : Prop := histBeginsUptoRow.holds Try.pinned (OpenSpec.upto histBeginsSpec)

/-- 'ephemerislaw25.HistTells', WHERE WHAT IT READS IS OF BULK AT MOST 1048576: true; the input reads as it did. -/
def histTellsUptoRow : OpenClaim := { program := "ytbebhmdjnneimaa", sum := "cdcde04922bae6c87deb9d1f30ec85399f2336e7d9e5612ed88ac308c16f8163", func := "ephemeris/ephemerislaw25.HistTells", spec := "histTells", inPlace := ["slices.overlaps[ephemeris/api.Series]"], unfollowed := true, recurses := true, plainKeys := false, apart := false, narrowed := true }
def HistTellsUptoSaid : Prop := histTellsUptoRow.holds Try.pinned (OpenSpec.upto histTellsSpec)

/-- 'ephemerislaw25.HistOne', WHERE WHAT IT READS IS OF BULK AT MOST 1048576: true; the input reads as it did. -/
def histOneUptoRow : OpenClaim := { program := "ytbebhmdjnneimaa", sum := "cdcde04922bae6c87deb9d1f30ec85399f2336e7d9e5612ed88ac308c16f8163", func := "ephemeris/ephemerislaw25.HistOne", spec := "histOne", inPlace := ["slices.overlaps[ephemeris/api.Series]"], unfollowed := true, recurses := true, plainKeys := false, apart := false, narrowed := true }
def HistOneUptoSaid : Prop := histOneUptoRow.holds Try.pinned (OpenSpec.upto histOneSpec)

/-- 'ephemerislaw15.ClokPinned', WHERE WHAT IT READS IS OF BULK AT MOST 1048576: true; the input reads as it did. -/
def clokPinnedUptoRow : OpenClaim := { program := "ytbebhmdjnneimaa", sum := "cdcde04922bae6c87deb9d1f30ec85399f2336e7d9e5612ed88ac308c16f8163", func := "ephemeris/ephemerislaw15.ClokPinned", spec := "clokPinned", inPlace := ["slices.overlaps[ephemeris/api.Page]"], unfollowed := true, recurses := true, plainKeys := false, apart := false, narrowed := true }
def ClokPinnedUptoSaid : Prop := clokPinnedUptoRow.holds Try.pinned (OpenSpec.upto clokPinnedSpec)

/-- 'ephemerislaw15.ClokBounds', WHERE WHAT IT READS IS OF BULK AT MOST 1048576: true; the input reads as it did. -/
def clokBoundsUptoRow : OpenClaim := { program := "ytbebhmdjnneimaa", sum := "cdcde04922bae6c87deb9d1f30ec85399f2336e7d9e5612ed88ac308c16f8163", func := "ephemeris/ephemerislaw15.ClokBounds", spec := "clokBounds", inPlace := ["slices.overlaps[ephemeris/api.Page]"], unfollowed := true, recurses := true, plainKeys := false, apart := false, narrowed := true }
def ClokBoundsUptoSaid : Prop := clokBoundsUptoRow.holds Try.pinned (OpenSpec.upto clokBoundsSpec)

/-- 'ephemerislaw15.ClokOwn', WHERE WHAT IT READS IS OF BULK AT MOST 1048576: true; the input reads as it did. -/
def clokOwnUptoRow : OpenClaim := { program := "ytbebhmdjnneimaa", sum := "cdcde04922bae6c87deb9d1f30ec85399f2336e7d9e5612ed88ac308c16f8163", func := "ephemeris/ephemerislaw15.ClokOwn", spec := "clokOwn", inPlace := ["slices.overlaps[ephemeris/api.Page]"], unfollowed := true, recurses := true, plainKeys := false, apart := false, narrowed := true }
def ClokOwnUptoSaid : Prop := clokOwnUptoRow.holds Try.pinned (OpenSpec.upto clokOwnSpec)

/-- 'ephemerislaw15.ClokPlays', WHERE WHAT IT READS IS OF BULK AT MOST 1048576: true; the input reads as it did. -/
def clokPlaysUptoRow : OpenClaim := { program := "ytbebhmdjnneimaa", sum := "cdcde04922bae6c87deb9d1f30ec85399f2336e7d9e5612ed88ac308c16f8163", func := "ephemeris/ephemerislaw15.ClokPlays", spec := "clokPlays", inPlace := ["slices.overlaps[ephemeris/api.Page]"], unfollowed := true, recurses := true, plainKeys := false, apart := false, narrowed := true }
def ClokPlaysUptoSaid : Prop := clokPlaysUptoRow.holds Try.pinned (OpenSpec.upto clokPlaysSpec)

end Rows
end Go.Proofs.Ytbebhmdjnneimaa
