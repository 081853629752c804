/-
  No cell of these rows narrows 'for every input' (looked for: loops, veiled, ifaces, maps, wideKeys, modest, calm, conditions, laid).
  DERIVED. THE GIVEN ROWS OF THIS SEAT. 4 by the template 'for every input the law returns true; each argument reads behind the call as it read before'; 0 by the template 'total and deterministic' (their statements: YtdpnpipninggeaaTotals.lean).
  GIVEN WITH THE SEED: the statements are not yours to turn. If you find one false, say at which input.
  Laid BY PROGRAM, IN A SANDBOX (cutbox-rows.mjs): the forced cells as the released guide's own fill.sh prints them over the translation b435a31572ba2b60… (all of the seat's roots in one cut). By AI agents, Wed Nov 11 2026. No macro, syntax, notation, axiom, sorry.
-/
import Derived.Test.YtdpnpipninggeaaChecked
import GoSem.Claim
import GoSem.ClaimJoined
import GoSem.ClaimMapViews
import Derived.JoinedTies
import Derived.KernelRfl
namespace Go.Proofs.Ytdpnpipninggeaa
/- THE CELL 'sum', in the pinned program and in every row, IS THE sha256 OF THE DUMP (.gsa) THAT YtdpnpipninggeaaProg.lean LOADS. Nothing in Lean hashes anything: it is a label: what it is worth is what the hold of that sum in a sandbox is worth. -/
noncomputable def Try.pinned : Pinned := { name := "ytdpnpipninggeaa", sum := "b435a31572ba2b60a180e4716ed4218aa23b8e79c6ce8573aff2e85fa69a8a51", checked := Try.checked }
namespace Rows
def none {H : Type} : Left H := { results := [], args := [] }

/-- 'ephemerislaw16.CachOwn': WHATEVER THE INPUT: true; the input reads as it did. -/
def cachOwnSpec : ChangeSpec := { name := "cachOwn", fn := fun _ => fun
  | [d] => { results := [.lit (.bool true)], args := [d] }
  | _ => none }
def cachOwnRow : OpenClaim := { program := "ytdpnpipninggeaa", sum := "b435a31572ba2b60a180e4716ed4218aa23b8e79c6ce8573aff2e85fa69a8a51", func := "ephemeris/ephemerislaw16.CachOwn", spec := "cachOwn", inPlace := ["slices.overlaps[ephemeris/api.Page]"], unfollowed := true, recurses := true, plainKeys := false, apart := false }
def CachOwnSaid : Prop := cachOwnRow.holds Try.pinned (OpenSpec.ofChange cachOwnSpec)

/-- ITS FALSE NEIGHBOUR: 'it returns false'. Refute it at one input. -/
def cachOwnWrong : ChangeSpec := { name := "cachOwn", fn := fun _ => fun
  | [d] => { results := [.lit (.bool false)], args := [d] }
  | _ => none }
def CachOwnWrongFalsely : Prop := cachOwnRow.holds Try.pinned (OpenSpec.ofChange cachOwnWrong)

/-- 'ephemerislaw16.CachFull': WHATEVER THE INPUT: true; the input reads as it did. -/
def cachFullSpec : ChangeSpec := { name := "cachFull", fn := fun _ => fun
  | [d] => { results := [.lit (.bool true)], args := [d] }
  | _ => none }
def cachFullRow : OpenClaim := { program := "ytdpnpipninggeaa", sum := "b435a31572ba2b60a180e4716ed4218aa23b8e79c6ce8573aff2e85fa69a8a51", func := "ephemeris/ephemerislaw16.CachFull", spec := "cachFull", inPlace := ["slices.overlaps[ephemeris/api.Page]"], unfollowed := true, recurses := true, plainKeys := false, apart := false }
def CachFullSaid : Prop := cachFullRow.holds Try.pinned (OpenSpec.ofChange cachFullSpec)

/-- ITS FALSE NEIGHBOUR: 'it returns false'. Refute it at one input. -/
def cachFullWrong : ChangeSpec := { name := "cachFull", fn := fun _ => fun
  | [d] => { results := [.lit (.bool false)], args := [d] }
  | _ => none }
def CachFullWrongFalsely : Prop := cachFullRow.holds Try.pinned (OpenSpec.ofChange cachFullWrong)

/-- 'ephemerislaw16.CachDrops': WHATEVER THE INPUT: true; the input reads as it did. -/
def cachDropsSpec : ChangeSpec := { name := "cachDrops", fn := fun _ => fun
  | [d1, d2] => { results := [.lit (.bool true)], args := [d1, d2] }
  | _ => none }
def cachDropsRow : OpenClaim := { program := "ytdpnpipninggeaa", sum := "b435a31572ba2b60a180e4716ed4218aa23b8e79c6ce8573aff2e85fa69a8a51", func := "ephemeris/ephemerislaw16.CachDrops", spec := "cachDrops", inPlace := ["slices.overlaps[ephemeris/api.Page]"], unfollowed := true, recurses := true, plainKeys := false, apart := false }
def CachDropsSaid : Prop := cachDropsRow.holds Try.pinned (OpenSpec.ofChange cachDropsSpec)

/-- ITS FALSE NEIGHBOUR: 'it returns false'. Refute it at one input. -/
def cachDropsWrong : ChangeSpec := { name := "cachDrops", fn := fun _ => fun
  | [d1, d2] => { results := [.lit (.bool false)], args := [d1, d2] }
  | _ => none }
def CachDropsWrongFalsely : Prop := cachDropsRow.holds Try.pinned (OpenSpec.ofChange cachDropsWrong)

/-- 'ephemerislaw16.CachKeeps': WHATEVER THE INPUT: true; the input reads as it did. -/
def cachKeepsSpec : ChangeSpec := { name := "cachKeeps", fn := fun _ => fun
  | [d1, d2, d3] => { results := [.lit (.bool true)], args := [d1, d2, d3] }
  | _ => none }
def cachKeepsRow : OpenClaim := { program := "ytdpnpipninggeaa", sum := "b435a31572ba2b60a180e4716ed4218aa23b8e79c6ce8573aff2e85fa69a8a51", func := "ephemeris/ephemerislaw16.CachKeeps", spec := "cachKeeps", inPlace := ["slices.overlaps[ephemeris/api.Page]"], unfollowed := true, recurses := true, plainKeys := false, apart := false }
def CachKeepsSaid : Prop := cachKeepsRow.holds Try.pinned (OpenSpec.ofChange cachKeepsSpec)

/-- ITS FALSE NEIGHBOUR: 'it returns false'. Refute it at one input. -/
def cachKeepsWrong : ChangeSpec := { name := "cachKeeps", fn := fun _ => fun
  | [d1, d2, d3] => { results := [.lit (.bool false)], args := [d1, d2, d3] }
  | _ => none }
def CachKeepsWrongFalsely : Prop := cachKeepsRow.holds Try.pinned (OpenSpec.ofChange cachKeepsWrong)

/- THE SECOND FORM. 'bulk': how many values and letters a reading holds, each counted each time it is reached (what is shared counts as often as it is met; a slice's spare places count too). A statement '..UptoSaid' is the law's where the arguments, and the package variables that the reading takes, are together of bulk at most 1048576: NARROWER than '..Said'. Prove '..Said' where nothing that the law and all that it calls make is longer than what came in: it says more and counts as full. Else prove '..UptoSaid'. A law counts once. -/
mutual
def uptoBulk {H : Type} : DataW H → Nat
  | .lit (.string bytes) => bytes.length + 1
  | .lit _ => 1
  | .nil => 1
  | .ptr d => uptoBulk d + 1
  | .slice elems spare => uptoBulkAll elems + uptoBulkAll spare + 1
  | .agg parts => uptoBulkAll parts + 1
  | .iface _ d => uptoBulk d + 1
  | .map entries => uptoBulkEntries entries + 1
  | .held _ => 1
def uptoBulkAll {H : Type} : List (DataW H) → Nat
  | [] => 0
  | d :: r => uptoBulk d + uptoBulkAll r
def uptoBulkEntries {H : Type} : List (Lit × DataW H) → Nat
  | [] => 0
  | x :: r => uptoBulkEntry x + uptoBulkEntries r
def uptoBulkEntry {H : Type} : Lit × DataW H → Nat
  | (.string bytes, d) => bytes.length + uptoBulk d + 1
  | (_, d) => uptoBulk d + 1
 end
def uptoSmall : (H : Type) → List (DataW H) → Bool := fun _ ds => decide (uptoBulkAll ds ≤ 1048576)
def OpenSpec.upto (s : _root_.Go.ChangeSpec) : _root_.Go.OpenSpec := { _root_.Go.OpenSpec.ofChange s with cond := some uptoSmall }

/-- 'ephemerislaw16.CachOwn', WHERE WHAT IT READS IS OF BULK AT MOST 1048576: true; the input reads as it did. -/
def cachOwnUptoRow : OpenClaim := { program := "ytdpnpipninggeaa", sum := "b435a31572ba2b60a180e4716ed4218aa23b8e79c6ce8573aff2e85fa69a8a51", func := "ephemeris/ephemerislaw16.CachOwn", spec := "cachOwn", inPlace := ["slices.overlaps[ephemeris/api.Page]"], unfollowed := true, recurses := true, plainKeys := false, apart := false, narrowed := true }
def CachOwnUptoSaid : Prop := cachOwnUptoRow.holds Try.pinned (OpenSpec.upto cachOwnSpec)

/-- 'ephemerislaw16.CachFull', WHERE WHAT IT READS IS OF BULK AT MOST 1048576: true; the input reads as it did. -/
def cachFullUptoRow : OpenClaim := { program := "ytdpnpipninggeaa", sum := "b435a31572ba2b60a180e4716ed4218aa23b8e79c6ce8573aff2e85fa69a8a51", func := "ephemeris/ephemerislaw16.CachFull", spec := "cachFull", inPlace := ["slices.overlaps[ephemeris/api.Page]"], unfollowed := true, recurses := true, plainKeys := false, apart := false, narrowed := true }
def CachFullUptoSaid : Prop := cachFullUptoRow.holds Try.pinned (OpenSpec.upto cachFullSpec)

/-- 'ephemerislaw16.CachDrops', WHERE WHAT IT READS IS OF BULK AT MOST 1048576: true; the input reads as it did. -/
def cachDropsUptoRow : OpenClaim := { program := "ytdpnpipninggeaa", sum := "b435a31572ba2b60a180e4716ed4218aa23b8e79c6ce8573aff2e85fa69a8a51", func := "ephemeris/ephemerislaw16.CachDrops", spec := "cachDrops", inPlace := ["slices.overlaps[ephemeris/api.Page]"], unfollowed := true, recurses := true, plainKeys := false, apart := false, narrowed := true }
def CachDropsUptoSaid : Prop := cachDropsUptoRow.holds Try.pinned (OpenSpec.upto cachDropsSpec)

/-- 'ephemerislaw16.CachKeeps', WHERE WHAT IT READS IS OF BULK AT MOST 1048576: true; the input reads as it did. -/
def cachKeepsUptoRow : OpenClaim := { program := "ytdpnpipninggeaa", sum := "b435a31572ba2b60a180e4716ed4218aa23b8e79c6ce8573aff2e85fa69a8a51", func := "ephemeris/ephemerislaw16.CachKeeps", spec := "cachKeeps", inPlace := ["slices.overlaps[ephemeris/api.Page]"], unfollowed := true, recurses := true, plainKeys := false, apart := false, narrowed := true }
def CachKeepsUptoSaid : Prop := cachKeepsUptoRow.holds Try.pinned (OpenSpec.upto cachKeepsSpec)

end Rows
end Go.Proofs.Ytdpnpipninggeaa
