/-
  No cell of these rows narrows 'for every input' (looked for: loops, veiled, ifaces, maps, wideKeys, modest, calm, conditions, laid).
  DERIVED. THE GIVEN ROWS OF THIS SEAT. 12 by the template 'for every input the law returns true; each argument reads behind the call as it read before'; 0 by the template 'total and deterministic' (their statements: YtimioninoafkhaaTotals.lean).
  GIVEN WITH THE SEED: the statements are not yours to turn. If you find one false, say at which input.
  Laid BY PROGRAM, IN A SANDBOX (cutbox-rows.mjs): the forced cells as the released guide's own fill.sh prints them over the translation cb02b52f26bc677e… (all of the seat's roots in one cut). By AI agents, Wed Nov 11 2026. No macro, syntax, notation, axiom, sorry.
-/
import Derived.Test.YtimioninoafkhaaChecked
import GoSem.Claim
import GoSem.ClaimJoined
import GoSem.ClaimMapViews
import Derived.JoinedTies
import Derived.KernelRfl
namespace Go.Proofs.Ytimioninoafkhaa
/- THE CELL 'sum', in the pinned program and in every row, IS THE sha256 OF THE DUMP (.gsa) THAT YtimioninoafkhaaProg.lean LOADS. Nothing in Lean hashes anything: it is a label: what it is worth is what the hold of that sum in a sandbox is worth. -/
noncomputable def Try.pinned : Pinned := { name := "ytimioninoafkhaa", sum := "cb02b52f26bc677ea3e3102a6dc76c8c4c326e27c11e4b226ecf1dd666d9e6a1", checked := Try.checked }
namespace Rows
def none {H : Type} : Left H := { results := [], args := [] }

/-- 'ephemerislaw3.CrccForms': WHATEVER THE INPUT: true; the input reads as it did. -/
def crccFormsSpec : ChangeSpec := { name := "crccForms", fn := fun _ => fun
  | [d] => { results := [.lit (.bool true)], args := [d] }
  | _ => none }
def crccFormsRow : OpenClaim := { program := "ytimioninoafkhaa", sum := "cb02b52f26bc677ea3e3102a6dc76c8c4c326e27c11e4b226ecf1dd666d9e6a1", func := "ephemeris/ephemerislaw3.CrccForms", spec := "crccForms", apart := false }
def CrccFormsSaid : Prop := crccFormsRow.holds Try.pinned (OpenSpec.ofChange crccFormsSpec)

/-- ITS FALSE NEIGHBOUR: 'it returns false'. Refute it at one input. -/
def crccFormsWrong : ChangeSpec := { name := "crccForms", fn := fun _ => fun
  | [d] => { results := [.lit (.bool false)], args := [d] }
  | _ => none }
def CrccFormsWrongFalsely : Prop := crccFormsRow.holds Try.pinned (OpenSpec.ofChange crccFormsWrong)

/-- 'ephemerislaw3.CrccLinear': WHATEVER THE INPUT: true; the input reads as it did. -/
def crccLinearSpec : ChangeSpec := { name := "crccLinear", fn := fun _ => fun
  | [d1, d2, d3] => { results := [.lit (.bool true)], args := [d1, d2, d3] }
  | _ => none }
def crccLinearRow : OpenClaim := { program := "ytimioninoafkhaa", sum := "cb02b52f26bc677ea3e3102a6dc76c8c4c326e27c11e4b226ecf1dd666d9e6a1", func := "ephemeris/ephemerislaw3.CrccLinear", spec := "crccLinear", apart := false }
def CrccLinearSaid : Prop := crccLinearRow.holds Try.pinned (OpenSpec.ofChange crccLinearSpec)

/-- ITS FALSE NEIGHBOUR: 'it returns false'. Refute it at one input. -/
def crccLinearWrong : ChangeSpec := { name := "crccLinear", fn := fun _ => fun
  | [d1, d2, d3] => { results := [.lit (.bool false)], args := [d1, d2, d3] }
  | _ => none }
def CrccLinearWrongFalsely : Prop := crccLinearRow.holds Try.pinned (OpenSpec.ofChange crccLinearWrong)

/-- 'ephemerislaw3.CrccTells': WHATEVER THE INPUT: true; the input reads as it did. -/
def crccTellsSpec : ChangeSpec := { name := "crccTells", fn := fun _ => fun
  | [d1, d2, d3] => { results := [.lit (.bool true)], args := [d1, d2, d3] }
  | _ => none }
def crccTellsRow : OpenClaim := { program := "ytimioninoafkhaa", sum := "cb02b52f26bc677ea3e3102a6dc76c8c4c326e27c11e4b226ecf1dd666d9e6a1", func := "ephemeris/ephemerislaw3.CrccTells", spec := "crccTells", apart := false }
def CrccTellsSaid : Prop := crccTellsRow.holds Try.pinned (OpenSpec.ofChange crccTellsSpec)

/-- ITS FALSE NEIGHBOUR: 'it returns false'. Refute it at one input. -/
def crccTellsWrong : ChangeSpec := { name := "crccTells", fn := fun _ => fun
  | [d1, d2, d3] => { results := [.lit (.bool false)], args := [d1, d2, d3] }
  | _ => none }
def CrccTellsWrongFalsely : Prop := crccTellsRow.holds Try.pinned (OpenSpec.ofChange crccTellsWrong)

/-- 'ephemerislaw3.CrccTurned': WHATEVER THE INPUT: true; the input reads as it did. -/
def crccTurnedSpec : ChangeSpec := { name := "crccTurned", fn := fun _ => fun
  | [d1, d2, d3] => { results := [.lit (.bool true)], args := [d1, d2, d3] }
  | _ => none }
def crccTurnedRow : OpenClaim := { program := "ytimioninoafkhaa", sum := "cb02b52f26bc677ea3e3102a6dc76c8c4c326e27c11e4b226ecf1dd666d9e6a1", func := "ephemeris/ephemerislaw3.CrccTurned", spec := "crccTurned", apart := false }
def CrccTurnedSaid : Prop := crccTurnedRow.holds Try.pinned (OpenSpec.ofChange crccTurnedSpec)

/-- ITS FALSE NEIGHBOUR: 'it returns false'. Refute it at one input. -/
def crccTurnedWrong : ChangeSpec := { name := "crccTurned", fn := fun _ => fun
  | [d1, d2, d3] => { results := [.lit (.bool false)], args := [d1, d2, d3] }
  | _ => none }
def CrccTurnedWrongFalsely : Prop := crccTurnedRow.holds Try.pinned (OpenSpec.ofChange crccTurnedWrong)

/-- 'ephemerislaw2.VintForms': WHATEVER THE INPUT: true; the input reads as it did. -/
def vintFormsSpec : ChangeSpec := { name := "vintForms", fn := fun _ => fun
  | [d] => { results := [.lit (.bool true)], args := [d] }
  | _ => none }
def vintFormsRow : OpenClaim := { program := "ytimioninoafkhaa", sum := "cb02b52f26bc677ea3e3102a6dc76c8c4c326e27c11e4b226ecf1dd666d9e6a1", func := "ephemeris/ephemerislaw2.VintForms", spec := "vintForms", apart := false }
def VintFormsSaid : Prop := vintFormsRow.holds Try.pinned (OpenSpec.ofChange vintFormsSpec)

/-- ITS FALSE NEIGHBOUR: 'it returns false'. Refute it at one input. -/
def vintFormsWrong : ChangeSpec := { name := "vintForms", fn := fun _ => fun
  | [d] => { results := [.lit (.bool false)], args := [d] }
  | _ => none }
def VintFormsWrongFalsely : Prop := vintFormsRow.holds Try.pinned (OpenSpec.ofChange vintFormsWrong)

/-- 'ephemerislaw2.VintZigs': WHATEVER THE INPUT: true; the input reads as it did. -/
def vintZigsSpec : ChangeSpec := { name := "vintZigs", fn := fun _ => fun
  | [d] => { results := [.lit (.bool true)], args := [d] }
  | _ => none }
def vintZigsRow : OpenClaim := { program := "ytimioninoafkhaa", sum := "cb02b52f26bc677ea3e3102a6dc76c8c4c326e27c11e4b226ecf1dd666d9e6a1", func := "ephemeris/ephemerislaw2.VintZigs", spec := "vintZigs", apart := false }
def VintZigsSaid : Prop := vintZigsRow.holds Try.pinned (OpenSpec.ofChange vintZigsSpec)

/-- ITS FALSE NEIGHBOUR: 'it returns false'. Refute it at one input. -/
def vintZigsWrong : ChangeSpec := { name := "vintZigs", fn := fun _ => fun
  | [d] => { results := [.lit (.bool false)], args := [d] }
  | _ => none }
def VintZigsWrongFalsely : Prop := vintZigsRow.holds Try.pinned (OpenSpec.ofChange vintZigsWrong)

/-- 'ephemerislaw2.VintTells': WHATEVER THE INPUT: true; the input reads as it did. -/
def vintTellsSpec : ChangeSpec := { name := "vintTells", fn := fun _ => fun
  | [d1, d2, d3, d4, d5] => { results := [.lit (.bool true)], args := [d1, d2, d3, d4, d5] }
  | _ => none }
def vintTellsRow : OpenClaim := { program := "ytimioninoafkhaa", sum := "cb02b52f26bc677ea3e3102a6dc76c8c4c326e27c11e4b226ecf1dd666d9e6a1", func := "ephemeris/ephemerislaw2.VintTells", spec := "vintTells", apart := false }
def VintTellsSaid : Prop := vintTellsRow.holds Try.pinned (OpenSpec.ofChange vintTellsSpec)

/-- ITS FALSE NEIGHBOUR: 'it returns false'. Refute it at one input. -/
def vintTellsWrong : ChangeSpec := { name := "vintTells", fn := fun _ => fun
  | [d1, d2, d3, d4, d5] => { results := [.lit (.bool false)], args := [d1, d2, d3, d4, d5] }
  | _ => none }
def VintTellsWrongFalsely : Prop := vintTellsRow.holds Try.pinned (OpenSpec.ofChange vintTellsWrong)

/-- 'ephemerislaw2.VintBack': WHATEVER THE INPUT: true; the input reads as it did. -/
def vintBackSpec : ChangeSpec := { name := "vintBack", fn := fun _ => fun
  | [d1, d2, d3, d4] => { results := [.lit (.bool true)], args := [d1, d2, d3, d4] }
  | _ => none }
def vintBackRow : OpenClaim := { program := "ytimioninoafkhaa", sum := "cb02b52f26bc677ea3e3102a6dc76c8c4c326e27c11e4b226ecf1dd666d9e6a1", func := "ephemeris/ephemerislaw2.VintBack", spec := "vintBack", apart := false }
def VintBackSaid : Prop := vintBackRow.holds Try.pinned (OpenSpec.ofChange vintBackSpec)

/-- ITS FALSE NEIGHBOUR: 'it returns false'. Refute it at one input. -/
def vintBackWrong : ChangeSpec := { name := "vintBack", fn := fun _ => fun
  | [d1, d2, d3, d4] => { results := [.lit (.bool false)], args := [d1, d2, d3, d4] }
  | _ => none }
def VintBackWrongFalsely : Prop := vintBackRow.holds Try.pinned (OpenSpec.ofChange vintBackWrong)

/-- 'ephemerislaw1.BitsForms': WHATEVER THE INPUT: true; the input reads as it did. -/
def bitsFormsSpec : ChangeSpec := { name := "bitsForms", fn := fun _ => fun
  | [d] => { results := [.lit (.bool true)], args := [d] }
  | _ => none }
def bitsFormsRow : OpenClaim := { program := "ytimioninoafkhaa", sum := "cb02b52f26bc677ea3e3102a6dc76c8c4c326e27c11e4b226ecf1dd666d9e6a1", func := "ephemeris/ephemerislaw1.BitsForms", spec := "bitsForms", apart := false }
def BitsFormsSaid : Prop := bitsFormsRow.holds Try.pinned (OpenSpec.ofChange bitsFormsSpec)

/-- ITS FALSE NEIGHBOUR: 'it returns false'. Refute it at one input. -/
def bitsFormsWrong : ChangeSpec := { name := "bitsForms", fn := fun _ => fun
  | [d] => { results := [.lit (.bool false)], args := [d] }
  | _ => none }
def BitsFormsWrongFalsely : Prop := bitsFormsRow.holds Try.pinned (OpenSpec.ofChange bitsFormsWrong)

/-- 'ephemerislaw1.BitsSplit': WHATEVER THE INPUT: true; the input reads as it did. -/
def bitsSplitSpec : ChangeSpec := { name := "bitsSplit", fn := fun _ => fun
  | [d1, d2, d3, d4, d5] => { results := [.lit (.bool true)], args := [d1, d2, d3, d4, d5] }
  | _ => none }
def bitsSplitRow : OpenClaim := { program := "ytimioninoafkhaa", sum := "cb02b52f26bc677ea3e3102a6dc76c8c4c326e27c11e4b226ecf1dd666d9e6a1", func := "ephemeris/ephemerislaw1.BitsSplit", spec := "bitsSplit", apart := false }
def BitsSplitSaid : Prop := bitsSplitRow.holds Try.pinned (OpenSpec.ofChange bitsSplitSpec)

/-- ITS FALSE NEIGHBOUR: 'it returns false'. Refute it at one input. -/
def bitsSplitWrong : ChangeSpec := { name := "bitsSplit", fn := fun _ => fun
  | [d1, d2, d3, d4, d5] => { results := [.lit (.bool false)], args := [d1, d2, d3, d4, d5] }
  | _ => none }
def BitsSplitWrongFalsely : Prop := bitsSplitRow.holds Try.pinned (OpenSpec.ofChange bitsSplitWrong)

/-- 'ephemerislaw1.BitsPlays': WHATEVER THE INPUT: true; the input reads as it did. -/
def bitsPlaysSpec : ChangeSpec := { name := "bitsPlays", fn := fun _ => fun
  | [d1, d2, d3, d4] => { results := [.lit (.bool true)], args := [d1, d2, d3, d4] }
  | _ => none }
def bitsPlaysRow : OpenClaim := { program := "ytimioninoafkhaa", sum := "cb02b52f26bc677ea3e3102a6dc76c8c4c326e27c11e4b226ecf1dd666d9e6a1", func := "ephemeris/ephemerislaw1.BitsPlays", spec := "bitsPlays", apart := false }
def BitsPlaysSaid : Prop := bitsPlaysRow.holds Try.pinned (OpenSpec.ofChange bitsPlaysSpec)

/-- ITS FALSE NEIGHBOUR: 'it returns false'. Refute it at one input. -/
def bitsPlaysWrong : ChangeSpec := { name := "bitsPlays", fn := fun _ => fun
  | [d1, d2, d3, d4] => { results := [.lit (.bool false)], args := [d1, d2, d3, d4] }
  | _ => none }
def BitsPlaysWrongFalsely : Prop := bitsPlaysRow.holds Try.pinned (OpenSpec.ofChange bitsPlaysWrong)

/-- 'ephemerislaw1.BitsBack': WHATEVER THE INPUT: true; the input reads as it did. -/
def bitsBackSpec : ChangeSpec := { name := "bitsBack", fn := fun _ => fun
  | [d1, d2] => { results := [.lit (.bool true)], args := [d1, d2] }
  | _ => none }
def bitsBackRow : OpenClaim := { program := "ytimioninoafkhaa", sum := "cb02b52f26bc677ea3e3102a6dc76c8c4c326e27c11e4b226ecf1dd666d9e6a1", func := "ephemeris/ephemerislaw1.BitsBack", spec := "bitsBack", apart := false }
def BitsBackSaid : Prop := bitsBackRow.holds Try.pinned (OpenSpec.ofChange bitsBackSpec)

/-- ITS FALSE NEIGHBOUR: 'it returns false'. Refute it at one input. -/
def bitsBackWrong : ChangeSpec := { name := "bitsBack", fn := fun _ => fun
  | [d1, d2] => { results := [.lit (.bool false)], args := [d1, d2] }
  | _ => none }
def BitsBackWrongFalsely : Prop := bitsBackRow.holds Try.pinned (OpenSpec.ofChange bitsBackWrong)

/- THE SECOND FORM. 'bulk': how many values and letters a reading holds, each counted each time it is reached (what is shared counts as often as it is met; a slice's spare places count too). A statement '..UptoSaid' is the law's where the arguments, and the package variables that the reading takes, are together of bulk at most 1048576: NARROWER than '..Said'. Prove '..Said' where nothing that the law and all that it calls make is longer than what came in: it says more and counts as full. Else prove '..UptoSaid'. A law counts once. -/
mutual
def uptoBulk {H : Type} : DataW H → Nat
  | .lit (.string bytes) => bytes.length + 1
  | .lit _ => 1
  | .nil => 1
  | .ptr d => uptoBulk d + 1
  | .slice elems spare => uptoBulkAll elems + uptoBulkAll spare + 1
  | .agg parts => uptoBulkAll parts + 1
  | .iface _ d => uptoBulk d + 1
  | .map entries => uptoBulkEntries entries + 1
  | .held _ => 1
def uptoBulkAll {H : Type} : List (DataW H) → Nat
  | [] => 0
  | d :: r => uptoBulk d + uptoBulkAll r
def uptoBulkEntries {H : Type} : List (Lit × DataW H) → Nat
  | [] => 0
  | x :: r => uptoBulkEntry x + uptoBulkEntries r
def uptoBulkEntry {H : Type} : Lit × DataW H → Nat
  | (.string bytes, d) => bytes.length + uptoBulk d + 1
  | (_, d) => uptoBulk d + 1
 end
def uptoSmall : (H : Type) → List (DataW H) → Bool := fun _ ds => decide (uptoBulkAll ds ≤ 1048576)
def OpenSpec.upto (s : _root_.Go.ChangeSpec) : _root_.Go.OpenSpec := { _root_.Go.OpenSpec.ofChange s with cond := some uptoSmall }

/-- 'ephemerislaw3.CrccForms', WHERE WHAT IT READS IS OF BULK AT MOST 1048576: true; the input reads as it did. -/
def crccFormsUptoRow : OpenClaim := { program := "ytimioninoafkhaa", sum := "cb02b52f26bc677ea3e3102a6dc76c8c4c326e27c11e4b226ecf1dd666d9e6a1", func := "ephemeris/ephemerislaw3.CrccForms", spec := "crccForms", apart := false, narrowed := true }
def CrccFormsUptoSaid : Prop := crccFormsUptoRow.holds Try.pinned (OpenSpec.upto crccFormsSpec)

/-- 'ephemerislaw3.CrccLinear', WHERE WHAT IT READS IS OF BULK AT MOST 1048576: true; the input reads as it did. -/
def crccLinearUptoRow : OpenClaim := { program := "ytimioninoafkhaa", sum := "cb02b52f26bc677ea3e3102a6dc76c8c4c326e27c11e4b226ecf1dd666d9e6a1", func := "ephemeris/ephemerislaw3.CrccLinear", spec := "crccLinear", apart := false, narrowed := true }
def CrccLinearUptoSaid : Prop := crccLinearUptoRow.holds Try.pinned (OpenSpec.upto crccLinearSpec)

/-- 'ephemerislaw3.CrccTells', WHERE WHAT IT READS IS OF BULK AT MOST 1048576: true; the input reads as it did. -/
def crccTellsUptoRow : OpenClaim := { program := "ytimioninoafkhaa", sum := "cb02b52f26bc677ea3e3102a6dc76c8c4c326e27c11e4b226ecf1dd666d9e6a1", func := "ephemeris/ephemerislaw3.CrccTells", spec := "crccTells", apart := false, narrowed := true }
def CrccTellsUptoSaid : Prop := crccTellsUptoRow.holds Try.pinned (OpenSpec.upto crccTellsSpec)

/-- 'ephemerislaw3.CrccTurned', WHERE WHAT IT READS IS OF BULK AT MOST 1048576: true; the input reads as it did. -/
def crccTurnedUptoRow : OpenClaim := { program := "ytimioninoafkhaa", sum := "cb02b52f26bc677ea3e3102a6dc76c8c4c326e27c11e4b226ecf1dd666d9e6a1", func := "ephemeris/ephemerislaw3.CrccTurned", spec := "crccTurned", apart := false, narrowed := true }
def CrccTurnedUptoSaid : Prop := crccTurnedUptoRow.holds Try.pinned (OpenSpec.upto crccTurnedSpec)

/-- 'ephemerislaw2.VintForms', WHERE WHAT IT READS IS OF BULK AT MOST 1048576: true; the input reads as it did. -/
def vintFormsUptoRow : OpenClaim := { program := "ytimioninoafkhaa", sum := "cb02b52f26bc677ea3e3102a6dc76c8c4c326e27c11e4b226ecf1dd666d9e6a1", func := "ephemeris/ephemerislaw2.VintForms", spec := "vintForms", apart := false, narrowed := true }
def VintFormsUptoSaid : Prop := vintFormsUptoRow.holds Try.pinned (OpenSpec.upto vintFormsSpec)

/-- 'ephemerislaw2.VintZigs', WHERE WHAT IT READS IS OF BULK AT MOST 1048576: true; the input reads as it did. -/
def vintZigsUptoRow : OpenClaim := { program := "ytimioninoafkhaa", sum := "cb02b52f26bc677ea3e3102a6dc76c8c4c326e27c11e4b226ecf1dd666d9e6a1", func := "ephemeris/ephemerislaw2.VintZigs", spec := "vintZigs", apart := false, narrowed := true }
def VintZigsUptoSaid : Prop := vintZigsUptoRow.holds Try.pinned (OpenSpec.upto vintZigsSpec)

/-- 'ephemerislaw2.VintTells', WHERE WHAT IT READS IS OF BULK AT MOST 1048576: true; the input reads as it did. -/
def vintTellsUptoRow : OpenClaim := { program := "ytimioninoafkhaa", sum := "cb02b52f26bc677ea3e3102a6dc76c8c4c326e27c11e4b226ecf1dd666d9e6a1", func := "ephemeris/ephemerislaw2.VintTells", spec := "vintTells", apart := false, narrowed := true }
def VintTellsUptoSaid : Prop := vintTellsUptoRow.holds Try.pinned (OpenSpec.upto vintTellsSpec)

/-- 'ephemerislaw2.VintBack', WHERE WHAT IT READS IS OF BULK AT MOST 1048576: true; the input reads as it did. -/
def vintBackUptoRow : OpenClaim := { program := "ytimioninoafkhaa", sum := "cb02b52f26bc677ea3e3102a6dc76c8c4c326e27c11e4b226ecf1dd666d9e6a1", func := "ephemeris/ephemerislaw2.VintBack", spec := "vintBack", apart := false, narrowed := true }
def VintBackUptoSaid : Prop := vintBackUptoRow.holds Try.pinned (OpenSpec.upto vintBackSpec)

/-- 'ephemerislaw1.BitsForms', WHERE WHAT IT READS IS OF BULK AT MOST 1048576: true; the input reads as it did. -/
def bitsFormsUptoRow : OpenClaim := { program := "ytimioninoafkhaa", sum := "cb02b52f26bc677ea3e3102a6dc76c8c4c326e27c11e4b226ecf1dd666d9e6a1", func := "ephemeris/ephemerislaw1.BitsForms", spec := "bitsForms", apart := false, narrowed := true }
def BitsFormsUptoSaid : Prop := bitsFormsUptoRow.holds Try.pinned (OpenSpec.upto bitsFormsSpec)

/-- 'ephemerislaw1.BitsSplit', WHERE WHAT IT READS IS OF BULK AT MOST 1048576: true; the input reads as it did. -/
def bitsSplitUptoRow : OpenClaim := { program := "ytimioninoafkhaa", sum := "cb02b52f26bc677ea3e3102a6dc76c8c4c326e27c11e4b226ecf1dd666d9e6a1", func := "ephemeris/ephemerislaw1.BitsSplit", spec := "bitsSplit", apart := false, narrowed := true }
def BitsSplitUptoSaid : Prop := bitsSplitUptoRow.holds Try.pinned (OpenSpec.upto bitsSplitSpec)

/-- 'ephemerislaw1.BitsPlays', WHERE WHAT IT READS IS OF BULK AT MOST 1048576: true; the input reads as it did. -/
def bitsPlaysUptoRow : OpenClaim := { program := "ytimioninoafkhaa", sum := "cb02b52f26bc677ea3e3102a6dc76c8c4c326e27c11e4b226ecf1dd666d9e6a1", func := "ephemeris/ephemerislaw1.BitsPlays", spec := "bitsPlays", apart := false, narrowed := true }
def BitsPlaysUptoSaid : Prop := bitsPlaysUptoRow.holds Try.pinned (OpenSpec.upto bitsPlaysSpec)

/-- 'ephemerislaw1.BitsBack', WHERE WHAT IT READS IS OF BULK AT MOST 1048576: true; the input reads as it did. -/
def bitsBackUptoRow : OpenClaim := { program := "ytimioninoafkhaa", sum := "cb02b52f26bc677ea3e3102a6dc76c8c4c326e27c11e4b226ecf1dd666d9e6a1", func := "ephemeris/ephemerislaw1.BitsBack", spec := "bitsBack", apart := false, narrowed := true }
def BitsBackUptoSaid : Prop := bitsBackUptoRow.holds Try.pinned (OpenSpec.upto bitsBackSpec)

end Rows
end Go.Proofs.Ytimioninoafkhaa
