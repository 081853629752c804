/-
  No cell of these rows narrows 'for every input' (looked for: loops, veiled, ifaces, maps, wideKeys, modest, calm, conditions, laid).
  DERIVED. THE GIVEN ROWS OF THIS SEAT. 12 by the template 'for every input the law returns true; each argument reads behind the call as it read before'; 0 by the template 'total and deterministic' (their statements: YtlmhjkbbooghfaaTotals.lean).
  GIVEN WITH THE SEED: the statements are not yours to turn. If you find one false, say at which input.
  Laid BY PROGRAM, IN A SANDBOX (cutbox-rows.mjs): the forced cells as the released guide's own fill.sh prints them over the translation 379101755311fec9… (all of the seat's roots in one cut). By AI agents, Wed Nov 11 2026. No macro, syntax, notation, axiom, sorry.
-/
import Derived.Test.YtlmhjkbbooghfaaChecked
import GoSem.Claim
import GoSem.ClaimJoined
import GoSem.ClaimMapViews
import Derived.JoinedTies
import Derived.KernelRfl
namespace Go.Proofs.Ytlmhjkbbooghfaa
/- THE CELL 'sum', in the pinned program and in every row, IS THE sha256 OF THE DUMP (.gsa) THAT YtlmhjkbbooghfaaProg.lean LOADS. Nothing in Lean hashes anything: it is a label: what it is worth is what the hold of that sum in a sandbox is worth. -/
noncomputable def Try.pinned : Pinned := { name := "ytlmhjkbbooghfaa", sum := "379101755311fec9081c7daa641503774c2d488ceac9fc6c2cd9c84db8343b78", checked := Try.checked }
namespace Rows
def none {H : Type} : Left H := { results := [], args := [] }

/-- 'ephemerislaw18.DireVers': WHATEVER THE INPUT: true; the input reads as it did. -/
def direVersSpec : ChangeSpec := { name := "direVers", fn := fun _ => fun
  | [d] => { results := [.lit (.bool true)], args := [d] }
  | _ => none }
def direVersRow : OpenClaim := { program := "ytlmhjkbbooghfaa", sum := "379101755311fec9081c7daa641503774c2d488ceac9fc6c2cd9c84db8343b78", func := "ephemeris/ephemerislaw18.DireVers", spec := "direVers", apart := false }
def DireVersSaid : Prop := direVersRow.holds Try.pinned (OpenSpec.ofChange direVersSpec)

/-- ITS FALSE NEIGHBOUR: 'it returns false'. Refute it at one input. -/
def direVersWrong : ChangeSpec := { name := "direVers", fn := fun _ => fun
  | [d] => { results := [.lit (.bool false)], args := [d] }
  | _ => none }
def DireVersWrongFalsely : Prop := direVersRow.holds Try.pinned (OpenSpec.ofChange direVersWrong)

/-- 'ephemerislaw18.DireOwn': WHATEVER THE INPUT: true; the input reads as it did. -/
def direOwnSpec : ChangeSpec := { name := "direOwn", fn := fun _ => fun
  | [d] => { results := [.lit (.bool true)], args := [d] }
  | _ => none }
def direOwnRow : OpenClaim := { program := "ytlmhjkbbooghfaa", sum := "379101755311fec9081c7daa641503774c2d488ceac9fc6c2cd9c84db8343b78", func := "ephemeris/ephemerislaw18.DireOwn", spec := "direOwn", apart := false }
def DireOwnSaid : Prop := direOwnRow.holds Try.pinned (OpenSpec.ofChange direOwnSpec)

/-- ITS FALSE NEIGHBOUR: 'it returns false'. Refute it at one input. -/
def direOwnWrong : ChangeSpec := { name := "direOwn", fn := fun _ => fun
  | [d] => { results := [.lit (.bool false)], args := [d] }
  | _ => none }
def DireOwnWrongFalsely : Prop := direOwnRow.holds Try.pinned (OpenSpec.ofChange direOwnWrong)

/-- 'ephemerislaw18.DireMany': WHATEVER THE INPUT: true; the input reads as it did. -/
def direManySpec : ChangeSpec := { name := "direMany", fn := fun _ => fun
  | [d1, d2] => { results := [.lit (.bool true)], args := [d1, d2] }
  | _ => none }
def direManyRow : OpenClaim := { program := "ytlmhjkbbooghfaa", sum := "379101755311fec9081c7daa641503774c2d488ceac9fc6c2cd9c84db8343b78", func := "ephemeris/ephemerislaw18.DireMany", spec := "direMany", unfollowed := true, recurses := true, apart := false }
def DireManySaid : Prop := direManyRow.holds Try.pinned (OpenSpec.ofChange direManySpec)

/-- ITS FALSE NEIGHBOUR: 'it returns false'. Refute it at one input. -/
def direManyWrong : ChangeSpec := { name := "direMany", fn := fun _ => fun
  | [d1, d2] => { results := [.lit (.bool false)], args := [d1, d2] }
  | _ => none }
def DireManyWrongFalsely : Prop := direManyRow.holds Try.pinned (OpenSpec.ofChange direManyWrong)

/-- 'ephemerislaw18.DirePlays': WHATEVER THE INPUT: true; the input reads as it did. -/
def direPlaysSpec : ChangeSpec := { name := "direPlays", fn := fun _ => fun
  | [d1, d2] => { results := [.lit (.bool true)], args := [d1, d2] }
  | _ => none }
def direPlaysRow : OpenClaim := { program := "ytlmhjkbbooghfaa", sum := "379101755311fec9081c7daa641503774c2d488ceac9fc6c2cd9c84db8343b78", func := "ephemeris/ephemerislaw18.DirePlays", spec := "direPlays", apart := false }
def DirePlaysSaid : Prop := direPlaysRow.holds Try.pinned (OpenSpec.ofChange direPlaysSpec)

/-- ITS FALSE NEIGHBOUR: 'it returns false'. Refute it at one input. -/
def direPlaysWrong : ChangeSpec := { name := "direPlays", fn := fun _ => fun
  | [d1, d2] => { results := [.lit (.bool false)], args := [d1, d2] }
  | _ => none }
def DirePlaysWrongFalsely : Prop := direPlaysRow.holds Try.pinned (OpenSpec.ofChange direPlaysWrong)

/-- 'ephemerislaw7.RunlForms': WHATEVER THE INPUT: true; the input reads as it did. -/
def runlFormsSpec : ChangeSpec := { name := "runlForms", fn := fun _ => fun
  | [d] => { results := [.lit (.bool true)], args := [d] }
  | _ => none }
def runlFormsRow : OpenClaim := { program := "ytlmhjkbbooghfaa", sum := "379101755311fec9081c7daa641503774c2d488ceac9fc6c2cd9c84db8343b78", func := "ephemeris/ephemerislaw7.RunlForms", spec := "runlForms", apart := false }
def RunlFormsSaid : Prop := runlFormsRow.holds Try.pinned (OpenSpec.ofChange runlFormsSpec)

/-- ITS FALSE NEIGHBOUR: 'it returns false'. Refute it at one input. -/
def runlFormsWrong : ChangeSpec := { name := "runlForms", fn := fun _ => fun
  | [d] => { results := [.lit (.bool false)], args := [d] }
  | _ => none }
def RunlFormsWrongFalsely : Prop := runlFormsRow.holds Try.pinned (OpenSpec.ofChange runlFormsWrong)

/-- 'ephemerislaw7.RunlTells': WHATEVER THE INPUT: true; the input reads as it did. -/
def runlTellsSpec : ChangeSpec := { name := "runlTells", fn := fun _ => fun
  | [d1, d2, d3, d4, d5, d6] => { results := [.lit (.bool true)], args := [d1, d2, d3, d4, d5, d6] }
  | _ => none }
def runlTellsRow : OpenClaim := { program := "ytlmhjkbbooghfaa", sum := "379101755311fec9081c7daa641503774c2d488ceac9fc6c2cd9c84db8343b78", func := "ephemeris/ephemerislaw7.RunlTells", spec := "runlTells", apart := false }
def RunlTellsSaid : Prop := runlTellsRow.holds Try.pinned (OpenSpec.ofChange runlTellsSpec)

/-- ITS FALSE NEIGHBOUR: 'it returns false'. Refute it at one input. -/
def runlTellsWrong : ChangeSpec := { name := "runlTells", fn := fun _ => fun
  | [d1, d2, d3, d4, d5, d6] => { results := [.lit (.bool false)], args := [d1, d2, d3, d4, d5, d6] }
  | _ => none }
def RunlTellsWrongFalsely : Prop := runlTellsRow.holds Try.pinned (OpenSpec.ofChange runlTellsWrong)

/-- 'ephemerislaw7.RunlBack': WHATEVER THE INPUT: true; the input reads as it did. -/
def runlBackSpec : ChangeSpec := { name := "runlBack", fn := fun _ => fun
  | [d1, d2] => { results := [.lit (.bool true)], args := [d1, d2] }
  | _ => none }
def runlBackRow : OpenClaim := { program := "ytlmhjkbbooghfaa", sum := "379101755311fec9081c7daa641503774c2d488ceac9fc6c2cd9c84db8343b78", func := "ephemeris/ephemerislaw7.RunlBack", spec := "runlBack", apart := false }
def RunlBackSaid : Prop := runlBackRow.holds Try.pinned (OpenSpec.ofChange runlBackSpec)

/-- ITS FALSE NEIGHBOUR: 'it returns false'. Refute it at one input. -/
def runlBackWrong : ChangeSpec := { name := "runlBack", fn := fun _ => fun
  | [d1, d2] => { results := [.lit (.bool false)], args := [d1, d2] }
  | _ => none }
def RunlBackWrongFalsely : Prop := runlBackRow.holds Try.pinned (OpenSpec.ofChange runlBackWrong)

/-- 'ephemerislaw6.SimpTells': WHATEVER THE INPUT: true; the input reads as it did. -/
def simpTellsSpec : ChangeSpec := { name := "simpTells", fn := fun _ => fun
  | [d1, d2, d3, d4, d5, d6] => { results := [.lit (.bool true)], args := [d1, d2, d3, d4, d5, d6] }
  | _ => none }
def simpTellsRow : OpenClaim := { program := "ytlmhjkbbooghfaa", sum := "379101755311fec9081c7daa641503774c2d488ceac9fc6c2cd9c84db8343b78", func := "ephemeris/ephemerislaw6.SimpTells", spec := "simpTells", apart := false }
def SimpTellsSaid : Prop := simpTellsRow.holds Try.pinned (OpenSpec.ofChange simpTellsSpec)

/-- ITS FALSE NEIGHBOUR: 'it returns false'. Refute it at one input. -/
def simpTellsWrong : ChangeSpec := { name := "simpTells", fn := fun _ => fun
  | [d1, d2, d3, d4, d5, d6] => { results := [.lit (.bool false)], args := [d1, d2, d3, d4, d5, d6] }
  | _ => none }
def SimpTellsWrongFalsely : Prop := simpTellsRow.holds Try.pinned (OpenSpec.ofChange simpTellsWrong)

/-- 'ephemerislaw6.SimpBack': WHATEVER THE INPUT: true; the input reads as it did. -/
def simpBackSpec : ChangeSpec := { name := "simpBack", fn := fun _ => fun
  | [d1, d2, d3] => { results := [.lit (.bool true)], args := [d1, d2, d3] }
  | _ => none }
def simpBackRow : OpenClaim := { program := "ytlmhjkbbooghfaa", sum := "379101755311fec9081c7daa641503774c2d488ceac9fc6c2cd9c84db8343b78", func := "ephemeris/ephemerislaw6.SimpBack", spec := "simpBack", apart := false }
def SimpBackSaid : Prop := simpBackRow.holds Try.pinned (OpenSpec.ofChange simpBackSpec)

/-- ITS FALSE NEIGHBOUR: 'it returns false'. Refute it at one input. -/
def simpBackWrong : ChangeSpec := { name := "simpBack", fn := fun _ => fun
  | [d1, d2, d3] => { results := [.lit (.bool false)], args := [d1, d2, d3] }
  | _ => none }
def SimpBackWrongFalsely : Prop := simpBackRow.holds Try.pinned (OpenSpec.ofChange simpBackWrong)

/-- 'ephemerislaw4.TimeLong': WHATEVER THE INPUT: true; the input reads as it did. -/
def timeLongSpec : ChangeSpec := { name := "timeLong", fn := fun _ => fun
  | [d1, d2] => { results := [.lit (.bool true)], args := [d1, d2] }
  | _ => none }
def timeLongRow : OpenClaim := { program := "ytlmhjkbbooghfaa", sum := "379101755311fec9081c7daa641503774c2d488ceac9fc6c2cd9c84db8343b78", func := "ephemeris/ephemerislaw4.TimeLong", spec := "timeLong", apart := false }
def TimeLongSaid : Prop := timeLongRow.holds Try.pinned (OpenSpec.ofChange timeLongSpec)

/-- ITS FALSE NEIGHBOUR: 'it returns false'. Refute it at one input. -/
def timeLongWrong : ChangeSpec := { name := "timeLong", fn := fun _ => fun
  | [d1, d2] => { results := [.lit (.bool false)], args := [d1, d2] }
  | _ => none }
def TimeLongWrongFalsely : Prop := timeLongRow.holds Try.pinned (OpenSpec.ofChange timeLongWrong)

/-- 'ephemerislaw4.TimeTells': WHATEVER THE INPUT: true; the input reads as it did. -/
def timeTellsSpec : ChangeSpec := { name := "timeTells", fn := fun _ => fun
  | [d1, d2, d3, d4, d5, d6] => { results := [.lit (.bool true)], args := [d1, d2, d3, d4, d5, d6] }
  | _ => none }
def timeTellsRow : OpenClaim := { program := "ytlmhjkbbooghfaa", sum := "379101755311fec9081c7daa641503774c2d488ceac9fc6c2cd9c84db8343b78", func := "ephemeris/ephemerislaw4.TimeTells", spec := "timeTells", apart := false }
def TimeTellsSaid : Prop := timeTellsRow.holds Try.pinned (OpenSpec.ofChange timeTellsSpec)

/-- ITS FALSE NEIGHBOUR: 'it returns false'. Refute it at one input. -/
def timeTellsWrong : ChangeSpec := { name := "timeTells", fn := fun _ => fun
  | [d1, d2, d3, d4, d5, d6] => { results := [.lit (.bool false)], args := [d1, d2, d3, d4, d5, d6] }
  | _ => none }
def TimeTellsWrongFalsely : Prop := timeTellsRow.holds Try.pinned (OpenSpec.ofChange timeTellsWrong)

/-- 'ephemerislaw4.TimeBack': WHATEVER THE INPUT: true; the input reads as it did. -/
def timeBackSpec : ChangeSpec := { name := "timeBack", fn := fun _ => fun
  | [d1, d2, d3] => { results := [.lit (.bool true)], args := [d1, d2, d3] }
  | _ => none }
def timeBackRow : OpenClaim := { program := "ytlmhjkbbooghfaa", sum := "379101755311fec9081c7daa641503774c2d488ceac9fc6c2cd9c84db8343b78", func := "ephemeris/ephemerislaw4.TimeBack", spec := "timeBack", apart := false }
def TimeBackSaid : Prop := timeBackRow.holds Try.pinned (OpenSpec.ofChange timeBackSpec)

/-- ITS FALSE NEIGHBOUR: 'it returns false'. Refute it at one input. -/
def timeBackWrong : ChangeSpec := { name := "timeBack", fn := fun _ => fun
  | [d1, d2, d3] => { results := [.lit (.bool false)], args := [d1, d2, d3] }
  | _ => none }
def TimeBackWrongFalsely : Prop := timeBackRow.holds Try.pinned (OpenSpec.ofChange timeBackWrong)

/- THE SECOND FORM. 'bulk': how many values and letters a reading holds, each counted each time it is reached (what is shared counts as often as it is met; a slice's spare places count too). A statement '..UptoSaid' is the law's where the arguments, and the package variables that the reading takes, are together of bulk at most 1048576: NARROWER than '..Said'. Prove '..Said' where nothing that the law and all that it calls make is longer than what came in: it says more and counts as full. Else prove '..UptoSaid'. A law counts once. -/
mutual
def uptoBulk {H : Type} : DataW H → Nat
  | .lit (.string bytes) => bytes.length + 1
  | .lit _ => 1
  | .nil => 1
  | .ptr d => uptoBulk d + 1
  | .slice elems spare => uptoBulkAll elems + uptoBulkAll spare + 1
  | .agg parts => uptoBulkAll parts + 1
  | .iface _ d => uptoBulk d + 1
  | .map entries => uptoBulkEntries entries + 1
  | .held _ => 1
def uptoBulkAll {H : Type} : List (DataW H) → Nat
  | [] => 0
  | d :: r => uptoBulk d + uptoBulkAll r
def uptoBulkEntries {H : Type} : List (Lit × DataW H) → Nat
  | [] => 0
  | x :: r => uptoBulkEntry x + uptoBulkEntries r
def uptoBulkEntry {H : Type} : Lit × DataW H → Nat
  | (.string bytes, d) => bytes.length + uptoBulk d + 1
  | (_, d) => uptoBulk d + 1
 end
def uptoSmall : (H : Type) → List (DataW H) → Bool := fun _ ds => decide (uptoBulkAll ds ≤ 1048576)
def OpenSpec.upto (s : _root_.Go.ChangeSpec) : _root_.Go.OpenSpec := { _root_.Go.OpenSpec.ofChange s with cond := some uptoSmall }

/-- 'ephemerislaw18.DireVers', WHERE WHAT IT READS IS OF BULK AT MOST 1048576: true; the input reads as it did. -/
def direVersUptoRow : OpenClaim := { program := "ytlmhjkbbooghfaa", sum := "379101755311fec9081c7daa641503774c2d488ceac9fc6c2cd9c84db8343b78", func := "ephemeris/ephemerislaw18.DireVers", spec := "direVers", apart := false, narrowed := true }
def DireVersUptoSaid : Prop := direVersUptoRow.holds Try.pinned (OpenSpec.upto direVersSpec)

/-- 'ephemerislaw18.DireOwn', WHERE WHAT IT READS IS OF BULK AT MOST 1048576: true; the input reads as it did. -/
def direOwnUptoRow : OpenClaim := { program := "ytlmhjkbbooghfaa", sum := "379101755311fec9081c7daa641503774c2d488ceac9fc6c2cd9c84db8343b78", func := "ephemeris/ephemerislaw18.DireOwn", spec := "direOwn", apart := false, narrowed := true }
def DireOwnUptoSaid : Prop := direOwnUptoRow.holds Try.pinned (OpenSpec.upto direOwnSpec)

/-- 'ephemerislaw18.DireMany', WHERE WHAT IT READS IS OF BULK AT MOST 1048576: true; the input reads as it did. -/
def direManyUptoRow : OpenClaim := { program := "ytlmhjkbbooghfaa", sum := "379101755311fec9081c7daa641503774c2d488ceac9fc6c2cd9c84db8343b78", func := "ephemeris/ephemerislaw18.DireMany", spec := "direMany", unfollowed := true, recurses := true, apart := false, narrowed := true }
def DireManyUptoSaid : Prop := direManyUptoRow.holds Try.pinned (OpenSpec.upto direManySpec)

/-- 'ephemerislaw18.DirePlays', WHERE WHAT IT READS IS OF BULK AT MOST 1048576: true; the input reads as it did. -/
def direPlaysUptoRow : OpenClaim := { program := "ytlmhjkbbooghfaa", sum := "379101755311fec9081c7daa641503774c2d488ceac9fc6c2cd9c84db8343b78", func := "ephemeris/ephemerislaw18.DirePlays", spec := "direPlays", apart := false, narrowed := true }
def DirePlaysUptoSaid : Prop := direPlaysUptoRow.holds Try.pinned (OpenSpec.upto direPlaysSpec)

/-- 'ephemerislaw7.RunlForms', WHERE WHAT IT READS IS OF BULK AT MOST 1048576: true; the input reads as it did. -/
def runlFormsUptoRow : OpenClaim := { program := "ytlmhjkbbooghfaa", sum := "379101755311fec9081c7daa641503774c2d488ceac9fc6c2cd9c84db8343b78", func := "ephemeris/ephemerislaw7.RunlForms", spec := "runlForms", apart := false, narrowed := true }
def RunlFormsUptoSaid : Prop := runlFormsUptoRow.holds Try.pinned (OpenSpec.upto runlFormsSpec)

/-- 'ephemerislaw7.RunlTells', WHERE WHAT IT READS IS OF BULK AT MOST 1048576: true; the input reads as it did. -/
def runlTellsUptoRow : OpenClaim := { program := "ytlmhjkbbooghfaa", sum := "379101755311fec9081c7daa641503774c2d488ceac9fc6c2cd9c84db8343b78", func := "ephemeris/ephemerislaw7.RunlTells", spec := "runlTells", apart := false, narrowed := true }
def RunlTellsUptoSaid : Prop := runlTellsUptoRow.holds Try.pinned (OpenSpec.upto runlTellsSpec)

/-- 'ephemerislaw7.RunlBack', WHERE WHAT IT READS IS OF BULK AT MOST 1048576: true; the input reads as it did. -/
def runlBackUptoRow : OpenClaim := { program := "ytlmhjkbbooghfaa", sum := "379101755311fec9081c7daa641503774c2d488ceac9fc6c2cd9c84db8343b78", func := "ephemeris/ephemerislaw7.RunlBack", spec := "runlBack", apart := false, narrowed := true }
def RunlBackUptoSaid : Prop := runlBackUptoRow.holds Try.pinned (OpenSpec.upto runlBackSpec)

/-- 'ephemerislaw6.SimpTells', WHERE WHAT IT READS IS OF BULK AT MOST 1048576: true; the input reads as it did. -/
def simpTellsUptoRow : OpenClaim := { program := "ytlmhjkbbooghfaa", sum := "379101755311fec9081c7daa641503774c2d488ceac9fc6c2cd9c84db8343b78", func := "ephemeris/ephemerislaw6.SimpTells", spec := "simpTells", apart := false, narrowed := true }
def SimpTellsUptoSaid : Prop := simpTellsUptoRow.holds Try.pinned (OpenSpec.upto simpTellsSpec)

/-- 'ephemerislaw6.SimpBack', WHERE WHAT IT READS IS OF BULK AT MOST 1048576: true; the input reads as it did. -/
def simpBackUptoRow : OpenClaim := { program := "ytlmhjkbbooghfaa", sum := "379101755311fec9081c7daa641503774c2d488ceac9fc6c2cd9c84db8343b78", func := "ephemeris/ephemerislaw6.SimpBack", spec := "simpBack", apart := false, narrowed := true }
def SimpBackUptoSaid : Prop := simpBackUptoRow.holds Try.pinned (OpenSpec.upto simpBackSpec)

/-- 'ephemerislaw4.TimeLong', WHERE WHAT IT READS IS OF BULK AT MOST 1048576: true; the input reads as it did. -/
def timeLongUptoRow : OpenClaim := { program := "ytlmhjkbbooghfaa", sum := "379101755311fec9081c7daa641503774c2d488ceac9fc6c2cd9c84db8343b78", func := "ephemeris/ephemerislaw4.TimeLong", spec := "timeLong", apart := false, narrowed := true }
def TimeLongUptoSaid : Prop := timeLongUptoRow.holds Try.pinned (OpenSpec.upto timeLongSpec)

/-- 'ephemerislaw4.TimeTells', WHERE WHAT IT READS IS OF BULK AT MOST 1048576: true; the input reads as it did. -/
def timeTellsUptoRow : OpenClaim := { program := "ytlmhjkbbooghfaa", sum := "379101755311fec9081c7daa641503774c2d488ceac9fc6c2cd9c84db8343b78", func := "ephemeris/ephemerislaw4.TimeTells", spec := "timeTells", apart := false, narrowed := true }
def TimeTellsUptoSaid : Prop := timeTellsUptoRow.holds Try.pinned (OpenSpec.upto timeTellsSpec)

/-- 'ephemerislaw4.TimeBack', WHERE WHAT IT READS IS OF BULK AT MOST 1048576: true; the input reads as it did. -/
def timeBackUptoRow : OpenClaim := { program := "ytlmhjkbbooghfaa", sum := "379101755311fec9081c7daa641503774c2d488ceac9fc6c2cd9c84db8343b78", func := "ephemeris/ephemerislaw4.TimeBack", spec := "timeBack", apart := false, narrowed := true }
def TimeBackUptoSaid : Prop := timeBackUptoRow.holds Try.pinned (OpenSpec.upto timeBackSpec)

end Rows
end Go.Proofs.Ytlmhjkbbooghfaa
