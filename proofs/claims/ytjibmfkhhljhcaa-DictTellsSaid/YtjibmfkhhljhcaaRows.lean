/-
  No cell of these rows narrows 'for every input' (looked for: loops, veiled, ifaces, maps, wideKeys, modest, calm, conditions, laid).
  DERIVED. THE GIVEN ROWS OF THIS SEAT. 8 by the template 'for every input the law returns true; each argument reads behind the call as it read before'; 0 by the template 'total and deterministic' (their statements: YtjibmfkhhljhcaaTotals.lean).
  GIVEN WITH THE SEED: the statements are not yours to turn. If you find one false, say at which input.
  Laid BY PROGRAM, IN A SANDBOX (cutbox-rows.mjs): the forced cells as the released guide's own fill.sh prints them over the translation 1c85f23fab28c984… (all of the seat's roots in one cut). By AI agents, Wed Nov 11 2026. No macro, syntax, notation, axiom, sorry.
-/
import Derived.Test.YtjibmfkhhljhcaaChecked
import GoSem.Claim
import GoSem.ClaimJoined
import GoSem.ClaimMapViews
import Derived.JoinedTies
import Derived.KernelRfl
namespace Go.Proofs.Ytjibmfkhhljhcaa
/- THE CELL 'sum', in the pinned program and in every row, IS THE sha256 OF THE DUMP (.gsa) THAT YtjibmfkhhljhcaaProg.lean LOADS. Nothing in Lean hashes anything: it is a label: what it is worth is what the hold of that sum in a sandbox is worth. -/
noncomputable def Try.pinned : Pinned := { name := "ytjibmfkhhljhcaa", sum := "1c85f23fab28c98495223f5191423e82e870666030334c085ca487579e29db76", checked := Try.checked }
namespace Rows
def none {H : Type} : Left H := { results := [], args := [] }

/-- 'ephemerislaw8.ForpForms': WHATEVER THE INPUT: true; the input reads as it did. -/
def forpFormsSpec : ChangeSpec := { name := "forpForms", fn := fun _ => fun
  | [d] => { results := [.lit (.bool true)], args := [d] }
  | _ => none }
def forpFormsRow : OpenClaim := { program := "ytjibmfkhhljhcaa", sum := "1c85f23fab28c98495223f5191423e82e870666030334c085ca487579e29db76", func := "ephemeris/ephemerislaw8.ForpForms", spec := "forpForms", apart := false }
def ForpFormsSaid : Prop := forpFormsRow.holds Try.pinned (OpenSpec.ofChange forpFormsSpec)

/-- ITS FALSE NEIGHBOUR: 'it returns false'. Refute it at one input. -/
def forpFormsWrong : ChangeSpec := { name := "forpForms", fn := fun _ => fun
  | [d] => { results := [.lit (.bool false)], args := [d] }
  | _ => none }
def ForpFormsWrongFalsely : Prop := forpFormsRow.holds Try.pinned (OpenSpec.ofChange forpFormsWrong)

/-- 'ephemerislaw8.ForpShift': WHATEVER THE INPUT: true; the input reads as it did. -/
def forpShiftSpec : ChangeSpec := { name := "forpShift", fn := fun _ => fun
  | [d1, d2] => { results := [.lit (.bool true)], args := [d1, d2] }
  | _ => none }
def forpShiftRow : OpenClaim := { program := "ytjibmfkhhljhcaa", sum := "1c85f23fab28c98495223f5191423e82e870666030334c085ca487579e29db76", func := "ephemeris/ephemerislaw8.ForpShift", spec := "forpShift", apart := false }
def ForpShiftSaid : Prop := forpShiftRow.holds Try.pinned (OpenSpec.ofChange forpShiftSpec)

/-- ITS FALSE NEIGHBOUR: 'it returns false'. Refute it at one input. -/
def forpShiftWrong : ChangeSpec := { name := "forpShift", fn := fun _ => fun
  | [d1, d2] => { results := [.lit (.bool false)], args := [d1, d2] }
  | _ => none }
def ForpShiftWrongFalsely : Prop := forpShiftRow.holds Try.pinned (OpenSpec.ofChange forpShiftWrong)

/-- 'ephemerislaw8.ForpTells': WHATEVER THE INPUT: true; the input reads as it did. -/
def forpTellsSpec : ChangeSpec := { name := "forpTells", fn := fun _ => fun
  | [d1, d2, d3, d4, d5, d6] => { results := [.lit (.bool true)], args := [d1, d2, d3, d4, d5, d6] }
  | _ => none }
def forpTellsRow : OpenClaim := { program := "ytjibmfkhhljhcaa", sum := "1c85f23fab28c98495223f5191423e82e870666030334c085ca487579e29db76", func := "ephemeris/ephemerislaw8.ForpTells", spec := "forpTells", apart := false }
def ForpTellsSaid : Prop := forpTellsRow.holds Try.pinned (OpenSpec.ofChange forpTellsSpec)

/-- ITS FALSE NEIGHBOUR: 'it returns false'. Refute it at one input. -/
def forpTellsWrong : ChangeSpec := { name := "forpTells", fn := fun _ => fun
  | [d1, d2, d3, d4, d5, d6] => { results := [.lit (.bool false)], args := [d1, d2, d3, d4, d5, d6] }
  | _ => none }
def ForpTellsWrongFalsely : Prop := forpTellsRow.holds Try.pinned (OpenSpec.ofChange forpTellsWrong)

/-- 'ephemerislaw8.ForpBack': WHATEVER THE INPUT: true; the input reads as it did. -/
def forpBackSpec : ChangeSpec := { name := "forpBack", fn := fun _ => fun
  | [d1, d2] => { results := [.lit (.bool true)], args := [d1, d2] }
  | _ => none }
def forpBackRow : OpenClaim := { program := "ytjibmfkhhljhcaa", sum := "1c85f23fab28c98495223f5191423e82e870666030334c085ca487579e29db76", func := "ephemeris/ephemerislaw8.ForpBack", spec := "forpBack", apart := false }
def ForpBackSaid : Prop := forpBackRow.holds Try.pinned (OpenSpec.ofChange forpBackSpec)

/-- ITS FALSE NEIGHBOUR: 'it returns false'. Refute it at one input. -/
def forpBackWrong : ChangeSpec := { name := "forpBack", fn := fun _ => fun
  | [d1, d2] => { results := [.lit (.bool false)], args := [d1, d2] }
  | _ => none }
def ForpBackWrongFalsely : Prop := forpBackRow.holds Try.pinned (OpenSpec.ofChange forpBackWrong)

/-- 'ephemerislaw9.DictForms': WHATEVER THE INPUT: true; the input reads as it did. -/
def dictFormsSpec : ChangeSpec := { name := "dictForms", fn := fun _ => fun
  | [d] => { results := [.lit (.bool true)], args := [d] }
  | _ => none }
def dictFormsRow : OpenClaim := { program := "ytjibmfkhhljhcaa", sum := "1c85f23fab28c98495223f5191423e82e870666030334c085ca487579e29db76", func := "ephemeris/ephemerislaw9.DictForms", spec := "dictForms", apart := false }
def DictFormsSaid : Prop := dictFormsRow.holds Try.pinned (OpenSpec.ofChange dictFormsSpec)

/-- ITS FALSE NEIGHBOUR: 'it returns false'. Refute it at one input. -/
def dictFormsWrong : ChangeSpec := { name := "dictForms", fn := fun _ => fun
  | [d] => { results := [.lit (.bool false)], args := [d] }
  | _ => none }
def DictFormsWrongFalsely : Prop := dictFormsRow.holds Try.pinned (OpenSpec.ofChange dictFormsWrong)

/-- 'ephemerislaw9.DictMany': WHATEVER THE INPUT: true; the input reads as it did. -/
def dictManySpec : ChangeSpec := { name := "dictMany", fn := fun _ => fun
  | [d1, d2] => { results := [.lit (.bool true)], args := [d1, d2] }
  | _ => none }
def dictManyRow : OpenClaim := { program := "ytjibmfkhhljhcaa", sum := "1c85f23fab28c98495223f5191423e82e870666030334c085ca487579e29db76", func := "ephemeris/ephemerislaw9.DictMany", spec := "dictMany", apart := false }
def DictManySaid : Prop := dictManyRow.holds Try.pinned (OpenSpec.ofChange dictManySpec)

/-- ITS FALSE NEIGHBOUR: 'it returns false'. Refute it at one input. -/
def dictManyWrong : ChangeSpec := { name := "dictMany", fn := fun _ => fun
  | [d1, d2] => { results := [.lit (.bool false)], args := [d1, d2] }
  | _ => none }
def DictManyWrongFalsely : Prop := dictManyRow.holds Try.pinned (OpenSpec.ofChange dictManyWrong)

/-- 'ephemerislaw9.DictTells': WHATEVER THE INPUT: true; the input reads as it did. -/
def dictTellsSpec : ChangeSpec := { name := "dictTells", fn := fun _ => fun
  | [d1, d2, d3, d4, d5, d6] => { results := [.lit (.bool true)], args := [d1, d2, d3, d4, d5, d6] }
  | _ => none }
def dictTellsRow : OpenClaim := { program := "ytjibmfkhhljhcaa", sum := "1c85f23fab28c98495223f5191423e82e870666030334c085ca487579e29db76", func := "ephemeris/ephemerislaw9.DictTells", spec := "dictTells", apart := false }
def DictTellsSaid : Prop := dictTellsRow.holds Try.pinned (OpenSpec.ofChange dictTellsSpec)

/-- ITS FALSE NEIGHBOUR: 'it returns false'. Refute it at one input. -/
def dictTellsWrong : ChangeSpec := { name := "dictTells", fn := fun _ => fun
  | [d1, d2, d3, d4, d5, d6] => { results := [.lit (.bool false)], args := [d1, d2, d3, d4, d5, d6] }
  | _ => none }
def DictTellsWrongFalsely : Prop := dictTellsRow.holds Try.pinned (OpenSpec.ofChange dictTellsWrong)

/-- 'ephemerislaw9.DictBack': WHATEVER THE INPUT: true; the input reads as it did. -/
def dictBackSpec : ChangeSpec := { name := "dictBack", fn := fun _ => fun
  | [d1, d2] => { results := [.lit (.bool true)], args := [d1, d2] }
  | _ => none }
def dictBackRow : OpenClaim := { program := "ytjibmfkhhljhcaa", sum := "1c85f23fab28c98495223f5191423e82e870666030334c085ca487579e29db76", func := "ephemeris/ephemerislaw9.DictBack", spec := "dictBack", apart := false }
def DictBackSaid : Prop := dictBackRow.holds Try.pinned (OpenSpec.ofChange dictBackSpec)

/-- ITS FALSE NEIGHBOUR: 'it returns false'. Refute it at one input. -/
def dictBackWrong : ChangeSpec := { name := "dictBack", fn := fun _ => fun
  | [d1, d2] => { results := [.lit (.bool false)], args := [d1, d2] }
  | _ => none }
def DictBackWrongFalsely : Prop := dictBackRow.holds Try.pinned (OpenSpec.ofChange dictBackWrong)

/- THE SECOND FORM. 'bulk': how many values and letters a reading holds, each counted each time it is reached (what is shared counts as often as it is met; a slice's spare places count too). A statement '..UptoSaid' is the law's where the arguments, and the package variables that the reading takes, are together of bulk at most 1048576: NARROWER than '..Said'. Prove '..Said' where nothing that the law and all that it calls make is longer than what came in: it says more and counts as full. Else prove '..UptoSaid'. A law counts once. -/
mutual
def uptoBulk {H : Type} : DataW H → Nat
  | .lit (.string bytes) => bytes.length + 1
  | .lit _ => 1
  | .nil => 1
  | .ptr d => uptoBulk d + 1
  | .slice elems spare => uptoBulkAll elems + uptoBulkAll spare + 1
  | .agg parts => uptoBulkAll parts + 1
  | .iface _ d => uptoBulk d + 1
  | .map entries => uptoBulkEntries entries + 1
  | .held _ => 1
def uptoBulkAll {H : Type} : List (DataW H) → Nat
  | [] => 0
  | d :: r => uptoBulk d + uptoBulkAll r
def uptoBulkEntries {H : Type} : List (Lit × DataW H) → Nat
  | [] => 0
  | x :: r => uptoBulkEntry x + uptoBulkEntries r
def uptoBulkEntry {H : Type} : Lit × DataW H → Nat
  | (.string bytes, d) => bytes.length + uptoBulk d + 1
  | (_, d) => uptoBulk d + 1
 end
def uptoSmall : (H : Type) → List (DataW H) → Bool := fun _ ds => decide (uptoBulkAll ds ≤ 1048576)
def OpenSpec.upto (s : _root_.Go.ChangeSpec) : _root_.Go.OpenSpec := { _root_.Go.OpenSpec.ofChange s with cond := some uptoSmall }

/-- 'ephemerislaw8.ForpForms', WHERE WHAT IT READS IS OF BULK AT MOST 1048576: true; the input reads as it did. -/
def forpFormsUptoRow : OpenClaim := { program := "ytjibmfkhhljhcaa", sum := "1c85f23fab28c98495223f5191423e82e870666030334c085ca487579e29db76", func := "ephemeris/ephemerislaw8.ForpForms", spec := "forpForms", apart := false, narrowed := true }
def ForpFormsUptoSaid : Prop := forpFormsUptoRow.holds Try.pinned (OpenSpec.upto forpFormsSpec)

/-- 'ephemerislaw8.ForpShift', WHERE WHAT IT READS IS OF BULK AT MOST 1048576: true; the input reads as it did. -/
def forpShiftUptoRow : OpenClaim := { program := "ytjibmfkhhljhcaa", sum := "1c85f23fab28c98495223f5191423e82e870666030334c085ca487579e29db76", func := "ephemeris/ephemerislaw8.ForpShift", spec := "forpShift", apart := false, narrowed := true }
def ForpShiftUptoSaid : Prop := forpShiftUptoRow.holds Try.pinned (OpenSpec.upto forpShiftSpec)

/-- 'ephemerislaw8.ForpTells', WHERE WHAT IT READS IS OF BULK AT MOST 1048576: true; the input reads as it did. -/
def forpTellsUptoRow : OpenClaim := { program := "ytjibmfkhhljhcaa", sum := "1c85f23fab28c98495223f5191423e82e870666030334c085ca487579e29db76", func := "ephemeris/ephemerislaw8.ForpTells", spec := "forpTells", apart := false, narrowed := true }
def ForpTellsUptoSaid : Prop := forpTellsUptoRow.holds Try.pinned (OpenSpec.upto forpTellsSpec)

/-- 'ephemerislaw8.ForpBack', WHERE WHAT IT READS IS OF BULK AT MOST 1048576: true; the input reads as it did. -/
def forpBackUptoRow : OpenClaim := { program := "ytjibmfkhhljhcaa", sum := "1c85f23fab28c98495223f5191423e82e870666030334c085ca487579e29db76", func := "ephemeris/ephemerislaw8.ForpBack", spec := "forpBack", apart := false, narrowed := true }
def ForpBackUptoSaid : Prop := forpBackUptoRow.holds Try.pinned (OpenSpec.upto forpBackSpec)

/-- 'ephemerislaw9.DictForms', WHERE WHAT IT READS IS OF BULK AT MOST 1048576: true; the input reads as it did. -/
def dictFormsUptoRow : OpenClaim := { program := "ytjibmfkhhljhcaa", sum := "1c85f23fab28c98495223f5191423e82e870666030334c085ca487579e29db76", func := "ephemeris/ephemerislaw9.DictForms", spec := "dictForms", apart := false, narrowed := true }
def DictFormsUptoSaid : Prop := dictFormsUptoRow.holds Try.pinned (OpenSpec.upto dictFormsSpec)

/-- 'ephemerislaw9.DictMany', WHERE WHAT IT READS IS OF BULK AT MOST 1048576: true; the input reads as it did. -/
def dictManyUptoRow : OpenClaim := { program := "ytjibmfkhhljhcaa", sum := "1c85f23fab28c98495223f5191423e82e870666030334c085ca487579e29db76", func := "ephemeris/ephemerislaw9.DictMany", spec := "dictMany", apart := false, narrowed := true }
def DictManyUptoSaid : Prop := dictManyUptoRow.holds Try.pinned (OpenSpec.upto dictManySpec)

/-- 'ephemerislaw9.DictTells', WHERE WHAT IT READS IS OF BULK AT MOST 1048576: true; the input reads as it did. -/
def dictTellsUptoRow : OpenClaim := { program := "ytjibmfkhhljhcaa", sum := "1c85f23fab28c98495223f5191423e82e870666030334c085ca487579e29db76", func := "ephemeris/ephemerislaw9.DictTells", spec := "dictTells", apart := false, narrowed := true }
def DictTellsUptoSaid : Prop := dictTellsUptoRow.holds Try.pinned (OpenSpec.upto dictTellsSpec)

/-- 'ephemerislaw9.DictBack', WHERE WHAT IT READS IS OF BULK AT MOST 1048576: true; the input reads as it did. -/
def dictBackUptoRow : OpenClaim := { program := "ytjibmfkhhljhcaa", sum := "1c85f23fab28c98495223f5191423e82e870666030334c085ca487579e29db76", func := "ephemeris/ephemerislaw9.DictBack", spec := "dictBack", apart := false, narrowed := true }
def DictBackUptoSaid : Prop := dictBackUptoRow.holds Try.pinned (OpenSpec.upto dictBackSpec)

end Rows
end Go.Proofs.Ytjibmfkhhljhcaa
