/- Rows over slices of structs of two numbers. -/
import Derived.Test.YtdpnpipninggeaaDoorRow
import Derived.Deep.SlicePairs
set_option linter.unusedSimpArgs false
set_option linter.unusedVariables false
namespace Go.Proofs.YtdpnpipninggeaaDoor
open Go Go.ChangeShapes Go.WideShapes Go.RowKit

def twoC (k0 k1 : IntKind) (q : Int × Int) : List Value := [.int k0 q.1, .int k1 q.2]
def IsRow2 (k0 k1 : IntKind) (w : World) (a : Option Addr) (len cap : Nat) (zs : List (Int × Int)) : Prop :=
  (a = none ∧ len = 0 ∧ cap = 0 ∧ zs = []) ∨
  ∃ x, a = some x ∧ len ≤ cap ∧ cap ≤ maxLen ∧ zs.length = cap ∧ (∀ i q, zs[i]? = some q → w.cell? (x.add (i * 2)) = some (.int k0 q.1) ∧ w.cell? (x.add (i * 2 + 1)) = some (.int k1 q.2)) ∧ ∀ q ∈ zs, (Lit.int k0 q.1).wf = true ∧ (Lit.int k1 q.2).wf = true
section
variable {H : Type} {enc : TypeId × Value → H} {P : Program} {W : World} {base : Nat} {spare : Nat → Bool} {held : Bool}
end
end Go.Proofs.YtdpnpipninggeaaDoor
