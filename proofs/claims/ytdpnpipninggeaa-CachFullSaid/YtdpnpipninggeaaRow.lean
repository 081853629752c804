/- From what the logic says of a law to what its row asks. -/
import Derived.Test.YtdpnpipninggeaaApp
import Derived.SizedLaws
import Derived.ChangeSlices
import Derived.Below
set_option linter.unusedSimpArgs false
set_option linter.unusedVariables false
namespace Go.Proofs.Ytdpnpipninggeaa
open Go Go.ChangeShapes Go.WideShapes Go.RowKit

def heapOf (w : World) : Hp := fun b => w.heap[b]?
theorem St.below {ρ : Hp} {w w' : World} {h' : Hp} (s : St ρ w nohp w' h') : Below w.heap.size w w' :=
  ⟨s.os, s.tape, s.output, s.size, fun k hk => s.rest k hk rfl⟩
theorem calls_of_fn {P : Program} {f : FuncId} {args : Array Value} {w : World} {Q : Value → HP} (h : Fn P f args (heapOf w) [] Q) (hq : ∀ r h, Q r h → r = .bool true) :
    Calls P f args w fun e w' => e = .returned (.bool true) ∧ Below w.heap.size w w' := by
  refine (h.2 w nohp (fun b o hb => by cases hb) (fun b o hb => hb) (dj_nohp _) emp_nohp).mono ?_
  rintro e w' ⟨r, h', rfl, s, q⟩
  rw [hq _ _ q]
  exact ⟨rfl, s.below⟩

def IsRow (k : IntKind) (w : World) (a : Option Addr) (len cap : Nat) (zs : List Int) : Prop :=
  (a = none ∧ len = 0 ∧ cap = 0 ∧ zs = []) ∨
  ∃ x, a = some x ∧ len ≤ cap ∧ cap ≤ maxLen ∧ zs.length = cap ∧ (∀ i, i < zs.length → w.cell? (x.add i) = some (.int k (zs.getD i 0))) ∧ ∀ n ∈ zs, (Lit.int k n).wf = true

/- what a well-formed number is -/
end Go.Proofs.Ytdpnpipninggeaa
