/- Maps whose keys are whole numbers: what is made, looked up, set. Over whatever program. -/
import Derived.Test.YtbebhmdjnneimaaStc
import Derived.MapKept
set_option linter.unusedSimpArgs false
set_option linter.unusedVariables false
namespace Go.Proofs.Ytbebhmdjnneimaa
open Go
/-- what stands under a key -/
def kget : List (Int × Value) → Int → Option Value
  | [], _ => none
  | p :: l, k => if k = p.1 then some p.2 else kget l k
def kset : List (Int × Value) → Int → Value → List (Int × Value)
  | [], k, v => [(k, v)]
  | p :: l, k, v => if k = p.1 then (k, v) :: l else p :: kset l k v
def lfind : List (Int × Value) → Int → Nat → Option (Nat × Value)
  | [], _, _ => none
  | p :: l, k, i => if k = p.1 then some (i, p.2) else lfind l k (i + 1)
/-- a map's entries -/
def KV (K : IntKind) (l : List (Int × Value)) (es : List MapEntry) : Prop := es.map (fun e => (e.key, e.val)) = l.map (fun p => (Value.int K p.1, p.2))
/-- a map: its entries, in the order in which they came -/
def Mp (K : IntKind) (b : Nat) (l : List (Int × Value)) : HP := fun h => ∃ es clock, KV K l es.toList ∧ pts b (.map es clock) h
section
variable {P : Program} {T : Tab P} {fn : Func} {ρ σ : Hp} {Q : Value → HP} {k : List Item} {md : Bool} {X : World → Hp → Act → World → Prop} {env : Env} {Hs : List HP} {ops : Array Oper} {l : List Oper}
variable {d : Tmp} {ty : TypeId} {pos : String} {aft : Array Edge} {n fuel : Nat} {listed : Array Bool}
theorem mkMap_run (t : TypeId) (w : World) : (Instr.makeMap t none).run P w = .ok (.map (some w.heap.size)) (w.alloc (.map #[] 0)) := rfl
/-- what a look-up gives -/
def lookV (z : Value) (o : Option Value) (commaOk : Bool) : Value := if commaOk then .tuple #[o.getD z, .bool o.isSome] else o.getD z
end
end Go.Proofs.Ytbebhmdjnneimaa
