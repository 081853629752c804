/- Arrays: variables of them, one cell set, results in variables, '==' of equal ones. Over whatever program. -/
import Derived.Test.YtbebhmdjnneimaaVal
import Derived.ChangeKeysEq
set_option linter.unusedSimpArgs false
set_option linter.unusedVariables false
namespace Go.Proofs.Ytbebhmdjnneimaa
open Go

section
variable {P : Program} {T : Tab P} {fn : Func} {ρ σ : Hp} {Q : Value → HP} {k : List Item} {md : Bool} {X : World → Hp → Act → World → Prop} {env : Env} {Hs : List HP} {ops : Array Oper} {l : List Oper}
variable {d : Tmp} {ty : TypeId} {pos : String} {aft : Array Edge} {n fuel : Nat} {listed : Array Bool}

theorem WD.lastF {ol : List Oper} {H0 : List HP} (hσ : sepl H0 σ) (hB : (headDone n listed && Region.seqB .any ol.toArray fuel n listed) = true) (hF : FL (ol.drop n) l) (hfu : Nat.beq l.length fuel = true)
    (h : WL false P fn ρ X ol.toArray l env (H0 ++ Hs)) : WD P fn ρ σ X ol.toArray n fuel listed env Hs :=
  .last hσ hB (by rw [← hF.eq]) (Nat.eq_of_beq_eq_true hfu) h
end
end Go.Proofs.Ytbebhmdjnneimaa
