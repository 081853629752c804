/- Arrays: variables of them, one cell set, results in variables, '==' of equal ones. Over whatever program. -/
import Derived.Test.YtbebhmdjnneimaaVal
import Derived.ChangeKeysEq
set_option linter.unusedSimpArgs false
set_option linter.unusedVariables false
namespace Go.Proofs.Ytbebhmdjnneimaa
open Go

section
variable {P : Program} {T : Tab P} {fn : Func} {ρ σ : Hp} {Q : Value → HP} {k : List Item} {md : Bool} {X : World → Hp → Act → World → Prop} {env : Env} {Hs : List HP} {ops : Array Oper} {l : List Oper}
variable {d : Tmp} {ty : TypeId} {pos : String} {aft : Array Edge} {n fuel : Nat} {listed : Array Bool}

theorem WL.stX {x y : Operand} {t : TypeId} {b off j : Nat} {c c' : List Value} {Ty : TypeId} {v : Value} {ti : TyI} {Hs' : List HP} (hx : ev env x = some (.pointer (some ⟨b, off, none⟩))) (hy : ev env y = some v)
    (ht : T.tt t = some ti) (hsz : ti.size = 1) (hv : v.oneCell' = true) (hH : nthH Hs j = some (box b c Ty)) (hl : off < c.length) (hc : c.set off v = c') (hF : FL (Hs.set j (box b c' Ty)) Hs')
    (h : WL false P fn ρ X ops l env Hs') : WL false P fn ρ X ops (⟨none, .store t x y, ty, pos, aft, none⟩ :: l) env Hs :=
  .st (T := T) hx hy ht hsz hv (by rw [← nthH_eq]; exact hH) hl (by rw [hc, hF.eq]; exact h)
theorem WD.lastF {ol : List Oper} {H0 : List HP} (hσ : sepl H0 σ) (hB : (headDone n listed && Region.seqB .any ol.toArray fuel n listed) = true) (hF : FL (ol.drop n) l) (hfu : Nat.beq l.length fuel = true)
    (h : WL false P fn ρ X ol.toArray l env (H0 ++ Hs)) : WD P fn ρ σ X ol.toArray n fuel listed env Hs :=
  .last hσ hB (by rw [← hF.eq]) (Nat.eq_of_beq_eq_true hfu) h
end
end Go.Proofs.Ytbebhmdjnneimaa
