/- Find, where its answer is known; two structs, where it is known whether they are the same. -/
import Derived.Test.YtbebhmdjnneimaaStc
import Derived.Test.YtbebhmdjnneimaaNum
import Derived.Test.YtbebhmdjnneimaaTab
import Derived.Test.YtbebhmdjnneimaaClk8
import Derived.Test.YtbebhmdjnneimaaStEq
set_option linter.unusedSimpArgs false
set_option linter.unusedVariables false
set_option maxRecDepth 20000
set_option maxHeartbeats 4000000
namespace Go.Proofs.Ytbebhmdjnneimaa
open Go
section
variable {P : Program} {T : Tab P} {fn : Func} {ρ σ : Hp} {Q : Value → HP} {k : List Item} {md : Bool} {X : World → Hp → Act → World → Prop} {env : Env} {Hs : List HP} {ops : Array Oper} {l : List Oper}
variable {d : Tmp} {ty : TypeId} {pos : String} {aft : Array Edge}
theorem WL.eqFe {x y : Operand} {t t' : TypeId} {cs cs' : List Value} {fs : List Field} {s1 s2 : Nat} {v : Value} {c b z : Bool} (hn : Nat.ble (d + 1) fn.ntmps = true)
  (hx : ev env x = some (.agg cs.toArray)) (hy : ev env y = some (.agg cs'.toArray)) (ht : T.tt t = some ⟨.struct fs.toArray, s1, s2, v, c⟩) (hF : FE T 2 cs cs' fs b)
  (hg : P.eqGuardType P.depth t = false) (hs : P.stoodInHeld t = false) (hz : b = z)
  (h : WL md P fn ρ X ops l ((d, .bool z) :: env) Hs) : WL md P fn ρ X ops (⟨some d, .binOp .eql t x y t', ty, pos, aft, none⟩ :: l) env Hs := by
 subst hz
 exact WL.eqF hn hx hy ht hF hg hs h
theorem WL.neFe {x y : Operand} {t t' : TypeId} {cs cs' : List Value} {fs : List Field} {s1 s2 : Nat} {v : Value} {c b z : Bool} (hn : Nat.ble (d + 1) fn.ntmps = true)
  (hx : ev env x = some (.agg cs.toArray)) (hy : ev env y = some (.agg cs'.toArray)) (ht : T.tt t = some ⟨.struct fs.toArray, s1, s2, v, c⟩) (hF : FE T 2 cs cs' fs b)
  (hg : P.eqGuardType P.depth t = false) (hs : P.stoodInHeld t = false) (hz : b = z)
  (h : WL md P fn ρ X ops l ((d, .bool (!z)) :: env) Hs) : WL md P fn ρ X ops (⟨some d, .binOp .neq t x y t', ty, pos, aft, none⟩ :: l) env Hs := by
 subst hz
 exact WL.neF hn hx hy ht hF hg hs h
end
/-- two keys, as the machine sees them -/
theorem ky_dec (x y : Ky) : (decide (x.a = y.a) && (decide (x.b = y.b) && (decide (x.c = y.c) && true))) = decide (x = y) := by
 obtain ⟨a, b, c⟩ := x
 obtain ⟨a', b', c'⟩ := y
 rw [Bool.eq_iff_iff]
 simp [Ky.mk.injEq]
attribute [local irreducible] W WL Fn Buf ROs SL eptr box Rd Src bndOK WD RB Reads In Own fndK
end Go.Proofs.Ytbebhmdjnneimaa
