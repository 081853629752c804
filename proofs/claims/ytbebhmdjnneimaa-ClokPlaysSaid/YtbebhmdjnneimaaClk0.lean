/- Find, where its answer is known; two structs, where it is known whether they are the same. -/
import Derived.Test.YtbebhmdjnneimaaStc
import Derived.Test.YtbebhmdjnneimaaNum
import Derived.Test.YtbebhmdjnneimaaTab
import Derived.Test.YtbebhmdjnneimaaClk8
import Derived.Test.YtbebhmdjnneimaaStEq
set_option linter.unusedSimpArgs false
set_option linter.unusedVariables false
set_option maxRecDepth 20000
set_option maxHeartbeats 4000000
namespace Go.Proofs.Ytbebhmdjnneimaa
open Go
section
variable {P : Program} {T : Tab P} {fn : Func} {ρ σ : Hp} {Q : Value → HP} {k : List Item} {md : Bool} {X : World → Hp → Act → World → Prop} {env : Env} {Hs : List HP} {ops : Array Oper} {l : List Oper}
variable {d : Tmp} {ty : TypeId} {pos : String} {aft : Array Edge}
theorem WL.eqFe {x y : Operand} {t t' : TypeId} {cs cs' : List Value} {fs : List Field} {s1 s2 : Nat} {v : Value} {c b z : Bool} (hn : Nat.ble (d + 1) fn.ntmps = true)
  (hx : ev env x = some (.agg cs.toArray)) (hy : ev env y = some (.agg cs'.toArray)) (ht : T.tt t = some ⟨.struct fs.toArray, s1, s2, v, c⟩) (hF : FE T 2 cs cs' fs b)
  (hg : P.eqGuardType P.depth t = false) (hs : P.stoodInHeld t = false) (hz : b = z)
  (h : WL md P fn ρ X ops l ((d, .bool z) :: env) Hs) : WL md P fn ρ X ops (⟨some d, .binOp .eql t x y t', ty, pos, aft, none⟩ :: l) env Hs := by
 subst hz
 exact WL.eqF hn hx hy ht hF hg hs h
theorem WL.neFe {x y : Operand} {t t' : TypeId} {cs cs' : List Value} {fs : List Field} {s1 s2 : Nat} {v : Value} {c b z : Bool} (hn : Nat.ble (d + 1) fn.ntmps = true)
  (hx : ev env x = some (.agg cs.toArray)) (hy : ev env y = some (.agg cs'.toArray)) (ht : T.tt t = some ⟨.struct fs.toArray, s1, s2, v, c⟩) (hF : FE T 2 cs cs' fs b)
  (hg : P.eqGuardType P.depth t = false) (hs : P.stoodInHeld t = false) (hz : b = z)
  (h : WL md P fn ρ X ops l ((d, .bool (!z)) :: env) Hs) : WL md P fn ρ X ops (⟨some d, .binOp .neq t x y t', ty, pos, aft, none⟩ :: l) env Hs := by
 subst hz
 exact WL.neF hn hx hy ht hF hg hs h
end
/-- two keys, as the machine sees them -/
theorem ky_dec (x y : Ky) : (decide (x.a = y.a) && (decide (x.b = y.b) && (decide (x.c = y.c) && true))) = decide (x = y) := by
 obtain ⟨a, b, c⟩ := x
 obtain ⟨a', b', c'⟩ := y
 rw [Bool.eq_iff_iff]
 simp [Ky.mk.injEq]
attribute [local irreducible] W WL Fn Buf ROs SL eptr box Rd Src bndOK WD RB Reads In Own fndK
theorem find15_e (ρ : Hp) (mo ta : Int) (v : Value) (L : List Pg) (h1 h2 h3 : Int) (a b c : Int) (j : Int) (r0 : ROs ρ 7 v (L.flatMap pgC)) (hl : L.length ≤ 1000000) (hj : fndK L ⟨a, b, c⟩ = j) :
  Fn Try.prog 33 #[.agg #[.int .i64 mo, .int .i64 ta, v, .int .i64 h1, .int .i64 h2, .int .i64 h3], .agg #[.int .i64 a, .int .i64 b, .int .i64 c]] ρ [] (Just (.int .i64 j)) := by
 rw [← hj]
 exact find15_c ρ mo ta v L h1 h2 h3 a b c r0 hl
end Go.Proofs.Ytbebhmdjnneimaa
