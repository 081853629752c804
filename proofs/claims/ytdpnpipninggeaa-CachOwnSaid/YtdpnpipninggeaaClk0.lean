/- Find, where its answer is known; two structs, where it is known whether they are the same. -/
import Derived.Test.YtdpnpipninggeaaStc
import Derived.Test.YtdpnpipninggeaaNum
import Derived.Test.YtdpnpipninggeaaTab
import Derived.Test.YtdpnpipninggeaaClk8
import Derived.Test.YtdpnpipninggeaaStEq
import Derived.Test.YtdpnpipninggeaaClk9
set_option linter.unusedSimpArgs false
set_option linter.unusedVariables false
set_option maxRecDepth 20000
set_option maxHeartbeats 4000000
namespace Go.Proofs.Ytdpnpipninggeaa
open Go
section
variable {P : Program} {T : Tab P} {fn : Func} {ρ σ : Hp} {Q : Value → HP} {k : List Item} {md : Bool} {X : World → Hp → Act → World → Prop} {env : Env} {Hs : List HP} {ops : Array Oper} {l : List Oper}
variable {d : Tmp} {ty : TypeId} {pos : String} {aft : Array Edge}
theorem WL.eqFe {x y : Operand} {t t' : TypeId} {cs cs' : List Value} {fs : List Field} {s1 s2 : Nat} {v : Value} {c b z : Bool} (hn : Nat.ble (d + 1) fn.ntmps = true)
  (hx : ev env x = some (.agg cs.toArray)) (hy : ev env y = some (.agg cs'.toArray)) (ht : T.tt t = some ⟨.struct fs.toArray, s1, s2, v, c⟩) (hF : FE T 2 cs cs' fs b)
  (hg : P.eqGuardType P.depth t = false) (hs : P.stoodInHeld t = false) (hz : b = z)
  (h : WL md P fn ρ X ops l ((d, .bool z) :: env) Hs) : WL md P fn ρ X ops (⟨some d, .binOp .eql t x y t', ty, pos, aft, none⟩ :: l) env Hs := by
 subst hz
 exact WL.eqF hn hx hy ht hF hg hs h
theorem WL.neFe {x y : Operand} {t t' : TypeId} {cs cs' : List Value} {fs : List Field} {s1 s2 : Nat} {v : Value} {c b z : Bool} (hn : Nat.ble (d + 1) fn.ntmps = true)
  (hx : ev env x = some (.agg cs.toArray)) (hy : ev env y = some (.agg cs'.toArray)) (ht : T.tt t = some ⟨.struct fs.toArray, s1, s2, v, c⟩) (hF : FE T 2 cs cs' fs b)
  (hg : P.eqGuardType P.depth t = false) (hs : P.stoodInHeld t = false) (hz : b = z)
  (h : WL md P fn ρ X ops l ((d, .bool (!z)) :: env) Hs) : WL md P fn ρ X ops (⟨some d, .binOp .neq t x y t', ty, pos, aft, none⟩ :: l) env Hs := by
 subst hz
 exact WL.neF hn hx hy ht hF hg hs h
end
attribute [local irreducible] W WL Fn Buf ROs SL eptr box Rd Src bndOK WD RB Reads In Own fndK
theorem find15_e (ρ : Hp) (mo ta : Int) (v : Value) (L : List Pg) (h1 h2 h3 : Int) (a b c : Int) (j : Int) (r0 : ROs ρ 7 v (L.flatMap pgC)) (hl : L.length ≤ 1000000) (hj : fndK L ⟨a, b, c⟩ = j) :
  Fn Try.prog 31 #[.agg #[.int .i64 mo, .int .i64 ta, v, .int .i64 h1, .int .i64 h2, .int .i64 h3], .agg #[.int .i64 a, .int .i64 b, .int .i64 c]] ρ [] (Just (.int .i64 j)) := by
 rw [← hj]
 exact find15_c ρ mo ta v L h1 h2 h3 a b c r0 hl
end Go.Proofs.Ytdpnpipninggeaa
/- A pin, where its answer is known. -/
set_option linter.unusedSimpArgs false
set_option linter.unusedVariables false
set_option maxRecDepth 20000
set_option maxHeartbeats 4000000
namespace Go.Proofs.Ytdpnpipninggeaa
open Go
attribute [local irreducible] W WL Fn Buf ROs SL eptr box Rd Src bndOK WD RB Reads In Own fndK pinP
theorem pin_e (ρ : Hp) (c : Clk) (v : Value) (k : Ky) (m : Int) (d : Clk) (ok : Bool) (hB : ClkB c) (r0 : ROs ρ 7 v (c.pages.flatMap pgC)) (hd : pinP c k m = (d, ok)) :
  Fn Try.prog 37 #[.agg #[.int .i64 c.most, .int .i64 c.target, v, .int .i64 (c.hot : Int), .int .i64 (c.cold : Int), .int .i64 (c.test : Int)], .agg #[.int .i64 k.a, .int .i64 k.b, .int .i64 k.c], .int .i64 m] ρ [] (fun r h => ∃ v, (r = .tuple #[.agg #[.int .i64 d.most, .int .i64 d.target, v, .int .i64 (d.hot : Int), .int .i64 (d.cold : Int), .int .i64 (d.test : Int)], .bool ok] ∧ SL v d.pages.length) ∧ sepl [Buf 7 v (d.pages.flatMap pgC)] h) := by
 have := pin_c ρ c v k m hB r0
 rw [hd] at this
 exact this
end Go.Proofs.Ytdpnpipninggeaa

/- A look, and a drop, where the answer is known. -/
set_option linter.unusedSimpArgs false
set_option linter.unusedVariables false
set_option maxRecDepth 20000
set_option maxHeartbeats 4000000
namespace Go.Proofs.Ytdpnpipninggeaa
open Go
attribute [local irreducible] W WL Fn Buf ROs SL eptr box Rd Src bndOK WD RB Reads In Own fndK touchP dropP
theorem touch_e (ρ : Hp) (c : Clk) (v : Value) (k : Ky) (d : Clk) (ok : Bool) (hB : ClkB c) (r0 : ROs ρ 7 v (c.pages.flatMap pgC)) (hd : touchP c k = (d, ok)) :
  Fn Try.prog 22 #[.agg #[.int .i64 c.most, .int .i64 c.target, v, .int .i64 (c.hot : Int), .int .i64 (c.cold : Int), .int .i64 (c.test : Int)], .agg #[.int .i64 k.a, .int .i64 k.b, .int .i64 k.c]] ρ [] (fun r h => ∃ v, (r = .tuple #[.agg #[.int .i64 d.most, .int .i64 d.target, v, .int .i64 (d.hot : Int), .int .i64 (d.cold : Int), .int .i64 (d.test : Int)], .bool ok] ∧ SL v d.pages.length) ∧ sepl [Buf 7 v (d.pages.flatMap pgC)] h) := by
 have := touch_c ρ c v k hB r0
 rw [hd] at this
 exact this
end Go.Proofs.Ytdpnpipninggeaa
