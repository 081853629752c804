/- A part is brought to the front. -/
import Derived.Test.YtdpnpipninggeaaOwn
import Derived.Test.YtdpnpipninggeaaStc
import Derived.Test.YtdpnpipninggeaaNum
import Derived.Test.YtdpnpipninggeaaTab
import Derived.Test.YtdpnpipninggeaaMEq
set_option linter.unusedSimpArgs false
set_option linter.unusedVariables false
namespace Go.Proofs.Ytdpnpipninggeaa
open Go
theorem Sel.refl' : ∀ L : List HP, Sel L L
  | [] => .nil
  | p :: L => .cons 0 (by rw [nthH_eq]; rfl) (by simpa using Sel.refl' L)
section
variable {P : Program} {T : Tab P} {fn : Func} {ρ : Hp} {X : World → Hp → Act → World → Prop} {env : Env} {Hs : List HP} {ops : Array Oper} {l : List Oper}
theorem WL.bring (j : Nat) {p : HP} {H' : List HP} (hj : nthH Hs j = some p) (hF : FL (p :: Hs.eraseIdx j) H') (h : WL false P fn ρ X ops l env H') : WL false P fn ρ X ops l env Hs := by
  have := hF.eq
  subst this
  exact WL.fit (Sel.cons j hj (Sel.refl' _)) h
end
end Go.Proofs.Ytdpnpipninggeaa
/- Rows of samples, where it is known whether they are the same. -/
set_option linter.unusedSimpArgs false
set_option linter.unusedVariables false
set_option maxRecDepth 20000
set_option maxHeartbeats 4000000
namespace Go.Proofs.Ytdpnpipninggeaa
open Go
attribute [local irreducible] W WL Fn Buf ROs SL eptr box Rd Src bndOK WD RB Reads In Own sameL
theorem refM_e (ρ : Hp) (v v' : Value) (l l' : List Smp) (z : Bool) (hv : ROs ρ 2 v (l.flatMap smC)) (hv' : ROs ρ 2 v' (l'.flatMap smC)) (hb : l.length ≤ 100000000) (hz : sameL l l' = z) :
    Fn Try.prog 12 #[v, v'] ρ [] (Just (.bool z)) := Fn.val (congrArg Value.bool hz) (refM_c ρ v v' l l' hv hv' hb)
end Go.Proofs.Ytdpnpipninggeaa
