/- A part is brought to the front. -/
import Derived.Test.YtdpnpipninggeaaOwn
set_option linter.unusedSimpArgs false
set_option linter.unusedVariables false
namespace Go.Proofs.Ytdpnpipninggeaa
open Go
theorem Sel.refl' : ∀ L : List HP, Sel L L
  | [] => .nil
  | p :: L => .cons 0 (by rw [nthH_eq]; rfl) (by simpa using Sel.refl' L)
section
variable {P : Program} {T : Tab P} {fn : Func} {ρ : Hp} {X : World → Hp → Act → World → Prop} {env : Env} {Hs : List HP} {ops : Array Oper} {l : List Oper}
theorem WL.bring (j : Nat) {p : HP} {H' : List HP} (hj : nthH Hs j = some p) (hF : FL (p :: Hs.eraseIdx j) H') (h : WL false P fn ρ X ops l env H') : WL false P fn ρ X ops l env Hs := by
  have := hF.eq
  subst this
  exact WL.fit (Sel.cons j hj (Sel.refl' _)) h
end
end Go.Proofs.Ytdpnpipninggeaa
