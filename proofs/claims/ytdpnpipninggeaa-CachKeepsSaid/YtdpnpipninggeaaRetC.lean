/- Three results, of which the first stands in a variable of its own. -/
import Derived.Test.YtdpnpipninggeaaGrow
set_option linter.unusedSimpArgs false
set_option linter.unusedVariables false
namespace Go.Proofs.Ytdpnpipninggeaa
open Go
section
variable {P : Program} {T : Tab P} {fn : Func} {ρ : Hp} {Q : Value → HP} {k : List Item} {env : Env} {Hs : List HP}
theorem W.retC3 {t u s' : Tmp} {rt : TypeId} {b j : Nat} {c : List Value} {v x : Value} {Ty : TypeId} {ti : TyI} (hr : fn.results = #[.cell t rt, .tmp u, .tmp s']) (hv : look env t = some (.pointer (some ⟨b, 0, none⟩))) (hu : look env u = some v) (hs : look env s' = some x) (ht : T.tt rt = some ti) (h1 : oneCellT ti.desc = false)
    (hH : nthH Hs j = some (box b c Ty)) (hl : Nat.beq c.length ti.size = true) (h : ∀ h, sepl (Hs.eraseIdx j) h → Q (.tuple #[.agg c.toArray, v, x]) h) : W P fn ρ Q (.code .ret :: k) env Hs := by
  intro _ _ w hh a s p e
  obtain ⟨hld, z, hz, sz⟩ := cell_ret s p ht h1 hH hl
  refine .ret e.defers (v := .tuple #[.agg c.toArray, v, x]) ?_ ⟨_, _, rfl, sz, h _ hz⟩
  have g1 := e.at' t _ hv
  have g2 := e.at' u _ hu
  have g3 := e.at' s' _ hs
  simp [results, hr, g1, g2, g3, asAddr, hld]
end
end Go.Proofs.Ytdpnpipninggeaa
