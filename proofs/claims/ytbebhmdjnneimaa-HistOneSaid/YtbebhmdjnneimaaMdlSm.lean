/- The four comparisons, where it is known what they tell. -/
import Derived.Test.YtbebhmdjnneimaaMdlRx
set_option linter.unusedSimpArgs false
set_option linter.unusedVariables false
set_option maxRecDepth 20000
namespace Go.Proofs.Ytbebhmdjnneimaa
open Go
theorem sameR_e (ρ : Hp) (v v' : Value) (a b : Rst) (c : Bool) (ha : RRst ρ v a) (hb : RRst ρ v' b) (hl : a.list.length ≤ 100000000) (hc : sameRst a b = c) :
    Fn Try.prog 23 #[v, v'] ρ [] (Just (.bool c)) := hc ▸ sameR_c ρ v v' a b ha hb hl
end Go.Proofs.Ytbebhmdjnneimaa
