/- append of so many zero values, over whatever program. -/
import Derived.Test.YtdpnpipninggeaaGreatDoorStc
set_option linter.unusedSimpArgs false
set_option linter.unusedVariables false
namespace Go.Proofs.YtdpnpipninggeaaGreatDoor
open Go
section
variable {P : Program} {T : Tab P} {fn : Func} {ρ : Hp} {Q : Value → HP} {k : List Item} {md : Bool} {X : World → Hp → Act → World → Prop} {env : Env} {Hs : List HP} {ops : Array Oper} {l : List Oper}
variable {d : Tmp} {ty : TypeId} {pos : String} {aft : Array Edge}
end
end Go.Proofs.YtdpnpipninggeaaGreatDoor
