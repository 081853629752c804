/- What is the same: rows of samples, as the program and the document's answer ask it. -/
import Derived.Test.YtbebhmdjnneimaaStc
import Derived.Test.YtbebhmdjnneimaaNum
import Derived.Test.YtbebhmdjnneimaaTab
import Derived.Test.YtbebhmdjnneimaaStEq
import Derived.Test.YtbebhmdjnneimaaModl1
set_option linter.unusedSimpArgs false
set_option linter.unusedVariables false
set_option maxRecDepth 20000
set_option maxHeartbeats 4000000
namespace Go.Proofs.Ytbebhmdjnneimaa
open Go
attribute [local irreducible] W WL Fn Buf ROs SL eptr box Rd Src bndOK WD RB Reads In Own
theorem take_eq_succ {α : Type} {L M : List α} {i : Nat} {a : α} (h : L.take i = M.take i) (ha : L[i]? = some a) (hb : M[i]? = some a) : L.take (i + 1) = M.take (i + 1) := by
 rw [List.take_add_one, List.take_add_one, h, ha, hb]
theorem ne_of_get {α : Type} {L M : List α} {i : Nat} {a b : α} (ha : L[i]? = some a) (hb : M[i]? = some b) (h : a ≠ b) : L ≠ M := by
 intro e; subst e; rw [ha] at hb; exact h (Option.some.inj hb)
end Go.Proofs.Ytbebhmdjnneimaa
