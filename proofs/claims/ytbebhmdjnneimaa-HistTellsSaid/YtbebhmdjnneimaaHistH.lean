/- The document's Check, where it is known what it tells. -/
import Derived.Test.YtbebhmdjnneimaaHistM
import Derived.Test.YtbebhmdjnneimaaHistAw
import Derived.Test.YtbebhmdjnneimaaHistLaw
set_option linter.unusedSimpArgs false
set_option linter.unusedVariables false
set_option maxRecDepth 20000
namespace Go.Proofs.Ytbebhmdjnneimaa
open Go
theorem rcheck_e (ρ : Hp) (v w : Value) (L : List (Evt × Value)) (o : List PK) (c : Bool) (r0 : ROs ρ 14 v (L.flatMap evC)) (h0 : okL ρ L) (hl : L.length ≤ 1000) (r1 : ROs ρ 2 w (o.flatMap (twoC .i64 .i64))) (hl1 : o.length ≤ 1000) (h : chkR L o = c) :
  Fn Try.prog 29 #[v, w] ρ [] (Just (.bool c)) :=
 Fn.val (congrArg Value.bool h) (rcheck_c ρ v w L o r0 h0 hl r1 hl1)
end Go.Proofs.Ytbebhmdjnneimaa
/- hist.Check, where it is known what it tells. -/
set_option linter.unusedSimpArgs false
set_option linter.unusedVariables false
set_option maxRecDepth 20000
namespace Go.Proofs.Ytbebhmdjnneimaa
open Go
theorem okL.mono {ρ ρ' : Hp} {L : List (Evt × Value)} (h : okL ρ L) (le : ∀ b o, ρ b = some o → ρ' b = some o) : okL ρ' L := fun p hp => ⟨(h p hp).1.mono le, (h p hp).2⟩
theorem okL.wide {ρ x : Hp} {L : List (Evt × Value)} (h : okL ρ L) : okL (join ρ x) L := h.mono fun _ _ => join_left
theorem okL.app {ρ : Hp} {L M : List (Evt × Value)} (h : okL ρ L) (q : okL ρ M) : okL ρ (L ++ M) := fun p hp => (List.mem_append.1 hp).elim (h p) (q p)
theorem okL.sub {ρ : Hp} {L M : List (Evt × Value)} (h : okL ρ L) (q : ∀ p ∈ M, p ∈ L) : okL ρ M := fun p hp => h p (q p hp)
theorem check_e (ρ : Hp) (v w : Value) (L : List (Evt × Value)) (o : List PK) (ce co : List Value) (c : Bool) (r0 : ROs ρ 14 v ce) (he : ce = L.flatMap evC) (h0 : okL ρ L) (hl : L.length ≤ 1000) (r1 : ROs ρ 2 w co) (ho : co = o.flatMap (twoC .i64 .i64)) (hl1 : o.length ≤ 1000) (h : chkH L o = c) :
  Fn Try.prog 28 #[v, w] ρ [] (Just (.bool c)) := by
 subst he ho
 exact Fn.val (congrArg Value.bool h) (check_c ρ v w L o r0 h0 hl r1 hl1)
end Go.Proofs.Ytbebhmdjnneimaa
