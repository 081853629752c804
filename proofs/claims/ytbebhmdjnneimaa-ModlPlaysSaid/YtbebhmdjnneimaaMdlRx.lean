/- One hand alone, as the document has it: Do over ops that are written out. -/
import Derived.Test.YtbebhmdjnneimaaMdlLw
import Derived.Test.YtbebhmdjnneimaaMref3
set_option linter.unusedSimpArgs false
set_option linter.unusedVariables false
namespace Go.Proofs.Ytbebhmdjnneimaa
open Go
-- CALL 20 refine WL.callF rfl rfl (fun x p d => doRX_c _ _ _ _ _ _ _ _ _ _ _ _ $RM (by assumption) (by first | assumption | omega)) (fun r$N => ?_) ;; refine WL.opens (α := (Value × Value × Value)) (φ := fun x => r$N = .tuple #[.agg #[x.1, x.2.1, .int .i64 _], .agg #[.int .i64 _, .int .i64 _, x.2.2]] ∧ SL x.1 _ ∧ SL x.2.1 _ ∧ SL x.2.2 _) (ps := fun x => [OMdl (.agg #[x.1, x.2.1, .int .i64 _]) _, ORst (.agg #[.int .i64 _, .int .i64 _, x.2.2]) _]) 0 rfl (fun h q => DoR.open q) $FL ?_ ;; rintro ⟨sv$N, iv$N, u$N⟩ ⟨es$N, sa$N, sb$N, sc$N⟩ ;; subst es$N ;; dsimp only [List.cons_append, List.nil_append] at sa$N sb$N sc$N ⊢
theorem doRX_c (ρ : Hp) (u : Value) (n : Nat) (m : Mdl) (k s i t v lo hi nn : Int) (hm : RMdl ρ u m) (hI : MInv n m) (hn : n ≤ 1000000) :
    Fn Try.prog 20 #[u, .agg #[.int .i64 k, .int .i64 s, .int .i64 i, .int .i64 t, .int .u64 v, .int .i64 lo, .int .i64 hi, .int .i64 nn]] ρ [] (DoR (doM m ⟨k, s, i, t, v, lo, hi, nn⟩).1 (doM m ⟨k, s, i, t, v, lo, hi, nn⟩).2) :=
  doR_c ρ u n m ⟨k, s, i, t, v, lo, hi, nn⟩ hm hI hn
end Go.Proofs.Ytbebhmdjnneimaa
