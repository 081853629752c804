/- One hand alone, as the document has it: Do over ops that are written out. -/
import Derived.Test.YtbebhmdjnneimaaMdlLw
import Derived.Test.YtbebhmdjnneimaaMref3
set_option linter.unusedSimpArgs false
set_option linter.unusedVariables false
namespace Go.Proofs.Ytbebhmdjnneimaa
open Go
theorem doRX_c (ρ : Hp) (u : Value) (n : Nat) (m : Mdl) (k s i t v lo hi nn : Int) (hm : RMdl ρ u m) (hI : MInv n m) (hn : n ≤ 1000000) :
    Fn Try.prog 20 #[u, .agg #[.int .i64 k, .int .i64 s, .int .i64 i, .int .i64 t, .int .u64 v, .int .i64 lo, .int .i64 hi, .int .i64 nn]] ρ [] (DoR (doM m ⟨k, s, i, t, v, lo, hi, nn⟩).1 (doM m ⟨k, s, i, t, v, lo, hi, nn⟩).2) :=
  doR_c ρ u n m ⟨k, s, i, t, v, lo, hi, nn⟩ hm hI hn
end Go.Proofs.Ytbebhmdjnneimaa
