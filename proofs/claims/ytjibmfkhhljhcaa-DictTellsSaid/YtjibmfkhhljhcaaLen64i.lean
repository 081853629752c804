/- math/bits.Len64 of a number that is told as a whole one. -/
import Derived.Test.YtjibmfkhhljhcaaLen64
set_option linter.unusedSimpArgs false
set_option linter.unusedVariables false
namespace Go.Proofs.Ytjibmfkhhljhcaa
open Go
-- CALL 32 refine WL.callV rfl rfl (fun x p d => len64_i _ _ (by omega) (by omega)) ?_
theorem len64_i (ρ : Hp) (x : Int) (h0 : 0 ≤ x) (hx : x < 18446744073709551616) : Fn Try.prog 32 #[.int .u64 x] ρ [] (Just (.int .i64 (lenB 64 x.toNat : Int))) := by
  have := len64_c ρ x.toNat (by omega)
  rw [show ((x.toNat : Nat) : Int) = x by omega] at this
  exact this
end Go.Proofs.Ytjibmfkhhljhcaa
