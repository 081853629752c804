/- slices.Clip of bytes: what it does. -/
import Derived.Test.YtjibmfkhhljhcaaStc
import Derived.Test.YtjibmfkhhljhcaaNum
import Derived.Test.YtjibmfkhhljhcaaTab
set_option linter.unusedSimpArgs false
set_option linter.unusedVariables false
set_option maxRecDepth 20000
namespace Go.Proofs.Ytjibmfkhhljhcaa
open Go
attribute [local irreducible] W WL Fn Buf ROs SL eptr box Rd Src bndOK WD RB

-- MUT 49 Buf
-- CALL 49 refine WL.callP $J rfl rfl rfl (fun x p d => clip_c _ _ _ _ (Nat.mul_one _).symm) $FL (fun u$N => ?_) ;; refine WL.fact (i := 0) rfl (fun h hb => Buf.slm hb) (fun hsl$N => ?_)
theorem clip_c (ρ : Hp) (v : Value) (cs : List Value) (n : Nat) (hl : cs.length = n * 1) :
    Fn Try.prog 49 #[v] ρ [Buf 1 v cs] (fun r => Buf 1 r cs) := by
  refine in49 rfl rfl ?_
  refine W.fact (i := 0) rfl (fun h hb => hb.sl hl (by omega)) fun hs => ?_
  refine W.seq ?_
  refine W.region ?_
  refine WL.as rfl rfl ?_
  refine WL.nil ?_
  refine W.seq ?_
  refine W.region ?_
  refine WL.mv rfl rfl ?_
  refine WL.mv rfl rfl ?_
  refine WL.len (T := Ty) rfl rfl (by assumption) rfl ?_
  refine WL.mv rfl rfl ?_
  refine WL.len (T := Ty) rfl rfl (by assumption) rfl ?_
  refine WL.clip (T := Ty) rfl rfl rfl rfl rfl rfl rfl (j := 0) rfl hl (fun u => by repeat' first | exact FL.nil | apply FL.cons) (fun u hu => ?_)
  refine WL.as rfl rfl ?_
  refine WL.nil ?_
  exact W.ret1 rfl rfl (fun h p => sepl_one.1 p)
end Go.Proofs.Ytjibmfkhhljhcaa
