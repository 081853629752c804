/- How many bits a writer holds. -/
import Derived.Test.YtjibmfkhhljhcaaDoorStc
import Derived.Test.YtjibmfkhhljhcaaDoorNum
import Derived.Test.YtjibmfkhhljhcaaDoorTab
import Derived.Test.YtjibmfkhhljhcaaDoorBits
set_option linter.unusedSimpArgs false
set_option linter.unusedVariables false
set_option maxRecDepth 20000
set_option maxHeartbeats 4000000
namespace Go.Proofs.YtjibmfkhhljhcaaDoor
open Go
attribute [local irreducible] W WL Fn Buf ROs SL eptr box Rd Src bndOK WD RB Reads In

-- CALL 9 refine WL.callV rfl rfl (fun x p d => len_c _ _ _ $IN) ?_
theorem len_c (ρ : Hp) (b : Nat) (ds : List Nat) (h : In ρ (Wr b ds)) : Fn Tryd.prog 9 #[ptr b] ρ [] (Just (.int .i64 (ds.length : Int))) := by
  refine in9 rfl rfl ?_
  obtain ⟨v, h⟩ := h.ex
  have hb := h.head.1.rb
  refine W.seq ?_
  refine W.region ?_
  refine WL.as rfl rfl ?_
  refine WL.nil ?_
  refine W.seq ?_
  refine W.region ?_
  refine WL.mv rfl rfl ?_
  refine WL.nc rfl rfl ?_
  refine WL.faN (T := Ty) (off' := 1) rfl rfl rfl rfl rfl rfl rfl ?_
  refine WL.ldBN (T := Ty) rfl rfl rfl rfl (by first | assumption | exact RB.wide (by assumption) | exact In.rb (by assumption)) rfl ?_
  refine WL.as rfl rfl ?_
  refine WL.nil ?_
  exact W.ret1 rfl rfl (fun h p => ⟨rfl, p⟩)
end Go.Proofs.YtjibmfkhhljhcaaDoor
