/- slices.Clone of bytes: what it does. -/
import Derived.Test.YtjibmfkhhljhcaaStc
import Derived.Test.YtjibmfkhhljhcaaNum
import Derived.Test.YtjibmfkhhljhcaaTab
set_option linter.unusedSimpArgs false
set_option linter.unusedVariables false
set_option maxRecDepth 20000
namespace Go.Proofs.Ytjibmfkhhljhcaa
open Go
attribute [local irreducible] W WL Fn Buf ROs SL eptr box Rd Src bndOK WD RB

-- CALL 46 refine WL.callF rfl rfl (fun x p d => clone_c _ _ _ _ $RO (Nat.mul_one _).symm (one_bcell _) (by simp; omega)) (fun u$N => ?_) ;; refine WL.fact (i := 0) rfl (fun h hb => Buf.slm hb) (fun hsl$N => ?_)
theorem clone_c (ρ : Hp) (v : Value) (cs : List Value) (n : Nat) (hv : ROs ρ 1 v cs) (hl : cs.length = n * 1) (h1 : ∀ q ∈ cs, q.oneCell' = true) (hb : n ≤ 140737488355328) :
    Fn Try.prog 46 #[v] ρ [] (fun r => Buf 1 r cs) := by
  refine in46 rfl rfl ?_
  have hs : SL v n := hv.sl hl (by omega)
  refine W.seq ?_
  refine W.region ?_
  refine WL.as rfl rfl ?_
  refine WL.nil ?_
  refine W.seq ?_
  refine W.seq ?_
  refine W.region ?_
  refine WL.mv rfl rfl ?_
  refine WL.eqN (T := Ty) rfl rfl (by assumption) rfl ?_
  refine WL.nil ?_
  refine W.cond rfl (fun hnil => ?_) (fun _ => ?_)
  · refine W.seq ?_
    refine W.region ?_
    refine WL.as rfl rfl ?_
    refine WL.nil ?_
    refine W.nb (sz := 1) ?_
    refine W.ret1 rfl rfl (fun h p => ?_)
    have : cs = [] := by
      unfold ROs at hv
      rcases hv with ⟨_, h⟩ | ⟨a, rfl, h⟩ | ⟨b, off, m, c, buf, T, fr, rfl, _⟩
      · exact h
      · exact h
      · simp [isNil] at hnil
    rw [this]
    exact sepl_one.1 p
  · refine W.skip ?_
    refine W.seq ?_
    refine W.region ?_
    refine WL.bsC (T := Ty) rfl rfl rfl rfl rfl rfl rfl (by repeat' first | exact CO.nil | apply CO.one (by first | rfl | exact SL.one (by assumption)) | apply CO.agg) rfl (by repeat' first | exact FL.nil | apply FL.cons) (fun u0 hu0 => ?_)
    refine WL.mv rfl rfl ?_
    refine WL.ap (T := Ty) (i := 0) (n := 0) rfl rfl rfl rfl rfl rfl rfl rfl (.ro hv) hs rfl hl h1 (by show (0 + n) * 1 ≤ _; omega) (by unfold maxLen; omega) (fun v' => by repeat' first | exact FL.nil | apply FL.cons) (fun v' hv' => ?_)
    refine WL.as rfl rfl ?_
    refine WL.nil ?_
    exact W.ret1 rfl rfl (fun h p => sepl_one.1 p)
end Go.Proofs.Ytjibmfkhhljhcaa
