/- DictBack. -/
import Derived.Test.YtjibmfkhhljhcaaStc
import Derived.Test.YtjibmfkhhljhcaaNum
import Derived.Test.YtjibmfkhhljhcaaTab
import Derived.Test.YtjibmfkhhljhcaaDictAwake
import Derived.Test.YtjibmfkhhljhcaaValsG
set_option linter.unusedSimpArgs false
set_option linter.unusedVariables false
set_option maxRecDepth 20000
set_option maxHeartbeats 4000000
namespace Go.Proofs.Ytjibmfkhhljhcaa
open Go
attribute [local irreducible] W WL Fn Buf ROs SL eptr box Rd Src bndOK WD RB Reads In Mp decD encD

theorem DictBack_fn (ρ : Hp) (v0 : Value) (z0 : List Int) (r0 : ROs ρ 1 v0 (z0.map (Value.int .u64))) (m0 : ∀ n ∈ z0, (Lit.int .u64 n).wf = true) (y0 : z0.length * 8 ≤ 140737488351232) (a1 : Int) (w1 : (Lit.int .i64 a1).wf = true) :
    Fn Try.prog 10 #[v0, .int .i64 a1] ρ [] (fun r _ => r = .bool true) := by
  obtain ⟨l, hl, hll, hlw⟩ := words_of m0
  rw [hl] at r0
  refine in10 rfl rfl ?_
  refine W.seq ?_
  refine W.region ?_
  refine WL.as rfl rfl ?_
  refine WL.nil ?_
  refine W.seq ?_
  refine W.region ?_
  refine WL.mv rfl rfl ?_
  refine WL.mv rfl rfl ?_
  refine WL.callF rfl rfl (fun x p d => vals_c _ _ _ _ (by first | assumption | exact ROs.wide (by assumption) | exact ROs.mono (by assumption) (eqh_at 0 rfl p d) | exact ros_at 0 rfl p d | exact ros_at 1 rfl p d | exact ros_at 2 rfl p d | exact ros_at 3 rfl p d | exact ros_at 4 rfl p d) (by first | assumption | omega | decide) (by first | assumption | omega | decide)) (fun u0 => ?_)
  refine WL.ex (fun vs => ?_)
  refine WL.pure (fun hvs => ?_)
  refine WL.fact (i := 0) rfl (fun h hb => Buf.slm hb) (fun hsl0 => ?_)
  refine WL.as rfl rfl ?_
  refine WL.nil ?_
  refine W.seq ?_
  refine W.region ?_
  refine WL.mv rfl rfl ?_
  obtain ⟨hv1, hv2⟩ := hvs
  obtain ⟨ws, hu⟩ := unl_some vs [] (by simp; omega)
  obtain ⟨bs, hen⟩ : ∃ bs, encD vs = some bs := by unfold encD; rw [hu]; by_cases h : vs = [] <;> simp [h]
  obtain ⟨hel, hw2⟩ := encD_ok hen hv2
  have hd1 : decD bs (vs.length : Int) = some vs := decD_encD (by unfold heldM; omega) hv2 hen
  refine WL.callF rfl rfl (fun x p d => denc_s _ _ _ (by assumption) (by first | assumption | exact ROs.wide (by assumption) | exact ROs.mono (by assumption) (eqh_at 0 rfl p d) | exact ros_at 0 rfl p d | exact ros_at 1 rfl p d | exact ros_at 2 rfl p d | exact ros_at 3 rfl p d | exact ros_at 4 rfl p d) (by first | assumption | omega | decide) (by first | assumption | omega | decide)) (fun r => ?_)
  refine WL.ex (fun u1 => ?_)
  refine WL.pure (fun er => ?_)
  subst er
  refine WL.fact (i := 0) rfl (fun h hb => Buf.slm hb) (fun hsl1 => ?_)
  refine WL.mv rfl rfl ?_
  refine WL.extL rfl rfl rfl ?_
  refine WL.extL rfl rfl rfl ?_
  refine WL.as rfl rfl ?_
  refine WL.as rfl rfl ?_
  refine WL.nil ?_
  refine W.seq ?_
  refine W.seq ?_
  refine W.region ?_
  refine WL.mv rfl rfl ?_
  refine WL.not rfl rfl ?_
  refine WL.nil ?_
  refine W.condF rfl ?_
  refine W.skip ?_
  refine W.seq ?_
  refine W.region ?_
  refine WL.mv rfl rfl ?_
  refine WL.mv rfl rfl ?_
  refine WL.len (T := Ty) rfl rfl (by assumption) rfl ?_
  refine WL.callF rfl rfl (fun x p d => ddec_s _ _ _ _ (by first | assumption | exact ROs.wide (by assumption) | exact ROs.mono (by assumption) (eqh_at 0 rfl p d) | exact ros_at 0 rfl p d | exact ros_at 1 rfl p d | exact ros_at 2 rfl p d | exact ros_at 3 rfl p d | exact ros_at 4 rfl p d) (by assumption) (by first | assumption | omega | decide) (by first | assumption | omega | decide)) (fun r => ?_)
  refine WL.ex (fun u2 => ?_)
  refine WL.pure (fun er => ?_)
  subst er
  refine WL.fact (i := 0) rfl (fun h hb => Buf.slm hb) (fun hsl2 => ?_)
  refine WL.mv rfl rfl ?_
  refine WL.extL rfl rfl rfl ?_
  refine WL.extL rfl rfl rfl ?_
  refine WL.as rfl rfl ?_
  refine WL.as rfl rfl ?_
  refine WL.nil ?_
  refine W.seq ?_
  refine W.region ?_
  refine WL.mv rfl rfl ?_
  refine WL.mv rfl rfl ?_
  refine WL.gY rfl rfl ?_
  refine WL.mv rfl rfl ?_
  refine WL.gY rfl rfl ?_
  refine WL.mv rfl rfl ?_
  refine WL.gY rfl rfl ?_
  refine WL.callV rfl rfl (fun x p d => samew_t _ _ _ _ _ (by first | with_reducible rfl | assumption) (by first | assumption | exact ROs.wide (by assumption) | exact ROs.mono (by assumption) (eqh_at 0 rfl p d) | exact ros_at 0 rfl p d | exact ros_at 1 rfl p d | exact ros_at 2 rfl p d | exact ros_at 3 rfl p d | exact ros_at 4 rfl p d) (by first | assumption | exact ROs.wide (by assumption) | exact ROs.mono (by assumption) (eqh_at 0 rfl p d) | exact ros_at 0 rfl p d | exact ros_at 1 rfl p d | exact ros_at 2 rfl p d | exact ros_at 3 rfl p d | exact ros_at 4 rfl p d) (by first | assumption | omega | exact Nat.zero_le _ | decide)) ?_
  refine WL.pickT rfl rfl rfl ?_
  refine WL.mv rfl rfl ?_
  refine WL.gY rfl rfl ?_
  refine WL.callT rfl rfl (fun x p d => awake9_c _) ?_
  refine WL.pickT rfl rfl rfl ?_
  refine WL.as rfl rfl ?_
  refine WL.nil ?_
  exact W.ret1 rfl rfl (fun h p => rfl)
end Go.Proofs.Ytjibmfkhhljhcaa
