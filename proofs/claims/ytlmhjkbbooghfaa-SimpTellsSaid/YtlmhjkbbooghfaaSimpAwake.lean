/- Layer 6's awake. -/
import Derived.Test.YtlmhjkbbooghfaaStc
import Derived.Test.YtlmhjkbbooghfaaNum
import Derived.Test.YtlmhjkbbooghfaaTab
import Derived.Test.YtlmhjkbbooghfaaSimpD
import Derived.Test.YtlmhjkbbooghfaaSameW
set_option linter.unusedSimpArgs false
set_option linter.unusedVariables false
set_option maxRecDepth 20000
set_option maxHeartbeats 4000000
namespace Go.Proofs.Ytlmhjkbbooghfaa
open Go
attribute [local irreducible] W WL Fn Buf ROs SL eptr box Rd Src bndOK WD RB Reads In encS decS

theorem sdec_s (ρ : Hp) (v : Value) (ws : List Nat) (n : Int) {us : List Nat} (e : decS ws n = some us) (hv : ROs ρ 1 v (ws.map ucell)) (hw : ∀ x ∈ ws, x < 18446744073709551616) (hl : ws.length ≤ 17592186044416) :
    Fn Try.prog 32 #[v, .int .i64 n] ρ [] (fun r h => ∃ u, r = .tuple #[u, .bool true] ∧ Buf 1 u (us.map ucell) h) := by
  have := sdec_c ρ v ws n hv hw hl
  rw [e] at this
  exact this
theorem sdec_n (ρ : Hp) (v : Value) (ws : List Nat) (n : Int) (e : decS ws n = none) (hv : ROs ρ 1 v (ws.map ucell)) (hw : ∀ x ∈ ws, x < 18446744073709551616) (hl : ws.length ≤ 17592186044416) :
    Fn Try.prog 32 #[v, .int .i64 n] ρ [] (fun r h => ∃ u, r = .tuple #[u, .bool false] ∧ Buf 1 u (([] : List Nat).map ucell) h) := by
  have := sdec_c ρ v ws n hv hw hl
  rw [e] at this
  exact this
-- CALL 32 refine WL.callF rfl rfl (fun x p d => sdec_s _ _ _ _ (by assumption) $RO (by first | assumption | omega) (by first | assumption | omega)) (fun r => ?_) ;; refine WL.ex (fun u$N => ?_) ;; refine WL.pure (fun er => ?_) ;; subst er ;; refine WL.fact (i := 0) rfl (fun h hb => Buf.slm hb) (fun hsl$N => ?_)
-- CALL 32 refine WL.callF rfl rfl (fun x p d => sdec_n _ _ _ _ (by assumption) $RO (by first | assumption | omega) (by first | assumption | omega)) (fun r => ?_) ;; refine WL.ex (fun u$N => ?_) ;; refine WL.pure (fun er => ?_) ;; subst er ;; refine WL.fact (i := 0) rfl (fun h hb => Buf.slm hb) (fun hsl$N => ?_)
-- CALL 32 refine WL.callF rfl rfl (fun x p d => sdec_c _ _ _ _ $RO (by first | assumption | omega) (by first | assumption | omega)) (fun r => ?_) ;; refine WL.ex (fun u$N => ?_) ;; refine WL.pure (fun er => ?_) ;; subst er ;; refine WL.fact (i := 0) rfl (fun h hb => Buf.slm hb) (fun hsl$N => ?_)

-- CALL 34 refine WL.callT rfl rfl (fun x p d => awake6_c _) ?_
theorem awake6_c (ρ : Hp) : Fn Try.prog 34 #[] ρ [] (fun r _ => r = .bool true) := by
  refine in34 rfl rfl ?_
  have hw : ∀ x ∈ [1, 0, 5], x < 18446744073709551616 := by decide
  have hl : [1, 0, 5].length ≤ 17592186044416 := by decide
  have hwb : ∀ x ∈ [1152921504606846976], x < 18446744073709551616 := by decide
  have hlb : [1152921504606846976].length ≤ 17592186044416 := by decide
  have he : encS [1, 0, 5] = some [4611686018427388225] := by decide +kernel
  have hb : encS [1152921504606846976] = none := by decide +kernel
  have hd : decS [4611686018427388225] 3 = some [1, 0, 5] := by decide +kernel
  have hw2 : ∀ x ∈ [4611686018427388225], x < 18446744073709551616 := by decide
  have hl2 : [4611686018427388225].length ≤ 17592186044416 := by decide
  refine W.seq ?_
  refine W.region ?_
  refine WL.as rfl rfl ?_
  refine WL.nil ?_
  refine W.seq ?_
  refine W.region ?_
  refine WL.bsC (T := Ty) rfl rfl rfl rfl rfl rfl rfl (by repeat' first | exact CO.nil | apply CO.one (by first | rfl | exact SL.one (by assumption)) | apply CO.agg) rfl (by repeat' first | exact FL.nil | apply FL.cons) (fun u0 hu0 => ?_)
  refine WL.reC ucell [1, 0, 5] rfl ?_
  refine WL.callF rfl rfl (fun x p d => senc_s _ _ _ (by assumption) (by first | assumption | exact ROs.wide (by assumption) | exact ROs.mono (by assumption) (eqh_at 0 rfl p d) | exact ros_at 0 rfl p d | exact ros_at 1 rfl p d | exact ros_at 2 rfl p d | exact ros_at 3 rfl p d | exact ros_at 4 rfl p d) (by first | assumption | omega) (by first | assumption | omega)) (fun r => ?_)
  refine WL.ex (fun u1 => ?_)
  refine WL.pure (fun er => ?_)
  subst er
  refine WL.fact (i := 0) rfl (fun h hb => Buf.slm hb) (fun hsl1 => ?_)
  refine WL.mv rfl rfl ?_
  refine WL.extL rfl rfl rfl ?_
  refine WL.extL rfl rfl rfl ?_
  refine WL.as rfl rfl ?_
  refine WL.as rfl rfl ?_
  refine WL.nil ?_
  refine W.seq ?_
  refine W.region ?_
  refine WL.bsC (T := Ty) rfl rfl rfl rfl rfl rfl rfl (by repeat' first | exact CO.nil | apply CO.one (by first | rfl | exact SL.one (by assumption)) | apply CO.agg) rfl (by repeat' first | exact FL.nil | apply FL.cons) (fun u2 hu2 => ?_)
  refine WL.callF rfl rfl (fun x p d => senc_n _ _ _ (by assumption) (by first | assumption | exact ROs.wide (by assumption) | exact ROs.mono (by assumption) (eqh_at 0 rfl p d) | exact ros_at 0 rfl p d | exact ros_at 1 rfl p d | exact ros_at 2 rfl p d | exact ros_at 3 rfl p d | exact ros_at 4 rfl p d) (by first | assumption | omega) (by first | assumption | omega)) (fun r => ?_)
  refine WL.ex (fun u3 => ?_)
  refine WL.pure (fun er => ?_)
  subst er
  refine WL.fact (i := 0) rfl (fun h hb => Buf.slm hb) (fun hsl3 => ?_)
  refine WL.mv rfl rfl ?_
  refine WL.extL rfl rfl rfl ?_
  refine WL.extL rfl rfl rfl ?_
  refine WL.as rfl rfl ?_
  refine WL.as rfl rfl ?_
  refine WL.nil ?_
  refine W.seq ?_
  refine W.region ?_
  refine WL.mv rfl rfl ?_
  refine WL.callF rfl rfl (fun x p d => sdec_s _ _ _ _ (by assumption) (by first | assumption | exact ROs.wide (by assumption) | exact ROs.mono (by assumption) (eqh_at 0 rfl p d) | exact ros_at 0 rfl p d | exact ros_at 1 rfl p d | exact ros_at 2 rfl p d | exact ros_at 3 rfl p d | exact ros_at 4 rfl p d) (by first | assumption | omega) (by first | assumption | omega)) (fun r => ?_)
  refine WL.ex (fun u4 => ?_)
  refine WL.pure (fun er => ?_)
  subst er
  refine WL.fact (i := 0) rfl (fun h hb => Buf.slm hb) (fun hsl4 => ?_)
  refine WL.mv rfl rfl ?_
  refine WL.extL rfl rfl rfl ?_
  refine WL.extL rfl rfl rfl ?_
  refine WL.as rfl rfl ?_
  refine WL.as rfl rfl ?_
  refine WL.nil ?_
  refine W.seq ?_
  refine W.region ?_
  refine WL.mv rfl rfl ?_
  refine WL.mv rfl rfl ?_
  refine WL.gY rfl rfl ?_
  refine WL.mv rfl rfl ?_
  refine WL.gY rfl rfl ?_
  refine WL.len (T := Ty) rfl rfl (by assumption) rfl ?_
  refine WL.gY rfl rfl ?_
  refine WL.eql rfl rfl rfl ?_
  refine WL.pickT rfl rfl rfl ?_
  refine WL.mv rfl rfl ?_
  refine WL.gY rfl rfl ?_
  refine WL.mv rfl rfl ?_
  refine WL.gY rfl rfl ?_
  refine WL.ix (T := Ty) rfl rfl rfl (by assumption) rfl rfl (by omega) (by first | omega | decide +kernel) ?_
  refine WL.gY rfl rfl ?_
  refine WL.ldEn (T := Ty) (j := 3) rfl rfl rfl rfl rfl (by first | omega | decide +kernel) ?_
  refine WL.gY rfl rfl ?_
  refine WL.eql rfl rfl rfl ?_
  refine WL.pickT rfl rfl rfl ?_
  refine WL.mv rfl rfl ?_
  refine WL.gY rfl rfl ?_
  refine WL.mv rfl rfl ?_
  refine WL.gY rfl rfl ?_
  refine WL.not rfl rfl ?_
  refine WL.pickT rfl rfl rfl ?_
  refine WL.mv rfl rfl ?_
  refine WL.gY rfl rfl ?_
  refine WL.mv rfl rfl ?_
  refine WL.pickT rfl rfl rfl ?_
  refine WL.mv rfl rfl ?_
  refine WL.gY rfl rfl ?_
  refine WL.mv rfl rfl ?_
  refine WL.gY rfl rfl ?_
  refine WL.bsC (T := Ty) rfl rfl rfl rfl rfl rfl rfl (by repeat' first | exact CO.nil | apply CO.one (by first | rfl | exact SL.one (by assumption)) | apply CO.agg) rfl (by repeat' first | exact FL.nil | apply FL.cons) (fun u5 hu5 => ?_)
  refine WL.reC ucell [1, 0, 5] rfl ?_
  refine WL.gY rfl rfl ?_
  refine WL.callV rfl rfl (fun x p d => samew_t _ _ _ _ _ (by first | with_reducible rfl | assumption) (by first | assumption | exact ROs.wide (by assumption) | exact ROs.mono (by assumption) (eqh_at 0 rfl p d) | exact ros_at 0 rfl p d | exact ros_at 1 rfl p d | exact ros_at 2 rfl p d | exact ros_at 3 rfl p d | exact ros_at 4 rfl p d) (by first | assumption | exact ROs.wide (by assumption) | exact ROs.mono (by assumption) (eqh_at 0 rfl p d) | exact ros_at 0 rfl p d | exact ros_at 1 rfl p d | exact ros_at 2 rfl p d | exact ros_at 3 rfl p d | exact ros_at 4 rfl p d) (by first | assumption | omega | exact Nat.zero_le _ | decide)) ?_
  refine WL.pickT rfl rfl rfl ?_
  refine WL.as rfl rfl ?_
  refine WL.nil ?_
  exact W.ret1 rfl rfl (fun h p => rfl)
end Go.Proofs.Ytlmhjkbbooghfaa
