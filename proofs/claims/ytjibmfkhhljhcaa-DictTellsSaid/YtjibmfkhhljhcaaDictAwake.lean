/- Layer 9's awake. -/
import Derived.Test.YtjibmfkhhljhcaaStc
import Derived.Test.YtjibmfkhhljhcaaNum
import Derived.Test.YtjibmfkhhljhcaaTab
import Derived.Test.YtjibmfkhhljhcaaDictD
import Derived.Test.YtjibmfkhhljhcaaSameW
import Derived.Test.YtjibmfkhhljhcaaApz2
set_option linter.unusedSimpArgs false
set_option linter.unusedVariables false
set_option maxRecDepth 20000
set_option maxHeartbeats 4000000
namespace Go.Proofs.Ytjibmfkhhljhcaa
open Go
attribute [local irreducible] W WL Fn Buf ROs SL eptr box Rd Src bndOK WD RB Reads In Mp encD decD

theorem cnt_set (n i : Nat) (h : i < n) : (List.range i ++ List.replicate (n - i) (default : Nat)).set i i = List.range (i + 1) ++ List.replicate (n - (i + 1)) (default : Nat) := by
  rw [List.set_append_right _ _ (by simp), List.length_range, Nat.sub_self, show n - i = (n - (i + 1)) + 1 by omega, List.replicate_succ, List.set_cons_zero, List.range_succ]
  simp
theorem enc_257 : encD (List.range 257) = none := by
  have : unl [] (List.range 257) = none := by decide +kernel
  exact encD_none this
-- CALL 20 refine WL.callT rfl rfl (fun x p d => awake9_c _) ?_
theorem awake9_c (ρ : Hp) : Fn Try.prog 20 #[] ρ [] (fun r _ => r = .bool true) := by
  refine in20 rfl rfl ?_
  have hw : ∀ x ∈ [5, 9, 5], x < 18446744073709551616 := by decide
  have hl : [5, 9, 5].length ≤ 70000 := by decide
  have he : encD [5, 9, 5] = some [2, 5, 9, 64] := by decide +kernel
  have hd : decD [2, 5, 9, 64] 3 = some [5, 9, 5] := by decide +kernel
  have hew : ∀ x ∈ [2, 5, 9, 64], x < 256 := by decide
  have hel : [2, 5, 9, 64].length ≤ 140737488355328 := by decide
  have hstr : strN [2, 5, 9, 64] = ⟨#[2, 5, 9, 64]⟩ := by decide +kernel
  have hsl : [5, 9, 5].length ≤ 17592186044416 := by decide
  refine W.seq ?_
  refine W.region ?_
  refine WL.as rfl rfl ?_
  refine WL.nil ?_
  refine W.seq ?_
  refine W.region ?_
  refine WL.bsC (T := Ty) rfl rfl rfl rfl rfl rfl rfl (by repeat' first | exact CO.nil | apply CO.one (by first | rfl | exact SL.one (by assumption)) | apply CO.agg) rfl (by repeat' first | exact FL.nil | apply FL.cons) (fun u0 hu0 => ?_)
  refine WL.reC ucell [5, 9, 5] rfl ?_
  refine WL.callF rfl rfl (fun x p d => denc_s _ _ _ (by assumption) (by first | assumption | exact ROs.wide (by assumption) | exact ROs.mono (by assumption) (eqh_at 0 rfl p d) | exact ros_at 0 rfl p d | exact ros_at 1 rfl p d | exact ros_at 2 rfl p d | exact ros_at 3 rfl p d | exact ros_at 4 rfl p d) (by first | assumption | omega | decide) (by first | assumption | omega | decide)) (fun r => ?_)
  refine WL.ex (fun u1 => ?_)
  refine WL.pure (fun er => ?_)
  subst er
  refine WL.fact (i := 0) rfl (fun h hb => Buf.slm hb) (fun hsl1 => ?_)
  refine WL.mv rfl rfl ?_
  refine WL.extL rfl rfl rfl ?_
  refine WL.extL rfl rfl rfl ?_
  refine WL.as rfl rfl ?_
  refine WL.as rfl rfl ?_
  refine WL.nil ?_
  refine W.seq ?_
  refine W.region ?_
  refine WL.mkM (T := Ty) (f := ucell) (n := 257) rfl rfl rfl rfl rfl rfl rfl (by omega) (by omega) (fun sv ssv => ?_)
  refine WL.as rfl rfl ?_
  refine WL.nil ?_
  refine W.seq ?_
  refine W.seq ?_
  refine W.region ?_
  refine WL.mv rfl rfl ?_
  refine WL.len (T := Ty) rfl rfl (by assumption) rfl ?_
  refine WL.mv rfl rfl ?_
  refine WL.nil ?_
  refine W.block ?_
  refine W.loopS (σ := Nat) (fun i => [(1, u1), (2, .bool true), (3, sv), (16, .int .i64 257), (17, .int .i64 (i : Int))])
    (fun i => [Buf 1 sv ((List.range i ++ List.replicate (257 - i) (default : Nat)).map ucell), Buf 1 u1 ([2, 5, 9, 64].map bcell), Buf 1 u0 ([5, 9, 5].map ucell)])
    (fun i => i ≤ 257) (fun i => 257 - i) 0 ⟨rfl, rfl, rfl, rfl, rfl, trivial⟩ rfl (Nat.zero_le _) ?_
  intro i hi next
  have hrl : (List.range i ++ List.replicate (257 - i) (default : Nat)).length = 257 := by simp; omega
  by_cases hlt : i < 257
  · have hrs := cnt_set 257 i hlt
    generalize List.range i ++ List.replicate (257 - i) (default : Nat) = L at *
    refine W.seq ?_
    refine W.region ?_
    refine WL.lss rfl rfl rfl ?_
    refine WL.nil ?_
    refine W.seq ?_
    refine W.condpT rfl (by omega) ?_
    refine W.skip ?_
    refine W.seq ?_
    refine W.block ?_
    refine W.seq ?_
    refine W.region ?_
    refine WL.mv rfl rfl ?_
    refine WL.as rfl rfl ?_
    refine WL.nil ?_
    refine W.region ?_
    refine WL.mv rfl rfl ?_
    refine WL.mv rfl rfl ?_
    refine WL.mv rfl rfl ?_
    refine WL.cvK (T := Ty) rfl rfl rfl rfl (wrap_u64 ⟨by omega, by omega⟩) ?_
    refine WL.ix (T := Ty) rfl rfl rfl (by assumption) rfl rfl (by omega) (by first | omega | decide +kernel) ?_
    refine WL.stEF (T := Ty) (j := 0) (cs' := (L.set i i).map ucell) rfl rfl rfl rfl rfl rfl (by simp; omega) (by rw [show ((i : Int)).toNat * 1 = i by omega, List.map_set]; rfl) (by repeat' first | exact FL.nil | apply FL.cons) ?_
    rw [hrs]
    refine WL.nil ?_
    refine W.inBlock ?_
    refine W.region ?_
    refine WL.addK rfl rfl rfl (wrap_i64 ⟨by omega, by omega⟩) ?_
    refine WL.mv rfl rfl ?_
    refine WL.nil ?_
    refine W.sub ?_ (next (i + 1) (by omega) (by omega))
    exact ⟨rfl, rfl, rfl, rfl, rfl, trivial⟩
  · have hie : i = 257 := by omega
    have hfin : List.range i ++ List.replicate (257 - i) (default : Nat) = List.range 257 := by rw [hie]; simp
    rw [hfin] at hrl ⊢
    have hen := enc_257
    have hrw : ∀ x ∈ List.range 257, x < 18446744073709551616 := fun x hx => by have := List.mem_range.1 hx; omega
    have hrl7 : (List.range 257).length ≤ 70000 := by omega
    generalize List.range 257 = L7 at *
    refine W.seq ?_
    refine W.region ?_
    refine WL.lss rfl rfl rfl ?_
    refine WL.nil ?_
    refine W.seq ?_
    refine W.condpF rfl (by omega) ?_
    refine W.exit rfl ?_
    refine W.seq ?_
    refine W.region ?_
    refine WL.mv rfl rfl ?_
    refine WL.callF rfl rfl (fun x p d => denc_n _ _ _ (by assumption) (by first | assumption | exact ROs.wide (by assumption) | exact ROs.mono (by assumption) (eqh_at 0 rfl p d) | exact ros_at 0 rfl p d | exact ros_at 1 rfl p d | exact ros_at 2 rfl p d | exact ros_at 3 rfl p d | exact ros_at 4 rfl p d) (by first | assumption | omega | decide) (by first | assumption | omega | decide)) (fun r => ?_)
    refine WL.ex (fun u2 => ?_)
    refine WL.pure (fun er => ?_)
    subst er
    refine WL.fact (i := 0) rfl (fun h hb => Buf.slm hb) (fun hsl2 => ?_)
    refine WL.mv rfl rfl ?_
    refine WL.extL rfl rfl rfl ?_
    refine WL.extL rfl rfl rfl ?_
    refine WL.as rfl rfl ?_
    refine WL.as rfl rfl ?_
    refine WL.nil ?_
    refine W.seq ?_
    refine W.region ?_
    refine WL.mv rfl rfl ?_
    refine WL.callF rfl rfl (fun x p d => ddec_s _ _ _ _ (by first | assumption | exact ROs.wide (by assumption) | exact ROs.mono (by assumption) (eqh_at 0 rfl p d) | exact ros_at 0 rfl p d | exact ros_at 1 rfl p d | exact ros_at 2 rfl p d | exact ros_at 3 rfl p d | exact ros_at 4 rfl p d) (by assumption) (by first | assumption | omega | decide) (by first | assumption | omega | decide)) (fun r => ?_)
    refine WL.ex (fun u3 => ?_)
    refine WL.pure (fun er => ?_)
    subst er
    refine WL.fact (i := 0) rfl (fun h hb => Buf.slm hb) (fun hsl3 => ?_)
    refine WL.mv rfl rfl ?_
    refine WL.extL rfl rfl rfl ?_
    refine WL.extL rfl rfl rfl ?_
    refine WL.as rfl rfl ?_
    refine WL.as rfl rfl ?_
    refine WL.nil ?_
    refine W.seq ?_
    refine W.region ?_
    refine WL.mv rfl rfl ?_
    refine WL.mv rfl rfl ?_
    refine WL.gY rfl rfl ?_
    refine WL.mv rfl rfl ?_
    refine WL.gY rfl rfl ?_
    refine WL.b2sN (T := Ty) rfl rfl rfl rfl rfl rfl rfl (.own 3 rfl) ?_
    refine WL.gY rfl rfl ?_
    refine WL.eqST rfl rfl rfl (by first | with_reducible rfl | assumption) ?_
    refine WL.pickT rfl rfl rfl ?_
    refine WL.mv rfl rfl ?_
    refine WL.gY rfl rfl ?_
    refine WL.mv rfl rfl ?_
    refine WL.gY rfl rfl ?_
    refine WL.not rfl rfl ?_
    refine WL.pickT rfl rfl rfl ?_
    refine WL.mv rfl rfl ?_
    refine WL.gY rfl rfl ?_
    refine WL.mv rfl rfl ?_
    refine WL.pickT rfl rfl rfl ?_
    refine WL.mv rfl rfl ?_
    refine WL.gY rfl rfl ?_
    refine WL.mv rfl rfl ?_
    refine WL.gY rfl rfl ?_
    refine WL.bsC (T := Ty) rfl rfl rfl rfl rfl rfl rfl (by repeat' first | exact CO.nil | apply CO.one (by first | rfl | exact SL.one (by assumption)) | apply CO.agg) rfl (by repeat' first | exact FL.nil | apply FL.cons) (fun u4 hu4 => ?_)
    refine WL.reC ucell [5, 9, 5] rfl ?_
    refine WL.gY rfl rfl ?_
    refine WL.callV rfl rfl (fun x p d => samew_t _ _ _ _ _ (by first | with_reducible rfl | assumption) (by first | assumption | exact ROs.wide (by assumption) | exact ROs.mono (by assumption) (eqh_at 0 rfl p d) | exact ros_at 0 rfl p d | exact ros_at 1 rfl p d | exact ros_at 2 rfl p d | exact ros_at 3 rfl p d | exact ros_at 4 rfl p d) (by first | assumption | exact ROs.wide (by assumption) | exact ROs.mono (by assumption) (eqh_at 0 rfl p d) | exact ros_at 0 rfl p d | exact ros_at 1 rfl p d | exact ros_at 2 rfl p d | exact ros_at 3 rfl p d | exact ros_at 4 rfl p d) (by first | assumption | omega | exact Nat.zero_le _ | decide)) ?_
    refine WL.pickT rfl rfl rfl ?_
    refine WL.as rfl rfl ?_
    refine WL.nil ?_
    exact W.ret1 rfl rfl (fun h p => rfl)
end Go.Proofs.Ytjibmfkhhljhcaa
