/- Where series are: layer 18's awake. -/
import Derived.Test.YtlmhjkbbooghfaaStc
import Derived.Test.YtlmhjkbbooghfaaNum
import Derived.Test.YtlmhjkbbooghfaaTab
import Derived.Test.YtlmhjkbbooghfaaDireE
set_option linter.unusedSimpArgs false
set_option linter.unusedVariables false
set_option maxRecDepth 20000
set_option maxHeartbeats 4000000
namespace Go.Proofs.Ytlmhjkbbooghfaa
open Go
attribute [local irreducible] W WL Fn Buf ROs SL eptr box Rd Src bndOK WD RB Reads In dirC dirZ
-- CALL 19 refine WL.callT rfl rfl (fun x p d => awake18_c _) ?_
theorem awake18_c (ρ : Hp) : Fn Try.prog 19 #[] ρ [] (fun r _ => r = .bool true) := by
  refine in19 rfl rfl ?_
  have l0 : (List.replicate 16 zeroP).length = 16 := rfl
  have h0 : (List.replicate 16 zeroP)[3]? = some zeroP := rfl
  have l1 : ((List.replicate 16 zeroP).set 3 ⟨false, false, 0, 0 + 1, false, 0, true, 7⟩).length = 16 := rfl
  have h1 : ((List.replicate 16 zeroP).set 3 ⟨false, false, 0, 0 + 1, false, 0, true, 7⟩)[3]? = some ⟨false, false, 0, 0 + 1, false, 0, true, 7⟩ := rfl
  refine W.seq ?_
  refine W.region ?_
  refine WL.as rfl rfl ?_
  refine WL.nil ?_
  refine W.seq ?_
  refine W.region ?_
  refine WL.callF rfl rfl (fun x p d => new_z _) (fun r => ?_)
  refine WL.ex (fun b0 => ?_)
  refine WL.pure (fun er => ?_)
  subst er
  refine WL.as rfl rfl ?_
  refine WL.nil ?_
  refine W.seq ?_
  refine W.seq ?_
  refine W.region ?_
  refine WL.mv rfl rfl ?_
  refine WL.eqP (T := Ty) rfl rfl rfl ?_
  refine WL.nil ?_
  refine W.condF rfl ?_
  refine W.skip ?_
  refine W.seq ?_
  refine W.region ?_
  refine WL.mv rfl rfl ?_
  refine WL.callV rfl rfl (fun x p d => look_zin _ _ _ _ _ (by first | assumption | exact RB.wide (by assumption) | exact In.rb (by assumption) | exact rb_at 0 rfl p d | exact rb_at 1 rfl p d | exact rb_at 2 rfl p d | exact rb_at 3 rfl p d | exact rb_at 4 rfl p d | exact rb_at 5 rfl p d) (by first | assumption | rfl) (by first | assumption | rfl) (by first | assumption | omega | decide) (by first | assumption | omega | decide) (by first | assumption | omega | decide)) ?_
  refine WL.mv rfl rfl ?_
  refine WL.extL rfl rfl rfl ?_
  refine WL.extL rfl rfl rfl ?_
  refine WL.alF (T := Ty) rfl rfl (by repeat' first | exact FL.nil | apply FL.cons) (fun b1 => ?_)
  refine WL.stAO (T := Ty) (j := 0) rfl rfl rfl rfl (by repeat' first | exact AO.nil | apply AO.cons (by first | rfl | exact SL.one (by assumption))) rfl rfl (by repeat' first | exact FL.nil | apply FL.cons) (by repeat' first | exact FL.nil | apply FL.cons) ?_
  refine WL.as rfl rfl ?_
  refine WL.nil ?_
  refine W.seq ?_
  refine W.region ?_
  refine WL.mv rfl rfl ?_
  refine WL.callM 1 rfl rfl rfl (fun x p d => take_z _ _ _ _ _ _ (by first | assumption | rfl) (by first | assumption | rfl) (by first | assumption | omega | decide) (by first | assumption | rfl) (by first | assumption | omega | decide) (by first | assumption | omega | decide)) (by repeat' first | exact FL.nil | apply FL.cons) ?_
  refine WL.mv rfl rfl ?_
  refine WL.callV rfl rfl (fun x p d => take_zno _ _ _ _ _ _ (by first | assumption | exact RB.wide (by assumption) | exact In.rb (by assumption) | exact rb_at 0 rfl p d | exact rb_at 1 rfl p d | exact rb_at 2 rfl p d | exact rb_at 3 rfl p d | exact rb_at 4 rfl p d | exact rb_at 5 rfl p d) (by first | assumption | rfl) (by first | assumption | omega | decide) (by first | assumption | rfl)) ?_
  refine WL.as rfl rfl ?_
  refine WL.as rfl rfl ?_
  refine WL.nil ?_
  refine W.seq ?_
  refine W.region ?_
  refine WL.mv rfl rfl ?_
  refine WL.callV rfl rfl (fun x p d => look_zno _ _ _ _ _ (by first | assumption | exact RB.wide (by assumption) | exact In.rb (by assumption) | exact rb_at 0 rfl p d | exact rb_at 1 rfl p d | exact rb_at 2 rfl p d | exact rb_at 3 rfl p d | exact rb_at 4 rfl p d | exact rb_at 5 rfl p d) (by first | assumption | rfl) (by first | assumption | omega | decide) (by first | assumption | omega | decide) (by first | assumption | omega | decide)) ?_
  refine WL.mv rfl rfl ?_
  refine WL.extL rfl rfl rfl ?_
  refine WL.extL rfl rfl rfl ?_
  refine WL.alF (T := Ty) rfl rfl (by repeat' first | exact FL.nil | apply FL.cons) (fun b2 => ?_)
  refine WL.stAO (T := Ty) (j := 0) rfl rfl rfl rfl (by repeat' first | exact AO.nil | apply AO.cons (by first | rfl | exact SL.one (by assumption))) rfl rfl (by repeat' first | exact FL.nil | apply FL.cons) (by repeat' first | exact FL.nil | apply FL.cons) ?_
  refine WL.as rfl rfl ?_
  refine WL.nil ?_
  refine W.seq ?_
  refine W.region ?_
  refine WL.mv rfl rfl ?_
  refine WL.callV rfl rfl (fun x p d => flag_zin _ _ _ _ _ (by first | assumption | exact RB.wide (by assumption) | exact In.rb (by assumption) | exact rb_at 0 rfl p d | exact rb_at 1 rfl p d | exact rb_at 2 rfl p d | exact rb_at 3 rfl p d | exact rb_at 4 rfl p d | exact rb_at 5 rfl p d) (by first | assumption | rfl) (by first | assumption | omega | decide) (by first | assumption | rfl)) ?_
  refine WL.mv rfl rfl ?_
  refine WL.extL rfl rfl rfl ?_
  refine WL.extL rfl rfl rfl ?_
  refine WL.as rfl rfl ?_
  refine WL.as rfl rfl ?_
  refine WL.nil ?_
  refine W.seq ?_
  refine W.region ?_
  refine WL.faN (T := Ty) (off' := 0) rfl rfl rfl rfl rfl rfl rfl ?_
  refine WL.stF (T := Ty) (j := 1) rfl rfl rfl rfl rfl rfl rfl (by repeat' first | exact FL.nil | apply FL.cons) (by repeat' first | exact FL.nil | apply FL.cons) ?_
  refine WL.faN (T := Ty) (off' := 3) rfl rfl rfl rfl rfl rfl rfl ?_
  refine WL.stF (T := Ty) (j := 1) rfl rfl rfl rfl rfl rfl rfl (by repeat' first | exact FL.nil | apply FL.cons) (by repeat' first | exact FL.nil | apply FL.cons) ?_
  refine WL.nil ?_
  refine W.seq ?_
  refine W.cut (τ := Nat) (fun b0 => [(1, pt b0 0), (3, .bool true), (4, .bool true), (5, .bool false), (7, .bool false), (8, .int .i64 7), (9, .bool true), (10, .bool false), (11, .bool true)])
    (fun b0 => [box b0 (dirZ ((List.replicate 16 zeroP).set 3 ⟨true, false, 0, 2, false, 0, false, 0⟩)) TD]) (fun _ => True) ?_ (fun cut => ?_)
  · intro b9 _
    have h2 : ((List.replicate 16 zeroP).set 3 ⟨true, false, 0, 2, false, 0, false, 0⟩)[3]? = some ⟨true, false, 0, 2, false, 0, false, 0⟩ := rfl
    have l2 : ((List.replicate 16 zeroP).set 3 ⟨true, false, 0, 2, false, 0, false, 0⟩).length = 16 := rfl
    refine W.seq ?_
    refine W.region ?_
    refine WL.mv rfl rfl ?_
    refine WL.callV rfl rfl (fun x p d => look_zin _ _ _ _ _ (by first | assumption | exact RB.wide (by assumption) | exact In.rb (by assumption) | exact rb_at 0 rfl p d | exact rb_at 1 rfl p d | exact rb_at 2 rfl p d | exact rb_at 3 rfl p d | exact rb_at 4 rfl p d | exact rb_at 5 rfl p d) (by first | assumption | rfl) (by first | assumption | rfl) (by first | assumption | omega | decide) (by first | assumption | omega | decide) (by first | assumption | omega | decide)) ?_
    refine WL.mv rfl rfl ?_
    refine WL.extL rfl rfl rfl ?_
    refine WL.extL rfl rfl rfl ?_
    refine WL.alF (T := Ty) rfl rfl (by repeat' first | exact FL.nil | apply FL.cons) (fun b10 => ?_)
    refine WL.stAO (T := Ty) (j := 0) rfl rfl rfl rfl (by repeat' first | exact AO.nil | apply AO.cons (by first | rfl | exact SL.one (by assumption))) rfl rfl (by repeat' first | exact FL.nil | apply FL.cons) (by repeat' first | exact FL.nil | apply FL.cons) ?_
    refine WL.as rfl rfl ?_
    refine WL.nil ?_
    refine W.seq ?_
    refine W.region ?_
    refine WL.mv rfl rfl ?_
    refine WL.callV rfl rfl (fun x p d => look_out _ _ _ (by first | assumption | omega | decide)) ?_
    refine WL.mv rfl rfl ?_
    refine WL.extL rfl rfl rfl ?_
    refine WL.extL rfl rfl rfl ?_
    refine WL.alF (T := Ty) rfl rfl (by repeat' first | exact FL.nil | apply FL.cons) (fun b11 => ?_)
    refine WL.stAO (T := Ty) (j := 0) rfl rfl rfl rfl (by repeat' first | exact AO.nil | apply AO.cons (by first | rfl | exact SL.one (by assumption))) rfl rfl (by repeat' first | exact FL.nil | apply FL.cons) (by repeat' first | exact FL.nil | apply FL.cons) ?_
    refine WL.as rfl rfl ?_
    refine WL.nil ?_
    refine W.seq ?_
    refine W.region ?_
    refine WL.mv rfl rfl ?_
    refine WL.mv rfl rfl ?_
    refine WL.gY rfl rfl ?_
    refine WL.mv rfl rfl ?_
    refine WL.pickT rfl rfl rfl ?_
    refine WL.mv rfl rfl ?_
    refine WL.gY rfl rfl ?_
    refine WL.mv rfl rfl ?_
    refine WL.gY rfl rfl ?_
    refine WL.not rfl rfl ?_
    refine WL.pickT rfl rfl rfl ?_
    refine WL.mv rfl rfl ?_
    refine WL.gY rfl rfl ?_
    refine WL.mv rfl rfl ?_
    refine WL.gY rfl rfl ?_
    refine WL.not rfl rfl ?_
    refine WL.pickT rfl rfl rfl ?_
    refine WL.mv rfl rfl ?_
    refine WL.gY rfl rfl ?_
    refine WL.mv rfl rfl ?_
    refine WL.pickT rfl rfl rfl ?_
    refine WL.mv rfl rfl ?_
    refine WL.gY rfl rfl ?_
    refine WL.mv rfl rfl ?_
    refine WL.gY rfl rfl ?_
    refine WL.eql rfl rfl rfl ?_
    refine WL.pickT rfl rfl rfl ?_
    refine WL.mv rfl rfl ?_
    refine WL.gY rfl rfl ?_
    refine WL.mv rfl rfl ?_
    refine WL.gY rfl rfl ?_
    refine WL.not rfl rfl ?_
    refine WL.pickT rfl rfl rfl ?_
    refine WL.mv rfl rfl ?_
    refine WL.gY rfl rfl ?_
    refine WL.mv rfl rfl ?_
    refine WL.pickT rfl rfl rfl ?_
    refine WL.mv rfl rfl ?_
    refine WL.gY rfl rfl ?_
    refine WL.mv rfl rfl ?_
    refine WL.pickT rfl rfl rfl ?_
    refine WL.mv rfl rfl ?_
    refine WL.gY rfl rfl ?_
    refine WL.faN (T := Ty) (off' := 0) rfl rfl rfl rfl rfl rfl rfl ?_
    refine WL.gY rfl rfl ?_
    refine WL.ldN (T := Ty) (j := 1) rfl rfl rfl rfl rfl rfl ?_
    refine WL.pickT rfl rfl rfl ?_
    refine WL.mv rfl rfl ?_
    refine WL.gY rfl rfl ?_
    refine WL.faN (T := Ty) (off' := 3) rfl rfl rfl rfl rfl rfl rfl ?_
    refine WL.gY rfl rfl ?_
    refine WL.ldN (T := Ty) (j := 1) rfl rfl rfl rfl rfl rfl ?_
    refine WL.gY rfl rfl ?_
    refine WL.eql rfl rfl rfl ?_
    refine WL.pickT rfl rfl rfl ?_
    refine WL.mv rfl rfl ?_
    refine WL.gY rfl rfl ?_
    refine WL.mv rfl rfl ?_
    refine WL.gY rfl rfl ?_
    refine WL.not rfl rfl ?_
    refine WL.pickT rfl rfl rfl ?_
    refine WL.as rfl rfl ?_
    refine WL.nil ?_
    exact W.ret1 rfl rfl (fun h p => rfl)
  · refine W.drawP 7 [true, true, true] rfl (by repeat' first | exact FL.nil | apply FL.cons) (by repeat' first | exact FL.nil | apply FL.cons) (fun σ0 hσ0 dσ0 => ?_)
    refine WD.takeL 0 rfl (by decide +kernel) ?_
    refine WL.mv rfl rfl ?_
    refine WL.nilT ?_
    refine WD.takeL 3 rfl (by decide +kernel) ?_
    refine WL.mv rfl rfl ?_
    refine WL.nilT ?_
    refine WD.twoL 1 4 rfl rfl (by decide +kernel) ?_ ?_
    · refine WL.ldAF (T := Ty) (j := 2) rfl rfl rfl rfl rfl rfl (by repeat' first | exact FL.nil | apply FL.cons) ?_
      refine WL.nilE ?_
      refine WD.twoL 2 4 rfl rfl (by decide +kernel) ?_ ?_
      · refine WL.callV rfl rfl (fun x p d => leave_zno _ _ _ _ _ _ _ _ _ _ _ _ (by first | assumption | exact RB.wide (by assumption) | exact In.rb (by assumption) | exact rb_at 0 rfl p d | exact rb_at 1 rfl p d | exact rb_at 2 rfl p d | exact rb_at 3 rfl p d | exact rb_at 4 rfl p d | exact rb_at 5 rfl p d) (by first | assumption | rfl) (by first | assumption | omega | decide) (by first | assumption | exact .inl (by assumption) | exact .inr (by first | omega | decide) | exact .inl rfl)) ?_
        refine WL.nilE ?_
        refine WD.oneL 4 rfl (by decide +kernel) ?_
        refine WL.ldAF (T := Ty) (j := 2) rfl rfl rfl rfl rfl rfl (by repeat' first | exact FL.nil | apply FL.cons) ?_
        refine WL.nilE ?_
        refine WD.oneL 5 rfl (by decide +kernel) ?_
        refine WL.callM 3 rfl rfl rfl (fun x p d => leave_z _ _ _ _ _ _ _ _ _ _ _ _ (by first | assumption | rfl) (by first | assumption | rfl) (by first | assumption | omega | decide) (by first | assumption | rfl) (by first | assumption | rfl) (by first | assumption | omega | decide) (by first | assumption | omega | decide)) (by repeat' first | exact FL.nil | apply FL.cons) ?_
        refine WL.nilE ?_
        refine WD.takeL 6 rfl (by decide +kernel) ?_
        refine WL.as rfl rfl ?_
        refine WL.nilT ?_
        refine WD.lastG hσ0 (by decide +kernel) (by repeat' first | exact FL.nil | apply FL.cons) rfl (by repeat' first | exact FL.nil | apply FL.cons) ?_
        refine WL.as rfl rfl ?_
        refine WL.nil ?_
        refine W.drop 0 rfl (by repeat' first | exact FL.nil | apply FL.cons) ?_
        refine W.drop 0 rfl (by repeat' first | exact FL.nil | apply FL.cons) ?_
        refine W.sub ?_ (cut b0 trivial)
        exact ⟨rfl, rfl, rfl, rfl, rfl, rfl, rfl, rfl, rfl, trivial⟩
      · refine WL.ldAF (T := Ty) (j := 2) rfl rfl rfl rfl rfl rfl (by repeat' first | exact FL.nil | apply FL.cons) ?_
        refine WL.nilE ?_
        refine WD.oneL 2 rfl (by decide +kernel) ?_
        refine WL.callV rfl rfl (fun x p d => leave_zno _ _ _ _ _ _ _ _ _ _ _ _ (by first | assumption | exact RB.wide (by assumption) | exact In.rb (by assumption) | exact rb_at 0 rfl p d | exact rb_at 1 rfl p d | exact rb_at 2 rfl p d | exact rb_at 3 rfl p d | exact rb_at 4 rfl p d | exact rb_at 5 rfl p d) (by first | assumption | rfl) (by first | assumption | omega | decide) (by first | assumption | exact .inl (by assumption) | exact .inr (by first | omega | decide) | exact .inl rfl)) ?_
        refine WL.nilE ?_
        refine WD.oneL 5 rfl (by decide +kernel) ?_
        refine WL.callM 3 rfl rfl rfl (fun x p d => leave_z _ _ _ _ _ _ _ _ _ _ _ _ (by first | assumption | rfl) (by first | assumption | rfl) (by first | assumption | omega | decide) (by first | assumption | rfl) (by first | assumption | rfl) (by first | assumption | omega | decide) (by first | assumption | omega | decide)) (by repeat' first | exact FL.nil | apply FL.cons) ?_
        refine WL.nilE ?_
        refine WD.takeL 6 rfl (by decide +kernel) ?_
        refine WL.as rfl rfl ?_
        refine WL.nilT ?_
        refine WD.lastG hσ0 (by decide +kernel) (by repeat' first | exact FL.nil | apply FL.cons) rfl (by repeat' first | exact FL.nil | apply FL.cons) ?_
        refine WL.as rfl rfl ?_
        refine WL.nil ?_
        refine W.drop 0 rfl (by repeat' first | exact FL.nil | apply FL.cons) ?_
        refine W.drop 0 rfl (by repeat' first | exact FL.nil | apply FL.cons) ?_
        refine W.sub ?_ (cut b0 trivial)
        exact ⟨rfl, rfl, rfl, rfl, rfl, rfl, rfl, rfl, rfl, trivial⟩
    · refine WL.ldAF (T := Ty) (j := 2) rfl rfl rfl rfl rfl rfl (by repeat' first | exact FL.nil | apply FL.cons) ?_
      refine WL.nilE ?_
      refine WD.oneL 1 rfl (by decide +kernel) ?_
      refine WL.ldAF (T := Ty) (j := 2) rfl rfl rfl rfl rfl rfl (by repeat' first | exact FL.nil | apply FL.cons) ?_
      refine WL.nilE ?_
      refine WD.oneL 2 rfl (by decide +kernel) ?_
      refine WL.callV rfl rfl (fun x p d => leave_zno _ _ _ _ _ _ _ _ _ _ _ _ (by first | assumption | exact RB.wide (by assumption) | exact In.rb (by assumption) | exact rb_at 0 rfl p d | exact rb_at 1 rfl p d | exact rb_at 2 rfl p d | exact rb_at 3 rfl p d | exact rb_at 4 rfl p d | exact rb_at 5 rfl p d) (by first | assumption | rfl) (by first | assumption | omega | decide) (by first | assumption | exact .inl (by assumption) | exact .inr (by first | omega | decide) | exact .inl rfl)) ?_
      refine WL.nilE ?_
      refine WD.oneL 5 rfl (by decide +kernel) ?_
      refine WL.callM 3 rfl rfl rfl (fun x p d => leave_z _ _ _ _ _ _ _ _ _ _ _ _ (by first | assumption | rfl) (by first | assumption | rfl) (by first | assumption | omega | decide) (by first | assumption | rfl) (by first | assumption | rfl) (by first | assumption | omega | decide) (by first | assumption | omega | decide)) (by repeat' first | exact FL.nil | apply FL.cons) ?_
      refine WL.nilE ?_
      refine WD.takeL 6 rfl (by decide +kernel) ?_
      refine WL.as rfl rfl ?_
      refine WL.nilT ?_
      refine WD.lastG hσ0 (by decide +kernel) (by repeat' first | exact FL.nil | apply FL.cons) rfl (by repeat' first | exact FL.nil | apply FL.cons) ?_
      refine WL.as rfl rfl ?_
      refine WL.nil ?_
      refine W.drop 0 rfl (by repeat' first | exact FL.nil | apply FL.cons) ?_
      refine W.drop 0 rfl (by repeat' first | exact FL.nil | apply FL.cons) ?_
      refine W.sub ?_ (cut b0 trivial)
      exact ⟨rfl, rfl, rfl, rfl, rfl, rfl, rfl, rfl, rfl, trivial⟩
end Go.Proofs.Ytlmhjkbbooghfaa
