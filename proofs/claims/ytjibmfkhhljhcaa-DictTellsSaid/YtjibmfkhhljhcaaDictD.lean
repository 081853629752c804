/- Values by a list: what the code of package dict reads. -/
import Derived.Test.YtjibmfkhhljhcaaStc
import Derived.Test.YtjibmfkhhljhcaaNum
import Derived.Test.YtjibmfkhhljhcaaTab
import Derived.Test.YtjibmfkhhljhcaaDict
set_option linter.unusedSimpArgs false
set_option linter.unusedVariables false
set_option maxRecDepth 20000
set_option maxHeartbeats 4000000
namespace Go.Proofs.Ytjibmfkhhljhcaa
open Go
attribute [local irreducible] W WL Fn Buf ROs SL eptr box Rd Src bndOK WD RB Reads In Mp encD decD encDw unl valsD valsF kget kset kvF

theorem valsF_succ (k : Nat) (bs out : List Nat) {u i : Nat} (h : vgetF 0 0 bs = (u, i)) : valsF (k + 1) bs out = if i = 0 then none else valsF k (bs.drop i) (out ++ [u]) := by rw [valsF, h]
theorem valsF_zero (bs out : List Nat) : valsF 0 bs out = some (out, bs) := by rw [valsF]
theorem valsD_eq {bs : List Nat} {u i : Nat} (h : vgetF 0 0 bs = (u, i)) : valsD bs = if i = 0 ∨ u = 0 ∨ 256 < u then none else valsF u (bs.drop i) [] := by unfold valsD; rw [h]
/-- the values that are unlike, and what stands behind them -/
def RowV (ρ : Hp) (o : Option (List Nat × List Nat)) : Value → HP := fun r h => match o with
  | none => ∃ u, r = .tuple #[u, .slice none 0 0, .bool false] ∧ Buf 1 u [] h
  | some q => ∃ u v, (r = .tuple #[u, v, .bool true] ∧ ROs ρ 1 v (q.2.map bcell)) ∧ Buf 1 u (q.1.map ucell) h
theorem values_c (ρ : Hp) (v : Value) (bs : List Nat) (hv : ROs ρ 1 v (bs.map bcell)) (hw : ∀ x ∈ bs, x < 256) (hl : bs.length ≤ 140737488355328) :
    Fn Try.prog 42 #[v] ρ [] (RowV ρ (valsD bs)) := by
  refine in42 rfl rfl ?_
  have sv := hv.slm
  obtain ⟨k, a, hg⟩ : ∃ k a, vgetF 0 0 bs = (k, a) := ⟨_, _, rfl⟩
  have ha := vget_le bs 0 0
  have hk := vget_bound bs 0 0 (by decide) (by decide) hw
  rw [hg] at ha hk
  simp only [] at ha hk
  have hvd := valsD_eq hg
  by_cases c1 : a = 0
  · rw [if_pos (.inl c1)] at hvd
    refine W.seq ?_
    refine W.region ?_
    refine WL.as rfl rfl ?_
    refine WL.as rfl rfl ?_
    refine WL.as rfl rfl ?_
    refine WL.nil ?_
    refine W.seq ?_
    refine W.region ?_
    refine WL.mv rfl rfl ?_
    refine WL.callV rfl rfl (fun x p d => vget_e _ _ _ (by first | assumption | exact ROs.wide (by assumption) | exact ROs.mono (by assumption) (eqh_at 0 rfl p d) | exact ros_at 0 rfl p d | exact ros_at 1 rfl p d | exact ros_at 2 rfl p d | exact ros_at 3 rfl p d | exact ros_at 4 rfl p d) (by assumption) (by first | assumption) (by first | assumption | omega)) ?_
    refine WL.mv rfl rfl ?_
    refine WL.extL rfl rfl rfl ?_
    refine WL.extL rfl rfl rfl ?_
    refine WL.as rfl rfl ?_
    refine WL.as rfl rfl ?_
    refine WL.nil ?_
    refine W.seq ?_
    refine W.seq ?_
    refine W.region ?_
    refine WL.mv rfl rfl ?_
    refine WL.eql rfl rfl rfl ?_
    refine WL.mv rfl rfl ?_
    refine WL.gdFn rfl rfl rfl rfl rfl (by omega) ?_
    refine WL.gdFn rfl rfl rfl rfl rfl (by omega) ?_
    refine WL.pickTp rfl rfl (by omega) rfl ?_
    refine WL.mv rfl rfl ?_
    refine WL.gdN rfl rfl rfl rfl rfl rfl ?_
    refine WL.gdN rfl rfl rfl rfl rfl rfl ?_
    refine WL.pickT rfl rfl rfl ?_
    refine WL.nil ?_
    refine W.condT rfl ?_
    refine W.seq ?_
    refine W.region ?_
    refine WL.as rfl rfl ?_
    refine WL.as rfl rfl ?_
    refine WL.as rfl rfl ?_
    refine WL.nil ?_
    refine W.nb (sz := 1) ?_
    exact W.ret3 rfl rfl rfl rfl (fun h p => by rw [hvd]; exact ⟨_, rfl, sepl_one.1 p⟩)
  by_cases c2 : k = 0
  · rw [if_pos (.inr (.inl c2))] at hvd
    refine W.seq ?_
    refine W.region ?_
    refine WL.as rfl rfl ?_
    refine WL.as rfl rfl ?_
    refine WL.as rfl rfl ?_
    refine WL.nil ?_
    refine W.seq ?_
    refine W.region ?_
    refine WL.mv rfl rfl ?_
    refine WL.callV rfl rfl (fun x p d => vget_e _ _ _ (by first | assumption | exact ROs.wide (by assumption) | exact ROs.mono (by assumption) (eqh_at 0 rfl p d) | exact ros_at 0 rfl p d | exact ros_at 1 rfl p d | exact ros_at 2 rfl p d | exact ros_at 3 rfl p d | exact ros_at 4 rfl p d) (by assumption) (by first | assumption) (by first | assumption | omega)) ?_
    refine WL.mv rfl rfl ?_
    refine WL.extL rfl rfl rfl ?_
    refine WL.extL rfl rfl rfl ?_
    refine WL.as rfl rfl ?_
    refine WL.as rfl rfl ?_
    refine WL.nil ?_
    refine W.seq ?_
    refine W.seq ?_
    refine W.region ?_
    refine WL.mv rfl rfl ?_
    refine WL.eql rfl rfl rfl ?_
    refine WL.mv rfl rfl ?_
    refine WL.gF rfl rfl (by omega) ?_
    refine WL.mv rfl rfl ?_
    refine WL.gF rfl rfl (by omega) ?_
    refine WL.eql rfl rfl rfl ?_
    refine WL.pickFp rfl rfl (by omega) rfl ?_
    refine WL.mv rfl rfl ?_
    refine WL.gdFn rfl rfl rfl rfl rfl (by omega) ?_
    refine WL.gdFn rfl rfl rfl rfl rfl (by omega) ?_
    refine WL.pickTp rfl rfl (by omega) rfl ?_
    refine WL.nil ?_
    refine W.condT rfl ?_
    refine W.seq ?_
    refine W.region ?_
    refine WL.as rfl rfl ?_
    refine WL.as rfl rfl ?_
    refine WL.as rfl rfl ?_
    refine WL.nil ?_
    refine W.nb (sz := 1) ?_
    exact W.ret3 rfl rfl rfl rfl (fun h p => by rw [hvd]; exact ⟨_, rfl, sepl_one.1 p⟩)
  by_cases c3 : 256 < k
  · rw [if_pos (.inr (.inr c3))] at hvd
    refine W.seq ?_
    refine W.region ?_
    refine WL.as rfl rfl ?_
    refine WL.as rfl rfl ?_
    refine WL.as rfl rfl ?_
    refine WL.nil ?_
    refine W.seq ?_
    refine W.region ?_
    refine WL.mv rfl rfl ?_
    refine WL.callV rfl rfl (fun x p d => vget_e _ _ _ (by first | assumption | exact ROs.wide (by assumption) | exact ROs.mono (by assumption) (eqh_at 0 rfl p d) | exact ros_at 0 rfl p d | exact ros_at 1 rfl p d | exact ros_at 2 rfl p d | exact ros_at 3 rfl p d | exact ros_at 4 rfl p d) (by assumption) (by first | assumption) (by first | assumption | omega)) ?_
    refine WL.mv rfl rfl ?_
    refine WL.extL rfl rfl rfl ?_
    refine WL.extL rfl rfl rfl ?_
    refine WL.as rfl rfl ?_
    refine WL.as rfl rfl ?_
    refine WL.nil ?_
    refine W.seq ?_
    refine W.seq ?_
    refine W.region ?_
    refine WL.mv rfl rfl ?_
    refine WL.eql rfl rfl rfl ?_
    refine WL.mv rfl rfl ?_
    refine WL.gF rfl rfl (by omega) ?_
    refine WL.mv rfl rfl ?_
    refine WL.gF rfl rfl (by omega) ?_
    refine WL.eql rfl rfl rfl ?_
    refine WL.pickFp rfl rfl (by omega) rfl ?_
    refine WL.mv rfl rfl ?_
    refine WL.gF rfl rfl (by omega) ?_
    refine WL.mv rfl rfl ?_
    refine WL.gF rfl rfl (by omega) ?_
    refine WL.gtr rfl rfl rfl ?_
    refine WL.pickFp rfl rfl (by omega) rfl ?_
    refine WL.nil ?_
    refine W.condpT rfl (by omega) ?_
    refine W.seq ?_
    refine W.region ?_
    refine WL.as rfl rfl ?_
    refine WL.as rfl rfl ?_
    refine WL.as rfl rfl ?_
    refine WL.nil ?_
    refine W.nb (sz := 1) ?_
    exact W.ret3 rfl rfl rfl rfl (fun h p => by rw [hvd]; exact ⟨_, rfl, sepl_one.1 p⟩)
  rw [if_neg (by omega)] at hvd
  refine W.seq ?_
  refine W.region ?_
  refine WL.as rfl rfl ?_
  refine WL.as rfl rfl ?_
  refine WL.as rfl rfl ?_
  refine WL.nil ?_
  refine W.seq ?_
  refine W.region ?_
  refine WL.mv rfl rfl ?_
  refine WL.callV rfl rfl (fun x p d => vget_e _ _ _ (by first | assumption | exact ROs.wide (by assumption) | exact ROs.mono (by assumption) (eqh_at 0 rfl p d) | exact ros_at 0 rfl p d | exact ros_at 1 rfl p d | exact ros_at 2 rfl p d | exact ros_at 3 rfl p d | exact ros_at 4 rfl p d) (by assumption) (by first | assumption) (by first | assumption | omega)) ?_
  refine WL.mv rfl rfl ?_
  refine WL.extL rfl rfl rfl ?_
  refine WL.extL rfl rfl rfl ?_
  refine WL.as rfl rfl ?_
  refine WL.as rfl rfl ?_
  refine WL.nil ?_
  refine W.seq ?_
  refine W.seq ?_
  refine W.region ?_
  refine WL.mv rfl rfl ?_
  refine WL.eql rfl rfl rfl ?_
  refine WL.mv rfl rfl ?_
  refine WL.gF rfl rfl (by omega) ?_
  refine WL.mv rfl rfl ?_
  refine WL.gF rfl rfl (by omega) ?_
  refine WL.eql rfl rfl rfl ?_
  refine WL.pickFp rfl rfl (by omega) rfl ?_
  refine WL.mv rfl rfl ?_
  refine WL.gF rfl rfl (by omega) ?_
  refine WL.mv rfl rfl ?_
  refine WL.gF rfl rfl (by omega) ?_
  refine WL.gtr rfl rfl rfl ?_
  refine WL.pickFp rfl rfl (by omega) rfl ?_
  refine WL.nil ?_
  refine W.condpF rfl (by omega) ?_
  refine W.skip ?_
  refine W.seq ?_
  refine W.region ?_
  refine WL.mv rfl rfl ?_
  refine WL.mv rfl rfl ?_
  refine WL.slDn (T := Ty) rfl rfl rfl rfl rfl (by first | assumption | exact ROs.wide (by assumption)) (by first | assumption | omega | (simp; omega)) (fun u0 hu0 ru0 => ?_)
  refine WL.as rfl rfl ?_
  refine WL.nil ?_
  refine W.seq ?_
  refine W.region ?_
  refine WL.as rfl rfl ?_
  refine WL.nil ?_
  refine W.seq ?_
  refine W.seq ?_
  refine W.region ?_
  refine WL.mv rfl rfl ?_
  refine WL.mv rfl rfl ?_
  refine WL.nil ?_
  refine W.block ?_
  refine W.nb (sz := 1) ?_
  refine W.loopS (σ := Nat × Value × List Nat × Value × List Nat) (fun s => [(0, s.2.1), (7, s.2.2.2.1), (28, .int .u64 (k : Int)), (29, .int .u64 (s.1 : Int))]) (fun s => [Buf 1 s.2.2.2.1 (s.2.2.2.2.map ucell)])
    (fun s => ROs ρ 1 s.2.1 (s.2.2.1.map bcell) ∧ s.1 ≤ k ∧ valsF (k - s.1) s.2.2.1 s.2.2.2.2 = valsD bs ∧ s.2.2.1.length ≤ bs.length ∧ (∀ x ∈ s.2.2.1, x < 256) ∧ s.2.2.2.2.length = s.1) (fun s => k - s.1) (0, u0, bs.drop a, .slice none 0 0, []) ⟨rfl, rfl, rfl, rfl, trivial⟩ rfl ⟨ru0, Nat.zero_le _, hvd.symm, by simp, fun x hx => hw x (List.mem_of_mem_drop hx), rfl⟩ ?_
  rintro ⟨i, cv, cb, o, os⟩ ⟨hcv, hi, hdec, hcl, hcw, hol⟩ next
  simp only [] at hcv hi hdec hcl hcw hol next ⊢
  have hcs := hcv.slm
  refine W.fact (i := 0) rfl (fun h hb => Buf.slm hb) (fun hso => ?_)
  by_cases hlt : i < k
  · obtain ⟨x, c, hgx⟩ : ∃ x c, vgetF 0 0 cb = (x, c) := ⟨_, _, rfl⟩
    have hcx := vget_le cb 0 0
    have hxl := vget_bound cb 0 0 (by decide) (by decide) hcw
    rw [hgx] at hcx hxl
    simp only [] at hcx hxl
    rw [show k - i = (k - (i + 1)) + 1 by omega, valsF_succ _ _ _ hgx] at hdec
    by_cases c0 : c = 0
    · rw [if_pos c0] at hdec
      refine W.seq ?_
      refine W.region ?_
      refine WL.lss rfl rfl rfl ?_
      refine WL.nil ?_
      refine W.seq ?_
      refine W.condpT rfl (by omega) ?_
      refine W.skip ?_
      refine W.seq ?_
      refine W.block ?_
      refine W.seq ?_
      refine W.region ?_
      refine WL.mv rfl rfl ?_
      refine WL.callV rfl rfl (fun x p d => vget_e _ _ _ (by first | assumption | exact ROs.wide (by assumption) | exact ROs.mono (by assumption) (eqh_at 0 rfl p d) | exact ros_at 0 rfl p d | exact ros_at 1 rfl p d | exact ros_at 2 rfl p d | exact ros_at 3 rfl p d | exact ros_at 4 rfl p d) (by assumption) (by first | assumption) (by first | assumption | omega)) ?_
      refine WL.mv rfl rfl ?_
      refine WL.extL rfl rfl rfl ?_
      refine WL.extL rfl rfl rfl ?_
      refine WL.as rfl rfl ?_
      refine WL.as rfl rfl ?_
      refine WL.nil ?_
      refine W.seq ?_
      refine W.seq ?_
      refine W.region ?_
      refine WL.mv rfl rfl ?_
      refine WL.eql rfl rfl rfl ?_
      refine WL.nil ?_
      refine W.condpT rfl (by omega) ?_
      refine W.seq ?_
      refine W.region ?_
      refine WL.as rfl rfl ?_
      refine WL.as rfl rfl ?_
      refine WL.as rfl rfl ?_
      refine WL.nil ?_
      refine W.drop 0 rfl (by repeat' first | exact FL.nil | apply FL.cons) ?_
      refine W.nb (sz := 1) ?_
      exact W.ret3 rfl rfl rfl rfl (fun h p => by rw [← hdec]; exact ⟨_, rfl, sepl_one.1 p⟩)
    · rw [if_neg c0] at hdec
      refine W.seq ?_
      refine W.region ?_
      refine WL.lss rfl rfl rfl ?_
      refine WL.nil ?_
      refine W.seq ?_
      refine W.condpT rfl (by omega) ?_
      refine W.skip ?_
      refine W.seq ?_
      refine W.block ?_
      refine W.seq ?_
      refine W.region ?_
      refine WL.mv rfl rfl ?_
      refine WL.callV rfl rfl (fun x p d => vget_e _ _ _ (by first | assumption | exact ROs.wide (by assumption) | exact ROs.mono (by assumption) (eqh_at 0 rfl p d) | exact ros_at 0 rfl p d | exact ros_at 1 rfl p d | exact ros_at 2 rfl p d | exact ros_at 3 rfl p d | exact ros_at 4 rfl p d) (by assumption) (by first | assumption) (by first | assumption | omega)) ?_
      refine WL.mv rfl rfl ?_
      refine WL.extL rfl rfl rfl ?_
      refine WL.extL rfl rfl rfl ?_
      refine WL.as rfl rfl ?_
      refine WL.as rfl rfl ?_
      refine WL.nil ?_
      refine W.seq ?_
      refine W.seq ?_
      refine W.region ?_
      refine WL.mv rfl rfl ?_
      refine WL.eql rfl rfl rfl ?_
      refine WL.nil ?_
      refine W.condpF rfl (by omega) ?_
      refine W.skip ?_
      refine W.drawP 8 [true] rfl (by repeat' first | exact FL.nil | apply FL.cons) (by repeat' first | exact FL.nil | apply FL.cons) (fun σ0 hσ0 dσ0 => ?_)
      refine WD.takeL 0 rfl (by decide +kernel) ?_
      refine WL.mv rfl rfl ?_
      refine WL.nilT ?_
      refine WD.takeL 1 rfl (by decide +kernel) ?_
      refine WL.mv rfl rfl ?_
      refine WL.nilT ?_
      refine WD.takeL 4 rfl (by decide +kernel) ?_
      refine WL.mv rfl rfl ?_
      refine WL.nilT ?_
      refine WD.takeL 5 rfl (by decide +kernel) ?_
      refine WL.mv rfl rfl ?_
      refine WL.nilT ?_
      refine WD.takeL 6 rfl (by decide +kernel) ?_
      refine WL.slDn (T := Ty) rfl rfl rfl rfl rfl (by first | assumption | exact ROs.wide (by assumption)) (by first | assumption | omega | (simp; omega)) (fun u1 hu1 ru1 => ?_)
      refine WL.nilT ?_
      refine WD.oneL 2 rfl (by decide +kernel) ?_
      refine WL.bsC (T := Ty) rfl rfl rfl rfl rfl rfl rfl (by repeat' first | exact CO.nil | apply CO.one (by first | rfl | exact SL.one (by assumption)) | apply CO.agg) rfl (by repeat' first | exact FL.nil | apply FL.cons) (fun u2 hu2 => ?_)
      refine WL.nilH hσ0 (fun σ1 hσ1 dσ1 mσ1 => ?_)
      have ru1 := ru1.mono mσ1
      have fσ1_0 := ros_at 0 rfl hσ1 dσ1
      refine WD.oneL 3 rfl (by decide +kernel) ?_
      refine WL.apQ (T := Ty) (i := 1) rfl rfl rfl rfl rfl rfl rfl (by first | exact .ro (by assumption) | exact .ro (ROs.wide (by assumption)) | exact .eqJ 0 rfl (by assumption) | exact .own 0 rfl | exact .own 1 rfl | exact .own 2 rfl | exact .own 3 rfl | exact .own 4 rfl | exact .own 5 rfl) (by first | assumption | exact ROs.slm (by assumption)) (fun _ => rfl) (by first | omega | (simp; omega)) (by first | omega | (simp; omega)) (fun v' => (by repeat' first | exact FL.nil | apply FL.cons)) (fun u3 hu3 => ?_)
      refine WL.nilE ?_
      refine WD.takeL 7 rfl (by decide +kernel) ?_
      refine WL.as rfl rfl ?_
      refine WL.nilT ?_
      refine WD.lastG hσ1 (by decide +kernel) (by repeat' first | exact FL.nil | apply FL.cons) rfl (by repeat' first | exact FL.nil | apply FL.cons) ?_
      refine WL.as rfl rfl ?_
      refine WL.nil ?_
      refine W.inBlock ?_
      refine W.region ?_
      refine WL.addK rfl rfl rfl (wrap_u64 ⟨by omega, by omega⟩) ?_
      refine WL.mv rfl rfl ?_
      refine WL.nil ?_
      refine W.drop 0 rfl (by repeat' first | exact FL.nil | apply FL.cons) ?_
      have e0 : join ρ σ0 = ρ := by rw [emp_eq hσ0, join_nohp]
      have ru : ROs ρ 1 u1 ((cb.drop c).map bcell) := by rw [← e0]; assumption
      refine W.sub ?_ (next ⟨i + 1, u1, cb.drop c, u3, os ++ [x]⟩ ⟨ru, by simp only []; omega, hdec, by simp; omega, fun y hy => hcw y (List.mem_of_mem_drop hy), by simp [hol]⟩ (by simp only []; omega))
      exact ⟨rfl, rfl, rfl, rfl, trivial⟩
  · have hie : i = k := by omega
    rw [hie, Nat.sub_self, valsF_zero] at hdec
    refine W.seq ?_
    refine W.region ?_
    refine WL.lss rfl rfl rfl ?_
    refine WL.nil ?_
    refine W.seq ?_
    refine W.condpF rfl (by omega) ?_
    refine W.exit rfl ?_
    refine W.seq ?_
    refine W.region ?_
    refine WL.mv rfl rfl ?_
    refine WL.mv rfl rfl ?_
    refine WL.as rfl rfl ?_
    refine WL.as rfl rfl ?_
    refine WL.as rfl rfl ?_
    refine WL.nil ?_
    exact W.ret3 rfl rfl rfl rfl (fun h p => by rw [← hdec]; exact ⟨_, _, ⟨rfl, hcv⟩, sepl_one.1 p⟩)
-- CALL 42 refine WL.callF rfl rfl (fun x p d => values_n _ _ _ (by assumption) $RO (by assumption) (by first | assumption | omega)) (fun r => ?_) ;; refine WL.ex (fun u$N => ?_) ;; refine WL.pure (fun er => ?_) ;; subst er
theorem values_n (ρ : Hp) (v : Value) (bs : List Nat) (e : valsD bs = none) (hv : ROs ρ 1 v (bs.map bcell)) (hw : ∀ x ∈ bs, x < 256) (hl : bs.length ≤ 140737488355328) :
    Fn Try.prog 42 #[v] ρ [] (fun r h => ∃ u, r = .tuple #[u, .slice none 0 0, .bool false] ∧ Buf 1 u [] h) := by
  have := values_c ρ v bs hv hw hl
  rw [e] at this
  exact this
theorem values_s (ρ : Hp) (v : Value) (bs : List Nat) {ws rest : List Nat} (e : valsD bs = some (ws, rest)) (hv : ROs ρ 1 v (bs.map bcell)) (hw : ∀ x ∈ bs, x < 256) (hl : bs.length ≤ 140737488355328) :
    Fn Try.prog 42 #[v] ρ [] (fun r h => ∃ u v, (r = .tuple #[u, v, .bool true] ∧ ROs ρ 1 v (rest.map bcell)) ∧ Buf 1 u (ws.map ucell) h) := by
  have := values_c ρ v bs hv hw hl
  rw [e] at this
  exact this
theorem decD_eq {bs : List Nat} {n : Int} {r : List Nat × List Nat} (h0 : heldM n ≠ 0) (hv : valsD bs = some r) : decD bs n = if (∀ a ∈ numI r.2 (wD r.1.length) (heldM n), a < r.1.length) ∧ encD (pickD r.1 (numI r.2 (wD r.1.length) (heldM n))) = some bs then some (pickD r.1 (numI r.2 (wD r.1.length) (heldM n))) else none := by
  unfold decD; rw [if_neg h0, hv]
theorem decD_eqn {bs : List Nat} {n : Int} (h0 : heldM n ≠ 0) (hv : valsD bs = none) : decD bs n = none := by
  unfold decD; rw [if_neg h0, hv]
theorem decD_eq0 {bs : List Nat} {n : Int} (h0 : heldM n = 0) : decD bs n = if bs = [] then some [] else none := by unfold decD; rw [if_pos h0]
theorem valsD_ok {bs ws rest : List Nat} (h : valsD bs = some (ws, rest)) (hb : ∀ x ∈ bs, x < 256) : ws.length ≤ 256 ∧ 0 < ws.length ∧ rest.length ≤ bs.length ∧ (∀ x ∈ ws, x < 18446744073709551616) ∧ ∀ x ∈ rest, x < 256 := by
  unfold valsD at h
  split at h
  · cases h
  · rename_i hc
    obtain ⟨h1, h2, h3⟩ := valsF_len _ _ _ _ h
    obtain ⟨h4, h5⟩ := h3 (fun x hx => hb x (List.mem_of_mem_drop hx)) (by simp)
    simp only [List.length_nil, List.length_drop] at h1 h2
    exact ⟨by omega, by omega, by omega, h4, h5⟩
theorem pick_next {ws bs : List Nat} {w i : Nat} : pickD ws (numI bs w (i + 1)) = pickD ws (numI bs w i) ++ [ws.getD (rdV bs w i) 0] := by unfold pickD; rw [numI_next]; simp
theorem ddec_c (ρ : Hp) (v : Value) (bs : List Nat) (n : Int) (hv : ROs ρ 1 v (bs.map bcell)) (hw : ∀ x ∈ bs, x < 256) (hl : bs.length ≤ 140737488355328) :
    Fn Try.prog 19 #[v, .int .i64 n] ρ [] (RowR (decD bs n)) := by
  refine in19 rfl rfl ?_
  have sv := hv.slm
  have hm := heldM_eq n
  have hml := heldM_le n
  by_cases h0 : heldM n = 0
  · have hdec := decD_eq0 (bs := bs) h0
    by_cases hb : bs = []
    · have hbl : bs.length = 0 := by rw [hb]; rfl
      rw [if_pos hb] at hdec
      refine W.seq ?_
      refine W.region ?_
      refine WL.as rfl rfl ?_
      refine WL.as rfl rfl ?_
      refine WL.nil ?_
      refine W.seq ?_
      refine W.region ?_
      refine WL.mv rfl rfl ?_
      refine WL.mx rfl rfl rfl ?_
      refine WL.mn rfl rfl rfl ?_
      refine WL.as rfl rfl ?_
      refine WL.nil ?_
      refine W.seq ?_
      refine W.seq ?_
      refine W.region ?_
      refine WL.mv rfl rfl ?_
      refine WL.eql rfl rfl rfl ?_
      refine WL.nil ?_
      refine W.condpT rfl (by omega) ?_
      refine W.seq ?_
      refine W.region ?_
      refine WL.mv rfl rfl ?_
      refine WL.len (T := Ty) rfl rfl (by assumption) rfl ?_
      refine WL.eql rfl rfl rfl ?_
      refine WL.as rfl rfl ?_
      refine WL.as rfl rfl ?_
      refine WL.nil ?_
      refine W.nb (sz := 1) ?_
      exact W.ret2 rfl rfl (by simp [look, ev]; omega) (fun h p => rowSome hdec p)
    · have hbl : 0 < bs.length := List.length_pos_iff.2 hb
      rw [if_neg hb] at hdec
      refine W.seq ?_
      refine W.region ?_
      refine WL.as rfl rfl ?_
      refine WL.as rfl rfl ?_
      refine WL.nil ?_
      refine W.seq ?_
      refine W.region ?_
      refine WL.mv rfl rfl ?_
      refine WL.mx rfl rfl rfl ?_
      refine WL.mn rfl rfl rfl ?_
      refine WL.as rfl rfl ?_
      refine WL.nil ?_
      refine W.seq ?_
      refine W.seq ?_
      refine W.region ?_
      refine WL.mv rfl rfl ?_
      refine WL.eql rfl rfl rfl ?_
      refine WL.nil ?_
      refine W.condpT rfl (by omega) ?_
      refine W.seq ?_
      refine W.region ?_
      refine WL.mv rfl rfl ?_
      refine WL.len (T := Ty) rfl rfl (by assumption) rfl ?_
      refine WL.eql rfl rfl rfl ?_
      refine WL.as rfl rfl ?_
      refine WL.as rfl rfl ?_
      refine WL.nil ?_
      refine W.nb (sz := 1) ?_
      exact W.ret2 rfl rfl (by simp [look, ev]; omega) (fun h p => rowNone hdec p)
  rcases hvd : valsD bs with _ | ⟨ws, rest⟩
  · have hdec := decD_eqn h0 hvd
    refine W.seq ?_
    refine W.region ?_
    refine WL.as rfl rfl ?_
    refine WL.as rfl rfl ?_
    refine WL.nil ?_
    refine W.seq ?_
    refine W.region ?_
    refine WL.mv rfl rfl ?_
    refine WL.mx rfl rfl rfl ?_
    refine WL.mn rfl rfl rfl ?_
    refine WL.as rfl rfl ?_
    refine WL.nil ?_
    refine W.seq ?_
    refine W.seq ?_
    refine W.region ?_
    refine WL.mv rfl rfl ?_
    refine WL.eql rfl rfl rfl ?_
    refine WL.nil ?_
    refine W.condpF rfl (by omega) ?_
    refine W.skip ?_
    refine W.seq ?_
    refine W.region ?_
    refine WL.mv rfl rfl ?_
    refine WL.callF rfl rfl (fun x p d => values_n _ _ _ (by assumption) (by first | assumption | exact ROs.wide (by assumption) | exact ROs.mono (by assumption) (eqh_at 0 rfl p d) | exact ros_at 0 rfl p d | exact ros_at 1 rfl p d | exact ros_at 2 rfl p d | exact ros_at 3 rfl p d | exact ros_at 4 rfl p d) (by assumption) (by first | assumption | omega)) (fun r => ?_)
    refine WL.ex (fun u0 => ?_)
    refine WL.pure (fun er => ?_)
    subst er
    refine WL.mv rfl rfl ?_
    refine WL.extL rfl rfl rfl ?_
    refine WL.extL rfl rfl rfl ?_
    refine WL.extL rfl rfl rfl ?_
    refine WL.as rfl rfl ?_
    refine WL.as rfl rfl ?_
    refine WL.as rfl rfl ?_
    refine WL.nil ?_
    refine W.seq ?_
    refine W.seq ?_
    refine W.region ?_
    refine WL.mv rfl rfl ?_
    refine WL.not rfl rfl ?_
    refine WL.nil ?_
    refine W.condT rfl ?_
    refine W.seq ?_
    refine W.region ?_
    refine WL.as rfl rfl ?_
    refine WL.as rfl rfl ?_
    refine WL.nil ?_
    refine W.drop 0 rfl (by repeat' first | exact FL.nil | apply FL.cons) ?_
    refine W.nb (sz := 1) ?_
    exact W.ret2 rfl rfl rfl (fun h p => rowNone hdec p)
  have hdec := decD_eq h0 hvd
  simp only [] at hdec
  obtain ⟨hwl, hwp, hrl', hww, hrw⟩ := valsD_ok hvd hw
  have hrl : rest.length ≤ 140737488355328 := by omega
  refine W.seq ?_
  refine W.region ?_
  refine WL.as rfl rfl ?_
  refine WL.as rfl rfl ?_
  refine WL.nil ?_
  refine W.seq ?_
  refine W.region ?_
  refine WL.mv rfl rfl ?_
  refine WL.mx rfl rfl rfl ?_
  refine WL.mn rfl rfl rfl ?_
  refine WL.as rfl rfl ?_
  refine WL.nil ?_
  refine W.seq ?_
  refine W.seq ?_
  refine W.region ?_
  refine WL.mv rfl rfl ?_
  refine WL.eql rfl rfl rfl ?_
  refine WL.nil ?_
  refine W.condpF rfl (by omega) ?_
  refine W.skip ?_
  refine W.seq ?_
  refine W.region ?_
  refine WL.mv rfl rfl ?_
  refine WL.call (H1 := []) (H2 := []) rfl rfl (values_s ρ v bs hvd hv hw hl) (fun h p => p) (fun r => ?_)
  refine WL.ex (fun l => ?_)
  refine WL.ex (fun rv => ?_)
  refine WL.pure (fun er => ?_)
  obtain ⟨er, hrv⟩ := er
  subst er
  refine WL.fact (i := 0) rfl (fun h hb => Buf.slm hb) (fun hsl => ?_)
  have hw64 := wD_le ws.length
  have ewd : lenB 64 ((ws.length : Int) - 1).toNat = wD ws.length := by unfold wD; congr 1; omega
  refine WL.mv rfl rfl ?_
  refine WL.extL rfl rfl rfl ?_
  refine WL.extL rfl rfl rfl ?_
  refine WL.extL rfl rfl rfl ?_
  refine WL.as rfl rfl ?_
  refine WL.as rfl rfl ?_
  refine WL.as rfl rfl ?_
  refine WL.nil ?_
  refine W.seq ?_
  refine W.seq ?_
  refine W.region ?_
  refine WL.mv rfl rfl ?_
  refine WL.not rfl rfl ?_
  refine WL.nil ?_
  refine W.condF rfl ?_
  refine W.skip ?_
  refine W.seq ?_
  refine W.region ?_
  refine WL.mv rfl rfl ?_
  refine WL.callF rfl rfl (fun x p d => newReader_c _ _ _ (by first | assumption | exact ROs.wide (by assumption) | exact ROs.mono (by assumption) (eqh_at 0 rfl p d) | exact ros_at 0 rfl p d | exact ros_at 1 rfl p d | exact ros_at 2 rfl p d | exact ros_at 3 rfl p d | exact ros_at 4 rfl p d) (by first | assumption | omega | (simp only [pack_len, List.length_append, bitsOf_len, List.length_nil, heldF]; omega))) (fun r => ?_)
  refine WL.ex (fun b0 => ?_)
  refine WL.pure (fun er => ?_)
  subst er
  refine WL.as rfl rfl ?_
  refine WL.nil ?_
  refine W.seq ?_
  refine W.region ?_
  refine WL.as rfl rfl ?_
  refine WL.nil ?_
  refine W.seq ?_
  refine W.seq ?_
  refine W.region ?_
  refine WL.mv rfl rfl ?_
  refine WL.mv rfl rfl ?_
  refine WL.nil ?_
  refine W.block ?_
  refine W.nb (sz := 1) ?_
  refine W.loopS (σ := Nat × RdSt × Value) (fun s => [(0, v), (6, l), (9, ptr b0), (10, s.2.2), (32, .int .i64 (min (max n 0) 65535)), (33, .int .i64 (s.1 : Int))])
    (fun s => [Buf 1 s.2.2 ((pickD ws (numI rest (wD ws.length) s.1)).map ucell), Re b0 rest s.2.1, Buf 1 l (ws.map ucell)])
    (fun s => s.1 ≤ heldM n ∧ RdAt rest (wD ws.length) s.1 s.2.1 ∧ s.2.1.bad = false ∧ ∀ a ∈ numI rest (wD ws.length) s.1, a < ws.length) (fun s => heldM n - s.1) (0, ⟨0, false⟩, .slice none 0 0) ⟨rfl, rfl, rfl, rfl, rfl, rfl, trivial⟩ rfl ⟨Nat.zero_le _, rdAt_zero _ _, rfl, by simp [numI]⟩ ?_
  rintro ⟨i, s, o⟩ ⟨hi, hs, hsb, hall⟩ next
  simp only [] at hi hs hsb hall next ⊢
  have hil : (pickD ws (numI rest (wD ws.length) i)).length = i := by simp [pickD, numI_len]
  refine W.fact (i := 0) rfl (fun h hb => Buf.slm hb) (fun hso => ?_)
  have hsat := hs.at'
  by_cases hlt : i < heldM n
  · obtain ⟨g, s', hgf⟩ : ∃ g s', getF rest s (wD ws.length : Int) = (g, s') := ⟨_, _, rfl⟩
    have hnx := rdAt_next hw64 hs
    rw [hgf] at hnx
    obtain ⟨hg1, hs'⟩ := hnx
    simp only [] at hg1 hs'
    have hbad := rdAt_bad hs'
    have hgl : g < 18446744073709551616 := by
      have h1 := rdV_lt rest (wD ws.length) i
      have h2 : 2 ^ wD ws.length ≤ 2 ^ 64 := Nat.pow_le_pow_right (by decide) hw64
      rw [hg1]; omega
    have hgf' : getF rest s ((lenB 64 ((ws.length : Int) - 1).toNat : Nat) : Int) = (g, s') := by rw [ewd]; exact hgf
    rcases s' with ⟨sa, sb⟩
    cases sb with
    | true =>
      have hno : decD bs n = none := by
        rw [hdec, if_neg]
        rintro ⟨_, he⟩
        have hmul : (i + 1) * wD ws.length ≤ heldM n * wD ws.length := Nat.mul_le_mul_right _ hlt
        have := hbad.1 rfl
        exact decD_short hvd (m := heldM n) (by simp [pickD, numI_len]) (by omega) (pickD_lt hww) (by omega) he
      refine W.seq ?_
      refine W.region ?_
      refine WL.lss rfl rfl rfl ?_
      refine WL.nil ?_
      refine W.seq ?_
      refine W.condpT rfl (by omega) ?_
      refine W.skip ?_
      refine W.seq ?_
      refine W.block ?_
      refine W.seq ?_
      refine W.region ?_
      refine WL.mv rfl rfl ?_
      refine WL.mv rfl rfl ?_
      refine WL.len (T := Ty) rfl rfl (by assumption) rfl ?_
      refine WL.subK rfl rfl rfl (wrap_i64 ⟨by omega, by omega⟩) ?_
      refine WL.cvK (T := Ty) rfl rfl rfl rfl (wrap_u64 ⟨by omega, by omega⟩) ?_
      refine WL.callV rfl rfl (fun x p d => len_m _ _ (by omega) (by omega)) ?_
      refine WL.callM 1 rfl rfl rfl (fun x p d => get_e _ _ _ _ _ (by assumption) (by first | exact Nat.zero_le _ | assumption | (simp only [pack_len]; omega) | (exact getF_at _ _ _ (by first | exact Nat.zero_le _ | assumption | exact getF_at _ _ _ (by first | exact Nat.zero_le _ | assumption)))) (by first | assumption | omega | (simp only [pack_len, List.length_append, bitsOf_len, List.length_nil, heldF]; omega)) (by first | assumption | exact pack_lt _ (by repeat' first | assumption | exact bok_nil | exact bitsOf_bit _ _ | apply bok_app))) (by repeat' first | exact FL.nil | apply FL.cons) ?_
      refine WL.as rfl rfl ?_
      refine WL.nil ?_
      refine W.seq ?_
      refine W.seq ?_
      refine W.region ?_
      refine WL.mv rfl rfl ?_
      refine WL.callV rfl rfl (fun x p d => ok_c _ _ _ _ (by first | assumption | exact In.wide (by assumption) | exact In.mono (by assumption) (eqh_at 0 rfl p d) | exact in_at 0 rfl p d | exact in_at 1 rfl p d | exact in_at 2 rfl p d | exact in_at 3 rfl p d | exact in_at 4 rfl p d)) ?_
      refine WL.not rfl rfl ?_
      refine WL.mv rfl rfl ?_
      refine WL.gdN rfl rfl rfl rfl rfl rfl ?_
      refine WL.gdN rfl rfl rfl rfl rfl rfl ?_
      refine WL.gdN rfl rfl rfl rfl rfl rfl ?_
      refine WL.gdN rfl rfl rfl rfl rfl rfl ?_
      refine WL.gdN rfl rfl rfl rfl rfl rfl ?_
      refine WL.pickT rfl rfl rfl ?_
      refine WL.nil ?_
      refine W.condT rfl ?_
      refine W.seq ?_
      refine W.region ?_
      refine WL.as rfl rfl ?_
      refine WL.as rfl rfl ?_
      refine WL.nil ?_
      refine W.drop 0 rfl (by repeat' first | exact FL.nil | apply FL.cons) ?_
      refine W.drop 0 rfl (by repeat' first | exact FL.nil | apply FL.cons) ?_
      refine W.drop 0 rfl (by repeat' first | exact FL.nil | apply FL.cons) ?_
      refine W.nb (sz := 1) ?_
      exact W.ret2 rfl rfl rfl (fun h p => rowNone hno p)
    | false =>
      by_cases hg : g < ws.length
      · have hgc : (ws.map ucell)[g]? = some (ucell (ws.getD g 0)) := by simp [List.getD, List.getElem?_eq_getElem hg]
        refine W.seq ?_
        refine W.region ?_
        refine WL.lss rfl rfl rfl ?_
        refine WL.nil ?_
        refine W.seq ?_
        refine W.condpT rfl (by omega) ?_
        refine W.skip ?_
        refine W.seq ?_
        refine W.block ?_
        refine W.seq ?_
        refine W.region ?_
        refine WL.mv rfl rfl ?_
        refine WL.mv rfl rfl ?_
        refine WL.len (T := Ty) rfl rfl (by assumption) rfl ?_
        refine WL.subK rfl rfl rfl (wrap_i64 ⟨by omega, by omega⟩) ?_
        refine WL.cvK (T := Ty) rfl rfl rfl rfl (wrap_u64 ⟨by omega, by omega⟩) ?_
        refine WL.callV rfl rfl (fun x p d => len_m _ _ (by omega) (by omega)) ?_
        refine WL.callM 1 rfl rfl rfl (fun x p d => get_e _ _ _ _ _ (by assumption) (by first | exact Nat.zero_le _ | assumption | (simp only [pack_len]; omega) | (exact getF_at _ _ _ (by first | exact Nat.zero_le _ | assumption | exact getF_at _ _ _ (by first | exact Nat.zero_le _ | assumption)))) (by first | assumption | omega | (simp only [pack_len, List.length_append, bitsOf_len, List.length_nil, heldF]; omega)) (by first | assumption | exact pack_lt _ (by repeat' first | assumption | exact bok_nil | exact bitsOf_bit _ _ | apply bok_app))) (by repeat' first | exact FL.nil | apply FL.cons) ?_
        refine WL.as rfl rfl ?_
        refine WL.nil ?_
        refine W.seq ?_
        refine W.seq ?_
        refine W.region ?_
        refine WL.mv rfl rfl ?_
        refine WL.callV rfl rfl (fun x p d => ok_c _ _ _ _ (by first | assumption | exact In.wide (by assumption) | exact In.mono (by assumption) (eqh_at 0 rfl p d) | exact in_at 0 rfl p d | exact in_at 1 rfl p d | exact in_at 2 rfl p d | exact in_at 3 rfl p d | exact in_at 4 rfl p d)) ?_
        refine WL.not rfl rfl ?_
        refine WL.mv rfl rfl ?_
        refine WL.gY rfl rfl ?_
        refine WL.mv rfl rfl ?_
        refine WL.gY rfl rfl ?_
        refine WL.mv rfl rfl ?_
        refine WL.gY rfl rfl ?_
        refine WL.len (T := Ty) rfl rfl (by assumption) rfl ?_
        refine WL.gY rfl rfl ?_
        refine WL.cvK (T := Ty) rfl rfl rfl rfl (wrap_u64 ⟨by omega, by omega⟩) ?_
        refine WL.gY rfl rfl ?_
        refine WL.geq rfl rfl rfl ?_
        refine WL.pickF rfl rfl rfl ?_
        refine WL.nil ?_
        refine W.condpF rfl (by omega) ?_
        refine W.skip ?_
        refine W.region ?_
        refine WL.mv rfl rfl ?_
        refine WL.mv rfl rfl ?_
        refine WL.mv rfl rfl ?_
        refine WL.ix (T := Ty) rfl rfl rfl (by assumption) rfl rfl (by omega) (by first | omega | decide +kernel) ?_
        refine WL.ldEK (T := Ty) (j := 2) rfl rfl rfl rfl rfl (by assumption) (by omega) ?_
        refine WL.bsC (T := Ty) rfl rfl rfl rfl rfl rfl rfl (by repeat' first | exact CO.nil | apply CO.one (by first | rfl | exact SL.one (by assumption)) | apply CO.agg) rfl (by repeat' first | exact FL.nil | apply FL.cons) (fun u1 hu1 => ?_)
        refine WL.ap1 (T := Ty) (i := 0) rfl rfl rfl rfl rfl rfl rfl rfl (by assumption) (by first | rfl | assumption) (by first | omega | (simp; omega)) (by first | omega | (simp; omega)) (fun v' => (by repeat' first | exact FL.nil | apply FL.cons)) (fun u2 hu2 => ?_)
        refine WL.as rfl rfl ?_
        refine WL.nil ?_
        refine W.inBlock ?_
        refine W.region ?_
        refine WL.addK rfl rfl rfl (wrap_i64 ⟨by omega, by omega⟩) ?_
        refine WL.mv rfl rfl ?_
        refine WL.nil ?_
        refine W.sub ?_ (W.hs (fun h p => ?_) (next ⟨i + 1, ⟨sa, false⟩, u2⟩ ⟨by simp only []; omega, hs', rfl, ?_⟩ (by simp only []; omega)))
        · exact ⟨rfl, rfl, rfl, rfl, rfl, rfl, trivial⟩
        · simp only []
          rw [pick_next, List.map_append, ← hg1]
          exact p
        · intro a ha
          rw [numI_next] at ha
          rcases List.mem_append.1 ha with h | h
          · exact hall a h
          · simp at h; omega
      · have hno : decD bs n = none := by
          rw [hdec, if_neg]
          rintro ⟨h, _⟩
          have : rdV rest (wD ws.length) i < ws.length := h _ (List.mem_map.2 ⟨i, List.mem_range.2 hlt, rfl⟩)
          omega
        refine W.seq ?_
        refine W.region ?_
        refine WL.lss rfl rfl rfl ?_
        refine WL.nil ?_
        refine W.seq ?_
        refine W.condpT rfl (by omega) ?_
        refine W.skip ?_
        refine W.seq ?_
        refine W.block ?_
        refine W.seq ?_
        refine W.region ?_
        refine WL.mv rfl rfl ?_
        refine WL.mv rfl rfl ?_
        refine WL.len (T := Ty) rfl rfl (by assumption) rfl ?_
        refine WL.subK rfl rfl rfl (wrap_i64 ⟨by omega, by omega⟩) ?_
        refine WL.cvK (T := Ty) rfl rfl rfl rfl (wrap_u64 ⟨by omega, by omega⟩) ?_
        refine WL.callV rfl rfl (fun x p d => len_m _ _ (by omega) (by omega)) ?_
        refine WL.callM 1 rfl rfl rfl (fun x p d => get_e _ _ _ _ _ (by assumption) (by first | exact Nat.zero_le _ | assumption | (simp only [pack_len]; omega) | (exact getF_at _ _ _ (by first | exact Nat.zero_le _ | assumption | exact getF_at _ _ _ (by first | exact Nat.zero_le _ | assumption)))) (by first | assumption | omega | (simp only [pack_len, List.length_append, bitsOf_len, List.length_nil, heldF]; omega)) (by first | assumption | exact pack_lt _ (by repeat' first | assumption | exact bok_nil | exact bitsOf_bit _ _ | apply bok_app))) (by repeat' first | exact FL.nil | apply FL.cons) ?_
        refine WL.as rfl rfl ?_
        refine WL.nil ?_
        refine W.seq ?_
        refine W.seq ?_
        refine W.region ?_
        refine WL.mv rfl rfl ?_
        refine WL.callV rfl rfl (fun x p d => ok_c _ _ _ _ (by first | assumption | exact In.wide (by assumption) | exact In.mono (by assumption) (eqh_at 0 rfl p d) | exact in_at 0 rfl p d | exact in_at 1 rfl p d | exact in_at 2 rfl p d | exact in_at 3 rfl p d | exact in_at 4 rfl p d)) ?_
        refine WL.not rfl rfl ?_
        refine WL.mv rfl rfl ?_
        refine WL.gY rfl rfl ?_
        refine WL.mv rfl rfl ?_
        refine WL.gY rfl rfl ?_
        refine WL.mv rfl rfl ?_
        refine WL.gY rfl rfl ?_
        refine WL.len (T := Ty) rfl rfl (by assumption) rfl ?_
        refine WL.gY rfl rfl ?_
        refine WL.cvK (T := Ty) rfl rfl rfl rfl (wrap_u64 ⟨by omega, by omega⟩) ?_
        refine WL.gY rfl rfl ?_
        refine WL.geq rfl rfl rfl ?_
        refine WL.pickF rfl rfl rfl ?_
        refine WL.nil ?_
        refine W.condpT rfl (by omega) ?_
        refine W.seq ?_
        refine W.region ?_
        refine WL.as rfl rfl ?_
        refine WL.as rfl rfl ?_
        refine WL.nil ?_
        refine W.drop 0 rfl (by repeat' first | exact FL.nil | apply FL.cons) ?_
        refine W.drop 0 rfl (by repeat' first | exact FL.nil | apply FL.cons) ?_
        refine W.drop 0 rfl (by repeat' first | exact FL.nil | apply FL.cons) ?_
        refine W.nb (sz := 1) ?_
        exact W.ret2 rfl rfl rfl (fun h p => rowNone hno p)
  · have hie : i = heldM n := by omega
    subst hie
    have hol := pickD_lt (ats := numI rest (wD ws.length) (heldM n)) hww
    generalize hout : pickD ws (numI rest (wD ws.length) (heldM n)) = out at *
    rcases hen : encD out with _ | eb
    · have hno : decD bs n = none := by
        rw [hdec, if_neg]
        rintro ⟨_, he⟩
        rw [hen] at he
        cases he
      refine W.seq ?_
      refine W.region ?_
      refine WL.lss rfl rfl rfl ?_
      refine WL.nil ?_
      refine W.seq ?_
      refine W.condpF rfl (by omega) ?_
      refine W.exit rfl ?_
      refine W.seq ?_
      refine W.region ?_
      refine WL.mv rfl rfl ?_
      refine WL.callF rfl rfl (fun x p d => denc_n _ _ _ (by assumption) (by first | assumption | exact ROs.wide (by assumption) | exact ROs.mono (by assumption) (eqh_at 0 rfl p d) | exact ros_at 0 rfl p d | exact ros_at 1 rfl p d | exact ros_at 2 rfl p d | exact ros_at 3 rfl p d | exact ros_at 4 rfl p d) (by first | assumption | omega | decide) (by first | assumption | omega | decide)) (fun r => ?_)
      refine WL.ex (fun u1 => ?_)
      refine WL.pure (fun er => ?_)
      subst er
      refine WL.fact (i := 0) rfl (fun h hb => Buf.slm hb) (fun hsl1 => ?_)
      refine WL.mv rfl rfl ?_
      refine WL.extL rfl rfl rfl ?_
      refine WL.extL rfl rfl rfl ?_
      refine WL.as rfl rfl ?_
      refine WL.as rfl rfl ?_
      refine WL.nil ?_
      refine W.seq ?_
      refine W.seq ?_
      refine W.region ?_
      refine WL.mv rfl rfl ?_
      refine WL.not rfl rfl ?_
      refine WL.mv rfl rfl ?_
      refine WL.gdN rfl rfl rfl rfl rfl rfl ?_
      refine WL.gdN rfl rfl rfl rfl rfl rfl ?_
      refine WL.gdN rfl rfl rfl rfl rfl rfl ?_
      refine WL.gdN rfl rfl rfl rfl rfl rfl ?_
      refine WL.pickT rfl rfl rfl ?_
      refine WL.nil ?_
      refine W.condT rfl ?_
      refine W.seq ?_
      refine W.region ?_
      refine WL.as rfl rfl ?_
      refine WL.as rfl rfl ?_
      refine WL.nil ?_
      refine W.drop 0 rfl (by repeat' first | exact FL.nil | apply FL.cons) ?_
      refine W.drop 0 rfl (by repeat' first | exact FL.nil | apply FL.cons) ?_
      refine W.drop 0 rfl (by repeat' first | exact FL.nil | apply FL.cons) ?_
      refine W.drop 0 rfl (by repeat' first | exact FL.nil | apply FL.cons) ?_
      refine W.nb (sz := 1) ?_
      exact W.ret2 rfl rfl rfl (fun h p => rowNone hno p)
    · obtain ⟨hebl, hebw⟩ := encD_ok hen hol
      by_cases he : eb = bs
      · have hyes : decD bs n = some out := by rw [hdec, if_pos ⟨hall, by rw [hen, he]⟩]
        refine W.seq ?_
        refine W.region ?_
        refine WL.lss rfl rfl rfl ?_
        refine WL.nil ?_
        refine W.seq ?_
        refine W.condpF rfl (by omega) ?_
        refine W.exit rfl ?_
        refine W.seq ?_
        refine W.region ?_
        refine WL.mv rfl rfl ?_
        refine WL.callF rfl rfl (fun x p d => denc_s _ _ _ (by assumption) (by first | assumption | exact ROs.wide (by assumption) | exact ROs.mono (by assumption) (eqh_at 0 rfl p d) | exact ros_at 0 rfl p d | exact ros_at 1 rfl p d | exact ros_at 2 rfl p d | exact ros_at 3 rfl p d | exact ros_at 4 rfl p d) (by first | assumption | omega | decide) (by first | assumption | omega | decide)) (fun r => ?_)
        refine WL.ex (fun u1 => ?_)
        refine WL.pure (fun er => ?_)
        subst er
        refine WL.fact (i := 0) rfl (fun h hb => Buf.slm hb) (fun hsl1 => ?_)
        refine WL.mv rfl rfl ?_
        refine WL.extL rfl rfl rfl ?_
        refine WL.extL rfl rfl rfl ?_
        refine WL.as rfl rfl ?_
        refine WL.as rfl rfl ?_
        refine WL.nil ?_
        refine W.seq ?_
        refine W.seq ?_
        refine W.region ?_
        refine WL.mv rfl rfl ?_
        refine WL.not rfl rfl ?_
        refine WL.mv rfl rfl ?_
        refine WL.gY rfl rfl ?_
        refine WL.mv rfl rfl ?_
        refine WL.gY rfl rfl ?_
        refine WL.mv rfl rfl ?_
        refine WL.gY rfl rfl ?_
        refine WL.callV rfl rfl (fun x p d => beq_t _ _ _ _ _ (by first | assumption | exact ROs.wide (by assumption) | exact ROs.mono (by assumption) (eqh_at 0 rfl p d) | exact ros_at 0 rfl p d | exact ros_at 1 rfl p d | exact ros_at 2 rfl p d | exact ros_at 3 rfl p d | exact ros_at 4 rfl p d) (by first | assumption | exact ROs.wide (by assumption) | exact ROs.mono (by assumption) (eqh_at 0 rfl p d) | exact ros_at 0 rfl p d | exact ros_at 1 rfl p d | exact ros_at 2 rfl p d | exact ros_at 3 rfl p d | exact ros_at 4 rfl p d) (by first | with_reducible rfl | assumption) (by assumption) (by assumption) (by first | assumption | omega) (by first | assumption | omega)) ?_
        refine WL.gY rfl rfl ?_
        refine WL.not rfl rfl ?_
        refine WL.pickF rfl rfl rfl ?_
        refine WL.nil ?_
        refine W.condF rfl ?_
        refine W.skip ?_
        refine W.seq ?_
        refine W.region ?_
        refine WL.mv rfl rfl ?_
        refine WL.as rfl rfl ?_
        refine WL.as rfl rfl ?_
        refine WL.nil ?_
        refine W.drop 0 rfl (by repeat' first | exact FL.nil | apply FL.cons) ?_
        refine W.drop 1 rfl (by repeat' first | exact FL.nil | apply FL.cons) ?_
        refine W.drop 1 rfl (by repeat' first | exact FL.nil | apply FL.cons) ?_
        exact W.ret2 rfl rfl rfl (fun h p => rowSome hyes p)
      · have hno : decD bs n = none := by
          rw [hdec, if_neg]
          rintro ⟨_, h⟩
          rw [hen] at h
          exact he (Option.some.inj h)
        refine W.seq ?_
        refine W.region ?_
        refine WL.lss rfl rfl rfl ?_
        refine WL.nil ?_
        refine W.seq ?_
        refine W.condpF rfl (by omega) ?_
        refine W.exit rfl ?_
        refine W.seq ?_
        refine W.region ?_
        refine WL.mv rfl rfl ?_
        refine WL.callF rfl rfl (fun x p d => denc_s _ _ _ (by assumption) (by first | assumption | exact ROs.wide (by assumption) | exact ROs.mono (by assumption) (eqh_at 0 rfl p d) | exact ros_at 0 rfl p d | exact ros_at 1 rfl p d | exact ros_at 2 rfl p d | exact ros_at 3 rfl p d | exact ros_at 4 rfl p d) (by first | assumption | omega | decide) (by first | assumption | omega | decide)) (fun r => ?_)
        refine WL.ex (fun u1 => ?_)
        refine WL.pure (fun er => ?_)
        subst er
        refine WL.fact (i := 0) rfl (fun h hb => Buf.slm hb) (fun hsl1 => ?_)
        refine WL.mv rfl rfl ?_
        refine WL.extL rfl rfl rfl ?_
        refine WL.extL rfl rfl rfl ?_
        refine WL.as rfl rfl ?_
        refine WL.as rfl rfl ?_
        refine WL.nil ?_
        refine W.seq ?_
        refine W.seq ?_
        refine W.region ?_
        refine WL.mv rfl rfl ?_
        refine WL.not rfl rfl ?_
        refine WL.mv rfl rfl ?_
        refine WL.gY rfl rfl ?_
        refine WL.mv rfl rfl ?_
        refine WL.gY rfl rfl ?_
        refine WL.mv rfl rfl ?_
        refine WL.gY rfl rfl ?_
        refine WL.callV rfl rfl (fun x p d => beq_f _ _ _ _ _ (by first | assumption | exact ROs.wide (by assumption) | exact ROs.mono (by assumption) (eqh_at 0 rfl p d) | exact ros_at 0 rfl p d | exact ros_at 1 rfl p d | exact ros_at 2 rfl p d | exact ros_at 3 rfl p d | exact ros_at 4 rfl p d) (by first | assumption | exact ROs.wide (by assumption) | exact ROs.mono (by assumption) (eqh_at 0 rfl p d) | exact ros_at 0 rfl p d | exact ros_at 1 rfl p d | exact ros_at 2 rfl p d | exact ros_at 3 rfl p d | exact ros_at 4 rfl p d) (by assumption) (by assumption) (by assumption) (by first | assumption | omega) (by first | assumption | omega)) ?_
        refine WL.gY rfl rfl ?_
        refine WL.not rfl rfl ?_
        refine WL.pickF rfl rfl rfl ?_
        refine WL.nil ?_
        refine W.condT rfl ?_
        refine W.seq ?_
        refine W.region ?_
        refine WL.as rfl rfl ?_
        refine WL.as rfl rfl ?_
        refine WL.nil ?_
        refine W.drop 0 rfl (by repeat' first | exact FL.nil | apply FL.cons) ?_
        refine W.drop 0 rfl (by repeat' first | exact FL.nil | apply FL.cons) ?_
        refine W.drop 0 rfl (by repeat' first | exact FL.nil | apply FL.cons) ?_
        refine W.drop 0 rfl (by repeat' first | exact FL.nil | apply FL.cons) ?_
        refine W.nb (sz := 1) ?_
        exact W.ret2 rfl rfl rfl (fun h p => rowNone hno p)
-- CALL 19 refine WL.callF rfl rfl (fun x p d => ddec_s _ _ _ _ $RO (by assumption) (by first | assumption | omega | decide) (by first | assumption | omega | decide)) (fun r => ?_) ;; refine WL.ex (fun u$N => ?_) ;; refine WL.pure (fun er => ?_) ;; subst er ;; refine WL.fact (i := 0) rfl (fun h hb => Buf.slm hb) (fun hsl$N => ?_)
-- CALL 19 refine WL.callF rfl rfl (fun x p d => ddec_n _ _ _ _ $RO (by assumption) (by first | assumption | omega | decide) (by first | assumption | omega | decide)) (fun r => ?_) ;; refine WL.ex (fun u$N => ?_) ;; refine WL.pure (fun er => ?_) ;; subst er ;; refine WL.fact (i := 0) rfl (fun h hb => Buf.slm hb) (fun hsl$N => ?_)
-- CALL 19 refine WL.callF rfl rfl (fun x p d => ddec_c _ _ _ _ $RO (by first | assumption | omega | decide) (by first | assumption | omega | decide)) (fun r => ?_) ;; refine WL.ex (fun u$N => ?_) ;; refine WL.pure (fun er => ?_) ;; subst er ;; refine WL.fact (i := 0) rfl (fun h hb => Buf.slm hb) (fun hsl$N => ?_)
theorem ddec_e (ρ : Hp) (v : Value) (bs : List Nat) (n : Int) {o : Option (List Nat)} (hv : ROs ρ 1 v (bs.map bcell)) (e : decD bs n = o) (hw : ∀ x ∈ bs, x < 256) (hl : bs.length ≤ 140737488355328) :
    Fn Try.prog 19 #[v, .int .i64 n] ρ [] (RowR o) := by
  rw [← e]
  exact ddec_c ρ v bs n hv hw hl
theorem ddec_s (ρ : Hp) (v : Value) (bs : List Nat) (n : Int) {vs : List Nat} (hv : ROs ρ 1 v (bs.map bcell)) (e : decD bs n = some vs) (hw : ∀ x ∈ bs, x < 256) (hl : bs.length ≤ 140737488355328) :
    Fn Try.prog 19 #[v, .int .i64 n] ρ [] (fun r h => ∃ v, r = .tuple #[v, .bool true] ∧ Buf 1 v (vs.map ucell) h) := ddec_e ρ v bs n hv e hw hl
theorem ddec_n (ρ : Hp) (v : Value) (bs : List Nat) (n : Int) (hv : ROs ρ 1 v (bs.map bcell)) (e : decD bs n = none) (hw : ∀ x ∈ bs, x < 256) (hl : bs.length ≤ 140737488355328) :
    Fn Try.prog 19 #[v, .int .i64 n] ρ [] (fun r h => ∃ v, r = .tuple #[v, .bool false] ∧ Buf 1 v (([] : List Nat).map ucell) h) := ddec_e ρ v bs n hv e hw hl
end Go.Proofs.Ytjibmfkhhljhcaa
