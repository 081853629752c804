/- Values by a list: what the document's own code reads. -/
import Derived.Test.YtjibmfkhhljhcaaStc
import Derived.Test.YtjibmfkhhljhcaaNum
import Derived.Test.YtjibmfkhhljhcaaTab
import Derived.Test.YtjibmfkhhljhcaaDictRef
import Derived.Test.YtjibmfkhhljhcaaDictD
set_option linter.unusedSimpArgs false
set_option linter.unusedVariables false
set_option maxRecDepth 20000
set_option maxHeartbeats 4000000
namespace Go.Proofs.Ytjibmfkhhljhcaa
open Go
attribute [local irreducible] W WL Fn Buf ROs SL eptr box Rd Src bndOK WD RB Reads In Mp encD decD encDw unl valsD valsF
theorem rgetdict_c (ρ : Hp) (v : Value) (bs : List Nat) (n : Int) (hv : ROs ρ 1 v (bs.map bcell)) (hw : ∀ x ∈ bs, x < 256) (hl : bs.length ≤ 140737488355328) :
    Fn Try.prog 25 #[v, .int .i64 n] ρ [] (RowR (decD bs n)) := by
  refine in25 rfl rfl ?_
  have sv := hv.slm
  have hm := heldM_eq n
  have hml := heldM_le n
  by_cases h0 : heldM n = 0
  · have hdec := decD_eq0 (bs := bs) h0
    by_cases hb : bs = []
    · have hbl : bs.length = 0 := by rw [hb]; rfl
      rw [if_pos hb] at hdec
      refine W.seq ?_
      refine W.region ?_
      refine WL.as rfl rfl ?_
      refine WL.as rfl rfl ?_
      refine WL.nil ?_
      refine W.seq ?_
      refine W.region ?_
      refine WL.mv rfl rfl ?_
      refine WL.callV rfl rfl (fun x p d => heldm_c _ _) ?_
      refine WL.as rfl rfl ?_
      refine WL.nil ?_
      refine W.seq ?_
      refine W.seq ?_
      refine W.region ?_
      refine WL.mv rfl rfl ?_
      refine WL.eql rfl rfl rfl ?_
      refine WL.nil ?_
      refine W.condpT rfl (by omega) ?_
      refine W.seq ?_
      refine W.region ?_
      refine WL.mv rfl rfl ?_
      refine WL.len (T := Ty) rfl rfl (by assumption) rfl ?_
      refine WL.eql rfl rfl rfl ?_
      refine WL.as rfl rfl ?_
      refine WL.as rfl rfl ?_
      refine WL.nil ?_
      refine W.nb (sz := 1) ?_
      exact W.ret2 rfl rfl (by simp [look, ev]; omega) (fun h p => rowSome hdec p)
    · have hbl : 0 < bs.length := List.length_pos_iff.2 hb
      rw [if_neg hb] at hdec
      refine W.seq ?_
      refine W.region ?_
      refine WL.as rfl rfl ?_
      refine WL.as rfl rfl ?_
      refine WL.nil ?_
      refine W.seq ?_
      refine W.region ?_
      refine WL.mv rfl rfl ?_
      refine WL.callV rfl rfl (fun x p d => heldm_c _ _) ?_
      refine WL.as rfl rfl ?_
      refine WL.nil ?_
      refine W.seq ?_
      refine W.seq ?_
      refine W.region ?_
      refine WL.mv rfl rfl ?_
      refine WL.eql rfl rfl rfl ?_
      refine WL.nil ?_
      refine W.condpT rfl (by omega) ?_
      refine W.seq ?_
      refine W.region ?_
      refine WL.mv rfl rfl ?_
      refine WL.len (T := Ty) rfl rfl (by assumption) rfl ?_
      refine WL.eql rfl rfl rfl ?_
      refine WL.as rfl rfl ?_
      refine WL.as rfl rfl ?_
      refine WL.nil ?_
      refine W.nb (sz := 1) ?_
      exact W.ret2 rfl rfl (by simp [look, ev]; omega) (fun h p => rowNone hdec p)
  obtain ⟨k, a, hg⟩ : ∃ k a, vgetF 0 0 bs = (k, a) := ⟨_, _, rfl⟩
  have ha := vget_le bs 0 0
  have hk := vget_bound bs 0 0 (by decide) (by decide) hw
  rw [hg] at ha hk
  simp only [] at ha hk
  have hvd0 := valsD_eq hg
  by_cases c1 : a = 0
  · rw [if_pos (.inl c1)] at hvd0
    have hdec := decD_eqn h0 hvd0
    refine W.seq ?_
    refine W.region ?_
    refine WL.as rfl rfl ?_
    refine WL.as rfl rfl ?_
    refine WL.nil ?_
    refine W.seq ?_
    refine W.region ?_
    refine WL.mv rfl rfl ?_
    refine WL.callV rfl rfl (fun x p d => heldm_c _ _) ?_
    refine WL.as rfl rfl ?_
    refine WL.nil ?_
    refine W.seq ?_
    refine W.seq ?_
    refine W.region ?_
    refine WL.mv rfl rfl ?_
    refine WL.eql rfl rfl rfl ?_
    refine WL.nil ?_
    refine W.condpF rfl (by omega) ?_
    refine W.skip ?_
    refine W.seq ?_
    refine W.region ?_
    refine WL.mv rfl rfl ?_
    refine WL.callV rfl rfl (fun x p d => rget_e _ _ _ (by first | assumption | exact ROs.wide (by assumption) | exact ROs.mono (by assumption) (eqh_at 0 rfl p d) | exact ros_at 0 rfl p d | exact ros_at 1 rfl p d | exact ros_at 2 rfl p d | exact ros_at 3 rfl p d | exact ros_at 4 rfl p d) (by assumption) (by first | assumption) (by first | assumption | omega)) ?_
    refine WL.mv rfl rfl ?_
    refine WL.extL rfl rfl rfl ?_
    refine WL.extL rfl rfl rfl ?_
    refine WL.as rfl rfl ?_
    refine WL.as rfl rfl ?_
    refine WL.nil ?_
    refine W.seq ?_
    refine W.seq ?_
    refine W.region ?_
    refine WL.mv rfl rfl ?_
    refine WL.eql rfl rfl rfl ?_
    refine WL.mv rfl rfl ?_
    refine WL.gdFn rfl rfl rfl rfl rfl (by omega) ?_
    refine WL.gdFn rfl rfl rfl rfl rfl (by omega) ?_
    refine WL.pickTp rfl rfl (by omega) rfl ?_
    refine WL.mv rfl rfl ?_
    refine WL.gdN rfl rfl rfl rfl rfl rfl ?_
    refine WL.gdN rfl rfl rfl rfl rfl rfl ?_
    refine WL.pickT rfl rfl rfl ?_
    refine WL.nil ?_
    refine W.condT rfl ?_
    refine W.seq ?_
    refine W.region ?_
    refine WL.as rfl rfl ?_
    refine WL.as rfl rfl ?_
    refine WL.nil ?_
    refine W.nb (sz := 1) ?_
    exact W.ret2 rfl rfl rfl (fun h p => rowNone hdec p)
  by_cases c2 : k = 0
  · rw [if_pos (.inr (.inl c2))] at hvd0
    have hdec := decD_eqn h0 hvd0
    refine W.seq ?_
    refine W.region ?_
    refine WL.as rfl rfl ?_
    refine WL.as rfl rfl ?_
    refine WL.nil ?_
    refine W.seq ?_
    refine W.region ?_
    refine WL.mv rfl rfl ?_
    refine WL.callV rfl rfl (fun x p d => heldm_c _ _) ?_
    refine WL.as rfl rfl ?_
    refine WL.nil ?_
    refine W.seq ?_
    refine W.seq ?_
    refine W.region ?_
    refine WL.mv rfl rfl ?_
    refine WL.eql rfl rfl rfl ?_
    refine WL.nil ?_
    refine W.condpF rfl (by omega) ?_
    refine W.skip ?_
    refine W.seq ?_
    refine W.region ?_
    refine WL.mv rfl rfl ?_
    refine WL.callV rfl rfl (fun x p d => rget_e _ _ _ (by first | assumption | exact ROs.wide (by assumption) | exact ROs.mono (by assumption) (eqh_at 0 rfl p d) | exact ros_at 0 rfl p d | exact ros_at 1 rfl p d | exact ros_at 2 rfl p d | exact ros_at 3 rfl p d | exact ros_at 4 rfl p d) (by assumption) (by first | assumption) (by first | assumption | omega)) ?_
    refine WL.mv rfl rfl ?_
    refine WL.extL rfl rfl rfl ?_
    refine WL.extL rfl rfl rfl ?_
    refine WL.as rfl rfl ?_
    refine WL.as rfl rfl ?_
    refine WL.nil ?_
    refine W.seq ?_
    refine W.seq ?_
    refine W.region ?_
    refine WL.mv rfl rfl ?_
    refine WL.eql rfl rfl rfl ?_
    refine WL.mv rfl rfl ?_
    refine WL.gF rfl rfl (by omega) ?_
    refine WL.mv rfl rfl ?_
    refine WL.gF rfl rfl (by omega) ?_
    refine WL.eql rfl rfl rfl ?_
    refine WL.pickFp rfl rfl (by omega) rfl ?_
    refine WL.mv rfl rfl ?_
    refine WL.gdFn rfl rfl rfl rfl rfl (by omega) ?_
    refine WL.gdFn rfl rfl rfl rfl rfl (by omega) ?_
    refine WL.pickTp rfl rfl (by omega) rfl ?_
    refine WL.nil ?_
    refine W.condT rfl ?_
    refine W.seq ?_
    refine W.region ?_
    refine WL.as rfl rfl ?_
    refine WL.as rfl rfl ?_
    refine WL.nil ?_
    refine W.nb (sz := 1) ?_
    exact W.ret2 rfl rfl rfl (fun h p => rowNone hdec p)
  by_cases c3 : 256 < k
  · rw [if_pos (.inr (.inr c3))] at hvd0
    have hdec := decD_eqn h0 hvd0
    refine W.seq ?_
    refine W.region ?_
    refine WL.as rfl rfl ?_
    refine WL.as rfl rfl ?_
    refine WL.nil ?_
    refine W.seq ?_
    refine W.region ?_
    refine WL.mv rfl rfl ?_
    refine WL.callV rfl rfl (fun x p d => heldm_c _ _) ?_
    refine WL.as rfl rfl ?_
    refine WL.nil ?_
    refine W.seq ?_
    refine W.seq ?_
    refine W.region ?_
    refine WL.mv rfl rfl ?_
    refine WL.eql rfl rfl rfl ?_
    refine WL.nil ?_
    refine W.condpF rfl (by omega) ?_
    refine W.skip ?_
    refine W.seq ?_
    refine W.region ?_
    refine WL.mv rfl rfl ?_
    refine WL.callV rfl rfl (fun x p d => rget_e _ _ _ (by first | assumption | exact ROs.wide (by assumption) | exact ROs.mono (by assumption) (eqh_at 0 rfl p d) | exact ros_at 0 rfl p d | exact ros_at 1 rfl p d | exact ros_at 2 rfl p d | exact ros_at 3 rfl p d | exact ros_at 4 rfl p d) (by assumption) (by first | assumption) (by first | assumption | omega)) ?_
    refine WL.mv rfl rfl ?_
    refine WL.extL rfl rfl rfl ?_
    refine WL.extL rfl rfl rfl ?_
    refine WL.as rfl rfl ?_
    refine WL.as rfl rfl ?_
    refine WL.nil ?_
    refine W.seq ?_
    refine W.seq ?_
    refine W.region ?_
    refine WL.mv rfl rfl ?_
    refine WL.eql rfl rfl rfl ?_
    refine WL.mv rfl rfl ?_
    refine WL.gF rfl rfl (by omega) ?_
    refine WL.mv rfl rfl ?_
    refine WL.gF rfl rfl (by omega) ?_
    refine WL.eql rfl rfl rfl ?_
    refine WL.pickFp rfl rfl (by omega) rfl ?_
    refine WL.mv rfl rfl ?_
    refine WL.gF rfl rfl (by omega) ?_
    refine WL.mv rfl rfl ?_
    refine WL.gF rfl rfl (by omega) ?_
    refine WL.gtr rfl rfl rfl ?_
    refine WL.pickFp rfl rfl (by omega) rfl ?_
    refine WL.nil ?_
    refine W.condpT rfl (by omega) ?_
    refine W.seq ?_
    refine W.region ?_
    refine WL.as rfl rfl ?_
    refine WL.as rfl rfl ?_
    refine WL.nil ?_
    refine W.nb (sz := 1) ?_
    exact W.ret2 rfl rfl rfl (fun h p => rowNone hdec p)
  rw [if_neg (by omega)] at hvd0
  refine W.seq ?_
  refine W.region ?_
  refine WL.as rfl rfl ?_
  refine WL.as rfl rfl ?_
  refine WL.nil ?_
  refine W.seq ?_
  refine W.region ?_
  refine WL.mv rfl rfl ?_
  refine WL.callV rfl rfl (fun x p d => heldm_c _ _) ?_
  refine WL.as rfl rfl ?_
  refine WL.nil ?_
  refine W.seq ?_
  refine W.seq ?_
  refine W.region ?_
  refine WL.mv rfl rfl ?_
  refine WL.eql rfl rfl rfl ?_
  refine WL.nil ?_
  refine W.condpF rfl (by omega) ?_
  refine W.skip ?_
  refine W.seq ?_
  refine W.region ?_
  refine WL.mv rfl rfl ?_
  refine WL.callV rfl rfl (fun x p d => rget_e _ _ _ (by first | assumption | exact ROs.wide (by assumption) | exact ROs.mono (by assumption) (eqh_at 0 rfl p d) | exact ros_at 0 rfl p d | exact ros_at 1 rfl p d | exact ros_at 2 rfl p d | exact ros_at 3 rfl p d | exact ros_at 4 rfl p d) (by assumption) (by first | assumption) (by first | assumption | omega)) ?_
  refine WL.mv rfl rfl ?_
  refine WL.extL rfl rfl rfl ?_
  refine WL.extL rfl rfl rfl ?_
  refine WL.as rfl rfl ?_
  refine WL.as rfl rfl ?_
  refine WL.nil ?_
  refine W.seq ?_
  refine W.seq ?_
  refine W.region ?_
  refine WL.mv rfl rfl ?_
  refine WL.eql rfl rfl rfl ?_
  refine WL.mv rfl rfl ?_
  refine WL.gF rfl rfl (by omega) ?_
  refine WL.mv rfl rfl ?_
  refine WL.gF rfl rfl (by omega) ?_
  refine WL.eql rfl rfl rfl ?_
  refine WL.pickFp rfl rfl (by omega) rfl ?_
  refine WL.mv rfl rfl ?_
  refine WL.gF rfl rfl (by omega) ?_
  refine WL.mv rfl rfl ?_
  refine WL.gF rfl rfl (by omega) ?_
  refine WL.gtr rfl rfl rfl ?_
  refine WL.pickFp rfl rfl (by omega) rfl ?_
  refine WL.nil ?_
  refine W.condpF rfl (by omega) ?_
  refine W.skip ?_
  refine W.seq ?_
  refine W.region ?_
  refine WL.mv rfl rfl ?_
  refine WL.mv rfl rfl ?_
  refine WL.slDn (T := Ty) rfl rfl rfl rfl rfl (by first | assumption | exact ROs.wide (by assumption)) (by first | assumption | omega | (simp; omega)) (fun u0 hu0 ru0 => ?_)
  refine WL.as rfl rfl ?_
  refine WL.nil ?_
  refine W.seq ?_
  refine W.region ?_
  refine WL.as rfl rfl ?_
  refine WL.nil ?_
  refine W.seq ?_
  refine W.seq ?_
  refine W.region ?_
  refine WL.as rfl rfl ?_
  refine WL.nil ?_
  refine W.block ?_
  refine W.nb (sz := 1) ?_
  refine W.loopS (σ := Nat × Value × List Nat × Value × List Nat) (fun s => [(0, v), (1, .int .i64 (min (max n 0) 65535)), (6, .int .u64 (k : Int)), (8, s.2.1), (9, s.2.2.2.1), (10, .int .u64 (s.1 : Int))]) (fun s => [Buf 1 s.2.2.2.1 (s.2.2.2.2.map ucell)])
    (fun s => ROs ρ 1 s.2.1 (s.2.2.1.map bcell) ∧ s.1 ≤ k ∧ valsF (k - s.1) s.2.2.1 s.2.2.2.2 = valsD bs ∧ s.2.2.1.length ≤ bs.length ∧ (∀ x ∈ s.2.2.1, x < 256) ∧ s.2.2.2.2.length = s.1) (fun s => k - s.1) (0, u0, bs.drop a, .slice none 0 0, []) ⟨rfl, rfl, rfl, rfl, rfl, rfl, trivial⟩ rfl ⟨ru0, Nat.zero_le _, hvd0.symm, by simp, fun x hx => hw x (List.mem_of_mem_drop hx), rfl⟩ ?_
  rintro ⟨i, cv, cb, o, os⟩ ⟨hcv, hi, hvd, hcl, hcw, hol⟩ next
  simp only [] at hcv hi hvd hcl hcw hol next ⊢
  have hcs := hcv.slm
  refine W.fact (i := 0) rfl (fun h hb => Buf.slm hb) (fun hso => ?_)
  by_cases hlt : i < k
  · obtain ⟨x, c, hgx⟩ : ∃ x c, vgetF 0 0 cb = (x, c) := ⟨_, _, rfl⟩
    have hcx := vget_le cb 0 0
    have hxl := vget_bound cb 0 0 (by decide) (by decide) hcw
    rw [hgx] at hcx hxl
    simp only [] at hcx hxl
    rw [show k - i = (k - (i + 1)) + 1 by omega, valsF_succ _ _ _ hgx] at hvd
    by_cases c0 : c = 0
    · rw [if_pos c0] at hvd
      have hdec := decD_eqn h0 hvd.symm
      refine W.seq ?_
      refine W.seq ?_
      refine W.region ?_
      refine WL.mv rfl rfl ?_
      refine WL.mv rfl rfl ?_
      refine WL.lss rfl rfl rfl ?_
      refine WL.nil ?_
      refine W.condpT rfl (by omega) ?_
      refine W.skip ?_
      refine W.seq ?_
      refine W.block ?_
      refine W.seq ?_
      refine W.region ?_
      refine WL.mv rfl rfl ?_
      refine WL.callV rfl rfl (fun x p d => rget_e _ _ _ (by first | assumption | exact ROs.wide (by assumption) | exact ROs.mono (by assumption) (eqh_at 0 rfl p d) | exact ros_at 0 rfl p d | exact ros_at 1 rfl p d | exact ros_at 2 rfl p d | exact ros_at 3 rfl p d | exact ros_at 4 rfl p d) (by assumption) (by first | assumption) (by first | assumption | omega)) ?_
      refine WL.mv rfl rfl ?_
      refine WL.extL rfl rfl rfl ?_
      refine WL.extL rfl rfl rfl ?_
      refine WL.as rfl rfl ?_
      refine WL.as rfl rfl ?_
      refine WL.nil ?_
      refine W.seq ?_
      refine W.seq ?_
      refine W.region ?_
      refine WL.mv rfl rfl ?_
      refine WL.eql rfl rfl rfl ?_
      refine WL.nil ?_
      refine W.condpT rfl (by omega) ?_
      refine W.seq ?_
      refine W.region ?_
      refine WL.as rfl rfl ?_
      refine WL.as rfl rfl ?_
      refine WL.nil ?_
      refine W.drop 0 rfl (by repeat' first | exact FL.nil | apply FL.cons) ?_
      refine W.nb (sz := 1) ?_
      exact W.ret2 rfl rfl rfl (fun h p => rowNone hdec p)
    · rw [if_neg c0] at hvd
      refine W.seq ?_
      refine W.seq ?_
      refine W.region ?_
      refine WL.mv rfl rfl ?_
      refine WL.mv rfl rfl ?_
      refine WL.lss rfl rfl rfl ?_
      refine WL.nil ?_
      refine W.condpT rfl (by omega) ?_
      refine W.skip ?_
      refine W.seq ?_
      refine W.block ?_
      refine W.seq ?_
      refine W.region ?_
      refine WL.mv rfl rfl ?_
      refine WL.callV rfl rfl (fun x p d => rget_e _ _ _ (by first | assumption | exact ROs.wide (by assumption) | exact ROs.mono (by assumption) (eqh_at 0 rfl p d) | exact ros_at 0 rfl p d | exact ros_at 1 rfl p d | exact ros_at 2 rfl p d | exact ros_at 3 rfl p d | exact ros_at 4 rfl p d) (by assumption) (by first | assumption) (by first | assumption | omega)) ?_
      refine WL.mv rfl rfl ?_
      refine WL.extL rfl rfl rfl ?_
      refine WL.extL rfl rfl rfl ?_
      refine WL.as rfl rfl ?_
      refine WL.as rfl rfl ?_
      refine WL.nil ?_
      refine W.seq ?_
      refine W.seq ?_
      refine W.region ?_
      refine WL.mv rfl rfl ?_
      refine WL.eql rfl rfl rfl ?_
      refine WL.nil ?_
      refine W.condpF rfl (by omega) ?_
      refine W.skip ?_
      refine W.seq ?_
      refine W.region ?_
      refine WL.mv rfl rfl ?_
      refine WL.mv rfl rfl ?_
      refine WL.bsC (T := Ty) rfl rfl rfl rfl rfl rfl rfl (by repeat' first | exact CO.nil | apply CO.one (by first | rfl | exact SL.one (by assumption)) | apply CO.agg) rfl (by repeat' first | exact FL.nil | apply FL.cons) (fun u1 hu1 => ?_)
      refine WL.ap1 (T := Ty) (i := 0) rfl rfl rfl rfl rfl rfl rfl rfl (by assumption) (by first | rfl | assumption) (by first | omega | (simp; omega)) (by first | omega | (simp; omega)) (fun v' => (by repeat' first | exact FL.nil | apply FL.cons)) (fun u2 hu2 => ?_)
      refine WL.as rfl rfl ?_
      refine WL.nil ?_
      refine W.region ?_
      refine WL.mv rfl rfl ?_
      refine WL.mv rfl rfl ?_
      refine WL.slDn (T := Ty) rfl rfl rfl rfl rfl (by first | assumption | exact ROs.wide (by assumption)) (by first | assumption | omega | (simp; omega)) (fun u3 hu3 ru3 => ?_)
      refine WL.as rfl rfl ?_
      refine WL.nil ?_
      refine W.inBlock ?_
      refine W.region ?_
      refine WL.mv rfl rfl ?_
      refine WL.addK rfl rfl rfl (wrap_u64 ⟨by omega, by omega⟩) ?_
      refine WL.as rfl rfl ?_
      refine WL.nil ?_
      refine W.sub ?_ (W.hs (fun h p => ?_) (next ⟨i + 1, u3, cb.drop c, u2, os ++ [x]⟩ ⟨ru3, by simp only []; omega, hvd, by simp; omega, fun y hy => hcw y (List.mem_of_mem_drop hy), by simp [hol]⟩ (by simp only []; omega)))
      · exact ⟨rfl, rfl, rfl, rfl, rfl, rfl, trivial⟩
      · simp only []
        rw [List.map_append]
        exact p
  · have hie : i = k := by omega
    subst hie
    rw [Nat.sub_self, valsF_zero] at hvd
    have hdec := decD_eq h0 hvd.symm
    simp only [] at hdec
    obtain ⟨_, hwp, hrl', hww, hrw⟩ := valsD_ok hvd.symm hw
    have hw64 := wD_le os.length
    have ewd : lenB 64 ((i : Int) - 1).toNat = wD os.length := by unfold wD; congr 1; omega
    have hcl2 : cb.length ≤ 140737488355328 := by omega
    have heq : min (max n 0) 65535 = ((heldM n : Nat) : Int) := by omega
    have hl64 : lenB 64 ((i : Int) - 1).toNat ≤ 64 := by rw [ewd]; exact hw64
    refine W.seq ?_
    refine W.seq ?_
    refine W.region ?_
    refine WL.mv rfl rfl ?_
    refine WL.mv rfl rfl ?_
    refine WL.lss rfl rfl rfl ?_
    refine WL.nil ?_
    refine W.condpF rfl (by omega) ?_
    refine W.exit rfl ?_
    refine W.seq ?_
    refine W.region ?_
    refine WL.mv rfl rfl ?_
    refine WL.mv rfl rfl ?_
    refine WL.mv rfl rfl ?_
    refine WL.subK rfl rfl rfl (wrap_u64 ⟨by omega, by omega⟩) ?_
    refine WL.callV rfl rfl (fun x p d => rwidth_i _ _ (by omega) (by omega)) ?_
    refine WL.callF rfl rfl (fun x p d => runpack_i _ _ _ _ _ (by assumption) (by first | assumption | exact ROs.wide (by assumption) | exact ROs.mono (by assumption) (eqh_at 0 rfl p d) | exact ros_at 0 rfl p d | exact ros_at 1 rfl p d | exact ros_at 2 rfl p d | exact ros_at 3 rfl p d | exact ros_at 4 rfl p d) (by first | assumption | omega) (by first | assumption | omega) (by first | assumption | omega) (by first | assumption | omega)) (fun u1 => ?_)
    refine WL.fact (i := 0) rfl (fun h hb => Buf.slm hb) (fun hsl1 => ?_)
    refine WL.as rfl rfl ?_
    refine WL.nil ?_
    refine W.seq ?_
    refine W.region ?_
    refine WL.as rfl rfl ?_
    refine WL.nil ?_
    refine W.seq ?_
    refine W.seq ?_
    refine W.region ?_
    refine WL.as rfl rfl ?_
    refine WL.nil ?_
    refine W.block ?_
    rw [ewd]
    refine W.nb (sz := 1) ?_
    refine W.loopS (σ := Nat × Value) (fun s => [(0, v), (1, .int .i64 (min (max n 0) 65535)), (6, .int .u64 (i : Int)), (9, o), (13, u1), (14, s.2), (15, .int .i64 (s.1 : Int))])
      (fun s => [Buf 1 s.2 ((pickD os (numI cb (wD os.length) s.1)).map ucell), Buf 1 u1 ((numI cb (wD os.length) (heldM n)).map ucell), Buf 1 o (os.map ucell)])
      (fun s => s.1 ≤ heldM n ∧ ∀ a ∈ numI cb (wD os.length) s.1, a < os.length) (fun s => heldM n - s.1) (0, .slice none 0 0) ⟨rfl, rfl, rfl, rfl, rfl, rfl, rfl, trivial⟩ rfl ⟨Nat.zero_le _, by simp [numI]⟩ ?_
    rintro ⟨j, w⟩ ⟨hj, hall⟩ next2
    simp only [] at hj hall next2 ⊢
    have hjl : (pickD os (numI cb (wD os.length) j)).length = j := by simp [pickD, numI_len]
    have hnl := numI_len cb (wD os.length) (heldM n)
    refine W.fact (i := 0) rfl (fun h hb => Buf.slm hb) (fun hsw => ?_)
    refine W.fact (i := 1) rfl (fun h hb => Buf.slm hb) (fun hsa => ?_)
    by_cases hlt2 : j < heldM n
    · obtain ⟨g, hgv⟩ : ∃ g, g = rdV cb (wD os.length) j := ⟨_, rfl⟩
      have hg1 : ((numI cb (wD os.length) (heldM n)).map ucell)[j]? = some (ucell g) := by
        rw [hgv]; unfold numI; simp [hlt2]
      have hgl : g < 18446744073709551616 := by
        have h1 := rdV_lt cb (wD os.length) j
        have h2 : 2 ^ wD os.length ≤ 2 ^ 64 := Nat.pow_le_pow_right (by decide) hw64
        rw [hgv]; omega
      by_cases hgk : g < os.length
      · have hgc : (os.map ucell)[g]? = some (ucell (os.getD g 0)) := by simp [List.getD, List.getElem?_eq_getElem hgk]
        refine W.seq ?_
        refine W.seq ?_
        refine W.region ?_
        refine WL.mv rfl rfl ?_
        refine WL.mv rfl rfl ?_
        refine WL.lss rfl rfl rfl ?_
        refine WL.nil ?_
        refine W.condpT rfl (by omega) ?_
        refine W.skip ?_
        refine W.seq ?_
        refine W.block ?_
        refine W.seq ?_
        refine W.seq ?_
        refine W.region ?_
        refine WL.mv rfl rfl ?_
        refine WL.mv rfl rfl ?_
        refine WL.ix (T := Ty) rfl rfl rfl (by assumption) rfl rfl (by omega) (by first | omega | decide +kernel) ?_
        refine WL.ldEK (T := Ty) (j := 1) rfl rfl rfl rfl rfl (by assumption) (by omega) ?_
        refine WL.mv rfl rfl ?_
        refine WL.geq rfl rfl rfl ?_
        refine WL.nil ?_
        refine W.condpF rfl (by omega) ?_
        refine W.skip ?_
        refine W.region ?_
        refine WL.mv rfl rfl ?_
        refine WL.mv rfl rfl ?_
        refine WL.mv rfl rfl ?_
        refine WL.mv rfl rfl ?_
        refine WL.ix (T := Ty) rfl rfl rfl (by assumption) rfl rfl (by omega) (by first | omega | decide +kernel) ?_
        refine WL.ldEK (T := Ty) (j := 1) rfl rfl rfl rfl rfl (by assumption) (by omega) ?_
        refine WL.ix (T := Ty) rfl rfl rfl (by assumption) rfl rfl (by omega) (by first | omega | decide +kernel) ?_
        refine WL.ldEK (T := Ty) (j := 2) rfl rfl rfl rfl rfl (by assumption) (by omega) ?_
        refine WL.bsC (T := Ty) rfl rfl rfl rfl rfl rfl rfl (by repeat' first | exact CO.nil | apply CO.one (by first | rfl | exact SL.one (by assumption)) | apply CO.agg) rfl (by repeat' first | exact FL.nil | apply FL.cons) (fun u2 hu2 => ?_)
        refine WL.ap1 (T := Ty) (i := 0) rfl rfl rfl rfl rfl rfl rfl rfl (by assumption) (by first | rfl | assumption) (by first | omega | (simp; omega)) (by first | omega | (simp; omega)) (fun v' => (by repeat' first | exact FL.nil | apply FL.cons)) (fun u3 hu3 => ?_)
        refine WL.as rfl rfl ?_
        refine WL.nil ?_
        refine W.inBlock ?_
        refine W.region ?_
        refine WL.mv rfl rfl ?_
        refine WL.addK rfl rfl rfl (wrap_i64 ⟨by omega, by omega⟩) ?_
        refine WL.as rfl rfl ?_
        refine WL.nil ?_
        refine W.sub ?_ (W.hs (fun h p => ?_) (next2 ⟨j + 1, u3⟩ ⟨by simp only []; omega, ?_⟩ (by simp only []; omega)))
        · exact ⟨rfl, rfl, rfl, rfl, rfl, rfl, rfl, trivial⟩
        · simp only []
          rw [pick_next, List.map_append, ← hgv]
          exact p
        · intro a ha
          rw [numI_next] at ha
          rcases List.mem_append.1 ha with h | h
          · exact hall a h
          · simp at h; omega
      · have hno : decD bs n = none := by
          rw [hdec, if_neg]
          rintro ⟨h, _⟩
          have : rdV cb (wD os.length) j < os.length := h _ (List.mem_map.2 ⟨j, List.mem_range.2 hlt2, rfl⟩)
          omega
        refine W.seq ?_
        refine W.seq ?_
        refine W.region ?_
        refine WL.mv rfl rfl ?_
        refine WL.mv rfl rfl ?_
        refine WL.lss rfl rfl rfl ?_
        refine WL.nil ?_
        refine W.condpT rfl (by omega) ?_
        refine W.skip ?_
        refine W.seq ?_
        refine W.block ?_
        refine W.seq ?_
        refine W.seq ?_
        refine W.region ?_
        refine WL.mv rfl rfl ?_
        refine WL.mv rfl rfl ?_
        refine WL.ix (T := Ty) rfl rfl rfl (by assumption) rfl rfl (by omega) (by first | omega | decide +kernel) ?_
        refine WL.ldEK (T := Ty) (j := 1) rfl rfl rfl rfl rfl (by assumption) (by omega) ?_
        refine WL.mv rfl rfl ?_
        refine WL.geq rfl rfl rfl ?_
        refine WL.nil ?_
        refine W.condpT rfl (by omega) ?_
        refine W.seq ?_
        refine W.region ?_
        refine WL.as rfl rfl ?_
        refine WL.as rfl rfl ?_
        refine WL.nil ?_
        refine W.drop 0 rfl (by repeat' first | exact FL.nil | apply FL.cons) ?_
        refine W.drop 0 rfl (by repeat' first | exact FL.nil | apply FL.cons) ?_
        refine W.drop 0 rfl (by repeat' first | exact FL.nil | apply FL.cons) ?_
        refine W.nb (sz := 1) ?_
        exact W.ret2 rfl rfl rfl (fun h p => rowNone hno p)
    · have hje : j = heldM n := by omega
      subst hje
      have hol2 := pickD_lt (ats := numI cb (wD os.length) (heldM n)) hww
      generalize hout : pickD os (numI cb (wD os.length) (heldM n)) = out at *
      rcases hen : encD out with _ | eb
      · have hno : decD bs n = none := by
          rw [hdec, if_neg]
          rintro ⟨_, he⟩
          rw [hen] at he
          cases he
        refine W.seq ?_
        refine W.seq ?_
        refine W.region ?_
        refine WL.mv rfl rfl ?_
        refine WL.mv rfl rfl ?_
        refine WL.lss rfl rfl rfl ?_
        refine WL.nil ?_
        refine W.condpF rfl (by omega) ?_
        refine W.exit rfl ?_
        refine W.seq ?_
        refine W.region ?_
        refine WL.mv rfl rfl ?_
        refine WL.callF rfl rfl (fun x p d => rdict_n _ _ _ (by assumption) (by first | assumption | exact ROs.wide (by assumption) | exact ROs.mono (by assumption) (eqh_at 0 rfl p d) | exact ros_at 0 rfl p d | exact ros_at 1 rfl p d | exact ros_at 2 rfl p d | exact ros_at 3 rfl p d | exact ros_at 4 rfl p d) (by first | assumption | omega | decide) (by first | assumption | omega | decide)) (fun r => ?_)
        refine WL.ex (fun u2 => ?_)
        refine WL.pure (fun er => ?_)
        subst er
        refine WL.fact (i := 0) rfl (fun h hb => Buf.slm hb) (fun hsl2 => ?_)
        refine WL.mv rfl rfl ?_
        refine WL.extL rfl rfl rfl ?_
        refine WL.extL rfl rfl rfl ?_
        refine WL.as rfl rfl ?_
        refine WL.as rfl rfl ?_
        refine WL.nil ?_
        refine W.seq ?_
        refine W.seq ?_
        refine W.region ?_
        refine WL.mv rfl rfl ?_
        refine WL.not rfl rfl ?_
        refine WL.mv rfl rfl ?_
        refine WL.gdN rfl rfl rfl rfl rfl rfl ?_
        refine WL.gdN rfl rfl rfl rfl rfl rfl ?_
        refine WL.gdN rfl rfl rfl rfl rfl rfl ?_
        refine WL.gdN rfl rfl rfl rfl rfl rfl ?_
        refine WL.gdN rfl rfl rfl rfl rfl rfl ?_
        refine WL.pickT rfl rfl rfl ?_
        refine WL.nil ?_
        refine W.condT rfl ?_
        refine W.seq ?_
        refine W.region ?_
        refine WL.as rfl rfl ?_
        refine WL.as rfl rfl ?_
        refine WL.nil ?_
        refine W.drop 0 rfl (by repeat' first | exact FL.nil | apply FL.cons) ?_
        refine W.drop 0 rfl (by repeat' first | exact FL.nil | apply FL.cons) ?_
        refine W.drop 0 rfl (by repeat' first | exact FL.nil | apply FL.cons) ?_
        refine W.drop 0 rfl (by repeat' first | exact FL.nil | apply FL.cons) ?_
        refine W.nb (sz := 1) ?_
        exact W.ret2 rfl rfl rfl (fun h p => rowNone hno p)
      · obtain ⟨hebl, hebw⟩ := encD_ok hen hol2
        by_cases he : eb = bs
        · have hyes : decD bs n = some out := by rw [hdec, if_pos ⟨hall, by rw [hen, he]⟩]
          have hstr : strN eb = strN bs := by rw [he]
          refine W.seq ?_
          refine W.seq ?_
          refine W.region ?_
          refine WL.mv rfl rfl ?_
          refine WL.mv rfl rfl ?_
          refine WL.lss rfl rfl rfl ?_
          refine WL.nil ?_
          refine W.condpF rfl (by omega) ?_
          refine W.exit rfl ?_
          refine W.seq ?_
          refine W.region ?_
          refine WL.mv rfl rfl ?_
          refine WL.callF rfl rfl (fun x p d => rdict_s _ _ _ (by assumption) (by first | assumption | exact ROs.wide (by assumption) | exact ROs.mono (by assumption) (eqh_at 0 rfl p d) | exact ros_at 0 rfl p d | exact ros_at 1 rfl p d | exact ros_at 2 rfl p d | exact ros_at 3 rfl p d | exact ros_at 4 rfl p d) (by first | assumption | omega | decide) (by first | assumption | omega | decide)) (fun r => ?_)
          refine WL.ex (fun u2 => ?_)
          refine WL.pure (fun er => ?_)
          subst er
          refine WL.fact (i := 0) rfl (fun h hb => Buf.slm hb) (fun hsl2 => ?_)
          refine WL.mv rfl rfl ?_
          refine WL.extL rfl rfl rfl ?_
          refine WL.extL rfl rfl rfl ?_
          refine WL.as rfl rfl ?_
          refine WL.as rfl rfl ?_
          refine WL.nil ?_
          refine W.seq ?_
          refine W.seq ?_
          refine W.region ?_
          refine WL.mv rfl rfl ?_
          refine WL.not rfl rfl ?_
          refine WL.mv rfl rfl ?_
          refine WL.gY rfl rfl ?_
          refine WL.mv rfl rfl ?_
          refine WL.gY rfl rfl ?_
          refine WL.b2sN (T := Ty) rfl rfl rfl rfl rfl rfl rfl (.own 0 rfl) ?_
          refine WL.gY rfl rfl ?_
          refine WL.mv rfl rfl ?_
          refine WL.gY rfl rfl ?_
          refine WL.b2sRN (T := Ty) rfl rfl rfl rfl rfl rfl rfl (by assumption) ?_
          refine WL.gY rfl rfl ?_
          refine WL.neST rfl rfl rfl (by first | with_reducible rfl | assumption) ?_
          refine WL.pickF rfl rfl rfl ?_
          refine WL.nil ?_
          refine W.condF rfl ?_
          refine W.skip ?_
          refine W.seq ?_
          refine W.region ?_
          refine WL.mv rfl rfl ?_
          refine WL.as rfl rfl ?_
          refine WL.as rfl rfl ?_
          refine WL.nil ?_
          refine W.drop 0 rfl (by repeat' first | exact FL.nil | apply FL.cons) ?_
          refine W.drop 1 rfl (by repeat' first | exact FL.nil | apply FL.cons) ?_
          refine W.drop 1 rfl (by repeat' first | exact FL.nil | apply FL.cons) ?_
          exact W.ret2 rfl rfl rfl (fun h p => rowSome hyes p)
        · have hno : decD bs n = none := by
            rw [hdec, if_neg]
            rintro ⟨_, h⟩
            rw [hen] at h
            exact he (Option.some.inj h)
          have hsn := strN_bne hebw hw he
          refine W.seq ?_
          refine W.seq ?_
          refine W.region ?_
          refine WL.mv rfl rfl ?_
          refine WL.mv rfl rfl ?_
          refine WL.lss rfl rfl rfl ?_
          refine WL.nil ?_
          refine W.condpF rfl (by omega) ?_
          refine W.exit rfl ?_
          refine W.seq ?_
          refine W.region ?_
          refine WL.mv rfl rfl ?_
          refine WL.callF rfl rfl (fun x p d => rdict_s _ _ _ (by assumption) (by first | assumption | exact ROs.wide (by assumption) | exact ROs.mono (by assumption) (eqh_at 0 rfl p d) | exact ros_at 0 rfl p d | exact ros_at 1 rfl p d | exact ros_at 2 rfl p d | exact ros_at 3 rfl p d | exact ros_at 4 rfl p d) (by first | assumption | omega | decide) (by first | assumption | omega | decide)) (fun r => ?_)
          refine WL.ex (fun u2 => ?_)
          refine WL.pure (fun er => ?_)
          subst er
          refine WL.fact (i := 0) rfl (fun h hb => Buf.slm hb) (fun hsl2 => ?_)
          refine WL.mv rfl rfl ?_
          refine WL.extL rfl rfl rfl ?_
          refine WL.extL rfl rfl rfl ?_
          refine WL.as rfl rfl ?_
          refine WL.as rfl rfl ?_
          refine WL.nil ?_
          refine W.seq ?_
          refine W.seq ?_
          refine W.region ?_
          refine WL.mv rfl rfl ?_
          refine WL.not rfl rfl ?_
          refine WL.mv rfl rfl ?_
          refine WL.gY rfl rfl ?_
          refine WL.mv rfl rfl ?_
          refine WL.gY rfl rfl ?_
          refine WL.b2sN (T := Ty) rfl rfl rfl rfl rfl rfl rfl (.own 0 rfl) ?_
          refine WL.gY rfl rfl ?_
          refine WL.mv rfl rfl ?_
          refine WL.gY rfl rfl ?_
          refine WL.b2sRN (T := Ty) rfl rfl rfl rfl rfl rfl rfl (by assumption) ?_
          refine WL.gY rfl rfl ?_
          refine WL.neS rfl rfl rfl ?_
          refine WL.pickF rfl rfl rfl ?_
          refine WL.nil ?_
          rw [show (!(strN eb).toList == (strN bs).toList) = true by simp [hsn]]
          refine W.condT rfl ?_
          refine W.seq ?_
          refine W.region ?_
          refine WL.as rfl rfl ?_
          refine WL.as rfl rfl ?_
          refine WL.nil ?_
          refine W.drop 0 rfl (by repeat' first | exact FL.nil | apply FL.cons) ?_
          refine W.drop 0 rfl (by repeat' first | exact FL.nil | apply FL.cons) ?_
          refine W.drop 0 rfl (by repeat' first | exact FL.nil | apply FL.cons) ?_
          refine W.drop 0 rfl (by repeat' first | exact FL.nil | apply FL.cons) ?_
          refine W.nb (sz := 1) ?_
          exact W.ret2 rfl rfl rfl (fun h p => rowNone hno p)
-- CALL 25 refine WL.callF rfl rfl (fun x p d => rgetdict_s _ _ _ _ $RO (by assumption) (by first | assumption | omega | decide) (by first | assumption | omega | decide)) (fun r => ?_) ;; refine WL.ex (fun u$N => ?_) ;; refine WL.pure (fun er => ?_) ;; subst er ;; refine WL.fact (i := 0) rfl (fun h hb => Buf.slm hb) (fun hsl$N => ?_)
-- CALL 25 refine WL.callF rfl rfl (fun x p d => rgetdict_n _ _ _ _ $RO (by assumption) (by first | assumption | omega | decide) (by first | assumption | omega | decide)) (fun r => ?_) ;; refine WL.ex (fun u$N => ?_) ;; refine WL.pure (fun er => ?_) ;; subst er ;; refine WL.fact (i := 0) rfl (fun h hb => Buf.slm hb) (fun hsl$N => ?_)
theorem rgetdict_e (ρ : Hp) (v : Value) (bs : List Nat) (n : Int) {o : Option (List Nat)} (hv : ROs ρ 1 v (bs.map bcell)) (e : decD bs n = o) (hw : ∀ x ∈ bs, x < 256) (hl : bs.length ≤ 140737488355328) :
    Fn Try.prog 25 #[v, .int .i64 n] ρ [] (RowR o) := by
  rw [← e]
  exact rgetdict_c ρ v bs n hv hw hl
theorem rgetdict_s (ρ : Hp) (v : Value) (bs : List Nat) (n : Int) {vs : List Nat} (hv : ROs ρ 1 v (bs.map bcell)) (e : decD bs n = some vs) (hw : ∀ x ∈ bs, x < 256) (hl : bs.length ≤ 140737488355328) :
    Fn Try.prog 25 #[v, .int .i64 n] ρ [] (fun r h => ∃ v, r = .tuple #[v, .bool true] ∧ Buf 1 v (vs.map ucell) h) := rgetdict_e ρ v bs n hv e hw hl
theorem rgetdict_n (ρ : Hp) (v : Value) (bs : List Nat) (n : Int) (hv : ROs ρ 1 v (bs.map bcell)) (e : decD bs n = none) (hw : ∀ x ∈ bs, x < 256) (hl : bs.length ≤ 140737488355328) :
    Fn Try.prog 25 #[v, .int .i64 n] ρ [] (fun r h => ∃ v, r = .tuple #[v, .bool false] ∧ Buf 1 v (([] : List Nat).map ucell) h) := rgetdict_e ρ v bs n hv e hw hl
end Go.Proofs.Ytjibmfkhhljhcaa
