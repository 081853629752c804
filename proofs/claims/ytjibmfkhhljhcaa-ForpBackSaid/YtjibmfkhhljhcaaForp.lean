/- Values by their least: what the code of package forp does. -/
import Derived.Test.YtjibmfkhhljhcaaStc
import Derived.Test.YtjibmfkhhljhcaaNum
import Derived.Test.YtjibmfkhhljhcaaTab
import Derived.Test.YtjibmfkhhljhcaaVintPg
import Derived.Test.YtjibmfkhhljhcaaBits
import Derived.Test.YtjibmfkhhljhcaaLen64i
import Derived.Test.YtjibmfkhhljhcaaMinMax
set_option linter.unusedSimpArgs false
set_option linter.unusedVariables false
set_option maxRecDepth 20000
set_option maxHeartbeats 4000000
namespace Go.Proofs.Ytjibmfkhhljhcaa
open Go
attribute [local irreducible] W WL Fn Buf ROs SL eptr box Rd Src bndOK WD RB Reads In encFp decFp

theorem fp_snoc {vs : List Nat} {i x : Nat} (h : vs[i]? = some x) (w : Nat) : bitsL w ((lessF vs).take i) ++ bitsOf (x - loF vs) w = bitsL w ((lessF vs).take (i + 1)) := by
  have : (lessF vs)[i]? = some (x - loF vs) := by simp [lessF, h]
  rw [List.take_add_one, this, Option.toList_some, bitsL_snoc]
-- CALL 12 refine WL.callF rfl rfl (fun x p d => fpenc_c _ _ _ $RO (by first | assumption | omega | decide) (by first | assumption | omega | decide)) (fun u$N => ?_) ;; refine WL.fact (i := 0) rfl (fun h hb => Buf.slm hb) (fun hsl$N => ?_)
theorem fpenc_c (ρ : Hp) (v : Value) (vs : List Nat) (hv : ROs ρ 1 v (vs.map ucell)) (hw : ∀ x ∈ vs, x < 18446744073709551616) (hl : vs.length ≤ 70000) :
    Fn Try.prog 12 #[v] ρ [] (fun r => Buf 1 r ((encFp vs).map bcell)) := by
  refine in12 rfl rfl ?_
  have sv := hv.slm
  by_cases h0 : vs = []
  · have hl0 : vs.length = 0 := by rw [h0]; rfl
    refine W.seq ?_
    refine W.region ?_
    refine WL.as rfl rfl ?_
    refine WL.nil ?_
    refine W.seq ?_
    refine W.seq ?_
    refine W.region ?_
    refine WL.mv rfl rfl ?_
    refine WL.len (T := Ty) rfl rfl (by assumption) rfl ?_
    refine WL.eql rfl rfl rfl ?_
    refine WL.nil ?_
    refine W.condpT rfl (by omega) ?_
    refine W.seq ?_
    refine W.region ?_
    refine WL.as rfl rfl ?_
    refine WL.nil ?_
    refine W.nb (sz := 1) ?_
    refine W.ret1 rfl rfl (fun h p => ?_)
    rw [h0, encFp_nil]
    exact sepl_one.1 p
  · have hpos : 0 < vs.length := List.length_pos_iff.2 h0
    have hlo := loF_lt hw
    have hhi := hiF_lt hw
    have hlh := loF_hiF vs
    have hsub : ((hiF vs : Int) - (loF vs : Int)).toNat = hiF vs - loF vs := by omega
    have hwf : lenB 64 (hiF vs - loF vs) = wF vs := rfl
    have hw64 := wF_le vs
    have hless : (lessF vs).length = vs.length := by simp [lessF]
    have hld : ∀ i, i ≤ vs.length → (bitsL (wF vs) ((lessF vs).take i)).length ≤ 4480000 := by
      intro i hi
      rw [bitsL_len, List.length_take, hless, Nat.min_eq_left hi]
      have : i * wF vs ≤ 70000 * 64 := Nat.mul_le_mul (by omega) hw64
      omega
    refine W.seq ?_
    refine W.region ?_
    refine WL.as rfl rfl ?_
    refine WL.nil ?_
    refine W.seq ?_
    refine W.seq ?_
    refine W.region ?_
    refine WL.mv rfl rfl ?_
    refine WL.len (T := Ty) rfl rfl (by assumption) rfl ?_
    refine WL.eql rfl rfl rfl ?_
    refine WL.nil ?_
    refine W.condpF rfl (by omega) ?_
    refine W.skip ?_
    refine W.seq ?_
    refine W.region ?_
    refine WL.mv rfl rfl ?_
    refine WL.callV rfl rfl (fun x p d => smin_c _ _ _ (by first | assumption | exact ROs.wide (by assumption) | exact ROs.mono (by assumption) (eqh_at 0 rfl p d) | exact ros_at 0 rfl p d | exact ros_at 1 rfl p d | exact ros_at 2 rfl p d | exact ros_at 3 rfl p d | exact ros_at 4 rfl p d) (by first | assumption | omega) (by first | assumption | omega)) ?_
    refine WL.as rfl rfl ?_
    refine WL.nil ?_
    refine W.seq ?_
    refine W.region ?_
    refine WL.mv rfl rfl ?_
    refine WL.callV rfl rfl (fun x p d => smax_c _ _ _ (by first | assumption | exact ROs.wide (by assumption) | exact ROs.mono (by assumption) (eqh_at 0 rfl p d) | exact ros_at 0 rfl p d | exact ros_at 1 rfl p d | exact ros_at 2 rfl p d | exact ros_at 3 rfl p d | exact ros_at 4 rfl p d) (by first | assumption | omega) (by first | assumption | omega)) ?_
    refine WL.mv rfl rfl ?_
    refine WL.subK rfl rfl rfl (wrap_u64 ⟨by omega, by omega⟩) ?_
    refine WL.callV rfl rfl (fun x p d => len64_i _ _ (by omega) (by omega)) ?_
    refine WL.as rfl rfl ?_
    refine WL.nil ?_
    refine W.seq ?_
    refine W.region ?_
    refine WL.callF rfl rfl (fun x p d => newWriter_c _) (fun r => ?_)
    refine WL.ex (fun b0 => ?_)
    refine WL.pure (fun er => ?_)
    subst er
    refine WL.as rfl rfl ?_
    refine WL.nil ?_
    refine W.seq ?_
    refine W.seq ?_
    refine W.region ?_
    refine WL.mv rfl rfl ?_
    refine WL.len (T := Ty) rfl rfl (by assumption) rfl ?_
    refine WL.mv rfl rfl ?_
    refine WL.nil ?_
    refine W.block ?_
    rw [hsub, hwf]
    refine W.loopS (σ := Nat) (fun i => [(3, .int .u64 (loF vs : Int)), (4, .int .i64 (wF vs : Int)), (5, ptr b0), (19, v), (20, .int .i64 (vs.length : Int)), (21, .int .i64 (i : Int))]) (fun i => [Wr b0 (bitsL (wF vs) ((lessF vs).take i))])
      (fun i => i ≤ vs.length) (fun i => vs.length - i) 0 ⟨rfl, rfl, rfl, rfl, rfl, rfl, trivial⟩ rfl (Nat.zero_le _) ?_
    intro i hi next
    have hd := hld i hi
    have hdb := bitsL_bit (wF vs) ((lessF vs).take i)
    generalize hds : bitsL (wF vs) ((lessF vs).take i) = ds at *
    by_cases hlt : i < vs.length
    · obtain ⟨x, hx⟩ : ∃ x, vs[i]? = some x := ⟨_, List.getElem?_eq_getElem hlt⟩
      have hx1 : (vs.map ucell)[i]? = some (ucell x) := by rw [List.getElem?_map, hx]; rfl
      have hxm := List.mem_of_getElem? hx
      have hxl := hw x hxm
      have hxlo := loF_le hxm
      refine W.seq ?_
      refine W.region ?_
      refine WL.lss rfl rfl rfl ?_
      refine WL.nil ?_
      refine W.seq ?_
      refine W.condpT rfl (by omega) ?_
      refine W.skip ?_
      refine W.seq ?_
      refine W.block ?_
      refine W.seq ?_
      refine W.region ?_
      refine WL.ix (T := Ty) rfl rfl rfl (by assumption) rfl rfl (by omega) (by first | omega | decide +kernel) ?_
      refine WL.ldKn (T := Ty) rfl rfl rfl rfl (by first | assumption | exact ROs.wide (by assumption)) (by assumption) ?_
      refine WL.as rfl rfl ?_
      refine WL.nil ?_
      refine W.region ?_
      refine WL.mv rfl rfl ?_
      refine WL.mv rfl rfl ?_
      refine WL.mv rfl rfl ?_
      refine WL.subK rfl rfl rfl (wrap_u64 ⟨by omega, by omega⟩) ?_
      refine WL.mv rfl rfl ?_
      refine WL.callM 0 rfl rfl rfl (fun x p d => put_ci _ _ _ _ _ (by omega) (by omega) (by repeat' first | assumption | exact bok_nil | exact bitsOf_bit _ _ | apply bok_app) (by first | assumption | omega | (simp only [List.length_append, bitsOf_len, List.length_nil, heldF]; omega))) (by repeat' first | exact FL.nil | apply FL.cons) ?_
      refine WL.nil ?_
      refine W.inBlock ?_
      refine W.region ?_
      refine WL.addK rfl rfl rfl (wrap_i64 ⟨by omega, by omega⟩) ?_
      refine WL.mv rfl rfl ?_
      refine WL.nil ?_
      refine W.sub ?_ (W.hs (fun h p => ?_) (next (i + 1) (by omega) (by omega)))
      · exact ⟨rfl, rfl, rfl, rfl, rfl, rfl, trivial⟩
      · rw [← fp_snoc hx, hds, show x - loF vs = ((x : Int) - (loF vs : Int)).toNat by omega, ← heldF_nat64 _ hw64]
        exact p
    · have hie : i = vs.length := by omega
      have hnil : ROs ρ 1 (.slice none 0 0) (([] : List Nat).map bcell) := ros_nil ρ 1
      have hnl : ([] : List Nat).length + 10 ≤ 140737488355328 := by decide
      have hv9 := vput_len 9 (loF vs)
      have hpl := pack_len ds
      refine W.seq ?_
      refine W.region ?_
      refine WL.lss rfl rfl rfl ?_
      refine WL.nil ?_
      refine W.seq ?_
      refine W.condpF rfl (by omega) ?_
      refine W.exit rfl ?_
      refine W.seq ?_
      refine W.region ?_
      refine WL.mv rfl rfl ?_
      refine WL.callF rfl rfl (fun x p d => vput_c _ _ _ _ (by first | assumption | exact ROs.wide (by assumption) | exact ROs.mono (by assumption) (eqh_at 0 rfl p d) | exact ros_at 0 rfl p d | exact ros_at 1 rfl p d | exact ros_at 2 rfl p d | exact ros_at 3 rfl p d | exact ros_at 4 rfl p d) (by first | assumption | omega) (by first | assumption | omega | (simp only [List.length_append]; omega))) (fun u1 => ?_)
      refine WL.fact (i := 0) rfl (fun h hb => Buf.slm hb) (fun hsl1 => ?_)
      refine WL.mv rfl rfl ?_
      refine WL.cvK (T := Ty) rfl rfl rfl rfl (wrap_u8 ⟨by omega, by omega⟩) ?_
      refine WL.bsC (T := Ty) rfl rfl rfl rfl rfl rfl rfl (by repeat' first | exact CO.nil | apply CO.one (by first | rfl | exact SL.one (by assumption)) | apply CO.agg) rfl (by repeat' first | exact FL.nil | apply FL.cons) (fun u2 hu2 => ?_)
      refine WL.ap1 (T := Ty) (i := 0) rfl rfl rfl rfl rfl rfl rfl rfl (by assumption) (by first | rfl | assumption) (by first | omega | (simp; omega)) (by first | omega | (simp; omega)) (fun v' => (by repeat' first | exact FL.nil | apply FL.cons)) (fun u3 hu3 => ?_)
      refine WL.mv rfl rfl ?_
      refine WL.callF rfl rfl (fun x p d => bytes_c _ _ _ (by first | assumption | exact In.wide (by assumption) | exact In.mono (by assumption) (eqh_at 0 rfl p d) | exact in_at 0 rfl p d | exact in_at 1 rfl p d | exact in_at 2 rfl p d | exact in_at 3 rfl p d | exact in_at 4 rfl p d) (by first | assumption | omega | (simp only [List.length_append, bitsOf_len, List.length_nil, heldF]; omega))) (fun u4 => ?_)
      refine WL.fact (i := 0) rfl (fun h hb => Buf.slm hb) (fun hsl4 => ?_)

      rw [show [Value.int .u8 (wF vs : Int)] = [wF vs].map bcell from rfl, ← List.map_append]
      refine WL.apMM (T := Ty) (i := 1) rfl rfl rfl rfl rfl rfl rfl (by first | exact .ro (by assumption) | exact .ro (ROs.wide (by assumption)) | exact .eqJ 0 rfl (by assumption) | exact .own 0 rfl | exact .own 1 rfl | exact .own 2 rfl | exact .own 3 rfl | exact .own 4 rfl | exact .own 5 rfl) (by first | assumption | exact ROs.slm (by assumption)) (fun _ => rfl) (by first | omega | (simp; omega)) (by first | omega | (simp; omega)) (fun v' => (by repeat' first | exact FL.nil | apply FL.cons)) (fun u5 hu5 => ?_)
      refine WL.as rfl rfl ?_
      refine WL.nil ?_
      refine W.drop 0 rfl (by repeat' first | exact FL.nil | apply FL.cons) ?_
      refine W.drop 1 rfl (by repeat' first | exact FL.nil | apply FL.cons) ?_
      refine W.ret1 rfl rfl (fun h p => ?_)
      have e : ds = bitsL (wF vs) (lessF vs) := by rw [← hds, hie, ← hless, List.take_length]
      rw [encFp_ne h0, ← e]
      simpa using sepl_one.1 p
-- CALL 11 refine WL.callF rfl rfl (fun x p d => fpdec_s _ _ _ _ $RO (by assumption) (by first | assumption | omega | decide) (by first | assumption | omega | decide)) (fun r => ?_) ;; refine WL.ex (fun u$N => ?_) ;; refine WL.pure (fun er => ?_) ;; subst er ;; refine WL.fact (i := 0) rfl (fun h hb => Buf.slm hb) (fun hsl$N => ?_)
-- CALL 11 refine WL.callF rfl rfl (fun x p d => fpdec_n _ _ _ _ $RO (by assumption) (by first | assumption | omega | decide) (by first | assumption | omega | decide)) (fun r => ?_) ;; refine WL.ex (fun u$N => ?_) ;; refine WL.pure (fun er => ?_) ;; subst er ;; refine WL.fact (i := 0) rfl (fun h hb => Buf.slm hb) (fun hsl$N => ?_)
-- CALL 11 refine WL.callF rfl rfl (fun x p d => fpdec_c _ _ _ _ $RO (by first | assumption | omega | decide) (by first | assumption | omega | decide)) (fun r => ?_) ;; refine WL.ex (fun u$N => ?_) ;; refine WL.pure (fun er => ?_) ;; subst er ;; refine WL.fact (i := 0) rfl (fun h hb => Buf.slm hb) (fun hsl$N => ?_)
theorem fpdec_c (ρ : Hp) (v : Value) (bs : List Nat) (n : Int) (hv : ROs ρ 1 v (bs.map bcell)) (hw : ∀ x ∈ bs, x < 256) (hl : bs.length ≤ 140737488355328) :
    Fn Try.prog 11 #[v, .int .i64 n] ρ [] (RowR (decFp bs n)) := by
  refine in11 rfl rfl ?_
  have sv := hv.slm
  have hm := heldM_eq n
  have hml := heldM_le n
  by_cases h0 : heldM n = 0
  · have hdec : decFp bs n = if bs = [] then some [] else none := by unfold decFp; rw [if_pos h0]
    by_cases hb : bs = []
    · have hbl : bs.length = 0 := by rw [hb]; rfl
      rw [if_pos hb] at hdec
      refine W.seq ?_
      refine W.region ?_
      refine WL.as rfl rfl ?_
      refine WL.as rfl rfl ?_
      refine WL.nil ?_
      refine W.seq ?_
      refine W.region ?_
      refine WL.mv rfl rfl ?_
      refine WL.mx rfl rfl rfl ?_
      refine WL.mn rfl rfl rfl ?_
      refine WL.as rfl rfl ?_
      refine WL.nil ?_
      refine W.seq ?_
      refine W.seq ?_
      refine W.region ?_
      refine WL.mv rfl rfl ?_
      refine WL.eql rfl rfl rfl ?_
      refine WL.nil ?_
      refine W.condpT rfl (by omega) ?_
      refine W.seq ?_
      refine W.region ?_
      refine WL.mv rfl rfl ?_
      refine WL.len (T := Ty) rfl rfl (by assumption) rfl ?_
      refine WL.eql rfl rfl rfl ?_
      refine WL.as rfl rfl ?_
      refine WL.as rfl rfl ?_
      refine WL.nil ?_
      refine W.nb (sz := 1) ?_
      exact W.ret2 rfl rfl (by simp [look, ev]; omega) (fun h p => rowSome hdec p)
    · have hbl : 0 < bs.length := List.length_pos_iff.2 hb
      rw [if_neg hb] at hdec
      refine W.seq ?_
      refine W.region ?_
      refine WL.as rfl rfl ?_
      refine WL.as rfl rfl ?_
      refine WL.nil ?_
      refine W.seq ?_
      refine W.region ?_
      refine WL.mv rfl rfl ?_
      refine WL.mx rfl rfl rfl ?_
      refine WL.mn rfl rfl rfl ?_
      refine WL.as rfl rfl ?_
      refine WL.nil ?_
      refine W.seq ?_
      refine W.seq ?_
      refine W.region ?_
      refine WL.mv rfl rfl ?_
      refine WL.eql rfl rfl rfl ?_
      refine WL.nil ?_
      refine W.condpT rfl (by omega) ?_
      refine W.seq ?_
      refine W.region ?_
      refine WL.mv rfl rfl ?_
      refine WL.len (T := Ty) rfl rfl (by assumption) rfl ?_
      refine WL.eql rfl rfl rfl ?_
      refine WL.as rfl rfl ?_
      refine WL.as rfl rfl ?_
      refine WL.nil ?_
      refine W.nb (sz := 1) ?_
      exact W.ret2 rfl rfl (by simp [look, ev]; omega) (fun h p => rowNone hdec p)
  obtain ⟨lo, a, hg⟩ : ∃ lo a, vgetF 0 0 bs = (lo, a) := ⟨_, _, rfl⟩
  have ha := vget_le bs 0 0
  have hlo := vget_bound bs 0 0 (by decide) (by decide) hw
  rw [hg] at ha hlo
  simp only [] at ha hlo
  have hdec : decFp bs n = if a = 0 ∨ bs.length ≤ a ∨ 64 < bs.getD a 0 then none else if encFp (rowI lo (bs.drop (a + 1)) (bs.getD a 0) (heldM n)) = bs then some (rowI lo (bs.drop (a + 1)) (bs.getD a 0) (heldM n)) else none := by
    unfold decFp
    rw [if_neg h0, hg]
  by_cases c1 : a = 0
  · rw [if_pos (.inl c1)] at hdec
    refine W.seq ?_
    refine W.region ?_
    refine WL.as rfl rfl ?_
    refine WL.as rfl rfl ?_
    refine WL.nil ?_
    refine W.seq ?_
    refine W.region ?_
    refine WL.mv rfl rfl ?_
    refine WL.mx rfl rfl rfl ?_
    refine WL.mn rfl rfl rfl ?_
    refine WL.as rfl rfl ?_
    refine WL.nil ?_
    refine W.seq ?_
    refine W.seq ?_
    refine W.region ?_
    refine WL.mv rfl rfl ?_
    refine WL.eql rfl rfl rfl ?_
    refine WL.nil ?_
    refine W.condpF rfl (by omega) ?_
    refine W.skip ?_
    refine W.seq ?_
    refine W.region ?_
    refine WL.mv rfl rfl ?_
    refine WL.callV rfl rfl (fun x p d => vget_e _ _ _ (by first | assumption | exact ROs.wide (by assumption) | exact ROs.mono (by assumption) (eqh_at 0 rfl p d) | exact ros_at 0 rfl p d | exact ros_at 1 rfl p d | exact ros_at 2 rfl p d | exact ros_at 3 rfl p d | exact ros_at 4 rfl p d) (by assumption) (by first | assumption) (by first | assumption | omega)) ?_
    refine WL.mv rfl rfl ?_
    refine WL.extL rfl rfl rfl ?_
    refine WL.extL rfl rfl rfl ?_
    refine WL.as rfl rfl ?_
    refine WL.as rfl rfl ?_
    refine WL.nil ?_
    refine W.seq ?_
    refine W.seq ?_
    refine W.region ?_
    refine WL.mv rfl rfl ?_
    refine WL.eql rfl rfl rfl ?_
    refine WL.mv rfl rfl ?_
    refine WL.gdFn rfl rfl rfl rfl rfl (by omega) ?_
    refine WL.gdFn rfl rfl rfl rfl rfl (by omega) ?_
    refine WL.gdFn rfl rfl rfl rfl rfl (by omega) ?_
    refine WL.gdFn rfl rfl rfl rfl rfl (by omega) ?_
    refine WL.pickTp rfl rfl (by omega) rfl ?_
    refine WL.mv rfl rfl ?_
    refine WL.gdN rfl rfl rfl rfl rfl rfl ?_
    refine WL.gdN rfl rfl rfl rfl rfl rfl ?_
    refine WL.gdN rfl rfl rfl rfl rfl rfl ?_
    refine WL.gdN rfl rfl rfl rfl rfl rfl ?_
    refine WL.gdN rfl rfl rfl rfl rfl rfl ?_
    refine WL.pickT rfl rfl rfl ?_
    refine WL.nil ?_
    refine W.condT rfl ?_
    refine W.seq ?_
    refine W.region ?_
    refine WL.as rfl rfl ?_
    refine WL.as rfl rfl ?_
    refine WL.nil ?_
    refine W.nb (sz := 1) ?_
    exact W.ret2 rfl rfl rfl (fun h p => rowNone hdec p)
  by_cases c2 : bs.length ≤ a
  · rw [if_pos (.inr (.inl c2))] at hdec
    refine W.seq ?_
    refine W.region ?_
    refine WL.as rfl rfl ?_
    refine WL.as rfl rfl ?_
    refine WL.nil ?_
    refine W.seq ?_
    refine W.region ?_
    refine WL.mv rfl rfl ?_
    refine WL.mx rfl rfl rfl ?_
    refine WL.mn rfl rfl rfl ?_
    refine WL.as rfl rfl ?_
    refine WL.nil ?_
    refine W.seq ?_
    refine W.seq ?_
    refine W.region ?_
    refine WL.mv rfl rfl ?_
    refine WL.eql rfl rfl rfl ?_
    refine WL.nil ?_
    refine W.condpF rfl (by omega) ?_
    refine W.skip ?_
    refine W.seq ?_
    refine W.region ?_
    refine WL.mv rfl rfl ?_
    refine WL.callV rfl rfl (fun x p d => vget_e _ _ _ (by first | assumption | exact ROs.wide (by assumption) | exact ROs.mono (by assumption) (eqh_at 0 rfl p d) | exact ros_at 0 rfl p d | exact ros_at 1 rfl p d | exact ros_at 2 rfl p d | exact ros_at 3 rfl p d | exact ros_at 4 rfl p d) (by assumption) (by first | assumption) (by first | assumption | omega)) ?_
    refine WL.mv rfl rfl ?_
    refine WL.extL rfl rfl rfl ?_
    refine WL.extL rfl rfl rfl ?_
    refine WL.as rfl rfl ?_
    refine WL.as rfl rfl ?_
    refine WL.nil ?_
    refine W.seq ?_
    refine W.seq ?_
    refine W.region ?_
    refine WL.mv rfl rfl ?_
    refine WL.eql rfl rfl rfl ?_
    refine WL.mv rfl rfl ?_
    refine WL.gF rfl rfl (by omega) ?_
    refine WL.mv rfl rfl ?_
    refine WL.gF rfl rfl (by omega) ?_
    refine WL.mv rfl rfl ?_
    refine WL.gF rfl rfl (by omega) ?_
    refine WL.len (T := Ty) rfl rfl (by assumption) rfl ?_
    refine WL.gF rfl rfl (by omega) ?_
    refine WL.eql rfl rfl rfl ?_
    refine WL.pickFp rfl rfl (by omega) rfl ?_
    refine WL.mv rfl rfl ?_
    refine WL.gdFn rfl rfl rfl rfl rfl (by omega) ?_
    refine WL.gdFn rfl rfl rfl rfl rfl (by omega) ?_
    refine WL.gdFn rfl rfl rfl rfl rfl (by omega) ?_
    refine WL.gdFn rfl rfl rfl rfl rfl (by omega) ?_
    refine WL.gdFn rfl rfl rfl rfl rfl (by omega) ?_
    refine WL.pickTp rfl rfl (by omega) rfl ?_
    refine WL.nil ?_
    refine W.condT rfl ?_
    refine W.seq ?_
    refine W.region ?_
    refine WL.as rfl rfl ?_
    refine WL.as rfl rfl ?_
    refine WL.nil ?_
    refine W.nb (sz := 1) ?_
    exact W.ret2 rfl rfl rfl (fun h p => rowNone hdec p)
  obtain ⟨wd, hwd⟩ : ∃ wd, bs[a]? = some wd := ⟨_, List.getElem?_eq_getElem (by omega)⟩
  have hwc : (bs.map bcell)[a]? = some (bcell wd) := by rw [List.getElem?_map, hwd]; rfl
  have hwd' : bs.getD a 0 = wd := by simp [List.getD, hwd]
  have hwd8 := hw wd (List.mem_of_getElem? hwd)
  rw [hwd'] at hdec
  by_cases c3 : 64 < wd
  · rw [if_pos (.inr (.inr c3))] at hdec
    refine W.seq ?_
    refine W.region ?_
    refine WL.as rfl rfl ?_
    refine WL.as rfl rfl ?_
    refine WL.nil ?_
    refine W.seq ?_
    refine W.region ?_
    refine WL.mv rfl rfl ?_
    refine WL.mx rfl rfl rfl ?_
    refine WL.mn rfl rfl rfl ?_
    refine WL.as rfl rfl ?_
    refine WL.nil ?_
    refine W.seq ?_
    refine W.seq ?_
    refine W.region ?_
    refine WL.mv rfl rfl ?_
    refine WL.eql rfl rfl rfl ?_
    refine WL.nil ?_
    refine W.condpF rfl (by omega) ?_
    refine W.skip ?_
    refine W.seq ?_
    refine W.region ?_
    refine WL.mv rfl rfl ?_
    refine WL.callV rfl rfl (fun x p d => vget_e _ _ _ (by first | assumption | exact ROs.wide (by assumption) | exact ROs.mono (by assumption) (eqh_at 0 rfl p d) | exact ros_at 0 rfl p d | exact ros_at 1 rfl p d | exact ros_at 2 rfl p d | exact ros_at 3 rfl p d | exact ros_at 4 rfl p d) (by assumption) (by first | assumption) (by first | assumption | omega)) ?_
    refine WL.mv rfl rfl ?_
    refine WL.extL rfl rfl rfl ?_
    refine WL.extL rfl rfl rfl ?_
    refine WL.as rfl rfl ?_
    refine WL.as rfl rfl ?_
    refine WL.nil ?_
    refine W.seq ?_
    refine W.seq ?_
    refine W.region ?_
    refine WL.mv rfl rfl ?_
    refine WL.eql rfl rfl rfl ?_
    refine WL.mv rfl rfl ?_
    refine WL.gF rfl rfl (by omega) ?_
    refine WL.mv rfl rfl ?_
    refine WL.gF rfl rfl (by omega) ?_
    refine WL.mv rfl rfl ?_
    refine WL.gF rfl rfl (by omega) ?_
    refine WL.len (T := Ty) rfl rfl (by assumption) rfl ?_
    refine WL.gF rfl rfl (by omega) ?_
    refine WL.eql rfl rfl rfl ?_
    refine WL.pickFp rfl rfl (by omega) rfl ?_
    refine WL.mv rfl rfl ?_
    refine WL.gF rfl rfl (by omega) ?_
    refine WL.mv rfl rfl ?_
    refine WL.gF rfl rfl (by omega) ?_
    refine WL.mv rfl rfl ?_
    refine WL.gF rfl rfl (by omega) ?_
    refine WL.ix (T := Ty) rfl rfl rfl (by assumption) rfl rfl (by omega) (by first | omega | decide +kernel) ?_
    refine WL.gF rfl rfl (by omega) ?_
    refine WL.ldKn (T := Ty) rfl rfl rfl rfl (by first | assumption | exact ROs.wide (by assumption)) (by assumption) ?_
    refine WL.gF rfl rfl (by omega) ?_
    refine WL.gtr rfl rfl rfl ?_
    refine WL.pickFp rfl rfl (by omega) rfl ?_
    refine WL.nil ?_
    refine W.condpT rfl (by omega) ?_
    refine W.seq ?_
    refine W.region ?_
    refine WL.as rfl rfl ?_
    refine WL.as rfl rfl ?_
    refine WL.nil ?_
    refine W.nb (sz := 1) ?_
    exact W.ret2 rfl rfl rfl (fun h p => rowNone hdec p)
  rw [if_neg (by omega)] at hdec
  have hrl : (bs.drop (a + 1)).length ≤ 140737488355328 := by simp; omega
  have hrw : ∀ x ∈ bs.drop (a + 1), x < 256 := fun x hx => hw x (List.mem_of_mem_drop hx)
  refine W.seq ?_
  refine W.region ?_
  refine WL.as rfl rfl ?_
  refine WL.as rfl rfl ?_
  refine WL.nil ?_
  refine W.seq ?_
  refine W.region ?_
  refine WL.mv rfl rfl ?_
  refine WL.mx rfl rfl rfl ?_
  refine WL.mn rfl rfl rfl ?_
  refine WL.as rfl rfl ?_
  refine WL.nil ?_
  refine W.seq ?_
  refine W.seq ?_
  refine W.region ?_
  refine WL.mv rfl rfl ?_
  refine WL.eql rfl rfl rfl ?_
  refine WL.nil ?_
  refine W.condpF rfl (by omega) ?_
  refine W.skip ?_
  refine W.seq ?_
  refine W.region ?_
  refine WL.mv rfl rfl ?_
  refine WL.callV rfl rfl (fun x p d => vget_e _ _ _ (by first | assumption | exact ROs.wide (by assumption) | exact ROs.mono (by assumption) (eqh_at 0 rfl p d) | exact ros_at 0 rfl p d | exact ros_at 1 rfl p d | exact ros_at 2 rfl p d | exact ros_at 3 rfl p d | exact ros_at 4 rfl p d) (by assumption) (by first | assumption) (by first | assumption | omega)) ?_
  refine WL.mv rfl rfl ?_
  refine WL.extL rfl rfl rfl ?_
  refine WL.extL rfl rfl rfl ?_
  refine WL.as rfl rfl ?_
  refine WL.as rfl rfl ?_
  refine WL.nil ?_
  refine W.seq ?_
  refine W.seq ?_
  refine W.region ?_
  refine WL.mv rfl rfl ?_
  refine WL.eql rfl rfl rfl ?_
  refine WL.mv rfl rfl ?_
  refine WL.gF rfl rfl (by omega) ?_
  refine WL.mv rfl rfl ?_
  refine WL.gF rfl rfl (by omega) ?_
  refine WL.mv rfl rfl ?_
  refine WL.gF rfl rfl (by omega) ?_
  refine WL.len (T := Ty) rfl rfl (by assumption) rfl ?_
  refine WL.gF rfl rfl (by omega) ?_
  refine WL.eql rfl rfl rfl ?_
  refine WL.pickFp rfl rfl (by omega) rfl ?_
  refine WL.mv rfl rfl ?_
  refine WL.gF rfl rfl (by omega) ?_
  refine WL.mv rfl rfl ?_
  refine WL.gF rfl rfl (by omega) ?_
  refine WL.mv rfl rfl ?_
  refine WL.gF rfl rfl (by omega) ?_
  refine WL.ix (T := Ty) rfl rfl rfl (by assumption) rfl rfl (by omega) (by first | omega | decide +kernel) ?_
  refine WL.gF rfl rfl (by omega) ?_
  refine WL.ldKn (T := Ty) rfl rfl rfl rfl (by first | assumption | exact ROs.wide (by assumption)) (by assumption) ?_
  refine WL.gF rfl rfl (by omega) ?_
  refine WL.gtr rfl rfl rfl ?_
  refine WL.pickFp rfl rfl (by omega) rfl ?_
  refine WL.nil ?_
  refine W.condpF rfl (by omega) ?_
  refine W.skip ?_
  refine W.seq ?_
  refine W.region ?_
  refine WL.mv rfl rfl ?_
  refine WL.mv rfl rfl ?_
  refine WL.addK rfl rfl rfl (wrap_i64 ⟨by omega, by omega⟩) ?_
  refine WL.slDn (T := Ty) rfl rfl rfl rfl rfl (by first | assumption | exact ROs.wide (by assumption)) (by first | assumption | omega | (simp; omega)) (fun u0 hu0 ru0 => ?_)
  refine WL.callF rfl rfl (fun x p d => newReader_c _ _ _ (by first | assumption | exact ROs.wide (by assumption) | exact ROs.mono (by assumption) (eqh_at 0 rfl p d) | exact ros_at 0 rfl p d | exact ros_at 1 rfl p d | exact ros_at 2 rfl p d | exact ros_at 3 rfl p d | exact ros_at 4 rfl p d) (by first | assumption | omega | (simp only [pack_len, List.length_append, bitsOf_len, List.length_nil, heldF]; omega))) (fun r => ?_)
  refine WL.ex (fun b1 => ?_)
  refine WL.pure (fun er => ?_)
  subst er
  refine WL.as rfl rfl ?_
  refine WL.nil ?_
  refine W.seq ?_
  refine W.region ?_
  refine WL.as rfl rfl ?_
  refine WL.nil ?_
  refine W.seq ?_
  refine W.seq ?_
  refine W.region ?_
  refine WL.mv rfl rfl ?_
  refine WL.mv rfl rfl ?_
  refine WL.nil ?_
  refine W.block ?_
  refine W.nb (sz := 1) ?_
  obtain ⟨rest, hrest⟩ : ∃ r, r = bs.drop (a + 1) := ⟨_, rfl⟩
  rw [← hrest] at hrl hrw hdec ⊢
  refine W.loopS (σ := Nat × RdSt × Value) (fun s => [(0, v), (1, .int .i64 (min (max n 0) 65535)), (6, .int .u64 (lo : Int)), (7, .int .i64 (a : Int)), (8, ptr b1), (9, s.2.2), (43, .int .i64 (min (max n 0) 65535)), (44, .int .i64 (s.1 : Int))])
    (fun s => [Buf 1 s.2.2 ((rowI lo rest wd s.1).map ucell), Re b1 rest s.2.1])
    (fun s => s.1 ≤ heldM n ∧ RdAt rest wd s.1 s.2.1 ∧ s.2.1.bad = false) (fun s => heldM n - s.1) (0, ⟨0, false⟩, .slice none 0 0) ⟨rfl, rfl, rfl, rfl, rfl, rfl, rfl, rfl, trivial⟩ rfl ⟨Nat.zero_le _, rdAt_zero _ _, rfl⟩ ?_
  rintro ⟨i, s, o⟩ ⟨hi, hs, hsb⟩ next
  simp only [] at hi hs hsb next ⊢
  have hil := rowI_len lo rest wd i
  refine W.fact (i := 0) rfl (fun h hb => Buf.slm hb) (fun hso => ?_)
  have hsat := hs.at'
  by_cases hlt : i < heldM n
  · obtain ⟨g, s', hgf⟩ : ∃ g s', getF rest s (wd : Int) = (g, s') := ⟨_, _, rfl⟩
    have hnx := rdAt_next (by omega : wd ≤ 64) hs
    rw [hgf] at hnx
    obtain ⟨hg1, hs'⟩ := hnx
    simp only [] at hg1 hs'
    have hwr : IntKind.u64.wrap ((lo : Int) + (g : Int)) = (((lo + g) % 18446744073709551616 : Nat) : Int) := by rw [← Int.natCast_add, wrapU64]
    have hbad := rdAt_bad hs'
    rcases s' with ⟨sa, sb⟩
    cases sb with
    | true =>
      have hno : decFp bs n = none := by
        rw [hdec, if_neg]
        have hmul : (i + 1) * wd ≤ heldM n * wd := Nat.mul_le_mul_right _ hlt
        have := hbad.1 rfl
        exact dec_short hg hwd' (rowI_len _ _ _ _) (by omega) (rowI_lt _ _ _ _) (by rw [← hrest]; omega)
      refine W.seq ?_
      refine W.region ?_
      refine WL.lss rfl rfl rfl ?_
      refine WL.nil ?_
      refine W.seq ?_
      refine W.condpT rfl (by omega) ?_
      refine W.skip ?_
      refine W.seq ?_
      refine W.block ?_
      refine W.seq ?_
      refine W.region ?_
      refine WL.mv rfl rfl ?_
      refine WL.mv rfl rfl ?_
      refine WL.mv rfl rfl ?_
      refine WL.mv rfl rfl ?_
      refine WL.mv rfl rfl ?_
      refine WL.ix (T := Ty) rfl rfl rfl (by assumption) rfl rfl (by omega) (by first | omega | decide +kernel) ?_
      refine WL.ldKn (T := Ty) rfl rfl rfl rfl (by first | assumption | exact ROs.wide (by assumption)) (by assumption) ?_
      refine WL.cvK (T := Ty) rfl rfl rfl rfl (wrap_i64 ⟨by omega, by omega⟩) ?_
      refine WL.callM 1 rfl rfl rfl (fun x p d => get_e _ _ _ _ _ (by assumption) (by first | exact Nat.zero_le _ | assumption | (simp only [pack_len]; omega) | (exact getF_at _ _ _ (by first | exact Nat.zero_le _ | assumption | exact getF_at _ _ _ (by first | exact Nat.zero_le _ | assumption)))) (by first | assumption | omega | (simp only [pack_len, List.length_append, bitsOf_len, List.length_nil, heldF]; omega)) (by first | assumption | exact pack_lt _ (by repeat' first | assumption | exact bok_nil | exact bitsOf_bit _ _ | apply bok_app))) (by repeat' first | exact FL.nil | apply FL.cons) ?_
      refine WL.add (K := .u64) rfl rfl rfl ?_
      refine WL.bsC (T := Ty) rfl rfl rfl rfl rfl rfl rfl (by repeat' first | exact CO.nil | apply CO.one (by first | rfl | exact SL.one (by assumption)) | apply CO.agg) rfl (by repeat' first | exact FL.nil | apply FL.cons) (fun u2 hu2 => ?_)
      refine WL.ap1 (T := Ty) (i := 0) rfl rfl rfl rfl rfl rfl rfl rfl (by assumption) (by first | rfl | assumption) (by first | omega | (simp; omega)) (by first | omega | (simp; omega)) (fun v' => (by repeat' first | exact FL.nil | apply FL.cons)) (fun u3 hu3 => ?_)
      refine WL.as rfl rfl ?_
      refine WL.nil ?_
      refine W.seq ?_
      refine W.region ?_
      refine WL.mv rfl rfl ?_
      refine WL.callV rfl rfl (fun x p d => ok_c _ _ _ _ (by first | assumption | exact In.wide (by assumption) | exact In.mono (by assumption) (eqh_at 0 rfl p d) | exact in_at 0 rfl p d | exact in_at 1 rfl p d | exact in_at 2 rfl p d | exact in_at 3 rfl p d | exact in_at 4 rfl p d)) ?_
      refine WL.not rfl rfl ?_
      refine WL.nil ?_
      refine W.condT rfl ?_
      refine W.seq ?_
      refine W.region ?_
      refine WL.as rfl rfl ?_
      refine WL.as rfl rfl ?_
      refine WL.nil ?_
      refine W.drop 0 rfl (by repeat' first | exact FL.nil | apply FL.cons) ?_
      refine W.drop 0 rfl (by repeat' first | exact FL.nil | apply FL.cons) ?_
      refine W.nb (sz := 1) ?_
      exact W.ret2 rfl rfl rfl (fun h p => rowNone hno p)
    | false =>
      refine W.seq ?_
      refine W.region ?_
      refine WL.lss rfl rfl rfl ?_
      refine WL.nil ?_
      refine W.seq ?_
      refine W.condpT rfl (by omega) ?_
      refine W.skip ?_
      refine W.seq ?_
      refine W.block ?_
      refine W.seq ?_
      refine W.region ?_
      refine WL.mv rfl rfl ?_
      refine WL.mv rfl rfl ?_
      refine WL.mv rfl rfl ?_
      refine WL.mv rfl rfl ?_
      refine WL.mv rfl rfl ?_
      refine WL.ix (T := Ty) rfl rfl rfl (by assumption) rfl rfl (by omega) (by first | omega | decide +kernel) ?_
      refine WL.ldKn (T := Ty) rfl rfl rfl rfl (by first | assumption | exact ROs.wide (by assumption)) (by assumption) ?_
      refine WL.cvK (T := Ty) rfl rfl rfl rfl (wrap_i64 ⟨by omega, by omega⟩) ?_
      refine WL.callM 1 rfl rfl rfl (fun x p d => get_e _ _ _ _ _ (by assumption) (by first | exact Nat.zero_le _ | assumption | (simp only [pack_len]; omega) | (exact getF_at _ _ _ (by first | exact Nat.zero_le _ | assumption | exact getF_at _ _ _ (by first | exact Nat.zero_le _ | assumption)))) (by first | assumption | omega | (simp only [pack_len, List.length_append, bitsOf_len, List.length_nil, heldF]; omega)) (by first | assumption | exact pack_lt _ (by repeat' first | assumption | exact bok_nil | exact bitsOf_bit _ _ | apply bok_app))) (by repeat' first | exact FL.nil | apply FL.cons) ?_
      refine WL.add (K := .u64) rfl rfl rfl ?_
      refine WL.bsC (T := Ty) rfl rfl rfl rfl rfl rfl rfl (by repeat' first | exact CO.nil | apply CO.one (by first | rfl | exact SL.one (by assumption)) | apply CO.agg) rfl (by repeat' first | exact FL.nil | apply FL.cons) (fun u2 hu2 => ?_)
      refine WL.ap1 (T := Ty) (i := 0) rfl rfl rfl rfl rfl rfl rfl rfl (by assumption) (by first | rfl | assumption) (by first | omega | (simp; omega)) (by first | omega | (simp; omega)) (fun v' => (by repeat' first | exact FL.nil | apply FL.cons)) (fun u3 hu3 => ?_)
      refine WL.as rfl rfl ?_
      refine WL.nil ?_
      refine W.seq ?_
      refine W.region ?_
      refine WL.mv rfl rfl ?_
      refine WL.callV rfl rfl (fun x p d => ok_c _ _ _ _ (by first | assumption | exact In.wide (by assumption) | exact In.mono (by assumption) (eqh_at 0 rfl p d) | exact in_at 0 rfl p d | exact in_at 1 rfl p d | exact in_at 2 rfl p d | exact in_at 3 rfl p d | exact in_at 4 rfl p d)) ?_
      refine WL.not rfl rfl ?_
      refine WL.nil ?_
      refine W.condF rfl ?_
      refine W.skip ?_
      refine W.inBlock ?_
      refine W.region ?_
      refine WL.addK rfl rfl rfl (wrap_i64 ⟨by omega, by omega⟩) ?_
      refine WL.mv rfl rfl ?_
      refine WL.nil ?_
      refine W.sub ?_ (W.hs (fun h p => ?_) (next ⟨i + 1, ⟨sa, false⟩, u3⟩ ⟨by simp only []; omega, hs', rfl⟩ (by simp only []; omega)))
      · exact ⟨rfl, rfl, rfl, rfl, rfl, rfl, rfl, rfl, trivial⟩
      · rw [hwr] at p
        simp only []
        rw [rowI_next, List.map_append, ← hg1]
        exact p
  · have hie : i = heldM n := by omega
    subst hie
    have hol := rowI_lt lo rest wd (heldM n)
    have hew := encFp_lt hol
    have hel := encFp_len (rowI lo rest wd (heldM n))
    by_cases he : encFp (rowI lo rest wd (heldM n)) = bs
    · rw [if_pos he] at hdec
      refine W.seq ?_
      refine W.region ?_
      refine WL.lss rfl rfl rfl ?_
      refine WL.nil ?_
      refine W.seq ?_
      refine W.condpF rfl (by omega) ?_
      refine W.exit rfl ?_
      refine W.seq ?_
      refine W.seq ?_
      refine W.region ?_
      refine WL.mv rfl rfl ?_
      refine WL.callF rfl rfl (fun x p d => fpenc_c _ _ _ (by first | assumption | exact ROs.wide (by assumption) | exact ROs.mono (by assumption) (eqh_at 0 rfl p d) | exact ros_at 0 rfl p d | exact ros_at 1 rfl p d | exact ros_at 2 rfl p d | exact ros_at 3 rfl p d | exact ros_at 4 rfl p d) (by first | assumption | omega | decide) (by first | assumption | omega | decide)) (fun u2 => ?_)
      refine WL.fact (i := 0) rfl (fun h hb => Buf.slm hb) (fun hsl2 => ?_)
      refine WL.mv rfl rfl ?_
      refine WL.callV rfl rfl (fun x p d => beq_t _ _ _ _ _ (by first | assumption | exact ROs.wide (by assumption) | exact ROs.mono (by assumption) (eqh_at 0 rfl p d) | exact ros_at 0 rfl p d | exact ros_at 1 rfl p d | exact ros_at 2 rfl p d | exact ros_at 3 rfl p d | exact ros_at 4 rfl p d) (by first | assumption | exact ROs.wide (by assumption) | exact ROs.mono (by assumption) (eqh_at 0 rfl p d) | exact ros_at 0 rfl p d | exact ros_at 1 rfl p d | exact ros_at 2 rfl p d | exact ros_at 3 rfl p d | exact ros_at 4 rfl p d) (by first | with_reducible rfl | assumption) (by assumption) (by assumption) (by first | assumption | omega) (by first | assumption | omega)) ?_
      refine WL.not rfl rfl ?_
      refine WL.nil ?_
      refine W.condF rfl ?_
      refine W.skip ?_
      refine W.seq ?_
      refine W.region ?_
      refine WL.mv rfl rfl ?_
      refine WL.as rfl rfl ?_
      refine WL.as rfl rfl ?_
      refine WL.nil ?_
      refine W.drop 0 rfl (by repeat' first | exact FL.nil | apply FL.cons) ?_
      refine W.drop 1 rfl (by repeat' first | exact FL.nil | apply FL.cons) ?_
      exact W.ret2 rfl rfl rfl (fun h p => rowSome hdec p)
    · rw [if_neg he] at hdec
      refine W.seq ?_
      refine W.region ?_
      refine WL.lss rfl rfl rfl ?_
      refine WL.nil ?_
      refine W.seq ?_
      refine W.condpF rfl (by omega) ?_
      refine W.exit rfl ?_
      refine W.seq ?_
      refine W.seq ?_
      refine W.region ?_
      refine WL.mv rfl rfl ?_
      refine WL.callF rfl rfl (fun x p d => fpenc_c _ _ _ (by first | assumption | exact ROs.wide (by assumption) | exact ROs.mono (by assumption) (eqh_at 0 rfl p d) | exact ros_at 0 rfl p d | exact ros_at 1 rfl p d | exact ros_at 2 rfl p d | exact ros_at 3 rfl p d | exact ros_at 4 rfl p d) (by first | assumption | omega | decide) (by first | assumption | omega | decide)) (fun u2 => ?_)
      refine WL.fact (i := 0) rfl (fun h hb => Buf.slm hb) (fun hsl2 => ?_)
      refine WL.mv rfl rfl ?_
      refine WL.callV rfl rfl (fun x p d => beq_f _ _ _ _ _ (by first | assumption | exact ROs.wide (by assumption) | exact ROs.mono (by assumption) (eqh_at 0 rfl p d) | exact ros_at 0 rfl p d | exact ros_at 1 rfl p d | exact ros_at 2 rfl p d | exact ros_at 3 rfl p d | exact ros_at 4 rfl p d) (by first | assumption | exact ROs.wide (by assumption) | exact ROs.mono (by assumption) (eqh_at 0 rfl p d) | exact ros_at 0 rfl p d | exact ros_at 1 rfl p d | exact ros_at 2 rfl p d | exact ros_at 3 rfl p d | exact ros_at 4 rfl p d) (by assumption) (by assumption) (by assumption) (by first | assumption | omega) (by first | assumption | omega)) ?_
      refine WL.not rfl rfl ?_
      refine WL.nil ?_
      refine W.condT rfl ?_
      refine W.seq ?_
      refine W.region ?_
      refine WL.as rfl rfl ?_
      refine WL.as rfl rfl ?_
      refine WL.nil ?_
      refine W.drop 0 rfl (by repeat' first | exact FL.nil | apply FL.cons) ?_
      refine W.drop 0 rfl (by repeat' first | exact FL.nil | apply FL.cons) ?_
      refine W.drop 0 rfl (by repeat' first | exact FL.nil | apply FL.cons) ?_
      refine W.nb (sz := 1) ?_
      exact W.ret2 rfl rfl rfl (fun h p => rowNone hdec p)
theorem fpdec_e (ρ : Hp) (v : Value) (bs : List Nat) (n : Int) {o : Option (List Nat)} (hv : ROs ρ 1 v (bs.map bcell)) (e : decFp bs n = o) (hw : ∀ x ∈ bs, x < 256) (hl : bs.length ≤ 140737488355328) :
    Fn Try.prog 11 #[v, .int .i64 n] ρ [] (RowR o) := by
  rw [← e]
  exact fpdec_c ρ v bs n hv hw hl
theorem fpdec_s (ρ : Hp) (v : Value) (bs : List Nat) (n : Int) {vs : List Nat} (hv : ROs ρ 1 v (bs.map bcell)) (e : decFp bs n = some vs) (hw : ∀ x ∈ bs, x < 256) (hl : bs.length ≤ 140737488355328) :
    Fn Try.prog 11 #[v, .int .i64 n] ρ [] (fun r h => ∃ v, r = .tuple #[v, .bool true] ∧ Buf 1 v (vs.map ucell) h) := fpdec_e ρ v bs n hv e hw hl
theorem fpdec_n (ρ : Hp) (v : Value) (bs : List Nat) (n : Int) (hv : ROs ρ 1 v (bs.map bcell)) (e : decFp bs n = none) (hw : ∀ x ∈ bs, x < 256) (hl : bs.length ≤ 140737488355328) :
    Fn Try.prog 11 #[v, .int .i64 n] ρ [] (fun r h => ∃ v, r = .tuple #[v, .bool false] ∧ Buf 1 v (([] : List Nat).map ucell) h) := fpdec_e ρ v bs n hv e hw hl
end Go.Proofs.Ytjibmfkhhljhcaa
