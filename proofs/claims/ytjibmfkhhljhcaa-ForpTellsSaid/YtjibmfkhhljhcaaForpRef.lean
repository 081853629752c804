/- Values by their least: what the document's own code does. -/
import Derived.Test.YtjibmfkhhljhcaaStc
import Derived.Test.YtjibmfkhhljhcaaNum
import Derived.Test.YtjibmfkhhljhcaaTab
import Derived.Test.YtjibmfkhhljhcaaForpRef1
import Derived.Test.YtjibmfkhhljhcaaVintRf
import Derived.Test.YtjibmfkhhljhcaaHeldC
import Derived.Test.YtjibmfkhhljhcaaMinMax
set_option linter.unusedSimpArgs false
set_option linter.unusedVariables false
set_option maxRecDepth 20000
set_option maxHeartbeats 4000000
namespace Go.Proofs.Ytjibmfkhhljhcaa
open Go
attribute [local irreducible] W WL Fn Buf ROs SL eptr box Rd Src bndOK WD RB Reads In encFp decFp

theorem mix_get (lo : Nat) (bs : List Nat) (w m i : Nat) (h : i < m) : (rowI lo bs w i ++ (numI bs w m).drop i)[i]? = some (rdV bs w i) := by
  rw [List.getElem?_append_right (by rw [rowI_len]; omega), rowI_len, Nat.sub_self, List.getElem?_drop, Nat.add_zero]
  simp [numI, h]
theorem mix_set (lo : Nat) (bs : List Nat) (w m i : Nat) (h : i < m) : (rowI lo bs w i ++ (numI bs w m).drop i).set i ((lo + rdV bs w i) % 18446744073709551616) = rowI lo bs w (i + 1) ++ (numI bs w m).drop (i + 1) := by
  have hd : (numI bs w m).drop i = rdV bs w i :: (numI bs w m).drop (i + 1) := by
    rw [List.drop_eq_getElem_cons (by rw [numI_len]; exact h)]
    congr 1
    simp [numI]
  rw [List.set_append_right _ _ (by rw [rowI_len]; omega), rowI_len, Nat.sub_self, hd, List.set_cons_zero, rowI_next]
  simp
theorem mix_len (lo : Nat) (bs : List Nat) (w m i : Nat) (h : i ≤ m) : (rowI lo bs w i ++ (numI bs w m).drop i).length = m := by
  rw [List.length_append, rowI_len, List.length_drop, numI_len]; omega
-- CALL 17 refine WL.callF rfl rfl (fun x p d => rframe_c _ _ _ $RO (by first | assumption | omega | decide) (by first | assumption | omega | decide)) (fun u$N => ?_) ;; refine WL.fact (i := 0) rfl (fun h hb => Buf.slm hb) (fun hsl$N => ?_)
theorem rframe_c (ρ : Hp) (v : Value) (vs : List Nat) (hv : ROs ρ 1 v (vs.map ucell)) (hw : ∀ x ∈ vs, x < 18446744073709551616) (hl : vs.length ≤ 70000) :
    Fn Try.prog 17 #[v] ρ [] (fun r => Buf 1 r ((encFp vs).map bcell)) := by
  refine in17 rfl rfl ?_
  have sv := hv.slm
  by_cases h0 : vs = []
  · have hl0 : vs.length = 0 := by rw [h0]; rfl
    refine W.seq ?_
    refine W.region ?_
    refine WL.as rfl rfl ?_
    refine WL.nil ?_
    refine W.seq ?_
    refine W.seq ?_
    refine W.region ?_
    refine WL.mv rfl rfl ?_
    refine WL.len (T := Ty) rfl rfl (by assumption) rfl ?_
    refine WL.eql rfl rfl rfl ?_
    refine WL.nil ?_
    refine W.condpT rfl (by omega) ?_
    refine W.seq ?_
    refine W.region ?_
    refine WL.as rfl rfl ?_
    refine WL.nil ?_
    refine W.nb (sz := 1) ?_
    refine W.ret1 rfl rfl (fun h p => ?_)
    rw [h0, encFp_nil]
    exact sepl_one.1 p
  have hpos : 0 < vs.length := List.length_pos_iff.2 h0
  have hlo := loF_lt hw
  have hhi := hiF_lt hw
  have hlh := loF_hiF vs
  have hsub : ((hiF vs : Int) - (loF vs : Int)).toNat = hiF vs - loF vs := by omega
  have hwf : lenB 64 (hiF vs - loF vs) = wF vs := rfl
  have hw64 := wF_le vs
  have hless : (lessF vs).length = vs.length := by simp [lessF]
  have hhead : (vs.map ucell)[0]? = some (ucell (vs.headD 0)) := by cases vs with | nil => exact absurd rfl h0 | cons x l => rfl
  refine W.seq ?_
  refine W.region ?_
  refine WL.as rfl rfl ?_
  refine WL.nil ?_
  refine W.seq ?_
  refine W.seq ?_
  refine W.region ?_
  refine WL.mv rfl rfl ?_
  refine WL.len (T := Ty) rfl rfl (by assumption) rfl ?_
  refine WL.eql rfl rfl rfl ?_
  refine WL.nil ?_
  refine W.condpF rfl (by omega) ?_
  refine W.skip ?_
  refine W.seq ?_
  refine W.drawA 7 rfl (fun σ0 hσ0 dσ0 => ?_)
  refine WD.takeL 0 rfl (by decide +kernel) ?_
  refine WL.mv rfl rfl ?_
  refine WL.nilT ?_
  refine WD.takeL 1 rfl (by decide +kernel) ?_
  refine WL.ix (T := Ty) rfl rfl rfl (by assumption) rfl rfl (by omega) (by first | omega | decide +kernel) ?_
  refine WL.nilT ?_
  refine WD.takeL 2 rfl (by decide +kernel) ?_
  refine WL.ldKn (T := Ty) rfl rfl rfl rfl (by first | assumption | exact ROs.wide (by assumption)) (by assumption) ?_
  refine WL.nilT ?_
  refine WD.takeL 3 rfl (by decide +kernel) ?_
  refine WL.mv rfl rfl ?_
  refine WL.nilT ?_
  refine WD.takeL 4 rfl (by decide +kernel) ?_
  refine WL.ix (T := Ty) rfl rfl rfl (by assumption) rfl rfl (by omega) (by first | omega | decide +kernel) ?_
  refine WL.nilT ?_
  refine WD.takeL 5 rfl (by decide +kernel) ?_
  refine WL.ldKn (T := Ty) rfl rfl rfl rfl (by first | assumption | exact ROs.wide (by assumption)) (by assumption) ?_
  refine WL.nilT ?_
  refine WD.takeL 6 rfl (by decide +kernel) ?_
  refine WL.as rfl rfl ?_
  refine WL.nilT ?_
  refine WD.lastG hσ0 (by decide +kernel) (by repeat' first | exact FL.nil | apply FL.cons) rfl (by repeat' first | exact FL.nil | apply FL.cons) ?_
  refine WL.as rfl rfl ?_
  refine WL.nil ?_
  refine W.seq ?_
  refine W.seq ?_
  refine W.region ?_
  refine WL.as rfl rfl ?_
  refine WL.nil ?_
  refine W.block ?_
  refine W.loopS (σ := Nat) (fun i => [(0, v), (3, .int .u64 (loI vs i : Int)), (4, .int .u64 (hiI vs i : Int)), (5, .int .i64 (i : Int))]) (fun _ => []) (fun i => i ≤ vs.length) (fun i => vs.length - i) 0 ⟨rfl, rfl, rfl, rfl, trivial⟩ rfl (Nat.zero_le _) ?_
  intro i hi next
  by_cases hlt : i < vs.length
  · obtain ⟨y, hy⟩ : ∃ y, vs[i]? = some y := ⟨_, List.getElem?_eq_getElem hlt⟩
    have hy1 : (vs.map ucell)[i]? = some (ucell y) := by rw [List.getElem?_map, hy]; rfl
    refine W.seq ?_
    refine W.seq ?_
    refine W.region ?_
    refine WL.mv rfl rfl ?_
    refine WL.mv rfl rfl ?_
    refine WL.len (T := Ty) rfl rfl (by assumption) rfl ?_
    refine WL.lss rfl rfl rfl ?_
    refine WL.nil ?_
    refine W.condpT rfl (by omega) ?_
    refine W.skip ?_
    refine W.seq ?_
    refine W.block ?_
    refine W.drawA 13 rfl (fun σ1 hσ1 dσ1 => ?_)
    refine WD.takeL 0 rfl (by decide +kernel) ?_
    refine WL.mv rfl rfl ?_
    refine WL.nilT ?_
    refine WD.takeL 1 rfl (by decide +kernel) ?_
    refine WL.mv rfl rfl ?_
    refine WL.nilT ?_
    refine WD.takeL 2 rfl (by decide +kernel) ?_
    refine WL.mv rfl rfl ?_
    refine WL.nilT ?_
    refine WD.takeL 3 rfl (by decide +kernel) ?_
    refine WL.ix (T := Ty) rfl rfl rfl (by assumption) rfl rfl (by omega) (by first | omega | decide +kernel) ?_
    refine WL.nilT ?_
    refine WD.takeL 4 rfl (by decide +kernel) ?_
    refine WL.ldKn (T := Ty) rfl rfl rfl rfl (by first | assumption | exact ROs.wide (by assumption)) (by assumption) ?_
    refine WL.nilT ?_
    refine WD.takeL 5 rfl (by decide +kernel) ?_
    refine WL.mn rfl rfl rfl ?_
    refine WL.nilT ?_
    refine WD.takeL 6 rfl (by decide +kernel) ?_
    refine WL.mv rfl rfl ?_
    refine WL.nilT ?_
    refine WD.takeL 7 rfl (by decide +kernel) ?_
    refine WL.mv rfl rfl ?_
    refine WL.nilT ?_
    refine WD.takeL 8 rfl (by decide +kernel) ?_
    refine WL.mv rfl rfl ?_
    refine WL.nilT ?_
    refine WD.takeL 9 rfl (by decide +kernel) ?_
    refine WL.ix (T := Ty) rfl rfl rfl (by assumption) rfl rfl (by omega) (by first | omega | decide +kernel) ?_
    refine WL.nilT ?_
    refine WD.takeL 10 rfl (by decide +kernel) ?_
    refine WL.ldKn (T := Ty) rfl rfl rfl rfl (by first | assumption | exact ROs.wide (by assumption)) (by assumption) ?_
    refine WL.nilT ?_
    refine WD.takeL 11 rfl (by decide +kernel) ?_
    refine WL.mx rfl rfl rfl ?_
    refine WL.nilT ?_
    refine WD.takeL 12 rfl (by decide +kernel) ?_
    refine WL.as rfl rfl ?_
    refine WL.nilT ?_
    refine WD.lastG hσ1 (by decide +kernel) (by repeat' first | exact FL.nil | apply FL.cons) rfl (by repeat' first | exact FL.nil | apply FL.cons) ?_
    refine WL.as rfl rfl ?_
    refine WL.nil ?_
    refine W.inBlock ?_
    refine W.region ?_
    refine WL.mv rfl rfl ?_
    refine WL.addK rfl rfl rfl (wrap_i64 ⟨by omega, by omega⟩) ?_
    refine WL.as rfl rfl ?_
    refine WL.nil ?_
    refine W.sub ?_ (next (i + 1) (by omega) (by omega))
    exact ⟨rfl, by rw [loI_next hy]; exact congrArg (fun z => some (Value.int .u64 z)) (by omega), by rw [hiI_next hy]; exact congrArg (fun z => some (Value.int .u64 z)) (by omega), rfl, trivial⟩
  · have e : i = vs.length := by omega
    subst e
    rw [loI_all, hiI_all]
    refine W.seq ?_
    refine W.seq ?_
    refine W.region ?_
    refine WL.mv rfl rfl ?_
    refine WL.mv rfl rfl ?_
    refine WL.len (T := Ty) rfl rfl (by assumption) rfl ?_
    refine WL.lss rfl rfl rfl ?_
    refine WL.nil ?_
    refine W.condpF rfl (by omega) ?_
    refine W.exit rfl ?_
    refine W.seq ?_
    refine W.region ?_
    refine WL.as rfl rfl ?_
    refine WL.nil ?_
    refine W.seq ?_
    refine W.seq ?_
    refine W.region ?_
    refine WL.as rfl rfl ?_
    refine WL.nil ?_
    refine W.block ?_
    refine W.nb (sz := 1) ?_
    refine W.loopS (σ := Nat × Value) (fun s => [(0, v), (3, .int .u64 (loF vs : Int)), (4, .int .u64 (hiF vs : Int)), (6, s.2), (7, .int .i64 (s.1 : Int))]) (fun s => [Buf 1 s.2 (((lessF vs).take s.1).map ucell)]) (fun s => s.1 ≤ vs.length) (fun s => vs.length - s.1) (0, .slice none 0 0) ⟨rfl, rfl, rfl, rfl, rfl, trivial⟩ rfl (Nat.zero_le _) ?_
    rintro ⟨i, o⟩ hi2 next2
    simp only [] at hi2 next2 ⊢
    have htl : ((lessF vs).take i).length = i := by rw [List.length_take, hless]; omega
    refine W.fact (i := 0) rfl (fun h hb => Buf.slm hb) (fun hso => ?_)
    by_cases hlt2 : i < vs.length
    · obtain ⟨x, hx⟩ : ∃ x, vs[i]? = some x := ⟨_, List.getElem?_eq_getElem hlt2⟩
      have hx1 : (vs.map ucell)[i]? = some (ucell x) := by rw [List.getElem?_map, hx]; rfl
      have hxm := List.mem_of_getElem? hx
      have hxl := hw x hxm
      have hxlo := loF_le hxm
      refine W.seq ?_
      refine W.seq ?_
      refine W.region ?_
      refine WL.mv rfl rfl ?_
      refine WL.mv rfl rfl ?_
      refine WL.len (T := Ty) rfl rfl (by assumption) rfl ?_
      refine WL.lss rfl rfl rfl ?_
      refine WL.nil ?_
      refine W.condpT rfl (by omega) ?_
      refine W.skip ?_
      refine W.seq ?_
      refine W.block ?_
      refine W.region ?_
      refine WL.mv rfl rfl ?_
      refine WL.mv rfl rfl ?_
      refine WL.mv rfl rfl ?_
      refine WL.ix (T := Ty) rfl rfl rfl (by assumption) rfl rfl (by omega) (by first | omega | decide +kernel) ?_
      refine WL.ldKn (T := Ty) rfl rfl rfl rfl (by first | assumption | exact ROs.wide (by assumption)) (by assumption) ?_
      refine WL.mv rfl rfl ?_
      refine WL.subK rfl rfl rfl (wrap_u64 ⟨by omega, by omega⟩) ?_
      refine WL.bsC (T := Ty) rfl rfl rfl rfl rfl rfl rfl (by repeat' first | exact CO.nil | apply CO.one (by first | rfl | exact SL.one (by assumption)) | apply CO.agg) rfl (by repeat' first | exact FL.nil | apply FL.cons) (fun u0 hu0 => ?_)
      refine WL.ap1 (T := Ty) (i := 0) rfl rfl rfl rfl rfl rfl rfl rfl (by assumption) (by first | rfl | assumption) (by first | omega | (simp; omega)) (by first | omega | (simp; omega)) (fun v' => (by repeat' first | exact FL.nil | apply FL.cons)) (fun u1 hu1 => ?_)
      refine WL.as rfl rfl ?_
      refine WL.nil ?_
      refine W.inBlock ?_
      refine W.region ?_
      refine WL.mv rfl rfl ?_
      refine WL.addK rfl rfl rfl (wrap_i64 ⟨by omega, by omega⟩) ?_
      refine WL.as rfl rfl ?_
      refine WL.nil ?_
      refine W.sub ?_ (W.hs (fun h p => ?_) (next2 ⟨i + 1, u1⟩ (by simp only []; omega) (by simp only []; omega)))
      · exact ⟨rfl, rfl, rfl, rfl, rfl, trivial⟩
      · have hx2 : (lessF vs)[i]? = some (x - loF vs) := by simp [lessF, hx]
        simp only []
        rw [List.take_add_one, hx2, Option.toList_some, List.map_append]
        have e : ((x : Int) - (loF vs : Int)) = ((x - loF vs : Nat) : Int) := by omega
        rw [e] at p
        exact p
    · have hie : i = vs.length := by omega
      have hnil : ROs ρ 1 (.slice none 0 0) (([] : List Nat).map bcell) := ros_nil ρ 1
      have hnl : ([] : List Nat).length + 10 ≤ 140737488355328 := by decide
      have hv9 := vput_len 9 (loF vs)
      have htk : (lessF vs).take i = lessF vs := by rw [hie, ← hless, List.take_length]
      have hlw : ∀ x ∈ lessF vs, x < 18446744073709551616 := by
        intro x hx
        obtain ⟨z, hz, rfl⟩ := List.mem_map.1 hx
        have := hw z hz
        show z - loF vs < _
        omega
      rw [htk] at hso ⊢
      refine W.seq ?_
      refine W.seq ?_
      refine W.region ?_
      refine WL.mv rfl rfl ?_
      refine WL.mv rfl rfl ?_
      refine WL.len (T := Ty) rfl rfl (by assumption) rfl ?_
      refine WL.lss rfl rfl rfl ?_
      refine WL.nil ?_
      refine W.condpF rfl (by omega) ?_
      refine W.exit rfl ?_
      refine W.seq ?_
      refine W.region ?_
      refine WL.mv rfl rfl ?_
      refine WL.callF rfl rfl (fun x p d => rput_c _ _ _ _ (by first | assumption | exact ROs.wide (by assumption) | exact ROs.mono (by assumption) (eqh_at 0 rfl p d) | exact ros_at 0 rfl p d | exact ros_at 1 rfl p d | exact ros_at 2 rfl p d | exact ros_at 3 rfl p d | exact ros_at 4 rfl p d) (by first | assumption | omega) (by first | assumption | omega | (simp only [List.length_append]; omega))) (fun u0 => ?_)
      refine WL.fact (i := 0) rfl (fun h hb => Buf.slm hb) (fun hsl0 => ?_)
      refine WL.mv rfl rfl ?_
      refine WL.mv rfl rfl ?_
      refine WL.subK rfl rfl rfl (wrap_u64 ⟨by omega, by omega⟩) ?_
      refine WL.callV rfl rfl (fun x p d => rwidth_i _ _ (by omega) (by omega)) ?_
      refine WL.cv (T := Ty) rfl rfl rfl rfl ?_
      refine WL.bsC (T := Ty) rfl rfl rfl rfl rfl rfl rfl (by repeat' first | exact CO.nil | apply CO.one (by first | rfl | exact SL.one (by assumption)) | apply CO.agg) rfl (by repeat' first | exact FL.nil | apply FL.cons) (fun u1 hu1 => ?_)
      refine WL.ap1 (T := Ty) (i := 0) rfl rfl rfl rfl rfl rfl rfl rfl (by assumption) (by first | rfl | assumption) (by first | omega | (simp; omega)) (by first | omega | (simp; omega)) (fun v' => (by repeat' first | exact FL.nil | apply FL.cons)) (fun u2 hu2 => ?_)
      refine WL.mv rfl rfl ?_
      refine WL.mv rfl rfl ?_
      refine WL.mv rfl rfl ?_
      refine WL.subK rfl rfl rfl (wrap_u64 ⟨by omega, by omega⟩) ?_
      refine WL.callV rfl rfl (fun x p d => rwidth_i _ _ (by omega) (by omega)) ?_
      have hwr : IntKind.u8.wrap (wF vs : Int) = (wF vs : Int) := wrap_u8 ⟨by omega, by omega⟩
      have hpk : (([] ++ vputF 9 (loF vs)) ++ [wF vs]).length ≤ 1000000 := by simp; omega
      rw [hsub, hwf, hwr, show [Value.int .u8 (wF vs : Int)] = [wF vs].map bcell from rfl, ← List.map_append]
      refine WL.callF rfl rfl (fun x p d => rpack_c _ _ _ _ _ _ (by first | assumption | exact ROs.wide (by assumption) | exact ROs.mono (by assumption) (eqh_at 0 rfl p d) | exact ros_at 0 rfl p d | exact ros_at 1 rfl p d | exact ros_at 2 rfl p d | exact ros_at 3 rfl p d | exact ros_at 4 rfl p d) (by first | assumption | exact ROs.wide (by assumption) | exact ROs.mono (by assumption) (eqh_at 0 rfl p d) | exact ros_at 0 rfl p d | exact ros_at 1 rfl p d | exact ros_at 2 rfl p d | exact ros_at 3 rfl p d | exact ros_at 4 rfl p d) (by first | assumption | omega) (by first | assumption | omega) (by first | assumption | omega) (by first | assumption | omega)) (fun u3 => ?_)
      refine WL.fact (i := 0) rfl (fun h hb => Buf.slm hb) (fun hsl3 => ?_)
      refine WL.as rfl rfl ?_
      refine WL.nil ?_
      refine W.drop 1 rfl (by repeat' first | exact FL.nil | apply FL.cons) ?_
      refine W.drop 1 rfl (by repeat' first | exact FL.nil | apply FL.cons) ?_
      refine W.ret1 rfl rfl (fun h p => ?_)
      rw [encFp_ne h0]
      simpa using sepl_one.1 p
-- CALL 18 refine WL.callF rfl rfl (fun x p d => rgetf_s _ _ _ _ $RO (by assumption) (by first | assumption | omega | decide) (by first | assumption | omega | decide)) (fun r => ?_) ;; refine WL.ex (fun u$N => ?_) ;; refine WL.pure (fun er => ?_) ;; subst er ;; refine WL.fact (i := 0) rfl (fun h hb => Buf.slm hb) (fun hsl$N => ?_)
-- CALL 18 refine WL.callF rfl rfl (fun x p d => rgetf_n _ _ _ _ $RO (by assumption) (by first | assumption | omega | decide) (by first | assumption | omega | decide)) (fun r => ?_) ;; refine WL.ex (fun u$N => ?_) ;; refine WL.pure (fun er => ?_) ;; subst er ;; refine WL.fact (i := 0) rfl (fun h hb => Buf.slm hb) (fun hsl$N => ?_)
-- CALL 18 refine WL.callF rfl rfl (fun x p d => rgetf_c _ _ _ _ $RO (by first | assumption | omega | decide) (by first | assumption | omega | decide)) (fun r => ?_) ;; refine WL.ex (fun u$N => ?_) ;; refine WL.pure (fun er => ?_) ;; subst er ;; refine WL.fact (i := 0) rfl (fun h hb => Buf.slm hb) (fun hsl$N => ?_)
theorem rgetf_c (ρ : Hp) (v : Value) (bs : List Nat) (n : Int) (hv : ROs ρ 1 v (bs.map bcell)) (hw : ∀ x ∈ bs, x < 256) (hl : bs.length ≤ 140737488355328) :
    Fn Try.prog 18 #[v, .int .i64 n] ρ [] (RowR (decFp bs n)) := by
  refine in18 rfl rfl ?_
  have sv := hv.slm
  have hm := heldM_eq n
  have hml := heldM_le n
  by_cases h0 : heldM n = 0
  · have hdec : decFp bs n = if bs = [] then some [] else none := by unfold decFp; rw [if_pos h0]
    by_cases hb : bs = []
    · have hbl : bs.length = 0 := by rw [hb]; rfl
      rw [if_pos hb] at hdec
      refine W.seq ?_
      refine W.region ?_
      refine WL.as rfl rfl ?_
      refine WL.as rfl rfl ?_
      refine WL.nil ?_
      refine W.seq ?_
      refine W.region ?_
      refine WL.mv rfl rfl ?_
      refine WL.callV rfl rfl (fun x p d => heldm_c _ _) ?_
      refine WL.as rfl rfl ?_
      refine WL.nil ?_
      refine W.seq ?_
      refine W.seq ?_
      refine W.region ?_
      refine WL.mv rfl rfl ?_
      refine WL.eql rfl rfl rfl ?_
      refine WL.nil ?_
      refine W.condpT rfl (by omega) ?_
      refine W.seq ?_
      refine W.region ?_
      refine WL.mv rfl rfl ?_
      refine WL.len (T := Ty) rfl rfl (by assumption) rfl ?_
      refine WL.eql rfl rfl rfl ?_
      refine WL.as rfl rfl ?_
      refine WL.as rfl rfl ?_
      refine WL.nil ?_
      refine W.nb (sz := 1) ?_
      exact W.ret2 rfl rfl (by simp [look, ev]; omega) (fun h p => rowSome hdec p)
    · have hbl : 0 < bs.length := List.length_pos_iff.2 hb
      rw [if_neg hb] at hdec
      refine W.seq ?_
      refine W.region ?_
      refine WL.as rfl rfl ?_
      refine WL.as rfl rfl ?_
      refine WL.nil ?_
      refine W.seq ?_
      refine W.region ?_
      refine WL.mv rfl rfl ?_
      refine WL.callV rfl rfl (fun x p d => heldm_c _ _) ?_
      refine WL.as rfl rfl ?_
      refine WL.nil ?_
      refine W.seq ?_
      refine W.seq ?_
      refine W.region ?_
      refine WL.mv rfl rfl ?_
      refine WL.eql rfl rfl rfl ?_
      refine WL.nil ?_
      refine W.condpT rfl (by omega) ?_
      refine W.seq ?_
      refine W.region ?_
      refine WL.mv rfl rfl ?_
      refine WL.len (T := Ty) rfl rfl (by assumption) rfl ?_
      refine WL.eql rfl rfl rfl ?_
      refine WL.as rfl rfl ?_
      refine WL.as rfl rfl ?_
      refine WL.nil ?_
      refine W.nb (sz := 1) ?_
      exact W.ret2 rfl rfl (by simp [look, ev]; omega) (fun h p => rowNone hdec p)
  obtain ⟨lo, a, hg⟩ : ∃ lo a, vgetF 0 0 bs = (lo, a) := ⟨_, _, rfl⟩
  have ha := vget_le bs 0 0
  have hlo := vget_bound bs 0 0 (by decide) (by decide) hw
  rw [hg] at ha hlo
  simp only [] at ha hlo
  have hdec : decFp bs n = if a = 0 ∨ bs.length ≤ a ∨ 64 < bs.getD a 0 then none else if encFp (rowI lo (bs.drop (a + 1)) (bs.getD a 0) (heldM n)) = bs then some (rowI lo (bs.drop (a + 1)) (bs.getD a 0) (heldM n)) else none := by
    unfold decFp
    rw [if_neg h0, hg]
  by_cases c1 : a = 0
  · rw [if_pos (.inl c1)] at hdec
    refine W.seq ?_
    refine W.region ?_
    refine WL.as rfl rfl ?_
    refine WL.as rfl rfl ?_
    refine WL.nil ?_
    refine W.seq ?_
    refine W.region ?_
    refine WL.mv rfl rfl ?_
    refine WL.callV rfl rfl (fun x p d => heldm_c _ _) ?_
    refine WL.as rfl rfl ?_
    refine WL.nil ?_
    refine W.seq ?_
    refine W.seq ?_
    refine W.region ?_
    refine WL.mv rfl rfl ?_
    refine WL.eql rfl rfl rfl ?_
    refine WL.nil ?_
    refine W.condpF rfl (by omega) ?_
    refine W.skip ?_
    refine W.seq ?_
    refine W.region ?_
    refine WL.mv rfl rfl ?_
    refine WL.callV rfl rfl (fun x p d => rget_e _ _ _ (by first | assumption | exact ROs.wide (by assumption) | exact ROs.mono (by assumption) (eqh_at 0 rfl p d) | exact ros_at 0 rfl p d | exact ros_at 1 rfl p d | exact ros_at 2 rfl p d | exact ros_at 3 rfl p d | exact ros_at 4 rfl p d) (by assumption) (by first | assumption) (by first | assumption | omega)) ?_
    refine WL.mv rfl rfl ?_
    refine WL.extL rfl rfl rfl ?_
    refine WL.extL rfl rfl rfl ?_
    refine WL.as rfl rfl ?_
    refine WL.as rfl rfl ?_
    refine WL.nil ?_
    refine W.seq ?_
    refine W.seq ?_
    refine W.region ?_
    refine WL.mv rfl rfl ?_
    refine WL.eql rfl rfl rfl ?_
    refine WL.mv rfl rfl ?_
    refine WL.gdFn rfl rfl rfl rfl rfl (by omega) ?_
    refine WL.gdFn rfl rfl rfl rfl rfl (by omega) ?_
    refine WL.gdFn rfl rfl rfl rfl rfl (by omega) ?_
    refine WL.gdFn rfl rfl rfl rfl rfl (by omega) ?_
    refine WL.pickTp rfl rfl (by omega) rfl ?_
    refine WL.mv rfl rfl ?_
    refine WL.gdN rfl rfl rfl rfl rfl rfl ?_
    refine WL.gdN rfl rfl rfl rfl rfl rfl ?_
    refine WL.gdN rfl rfl rfl rfl rfl rfl ?_
    refine WL.gdN rfl rfl rfl rfl rfl rfl ?_
    refine WL.gdN rfl rfl rfl rfl rfl rfl ?_
    refine WL.pickT rfl rfl rfl ?_
    refine WL.nil ?_
    refine W.condT rfl ?_
    refine W.seq ?_
    refine W.region ?_
    refine WL.as rfl rfl ?_
    refine WL.as rfl rfl ?_
    refine WL.nil ?_
    refine W.nb (sz := 1) ?_
    exact W.ret2 rfl rfl rfl (fun h p => rowNone hdec p)
  by_cases c2 : bs.length ≤ a
  · rw [if_pos (.inr (.inl c2))] at hdec
    refine W.seq ?_
    refine W.region ?_
    refine WL.as rfl rfl ?_
    refine WL.as rfl rfl ?_
    refine WL.nil ?_
    refine W.seq ?_
    refine W.region ?_
    refine WL.mv rfl rfl ?_
    refine WL.callV rfl rfl (fun x p d => heldm_c _ _) ?_
    refine WL.as rfl rfl ?_
    refine WL.nil ?_
    refine W.seq ?_
    refine W.seq ?_
    refine W.region ?_
    refine WL.mv rfl rfl ?_
    refine WL.eql rfl rfl rfl ?_
    refine WL.nil ?_
    refine W.condpF rfl (by omega) ?_
    refine W.skip ?_
    refine W.seq ?_
    refine W.region ?_
    refine WL.mv rfl rfl ?_
    refine WL.callV rfl rfl (fun x p d => rget_e _ _ _ (by first | assumption | exact ROs.wide (by assumption) | exact ROs.mono (by assumption) (eqh_at 0 rfl p d) | exact ros_at 0 rfl p d | exact ros_at 1 rfl p d | exact ros_at 2 rfl p d | exact ros_at 3 rfl p d | exact ros_at 4 rfl p d) (by assumption) (by first | assumption) (by first | assumption | omega)) ?_
    refine WL.mv rfl rfl ?_
    refine WL.extL rfl rfl rfl ?_
    refine WL.extL rfl rfl rfl ?_
    refine WL.as rfl rfl ?_
    refine WL.as rfl rfl ?_
    refine WL.nil ?_
    refine W.seq ?_
    refine W.seq ?_
    refine W.region ?_
    refine WL.mv rfl rfl ?_
    refine WL.eql rfl rfl rfl ?_
    refine WL.mv rfl rfl ?_
    refine WL.gF rfl rfl (by omega) ?_
    refine WL.mv rfl rfl ?_
    refine WL.gF rfl rfl (by omega) ?_
    refine WL.mv rfl rfl ?_
    refine WL.gF rfl rfl (by omega) ?_
    refine WL.len (T := Ty) rfl rfl (by assumption) rfl ?_
    refine WL.gF rfl rfl (by omega) ?_
    refine WL.geq rfl rfl rfl ?_
    refine WL.pickFp rfl rfl (by omega) rfl ?_
    refine WL.mv rfl rfl ?_
    refine WL.gdFn rfl rfl rfl rfl rfl (by omega) ?_
    refine WL.gdFn rfl rfl rfl rfl rfl (by omega) ?_
    refine WL.gdFn rfl rfl rfl rfl rfl (by omega) ?_
    refine WL.gdFn rfl rfl rfl rfl rfl (by omega) ?_
    refine WL.gdFn rfl rfl rfl rfl rfl (by omega) ?_
    refine WL.pickTp rfl rfl (by omega) rfl ?_
    refine WL.nil ?_
    refine W.condT rfl ?_
    refine W.seq ?_
    refine W.region ?_
    refine WL.as rfl rfl ?_
    refine WL.as rfl rfl ?_
    refine WL.nil ?_
    refine W.nb (sz := 1) ?_
    exact W.ret2 rfl rfl rfl (fun h p => rowNone hdec p)
  obtain ⟨wd, hwd⟩ : ∃ wd, bs[a]? = some wd := ⟨_, List.getElem?_eq_getElem (by omega)⟩
  have hwc : (bs.map bcell)[a]? = some (bcell wd) := by rw [List.getElem?_map, hwd]; rfl
  have hwd' : bs.getD a 0 = wd := by simp [List.getD, hwd]
  have hwd8 := hw wd (List.mem_of_getElem? hwd)
  rw [hwd'] at hdec
  by_cases c3 : 64 < wd
  · rw [if_pos (.inr (.inr c3))] at hdec
    refine W.seq ?_
    refine W.region ?_
    refine WL.as rfl rfl ?_
    refine WL.as rfl rfl ?_
    refine WL.nil ?_
    refine W.seq ?_
    refine W.region ?_
    refine WL.mv rfl rfl ?_
    refine WL.callV rfl rfl (fun x p d => heldm_c _ _) ?_
    refine WL.as rfl rfl ?_
    refine WL.nil ?_
    refine W.seq ?_
    refine W.seq ?_
    refine W.region ?_
    refine WL.mv rfl rfl ?_
    refine WL.eql rfl rfl rfl ?_
    refine WL.nil ?_
    refine W.condpF rfl (by omega) ?_
    refine W.skip ?_
    refine W.seq ?_
    refine W.region ?_
    refine WL.mv rfl rfl ?_
    refine WL.callV rfl rfl (fun x p d => rget_e _ _ _ (by first | assumption | exact ROs.wide (by assumption) | exact ROs.mono (by assumption) (eqh_at 0 rfl p d) | exact ros_at 0 rfl p d | exact ros_at 1 rfl p d | exact ros_at 2 rfl p d | exact ros_at 3 rfl p d | exact ros_at 4 rfl p d) (by assumption) (by first | assumption) (by first | assumption | omega)) ?_
    refine WL.mv rfl rfl ?_
    refine WL.extL rfl rfl rfl ?_
    refine WL.extL rfl rfl rfl ?_
    refine WL.as rfl rfl ?_
    refine WL.as rfl rfl ?_
    refine WL.nil ?_
    refine W.seq ?_
    refine W.seq ?_
    refine W.region ?_
    refine WL.mv rfl rfl ?_
    refine WL.eql rfl rfl rfl ?_
    refine WL.mv rfl rfl ?_
    refine WL.gF rfl rfl (by omega) ?_
    refine WL.mv rfl rfl ?_
    refine WL.gF rfl rfl (by omega) ?_
    refine WL.mv rfl rfl ?_
    refine WL.gF rfl rfl (by omega) ?_
    refine WL.len (T := Ty) rfl rfl (by assumption) rfl ?_
    refine WL.gF rfl rfl (by omega) ?_
    refine WL.geq rfl rfl rfl ?_
    refine WL.pickFp rfl rfl (by omega) rfl ?_
    refine WL.mv rfl rfl ?_
    refine WL.gF rfl rfl (by omega) ?_
    refine WL.mv rfl rfl ?_
    refine WL.gF rfl rfl (by omega) ?_
    refine WL.mv rfl rfl ?_
    refine WL.gF rfl rfl (by omega) ?_
    refine WL.ix (T := Ty) rfl rfl rfl (by assumption) rfl rfl (by omega) (by first | omega | decide +kernel) ?_
    refine WL.gF rfl rfl (by omega) ?_
    refine WL.ldKn (T := Ty) rfl rfl rfl rfl (by first | assumption | exact ROs.wide (by assumption)) (by assumption) ?_
    refine WL.gF rfl rfl (by omega) ?_
    refine WL.gtr rfl rfl rfl ?_
    refine WL.pickFp rfl rfl (by omega) rfl ?_
    refine WL.nil ?_
    refine W.condpT rfl (by omega) ?_
    refine W.seq ?_
    refine W.region ?_
    refine WL.as rfl rfl ?_
    refine WL.as rfl rfl ?_
    refine WL.nil ?_
    refine W.nb (sz := 1) ?_
    exact W.ret2 rfl rfl rfl (fun h p => rowNone hdec p)
  rw [if_neg (by omega)] at hdec
  have hrl : (bs.drop (a + 1)).length ≤ 140737488355328 := by simp; omega
  have hrw : ∀ x ∈ bs.drop (a + 1), x < 256 := fun x hx => hw x (List.mem_of_mem_drop hx)
  refine W.seq ?_
  refine W.region ?_
  refine WL.as rfl rfl ?_
  refine WL.as rfl rfl ?_
  refine WL.nil ?_
  refine W.seq ?_
  refine W.region ?_
  refine WL.mv rfl rfl ?_
  refine WL.callV rfl rfl (fun x p d => heldm_c _ _) ?_
  refine WL.as rfl rfl ?_
  refine WL.nil ?_
  refine W.seq ?_
  refine W.seq ?_
  refine W.region ?_
  refine WL.mv rfl rfl ?_
  refine WL.eql rfl rfl rfl ?_
  refine WL.nil ?_
  refine W.condpF rfl (by omega) ?_
  refine W.skip ?_
  refine W.seq ?_
  refine W.region ?_
  refine WL.mv rfl rfl ?_
  refine WL.callV rfl rfl (fun x p d => rget_e _ _ _ (by first | assumption | exact ROs.wide (by assumption) | exact ROs.mono (by assumption) (eqh_at 0 rfl p d) | exact ros_at 0 rfl p d | exact ros_at 1 rfl p d | exact ros_at 2 rfl p d | exact ros_at 3 rfl p d | exact ros_at 4 rfl p d) (by assumption) (by first | assumption) (by first | assumption | omega)) ?_
  refine WL.mv rfl rfl ?_
  refine WL.extL rfl rfl rfl ?_
  refine WL.extL rfl rfl rfl ?_
  refine WL.as rfl rfl ?_
  refine WL.as rfl rfl ?_
  refine WL.nil ?_
  refine W.seq ?_
  refine W.seq ?_
  refine W.region ?_
  refine WL.mv rfl rfl ?_
  refine WL.eql rfl rfl rfl ?_
  refine WL.mv rfl rfl ?_
  refine WL.gF rfl rfl (by omega) ?_
  refine WL.mv rfl rfl ?_
  refine WL.gF rfl rfl (by omega) ?_
  refine WL.mv rfl rfl ?_
  refine WL.gF rfl rfl (by omega) ?_
  refine WL.len (T := Ty) rfl rfl (by assumption) rfl ?_
  refine WL.gF rfl rfl (by omega) ?_
  refine WL.geq rfl rfl rfl ?_
  refine WL.pickFp rfl rfl (by omega) rfl ?_
  refine WL.mv rfl rfl ?_
  refine WL.gF rfl rfl (by omega) ?_
  refine WL.mv rfl rfl ?_
  refine WL.gF rfl rfl (by omega) ?_
  refine WL.mv rfl rfl ?_
  refine WL.gF rfl rfl (by omega) ?_
  refine WL.ix (T := Ty) rfl rfl rfl (by assumption) rfl rfl (by omega) (by first | omega | decide +kernel) ?_
  refine WL.gF rfl rfl (by omega) ?_
  refine WL.ldKn (T := Ty) rfl rfl rfl rfl (by first | assumption | exact ROs.wide (by assumption)) (by assumption) ?_
  refine WL.gF rfl rfl (by omega) ?_
  refine WL.gtr rfl rfl rfl ?_
  refine WL.pickFp rfl rfl (by omega) rfl ?_
  refine WL.nil ?_
  refine W.condpF rfl (by omega) ?_
  refine W.skip ?_
  refine W.seq ?_
  refine W.drawA 11 rfl (fun σ0 hσ0 dσ0 => ?_)
  refine WD.takeL 0 rfl (by decide +kernel) ?_
  refine WL.mv rfl rfl ?_
  refine WL.nilT ?_
  refine WD.takeL 1 rfl (by decide +kernel) ?_
  refine WL.mv rfl rfl ?_
  refine WL.nilT ?_
  refine WD.takeL 2 rfl (by decide +kernel) ?_
  refine WL.addK rfl rfl rfl (wrap_i64 ⟨by omega, by omega⟩) ?_
  refine WL.nilT ?_
  refine WD.takeL 3 rfl (by decide +kernel) ?_
  refine WL.slDn (T := Ty) rfl rfl rfl rfl rfl (by first | assumption | exact ROs.wide (by assumption)) (by first | assumption | omega | (simp; omega)) (fun u0 hu0 ru0 => ?_)
  refine WL.nilT ?_
  refine WD.takeL 4 rfl (by decide +kernel) ?_
  refine WL.mv rfl rfl ?_
  refine WL.nilT ?_
  refine WD.takeL 5 rfl (by decide +kernel) ?_
  refine WL.mv rfl rfl ?_
  refine WL.nilT ?_
  refine WD.takeL 6 rfl (by decide +kernel) ?_
  refine WL.mv rfl rfl ?_
  refine WL.nilT ?_
  refine WD.takeL 7 rfl (by decide +kernel) ?_
  refine WL.ix (T := Ty) rfl rfl rfl (by assumption) rfl rfl (by omega) (by first | omega | decide +kernel) ?_
  refine WL.nilT ?_
  refine WD.takeL 8 rfl (by decide +kernel) ?_
  refine WL.ldKn (T := Ty) rfl rfl rfl rfl (by first | assumption | exact ROs.wide (by assumption)) (by assumption) ?_
  refine WL.nilT ?_
  refine WD.takeL 9 rfl (by decide +kernel) ?_
  refine WL.cvK (T := Ty) rfl rfl rfl rfl (wrap_i64 ⟨by omega, by omega⟩) ?_
  refine WL.nilT ?_
  refine WD.oneL 10 rfl (by decide +kernel) ?_
  refine WL.callF rfl rfl (fun x p d => runpack_i _ _ _ _ _ (by assumption) (by first | assumption | exact ROs.wide (by assumption) | exact ROs.mono (by assumption) (eqh_at 0 rfl p d) | exact ros_at 0 rfl p d | exact ros_at 1 rfl p d | exact ros_at 2 rfl p d | exact ros_at 3 rfl p d | exact ros_at 4 rfl p d) (by first | assumption | omega) (by first | assumption | omega) (by first | assumption | omega) (by first | assumption | omega)) (fun u1 => ?_)
  refine WL.fact (i := 0) rfl (fun h hb => Buf.slm hb) (fun hsl1 => ?_)
  refine WL.nilH hσ0 (fun σ1 hσ1 dσ1 mσ1 => ?_)
  have ru0 := ru0.mono mσ1
  have fσ1_0 := ros_at 0 rfl hσ1 dσ1
  refine WD.lastG hσ1 (by decide +kernel) (by repeat' first | exact FL.nil | apply FL.cons) rfl (by repeat' first | exact FL.nil | apply FL.cons) ?_
  refine WL.as rfl rfl ?_
  refine WL.nil ?_
  refine W.seq ?_
  refine W.seq ?_
  refine W.region ?_
  refine WL.as rfl rfl ?_
  refine WL.nil ?_
  refine W.block ?_
  obtain ⟨rest, hrest⟩ : ∃ r, r = bs.drop (a + 1) := ⟨_, rfl⟩
  rw [← hrest] at hrl hrw hdec ⊢
  refine W.loopS (σ := Nat) (fun i => [(0, v), (1, .int .i64 (min (max n 0) 65535)), (6, .int .u64 (lo : Int)), (8, u1), (9, .int .i64 (i : Int))])
    (fun i => [Buf 1 u1 ((rowI lo rest wd i ++ (numI rest wd (heldM n)).drop i).map ucell)])
    (fun i => i ≤ heldM n) (fun i => heldM n - i) 0 ⟨rfl, rfl, rfl, rfl, rfl, trivial⟩ rfl (Nat.zero_le _) ?_
  intro i hi next
  have hml2 := mix_len lo rest wd (heldM n) i hi
  by_cases hlt : i < heldM n
  · have hmg := mix_get lo rest wd (heldM n) i hlt
    have hms := mix_set lo rest wd (heldM n) i hlt
    generalize rowI lo rest wd i ++ (numI rest wd (heldM n)).drop i = L at *
    have hmg1 : (L.map ucell)[i]? = some (ucell (rdV rest wd i)) := by rw [List.getElem?_map, hmg]; rfl
    have hwr : IntKind.u64.wrap ((rdV rest wd i : Int) + (lo : Int)) = (((lo + rdV rest wd i) % 18446744073709551616 : Nat) : Int) := by rw [← Int.natCast_add, wrapU64, Nat.add_comm]
    refine W.fact (i := 0) rfl (fun h hb => Buf.slm hb) (fun hso => ?_)
    refine W.seq ?_
    refine W.seq ?_
    refine W.region ?_
    refine WL.mv rfl rfl ?_
    refine WL.mv rfl rfl ?_
    refine WL.lss rfl rfl rfl ?_
    refine WL.nil ?_
    refine W.condpT rfl (by omega) ?_
    refine W.skip ?_
    refine W.seq ?_
    refine W.block ?_
    refine W.region ?_
    refine WL.mv rfl rfl ?_
    refine WL.mv rfl rfl ?_
    refine WL.mv rfl rfl ?_
    refine WL.mv rfl rfl ?_
    refine WL.ix (T := Ty) rfl rfl rfl (by assumption) rfl rfl (by omega) (by first | omega | decide +kernel) ?_
    refine WL.ldEK (T := Ty) (j := 0) rfl rfl rfl rfl rfl (by assumption) (by omega) ?_
    refine WL.mv rfl rfl ?_
    refine WL.add (K := .u64) rfl rfl rfl ?_
    refine WL.ix (T := Ty) rfl rfl rfl (by assumption) rfl rfl (by omega) (by first | omega | decide +kernel) ?_
    refine WL.stEF (T := Ty) (j := 0) (cs' := (L.set i ((lo + rdV rest wd i) % 18446744073709551616)).map ucell) rfl rfl rfl rfl rfl rfl (by simp; omega) (by rw [hwr, show ((i : Int)).toNat * 1 = i by omega, List.map_set]; rfl) (by repeat' first | exact FL.nil | apply FL.cons) ?_
    rw [hms]
    refine WL.nil ?_
    refine W.inBlock ?_
    refine W.region ?_
    refine WL.mv rfl rfl ?_
    refine WL.addK rfl rfl rfl (wrap_i64 ⟨by omega, by omega⟩) ?_
    refine WL.as rfl rfl ?_
    refine WL.nil ?_
    refine W.sub ?_ (next (i + 1) (by omega) (by omega))
    exact ⟨rfl, rfl, rfl, rfl, rfl, trivial⟩
  · have hie : i = heldM n := by omega
    subst hie
    have hfin : rowI lo rest wd (heldM n) ++ (numI rest wd (heldM n)).drop (heldM n) = rowI lo rest wd (heldM n) := by
      rw [List.drop_of_length_le (by rw [numI_len]; omega), List.append_nil]
    rw [hfin] at hml2 ⊢
    have hol := rowI_lt lo rest wd (heldM n)
    have hew := encFp_lt hol
    have hel := encFp_len (rowI lo rest wd (heldM n))
    by_cases he : encFp (rowI lo rest wd (heldM n)) = bs
    · rw [if_pos he] at hdec
      have hstr : strN (encFp (rowI lo rest wd (heldM n))) = strN bs := by rw [he]
      refine W.seq ?_
      refine W.seq ?_
      refine W.region ?_
      refine WL.mv rfl rfl ?_
      refine WL.mv rfl rfl ?_
      refine WL.lss rfl rfl rfl ?_
      refine WL.nil ?_
      refine W.condpF rfl (by omega) ?_
      refine W.exit rfl ?_
      refine W.seq ?_
      refine W.seq ?_
      refine W.cut (τ := Unit) (fun _ => [(67, .bool false), (8, u1)]) (fun _ => [Buf 1 u1 ((rowI lo rest wd (heldM n)).map ucell)]) (fun _ => True) ?_ (fun cut => ?_)
      · intro _ _
        refine W.condF rfl ?_
        refine W.skip ?_
        refine W.seq ?_
        refine W.region ?_
        refine WL.mv rfl rfl ?_
        refine WL.as rfl rfl ?_
        refine WL.as rfl rfl ?_
        refine WL.nil ?_
        exact W.ret2 rfl rfl rfl (fun h p => rowSome hdec p)
      · refine W.drawA 6 rfl (fun σ2 hσ2 dσ2 => ?_)
        have fσ2_0 := ros_at 0 rfl hσ2 dσ2
        refine WD.takeL 0 rfl (by decide +kernel) ?_
        refine WL.mv rfl rfl ?_
        refine WL.nilT ?_
        refine WD.takeL 3 rfl (by decide +kernel) ?_
        refine WL.mv rfl rfl ?_
        refine WL.nilT ?_
        refine WD.twoL 1 4 rfl rfl (by decide +kernel) ?_ ?_
        · refine WL.callF rfl rfl (fun x p d => rframe_c _ _ _ (by first | assumption | exact ROs.wide (by assumption) | exact ROs.mono (by assumption) (eqh_at 0 rfl p d) | exact ros_at 0 rfl p d | exact ros_at 1 rfl p d | exact ros_at 2 rfl p d | exact ros_at 3 rfl p d | exact ros_at 4 rfl p d) (by first | assumption | omega | decide) (by first | assumption | omega | decide)) (fun u2 => ?_)
          refine WL.fact (i := 0) rfl (fun h hb => Buf.slm hb) (fun hsl2 => ?_)
          refine WL.nilH hσ2 (fun σ3 hσ3 dσ3 mσ3 => ?_)
          have fσ2_0 := fσ2_0.mono mσ3
          have fσ3_0 := ros_at 0 rfl hσ3 dσ3
          refine WD.takeL 2 rfl (by decide +kernel) ?_
          refine WL.b2sRN (T := Ty) rfl rfl rfl rfl rfl rfl rfl (by assumption) ?_
          refine WL.nilT ?_
          refine WD.oneL 4 rfl (by decide +kernel) ?_
          refine WL.b2sRN (T := Ty) rfl rfl rfl rfl rfl rfl rfl (by assumption) ?_
          refine WL.nilE ?_
          refine WD.takeL 5 rfl (by decide +kernel) ?_
          refine WL.neST rfl rfl rfl (by first | with_reducible rfl | assumption) ?_
          refine WL.nilT ?_
          refine WD.doneF hσ3 (by decide +kernel) (by repeat' first | exact FL.nil | apply FL.cons) ?_
          refine W.drop 0 rfl (by repeat' first | exact FL.nil | apply FL.cons) ?_
          refine W.sub ?_ (cut () trivial)
          exact ⟨rfl, rfl, trivial⟩
        · refine WL.b2sRN (T := Ty) rfl rfl rfl rfl rfl rfl rfl (by assumption) ?_
          refine WL.nilE ?_
          refine WD.oneL 1 rfl (by decide +kernel) ?_
          refine WL.callF rfl rfl (fun x p d => rframe_c _ _ _ (by first | assumption | exact ROs.wide (by assumption) | exact ROs.mono (by assumption) (eqh_at 0 rfl p d) | exact ros_at 0 rfl p d | exact ros_at 1 rfl p d | exact ros_at 2 rfl p d | exact ros_at 3 rfl p d | exact ros_at 4 rfl p d) (by first | assumption | omega | decide) (by first | assumption | omega | decide)) (fun u2 => ?_)
          refine WL.fact (i := 0) rfl (fun h hb => Buf.slm hb) (fun hsl2 => ?_)
          refine WL.nilH hσ2 (fun σ3 hσ3 dσ3 mσ3 => ?_)
          have fσ2_0 := fσ2_0.mono mσ3
          have fσ3_0 := ros_at 0 rfl hσ3 dσ3
          refine WD.takeL 2 rfl (by decide +kernel) ?_
          refine WL.b2sRN (T := Ty) rfl rfl rfl rfl rfl rfl rfl (by assumption) ?_
          refine WL.nilT ?_
          refine WD.takeL 5 rfl (by decide +kernel) ?_
          refine WL.neST rfl rfl rfl (by first | with_reducible rfl | assumption) ?_
          refine WL.nilT ?_
          refine WD.doneF hσ3 (by decide +kernel) (by repeat' first | exact FL.nil | apply FL.cons) ?_
          refine W.drop 0 rfl (by repeat' first | exact FL.nil | apply FL.cons) ?_
          refine W.sub ?_ (cut () trivial)
          exact ⟨rfl, rfl, trivial⟩
    · rw [if_neg he] at hdec
      have hsn := strN_bne hew hw he
      refine W.seq ?_
      refine W.seq ?_
      refine W.region ?_
      refine WL.mv rfl rfl ?_
      refine WL.mv rfl rfl ?_
      refine WL.lss rfl rfl rfl ?_
      refine WL.nil ?_
      refine W.condpF rfl (by omega) ?_
      refine W.exit rfl ?_
      refine W.seq ?_
      refine W.seq ?_
      refine W.cut (τ := Unit) (fun _ => [(67, .bool true), (8, u1)]) (fun _ => [Buf 1 u1 ((rowI lo rest wd (heldM n)).map ucell)]) (fun _ => True) ?_ (fun cut => ?_)
      · intro _ _
        refine W.condT rfl ?_
        refine W.seq ?_
        refine W.region ?_
        refine WL.as rfl rfl ?_
        refine WL.as rfl rfl ?_
        refine WL.nil ?_
        refine W.drop 0 rfl (by repeat' first | exact FL.nil | apply FL.cons) ?_
        refine W.nb (sz := 1) ?_
        exact W.ret2 rfl rfl rfl (fun h p => rowNone hdec p)
      · refine W.drawA 6 rfl (fun σ2 hσ2 dσ2 => ?_)
        have fσ2_0 := ros_at 0 rfl hσ2 dσ2
        refine WD.takeL 0 rfl (by decide +kernel) ?_
        refine WL.mv rfl rfl ?_
        refine WL.nilT ?_
        refine WD.takeL 3 rfl (by decide +kernel) ?_
        refine WL.mv rfl rfl ?_
        refine WL.nilT ?_
        refine WD.twoL 1 4 rfl rfl (by decide +kernel) ?_ ?_
        · refine WL.callF rfl rfl (fun x p d => rframe_c _ _ _ (by first | assumption | exact ROs.wide (by assumption) | exact ROs.mono (by assumption) (eqh_at 0 rfl p d) | exact ros_at 0 rfl p d | exact ros_at 1 rfl p d | exact ros_at 2 rfl p d | exact ros_at 3 rfl p d | exact ros_at 4 rfl p d) (by first | assumption | omega | decide) (by first | assumption | omega | decide)) (fun u2 => ?_)
          refine WL.fact (i := 0) rfl (fun h hb => Buf.slm hb) (fun hsl2 => ?_)
          refine WL.nilH hσ2 (fun σ3 hσ3 dσ3 mσ3 => ?_)
          have fσ2_0 := fσ2_0.mono mσ3
          have fσ3_0 := ros_at 0 rfl hσ3 dσ3
          refine WD.takeL 2 rfl (by decide +kernel) ?_
          refine WL.b2sRN (T := Ty) rfl rfl rfl rfl rfl rfl rfl (by assumption) ?_
          refine WL.nilT ?_
          refine WD.oneL 4 rfl (by decide +kernel) ?_
          refine WL.b2sRN (T := Ty) rfl rfl rfl rfl rfl rfl rfl (by assumption) ?_
          refine WL.nilE ?_
          refine WD.takeL 5 rfl (by decide +kernel) ?_
          refine WL.neS rfl rfl rfl ?_
          refine WL.nilT ?_
          refine WD.doneF hσ3 (by decide +kernel) (by repeat' first | exact FL.nil | apply FL.cons) ?_
          refine W.drop 0 rfl (by repeat' first | exact FL.nil | apply FL.cons) ?_
          refine W.sub ?_ (cut () trivial)
          exact ⟨by simp [look, ev, hsn], rfl, trivial⟩
        · refine WL.b2sRN (T := Ty) rfl rfl rfl rfl rfl rfl rfl (by assumption) ?_
          refine WL.nilE ?_
          refine WD.oneL 1 rfl (by decide +kernel) ?_
          refine WL.callF rfl rfl (fun x p d => rframe_c _ _ _ (by first | assumption | exact ROs.wide (by assumption) | exact ROs.mono (by assumption) (eqh_at 0 rfl p d) | exact ros_at 0 rfl p d | exact ros_at 1 rfl p d | exact ros_at 2 rfl p d | exact ros_at 3 rfl p d | exact ros_at 4 rfl p d) (by first | assumption | omega | decide) (by first | assumption | omega | decide)) (fun u2 => ?_)
          refine WL.fact (i := 0) rfl (fun h hb => Buf.slm hb) (fun hsl2 => ?_)
          refine WL.nilH hσ2 (fun σ3 hσ3 dσ3 mσ3 => ?_)
          have fσ2_0 := fσ2_0.mono mσ3
          have fσ3_0 := ros_at 0 rfl hσ3 dσ3
          refine WD.takeL 2 rfl (by decide +kernel) ?_
          refine WL.b2sRN (T := Ty) rfl rfl rfl rfl rfl rfl rfl (by assumption) ?_
          refine WL.nilT ?_
          refine WD.takeL 5 rfl (by decide +kernel) ?_
          refine WL.neS rfl rfl rfl ?_
          refine WL.nilT ?_
          refine WD.doneF hσ3 (by decide +kernel) (by repeat' first | exact FL.nil | apply FL.cons) ?_
          refine W.drop 0 rfl (by repeat' first | exact FL.nil | apply FL.cons) ?_
          refine W.sub ?_ (cut () trivial)
          exact ⟨by simp [look, ev, hsn], rfl, trivial⟩
theorem rgetf_e (ρ : Hp) (v : Value) (bs : List Nat) (n : Int) {o : Option (List Nat)} (hv : ROs ρ 1 v (bs.map bcell)) (e : decFp bs n = o) (hw : ∀ x ∈ bs, x < 256) (hl : bs.length ≤ 140737488355328) :
    Fn Try.prog 18 #[v, .int .i64 n] ρ [] (RowR o) := by
  rw [← e]
  exact rgetf_c ρ v bs n hv hw hl
theorem rgetf_s (ρ : Hp) (v : Value) (bs : List Nat) (n : Int) {vs : List Nat} (hv : ROs ρ 1 v (bs.map bcell)) (e : decFp bs n = some vs) (hw : ∀ x ∈ bs, x < 256) (hl : bs.length ≤ 140737488355328) :
    Fn Try.prog 18 #[v, .int .i64 n] ρ [] (fun r h => ∃ v, r = .tuple #[v, .bool true] ∧ Buf 1 v (vs.map ucell) h) := rgetf_e ρ v bs n hv e hw hl
theorem rgetf_n (ρ : Hp) (v : Value) (bs : List Nat) (n : Int) (hv : ROs ρ 1 v (bs.map bcell)) (e : decFp bs n = none) (hw : ∀ x ∈ bs, x < 256) (hl : bs.length ≤ 140737488355328) :
    Fn Try.prog 18 #[v, .int .i64 n] ρ [] (fun r h => ∃ v, r = .tuple #[v, .bool false] ∧ Buf 1 v (([] : List Nat).map ucell) h) := rgetf_e ρ v bs n hv e hw hl
end Go.Proofs.Ytjibmfkhhljhcaa
