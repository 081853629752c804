/- ForpTells. -/
import Derived.Test.YtjibmfkhhljhcaaStc
import Derived.Test.YtjibmfkhhljhcaaNum
import Derived.Test.YtjibmfkhhljhcaaTab
import Derived.Test.YtjibmfkhhljhcaaForpAwake
import Derived.Test.YtjibmfkhhljhcaaForpRef
import Derived.Test.YtjibmfkhhljhcaaValsG
set_option linter.unusedSimpArgs false
set_option linter.unusedVariables false
set_option maxRecDepth 20000
set_option maxHeartbeats 4000000
namespace Go.Proofs.Ytjibmfkhhljhcaa
open Go
attribute [local irreducible] W WL Fn Buf ROs SL eptr box Rd Src bndOK WD RB Reads In decFp encFp

theorem ForpTells_fn (ρ : Hp) (v0 : Value) (z0 : List Int) (r0 : ROs ρ 1 v0 (z0.map (Value.int .u64))) (m0 : ∀ n ∈ z0, (Lit.int .u64 n).wf = true) (y0 : z0.length * 8 ≤ 140737488351232) (a1 : Int) (w1 : (Lit.int .i64 a1).wf = true) (v2 : Value) (z2 : List Int) (r2 : ROs ρ 1 v2 (z2.map (Value.int .u8))) (m2 : ∀ n ∈ z2, (Lit.int .u8 n).wf = true) (y2 : z2.length * 1 ≤ 140737488351232) (a3 : Int) (w3 : (Lit.int .i64 a3).wf = true) (a4 : Int) (w4 : (Lit.int .u8 a4).wf = true) (a5 : Int) (w5 : (Lit.int .i64 a5).wf = true) :
    Fn Try.prog 5 #[v0, .int .i64 a1, v2, .int .i64 a3, .int .u8 a4, .int .i64 a5] ρ [] (fun r _ => r = .bool true) := by
  obtain ⟨l, hl, hll, hlw⟩ := words_of m0
  rw [hl] at r0
  obtain ⟨raw, hraw, hrl, hrlt⟩ := bytes_of m2
  rw [hraw] at r2
  have s2 := r2.slm
  have hy := wf_u8 w4
  obtain ⟨by', rfl⟩ := Int.eq_ofNat_of_zero_le hy.1
  refine in5 rfl rfl ?_
  refine W.seq ?_
  refine W.region ?_
  refine WL.as rfl rfl ?_
  refine WL.nil ?_
  refine W.seq ?_
  refine W.seq ?_
  refine W.region ?_
  refine WL.mv rfl rfl ?_
  refine WL.len (T := Ty) rfl rfl (by assumption) rfl ?_
  refine WL.gtr rfl rfl rfl ?_
  refine WL.nil ?_
  refine W.condp rfl (fun hbig => ?_) (fun hsm => ?_)
  · refine W.seq ?_
    refine W.region ?_
    refine WL.callT rfl rfl (fun x p d => awake8_c _) ?_
    refine WL.as rfl rfl ?_
    refine WL.nil ?_
    exact W.ret1 rfl rfl (fun h p => rfl)
  refine W.skip ?_
  refine W.seq ?_
  refine W.region ?_
  refine WL.mv rfl rfl ?_
  refine WL.mv rfl rfl ?_
  refine WL.callF rfl rfl (fun x p d => vals_c _ _ _ _ (by first | assumption | exact ROs.wide (by assumption) | exact ROs.mono (by assumption) (eqh_at 0 rfl p d) | exact ros_at 0 rfl p d | exact ros_at 1 rfl p d | exact ros_at 2 rfl p d | exact ros_at 3 rfl p d | exact ros_at 4 rfl p d) (by first | assumption | omega | decide) (by first | assumption | omega | decide)) (fun u0 => ?_)
  refine WL.ex (fun vs => ?_)
  refine WL.pure (fun hvs => ?_)
  refine WL.fact (i := 0) rfl (fun h hb => Buf.slm hb) (fun hsl0 => ?_)
  refine WL.as rfl rfl ?_
  refine WL.nil ?_
  refine W.seq ?_
  refine W.region ?_
  refine WL.mv rfl rfl ?_
  obtain ⟨hv1, hv2⟩ := hvs
  have hw2 := encFp_lt hv2
  have hel := encFp_len vs
  obtain ⟨bs, hbs⟩ : ∃ bs, bs = encFp vs := ⟨_, rfl⟩
  refine WL.callF rfl rfl (fun x p d => rframe_c _ _ _ (by first | assumption | exact ROs.wide (by assumption) | exact ROs.mono (by assumption) (eqh_at 0 rfl p d) | exact ros_at 0 rfl p d | exact ros_at 1 rfl p d | exact ros_at 2 rfl p d | exact ros_at 3 rfl p d | exact ros_at 4 rfl p d) (by first | assumption | omega | decide) (by first | assumption | omega | decide)) (fun u1 => ?_)
  refine WL.fact (i := 0) rfl (fun h hb => Buf.slm hb) (fun hsl1 => ?_)
  refine WL.as rfl rfl ?_
  refine WL.nil ?_
  refine W.seq ?_
  refine W.seq ?_
  refine W.drawA 6 rfl (fun σ0 hσ0 dσ0 => ?_)
  have fσ0_0 := ros_at 0 rfl hσ0 dσ0
  have fσ0_1 := ros_at 1 rfl hσ0 dσ0
  refine WD.takeL 0 rfl (by decide +kernel) ?_
  refine WL.mv rfl rfl ?_
  refine WL.nilT ?_
  refine WD.takeL 3 rfl (by decide +kernel) ?_
  refine WL.mv rfl rfl ?_
  refine WL.nilT ?_
  refine WD.takeL 4 rfl (by decide +kernel) ?_
  refine WL.b2sRN (T := Ty) rfl rfl rfl rfl rfl rfl rfl (by assumption) ?_
  refine WL.nilT ?_
  refine WD.oneL 1 rfl (by decide +kernel) ?_
  refine WL.callF rfl rfl (fun x p d => fpenc_c _ _ _ (by first | assumption | exact ROs.wide (by assumption) | exact ROs.mono (by assumption) (eqh_at 0 rfl p d) | exact ros_at 0 rfl p d | exact ros_at 1 rfl p d | exact ros_at 2 rfl p d | exact ros_at 3 rfl p d | exact ros_at 4 rfl p d) (by first | assumption | omega | decide) (by first | assumption | omega | decide)) (fun u2 => ?_)
  refine WL.fact (i := 0) rfl (fun h hb => Buf.slm hb) (fun hsl2 => ?_)
  refine WL.nilH hσ0 (fun σ1 hσ1 dσ1 mσ1 => ?_)
  have fσ0_0 := fσ0_0.mono mσ1
  have fσ0_1 := fσ0_1.mono mσ1
  have fσ1_0 := ros_at 0 rfl hσ1 dσ1
  refine WD.takeL 2 rfl (by decide +kernel) ?_
  refine WL.b2sRN (T := Ty) rfl rfl rfl rfl rfl rfl rfl (by assumption) ?_
  refine WL.nilT ?_
  refine WD.takeL 5 rfl (by decide +kernel) ?_
  refine WL.neST rfl rfl rfl (by first | with_reducible rfl | assumption) ?_
  refine WL.nilT ?_
  refine WD.doneF hσ1 (by decide +kernel) (by repeat' first | exact FL.nil | apply FL.cons) ?_
  refine W.condF rfl ?_
  refine W.skip ?_
  refine W.seq ?_
  refine W.region ?_
  refine WL.bsC (T := Ty) rfl rfl rfl rfl rfl rfl rfl (by repeat' first | exact CO.nil | apply CO.one (by first | rfl | exact SL.one (by assumption)) | apply CO.agg) rfl (by repeat' first | exact FL.nil | apply FL.cons) (fun u3 hu3 => ?_)
  refine WL.mv rfl rfl ?_
  refine WL.apN (T := Ty) (i := 0) rfl rfl rfl rfl rfl rfl rfl (by first | exact .ro (by assumption) | exact .ro (ROs.wide (by assumption)) | exact .eqJ 0 rfl (by assumption) | exact .own 0 rfl | exact .own 1 rfl | exact .own 2 rfl | exact .own 3 rfl | exact .own 4 rfl | exact .own 5 rfl) (by first | assumption | exact ROs.slm (by assumption)) (fun _ => rfl) (by first | omega | (simp; omega)) (by first | omega | (simp; omega)) (fun v' => (by repeat' first | exact FL.nil | apply FL.cons)) (fun u4 hu4 => ?_)
  refine WL.as rfl rfl ?_
  refine WL.nil ?_
  refine W.seq ?_
  refine W.region ?_
  refine WL.as rfl rfl ?_
  refine WL.nil ?_
  refine W.seq ?_
  refine W.seq ?_
  refine W.region ?_
  refine WL.mv rfl rfl ?_
  refine WL.len (T := Ty) rfl rfl (by assumption) rfl ?_
  refine WL.gtr rfl rfl rfl ?_
  refine WL.nil ?_
  rw [← hbs] at hw2 hel ⊢
  refine W.drop 1 rfl (by repeat' first | exact FL.nil | apply FL.cons) ?_
  refine W.cut (τ := Nat × List Nat) (fun s => [(2, v2), (4, .int .u8 (by' : Int)), (5, .int .i64 a5), (12, .bool false), (13, u0), (14, u1), (15, u4), (16, .int .i64 (s.1 : Int))]) (fun s => [Buf 1 u4 (s.2.map bcell), Buf 1 u1 (bs.map bcell), Buf 1 u0 (vs.map ucell)])
    (fun s => s.1 ≤ bs.length ∧ s.2.length = bs.length ∧ ∀ x ∈ s.2, x < 256) ?_ (fun cut => ?_)
  · rintro ⟨k, U⟩ ⟨hk, hUl, hU⟩
    simp only [] at hk hUl hU ⊢
    refine W.freezeAll (fun ρ1 le1 hin => ?_)
    have r3 := (hin 0 _ rfl).ros
    have r4 := (hin 1 _ rfl).ros
    have r5 := (hin 2 _ rfl).ros
    replace r2 := r2.mono le1
    have s3 := r3.slm
    have s4 := r4.slm
    have s5 := r5.slm
    refine W.seq ?_
    refine W.seq ?_
    refine W.cutR (τ := Value × Value × Value) (fun s => [(5, .int .i64 a5), (12, .bool false), (13, u0), (67, s.2.2), (68, .int .i64 5), (69, .int .i64 0)])
      (fun s ρ' => ROs ρ' 1 s.1 ((bs.take k).map bcell) ∧ ROs ρ' 1 s.2.1 ((bs ++ [by']).map bcell) ∧ ROs ρ' 1 s.2.2 [v2, u1, u4, s.1, s.2.1]) ?_ (fun cut2 => ?_)
    · rintro ⟨c, ua, ls⟩ ρ2 le2 ⟨q1, q2, q3⟩
      simp only [] at q1 q2 q3 ⊢
      replace r2 := r2.mono le2
      replace r3 := r3.mono le2
      replace r4 := r4.mono le2
      replace r5 := r5.mono le2
      have hlen : bs.length ≤ 1200 := by omega
      have sls : SL ls 5 := q3.sl rfl (by omega)
      have rows : ∀ r ∈ [v2, u1, u4, c, ua], ∃ cb : List Nat, ROs ρ2 1 r (cb.map bcell) ∧ (∀ x ∈ cb, x < 256) ∧ cb.length ≤ 140737488355328 := by
        intro r hr
        simp only [List.mem_cons, List.not_mem_nil, or_false] at hr
        rcases hr with rfl | rfl | rfl | rfl | rfl
        · exact ⟨raw, r2, hrlt, by omega⟩
        · exact ⟨bs, r4, hw2, by omega⟩
        · exact ⟨U, r3, hU, by omega⟩
        · exact ⟨bs.take k, q1, fun x hx => hw2 x (List.mem_of_mem_take hx), by simp; omega⟩
        · refine ⟨bs ++ [by'], q2, fun x hx => ?_, by simp; omega⟩
          rcases List.mem_append.1 hx with h | h
          · exact hw2 x h
          · simp at h; omega
      refine W.block ?_
      refine W.loopS (σ := Nat) (fun i => [(5, .int .i64 a5), (12, .bool false), (13, u0), (67, ls), (68, .int .i64 5), (69, .int .i64 (i : Int))]) (fun _ => [])
        (fun i => i ≤ 5) (fun i => 5 - i) 0 ⟨rfl, rfl, rfl, rfl, rfl, rfl, trivial⟩ rfl (by omega) ?_
      intro i hi next
      refine W.seq ?_
      refine W.region ?_
      refine WL.lss rfl rfl rfl ?_
      refine WL.nil ?_
      refine W.seq ?_
      refine W.condp rfl (fun hlt => ?_) (fun hge => ?_)
      · have hi5 : i < [v2, u1, u4, c, ua].length := by simp; omega
        obtain ⟨cv, hcv⟩ : ∃ cv, [v2, u1, u4, c, ua][i]? = some cv := ⟨_, List.getElem?_eq_getElem hi5⟩
        obtain ⟨cb, rc, hcw, hcl⟩ := rows cv (List.mem_of_getElem? hcv)
        refine W.skip ?_
        refine W.seq ?_
        refine W.block ?_
        refine W.seq ?_
        refine W.region ?_
        refine WL.ix (T := Ty) rfl rfl rfl (by assumption) rfl rfl (by omega) (by first | omega | decide +kernel) ?_
        refine WL.ldKn (T := Ty) rfl rfl rfl rfl (by first | assumption | exact ROs.wide (by assumption)) (by assumption) ?_
        refine WL.as rfl rfl ?_
        refine WL.nil ?_
        refine W.seq ?_
        refine W.region ?_
        refine WL.mv rfl rfl ?_
        refine WL.mv rfl rfl ?_
        refine WL.andI rfl rfl rfl (by decide) ?_
        refine WL.mv rfl rfl ?_
        refine WL.len (T := Ty) rfl rfl (by assumption) rfl ?_
        refine WL.bsC (T := Ty) rfl rfl rfl rfl rfl rfl rfl (by repeat' first | exact CO.nil | apply CO.one (by first | rfl | exact SL.one (by assumption)) | apply CO.agg) rfl (by repeat' first | exact FL.nil | apply FL.cons) (fun u5 hu5 => ?_)
        refine WL.reC (Value.int .i64) [a5, a5 % (63 + 1), ↑vs.length, -1] rfl ?_
        refine WL.len (T := Ty) rfl rfl (by assumption) rfl ?_
        refine WL.mv rfl rfl ?_
        refine WL.nil ?_
        refine W.block ?_
        refine W.loopS (σ := Nat) (fun j => [(5, .int .i64 a5), (12, .bool false), (13, u0), (18, cv), (67, ls), (68, .int .i64 5), (69, .int .i64 (i : Int)), (78, u5), (79, .int .i64 4), (80, .int .i64 (j : Int))]) (fun _ => [Buf 1 u5 [.int .i64 a5, .int .i64 (a5 % (63 + 1)), .int .i64 (vs.length : Int), .int .i64 (-1)]])
          (fun j => j ≤ 4) (fun j => 4 - j) 0 ⟨rfl, rfl, rfl, rfl, rfl, rfl, rfl, rfl, rfl, rfl, trivial⟩ rfl (by omega) ?_
        intro j hj next2
        refine W.seq ?_
        refine W.region ?_
        refine WL.lss rfl rfl rfl ?_
        refine WL.nil ?_
        refine W.seq ?_
        refine W.condp rfl (fun hlt4 => ?_) (fun hge4 => ?_)
        · obtain ⟨m, hm⟩ : ∃ m : Int, [Value.int .i64 a5, .int .i64 (a5 % (63 + 1)), .int .i64 (vs.length : Int), .int .i64 (-1)][j]? = some (.int .i64 m) := by
            rcases (by omega : j = 0 ∨ j = 1 ∨ j = 2 ∨ j = 3) with rfl | rfl | rfl | rfl
            all_goals exact ⟨_, rfl⟩
          rcases hdec : decFp cb m with _ | ys
          · refine W.skip ?_
            refine W.seq ?_
            refine W.block ?_
            refine W.seq ?_
            refine W.region ?_
            refine WL.ix (T := Ty) rfl rfl rfl (by assumption) rfl rfl (by omega) (by first | omega | decide +kernel) ?_
            refine WL.ldEK (T := Ty) (j := 0) rfl rfl rfl rfl rfl (by assumption) (by omega) ?_
            refine WL.as rfl rfl ?_
            refine WL.nil ?_
            refine W.seq ?_
            refine W.region ?_
            refine WL.mv rfl rfl ?_
            refine WL.mv rfl rfl ?_
            refine WL.callF rfl rfl (fun x p d => fpdec_n _ _ _ _ (by first | assumption | exact ROs.wide (by assumption) | exact ROs.mono (by assumption) (eqh_at 0 rfl p d) | exact ros_at 0 rfl p d | exact ros_at 1 rfl p d | exact ros_at 2 rfl p d | exact ros_at 3 rfl p d | exact ros_at 4 rfl p d) (by assumption) (by first | assumption | omega | decide) (by first | assumption | omega | decide)) (fun r => ?_)
            refine WL.ex (fun u6 => ?_)
            refine WL.pure (fun er => ?_)
            subst er
            refine WL.fact (i := 0) rfl (fun h hb => Buf.slm hb) (fun hsl6 => ?_)
            refine WL.mv rfl rfl ?_
            refine WL.extL rfl rfl rfl ?_
            refine WL.extL rfl rfl rfl ?_
            refine WL.as rfl rfl ?_
            refine WL.as rfl rfl ?_
            refine WL.nil ?_
            refine W.seq ?_
            refine W.region ?_
            refine WL.mv rfl rfl ?_
            refine WL.mv rfl rfl ?_
            refine WL.callF rfl rfl (fun x p d => rgetf_n _ _ _ _ (by first | assumption | exact ROs.wide (by assumption) | exact ROs.mono (by assumption) (eqh_at 0 rfl p d) | exact ros_at 0 rfl p d | exact ros_at 1 rfl p d | exact ros_at 2 rfl p d | exact ros_at 3 rfl p d | exact ros_at 4 rfl p d) (by assumption) (by first | assumption | omega | decide) (by first | assumption | omega | decide)) (fun r => ?_)
            refine WL.ex (fun u7 => ?_)
            refine WL.pure (fun er => ?_)
            subst er
            refine WL.fact (i := 0) rfl (fun h hb => Buf.slm hb) (fun hsl7 => ?_)
            refine WL.mv rfl rfl ?_
            refine WL.extL rfl rfl rfl ?_
            refine WL.extL rfl rfl rfl ?_
            refine WL.as rfl rfl ?_
            refine WL.as rfl rfl ?_
            refine WL.nil ?_
            refine W.seq ?_
            refine W.region ?_
            refine WL.mv rfl rfl ?_
            refine WL.mv rfl rfl ?_
            refine WL.neB (T := Ty) rfl rfl rfl rfl ?_
            refine WL.mv rfl rfl ?_
            refine WL.gY rfl rfl ?_
            refine WL.mv rfl rfl ?_
            refine WL.gY rfl rfl ?_
            refine WL.mv rfl rfl ?_
            refine WL.gY rfl rfl ?_
            refine WL.callV rfl rfl (fun x p d => samew_t _ _ _ _ _ (by first | with_reducible rfl | assumption) (by first | assumption | exact ROs.wide (by assumption) | exact ROs.mono (by assumption) (eqh_at 0 rfl p d) | exact ros_at 0 rfl p d | exact ros_at 1 rfl p d | exact ros_at 2 rfl p d | exact ros_at 3 rfl p d | exact ros_at 4 rfl p d) (by first | assumption | exact ROs.wide (by assumption) | exact ROs.mono (by assumption) (eqh_at 0 rfl p d) | exact ros_at 0 rfl p d | exact ros_at 1 rfl p d | exact ros_at 2 rfl p d | exact ros_at 3 rfl p d | exact ros_at 4 rfl p d) (by first | assumption | omega | exact Nat.zero_le _ | decide)) ?_
            refine WL.gY rfl rfl ?_
            refine WL.not rfl rfl ?_
            refine WL.pickF rfl rfl rfl ?_
            refine WL.nil ?_
            refine W.condF rfl ?_
            refine W.skip ?_
            refine W.inBlock ?_
            refine W.region ?_
            refine WL.addK rfl rfl rfl (wrap_i64 ⟨by omega, by omega⟩) ?_
            refine WL.mv rfl rfl ?_
            refine WL.nil ?_
            refine W.drop 0 rfl (by repeat' first | exact FL.nil | apply FL.cons) ?_
            refine W.drop 0 rfl (by repeat' first | exact FL.nil | apply FL.cons) ?_
            refine W.sub ?_ (next2 (j + 1) (by omega) (by omega))
            exact ⟨rfl, rfl, rfl, rfl, rfl, rfl, rfl, rfl, rfl, rfl, trivial⟩
          · have hys := decFp_ok hdec
            have hyl : ys.length ≤ 17592186044416 := by have := heldM_le m; omega
            refine W.skip ?_
            refine W.seq ?_
            refine W.block ?_
            refine W.seq ?_
            refine W.region ?_
            refine WL.ix (T := Ty) rfl rfl rfl (by assumption) rfl rfl (by omega) (by first | omega | decide +kernel) ?_
            refine WL.ldEK (T := Ty) (j := 0) rfl rfl rfl rfl rfl (by assumption) (by omega) ?_
            refine WL.as rfl rfl ?_
            refine WL.nil ?_
            refine W.seq ?_
            refine W.region ?_
            refine WL.mv rfl rfl ?_
            refine WL.mv rfl rfl ?_
            refine WL.callF rfl rfl (fun x p d => fpdec_s _ _ _ _ (by first | assumption | exact ROs.wide (by assumption) | exact ROs.mono (by assumption) (eqh_at 0 rfl p d) | exact ros_at 0 rfl p d | exact ros_at 1 rfl p d | exact ros_at 2 rfl p d | exact ros_at 3 rfl p d | exact ros_at 4 rfl p d) (by assumption) (by first | assumption | omega | decide) (by first | assumption | omega | decide)) (fun r => ?_)
            refine WL.ex (fun u6 => ?_)
            refine WL.pure (fun er => ?_)
            subst er
            refine WL.fact (i := 0) rfl (fun h hb => Buf.slm hb) (fun hsl6 => ?_)
            refine WL.mv rfl rfl ?_
            refine WL.extL rfl rfl rfl ?_
            refine WL.extL rfl rfl rfl ?_
            refine WL.as rfl rfl ?_
            refine WL.as rfl rfl ?_
            refine WL.nil ?_
            refine W.seq ?_
            refine W.region ?_
            refine WL.mv rfl rfl ?_
            refine WL.mv rfl rfl ?_
            refine WL.callF rfl rfl (fun x p d => rgetf_s _ _ _ _ (by first | assumption | exact ROs.wide (by assumption) | exact ROs.mono (by assumption) (eqh_at 0 rfl p d) | exact ros_at 0 rfl p d | exact ros_at 1 rfl p d | exact ros_at 2 rfl p d | exact ros_at 3 rfl p d | exact ros_at 4 rfl p d) (by assumption) (by first | assumption | omega | decide) (by first | assumption | omega | decide)) (fun r => ?_)
            refine WL.ex (fun u7 => ?_)
            refine WL.pure (fun er => ?_)
            subst er
            refine WL.fact (i := 0) rfl (fun h hb => Buf.slm hb) (fun hsl7 => ?_)
            refine WL.mv rfl rfl ?_
            refine WL.extL rfl rfl rfl ?_
            refine WL.extL rfl rfl rfl ?_
            refine WL.as rfl rfl ?_
            refine WL.as rfl rfl ?_
            refine WL.nil ?_
            refine W.seq ?_
            refine W.region ?_
            refine WL.mv rfl rfl ?_
            refine WL.mv rfl rfl ?_
            refine WL.neB (T := Ty) rfl rfl rfl rfl ?_
            refine WL.mv rfl rfl ?_
            refine WL.gY rfl rfl ?_
            refine WL.mv rfl rfl ?_
            refine WL.gY rfl rfl ?_
            refine WL.mv rfl rfl ?_
            refine WL.gY rfl rfl ?_
            refine WL.callV rfl rfl (fun x p d => samew_t _ _ _ _ _ (by first | with_reducible rfl | assumption) (by first | assumption | exact ROs.wide (by assumption) | exact ROs.mono (by assumption) (eqh_at 0 rfl p d) | exact ros_at 0 rfl p d | exact ros_at 1 rfl p d | exact ros_at 2 rfl p d | exact ros_at 3 rfl p d | exact ros_at 4 rfl p d) (by first | assumption | exact ROs.wide (by assumption) | exact ROs.mono (by assumption) (eqh_at 0 rfl p d) | exact ros_at 0 rfl p d | exact ros_at 1 rfl p d | exact ros_at 2 rfl p d | exact ros_at 3 rfl p d | exact ros_at 4 rfl p d) (by first | assumption | omega | exact Nat.zero_le _ | decide)) ?_
            refine WL.gY rfl rfl ?_
            refine WL.not rfl rfl ?_
            refine WL.pickF rfl rfl rfl ?_
            refine WL.nil ?_
            refine W.condF rfl ?_
            refine W.skip ?_
            refine W.inBlock ?_
            refine W.region ?_
            refine WL.addK rfl rfl rfl (wrap_i64 ⟨by omega, by omega⟩) ?_
            refine WL.mv rfl rfl ?_
            refine WL.nil ?_
            refine W.drop 0 rfl (by repeat' first | exact FL.nil | apply FL.cons) ?_
            refine W.drop 0 rfl (by repeat' first | exact FL.nil | apply FL.cons) ?_
            refine W.sub ?_ (next2 (j + 1) (by omega) (by omega))
            exact ⟨rfl, rfl, rfl, rfl, rfl, rfl, rfl, rfl, rfl, rfl, trivial⟩
        · refine W.exit rfl ?_
          refine W.inBlock ?_
          refine W.region ?_
          refine WL.addK rfl rfl rfl (wrap_i64 ⟨by omega, by omega⟩) ?_
          refine WL.mv rfl rfl ?_
          refine WL.nil ?_
          refine W.drop 0 rfl (by repeat' first | exact FL.nil | apply FL.cons) ?_
          refine W.sub ?_ (next (i + 1) (by omega) (by omega))
          exact ⟨rfl, rfl, rfl, rfl, rfl, rfl, trivial⟩
      · refine W.exit rfl ?_
        refine W.seq ?_
        refine W.region ?_
        refine WL.callT rfl rfl (fun x p d => awake8_c _) ?_
        refine WL.as rfl rfl ?_
        refine WL.nil ?_
        exact W.ret1 rfl rfl (fun h p => rfl)
    · refine W.drawA 15 rfl (fun σ2 hσ2 dσ2 => ?_)
      have useEqh := trivial
      refine WD.takeL 0 rfl (by decide +kernel) ?_
      refine WL.mv rfl rfl ?_
      refine WL.nilT ?_
      refine WD.takeL 1 rfl (by decide +kernel) ?_
      refine WL.mv rfl rfl ?_
      refine WL.nilT ?_
      refine WD.takeL 2 rfl (by decide +kernel) ?_
      refine WL.mv rfl rfl ?_
      refine WL.nilT ?_
      refine WD.takeL 3 rfl (by decide +kernel) ?_
      refine WL.mv rfl rfl ?_
      refine WL.nilT ?_
      refine WD.takeL 4 rfl (by decide +kernel) ?_
      refine WL.mv rfl rfl ?_
      refine WL.nilT ?_
      refine WD.takeL 5 rfl (by decide +kernel) ?_
      refine WL.slTn (T := Ty) rfl rfl rfl rfl rfl (by first | assumption | exact ROs.wide (by assumption)) (by first | assumption | omega | (simp; omega)) (fun u5 hu5 ru5 => ?_)
      refine WL.nilT ?_
      refine WD.takeL 7 rfl (by decide +kernel) ?_
      refine WL.mv rfl rfl ?_
      refine WL.nilT ?_
      refine WD.takeL 9 rfl (by decide +kernel) ?_
      refine WL.mv rfl rfl ?_
      refine WL.nilT ?_
      refine WD.takeL 14 rfl (by decide +kernel) ?_
      refine WL.mv rfl rfl ?_
      refine WL.nilT ?_
      refine WD.twoL 6 10 rfl rfl (by decide +kernel) ?_ ?_
      · refine WL.bsC (T := Ty) rfl rfl rfl rfl rfl rfl rfl (by repeat' first | exact CO.nil | apply CO.one (by first | rfl | exact SL.one (by assumption)) | apply CO.agg) rfl (by repeat' first | exact FL.nil | apply FL.cons) (fun u6 hu6 => ?_)
        refine WL.nilS ?_
        refine WD.twoL 8 10 rfl rfl (by decide +kernel) ?_ ?_
        · refine WL.apN (T := Ty) (i := 1) rfl rfl rfl rfl rfl rfl rfl (by first | exact .ro (by assumption) | exact .ro (ROs.wide (by assumption)) | exact .eqJ 0 rfl (by assumption) | exact .own 0 rfl | exact .own 1 rfl | exact .own 2 rfl | exact .own 3 rfl | exact .own 4 rfl | exact .own 5 rfl) (by first | assumption | exact ROs.slm (by assumption)) (fun _ => rfl) (by first | omega | (simp; omega)) (by first | omega | (simp; omega)) (fun v' => (by repeat' first | exact FL.nil | apply FL.cons)) (fun u7 hu7 => ?_)
          refine WL.nilE ?_
          refine WD.oneL 10 rfl (by decide +kernel) ?_
          refine WL.bsC (T := Ty) rfl rfl rfl rfl rfl rfl rfl (by repeat' first | exact CO.nil | apply CO.one (by first | rfl | exact SL.one (by assumption)) | apply CO.agg) rfl (by repeat' first | exact FL.nil | apply FL.cons) (fun u8 hu8 => ?_)
          refine WL.nilH hσ2 (fun σ3 hσ3 dσ3 mσ3 => ?_)
          have ru5 := ru5.mono mσ3
          have fσ3_0 := ros_at 0 rfl hσ3 dσ3
          refine WD.oneL 11 rfl (by decide +kernel) ?_
          refine WL.apQ (T := Ty) (i := 1) rfl rfl rfl rfl rfl rfl rfl (by first | exact .ro (by assumption) | exact .ro (ROs.wide (by assumption)) | exact .eqJ 0 rfl (by assumption) | exact .own 0 rfl | exact .own 1 rfl | exact .own 2 rfl | exact .own 3 rfl | exact .own 4 rfl | exact .own 5 rfl) (by first | assumption | exact ROs.slm (by assumption)) (fun _ => rfl) (by first | omega | (simp; omega)) (by first | omega | (simp; omega)) (fun v' => (by repeat' first | exact FL.nil | apply FL.cons)) (fun u9 hu9 => ?_)
          refine WL.nilE ?_
          refine WD.oneL 12 rfl (by decide +kernel) ?_
          refine WL.bsC (T := Ty) rfl rfl rfl rfl rfl rfl rfl (by repeat' first | exact CO.nil | apply CO.one (by first | rfl | exact SL.one (by assumption)) | apply CO.agg) rfl (by repeat' first | exact FL.nil | apply FL.cons) (fun u10 hu10 => ?_)
          refine WL.nilH hσ3 (fun σ4 hσ4 dσ4 mσ4 => ?_)
          have ru5 := ru5.mono mσ4
          have fσ3_0 := fσ3_0.mono mσ4
          have fσ4_0 := ros_at 0 rfl hσ4 dσ4
          refine WD.takeL 13 rfl (by decide +kernel) ?_
          refine WL.len (T := Ty) rfl rfl (by assumption) rfl ?_
          refine WL.nilT ?_
          refine WD.doneF (eqh_self _) (by decide +kernel) (by repeat' first | exact FL.nil | apply FL.cons) ?_
          refine W.freezeAll (fun ρ' le hin => ?_)
          have eqm := (hin 0 _ rfl).eqh le
          refine W.sub ?_ (cut2 (u5, u9, u10) ρ' le ⟨ru5.mono eqm, (hin 1 _ rfl).ros, fσ4_0.mono eqm⟩)
          exact ⟨rfl, rfl, rfl, rfl, rfl, rfl, trivial⟩
        · refine WL.bsC (T := Ty) rfl rfl rfl rfl rfl rfl rfl (by repeat' first | exact CO.nil | apply CO.one (by first | rfl | exact SL.one (by assumption)) | apply CO.agg) rfl (by repeat' first | exact FL.nil | apply FL.cons) (fun u7 hu7 => ?_)
          refine WL.nilH hσ2 (fun σ3 hσ3 dσ3 mσ3 => ?_)
          have ru5 := ru5.mono mσ3
          have fσ3_0 := ros_at 0 rfl hσ3 dσ3
          refine WD.oneL 8 rfl (by decide +kernel) ?_
          refine WL.apN (T := Ty) (i := 1) rfl rfl rfl rfl rfl rfl rfl (by first | exact .ro (by assumption) | exact .ro (ROs.wide (by assumption)) | exact .eqJ 0 rfl (by assumption) | exact .own 0 rfl | exact .own 1 rfl | exact .own 2 rfl | exact .own 3 rfl | exact .own 4 rfl | exact .own 5 rfl) (by first | assumption | exact ROs.slm (by assumption)) (fun _ => rfl) (by first | omega | (simp; omega)) (by first | omega | (simp; omega)) (fun v' => (by repeat' first | exact FL.nil | apply FL.cons)) (fun u8 hu8 => ?_)
          refine WL.nilE ?_
          refine WD.oneL 11 rfl (by decide +kernel) ?_
          refine WL.apQ (T := Ty) (i := 1) rfl rfl rfl rfl rfl rfl rfl (by first | exact .ro (by assumption) | exact .ro (ROs.wide (by assumption)) | exact .eqJ 0 rfl (by assumption) | exact .own 0 rfl | exact .own 1 rfl | exact .own 2 rfl | exact .own 3 rfl | exact .own 4 rfl | exact .own 5 rfl) (by first | assumption | exact ROs.slm (by assumption)) (fun _ => rfl) (by first | omega | (simp; omega)) (by first | omega | (simp; omega)) (fun v' => (by repeat' first | exact FL.nil | apply FL.cons)) (fun u9 hu9 => ?_)
          refine WL.nilE ?_
          refine WD.oneL 12 rfl (by decide +kernel) ?_
          refine WL.bsC (T := Ty) rfl rfl rfl rfl rfl rfl rfl (by repeat' first | exact CO.nil | apply CO.one (by first | rfl | exact SL.one (by assumption)) | apply CO.agg) rfl (by repeat' first | exact FL.nil | apply FL.cons) (fun u10 hu10 => ?_)
          refine WL.nilH hσ3 (fun σ4 hσ4 dσ4 mσ4 => ?_)
          have ru5 := ru5.mono mσ4
          have fσ3_0 := fσ3_0.mono mσ4
          have fσ4_0 := ros_at 0 rfl hσ4 dσ4
          refine WD.takeL 13 rfl (by decide +kernel) ?_
          refine WL.len (T := Ty) rfl rfl (by assumption) rfl ?_
          refine WL.nilT ?_
          refine WD.doneF (eqh_self _) (by decide +kernel) (by repeat' first | exact FL.nil | apply FL.cons) ?_
          refine W.freezeAll (fun ρ' le hin => ?_)
          have eqm := (hin 0 _ rfl).eqh le
          refine W.sub ?_ (cut2 (u5, u9, u10) ρ' le ⟨ru5.mono eqm, (hin 1 _ rfl).ros, fσ4_0.mono eqm⟩)
          exact ⟨rfl, rfl, rfl, rfl, rfl, rfl, trivial⟩
      · refine WL.bsC (T := Ty) rfl rfl rfl rfl rfl rfl rfl (by repeat' first | exact CO.nil | apply CO.one (by first | rfl | exact SL.one (by assumption)) | apply CO.agg) rfl (by repeat' first | exact FL.nil | apply FL.cons) (fun u6 hu6 => ?_)
        refine WL.nilH hσ2 (fun σ3 hσ3 dσ3 mσ3 => ?_)
        have ru5 := ru5.mono mσ3
        have fσ3_0 := ros_at 0 rfl hσ3 dσ3
        refine WD.oneL 6 rfl (by decide +kernel) ?_
        refine WL.bsC (T := Ty) rfl rfl rfl rfl rfl rfl rfl (by repeat' first | exact CO.nil | apply CO.one (by first | rfl | exact SL.one (by assumption)) | apply CO.agg) rfl (by repeat' first | exact FL.nil | apply FL.cons) (fun u7 hu7 => ?_)
        refine WL.nilS ?_
        refine WD.oneL 8 rfl (by decide +kernel) ?_
        refine WL.apN (T := Ty) (i := 1) rfl rfl rfl rfl rfl rfl rfl (by first | exact .ro (by assumption) | exact .ro (ROs.wide (by assumption)) | exact .eqJ 0 rfl (by assumption) | exact .own 0 rfl | exact .own 1 rfl | exact .own 2 rfl | exact .own 3 rfl | exact .own 4 rfl | exact .own 5 rfl) (by first | assumption | exact ROs.slm (by assumption)) (fun _ => rfl) (by first | omega | (simp; omega)) (by first | omega | (simp; omega)) (fun v' => (by repeat' first | exact FL.nil | apply FL.cons)) (fun u8 hu8 => ?_)
        refine WL.nilE ?_
        refine WD.oneL 11 rfl (by decide +kernel) ?_
        refine WL.apQ (T := Ty) (i := 1) rfl rfl rfl rfl rfl rfl rfl (by first | exact .ro (by assumption) | exact .ro (ROs.wide (by assumption)) | exact .eqJ 0 rfl (by assumption) | exact .own 0 rfl | exact .own 1 rfl | exact .own 2 rfl | exact .own 3 rfl | exact .own 4 rfl | exact .own 5 rfl) (by first | assumption | exact ROs.slm (by assumption)) (fun _ => rfl) (by first | omega | (simp; omega)) (by first | omega | (simp; omega)) (fun v' => (by repeat' first | exact FL.nil | apply FL.cons)) (fun u9 hu9 => ?_)
        refine WL.nilE ?_
        refine WD.oneL 12 rfl (by decide +kernel) ?_
        refine WL.bsC (T := Ty) rfl rfl rfl rfl rfl rfl rfl (by repeat' first | exact CO.nil | apply CO.one (by first | rfl | exact SL.one (by assumption)) | apply CO.agg) rfl (by repeat' first | exact FL.nil | apply FL.cons) (fun u10 hu10 => ?_)
        refine WL.nilH hσ3 (fun σ4 hσ4 dσ4 mσ4 => ?_)
        have ru5 := ru5.mono mσ4
        have fσ3_0 := fσ3_0.mono mσ4
        have fσ4_0 := ros_at 0 rfl hσ4 dσ4
        refine WD.takeL 13 rfl (by decide +kernel) ?_
        refine WL.len (T := Ty) rfl rfl (by assumption) rfl ?_
        refine WL.nilT ?_
        refine WD.doneF (eqh_self _) (by decide +kernel) (by repeat' first | exact FL.nil | apply FL.cons) ?_
        refine W.freezeAll (fun ρ' le hin => ?_)
        have eqm := (hin 0 _ rfl).eqh le
        refine W.sub ?_ (cut2 (u5, u9, u10) ρ' le ⟨ru5.mono eqm, (hin 1 _ rfl).ros, fσ4_0.mono eqm⟩)
        exact ⟨rfl, rfl, rfl, rfl, rfl, rfl, trivial⟩
  · refine W.condp rfl (fun hpos => ?_) (fun hpos => ?_)
    · have hb0 : 0 < (bs.length : Int) := hpos
      obtain ⟨k, hk, hkl⟩ : ∃ k : Nat, a3 % (65535 + 1) % (bs.length : Int) = (k : Int) ∧ k < bs.length := ⟨(a3 % (65535 + 1) % (bs.length : Int)).toNat, by
        have := Int.emod_nonneg (a3 % (65535 + 1)) (b := (bs.length : Int)) (by omega)
        omega, by
        have := Int.emod_nonneg (a3 % (65535 + 1)) (b := (bs.length : Int)) (by omega)
        have := Int.emod_lt_of_pos (a3 % (65535 + 1)) (b := (bs.length : Int)) (by omega)
        omega⟩
      rw [← hbs] at hu4 hsl1
      refine W.seq ?_
      refine W.region ?_
      refine WL.mv rfl rfl ?_
      refine WL.andI rfl rfl rfl (by decide) ?_
      refine WL.mv rfl rfl ?_
      refine WL.len (T := Ty) rfl rfl (by assumption) rfl ?_
      refine WL.remI rfl rfl rfl (by omega) (by omega) ?_
      refine WL.as rfl rfl ?_
      refine WL.nil ?_
      refine W.region ?_
      refine WL.mv rfl rfl ?_
      refine WL.mv rfl rfl ?_
      refine WL.mv rfl rfl ?_
      refine WL.ix (T := Ty) rfl rfl rfl (by assumption) rfl rfl (by omega) (by first | omega | decide +kernel) ?_
      rw [hk]
      skip
      refine WL.stEF (T := Ty) (j := 0) (cs' := (bs.set k by').map bcell) rfl rfl rfl rfl rfl rfl (by simp; omega) (by rw [show ((k : Int)).toNat * 1 = k by omega, List.map_set]; rfl) (by repeat' first | exact FL.nil | apply FL.cons) ?_
      refine WL.nil ?_
      refine W.sub ?_ (cut ⟨k, bs.set k by'⟩ ⟨by omega, by simp, fun x hx => (List.mem_or_eq_of_mem_set hx).elim (hw2 x) (fun e => by omega)⟩)
      exact ⟨rfl, rfl, rfl, rfl, rfl, rfl, rfl, rfl, trivial⟩
    · refine W.skip ?_
      refine W.sub ?_ (cut ⟨0, bs⟩ ⟨Nat.zero_le _, rfl, hw2⟩)
      exact ⟨rfl, rfl, rfl, rfl, rfl, rfl, rfl, rfl, trivial⟩
end Go.Proofs.Ytjibmfkhhljhcaa
