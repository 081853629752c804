/- SimpTells. -/
import Derived.Test.YtlmhjkbbooghfaaStc
import Derived.Test.YtlmhjkbbooghfaaNum
import Derived.Test.YtlmhjkbbooghfaaTab
import Derived.Test.YtlmhjkbbooghfaaSimpRef3
import Derived.Test.YtlmhjkbbooghfaaSimpBack
import Derived.Test.YtlmhjkbbooghfaaValsG
import Derived.Test.YtlmhjkbbooghfaaApz2
set_option linter.unusedSimpArgs false
set_option linter.unusedVariables false
set_option maxRecDepth 20000
set_option maxHeartbeats 4000000
namespace Go.Proofs.Ytlmhjkbbooghfaa
open Go
attribute [local irreducible] W WL Fn Buf ROs SL eptr box Rd Src bndOK WD RB Reads In encS decS decSF decGF

-- CALL 33 refine WL.callF rfl rfl (fun x p d => rgets_s _ _ _ _ (by assumption) $RO (by first | assumption | omega) (by first | assumption | omega)) (fun r => ?_) ;; refine WL.ex (fun u$N => ?_) ;; refine WL.pure (fun er => ?_) ;; subst er ;; refine WL.fact (i := 0) rfl (fun h hb => Buf.slm hb) (fun hsl$N => ?_)
-- CALL 33 refine WL.callF rfl rfl (fun x p d => rgets_n _ _ _ _ (by assumption) $RO (by first | assumption | omega) (by first | assumption | omega)) (fun r => ?_) ;; refine WL.ex (fun u$N => ?_) ;; refine WL.pure (fun er => ?_) ;; subst er ;; refine WL.fact (i := 0) rfl (fun h hb => Buf.slm hb) (fun hsl$N => ?_)
-- CALL 33 refine WL.callF rfl rfl (fun x p d => rgets_c _ _ _ _ $RO (by first | assumption | omega) (by first | assumption | omega)) (fun r => ?_) ;; refine WL.ex (fun u$N => ?_) ;; refine WL.pure (fun er => ?_) ;; subst er ;; refine WL.fact (i := 0) rfl (fun h hb => Buf.slm hb) (fun hsl$N => ?_)
theorem rgets_s (ρ : Hp) (v : Value) (ws : List Nat) (n : Int) {us : List Nat} (e : decS ws n = some us) (hv : ROs ρ 1 v (ws.map ucell)) (hw : ∀ x ∈ ws, x < 18446744073709551616) (hl : ws.length ≤ 17592186044416) :
    Fn Try.prog 33 #[v, .int .i64 n] ρ [] (fun r h => ∃ u, r = .tuple #[u, .bool true] ∧ Buf 1 u (us.map ucell) h) := by
  have := rgets_c ρ v ws n hv hw hl
  rw [e] at this
  exact this
theorem rgets_n (ρ : Hp) (v : Value) (ws : List Nat) (n : Int) (e : decS ws n = none) (hv : ROs ρ 1 v (ws.map ucell)) (hw : ∀ x ∈ ws, x < 18446744073709551616) (hl : ws.length ≤ 17592186044416) :
    Fn Try.prog 33 #[v, .int .i64 n] ρ [] (fun r h => ∃ u, r = .tuple #[u, .bool false] ∧ Buf 1 u (([] : List Nat).map ucell) h) := by
  have := rgets_c ρ v ws n hv hw hl
  rw [e] at this
  exact this
theorem zeros_before {vs : List Nat} (m : Nat) (h : ∀ x ∈ vs, x < 18446744073709551616) : ∀ x ∈ List.replicate m (default : Nat) ++ vs, x < 18446744073709551616 := by
  intro x hx
  rcases List.mem_append.1 hx with q | q
  · rw [List.eq_of_mem_replicate q]; decide
  · exact h x q
theorem zeros_behind {vs : List Nat} (m : Nat) (h : ∀ x ∈ vs, x < 18446744073709551616) : ∀ x ∈ vs ++ List.replicate m (default : Nat), x < 18446744073709551616 := by
  intro x hx
  rcases List.mem_append.1 hx with q | q
  · exact h x q
  · rw [List.eq_of_mem_replicate q]; decide

theorem decS_len {ws : List Nat} {n : Int} {r : List Nat} (h : decS ws n = some r) : r.length ≤ 65535 := by
  unfold decS at h
  cases hd : decSF ws (heldS n) [] with
  | none => rw [hd] at h; cases h
  | some q =>
    rw [hd] at h
    simp only [Option.bind_some] at h
    split at h
    · have := Option.some.inj h
      subst this
      rw [decSF_len _ _ _ _ hd]
      exact heldS_le n
    · cases h

theorem SimpTells_fn (ρ : Hp) (v0 : Value) (z0 : List Int) (r0 : ROs ρ 1 v0 (z0.map (Value.int .u64))) (m0 : ∀ n ∈ z0, (Lit.int .u64 n).wf = true) (y0 : z0.length * 8 ≤ 140737488351232) (a1 : Int) (w1 : (Lit.int .i64 a1).wf = true) (a2 : Int) (w2 : (Lit.int .i64 a2).wf = true) (a3 : Int) (w3 : (Lit.int .i64 a3).wf = true) (a4 : Int) (w4 : (Lit.int .u64 a4).wf = true) (a5 : Int) (w5 : (Lit.int .i64 a5).wf = true) :
    Fn Try.prog 10 #[v0, .int .i64 a1, .int .i64 a2, .int .i64 a3, .int .u64 a4, .int .i64 a5] ρ [] (fun r _ => r = .bool true) := by
  obtain ⟨l, hl, hll, hlw⟩ := words_of m0
  rw [hl] at r0
  have s0 := r0.slm
  obtain ⟨m1, em1⟩ : ∃ m : Nat, a2 % (511 + 1) = ((m : Nat) : Int) := ⟨(a2 % (511 + 1)).toNat, by omega⟩
  have hm1 : m1 ≤ 511 := by omega
  obtain ⟨m2, em2⟩ : ∃ m : Nat, a2 / 1024 % (511 + 1) = ((m : Nat) : Int) := ⟨(a2 / 1024 % (511 + 1)).toNat, by omega⟩
  have hm2 : m2 ≤ 511 := by omega
  have hy := wf_u64 w4
  obtain ⟨by', rfl⟩ := Int.eq_ofNat_of_zero_le hy.1
  refine in10 rfl rfl ?_
  refine W.seq ?_
  refine W.region ?_
  refine WL.as rfl rfl ?_
  refine WL.nil ?_
  refine W.seq ?_
  refine W.cut (τ := Value × List Nat) (fun s => [(0, v0), (2, .int .i64 a2), (3, .int .i64 a3), (4, .int .u64 (by' : Int)), (5, .int .i64 a5), (12, .bool false), (13, s.1)]) (fun s => [Buf 1 s.1 (s.2.map ucell)]) (fun s => s.2.length ≤ 571 ∧ ∀ x ∈ s.2, x < 18446744073709551616) ?_ (fun cut => ?_)
  · rintro ⟨o, us⟩ ⟨hul, hu⟩
    simp only [] at hul hu ⊢
    refine W.seq ?_
    refine W.seq ?_
    refine W.region ?_
    refine WL.mv rfl rfl ?_
    refine WL.and rfl rfl rfl ?_
    refine WL.gtr rfl rfl rfl ?_
    refine WL.nil ?_
    refine W.cut (τ := Value × List Nat) (fun s => [(0, v0), (3, .int .i64 a3), (4, .int .u64 (by' : Int)), (5, .int .i64 a5), (12, .bool false), (13, s.1)]) (fun s => [Buf 1 s.1 (s.2.map ucell)]) (fun s => s.2.length ≤ 1082 ∧ ∀ x ∈ s.2, x < 18446744073709551616) ?_ (fun cut1 => ?_)
    · rintro ⟨v1, us1⟩ ⟨hul1, hu1⟩
      simp only [] at hul1 hu1 ⊢
      have hub : us1.length ≤ 17592186044416 := by omega
      refine W.fact (i := 0) rfl (fun h hb => Buf.slm hb) (fun hso => ?_)
      obtain ⟨bs, hbs⟩ : ∃ bs, bs = (encS us1).getD [] := ⟨_, rfl⟩
      have hbl : bs.length ≤ 1082 := by
        rw [hbs]
        cases he : encS us1 with
        | none => simp
        | some w => have := encS_len _ us1 w (Nat.le_refl _) he; simp; omega
      have hbw : ∀ x ∈ bs, x < 18446744073709551616 := by
        rw [hbs]
        cases he : encS us1 with
        | none => simp
        | some w => exact encS_lt _ us1 w (Nat.le_refl _) he
      have hbb : (!((encS us1).isSome == (encS us1).isSome)) = false := by simp
      have hbl2 : ((encS us1).getD []).length ≤ 17592186044416 := by rw [← hbs]; omega
      refine W.seq ?_
      refine W.region ?_
      refine WL.mv rfl rfl ?_
      refine WL.callF rfl rfl (fun x p d => senc_c _ _ _ (by first | assumption | exact ROs.wide (by assumption) | exact ROs.mono (by assumption) (eqh_at 0 rfl p d) | exact ros_at 0 rfl p d | exact ros_at 1 rfl p d | exact ros_at 2 rfl p d | exact ros_at 3 rfl p d | exact ros_at 4 rfl p d) (by first | assumption | omega) (by first | assumption | omega)) (fun r => ?_)
      refine WL.ex (fun u0 => ?_)
      refine WL.pure (fun er => ?_)
      subst er
      refine WL.fact (i := 0) rfl (fun h hb => Buf.slm hb) (fun hsl0 => ?_)
      refine WL.mv rfl rfl ?_
      refine WL.extL rfl rfl rfl ?_
      refine WL.extL rfl rfl rfl ?_
      refine WL.as rfl rfl ?_
      refine WL.as rfl rfl ?_
      refine WL.nil ?_
      refine W.seq ?_
      refine W.region ?_
      refine WL.mv rfl rfl ?_
      refine WL.callF rfl rfl (fun x p d => rsimple_c _ _ _ (by first | assumption | exact ROs.wide (by assumption) | exact ROs.mono (by assumption) (eqh_at 0 rfl p d) | exact ros_at 0 rfl p d | exact ros_at 1 rfl p d | exact ros_at 2 rfl p d | exact ros_at 3 rfl p d | exact ros_at 4 rfl p d) (by first | assumption | omega) (by first | assumption | omega)) (fun r => ?_)
      refine WL.ex (fun u1 => ?_)
      refine WL.pure (fun er => ?_)
      subst er
      refine WL.fact (i := 0) rfl (fun h hb => Buf.slm hb) (fun hsl1 => ?_)
      refine WL.mv rfl rfl ?_
      refine WL.extL rfl rfl rfl ?_
      refine WL.extL rfl rfl rfl ?_
      refine WL.as rfl rfl ?_
      refine WL.as rfl rfl ?_
      refine WL.nil ?_
      refine W.seq ?_
      refine W.seq ?_
      refine W.region ?_
      refine WL.mv rfl rfl ?_
      refine WL.mv rfl rfl ?_
      refine WL.neB (T := Ty) rfl rfl rfl rfl ?_
      refine WL.mv rfl rfl ?_
      rw [hbb]
      refine WL.gY rfl rfl ?_
      refine WL.mv rfl rfl ?_
      refine WL.gY rfl rfl ?_
      refine WL.mv rfl rfl ?_
      refine WL.gY rfl rfl ?_
      refine WL.callV rfl rfl (fun x p d => samew_t _ _ _ _ _ (by first | with_reducible rfl | assumption) (by first | assumption | exact ROs.wide (by assumption) | exact ROs.mono (by assumption) (eqh_at 0 rfl p d) | exact ros_at 0 rfl p d | exact ros_at 1 rfl p d | exact ros_at 2 rfl p d | exact ros_at 3 rfl p d | exact ros_at 4 rfl p d) (by first | assumption | exact ROs.wide (by assumption) | exact ROs.mono (by assumption) (eqh_at 0 rfl p d) | exact ros_at 0 rfl p d | exact ros_at 1 rfl p d | exact ros_at 2 rfl p d | exact ros_at 3 rfl p d | exact ros_at 4 rfl p d) (by first | assumption | omega | exact Nat.zero_le _ | decide)) ?_
      refine WL.gY rfl rfl ?_
      refine WL.not rfl rfl ?_
      refine WL.pickF rfl rfl rfl ?_
      refine WL.nil ?_
      refine W.condF rfl ?_
      refine W.skip ?_
      refine W.seq ?_
      refine W.region ?_
      refine WL.bsC (T := Ty) rfl rfl rfl rfl rfl rfl rfl (by repeat' first | exact CO.nil | apply CO.one (by first | rfl | exact SL.one (by assumption)) | apply CO.agg) rfl (by repeat' first | exact FL.nil | apply FL.cons) (fun u2 hu2 => ?_)
      refine WL.mv rfl rfl ?_
      refine WL.apN (T := Ty) (i := 0) rfl rfl rfl rfl rfl rfl rfl (by first | exact .ro (by assumption) | exact .ro (ROs.wide (by assumption)) | exact .eqJ 0 rfl (by assumption) | exact .own 0 rfl | exact .own 1 rfl | exact .own 2 rfl | exact .own 3 rfl | exact .own 4 rfl | exact .own 5 rfl) (by first | assumption | exact ROs.slm (by assumption)) (fun _ => rfl) (by first | omega | (simp; omega)) (by first | omega | (simp; omega)) (fun v' => (by repeat' first | exact FL.nil | apply FL.cons)) (fun u3 hu3 => ?_)
      refine WL.as rfl rfl ?_
      refine WL.nil ?_
      refine W.seq ?_
      refine W.region ?_
      refine WL.as rfl rfl ?_
      refine WL.nil ?_
      refine W.seq ?_
      refine W.seq ?_
      refine W.region ?_
      refine WL.mv rfl rfl ?_
      refine WL.len (T := Ty) rfl rfl (by assumption) rfl ?_
      refine WL.gtr rfl rfl rfl ?_
      refine WL.nil ?_
      rw [← hbs]
      refine W.drop 2 rfl (by repeat' first | exact FL.nil | apply FL.cons) ?_
      refine W.cut (τ := Nat × List Nat) (fun s => [(0, v0), (4, .int .u64 (by' : Int)), (5, .int .i64 a5), (12, .bool false), (13, v1), (16, u1), (18, u3), (19, .int .i64 (s.1 : Int))]) (fun s => [Buf 1 u3 (s.2.map ucell), Buf 1 u1 (bs.map ucell), Buf 1 v1 (us1.map ucell)])
        (fun s => s.1 ≤ bs.length ∧ s.2.length = bs.length ∧ ∀ x ∈ s.2, x < 18446744073709551616) ?_ (fun cut2 => ?_)
      · rintro ⟨k, U⟩ ⟨hk, hUl, hU⟩
        simp only [] at hk hUl hU ⊢
        refine W.freezeAll (fun ρ1 le1 hin => ?_)
        have r3 := (hin 0 _ rfl).ros
        have r4 := (hin 1 _ rfl).ros
        have r5 := (hin 2 _ rfl).ros
        replace r0 := r0.mono le1
        have s3 := r3.slm
        have s4 := r4.slm
        have s5 := r5.slm
        refine W.seq ?_
        refine W.seq ?_
        refine W.cutR (τ := Value × Value × Value) (fun s => [(5, .int .i64 a5), (12, .bool false), (13, v1), (94, s.2.2), (95, .int .i64 5), (96, .int .i64 0)])
          (fun s ρ' => ROs ρ' 1 s.1 ((bs.take k).map ucell) ∧ ROs ρ' 1 s.2.1 ((bs ++ [by']).map ucell) ∧ ROs ρ' 1 s.2.2 [v0, u1, u3, s.1, s.2.1]) ?_ (fun cut3 => ?_)
        · rintro ⟨c, ua, ls⟩ ρ2 le2 ⟨q1, q2, q3⟩
          simp only [] at q1 q2 q3 ⊢
          replace r0 := r0.mono le2
          replace r3 := r3.mono le2
          replace r4 := r4.mono le2
          replace r5 := r5.mono le2
          have sls : SL ls 5 := q3.sl rfl (by omega)
          have rows : ∀ r ∈ [v0, u1, u3, c, ua], ∃ cb : List Nat, ROs ρ2 1 r (cb.map ucell) ∧ (∀ x ∈ cb, x < 18446744073709551616) ∧ cb.length ≤ 17592186044416 := by
            intro r hr
            simp only [List.mem_cons, List.not_mem_nil, or_false] at hr
            rcases hr with rfl | rfl | rfl | rfl | rfl
            · exact ⟨l, r0, hlw, by omega⟩
            · exact ⟨bs, r4, hbw, by omega⟩
            · exact ⟨U, r3, hU, by omega⟩
            · exact ⟨bs.take k, q1, fun x hx => hbw x (List.mem_of_mem_take hx), by simp; omega⟩
            · refine ⟨bs ++ [by'], q2, fun x hx => ?_, by simp; omega⟩
              rcases List.mem_append.1 hx with h | h
              · exact hbw x h
              · simp at h; omega
          refine W.block ?_
          refine W.loopS (σ := Nat) (fun i => [(5, .int .i64 a5), (12, .bool false), (13, v1), (94, ls), (95, .int .i64 5), (96, .int .i64 (i : Int))]) (fun _ => [])
            (fun i => i ≤ 5) (fun i => 5 - i) 0 ⟨rfl, rfl, rfl, rfl, rfl, rfl, trivial⟩ rfl (by omega) ?_
          intro i hi next
          refine W.seq ?_
          refine W.region ?_
          refine WL.lss rfl rfl rfl ?_
          refine WL.nil ?_
          refine W.seq ?_
          refine W.condp rfl (fun hlt => ?_) (fun hge => ?_)
          · have hi5 : i < [v0, u1, u3, c, ua].length := by simp; omega
            obtain ⟨cv, hcv⟩ : ∃ cv, [v0, u1, u3, c, ua][i]? = some cv := ⟨_, List.getElem?_eq_getElem hi5⟩
            obtain ⟨cb, rc, hcw, hcl⟩ := rows cv (List.mem_of_getElem? hcv)
            have scv := rc.slm
            refine W.skip ?_
            refine W.seq ?_
            refine W.block ?_
            refine W.seq ?_
            refine W.region ?_
            refine WL.ix (T := Ty) rfl rfl rfl (by assumption) rfl rfl (by omega) (by first | omega | decide +kernel) ?_
            refine WL.ldKn (T := Ty) rfl rfl rfl rfl (by first | assumption | exact ROs.wide (by assumption)) (by assumption) ?_
            refine WL.as rfl rfl ?_
            refine WL.nil ?_
            refine W.seq ?_
            refine W.region ?_
            refine WL.mv rfl rfl ?_
            refine WL.mv rfl rfl ?_
            refine WL.andI rfl rfl rfl (by decide) ?_
            refine WL.mv rfl rfl ?_
            refine WL.len (T := Ty) rfl rfl (by assumption) rfl ?_
            refine WL.bsC (T := Ty) rfl rfl rfl rfl rfl rfl rfl (by repeat' first | exact CO.nil | apply CO.one (by first | rfl | exact SL.one (by assumption)) | apply CO.agg) rfl (by repeat' first | exact FL.nil | apply FL.cons) (fun u4 hu4 => ?_)
            refine WL.reC (Value.int .i64) [a5, a5 % (63 + 1), ↑us1.length, -1] rfl ?_
            refine WL.len (T := Ty) rfl rfl (by assumption) rfl ?_
            refine WL.mv rfl rfl ?_
            refine WL.nil ?_
            refine W.block ?_
            refine W.loopS (σ := Nat) (fun j => [(5, .int .i64 a5), (12, .bool false), (13, v1), (21, cv), (94, ls), (95, .int .i64 5), (96, .int .i64 (i : Int)), (105, u4), (106, .int .i64 4), (107, .int .i64 (j : Int))]) (fun _ => [Buf 1 u4 (List.map (Value.int .i64) [a5, a5 % (63 + 1), (us1.length : Int), -1])])
              (fun j => j ≤ 4) (fun j => 4 - j) 0 ⟨rfl, rfl, rfl, rfl, rfl, rfl, rfl, rfl, rfl, rfl, trivial⟩ rfl (by omega) ?_
            intro j hj next2
            refine W.seq ?_
            refine W.region ?_
            refine WL.lss rfl rfl rfl ?_
            refine WL.nil ?_
            refine W.seq ?_
            refine W.condp rfl (fun hlt4 => ?_) (fun hge4 => ?_)
            · obtain ⟨m, hm⟩ : ∃ m : Int, (List.map (Value.int .i64) [a5, a5 % (63 + 1), (us1.length : Int), -1])[j]? = some (.int .i64 m) := by
                rcases (by omega : j = 0 ∨ j = 1 ∨ j = 2 ∨ j = 3) with rfl | rfl | rfl | rfl
                all_goals exact ⟨_, rfl⟩
              by_cases hlong : 200 < cb.length
              · refine W.skip ?_
                refine W.seq ?_
                refine W.block ?_
                refine W.seq ?_
                refine W.region ?_
                refine WL.ix (T := Ty) rfl rfl rfl (by assumption) rfl rfl (by omega) (by first | omega | decide +kernel) ?_
                refine WL.ldEK (T := Ty) (j := 0) rfl rfl rfl rfl rfl (by assumption) (by omega) ?_
                refine WL.as rfl rfl ?_
                refine WL.nil ?_
                refine W.seq ?_
                refine W.seq ?_
                refine W.region ?_
                refine WL.mv rfl rfl ?_
                refine WL.len (T := Ty) rfl rfl (by assumption) rfl ?_
                refine WL.gtr rfl rfl rfl ?_
                refine WL.nil ?_
                refine W.condpT rfl (by omega) ?_
                refine W.exit rfl ?_
                refine W.region ?_
                refine WL.addK rfl rfl rfl (wrap_i64 ⟨by omega, by omega⟩) ?_
                refine WL.mv rfl rfl ?_
                refine WL.nil ?_
                refine W.sub ?_ (next2 (j + 1) (by omega) (by omega))
                exact ⟨rfl, rfl, rfl, rfl, rfl, rfl, rfl, rfl, rfl, rfl, trivial⟩
              rcases hdec : decS cb m with _ | ys
              · refine W.skip ?_
                refine W.seq ?_
                refine W.block ?_
                refine W.seq ?_
                refine W.region ?_
                refine WL.ix (T := Ty) rfl rfl rfl (by assumption) rfl rfl (by omega) (by first | omega | decide +kernel) ?_
                refine WL.ldEK (T := Ty) (j := 0) rfl rfl rfl rfl rfl (by assumption) (by omega) ?_
                refine WL.as rfl rfl ?_
                refine WL.nil ?_
                refine W.seq ?_
                refine W.seq ?_
                refine W.region ?_
                refine WL.mv rfl rfl ?_
                refine WL.len (T := Ty) rfl rfl (by assumption) rfl ?_
                refine WL.gtr rfl rfl rfl ?_
                refine WL.nil ?_
                refine W.condpF rfl (by omega) ?_
                refine W.skip ?_
                refine W.seq ?_
                refine W.region ?_
                refine WL.mv rfl rfl ?_
                refine WL.mv rfl rfl ?_
                refine WL.callF rfl rfl (fun x p d => sdec_n _ _ _ _ (by assumption) (by first | assumption | exact ROs.wide (by assumption) | exact ROs.mono (by assumption) (eqh_at 0 rfl p d) | exact ros_at 0 rfl p d | exact ros_at 1 rfl p d | exact ros_at 2 rfl p d | exact ros_at 3 rfl p d | exact ros_at 4 rfl p d) (by first | assumption | omega) (by first | assumption | omega)) (fun r => ?_)
                refine WL.ex (fun u5 => ?_)
                refine WL.pure (fun er => ?_)
                subst er
                refine WL.fact (i := 0) rfl (fun h hb => Buf.slm hb) (fun hsl5 => ?_)
                refine WL.mv rfl rfl ?_
                refine WL.extL rfl rfl rfl ?_
                refine WL.extL rfl rfl rfl ?_
                refine WL.as rfl rfl ?_
                refine WL.as rfl rfl ?_
                refine WL.nil ?_
                refine W.seq ?_
                refine W.region ?_
                refine WL.mv rfl rfl ?_
                refine WL.mv rfl rfl ?_
                refine WL.callF rfl rfl (fun x p d => rgets_n _ _ _ _ (by assumption) (by first | assumption | exact ROs.wide (by assumption) | exact ROs.mono (by assumption) (eqh_at 0 rfl p d) | exact ros_at 0 rfl p d | exact ros_at 1 rfl p d | exact ros_at 2 rfl p d | exact ros_at 3 rfl p d | exact ros_at 4 rfl p d) (by first | assumption | omega) (by first | assumption | omega)) (fun r => ?_)
                refine WL.ex (fun u6 => ?_)
                refine WL.pure (fun er => ?_)
                subst er
                refine WL.fact (i := 0) rfl (fun h hb => Buf.slm hb) (fun hsl6 => ?_)
                refine WL.mv rfl rfl ?_
                refine WL.extL rfl rfl rfl ?_
                refine WL.extL rfl rfl rfl ?_
                refine WL.as rfl rfl ?_
                refine WL.as rfl rfl ?_
                refine WL.nil ?_
                refine W.seq ?_
                refine W.region ?_
                refine WL.mv rfl rfl ?_
                refine WL.mv rfl rfl ?_
                refine WL.neB (T := Ty) rfl rfl rfl rfl ?_
                refine WL.mv rfl rfl ?_
                refine WL.gY rfl rfl ?_
                refine WL.mv rfl rfl ?_
                refine WL.gY rfl rfl ?_
                refine WL.mv rfl rfl ?_
                refine WL.gY rfl rfl ?_
                refine WL.callV rfl rfl (fun x p d => samew_t _ _ _ _ _ (by first | with_reducible rfl | assumption) (by first | assumption | exact ROs.wide (by assumption) | exact ROs.mono (by assumption) (eqh_at 0 rfl p d) | exact ros_at 0 rfl p d | exact ros_at 1 rfl p d | exact ros_at 2 rfl p d | exact ros_at 3 rfl p d | exact ros_at 4 rfl p d) (by first | assumption | exact ROs.wide (by assumption) | exact ROs.mono (by assumption) (eqh_at 0 rfl p d) | exact ros_at 0 rfl p d | exact ros_at 1 rfl p d | exact ros_at 2 rfl p d | exact ros_at 3 rfl p d | exact ros_at 4 rfl p d) (by first | assumption | omega | exact Nat.zero_le _ | decide)) ?_
                refine WL.gY rfl rfl ?_
                refine WL.not rfl rfl ?_
                refine WL.pickF rfl rfl rfl ?_
                refine WL.nil ?_
                refine W.condF rfl ?_
                refine W.skip ?_
                refine W.inBlock ?_
                refine W.region ?_
                refine WL.addK rfl rfl rfl (wrap_i64 ⟨by omega, by omega⟩) ?_
                refine WL.mv rfl rfl ?_
                refine WL.nil ?_
                refine W.drop 0 rfl (by repeat' first | exact FL.nil | apply FL.cons) ?_
                refine W.drop 0 rfl (by repeat' first | exact FL.nil | apply FL.cons) ?_
                refine W.sub ?_ (next2 (j + 1) (by omega) (by omega))
                exact ⟨rfl, rfl, rfl, rfl, rfl, rfl, rfl, rfl, rfl, rfl, trivial⟩
              · have hyl1 := decS_len hdec
                have hyl : ys.length ≤ 17592186044416 := by omega
                refine W.skip ?_
                refine W.seq ?_
                refine W.block ?_
                refine W.seq ?_
                refine W.region ?_
                refine WL.ix (T := Ty) rfl rfl rfl (by assumption) rfl rfl (by omega) (by first | omega | decide +kernel) ?_
                refine WL.ldEK (T := Ty) (j := 0) rfl rfl rfl rfl rfl (by assumption) (by omega) ?_
                refine WL.as rfl rfl ?_
                refine WL.nil ?_
                refine W.seq ?_
                refine W.seq ?_
                refine W.region ?_
                refine WL.mv rfl rfl ?_
                refine WL.len (T := Ty) rfl rfl (by assumption) rfl ?_
                refine WL.gtr rfl rfl rfl ?_
                refine WL.nil ?_
                refine W.condpF rfl (by omega) ?_
                refine W.skip ?_
                refine W.seq ?_
                refine W.region ?_
                refine WL.mv rfl rfl ?_
                refine WL.mv rfl rfl ?_
                refine WL.callF rfl rfl (fun x p d => sdec_s _ _ _ _ (by assumption) (by first | assumption | exact ROs.wide (by assumption) | exact ROs.mono (by assumption) (eqh_at 0 rfl p d) | exact ros_at 0 rfl p d | exact ros_at 1 rfl p d | exact ros_at 2 rfl p d | exact ros_at 3 rfl p d | exact ros_at 4 rfl p d) (by first | assumption | omega) (by first | assumption | omega)) (fun r => ?_)
                refine WL.ex (fun u5 => ?_)
                refine WL.pure (fun er => ?_)
                subst er
                refine WL.fact (i := 0) rfl (fun h hb => Buf.slm hb) (fun hsl5 => ?_)
                refine WL.mv rfl rfl ?_
                refine WL.extL rfl rfl rfl ?_
                refine WL.extL rfl rfl rfl ?_
                refine WL.as rfl rfl ?_
                refine WL.as rfl rfl ?_
                refine WL.nil ?_
                refine W.seq ?_
                refine W.region ?_
                refine WL.mv rfl rfl ?_
                refine WL.mv rfl rfl ?_
                refine WL.callF rfl rfl (fun x p d => rgets_s _ _ _ _ (by assumption) (by first | assumption | exact ROs.wide (by assumption) | exact ROs.mono (by assumption) (eqh_at 0 rfl p d) | exact ros_at 0 rfl p d | exact ros_at 1 rfl p d | exact ros_at 2 rfl p d | exact ros_at 3 rfl p d | exact ros_at 4 rfl p d) (by first | assumption | omega) (by first | assumption | omega)) (fun r => ?_)
                refine WL.ex (fun u6 => ?_)
                refine WL.pure (fun er => ?_)
                subst er
                refine WL.fact (i := 0) rfl (fun h hb => Buf.slm hb) (fun hsl6 => ?_)
                refine WL.mv rfl rfl ?_
                refine WL.extL rfl rfl rfl ?_
                refine WL.extL rfl rfl rfl ?_
                refine WL.as rfl rfl ?_
                refine WL.as rfl rfl ?_
                refine WL.nil ?_
                refine W.seq ?_
                refine W.region ?_
                refine WL.mv rfl rfl ?_
                refine WL.mv rfl rfl ?_
                refine WL.neB (T := Ty) rfl rfl rfl rfl ?_
                refine WL.mv rfl rfl ?_
                refine WL.gY rfl rfl ?_
                refine WL.mv rfl rfl ?_
                refine WL.gY rfl rfl ?_
                refine WL.mv rfl rfl ?_
                refine WL.gY rfl rfl ?_
                refine WL.callV rfl rfl (fun x p d => samew_t _ _ _ _ _ (by first | with_reducible rfl | assumption) (by first | assumption | exact ROs.wide (by assumption) | exact ROs.mono (by assumption) (eqh_at 0 rfl p d) | exact ros_at 0 rfl p d | exact ros_at 1 rfl p d | exact ros_at 2 rfl p d | exact ros_at 3 rfl p d | exact ros_at 4 rfl p d) (by first | assumption | exact ROs.wide (by assumption) | exact ROs.mono (by assumption) (eqh_at 0 rfl p d) | exact ros_at 0 rfl p d | exact ros_at 1 rfl p d | exact ros_at 2 rfl p d | exact ros_at 3 rfl p d | exact ros_at 4 rfl p d) (by first | assumption | omega | exact Nat.zero_le _ | decide)) ?_
                refine WL.gY rfl rfl ?_
                refine WL.not rfl rfl ?_
                refine WL.pickF rfl rfl rfl ?_
                refine WL.nil ?_
                refine W.condF rfl ?_
                refine W.skip ?_
                refine W.inBlock ?_
                refine W.region ?_
                refine WL.addK rfl rfl rfl (wrap_i64 ⟨by omega, by omega⟩) ?_
                refine WL.mv rfl rfl ?_
                refine WL.nil ?_
                refine W.drop 0 rfl (by repeat' first | exact FL.nil | apply FL.cons) ?_
                refine W.drop 0 rfl (by repeat' first | exact FL.nil | apply FL.cons) ?_
                refine W.sub ?_ (next2 (j + 1) (by omega) (by omega))
                exact ⟨rfl, rfl, rfl, rfl, rfl, rfl, rfl, rfl, rfl, rfl, trivial⟩
            · refine W.exit rfl ?_
              refine W.inBlock ?_
              refine W.region ?_
              refine WL.addK rfl rfl rfl (wrap_i64 ⟨by omega, by omega⟩) ?_
              refine WL.mv rfl rfl ?_
              refine WL.nil ?_
              refine W.drop 0 rfl (by repeat' first | exact FL.nil | apply FL.cons) ?_
              refine W.sub ?_ (next (i + 1) (by omega) (by omega))
              exact ⟨rfl, rfl, rfl, rfl, rfl, rfl, trivial⟩
          · refine W.exit rfl ?_
            refine W.seq ?_
            refine W.region ?_
            refine WL.callT rfl rfl (fun x p d => awake6_c _) ?_
            refine WL.as rfl rfl ?_
            refine WL.nil ?_
            exact W.ret1 rfl rfl (fun h p => rfl)
        · refine W.drawA 15 rfl (fun σ0 hσ0 dσ0 => ?_)
          have useEqh := trivial
          refine WD.takeL 0 rfl (by decide +kernel) ?_
          refine WL.mv rfl rfl ?_
          refine WL.nilT ?_
          refine WD.takeL 1 rfl (by decide +kernel) ?_
          refine WL.mv rfl rfl ?_
          refine WL.nilT ?_
          refine WD.takeL 2 rfl (by decide +kernel) ?_
          refine WL.mv rfl rfl ?_
          refine WL.nilT ?_
          refine WD.takeL 3 rfl (by decide +kernel) ?_
          refine WL.mv rfl rfl ?_
          refine WL.nilT ?_
          refine WD.takeL 4 rfl (by decide +kernel) ?_
          refine WL.mv rfl rfl ?_
          refine WL.nilT ?_
          refine WD.takeL 5 rfl (by decide +kernel) ?_
          refine WL.slTn (T := Ty) rfl rfl rfl rfl rfl (by first | assumption | exact ROs.wide (by assumption)) (by first | assumption | omega | (simp; omega)) (fun u4 hu4 ru4 => ?_)
          refine WL.nilT ?_
          refine WD.takeL 7 rfl (by decide +kernel) ?_
          refine WL.mv rfl rfl ?_
          refine WL.nilT ?_
          refine WD.takeL 9 rfl (by decide +kernel) ?_
          refine WL.mv rfl rfl ?_
          refine WL.nilT ?_
          refine WD.takeL 14 rfl (by decide +kernel) ?_
          refine WL.mv rfl rfl ?_
          refine WL.nilT ?_
          refine WD.twoL 6 10 rfl rfl (by decide +kernel) ?_ ?_
          · refine WL.bsC (T := Ty) rfl rfl rfl rfl rfl rfl rfl (by repeat' first | exact CO.nil | apply CO.one (by first | rfl | exact SL.one (by assumption)) | apply CO.agg) rfl (by repeat' first | exact FL.nil | apply FL.cons) (fun u5 hu5 => ?_)
            refine WL.nilS ?_
            refine WD.twoL 8 10 rfl rfl (by decide +kernel) ?_ ?_
            · refine WL.apN (T := Ty) (i := 1) rfl rfl rfl rfl rfl rfl rfl (by first | exact .ro (by assumption) | exact .ro (ROs.wide (by assumption)) | exact .eqJ 0 rfl (by assumption) | exact .own 0 rfl | exact .own 1 rfl | exact .own 2 rfl | exact .own 3 rfl | exact .own 4 rfl | exact .own 5 rfl) (by first | assumption | exact ROs.slm (by assumption)) (fun _ => rfl) (by first | omega | (simp; omega)) (by first | omega | (simp; omega)) (fun v' => (by repeat' first | exact FL.nil | apply FL.cons)) (fun u6 hu6 => ?_)
              refine WL.nilE ?_
              refine WD.oneL 10 rfl (by decide +kernel) ?_
              refine WL.bsC (T := Ty) rfl rfl rfl rfl rfl rfl rfl (by repeat' first | exact CO.nil | apply CO.one (by first | rfl | exact SL.one (by assumption)) | apply CO.agg) rfl (by repeat' first | exact FL.nil | apply FL.cons) (fun u7 hu7 => ?_)
              refine WL.nilH hσ0 (fun σ1 hσ1 dσ1 mσ1 => ?_)
              have ru4 := ru4.mono mσ1
              have fσ1_0 := ros_at 0 rfl hσ1 dσ1
              refine WD.oneL 11 rfl (by decide +kernel) ?_
              refine WL.apQ (T := Ty) (i := 1) rfl rfl rfl rfl rfl rfl rfl (by first | exact .ro (by assumption) | exact .ro (ROs.wide (by assumption)) | exact .eqJ 0 rfl (by assumption) | exact .own 0 rfl | exact .own 1 rfl | exact .own 2 rfl | exact .own 3 rfl | exact .own 4 rfl | exact .own 5 rfl) (by first | assumption | exact ROs.slm (by assumption)) (fun _ => rfl) (by first | omega | (simp; omega)) (by first | omega | (simp; omega)) (fun v' => (by repeat' first | exact FL.nil | apply FL.cons)) (fun u8 hu8 => ?_)
              refine WL.nilE ?_
              refine WD.oneL 12 rfl (by decide +kernel) ?_
              refine WL.bsC (T := Ty) rfl rfl rfl rfl rfl rfl rfl (by repeat' first | exact CO.nil | apply CO.one (by first | rfl | exact SL.one (by assumption)) | apply CO.agg) rfl (by repeat' first | exact FL.nil | apply FL.cons) (fun u9 hu9 => ?_)
              refine WL.nilH hσ1 (fun σ2 hσ2 dσ2 mσ2 => ?_)
              have ru4 := ru4.mono mσ2
              have fσ1_0 := fσ1_0.mono mσ2
              have fσ2_0 := ros_at 0 rfl hσ2 dσ2
              refine WD.takeL 13 rfl (by decide +kernel) ?_
              refine WL.len (T := Ty) rfl rfl (by assumption) rfl ?_
              refine WL.nilT ?_
              refine WD.doneF (eqh_self _) (by decide +kernel) (by repeat' first | exact FL.nil | apply FL.cons) ?_
              refine W.freezeAll (fun ρ' le hin => ?_)
              have eqm := (hin 0 _ rfl).eqh le
              refine W.sub ?_ (cut3 (u4, u8, u9) ρ' le ⟨ru4.mono eqm, (hin 1 _ rfl).ros, fσ2_0.mono eqm⟩)
              exact ⟨rfl, rfl, rfl, rfl, rfl, rfl, trivial⟩
            · refine WL.bsC (T := Ty) rfl rfl rfl rfl rfl rfl rfl (by repeat' first | exact CO.nil | apply CO.one (by first | rfl | exact SL.one (by assumption)) | apply CO.agg) rfl (by repeat' first | exact FL.nil | apply FL.cons) (fun u6 hu6 => ?_)
              refine WL.nilH hσ0 (fun σ1 hσ1 dσ1 mσ1 => ?_)
              have ru4 := ru4.mono mσ1
              have fσ1_0 := ros_at 0 rfl hσ1 dσ1
              refine WD.oneL 8 rfl (by decide +kernel) ?_
              refine WL.apN (T := Ty) (i := 1) rfl rfl rfl rfl rfl rfl rfl (by first | exact .ro (by assumption) | exact .ro (ROs.wide (by assumption)) | exact .eqJ 0 rfl (by assumption) | exact .own 0 rfl | exact .own 1 rfl | exact .own 2 rfl | exact .own 3 rfl | exact .own 4 rfl | exact .own 5 rfl) (by first | assumption | exact ROs.slm (by assumption)) (fun _ => rfl) (by first | omega | (simp; omega)) (by first | omega | (simp; omega)) (fun v' => (by repeat' first | exact FL.nil | apply FL.cons)) (fun u7 hu7 => ?_)
              refine WL.nilE ?_
              refine WD.oneL 11 rfl (by decide +kernel) ?_
              refine WL.apQ (T := Ty) (i := 1) rfl rfl rfl rfl rfl rfl rfl (by first | exact .ro (by assumption) | exact .ro (ROs.wide (by assumption)) | exact .eqJ 0 rfl (by assumption) | exact .own 0 rfl | exact .own 1 rfl | exact .own 2 rfl | exact .own 3 rfl | exact .own 4 rfl | exact .own 5 rfl) (by first | assumption | exact ROs.slm (by assumption)) (fun _ => rfl) (by first | omega | (simp; omega)) (by first | omega | (simp; omega)) (fun v' => (by repeat' first | exact FL.nil | apply FL.cons)) (fun u8 hu8 => ?_)
              refine WL.nilE ?_
              refine WD.oneL 12 rfl (by decide +kernel) ?_
              refine WL.bsC (T := Ty) rfl rfl rfl rfl rfl rfl rfl (by repeat' first | exact CO.nil | apply CO.one (by first | rfl | exact SL.one (by assumption)) | apply CO.agg) rfl (by repeat' first | exact FL.nil | apply FL.cons) (fun u9 hu9 => ?_)
              refine WL.nilH hσ1 (fun σ2 hσ2 dσ2 mσ2 => ?_)
              have ru4 := ru4.mono mσ2
              have fσ1_0 := fσ1_0.mono mσ2
              have fσ2_0 := ros_at 0 rfl hσ2 dσ2
              refine WD.takeL 13 rfl (by decide +kernel) ?_
              refine WL.len (T := Ty) rfl rfl (by assumption) rfl ?_
              refine WL.nilT ?_
              refine WD.doneF (eqh_self _) (by decide +kernel) (by repeat' first | exact FL.nil | apply FL.cons) ?_
              refine W.freezeAll (fun ρ' le hin => ?_)
              have eqm := (hin 0 _ rfl).eqh le
              refine W.sub ?_ (cut3 (u4, u8, u9) ρ' le ⟨ru4.mono eqm, (hin 1 _ rfl).ros, fσ2_0.mono eqm⟩)
              exact ⟨rfl, rfl, rfl, rfl, rfl, rfl, trivial⟩
          · refine WL.bsC (T := Ty) rfl rfl rfl rfl rfl rfl rfl (by repeat' first | exact CO.nil | apply CO.one (by first | rfl | exact SL.one (by assumption)) | apply CO.agg) rfl (by repeat' first | exact FL.nil | apply FL.cons) (fun u5 hu5 => ?_)
            refine WL.nilH hσ0 (fun σ1 hσ1 dσ1 mσ1 => ?_)
            have ru4 := ru4.mono mσ1
            have fσ1_0 := ros_at 0 rfl hσ1 dσ1
            refine WD.oneL 6 rfl (by decide +kernel) ?_
            refine WL.bsC (T := Ty) rfl rfl rfl rfl rfl rfl rfl (by repeat' first | exact CO.nil | apply CO.one (by first | rfl | exact SL.one (by assumption)) | apply CO.agg) rfl (by repeat' first | exact FL.nil | apply FL.cons) (fun u6 hu6 => ?_)
            refine WL.nilS ?_
            refine WD.oneL 8 rfl (by decide +kernel) ?_
            refine WL.apN (T := Ty) (i := 1) rfl rfl rfl rfl rfl rfl rfl (by first | exact .ro (by assumption) | exact .ro (ROs.wide (by assumption)) | exact .eqJ 0 rfl (by assumption) | exact .own 0 rfl | exact .own 1 rfl | exact .own 2 rfl | exact .own 3 rfl | exact .own 4 rfl | exact .own 5 rfl) (by first | assumption | exact ROs.slm (by assumption)) (fun _ => rfl) (by first | omega | (simp; omega)) (by first | omega | (simp; omega)) (fun v' => (by repeat' first | exact FL.nil | apply FL.cons)) (fun u7 hu7 => ?_)
            refine WL.nilE ?_
            refine WD.oneL 11 rfl (by decide +kernel) ?_
            refine WL.apQ (T := Ty) (i := 1) rfl rfl rfl rfl rfl rfl rfl (by first | exact .ro (by assumption) | exact .ro (ROs.wide (by assumption)) | exact .eqJ 0 rfl (by assumption) | exact .own 0 rfl | exact .own 1 rfl | exact .own 2 rfl | exact .own 3 rfl | exact .own 4 rfl | exact .own 5 rfl) (by first | assumption | exact ROs.slm (by assumption)) (fun _ => rfl) (by first | omega | (simp; omega)) (by first | omega | (simp; omega)) (fun v' => (by repeat' first | exact FL.nil | apply FL.cons)) (fun u8 hu8 => ?_)
            refine WL.nilE ?_
            refine WD.oneL 12 rfl (by decide +kernel) ?_
            refine WL.bsC (T := Ty) rfl rfl rfl rfl rfl rfl rfl (by repeat' first | exact CO.nil | apply CO.one (by first | rfl | exact SL.one (by assumption)) | apply CO.agg) rfl (by repeat' first | exact FL.nil | apply FL.cons) (fun u9 hu9 => ?_)
            refine WL.nilH hσ1 (fun σ2 hσ2 dσ2 mσ2 => ?_)
            have ru4 := ru4.mono mσ2
            have fσ1_0 := fσ1_0.mono mσ2
            have fσ2_0 := ros_at 0 rfl hσ2 dσ2
            refine WD.takeL 13 rfl (by decide +kernel) ?_
            refine WL.len (T := Ty) rfl rfl (by assumption) rfl ?_
            refine WL.nilT ?_
            refine WD.doneF (eqh_self _) (by decide +kernel) (by repeat' first | exact FL.nil | apply FL.cons) ?_
            refine W.freezeAll (fun ρ' le hin => ?_)
            have eqm := (hin 0 _ rfl).eqh le
            refine W.sub ?_ (cut3 (u4, u8, u9) ρ' le ⟨ru4.mono eqm, (hin 1 _ rfl).ros, fσ2_0.mono eqm⟩)
            exact ⟨rfl, rfl, rfl, rfl, rfl, rfl, trivial⟩
      · refine W.condp rfl (fun hpos => ?_) (fun hpos => ?_)
        · have hb0 : 0 < (bs.length : Int) := hpos
          obtain ⟨k, hk, hkl⟩ : ∃ k : Nat, a3 % (65535 + 1) % (bs.length : Int) = (k : Int) ∧ k < bs.length := ⟨(a3 % (65535 + 1) % (bs.length : Int)).toNat, by
            have := Int.emod_nonneg (a3 % (65535 + 1)) (b := (bs.length : Int)) (by omega)
            omega, by
            have := Int.emod_nonneg (a3 % (65535 + 1)) (b := (bs.length : Int)) (by omega)
            have := Int.emod_lt_of_pos (a3 % (65535 + 1)) (b := (bs.length : Int)) (by omega)
            omega⟩
          rw [← hbs] at hsl0
          refine W.fact (i := 0) rfl (fun h hb => Buf.slm hb) (fun hsl9 => ?_)
          refine W.seq ?_
          refine W.region ?_
          refine WL.mv rfl rfl ?_
          refine WL.andI rfl rfl rfl (by decide) ?_
          refine WL.mv rfl rfl ?_
          refine WL.len (T := Ty) rfl rfl (by assumption) rfl ?_
          refine WL.remI rfl rfl rfl (by omega) (by omega) ?_
          refine WL.as rfl rfl ?_
          refine WL.nil ?_
          refine W.region ?_
          refine WL.mv rfl rfl ?_
          refine WL.mv rfl rfl ?_
          refine WL.mv rfl rfl ?_
          refine WL.mv rfl rfl ?_
          refine WL.ix (T := Ty) rfl rfl rfl (by assumption) rfl rfl (by omega) (by first | omega | decide +kernel) ?_
          refine WL.ldEM (T := Ty) (j := 0) rfl rfl rfl rfl rfl (by first | omega | decide +kernel) ?_
          refine WL.mv rfl rfl ?_
          refine WL.xor rfl rfl rfl ?_
          refine WL.ix (T := Ty) rfl rfl rfl (by assumption) rfl rfl (by omega) (by first | omega | decide +kernel) ?_
          rw [hk]
          skip
          have hx := bits_u64_bnd (bs.getD ((k : Int).toNat * 1) default : Int) (by' : Int)
          obtain ⟨e, he⟩ := Int.eq_ofNat_of_zero_le hx.1
          rw [he] at hx ⊢
          refine WL.stEF (T := Ty) (j := 0) (cs' := (bs.set k e).map ucell) rfl rfl rfl rfl rfl rfl (by simp; omega) (by rw [show ((k : Int)).toNat * 1 = k by omega, List.map_set]; rfl) (by repeat' first | exact FL.nil | apply FL.cons) ?_
          refine WL.nil ?_
          refine W.sub ?_ (cut2 ⟨k, bs.set k e⟩ ⟨by omega, by simp, fun x hx => (List.mem_or_eq_of_mem_set hx).elim (hbw x) (fun e => by omega)⟩)
          exact ⟨rfl, rfl, rfl, rfl, rfl, rfl, rfl, rfl, trivial⟩
        · refine W.skip ?_
          refine W.sub ?_ (cut2 ⟨0, bs⟩ ⟨Nat.zero_le _, rfl, hbw⟩)
          exact ⟨rfl, rfl, rfl, rfl, rfl, rfl, rfl, rfl, trivial⟩
    · refine W.condp rfl (fun hp => ?_) (fun hp => ?_)
      · refine W.region ?_
        refine WL.mv rfl rfl ?_
        refine WL.mv rfl rfl ?_
        refine WL.shrS (c := 1024) rfl rfl rfl (by omega) (by decide) ?_
        refine WL.andI rfl rfl rfl (by decide) ?_
        refine WL.apZe (T := Ty) (i := 0) rfl rfl rfl (by assumption) rfl rfl rfl rfl rfl rfl (fun _ => rfl) (by first | omega | (simp; omega)) (by first | omega | (simp; omega)) (fun v' => (by repeat' first | exact FL.nil | apply FL.cons)) (fun u0 hu0 => ?_)
        refine WL.as rfl rfl ?_
        refine WL.nil ?_
        refine W.sub ?_ (cut1 ⟨u0, us ++ List.replicate m2 default⟩ ⟨by simp; omega, zeros_behind m2 hu⟩)
        exact ⟨rfl, rfl, rfl, rfl, rfl, rfl, trivial⟩
      · refine W.skip ?_
        refine W.sub ?_ (cut1 ⟨o, us⟩ ⟨by simp only []; omega, hu⟩)
        exact ⟨rfl, rfl, rfl, rfl, rfl, rfl, trivial⟩
  · refine W.drawA 7 rfl (fun σ0 hσ0 dσ0 => ?_)
    refine WD.takeL 0 rfl (by decide +kernel) ?_
    refine WL.mv rfl rfl ?_
    refine WL.nilT ?_
    refine WD.takeL 1 rfl (by decide +kernel) ?_
    refine WL.andI rfl rfl rfl (by decide) ?_
    refine WL.nilT ?_
    refine WD.takeL 3 rfl (by decide +kernel) ?_
    refine WL.mv rfl rfl ?_
    refine WL.nilT ?_
    refine WD.takeL 4 rfl (by decide +kernel) ?_
    refine WL.mv rfl rfl ?_
    refine WL.nilT ?_
    refine WD.twoL 2 5 rfl rfl (by decide +kernel) ?_ ?_
    · refine WL.mkM (f := ucell) (T := Ty) rfl rfl rfl (by assumption) rfl rfl rfl (by first | omega | (simp; omega)) (by first | omega | (simp; omega)) (fun u0 hu0 => ?_)
      refine WL.nilS ?_
      refine WD.oneL 5 rfl (by decide +kernel) ?_
      refine WL.callF rfl rfl (fun x p d => vals_c _ _ _ _ (by first | assumption | exact ROs.wide (by assumption) | exact ROs.mono (by assumption) (eqh_at 0 rfl p d) | exact ros_at 0 rfl p d | exact ros_at 1 rfl p d | exact ros_at 2 rfl p d | exact ros_at 3 rfl p d | exact ros_at 4 rfl p d) (by first | assumption | omega | decide) (by first | assumption | omega | decide)) (fun u1 => ?_)
      refine WL.ex (fun vs => ?_)
      refine WL.pure (fun hvs => ?_)
      refine WL.fact (i := 0) rfl (fun h hb => Buf.slm hb) (fun hsl1 => ?_)
      refine WL.nilH hσ0 (fun σ1 hσ1 dσ1 mσ1 => ?_)
      have fσ1_0 := ros_at 0 rfl hσ1 dσ1
      refine WD.oneL 6 rfl (by decide +kernel) ?_
      refine WL.apMM (T := Ty) (i := 1) rfl rfl rfl rfl rfl rfl rfl (by first | exact .ro (by assumption) | exact .ro (ROs.wide (by assumption)) | exact .eqJ 0 rfl (by assumption) | exact .own 0 rfl | exact .own 1 rfl | exact .own 2 rfl | exact .own 3 rfl | exact .own 4 rfl | exact .own 5 rfl) (by first | assumption | exact ROs.slm (by assumption)) (fun _ => rfl) (by first | omega | (simp; omega)) (by first | omega | (simp; omega)) (fun v' => (by repeat' first | exact FL.nil | apply FL.cons)) (fun u2 hu2 => ?_)
      refine WL.nilE ?_
      refine WD.lastG hσ1 (by decide +kernel) (by repeat' first | exact FL.nil | apply FL.cons) rfl (by repeat' first | exact FL.nil | apply FL.cons) ?_
      refine WL.as rfl rfl ?_
      refine WL.nil ?_
      refine W.drop 0 rfl (by repeat' first | exact FL.nil | apply FL.cons) ?_
      refine W.sub ?_ (cut ⟨u2, List.replicate m1 default ++ vs⟩ ⟨by simp; omega, zeros_before m1 hvs.2⟩)
      exact ⟨rfl, rfl, rfl, rfl, rfl, rfl, rfl, trivial⟩
    · refine WL.callF rfl rfl (fun x p d => vals_c _ _ _ _ (by first | assumption | exact ROs.wide (by assumption) | exact ROs.mono (by assumption) (eqh_at 0 rfl p d) | exact ros_at 0 rfl p d | exact ros_at 1 rfl p d | exact ros_at 2 rfl p d | exact ros_at 3 rfl p d | exact ros_at 4 rfl p d) (by first | assumption | omega | decide) (by first | assumption | omega | decide)) (fun u0 => ?_)
      refine WL.ex (fun vs => ?_)
      refine WL.pure (fun hvs => ?_)
      refine WL.fact (i := 0) rfl (fun h hb => Buf.slm hb) (fun hsl0 => ?_)
      refine WL.nilH hσ0 (fun σ1 hσ1 dσ1 mσ1 => ?_)
      have fσ1_0 := ros_at 0 rfl hσ1 dσ1
      refine WD.oneL 2 rfl (by decide +kernel) ?_
      refine WL.mkM (f := ucell) (T := Ty) rfl rfl rfl (by assumption) rfl rfl rfl (by first | omega | (simp; omega)) (by first | omega | (simp; omega)) (fun u1 hu1 => ?_)
      refine WL.nilS ?_
      refine WD.oneL 6 rfl (by decide +kernel) ?_
      refine WL.apMM (T := Ty) (i := 1) rfl rfl rfl rfl rfl rfl rfl (by first | exact .ro (by assumption) | exact .ro (ROs.wide (by assumption)) | exact .eqJ 0 rfl (by assumption) | exact .own 0 rfl | exact .own 1 rfl | exact .own 2 rfl | exact .own 3 rfl | exact .own 4 rfl | exact .own 5 rfl) (by first | assumption | exact ROs.slm (by assumption)) (fun _ => rfl) (by first | omega | (simp; omega)) (by first | omega | (simp; omega)) (fun v' => (by repeat' first | exact FL.nil | apply FL.cons)) (fun u2 hu2 => ?_)
      refine WL.nilE ?_
      refine WD.lastG hσ1 (by decide +kernel) (by repeat' first | exact FL.nil | apply FL.cons) rfl (by repeat' first | exact FL.nil | apply FL.cons) ?_
      refine WL.as rfl rfl ?_
      refine WL.nil ?_
      refine W.drop 0 rfl (by repeat' first | exact FL.nil | apply FL.cons) ?_
      refine W.sub ?_ (cut ⟨u2, List.replicate m1 default ++ vs⟩ ⟨by simp; omega, zeros_before m1 hvs.2⟩)
      exact ⟨rfl, rfl, rfl, rfl, rfl, rfl, rfl, trivial⟩
end Go.Proofs.Ytlmhjkbbooghfaa
