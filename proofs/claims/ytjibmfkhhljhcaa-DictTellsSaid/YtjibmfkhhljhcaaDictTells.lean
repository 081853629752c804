/- DictTells. -/
import Derived.Test.YtjibmfkhhljhcaaStc
import Derived.Test.YtjibmfkhhljhcaaNum
import Derived.Test.YtjibmfkhhljhcaaTab
import Derived.Test.YtjibmfkhhljhcaaDictAwake
import Derived.Test.YtjibmfkhhljhcaaDictRefD
import Derived.Test.YtjibmfkhhljhcaaValsG
set_option linter.unusedSimpArgs false
set_option linter.unusedVariables false
set_option maxRecDepth 20000
set_option maxHeartbeats 4000000
namespace Go.Proofs.Ytjibmfkhhljhcaa
open Go
attribute [local irreducible] W WL Fn Buf ROs SL eptr box Rd Src bndOK WD RB Reads In Mp encD decD
-- CALL 23 refine WL.callV rfl rfl (fun x p d => by64_c _ _ (by omega)) ?_
theorem by64_c (ρ : Hp) (x : Nat) (hx : x < 256) : Fn Try.prog 23 #[.int .u8 (x : Int)] ρ [] (Just (.int .u64 ((x : Int) * 2 + 1))) := by
  refine in23 rfl rfl ?_
  refine W.seq ?_
  refine W.region ?_
  refine WL.as rfl rfl ?_
  refine WL.nil ?_
  refine W.seq ?_
  refine W.region ?_
  refine WL.mv rfl rfl ?_
  refine WL.cvK (T := Ty) rfl rfl rfl rfl (wrap_u64 ⟨by omega, by omega⟩) ?_
  refine WL.mulK rfl rfl rfl (wrap_u64 ⟨by omega, by omega⟩) ?_
  refine WL.addK rfl rfl rfl (wrap_u64 ⟨by omega, by omega⟩) ?_
  refine WL.as rfl rfl ?_
  refine WL.nil ?_
  exact W.ret1 rfl rfl (fun h p => ⟨rfl, p⟩)
-- CALL 24 refine WL.callF rfl rfl (fun x p d => rdict_g _ _ _ (by assumption) (by assumption) $RO (by first | assumption | omega | decide) (by first | assumption | omega | decide)) (fun r => ?_) ;; refine WL.ex (fun u$N => ?_) ;; refine WL.pure (fun er => ?_) ;; subst er ;; refine WL.fact (i := 0) rfl (fun h hb => Buf.slm hb) (fun hsl$N => ?_)
theorem rdict_g (ρ : Hp) (v : Value) (vs : List Nat) {ok : Bool} {bs : List Nat} (e1 : ok = (encD vs).isSome) (e2 : bs = (encD vs).getD []) (hv : ROs ρ 1 v (vs.map ucell)) (hw : ∀ x ∈ vs, x < 18446744073709551616) (hl : vs.length ≤ 70000) :
    Fn Try.prog 24 #[v] ρ [] (fun r h => ∃ v, r = .tuple #[v, .bool ok] ∧ Buf 1 v (bs.map bcell) h) := by
  rw [e1, e2]
  exact rdict_c ρ v vs hv hw hl
-- CALL 21 refine WL.callF rfl rfl (fun x p d => denc_g _ _ _ (by assumption) (by assumption) $RO (by first | assumption | omega | decide) (by first | assumption | omega | decide)) (fun r => ?_) ;; refine WL.ex (fun u$N => ?_) ;; refine WL.pure (fun er => ?_) ;; subst er ;; refine WL.fact (i := 0) rfl (fun h hb => Buf.slm hb) (fun hsl$N => ?_)
theorem denc_g (ρ : Hp) (v : Value) (vs : List Nat) {ok : Bool} {bs : List Nat} (e1 : ok = (encD vs).isSome) (e2 : bs = (encD vs).getD []) (hv : ROs ρ 1 v (vs.map ucell)) (hw : ∀ x ∈ vs, x < 18446744073709551616) (hl : vs.length ≤ 70000) :
    Fn Try.prog 21 #[v] ρ [] (fun r h => ∃ v, r = .tuple #[v, .bool ok] ∧ Buf 1 v (bs.map bcell) h) := by
  rw [e1, e2]
  exact denc_c ρ v vs hv hw hl
theorem DictTells_fn (ρ : Hp) (v0 : Value) (z0 : List Int) (r0 : ROs ρ 1 v0 (z0.map (Value.int .u64))) (m0 : ∀ n ∈ z0, (Lit.int .u64 n).wf = true) (y0 : z0.length * 8 ≤ 140737488351232) (a1 : Int) (w1 : (Lit.int .i64 a1).wf = true) (v2 : Value) (z2 : List Int) (r2 : ROs ρ 1 v2 (z2.map (Value.int .u8))) (m2 : ∀ n ∈ z2, (Lit.int .u8 n).wf = true) (y2 : z2.length * 1 ≤ 140737488351232) (a3 : Int) (w3 : (Lit.int .i64 a3).wf = true) (a4 : Int) (w4 : (Lit.int .u8 a4).wf = true) (a5 : Int) (w5 : (Lit.int .i64 a5).wf = true) :
    Fn Try.prog 9 #[v0, .int .i64 a1, v2, .int .i64 a3, .int .u8 a4, .int .i64 a5] ρ [] (fun r _ => r = .bool true) := by
  obtain ⟨l, hl, hll, hlw⟩ := words_of m0
  rw [hl] at r0
  obtain ⟨raw, hraw, hrl, hrlt⟩ := bytes_of m2
  rw [hraw] at r2
  have s2 := r2.slm
  have hy := wf_u8 w4
  obtain ⟨by', rfl⟩ := Int.eq_ofNat_of_zero_le hy.1
  refine in9 rfl rfl ?_
  refine W.seq ?_
  refine W.region ?_
  refine WL.as rfl rfl ?_
  refine WL.nil ?_
  refine W.seq ?_
  refine W.seq ?_
  refine W.region ?_
  refine WL.mv rfl rfl ?_
  refine WL.len (T := Ty) rfl rfl (by assumption) rfl ?_
  refine WL.gtr rfl rfl rfl ?_
  refine WL.nil ?_
  refine W.condp rfl (fun hbig => ?_) (fun hsm => ?_)
  · refine W.seq ?_
    refine W.region ?_
    refine WL.callT rfl rfl (fun x p d => awake9_c _) ?_
    refine WL.as rfl rfl ?_
    refine WL.nil ?_
    exact W.ret1 rfl rfl (fun h p => rfl)
  refine W.skip ?_
  refine W.seq ?_
  refine W.region ?_
  refine WL.mv rfl rfl ?_
  refine WL.mv rfl rfl ?_
  refine WL.callF rfl rfl (fun x p d => vals_c _ _ _ _ (by first | assumption | exact ROs.wide (by assumption) | exact ROs.mono (by assumption) (eqh_at 0 rfl p d) | exact ros_at 0 rfl p d | exact ros_at 1 rfl p d | exact ros_at 2 rfl p d | exact ros_at 3 rfl p d | exact ros_at 4 rfl p d) (by first | assumption | omega | decide) (by first | assumption | omega | decide)) (fun u0 => ?_)
  refine WL.ex (fun vs => ?_)
  refine WL.pure (fun hvs => ?_)
  refine WL.fact (i := 0) rfl (fun h hb => Buf.slm hb) (fun hsl0 => ?_)
  refine WL.as rfl rfl ?_
  refine WL.nil ?_
  refine W.seq ?_
  refine W.seq ?_
  refine W.region ?_
  refine WL.mv rfl rfl ?_
  refine WL.shrS (c := 256) rfl rfl rfl (by omega) (by decide) ?_
  refine WL.andI rfl rfl rfl (by decide) ?_
  refine WL.eql rfl rfl rfl ?_
  refine WL.nil ?_
  obtain ⟨hv1, hv2⟩ := hvs
  refine W.cut (τ := Value × List Nat) (fun s => [(2, v2), (3, .int .i64 a3), (4, .int .u8 (by' : Int)), (5, .int .i64 a5), (12, .bool false), (13, s.1)]) (fun s => [Buf 1 s.1 (s.2.map ucell)])
    (fun s => s.2.length ≤ 1000 ∧ ∀ x ∈ s.2, x < 18446744073709551616) ?_ (fun cutA => ?_)
  · rintro ⟨va, ws⟩ ⟨hwl, hww⟩
    simp only [] at hwl hww ⊢
    refine W.fact (i := 0) rfl (fun h hb => Buf.slm hb) (fun hsv => ?_)
    have hwl2 : ws.length ≤ 70000 := by omega
    obtain ⟨ok, hok⟩ : ∃ ok, ok = (encD ws).isSome := ⟨_, rfl⟩
    obtain ⟨bs, hbs⟩ : ∃ bs, bs = (encD ws).getD [] := ⟨_, rfl⟩
    have hob : bs.length ≤ 20000 ∧ ∀ x ∈ bs, x < 256 := by
      rcases hen : encD ws with _ | r
      · rw [hen] at hbs; rw [hbs]; simp
      · rw [hen] at hbs; rw [hbs]
        obtain ⟨q1, q2⟩ := encD_ok hen hww
        exact ⟨by show r.length ≤ _; omega, q2⟩
    obtain ⟨hel, hw2⟩ := hob
    have hel2 : bs.length ≤ 140737488355328 := by omega
    refine W.seq ?_
    refine W.region ?_
    refine WL.mv rfl rfl ?_
    refine WL.callF rfl rfl (fun x p d => rdict_g _ _ _ (by assumption) (by assumption) (by first | assumption | exact ROs.wide (by assumption) | exact ROs.mono (by assumption) (eqh_at 0 rfl p d) | exact ros_at 0 rfl p d | exact ros_at 1 rfl p d | exact ros_at 2 rfl p d | exact ros_at 3 rfl p d | exact ros_at 4 rfl p d) (by first | assumption | omega | decide) (by first | assumption | omega | decide)) (fun r => ?_)
    refine WL.ex (fun u1 => ?_)
    refine WL.pure (fun er => ?_)
    subst er
    refine WL.fact (i := 0) rfl (fun h hb => Buf.slm hb) (fun hsl1 => ?_)
    refine WL.mv rfl rfl ?_
    refine WL.extL rfl rfl rfl ?_
    refine WL.extL rfl rfl rfl ?_
    refine WL.as rfl rfl ?_
    refine WL.as rfl rfl ?_
    refine WL.nil ?_
    refine W.seq ?_
    refine W.region ?_
    refine WL.mv rfl rfl ?_
    refine WL.callF rfl rfl (fun x p d => denc_g _ _ _ (by assumption) (by assumption) (by first | assumption | exact ROs.wide (by assumption) | exact ROs.mono (by assumption) (eqh_at 0 rfl p d) | exact ros_at 0 rfl p d | exact ros_at 1 rfl p d | exact ros_at 2 rfl p d | exact ros_at 3 rfl p d | exact ros_at 4 rfl p d) (by first | assumption | omega | decide) (by first | assumption | omega | decide)) (fun r => ?_)
    refine WL.ex (fun u2 => ?_)
    refine WL.pure (fun er => ?_)
    subst er
    refine WL.fact (i := 0) rfl (fun h hb => Buf.slm hb) (fun hsl2 => ?_)
    refine WL.mv rfl rfl ?_
    refine WL.extL rfl rfl rfl ?_
    refine WL.extL rfl rfl rfl ?_
    refine WL.as rfl rfl ?_
    refine WL.as rfl rfl ?_
    refine WL.nil ?_
    refine W.seq ?_
    refine W.seq ?_
    refine W.region ?_
    refine WL.mv rfl rfl ?_
    refine WL.mv rfl rfl ?_
    refine WL.neB (T := Ty) rfl rfl rfl rfl ?_
    refine WL.mv rfl rfl ?_
    rw [show (!(ok == ok)) = false by simp]
    refine WL.gY rfl rfl ?_
    refine WL.mv rfl rfl ?_
    refine WL.gY rfl rfl ?_
    refine WL.b2sN (T := Ty) rfl rfl rfl rfl rfl rfl rfl (.own 1 rfl) ?_
    refine WL.gY rfl rfl ?_
    refine WL.mv rfl rfl ?_
    refine WL.gY rfl rfl ?_
    refine WL.b2sN (T := Ty) rfl rfl rfl rfl rfl rfl rfl (.own 0 rfl) ?_
    refine WL.gY rfl rfl ?_
    refine WL.neST rfl rfl rfl (by first | with_reducible rfl | assumption) ?_
    refine WL.pickF rfl rfl rfl ?_
    refine WL.nil ?_
    refine W.condF rfl ?_
    refine W.skip ?_
    refine W.seq ?_
    refine W.region ?_
    refine WL.bsC (T := Ty) rfl rfl rfl rfl rfl rfl rfl (by repeat' first | exact CO.nil | apply CO.one (by first | rfl | exact SL.one (by assumption)) | apply CO.agg) rfl (by repeat' first | exact FL.nil | apply FL.cons) (fun u3 hu3 => ?_)
    refine WL.mv rfl rfl ?_
    refine WL.apN (T := Ty) (i := 0) rfl rfl rfl rfl rfl rfl rfl (by first | exact .ro (by assumption) | exact .ro (ROs.wide (by assumption)) | exact .eqJ 0 rfl (by assumption) | exact .own 0 rfl | exact .own 1 rfl | exact .own 2 rfl | exact .own 3 rfl | exact .own 4 rfl | exact .own 5 rfl) (by first | assumption | exact ROs.slm (by assumption)) (fun _ => rfl) (by first | omega | (simp; omega)) (by first | omega | (simp; omega)) (fun v' => (by repeat' first | exact FL.nil | apply FL.cons)) (fun u4 hu4 => ?_)
    refine WL.as rfl rfl ?_
    refine WL.nil ?_
    refine W.seq ?_
    refine W.region ?_
    refine WL.as rfl rfl ?_
    refine WL.nil ?_
    refine W.seq ?_
    refine W.seq ?_
    refine W.region ?_
    refine WL.mv rfl rfl ?_
    refine WL.len (T := Ty) rfl rfl (by assumption) rfl ?_
    refine WL.gtr rfl rfl rfl ?_
    refine WL.nil ?_
    refine W.drop 1 rfl (by repeat' first | exact FL.nil | apply FL.cons) ?_
    refine W.cut (τ := Nat × List Nat) (fun s => [(2, v2), (4, .int .u8 (by' : Int)), (5, .int .i64 a5), (12, .bool false), (13, va), (15, u1), (19, u4), (20, .int .i64 (s.1 : Int))]) (fun s => [Buf 1 u4 (s.2.map bcell), Buf 1 u1 (bs.map bcell), Buf 1 va (ws.map ucell)])
      (fun s => s.1 ≤ bs.length ∧ s.2.length = bs.length ∧ ∀ x ∈ s.2, x < 256) ?_ (fun cut => ?_)
    · rintro ⟨k, U⟩ ⟨hk, hUl, hU⟩
      simp only [] at hk hUl hU ⊢
      refine W.freezeAll (fun ρ1 le1 hin => ?_)
      have r3 := (hin 0 _ rfl).ros
      have r4 := (hin 1 _ rfl).ros
      have r5 := (hin 2 _ rfl).ros
      replace r2 := r2.mono le1
      have s3 := r3.slm
      have s4 := r4.slm
      have s5 := r5.slm
      refine W.seq ?_
      refine W.seq ?_
      refine W.cutR (τ := Value × Value × Value) (fun s => [(5, .int .i64 a5), (12, .bool false), (13, va), (103, s.2.2), (104, .int .i64 5), (105, .int .i64 0)])
        (fun s ρ' => ROs ρ' 1 s.1 ((bs.take k).map bcell) ∧ ROs ρ' 1 s.2.1 ((bs ++ [by']).map bcell) ∧ ROs ρ' 1 s.2.2 [v2, u1, u4, s.1, s.2.1]) ?_ (fun cut2 => ?_)
      · rintro ⟨c, ua, ls⟩ ρ2 le2 ⟨q1, q2, q3⟩
        simp only [] at q1 q2 q3 ⊢
        replace r2 := r2.mono le2
        replace r3 := r3.mono le2
        replace r4 := r4.mono le2
        replace r5 := r5.mono le2
        have hlen : bs.length ≤ 20000 := by omega
        have sls : SL ls 5 := q3.sl rfl (by omega)
        have rows : ∀ r ∈ [v2, u1, u4, c, ua], ∃ cb : List Nat, ROs ρ2 1 r (cb.map bcell) ∧ (∀ x ∈ cb, x < 256) ∧ cb.length ≤ 140737488355328 := by
          intro r hr
          simp only [List.mem_cons, List.not_mem_nil, or_false] at hr
          rcases hr with rfl | rfl | rfl | rfl | rfl
          · exact ⟨raw, r2, hrlt, by omega⟩
          · exact ⟨bs, r4, hw2, by omega⟩
          · exact ⟨U, r3, hU, by omega⟩
          · exact ⟨bs.take k, q1, fun x hx => hw2 x (List.mem_of_mem_take hx), by simp; omega⟩
          · refine ⟨bs ++ [by'], q2, fun x hx => ?_, by simp; omega⟩
            rcases List.mem_append.1 hx with h | h
            · exact hw2 x h
            · simp at h; omega
        refine W.block ?_
        refine W.loopS (σ := Nat) (fun i => [(5, .int .i64 a5), (12, .bool false), (13, va), (103, ls), (104, .int .i64 5), (105, .int .i64 (i : Int))]) (fun _ => [])
          (fun i => i ≤ 5) (fun i => 5 - i) 0 ⟨rfl, rfl, rfl, rfl, rfl, rfl, trivial⟩ rfl (by omega) ?_
        intro i hi next
        refine W.seq ?_
        refine W.region ?_
        refine WL.lss rfl rfl rfl ?_
        refine WL.nil ?_
        refine W.seq ?_
        refine W.condp rfl (fun hlt => ?_) (fun hge => ?_)
        · have hi5 : i < [v2, u1, u4, c, ua].length := by simp; omega
          obtain ⟨cv, hcv⟩ : ∃ cv, [v2, u1, u4, c, ua][i]? = some cv := ⟨_, List.getElem?_eq_getElem hi5⟩
          obtain ⟨cb, rc, hcw, hcl⟩ := rows cv (List.mem_of_getElem? hcv)
          refine W.skip ?_
          refine W.seq ?_
          refine W.block ?_
          refine W.seq ?_
          refine W.region ?_
          refine WL.ix (T := Ty) rfl rfl rfl (by assumption) rfl rfl (by omega) (by first | omega | decide +kernel) ?_
          refine WL.ldKn (T := Ty) rfl rfl rfl rfl (by first | assumption | exact ROs.wide (by assumption)) (by assumption) ?_
          refine WL.as rfl rfl ?_
          refine WL.nil ?_
          refine W.seq ?_
          refine W.region ?_
          refine WL.mv rfl rfl ?_
          refine WL.mv rfl rfl ?_
          refine WL.andI rfl rfl rfl (by decide) ?_
          refine WL.mv rfl rfl ?_
          refine WL.len (T := Ty) rfl rfl (by assumption) rfl ?_
          refine WL.bsC (T := Ty) rfl rfl rfl rfl rfl rfl rfl (by repeat' first | exact CO.nil | apply CO.one (by first | rfl | exact SL.one (by assumption)) | apply CO.agg) rfl (by repeat' first | exact FL.nil | apply FL.cons) (fun u5 hu5 => ?_)
          refine WL.reC (Value.int .i64) [a5, a5 % (63 + 1), ↑ws.length, -1] rfl ?_
          refine WL.len (T := Ty) rfl rfl (by assumption) rfl ?_
          refine WL.mv rfl rfl ?_
          refine WL.nil ?_
          refine W.block ?_
          refine W.loopS (σ := Nat) (fun j => [(5, .int .i64 a5), (12, .bool false), (13, va), (22, cv), (103, ls), (104, .int .i64 5), (105, .int .i64 (i : Int)), (114, u5), (115, .int .i64 4), (116, .int .i64 (j : Int))]) (fun _ => [Buf 1 u5 [.int .i64 a5, .int .i64 (a5 % (63 + 1)), .int .i64 (ws.length : Int), .int .i64 (-1)]])
            (fun j => j ≤ 4) (fun j => 4 - j) 0 ⟨rfl, rfl, rfl, rfl, rfl, rfl, rfl, rfl, rfl, rfl, trivial⟩ rfl (by omega) ?_
          intro j hj next2
          refine W.seq ?_
          refine W.region ?_
          refine WL.lss rfl rfl rfl ?_
          refine WL.nil ?_
          refine W.seq ?_
          refine W.condp rfl (fun hlt4 => ?_) (fun hge4 => ?_)
          · obtain ⟨m, hm⟩ : ∃ m : Int, [Value.int .i64 a5, .int .i64 (a5 % (63 + 1)), .int .i64 (ws.length : Int), .int .i64 (-1)][j]? = some (.int .i64 m) := by
              rcases (by omega : j = 0 ∨ j = 1 ∨ j = 2 ∨ j = 3) with rfl | rfl | rfl | rfl
              all_goals exact ⟨_, rfl⟩
            rcases hdec : decD cb m with _ | ys
            · refine W.skip ?_
              refine W.seq ?_
              refine W.block ?_
              refine W.seq ?_
              refine W.region ?_
              refine WL.ix (T := Ty) rfl rfl rfl (by assumption) rfl rfl (by omega) (by first | omega | decide +kernel) ?_
              refine WL.ldEK (T := Ty) (j := 0) rfl rfl rfl rfl rfl (by assumption) (by omega) ?_
              refine WL.as rfl rfl ?_
              refine WL.nil ?_
              refine W.seq ?_
              refine W.region ?_
              refine WL.mv rfl rfl ?_
              refine WL.mv rfl rfl ?_
              refine WL.callF rfl rfl (fun x p d => ddec_n _ _ _ _ (by first | assumption | exact ROs.wide (by assumption) | exact ROs.mono (by assumption) (eqh_at 0 rfl p d) | exact ros_at 0 rfl p d | exact ros_at 1 rfl p d | exact ros_at 2 rfl p d | exact ros_at 3 rfl p d | exact ros_at 4 rfl p d) (by assumption) (by first | assumption | omega | decide) (by first | assumption | omega | decide)) (fun r => ?_)
              refine WL.ex (fun u6 => ?_)
              refine WL.pure (fun er => ?_)
              subst er
              refine WL.fact (i := 0) rfl (fun h hb => Buf.slm hb) (fun hsl6 => ?_)
              refine WL.mv rfl rfl ?_
              refine WL.extL rfl rfl rfl ?_
              refine WL.extL rfl rfl rfl ?_
              refine WL.as rfl rfl ?_
              refine WL.as rfl rfl ?_
              refine WL.nil ?_
              refine W.seq ?_
              refine W.region ?_
              refine WL.mv rfl rfl ?_
              refine WL.mv rfl rfl ?_
              refine WL.callF rfl rfl (fun x p d => rgetdict_n _ _ _ _ (by first | assumption | exact ROs.wide (by assumption) | exact ROs.mono (by assumption) (eqh_at 0 rfl p d) | exact ros_at 0 rfl p d | exact ros_at 1 rfl p d | exact ros_at 2 rfl p d | exact ros_at 3 rfl p d | exact ros_at 4 rfl p d) (by assumption) (by first | assumption | omega | decide) (by first | assumption | omega | decide)) (fun r => ?_)
              refine WL.ex (fun u7 => ?_)
              refine WL.pure (fun er => ?_)
              subst er
              refine WL.fact (i := 0) rfl (fun h hb => Buf.slm hb) (fun hsl7 => ?_)
              refine WL.mv rfl rfl ?_
              refine WL.extL rfl rfl rfl ?_
              refine WL.extL rfl rfl rfl ?_
              refine WL.as rfl rfl ?_
              refine WL.as rfl rfl ?_
              refine WL.nil ?_
              refine W.seq ?_
              refine W.region ?_
              refine WL.mv rfl rfl ?_
              refine WL.mv rfl rfl ?_
              refine WL.neB (T := Ty) rfl rfl rfl rfl ?_
              refine WL.mv rfl rfl ?_
              refine WL.gY rfl rfl ?_
              refine WL.mv rfl rfl ?_
              refine WL.gY rfl rfl ?_
              refine WL.mv rfl rfl ?_
              refine WL.gY rfl rfl ?_
              refine WL.callV rfl rfl (fun x p d => samew_t _ _ _ _ _ (by first | with_reducible rfl | assumption) (by first | assumption | exact ROs.wide (by assumption) | exact ROs.mono (by assumption) (eqh_at 0 rfl p d) | exact ros_at 0 rfl p d | exact ros_at 1 rfl p d | exact ros_at 2 rfl p d | exact ros_at 3 rfl p d | exact ros_at 4 rfl p d) (by first | assumption | exact ROs.wide (by assumption) | exact ROs.mono (by assumption) (eqh_at 0 rfl p d) | exact ros_at 0 rfl p d | exact ros_at 1 rfl p d | exact ros_at 2 rfl p d | exact ros_at 3 rfl p d | exact ros_at 4 rfl p d) (by first | assumption | omega | exact Nat.zero_le _ | decide)) ?_
              refine WL.gY rfl rfl ?_
              refine WL.not rfl rfl ?_
              refine WL.pickF rfl rfl rfl ?_
              refine WL.nil ?_
              refine W.condF rfl ?_
              refine W.skip ?_
              refine W.inBlock ?_
              refine W.region ?_
              refine WL.addK rfl rfl rfl (wrap_i64 ⟨by omega, by omega⟩) ?_
              refine WL.mv rfl rfl ?_
              refine WL.nil ?_
              refine W.drop 0 rfl (by repeat' first | exact FL.nil | apply FL.cons) ?_
              refine W.drop 0 rfl (by repeat' first | exact FL.nil | apply FL.cons) ?_
              refine W.sub ?_ (next2 (j + 1) (by omega) (by omega))
              exact ⟨rfl, rfl, rfl, rfl, rfl, rfl, rfl, rfl, rfl, rfl, trivial⟩
            · have hys := decD_ok hcw hdec
              have hyl : ys.length ≤ 17592186044416 := by have := heldM_le m; omega
              refine W.skip ?_
              refine W.seq ?_
              refine W.block ?_
              refine W.seq ?_
              refine W.region ?_
              refine WL.ix (T := Ty) rfl rfl rfl (by assumption) rfl rfl (by omega) (by first | omega | decide +kernel) ?_
              refine WL.ldEK (T := Ty) (j := 0) rfl rfl rfl rfl rfl (by assumption) (by omega) ?_
              refine WL.as rfl rfl ?_
              refine WL.nil ?_
              refine W.seq ?_
              refine W.region ?_
              refine WL.mv rfl rfl ?_
              refine WL.mv rfl rfl ?_
              refine WL.callF rfl rfl (fun x p d => ddec_s _ _ _ _ (by first | assumption | exact ROs.wide (by assumption) | exact ROs.mono (by assumption) (eqh_at 0 rfl p d) | exact ros_at 0 rfl p d | exact ros_at 1 rfl p d | exact ros_at 2 rfl p d | exact ros_at 3 rfl p d | exact ros_at 4 rfl p d) (by assumption) (by first | assumption | omega | decide) (by first | assumption | omega | decide)) (fun r => ?_)
              refine WL.ex (fun u6 => ?_)
              refine WL.pure (fun er => ?_)
              subst er
              refine WL.fact (i := 0) rfl (fun h hb => Buf.slm hb) (fun hsl6 => ?_)
              refine WL.mv rfl rfl ?_
              refine WL.extL rfl rfl rfl ?_
              refine WL.extL rfl rfl rfl ?_
              refine WL.as rfl rfl ?_
              refine WL.as rfl rfl ?_
              refine WL.nil ?_
              refine W.seq ?_
              refine W.region ?_
              refine WL.mv rfl rfl ?_
              refine WL.mv rfl rfl ?_
              refine WL.callF rfl rfl (fun x p d => rgetdict_s _ _ _ _ (by first | assumption | exact ROs.wide (by assumption) | exact ROs.mono (by assumption) (eqh_at 0 rfl p d) | exact ros_at 0 rfl p d | exact ros_at 1 rfl p d | exact ros_at 2 rfl p d | exact ros_at 3 rfl p d | exact ros_at 4 rfl p d) (by assumption) (by first | assumption | omega | decide) (by first | assumption | omega | decide)) (fun r => ?_)
              refine WL.ex (fun u7 => ?_)
              refine WL.pure (fun er => ?_)
              subst er
              refine WL.fact (i := 0) rfl (fun h hb => Buf.slm hb) (fun hsl7 => ?_)
              refine WL.mv rfl rfl ?_
              refine WL.extL rfl rfl rfl ?_
              refine WL.extL rfl rfl rfl ?_
              refine WL.as rfl rfl ?_
              refine WL.as rfl rfl ?_
              refine WL.nil ?_
              refine W.seq ?_
              refine W.region ?_
              refine WL.mv rfl rfl ?_
              refine WL.mv rfl rfl ?_
              refine WL.neB (T := Ty) rfl rfl rfl rfl ?_
              refine WL.mv rfl rfl ?_
              refine WL.gY rfl rfl ?_
              refine WL.mv rfl rfl ?_
              refine WL.gY rfl rfl ?_
              refine WL.mv rfl rfl ?_
              refine WL.gY rfl rfl ?_
              refine WL.callV rfl rfl (fun x p d => samew_t _ _ _ _ _ (by first | with_reducible rfl | assumption) (by first | assumption | exact ROs.wide (by assumption) | exact ROs.mono (by assumption) (eqh_at 0 rfl p d) | exact ros_at 0 rfl p d | exact ros_at 1 rfl p d | exact ros_at 2 rfl p d | exact ros_at 3 rfl p d | exact ros_at 4 rfl p d) (by first | assumption | exact ROs.wide (by assumption) | exact ROs.mono (by assumption) (eqh_at 0 rfl p d) | exact ros_at 0 rfl p d | exact ros_at 1 rfl p d | exact ros_at 2 rfl p d | exact ros_at 3 rfl p d | exact ros_at 4 rfl p d) (by first | assumption | omega | exact Nat.zero_le _ | decide)) ?_
              refine WL.gY rfl rfl ?_
              refine WL.not rfl rfl ?_
              refine WL.pickF rfl rfl rfl ?_
              refine WL.nil ?_
              refine W.condF rfl ?_
              refine W.skip ?_
              refine W.inBlock ?_
              refine W.region ?_
              refine WL.addK rfl rfl rfl (wrap_i64 ⟨by omega, by omega⟩) ?_
              refine WL.mv rfl rfl ?_
              refine WL.nil ?_
              refine W.drop 0 rfl (by repeat' first | exact FL.nil | apply FL.cons) ?_
              refine W.drop 0 rfl (by repeat' first | exact FL.nil | apply FL.cons) ?_
              refine W.sub ?_ (next2 (j + 1) (by omega) (by omega))
              exact ⟨rfl, rfl, rfl, rfl, rfl, rfl, rfl, rfl, rfl, rfl, trivial⟩
          · refine W.exit rfl ?_
            refine W.inBlock ?_
            refine W.region ?_
            refine WL.addK rfl rfl rfl (wrap_i64 ⟨by omega, by omega⟩) ?_
            refine WL.mv rfl rfl ?_
            refine WL.nil ?_
            refine W.drop 0 rfl (by repeat' first | exact FL.nil | apply FL.cons) ?_
            refine W.sub ?_ (next (i + 1) (by omega) (by omega))
            exact ⟨rfl, rfl, rfl, rfl, rfl, rfl, trivial⟩
        · refine W.exit rfl ?_
          refine W.seq ?_
          refine W.region ?_
          refine WL.callT rfl rfl (fun x p d => awake9_c _) ?_
          refine WL.as rfl rfl ?_
          refine WL.nil ?_
          exact W.ret1 rfl rfl (fun h p => rfl)
      · refine W.drawA 15 rfl (fun σ0 hσ0 dσ0 => ?_)
        have useEqh := trivial
        refine WD.takeL 0 rfl (by decide +kernel) ?_
        refine WL.mv rfl rfl ?_
        refine WL.nilT ?_
        refine WD.takeL 1 rfl (by decide +kernel) ?_
        refine WL.mv rfl rfl ?_
        refine WL.nilT ?_
        refine WD.takeL 2 rfl (by decide +kernel) ?_
        refine WL.mv rfl rfl ?_
        refine WL.nilT ?_
        refine WD.takeL 3 rfl (by decide +kernel) ?_
        refine WL.mv rfl rfl ?_
        refine WL.nilT ?_
        refine WD.takeL 4 rfl (by decide +kernel) ?_
        refine WL.mv rfl rfl ?_
        refine WL.nilT ?_
        refine WD.takeL 5 rfl (by decide +kernel) ?_
        refine WL.slTn (T := Ty) rfl rfl rfl rfl rfl (by first | assumption | exact ROs.wide (by assumption)) (by first | assumption | omega | (simp; omega)) (fun u5 hu5 ru5 => ?_)
        refine WL.nilT ?_
        refine WD.takeL 7 rfl (by decide +kernel) ?_
        refine WL.mv rfl rfl ?_
        refine WL.nilT ?_
        refine WD.takeL 9 rfl (by decide +kernel) ?_
        refine WL.mv rfl rfl ?_
        refine WL.nilT ?_
        refine WD.takeL 14 rfl (by decide +kernel) ?_
        refine WL.mv rfl rfl ?_
        refine WL.nilT ?_
        refine WD.twoL 6 10 rfl rfl (by decide +kernel) ?_ ?_
        · refine WL.bsC (T := Ty) rfl rfl rfl rfl rfl rfl rfl (by repeat' first | exact CO.nil | apply CO.one (by first | rfl | exact SL.one (by assumption)) | apply CO.agg) rfl (by repeat' first | exact FL.nil | apply FL.cons) (fun u6 hu6 => ?_)
          refine WL.nilS ?_
          refine WD.twoL 8 10 rfl rfl (by decide +kernel) ?_ ?_
          · refine WL.apN (T := Ty) (i := 1) rfl rfl rfl rfl rfl rfl rfl (by first | exact .ro (by assumption) | exact .ro (ROs.wide (by assumption)) | exact .eqJ 0 rfl (by assumption) | exact .own 0 rfl | exact .own 1 rfl | exact .own 2 rfl | exact .own 3 rfl | exact .own 4 rfl | exact .own 5 rfl) (by first | assumption | exact ROs.slm (by assumption)) (fun _ => rfl) (by first | omega | (simp; omega)) (by first | omega | (simp; omega)) (fun v' => (by repeat' first | exact FL.nil | apply FL.cons)) (fun u7 hu7 => ?_)
            refine WL.nilE ?_
            refine WD.oneL 10 rfl (by decide +kernel) ?_
            refine WL.bsC (T := Ty) rfl rfl rfl rfl rfl rfl rfl (by repeat' first | exact CO.nil | apply CO.one (by first | rfl | exact SL.one (by assumption)) | apply CO.agg) rfl (by repeat' first | exact FL.nil | apply FL.cons) (fun u8 hu8 => ?_)
            refine WL.nilH hσ0 (fun σ1 hσ1 dσ1 mσ1 => ?_)
            have ru5 := ru5.mono mσ1
            have fσ1_0 := ros_at 0 rfl hσ1 dσ1
            refine WD.oneL 11 rfl (by decide +kernel) ?_
            refine WL.apQ (T := Ty) (i := 1) rfl rfl rfl rfl rfl rfl rfl (by first | exact .ro (by assumption) | exact .ro (ROs.wide (by assumption)) | exact .eqJ 0 rfl (by assumption) | exact .own 0 rfl | exact .own 1 rfl | exact .own 2 rfl | exact .own 3 rfl | exact .own 4 rfl | exact .own 5 rfl) (by first | assumption | exact ROs.slm (by assumption)) (fun _ => rfl) (by first | omega | (simp; omega)) (by first | omega | (simp; omega)) (fun v' => (by repeat' first | exact FL.nil | apply FL.cons)) (fun u9 hu9 => ?_)
            refine WL.nilE ?_
            refine WD.oneL 12 rfl (by decide +kernel) ?_
            refine WL.bsC (T := Ty) rfl rfl rfl rfl rfl rfl rfl (by repeat' first | exact CO.nil | apply CO.one (by first | rfl | exact SL.one (by assumption)) | apply CO.agg) rfl (by repeat' first | exact FL.nil | apply FL.cons) (fun u10 hu10 => ?_)
            refine WL.nilH hσ1 (fun σ2 hσ2 dσ2 mσ2 => ?_)
            have ru5 := ru5.mono mσ2
            have fσ1_0 := fσ1_0.mono mσ2
            have fσ2_0 := ros_at 0 rfl hσ2 dσ2
            refine WD.takeL 13 rfl (by decide +kernel) ?_
            refine WL.len (T := Ty) rfl rfl (by assumption) rfl ?_
            refine WL.nilT ?_
            refine WD.doneF (eqh_self _) (by decide +kernel) (by repeat' first | exact FL.nil | apply FL.cons) ?_
            refine W.freezeAll (fun ρ' le hin => ?_)
            have eqm := (hin 0 _ rfl).eqh le
            refine W.sub ?_ (cut2 (u5, u9, u10) ρ' le ⟨ru5.mono eqm, (hin 1 _ rfl).ros, fσ2_0.mono eqm⟩)
            exact ⟨rfl, rfl, rfl, rfl, rfl, rfl, trivial⟩
          · refine WL.bsC (T := Ty) rfl rfl rfl rfl rfl rfl rfl (by repeat' first | exact CO.nil | apply CO.one (by first | rfl | exact SL.one (by assumption)) | apply CO.agg) rfl (by repeat' first | exact FL.nil | apply FL.cons) (fun u7 hu7 => ?_)
            refine WL.nilH hσ0 (fun σ1 hσ1 dσ1 mσ1 => ?_)
            have ru5 := ru5.mono mσ1
            have fσ1_0 := ros_at 0 rfl hσ1 dσ1
            refine WD.oneL 8 rfl (by decide +kernel) ?_
            refine WL.apN (T := Ty) (i := 1) rfl rfl rfl rfl rfl rfl rfl (by first | exact .ro (by assumption) | exact .ro (ROs.wide (by assumption)) | exact .eqJ 0 rfl (by assumption) | exact .own 0 rfl | exact .own 1 rfl | exact .own 2 rfl | exact .own 3 rfl | exact .own 4 rfl | exact .own 5 rfl) (by first | assumption | exact ROs.slm (by assumption)) (fun _ => rfl) (by first | omega | (simp; omega)) (by first | omega | (simp; omega)) (fun v' => (by repeat' first | exact FL.nil | apply FL.cons)) (fun u8 hu8 => ?_)
            refine WL.nilE ?_
            refine WD.oneL 11 rfl (by decide +kernel) ?_
            refine WL.apQ (T := Ty) (i := 1) rfl rfl rfl rfl rfl rfl rfl (by first | exact .ro (by assumption) | exact .ro (ROs.wide (by assumption)) | exact .eqJ 0 rfl (by assumption) | exact .own 0 rfl | exact .own 1 rfl | exact .own 2 rfl | exact .own 3 rfl | exact .own 4 rfl | exact .own 5 rfl) (by first | assumption | exact ROs.slm (by assumption)) (fun _ => rfl) (by first | omega | (simp; omega)) (by first | omega | (simp; omega)) (fun v' => (by repeat' first | exact FL.nil | apply FL.cons)) (fun u9 hu9 => ?_)
            refine WL.nilE ?_
            refine WD.oneL 12 rfl (by decide +kernel) ?_
            refine WL.bsC (T := Ty) rfl rfl rfl rfl rfl rfl rfl (by repeat' first | exact CO.nil | apply CO.one (by first | rfl | exact SL.one (by assumption)) | apply CO.agg) rfl (by repeat' first | exact FL.nil | apply FL.cons) (fun u10 hu10 => ?_)
            refine WL.nilH hσ1 (fun σ2 hσ2 dσ2 mσ2 => ?_)
            have ru5 := ru5.mono mσ2
            have fσ1_0 := fσ1_0.mono mσ2
            have fσ2_0 := ros_at 0 rfl hσ2 dσ2
            refine WD.takeL 13 rfl (by decide +kernel) ?_
            refine WL.len (T := Ty) rfl rfl (by assumption) rfl ?_
            refine WL.nilT ?_
            refine WD.doneF (eqh_self _) (by decide +kernel) (by repeat' first | exact FL.nil | apply FL.cons) ?_
            refine W.freezeAll (fun ρ' le hin => ?_)
            have eqm := (hin 0 _ rfl).eqh le
            refine W.sub ?_ (cut2 (u5, u9, u10) ρ' le ⟨ru5.mono eqm, (hin 1 _ rfl).ros, fσ2_0.mono eqm⟩)
            exact ⟨rfl, rfl, rfl, rfl, rfl, rfl, trivial⟩
        · refine WL.bsC (T := Ty) rfl rfl rfl rfl rfl rfl rfl (by repeat' first | exact CO.nil | apply CO.one (by first | rfl | exact SL.one (by assumption)) | apply CO.agg) rfl (by repeat' first | exact FL.nil | apply FL.cons) (fun u6 hu6 => ?_)
          refine WL.nilH hσ0 (fun σ1 hσ1 dσ1 mσ1 => ?_)
          have ru5 := ru5.mono mσ1
          have fσ1_0 := ros_at 0 rfl hσ1 dσ1
          refine WD.oneL 6 rfl (by decide +kernel) ?_
          refine WL.bsC (T := Ty) rfl rfl rfl rfl rfl rfl rfl (by repeat' first | exact CO.nil | apply CO.one (by first | rfl | exact SL.one (by assumption)) | apply CO.agg) rfl (by repeat' first | exact FL.nil | apply FL.cons) (fun u7 hu7 => ?_)
          refine WL.nilS ?_
          refine WD.oneL 8 rfl (by decide +kernel) ?_
          refine WL.apN (T := Ty) (i := 1) rfl rfl rfl rfl rfl rfl rfl (by first | exact .ro (by assumption) | exact .ro (ROs.wide (by assumption)) | exact .eqJ 0 rfl (by assumption) | exact .own 0 rfl | exact .own 1 rfl | exact .own 2 rfl | exact .own 3 rfl | exact .own 4 rfl | exact .own 5 rfl) (by first | assumption | exact ROs.slm (by assumption)) (fun _ => rfl) (by first | omega | (simp; omega)) (by first | omega | (simp; omega)) (fun v' => (by repeat' first | exact FL.nil | apply FL.cons)) (fun u8 hu8 => ?_)
          refine WL.nilE ?_
          refine WD.oneL 11 rfl (by decide +kernel) ?_
          refine WL.apQ (T := Ty) (i := 1) rfl rfl rfl rfl rfl rfl rfl (by first | exact .ro (by assumption) | exact .ro (ROs.wide (by assumption)) | exact .eqJ 0 rfl (by assumption) | exact .own 0 rfl | exact .own 1 rfl | exact .own 2 rfl | exact .own 3 rfl | exact .own 4 rfl | exact .own 5 rfl) (by first | assumption | exact ROs.slm (by assumption)) (fun _ => rfl) (by first | omega | (simp; omega)) (by first | omega | (simp; omega)) (fun v' => (by repeat' first | exact FL.nil | apply FL.cons)) (fun u9 hu9 => ?_)
          refine WL.nilE ?_
          refine WD.oneL 12 rfl (by decide +kernel) ?_
          refine WL.bsC (T := Ty) rfl rfl rfl rfl rfl rfl rfl (by repeat' first | exact CO.nil | apply CO.one (by first | rfl | exact SL.one (by assumption)) | apply CO.agg) rfl (by repeat' first | exact FL.nil | apply FL.cons) (fun u10 hu10 => ?_)
          refine WL.nilH hσ1 (fun σ2 hσ2 dσ2 mσ2 => ?_)
          have ru5 := ru5.mono mσ2
          have fσ1_0 := fσ1_0.mono mσ2
          have fσ2_0 := ros_at 0 rfl hσ2 dσ2
          refine WD.takeL 13 rfl (by decide +kernel) ?_
          refine WL.len (T := Ty) rfl rfl (by assumption) rfl ?_
          refine WL.nilT ?_
          refine WD.doneF (eqh_self _) (by decide +kernel) (by repeat' first | exact FL.nil | apply FL.cons) ?_
          refine W.freezeAll (fun ρ' le hin => ?_)
          have eqm := (hin 0 _ rfl).eqh le
          refine W.sub ?_ (cut2 (u5, u9, u10) ρ' le ⟨ru5.mono eqm, (hin 1 _ rfl).ros, fσ2_0.mono eqm⟩)
          exact ⟨rfl, rfl, rfl, rfl, rfl, rfl, trivial⟩
    · refine W.condp rfl (fun hpos => ?_) (fun hpos => ?_)
      · have hb0 : 0 < (bs.length : Int) := hpos
        obtain ⟨k, hk, hkl⟩ : ∃ k : Nat, a3 % (65535 + 1) % (bs.length : Int) = (k : Int) ∧ k < bs.length := ⟨(a3 % (65535 + 1) % (bs.length : Int)).toNat, by
          have := Int.emod_nonneg (a3 % (65535 + 1)) (b := (bs.length : Int)) (by omega)
          omega, by
          have := Int.emod_nonneg (a3 % (65535 + 1)) (b := (bs.length : Int)) (by omega)
          have := Int.emod_lt_of_pos (a3 % (65535 + 1)) (b := (bs.length : Int)) (by omega)
          omega⟩
        refine W.seq ?_
        refine W.region ?_
        refine WL.mv rfl rfl ?_
        refine WL.andI rfl rfl rfl (by decide) ?_
        refine WL.mv rfl rfl ?_
        refine WL.len (T := Ty) rfl rfl (by assumption) rfl ?_
        refine WL.remI rfl rfl rfl (by omega) (by omega) ?_
        refine WL.as rfl rfl ?_
        refine WL.nil ?_
        refine W.region ?_
        refine WL.mv rfl rfl ?_
        refine WL.mv rfl rfl ?_
        refine WL.mv rfl rfl ?_
        refine WL.ix (T := Ty) rfl rfl rfl (by assumption) rfl rfl (by omega) (by first | omega | decide +kernel) ?_
        rw [hk]
        skip
        refine WL.stEF (T := Ty) (j := 0) (cs' := (bs.set k by').map bcell) rfl rfl rfl rfl rfl rfl (by simp; omega) (by rw [show ((k : Int)).toNat * 1 = k by omega, List.map_set]; rfl) (by repeat' first | exact FL.nil | apply FL.cons) ?_
        refine WL.nil ?_
        refine W.sub ?_ (cut ⟨k, bs.set k by'⟩ ⟨by omega, by simp, fun x hx => (List.mem_or_eq_of_mem_set hx).elim (hw2 x) (fun e => by omega)⟩)
        exact ⟨rfl, rfl, rfl, rfl, rfl, rfl, rfl, rfl, trivial⟩
      · refine W.skip ?_
        refine W.sub ?_ (cut ⟨0, bs⟩ ⟨Nat.zero_le _, rfl, hw2⟩)
        exact ⟨rfl, rfl, rfl, rfl, rfl, rfl, rfl, rfl, trivial⟩
  · refine W.condp rfl (fun hc => ?_) (fun hc => ?_)
    · refine W.seq ?_
      refine W.region ?_
      refine WL.as rfl rfl ?_
      refine WL.nil ?_
      refine W.block ?_
      refine W.loopS (σ := Nat × Value × List Nat) (fun s => [(1, .int .i64 a1), (2, v2), (3, .int .i64 a3), (4, .int .u8 (by' : Int)), (5, .int .i64 a5), (12, .bool false), (13, s.2.1), (14, .int .i64 (s.1 : Int))]) (fun s => [Buf 1 s.2.1 (s.2.2.map ucell)])
        (fun s => s.1 ≤ 265 ∧ s.2.2.length = vs.length + s.1 ∧ ∀ x ∈ s.2.2, x < 18446744073709551616) (fun s => 265 - s.1) (0, u0, vs) ⟨rfl, rfl, rfl, rfl, rfl, rfl, rfl, rfl, trivial⟩ rfl ⟨Nat.zero_le _, rfl, hv2⟩ ?_
      rintro ⟨i, o, ws⟩ ⟨hi, hwl, hww⟩ next
      simp only [] at hi hwl hww next ⊢
      refine W.fact (i := 0) rfl (fun h hb => Buf.slm hb) (fun hso => ?_)
      have hby : by' < 256 := by omega
      refine W.seq ?_
      refine W.seq ?_
      refine W.region ?_
      refine WL.mv rfl rfl ?_
      refine WL.mv rfl rfl ?_
      refine WL.shrS (c := 2048) rfl rfl rfl (by omega) (by decide) ?_
      refine WL.andI rfl rfl rfl (by decide) ?_
      refine WL.addK rfl rfl rfl (wrap_i64 ⟨by omega, by omega⟩) ?_
      refine WL.lss rfl rfl rfl ?_
      refine WL.nil ?_
      refine W.condp rfl (fun hlt => ?_) (fun hge => ?_)
      · refine W.skip ?_
        refine W.seq ?_
        refine W.block ?_
        refine W.region ?_
        refine WL.mv rfl rfl ?_
        refine WL.mv rfl rfl ?_
        refine WL.cvK (T := Ty) rfl rfl rfl rfl (wrap_u64 ⟨by omega, by omega⟩) ?_
        refine WL.mv rfl rfl ?_
        refine WL.callV rfl rfl (fun x p d => by64_c _ _ (by omega)) ?_
        refine WL.mul (K := .u64) rfl rfl rfl ?_
        refine WL.bsC (T := Ty) rfl rfl rfl rfl rfl rfl rfl (by repeat' first | exact CO.nil | apply CO.one (by first | rfl | exact SL.one (by assumption)) | apply CO.agg) rfl (by repeat' first | exact FL.nil | apply FL.cons) (fun u1 hu1 => ?_)
        refine WL.ap1 (T := Ty) (i := 0) rfl rfl rfl rfl rfl rfl rfl rfl (by assumption) (by first | rfl | assumption) (by first | omega | (simp; omega)) (by first | omega | (simp; omega)) (fun v' => (by repeat' first | exact FL.nil | apply FL.cons)) (fun u2 hu2 => ?_)
        refine WL.as rfl rfl ?_
        refine WL.nil ?_
        refine W.inBlock ?_
        refine W.region ?_
        refine WL.mv rfl rfl ?_
        refine WL.addK rfl rfl rfl (wrap_i64 ⟨by omega, by omega⟩) ?_
        refine WL.as rfl rfl ?_
        refine WL.nil ?_
        obtain ⟨h0, h1⟩ := wrap_u64_bnd ((i : Int) * ((by' : Int) * 2 + 1))
        obtain ⟨m, hm⟩ := Int.eq_ofNat_of_zero_le h0
        rw [hm] at h1 ⊢
        refine W.sub ?_ (W.hs (fun h p => ?_) (next ⟨i + 1, u2, ws ++ [m]⟩ ⟨by simp only []; omega, by simp; omega, ?_⟩ (by simp only []; omega)))
        · exact ⟨rfl, rfl, rfl, rfl, rfl, rfl, rfl, rfl, trivial⟩
        · simp only []
          rw [List.map_append]
          exact p
        · intro x hx
          rcases List.mem_append.1 hx with h | h
          · exact hww x h
          · simp at h; omega
      · refine W.exit rfl ?_
        refine W.sub ?_ (cutA ⟨o, ws⟩ ⟨by simp only []; omega, hww⟩)
        exact ⟨rfl, rfl, rfl, rfl, rfl, rfl, trivial⟩
    · refine W.skip ?_
      refine W.sub ?_ (cutA ⟨u0, vs⟩ ⟨by simp only []; omega, hv2⟩)
      exact ⟨rfl, rfl, rfl, rfl, rfl, rfl, trivial⟩
end Go.Proofs.Ytjibmfkhhljhcaa
