/- DireOwn. -/
import Derived.Test.YtlmhjkbbooghfaaStc
import Derived.Test.YtlmhjkbbooghfaaNum
import Derived.Test.YtlmhjkbbooghfaaTab
import Derived.Test.YtlmhjkbbooghfaaDireAwake
import Derived.Test.YtlmhjkbbooghfaaDireL
set_option linter.unusedSimpArgs false
set_option linter.unusedVariables false
set_option maxRecDepth 20000
set_option maxHeartbeats 4000000
namespace Go.Proofs.Ytlmhjkbbooghfaa
open Go
attribute [local irreducible] W WL Fn Buf ROs SL eptr box Rd Src bndOK WD RB Reads In dirC dirZ
theorem sm_set {l : List (Int × Int)} {i : Nat} {q q' : Int × Int} (h : l[i]? = some q) (j : Nat) {v : Value} (hj : j < 2) (hb : (smC q).set j v = smC q') : (l.flatMap smC).set (((i : Nat) : Int).toNat * 2 + j) v = (l.set i q').flatMap smC := flat_set sm_len h hj hb
theorem sm_get {l : List (Int × Int)} {i : Nat} {q : Int × Int} (h : l[i]? = some q) (j : Nat) {v : Value} (hv : (smC q)[j]? = some v) : (l.flatMap smC)[((i : Nat) : Int).toNat * 2 + j]? = some v := flat_get sm_len h hv
theorem pa_set {l : List Prt} {i : Nat} {q q' : Prt} (h : l[i]? = some q) (j : Nat) {v : Value} (hj : j < 5) (hb : (paC q).set j v = paC q') : (l.flatMap paC).set (((i : Nat) : Int).toNat * 5 + j) v = (l.set i q').flatMap paC := flat_set pa_len h hj hb
theorem DireOwn_fn (ρ : Hp) (v0 : Value) (z0 : List (Int × Int)) (r0 : ROs ρ 2 v0 (z0.flatMap (twoC .i64 .u64))) (m0 : ∀ q ∈ z0, (Lit.int .i64 q.1).wf = true ∧ (Lit.int .u64 q.2).wf = true) (y0 : z0.length * 16 ≤ 140737488351232) :
    Fn Try.prog 4 #[v0] ρ [] (fun r _ => r = .bool true) := by
  have s0 : SL v0 z0.length := r0.sl (flat_len sm_len z0) (by omega)
  refine in4 rfl rfl ?_
  refine W.seq ?_
  refine W.region ?_
  refine WL.as rfl rfl ?_
  refine WL.nil ?_
  refine W.seq ?_
  refine W.seq ?_
  refine W.region ?_
  refine WL.mv rfl rfl ?_
  refine WL.len (T := Ty) rfl rfl (by assumption) rfl ?_
  refine WL.gtr rfl rfl rfl ?_
  refine WL.nil ?_
  refine W.condp rfl (fun hbig => ?_) (fun hsm => ?_)
  · refine W.seq ?_
    refine W.region ?_
    refine WL.callT rfl rfl (fun x p d => awake18_c _) ?_
    refine WL.as rfl rfl ?_
    refine WL.nil ?_
    exact W.ret1 rfl rfl (fun h p => rfl)
  refine W.skip ?_
  refine W.seq ?_
  refine W.region ?_
  refine WL.callF rfl rfl (fun x p d => new_z _) (fun r => ?_)
  refine WL.ex (fun b0 => ?_)
  refine WL.pure (fun er => ?_)
  subst er
  refine WL.as rfl rfl ?_
  refine WL.nil ?_
  refine W.seq ?_
  refine W.seq ?_
  refine W.region ?_
  refine WL.mv rfl rfl ?_
  refine WL.eqP (T := Ty) rfl rfl rfl ?_
  refine WL.nil ?_
  refine W.condF rfl ?_
  refine W.skip ?_
  refine W.seq ?_
  refine W.region ?_
  refine WL.bsC (T := Ty) rfl rfl rfl rfl rfl rfl rfl (by repeat' first | exact CO.nil | apply CO.one (by first | rfl | exact SL.one (by assumption)) | apply CO.agg) rfl (by repeat' first | exact FL.nil | apply FL.cons) (fun u1 hu1 => ?_)
  refine WL.mv rfl rfl ?_
  rw [dirZ_new]
  refine WL.ap (T := Ty) (i := 0) (n := 0) rfl rfl rfl rfl rfl rfl rfl rfl (.ro r0) s0 rfl (flat_len sm_len z0) (sm_one z0) (by omega) (by unfold maxLen; omega) (fun v' => (by repeat' first | exact FL.nil | apply FL.cons)) (fun u2 hu2 => ?_)
  simp only [List.nil_append]
  rw [Nat.zero_add] at hu2
  have l0 : (List.replicate 16 (Pz.up zeroP)).length = 16 := rfl
  have h0 : (List.replicate 16 (Pz.up zeroP))[1]? = some (Pz.up zeroP) := rfl
  have l1 : ((List.replicate 16 (Pz.up zeroP)).set 1 ⟨⟨false, false, 0, 0 + 1, false, 0, nilV, nilV⟩, true, 0⟩).length = 16 := rfl
  have h1 : ((List.replicate 16 (Pz.up zeroP)).set 1 ⟨⟨false, false, 0, 0 + 1, false, 0, nilV, nilV⟩, true, 0⟩)[1]? = some ⟨⟨false, false, 0, 0 + 1, false, 0, nilV, nilV⟩, true, 0⟩ := rfl
  refine WL.bdC (T := Ty) rfl rfl rfl rfl (by repeat' first | exact CO.nil | apply CO.one (by first | rfl | exact SL.one (by assumption)) | apply CO.agg) rfl (by repeat' first | exact FL.nil | apply FL.cons) ?_
  refine WL.bdC (T := Ty) rfl rfl rfl rfl (by repeat' first | exact CO.nil | apply CO.one (by first | rfl | exact SL.one (by assumption)) | apply CO.agg) rfl (by repeat' first | exact FL.nil | apply FL.cons) ?_
  refine WL.bsC (T := Ty) rfl rfl rfl rfl rfl rfl rfl (by repeat' first | exact CO.nil | apply CO.one (by first | rfl | exact SL.one (by assumption)) | apply CO.agg) rfl (by repeat' first | exact FL.nil | apply FL.cons) (fun u3 hu3 => ?_)
  refine WL.bdC (T := Ty) rfl rfl rfl rfl (by repeat' first | exact CO.nil | apply CO.one (by first | rfl | exact SL.one (by assumption)) | apply CO.agg) rfl (by repeat' first | exact FL.nil | apply FL.cons) ?_
  refine WL.alF (T := Ty) rfl rfl (by repeat' first | exact FL.nil | apply FL.cons) (fun b4 => ?_)
  refine WL.stAO (T := Ty) (j := 0) rfl rfl rfl rfl (by repeat' first | exact AO.nil | apply AO.cons (by first | rfl | exact SL.one (by assumption))) rfl rfl (by repeat' first | exact FL.nil | apply FL.cons) (by repeat' first | exact FL.nil | apply FL.cons) ?_
  refine WL.nil ?_
  refine W.seq ?_
  refine W.seq ?_
  refine W.region ?_
  refine WL.mv rfl rfl ?_
  refine WL.callM 3 rfl rfl rfl (fun x p d => take_yes _ _ _ _ _ _ (by first | assumption | rfl) (by first | assumption | rfl) (by first | assumption | omega | decide) (by first | assumption | rfl) (by first | assumption | omega | decide) (by first | assumption | omega | decide)) (by repeat' first | exact FL.nil | apply FL.cons) ?_
  refine WL.not rfl rfl ?_
  refine WL.mv rfl rfl ?_
  refine WL.gY rfl rfl ?_
  refine WL.mv rfl rfl ?_
  refine WL.gY rfl rfl ?_
  refine WL.ldAF (T := Ty) (j := 0) rfl rfl rfl rfl rfl rfl (by repeat' first | exact FL.nil | apply FL.cons) ?_
  refine WL.gY rfl rfl ?_
  rw [show [Value.int .i64 7, .int .i64 0, .int .i64 0, .int .i64 0, .int .i64 0] = ([⟨7, 0, 0, 0, 0⟩] : List Prt).flatMap paC from rfl]
  have hp1 : ([⟨7, 0, 0, 0, 0⟩] : List Prt).length ≤ 140737488355 := by decide
  have hz5 : z0.length ≤ 140737488355 := by omega
  refine WL.callP 3 rfl rfl rfl (fun x p d => leave_l _ _ _ _ _ _ ⟨_, _, _, _, _, _, _, _⟩ _ _ (by first | assumption | rfl) (by first | assumption | rfl) (by first | assumption | omega | decide) (by first | assumption | rfl) (by first | assumption | rfl) (by first | assumption | omega | decide) (by first | assumption | omega | decide) (by first | assumption | exact ROs.wide (by assumption) | exact ROs.mono (by assumption) (eqh_at 0 rfl p d) | exact ros_at 0 rfl p d | exact ros_at 1 rfl p d | exact ros_at 2 rfl p d | exact ros_at 3 rfl p d | exact ros_at 4 rfl p d) (by first | assumption | exact ROs.wide (by assumption) | exact ROs.mono (by assumption) (eqh_at 0 rfl p d) | exact ros_at 0 rfl p d | exact ros_at 1 rfl p d | exact ros_at 2 rfl p d | exact ros_at 3 rfl p d | exact ros_at 4 rfl p d) (by first | assumption | omega | decide) (by first | assumption | omega | decide)) (by repeat' first | exact FL.nil | apply FL.cons) (fun r => ?_)
  refine WL.ex (fun u5 => ?_)
  refine WL.ex (fun t5 => ?_)
  refine WL.pure (fun er => ?_)
  subst er
  refine WL.open ?_
  refine WL.gY rfl rfl ?_
  refine WL.not rfl rfl ?_
  refine WL.pickF rfl rfl rfl ?_
  refine WL.nil ?_
  refine W.condF rfl ?_
  refine W.skip ?_
  refine W.seq ?_
  refine W.region ?_
  refine WL.faN (T := Ty) (off' := 7) rfl rfl rfl rfl rfl rfl rfl ?_
  refine WL.ldN (T := Ty) (j := 3) rfl rfl rfl rfl rfl rfl ?_
  refine WL.ix (T := Ty) rfl rfl rfl (by assumption) rfl rfl (by omega) (by first | omega | decide +kernel) ?_
  refine WL.faEN (T := Ty) (off' := 0) rfl rfl rfl rfl rfl rfl rfl ?_
  refine WL.stEF (T := Ty) (j := 4) (cs' := ([⟨8, 0, 0, 0, 0⟩] : List Prt).flatMap paC) rfl rfl rfl rfl rfl rfl (by decide) rfl (by repeat' first | exact FL.nil | apply FL.cons) ?_
  refine WL.nil ?_
  refine W.sub (env' := [(0, v0), (2, .bool false), (3, pt b0 0), (4, pt b4 0)]) ⟨rfl, rfl, rfl, rfl, trivial⟩ (W.hs (Hs' := [box b0 (dirC (((List.replicate 16 (Pz.up zeroP)).set 1 ⟨⟨false, false, 0, 0 + 1, false, 0, nilV, nilV⟩, true, 0⟩).set 1 ⟨⟨true, false, 0, 2, true, 0, u5, t5⟩, false, 0⟩)) TD, Buf 2 u5 (z0.flatMap smC), Buf 5 t5 (([⟨7, 0, 0, 0, 0⟩] : List Prt).flatMap paC), box b4 [.bool true, .bool false, .int .i64 0, .int .i64 0, .bool true, .int .i64 0, u2, u3] 32, Buf 5 u3 (([⟨8, 0, 0, 0, 0⟩] : List Prt).flatMap paC), Buf 2 u2 (z0.flatMap smC)]) (fun h p => p) ?_)
  have l2 : (((List.replicate 16 (Pz.up zeroP)).set 1 ⟨⟨false, false, 0, 0 + 1, false, 0, nilV, nilV⟩, true, 0⟩).set 1 ⟨⟨true, false, 0, 2, true, 0, u5, t5⟩, false, 0⟩).length = 16 := by simp
  have h2 : (((List.replicate 16 (Pz.up zeroP)).set 1 ⟨⟨false, false, 0, 0 + 1, false, 0, nilV, nilV⟩, true, 0⟩).set 1 ⟨⟨true, false, 0, 2, true, 0, u5, t5⟩, false, 0⟩)[1]? = some ⟨⟨true, false, 0, 2, true, 0, u5, t5⟩, false, 0⟩ := rfl
  generalize hL : ((List.replicate 16 (Pz.up zeroP)).set 1 ⟨⟨false, false, 0, 0 + 1, false, 0, nilV, nilV⟩, true, 0⟩).set 1 ⟨⟨true, false, 0, 2, true, 0, u5, t5⟩, false, 0⟩ = L at l2 h2 ⊢
  have e1 : (0 : Int) ≤ 2 := by decide
  have e2 : (2 : Int) % 2 = 0 := by decide
  refine W.seq ?_
  refine W.seq ?_
  refine W.region ?_
  refine WL.faN (T := Ty) (off' := 4) rfl rfl rfl rfl rfl rfl rfl ?_
  refine WL.faN (T := Ty) (off' := 6) rfl rfl rfl rfl rfl rfl rfl ?_
  refine WL.ldN (T := Ty) (j := 3) rfl rfl rfl rfl rfl rfl ?_
  refine WL.len (T := Ty) rfl rfl (by assumption) rfl ?_
  refine WL.mv rfl rfl ?_
  refine WL.nil ?_
  refine W.block ?_
  refine W.cut2 (τ := List (Int × Int)) (fun _ => [(0, v0), (2, .bool false), (3, pt b0 0)]) (fun _ => [box b0 (dirC L) TD, Buf 2 u5 (z0.flatMap smC), Buf 5 t5 (([⟨7, 0, 0, 0, 0⟩] : List Prt).flatMap paC)]) (fun _ => True) ?_ (fun cut => ?_)
  · intro _ _
    refine W.seq ?_
    refine W.region ?_
    refine WL.mv rfl rfl ?_
    refine WL.callF rfl rfl (fun x p d => look_l _ _ _ _ _ _ _ (by first | assumption | exact RB.wide (by assumption) | exact In.rb (by assumption) | exact rb_at 0 rfl p d | exact rb_at 1 rfl p d | exact rb_at 2 rfl p d | exact rb_at 3 rfl p d | exact rb_at 4 rfl p d | exact rb_at 5 rfl p d) (by first | assumption | rfl) (by first | assumption | rfl) (by first | assumption | omega | decide) (by first | assumption | omega | decide) (by first | assumption | omega | decide) (by first | assumption | exact ROs.wide (by assumption) | exact ROs.mono (by assumption) (eqh_at 0 rfl p d) | exact ros_at 0 rfl p d | exact ros_at 1 rfl p d | exact ros_at 2 rfl p d | exact ros_at 3 rfl p d | exact ros_at 4 rfl p d) (by first | assumption | exact ROs.wide (by assumption) | exact ROs.mono (by assumption) (eqh_at 0 rfl p d) | exact ros_at 0 rfl p d | exact ros_at 1 rfl p d | exact ros_at 2 rfl p d | exact ros_at 3 rfl p d | exact ros_at 4 rfl p d) (by first | assumption | omega | decide) (by first | assumption | omega | decide)) (fun r => ?_)
    refine WL.ex (fun u6 => ?_)
    refine WL.ex (fun t6 => ?_)
    refine WL.pure (fun er => ?_)
    subst er
    refine WL.open ?_
    refine WL.fact (i := 0) rfl (fun h hb => hb.sl (flat_len sm_len _) (by omega)) (fun hsl6 => ?_)
    refine WL.fact (i := 1) rfl (fun h hb => hb.sl (flat_len pa_len _) (by omega)) (fun hst6 => ?_)
    refine WL.mv rfl rfl ?_
    refine WL.extL rfl rfl rfl ?_
    refine WL.extL rfl rfl rfl ?_
    refine WL.alF (T := Ty) rfl rfl (by repeat' first | exact FL.nil | apply FL.cons) (fun b7 => ?_)
    refine WL.stAO (T := Ty) (j := 0) rfl rfl rfl rfl (by repeat' first | exact AO.nil | apply AO.cons (by first | rfl | exact SL.one (by assumption))) rfl rfl (by repeat' first | exact FL.nil | apply FL.cons) (by repeat' first | exact FL.nil | apply FL.cons) ?_
    refine WL.as rfl rfl ?_
    refine WL.nil ?_
    refine W.seq ?_
    refine W.seq ?_
    refine W.region ?_
    refine WL.faN (T := Ty) (off' := 7) rfl rfl rfl rfl rfl rfl rfl ?_
    refine WL.ldN (T := Ty) (j := 0) rfl rfl rfl rfl rfl rfl ?_
    refine WL.len (T := Ty) rfl rfl (by assumption) rfl ?_
    refine WL.mv rfl rfl ?_
    refine WL.nil ?_
    refine W.block ?_
    refine W.sub (env' := [(0, v0), (2, .bool false), (3, pt b0 0), (6, pt b7 0), (64, .int .i64 1), (65, .int .i64 0)]) ⟨rfl, rfl, rfl, rfl, rfl, rfl, trivial⟩ (W.hs (Hs' := [box b7 [.bool true, .bool false, .int .i64 0, .int .i64 2, .bool true, .int .i64 0, u6, t6] 32, Buf 2 u6 (z0.flatMap smC), Buf 5 t6 (([⟨7, 0, 0, 0, 0⟩] : List Prt).flatMap paC), box b0 (dirC L) TD, Buf 2 u5 (z0.flatMap smC), Buf 5 t5 (([⟨7, 0, 0, 0, 0⟩] : List Prt).flatMap paC)]) (fun h p => p) ?_)
    refine W.cut2 (τ := List Prt) (fun _ => [(0, v0), (2, .bool false), (3, pt b0 0), (6, pt b7 0)]) (fun ps => [box b7 [.bool true, .bool false, .int .i64 0, .int .i64 2, .bool true, .int .i64 0, u6, t6] 32, Buf 2 u6 (z0.flatMap smC), Buf 5 t6 (ps.flatMap paC), box b0 (dirC L) TD, Buf 2 u5 (z0.flatMap smC), Buf 5 t5 (([⟨7, 0, 0, 0, 0⟩] : List Prt).flatMap paC)]) (fun _ => True) ?_ (fun cutB => ?_)
    · intro ps _
      refine W.seq ?_
      refine W.seq ?_
      refine W.region ?_
      refine WL.faN (T := Ty) (off' := 4) rfl rfl rfl rfl rfl rfl rfl ?_
      refine WL.faN (T := Ty) (off' := 6) rfl rfl rfl rfl rfl rfl rfl ?_
      refine WL.ldN (T := Ty) (j := 0) rfl rfl rfl rfl rfl rfl ?_
      refine WL.len (T := Ty) rfl rfl (by assumption) rfl ?_
      refine WL.mv rfl rfl ?_
      refine WL.nil ?_
      refine W.block ?_
      refine W.cut2 (τ := List (Int × Int)) (fun _ => [(0, v0), (2, .bool false), (3, pt b0 0)]) (fun _ => [box b0 (dirC L) TD, Buf 2 u5 (z0.flatMap smC), Buf 5 t5 (([⟨7, 0, 0, 0, 0⟩] : List Prt).flatMap paC)]) (fun _ => True) ?_ (fun cutC => ?_)
      · intro _ _
        have g7 : (([⟨7, 0, 0, 0, 0⟩] : List Prt).flatMap paC)[Int.toNat 0 * 5 + 0]? = some (.int .i64 7) := rfl
        refine W.seq ?_
        refine W.region ?_
        refine WL.mv rfl rfl ?_
        refine WL.callF rfl rfl (fun x p d => look_l _ _ _ _ _ _ _ (by first | assumption | exact RB.wide (by assumption) | exact In.rb (by assumption) | exact rb_at 0 rfl p d | exact rb_at 1 rfl p d | exact rb_at 2 rfl p d | exact rb_at 3 rfl p d | exact rb_at 4 rfl p d | exact rb_at 5 rfl p d) (by first | assumption | rfl) (by first | assumption | rfl) (by first | assumption | omega | decide) (by first | assumption | omega | decide) (by first | assumption | omega | decide) (by first | assumption | exact ROs.wide (by assumption) | exact ROs.mono (by assumption) (eqh_at 0 rfl p d) | exact ros_at 0 rfl p d | exact ros_at 1 rfl p d | exact ros_at 2 rfl p d | exact ros_at 3 rfl p d | exact ros_at 4 rfl p d) (by first | assumption | exact ROs.wide (by assumption) | exact ROs.mono (by assumption) (eqh_at 0 rfl p d) | exact ros_at 0 rfl p d | exact ros_at 1 rfl p d | exact ros_at 2 rfl p d | exact ros_at 3 rfl p d | exact ros_at 4 rfl p d) (by first | assumption | omega | decide) (by first | assumption | omega | decide)) (fun r => ?_)
        refine WL.ex (fun u8 => ?_)
        refine WL.ex (fun t8 => ?_)
        refine WL.pure (fun er => ?_)
        subst er
        refine WL.open ?_
        refine WL.fact (i := 0) rfl (fun h hb => hb.sl (flat_len sm_len _) (by omega)) (fun hsl8 => ?_)
        refine WL.fact (i := 1) rfl (fun h hb => hb.sl (flat_len pa_len _) (by omega)) (fun hst8 => ?_)
        refine WL.mv rfl rfl ?_
        refine WL.extL rfl rfl rfl ?_
        refine WL.extL rfl rfl rfl ?_
        refine WL.alF (T := Ty) rfl rfl (by repeat' first | exact FL.nil | apply FL.cons) (fun b9 => ?_)
        refine WL.stAO (T := Ty) (j := 0) rfl rfl rfl rfl (by repeat' first | exact AO.nil | apply AO.cons (by first | rfl | exact SL.one (by assumption))) rfl rfl (by repeat' first | exact FL.nil | apply FL.cons) (by repeat' first | exact FL.nil | apply FL.cons) ?_
        refine WL.as rfl rfl ?_
        refine WL.nil ?_
        refine W.seq ?_
        refine W.region ?_
        refine WL.mv rfl rfl ?_
        refine WL.mv rfl rfl ?_
        refine WL.gY rfl rfl ?_
        refine WL.faN (T := Ty) (off' := 7) rfl rfl rfl rfl rfl rfl rfl ?_
        refine WL.gY rfl rfl ?_
        refine WL.ldN (T := Ty) (j := 0) rfl rfl rfl rfl rfl rfl ?_
        refine WL.gY rfl rfl ?_
        refine WL.len (T := Ty) rfl rfl (by assumption) rfl ?_
        refine WL.gY rfl rfl ?_
        refine WL.eql rfl rfl rfl ?_
        refine WL.pickT rfl rfl rfl ?_
        refine WL.mv rfl rfl ?_
        refine WL.gY rfl rfl ?_
        refine WL.faN (T := Ty) (off' := 7) rfl rfl rfl rfl rfl rfl rfl ?_
        refine WL.gY rfl rfl ?_
        refine WL.ldN (T := Ty) (j := 0) rfl rfl rfl rfl rfl rfl ?_
        refine WL.gY rfl rfl ?_
        refine WL.ix (T := Ty) rfl rfl rfl (by assumption) rfl rfl (by omega) (by first | omega | decide +kernel) ?_
        refine WL.gY rfl rfl ?_
        refine WL.faEN (T := Ty) (off' := 0) rfl rfl rfl rfl rfl rfl rfl ?_
        refine WL.gY rfl rfl ?_
        refine WL.ldE (T := Ty) (j := 2) rfl rfl rfl rfl rfl (by assumption) ?_
        refine WL.gY rfl rfl ?_
        refine WL.eql rfl rfl rfl ?_
        refine WL.pickT rfl rfl rfl ?_
        refine WL.mv rfl rfl ?_
        refine WL.gY rfl rfl ?_
        refine WL.ldAF (T := Ty) (j := 0) rfl rfl rfl rfl rfl rfl (by repeat' first | exact FL.nil | apply FL.cons) ?_
        refine WL.gY rfl rfl ?_
        refine WL.mv rfl rfl ?_
        refine WL.gY rfl rfl ?_
        refine WL.bdC (T := Ty) rfl rfl rfl rfl (by repeat' first | exact CO.nil | apply CO.one (by first | rfl | exact SL.one (by assumption)) | apply CO.agg) rfl (by repeat' first | exact FL.nil | apply FL.cons) ?_
        refine WL.gY rfl rfl ?_
        refine WL.bdC (T := Ty) rfl rfl rfl rfl (by repeat' first | exact CO.nil | apply CO.one (by first | rfl | exact SL.one (by assumption)) | apply CO.agg) rfl (by repeat' first | exact FL.nil | apply FL.cons) ?_
        refine WL.gY rfl rfl ?_
        refine WL.bsC (T := Ty) rfl rfl rfl rfl rfl rfl rfl (by repeat' first | exact CO.nil | apply CO.one (by first | rfl | exact SL.one (by assumption)) | apply CO.agg) rfl (by repeat' first | exact FL.nil | apply FL.cons) (fun u10 hu10 => ?_)
        refine WL.gY rfl rfl ?_
        refine WL.bdC (T := Ty) rfl rfl rfl rfl (by repeat' first | exact CO.nil | apply CO.one (by first | rfl | exact SL.one (by assumption)) | apply CO.agg) rfl (by repeat' first | exact FL.nil | apply FL.cons) ?_
        refine WL.gY rfl rfl ?_
        refine WL.callV rfl rfl (fun x p d => sameS_c _ _ _ _ _ _ (by first | assumption | exact ROs.wide (by assumption) | exact ROs.mono (by assumption) (eqh_at 0 rfl p d) | exact ros_at 0 rfl p d | exact ros_at 1 rfl p d | exact ros_at 2 rfl p d | exact ros_at 3 rfl p d | exact ros_at 4 rfl p d) (by first | assumption | exact ROs.wide (by assumption) | exact ROs.mono (by assumption) (eqh_at 0 rfl p d) | exact ros_at 0 rfl p d | exact ros_at 1 rfl p d | exact ros_at 2 rfl p d | exact ros_at 3 rfl p d | exact ros_at 4 rfl p d) (by first | assumption | exact ROs.wide (by assumption) | exact ROs.mono (by assumption) (eqh_at 0 rfl p d) | exact ros_at 0 rfl p d | exact ros_at 1 rfl p d | exact ros_at 2 rfl p d | exact ros_at 3 rfl p d | exact ros_at 4 rfl p d) (by first | assumption | exact ROs.wide (by assumption) | exact ROs.mono (by assumption) (eqh_at 0 rfl p d) | exact ros_at 0 rfl p d | exact ros_at 1 rfl p d | exact ros_at 2 rfl p d | exact ros_at 3 rfl p d | exact ros_at 4 rfl p d) (by first | assumption | omega) (by first | assumption | omega)) ?_
        refine WL.pickT rfl rfl rfl ?_
        refine WL.mv rfl rfl ?_
        refine WL.gY rfl rfl ?_
        refine WL.callT rfl rfl (fun x p d => awake18_c _) ?_
        refine WL.pickT rfl rfl rfl ?_
        refine WL.as rfl rfl ?_
        refine WL.nil ?_
        exact W.ret1 rfl rfl (fun h p => rfl)
      · refine W.loopS (σ := Nat × List (Int × Int)) (fun s => [(0, v0), (2, .bool false), (3, pt b0 0), (6, pt b7 0), (77, .int .i64 (z0.length : Int)), (78, .int .i64 (s.1 : Int))])
          (fun s => [box b7 [.bool true, .bool false, .int .i64 0, .int .i64 2, .bool true, .int .i64 0, u6, t6] 32, Buf 2 u6 (s.2.flatMap smC), Buf 5 t6 (ps.flatMap paC), box b0 (dirC L) TD, Buf 2 u5 (z0.flatMap smC), Buf 5 t5 (([⟨7, 0, 0, 0, 0⟩] : List Prt).flatMap paC)])
          (fun s => s.1 ≤ z0.length ∧ s.2.length = z0.length) (fun s => z0.length - s.1) (0, z0) ⟨rfl, rfl, rfl, rfl, rfl, rfl, trivial⟩ rfl ⟨Nat.zero_le _, rfl⟩ ?_
        rintro ⟨i, l⟩ ⟨hi, hl⟩ next
        simp only [] at hi hl next ⊢
        refine W.fact (i := 1) rfl (fun h hb => hb.sl (flat_len sm_len l) (by omega)) (fun hs2 => ?_)
        by_cases hlt : i < z0.length
        · obtain ⟨q, hq⟩ : ∃ q, l[i]? = some q := ⟨_, List.getElem?_eq_getElem (by omega)⟩
          have g1 : (l.flatMap smC)[((i : Nat) : Int).toNat * 2 + 0]? = some (.int .i64 q.1) := sm_get hq 0 rfl
          have hfl := flat_len sm_len l
          refine W.seq ?_
          refine W.region ?_
          refine WL.lss rfl rfl rfl ?_
          refine WL.nil ?_
          refine W.seq ?_
          refine W.condpT rfl (by omega) ?_
          refine W.skip ?_
          refine W.seq ?_
          refine W.block ?_
          refine W.seq ?_
          refine W.region ?_
          refine WL.mv rfl rfl ?_
          refine WL.as rfl rfl ?_
          refine WL.nil ?_
          refine W.region ?_
          refine WL.faN (T := Ty) (off' := 4) rfl rfl rfl rfl rfl rfl rfl ?_
          refine WL.faN (T := Ty) (off' := 6) rfl rfl rfl rfl rfl rfl rfl ?_
          refine WL.ldN (T := Ty) (j := 0) rfl rfl rfl rfl rfl rfl ?_
          refine WL.mv rfl rfl ?_
          refine WL.ix (T := Ty) rfl rfl rfl (by assumption) rfl rfl (by omega) (by first | omega | decide +kernel) ?_
          refine WL.faEN (T := Ty) (off' := 0) rfl rfl rfl rfl rfl rfl rfl ?_
          refine WL.ldE (T := Ty) (j := 1) rfl rfl rfl rfl rfl (by assumption) ?_
          refine WL.add (K := .i64) rfl rfl rfl ?_
          refine WL.ix (T := Ty) rfl rfl rfl (by assumption) rfl rfl (by omega) (by first | omega | decide +kernel) ?_
          refine WL.faEN (T := Ty) (off' := 0) rfl rfl rfl rfl rfl rfl rfl ?_
          refine WL.stEF (T := Ty) (j := 1) (cs' := (l.set i (IntKind.i64.wrap (q.1 + 1), q.2)).flatMap smC) rfl rfl rfl rfl rfl rfl (by rw [hfl]; show ((i : Nat) : Int).toNat * 2 + 0 < _; omega) (sm_set hq 0 (by decide) rfl) (by repeat' first | exact FL.nil | apply FL.cons) ?_
          refine WL.nil ?_
          refine W.inBlock ?_
          refine W.region ?_
          refine WL.addK rfl rfl rfl (wrap_i64 ⟨by omega, by omega⟩) ?_
          refine WL.mv rfl rfl ?_
          refine WL.nil ?_
          refine W.sub ?_ (next ⟨i + 1, l.set i (IntKind.i64.wrap (q.1 + 1), q.2)⟩ ⟨by simp only []; omega, by simp only []; rw [List.length_set, hl]⟩ (by simp only []; omega))
          exact ⟨rfl, rfl, rfl, rfl, rfl, rfl, trivial⟩
        · refine W.seq ?_
          refine W.region ?_
          refine WL.lss rfl rfl rfl ?_
          refine WL.nil ?_
          refine W.seq ?_
          refine W.condpF rfl (by omega) ?_
          refine W.exit rfl ?_
          refine W.drop 0 rfl (by repeat' first | exact FL.nil | apply FL.cons) ?_
          refine W.drop 0 rfl (by repeat' first | exact FL.nil | apply FL.cons) ?_
          refine W.drop 0 rfl (by repeat' first | exact FL.nil | apply FL.cons) ?_
          refine W.sub ?_ (cutC [] trivial)
          exact ⟨rfl, rfl, rfl, trivial⟩
    · refine W.loopS (σ := Nat × List Prt) (fun s => [(0, v0), (2, .bool false), (3, pt b0 0), (6, pt b7 0), (64, .int .i64 1), (65, .int .i64 (s.1 : Int))])
        (fun s => [box b7 [.bool true, .bool false, .int .i64 0, .int .i64 2, .bool true, .int .i64 0, u6, t6] 32, Buf 2 u6 (z0.flatMap smC), Buf 5 t6 (s.2.flatMap paC), box b0 (dirC L) TD, Buf 2 u5 (z0.flatMap smC), Buf 5 t5 (([⟨7, 0, 0, 0, 0⟩] : List Prt).flatMap paC)])
        (fun s => s.1 ≤ 1 ∧ s.2.length = 1) (fun s => 1 - s.1) (0, [⟨7, 0, 0, 0, 0⟩]) ⟨rfl, rfl, rfl, rfl, rfl, rfl, trivial⟩ rfl ⟨Nat.zero_le _, rfl⟩ ?_
      rintro ⟨i, ps⟩ ⟨hi, hl⟩ next
      simp only [] at hi hl next ⊢
      refine W.fact (i := 2) rfl (fun h hb => hb.sl (flat_len pa_len ps) (by omega)) (fun hs2 => ?_)
      by_cases hlt : i < 1
      · obtain ⟨q, hq⟩ : ∃ q, ps[i]? = some q := ⟨_, List.getElem?_eq_getElem (by omega)⟩
        have hfl := flat_len pa_len ps
        refine W.seq ?_
        refine W.region ?_
        refine WL.lss rfl rfl rfl ?_
        refine WL.nil ?_
        refine W.seq ?_
        refine W.condpT rfl (by omega) ?_
        refine W.skip ?_
        refine W.seq ?_
        refine W.block ?_
        refine W.seq ?_
        refine W.region ?_
        refine WL.mv rfl rfl ?_
        refine WL.as rfl rfl ?_
        refine WL.nil ?_
        refine W.region ?_
        refine WL.faN (T := Ty) (off' := 7) rfl rfl rfl rfl rfl rfl rfl ?_
        refine WL.ldN (T := Ty) (j := 0) rfl rfl rfl rfl rfl rfl ?_
        refine WL.mv rfl rfl ?_
        refine WL.ix (T := Ty) rfl rfl rfl (by assumption) rfl rfl (by omega) (by first | omega | decide +kernel) ?_
        refine WL.faEN (T := Ty) (off' := 0) rfl rfl rfl rfl rfl rfl rfl ?_
        refine WL.stEF (T := Ty) (j := 2) (cs' := (ps.set i { q with blob := 9 }).flatMap paC) rfl rfl rfl rfl rfl rfl (by rw [hfl]; show ((i : Nat) : Int).toNat * 5 + 0 < _; omega) (pa_set hq 0 (by decide) rfl) (by repeat' first | exact FL.nil | apply FL.cons) ?_
        refine WL.nil ?_
        refine W.inBlock ?_
        refine W.region ?_
        refine WL.addK rfl rfl rfl (wrap_i64 ⟨by omega, by omega⟩) ?_
        refine WL.mv rfl rfl ?_
        refine WL.nil ?_
        refine W.sub ?_ (next ⟨i + 1, ps.set i { q with blob := 9 }⟩ ⟨by simp only []; omega, by simp only []; rw [List.length_set, hl]⟩ (by simp only []; omega))
        exact ⟨rfl, rfl, rfl, rfl, rfl, rfl, trivial⟩
      · refine W.seq ?_
        refine W.region ?_
        refine WL.lss rfl rfl rfl ?_
        refine WL.nil ?_
        refine W.seq ?_
        refine W.condpF rfl (by omega) ?_
        refine W.exit rfl ?_
        refine W.sub ?_ (cutB ps trivial)
        exact ⟨rfl, rfl, rfl, rfl, trivial⟩
  · refine W.loopS (σ := Nat × List (Int × Int)) (fun s => [(0, v0), (2, .bool false), (3, pt b0 0), (4, pt b4 0), (42, .int .i64 (z0.length : Int)), (43, .int .i64 (s.1 : Int))])
      (fun s => [box b0 (dirC L) TD, Buf 2 u5 (z0.flatMap smC), Buf 5 t5 (([⟨7, 0, 0, 0, 0⟩] : List Prt).flatMap paC), box b4 [.bool true, .bool false, .int .i64 0, .int .i64 0, .bool true, .int .i64 0, u2, u3] 32, Buf 5 u3 (([⟨8, 0, 0, 0, 0⟩] : List Prt).flatMap paC), Buf 2 u2 (s.2.flatMap smC)])
      (fun s => s.1 ≤ z0.length ∧ s.2.length = z0.length) (fun s => z0.length - s.1) (0, z0) ⟨rfl, rfl, rfl, rfl, rfl, rfl, trivial⟩ rfl ⟨Nat.zero_le _, rfl⟩ ?_
    rintro ⟨i, l⟩ ⟨hi, hl⟩ next
    simp only [] at hi hl next ⊢
    refine W.fact (i := 5) rfl (fun h hb => hb.sl (flat_len sm_len l) (by omega)) (fun hs2 => ?_)
    by_cases hlt : i < z0.length
    · obtain ⟨q, hq⟩ : ∃ q, l[i]? = some q := ⟨_, List.getElem?_eq_getElem (by omega)⟩
      have g1 : (l.flatMap smC)[((i : Nat) : Int).toNat * 2 + 1]? = some (.int .u64 q.2) := sm_get hq 1 rfl
      have hfl := flat_len sm_len l
      refine W.seq ?_
      refine W.region ?_
      refine WL.lss rfl rfl rfl ?_
      refine WL.nil ?_
      refine W.seq ?_
      refine W.condpT rfl (by omega) ?_
      refine W.skip ?_
      refine W.seq ?_
      refine W.block ?_
      refine W.seq ?_
      refine W.region ?_
      refine WL.mv rfl rfl ?_
      refine WL.as rfl rfl ?_
      refine WL.nil ?_
      refine W.region ?_
      refine WL.faN (T := Ty) (off' := 4) rfl rfl rfl rfl rfl rfl rfl ?_
      refine WL.faN (T := Ty) (off' := 6) rfl rfl rfl rfl rfl rfl rfl ?_
      refine WL.ldN (T := Ty) (j := 3) rfl rfl rfl rfl rfl rfl ?_
      refine WL.mv rfl rfl ?_
      refine WL.ix (T := Ty) rfl rfl rfl (by assumption) rfl rfl (by omega) (by first | omega | decide +kernel) ?_
      refine WL.faEN (T := Ty) (off' := 1) rfl rfl rfl rfl rfl rfl rfl ?_
      refine WL.ldE (T := Ty) (j := 5) rfl rfl rfl rfl rfl (by assumption) ?_
      refine WL.add (K := .u64) rfl rfl rfl ?_
      refine WL.ix (T := Ty) rfl rfl rfl (by assumption) rfl rfl (by omega) (by first | omega | decide +kernel) ?_
      refine WL.faEN (T := Ty) (off' := 1) rfl rfl rfl rfl rfl rfl rfl ?_
      refine WL.stEF (T := Ty) (j := 5) (cs' := (l.set i (q.1, IntKind.u64.wrap (q.2 + 1))).flatMap smC) rfl rfl rfl rfl rfl rfl (by rw [hfl]; show ((i : Nat) : Int).toNat * 2 + 1 < _; omega) (sm_set hq 1 (by decide) rfl) (by repeat' first | exact FL.nil | apply FL.cons) ?_
      refine WL.nil ?_
      refine W.inBlock ?_
      refine W.region ?_
      refine WL.addK rfl rfl rfl (wrap_i64 ⟨by omega, by omega⟩) ?_
      refine WL.mv rfl rfl ?_
      refine WL.nil ?_
      refine W.sub ?_ (next ⟨i + 1, l.set i (q.1, IntKind.u64.wrap (q.2 + 1))⟩ ⟨by simp only []; omega, by simp only []; rw [List.length_set, hl]⟩ (by simp only []; omega))
      exact ⟨rfl, rfl, rfl, rfl, rfl, rfl, trivial⟩
    · refine W.seq ?_
      refine W.region ?_
      refine WL.lss rfl rfl rfl ?_
      refine WL.nil ?_
      refine W.seq ?_
      refine W.condpF rfl (by omega) ?_
      refine W.exit rfl ?_
      refine W.drop 3 rfl (by repeat' first | exact FL.nil | apply FL.cons) ?_
      refine W.drop 3 rfl (by repeat' first | exact FL.nil | apply FL.cons) ?_
      refine W.drop 3 rfl (by repeat' first | exact FL.nil | apply FL.cons) ?_
      refine W.sub ?_ (cut [] trivial)
      exact ⟨rfl, rfl, rfl, trivial⟩
end Go.Proofs.Ytlmhjkbbooghfaa
