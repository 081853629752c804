/- AppdOwn. -/
import Derived.Test.YtdpnpipninggeaaDoorStc
import Derived.Test.YtdpnpipninggeaaDoorNum
import Derived.Test.YtdpnpipninggeaaDoorTab
import Derived.Test.YtdpnpipninggeaaDoorApp9
import Derived.Test.YtdpnpipninggeaaDoorRwx
set_option linter.unusedSimpArgs false
set_option linter.unusedVariables false
set_option maxRecDepth 20000
set_option maxHeartbeats 4000000
namespace Go.Proofs.YtdpnpipninggeaaDoor
open Go
theorem smok_of {z : List (Int × Int)} (m : ∀ q ∈ z, (Lit.int .i64 q.1).wf = true ∧ (Lit.int .u64 q.2).wf = true) : SmOK z := by
 intro s hs
 obtain ⟨h1, h2⟩ := m s hs
 have g1 := wf_i64 h1
 have g2 := wf_u64 h2
 exact ⟨g1, by omega, by omega⟩
theorem sameL_reflA (L : List Smp) : sameL L L = true := by unfold sameL; simp
attribute [local irreducible] W WL Fn Buf ROs SL eptr box Rd Src bndOK WD RB Reads In Own mkC chk encTs encX pack vputF vgetF decTs decX risB sumR tms vls vlI sB tB xB frsT lstT na n1 n2 n3 zigF sameL
theorem AppdOwn_fn (ρ : Hp) (hT : TabG ρ) (v0 : Value) (z0 : List (Int × Int)) (r0 : ROs ρ 2 v0 (z0.flatMap (twoC .i64 .u64))) (m0 : ∀ q ∈ z0, (Lit.int .i64 q.1).wf = true ∧ (Lit.int .u64 q.2).wf = true) (y0 : z0.length * 16 ≤ 140737488351232) (a1 b1 : Int) (w1 : (Lit.int .i64 a1).wf = true) (x1 : (Lit.int .u64 b1).wf = true) :
    Fn Tryd.prog 4 #[v0, .agg #[.int .i64 a1, .int .u64 b1]] ρ [] (fun r _ => r = .bool true) := by
  have ho := smok_of m0
  have ha1 := wf_i64 w1
  have hb1 := wf_u64 x1
  replace r0 : ROs ρ 2 v0 ((z0 : List Smp).flatMap smC) := r0
  have l2 := sms_cells (z0 : List Smp)
  have o2 := sm_one (z0 : List Smp)
  have s0 : SL v0 z0.length := r0.sl l2 (by omega)
  refine in4 rfl rfl ?_
  by_cases hz : 40 < z0.length
  · refine W.seq ?_
    refine W.region ?_
    refine WL.bxF rfl rfl (by repeat' constructor) (fun b2 => ?_)
    refine WL.as rfl rfl (WL.nil (W.seq (W.seq (W.region (WL.mv rfl rfl ?_)))))
    refine WL.len (T := Ty) rfl rfl (by assumption) rfl ?_
    refine WL.gtr rfl rfl rfl (WL.nil (W.condpT rfl (by omega) (W.seq (W.region ?_))))
    refine WL.callT rfl rfl (fun x p d => awake13_c _ (TabG.wide (by assumption))) ?_
    refine WL.as rfl rfl (WL.nil ?_)
    exact W.fit (Hs' := []) (by (repeat' first | exact Sel.nil | apply Sel.k | exact Pick.h | apply Pick.t)) (W.ret1 rfl rfl (fun h q => rfl))
  · have hL : (z0 : List Smp).length ≤ 40 := by show z0.length ≤ 40; omega
    have hzz := sameL_reflA z0
    have q1 : ((z0 : List Smp) ++ [(a1, b1)])[z0.length]? = some (a1, b1) := by simp
    have q2 : ((z0 : List Smp) ++ [(a1, IntKind.u64.wrap (b1 + 1))])[z0.length]? = some (a1, IntKind.u64.wrap (b1 + 1)) := by simp
    have hr1 : ((((z0 : List Smp) ++ [(a1, b1)]).flatMap smC).drop (((z0.length : Nat) : Int).toNat * 2)).take 2 = smC (a1, b1) := flat_row sm_len q1
    have hc2 : (((z0 : List Smp) ++ [(a1, IntKind.u64.wrap (b1 + 1))]).flatMap smC)[((z0.length : Nat) : Int).toNat * 2 + 1]? = some (.int .u64 (IntKind.u64.wrap (b1 + 1))) := flat_get sm_len q2 rfl
    refine W.seq (W.region ?_)
    refine WL.bxF rfl rfl (by repeat' constructor) (fun b2 => ?_)
    refine WL.as rfl rfl (WL.nil (W.seq (W.seq (W.region (WL.mv rfl rfl ?_)))))
    refine WL.len (T := Ty) rfl rfl (by assumption) rfl ?_
    refine WL.gtr rfl rfl rfl (WL.nil (W.condpF rfl (by omega) (W.skip (W.seq (W.region (WL.mv rfl rfl ?_))))))
    refine WL.len (T := Ty) rfl rfl (by assumption) rfl ?_
    refine WL.addK rfl rfl rfl (wrap_i64 ⟨by omega, by omega⟩) ?_
    rw [show ((z0.length : Int) + 5) = ((z0.length + 5 : Nat) : Int) by push_cast; rfl]
    refine WL.mk0 (T := Ty) (n := z0.length + 5) rfl rfl rfl rfl rfl rfl (by omega) (by unfold maxLen; omega) rfl (by omega) (fun ux hux => ?_)
    refine WL.mv rfl rfl ?_
    refine WL.ap (T := Ty) (i := 0) (n := 0) rfl rfl rfl rfl rfl rfl rfl rfl (by first | exact .ro (by assumption) | exact .ro (ROs.wide (by assumption)) | exact .eqJ 0 rfl (by assumption) | exact .own 0 rfl | exact .own 1 rfl | exact .own 2 rfl | exact .own 3 rfl | exact .own 4 rfl | exact .own 5 rfl) (by first | assumption | exact ROs.slm (by assumption)) rfl (by assumption) (by assumption) (by first | omega | (simp; omega) | (simp only [List.length_drop, List.length_take]; omega)) (by unfold maxLen; first | omega | (simp only [List.length_drop, List.length_take]; omega)) (fun v' => (by repeat' constructor)) (fun u3 hu3 => ?_)
    refine WL.as rfl rfl (WL.nil (W.seq (W.region (WL.mv rfl rfl ?_))))
    refine WL.bdC (T := Ty) rfl rfl rfl rfl (by repeat' first | exact CO.nil | apply CO.one (by first | rfl | exact SL.one (by assumption)) | apply CO.agg) rfl (by repeat' constructor) ?_
    refine WL.alF (T := Ty) rfl rfl (by repeat' constructor) (fun b4 => ?_)
    refine WL.stAO (T := Ty) (j := 0) rfl rfl rfl rfl (by repeat' first | exact AO.nil | apply AO.cons (by first | rfl | exact SL.one (by assumption))) rfl rfl (by repeat' constructor) (by repeat' constructor) ?_
    refine WL.nil (W.seq (W.region ?_))
    refine WL.ldAF (T := Ty) (j := 0) rfl rfl rfl rfl rfl rfl (by repeat' constructor) ?_
    refine WL.ldAF (T := Ty) (j := 2) rfl rfl rfl rfl rfl rfl (by repeat' constructor) ?_
    refine WL.callF rfl rfl (fun x p d => addO_c _ _ _ _ _ _ _ (by first | assumption | exact ROs.wide (by assumption) | exact ROs.mono (by assumption) (eqh_at 0 rfl p d) | exact ros_at 0 rfl p d | exact ros_at 1 rfl p d | exact ros_at 2 rfl p d | exact ros_at 3 rfl p d | exact ros_at 4 rfl p d) (by first | assumption | omega) (by first | exact .inl rfl | assumption | exact .inr (by omega))) (fun r5 => ?_)
    refine WL.opens (α := Value) (φ := fun v => r5 = .tuple #[.agg #[.bool true, .int .i64 _, v], .int .i64 0] ∧ SL v _) (ps := fun v => [Buf 2 v _]) 0 rfl (fun h q => q) (by repeat' constructor) ?_
    rintro u5 ⟨es5, su5⟩
    subst es5
    dsimp only [List.cons_append, List.nil_append] at su5 ⊢
    refine WL.mv rfl rfl (WL.extL rfl rfl rfl (WL.extL rfl rfl rfl ?_))
    refine WL.alF (T := Ty) rfl rfl (by repeat' constructor) (fun b6 => ?_)
    refine WL.stAO (T := Ty) (j := 0) rfl rfl rfl rfl (by repeat' first | exact AO.nil | apply AO.cons (by first | rfl | exact SL.one (by assumption))) rfl rfl (by repeat' constructor) (by repeat' constructor) ?_
    refine WL.as rfl rfl (WL.nil (W.seq (W.region ?_)))
    refine WL.ldAF (T := Ty) (j := 2) rfl rfl rfl rfl rfl rfl (by repeat' constructor) ?_
    refine WL.faN (T := Ty) (off' := 0) rfl rfl rfl rfl rfl rfl rfl (WL.ldN (T := Ty) (j := 4) rfl rfl rfl rfl rfl rfl (WL.faN (T := Ty) (off' := 1) rfl rfl rfl rfl rfl rfl rfl (WL.ldN (T := Ty) (j := 4) rfl rfl rfl rfl rfl rfl (WL.add (K := .u64) rfl rfl rfl ?_))))
    refine WL.bdC (T := Ty) rfl rfl rfl rfl (by repeat' first | exact CO.nil | apply CO.one (by first | rfl | exact SL.one (by assumption)) | apply CO.agg) rfl (by repeat' constructor) ?_
    refine WL.callF rfl rfl (fun x p d => addO_c _ _ _ _ _ _ _ (by first | assumption | exact ROs.wide (by assumption) | exact ROs.mono (by assumption) (eqh_at 0 rfl p d) | exact ros_at 0 rfl p d | exact ros_at 1 rfl p d | exact ros_at 2 rfl p d | exact ros_at 3 rfl p d | exact ros_at 4 rfl p d) (by first | assumption | omega) (by first | exact .inl rfl | assumption | exact .inr (by omega))) (fun r7 => ?_)
    refine WL.opens (α := Value) (φ := fun v => r7 = .tuple #[.agg #[.bool true, .int .i64 _, v], .int .i64 0] ∧ SL v _) (ps := fun v => [Buf 2 v _]) 0 rfl (fun h q => q) (by repeat' constructor) ?_
    rintro u7 ⟨es7, su7⟩
    subst es7
    dsimp only [List.cons_append, List.nil_append] at su7 ⊢
    refine WL.mv rfl rfl (WL.extL rfl rfl rfl (WL.extL rfl rfl rfl ?_))
    refine WL.alF (T := Ty) rfl rfl (by repeat' constructor) (fun b8 => ?_)
    refine WL.stAO (T := Ty) (j := 0) rfl rfl rfl rfl (by repeat' first | exact AO.nil | apply AO.cons (by first | rfl | exact SL.one (by assumption))) rfl rfl (by repeat' constructor) (by repeat' constructor) ?_
    refine WL.as rfl rfl (WL.nil (W.seq (W.seq ?_)))
    refine W.drawA 47 rfl (fun σ0 hσ0 dσ0 => ?_)
    have fσ0_0 := rb_at 0 rfl hσ0 dσ0
    have fσ0_1 := ros_at 1 rfl hσ0 dσ0
    have fσ0_2 := rb_at 2 rfl hσ0 dσ0
    have fσ0_3 := ros_at 3 rfl hσ0 dσ0
    have fσ0_4 := rb_at 4 rfl hσ0 dσ0
    have fσ0_5 := ros_at 5 rfl hσ0 dσ0
    have fσ0_6 := rb_at 6 rfl hσ0 dσ0
    refine WD.takeL 0 rfl (by decide +kernel) (WL.mv rfl rfl (WL.nilT (WD.takeL 1 rfl (by decide +kernel) (WL.neq rfl rfl rfl (WL.nilT (WD.takeL 2 rfl (by decide +kernel) (WL.mv rfl rfl (WL.nilT (WD.takeL 3 rfl (by decide +kernel) (WL.gY rfl rfl (WL.mv rfl rfl (WL.nilT (WD.takeL 4 rfl (by decide +kernel) ?_)))))))))))))
    refine WL.gY rfl rfl (WL.neq rfl rfl rfl (WL.nilT (WD.takeL 5 rfl (by decide +kernel) (WL.pickF rfl rfl rfl (WL.nilT (WD.takeL 6 rfl (by decide +kernel) (WL.mv rfl rfl (WL.nilT (WD.takeL 7 rfl (by decide +kernel) (WL.gY rfl rfl (WL.faN (T := Ty) (off' := 2) rfl rfl rfl rfl rfl rfl rfl (WL.nilT (WD.takeL 8 rfl (by decide +kernel) ?_)))))))))))))
    refine WL.gY rfl rfl ?_
    refine WL.ldBN (T := Ty) rfl rfl rfl rfl (by first | assumption | exact RB.wide (by assumption) | exact In.rb (by assumption)) rfl ?_
    refine WL.nilT (WD.takeL 9 rfl (by decide +kernel) (WL.gY rfl rfl ?_))
    refine WL.len (T := Ty) rfl rfl (by assumption) rfl ?_
    refine WL.nilT (WD.takeL 10 rfl (by decide +kernel) (WL.gY rfl rfl (WL.mv rfl rfl (WL.nilT (WD.takeL 11 rfl (by decide +kernel) (WL.gY rfl rfl ?_))))))
    refine WL.len (T := Ty) rfl rfl (by assumption) rfl ?_
    refine WL.nilT (WD.takeL 12 rfl (by decide +kernel) (WL.gY rfl rfl (WL.addK rfl rfl rfl (wrap_i64 ⟨by omega, by omega⟩) (WL.nilT (WD.takeL 13 rfl (by decide +kernel) (WL.gY rfl rfl (WL.neq rfl rfl rfl (WL.nilT (WD.takeL 14 rfl (by decide +kernel) (WL.pickF rfl rfl rfl (WL.nilT (WD.takeL 15 rfl (by decide +kernel) (WL.mv rfl rfl ?_)))))))))))))
    refine WL.nilT (WD.takeL 16 rfl (by decide +kernel) (WL.gF rfl rfl (by omega) (WL.faN (T := Ty) (off' := 2) rfl rfl rfl rfl rfl rfl rfl (WL.nilT (WD.takeL 17 rfl (by decide +kernel) (WL.gF rfl rfl (by omega) ?_))))))
    refine WL.ldBN (T := Ty) rfl rfl rfl rfl (by first | assumption | exact RB.wide (by assumption) | exact In.rb (by assumption)) rfl ?_
    refine WL.nilT (WD.takeL 18 rfl (by decide +kernel) (WL.gF rfl rfl (by omega) ?_))
    refine WL.len (T := Ty) rfl rfl (by assumption) rfl ?_
    refine WL.nilT (WD.takeL 19 rfl (by decide +kernel) (WL.gF rfl rfl (by omega) (WL.mv rfl rfl (WL.nilT (WD.takeL 20 rfl (by decide +kernel) (WL.gF rfl rfl (by omega) ?_))))))
    refine WL.len (T := Ty) rfl rfl (by assumption) rfl ?_
    refine WL.nilT (WD.takeL 21 rfl (by decide +kernel) (WL.gF rfl rfl (by omega) (WL.addK rfl rfl rfl (wrap_i64 ⟨by omega, by omega⟩) (WL.nilT (WD.takeL 22 rfl (by decide +kernel) (WL.gF rfl rfl (by omega) (WL.neq rfl rfl rfl (WL.nilT (WD.takeL 23 rfl (by decide +kernel) (WL.pickFp rfl rfl (by omega) rfl (WL.nilT (WD.takeL 24 rfl (by decide +kernel) (WL.mv rfl rfl ?_)))))))))))))
    refine WL.nilT (WD.takeL 25 rfl (by decide +kernel) (WL.gF rfl rfl (by omega) (WL.faN (T := Ty) (off' := 2) rfl rfl rfl rfl rfl rfl rfl (WL.nilT (WD.takeL 26 rfl (by decide +kernel) (WL.gF rfl rfl (by omega) ?_))))))
    refine WL.ldBN (T := Ty) rfl rfl rfl rfl (by first | assumption | exact RB.wide (by assumption) | exact In.rb (by assumption)) rfl ?_
    refine WL.nilT (WD.takeL 27 rfl (by decide +kernel) (WL.gF rfl rfl (by omega) (WL.mv rfl rfl (WL.nilT (WD.takeL 28 rfl (by decide +kernel) (WL.gF rfl rfl (by omega) ?_))))))
    refine WL.len (T := Ty) rfl rfl (by assumption) rfl ?_
    refine WL.nilT (WD.takeL 29 rfl (by decide +kernel) (WL.gF rfl rfl (by omega) ?_))
    refine WL.ix (T := Ty) rfl rfl rfl (by assumption) rfl rfl (by omega) (by first | omega | decide +kernel) ?_
    refine WL.nilT (WD.takeL 30 rfl (by decide +kernel) (WL.gF rfl rfl (by omega) ?_))
    refine WL.ldAR (T := Ty) rfl rfl rfl rfl (by first | assumption | exact ROs.wide (by assumption)) (by assumption) rfl ?_
    refine WL.nilT (WD.takeL 31 rfl (by decide +kernel) (WL.gF rfl rfl (by omega) ?_))
    refine WL.ldABF (T := Ty) rfl rfl rfl rfl (by first | assumption | exact RB.wide (by assumption) | exact In.rb (by assumption)) rfl (by repeat' constructor) ?_
    refine WL.nilT (WD.takeL 32 rfl (by decide +kernel) (WL.gF rfl rfl (by omega) ?_))
    refine WL.neF (T := Ty) rfl rfl rfl rfl (by repeat' first | exact FE.nil | apply FE.int (by decide) rfl rfl rfl rfl | apply FE.bool (by decide) rfl rfl rfl rfl | apply FE.sub (by decide) rfl (by kernel_rfl) rfl rfl) (by kernel_rfl) (by kernel_rfl) ?_
    refine WL.nilT (WD.takeL 33 rfl (by decide +kernel) (WL.pickFp rfl rfl (by omega) rfl (WL.nilT (WD.takeL 34 rfl (by decide +kernel) (WL.mv rfl rfl (WL.nilT (WD.takeL 35 rfl (by decide +kernel) ?_)))))))
    rw [show (!(decide (((a1, b1) : Smp).fst = a1) && (decide (((a1, b1) : Smp).snd = b1) && true))) = false by simp]
    refine WL.gY rfl rfl (WL.faN (T := Ty) (off' := 2) rfl rfl rfl rfl rfl rfl rfl (WL.nilT (WD.takeL 36 rfl (by decide +kernel) (WL.gY rfl rfl ?_))))
    refine WL.ldBN (T := Ty) rfl rfl rfl rfl (by first | assumption | exact RB.wide (by assumption) | exact In.rb (by assumption)) rfl ?_
    refine WL.nilT (WD.takeL 37 rfl (by decide +kernel) (WL.gY rfl rfl (WL.mv rfl rfl (WL.nilT (WD.takeL 38 rfl (by decide +kernel) (WL.gY rfl rfl ?_))))))
    refine WL.len (T := Ty) rfl rfl (by assumption) rfl ?_
    refine WL.nilT (WD.takeL 39 rfl (by decide +kernel) (WL.gY rfl rfl ?_))
    refine WL.ix (T := Ty) rfl rfl rfl (by assumption) rfl rfl (by omega) (by first | omega | decide +kernel) ?_
    refine WL.nilT (WD.takeL 40 rfl (by decide +kernel) (WL.gY rfl rfl (WL.faEN (T := Ty) (off' := 1) rfl rfl rfl rfl rfl rfl rfl (WL.nilT (WD.takeL 41 rfl (by decide +kernel) (WL.gY rfl rfl ?_))))))
    refine WL.ldR (T := Ty) rfl rfl rfl rfl (by first | assumption | exact ROs.wide (by assumption)) (by assumption) ?_
    refine WL.nilT (WD.takeL 42 rfl (by decide +kernel) (WL.gY rfl rfl (WL.faN (T := Ty) (off' := 1) rfl rfl rfl rfl rfl rfl rfl (WL.nilT (WD.takeL 43 rfl (by decide +kernel) (WL.gY rfl rfl ?_))))))
    refine WL.ldBN (T := Ty) rfl rfl rfl rfl (by first | assumption | exact RB.wide (by assumption) | exact In.rb (by assumption)) rfl ?_
    refine WL.nilT (WD.takeL 44 rfl (by decide +kernel) (WL.gY rfl rfl (WL.add (K := .u64) rfl rfl rfl (WL.nilT (WD.takeL 45 rfl (by decide +kernel) (WL.gY rfl rfl (WL.neq rfl rfl rfl (WL.nilT (WD.takeL 46 rfl (by decide +kernel) (WL.pickF rfl rfl rfl (WL.nilT ?_)))))))))))
    refine WD.doneF hσ0 (by decide +kernel) (by repeat' constructor) ?_
    refine W.condpF rfl (by omega) (W.skip (W.seq (W.seq (W.region (WL.faN (T := Ty) (off' := 2) rfl rfl rfl rfl rfl rfl rfl (WL.ldN (T := Ty) (j := 2) rfl rfl rfl rfl rfl rfl ?_))))))
    refine WL.len (T := Ty) rfl rfl (by assumption) rfl ?_
    refine WL.mv rfl rfl (WL.nil (W.block ?_))
    refine W.fit (Hs' := [box b6 _ _, Buf 2 u5 _, box b4 _ _, Buf 2 u3 _]) (by (repeat' first | exact Sel.nil | apply Sel.k | exact Pick.h | apply Pick.t)) ?_
    refine W.loopR (σ := Nat × List Smp) (fun s => [(0, v0), (5, u3), (6, .pointer (some ⟨b4, 0, none⟩)), (7, .pointer (some ⟨b6, 0, none⟩)), (90, .int .i64 ((z0.length + 1 : Nat) : Int)), (91, .int .i64 (s.1 : Int))])
      (fun s => [box b6 [.bool true, .int .i64 a1, u5] 25, Buf 2 u5 (s.2.flatMap smC), box b4 [.bool false, .int .i64 0, u3] 25, Buf 2 u3 ((z0 : List Smp).flatMap smC)])
      (fun s ρ' => s.1 ≤ z0.length + 1 ∧ s.2.length = z0.length + 1) (fun s => z0.length + 1 - s.1)
      (0, (z0 : List Smp) ++ [(a1, b1)]) ⟨rfl, rfl, rfl, rfl, rfl, rfl, trivial⟩ rfl ⟨Nat.zero_le _, by simp⟩ ?_
    rintro ⟨i, L⟩ ρ3 le3 ⟨hi, hL2⟩ next
    dsimp only at hi hL2 next ⊢
    replace r0 := r0.mono le3
    replace hT := hT.mono le3
    have s5 : SL u5 L.length := by rw [hL2]; assumption
    by_cases hc : i < z0.length + 1
    · obtain ⟨⟨a, v⟩, ha⟩ : ∃ q, L[i]? = some q := ⟨_, List.getElem?_eq_getElem (by omega)⟩
      have d4 : (L.flatMap smC)[((i : Nat) : Int).toNat * 2 + 1]? = some (.int .u64 v) := flat_get sm_len ha rfl
      have hset4 : (L.flatMap smC).set (((i : Nat) : Int).toNat * 2 + 1) (.int .u64 (IntKind.u64.wrap (v + 1))) = (L.set i (a, IntKind.u64.wrap (v + 1))).flatMap smC := flat_set (b := (a, IntKind.u64.wrap (v + 1))) (j := 1) sm_len ha (by omega) rfl
      have lL := sms_cells L
      refine W.seq (W.region (WL.lss rfl rfl rfl (WL.nil (W.seq (W.condpT rfl (by omega) (W.skip (W.seq (W.block (W.seq (W.region (WL.mv rfl rfl (WL.as rfl rfl (WL.nil ?_)))))))))))))
      refine W.region (WL.faN (T := Ty) (off' := 2) rfl rfl rfl rfl rfl rfl rfl (WL.ldN (T := Ty) (j := 0) rfl rfl rfl rfl rfl rfl (WL.mv rfl rfl ?_)))
      refine WL.ix (T := Ty) rfl rfl rfl (by assumption) rfl rfl (by omega) (by first | omega | decide +kernel) ?_
      refine WL.faEN (T := Ty) (off' := 1) rfl rfl rfl rfl rfl rfl rfl ?_
      refine WL.ldE (T := Ty) (j := 1) rfl rfl rfl rfl rfl (by assumption) ?_
      refine WL.add (K := .u64) rfl rfl rfl ?_
      refine WL.ix (T := Ty) rfl rfl rfl (by assumption) rfl rfl (by omega) (by first | omega | decide +kernel) ?_
      refine WL.faEN (T := Ty) (off' := 1) rfl rfl rfl rfl rfl rfl rfl ?_
      refine WL.stEF (T := Ty) (j := 1) rfl rfl rfl rfl rfl rfl (by first | assumption | omega | (simp only [List.length_set]; omega) | (simp; omega)) rfl (by repeat' constructor) ?_
      refine WL.nil (W.inBlock (W.region (WL.addK rfl rfl rfl (wrap_i64 ⟨by omega, by omega⟩) (WL.mv rfl rfl (WL.nil ?_)))))
      rw [hset4]
      refine W.sub ?_ (next ⟨i + 1, L.set i (a, IntKind.u64.wrap (v + 1))⟩ ρ3 (Le.refl _) ⟨by dsimp only; omega, by dsimp only; rw [List.length_set]; exact hL2⟩ (by dsimp only; omega))
      exact ⟨rfl, rfl, rfl, rfl, rfl, rfl, trivial⟩
    · have hci : i = z0.length + 1 := by omega
      subst hci
      refine W.seq (W.region (WL.lss rfl rfl rfl (WL.nil (W.seq (W.condpF rfl (by omega) (W.exit rfl (W.seq (W.region ?_))))))))
      refine WL.ldAF (T := Ty) (j := 2) rfl rfl rfl rfl rfl rfl (by repeat' constructor) ?_
      refine WL.callF rfl rfl (fun x p d => close13_c _ _ _ _ _ (by first | assumption | exact ROs.wide (by assumption) | exact ROs.mono (by assumption) (eqh_at 0 rfl p d) | exact ros_at 0 rfl p d | exact ros_at 1 rfl p d | exact ros_at 2 rfl p d | exact ros_at 3 rfl p d | exact ros_at 4 rfl p d) (by assumption) (by first | assumption | omega) (TabG.wide (by assumption))) (fun r9 => ?_)
      refine WL.opens (α := Value) (φ := fun v => r9 = .tuple #[v, .agg #[.bool _, .int .i64 _, nilV]] ∧ SL v _) (ps := fun v => [Buf 1 v _]) 0 rfl (fun h q => q) (by repeat' constructor) ?_
      rintro u9 ⟨es9, su9⟩
      subst es9
      dsimp only [List.cons_append, List.nil_append] at su9 ⊢
      refine WL.nil (W.seq (W.region (WL.mv rfl rfl (WL.mv rfl rfl ?_))))
      refine WL.callV rfl rfl (fun x p d => refM_e _ _ _ _ _ _ (by first | assumption | exact ROs.wide (by assumption) | exact ROs.mono (by assumption) (eqh_at 0 rfl p d) | exact ros_at 0 rfl p d | exact ros_at 1 rfl p d | exact ros_at 2 rfl p d | exact ros_at 3 rfl p d | exact ros_at 4 rfl p d) (by first | assumption | exact ROs.wide (by assumption) | exact ROs.mono (by assumption) (eqh_at 0 rfl p d) | exact ros_at 0 rfl p d | exact ros_at 1 rfl p d | exact ros_at 2 rfl p d | exact ros_at 3 rfl p d | exact ros_at 4 rfl p d) (by first | assumption | omega) (by assumption)) ?_
      refine WL.mv rfl rfl (WL.gY rfl rfl (WL.faN (T := Ty) (off' := 2) rfl rfl rfl rfl rfl rfl rfl (WL.gY rfl rfl (WL.ldN (T := Ty) (j := 3) rfl rfl rfl rfl rfl rfl (WL.gY rfl rfl (WL.mv rfl rfl (WL.gY rfl rfl ?_)))))))
      refine WL.callV rfl rfl (fun x p d => refM_e _ _ _ _ _ _ (by first | assumption | exact ROs.wide (by assumption) | exact ROs.mono (by assumption) (eqh_at 0 rfl p d) | exact ros_at 0 rfl p d | exact ros_at 1 rfl p d | exact ros_at 2 rfl p d | exact ros_at 3 rfl p d | exact ros_at 4 rfl p d) (by first | assumption | exact ROs.wide (by assumption) | exact ROs.mono (by assumption) (eqh_at 0 rfl p d) | exact ros_at 0 rfl p d | exact ros_at 1 rfl p d | exact ros_at 2 rfl p d | exact ros_at 3 rfl p d | exact ros_at 4 rfl p d) (by first | assumption | omega) (by assumption)) ?_
      refine WL.pickT rfl rfl rfl (WL.mv rfl rfl (WL.gY rfl rfl ?_))
      refine WL.callT rfl rfl (fun x p d => awake13_c _ (TabG.wide (by assumption))) ?_
      refine WL.pickT rfl rfl rfl (WL.as rfl rfl (WL.nil ?_))
      exact W.fit (Hs' := []) (by (repeat' first | exact Sel.nil | apply Sel.k | exact Pick.h | apply Pick.t)) (W.ret1 rfl rfl (fun h q => rfl))
end Go.Proofs.YtdpnpipninggeaaDoor
