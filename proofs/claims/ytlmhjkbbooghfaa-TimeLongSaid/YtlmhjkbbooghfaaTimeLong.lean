/- TimeLong. -/
import Derived.Test.YtlmhjkbbooghfaaStc
import Derived.Test.YtlmhjkbbooghfaaNum
import Derived.Test.YtlmhjkbbooghfaaTab
import Derived.Test.YtlmhjkbbooghfaaTimeAwake
import Derived.Test.YtlmhjkbbooghfaaTimeLongLaw
set_option linter.unusedSimpArgs false
set_option linter.unusedVariables false
set_option maxRecDepth 20000
set_option maxHeartbeats 4000000
namespace Go.Proofs.Ytlmhjkbbooghfaa
open Go
attribute [local irreducible] W WL Fn Buf ROs SL eptr box Rd Src bndOK WD RB Reads In decTs

theorem TimeLong_fn (ρ : Hp) (a0 : Int) (w0 : (Lit.int .i64 a0).wf = true) (a1 : Int) (w1 : (Lit.int .i64 a1).wf = true) :
    Fn Try.prog 12 #[.int .i64 a0, .int .i64 a1] ρ [] (fun r _ => r = .bool true) := by
  have h0 := wf_i64 w0
  refine in12 rfl rfl ?_
  refine W.seq ?_
  refine W.region ?_
  refine WL.as rfl rfl ?_
  refine WL.nil ?_
  refine W.seq ?_
  refine W.region ?_
  refine WL.mv rfl rfl ?_
  refine WL.andI rfl rfl rfl (by decide) ?_
  refine WL.as rfl rfl ?_
  refine WL.nil ?_
  refine W.seq ?_
  refine W.seq ?_
  refine W.region ?_
  refine WL.mv rfl rfl ?_
  refine WL.shrS (c := 4096) rfl rfl rfl (by omega) (by decide) ?_
  refine WL.andI rfl rfl rfl (by decide) ?_
  refine WL.eql rfl rfl rfl ?_
  refine WL.nil ?_
  refine W.cut (τ := Int) (fun d => [(1, .int .i64 a1), (4, .bool false), (5, .int .i64 d)]) (fun _ => []) (fun d => -4095 ≤ d ∧ d ≤ 4095) ?_ (fun cut => ?_)
  · intro d hd
    refine W.seq ?_
    refine W.region ?_
    refine WL.bsC (T := Ty) rfl rfl rfl rfl rfl rfl rfl (by repeat' first | exact CO.nil | apply CO.one (by first | rfl | exact SL.one (by assumption)) | apply CO.agg) rfl (by repeat' first | exact FL.nil | apply FL.cons) (fun u0 hu0 => ?_)
    refine WL.reC ucell [0, 2, 6, 14, 15] rfl ?_
    refine WL.as rfl rfl ?_
    refine WL.nil ?_
    refine W.seq ?_
    refine W.region ?_
    refine WL.bsC (T := Ty) rfl rfl rfl rfl rfl rfl rfl (by repeat' first | exact CO.nil | apply CO.one (by first | rfl | exact SL.one (by assumption)) | apply CO.agg) rfl (by repeat' first | exact FL.nil | apply FL.cons) (fun u1 hu1 => ?_)
    refine WL.reC (Value.int .i64) [1, 2, 3, 4, 4] rfl ?_
    refine WL.as rfl rfl ?_
    refine WL.nil ?_
    refine W.seq ?_
    refine W.region ?_
    refine WL.bsC (T := Ty) rfl rfl rfl rfl rfl rfl rfl (by repeat' first | exact CO.nil | apply CO.one (by first | rfl | exact SL.one (by assumption)) | apply CO.agg) rfl (by repeat' first | exact FL.nil | apply FL.cons) (fun u2 hu2 => ?_)
    refine WL.reC (Value.int .i64) [0, 7, 9, 12, 64] rfl ?_
    refine WL.as rfl rfl ?_
    refine WL.nil ?_
    refine W.seq ?_
    refine W.region ?_
    refine WL.as rfl rfl ?_
    refine WL.nil ?_
    refine W.seq ?_
    refine W.seq ?_
    refine W.region ?_
    refine WL.as rfl rfl ?_
    refine WL.nil ?_
    refine W.block ?_
    refine W.cut2 (τ := Nat) (fun L => [(1, .int .i64 a1), (4, .bool false), (5, .int .i64 d), (6, u0), (7, u1), (8, u2), (9, .int .i64 (L : Int))]) (fun _ => [Buf 1 u2 ([0, 7, 9, 12, 64].map (Value.int .i64)), Buf 1 u1 ([1, 2, 3, 4, 4].map (Value.int .i64)), Buf 1 u0 ([0, 2, 6, 14, 15].map ucell)]) (fun L => L = if -64 ≤ d ∧ d ≤ 63 then 1 else if -256 ≤ d ∧ d ≤ 255 then 2 else if -2048 ≤ d ∧ d ≤ 2047 then 3 else 4) ?_ (fun cut2 => ?_)
    · intro L hL
      refine W.seq ?_
      refine W.seq ?_
      refine W.region ?_
      refine WL.mv rfl rfl ?_
      refine WL.eql rfl rfl rfl ?_
      refine WL.nil ?_
      refine W.cut (τ := Nat) (fun L => [(1, .int .i64 a1), (4, .bool false), (5, .int .i64 d), (6, u0), (7, u1), (8, u2), (9, .int .i64 (L : Int))]) (fun _ => [Buf 1 u2 ([0, 7, 9, 12, 64].map (Value.int .i64)), Buf 1 u1 ([1, 2, 3, 4, 4].map (Value.int .i64)), Buf 1 u0 ([0, 2, 6, 14, 15].map ucell)]) (fun L => L = leastT d) ?_ (fun cut3 => ?_)
      · clear hL L
        intro L hL
        have hLle := leastT_le d
        have hm0 := Int.emod_nonneg (a1 % (255 + 1)) (b := 5 - (L : Int)) (by omega)
        have hm1 := Int.emod_lt_of_pos (a1 % (255 + 1)) (b := 5 - (L : Int)) (by omega)
        obtain ⟨k, hk, hkL, hk4⟩ : ∃ k : Nat, (L : Int) + a1 % (255 + 1) % (5 - (L : Int)) = (k : Int) ∧ L ≤ k ∧ k ≤ 4 := ⟨((L : Int) + a1 % (255 + 1) % (5 - (L : Int))).toNat, by omega, by omega, by omega⟩
        have hbd : headT k ≤ 15 ∧ lenT k ≤ 4 ∧ sizeT k ≤ 64 := by
          rcases (by omega : k = 0 ∨ k = 1 ∨ k = 2 ∨ k = 3 ∨ k = 4) with rfl | rfl | rfl | rfl | rfl
          all_goals decide
        obtain ⟨hb1, hb2, hb3⟩ := hbd
        have hc1 : ([0, 2, 6, 14, 15].map ucell)[k]? = some (ucell (headT k)) := by
          rcases (by omega : k = 0 ∨ k = 1 ∨ k = 2 ∨ k = 3 ∨ k = 4) with rfl | rfl | rfl | rfl | rfl
          all_goals rfl
        have hc2 : ([1, 2, 3, 4, 4].map (Value.int .i64))[k]? = some (.int .i64 (lenT k : Int)) := by
          rcases (by omega : k = 0 ∨ k = 1 ∨ k = 2 ∨ k = 3 ∨ k = 4) with rfl | rfl | rfl | rfl | rfl
          all_goals rfl
        have hc3 : ([0, 7, 9, 12, 64].map (Value.int .i64))[k]? = some (.int .i64 (sizeT k : Int)) := by
          rcases (by omega : k = 0 ∨ k = 1 ∨ k = 2 ∨ k = 3 ∨ k = 4) with rfl | rfl | rfl | rfl | rfl
          all_goals rfl
        have hub := u64_bnd d
        have hdec := long_dec d k hk4 hd (by rw [← hL]; exact hkL)
        have hbit : ∀ b ∈ [] ++ bitsOf (Int.toNat 100) (heldF 64) ++ bitsOf (headT k) (heldF (lenT k : Int)) ++ bitsOf (IntKind.u64.wrap d).toNat (heldF (sizeT k : Int)), b < 2 := bok_app (bok_app (bok_app bok_nil (bitsOf_bit _ _)) (bitsOf_bit _ _)) (bitsOf_bit _ _)
        have hpw := pack_lt _ hbit
        have hpl : (pack ([] ++ bitsOf (Int.toNat 100) (heldF 64) ++ bitsOf (headT k) (heldF (lenT k : Int)) ++ bitsOf (IntKind.u64.wrap d).toNat (heldF (sizeT k : Int)))).length ≤ 140737488355328 := by
          rw [pack_len]
          simp only [List.length_append, bitsOf_len, List.length_nil, heldF]
          omega
        rw [← heldF_nat (lenT k) (by omega), ← heldF_nat (sizeT k) (by omega)] at hdec
        by_cases he : leastT d = k
        · rw [if_pos he] at hdec
          have hl2 : [100, 100 + d].length ≤ 17592186044416 := by simp
          have hkk : decide ((k : Int) = (L : Int)) = true := decide_eq_true (by omega)
          refine W.seq ?_
          refine W.region ?_
          refine WL.mv rfl rfl ?_
          refine WL.mv rfl rfl ?_
          refine WL.andI rfl rfl rfl (by decide) ?_
          refine WL.mv rfl rfl ?_
          refine WL.subK rfl rfl rfl (wrap_i64 ⟨by omega, by omega⟩) ?_
          refine WL.remI rfl rfl rfl (by omega) (by omega) ?_
          refine WL.addK rfl rfl rfl (wrap_i64 ⟨by omega, by omega⟩) ?_
          refine WL.as rfl rfl ?_
          refine WL.nil ?_
          refine W.seq ?_
          refine W.region ?_
          refine WL.callF rfl rfl (fun x p d => newWriter_c _) (fun r => ?_)
          refine WL.ex (fun b3 => ?_)
          refine WL.pure (fun er => ?_)
          subst er
          refine WL.as rfl rfl ?_
          refine WL.nil ?_
          refine W.seq ?_
          refine W.seq ?_
          refine W.region ?_
          refine WL.mv rfl rfl ?_
          refine WL.eqP (T := Ty) rfl rfl rfl ?_
          refine WL.nil ?_
          refine W.condF rfl ?_
          refine W.skip ?_
          refine W.seq ?_
          refine W.region ?_
          refine WL.mv rfl rfl ?_
          refine WL.callM 0 rfl rfl rfl (fun x p d => put_ci _ _ _ _ _ (by omega) (by omega) (by repeat' first | assumption | exact bok_nil | exact bitsOf_bit _ _ | apply bok_app) (by first | assumption | omega | (simp only [List.length_append, bitsOf_len, List.length_nil, heldF]; omega))) (by repeat' first | exact FL.nil | apply FL.cons) ?_
          refine WL.nil ?_
          refine W.seq ?_
          refine W.drawP 10 [true, false, false, false] rfl (by repeat' first | exact FL.nil | apply FL.cons) (by repeat' first | exact FL.nil | apply FL.cons) (fun σ0 hσ0 dσ0 => ?_)
          have fσ0_0 := ros_at 0 rfl hσ0 dσ0
          have fσ0_1 := ros_at 1 rfl hσ0 dσ0
          have fσ0_2 := ros_at 2 rfl hσ0 dσ0
          refine WD.takeL 0 rfl (by decide +kernel) ?_
          refine WL.mv rfl rfl ?_
          refine WL.nilT ?_
          refine WD.takeL 1 rfl (by decide +kernel) ?_
          refine WL.mv rfl rfl ?_
          refine WL.nilT ?_
          refine WD.takeL 2 rfl (by decide +kernel) ?_
          refine WL.mv rfl rfl ?_
          refine WL.nilT ?_
          refine WD.takeL 3 rfl (by decide +kernel) ?_
          refine WL.ix (T := Ty) rfl rfl rfl (by assumption) rfl rfl (by omega) (by first | omega | decide +kernel) ?_
          refine WL.nilT ?_
          refine WD.takeL 4 rfl (by decide +kernel) ?_
          refine WL.ldK (T := Ty) rfl rfl rfl rfl (by first | assumption | exact ROs.wide (by assumption)) (by assumption) (by omega) ?_
          refine WL.nilT ?_
          refine WD.takeL 5 rfl (by decide +kernel) ?_
          refine WL.mv rfl rfl ?_
          refine WL.nilT ?_
          refine WD.takeL 6 rfl (by decide +kernel) ?_
          refine WL.mv rfl rfl ?_
          refine WL.nilT ?_
          refine WD.takeL 7 rfl (by decide +kernel) ?_
          refine WL.ix (T := Ty) rfl rfl rfl (by assumption) rfl rfl (by omega) (by first | omega | decide +kernel) ?_
          refine WL.nilT ?_
          refine WD.takeL 8 rfl (by decide +kernel) ?_
          refine WL.ldK (T := Ty) rfl rfl rfl rfl (by first | assumption | exact ROs.wide (by assumption)) (by assumption) (by omega) ?_
          refine WL.nilT ?_
          refine WD.oneL 9 rfl (by decide +kernel) ?_
          refine WL.callM 1 rfl rfl rfl (fun x p d => put_c _ _ _ _ _ (by omega) (by repeat' first | assumption | exact bok_nil | exact bitsOf_bit _ _ | apply bok_app) (by first | assumption | omega | (simp only [List.length_append, bitsOf_len, List.length_nil, heldF]; omega))) (by repeat' first | exact FL.nil | apply FL.cons) ?_
          refine WL.nilE ?_
          refine WD.doneF hσ0 (by decide +kernel) (by repeat' first | exact FL.nil | apply FL.cons) ?_
          refine W.seq ?_
          refine W.region ?_
          refine WL.mv rfl rfl ?_
          refine WL.mv rfl rfl ?_
          refine WL.cv (T := Ty) rfl rfl rfl rfl ?_
          refine WL.mv rfl rfl ?_
          refine WL.mv rfl rfl ?_
          refine WL.ix (T := Ty) rfl rfl rfl (by assumption) rfl rfl (by omega) (by first | omega | decide +kernel) ?_
          refine WL.ldEK (T := Ty) (j := 0) rfl rfl rfl rfl rfl (by assumption) (by omega) ?_
          refine WL.callM 3 rfl rfl rfl (fun x p d => put_ci _ _ _ _ _ (by omega) (by omega) (by repeat' first | assumption | exact bok_nil | exact bitsOf_bit _ _ | apply bok_app) (by first | assumption | omega | (simp only [List.length_append, bitsOf_len, List.length_nil, heldF]; omega))) (by repeat' first | exact FL.nil | apply FL.cons) ?_
          refine WL.nil ?_
          refine W.seq ?_
          refine W.region ?_
          refine WL.mv rfl rfl ?_
          refine WL.callF rfl rfl (fun x p d => bytes_c _ _ _ (by first | assumption | exact In.wide (by assumption) | exact In.mono (by assumption) (eqh_at 0 rfl p d) | exact in_at 0 rfl p d | exact in_at 1 rfl p d | exact in_at 2 rfl p d | exact in_at 3 rfl p d | exact in_at 4 rfl p d) (by first | assumption | omega | (simp only [List.length_append, bitsOf_len, List.length_nil, heldF]; omega))) (fun u4 => ?_)
          refine WL.fact (i := 0) rfl (fun h hb => Buf.slm hb) (fun hsl4 => ?_)
          refine WL.callF rfl rfl (fun x p d => newReader_c _ _ _ (by first | assumption | exact ROs.wide (by assumption) | exact ROs.mono (by assumption) (eqh_at 0 rfl p d) | exact ros_at 0 rfl p d | exact ros_at 1 rfl p d | exact ros_at 2 rfl p d | exact ros_at 3 rfl p d | exact ros_at 4 rfl p d) (by first | assumption | omega | (simp only [pack_len, List.length_append, bitsOf_len, List.length_nil, heldF]; omega))) (fun r => ?_)
          refine WL.ex (fun b5 => ?_)
          refine WL.pure (fun er => ?_)
          subst er
          refine WL.as rfl rfl ?_
          refine WL.nil ?_
          refine W.seq ?_
          refine W.seq ?_
          refine W.region ?_
          refine WL.mv rfl rfl ?_
          refine WL.eqP (T := Ty) rfl rfl rfl ?_
          refine WL.nil ?_
          refine W.condF rfl ?_
          refine W.skip ?_
          refine W.seq ?_
          refine W.region ?_
          refine WL.mv rfl rfl ?_
          refine WL.callP 0 rfl rfl rfl (fun x p d => tdec_s _ _ _ _ _ (by assumption) (by first | assumption | exact Nat.zero_le _) (by first | assumption | omega | decide) (by assumption)) (by repeat' first | exact FL.nil | apply FL.cons) (fun r => ?_)
          refine WL.ex (fun u6 => ?_)
          refine WL.pure (fun er => ?_)
          subst er
          refine WL.open ?_
          refine WL.fact (i := 0) rfl (fun h hb => Buf.slm hb) (fun hsl6 => ?_)
          refine WL.mv rfl rfl ?_
          refine WL.extL rfl rfl rfl ?_
          refine WL.extL rfl rfl rfl ?_
          refine WL.as rfl rfl ?_
          refine WL.as rfl rfl ?_
          refine WL.nil ?_
          refine W.seq ?_
          refine W.region ?_
          refine WL.mv rfl rfl ?_
          refine WL.mv rfl rfl ?_
          refine WL.mv rfl rfl ?_
          refine WL.eql rfl rfl rfl ?_
          refine WL.eqB (T := Ty) rfl rfl rfl rfl ?_
          refine WL.mv rfl rfl ?_
          rw [hk]
          skip
          rw [hkk]
          refine WL.gY rfl rfl ?_
          refine WL.mv rfl rfl ?_
          refine WL.gY rfl rfl ?_
          refine WL.not rfl rfl ?_
          refine WL.gY rfl rfl ?_
          refine WL.mv rfl rfl ?_
          refine WL.gY rfl rfl ?_
          refine WL.mv rfl rfl ?_
          refine WL.gY rfl rfl ?_
          refine WL.mv rfl rfl ?_
          refine WL.gY rfl rfl ?_
          refine WL.addK rfl rfl rfl (wrap_i64 ⟨by omega, by omega⟩) ?_
          refine WL.gY rfl rfl ?_
          refine WL.bsC (T := Ty) rfl rfl rfl rfl rfl rfl rfl (by repeat' first | exact CO.nil | apply CO.one (by first | rfl | exact SL.one (by assumption)) | apply CO.agg) rfl (by repeat' first | exact FL.nil | apply FL.cons) (fun u7 hu7 => ?_)
          refine WL.reC (Value.int .i64) [100, 100 + d] rfl ?_
          refine WL.gY rfl rfl ?_
          refine WL.callV rfl rfl (fun x p d => samet_t _ _ _ _ _ (by first | with_reducible rfl | assumption) (by first | assumption | exact ROs.wide (by assumption) | exact ROs.mono (by assumption) (eqh_at 0 rfl p d) | exact ros_at 0 rfl p d | exact ros_at 1 rfl p d | exact ros_at 2 rfl p d | exact ros_at 3 rfl p d | exact ros_at 4 rfl p d) (by first | assumption | exact ROs.wide (by assumption) | exact ROs.mono (by assumption) (eqh_at 0 rfl p d) | exact ros_at 0 rfl p d | exact ros_at 1 rfl p d | exact ros_at 2 rfl p d | exact ros_at 3 rfl p d | exact ros_at 4 rfl p d) (by first | assumption | omega | exact Nat.zero_le _ | decide)) ?_
          refine WL.gY rfl rfl ?_
          refine WL.pickF rfl rfl rfl ?_
          refine WL.pickT rfl rfl rfl ?_
          refine WL.mv rfl rfl ?_
          refine WL.gY rfl rfl ?_
          refine WL.callT rfl rfl (fun x p d => awake4_c _) ?_
          refine WL.pickT rfl rfl rfl ?_
          refine WL.as rfl rfl ?_
          refine WL.nil ?_
          exact W.ret1 rfl rfl (fun h p => rfl)
        · rw [if_neg he] at hdec
          have hkk : decide ((k : Int) = (L : Int)) = false := decide_eq_false (by omega)
          refine W.seq ?_
          refine W.region ?_
          refine WL.mv rfl rfl ?_
          refine WL.mv rfl rfl ?_
          refine WL.andI rfl rfl rfl (by decide) ?_
          refine WL.mv rfl rfl ?_
          refine WL.subK rfl rfl rfl (wrap_i64 ⟨by omega, by omega⟩) ?_
          refine WL.remI rfl rfl rfl (by omega) (by omega) ?_
          refine WL.addK rfl rfl rfl (wrap_i64 ⟨by omega, by omega⟩) ?_
          refine WL.as rfl rfl ?_
          refine WL.nil ?_
          refine W.seq ?_
          refine W.region ?_
          refine WL.callF rfl rfl (fun x p d => newWriter_c _) (fun r => ?_)
          refine WL.ex (fun b3 => ?_)
          refine WL.pure (fun er => ?_)
          subst er
          refine WL.as rfl rfl ?_
          refine WL.nil ?_
          refine W.seq ?_
          refine W.seq ?_
          refine W.region ?_
          refine WL.mv rfl rfl ?_
          refine WL.eqP (T := Ty) rfl rfl rfl ?_
          refine WL.nil ?_
          refine W.condF rfl ?_
          refine W.skip ?_
          refine W.seq ?_
          refine W.region ?_
          refine WL.mv rfl rfl ?_
          refine WL.callM 0 rfl rfl rfl (fun x p d => put_ci _ _ _ _ _ (by omega) (by omega) (by repeat' first | assumption | exact bok_nil | exact bitsOf_bit _ _ | apply bok_app) (by first | assumption | omega | (simp only [List.length_append, bitsOf_len, List.length_nil, heldF]; omega))) (by repeat' first | exact FL.nil | apply FL.cons) ?_
          refine WL.nil ?_
          refine W.seq ?_
          refine W.drawP 10 [true, false, false, false] rfl (by repeat' first | exact FL.nil | apply FL.cons) (by repeat' first | exact FL.nil | apply FL.cons) (fun σ0 hσ0 dσ0 => ?_)
          have fσ0_0 := ros_at 0 rfl hσ0 dσ0
          have fσ0_1 := ros_at 1 rfl hσ0 dσ0
          have fσ0_2 := ros_at 2 rfl hσ0 dσ0
          refine WD.takeL 0 rfl (by decide +kernel) ?_
          refine WL.mv rfl rfl ?_
          refine WL.nilT ?_
          refine WD.takeL 1 rfl (by decide +kernel) ?_
          refine WL.mv rfl rfl ?_
          refine WL.nilT ?_
          refine WD.takeL 2 rfl (by decide +kernel) ?_
          refine WL.mv rfl rfl ?_
          refine WL.nilT ?_
          refine WD.takeL 3 rfl (by decide +kernel) ?_
          refine WL.ix (T := Ty) rfl rfl rfl (by assumption) rfl rfl (by omega) (by first | omega | decide +kernel) ?_
          refine WL.nilT ?_
          refine WD.takeL 4 rfl (by decide +kernel) ?_
          refine WL.ldK (T := Ty) rfl rfl rfl rfl (by first | assumption | exact ROs.wide (by assumption)) (by assumption) (by omega) ?_
          refine WL.nilT ?_
          refine WD.takeL 5 rfl (by decide +kernel) ?_
          refine WL.mv rfl rfl ?_
          refine WL.nilT ?_
          refine WD.takeL 6 rfl (by decide +kernel) ?_
          refine WL.mv rfl rfl ?_
          refine WL.nilT ?_
          refine WD.takeL 7 rfl (by decide +kernel) ?_
          refine WL.ix (T := Ty) rfl rfl rfl (by assumption) rfl rfl (by omega) (by first | omega | decide +kernel) ?_
          refine WL.nilT ?_
          refine WD.takeL 8 rfl (by decide +kernel) ?_
          refine WL.ldK (T := Ty) rfl rfl rfl rfl (by first | assumption | exact ROs.wide (by assumption)) (by assumption) (by omega) ?_
          refine WL.nilT ?_
          refine WD.oneL 9 rfl (by decide +kernel) ?_
          refine WL.callM 1 rfl rfl rfl (fun x p d => put_c _ _ _ _ _ (by omega) (by repeat' first | assumption | exact bok_nil | exact bitsOf_bit _ _ | apply bok_app) (by first | assumption | omega | (simp only [List.length_append, bitsOf_len, List.length_nil, heldF]; omega))) (by repeat' first | exact FL.nil | apply FL.cons) ?_
          refine WL.nilE ?_
          refine WD.doneF hσ0 (by decide +kernel) (by repeat' first | exact FL.nil | apply FL.cons) ?_
          refine W.seq ?_
          refine W.region ?_
          refine WL.mv rfl rfl ?_
          refine WL.mv rfl rfl ?_
          refine WL.cv (T := Ty) rfl rfl rfl rfl ?_
          refine WL.mv rfl rfl ?_
          refine WL.mv rfl rfl ?_
          refine WL.ix (T := Ty) rfl rfl rfl (by assumption) rfl rfl (by omega) (by first | omega | decide +kernel) ?_
          refine WL.ldEK (T := Ty) (j := 0) rfl rfl rfl rfl rfl (by assumption) (by omega) ?_
          refine WL.callM 3 rfl rfl rfl (fun x p d => put_ci _ _ _ _ _ (by omega) (by omega) (by repeat' first | assumption | exact bok_nil | exact bitsOf_bit _ _ | apply bok_app) (by first | assumption | omega | (simp only [List.length_append, bitsOf_len, List.length_nil, heldF]; omega))) (by repeat' first | exact FL.nil | apply FL.cons) ?_
          refine WL.nil ?_
          refine W.seq ?_
          refine W.region ?_
          refine WL.mv rfl rfl ?_
          refine WL.callF rfl rfl (fun x p d => bytes_c _ _ _ (by first | assumption | exact In.wide (by assumption) | exact In.mono (by assumption) (eqh_at 0 rfl p d) | exact in_at 0 rfl p d | exact in_at 1 rfl p d | exact in_at 2 rfl p d | exact in_at 3 rfl p d | exact in_at 4 rfl p d) (by first | assumption | omega | (simp only [List.length_append, bitsOf_len, List.length_nil, heldF]; omega))) (fun u4 => ?_)
          refine WL.fact (i := 0) rfl (fun h hb => Buf.slm hb) (fun hsl4 => ?_)
          refine WL.callF rfl rfl (fun x p d => newReader_c _ _ _ (by first | assumption | exact ROs.wide (by assumption) | exact ROs.mono (by assumption) (eqh_at 0 rfl p d) | exact ros_at 0 rfl p d | exact ros_at 1 rfl p d | exact ros_at 2 rfl p d | exact ros_at 3 rfl p d | exact ros_at 4 rfl p d) (by first | assumption | omega | (simp only [pack_len, List.length_append, bitsOf_len, List.length_nil, heldF]; omega))) (fun r => ?_)
          refine WL.ex (fun b5 => ?_)
          refine WL.pure (fun er => ?_)
          subst er
          refine WL.as rfl rfl ?_
          refine WL.nil ?_
          refine W.seq ?_
          refine W.seq ?_
          refine W.region ?_
          refine WL.mv rfl rfl ?_
          refine WL.eqP (T := Ty) rfl rfl rfl ?_
          refine WL.nil ?_
          refine W.condF rfl ?_
          refine W.skip ?_
          refine W.seq ?_
          refine W.region ?_
          refine WL.mv rfl rfl ?_
          refine WL.callP 0 rfl rfl rfl (fun x p d => tdec_n _ _ _ _ _ (by assumption) (by first | assumption | exact Nat.zero_le _) (by first | assumption | omega | decide) (by assumption)) (by repeat' first | exact FL.nil | apply FL.cons) (fun r => ?_)
          refine WL.ex (fun u6 => ?_)
          refine WL.pure (fun er => ?_)
          subst er
          refine WL.ex (fun q6 => ?_)
          refine WL.pure (fun hq6 => ?_)
          refine WL.open ?_
          refine WL.fact (i := 0) rfl (fun h hb => Buf.slm hb) (fun hsl6 => ?_)
          refine WL.mv rfl rfl ?_
          refine WL.extL rfl rfl rfl ?_
          refine WL.extL rfl rfl rfl ?_
          refine WL.as rfl rfl ?_
          refine WL.as rfl rfl ?_
          refine WL.nil ?_
          refine W.seq ?_
          refine W.region ?_
          refine WL.mv rfl rfl ?_
          refine WL.mv rfl rfl ?_
          refine WL.mv rfl rfl ?_
          refine WL.eql rfl rfl rfl ?_
          refine WL.eqB (T := Ty) rfl rfl rfl rfl ?_
          refine WL.mv rfl rfl ?_
          rw [hk]
          skip
          rw [hkk]
          refine WL.gY rfl rfl ?_
          refine WL.mv rfl rfl ?_
          refine WL.gY rfl rfl ?_
          refine WL.not rfl rfl ?_
          refine WL.gY rfl rfl ?_
          refine WL.mv rfl rfl ?_
          refine WL.gdN rfl rfl rfl rfl rfl rfl ?_
          refine WL.gdN rfl rfl rfl rfl rfl rfl ?_
          refine WL.gdN rfl rfl rfl rfl rfl rfl ?_
          refine WL.gdN rfl rfl rfl rfl rfl rfl ?_
          refine WL.gdN rfl rfl rfl rfl rfl rfl ?_
          refine WL.gY rfl rfl ?_
          refine WL.pickT rfl rfl rfl ?_
          refine WL.pickT rfl rfl rfl ?_
          refine WL.mv rfl rfl ?_
          refine WL.gY rfl rfl ?_
          refine WL.callT rfl rfl (fun x p d => awake4_c _) ?_
          refine WL.pickT rfl rfl rfl ?_
          refine WL.as rfl rfl ?_
          refine WL.nil ?_
          exact W.ret1 rfl rfl (fun h p => rfl)
      · refine W.condp rfl (fun hz => ?_) (fun hz => ?_)
        · refine W.region ?_
          refine WL.as rfl rfl ?_
          refine WL.nil ?_
          refine W.sub ?_ (cut3 0 (by unfold leastT; rw [if_pos hz]))
          exact ⟨rfl, rfl, rfl, rfl, rfl, rfl, rfl, trivial⟩
        · refine W.skip ?_
          refine W.sub ?_ (cut3 L (by rw [hL]; unfold leastT; rw [if_neg hz]))
          exact ⟨rfl, rfl, rfl, rfl, rfl, rfl, rfl, trivial⟩
    · have s1 : ([0, 7, 9, 12, 64].map (Value.int .i64))[1]? = some (.int .i64 7) := rfl
      have s2 : ([0, 7, 9, 12, 64].map (Value.int .i64))[2]? = some (.int .i64 9) := rfl
      have s3 : ([0, 7, 9, 12, 64].map (Value.int .i64))[3]? = some (.int .i64 12) := rfl
      have e1 : IntKind.i64.wrap (-1 * 2 ^ min ((7 - 1 : Int)).toNat IntKind.i64.bits) = -64 := by decide
      have e2 : IntKind.i64.wrap (1 * 2 ^ min ((7 - 1 : Int)).toNat IntKind.i64.bits) = 64 := by decide
      have e3 : IntKind.i64.wrap (-1 * 2 ^ min ((9 - 1 : Int)).toNat IntKind.i64.bits) = -256 := by decide
      have e4 : IntKind.i64.wrap (1 * 2 ^ min ((9 - 1 : Int)).toNat IntKind.i64.bits) = 256 := by decide
      have e5 : IntKind.i64.wrap (-1 * 2 ^ min ((12 - 1 : Int)).toNat IntKind.i64.bits) = -2048 := by decide
      have e6 : IntKind.i64.wrap (1 * 2 ^ min ((12 - 1 : Int)).toNat IntKind.i64.bits) = 2048 := by decide
      rcases (by omega : d < -2048 ∨ (-2048 ≤ d ∧ d < -256) ∨ (-256 ≤ d ∧ d < -64) ∨ (-64 ≤ d ∧ d ≤ 63) ∨ (63 < d ∧ d ≤ 255) ∨ (255 < d ∧ d ≤ 2047) ∨ 2047 < d) with h | h | h | h | h | h | h
      iterate 7
        · refine W.loop ?_
          first
            | (refine W.seq ?_; refine W.seq ?_; refine W.region ?_; refine WL.mv rfl rfl ?_; refine WL.geq rfl rfl rfl ?_; refine WL.nil ?_; refine W.condT rfl ?_; refine W.skip ?_; refine W.seq ?_; refine W.block ?_; refine W.seq ?_; refine W.region ?_; refine WL.mv rfl rfl ?_; refine WL.mv rfl rfl ?_; refine WL.mv rfl rfl ?_; refine WL.ix (T := Ty) rfl rfl rfl (by assumption) rfl rfl (by omega) (by first | omega | decide +kernel) ?_; refine WL.ldE (T := Ty) (j := 0) rfl rfl rfl rfl rfl (by assumption) ?_; refine WL.subK rfl rfl rfl (wrap_i64 ⟨by omega, by omega⟩) ?_; refine WL.cvK (T := Ty) rfl rfl rfl rfl (wrap_u64 ⟨by omega, by omega⟩) ?_; refine WL.shlS rfl rfl rfl (by omega) rfl rfl ?_; refine WL.geq rfl rfl rfl ?_; refine WL.mv rfl rfl ?_; refine WL.gT rfl rfl (by omega) ?_; refine WL.mv rfl rfl ?_; refine WL.gT rfl rfl (by omega) ?_; refine WL.mv rfl rfl ?_; refine WL.gT rfl rfl (by omega) ?_; refine WL.mv rfl rfl ?_; refine WL.gT rfl rfl (by omega) ?_; refine WL.ix (T := Ty) rfl rfl rfl (by assumption) rfl rfl (by omega) (by first | omega | decide +kernel) ?_; refine WL.gT rfl rfl (by omega) ?_; refine WL.ldE (T := Ty) (j := 0) rfl rfl rfl rfl rfl (by assumption) ?_; refine WL.gT rfl rfl (by omega) ?_; refine WL.subK rfl rfl rfl (wrap_i64 ⟨by omega, by omega⟩) ?_; refine WL.gT rfl rfl (by omega) ?_; refine WL.cvK (T := Ty) rfl rfl rfl rfl (wrap_u64 ⟨by omega, by omega⟩) ?_; refine WL.gT rfl rfl (by omega) ?_; refine WL.shlS rfl rfl rfl (by omega) rfl rfl ?_; refine WL.gT rfl rfl (by omega) ?_; refine WL.lss rfl rfl rfl ?_; refine WL.pickTp rfl rfl (by omega) rfl ?_; refine WL.nil ?_; refine W.condpT rfl (by omega) ?_; refine W.region ?_; refine WL.mv rfl rfl ?_; refine WL.as rfl rfl ?_; refine WL.nil ?_; refine W.inBlock ?_; refine W.region ?_; refine WL.mv rfl rfl ?_; refine WL.subK rfl rfl rfl (wrap_i64 ⟨by omega, by omega⟩) ?_; refine WL.as rfl rfl ?_; refine WL.nil ?_)
            | (refine W.seq ?_; refine W.seq ?_; refine W.region ?_; refine WL.mv rfl rfl ?_; refine WL.geq rfl rfl rfl ?_; refine WL.nil ?_; refine W.condT rfl ?_; refine W.skip ?_; refine W.seq ?_; refine W.block ?_; refine W.seq ?_; refine W.region ?_; refine WL.mv rfl rfl ?_; refine WL.mv rfl rfl ?_; refine WL.mv rfl rfl ?_; refine WL.ix (T := Ty) rfl rfl rfl (by assumption) rfl rfl (by omega) (by first | omega | decide +kernel) ?_; refine WL.ldE (T := Ty) (j := 0) rfl rfl rfl rfl rfl (by assumption) ?_; refine WL.subK rfl rfl rfl (wrap_i64 ⟨by omega, by omega⟩) ?_; refine WL.cvK (T := Ty) rfl rfl rfl rfl (wrap_u64 ⟨by omega, by omega⟩) ?_; refine WL.shlS rfl rfl rfl (by omega) rfl rfl ?_; refine WL.geq rfl rfl rfl ?_; refine WL.mv rfl rfl ?_; refine WL.gT rfl rfl (by omega) ?_; refine WL.mv rfl rfl ?_; refine WL.gT rfl rfl (by omega) ?_; refine WL.mv rfl rfl ?_; refine WL.gT rfl rfl (by omega) ?_; refine WL.mv rfl rfl ?_; refine WL.gT rfl rfl (by omega) ?_; refine WL.ix (T := Ty) rfl rfl rfl (by assumption) rfl rfl (by omega) (by first | omega | decide +kernel) ?_; refine WL.gT rfl rfl (by omega) ?_; refine WL.ldE (T := Ty) (j := 0) rfl rfl rfl rfl rfl (by assumption) ?_; refine WL.gT rfl rfl (by omega) ?_; refine WL.subK rfl rfl rfl (wrap_i64 ⟨by omega, by omega⟩) ?_; refine WL.gT rfl rfl (by omega) ?_; refine WL.cvK (T := Ty) rfl rfl rfl rfl (wrap_u64 ⟨by omega, by omega⟩) ?_; refine WL.gT rfl rfl (by omega) ?_; refine WL.shlS rfl rfl rfl (by omega) rfl rfl ?_; refine WL.gT rfl rfl (by omega) ?_; refine WL.lss rfl rfl rfl ?_; refine WL.pickTp rfl rfl (by omega) rfl ?_; refine WL.nil ?_; refine W.condpF rfl (by omega) ?_; refine W.skip ?_; refine W.inBlock ?_; refine W.region ?_; refine WL.mv rfl rfl ?_; refine WL.subK rfl rfl rfl (wrap_i64 ⟨by omega, by omega⟩) ?_; refine WL.as rfl rfl ?_; refine WL.nil ?_)
            | (refine W.seq ?_; refine W.seq ?_; refine W.region ?_; refine WL.mv rfl rfl ?_; refine WL.geq rfl rfl rfl ?_; refine WL.nil ?_; refine W.condT rfl ?_; refine W.skip ?_; refine W.seq ?_; refine W.block ?_; refine W.seq ?_; refine W.region ?_; refine WL.mv rfl rfl ?_; refine WL.mv rfl rfl ?_; refine WL.mv rfl rfl ?_; refine WL.ix (T := Ty) rfl rfl rfl (by assumption) rfl rfl (by omega) (by first | omega | decide +kernel) ?_; refine WL.ldE (T := Ty) (j := 0) rfl rfl rfl rfl rfl (by assumption) ?_; refine WL.subK rfl rfl rfl (wrap_i64 ⟨by omega, by omega⟩) ?_; refine WL.cvK (T := Ty) rfl rfl rfl rfl (wrap_u64 ⟨by omega, by omega⟩) ?_; refine WL.shlS rfl rfl rfl (by omega) rfl rfl ?_; refine WL.geq rfl rfl rfl ?_; refine WL.mv rfl rfl ?_; refine WL.gdTn rfl rfl rfl rfl rfl (by omega) ?_; refine WL.gdTn rfl rfl rfl rfl rfl (by omega) ?_; refine WL.gdTn rfl rfl rfl rfl rfl (by omega) ?_; refine WL.gdTn rfl rfl rfl rfl rfl (by omega) ?_; refine WL.gdTn rfl rfl rfl rfl rfl (by omega) ?_; refine WL.gdTn rfl rfl rfl rfl rfl (by omega) ?_; refine WL.gdTn rfl rfl rfl rfl rfl (by omega) ?_; refine WL.gdTn rfl rfl rfl rfl rfl (by omega) ?_; refine WL.gdTn rfl rfl rfl rfl rfl (by omega) ?_; refine WL.pickFp rfl rfl (by omega) rfl ?_; refine WL.nil ?_; refine W.condF rfl ?_; refine W.skip ?_; refine W.inBlock ?_; refine W.region ?_; refine WL.mv rfl rfl ?_; refine WL.subK rfl rfl rfl (wrap_i64 ⟨by omega, by omega⟩) ?_; refine WL.as rfl rfl ?_; refine WL.nil ?_)
          refine W.inLoop ?_
          first
            | (refine W.seq ?_; refine W.seq ?_; refine W.region ?_; refine WL.mv rfl rfl ?_; refine WL.geq rfl rfl rfl ?_; refine WL.nil ?_; refine W.condT rfl ?_; refine W.skip ?_; refine W.seq ?_; refine W.block ?_; refine W.seq ?_; refine W.region ?_; refine WL.mv rfl rfl ?_; refine WL.mv rfl rfl ?_; refine WL.mv rfl rfl ?_; refine WL.ix (T := Ty) rfl rfl rfl (by assumption) rfl rfl (by omega) (by first | omega | decide +kernel) ?_; refine WL.ldE (T := Ty) (j := 0) rfl rfl rfl rfl rfl (by assumption) ?_; refine WL.subK rfl rfl rfl (wrap_i64 ⟨by omega, by omega⟩) ?_; refine WL.cvK (T := Ty) rfl rfl rfl rfl (wrap_u64 ⟨by omega, by omega⟩) ?_; refine WL.shlS rfl rfl rfl (by omega) rfl rfl ?_; refine WL.geq rfl rfl rfl ?_; refine WL.mv rfl rfl ?_; refine WL.gT rfl rfl (by omega) ?_; refine WL.mv rfl rfl ?_; refine WL.gT rfl rfl (by omega) ?_; refine WL.mv rfl rfl ?_; refine WL.gT rfl rfl (by omega) ?_; refine WL.mv rfl rfl ?_; refine WL.gT rfl rfl (by omega) ?_; refine WL.ix (T := Ty) rfl rfl rfl (by assumption) rfl rfl (by omega) (by first | omega | decide +kernel) ?_; refine WL.gT rfl rfl (by omega) ?_; refine WL.ldE (T := Ty) (j := 0) rfl rfl rfl rfl rfl (by assumption) ?_; refine WL.gT rfl rfl (by omega) ?_; refine WL.subK rfl rfl rfl (wrap_i64 ⟨by omega, by omega⟩) ?_; refine WL.gT rfl rfl (by omega) ?_; refine WL.cvK (T := Ty) rfl rfl rfl rfl (wrap_u64 ⟨by omega, by omega⟩) ?_; refine WL.gT rfl rfl (by omega) ?_; refine WL.shlS rfl rfl rfl (by omega) rfl rfl ?_; refine WL.gT rfl rfl (by omega) ?_; refine WL.lss rfl rfl rfl ?_; refine WL.pickTp rfl rfl (by omega) rfl ?_; refine WL.nil ?_; refine W.condpT rfl (by omega) ?_; refine W.region ?_; refine WL.mv rfl rfl ?_; refine WL.as rfl rfl ?_; refine WL.nil ?_; refine W.inBlock ?_; refine W.region ?_; refine WL.mv rfl rfl ?_; refine WL.subK rfl rfl rfl (wrap_i64 ⟨by omega, by omega⟩) ?_; refine WL.as rfl rfl ?_; refine WL.nil ?_)
            | (refine W.seq ?_; refine W.seq ?_; refine W.region ?_; refine WL.mv rfl rfl ?_; refine WL.geq rfl rfl rfl ?_; refine WL.nil ?_; refine W.condT rfl ?_; refine W.skip ?_; refine W.seq ?_; refine W.block ?_; refine W.seq ?_; refine W.region ?_; refine WL.mv rfl rfl ?_; refine WL.mv rfl rfl ?_; refine WL.mv rfl rfl ?_; refine WL.ix (T := Ty) rfl rfl rfl (by assumption) rfl rfl (by omega) (by first | omega | decide +kernel) ?_; refine WL.ldE (T := Ty) (j := 0) rfl rfl rfl rfl rfl (by assumption) ?_; refine WL.subK rfl rfl rfl (wrap_i64 ⟨by omega, by omega⟩) ?_; refine WL.cvK (T := Ty) rfl rfl rfl rfl (wrap_u64 ⟨by omega, by omega⟩) ?_; refine WL.shlS rfl rfl rfl (by omega) rfl rfl ?_; refine WL.geq rfl rfl rfl ?_; refine WL.mv rfl rfl ?_; refine WL.gT rfl rfl (by omega) ?_; refine WL.mv rfl rfl ?_; refine WL.gT rfl rfl (by omega) ?_; refine WL.mv rfl rfl ?_; refine WL.gT rfl rfl (by omega) ?_; refine WL.mv rfl rfl ?_; refine WL.gT rfl rfl (by omega) ?_; refine WL.ix (T := Ty) rfl rfl rfl (by assumption) rfl rfl (by omega) (by first | omega | decide +kernel) ?_; refine WL.gT rfl rfl (by omega) ?_; refine WL.ldE (T := Ty) (j := 0) rfl rfl rfl rfl rfl (by assumption) ?_; refine WL.gT rfl rfl (by omega) ?_; refine WL.subK rfl rfl rfl (wrap_i64 ⟨by omega, by omega⟩) ?_; refine WL.gT rfl rfl (by omega) ?_; refine WL.cvK (T := Ty) rfl rfl rfl rfl (wrap_u64 ⟨by omega, by omega⟩) ?_; refine WL.gT rfl rfl (by omega) ?_; refine WL.shlS rfl rfl rfl (by omega) rfl rfl ?_; refine WL.gT rfl rfl (by omega) ?_; refine WL.lss rfl rfl rfl ?_; refine WL.pickTp rfl rfl (by omega) rfl ?_; refine WL.nil ?_; refine W.condpF rfl (by omega) ?_; refine W.skip ?_; refine W.inBlock ?_; refine W.region ?_; refine WL.mv rfl rfl ?_; refine WL.subK rfl rfl rfl (wrap_i64 ⟨by omega, by omega⟩) ?_; refine WL.as rfl rfl ?_; refine WL.nil ?_)
            | (refine W.seq ?_; refine W.seq ?_; refine W.region ?_; refine WL.mv rfl rfl ?_; refine WL.geq rfl rfl rfl ?_; refine WL.nil ?_; refine W.condT rfl ?_; refine W.skip ?_; refine W.seq ?_; refine W.block ?_; refine W.seq ?_; refine W.region ?_; refine WL.mv rfl rfl ?_; refine WL.mv rfl rfl ?_; refine WL.mv rfl rfl ?_; refine WL.ix (T := Ty) rfl rfl rfl (by assumption) rfl rfl (by omega) (by first | omega | decide +kernel) ?_; refine WL.ldE (T := Ty) (j := 0) rfl rfl rfl rfl rfl (by assumption) ?_; refine WL.subK rfl rfl rfl (wrap_i64 ⟨by omega, by omega⟩) ?_; refine WL.cvK (T := Ty) rfl rfl rfl rfl (wrap_u64 ⟨by omega, by omega⟩) ?_; refine WL.shlS rfl rfl rfl (by omega) rfl rfl ?_; refine WL.geq rfl rfl rfl ?_; refine WL.mv rfl rfl ?_; refine WL.gdTn rfl rfl rfl rfl rfl (by omega) ?_; refine WL.gdTn rfl rfl rfl rfl rfl (by omega) ?_; refine WL.gdTn rfl rfl rfl rfl rfl (by omega) ?_; refine WL.gdTn rfl rfl rfl rfl rfl (by omega) ?_; refine WL.gdTn rfl rfl rfl rfl rfl (by omega) ?_; refine WL.gdTn rfl rfl rfl rfl rfl (by omega) ?_; refine WL.gdTn rfl rfl rfl rfl rfl (by omega) ?_; refine WL.gdTn rfl rfl rfl rfl rfl (by omega) ?_; refine WL.gdTn rfl rfl rfl rfl rfl (by omega) ?_; refine WL.pickFp rfl rfl (by omega) rfl ?_; refine WL.nil ?_; refine W.condF rfl ?_; refine W.skip ?_; refine W.inBlock ?_; refine W.region ?_; refine WL.mv rfl rfl ?_; refine WL.subK rfl rfl rfl (wrap_i64 ⟨by omega, by omega⟩) ?_; refine WL.as rfl rfl ?_; refine WL.nil ?_)
          refine W.inLoop ?_
          first
            | (refine W.seq ?_; refine W.seq ?_; refine W.region ?_; refine WL.mv rfl rfl ?_; refine WL.geq rfl rfl rfl ?_; refine WL.nil ?_; refine W.condT rfl ?_; refine W.skip ?_; refine W.seq ?_; refine W.block ?_; refine W.seq ?_; refine W.region ?_; refine WL.mv rfl rfl ?_; refine WL.mv rfl rfl ?_; refine WL.mv rfl rfl ?_; refine WL.ix (T := Ty) rfl rfl rfl (by assumption) rfl rfl (by omega) (by first | omega | decide +kernel) ?_; refine WL.ldE (T := Ty) (j := 0) rfl rfl rfl rfl rfl (by assumption) ?_; refine WL.subK rfl rfl rfl (wrap_i64 ⟨by omega, by omega⟩) ?_; refine WL.cvK (T := Ty) rfl rfl rfl rfl (wrap_u64 ⟨by omega, by omega⟩) ?_; refine WL.shlS rfl rfl rfl (by omega) rfl rfl ?_; refine WL.geq rfl rfl rfl ?_; refine WL.mv rfl rfl ?_; refine WL.gT rfl rfl (by omega) ?_; refine WL.mv rfl rfl ?_; refine WL.gT rfl rfl (by omega) ?_; refine WL.mv rfl rfl ?_; refine WL.gT rfl rfl (by omega) ?_; refine WL.mv rfl rfl ?_; refine WL.gT rfl rfl (by omega) ?_; refine WL.ix (T := Ty) rfl rfl rfl (by assumption) rfl rfl (by omega) (by first | omega | decide +kernel) ?_; refine WL.gT rfl rfl (by omega) ?_; refine WL.ldE (T := Ty) (j := 0) rfl rfl rfl rfl rfl (by assumption) ?_; refine WL.gT rfl rfl (by omega) ?_; refine WL.subK rfl rfl rfl (wrap_i64 ⟨by omega, by omega⟩) ?_; refine WL.gT rfl rfl (by omega) ?_; refine WL.cvK (T := Ty) rfl rfl rfl rfl (wrap_u64 ⟨by omega, by omega⟩) ?_; refine WL.gT rfl rfl (by omega) ?_; refine WL.shlS rfl rfl rfl (by omega) rfl rfl ?_; refine WL.gT rfl rfl (by omega) ?_; refine WL.lss rfl rfl rfl ?_; refine WL.pickTp rfl rfl (by omega) rfl ?_; refine WL.nil ?_; refine W.condpT rfl (by omega) ?_; refine W.region ?_; refine WL.mv rfl rfl ?_; refine WL.as rfl rfl ?_; refine WL.nil ?_; refine W.inBlock ?_; refine W.region ?_; refine WL.mv rfl rfl ?_; refine WL.subK rfl rfl rfl (wrap_i64 ⟨by omega, by omega⟩) ?_; refine WL.as rfl rfl ?_; refine WL.nil ?_)
            | (refine W.seq ?_; refine W.seq ?_; refine W.region ?_; refine WL.mv rfl rfl ?_; refine WL.geq rfl rfl rfl ?_; refine WL.nil ?_; refine W.condT rfl ?_; refine W.skip ?_; refine W.seq ?_; refine W.block ?_; refine W.seq ?_; refine W.region ?_; refine WL.mv rfl rfl ?_; refine WL.mv rfl rfl ?_; refine WL.mv rfl rfl ?_; refine WL.ix (T := Ty) rfl rfl rfl (by assumption) rfl rfl (by omega) (by first | omega | decide +kernel) ?_; refine WL.ldE (T := Ty) (j := 0) rfl rfl rfl rfl rfl (by assumption) ?_; refine WL.subK rfl rfl rfl (wrap_i64 ⟨by omega, by omega⟩) ?_; refine WL.cvK (T := Ty) rfl rfl rfl rfl (wrap_u64 ⟨by omega, by omega⟩) ?_; refine WL.shlS rfl rfl rfl (by omega) rfl rfl ?_; refine WL.geq rfl rfl rfl ?_; refine WL.mv rfl rfl ?_; refine WL.gT rfl rfl (by omega) ?_; refine WL.mv rfl rfl ?_; refine WL.gT rfl rfl (by omega) ?_; refine WL.mv rfl rfl ?_; refine WL.gT rfl rfl (by omega) ?_; refine WL.mv rfl rfl ?_; refine WL.gT rfl rfl (by omega) ?_; refine WL.ix (T := Ty) rfl rfl rfl (by assumption) rfl rfl (by omega) (by first | omega | decide +kernel) ?_; refine WL.gT rfl rfl (by omega) ?_; refine WL.ldE (T := Ty) (j := 0) rfl rfl rfl rfl rfl (by assumption) ?_; refine WL.gT rfl rfl (by omega) ?_; refine WL.subK rfl rfl rfl (wrap_i64 ⟨by omega, by omega⟩) ?_; refine WL.gT rfl rfl (by omega) ?_; refine WL.cvK (T := Ty) rfl rfl rfl rfl (wrap_u64 ⟨by omega, by omega⟩) ?_; refine WL.gT rfl rfl (by omega) ?_; refine WL.shlS rfl rfl rfl (by omega) rfl rfl ?_; refine WL.gT rfl rfl (by omega) ?_; refine WL.lss rfl rfl rfl ?_; refine WL.pickTp rfl rfl (by omega) rfl ?_; refine WL.nil ?_; refine W.condpF rfl (by omega) ?_; refine W.skip ?_; refine W.inBlock ?_; refine W.region ?_; refine WL.mv rfl rfl ?_; refine WL.subK rfl rfl rfl (wrap_i64 ⟨by omega, by omega⟩) ?_; refine WL.as rfl rfl ?_; refine WL.nil ?_)
            | (refine W.seq ?_; refine W.seq ?_; refine W.region ?_; refine WL.mv rfl rfl ?_; refine WL.geq rfl rfl rfl ?_; refine WL.nil ?_; refine W.condT rfl ?_; refine W.skip ?_; refine W.seq ?_; refine W.block ?_; refine W.seq ?_; refine W.region ?_; refine WL.mv rfl rfl ?_; refine WL.mv rfl rfl ?_; refine WL.mv rfl rfl ?_; refine WL.ix (T := Ty) rfl rfl rfl (by assumption) rfl rfl (by omega) (by first | omega | decide +kernel) ?_; refine WL.ldE (T := Ty) (j := 0) rfl rfl rfl rfl rfl (by assumption) ?_; refine WL.subK rfl rfl rfl (wrap_i64 ⟨by omega, by omega⟩) ?_; refine WL.cvK (T := Ty) rfl rfl rfl rfl (wrap_u64 ⟨by omega, by omega⟩) ?_; refine WL.shlS rfl rfl rfl (by omega) rfl rfl ?_; refine WL.geq rfl rfl rfl ?_; refine WL.mv rfl rfl ?_; refine WL.gdTn rfl rfl rfl rfl rfl (by omega) ?_; refine WL.gdTn rfl rfl rfl rfl rfl (by omega) ?_; refine WL.gdTn rfl rfl rfl rfl rfl (by omega) ?_; refine WL.gdTn rfl rfl rfl rfl rfl (by omega) ?_; refine WL.gdTn rfl rfl rfl rfl rfl (by omega) ?_; refine WL.gdTn rfl rfl rfl rfl rfl (by omega) ?_; refine WL.gdTn rfl rfl rfl rfl rfl (by omega) ?_; refine WL.gdTn rfl rfl rfl rfl rfl (by omega) ?_; refine WL.gdTn rfl rfl rfl rfl rfl (by omega) ?_; refine WL.pickFp rfl rfl (by omega) rfl ?_; refine WL.nil ?_; refine W.condF rfl ?_; refine W.skip ?_; refine W.inBlock ?_; refine W.region ?_; refine WL.mv rfl rfl ?_; refine WL.subK rfl rfl rfl (wrap_i64 ⟨by omega, by omega⟩) ?_; refine WL.as rfl rfl ?_; refine WL.nil ?_)
          refine W.inLoop ?_
          refine W.seq ?_
          refine W.seq ?_
          refine W.region ?_
          refine WL.mv rfl rfl ?_
          refine WL.geq rfl rfl rfl ?_
          refine WL.nil ?_
          refine W.condF rfl ?_
          refine W.exit rfl ?_
          refine W.sub ?_ (cut2 _ rfl)
          exact ⟨rfl, rfl, rfl, rfl, rfl, rfl, by show some (Value.int .i64 _) = some (Value.int .i64 _); congr 2; (repeat' split) <;> omega, trivial⟩
  · refine W.condp rfl (fun h => ?_) (fun h => ?_)
    · refine W.region ?_
      refine WL.mv rfl rfl ?_
      refine WL.negK rfl rfl (wrap_i64 ⟨by omega, by omega⟩) ?_
      refine WL.as rfl rfl ?_
      refine WL.nil ?_
      refine W.sub ?_ (cut (-(a0 % (4095 + 1))) ⟨by omega, by omega⟩)
      exact ⟨rfl, rfl, rfl, trivial⟩
    · refine W.skip ?_
      refine W.sub ?_ (cut (a0 % (4095 + 1)) ⟨by omega, by omega⟩)
      exact ⟨rfl, rfl, rfl, trivial⟩
end Go.Proofs.Ytlmhjkbbooghfaa
