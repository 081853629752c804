/- ModlIters. -/
import Derived.Test.YtbebhmdjnneimaaStc
import Derived.Test.YtbebhmdjnneimaaNum
import Derived.Test.YtbebhmdjnneimaaTab
import Derived.Test.YtbebhmdjnneimaaMdlLw
import Derived.Test.YtbebhmdjnneimaaMdlIt
set_option linter.unusedSimpArgs false
set_option linter.unusedVariables false
set_option maxRecDepth 20000
set_option maxHeartbeats 4000000
namespace Go.Proofs.Ytbebhmdjnneimaa
open Go
attribute [local irreducible] W WL Fn Buf ROs SL eptr box Rd Src bndOK WD RB Reads In Own sameL doM findI
theorem ModlIters_fn (ρ : Hp) (v0 : Value) (z0 : List Int) (r0 : ROs ρ 1 v0 (z0.map (Value.int .i64))) (m0 : ∀ n ∈ z0, (Lit.int .i64 n).wf = true) (y0 : z0.length * 8 ≤ 140737488351232) (a1 : Int) (w1 : (Lit.int .i64 a1).wf = true) (a2 : Int) (w2 : (Lit.int .i64 a2).wf = true) (v3 : Value) (z3 : List Int) (r3 : ROs ρ 1 v3 (z3.map (Value.int .i64))) (m3 : ∀ n ∈ z3, (Lit.int .i64 n).wf = true) (y3 : z3.length * 8 ≤ 140737488351232) (a4 : Int) (w4 : (Lit.int .i64 a4).wf = true) :
    Fn Try.prog 7 #[v0, .int .i64 a1, .int .i64 a2, v3, .int .i64 a4] ρ [] (fun r _ => r = .bool true) := by
  have s0 := r0.slm
  have s3 := r3.slm
  obtain ⟨f, hopf⟩ : ∃ f : Int → Int → MOp, ∀ (ρ : Hp) n a, Fn Try.prog 19 #[.int .i64 n, .int .i64 a] ρ [] (Just (.agg (opC (f n a)).toArray)) :=
    ⟨fun n a => Classical.choose (op_ex n a), fun ρ n a => Classical.choose_spec (op_ex n a) ρ⟩
  refine in7 rfl rfl ?_
  refine W.seq (W.region (WL.as rfl rfl (WL.nil (W.seq (W.region ?_)))))
  refine WL.alF (T := Ty) rfl rfl (by repeat' first | exact FL.nil | apply FL.cons) (fun b0 => ?_)
  refine WL.nil (W.seq (W.seq (W.region (WL.as rfl rfl (WL.nil (W.block ?_))))))
  refine W.cutG2 (τ := Mdl × Value × Value) (fun s => [(1, .int .i64 a1), (2, .int .i64 a2), (3, v3), (4, .int .i64 a4), (10, .bool false), (11, pt b0 0)])
    (fun s => [box b0 [s.2.1, s.2.2, .int .i64 s.1.next] 31]) (fun s ρ' => MInv 60 s.1 ∧ Ids s.1 ∧ RMdl ρ' (.agg #[s.2.1, s.2.2, .int .i64 s.1.next]) s.1 ∧ SL s.2.1 s.1.ser.length ∧ SL s.2.2 s.1.its.length) ?_ (fun cut0 => ?_)
  · clear r0 m0 y0 s0 v0 z0
    rintro ⟨M, sv, iv⟩ ρ1 le1 ⟨hI, hD, hM, t1, t2⟩
    dsimp only at hI hD hM t1 t2 ⊢
    replace r3 := r3.mono le1
    have hR := rst_len hI ⟨2, a1 % (3 + 1), 0, 0, 0, a1 / 4 % (63 + 1), a2 % (127 + 1), 0⟩
    have hI5 := doM_inv hI ⟨5, a1 % (3 + 1), 0, 0, 0, a1 / 4 % (63 + 1), a2 % (127 + 1), 0⟩
    have hop := openI hD (s := a1 % (3 + 1)) (by omega) (by omega) (a1 / 4 % (63 + 1)) (a2 % (127 + 1))
    refine W.seq (W.region (WL.mv rfl rfl (WL.andI rfl rfl rfl (by decide) (WL.as rfl rfl (WL.nil (W.seq (W.region (WL.mv rfl rfl (WL.shrS (c := 4) rfl rfl rfl (by omega) (by decide) (WL.andI rfl rfl rfl (by decide) (WL.mv rfl rfl (WL.andI rfl rfl rfl (by decide) (WL.as rfl rfl ?_)))))))))))))
    refine WL.as rfl rfl (WL.nil (W.seq (W.region ?_)))
    refine WL.ldAF (T := Ty) (j := 0) rfl rfl rfl rfl rfl rfl (by repeat' first | exact FL.nil | apply FL.cons) ?_
    refine WL.mv rfl rfl (WL.mv rfl rfl (WL.mv rfl rfl ?_))
    refine WL.bdC (T := Ty) rfl rfl rfl rfl (by repeat' first | exact CO.nil | apply CO.one (by first | rfl | exact SL.one (by assumption)) | apply CO.agg) rfl (by repeat' first | exact FL.nil | apply FL.cons) ?_
    refine WL.callF rfl rfl (fun x p d => doX_c _ _ _ _ _ _ _ _ _ _ _ _ (by first | assumption | exact RMdl.wide (by assumption) | exact RMdl.mono (by assumption) (eqh_at 0 rfl p d) | exact (in_at 0 rfl p d).rmdl | exact (in_at 1 rfl p d).rmdl | exact (in_at 2 rfl p d).rmdl | exact (in_at 3 rfl p d).rmdl | exact (in_at 4 rfl p d).rmdl | exact (in_at 5 rfl p d).rmdl | exact (in_at 6 rfl p d).rmdl | exact (in_at 7 rfl p d).rmdl | exact (in_at 8 rfl p d).rmdl | exact (in_at 9 rfl p d).rmdl | exact (in_at 10 rfl p d).rmdl | exact (in_at 11 rfl p d).rmdl | exact (in_at 12 rfl p d).rmdl | exact (in_at 13 rfl p d).rmdl | exact (in_at 14 rfl p d).rmdl | exact (in_at 15 rfl p d).rmdl | exact (in_at 16 rfl p d).rmdl | exact (in_at 17 rfl p d).rmdl | exact (in_at 18 rfl p d).rmdl | exact (in_at 19 rfl p d).rmdl | exact (in_at 20 rfl p d).rmdl | exact (in_at 21 rfl p d).rmdl | exact (in_at 22 rfl p d).rmdl | exact (in_at 23 rfl p d).rmdl | exact (in_at 24 rfl p d).rmdl | exact (in_at 25 rfl p d).rmdl | exact (in_at 26 rfl p d).rmdl | exact (in_at 27 rfl p d).rmdl | exact (in_at 28 rfl p d).rmdl | exact (in_at 29 rfl p d).rmdl) (by assumption) (by first | assumption | omega)) (fun r1 => ?_)
    refine WL.opens (α := (Value × Value × Value)) (φ := fun x => r1 = .tuple #[.agg #[x.1, x.2.1, .int .i64 _], .agg #[.int .i64 _, .int .i64 _, x.2.2]] ∧ SL x.1 _ ∧ SL x.2.1 _ ∧ SL x.2.2 _) (ps := fun x => [OMdl (.agg #[x.1, x.2.1, .int .i64 _]) _, ORst (.agg #[.int .i64 _, .int .i64 _, x.2.2]) _]) 0 rfl (fun h q => DoR.open q) (by repeat' first | exact FL.nil | apply FL.cons) ?_
    rintro ⟨sv1, iv1, u1⟩ ⟨es1, sa1, sb1, sc1⟩
    subst es1
    dsimp only [List.cons_append, List.nil_append] at sa1 sb1 sc1 ⊢
    refine WL.mv rfl rfl (WL.extL rfl rfl rfl (WL.extL rfl rfl rfl ?_))
    refine WL.alF (T := Ty) rfl rfl (by repeat' first | exact FL.nil | apply FL.cons) (fun b2 => ?_)
    refine WL.alF (T := Ty) rfl rfl (by repeat' first | exact FL.nil | apply FL.cons) (fun b3 => ?_)
    refine WL.stAO (T := Ty) (j := 1) rfl rfl rfl rfl (by repeat' first | exact AO.nil | apply AO.cons (by first | rfl | exact SL.one (by assumption))) rfl rfl (by repeat' first | exact FL.nil | apply FL.cons) (by repeat' first | exact FL.nil | apply FL.cons) ?_
    refine WL.stAO (T := Ty) (j := 0) rfl rfl rfl rfl (by repeat' first | exact AO.nil | apply AO.cons (by first | rfl | exact SL.one (by assumption))) rfl rfl (by repeat' first | exact FL.nil | apply FL.cons) (by repeat' first | exact FL.nil | apply FL.cons) ?_
    refine WL.nil (W.seq (W.region ?_))
    refine WL.ldAF (T := Ty) (j := 4) rfl rfl rfl rfl rfl rfl (by repeat' first | exact FL.nil | apply FL.cons) ?_
    refine WL.mv rfl rfl (WL.mv rfl rfl (WL.mv rfl rfl ?_))
    refine WL.bdC (T := Ty) rfl rfl rfl rfl (by repeat' first | exact CO.nil | apply CO.one (by first | rfl | exact SL.one (by assumption)) | apply CO.agg) rfl (by repeat' first | exact FL.nil | apply FL.cons) ?_
    refine WL.callF rfl rfl (fun x p d => doX_c _ _ _ _ _ _ _ _ _ _ _ _ (by first | assumption | exact RMdl.wide (by assumption) | exact RMdl.mono (by assumption) (eqh_at 0 rfl p d) | exact (in_at 0 rfl p d).rmdl | exact (in_at 1 rfl p d).rmdl | exact (in_at 2 rfl p d).rmdl | exact (in_at 3 rfl p d).rmdl | exact (in_at 4 rfl p d).rmdl | exact (in_at 5 rfl p d).rmdl | exact (in_at 6 rfl p d).rmdl | exact (in_at 7 rfl p d).rmdl | exact (in_at 8 rfl p d).rmdl | exact (in_at 9 rfl p d).rmdl | exact (in_at 10 rfl p d).rmdl | exact (in_at 11 rfl p d).rmdl | exact (in_at 12 rfl p d).rmdl | exact (in_at 13 rfl p d).rmdl | exact (in_at 14 rfl p d).rmdl | exact (in_at 15 rfl p d).rmdl | exact (in_at 16 rfl p d).rmdl | exact (in_at 17 rfl p d).rmdl | exact (in_at 18 rfl p d).rmdl | exact (in_at 19 rfl p d).rmdl | exact (in_at 20 rfl p d).rmdl | exact (in_at 21 rfl p d).rmdl | exact (in_at 22 rfl p d).rmdl | exact (in_at 23 rfl p d).rmdl | exact (in_at 24 rfl p d).rmdl | exact (in_at 25 rfl p d).rmdl | exact (in_at 26 rfl p d).rmdl | exact (in_at 27 rfl p d).rmdl | exact (in_at 28 rfl p d).rmdl | exact (in_at 29 rfl p d).rmdl) (by assumption) (by first | assumption | omega)) (fun r4 => ?_)
    refine WL.opens (α := (Value × Value × Value)) (φ := fun x => r4 = .tuple #[.agg #[x.1, x.2.1, .int .i64 _], .agg #[.int .i64 _, .int .i64 _, x.2.2]] ∧ SL x.1 _ ∧ SL x.2.1 _ ∧ SL x.2.2 _) (ps := fun x => [OMdl (.agg #[x.1, x.2.1, .int .i64 _]) _, ORst (.agg #[.int .i64 _, .int .i64 _, x.2.2]) _]) 0 rfl (fun h q => DoR.open q) (by repeat' first | exact FL.nil | apply FL.cons) ?_
    rintro ⟨sv4, iv4, u4⟩ ⟨es4, sa4, sb4, sc4⟩
    subst es4
    dsimp only [List.cons_append, List.nil_append] at sa4 sb4 sc4 ⊢
    refine WL.mv rfl rfl (WL.extL rfl rfl rfl (WL.extL rfl rfl rfl ?_))
    refine WL.alF (T := Ty) rfl rfl (by repeat' first | exact FL.nil | apply FL.cons) (fun b5 => ?_)
    refine WL.stAO (T := Ty) (j := 7) rfl rfl rfl rfl (by repeat' first | exact AO.nil | apply AO.cons (by first | rfl | exact SL.one (by assumption))) rfl rfl (by repeat' first | exact FL.nil | apply FL.cons) (by repeat' first | exact FL.nil | apply FL.cons) ?_
    refine WL.stAO (T := Ty) (j := 0) rfl rfl rfl rfl (by repeat' first | exact AO.nil | apply AO.cons (by first | rfl | exact SL.one (by assumption))) rfl rfl (by repeat' first | exact FL.nil | apply FL.cons) (by repeat' first | exact FL.nil | apply FL.cons) ?_
    refine WL.nil (W.seq (W.seq (W.region (WL.faN (T := Ty) (off' := 0) rfl rfl rfl rfl rfl rfl rfl (WL.ldN (T := Ty) (j := 0) rfl rfl rfl rfl rfl rfl (WL.neq rfl rfl rfl (WL.nil ?_)))))))
    rcases hop with ⟨he, he'⟩ | ⟨he, he2, hf⟩
    · by_cases heq : (doM M ⟨5, a1 % (3 + 1), 0, 0, 0, a1 / 4 % (63 + 1), a2 % (127 + 1), 0⟩).2.err = (doM M ⟨2, a1 % (3 + 1), 0, 0, 0, a1 / 4 % (63 + 1), a2 % (127 + 1), 0⟩).2.err
      · refine W.condpT rfl (by omega) ?_
        refine W.seq (W.region (WL.faN (T := Ty) (off' := 0) rfl rfl rfl rfl rfl rfl rfl (WL.ldN (T := Ty) (j := 0) rfl rfl rfl rfl rfl rfl (WL.faN (T := Ty) (off' := 0) rfl rfl rfl rfl rfl rfl rfl (WL.ldN (T := Ty) (j := 3) rfl rfl rfl rfl rfl rfl (WL.eql rfl rfl rfl (WL.mv rfl rfl (WL.gdFn rfl rfl rfl rfl rfl (by omega) (WL.gdFn rfl rfl rfl rfl rfl (by omega) (WL.gdFn rfl rfl rfl rfl rfl (by omega) (WL.pickTp rfl rfl (by omega) rfl (WL.mv rfl rfl (WL.gY rfl rfl ?_)))))))))))))
        refine WL.callV rfl rfl (fun x p d => awake14_c _) ?_
        refine WL.pickT rfl rfl rfl (WL.as rfl rfl (WL.nil ?_))
        exact W.fit (Hs' := []) (by (repeat' first | exact Sel.nil | refine Sel.cons 0 rfl ?_ | refine Sel.cons 1 rfl ?_ | refine Sel.cons 2 rfl ?_ | refine Sel.cons 3 rfl ?_ | refine Sel.cons 4 rfl ?_ | refine Sel.cons 5 rfl ?_ | refine Sel.cons 6 rfl ?_ | refine Sel.cons 7 rfl ?_ | refine Sel.cons 8 rfl ?_ | refine Sel.cons 9 rfl ?_ | refine Sel.cons 10 rfl ?_ | refine Sel.cons 11 rfl ?_ | refine Sel.cons 12 rfl ?_ | refine Sel.cons 13 rfl ?_ | refine Sel.cons 14 rfl ?_ | refine Sel.cons 15 rfl ?_ | refine Sel.cons 16 rfl ?_ | refine Sel.cons 17 rfl ?_)) (W.ret1 rfl rfl (fun h q => rfl))
      · have he5 := he'.resolve_left heq
        refine W.condpT rfl (by omega) (W.seq (W.region (WL.faN (T := Ty) (off' := 0) rfl rfl rfl rfl rfl rfl rfl (WL.ldN (T := Ty) (j := 0) rfl rfl rfl rfl rfl rfl (WL.faN (T := Ty) (off' := 0) rfl rfl rfl rfl rfl rfl rfl (WL.ldN (T := Ty) (j := 3) rfl rfl rfl rfl rfl rfl (WL.eql rfl rfl rfl (WL.mv rfl rfl (WL.gF rfl rfl (by omega) (WL.faN (T := Ty) (off' := 0) rfl rfl rfl rfl rfl rfl rfl (WL.gF rfl rfl (by omega) (WL.ldN (T := Ty) (j := 0) rfl rfl rfl rfl rfl rfl (WL.gF rfl rfl (by omega) ?_)))))))))))))
        refine WL.eql rfl rfl rfl (WL.pickFp rfl rfl (by omega) rfl (WL.mv rfl rfl (WL.gT rfl rfl (by omega) ?_)))
        refine WL.callV rfl rfl (fun x p d => awake14_c _) ?_
        refine WL.pickTp rfl rfl (by omega) rfl (WL.as rfl rfl (WL.nil ?_))
        exact W.fit (Hs' := []) (by (repeat' first | exact Sel.nil | refine Sel.cons 0 rfl ?_ | refine Sel.cons 1 rfl ?_ | refine Sel.cons 2 rfl ?_ | refine Sel.cons 3 rfl ?_ | refine Sel.cons 4 rfl ?_ | refine Sel.cons 5 rfl ?_ | refine Sel.cons 6 rfl ?_ | refine Sel.cons 7 rfl ?_ | refine Sel.cons 8 rfl ?_ | refine Sel.cons 9 rfl ?_ | refine Sel.cons 10 rfl ?_ | refine Sel.cons 11 rfl ?_ | refine Sel.cons 12 rfl ?_ | refine Sel.cons 13 rfl ?_ | refine Sel.cons 14 rfl ?_ | refine Sel.cons 15 rfl ?_ | refine Sel.cons 16 rfl ?_ | refine Sel.cons 17 rfl ?_)) (W.ret1 rfl rfl (fun h q => rfl))
    · refine W.condpF rfl (fun h => h he) (W.skip ?_)
      generalize h5 : doM M ⟨5, a1 % (3 + 1), 0, 0, 0, a1 / 4 % (63 + 1), a2 % (127 + 1), 0⟩ = D5 at he hf hI5 sa4 sb4 sc4 ⊢
      generalize h2 : doM M ⟨2, a1 % (3 + 1), 0, 0, 0, a1 / 4 % (63 + 1), a2 % (127 + 1), 0⟩ = D2 at hR he2 hf sc1 ⊢
      refine W.fit (Hs' := [OMdl (.agg #[sv4, iv4, .int .i64 D5.1.next]) D5.1, ORst _ D2.2, box b0 _ _, box b3 _ _, box b5 _ _]) (by (repeat' first | exact Sel.nil | refine Sel.cons 0 rfl ?_ | refine Sel.cons 1 rfl ?_ | refine Sel.cons 2 rfl ?_ | refine Sel.cons 3 rfl ?_ | refine Sel.cons 4 rfl ?_ | refine Sel.cons 5 rfl ?_ | refine Sel.cons 6 rfl ?_ | refine Sel.cons 7 rfl ?_ | refine Sel.cons 8 rfl ?_ | refine Sel.cons 9 rfl ?_ | refine Sel.cons 10 rfl ?_ | refine Sel.cons 11 rfl ?_ | refine Sel.cons 12 rfl ?_ | refine Sel.cons 13 rfl ?_ | refine Sel.cons 14 rfl ?_ | refine Sel.cons 15 rfl ?_ | refine Sel.cons 16 rfl ?_ | refine Sel.cons 17 rfl ?_)) ?_
      refine W.freeze 0 rfl (by repeat' first | exact FL.nil | apply FL.cons) (fun ρ2 le2 in2 => ?_)
      refine W.freeze 0 rfl (by repeat' first | exact FL.nil | apply FL.cons) (fun ρ3 le3 in3 => ?_)
      have hM5 := (in2.mono le3).rmdl
      have hW := rrst_ros in3.rrst
      replace r3 := (r3.mono le2).mono le3
      clear in2 in3 hM hR
      have hwl : D2.2.list.length ≤ 60 := by rw [← h2]; exact rst_len hI _
      have hid : D5.2.iter = D5.2.iter := rfl
      refine W.seq (W.region (WL.as rfl rfl (WL.nil (W.seq (W.seq (W.region (WL.as rfl rfl (WL.nil (W.block (W.nb (sz := 2) ?_))))))))))
      refine W.loopR (σ := Nat × Mdl × Value × Value × List Smp × Value) (fun s => [(3, v3), (4, .int .i64 a4), (10, .bool false), (11, pt b0 0), (17, pt b3 0), (18, pt b5 0), (19, s.2.2.2.2.2), (20, .int .i64 (s.1 : Int))])
        (fun s => [Buf 2 s.2.2.2.2.2 (s.2.2.2.2.1.flatMap smC), box b0 [s.2.2.1, s.2.2.2.1, .int .i64 s.2.1.next] 31, box b3 [.int .i64 D2.2.err, .int .i64 D2.2.iter, u1] 34, box b5 [.int .i64 D5.2.err, .int .i64 D5.2.iter, u4] 34])
        (fun s ρ' => s.1 ≤ 100 ∧ MInv (61 + 2 * s.1) s.2.1 ∧ RMdl ρ' (.agg #[s.2.2.1, s.2.2.2.1, .int .i64 s.2.1.next]) s.2.1 ∧ SL s.2.2.1 s.2.1.ser.length ∧ SL s.2.2.2.1 s.2.1.its.length ∧ SL s.2.2.2.2.2 s.2.2.2.2.1.length ∧
          ∃ R, findI s.2.1.its D5.2.iter = some ⟨D5.2.iter, R⟩ ∧ s.2.2.2.2.1 ++ R = D2.2.list ∧ R.length ≤ 60 - s.1) (fun s => 100 - s.1)
        (0, D5.1, sv4, iv4, [], nilV) ⟨rfl, rfl, rfl, rfl, rfl, rfl, rfl, rfl, trivial⟩ rfl ⟨Nat.zero_le _, hI5, hM5, by assumption, by assumption, slZ, D2.2.list, hf, rfl, hwl⟩ ?_
      rintro ⟨i, N, sv, iv, T, u⟩ ρ5 le5 ⟨hi, hI, hM, t1, t2, t3, R, hfi, hTR, hRl⟩ next
      dsimp only at hi hI hM t1 t2 t3 hfi hTR hRl next ⊢
      replace r3 := r3.mono le5
      replace hW := hW.mono le5
      by_cases hc : i < 100
      · refine W.seq ?_
        refine W.seq (W.region (WL.mv rfl rfl (WL.lss rfl rfl rfl (WL.nil (W.condpT rfl (by omega) (W.skip (W.seq (W.block (W.seq (W.seq (W.region (WL.mv rfl rfl (WL.mv rfl rfl ?_)))))))))))))
        refine WL.len (T := Ty) rfl rfl (by assumption) rfl ?_
        refine WL.lss rfl rfl rfl (WL.nil ?_)
        refine W.cutG (τ := Mdl × Value × Value) (fun s => [(3, v3), (4, .int .i64 a4), (10, .bool false), (11, pt b0 0), (17, pt b3 0), (18, pt b5 0), (19, u), (20, .int .i64 (i : Int))])
          (fun s => [Buf 2 u (T.flatMap smC), box b0 [s.2.1, s.2.2, .int .i64 s.1.next] 31, box b3 [.int .i64 D2.2.err, .int .i64 D2.2.iter, u1] 34, box b5 [.int .i64 D5.2.err, .int .i64 D5.2.iter, u4] 34])
          (fun s ρ' => MInv (62 + 2 * i) s.1 ∧ RMdl ρ' (.agg #[s.2.1, s.2.2, .int .i64 s.1.next]) s.1 ∧ SL s.2.1 s.1.ser.length ∧ SL s.2.2 s.1.its.length ∧ findI s.1.its D5.2.iter = some ⟨D5.2.iter, R⟩) ?_ (fun cut1 => ?_)
        · clear hI hM t1 t2 hfi N sv iv
          rintro ⟨N, sv, iv⟩ ρ6 le6 ⟨hI, hM, t1, t2, hfi⟩
          dsimp only at hI hM t1 t2 hfi ⊢
          have hI6 := doM_inv hI ⟨6, 0, D5.2.iter, 0, 0, 0, 0, a4 % (3 + 1) + 1⟩
          obtain ⟨hs1, hs2⟩ := stepI hfi 0 0 0 0 0 (a4 % (3 + 1) + 1)
          obtain ⟨q, hq⟩ : ∃ q, nextN ⟨6, 0, D5.2.iter, 0, 0, 0, 0, a4 % (3 + 1) + 1⟩ ⟨D5.2.iter, R⟩ = q := ⟨_, rfl⟩
          rw [hq] at hs1 hs2
          have hq' : q = (min (min (max (a4 % (3 + 1) + 1) 0) 1000) (R.length : Int)).toNat := hq.symm
          dsimp only at hs1 hs2
          have ht1 := sms_cells T
          have ht2 := sms_cells (R.take q)
          have ht3 := sm_one (R.take q)
          have hTl : T.length + R.length ≤ 60 := by have := congrArg List.length hTR; rw [List.length_append] at this; omega
          have hql : (R.take q).length = q := by rw [List.length_take]; omega
          refine W.seq (W.region ?_)
          refine WL.ldAF (T := Ty) (j := 1) rfl rfl rfl rfl rfl rfl (by repeat' first | exact FL.nil | apply FL.cons) ?_
          refine WL.faN (T := Ty) (off' := 1) rfl rfl rfl rfl rfl rfl rfl (WL.ldN (T := Ty) (j := 3) rfl rfl rfl rfl rfl rfl (WL.mv rfl rfl (WL.andI rfl rfl rfl (by decide) (WL.addK rfl rfl rfl (wrap_i64 ⟨by omega, by omega⟩) ?_))))
          refine WL.bdC (T := Ty) rfl rfl rfl rfl (by repeat' first | exact CO.nil | apply CO.one (by first | rfl | exact SL.one (by assumption)) | apply CO.agg) rfl (by repeat' first | exact FL.nil | apply FL.cons) ?_
          refine WL.callF rfl rfl (fun x p d => doX_c _ _ _ _ _ _ _ _ _ _ _ _ (by first | assumption | exact RMdl.wide (by assumption) | exact RMdl.mono (by assumption) (eqh_at 0 rfl p d) | exact (in_at 0 rfl p d).rmdl | exact (in_at 1 rfl p d).rmdl | exact (in_at 2 rfl p d).rmdl | exact (in_at 3 rfl p d).rmdl | exact (in_at 4 rfl p d).rmdl | exact (in_at 5 rfl p d).rmdl | exact (in_at 6 rfl p d).rmdl | exact (in_at 7 rfl p d).rmdl | exact (in_at 8 rfl p d).rmdl | exact (in_at 9 rfl p d).rmdl | exact (in_at 10 rfl p d).rmdl | exact (in_at 11 rfl p d).rmdl | exact (in_at 12 rfl p d).rmdl | exact (in_at 13 rfl p d).rmdl | exact (in_at 14 rfl p d).rmdl | exact (in_at 15 rfl p d).rmdl | exact (in_at 16 rfl p d).rmdl | exact (in_at 17 rfl p d).rmdl | exact (in_at 18 rfl p d).rmdl | exact (in_at 19 rfl p d).rmdl | exact (in_at 20 rfl p d).rmdl | exact (in_at 21 rfl p d).rmdl | exact (in_at 22 rfl p d).rmdl | exact (in_at 23 rfl p d).rmdl | exact (in_at 24 rfl p d).rmdl | exact (in_at 25 rfl p d).rmdl | exact (in_at 26 rfl p d).rmdl | exact (in_at 27 rfl p d).rmdl | exact (in_at 28 rfl p d).rmdl | exact (in_at 29 rfl p d).rmdl) (by assumption) (by first | assumption | omega)) (fun r6 => ?_)
          refine WL.opens (α := (Value × Value × Value)) (φ := fun x => r6 = .tuple #[.agg #[x.1, x.2.1, .int .i64 _], .agg #[.int .i64 _, .int .i64 _, x.2.2]] ∧ SL x.1 _ ∧ SL x.2.1 _ ∧ SL x.2.2 _) (ps := fun x => [OMdl (.agg #[x.1, x.2.1, .int .i64 _]) _, ORst (.agg #[.int .i64 _, .int .i64 _, x.2.2]) _]) 0 rfl (fun h q => DoR.open q) (by repeat' first | exact FL.nil | apply FL.cons) ?_
          rintro ⟨sv6, iv6, u6⟩ ⟨es6, sa6, sb6, sc6⟩
          subst es6
          dsimp only [List.cons_append, List.nil_append] at sa6 sb6 sc6 ⊢
          refine WL.mv rfl rfl (WL.extL rfl rfl rfl (WL.extL rfl rfl rfl ?_))
          refine WL.alF (T := Ty) rfl rfl (by repeat' first | exact FL.nil | apply FL.cons) (fun b7 => ?_)
          refine WL.alF (T := Ty) rfl rfl (by repeat' first | exact FL.nil | apply FL.cons) (fun b8 => ?_)
          refine WL.stAO (T := Ty) (j := 1) rfl rfl rfl rfl (by repeat' first | exact AO.nil | apply AO.cons (by first | rfl | exact SL.one (by assumption))) rfl rfl (by repeat' first | exact FL.nil | apply FL.cons) (by repeat' first | exact FL.nil | apply FL.cons) ?_
          refine WL.stAO (T := Ty) (j := 0) rfl rfl rfl rfl (by repeat' first | exact AO.nil | apply AO.cons (by first | rfl | exact SL.one (by assumption))) rfl rfl (by repeat' first | exact FL.nil | apply FL.cons) (by repeat' first | exact FL.nil | apply FL.cons) ?_
          refine WL.nil (W.seq (W.seq (W.region (WL.faN (T := Ty) (off' := 0) rfl rfl rfl rfl rfl rfl rfl (WL.ldN (T := Ty) (j := 0) rfl rfl rfl rfl rfl rfl (WL.neq rfl rfl rfl (WL.mv rfl rfl ?_)))))))
          generalize h6 : doM N ⟨6, 0, D5.2.iter, 0, 0, 0, 0, a4 % (3 + 1) + 1⟩ = D6 at hs1 hs2 hI6 sa6 sb6 sc6 ⊢
          obtain ⟨M6, R6⟩ := D6
          dsimp only at hs1 hs2 hI6 sa6 sb6 sc6 ⊢
          subst hs1
          dsimp only at sa6 sb6 sc6 ⊢
          refine WL.parts (p := ORst (.agg #[.int .i64 0, .int .i64 0, u6]) ⟨0, 0, R.take q⟩) (ps := [Buf 2 _ _]) 3 rfl (fun h q => sepl_one.2 (orst_open q)) (by repeat' first | exact FL.nil | apply FL.cons) ?_
          dsimp only at ht1 ht2 ht3 ⊢
          refine WL.gY rfl rfl (WL.faN (T := Ty) (off' := 2) rfl rfl rfl rfl rfl rfl rfl (WL.gY rfl rfl (WL.ldN (T := Ty) (j := 1) rfl rfl rfl rfl rfl rfl (WL.gY rfl rfl ?_))))
          refine WL.len (T := Ty) rfl rfl (by assumption) rfl ?_
          refine WL.gY rfl rfl (WL.mv rfl rfl (WL.gY rfl rfl (WL.andI rfl rfl rfl (by decide) (WL.gY rfl rfl (WL.addK rfl rfl rfl (wrap_i64 ⟨by omega, by omega⟩) (WL.gY rfl rfl (WL.gtr rfl rfl rfl (WL.pickF rfl rfl rfl (WL.nil (W.condpF rfl (by omega) (W.skip (W.seq (W.region ?_)))))))))))))
          refine WL.ldAF (T := Ty) (j := 2) rfl rfl rfl rfl rfl rfl (by repeat' first | exact FL.nil | apply FL.cons) ?_
          refine WL.stAO (T := Ty) (j := 5) rfl rfl rfl rfl (by repeat' first | exact AO.nil | apply AO.cons (by first | rfl | exact SL.one (by assumption))) rfl rfl (by repeat' first | exact FL.nil | apply FL.cons) (by repeat' first | exact FL.nil | apply FL.cons) ?_
          refine WL.nil (W.region (WL.mv rfl rfl (WL.faN (T := Ty) (off' := 2) rfl rfl rfl rfl rfl rfl rfl (WL.ldN (T := Ty) (j := 1) rfl rfl rfl rfl rfl rfl ?_))))
          refine WL.ap (T := Ty) (i := 4) rfl rfl rfl rfl rfl rfl rfl rfl (by first | exact .ro (by assumption) | exact .ro (ROs.wide (by assumption)) | exact .eqJ 0 rfl (by assumption) | exact .own 0 rfl | exact .own 1 rfl | exact .own 2 rfl | exact .own 3 rfl | exact .own 4 rfl | exact .own 5 rfl) (by first | assumption | exact ROs.slm (by assumption)) (by assumption) (by assumption) (by assumption) (by first | omega | (simp; omega) | (simp only [List.length_drop, List.length_take]; omega)) (by unfold maxLen; first | omega | (simp only [List.length_drop, List.length_take]; omega)) (fun v' => (by repeat' first | exact FL.nil | apply FL.cons)) (fun u9 hu9 => ?_)
          refine WL.as rfl rfl (WL.nil (W.inBlock (W.region (WL.mv rfl rfl (WL.addK rfl rfl rfl (wrap_i64 ⟨by omega, by omega⟩) (WL.as rfl rfl (WL.nil ?_)))))))
          rw [← List.flatMap_append]
          refine W.fit (Hs' := [OMdl _ _, Buf 2 u9 _, box b0 _ _, box b3 _ _, box b5 _ _]) (by (repeat' first | exact Sel.nil | refine Sel.cons 0 rfl ?_ | refine Sel.cons 1 rfl ?_ | refine Sel.cons 2 rfl ?_ | refine Sel.cons 3 rfl ?_ | refine Sel.cons 4 rfl ?_ | refine Sel.cons 5 rfl ?_ | refine Sel.cons 6 rfl ?_ | refine Sel.cons 7 rfl ?_ | refine Sel.cons 8 rfl ?_ | refine Sel.cons 9 rfl ?_ | refine Sel.cons 10 rfl ?_ | refine Sel.cons 11 rfl ?_ | refine Sel.cons 12 rfl ?_ | refine Sel.cons 13 rfl ?_ | refine Sel.cons 14 rfl ?_ | refine Sel.cons 15 rfl ?_ | refine Sel.cons 16 rfl ?_ | refine Sel.cons 17 rfl ?_)) ?_
          refine W.freeze 0 rfl (by repeat' first | exact FL.nil | apply FL.cons) (fun ρ9 le9 hin9 => ?_)
          refine W.sub ?_ (next ⟨i + 1, M6, sv6, iv6, T ++ R.take q, u9⟩ ρ9 (le6.trans le9) ⟨by dsimp only; omega, hI6.mono (by omega), hin9.rmdl, by assumption, by assumption, by rw [List.length_append]; exact hu9, R.drop q, hs2, by dsimp only; rw [List.append_assoc, List.take_append_drop]; exact hTR, by dsimp only; rw [List.length_drop]; omega⟩ (by dsimp only; omega))
          exact ⟨rfl, rfl, rfl, rfl, rfl, rfl, rfl, rfl, trivial⟩
        · by_cases hm : i < z3.length
          · obtain ⟨x, hx⟩ : ∃ x, z3[i]? = some x := ⟨_, List.getElem?_eq_getElem hm⟩
            have hx1 : (z3.map (Value.int .i64))[i]? = some (.int .i64 x) := by rw [List.getElem?_map, hx]; rfl
            refine W.condpT rfl (by omega) (W.seq (W.region (WL.mv rfl rfl (WL.mv rfl rfl ?_))))
            refine WL.ix (T := Ty) rfl rfl rfl (by assumption) rfl rfl (by omega) (by first | omega | decide +kernel) ?_
            refine WL.ldKn (T := Ty) rfl rfl rfl rfl (by first | assumption | exact ROs.wide (by assumption)) (by assumption) ?_
            refine WL.mv rfl rfl (WL.addK rfl rfl rfl (wrap_i64 ⟨by omega, by omega⟩) ?_)
            refine WL.callV rfl rfl (fun x p d => hopf _ _ _) ?_
            refine WL.alF (T := Ty) rfl rfl (by repeat' first | exact FL.nil | apply FL.cons) (fun b6 => ?_)
            refine WL.stAO (T := Ty) (j := 0) rfl rfl rfl rfl (by repeat' first | exact AO.nil | apply AO.cons (by first | rfl | exact SL.one (by assumption))) rfl rfl (by repeat' first | exact FL.nil | apply FL.cons) (by repeat' first | exact FL.nil | apply FL.cons) ?_
            refine WL.nil (W.seq (W.region (WL.faN (T := Ty) (off' := 2) rfl rfl rfl rfl rfl rfl rfl (WL.ldN (T := Ty) (j := 0) rfl rfl rfl rfl rfl rfl (WL.faN (T := Ty) (off' := 1) rfl rfl rfl rfl rfl rfl rfl (WL.ldN (T := Ty) (j := 4) rfl rfl rfl rfl rfl rfl (WL.neq rfl rfl rfl (WL.nil ?_))))))))
            by_cases ho : (f x (60 + (i : Int))).iter = D5.2.iter
            · refine W.condpF rfl (fun h => h ho) (W.skip ?_)
              refine W.fit (Hs' := [Buf 2 _ _, box b0 _ _, box b3 _ _, box b5 _ _]) (by (repeat' first | exact Sel.nil | refine Sel.cons 0 rfl ?_ | refine Sel.cons 1 rfl ?_ | refine Sel.cons 2 rfl ?_ | refine Sel.cons 3 rfl ?_ | refine Sel.cons 4 rfl ?_ | refine Sel.cons 5 rfl ?_ | refine Sel.cons 6 rfl ?_ | refine Sel.cons 7 rfl ?_ | refine Sel.cons 8 rfl ?_ | refine Sel.cons 9 rfl ?_ | refine Sel.cons 10 rfl ?_ | refine Sel.cons 11 rfl ?_ | refine Sel.cons 12 rfl ?_ | refine Sel.cons 13 rfl ?_ | refine Sel.cons 14 rfl ?_ | refine Sel.cons 15 rfl ?_ | refine Sel.cons 16 rfl ?_ | refine Sel.cons 17 rfl ?_)) (W.sub ?_ (cut1 ⟨N, sv, iv⟩ ρ5 (Le.refl _) ⟨hI.mono (by omega), hM, t1, t2, hfi⟩))
              exact ⟨rfl, rfl, rfl, rfl, rfl, rfl, rfl, rfl, trivial⟩
            · refine W.condpT rfl ho ?_
              refine W.region ?_
              refine WL.ldAF (T := Ty) (j := 2) rfl rfl rfl rfl rfl rfl (by repeat' first | exact FL.nil | apply FL.cons) ?_
              refine WL.ldAF (T := Ty) (j := 0) rfl rfl rfl rfl rfl rfl (by repeat' first | exact FL.nil | apply FL.cons) ?_
              refine WL.callF rfl rfl (fun x p d => doX_c _ _ _ _ _ _ _ _ _ _ _ _ (by first | assumption | exact RMdl.wide (by assumption) | exact RMdl.mono (by assumption) (eqh_at 0 rfl p d) | exact (in_at 0 rfl p d).rmdl | exact (in_at 1 rfl p d).rmdl | exact (in_at 2 rfl p d).rmdl | exact (in_at 3 rfl p d).rmdl | exact (in_at 4 rfl p d).rmdl | exact (in_at 5 rfl p d).rmdl | exact (in_at 6 rfl p d).rmdl | exact (in_at 7 rfl p d).rmdl | exact (in_at 8 rfl p d).rmdl | exact (in_at 9 rfl p d).rmdl | exact (in_at 10 rfl p d).rmdl | exact (in_at 11 rfl p d).rmdl | exact (in_at 12 rfl p d).rmdl | exact (in_at 13 rfl p d).rmdl | exact (in_at 14 rfl p d).rmdl | exact (in_at 15 rfl p d).rmdl | exact (in_at 16 rfl p d).rmdl | exact (in_at 17 rfl p d).rmdl | exact (in_at 18 rfl p d).rmdl | exact (in_at 19 rfl p d).rmdl | exact (in_at 20 rfl p d).rmdl | exact (in_at 21 rfl p d).rmdl | exact (in_at 22 rfl p d).rmdl | exact (in_at 23 rfl p d).rmdl | exact (in_at 24 rfl p d).rmdl | exact (in_at 25 rfl p d).rmdl | exact (in_at 26 rfl p d).rmdl | exact (in_at 27 rfl p d).rmdl | exact (in_at 28 rfl p d).rmdl | exact (in_at 29 rfl p d).rmdl) (by assumption) (by first | assumption | omega)) (fun r7 => ?_)
              refine WL.opens (α := (Value × Value × Value)) (φ := fun x => r7 = .tuple #[.agg #[x.1, x.2.1, .int .i64 _], .agg #[.int .i64 _, .int .i64 _, x.2.2]] ∧ SL x.1 _ ∧ SL x.2.1 _ ∧ SL x.2.2 _) (ps := fun x => [OMdl (.agg #[x.1, x.2.1, .int .i64 _]) _, ORst (.agg #[.int .i64 _, .int .i64 _, x.2.2]) _]) 0 rfl (fun h q => DoR.open q) (by repeat' first | exact FL.nil | apply FL.cons) ?_
              rintro ⟨sv7, iv7, u7⟩ ⟨es7, sa7, sb7, sc7⟩
              subst es7
              dsimp only [List.cons_append, List.nil_append] at sa7 sb7 sc7 ⊢
              refine WL.mv rfl rfl (WL.extL rfl rfl rfl (WL.extL rfl rfl rfl ?_))
              refine WL.stAO (T := Ty) (j := 4) rfl rfl rfl rfl (by repeat' first | exact AO.nil | apply AO.cons (by first | rfl | exact SL.one (by assumption))) rfl rfl (by repeat' first | exact FL.nil | apply FL.cons) (by repeat' first | exact FL.nil | apply FL.cons) ?_
              refine WL.nil ?_
              refine W.fit (Hs' := [OMdl (.agg #[sv7, iv7, .int .i64 _]) _, Buf 2 u (T.flatMap smC), box b0 _ _, box b3 _ _, box b5 _ _]) (by (repeat' first | exact Sel.nil | refine Sel.cons 0 rfl ?_ | refine Sel.cons 1 rfl ?_ | refine Sel.cons 2 rfl ?_ | refine Sel.cons 3 rfl ?_ | refine Sel.cons 4 rfl ?_ | refine Sel.cons 5 rfl ?_ | refine Sel.cons 6 rfl ?_ | refine Sel.cons 7 rfl ?_ | refine Sel.cons 8 rfl ?_ | refine Sel.cons 9 rfl ?_ | refine Sel.cons 10 rfl ?_ | refine Sel.cons 11 rfl ?_ | refine Sel.cons 12 rfl ?_ | refine Sel.cons 13 rfl ?_ | refine Sel.cons 14 rfl ?_ | refine Sel.cons 15 rfl ?_ | refine Sel.cons 16 rfl ?_ | refine Sel.cons 17 rfl ?_)) ?_
              refine W.freeze 0 rfl (by repeat' first | exact FL.nil | apply FL.cons) (fun ρ8 le8 hin8 => ?_)
              refine W.sub ?_ (cut1 ⟨_, _, _⟩ ρ8 (le8) ⟨(doM_inv hI _).mono (by omega), hin8.rmdl, by assumption, by assumption, keepI hfi _ ho⟩)
              exact ⟨rfl, rfl, rfl, rfl, rfl, rfl, rfl, rfl, trivial⟩
          · refine W.condpF rfl (by omega) (W.skip ?_)
            refine W.fit (by (repeat' first | exact Sel.nil | refine Sel.cons 0 rfl ?_ | refine Sel.cons 1 rfl ?_ | refine Sel.cons 2 rfl ?_ | refine Sel.cons 3 rfl ?_ | refine Sel.cons 4 rfl ?_ | refine Sel.cons 5 rfl ?_ | refine Sel.cons 6 rfl ?_ | refine Sel.cons 7 rfl ?_ | refine Sel.cons 8 rfl ?_ | refine Sel.cons 9 rfl ?_ | refine Sel.cons 10 rfl ?_ | refine Sel.cons 11 rfl ?_ | refine Sel.cons 12 rfl ?_ | refine Sel.cons 13 rfl ?_ | refine Sel.cons 14 rfl ?_ | refine Sel.cons 15 rfl ?_ | refine Sel.cons 16 rfl ?_ | refine Sel.cons 17 rfl ?_)) (W.sub ?_ (cut1 ⟨N, sv, iv⟩ ρ5 (Le.refl _) ⟨hI.mono (by omega), hM, t1, t2, hfi⟩))
            exact ⟨rfl, rfl, rfl, rfl, rfl, rfl, rfl, rfl, trivial⟩
      · have hR0 : R = [] := List.eq_nil_of_length_eq_zero (by omega)
        subst hR0
        rw [List.append_nil] at hTR
        subst hTR
        refine W.seq (W.seq (W.region (WL.mv rfl rfl (WL.lss rfl rfl rfl (WL.nil (W.condpF rfl (by omega) (W.exit rfl (W.seq (W.region (WL.faN (T := Ty) (off' := 0) rfl rfl rfl rfl rfl rfl rfl (WL.ldN (T := Ty) (j := 2) rfl rfl rfl rfl rfl rfl (WL.eql rfl rfl rfl (WL.mv rfl rfl ?_)))))))))))))
        refine WL.gT rfl rfl (by omega) (WL.mv rfl rfl (WL.gT rfl rfl (by omega) (WL.faN (T := Ty) (off' := 2) rfl rfl rfl rfl rfl rfl rfl (WL.gT rfl rfl (by omega) (WL.ldN (T := Ty) (j := 2) rfl rfl rfl rfl rfl rfl (WL.gT rfl rfl (by omega) ?_))))))
        refine WL.callV rfl rfl (fun x p d => refM_c _ _ _ _ _ (by first | assumption | exact ROs.wide (by assumption) | exact ROs.mono (by assumption) (eqh_at 0 rfl p d) | exact ros_at 0 rfl p d | exact ros_at 1 rfl p d | exact ros_at 2 rfl p d | exact ros_at 3 rfl p d | exact ros_at 4 rfl p d) (by first | assumption | exact ROs.wide (by assumption) | exact ROs.mono (by assumption) (eqh_at 0 rfl p d) | exact ros_at 0 rfl p d | exact ros_at 1 rfl p d | exact ros_at 2 rfl p d | exact ros_at 3 rfl p d | exact ros_at 4 rfl p d) (by first | assumption | omega)) ?_
        refine WL.pickTp rfl rfl (by omega) rfl (WL.mv rfl rfl ?_)
        rw [sameL_refl]
        refine WL.gY rfl rfl ?_
        refine WL.callV rfl rfl (fun x p d => awake14_c _) ?_
        refine WL.pickT rfl rfl rfl (WL.as rfl rfl (WL.nil ?_))
        exact W.fit (Hs' := []) (by (repeat' first | exact Sel.nil | refine Sel.cons 0 rfl ?_ | refine Sel.cons 1 rfl ?_ | refine Sel.cons 2 rfl ?_ | refine Sel.cons 3 rfl ?_ | refine Sel.cons 4 rfl ?_ | refine Sel.cons 5 rfl ?_ | refine Sel.cons 6 rfl ?_ | refine Sel.cons 7 rfl ?_ | refine Sel.cons 8 rfl ?_ | refine Sel.cons 9 rfl ?_ | refine Sel.cons 10 rfl ?_ | refine Sel.cons 11 rfl ?_ | refine Sel.cons 12 rfl ?_ | refine Sel.cons 13 rfl ?_ | refine Sel.cons 14 rfl ?_ | refine Sel.cons 15 rfl ?_ | refine Sel.cons 16 rfl ?_ | refine Sel.cons 17 rfl ?_)) (W.ret1 rfl rfl (fun h q => rfl))
  refine W.loopR (σ := Nat × Mdl × Value × Value) (fun s => [(0, v0), (1, .int .i64 a1), (2, .int .i64 a2), (3, v3), (4, .int .i64 a4), (10, .bool false), (11, pt b0 0), (12, .int .i64 (s.1 : Int))])
    (fun s => [box b0 [s.2.2.1, s.2.2.2, .int .i64 s.2.1.next] 31]) (fun s ρ' => s.1 ≤ 60 ∧ MInv s.1 s.2.1 ∧ Ids s.2.1 ∧ RMdl ρ' (.agg #[s.2.2.1, s.2.2.2, .int .i64 s.2.1.next]) s.2.1 ∧ SL s.2.2.1 s.2.1.ser.length ∧ SL s.2.2.2 s.2.1.its.length) (fun s => 60 - s.1)
    (0, ⟨[], [], 0⟩, nilV, nilV) ⟨rfl, rfl, rfl, rfl, rfl, rfl, rfl, rfl, trivial⟩ rfl ⟨Nat.zero_le _, MInv.zero, fun x hx => absurd hx (by simp), rmdl_zero ρ, slZ, slZ⟩ ?_
  rintro ⟨i, M, sv, iv⟩ ρ1 le1 ⟨hi, hI, hD, hM, t1, t2⟩ next
  dsimp only at hi hI hD hM t1 t2 next ⊢
  replace r0 := r0.mono le1
  by_cases hc1 : i < z0.length
  · obtain ⟨x, hx⟩ : ∃ x, z0[i]? = some x := ⟨_, List.getElem?_eq_getElem hc1⟩
    have hx1 : (z0.map (Value.int .i64))[i]? = some (.int .i64 x) := by rw [List.getElem?_map, hx]; rfl
    by_cases hc2 : i < 60
    · refine W.seq ?_
      refine W.seq (W.region (WL.mv rfl rfl (WL.mv rfl rfl ?_)))
      refine WL.len (T := Ty) rfl rfl (by assumption) rfl ?_
      refine WL.lss rfl rfl rfl (WL.mv rfl rfl (WL.gT rfl rfl (by omega) (WL.mv rfl rfl (WL.gT rfl rfl (by omega) (WL.lss rfl rfl rfl (WL.pickTp rfl rfl (by omega) rfl (WL.nil (W.condpT rfl (by omega) (W.skip (W.seq (W.block ?_)))))))))))
      refine W.drawP 12 [true] rfl (by repeat' first | exact FL.nil | apply FL.cons) (by repeat' first | exact FL.nil | apply FL.cons) (fun σ0 hσ0 dσ0 => ?_)
      refine WD.takeL 1 rfl (by decide +kernel) (WL.mv rfl rfl (WL.nilT (WD.takeL 2 rfl (by decide +kernel) (WL.mv rfl rfl (WL.nilT (WD.takeL 3 rfl (by decide +kernel) ?_))))))
      refine WL.ix (T := Ty) rfl rfl rfl (by assumption) rfl rfl (by omega) (by first | omega | decide +kernel) ?_
      refine WL.nilT (WD.takeL 4 rfl (by decide +kernel) ?_)
      refine WL.ldKn (T := Ty) rfl rfl rfl rfl (by first | assumption | exact ROs.wide (by assumption)) (by assumption) ?_
      refine WL.nilT (WD.takeL 5 rfl (by decide +kernel) (WL.mv rfl rfl (WL.nilT ?_)))
      refine WD.twoL 0 6 rfl rfl (by decide +kernel) ?_ ?_
      · refine WL.ldAF (T := Ty) (j := 1) rfl rfl rfl rfl rfl rfl (by repeat' first | exact FL.nil | apply FL.cons) ?_
        refine WL.nilE (WD.oneL 6 rfl (by decide +kernel) ?_)
        refine WL.callV rfl rfl (fun x p d => hopf _ _ _) ?_
        refine WL.nilE (WD.oneL 7 rfl (by decide +kernel) ?_)
        refine WL.callF rfl rfl (fun x p d => doX_c _ _ _ _ _ _ _ _ _ _ _ _ (by first | assumption | exact RMdl.wide (by assumption) | exact RMdl.mono (by assumption) (eqh_at 0 rfl p d) | exact (in_at 0 rfl p d).rmdl | exact (in_at 1 rfl p d).rmdl | exact (in_at 2 rfl p d).rmdl | exact (in_at 3 rfl p d).rmdl | exact (in_at 4 rfl p d).rmdl | exact (in_at 5 rfl p d).rmdl | exact (in_at 6 rfl p d).rmdl | exact (in_at 7 rfl p d).rmdl | exact (in_at 8 rfl p d).rmdl | exact (in_at 9 rfl p d).rmdl | exact (in_at 10 rfl p d).rmdl | exact (in_at 11 rfl p d).rmdl | exact (in_at 12 rfl p d).rmdl | exact (in_at 13 rfl p d).rmdl | exact (in_at 14 rfl p d).rmdl | exact (in_at 15 rfl p d).rmdl | exact (in_at 16 rfl p d).rmdl | exact (in_at 17 rfl p d).rmdl | exact (in_at 18 rfl p d).rmdl | exact (in_at 19 rfl p d).rmdl | exact (in_at 20 rfl p d).rmdl | exact (in_at 21 rfl p d).rmdl | exact (in_at 22 rfl p d).rmdl | exact (in_at 23 rfl p d).rmdl | exact (in_at 24 rfl p d).rmdl | exact (in_at 25 rfl p d).rmdl | exact (in_at 26 rfl p d).rmdl | exact (in_at 27 rfl p d).rmdl | exact (in_at 28 rfl p d).rmdl | exact (in_at 29 rfl p d).rmdl) (by assumption) (by first | assumption | omega)) (fun r1 => ?_)
        refine WL.opens (α := (Value × Value × Value)) (φ := fun x => r1 = .tuple #[.agg #[x.1, x.2.1, .int .i64 _], .agg #[.int .i64 _, .int .i64 _, x.2.2]] ∧ SL x.1 _ ∧ SL x.2.1 _ ∧ SL x.2.2 _) (ps := fun x => [OMdl (.agg #[x.1, x.2.1, .int .i64 _]) _, ORst (.agg #[.int .i64 _, .int .i64 _, x.2.2]) _]) 0 rfl (fun h q => DoR.open q) (by repeat' first | exact FL.nil | apply FL.cons) ?_
        rintro ⟨sv1, iv1, u1⟩ ⟨es1, sa1, sb1, sc1⟩
        subst es1
        dsimp only [List.cons_append, List.nil_append] at sa1 sb1 sc1 ⊢
        refine WL.nilSS (WD.takeL 8 rfl (by decide +kernel) (WL.mv rfl rfl (WL.nilT (WD.takeL 9 rfl (by decide +kernel) (WL.extL rfl rfl rfl (WL.nilT (WD.takeL 10 rfl (by decide +kernel) (WL.extL rfl rfl rfl (WL.nilT (WD.oneL 11 rfl (by decide +kernel) ?_))))))))))
        refine WL.stAO (T := Ty) (j := 3) rfl rfl rfl rfl (by repeat' first | exact AO.nil | apply AO.cons (by first | rfl | exact SL.one (by assumption))) rfl rfl (by repeat' first | exact FL.nil | apply FL.cons) (by repeat' first | exact FL.nil | apply FL.cons) ?_
        refine WL.nilE ?_
        refine WD.doneF hσ0 (by decide +kernel) (by repeat' first | exact FL.nil | apply FL.cons) ?_
        refine W.fit (Hs' := [OMdl _ _, box b0 _ _]) (by (repeat' first | exact Sel.nil | refine Sel.cons 0 rfl ?_ | refine Sel.cons 1 rfl ?_ | refine Sel.cons 2 rfl ?_ | refine Sel.cons 3 rfl ?_ | refine Sel.cons 4 rfl ?_ | refine Sel.cons 5 rfl ?_ | refine Sel.cons 6 rfl ?_ | refine Sel.cons 7 rfl ?_ | refine Sel.cons 8 rfl ?_ | refine Sel.cons 9 rfl ?_ | refine Sel.cons 10 rfl ?_ | refine Sel.cons 11 rfl ?_ | refine Sel.cons 12 rfl ?_ | refine Sel.cons 13 rfl ?_ | refine Sel.cons 14 rfl ?_ | refine Sel.cons 15 rfl ?_ | refine Sel.cons 16 rfl ?_ | refine Sel.cons 17 rfl ?_)) ?_
        refine W.freeze 0 rfl (by repeat' first | exact FL.nil | apply FL.cons) (fun ρ2 le2 hin2 => ?_)
        refine W.inBlock (W.region (WL.mv rfl rfl (WL.addK rfl rfl rfl (wrap_i64 ⟨by omega, by omega⟩) (WL.as rfl rfl (WL.nil ?_)))))
        refine W.sub ?_ (next ⟨i + 1, _, _, _⟩ ρ2 le2 ⟨by dsimp only; omega, doM_inv hI _, doM_ids hD _, hin2.rmdl, by assumption, by assumption⟩ (by dsimp only; omega))
        exact ⟨rfl, rfl, rfl, rfl, rfl, rfl, rfl, rfl, trivial⟩
      · refine WL.callV rfl rfl (fun x p d => hopf _ _ _) ?_
        refine WL.nilE (WD.oneL 0 rfl (by decide +kernel) ?_)
        refine WL.ldAF (T := Ty) (j := 1) rfl rfl rfl rfl rfl rfl (by repeat' first | exact FL.nil | apply FL.cons) ?_
        refine WL.nilE (WD.oneL 7 rfl (by decide +kernel) ?_)
        refine WL.callF rfl rfl (fun x p d => doX_c _ _ _ _ _ _ _ _ _ _ _ _ (by first | assumption | exact RMdl.wide (by assumption) | exact RMdl.mono (by assumption) (eqh_at 0 rfl p d) | exact (in_at 0 rfl p d).rmdl | exact (in_at 1 rfl p d).rmdl | exact (in_at 2 rfl p d).rmdl | exact (in_at 3 rfl p d).rmdl | exact (in_at 4 rfl p d).rmdl | exact (in_at 5 rfl p d).rmdl | exact (in_at 6 rfl p d).rmdl | exact (in_at 7 rfl p d).rmdl | exact (in_at 8 rfl p d).rmdl | exact (in_at 9 rfl p d).rmdl | exact (in_at 10 rfl p d).rmdl | exact (in_at 11 rfl p d).rmdl | exact (in_at 12 rfl p d).rmdl | exact (in_at 13 rfl p d).rmdl | exact (in_at 14 rfl p d).rmdl | exact (in_at 15 rfl p d).rmdl | exact (in_at 16 rfl p d).rmdl | exact (in_at 17 rfl p d).rmdl | exact (in_at 18 rfl p d).rmdl | exact (in_at 19 rfl p d).rmdl | exact (in_at 20 rfl p d).rmdl | exact (in_at 21 rfl p d).rmdl | exact (in_at 22 rfl p d).rmdl | exact (in_at 23 rfl p d).rmdl | exact (in_at 24 rfl p d).rmdl | exact (in_at 25 rfl p d).rmdl | exact (in_at 26 rfl p d).rmdl | exact (in_at 27 rfl p d).rmdl | exact (in_at 28 rfl p d).rmdl | exact (in_at 29 rfl p d).rmdl) (by assumption) (by first | assumption | omega)) (fun r1 => ?_)
        refine WL.opens (α := (Value × Value × Value)) (φ := fun x => r1 = .tuple #[.agg #[x.1, x.2.1, .int .i64 _], .agg #[.int .i64 _, .int .i64 _, x.2.2]] ∧ SL x.1 _ ∧ SL x.2.1 _ ∧ SL x.2.2 _) (ps := fun x => [OMdl (.agg #[x.1, x.2.1, .int .i64 _]) _, ORst (.agg #[.int .i64 _, .int .i64 _, x.2.2]) _]) 0 rfl (fun h q => DoR.open q) (by repeat' first | exact FL.nil | apply FL.cons) ?_
        rintro ⟨sv1, iv1, u1⟩ ⟨es1, sa1, sb1, sc1⟩
        subst es1
        dsimp only [List.cons_append, List.nil_append] at sa1 sb1 sc1 ⊢
        refine WL.nilSS (WD.takeL 8 rfl (by decide +kernel) (WL.mv rfl rfl (WL.nilT (WD.takeL 9 rfl (by decide +kernel) (WL.extL rfl rfl rfl (WL.nilT (WD.takeL 10 rfl (by decide +kernel) (WL.extL rfl rfl rfl (WL.nilT (WD.oneL 11 rfl (by decide +kernel) ?_))))))))))
        refine WL.stAO (T := Ty) (j := 3) rfl rfl rfl rfl (by repeat' first | exact AO.nil | apply AO.cons (by first | rfl | exact SL.one (by assumption))) rfl rfl (by repeat' first | exact FL.nil | apply FL.cons) (by repeat' first | exact FL.nil | apply FL.cons) ?_
        refine WL.nilE ?_
        refine WD.doneF hσ0 (by decide +kernel) (by repeat' first | exact FL.nil | apply FL.cons) ?_
        refine W.fit (Hs' := [OMdl _ _, box b0 _ _]) (by (repeat' first | exact Sel.nil | refine Sel.cons 0 rfl ?_ | refine Sel.cons 1 rfl ?_ | refine Sel.cons 2 rfl ?_ | refine Sel.cons 3 rfl ?_ | refine Sel.cons 4 rfl ?_ | refine Sel.cons 5 rfl ?_ | refine Sel.cons 6 rfl ?_ | refine Sel.cons 7 rfl ?_ | refine Sel.cons 8 rfl ?_ | refine Sel.cons 9 rfl ?_ | refine Sel.cons 10 rfl ?_ | refine Sel.cons 11 rfl ?_ | refine Sel.cons 12 rfl ?_ | refine Sel.cons 13 rfl ?_ | refine Sel.cons 14 rfl ?_ | refine Sel.cons 15 rfl ?_ | refine Sel.cons 16 rfl ?_ | refine Sel.cons 17 rfl ?_)) ?_
        refine W.freeze 0 rfl (by repeat' first | exact FL.nil | apply FL.cons) (fun ρ2 le2 hin2 => ?_)
        refine W.inBlock (W.region (WL.mv rfl rfl (WL.addK rfl rfl rfl (wrap_i64 ⟨by omega, by omega⟩) (WL.as rfl rfl (WL.nil ?_)))))
        refine W.sub ?_ (next ⟨i + 1, _, _, _⟩ ρ2 le2 ⟨by dsimp only; omega, doM_inv hI _, doM_ids hD _, hin2.rmdl, by assumption, by assumption⟩ (by dsimp only; omega))
        exact ⟨rfl, rfl, rfl, rfl, rfl, rfl, rfl, rfl, trivial⟩
    · refine W.seq ?_
      refine W.seq (W.region (WL.mv rfl rfl (WL.mv rfl rfl ?_)))
      refine WL.len (T := Ty) rfl rfl (by assumption) rfl ?_
      refine WL.lss rfl rfl rfl (WL.mv rfl rfl (WL.gT rfl rfl (by omega) (WL.mv rfl rfl (WL.gT rfl rfl (by omega) (WL.lss rfl rfl rfl (WL.pickTp rfl rfl (by omega) rfl (WL.nil (W.condpF rfl (by omega) (W.exit rfl ?_)))))))))
      refine W.fit (by (repeat' first | exact Sel.nil | refine Sel.cons 0 rfl ?_ | refine Sel.cons 1 rfl ?_ | refine Sel.cons 2 rfl ?_ | refine Sel.cons 3 rfl ?_ | refine Sel.cons 4 rfl ?_ | refine Sel.cons 5 rfl ?_ | refine Sel.cons 6 rfl ?_ | refine Sel.cons 7 rfl ?_ | refine Sel.cons 8 rfl ?_ | refine Sel.cons 9 rfl ?_ | refine Sel.cons 10 rfl ?_ | refine Sel.cons 11 rfl ?_ | refine Sel.cons 12 rfl ?_ | refine Sel.cons 13 rfl ?_ | refine Sel.cons 14 rfl ?_ | refine Sel.cons 15 rfl ?_ | refine Sel.cons 16 rfl ?_ | refine Sel.cons 17 rfl ?_)) (W.sub ?_ (cut0 ⟨M, sv, iv⟩ ρ1 le1 ⟨hI.mono hi, hD, hM, t1, t2⟩))
      exact ⟨rfl, rfl, rfl, rfl, rfl, rfl, trivial⟩
  · refine W.seq ?_
    refine W.seq (W.region (WL.mv rfl rfl (WL.mv rfl rfl ?_)))
    refine WL.len (T := Ty) rfl rfl (by assumption) rfl ?_
    refine WL.lss rfl rfl rfl (WL.mv rfl rfl (WL.gdTn rfl rfl rfl rfl rfl (by omega) (WL.gdTn rfl rfl rfl rfl rfl (by omega) (WL.pickFp rfl rfl (by omega) rfl (WL.nil (W.condF rfl (W.exit rfl ?_)))))))
    refine W.fit (by (repeat' first | exact Sel.nil | refine Sel.cons 0 rfl ?_ | refine Sel.cons 1 rfl ?_ | refine Sel.cons 2 rfl ?_ | refine Sel.cons 3 rfl ?_ | refine Sel.cons 4 rfl ?_ | refine Sel.cons 5 rfl ?_ | refine Sel.cons 6 rfl ?_ | refine Sel.cons 7 rfl ?_ | refine Sel.cons 8 rfl ?_ | refine Sel.cons 9 rfl ?_ | refine Sel.cons 10 rfl ?_ | refine Sel.cons 11 rfl ?_ | refine Sel.cons 12 rfl ?_ | refine Sel.cons 13 rfl ?_ | refine Sel.cons 14 rfl ?_ | refine Sel.cons 15 rfl ?_ | refine Sel.cons 16 rfl ?_ | refine Sel.cons 17 rfl ?_)) (W.sub ?_ (cut0 ⟨M, sv, iv⟩ ρ1 le1 ⟨hI.mono hi, hD, hM, t1, t2⟩))
    exact ⟨rfl, rfl, rfl, rfl, rfl, rfl, trivial⟩
end Go.Proofs.Ytbebhmdjnneimaa
