/- ModlEdges. -/
import Derived.Test.YtbebhmdjnneimaaStc
import Derived.Test.YtbebhmdjnneimaaNum
import Derived.Test.YtbebhmdjnneimaaTab
import Derived.Test.YtbebhmdjnneimaaEdgeC
import Derived.Test.YtbebhmdjnneimaaEdgeL
set_option linter.unusedSimpArgs false
set_option linter.unusedVariables false
set_option maxRecDepth 20000
set_option maxHeartbeats 4000000
namespace Go.Proofs.Ytbebhmdjnneimaa
open Go
attribute [local irreducible] W WL Fn Buf ROs SL eptr box Rd Src bndOK WD RB Reads In Own sameL doM
theorem ModlEdges_fn (ρ : Hp) (a0 : Int) (w0 : (Lit.int .i64 a0).wf = true) (a1 : Int) (w1 : (Lit.int .i64 a1).wf = true) (a2 : Int) (w2 : (Lit.int .i64 a2).wf = true) :
    Fn Try.prog 4 #[.int .i64 a0, .int .i64 a1, .int .i64 a2] ρ [] (fun r _ => r = .bool true) := by
  have hz := rmdl_zero ρ
  have hI0 : MInv 0 ⟨[], [], 0⟩ := MInv.zero
  have hI1 : MInv 1 ⟨[eS0 a0], [], 0⟩ := by have := doM_inv hI0 ⟨1, 5, 0, a0, 1, 0, 0, 0⟩; rw [e_app] at this; exact this
  have hI2 : MInv 2 ⟨[eS1 a0], [], 0⟩ := by have := doM_inv hI1 ⟨3, 5, 0, 0, 0, 0, 0, 0⟩; rw [e_seal] at this; exact this
  refine in4 rfl rfl ?_
  refine W.seq (W.region (WL.as rfl rfl (WL.nil (W.seq (W.region (WL.as rfl rfl (WL.nil (W.seq (W.region (WL.mv rfl rfl ?_))))))))))
  refine WL.bdC (T := Ty) rfl rfl rfl rfl (by repeat' first | exact CO.nil | apply CO.one (by first | rfl | exact SL.one (by assumption)) | apply CO.agg) rfl (by repeat' first | exact FL.nil | apply FL.cons) ?_
  refine WL.mv rfl rfl ?_
  refine WL.bdC (T := Ty) rfl rfl rfl rfl (by repeat' first | exact CO.nil | apply CO.one (by first | rfl | exact SL.one (by assumption)) | apply CO.agg) rfl (by repeat' first | exact FL.nil | apply FL.cons) ?_
  refine WL.callCF (cs := []) rfl rfl rfl (fun x p d => edge_c _ _ _ 0 ⟨[], [], 0⟩ _ _ _ _ _ _ _ _ _ (by first | assumption | exact RMdl.wide (by assumption) | exact RMdl.mono (by assumption) (eqh_at 0 rfl p d) | exact (in_at 0 rfl p d).rmdl | exact (in_at 1 rfl p d).rmdl | exact (in_at 2 rfl p d).rmdl | exact (in_at 3 rfl p d).rmdl | exact (in_at 4 rfl p d).rmdl | exact (in_at 5 rfl p d).rmdl | exact (in_at 6 rfl p d).rmdl | exact (in_at 7 rfl p d).rmdl | exact (in_at 8 rfl p d).rmdl | exact (in_at 9 rfl p d).rmdl | exact (in_at 10 rfl p d).rmdl | exact (in_at 11 rfl p d).rmdl | exact (in_at 12 rfl p d).rmdl | exact (in_at 13 rfl p d).rmdl | exact (in_at 14 rfl p d).rmdl | exact (in_at 15 rfl p d).rmdl | exact (in_at 16 rfl p d).rmdl | exact (in_at 17 rfl p d).rmdl | exact (in_at 18 rfl p d).rmdl | exact (in_at 19 rfl p d).rmdl | exact (in_at 20 rfl p d).rmdl | exact (in_at 21 rfl p d).rmdl | exact (in_at 22 rfl p d).rmdl | exact (in_at 23 rfl p d).rmdl | exact (in_at 24 rfl p d).rmdl | exact (in_at 25 rfl p d).rmdl | exact (in_at 26 rfl p d).rmdl | exact (in_at 27 rfl p d).rmdl | exact (in_at 28 rfl p d).rmdl | exact (in_at 29 rfl p d).rmdl) (by first | assumption | exact MInv.mono (by assumption) (by omega)) (by omega)) (fun rr1 => ?_)
  refine WL.opens (α := Value × Value) (φ := fun x => rr1 = .tuple #[.agg #[x.1, x.2, .int .i64 _], .int .i64 _] ∧ SL x.1 _ ∧ SL x.2 _) (ps := fun x => [OMdl (.agg #[x.1, x.2, .int .i64 _]) _]) 0 rfl (fun h q => EdR.open q) (by repeat' first | exact FL.nil | apply FL.cons) ?_
  rintro ⟨sd1, id1⟩ ⟨ed1, ta1, tb1⟩
  subst ed1
  dsimp only [List.cons_append, List.nil_append] at ta1 tb1 ⊢
  simp only [e_app] at ta1 tb1 ⊢
  refine WL.mv rfl rfl (WL.extL rfl rfl rfl (WL.extL rfl rfl rfl ?_))
  refine WL.alF (T := Ty) rfl rfl (by repeat' first | exact FL.nil | apply FL.cons) (fun b0 => ?_)
  refine WL.stAO (T := Ty) (j := 0) rfl rfl rfl rfl (by repeat' first | exact AO.nil | apply AO.cons (by first | rfl | exact SL.one (by assumption))) rfl rfl (by repeat' first | exact FL.nil | apply FL.cons) (by repeat' first | exact FL.nil | apply FL.cons) ?_
  refine WL.as rfl rfl (WL.nil (W.seq (W.region (WL.mv rfl rfl ?_))))
  refine WL.ldAF (T := Ty) (j := 0) rfl rfl rfl rfl rfl rfl (by repeat' first | exact FL.nil | apply FL.cons) ?_
  refine WL.bdC (T := Ty) rfl rfl rfl rfl (by repeat' first | exact CO.nil | apply CO.one (by first | rfl | exact SL.one (by assumption)) | apply CO.agg) rfl (by repeat' first | exact FL.nil | apply FL.cons) ?_
  refine WL.callCF (cs := []) rfl rfl rfl (fun x p d => edge_c _ _ _ 1 ⟨[eS0 a0], [], 0⟩ _ _ _ _ _ _ _ _ _ (by first | assumption | exact RMdl.wide (by assumption) | exact RMdl.mono (by assumption) (eqh_at 0 rfl p d) | exact (in_at 0 rfl p d).rmdl | exact (in_at 1 rfl p d).rmdl | exact (in_at 2 rfl p d).rmdl | exact (in_at 3 rfl p d).rmdl | exact (in_at 4 rfl p d).rmdl | exact (in_at 5 rfl p d).rmdl | exact (in_at 6 rfl p d).rmdl | exact (in_at 7 rfl p d).rmdl | exact (in_at 8 rfl p d).rmdl | exact (in_at 9 rfl p d).rmdl | exact (in_at 10 rfl p d).rmdl | exact (in_at 11 rfl p d).rmdl | exact (in_at 12 rfl p d).rmdl | exact (in_at 13 rfl p d).rmdl | exact (in_at 14 rfl p d).rmdl | exact (in_at 15 rfl p d).rmdl | exact (in_at 16 rfl p d).rmdl | exact (in_at 17 rfl p d).rmdl | exact (in_at 18 rfl p d).rmdl | exact (in_at 19 rfl p d).rmdl | exact (in_at 20 rfl p d).rmdl | exact (in_at 21 rfl p d).rmdl | exact (in_at 22 rfl p d).rmdl | exact (in_at 23 rfl p d).rmdl | exact (in_at 24 rfl p d).rmdl | exact (in_at 25 rfl p d).rmdl | exact (in_at 26 rfl p d).rmdl | exact (in_at 27 rfl p d).rmdl | exact (in_at 28 rfl p d).rmdl | exact (in_at 29 rfl p d).rmdl) (by first | assumption | exact MInv.mono (by assumption) (by omega)) (by omega)) (fun rr2 => ?_)
  refine WL.opens (α := Value × Value) (φ := fun x => rr2 = .tuple #[.agg #[x.1, x.2, .int .i64 _], .int .i64 _] ∧ SL x.1 _ ∧ SL x.2 _) (ps := fun x => [OMdl (.agg #[x.1, x.2, .int .i64 _]) _]) 0 rfl (fun h q => EdR.open q) (by repeat' first | exact FL.nil | apply FL.cons) ?_
  rintro ⟨sd2, id2⟩ ⟨ed2, ta2, tb2⟩
  subst ed2
  dsimp only [List.cons_append, List.nil_append] at ta2 tb2 ⊢
  simp only [e_seal] at ta2 tb2 ⊢
  refine WL.mv rfl rfl (WL.extL rfl rfl rfl (WL.extL rfl rfl rfl ?_))
  refine WL.stAO (T := Ty) (j := 1) rfl rfl rfl rfl (by repeat' first | exact AO.nil | apply AO.cons (by first | rfl | exact SL.one (by assumption))) rfl rfl (by repeat' first | exact FL.nil | apply FL.cons) (by repeat' first | exact FL.nil | apply FL.cons) ?_
  refine WL.as rfl rfl (WL.nil (W.seq (W.region (WL.mv rfl rfl ?_))))
  refine WL.ldAF (T := Ty) (j := 1) rfl rfl rfl rfl rfl rfl (by repeat' first | exact FL.nil | apply FL.cons) ?_
  refine WL.bdC (T := Ty) rfl rfl rfl rfl (by repeat' first | exact CO.nil | apply CO.one (by first | rfl | exact SL.one (by assumption)) | apply CO.agg) rfl (by repeat' first | exact FL.nil | apply FL.cons) ?_
  refine WL.callCF (cs := []) rfl rfl rfl (fun x p d => edge_c _ _ _ 2 ⟨[eS1 a0], [], 0⟩ _ _ _ _ _ _ _ _ _ (by first | assumption | exact RMdl.wide (by assumption) | exact RMdl.mono (by assumption) (eqh_at 0 rfl p d) | exact (in_at 0 rfl p d).rmdl | exact (in_at 1 rfl p d).rmdl | exact (in_at 2 rfl p d).rmdl | exact (in_at 3 rfl p d).rmdl | exact (in_at 4 rfl p d).rmdl | exact (in_at 5 rfl p d).rmdl | exact (in_at 6 rfl p d).rmdl | exact (in_at 7 rfl p d).rmdl | exact (in_at 8 rfl p d).rmdl | exact (in_at 9 rfl p d).rmdl | exact (in_at 10 rfl p d).rmdl | exact (in_at 11 rfl p d).rmdl | exact (in_at 12 rfl p d).rmdl | exact (in_at 13 rfl p d).rmdl | exact (in_at 14 rfl p d).rmdl | exact (in_at 15 rfl p d).rmdl | exact (in_at 16 rfl p d).rmdl | exact (in_at 17 rfl p d).rmdl | exact (in_at 18 rfl p d).rmdl | exact (in_at 19 rfl p d).rmdl | exact (in_at 20 rfl p d).rmdl | exact (in_at 21 rfl p d).rmdl | exact (in_at 22 rfl p d).rmdl | exact (in_at 23 rfl p d).rmdl | exact (in_at 24 rfl p d).rmdl | exact (in_at 25 rfl p d).rmdl | exact (in_at 26 rfl p d).rmdl | exact (in_at 27 rfl p d).rmdl | exact (in_at 28 rfl p d).rmdl | exact (in_at 29 rfl p d).rmdl) (by first | assumption | exact MInv.mono (by assumption) (by omega)) (by omega)) (fun rr3 => ?_)
  refine WL.opens (α := Value × Value) (φ := fun x => rr3 = .tuple #[.agg #[x.1, x.2, .int .i64 _], .int .i64 _] ∧ SL x.1 _ ∧ SL x.2 _) (ps := fun x => [OMdl (.agg #[x.1, x.2, .int .i64 _]) _]) 0 rfl (fun h q => EdR.open q) (by repeat' first | exact FL.nil | apply FL.cons) ?_
  rintro ⟨sd3, id3⟩ ⟨ed3, ta3, tb3⟩
  subst ed3
  dsimp only [List.cons_append, List.nil_append] at ta3 tb3 ⊢
  simp only [e_app2] at ta3 tb3 ⊢
  refine WL.mv rfl rfl (WL.extL rfl rfl rfl (WL.extL rfl rfl rfl ?_))
  refine WL.alF (T := Ty) rfl rfl (by repeat' first | exact FL.nil | apply FL.cons) (fun b1 => ?_)
  refine WL.stAO (T := Ty) (j := 0) rfl rfl rfl rfl (by repeat' first | exact AO.nil | apply AO.cons (by first | rfl | exact SL.one (by assumption))) rfl rfl (by repeat' first | exact FL.nil | apply FL.cons) (by repeat' first | exact FL.nil | apply FL.cons) ?_
  refine WL.as rfl rfl (WL.nil (W.seq (W.region (WL.mv rfl rfl ?_))))
  refine WL.ldAF (T := Ty) (j := 3) rfl rfl rfl rfl rfl rfl (by repeat' first | exact FL.nil | apply FL.cons) ?_
  refine WL.bdC (T := Ty) rfl rfl rfl rfl (by repeat' first | exact CO.nil | apply CO.one (by first | rfl | exact SL.one (by assumption)) | apply CO.agg) rfl (by repeat' first | exact FL.nil | apply FL.cons) ?_
  refine WL.callCF (cs := []) rfl rfl rfl (fun x p d => edge_c _ _ _ 2 ⟨[eS1 a0], [], 0⟩ _ _ _ _ _ _ _ _ _ (by first | assumption | exact RMdl.wide (by assumption) | exact RMdl.mono (by assumption) (eqh_at 0 rfl p d) | exact (in_at 0 rfl p d).rmdl | exact (in_at 1 rfl p d).rmdl | exact (in_at 2 rfl p d).rmdl | exact (in_at 3 rfl p d).rmdl | exact (in_at 4 rfl p d).rmdl | exact (in_at 5 rfl p d).rmdl | exact (in_at 6 rfl p d).rmdl | exact (in_at 7 rfl p d).rmdl | exact (in_at 8 rfl p d).rmdl | exact (in_at 9 rfl p d).rmdl | exact (in_at 10 rfl p d).rmdl | exact (in_at 11 rfl p d).rmdl | exact (in_at 12 rfl p d).rmdl | exact (in_at 13 rfl p d).rmdl | exact (in_at 14 rfl p d).rmdl | exact (in_at 15 rfl p d).rmdl | exact (in_at 16 rfl p d).rmdl | exact (in_at 17 rfl p d).rmdl | exact (in_at 18 rfl p d).rmdl | exact (in_at 19 rfl p d).rmdl | exact (in_at 20 rfl p d).rmdl | exact (in_at 21 rfl p d).rmdl | exact (in_at 22 rfl p d).rmdl | exact (in_at 23 rfl p d).rmdl | exact (in_at 24 rfl p d).rmdl | exact (in_at 25 rfl p d).rmdl | exact (in_at 26 rfl p d).rmdl | exact (in_at 27 rfl p d).rmdl | exact (in_at 28 rfl p d).rmdl | exact (in_at 29 rfl p d).rmdl) (by first | assumption | exact MInv.mono (by assumption) (by omega)) (by omega)) (fun rr4 => ?_)
  refine WL.opens (α := Value × Value) (φ := fun x => rr4 = .tuple #[.agg #[x.1, x.2, .int .i64 _], .int .i64 _] ∧ SL x.1 _ ∧ SL x.2 _) (ps := fun x => [OMdl (.agg #[x.1, x.2, .int .i64 _]) _]) 0 rfl (fun h q => EdR.open q) (by repeat' first | exact FL.nil | apply FL.cons) ?_
  rintro ⟨sd4, id4⟩ ⟨ed4, ta4, tb4⟩
  subst ed4
  dsimp only [List.cons_append, List.nil_append] at ta4 tb4 ⊢
  simp only [e_seal2] at ta4 tb4 ⊢
  have hrd := e_read a0
  refine WL.mv rfl rfl (WL.extL rfl rfl rfl (WL.extL rfl rfl rfl ?_))
  refine WL.alF (T := Ty) rfl rfl (by repeat' first | exact FL.nil | apply FL.cons) (fun b2 => ?_)
  refine WL.stAO (T := Ty) (j := 0) rfl rfl rfl rfl (by repeat' first | exact AO.nil | apply AO.cons (by first | rfl | exact SL.one (by assumption))) rfl rfl (by repeat' first | exact FL.nil | apply FL.cons) (by repeat' first | exact FL.nil | apply FL.cons) ?_
  refine WL.as rfl rfl (WL.nil (W.seq (W.region ?_)))
  refine WL.ldAF (T := Ty) (j := 5) rfl rfl rfl rfl rfl rfl (by repeat' first | exact FL.nil | apply FL.cons) ?_
  refine WL.mv rfl rfl (WL.mv rfl rfl ?_)
  refine WL.bdC (T := Ty) rfl rfl rfl rfl (by repeat' first | exact CO.nil | apply CO.one (by first | rfl | exact SL.one (by assumption)) | apply CO.agg) rfl (by repeat' first | exact FL.nil | apply FL.cons) ?_
  refine WL.callF rfl rfl (fun x p d => doX_c _ _ _ _ _ _ _ _ _ _ _ _ (by first | assumption | exact RMdl.wide (by assumption) | exact RMdl.mono (by assumption) (eqh_at 0 rfl p d) | exact (in_at 0 rfl p d).rmdl | exact (in_at 1 rfl p d).rmdl | exact (in_at 2 rfl p d).rmdl | exact (in_at 3 rfl p d).rmdl | exact (in_at 4 rfl p d).rmdl | exact (in_at 5 rfl p d).rmdl | exact (in_at 6 rfl p d).rmdl | exact (in_at 7 rfl p d).rmdl | exact (in_at 8 rfl p d).rmdl | exact (in_at 9 rfl p d).rmdl | exact (in_at 10 rfl p d).rmdl | exact (in_at 11 rfl p d).rmdl | exact (in_at 12 rfl p d).rmdl | exact (in_at 13 rfl p d).rmdl | exact (in_at 14 rfl p d).rmdl | exact (in_at 15 rfl p d).rmdl | exact (in_at 16 rfl p d).rmdl | exact (in_at 17 rfl p d).rmdl | exact (in_at 18 rfl p d).rmdl | exact (in_at 19 rfl p d).rmdl | exact (in_at 20 rfl p d).rmdl | exact (in_at 21 rfl p d).rmdl | exact (in_at 22 rfl p d).rmdl | exact (in_at 23 rfl p d).rmdl | exact (in_at 24 rfl p d).rmdl | exact (in_at 25 rfl p d).rmdl | exact (in_at 26 rfl p d).rmdl | exact (in_at 27 rfl p d).rmdl | exact (in_at 28 rfl p d).rmdl | exact (in_at 29 rfl p d).rmdl) (by assumption) (by first | assumption | omega)) (fun r3 => ?_)
  refine WL.opens (α := (Value × Value × Value)) (φ := fun x => r3 = .tuple #[.agg #[x.1, x.2.1, .int .i64 _], .agg #[.int .i64 _, .int .i64 _, x.2.2]] ∧ SL x.1 _ ∧ SL x.2.1 _ ∧ SL x.2.2 _) (ps := fun x => [OMdl (.agg #[x.1, x.2.1, .int .i64 _]) _, ORst (.agg #[.int .i64 _, .int .i64 _, x.2.2]) _]) 0 rfl (fun h q => DoR.open q) (by repeat' first | exact FL.nil | apply FL.cons) ?_
  rintro ⟨sv3, iv3, u3⟩ ⟨es3, sa3, sb3, sc3⟩
  subst es3
  dsimp only [List.cons_append, List.nil_append] at sa3 sb3 sc3 ⊢
  refine WL.mv rfl rfl (WL.extL rfl rfl rfl (WL.extL rfl rfl rfl ?_))
  refine WL.alF (T := Ty) rfl rfl (by repeat' first | exact FL.nil | apply FL.cons) (fun b4 => ?_)
  refine WL.alF (T := Ty) rfl rfl (by repeat' first | exact FL.nil | apply FL.cons) (fun b5 => ?_)
  refine WL.stAO (T := Ty) (j := 1) rfl rfl rfl rfl (by repeat' first | exact AO.nil | apply AO.cons (by first | rfl | exact SL.one (by assumption))) rfl rfl (by repeat' first | exact FL.nil | apply FL.cons) (by repeat' first | exact FL.nil | apply FL.cons) ?_
  refine WL.stAO (T := Ty) (j := 0) rfl rfl rfl rfl (by repeat' first | exact AO.nil | apply AO.cons (by first | rfl | exact SL.one (by assumption))) rfl rfl (by repeat' first | exact FL.nil | apply FL.cons) (by repeat' first | exact FL.nil | apply FL.cons) ?_
  refine WL.nil (W.seq (W.seq (W.region (WL.mv rfl rfl (WL.neq rfl rfl rfl (WL.mv rfl rfl (WL.gY rfl rfl (WL.mv rfl rfl (WL.gY rfl rfl (WL.neq rfl rfl rfl (WL.pickF rfl rfl rfl (WL.mv rfl rfl (WL.gY rfl rfl ?_)))))))))))))
  refine WL.mv rfl rfl (WL.gY rfl rfl (WL.neq rfl rfl rfl (WL.pickF rfl rfl rfl (WL.mv rfl rfl (WL.gY rfl rfl (WL.mv rfl rfl (WL.gY rfl rfl (WL.neq rfl rfl rfl (WL.pickF rfl rfl rfl (WL.mv rfl rfl (WL.gY rfl rfl (WL.faN (T := Ty) (off' := 2) rfl rfl rfl rfl rfl rfl rfl (WL.gY rfl rfl ?_)))))))))))))
  refine WL.ldN (T := Ty) (j := 0) rfl rfl rfl rfl rfl rfl (WL.gY rfl rfl ?_)
  refine WL.len (T := Ty) rfl rfl (by assumption) rfl ?_
  refine WL.gY rfl rfl (WL.neq rfl rfl rfl (WL.pickF rfl rfl rfl (WL.nil ?_)))
  simp only [e_read]
  refine W.condpF rfl (by simp) (W.skip ?_)
  refine W.fit (Hs' := [OMdl (.agg #[sd2, id2, _]) _, box b0 _ _]) (by (repeat' first | exact Sel.nil | refine Sel.cons 0 rfl ?_ | refine Sel.cons 1 rfl ?_ | refine Sel.cons 2 rfl ?_ | refine Sel.cons 3 rfl ?_ | refine Sel.cons 4 rfl ?_ | refine Sel.cons 5 rfl ?_ | refine Sel.cons 6 rfl ?_ | refine Sel.cons 7 rfl ?_ | refine Sel.cons 8 rfl ?_ | refine Sel.cons 9 rfl ?_ | refine Sel.cons 10 rfl ?_ | refine Sel.cons 11 rfl ?_ | refine Sel.cons 12 rfl ?_ | refine Sel.cons 13 rfl ?_ | refine Sel.cons 14 rfl ?_ | refine Sel.cons 15 rfl ?_ | refine Sel.cons 16 rfl ?_ | refine Sel.cons 17 rfl ?_)) ?_
  refine W.freeze 0 rfl (by repeat' first | exact FL.nil | apply FL.cons) (fun ρ2 le2 hin2 => ?_)
  have hm2 := hin2.rmdl
  obtain ⟨N, hN⟩ : ∃ N : Nat, a1 % (15 + 1) = (N : Int) := ⟨(a1 % (15 + 1)).toNat, by omega⟩
  have hN' : N ≤ 15 := by omega
  refine W.seq (W.region (WL.mv rfl rfl (WL.andI rfl rfl rfl (by decide) (WL.as rfl rfl (WL.nil (W.seq (W.seq (W.region (WL.as rfl rfl (WL.nil (W.block ?_)))))))))))
  rw [hN]
  refine W.cutG2 (τ := Value × Value) (fun s => [(1, .int .i64 (N : Int)), (2, .int .i64 a2), (6, .bool false), (7, .func (.func 18) #[] #[]), (8, pt b0 0)])
    (fun s => [box b0 [s.1, s.2, .int .i64 ((min N 8 : Nat) : Int)] 31]) (fun s ρ' => MInv 20 (eM a0 (min N 8)) ∧ RMdl ρ' (.agg #[s.1, s.2, .int .i64 ((min N 8 : Nat) : Int)]) (eM a0 (min N 8)) ∧ SL s.1 1 ∧ SL s.2 (min N 8)) ?_ (fun cut0 => ?_)
  · rintro ⟨sv, iv⟩ ρ3 le3 ⟨hI, hM, t1, t2⟩
    dsimp only at hI hM t1 t2 ⊢
    obtain ⟨c, hc⟩ : ∃ c : Int, a2 % (7 + 1) + 1 = c := ⟨_, rfl⟩
    have hc1 : 1 ≤ c ∧ c ≤ 8 := by omega
    refine W.seq ?_
    refine W.cutG (τ := List Itr × Int × Value × Value) (fun s => [(2, .int .i64 a2), (1, .int .i64 (N : Int)), (6, .bool false), (7, .func (.func 18) #[] #[]), (8, pt b0 0), (20, .int .i64 s.2.1)])
      (fun s => [box b0 [s.2.2.1, s.2.2.2, .int .i64 ((min N 8 : Nat) : Int)] 31]) (fun s ρ' => MInv 21 ⟨[eS1 a0], s.1, ((min N 8 : Nat) : Int)⟩ ∧ s.1.length < 8 ∧ ((s.2.1 = 0 ∧ c ≤ ((min N 8 : Nat) : Int)) ∨ (s.2.1 = 3 ∧ ¬ c ≤ ((min N 8 : Nat) : Int))) ∧ RMdl ρ' (.agg #[s.2.2.1, s.2.2.2, .int .i64 ((min N 8 : Nat) : Int)]) ⟨[eS1 a0], s.1, ((min N 8 : Nat) : Int)⟩ ∧ SL s.2.2.1 1 ∧ SL s.2.2.2 s.1.length) ?_ (fun cut1 => ?_)
    · clear hI hM t1 t2 sv iv
      rintro ⟨its, er, sv, iv⟩ ρ4 le4 ⟨hI, hl8, her, hM, t1, t2⟩
      dsimp only at hI hl8 her hM t1 t2 ⊢
      obtain ⟨its2, hit2⟩ : ∃ x, its ++ [⟨((min N 8 : Nat) : Int) + 1, within [(a0, 1)] 0 0⟩] = x := ⟨_, rfl⟩
      have hop := e_openG a0 0 0 its ((min N 8 : Nat) : Int) hl8
      rw [hit2] at hop
      have hI7 := doM_inv hI ⟨5, 5, 0, 0, 0, 0, 0, 0⟩
      rw [hop] at hI7
      refine W.seq (W.seq (W.region (WL.mv rfl rfl (WL.eql rfl rfl rfl (WL.mv rfl rfl (WL.andI rfl rfl rfl (by decide) (WL.addK rfl rfl rfl (wrap_i64 ⟨by omega, by omega⟩) (WL.mv rfl rfl (WL.mn rfl rfl rfl (WL.leq rfl rfl rfl (WL.neB (T := Ty) rfl rfl rfl rfl (WL.nil ?_))))))))))))
      rw [hc]
      have hg : (!(decide (er = 0) == decide (c ≤ min (N : Int) 8))) = false := by
        rcases her with ⟨rfl, h⟩ | ⟨rfl, h⟩
        · simp; omega
        · simp; omega
      simp only [hg]
      refine W.condF rfl (W.skip (W.seq (W.region ?_)))
      refine WL.ldAF (T := Ty) (j := 0) rfl rfl rfl rfl rfl rfl (by repeat' first | exact FL.nil | apply FL.cons) ?_
      refine WL.bdC (T := Ty) rfl rfl rfl rfl (by repeat' first | exact CO.nil | apply CO.one (by first | rfl | exact SL.one (by assumption)) | apply CO.agg) rfl (by repeat' first | exact FL.nil | apply FL.cons) ?_
      refine WL.callF rfl rfl (fun x p d => doX_c _ _ _ _ _ _ _ _ _ _ _ _ (by first | assumption | exact RMdl.wide (by assumption) | exact RMdl.mono (by assumption) (eqh_at 0 rfl p d) | exact (in_at 0 rfl p d).rmdl | exact (in_at 1 rfl p d).rmdl | exact (in_at 2 rfl p d).rmdl | exact (in_at 3 rfl p d).rmdl | exact (in_at 4 rfl p d).rmdl | exact (in_at 5 rfl p d).rmdl | exact (in_at 6 rfl p d).rmdl | exact (in_at 7 rfl p d).rmdl | exact (in_at 8 rfl p d).rmdl | exact (in_at 9 rfl p d).rmdl | exact (in_at 10 rfl p d).rmdl | exact (in_at 11 rfl p d).rmdl | exact (in_at 12 rfl p d).rmdl | exact (in_at 13 rfl p d).rmdl | exact (in_at 14 rfl p d).rmdl | exact (in_at 15 rfl p d).rmdl | exact (in_at 16 rfl p d).rmdl | exact (in_at 17 rfl p d).rmdl | exact (in_at 18 rfl p d).rmdl | exact (in_at 19 rfl p d).rmdl | exact (in_at 20 rfl p d).rmdl | exact (in_at 21 rfl p d).rmdl | exact (in_at 22 rfl p d).rmdl | exact (in_at 23 rfl p d).rmdl | exact (in_at 24 rfl p d).rmdl | exact (in_at 25 rfl p d).rmdl | exact (in_at 26 rfl p d).rmdl | exact (in_at 27 rfl p d).rmdl | exact (in_at 28 rfl p d).rmdl | exact (in_at 29 rfl p d).rmdl) (by assumption) (by first | assumption | omega)) (fun r6 => ?_)
      refine WL.opens (α := (Value × Value × Value)) (φ := fun x => r6 = .tuple #[.agg #[x.1, x.2.1, .int .i64 _], .agg #[.int .i64 _, .int .i64 _, x.2.2]] ∧ SL x.1 _ ∧ SL x.2.1 _ ∧ SL x.2.2 _) (ps := fun x => [OMdl (.agg #[x.1, x.2.1, .int .i64 _]) _, ORst (.agg #[.int .i64 _, .int .i64 _, x.2.2]) _]) 0 rfl (fun h q => DoR.open q) (by repeat' first | exact FL.nil | apply FL.cons) ?_
      rintro ⟨sv6, iv6, u6⟩ ⟨es6, sa6, sb6, sc6⟩
      subst es6
      dsimp only [List.cons_append, List.nil_append] at sa6 sb6 sc6 ⊢
      refine WL.mv rfl rfl (WL.extL rfl rfl rfl (WL.extL rfl rfl rfl ?_))
      refine WL.alF (T := Ty) rfl rfl (by repeat' first | exact FL.nil | apply FL.cons) (fun b7 => ?_)
      refine WL.alF (T := Ty) rfl rfl (by repeat' first | exact FL.nil | apply FL.cons) (fun b8 => ?_)
      refine WL.stAO (T := Ty) (j := 1) rfl rfl rfl rfl (by repeat' first | exact AO.nil | apply AO.cons (by first | rfl | exact SL.one (by assumption))) rfl rfl (by repeat' first | exact FL.nil | apply FL.cons) (by repeat' first | exact FL.nil | apply FL.cons) ?_
      refine WL.stAO (T := Ty) (j := 0) rfl rfl rfl rfl (by repeat' first | exact AO.nil | apply AO.cons (by first | rfl | exact SL.one (by assumption))) rfl rfl (by repeat' first | exact FL.nil | apply FL.cons) (by repeat' first | exact FL.nil | apply FL.cons) ?_
      refine WL.nil (W.seq (W.seq (W.region (WL.mv rfl rfl (WL.leq rfl rfl rfl (WL.mv rfl rfl ?_))))))
      simp only [hop]
      by_cases h8 : N < 8
      · rw [show min N 8 = N by omega] at hI7 ⊢
        refine WL.gT rfl rfl (by omega) (WL.mv rfl rfl (WL.gT rfl rfl (by omega) (WL.lss rfl rfl rfl (WL.pickTp rfl rfl (by omega) rfl (WL.mv rfl rfl (WL.gT rfl rfl (by omega) (WL.faN (T := Ty) (off' := 1) rfl rfl rfl rfl rfl rfl rfl (WL.gT rfl rfl (by omega) (WL.ldN (T := Ty) (j := 0) rfl rfl rfl rfl rfl rfl (WL.gT rfl rfl (by omega) (WL.mv rfl rfl (WL.gT rfl rfl (by omega) (WL.addK rfl rfl rfl (wrap_i64 ⟨by omega, by omega⟩) ?_)))))))))))))
        refine WL.gT rfl rfl (by omega) (WL.neq rfl rfl rfl (WL.pickTp rfl rfl (by omega) rfl (WL.mv rfl rfl (WL.gF rfl rfl (by omega) (WL.mv rfl rfl (WL.gF rfl rfl (by omega) (WL.geq rfl rfl rfl (WL.gF rfl rfl (by omega) (WL.mv rfl rfl (WL.gdTn rfl rfl rfl rfl rfl (by omega) (WL.gdTn rfl rfl rfl rfl rfl (by omega) (WL.gF rfl rfl (by omega) (WL.pickFp rfl rfl (by omega) rfl ?_)))))))))))))
        refine WL.gF rfl rfl (by omega) (WL.mv rfl rfl (WL.gdN rfl rfl rfl rfl rfl rfl (WL.gdN rfl rfl rfl rfl rfl rfl (WL.gdN rfl rfl rfl rfl rfl rfl (WL.gF rfl rfl (by omega) (WL.pickF rfl rfl rfl (WL.pickFp rfl rfl (by omega) rfl (WL.nil (W.condF rfl (W.skip (W.seq (W.region (WL.mv rfl rfl ?_)))))))))))))
        refine WL.ldAF (T := Ty) (j := 1) rfl rfl rfl rfl rfl rfl (by repeat' first | exact FL.nil | apply FL.cons) ?_
        refine WL.bdC (T := Ty) rfl rfl rfl rfl (by repeat' first | exact CO.nil | apply CO.one (by first | rfl | exact SL.one (by assumption)) | apply CO.agg) rfl (by repeat' first | exact FL.nil | apply FL.cons) ?_
        refine WL.callCF (cs := []) rfl rfl rfl (fun x p d => edge_c _ _ _ 22 ⟨[eS1 a0], its2, (N : Int) + 1⟩ _ _ _ _ _ _ _ _ _ (by first | assumption | exact RMdl.wide (by assumption) | exact RMdl.mono (by assumption) (eqh_at 0 rfl p d) | exact (in_at 0 rfl p d).rmdl | exact (in_at 1 rfl p d).rmdl | exact (in_at 2 rfl p d).rmdl | exact (in_at 3 rfl p d).rmdl | exact (in_at 4 rfl p d).rmdl | exact (in_at 5 rfl p d).rmdl | exact (in_at 6 rfl p d).rmdl | exact (in_at 7 rfl p d).rmdl | exact (in_at 8 rfl p d).rmdl | exact (in_at 9 rfl p d).rmdl | exact (in_at 10 rfl p d).rmdl | exact (in_at 11 rfl p d).rmdl | exact (in_at 12 rfl p d).rmdl | exact (in_at 13 rfl p d).rmdl | exact (in_at 14 rfl p d).rmdl | exact (in_at 15 rfl p d).rmdl | exact (in_at 16 rfl p d).rmdl | exact (in_at 17 rfl p d).rmdl | exact (in_at 18 rfl p d).rmdl | exact (in_at 19 rfl p d).rmdl | exact (in_at 20 rfl p d).rmdl | exact (in_at 21 rfl p d).rmdl | exact (in_at 22 rfl p d).rmdl | exact (in_at 23 rfl p d).rmdl | exact (in_at 24 rfl p d).rmdl | exact (in_at 25 rfl p d).rmdl | exact (in_at 26 rfl p d).rmdl | exact (in_at 27 rfl p d).rmdl | exact (in_at 28 rfl p d).rmdl | exact (in_at 29 rfl p d).rmdl) (by first | assumption | exact MInv.mono (by assumption) (by omega)) (by omega)) (fun rr7 => ?_)
        refine WL.opens (α := Value × Value) (φ := fun x => rr7 = .tuple #[.agg #[x.1, x.2, .int .i64 _], .int .i64 _] ∧ SL x.1 _ ∧ SL x.2 _) (ps := fun x => [OMdl (.agg #[x.1, x.2, .int .i64 _]) _]) 0 rfl (fun h q => EdR.open q) (by repeat' first | exact FL.nil | apply FL.cons) ?_
        rintro ⟨sd7, id7⟩ ⟨ed7, ta7, tb7⟩
        subst ed7
        dsimp only [List.cons_append, List.nil_append] at ta7 tb7 ⊢
        have hI8 := doM_inv hI7 ⟨4, 5, 0, 0, 0, 0, 0, 0⟩
        rw [e_del] at hI8
        simp only [e_del] at ta7 tb7 ⊢
        refine WL.mv rfl rfl (WL.extL rfl rfl rfl (WL.extL rfl rfl rfl ?_))
        refine WL.stAO (T := Ty) (j := 2) rfl rfl rfl rfl (by repeat' first | exact AO.nil | apply AO.cons (by first | rfl | exact SL.one (by assumption))) rfl rfl (by repeat' first | exact FL.nil | apply FL.cons) (by repeat' first | exact FL.nil | apply FL.cons) ?_
        refine WL.as rfl rfl (WL.nil (W.seq (W.region (WL.mv rfl rfl ?_))))
        refine WL.ldAF (T := Ty) (j := 2) rfl rfl rfl rfl rfl rfl (by repeat' first | exact FL.nil | apply FL.cons) ?_
        refine WL.bdC (T := Ty) rfl rfl rfl rfl (by repeat' first | exact CO.nil | apply CO.one (by first | rfl | exact SL.one (by assumption)) | apply CO.agg) rfl (by repeat' first | exact FL.nil | apply FL.cons) ?_
        refine WL.callCF (cs := []) rfl rfl rfl (fun x p d => edge_c _ _ _ 23 ⟨[], its2, (N : Int) + 1⟩ _ _ _ _ _ _ _ _ _ (by first | assumption | exact RMdl.wide (by assumption) | exact RMdl.mono (by assumption) (eqh_at 0 rfl p d) | exact (in_at 0 rfl p d).rmdl | exact (in_at 1 rfl p d).rmdl | exact (in_at 2 rfl p d).rmdl | exact (in_at 3 rfl p d).rmdl | exact (in_at 4 rfl p d).rmdl | exact (in_at 5 rfl p d).rmdl | exact (in_at 6 rfl p d).rmdl | exact (in_at 7 rfl p d).rmdl | exact (in_at 8 rfl p d).rmdl | exact (in_at 9 rfl p d).rmdl | exact (in_at 10 rfl p d).rmdl | exact (in_at 11 rfl p d).rmdl | exact (in_at 12 rfl p d).rmdl | exact (in_at 13 rfl p d).rmdl | exact (in_at 14 rfl p d).rmdl | exact (in_at 15 rfl p d).rmdl | exact (in_at 16 rfl p d).rmdl | exact (in_at 17 rfl p d).rmdl | exact (in_at 18 rfl p d).rmdl | exact (in_at 19 rfl p d).rmdl | exact (in_at 20 rfl p d).rmdl | exact (in_at 21 rfl p d).rmdl | exact (in_at 22 rfl p d).rmdl | exact (in_at 23 rfl p d).rmdl | exact (in_at 24 rfl p d).rmdl | exact (in_at 25 rfl p d).rmdl | exact (in_at 26 rfl p d).rmdl | exact (in_at 27 rfl p d).rmdl | exact (in_at 28 rfl p d).rmdl | exact (in_at 29 rfl p d).rmdl) (by first | assumption | exact MInv.mono (by assumption) (by omega)) (by omega)) (fun rr8 => ?_)
        refine WL.opens (α := Value × Value) (φ := fun x => rr8 = .tuple #[.agg #[x.1, x.2, .int .i64 _], .int .i64 _] ∧ SL x.1 _ ∧ SL x.2 _) (ps := fun x => [OMdl (.agg #[x.1, x.2, .int .i64 _]) _]) 0 rfl (fun h q => EdR.open q) (by repeat' first | exact FL.nil | apply FL.cons) ?_
        rintro ⟨sd8, id8⟩ ⟨ed8, ta8, tb8⟩
        subst ed8
        dsimp only [List.cons_append, List.nil_append] at ta8 tb8 ⊢
        simp only [e_new] at ta8 tb8 ⊢
        refine WL.mv rfl rfl (WL.extL rfl rfl rfl (WL.extL rfl rfl rfl ?_))
        refine WL.stAO (T := Ty) (j := 3) rfl rfl rfl rfl (by repeat' first | exact AO.nil | apply AO.cons (by first | rfl | exact SL.one (by assumption))) rfl rfl (by repeat' first | exact FL.nil | apply FL.cons) (by repeat' first | exact FL.nil | apply FL.cons) ?_
        refine WL.as rfl rfl (WL.nil (W.seq (W.region (WL.mv rfl rfl (WL.eql rfl rfl rfl (WL.mv rfl rfl (WL.gY rfl rfl (WL.mv rfl rfl (WL.gY rfl rfl (WL.eql rfl rfl rfl (WL.pickT rfl rfl rfl (WL.mv rfl rfl (WL.gY rfl rfl ?_)))))))))))))
        refine WL.faN (T := Ty) (off' := 0) rfl rfl rfl rfl rfl rfl rfl (WL.gY rfl rfl (WL.ldN (T := Ty) (j := 3) rfl rfl rfl rfl rfl rfl (WL.gY rfl rfl ?_)))
        refine WL.len (T := Ty) rfl rfl (by assumption) rfl ?_
        refine WL.gY rfl rfl (WL.eql rfl rfl rfl (WL.pickT rfl rfl rfl (WL.mv rfl rfl (WL.gY rfl rfl (WL.faN (T := Ty) (off' := 0) rfl rfl rfl rfl rfl rfl rfl (WL.gY rfl rfl (WL.ldN (T := Ty) (j := 3) rfl rfl rfl rfl rfl rfl (WL.gY rfl rfl ?_))))))))
        refine WL.ix (T := Ty) rfl rfl rfl (by assumption) rfl rfl (by omega) (by first | omega | decide +kernel) ?_
        refine WL.gY rfl rfl (WL.faEN (T := Ty) (off' := 4) rfl rfl rfl rfl rfl rfl rfl (WL.gY rfl rfl ?_))
        refine WL.opens (α := List (Ser × Value) × List (Itr × Value)) (φ := fun x => x.1.map Prod.fst = [⟨5, false, true, -9223372036854775808, [(-9223372036854775808, 0)]⟩] ∧ x.2.map Prod.fst = its2) (ps := fun x => [Buf 5 sd8 (x.1.flatMap serC), Buf 2 id8 (x.2.flatMap itrC), Own owSer x.1, Own owItr x.2]) 0 rfl (fun h q => omdl_open q) (by repeat' first | exact FL.nil | apply FL.cons) ?_
        rintro ⟨L, K⟩ ⟨e1, e2⟩
        replace e1 : L.map Prod.fst = [⟨5, false, true, -9223372036854775808, [(-9223372036854775808, 0)]⟩] := e1
        obtain ⟨lv8, rfl⟩ : ∃ lv8, L = [(⟨5, false, true, -9223372036854775808, [(-9223372036854775808, 0)]⟩, lv8)] := by
          rcases L with _ | ⟨p, _ | ⟨q, L⟩⟩
          · simp at e1
          · obtain ⟨p1, p2⟩ := p
            simp only [List.map_cons, List.map_nil, List.cons.injEq, and_true] at e1
            exact ⟨p2, by rw [e1]⟩
          · simp at e1
        have c4 : ([((⟨5, false, true, -9223372036854775808, [(-9223372036854775808, 0)]⟩ : Ser), lv8)].flatMap serC)[Int.toNat 0 * 5 + 4]? = some lv8 := rfl
        have c1 : ([((⟨5, false, true, -9223372036854775808, [(-9223372036854775808, 0)]⟩ : Ser), lv8)].flatMap serC)[Int.toNat 0 * 5 + 1]? = some (.bool false) := rfl
        refine WL.parts (ps := [Buf 2 lv8 [.int .i64 (-9223372036854775808), .int .u64 0], Own owSer []]) 2 rfl (fun h q => own_out (f := owSer) (i := 0) (a := (⟨5, false, true, -9223372036854775808, [(-9223372036854775808, 0)]⟩, lv8)) rfl q) (by repeat' first | exact FL.nil | apply FL.cons) ?_
        refine WL.fact (i := 0) rfl (fun h hb => Buf.sl (n := 1) hb rfl (by omega)) (fun s4 => ?_)
        refine WL.ldE (T := Ty) (j := 2) rfl rfl rfl rfl rfl (by assumption) ?_
        refine WL.gY rfl rfl ?_
        refine WL.len (T := Ty) rfl rfl (by assumption) rfl ?_
        refine WL.gY rfl rfl (WL.eql rfl rfl rfl (WL.pickT rfl rfl rfl (WL.mv rfl rfl (WL.gY rfl rfl (WL.faN (T := Ty) (off' := 0) rfl rfl rfl rfl rfl rfl rfl (WL.gY rfl rfl (WL.ldN (T := Ty) (j := 7) rfl rfl rfl rfl rfl rfl (WL.gY rfl rfl ?_))))))))
        refine WL.ix (T := Ty) rfl rfl rfl (by assumption) rfl rfl (by omega) (by first | omega | decide +kernel) ?_
        refine WL.gY rfl rfl (WL.faEN (T := Ty) (off' := 1) rfl rfl rfl rfl rfl rfl rfl (WL.gY rfl rfl ?_))
        refine WL.ldE (T := Ty) (j := 2) rfl rfl rfl rfl rfl (by assumption) ?_
        refine WL.gY rfl rfl (WL.not rfl rfl (WL.pickT rfl rfl rfl (WL.mv rfl rfl (WL.gY rfl rfl ?_))))
        refine WL.callV rfl rfl (fun x p d => awake14_c _) ?_
        refine WL.pickT rfl rfl rfl (WL.as rfl rfl (WL.nil ?_))
        exact W.fit (Hs' := []) (by (repeat' first | exact Sel.nil | refine Sel.cons 0 rfl ?_ | refine Sel.cons 1 rfl ?_ | refine Sel.cons 2 rfl ?_ | refine Sel.cons 3 rfl ?_ | refine Sel.cons 4 rfl ?_ | refine Sel.cons 5 rfl ?_ | refine Sel.cons 6 rfl ?_ | refine Sel.cons 7 rfl ?_ | refine Sel.cons 8 rfl ?_ | refine Sel.cons 9 rfl ?_ | refine Sel.cons 10 rfl ?_ | refine Sel.cons 11 rfl ?_ | refine Sel.cons 12 rfl ?_ | refine Sel.cons 13 rfl ?_ | refine Sel.cons 14 rfl ?_ | refine Sel.cons 15 rfl ?_ | refine Sel.cons 16 rfl ?_ | refine Sel.cons 17 rfl ?_)) (W.ret1 rfl rfl (fun h q => rfl))
      · rw [show min N 8 = 8 by omega] at her hI7 ⊢
        have her0 : er = 0 := her.elim (fun h => h.1) (fun h => absurd (by omega) h.2)
        subst her0
        by_cases h9 : N ≤ 8
        · refine WL.gT rfl rfl (by omega) ?_
          refine WL.mv rfl rfl (WL.gT rfl rfl (by omega) (WL.lss rfl rfl rfl (WL.pickTp rfl rfl (by omega) rfl (WL.mv rfl rfl (WL.gdTn rfl rfl rfl rfl rfl (by omega) (WL.gdTn rfl rfl rfl rfl rfl (by omega) (WL.gdTn rfl rfl rfl rfl rfl (by omega) (WL.gdTn rfl rfl rfl rfl rfl (by omega) (WL.gdTn rfl rfl rfl rfl rfl (by omega) (WL.pickFp rfl rfl (by omega) rfl (WL.mv rfl rfl (WL.gY rfl rfl (WL.mv rfl rfl ?_)))))))))))))
          refine WL.gY rfl rfl (WL.geq rfl rfl rfl (WL.gY rfl rfl (WL.mv rfl rfl (WL.gT rfl rfl (by omega) (WL.mv rfl rfl (WL.gT rfl rfl (by omega) (WL.eql rfl rfl rfl (WL.gY rfl rfl (WL.pickTp rfl rfl (by omega) rfl (WL.gY rfl rfl (WL.mv rfl rfl (WL.gY rfl rfl (WL.faN (T := Ty) (off' := 1) rfl rfl rfl rfl rfl rfl rfl ?_)))))))))))))
          refine WL.gY rfl rfl (WL.ldN (T := Ty) (j := 0) rfl rfl rfl rfl rfl rfl (WL.gY rfl rfl (WL.neq rfl rfl rfl (WL.gY rfl rfl (WL.pickT rfl rfl rfl (WL.pickF rfl rfl rfl (WL.nil (W.condF rfl (W.skip (W.seq (W.region (WL.mv rfl rfl ?_))))))))))))
          refine WL.ldAF (T := Ty) (j := 1) rfl rfl rfl rfl rfl rfl (by repeat' first | exact FL.nil | apply FL.cons) ?_
          refine WL.bdC (T := Ty) rfl rfl rfl rfl (by repeat' first | exact CO.nil | apply CO.one (by first | rfl | exact SL.one (by assumption)) | apply CO.agg) rfl (by repeat' first | exact FL.nil | apply FL.cons) ?_
          refine WL.callCF (cs := []) rfl rfl rfl (fun x p d => edge_c _ _ _ 22 ⟨[eS1 a0], its2, ((8 : Nat) : Int) + 1⟩ _ _ _ _ _ _ _ _ _ (by first | assumption | exact RMdl.wide (by assumption) | exact RMdl.mono (by assumption) (eqh_at 0 rfl p d) | exact (in_at 0 rfl p d).rmdl | exact (in_at 1 rfl p d).rmdl | exact (in_at 2 rfl p d).rmdl | exact (in_at 3 rfl p d).rmdl | exact (in_at 4 rfl p d).rmdl | exact (in_at 5 rfl p d).rmdl | exact (in_at 6 rfl p d).rmdl | exact (in_at 7 rfl p d).rmdl | exact (in_at 8 rfl p d).rmdl | exact (in_at 9 rfl p d).rmdl | exact (in_at 10 rfl p d).rmdl | exact (in_at 11 rfl p d).rmdl | exact (in_at 12 rfl p d).rmdl | exact (in_at 13 rfl p d).rmdl | exact (in_at 14 rfl p d).rmdl | exact (in_at 15 rfl p d).rmdl | exact (in_at 16 rfl p d).rmdl | exact (in_at 17 rfl p d).rmdl | exact (in_at 18 rfl p d).rmdl | exact (in_at 19 rfl p d).rmdl | exact (in_at 20 rfl p d).rmdl | exact (in_at 21 rfl p d).rmdl | exact (in_at 22 rfl p d).rmdl | exact (in_at 23 rfl p d).rmdl | exact (in_at 24 rfl p d).rmdl | exact (in_at 25 rfl p d).rmdl | exact (in_at 26 rfl p d).rmdl | exact (in_at 27 rfl p d).rmdl | exact (in_at 28 rfl p d).rmdl | exact (in_at 29 rfl p d).rmdl) (by first | assumption | exact MInv.mono (by assumption) (by omega)) (by omega)) (fun rr7 => ?_)
          refine WL.opens (α := Value × Value) (φ := fun x => rr7 = .tuple #[.agg #[x.1, x.2, .int .i64 _], .int .i64 _] ∧ SL x.1 _ ∧ SL x.2 _) (ps := fun x => [OMdl (.agg #[x.1, x.2, .int .i64 _]) _]) 0 rfl (fun h q => EdR.open q) (by repeat' first | exact FL.nil | apply FL.cons) ?_
          rintro ⟨sd7, id7⟩ ⟨ed7, ta7, tb7⟩
          subst ed7
          dsimp only [List.cons_append, List.nil_append] at ta7 tb7 ⊢
          have hI8 := doM_inv hI7 ⟨4, 5, 0, 0, 0, 0, 0, 0⟩
          rw [e_del] at hI8
          simp only [e_del] at ta7 tb7 ⊢
          refine WL.mv rfl rfl (WL.extL rfl rfl rfl (WL.extL rfl rfl rfl ?_))
          refine WL.stAO (T := Ty) (j := 2) rfl rfl rfl rfl (by repeat' first | exact AO.nil | apply AO.cons (by first | rfl | exact SL.one (by assumption))) rfl rfl (by repeat' first | exact FL.nil | apply FL.cons) (by repeat' first | exact FL.nil | apply FL.cons) ?_
          refine WL.as rfl rfl (WL.nil (W.seq (W.region (WL.mv rfl rfl ?_))))
          refine WL.ldAF (T := Ty) (j := 2) rfl rfl rfl rfl rfl rfl (by repeat' first | exact FL.nil | apply FL.cons) ?_
          refine WL.bdC (T := Ty) rfl rfl rfl rfl (by repeat' first | exact CO.nil | apply CO.one (by first | rfl | exact SL.one (by assumption)) | apply CO.agg) rfl (by repeat' first | exact FL.nil | apply FL.cons) ?_
          refine WL.callCF (cs := []) rfl rfl rfl (fun x p d => edge_c _ _ _ 23 ⟨[], its2, ((8 : Nat) : Int) + 1⟩ _ _ _ _ _ _ _ _ _ (by first | assumption | exact RMdl.wide (by assumption) | exact RMdl.mono (by assumption) (eqh_at 0 rfl p d) | exact (in_at 0 rfl p d).rmdl | exact (in_at 1 rfl p d).rmdl | exact (in_at 2 rfl p d).rmdl | exact (in_at 3 rfl p d).rmdl | exact (in_at 4 rfl p d).rmdl | exact (in_at 5 rfl p d).rmdl | exact (in_at 6 rfl p d).rmdl | exact (in_at 7 rfl p d).rmdl | exact (in_at 8 rfl p d).rmdl | exact (in_at 9 rfl p d).rmdl | exact (in_at 10 rfl p d).rmdl | exact (in_at 11 rfl p d).rmdl | exact (in_at 12 rfl p d).rmdl | exact (in_at 13 rfl p d).rmdl | exact (in_at 14 rfl p d).rmdl | exact (in_at 15 rfl p d).rmdl | exact (in_at 16 rfl p d).rmdl | exact (in_at 17 rfl p d).rmdl | exact (in_at 18 rfl p d).rmdl | exact (in_at 19 rfl p d).rmdl | exact (in_at 20 rfl p d).rmdl | exact (in_at 21 rfl p d).rmdl | exact (in_at 22 rfl p d).rmdl | exact (in_at 23 rfl p d).rmdl | exact (in_at 24 rfl p d).rmdl | exact (in_at 25 rfl p d).rmdl | exact (in_at 26 rfl p d).rmdl | exact (in_at 27 rfl p d).rmdl | exact (in_at 28 rfl p d).rmdl | exact (in_at 29 rfl p d).rmdl) (by first | assumption | exact MInv.mono (by assumption) (by omega)) (by omega)) (fun rr8 => ?_)
          refine WL.opens (α := Value × Value) (φ := fun x => rr8 = .tuple #[.agg #[x.1, x.2, .int .i64 _], .int .i64 _] ∧ SL x.1 _ ∧ SL x.2 _) (ps := fun x => [OMdl (.agg #[x.1, x.2, .int .i64 _]) _]) 0 rfl (fun h q => EdR.open q) (by repeat' first | exact FL.nil | apply FL.cons) ?_
          rintro ⟨sd8, id8⟩ ⟨ed8, ta8, tb8⟩
          subst ed8
          dsimp only [List.cons_append, List.nil_append] at ta8 tb8 ⊢
          simp only [e_new] at ta8 tb8 ⊢
          refine WL.mv rfl rfl (WL.extL rfl rfl rfl (WL.extL rfl rfl rfl ?_))
          refine WL.stAO (T := Ty) (j := 3) rfl rfl rfl rfl (by repeat' first | exact AO.nil | apply AO.cons (by first | rfl | exact SL.one (by assumption))) rfl rfl (by repeat' first | exact FL.nil | apply FL.cons) (by repeat' first | exact FL.nil | apply FL.cons) ?_
          refine WL.as rfl rfl (WL.nil (W.seq (W.region (WL.mv rfl rfl (WL.eql rfl rfl rfl (WL.mv rfl rfl (WL.gY rfl rfl (WL.mv rfl rfl (WL.gY rfl rfl (WL.eql rfl rfl rfl (WL.pickT rfl rfl rfl (WL.mv rfl rfl (WL.gY rfl rfl ?_)))))))))))))
          refine WL.faN (T := Ty) (off' := 0) rfl rfl rfl rfl rfl rfl rfl (WL.gY rfl rfl (WL.ldN (T := Ty) (j := 3) rfl rfl rfl rfl rfl rfl (WL.gY rfl rfl ?_)))
          refine WL.len (T := Ty) rfl rfl (by assumption) rfl ?_
          refine WL.gY rfl rfl (WL.eql rfl rfl rfl (WL.pickT rfl rfl rfl (WL.mv rfl rfl (WL.gY rfl rfl (WL.faN (T := Ty) (off' := 0) rfl rfl rfl rfl rfl rfl rfl (WL.gY rfl rfl (WL.ldN (T := Ty) (j := 3) rfl rfl rfl rfl rfl rfl (WL.gY rfl rfl ?_))))))))
          refine WL.ix (T := Ty) rfl rfl rfl (by assumption) rfl rfl (by omega) (by first | omega | decide +kernel) ?_
          refine WL.gY rfl rfl (WL.faEN (T := Ty) (off' := 4) rfl rfl rfl rfl rfl rfl rfl (WL.gY rfl rfl ?_))
          refine WL.opens (α := List (Ser × Value) × List (Itr × Value)) (φ := fun x => x.1.map Prod.fst = [⟨5, false, true, -9223372036854775808, [(-9223372036854775808, 0)]⟩] ∧ x.2.map Prod.fst = its2) (ps := fun x => [Buf 5 sd8 (x.1.flatMap serC), Buf 2 id8 (x.2.flatMap itrC), Own owSer x.1, Own owItr x.2]) 0 rfl (fun h q => omdl_open q) (by repeat' first | exact FL.nil | apply FL.cons) ?_
          rintro ⟨L, K⟩ ⟨e1, e2⟩
          replace e1 : L.map Prod.fst = [⟨5, false, true, -9223372036854775808, [(-9223372036854775808, 0)]⟩] := e1
          obtain ⟨lv8, rfl⟩ : ∃ lv8, L = [(⟨5, false, true, -9223372036854775808, [(-9223372036854775808, 0)]⟩, lv8)] := by
            rcases L with _ | ⟨p, _ | ⟨q, L⟩⟩
            · simp at e1
            · obtain ⟨p1, p2⟩ := p
              simp only [List.map_cons, List.map_nil, List.cons.injEq, and_true] at e1
              exact ⟨p2, by rw [e1]⟩
            · simp at e1
          have c4 : ([((⟨5, false, true, -9223372036854775808, [(-9223372036854775808, 0)]⟩ : Ser), lv8)].flatMap serC)[Int.toNat 0 * 5 + 4]? = some lv8 := rfl
          have c1 : ([((⟨5, false, true, -9223372036854775808, [(-9223372036854775808, 0)]⟩ : Ser), lv8)].flatMap serC)[Int.toNat 0 * 5 + 1]? = some (.bool false) := rfl
          refine WL.parts (ps := [Buf 2 lv8 [.int .i64 (-9223372036854775808), .int .u64 0], Own owSer []]) 2 rfl (fun h q => own_out (f := owSer) (i := 0) (a := (⟨5, false, true, -9223372036854775808, [(-9223372036854775808, 0)]⟩, lv8)) rfl q) (by repeat' first | exact FL.nil | apply FL.cons) ?_
          refine WL.fact (i := 0) rfl (fun h hb => Buf.sl (n := 1) hb rfl (by omega)) (fun s4 => ?_)
          refine WL.ldE (T := Ty) (j := 2) rfl rfl rfl rfl rfl (by assumption) ?_
          refine WL.gY rfl rfl ?_
          refine WL.len (T := Ty) rfl rfl (by assumption) rfl ?_
          refine WL.gY rfl rfl (WL.eql rfl rfl rfl (WL.pickT rfl rfl rfl (WL.mv rfl rfl (WL.gY rfl rfl (WL.faN (T := Ty) (off' := 0) rfl rfl rfl rfl rfl rfl rfl (WL.gY rfl rfl (WL.ldN (T := Ty) (j := 7) rfl rfl rfl rfl rfl rfl (WL.gY rfl rfl ?_))))))))
          refine WL.ix (T := Ty) rfl rfl rfl (by assumption) rfl rfl (by omega) (by first | omega | decide +kernel) ?_
          refine WL.gY rfl rfl (WL.faEN (T := Ty) (off' := 1) rfl rfl rfl rfl rfl rfl rfl (WL.gY rfl rfl ?_))
          refine WL.ldE (T := Ty) (j := 2) rfl rfl rfl rfl rfl (by assumption) ?_
          refine WL.gY rfl rfl (WL.not rfl rfl (WL.pickT rfl rfl rfl (WL.mv rfl rfl (WL.gY rfl rfl ?_))))
          refine WL.callV rfl rfl (fun x p d => awake14_c _) ?_
          refine WL.pickT rfl rfl rfl (WL.as rfl rfl (WL.nil ?_))
          exact W.fit (Hs' := []) (by (repeat' first | exact Sel.nil | refine Sel.cons 0 rfl ?_ | refine Sel.cons 1 rfl ?_ | refine Sel.cons 2 rfl ?_ | refine Sel.cons 3 rfl ?_ | refine Sel.cons 4 rfl ?_ | refine Sel.cons 5 rfl ?_ | refine Sel.cons 6 rfl ?_ | refine Sel.cons 7 rfl ?_ | refine Sel.cons 8 rfl ?_ | refine Sel.cons 9 rfl ?_ | refine Sel.cons 10 rfl ?_ | refine Sel.cons 11 rfl ?_ | refine Sel.cons 12 rfl ?_ | refine Sel.cons 13 rfl ?_ | refine Sel.cons 14 rfl ?_ | refine Sel.cons 15 rfl ?_ | refine Sel.cons 16 rfl ?_ | refine Sel.cons 17 rfl ?_)) (W.ret1 rfl rfl (fun h q => rfl))
        · refine WL.gdTn rfl rfl rfl rfl rfl (by omega) ?_
          refine WL.gdTn rfl rfl rfl rfl rfl (by omega) (WL.pickFp rfl rfl (by omega) rfl (WL.mv rfl rfl (WL.gdN rfl rfl rfl rfl rfl rfl (WL.gdN rfl rfl rfl rfl rfl rfl (WL.gdN rfl rfl rfl rfl rfl rfl (WL.gdN rfl rfl rfl rfl rfl rfl (WL.gdN rfl rfl rfl rfl rfl rfl (WL.pickF rfl rfl rfl (WL.mv rfl rfl (WL.gY rfl rfl (WL.mv rfl rfl (WL.gY rfl rfl (WL.geq rfl rfl rfl ?_)))))))))))))
          refine WL.gY rfl rfl (WL.mv rfl rfl (WL.gT rfl rfl (by omega) (WL.mv rfl rfl (WL.gT rfl rfl (by omega) (WL.eql rfl rfl rfl (WL.gY rfl rfl (WL.pickTp rfl rfl (by omega) rfl (WL.gY rfl rfl (WL.mv rfl rfl (WL.gY rfl rfl (WL.faN (T := Ty) (off' := 1) rfl rfl rfl rfl rfl rfl rfl (WL.gY rfl rfl (WL.ldN (T := Ty) (j := 0) rfl rfl rfl rfl rfl rfl ?_)))))))))))))
          refine WL.gY rfl rfl (WL.neq rfl rfl rfl (WL.gY rfl rfl (WL.pickT rfl rfl rfl (WL.pickF rfl rfl rfl (WL.nil (W.condF rfl (W.skip (W.seq (W.region (WL.mv rfl rfl ?_))))))))))
          refine WL.ldAF (T := Ty) (j := 1) rfl rfl rfl rfl rfl rfl (by repeat' first | exact FL.nil | apply FL.cons) ?_
          refine WL.bdC (T := Ty) rfl rfl rfl rfl (by repeat' first | exact CO.nil | apply CO.one (by first | rfl | exact SL.one (by assumption)) | apply CO.agg) rfl (by repeat' first | exact FL.nil | apply FL.cons) ?_
          refine WL.callCF (cs := []) rfl rfl rfl (fun x p d => edge_c _ _ _ 22 ⟨[eS1 a0], its2, ((8 : Nat) : Int) + 1⟩ _ _ _ _ _ _ _ _ _ (by first | assumption | exact RMdl.wide (by assumption) | exact RMdl.mono (by assumption) (eqh_at 0 rfl p d) | exact (in_at 0 rfl p d).rmdl | exact (in_at 1 rfl p d).rmdl | exact (in_at 2 rfl p d).rmdl | exact (in_at 3 rfl p d).rmdl | exact (in_at 4 rfl p d).rmdl | exact (in_at 5 rfl p d).rmdl | exact (in_at 6 rfl p d).rmdl | exact (in_at 7 rfl p d).rmdl | exact (in_at 8 rfl p d).rmdl | exact (in_at 9 rfl p d).rmdl | exact (in_at 10 rfl p d).rmdl | exact (in_at 11 rfl p d).rmdl | exact (in_at 12 rfl p d).rmdl | exact (in_at 13 rfl p d).rmdl | exact (in_at 14 rfl p d).rmdl | exact (in_at 15 rfl p d).rmdl | exact (in_at 16 rfl p d).rmdl | exact (in_at 17 rfl p d).rmdl | exact (in_at 18 rfl p d).rmdl | exact (in_at 19 rfl p d).rmdl | exact (in_at 20 rfl p d).rmdl | exact (in_at 21 rfl p d).rmdl | exact (in_at 22 rfl p d).rmdl | exact (in_at 23 rfl p d).rmdl | exact (in_at 24 rfl p d).rmdl | exact (in_at 25 rfl p d).rmdl | exact (in_at 26 rfl p d).rmdl | exact (in_at 27 rfl p d).rmdl | exact (in_at 28 rfl p d).rmdl | exact (in_at 29 rfl p d).rmdl) (by first | assumption | exact MInv.mono (by assumption) (by omega)) (by omega)) (fun rr7 => ?_)
          refine WL.opens (α := Value × Value) (φ := fun x => rr7 = .tuple #[.agg #[x.1, x.2, .int .i64 _], .int .i64 _] ∧ SL x.1 _ ∧ SL x.2 _) (ps := fun x => [OMdl (.agg #[x.1, x.2, .int .i64 _]) _]) 0 rfl (fun h q => EdR.open q) (by repeat' first | exact FL.nil | apply FL.cons) ?_
          rintro ⟨sd7, id7⟩ ⟨ed7, ta7, tb7⟩
          subst ed7
          dsimp only [List.cons_append, List.nil_append] at ta7 tb7 ⊢
          have hI8 := doM_inv hI7 ⟨4, 5, 0, 0, 0, 0, 0, 0⟩
          rw [e_del] at hI8
          simp only [e_del] at ta7 tb7 ⊢
          refine WL.mv rfl rfl (WL.extL rfl rfl rfl (WL.extL rfl rfl rfl ?_))
          refine WL.stAO (T := Ty) (j := 2) rfl rfl rfl rfl (by repeat' first | exact AO.nil | apply AO.cons (by first | rfl | exact SL.one (by assumption))) rfl rfl (by repeat' first | exact FL.nil | apply FL.cons) (by repeat' first | exact FL.nil | apply FL.cons) ?_
          refine WL.as rfl rfl (WL.nil (W.seq (W.region (WL.mv rfl rfl ?_))))
          refine WL.ldAF (T := Ty) (j := 2) rfl rfl rfl rfl rfl rfl (by repeat' first | exact FL.nil | apply FL.cons) ?_
          refine WL.bdC (T := Ty) rfl rfl rfl rfl (by repeat' first | exact CO.nil | apply CO.one (by first | rfl | exact SL.one (by assumption)) | apply CO.agg) rfl (by repeat' first | exact FL.nil | apply FL.cons) ?_
          refine WL.callCF (cs := []) rfl rfl rfl (fun x p d => edge_c _ _ _ 23 ⟨[], its2, ((8 : Nat) : Int) + 1⟩ _ _ _ _ _ _ _ _ _ (by first | assumption | exact RMdl.wide (by assumption) | exact RMdl.mono (by assumption) (eqh_at 0 rfl p d) | exact (in_at 0 rfl p d).rmdl | exact (in_at 1 rfl p d).rmdl | exact (in_at 2 rfl p d).rmdl | exact (in_at 3 rfl p d).rmdl | exact (in_at 4 rfl p d).rmdl | exact (in_at 5 rfl p d).rmdl | exact (in_at 6 rfl p d).rmdl | exact (in_at 7 rfl p d).rmdl | exact (in_at 8 rfl p d).rmdl | exact (in_at 9 rfl p d).rmdl | exact (in_at 10 rfl p d).rmdl | exact (in_at 11 rfl p d).rmdl | exact (in_at 12 rfl p d).rmdl | exact (in_at 13 rfl p d).rmdl | exact (in_at 14 rfl p d).rmdl | exact (in_at 15 rfl p d).rmdl | exact (in_at 16 rfl p d).rmdl | exact (in_at 17 rfl p d).rmdl | exact (in_at 18 rfl p d).rmdl | exact (in_at 19 rfl p d).rmdl | exact (in_at 20 rfl p d).rmdl | exact (in_at 21 rfl p d).rmdl | exact (in_at 22 rfl p d).rmdl | exact (in_at 23 rfl p d).rmdl | exact (in_at 24 rfl p d).rmdl | exact (in_at 25 rfl p d).rmdl | exact (in_at 26 rfl p d).rmdl | exact (in_at 27 rfl p d).rmdl | exact (in_at 28 rfl p d).rmdl | exact (in_at 29 rfl p d).rmdl) (by first | assumption | exact MInv.mono (by assumption) (by omega)) (by omega)) (fun rr8 => ?_)
          refine WL.opens (α := Value × Value) (φ := fun x => rr8 = .tuple #[.agg #[x.1, x.2, .int .i64 _], .int .i64 _] ∧ SL x.1 _ ∧ SL x.2 _) (ps := fun x => [OMdl (.agg #[x.1, x.2, .int .i64 _]) _]) 0 rfl (fun h q => EdR.open q) (by repeat' first | exact FL.nil | apply FL.cons) ?_
          rintro ⟨sd8, id8⟩ ⟨ed8, ta8, tb8⟩
          subst ed8
          dsimp only [List.cons_append, List.nil_append] at ta8 tb8 ⊢
          simp only [e_new] at ta8 tb8 ⊢
          refine WL.mv rfl rfl (WL.extL rfl rfl rfl (WL.extL rfl rfl rfl ?_))
          refine WL.stAO (T := Ty) (j := 3) rfl rfl rfl rfl (by repeat' first | exact AO.nil | apply AO.cons (by first | rfl | exact SL.one (by assumption))) rfl rfl (by repeat' first | exact FL.nil | apply FL.cons) (by repeat' first | exact FL.nil | apply FL.cons) ?_
          refine WL.as rfl rfl (WL.nil (W.seq (W.region (WL.mv rfl rfl (WL.eql rfl rfl rfl (WL.mv rfl rfl (WL.gY rfl rfl (WL.mv rfl rfl (WL.gY rfl rfl (WL.eql rfl rfl rfl (WL.pickT rfl rfl rfl (WL.mv rfl rfl (WL.gY rfl rfl ?_)))))))))))))
          refine WL.faN (T := Ty) (off' := 0) rfl rfl rfl rfl rfl rfl rfl (WL.gY rfl rfl (WL.ldN (T := Ty) (j := 3) rfl rfl rfl rfl rfl rfl (WL.gY rfl rfl ?_)))
          refine WL.len (T := Ty) rfl rfl (by assumption) rfl ?_
          refine WL.gY rfl rfl (WL.eql rfl rfl rfl (WL.pickT rfl rfl rfl (WL.mv rfl rfl (WL.gY rfl rfl (WL.faN (T := Ty) (off' := 0) rfl rfl rfl rfl rfl rfl rfl (WL.gY rfl rfl (WL.ldN (T := Ty) (j := 3) rfl rfl rfl rfl rfl rfl (WL.gY rfl rfl ?_))))))))
          refine WL.ix (T := Ty) rfl rfl rfl (by assumption) rfl rfl (by omega) (by first | omega | decide +kernel) ?_
          refine WL.gY rfl rfl (WL.faEN (T := Ty) (off' := 4) rfl rfl rfl rfl rfl rfl rfl (WL.gY rfl rfl ?_))
          refine WL.opens (α := List (Ser × Value) × List (Itr × Value)) (φ := fun x => x.1.map Prod.fst = [⟨5, false, true, -9223372036854775808, [(-9223372036854775808, 0)]⟩] ∧ x.2.map Prod.fst = its2) (ps := fun x => [Buf 5 sd8 (x.1.flatMap serC), Buf 2 id8 (x.2.flatMap itrC), Own owSer x.1, Own owItr x.2]) 0 rfl (fun h q => omdl_open q) (by repeat' first | exact FL.nil | apply FL.cons) ?_
          rintro ⟨L, K⟩ ⟨e1, e2⟩
          replace e1 : L.map Prod.fst = [⟨5, false, true, -9223372036854775808, [(-9223372036854775808, 0)]⟩] := e1
          obtain ⟨lv8, rfl⟩ : ∃ lv8, L = [(⟨5, false, true, -9223372036854775808, [(-9223372036854775808, 0)]⟩, lv8)] := by
            rcases L with _ | ⟨p, _ | ⟨q, L⟩⟩
            · simp at e1
            · obtain ⟨p1, p2⟩ := p
              simp only [List.map_cons, List.map_nil, List.cons.injEq, and_true] at e1
              exact ⟨p2, by rw [e1]⟩
            · simp at e1
          have c4 : ([((⟨5, false, true, -9223372036854775808, [(-9223372036854775808, 0)]⟩ : Ser), lv8)].flatMap serC)[Int.toNat 0 * 5 + 4]? = some lv8 := rfl
          have c1 : ([((⟨5, false, true, -9223372036854775808, [(-9223372036854775808, 0)]⟩ : Ser), lv8)].flatMap serC)[Int.toNat 0 * 5 + 1]? = some (.bool false) := rfl
          refine WL.parts (ps := [Buf 2 lv8 [.int .i64 (-9223372036854775808), .int .u64 0], Own owSer []]) 2 rfl (fun h q => own_out (f := owSer) (i := 0) (a := (⟨5, false, true, -9223372036854775808, [(-9223372036854775808, 0)]⟩, lv8)) rfl q) (by repeat' first | exact FL.nil | apply FL.cons) ?_
          refine WL.fact (i := 0) rfl (fun h hb => Buf.sl (n := 1) hb rfl (by omega)) (fun s4 => ?_)
          refine WL.ldE (T := Ty) (j := 2) rfl rfl rfl rfl rfl (by assumption) ?_
          refine WL.gY rfl rfl ?_
          refine WL.len (T := Ty) rfl rfl (by assumption) rfl ?_
          refine WL.gY rfl rfl (WL.eql rfl rfl rfl (WL.pickT rfl rfl rfl (WL.mv rfl rfl (WL.gY rfl rfl (WL.faN (T := Ty) (off' := 0) rfl rfl rfl rfl rfl rfl rfl (WL.gY rfl rfl (WL.ldN (T := Ty) (j := 7) rfl rfl rfl rfl rfl rfl (WL.gY rfl rfl ?_))))))))
          refine WL.ix (T := Ty) rfl rfl rfl (by assumption) rfl rfl (by omega) (by first | omega | decide +kernel) ?_
          refine WL.gY rfl rfl (WL.faEN (T := Ty) (off' := 1) rfl rfl rfl rfl rfl rfl rfl (WL.gY rfl rfl ?_))
          refine WL.ldE (T := Ty) (j := 2) rfl rfl rfl rfl rfl (by assumption) ?_
          refine WL.gY rfl rfl (WL.not rfl rfl (WL.pickT rfl rfl rfl (WL.mv rfl rfl (WL.gY rfl rfl ?_))))
          refine WL.callV rfl rfl (fun x p d => awake14_c _) ?_
          refine WL.pickT rfl rfl rfl (WL.as rfl rfl (WL.nil ?_))
          exact W.fit (Hs' := []) (by (repeat' first | exact Sel.nil | refine Sel.cons 0 rfl ?_ | refine Sel.cons 1 rfl ?_ | refine Sel.cons 2 rfl ?_ | refine Sel.cons 3 rfl ?_ | refine Sel.cons 4 rfl ?_ | refine Sel.cons 5 rfl ?_ | refine Sel.cons 6 rfl ?_ | refine Sel.cons 7 rfl ?_ | refine Sel.cons 8 rfl ?_ | refine Sel.cons 9 rfl ?_ | refine Sel.cons 10 rfl ?_ | refine Sel.cons 11 rfl ?_ | refine Sel.cons 12 rfl ?_ | refine Sel.cons 13 rfl ?_ | refine Sel.cons 14 rfl ?_ | refine Sel.cons 15 rfl ?_ | refine Sel.cons 16 rfl ?_ | refine Sel.cons 17 rfl ?_)) (W.ret1 rfl rfl (fun h q => rfl))
    · refine W.region ?_
      refine WL.mv rfl rfl ?_
      refine WL.ldAF (T := Ty) (j := 0) rfl rfl rfl rfl rfl rfl (by repeat' first | exact FL.nil | apply FL.cons) ?_
      refine WL.mv rfl rfl (WL.andI rfl rfl rfl (by decide) (WL.addK rfl rfl rfl (wrap_i64 ⟨by omega, by omega⟩) ?_))
      refine WL.bdC (T := Ty) rfl rfl rfl rfl (by repeat' first | exact CO.nil | apply CO.one (by first | rfl | exact SL.one (by assumption)) | apply CO.agg) rfl (by repeat' first | exact FL.nil | apply FL.cons) ?_
      rw [hc]
      refine WL.callCF (cs := []) rfl rfl rfl (fun x p d => edge_c _ _ _ 20 (eM a0 (min N 8)) _ _ _ _ _ _ _ _ _ (by first | assumption | exact RMdl.wide (by assumption) | exact RMdl.mono (by assumption) (eqh_at 0 rfl p d) | exact (in_at 0 rfl p d).rmdl | exact (in_at 1 rfl p d).rmdl | exact (in_at 2 rfl p d).rmdl | exact (in_at 3 rfl p d).rmdl | exact (in_at 4 rfl p d).rmdl | exact (in_at 5 rfl p d).rmdl | exact (in_at 6 rfl p d).rmdl | exact (in_at 7 rfl p d).rmdl | exact (in_at 8 rfl p d).rmdl | exact (in_at 9 rfl p d).rmdl | exact (in_at 10 rfl p d).rmdl | exact (in_at 11 rfl p d).rmdl | exact (in_at 12 rfl p d).rmdl | exact (in_at 13 rfl p d).rmdl | exact (in_at 14 rfl p d).rmdl | exact (in_at 15 rfl p d).rmdl | exact (in_at 16 rfl p d).rmdl | exact (in_at 17 rfl p d).rmdl | exact (in_at 18 rfl p d).rmdl | exact (in_at 19 rfl p d).rmdl | exact (in_at 20 rfl p d).rmdl | exact (in_at 21 rfl p d).rmdl | exact (in_at 22 rfl p d).rmdl | exact (in_at 23 rfl p d).rmdl | exact (in_at 24 rfl p d).rmdl | exact (in_at 25 rfl p d).rmdl | exact (in_at 26 rfl p d).rmdl | exact (in_at 27 rfl p d).rmdl | exact (in_at 28 rfl p d).rmdl | exact (in_at 29 rfl p d).rmdl) (by first | assumption | exact MInv.mono (by assumption) (by omega)) (by omega)) (fun rr6 => ?_)
      refine WL.opens (α := Value × Value) (φ := fun x => rr6 = .tuple #[.agg #[x.1, x.2, .int .i64 _], .int .i64 _] ∧ SL x.1 _ ∧ SL x.2 _) (ps := fun x => [OMdl (.agg #[x.1, x.2, .int .i64 _]) _]) 0 rfl (fun h q => EdR.open q) (by repeat' first | exact FL.nil | apply FL.cons) ?_
      rintro ⟨sd6, id6⟩ ⟨ed6, ta6, tb6⟩
      subst ed6
      dsimp only [List.cons_append, List.nil_append] at ta6 tb6 ⊢
      by_cases hcl : c ≤ ((min N 8 : Nat) : Int)
      · obtain ⟨its, hl, he⟩ := e_close a0 c (min N 8) hc1.1 hcl
        have hI6 := doM_inv hI ⟨7, 0, c, 0, 0, 0, 0, 0⟩
        rw [he] at hI6
        simp only [he] at ta6 tb6 ⊢
        refine WL.mv rfl rfl (WL.extL rfl rfl rfl (WL.extL rfl rfl rfl ?_))
        refine WL.stAO (T := Ty) (j := 1) rfl rfl rfl rfl (by repeat' first | exact AO.nil | apply AO.cons (by first | rfl | exact SL.one (by assumption))) rfl rfl (by repeat' first | exact FL.nil | apply FL.cons) (by repeat' first | exact FL.nil | apply FL.cons) ?_
        refine WL.as rfl rfl (WL.nil ?_)
        refine W.fit (Hs' := [OMdl (.agg #[sd6, id6, _]) _, box b0 _ _]) (by (repeat' first | exact Sel.nil | refine Sel.cons 0 rfl ?_ | refine Sel.cons 1 rfl ?_ | refine Sel.cons 2 rfl ?_ | refine Sel.cons 3 rfl ?_ | refine Sel.cons 4 rfl ?_ | refine Sel.cons 5 rfl ?_ | refine Sel.cons 6 rfl ?_ | refine Sel.cons 7 rfl ?_ | refine Sel.cons 8 rfl ?_ | refine Sel.cons 9 rfl ?_ | refine Sel.cons 10 rfl ?_ | refine Sel.cons 11 rfl ?_ | refine Sel.cons 12 rfl ?_ | refine Sel.cons 13 rfl ?_ | refine Sel.cons 14 rfl ?_ | refine Sel.cons 15 rfl ?_ | refine Sel.cons 16 rfl ?_ | refine Sel.cons 17 rfl ?_)) ?_
        refine W.freeze 0 rfl (by repeat' first | exact FL.nil | apply FL.cons) (fun ρ4 le4 hin4 => ?_)
        refine W.sub ?_ (cut1 ⟨its, 0, sd6, id6⟩ ρ4 le4 ⟨hI6, by dsimp only; omega, .inl ⟨rfl, hcl⟩, hin4.rmdl, ta6, tb6⟩)
        exact ⟨rfl, rfl, rfl, rfl, rfl, rfl, trivial⟩
      · have he := e_close0 a0 c (min N 8) hc1.1 hcl
        have hI6 := doM_inv hI ⟨7, 0, c, 0, 0, 0, 0, 0⟩
        rw [he] at hI6
        simp only [he] at ta6 tb6 ⊢
        refine WL.mv rfl rfl (WL.extL rfl rfl rfl (WL.extL rfl rfl rfl ?_))
        refine WL.stAO (T := Ty) (j := 1) rfl rfl rfl rfl (by repeat' first | exact AO.nil | apply AO.cons (by first | rfl | exact SL.one (by assumption))) rfl rfl (by repeat' first | exact FL.nil | apply FL.cons) (by repeat' first | exact FL.nil | apply FL.cons) ?_
        refine WL.as rfl rfl (WL.nil ?_)
        refine W.fit (Hs' := [OMdl (.agg #[sd6, id6, _]) _, box b0 _ _]) (by (repeat' first | exact Sel.nil | refine Sel.cons 0 rfl ?_ | refine Sel.cons 1 rfl ?_ | refine Sel.cons 2 rfl ?_ | refine Sel.cons 3 rfl ?_ | refine Sel.cons 4 rfl ?_ | refine Sel.cons 5 rfl ?_ | refine Sel.cons 6 rfl ?_ | refine Sel.cons 7 rfl ?_ | refine Sel.cons 8 rfl ?_ | refine Sel.cons 9 rfl ?_ | refine Sel.cons 10 rfl ?_ | refine Sel.cons 11 rfl ?_ | refine Sel.cons 12 rfl ?_ | refine Sel.cons 13 rfl ?_ | refine Sel.cons 14 rfl ?_ | refine Sel.cons 15 rfl ?_ | refine Sel.cons 16 rfl ?_ | refine Sel.cons 17 rfl ?_)) ?_
        refine W.freeze 0 rfl (by repeat' first | exact FL.nil | apply FL.cons) (fun ρ4 le4 hin4 => ?_)
        refine W.sub ?_ (cut1 ⟨(eM a0 (min N 8)).its, 3, sd6, id6⟩ ρ4 le4 ⟨hI6, by dsimp only; rw [eM_len]; omega, .inr ⟨rfl, hcl⟩, hin4.rmdl, ta6, tb6⟩)
        exact ⟨rfl, rfl, rfl, rfl, rfl, rfl, trivial⟩
  · refine W.loopR (σ := Nat × Value × Value) (fun s => [(0, .int .i64 a0), (1, .int .i64 (N : Int)), (2, .int .i64 a2), (6, .bool false), (7, .func (.func 18) #[] #[]), (8, pt b0 0), (17, .int .i64 ((s.1 : Int) + 1))])
      (fun s => [box b0 [s.2.1, s.2.2, .int .i64 ((min s.1 8 : Nat) : Int)] 31]) (fun s ρ' => s.1 ≤ N ∧ MInv (2 + s.1) (eM a0 (min s.1 8)) ∧ RMdl ρ' (.agg #[s.2.1, s.2.2, .int .i64 ((min s.1 8 : Nat) : Int)]) (eM a0 (min s.1 8)) ∧ SL s.2.1 1 ∧ SL s.2.2 (min s.1 8)) (fun s => N - s.1)
      (0, sd2, id2) ⟨rfl, rfl, rfl, rfl, rfl, rfl, rfl, trivial⟩ rfl ⟨Nat.zero_le _, hI2, hm2, ta2, tb2⟩ ?_
    rintro ⟨i, sv, iv⟩ ρ3 le3 ⟨hi, hI, hM, t1, t2⟩ next
    dsimp only at hi hI hM t1 t2 next ⊢
    by_cases hc : i < N
    · refine W.seq ?_
      refine W.seq (W.region (WL.mv rfl rfl (WL.mv rfl rfl (WL.leq rfl rfl rfl (WL.nil (W.condpT rfl (by omega) (W.skip (W.seq (W.block (W.seq (W.region (WL.mv rfl rfl ?_))))))))))))
      refine WL.ldAF (T := Ty) (j := 0) rfl rfl rfl rfl rfl rfl (by repeat' first | exact FL.nil | apply FL.cons) ?_
      refine WL.mv rfl rfl (WL.mv rfl rfl ?_)
      refine WL.bdC (T := Ty) rfl rfl rfl rfl (by repeat' first | exact CO.nil | apply CO.one (by first | rfl | exact SL.one (by assumption)) | apply CO.agg) rfl (by repeat' first | exact FL.nil | apply FL.cons) ?_
      refine WL.callCF (cs := []) rfl rfl rfl (fun x p d => edge_c _ _ _ (2 + i) (eM a0 (min i 8)) _ _ _ _ _ _ _ _ _ (by first | assumption | exact RMdl.wide (by assumption) | exact RMdl.mono (by assumption) (eqh_at 0 rfl p d) | exact (in_at 0 rfl p d).rmdl | exact (in_at 1 rfl p d).rmdl | exact (in_at 2 rfl p d).rmdl | exact (in_at 3 rfl p d).rmdl | exact (in_at 4 rfl p d).rmdl | exact (in_at 5 rfl p d).rmdl | exact (in_at 6 rfl p d).rmdl | exact (in_at 7 rfl p d).rmdl | exact (in_at 8 rfl p d).rmdl | exact (in_at 9 rfl p d).rmdl | exact (in_at 10 rfl p d).rmdl | exact (in_at 11 rfl p d).rmdl | exact (in_at 12 rfl p d).rmdl | exact (in_at 13 rfl p d).rmdl | exact (in_at 14 rfl p d).rmdl | exact (in_at 15 rfl p d).rmdl | exact (in_at 16 rfl p d).rmdl | exact (in_at 17 rfl p d).rmdl | exact (in_at 18 rfl p d).rmdl | exact (in_at 19 rfl p d).rmdl | exact (in_at 20 rfl p d).rmdl | exact (in_at 21 rfl p d).rmdl | exact (in_at 22 rfl p d).rmdl | exact (in_at 23 rfl p d).rmdl | exact (in_at 24 rfl p d).rmdl | exact (in_at 25 rfl p d).rmdl | exact (in_at 26 rfl p d).rmdl | exact (in_at 27 rfl p d).rmdl | exact (in_at 28 rfl p d).rmdl | exact (in_at 29 rfl p d).rmdl) (by first | assumption | exact MInv.mono (by assumption) (by omega)) (by omega)) (fun rr5 => ?_)
      refine WL.opens (α := Value × Value) (φ := fun x => rr5 = .tuple #[.agg #[x.1, x.2, .int .i64 _], .int .i64 _] ∧ SL x.1 _ ∧ SL x.2 _) (ps := fun x => [OMdl (.agg #[x.1, x.2, .int .i64 _]) _]) 0 rfl (fun h q => EdR.open q) (by repeat' first | exact FL.nil | apply FL.cons) ?_
      rintro ⟨sd5, id5⟩ ⟨ed5, ta5, tb5⟩
      subst ed5
      dsimp only [List.cons_append, List.nil_append] at ta5 tb5 ⊢
      by_cases h8 : i < 8
      · rw [show min i 8 = i by omega] at ta5 tb5 ⊢
        simp only [e_open a0 i h8] at ta5 tb5 ⊢
        refine WL.mv rfl rfl (WL.extL rfl rfl rfl (WL.extL rfl rfl rfl ?_))
        refine WL.alF (T := Ty) rfl rfl (by repeat' first | exact FL.nil | apply FL.cons) (fun b6 => ?_)
        refine WL.stAO (T := Ty) (j := 0) rfl rfl rfl rfl (by repeat' first | exact AO.nil | apply AO.cons (by first | rfl | exact SL.one (by assumption))) rfl rfl (by repeat' first | exact FL.nil | apply FL.cons) (by repeat' first | exact FL.nil | apply FL.cons) ?_
        refine WL.as rfl rfl (WL.nil (W.seq (W.seq (W.region (WL.mv rfl rfl (WL.eql rfl rfl rfl (WL.mv rfl rfl (WL.leq rfl rfl rfl (WL.neB (T := Ty) rfl rfl rfl rfl (WL.mv rfl rfl ?_))))))))))
        have hg : (!(decide ((0 : Int) = 0) == decide ((i : Int) + 1 ≤ 8))) = false := by simp; omega
        rw [hg]
        rw [eM_len] at tb5
        refine WL.gY rfl rfl (WL.mv rfl rfl (WL.gY rfl rfl (WL.neq rfl rfl rfl (WL.gY rfl rfl (WL.mv rfl rfl (WL.gdN rfl rfl rfl rfl rfl rfl (WL.gdN rfl rfl rfl rfl rfl rfl (WL.gY rfl rfl (WL.pickF rfl rfl rfl (WL.pickF rfl rfl rfl (WL.nil (W.condF rfl (W.skip ?_)))))))))))))
        refine W.region ?_
        refine WL.ldAF (T := Ty) (j := 0) rfl rfl rfl rfl rfl rfl (by repeat' first | exact FL.nil | apply FL.cons) ?_
        refine WL.stAO (T := Ty) (j := 2) rfl rfl rfl rfl (by repeat' first | exact AO.nil | apply AO.cons (by first | rfl | exact SL.one (by assumption))) rfl rfl (by repeat' first | exact FL.nil | apply FL.cons) (by repeat' first | exact FL.nil | apply FL.cons) ?_
        refine WL.nil (W.inBlock (W.region (WL.mv rfl rfl (WL.addK rfl rfl rfl (wrap_i64 ⟨by omega, by omega⟩) (WL.as rfl rfl (WL.nil ?_))))))
        refine W.fit (Hs' := [OMdl (.agg #[sd5, id5, _]) _, box b0 _ _]) (by (repeat' first | exact Sel.nil | refine Sel.cons 0 rfl ?_ | refine Sel.cons 1 rfl ?_ | refine Sel.cons 2 rfl ?_ | refine Sel.cons 3 rfl ?_ | refine Sel.cons 4 rfl ?_ | refine Sel.cons 5 rfl ?_ | refine Sel.cons 6 rfl ?_ | refine Sel.cons 7 rfl ?_ | refine Sel.cons 8 rfl ?_ | refine Sel.cons 9 rfl ?_ | refine Sel.cons 10 rfl ?_ | refine Sel.cons 11 rfl ?_ | refine Sel.cons 12 rfl ?_ | refine Sel.cons 13 rfl ?_ | refine Sel.cons 14 rfl ?_ | refine Sel.cons 15 rfl ?_ | refine Sel.cons 16 rfl ?_ | refine Sel.cons 17 rfl ?_)) ?_
        refine W.freeze 0 rfl (by repeat' first | exact FL.nil | apply FL.cons) (fun ρ4 le4 hin4 => ?_)
        have hI5 := doM_inv hI ⟨5, 5, 0, 0, 0, a0, a0, 0⟩
        rw [show min i 8 = i by omega, e_open a0 i h8] at hI5
        have nx := next ⟨i + 1, sd5, id5⟩ ρ4 le4
        dsimp only at nx
        rw [show min (i + 1) 8 = i + 1 by omega] at nx
        refine W.sub ?_ (nx ⟨hc, hI5, hin4.rmdl, ta5, tb5⟩ (by omega))
        exact ⟨rfl, rfl, rfl, rfl, rfl, rfl, rfl, trivial⟩
      · rw [show min i 8 = 8 by omega] at ta5 tb5 ⊢
        simp only [e_open8 a0] at ta5 tb5 ⊢
        refine WL.mv rfl rfl (WL.extL rfl rfl rfl (WL.extL rfl rfl rfl ?_))
        refine WL.alF (T := Ty) rfl rfl (by repeat' first | exact FL.nil | apply FL.cons) (fun b6 => ?_)
        refine WL.stAO (T := Ty) (j := 0) rfl rfl rfl rfl (by repeat' first | exact AO.nil | apply AO.cons (by first | rfl | exact SL.one (by assumption))) rfl rfl (by repeat' first | exact FL.nil | apply FL.cons) (by repeat' first | exact FL.nil | apply FL.cons) ?_
        refine WL.as rfl rfl (WL.nil (W.seq (W.seq (W.region (WL.mv rfl rfl (WL.eql rfl rfl rfl (WL.mv rfl rfl (WL.leq rfl rfl rfl (WL.neB (T := Ty) rfl rfl rfl rfl (WL.mv rfl rfl ?_))))))))))
        have hg : (!(decide ((5 : Int) = 0) == decide ((i : Int) + 1 ≤ 8))) = false := by simp; omega
        simp only [hg]
        rw [eM_len] at tb5
        refine WL.gY rfl rfl (WL.mv rfl rfl (WL.gY rfl rfl (WL.neq rfl rfl rfl (WL.gY rfl rfl (WL.mv rfl rfl (WL.gY rfl rfl (WL.mv rfl rfl (WL.gY rfl rfl (WL.neq rfl rfl rfl (WL.gY rfl rfl (WL.pickT rfl rfl rfl (WL.pickF rfl rfl rfl (WL.nil ?_)))))))))))))
        refine W.condF rfl (W.skip (W.region ?_))
        refine WL.ldAF (T := Ty) (j := 0) rfl rfl rfl rfl rfl rfl (by repeat' first | exact FL.nil | apply FL.cons) ?_
        refine WL.stAO (T := Ty) (j := 2) rfl rfl rfl rfl (by repeat' first | exact AO.nil | apply AO.cons (by first | rfl | exact SL.one (by assumption))) rfl rfl (by repeat' first | exact FL.nil | apply FL.cons) (by repeat' first | exact FL.nil | apply FL.cons) ?_
        refine WL.nil (W.inBlock (W.region (WL.mv rfl rfl (WL.addK rfl rfl rfl (wrap_i64 ⟨by omega, by omega⟩) (WL.as rfl rfl (WL.nil ?_))))))
        refine W.fit (Hs' := [OMdl (.agg #[sd5, id5, _]) _, box b0 _ _]) (by (repeat' first | exact Sel.nil | refine Sel.cons 0 rfl ?_ | refine Sel.cons 1 rfl ?_ | refine Sel.cons 2 rfl ?_ | refine Sel.cons 3 rfl ?_ | refine Sel.cons 4 rfl ?_ | refine Sel.cons 5 rfl ?_ | refine Sel.cons 6 rfl ?_ | refine Sel.cons 7 rfl ?_ | refine Sel.cons 8 rfl ?_ | refine Sel.cons 9 rfl ?_ | refine Sel.cons 10 rfl ?_ | refine Sel.cons 11 rfl ?_ | refine Sel.cons 12 rfl ?_ | refine Sel.cons 13 rfl ?_ | refine Sel.cons 14 rfl ?_ | refine Sel.cons 15 rfl ?_ | refine Sel.cons 16 rfl ?_ | refine Sel.cons 17 rfl ?_)) ?_
        refine W.freeze 0 rfl (by repeat' first | exact FL.nil | apply FL.cons) (fun ρ4 le4 hin4 => ?_)
        rw [show min i 8 = 8 by omega] at hI
        have nx := next ⟨i + 1, sd5, id5⟩ ρ4 le4
        dsimp only at nx
        rw [show min (i + 1) 8 = 8 by omega] at nx
        refine W.sub ?_ (nx ⟨hc, hI.mono (by omega), hin4.rmdl, ta5, tb5⟩ (by omega))
        exact ⟨rfl, rfl, rfl, rfl, rfl, rfl, rfl, trivial⟩
    · refine W.seq ?_
      refine W.seq (W.region (WL.mv rfl rfl (WL.mv rfl rfl (WL.leq rfl rfl rfl (WL.nil (W.condpF rfl (by omega) (W.exit rfl ?_)))))))
      have hiN : i = N := by omega
      subst hiN
      refine W.fit (by (repeat' first | exact Sel.nil | refine Sel.cons 0 rfl ?_ | refine Sel.cons 1 rfl ?_ | refine Sel.cons 2 rfl ?_ | refine Sel.cons 3 rfl ?_ | refine Sel.cons 4 rfl ?_ | refine Sel.cons 5 rfl ?_ | refine Sel.cons 6 rfl ?_ | refine Sel.cons 7 rfl ?_ | refine Sel.cons 8 rfl ?_ | refine Sel.cons 9 rfl ?_ | refine Sel.cons 10 rfl ?_ | refine Sel.cons 11 rfl ?_ | refine Sel.cons 12 rfl ?_ | refine Sel.cons 13 rfl ?_ | refine Sel.cons 14 rfl ?_ | refine Sel.cons 15 rfl ?_ | refine Sel.cons 16 rfl ?_ | refine Sel.cons 17 rfl ?_)) (W.sub ?_ (cut0 ⟨sv, iv⟩ ρ3 le3 ⟨hI.mono (by omega), hM, t1, t2⟩))
      exact ⟨rfl, rfl, rfl, rfl, rfl, trivial⟩
end Go.Proofs.Ytbebhmdjnneimaa
