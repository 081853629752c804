/- What the document fixes of clocks. -/
import Derived.Test.YtbebhmdjnneimaaStc
import Derived.Test.YtbebhmdjnneimaaNum
import Derived.Test.YtbebhmdjnneimaaTab
import Derived.Test.YtbebhmdjnneimaaClk11
set_option linter.unusedSimpArgs false
set_option linter.unusedVariables false
set_option maxRecDepth 20000
set_option maxHeartbeats 4000000
namespace Go.Proofs.Ytbebhmdjnneimaa
open Go
def q0 : Clk := newP 1
def q1 : Clk := ⟨1, 1, [⟨⟨1, 0, 1⟩, 2, false, true, 0⟩], 0, 0, 0⟩
def q2 : Clk := ⟨1, 1, [⟨⟨1, 0, 2⟩, 2, false, true, 0⟩, ⟨⟨1, 0, 1⟩, 3, false, true, 0⟩], 1, 1, 1⟩
def q3 : Clk := ⟨1, 1, [⟨⟨1, 0, 1⟩, 2, false, false, 0⟩], 0, 0, 0⟩
def q4 : Clk := ⟨1, 1, [⟨⟨1, 0, 1⟩, 2, false, false, 1⟩], 0, 0, 0⟩
theorem aw15_1 : admitP 20 q0 ⟨1, 0, 1⟩ = some (q1, [], true) := by rfl
theorem aw15_2 : admitP 20 q1 ⟨1, 0, 2⟩ = some (q2, [⟨1, 0, 1⟩], true) := by rfl
theorem aw15_3 : admitP 20 q2 ⟨1, 0, 1⟩ = some (q3, [⟨1, 0, 2⟩], true) := by rfl
theorem aw15_4 : pinP q3 ⟨1, 0, 1⟩ 1 = (q4, true) := by rfl
theorem aw15_5 : admitP 20 q4 ⟨1, 0, 2⟩ = some (q4, [], false) := by rfl
theorem aw15_6 : fndK q3.pages ⟨1, 0, 2⟩ = -1 := by rfl
theorem aw15_7 : sameC q2 q2 = true := by rfl
theorem aw15_8 : sameC q2 q3 = false := by rfl
theorem q1B : ClkB q1 := ⟨by decide, by decide, by decide, by decide, by decide, by decide, by decide, by decide⟩
theorem q2B : ClkB q2 := ⟨by decide, by decide, by decide, by decide, by decide, by decide, by decide, by decide⟩
theorem q3B : ClkB q3 := ⟨by decide, by decide, by decide, by decide, by decide, by decide, by decide, by decide⟩
theorem q4B : ClkB q4 := ⟨by decide, by decide, by decide, by decide, by decide, by decide, by decide, by decide⟩
theorem newB (m : Int) : ClkB (newP m) := ⟨by show 1 ≤ min (max m 1) 1000; omega, by show min (max m 1) 1000 ≤ 1000; omega, by show (-1000 : Int) ≤ 1; decide, by show (1 : Int) ≤ 1000; decide, Nat.zero_le _, Nat.zero_le _, Nat.zero_le _, Nat.zero_le _⟩
theorem newR (m : Int) : ClkR (newP m) := ⟨.inl rfl, .inl rfl, .inl rfl⟩
theorem q1R : ClkR q1 := ⟨.inl rfl, .inl rfl, .inl rfl⟩
theorem q2R : ClkR q2 := ⟨.inr (by decide), .inr (by decide), .inr (by decide)⟩
theorem q3R : ClkR q3 := ⟨.inl rfl, .inl rfl, .inl rfl⟩
theorem q4R : ClkR q4 := ⟨.inl rfl, .inl rfl, .inl rfl⟩
theorem rosNew (ρ : Hp) (m : Int) : ROs ρ 7 nilV ((newP m).pages.flatMap pgC) := .inl ⟨rfl, rfl⟩
attribute [local irreducible] W WL Fn Buf ROs SL eptr box Rd Src bndOK WD RB Reads In Own admitP pinP touchP dropP fndK sameC q1 q2 q3 q4
theorem admitK_c (ρ : Hp) (c : Clk) (v : Value) (a b e : Int) (n : Nat) (d : Clk × List Ky × Bool) (hB : ClkB c) (hR : ClkR c) (hl : c.pages.length ≤ 10000) (hn : n ≤ 1000000) (r0 : ROs ρ 7 v (c.pages.flatMap pgC)) (hd : admitP n c ⟨a, b, e⟩ = some d) :
  Fn Try.prog 32 #[.agg #[.int .i64 c.most, .int .i64 c.target, v, .int .i64 (c.hot : Int), .int .i64 (c.cold : Int), .int .i64 (c.test : Int)], .agg #[.int .i64 a, .int .i64 b, .int .i64 e]] ρ [] (OAd d) :=
 admit_c ρ c v ⟨a, b, e⟩ n d hB hR hl hn r0 hd
theorem pinK_c (ρ : Hp) (c : Clk) (v : Value) (a b e : Int) (m : Int) (d : Clk × Bool) (hB : ClkB c) (r0 : ROs ρ 7 v (c.pages.flatMap pgC)) (hd : pinP c ⟨a, b, e⟩ m = d) :
  Fn Try.prog 31 #[.agg #[.int .i64 c.most, .int .i64 c.target, v, .int .i64 (c.hot : Int), .int .i64 (c.cold : Int), .int .i64 (c.test : Int)], .agg #[.int .i64 a, .int .i64 b, .int .i64 e], .int .i64 m] ρ [] (OCB d) := by
 subst hd
 exact pin_c ρ c v ⟨a, b, e⟩ m hB r0
theorem awake15_c (ρ : Hp) : Fn Try.prog 34 #[] ρ [] (Just (.bool true)) := by
 have B0 := newB 1
 have R0 := newR 1
 have B1 := q1B
 have R1 := q1R
 have B2 := q2B
 have R2 := q2R
 have B3 := q3B
 have R3 := q3R
 have B4 := q4B
 have R4 := q4R
 have a1 : admitP 20 (newP 1) ⟨1, 0, 1⟩ = some (q1, [], true) := aw15_1
 have a2 := aw15_2
 have a3 := aw15_3
 have a5 := aw15_5
 have a4 := aw15_4
 have l0 : (newP 1).pages.length ≤ 10000 := Nat.zero_le _
 have l1 : q1.pages.length ≤ 10000 := by unfold q1; decide
 have l2 : q2.pages.length ≤ 10000 := by unfold q2; decide
 have l4 : q4.pages.length ≤ 10000 := by unfold q4; decide
 have n20 : 20 ≤ 1000000 := by decide
 refine in34 rfl rfl ?_
 refine W.seq (W.region (WL.as rfl rfl (WL.nil (W.seq (W.region ?_)))))
 refine WL.bdC (T := Ty) rfl rfl rfl rfl (by repeat' first | exact CO.nil | apply CO.one (by first | rfl | exact SL.one (by assumption)) | apply CO.agg) rfl (by repeat' constructor) ?_
 refine WL.bdC (T := Ty) rfl rfl rfl rfl (by repeat' first | exact CO.nil | apply CO.one (by first | rfl | exact SL.one (by assumption)) | apply CO.agg) rfl (by repeat' constructor) ?_
 refine WL.alF (T := Ty) rfl rfl (by repeat' constructor) (fun b0 => ?_)
 refine WL.alF (T := Ty) rfl rfl (by repeat' constructor) (fun b1 => ?_)
 refine WL.stAO (T := Ty) (j := 1) rfl rfl rfl rfl (by repeat' first | exact AO.nil | apply AO.cons (by first | rfl | exact SL.one (by assumption))) rfl rfl (by repeat' constructor) (by repeat' constructor) ?_
 refine WL.stAO (T := Ty) (j := 0) rfl rfl rfl rfl (by repeat' first | exact AO.nil | apply AO.cons (by first | rfl | exact SL.one (by assumption))) rfl rfl (by repeat' constructor) (by repeat' constructor) ?_
 refine WL.nil (W.seq ?_)
 refine W.cutG (τ := Nat × Value × Value) (fun s => [(1, pt b0 0), (2, pt b1 0), (3, pt s.1 0), (4, s.2.2), (5, .bool true)]) (fun s => [box s.1 [.int .i64 q1.most, .int .i64 q1.target, s.2.1, .int .i64 (q1.hot : Int), .int .i64 (q1.cold : Int), .int .i64 (q1.test : Int)] 73, Buf 7 s.2.1 (q1.pages.flatMap pgC), Buf 3 s.2.2 (([] : List Ky).flatMap kyC), box b0 [.int .i64 1, .int .i64 0, .int .i64 1] 76, box b1 [.int .i64 1, .int .i64 0, .int .i64 2] 76]) (fun s ρ' => SL s.2.1 q1.pages.length ∧ SL s.2.2 ([] : List Ky).length) ?_ (fun cut => ?_)
 ·rintro ⟨bx, v1, kv⟩ ρ1 le1 ⟨sv1, skv⟩
  dsimp only at sv1 skv ⊢
  have hr1 : ((([⟨1, 0, 1⟩] : List Ky).flatMap kyC).drop (Int.toNat 0 * 3)).take 3 = [.int .i64 1, .int .i64 0, .int .i64 1] := rfl
  have hr2 : ((([⟨1, 0, 2⟩] : List Ky).flatMap kyC).drop (Int.toNat 0 * 3)).take 3 = [.int .i64 1, .int .i64 0, .int .i64 2] := rfl
  have e2 : q2.pages.length = 2 := by unfold q2; rfl
  have e3 : q3.pages.length = 1 := by unfold q3; rfl
  have t3 : q3.target = 1 := by unfold q3; rfl
  have f1 := aw15_6
  have f2 : fndK (newP 3).pages ⟨1, 0, 1⟩ = -1 := by unfold fndK; rfl
  have s1 := aw15_7
  have s2 := aw15_8
  have rz := rosNew ρ1 3
  have lz : (newP 3).pages.length = 0 := rfl
  refine W.seq (W.region ?_)
  refine WL.ldAF (T := Ty) (j := 0) rfl rfl rfl rfl rfl rfl (by repeat' constructor) ?_
  refine WL.ldAF (T := Ty) (j := 4) rfl rfl rfl rfl rfl rfl (by repeat' constructor) ?_
  refine WL.callF rfl rfl (fun x p d => admitK_c _ _ _ _ _ _ _ _ (by assumption) (by assumption) (by first | assumption | omega) (by first | assumption | omega | decide) (by first | exact rosNew _ _ | assumption | exact ROs.wide (by assumption) | exact ROs.mono (by assumption) (eqh_at 0 rfl p d) | exact ros_at 0 rfl p d | exact ros_at 1 rfl p d | exact ros_at 2 rfl p d | exact ros_at 3 rfl p d | exact ros_at 4 rfl p d | exact ros_at 5 rfl p d | exact ros_at 6 rfl p d | exact ros_at 7 rfl p d | exact ros_at 8 rfl p d | exact ros_at 9 rfl p d) (by assumption)) (fun r2 => ?_)
  refine WL.opens (α := Value × Value) (φ := fun x => r2 = .tuple #[.agg #[.int .i64 _, .int .i64 _, x.1, .int .i64 _, .int .i64 _, .int .i64 _], x.2, .bool _] ∧ SL x.1 _ ∧ SL x.2 _) (ps := fun x => [Buf 7 x.1 _, Buf 3 x.2 _]) 0 rfl (fun h q => q) (by repeat' constructor) ?_
  rintro ⟨u2, kv2⟩ ⟨es2, su2, sk2⟩
  subst es2
  dsimp only [List.cons_append, List.nil_append] at su2 sk2 ⊢
  refine WL.mv rfl rfl (WL.extL rfl rfl rfl (WL.extL rfl rfl rfl (WL.extL rfl rfl rfl ?_)))
  refine WL.stAO (T := Ty) (j := 2) rfl rfl rfl rfl (by repeat' first | exact AO.nil | apply AO.cons (by first | rfl | exact SL.one (by assumption))) rfl rfl (by repeat' constructor) (by repeat' constructor) ?_
  refine WL.as rfl rfl (WL.as rfl rfl (WL.nil (W.seq (W.region ?_))))
  refine WL.ldAF (T := Ty) (j := 2) rfl rfl rfl rfl rfl rfl (by repeat' constructor) ?_
  refine WL.ldAF (T := Ty) (j := 5) rfl rfl rfl rfl rfl rfl (by repeat' constructor) ?_
  refine WL.callF rfl rfl (fun x p d => admitK_c _ _ _ _ _ _ _ _ (by assumption) (by assumption) (by first | assumption | omega) (by first | assumption | omega | decide) (by first | exact rosNew _ _ | assumption | exact ROs.wide (by assumption) | exact ROs.mono (by assumption) (eqh_at 0 rfl p d) | exact ros_at 0 rfl p d | exact ros_at 1 rfl p d | exact ros_at 2 rfl p d | exact ros_at 3 rfl p d | exact ros_at 4 rfl p d | exact ros_at 5 rfl p d | exact ros_at 6 rfl p d | exact ros_at 7 rfl p d | exact ros_at 8 rfl p d | exact ros_at 9 rfl p d) (by assumption)) (fun r3 => ?_)
  refine WL.opens (α := Value × Value) (φ := fun x => r3 = .tuple #[.agg #[.int .i64 _, .int .i64 _, x.1, .int .i64 _, .int .i64 _, .int .i64 _], x.2, .bool _] ∧ SL x.1 _ ∧ SL x.2 _) (ps := fun x => [Buf 7 x.1 _, Buf 3 x.2 _]) 0 rfl (fun h q => q) (by repeat' constructor) ?_
  rintro ⟨u3, kv3⟩ ⟨es3, su3, sk3⟩
  subst es3
  dsimp only [List.cons_append, List.nil_append] at su3 sk3 ⊢
  refine WL.mv rfl rfl (WL.extL rfl rfl rfl (WL.extL rfl rfl rfl (WL.extL rfl rfl rfl ?_)))
  refine WL.alF (T := Ty) rfl rfl (by repeat' constructor) (fun b4 => ?_)
  refine WL.stAO (T := Ty) (j := 0) rfl rfl rfl rfl (by repeat' first | exact AO.nil | apply AO.cons (by first | rfl | exact SL.one (by assumption))) rfl rfl (by repeat' constructor) (by repeat' constructor) ?_
  refine WL.as rfl rfl (WL.as rfl rfl (WL.nil (W.seq (W.region ?_))))
  refine WL.ldAF (T := Ty) (j := 0) rfl rfl rfl rfl rfl rfl (by repeat' constructor) ?_
  refine WL.ldAF (T := Ty) (j := 8) rfl rfl rfl rfl rfl rfl (by repeat' constructor) ?_
  refine WL.callF rfl rfl (fun x p d => pinK_c _ _ _ _ _ _ _ _ (by assumption) (by first | assumption | exact ROs.wide (by assumption) | exact ROs.mono (by assumption) (eqh_at 0 rfl p d) | exact ros_at 0 rfl p d | exact ros_at 1 rfl p d | exact ros_at 2 rfl p d | exact ros_at 3 rfl p d | exact ros_at 4 rfl p d) (by assumption)) (fun r5 => ?_)
  refine WL.opens (α := Value) (φ := fun v => r5 = .tuple #[.agg #[.int .i64 _, .int .i64 _, v, .int .i64 _, .int .i64 _, .int .i64 _], .bool _] ∧ SL v _) (ps := fun v => [Buf 7 v _]) 0 rfl (fun h q => q) (by repeat' constructor) ?_
  rintro u5 ⟨es5, su5⟩
  subst es5
  dsimp only [List.cons_append, List.nil_append] at su5 ⊢
  refine WL.mv rfl rfl (WL.extL rfl rfl rfl (WL.extL rfl rfl rfl ?_))
  refine WL.alF (T := Ty) rfl rfl (by repeat' constructor) (fun b6 => ?_)
  refine WL.stAO (T := Ty) (j := 0) rfl rfl rfl rfl (by repeat' first | exact AO.nil | apply AO.cons (by first | rfl | exact SL.one (by assumption))) rfl rfl (by repeat' constructor) (by repeat' constructor) ?_
  refine WL.as rfl rfl (WL.nil (W.seq (W.region ?_)))
  refine WL.ldAF (T := Ty) (j := 0) rfl rfl rfl rfl rfl rfl (by repeat' constructor) ?_
  refine WL.ldAF (T := Ty) (j := 11) rfl rfl rfl rfl rfl rfl (by repeat' constructor) ?_
  refine WL.callF rfl rfl (fun x p d => admitK_c _ _ _ _ _ _ _ _ (by assumption) (by assumption) (by first | assumption | omega) (by first | assumption | omega | decide) (by first | exact rosNew _ _ | assumption | exact ROs.wide (by assumption) | exact ROs.mono (by assumption) (eqh_at 0 rfl p d) | exact ros_at 0 rfl p d | exact ros_at 1 rfl p d | exact ros_at 2 rfl p d | exact ros_at 3 rfl p d | exact ros_at 4 rfl p d | exact ros_at 5 rfl p d | exact ros_at 6 rfl p d | exact ros_at 7 rfl p d | exact ros_at 8 rfl p d | exact ros_at 9 rfl p d) (by assumption)) (fun r7 => ?_)
  refine WL.opens (α := Value × Value) (φ := fun x => r7 = .tuple #[.agg #[.int .i64 _, .int .i64 _, x.1, .int .i64 _, .int .i64 _, .int .i64 _], x.2, .bool _] ∧ SL x.1 _ ∧ SL x.2 _) (ps := fun x => [Buf 7 x.1 _, Buf 3 x.2 _]) 0 rfl (fun h q => q) (by repeat' constructor) ?_
  rintro ⟨u7, kv7⟩ ⟨es7, su7, sk7⟩
  subst es7
  dsimp only [List.cons_append, List.nil_append] at su7 sk7 ⊢
  refine WL.mv rfl rfl (WL.extL rfl rfl rfl (WL.extL rfl rfl rfl (WL.extL rfl rfl rfl ?_)))
  refine WL.alF (T := Ty) rfl rfl (by repeat' constructor) (fun b8 => ?_)
  refine WL.stAO (T := Ty) (j := 0) rfl rfl rfl rfl (by repeat' first | exact AO.nil | apply AO.cons (by first | rfl | exact SL.one (by assumption))) rfl rfl (by repeat' constructor) (by repeat' constructor) ?_
  refine WL.as rfl rfl (WL.as rfl rfl (WL.nil (W.seq ?_)))
  refine W.regionL (by repeat' constructor) ?_
  refine W.drawA 83 rfl (fun σ0 hσ0 dσ0 => ?_)
  have fσ0_0 := rb_at 0 rfl hσ0 dσ0
  have fσ0_1 := ros_at 1 rfl hσ0 dσ0
  have fσ0_2 := ros_at 2 rfl hσ0 dσ0
  have fσ0_3 := rb_at 3 rfl hσ0 dσ0
  have fσ0_4 := ros_at 4 rfl hσ0 dσ0
  have fσ0_5 := rb_at 5 rfl hσ0 dσ0
  have fσ0_6 := ros_at 6 rfl hσ0 dσ0
  have fσ0_7 := ros_at 7 rfl hσ0 dσ0
  have fσ0_8 := ros_at 8 rfl hσ0 dσ0
  have fσ0_9 := ros_at 9 rfl hσ0 dσ0
  have fσ0_10 := rb_at 10 rfl hσ0 dσ0
  have fσ0_11 := ros_at 11 rfl hσ0 dσ0
  have fσ0_12 := ros_at 12 rfl hσ0 dσ0
  have fσ0_13 := rb_at 13 rfl hσ0 dσ0
  have fσ0_14 := rb_at 14 rfl hσ0 dσ0
  refine WD.takeL 0 rfl (by decide +kernel) (WL.mv rfl rfl (WL.nilT (WD.takeL 1 rfl (by decide +kernel) (WL.mv rfl rfl (WL.nilT (WD.takeL 2 rfl (by decide +kernel) (WL.gY rfl rfl (WL.mv rfl rfl (WL.nilT (WD.takeL 3 rfl (by decide +kernel) (WL.gY rfl rfl ?_)))))))))))
  refine WL.len (T := Ty) rfl rfl (by assumption) rfl ?_
  refine WL.nilT (WD.takeL 4 rfl (by decide +kernel) (WL.gY rfl rfl (WL.eql rfl rfl rfl (WL.nilT (WD.takeL 5 rfl (by decide +kernel) (WL.pickT rfl rfl rfl (WL.nilT (WD.takeL 6 rfl (by decide +kernel) (WL.mv rfl rfl (WL.nilT (WD.takeL 7 rfl (by decide +kernel) (WL.gY rfl rfl (WL.mv rfl rfl ?_)))))))))))))
  refine WL.nilT (WD.takeL 8 rfl (by decide +kernel) (WL.pickT rfl rfl rfl (WL.nilT (WD.takeL 9 rfl (by decide +kernel) (WL.mv rfl rfl (WL.nilT (WD.takeL 10 rfl (by decide +kernel) (WL.gY rfl rfl (WL.mv rfl rfl (WL.nilT (WD.takeL 11 rfl (by decide +kernel) (WL.gY rfl rfl ?_))))))))))))
  refine WL.len (T := Ty) rfl rfl (by assumption) rfl ?_
  refine WL.nilT (WD.takeL 12 rfl (by decide +kernel) (WL.gY rfl rfl (WL.eql rfl rfl rfl (WL.nilT (WD.takeL 13 rfl (by decide +kernel) (WL.pickT rfl rfl rfl (WL.nilT (WD.takeL 14 rfl (by decide +kernel) (WL.mv rfl rfl (WL.nilT (WD.takeL 15 rfl (by decide +kernel) (WL.gY rfl rfl (WL.mv rfl rfl ?_)))))))))))))
  refine WL.nilT (WD.takeL 16 rfl (by decide +kernel) (WL.gY rfl rfl ?_))
  refine WL.ix (T := Ty) rfl rfl rfl (by assumption) rfl rfl (by omega) (by first | omega | decide +kernel) ?_
  refine WL.nilT (WD.takeL 17 rfl (by decide +kernel) (WL.gY rfl rfl ?_))
  refine WL.ldAR (T := Ty) rfl rfl rfl rfl (by first | assumption | exact ROs.wide (by assumption)) (by assumption) rfl ?_
  refine WL.nilT (WD.takeL 18 rfl (by decide +kernel) (WL.gY rfl rfl ?_))
  refine WL.ldABF (T := Ty) rfl rfl rfl rfl (by first | assumption | exact RB.wide (by assumption) | exact In.rb (by assumption)) rfl (by repeat' constructor) ?_
  refine WL.nilT (WD.takeL 19 rfl (by decide +kernel) (WL.gY rfl rfl ?_))
  refine WL.eqF (T := Ty) rfl rfl rfl rfl (by repeat' first | exact FE.nil | apply FE.int (by decide) rfl rfl rfl rfl | apply FE.bool (by decide) rfl rfl rfl rfl | apply FE.sub (by decide) rfl (by kernel_rfl) rfl rfl) (by kernel_rfl) (by kernel_rfl) ?_
  refine WL.nilT (WD.takeL 20 rfl (by decide +kernel) (WL.pickT rfl rfl rfl (WL.nilT (WD.takeL 21 rfl (by decide +kernel) (WL.mv rfl rfl (WL.nilT (WD.takeL 22 rfl (by decide +kernel) (WL.gY rfl rfl (WL.faN (T := Ty) (off' := 2) rfl rfl rfl rfl rfl rfl rfl (WL.nilT (WD.takeL 23 rfl (by decide +kernel) (WL.gY rfl rfl ?_))))))))))))
  refine WL.ldBN (T := Ty) rfl rfl rfl rfl (by first | assumption | exact RB.wide (by assumption) | exact In.rb (by assumption)) rfl ?_
  refine WL.nilT (WD.takeL 24 rfl (by decide +kernel) (WL.gY rfl rfl ?_))
  refine WL.len (T := Ty) rfl rfl (by assumption) rfl ?_
  refine WL.nilT (WD.takeL 25 rfl (by decide +kernel) (WL.gY rfl rfl (WL.eql rfl rfl rfl (WL.nilT (WD.takeL 26 rfl (by decide +kernel) (WL.pickT rfl rfl rfl (WL.nilT (WD.takeL 27 rfl (by decide +kernel) (WL.mv rfl rfl (WL.nilT (WD.takeL 28 rfl (by decide +kernel) (WL.gT rfl rfl (by omega) (WL.mv rfl rfl ?_)))))))))))))
  refine WL.nilT (WD.takeL 29 rfl (by decide +kernel) (WL.pickTp rfl rfl (by omega) rfl (WL.nilT (WD.takeL 30 rfl (by decide +kernel) (WL.mv rfl rfl (WL.nilT (WD.takeL 31 rfl (by decide +kernel) (WL.gY rfl rfl (WL.mv rfl rfl (WL.nilT (WD.takeL 32 rfl (by decide +kernel) (WL.gY rfl rfl ?_))))))))))))
  refine WL.len (T := Ty) rfl rfl (by assumption) rfl ?_
  refine WL.nilT (WD.takeL 33 rfl (by decide +kernel) (WL.gY rfl rfl (WL.eql rfl rfl rfl (WL.nilT (WD.takeL 34 rfl (by decide +kernel) (WL.pickT rfl rfl rfl (WL.nilT (WD.takeL 35 rfl (by decide +kernel) (WL.mv rfl rfl (WL.nilT (WD.takeL 36 rfl (by decide +kernel) (WL.gY rfl rfl (WL.mv rfl rfl ?_)))))))))))))
  refine WL.nilT (WD.takeL 37 rfl (by decide +kernel) (WL.gY rfl rfl ?_))
  refine WL.ix (T := Ty) rfl rfl rfl (by assumption) rfl rfl (by omega) (by first | omega | decide +kernel) ?_
  refine WL.nilT (WD.takeL 38 rfl (by decide +kernel) (WL.gY rfl rfl ?_))
  refine WL.ldAR (T := Ty) rfl rfl rfl rfl (by first | assumption | exact ROs.wide (by assumption)) (by assumption) rfl ?_
  refine WL.nilT (WD.takeL 39 rfl (by decide +kernel) (WL.gY rfl rfl ?_))
  refine WL.ldABF (T := Ty) rfl rfl rfl rfl (by first | assumption | exact RB.wide (by assumption) | exact In.rb (by assumption)) rfl (by repeat' constructor) ?_
  refine WL.nilT (WD.takeL 40 rfl (by decide +kernel) (WL.gY rfl rfl ?_))
  refine WL.eqF (T := Ty) rfl rfl rfl rfl (by repeat' first | exact FE.nil | apply FE.int (by decide) rfl rfl rfl rfl | apply FE.bool (by decide) rfl rfl rfl rfl | apply FE.sub (by decide) rfl (by kernel_rfl) rfl rfl) (by kernel_rfl) (by kernel_rfl) ?_
  refine WL.nilT (WD.takeL 41 rfl (by decide +kernel) (WL.pickT rfl rfl rfl (WL.nilT (WD.takeL 42 rfl (by decide +kernel) (WL.mv rfl rfl (WL.nilT (WD.takeL 43 rfl (by decide +kernel) (WL.gY rfl rfl (WL.faN (T := Ty) (off' := 1) rfl rfl rfl rfl rfl rfl rfl (WL.nilT (WD.takeL 44 rfl (by decide +kernel) (WL.gY rfl rfl ?_))))))))))))
  refine WL.ldBN (T := Ty) rfl rfl rfl rfl (by first | assumption | exact RB.wide (by assumption) | exact In.rb (by assumption)) rfl ?_
  refine WL.nilT (WD.takeL 45 rfl (by decide +kernel) (WL.gY rfl rfl (WL.eql rfl rfl rfl (WL.nilT (WD.takeL 46 rfl (by decide +kernel) (WL.pickT rfl rfl rfl (WL.nilT (WD.takeL 47 rfl (by decide +kernel) (WL.mv rfl rfl (WL.nilT (WD.takeL 48 rfl (by decide +kernel) (WL.gT rfl rfl (by omega) (WL.mv rfl rfl ?_)))))))))))))
  refine WL.nilT (WD.takeL 49 rfl (by decide +kernel) (WL.pickTp rfl rfl (by omega) rfl (WL.nilT (WD.takeL 50 rfl (by decide +kernel) (WL.mv rfl rfl (WL.nilT (WD.takeL 51 rfl (by decide +kernel) (WL.gY rfl rfl (WL.mv rfl rfl (WL.nilT (WD.takeL 52 rfl (by decide +kernel) (WL.gY rfl rfl (WL.not rfl rfl ?_)))))))))))))
  refine WL.nilT (WD.takeL 53 rfl (by decide +kernel) (WL.pickT rfl rfl rfl (WL.nilT (WD.takeL 54 rfl (by decide +kernel) (WL.mv rfl rfl (WL.nilT (WD.takeL 55 rfl (by decide +kernel) (WL.gY rfl rfl ?_))))))))
  refine WL.ldABF (T := Ty) rfl rfl rfl rfl (by first | assumption | exact RB.wide (by assumption) | exact In.rb (by assumption)) rfl (by repeat' constructor) ?_
  refine WL.nilT (WD.takeL 56 rfl (by decide +kernel) (WL.gY rfl rfl ?_))
  refine WL.ldABF (T := Ty) rfl rfl rfl rfl (by first | assumption | exact RB.wide (by assumption) | exact In.rb (by assumption)) rfl (by repeat' constructor) ?_
  refine WL.nilT (WD.oneL 57 rfl (by decide +kernel) (WL.gY rfl rfl ?_))
  refine WL.callV rfl rfl (fun x p d => find15_c _ _ _ _ _ _ _ _ _ _ _ (by first | assumption | exact ROs.wide (by assumption) | exact ROs.mono (by assumption) (eqh_at 0 rfl p d) | exact ros_at 0 rfl p d | exact ros_at 1 rfl p d | exact ros_at 2 rfl p d | exact ros_at 3 rfl p d | exact ros_at 4 rfl p d) (by first | assumption | omega)) ?_
  refine WL.nilE (WD.takeL 58 rfl (by decide +kernel) (WL.gY rfl rfl (WL.eql rfl rfl rfl (WL.nilT (WD.takeL 59 rfl (by decide +kernel) (WL.pickT rfl rfl rfl (WL.nilT (WD.takeL 60 rfl (by decide +kernel) (WL.mv rfl rfl (WL.nilT (WD.takeL 61 rfl (by decide +kernel) (WL.gT rfl rfl (by omega) (WL.faN (T := Ty) (off' := 2) rfl rfl rfl rfl rfl rfl rfl ?_)))))))))))))
  refine WL.nilT (WD.takeL 62 rfl (by decide +kernel) (WL.gT rfl rfl (by omega) ?_))
  refine WL.ldBN (T := Ty) rfl rfl rfl rfl (by first | assumption | exact RB.wide (by assumption) | exact In.rb (by assumption)) rfl ?_
  refine WL.nilT (WD.takeL 63 rfl (by decide +kernel) (WL.gT rfl rfl (by omega) ?_))
  refine WL.len (T := Ty) rfl rfl (by assumption) rfl ?_
  refine WL.nilT (WD.takeL 64 rfl (by decide +kernel) (WL.gT rfl rfl (by omega) (WL.eql rfl rfl rfl (WL.nilT (WD.takeL 65 rfl (by decide +kernel) (WL.pickTp rfl rfl (by omega) rfl (WL.nilT (WD.takeL 66 rfl (by decide +kernel) (WL.mv rfl rfl (WL.nilT (WD.takeL 68 rfl (by decide +kernel) (WL.gT rfl rfl (by omega) ?_))))))))))))
  refine WL.ldABF (T := Ty) rfl rfl rfl rfl (by first | assumption | exact RB.wide (by assumption) | exact In.rb (by assumption)) rfl (by repeat' constructor) ?_
  refine WL.nilT (WD.oneL 67 rfl (by decide +kernel) (WL.gT rfl rfl (by omega) ?_))
  refine WL.callV rfl rfl (fun x p d => new15q_c _ _) ?_
  refine WL.nilE (WD.oneL 69 rfl (by decide +kernel) (WL.gT rfl rfl (by omega) ?_))
  refine WL.callV rfl rfl (fun x p d => find15_c _ _ _ _ _ _ _ _ _ _ _ (by first | assumption | exact ROs.wide (by assumption) | exact ROs.mono (by assumption) (eqh_at 0 rfl p d) | exact ros_at 0 rfl p d | exact ros_at 1 rfl p d | exact ros_at 2 rfl p d | exact ros_at 3 rfl p d | exact ros_at 4 rfl p d) (by first | assumption | omega)) ?_
  refine WL.nilE (WD.takeL 70 rfl (by decide +kernel) (WL.gT rfl rfl (by omega) (WL.eql rfl rfl rfl (WL.nilT (WD.takeL 71 rfl (by decide +kernel) (WL.pickTp rfl rfl (by omega) rfl (WL.nilT (WD.takeL 72 rfl (by decide +kernel) (WL.mv rfl rfl (WL.nilT (WD.takeL 73 rfl (by decide +kernel) (WL.gT rfl rfl (by omega) ?_))))))))))))
  refine WL.ldABF (T := Ty) rfl rfl rfl rfl (by first | assumption | exact RB.wide (by assumption) | exact In.rb (by assumption)) rfl (by repeat' constructor) ?_
  refine WL.nilT (WD.takeL 74 rfl (by decide +kernel) (WL.gT rfl rfl (by omega) ?_))
  refine WL.ldABF (T := Ty) rfl rfl rfl rfl (by first | assumption | exact RB.wide (by assumption) | exact In.rb (by assumption)) rfl (by repeat' constructor) ?_
  refine WL.nilT (WD.oneL 75 rfl (by decide +kernel) (WL.gT rfl rfl (by omega) ?_))
  refine WL.callV rfl rfl (fun x p d => same15_e _ _ _ _ _ _ (by first | assumption | omega) (by first | assumption | exact ROs.wide (by assumption) | exact ROs.mono (by assumption) (eqh_at 0 rfl p d) | exact ros_at 0 rfl p d | exact ros_at 1 rfl p d | exact ros_at 2 rfl p d | exact ros_at 3 rfl p d | exact ros_at 4 rfl p d) (by first | assumption | exact ROs.wide (by assumption) | exact ROs.mono (by assumption) (eqh_at 0 rfl p d) | exact ros_at 0 rfl p d | exact ros_at 1 rfl p d | exact ros_at 2 rfl p d | exact ros_at 3 rfl p d | exact ros_at 4 rfl p d) (by assumption)) ?_
  refine WL.nilE (WD.takeL 76 rfl (by decide +kernel) (WL.pickTp rfl rfl (by omega) rfl (WL.nilT (WD.takeL 77 rfl (by decide +kernel) (WL.mv rfl rfl (WL.nilT (WD.takeL 78 rfl (by decide +kernel) (WL.gY rfl rfl ?_))))))))
  refine WL.ldABF (T := Ty) rfl rfl rfl rfl (by first | assumption | exact RB.wide (by assumption) | exact In.rb (by assumption)) rfl (by repeat' constructor) ?_
  refine WL.nilT (WD.takeL 79 rfl (by decide +kernel) (WL.gY rfl rfl ?_))
  refine WL.ldABF (T := Ty) rfl rfl rfl rfl (by first | assumption | exact RB.wide (by assumption) | exact In.rb (by assumption)) rfl (by repeat' constructor) ?_
  refine WL.nilT (WD.oneL 80 rfl (by decide +kernel) (WL.gY rfl rfl ?_))
  refine WL.callV rfl rfl (fun x p d => same15_e _ _ _ _ _ _ (by first | assumption | omega) (by first | assumption | exact ROs.wide (by assumption) | exact ROs.mono (by assumption) (eqh_at 0 rfl p d) | exact ros_at 0 rfl p d | exact ros_at 1 rfl p d | exact ros_at 2 rfl p d | exact ros_at 3 rfl p d | exact ros_at 4 rfl p d) (by first | assumption | exact ROs.wide (by assumption) | exact ROs.mono (by assumption) (eqh_at 0 rfl p d) | exact ros_at 0 rfl p d | exact ros_at 1 rfl p d | exact ros_at 2 rfl p d | exact ros_at 3 rfl p d | exact ros_at 4 rfl p d) (by assumption)) ?_
  refine WL.nilE (WD.takeL 81 rfl (by decide +kernel) (WL.gY rfl rfl (WL.not rfl rfl (WL.nilT (WD.takeL 82 rfl (by decide +kernel) (WL.pickT rfl rfl rfl (WL.nilT ?_)))))))
  refine WD.lastG hσ0 (by decide +kernel) (by repeat' constructor) rfl (by repeat' constructor) ?_
  refine WL.as rfl rfl (WL.nil ?_)
  exact W.fit (Hs' := []) (by (repeat' first | exact Sel.nil | apply Sel.k | exact Pick.h | apply Pick.t)) (W.ret1 rfl rfl (fun h q => ⟨rfl, q⟩))
 ·refine W.drawA 10 rfl (fun σ0 hσ0 dσ0 => ?_)
  have fσ0_0 := rb_at 0 rfl hσ0 dσ0
  have fσ0_1 := rb_at 1 rfl hσ0 dσ0
  refine WD.takeL 1 rfl (by decide +kernel) ?_
  refine WL.ldABF (T := Ty) rfl rfl rfl rfl (by first | assumption | exact RB.wide (by assumption) | exact In.rb (by assumption)) rfl (by repeat' constructor) ?_
  refine WL.nilT ?_
  refine WD.twoL 0 7 rfl rfl (by decide +kernel) ?_ ?_
  ·refine WL.callV rfl rfl (fun x p d => new15q_c _ _) ?_
   refine WL.nilE ?_
   refine WD.twoL 2 7 rfl rfl (by decide +kernel) ?_ ?_
   ·refine WL.callF rfl rfl (fun x p d => admitK_c _ _ _ _ _ _ _ _ (by assumption) (by assumption) (by first | assumption | omega) (by first | assumption | omega | decide) (by first | exact rosNew _ _ | assumption | exact ROs.wide (by assumption) | exact ROs.mono (by assumption) (eqh_at 0 rfl p d) | exact ros_at 0 rfl p d | exact ros_at 1 rfl p d | exact ros_at 2 rfl p d | exact ros_at 3 rfl p d | exact ros_at 4 rfl p d | exact ros_at 5 rfl p d | exact ros_at 6 rfl p d | exact ros_at 7 rfl p d | exact ros_at 8 rfl p d | exact ros_at 9 rfl p d) (by assumption)) (fun r2 => ?_)
    refine WL.opens (α := Value × Value) (φ := fun x => r2 = .tuple #[.agg #[.int .i64 _, .int .i64 _, x.1, .int .i64 _, .int .i64 _, .int .i64 _], x.2, .bool _] ∧ SL x.1 _ ∧ SL x.2 _) (ps := fun x => [Buf 7 x.1 _, Buf 3 x.2 _]) 0 rfl (fun h q => q) (by repeat' constructor) ?_
    rintro ⟨u2, kv2⟩ ⟨es2, su2, sk2⟩
    subst es2
    dsimp only [List.cons_append, List.nil_append] at su2 sk2 ⊢
    refine WL.nilSS (WD.takeL 3 rfl (by decide +kernel) (WL.mv rfl rfl (WL.nilT (WD.takeL 4 rfl (by decide +kernel) (WL.extL rfl rfl rfl (WL.nilT (WD.takeL 5 rfl (by decide +kernel) (WL.extL rfl rfl rfl (WL.nilT (WD.takeL 6 rfl (by decide +kernel) (WL.extL rfl rfl rfl (WL.nilT (WD.oneL 7 rfl (by decide +kernel) ?_)))))))))))))
    refine WL.alF (T := Ty) rfl rfl (by repeat' constructor) (fun b3 => ?_)
    refine WL.nilS (WD.oneL 8 rfl (by decide +kernel) ?_)
    refine WL.stAO (T := Ty) (j := 1) rfl rfl rfl rfl (by repeat' first | exact AO.nil | apply AO.cons (by first | rfl | exact SL.one (by assumption))) rfl rfl (by repeat' constructor) (by repeat' constructor) ?_
    refine WL.nilE (WD.takeL 9 rfl (by decide +kernel) (WL.as rfl rfl (WL.nilT ?_)))
    refine WD.lastG hσ0 (by decide +kernel) (by repeat' constructor) rfl (by repeat' constructor) ?_
    refine WL.as rfl rfl (WL.nil ?_)
    refine W.fit (Hs' := [box _ _ 73, Buf 7 _ _, Buf 3 _ _, box b0 _ _, box b1 _ _]) (by (repeat' first | exact Sel.nil | apply Sel.k | exact Pick.h | apply Pick.t)) (W.sub ?_ (cut ⟨_, _, _⟩ ρ (Le.refl _) ⟨by assumption, by assumption⟩))
    exact ⟨rfl, rfl, rfl, rfl, rfl, trivial⟩
   ·refine WL.alF (T := Ty) rfl rfl (by repeat' constructor) (fun b2 => ?_)
    refine WL.nilS (WD.oneL 2 rfl (by decide +kernel) ?_)
    refine WL.callF rfl rfl (fun x p d => admitK_c _ _ _ _ _ _ _ _ (by assumption) (by assumption) (by first | assumption | omega) (by first | assumption | omega | decide) (by first | exact rosNew _ _ | assumption | exact ROs.wide (by assumption) | exact ROs.mono (by assumption) (eqh_at 0 rfl p d) | exact ros_at 0 rfl p d | exact ros_at 1 rfl p d | exact ros_at 2 rfl p d | exact ros_at 3 rfl p d | exact ros_at 4 rfl p d | exact ros_at 5 rfl p d | exact ros_at 6 rfl p d | exact ros_at 7 rfl p d | exact ros_at 8 rfl p d | exact ros_at 9 rfl p d) (by assumption)) (fun r3 => ?_)
    refine WL.opens (α := Value × Value) (φ := fun x => r3 = .tuple #[.agg #[.int .i64 _, .int .i64 _, x.1, .int .i64 _, .int .i64 _, .int .i64 _], x.2, .bool _] ∧ SL x.1 _ ∧ SL x.2 _) (ps := fun x => [Buf 7 x.1 _, Buf 3 x.2 _]) 0 rfl (fun h q => q) (by repeat' constructor) ?_
    rintro ⟨u3, kv3⟩ ⟨es3, su3, sk3⟩
    subst es3
    dsimp only [List.cons_append, List.nil_append] at su3 sk3 ⊢
    refine WL.nilSS (WD.takeL 3 rfl (by decide +kernel) (WL.mv rfl rfl (WL.nilT (WD.takeL 4 rfl (by decide +kernel) (WL.extL rfl rfl rfl (WL.nilT (WD.takeL 5 rfl (by decide +kernel) (WL.extL rfl rfl rfl (WL.nilT (WD.takeL 6 rfl (by decide +kernel) (WL.extL rfl rfl rfl (WL.nilT (WD.oneL 8 rfl (by decide +kernel) ?_)))))))))))))
    refine WL.stAO (T := Ty) (j := 3) rfl rfl rfl rfl (by repeat' first | exact AO.nil | apply AO.cons (by first | rfl | exact SL.one (by assumption))) rfl rfl (by repeat' constructor) (by repeat' constructor) ?_
    refine WL.nilE (WD.takeL 9 rfl (by decide +kernel) (WL.as rfl rfl (WL.nilT ?_)))
    refine WD.lastG hσ0 (by decide +kernel) (by repeat' constructor) rfl (by repeat' constructor) ?_
    refine WL.as rfl rfl (WL.nil ?_)
    refine W.fit (Hs' := [box _ _ 73, Buf 7 _ _, Buf 3 _ _, box b0 _ _, box b1 _ _]) (by (repeat' first | exact Sel.nil | apply Sel.k | exact Pick.h | apply Pick.t)) (W.sub ?_ (cut ⟨_, _, _⟩ ρ (Le.refl _) ⟨by assumption, by assumption⟩))
    exact ⟨rfl, rfl, rfl, rfl, rfl, trivial⟩
  ·refine WL.alF (T := Ty) rfl rfl (by repeat' constructor) (fun b2 => ?_)
   refine WL.nilS (WD.oneL 0 rfl (by decide +kernel) ?_)
   refine WL.callV rfl rfl (fun x p d => new15q_c _ _) ?_
   refine WL.nilE (WD.oneL 2 rfl (by decide +kernel) ?_)
   refine WL.callF rfl rfl (fun x p d => admitK_c _ _ _ _ _ _ _ _ (by assumption) (by assumption) (by first | assumption | omega) (by first | assumption | omega | decide) (by first | exact rosNew _ _ | assumption | exact ROs.wide (by assumption) | exact ROs.mono (by assumption) (eqh_at 0 rfl p d) | exact ros_at 0 rfl p d | exact ros_at 1 rfl p d | exact ros_at 2 rfl p d | exact ros_at 3 rfl p d | exact ros_at 4 rfl p d | exact ros_at 5 rfl p d | exact ros_at 6 rfl p d | exact ros_at 7 rfl p d | exact ros_at 8 rfl p d | exact ros_at 9 rfl p d) (by assumption)) (fun r3 => ?_)
   refine WL.opens (α := Value × Value) (φ := fun x => r3 = .tuple #[.agg #[.int .i64 _, .int .i64 _, x.1, .int .i64 _, .int .i64 _, .int .i64 _], x.2, .bool _] ∧ SL x.1 _ ∧ SL x.2 _) (ps := fun x => [Buf 7 x.1 _, Buf 3 x.2 _]) 0 rfl (fun h q => q) (by repeat' constructor) ?_
   rintro ⟨u3, kv3⟩ ⟨es3, su3, sk3⟩
   subst es3
   dsimp only [List.cons_append, List.nil_append] at su3 sk3 ⊢
   refine WL.nilSS (WD.takeL 3 rfl (by decide +kernel) (WL.mv rfl rfl (WL.nilT (WD.takeL 4 rfl (by decide +kernel) (WL.extL rfl rfl rfl (WL.nilT (WD.takeL 5 rfl (by decide +kernel) (WL.extL rfl rfl rfl (WL.nilT (WD.takeL 6 rfl (by decide +kernel) (WL.extL rfl rfl rfl (WL.nilT (WD.oneL 8 rfl (by decide +kernel) ?_)))))))))))))
   refine WL.stAO (T := Ty) (j := 3) rfl rfl rfl rfl (by repeat' first | exact AO.nil | apply AO.cons (by first | rfl | exact SL.one (by assumption))) rfl rfl (by repeat' constructor) (by repeat' constructor) ?_
   refine WL.nilE (WD.takeL 9 rfl (by decide +kernel) (WL.as rfl rfl (WL.nilT ?_)))
   refine WD.lastG hσ0 (by decide +kernel) (by repeat' constructor) rfl (by repeat' constructor) ?_
   refine WL.as rfl rfl (WL.nil ?_)
   refine W.fit (Hs' := [box _ _ 73, Buf 7 _ _, Buf 3 _ _, box b0 _ _, box b1 _ _]) (by (repeat' first | exact Sel.nil | apply Sel.k | exact Pick.h | apply Pick.t)) (W.sub ?_ (cut ⟨_, _, _⟩ ρ (Le.refl _) ⟨by assumption, by assumption⟩))
   exact ⟨rfl, rfl, rfl, rfl, rfl, trivial⟩
end Go.Proofs.Ytbebhmdjnneimaa
