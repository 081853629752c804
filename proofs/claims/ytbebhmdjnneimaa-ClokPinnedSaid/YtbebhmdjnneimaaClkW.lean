/- A script of the document's ring: one step, the ring behind all; whether two rows of keys are the same. -/
import Derived.Test.YtbebhmdjnneimaaStc
import Derived.Test.YtbebhmdjnneimaaNum
import Derived.Test.YtbebhmdjnneimaaTab
import Derived.Test.YtbebhmdjnneimaaCkr3
import Derived.Test.YtbebhmdjnneimaaClkSt
set_option linter.unusedSimpArgs false
set_option linter.unusedVariables false
set_option maxRecDepth 20000
set_option maxHeartbeats 4000000
namespace Go.Proofs.Ytbebhmdjnneimaa
open Go
theorem mod8 (x : Int) : x % (7 + 1) = 0 ∨ x % (7 + 1) = 1 ∨ x % (7 + 1) = 2 ∨ x % (7 + 1) = 3 ∨ x % (7 + 1) = 4 ∨ x % (7 + 1) = 5 ∨ x % (7 + 1) = 6 ∨ x % (7 + 1) = 7 := by omega
attribute [local irreducible] W WL Fn Buf ROs SL eptr box Rd Src bndOK WD RB Reads In Own handG handC cnt goesP comesP fndK touchP pinP dropP admitP keyP
theorem step15_c (ρ : Hp) (c : Clk) (v : Value) (x : Int) (d : Clk × List Ky × Bool) (hb : Bnd c) (r0 : ROs ρ 7 v (c.pages.flatMap pgC)) (hd : stepP c x = some d) :
  Fn Try.prog 41 #[.agg #[.int .i64 c.most, .int .i64 c.target, v, .int .i64 (c.hot : Int), .int .i64 (c.cold : Int), .int .i64 (c.test : Int)], .int .i64 x] ρ [] (OAd d) := by
 have hG := hb.G
 have hI := hb.I
 have hln : c.pages.length ≤ 1000000 := by have := hb.len; omega
 have hkk : keyP (x / 8) = keyP (x / 8) := rfl
 unfold stepP at hd
 refine in41 rfl rfl ?_
 rcases mod8 x with h | h | h | h | h | h | h | h
 ·rw [if_pos (by omega)] at hd
  refine W.seq (W.region ?_)
  refine WL.bxF rfl rfl (by repeat' constructor) (fun b0 => ?_)
  refine WL.alF (T := Ty) rfl rfl (by repeat' constructor) (fun b1 => ?_)
  refine WL.as rfl rfl (WL.as rfl rfl (WL.nil (W.seq (W.region (WL.mv rfl rfl (WL.shrS (c := 8) rfl rfl rfl (by omega) (by decide) ?_))))))
  refine WL.callV rfl rfl (fun x p d => key15_c _ _) ?_
  refine WL.alF (T := Ty) rfl rfl (by repeat' constructor) (fun b2 => ?_)
  refine WL.stAO (T := Ty) (j := 0) rfl rfl rfl rfl (by repeat' first | exact AO.nil | apply AO.cons (by first | rfl | exact SL.one (by assumption))) rfl rfl (by repeat' constructor) (by repeat' constructor) ?_
  refine WL.nil (W.seq (W.seq (W.region (WL.mv rfl rfl (WL.andI rfl rfl rfl (by decide) (WL.nil (W.block (W.seq (W.seq (W.region (WL.eql rfl rfl rfl (WL.as rfl rfl (WL.nil ?_)))))))))))))
  refine W.condpT rfl (by omega) (W.skip (W.condpT rfl (by omega) (W.seq (W.region ?_))))
  refine WL.ldAF (T := Ty) (j := 2) rfl rfl rfl rfl rfl rfl (by repeat' constructor) ?_
  refine WL.ldAF (T := Ty) (j := 0) rfl rfl rfl rfl rfl rfl (by repeat' constructor) ?_
  refine WL.callF rfl rfl (fun x p d => admitr_c _ _ _ _ _ (by first | assumption | exact Bnd.G (by assumption)) (by first | assumption | exact Bnd.I (by assumption)) (by first | assumption | exact ROs.wide (by assumption) | exact ROs.mono (by assumption) (eqh_at 0 rfl p d) | exact ros_at 0 rfl p d | exact ros_at 1 rfl p d | exact ros_at 2 rfl p d | exact ros_at 3 rfl p d | exact ros_at 4 rfl p d) (by assumption)) (fun r3 => ?_)
  refine WL.opens (α := Value × Value) (φ := fun x => r3 = .tuple #[.agg #[.int .i64 _, .int .i64 _, x.1, .int .i64 _, .int .i64 _, .int .i64 _], x.2, .bool _] ∧ SL x.1 _ ∧ SL x.2 _) (ps := fun x => [Buf 7 x.1 _, Buf 3 x.2 _]) 0 rfl (fun h q => q) (by repeat' constructor) ?_
  rintro ⟨u3, kv3⟩ ⟨es3, su3, sk3⟩
  subst es3
  dsimp only [List.cons_append, List.nil_append] at su3 sk3 ⊢
  refine WL.extL rfl rfl rfl (WL.extL rfl rfl rfl (WL.extL rfl rfl rfl ?_))
  refine WL.stAO (T := Ty) (j := 3) rfl rfl rfl rfl (by repeat' first | exact AO.nil | apply AO.cons (by first | rfl | exact SL.one (by assumption))) rfl rfl (by repeat' constructor) (by repeat' constructor) ?_
  refine WL.as rfl rfl (WL.as rfl rfl (WL.nil ?_))
  exact W.fit (Hs' := [box b1 _ _, Buf 7 u3 _, Buf 3 kv3 _]) (by (repeat' first | exact Sel.nil | apply Sel.k | exact Pick.h | apply Pick.t)) (W.retC3 (T := Ty) (j := 0) rfl rfl rfl rfl rfl rfl rfl rfl (fun h q => ⟨(u3, kv3), ⟨rfl, by assumption, by assumption⟩, q⟩))
 ·rw [if_pos (by omega)] at hd
  refine W.seq (W.region ?_)
  refine WL.bxF rfl rfl (by repeat' constructor) (fun b0 => ?_)
  refine WL.alF (T := Ty) rfl rfl (by repeat' constructor) (fun b1 => ?_)
  refine WL.as rfl rfl (WL.as rfl rfl (WL.nil (W.seq (W.region (WL.mv rfl rfl (WL.shrS (c := 8) rfl rfl rfl (by omega) (by decide) ?_))))))
  refine WL.callV rfl rfl (fun x p d => key15_c _ _) ?_
  refine WL.alF (T := Ty) rfl rfl (by repeat' constructor) (fun b2 => ?_)
  refine WL.stAO (T := Ty) (j := 0) rfl rfl rfl rfl (by repeat' first | exact AO.nil | apply AO.cons (by first | rfl | exact SL.one (by assumption))) rfl rfl (by repeat' constructor) (by repeat' constructor) ?_
  refine WL.nil (W.seq (W.seq (W.region (WL.mv rfl rfl (WL.andI rfl rfl rfl (by decide) (WL.nil (W.block (W.seq (W.seq (W.region (WL.eql rfl rfl rfl (WL.as rfl rfl (WL.nil ?_)))))))))))))
  refine W.condpF rfl (by omega) (W.seq (W.region (WL.eql rfl rfl rfl (WL.as rfl rfl (WL.nil (W.condpT rfl (by omega) (W.skip (W.condpT rfl (by omega) (W.seq (W.region ?_))))))))))
  refine WL.ldAF (T := Ty) (j := 2) rfl rfl rfl rfl rfl rfl (by repeat' constructor) ?_
  refine WL.ldAF (T := Ty) (j := 0) rfl rfl rfl rfl rfl rfl (by repeat' constructor) ?_
  refine WL.callF rfl rfl (fun x p d => admitr_c _ _ _ _ _ (by first | assumption | exact Bnd.G (by assumption)) (by first | assumption | exact Bnd.I (by assumption)) (by first | assumption | exact ROs.wide (by assumption) | exact ROs.mono (by assumption) (eqh_at 0 rfl p d) | exact ros_at 0 rfl p d | exact ros_at 1 rfl p d | exact ros_at 2 rfl p d | exact ros_at 3 rfl p d | exact ros_at 4 rfl p d) (by assumption)) (fun r3 => ?_)
  refine WL.opens (α := Value × Value) (φ := fun x => r3 = .tuple #[.agg #[.int .i64 _, .int .i64 _, x.1, .int .i64 _, .int .i64 _, .int .i64 _], x.2, .bool _] ∧ SL x.1 _ ∧ SL x.2 _) (ps := fun x => [Buf 7 x.1 _, Buf 3 x.2 _]) 0 rfl (fun h q => q) (by repeat' constructor) ?_
  rintro ⟨u3, kv3⟩ ⟨es3, su3, sk3⟩
  subst es3
  dsimp only [List.cons_append, List.nil_append] at su3 sk3 ⊢
  refine WL.extL rfl rfl rfl (WL.extL rfl rfl rfl (WL.extL rfl rfl rfl ?_))
  refine WL.stAO (T := Ty) (j := 3) rfl rfl rfl rfl (by repeat' first | exact AO.nil | apply AO.cons (by first | rfl | exact SL.one (by assumption))) rfl rfl (by repeat' constructor) (by repeat' constructor) ?_
  refine WL.as rfl rfl (WL.as rfl rfl (WL.nil ?_))
  exact W.fit (Hs' := [box b1 _ _, Buf 7 u3 _, Buf 3 kv3 _]) (by (repeat' first | exact Sel.nil | apply Sel.k | exact Pick.h | apply Pick.t)) (W.retC3 (T := Ty) (j := 0) rfl rfl rfl rfl rfl rfl rfl rfl (fun h q => ⟨(u3, kv3), ⟨rfl, by assumption, by assumption⟩, q⟩))
 ·rw [if_pos (by omega)] at hd
  refine W.seq (W.region ?_)
  refine WL.bxF rfl rfl (by repeat' constructor) (fun b0 => ?_)
  refine WL.alF (T := Ty) rfl rfl (by repeat' constructor) (fun b1 => ?_)
  refine WL.as rfl rfl (WL.as rfl rfl (WL.nil (W.seq (W.region (WL.mv rfl rfl (WL.shrS (c := 8) rfl rfl rfl (by omega) (by decide) ?_))))))
  refine WL.callV rfl rfl (fun x p d => key15_c _ _) ?_
  refine WL.alF (T := Ty) rfl rfl (by repeat' constructor) (fun b2 => ?_)
  refine WL.stAO (T := Ty) (j := 0) rfl rfl rfl rfl (by repeat' first | exact AO.nil | apply AO.cons (by first | rfl | exact SL.one (by assumption))) rfl rfl (by repeat' constructor) (by repeat' constructor) ?_
  refine WL.nil (W.seq (W.seq (W.region (WL.mv rfl rfl (WL.andI rfl rfl rfl (by decide) (WL.nil (W.block (W.seq (W.seq (W.region (WL.eql rfl rfl rfl (WL.as rfl rfl (WL.nil ?_)))))))))))))
  refine W.condpF rfl (by omega) (W.seq (W.region (WL.eql rfl rfl rfl (WL.as rfl rfl (WL.nil (W.condpF rfl (by omega) (W.region (WL.eql rfl rfl rfl (WL.as rfl rfl (WL.nil (W.condpT rfl (by omega) (W.seq (W.region ?_)))))))))))))
  refine WL.ldAF (T := Ty) (j := 2) rfl rfl rfl rfl rfl rfl (by repeat' constructor) ?_
  refine WL.ldAF (T := Ty) (j := 0) rfl rfl rfl rfl rfl rfl (by repeat' constructor) ?_
  refine WL.callF rfl rfl (fun x p d => admitr_c _ _ _ _ _ (by first | assumption | exact Bnd.G (by assumption)) (by first | assumption | exact Bnd.I (by assumption)) (by first | assumption | exact ROs.wide (by assumption) | exact ROs.mono (by assumption) (eqh_at 0 rfl p d) | exact ros_at 0 rfl p d | exact ros_at 1 rfl p d | exact ros_at 2 rfl p d | exact ros_at 3 rfl p d | exact ros_at 4 rfl p d) (by assumption)) (fun r3 => ?_)
  refine WL.opens (α := Value × Value) (φ := fun x => r3 = .tuple #[.agg #[.int .i64 _, .int .i64 _, x.1, .int .i64 _, .int .i64 _, .int .i64 _], x.2, .bool _] ∧ SL x.1 _ ∧ SL x.2 _) (ps := fun x => [Buf 7 x.1 _, Buf 3 x.2 _]) 0 rfl (fun h q => q) (by repeat' constructor) ?_
  rintro ⟨u3, kv3⟩ ⟨es3, su3, sk3⟩
  subst es3
  dsimp only [List.cons_append, List.nil_append] at su3 sk3 ⊢
  refine WL.extL rfl rfl rfl (WL.extL rfl rfl rfl (WL.extL rfl rfl rfl ?_))
  refine WL.stAO (T := Ty) (j := 3) rfl rfl rfl rfl (by repeat' first | exact AO.nil | apply AO.cons (by first | rfl | exact SL.one (by assumption))) rfl rfl (by repeat' constructor) (by repeat' constructor) ?_
  refine WL.as rfl rfl (WL.as rfl rfl (WL.nil ?_))
  exact W.fit (Hs' := [box b1 _ _, Buf 7 u3 _, Buf 3 kv3 _]) (by (repeat' first | exact Sel.nil | apply Sel.k | exact Pick.h | apply Pick.t)) (W.retC3 (T := Ty) (j := 0) rfl rfl rfl rfl rfl rfl rfl rfl (fun h q => ⟨(u3, kv3), ⟨rfl, by assumption, by assumption⟩, q⟩))
 ·rw [if_neg (by omega), if_pos (by omega)] at hd
  cases hd
  refine W.seq (W.region ?_)
  refine WL.bxF rfl rfl (by repeat' constructor) (fun b0 => ?_)
  refine WL.alF (T := Ty) rfl rfl (by repeat' constructor) (fun b1 => ?_)
  refine WL.as rfl rfl (WL.as rfl rfl (WL.nil (W.seq (W.region (WL.mv rfl rfl (WL.shrS (c := 8) rfl rfl rfl (by omega) (by decide) ?_))))))
  refine WL.callV rfl rfl (fun x p d => key15_c _ _) ?_
  refine WL.alF (T := Ty) rfl rfl (by repeat' constructor) (fun b2 => ?_)
  refine WL.stAO (T := Ty) (j := 0) rfl rfl rfl rfl (by repeat' first | exact AO.nil | apply AO.cons (by first | rfl | exact SL.one (by assumption))) rfl rfl (by repeat' constructor) (by repeat' constructor) ?_
  refine WL.nil (W.seq (W.seq (W.region (WL.mv rfl rfl (WL.andI rfl rfl rfl (by decide) (WL.nil (W.block (W.seq (W.seq (W.region (WL.eql rfl rfl rfl (WL.as rfl rfl (WL.nil ?_)))))))))))))
  refine W.condpF rfl (by omega) (W.seq (W.region (WL.eql rfl rfl rfl (WL.as rfl rfl (WL.nil (W.condpF rfl (by omega) (W.region (WL.eql rfl rfl rfl (WL.as rfl rfl (WL.nil (W.condpF rfl (by omega) (W.seq (W.seq ?_)))))))))))))
  refine W.region (WL.eql rfl rfl rfl (WL.as rfl rfl (WL.nil (W.condpT rfl (by omega) (W.skip (W.condpT rfl (by omega) (W.seq (W.region ?_))))))))
  refine WL.ldAF (T := Ty) (j := 2) rfl rfl rfl rfl rfl rfl (by repeat' constructor) ?_
  refine WL.ldAF (T := Ty) (j := 0) rfl rfl rfl rfl rfl rfl (by repeat' constructor) ?_
  refine WL.callF rfl rfl (fun x p d => touchr_c _ _ _ _ (by first | assumption | exact ClkB.ln (by assumption)) (by first | assumption | exact ROs.wide (by assumption) | exact ROs.mono (by assumption) (eqh_at 0 rfl p d) | exact ros_at 0 rfl p d | exact ros_at 1 rfl p d | exact ros_at 2 rfl p d | exact ros_at 3 rfl p d | exact ros_at 4 rfl p d)) (fun r3 => ?_)
  refine WL.opens (α := Value) (φ := fun v => r3 = .tuple #[.agg #[.int .i64 _, .int .i64 _, v, .int .i64 _, .int .i64 _, .int .i64 _], .bool _] ∧ SL v _) (ps := fun v => [Buf 7 v _]) 0 rfl (fun h q => q) (by repeat' constructor) ?_
  rintro u3 ⟨es3, su3⟩
  subst es3
  dsimp only [List.cons_append, List.nil_append] at su3 ⊢
  refine WL.mv rfl rfl (WL.extL rfl rfl rfl (WL.extL rfl rfl rfl ?_))
  refine WL.alF (T := Ty) rfl rfl (by repeat' constructor) (fun b4 => ?_)
  refine WL.stAO (T := Ty) (j := 0) rfl rfl rfl rfl (by repeat' first | exact AO.nil | apply AO.cons (by first | rfl | exact SL.one (by assumption))) rfl rfl (by repeat' constructor) (by repeat' constructor) ?_
  refine WL.as rfl rfl (WL.nil (W.seq (W.region ?_)))
  refine WL.ldAF (T := Ty) (j := 0) rfl rfl rfl rfl rfl rfl (by repeat' constructor) ?_
  refine WL.mv rfl rfl ?_
  refine WL.stAO (T := Ty) (j := 3) rfl rfl rfl rfl (by repeat' first | exact AO.nil | apply AO.cons (by first | rfl | exact SL.one (by assumption))) rfl rfl (by repeat' constructor) (by repeat' constructor) ?_
  refine WL.as rfl rfl (WL.as rfl rfl (WL.nil (W.nb (sz := 3) ?_)))
  exact W.fit (Hs' := [box b1 _ _, Buf 7 u3 _, Buf 3 nilV []]) (by (repeat' first | exact Sel.nil | apply Sel.k | exact Pick.h | apply Pick.t)) (W.retC3 (T := Ty) (j := 0) rfl rfl rfl rfl rfl rfl rfl rfl (fun h q => ⟨(u3, nilV), ⟨rfl, by assumption, slZ⟩, q⟩))
 ·rw [if_neg (by omega), if_pos (by omega)] at hd
  cases hd
  refine W.seq (W.region ?_)
  refine WL.bxF rfl rfl (by repeat' constructor) (fun b0 => ?_)
  refine WL.alF (T := Ty) rfl rfl (by repeat' constructor) (fun b1 => ?_)
  refine WL.as rfl rfl (WL.as rfl rfl (WL.nil (W.seq (W.region (WL.mv rfl rfl (WL.shrS (c := 8) rfl rfl rfl (by omega) (by decide) ?_))))))
  refine WL.callV rfl rfl (fun x p d => key15_c _ _) ?_
  refine WL.alF (T := Ty) rfl rfl (by repeat' constructor) (fun b2 => ?_)
  refine WL.stAO (T := Ty) (j := 0) rfl rfl rfl rfl (by repeat' first | exact AO.nil | apply AO.cons (by first | rfl | exact SL.one (by assumption))) rfl rfl (by repeat' constructor) (by repeat' constructor) ?_
  refine WL.nil (W.seq (W.seq (W.region (WL.mv rfl rfl (WL.andI rfl rfl rfl (by decide) (WL.nil (W.block (W.seq (W.seq (W.region (WL.eql rfl rfl rfl (WL.as rfl rfl (WL.nil ?_)))))))))))))
  refine W.condpF rfl (by omega) (W.seq (W.region (WL.eql rfl rfl rfl (WL.as rfl rfl (WL.nil (W.condpF rfl (by omega) (W.region (WL.eql rfl rfl rfl (WL.as rfl rfl (WL.nil (W.condpF rfl (by omega) (W.seq (W.seq ?_)))))))))))))
  refine W.region (WL.eql rfl rfl rfl (WL.as rfl rfl (WL.nil (W.condpF rfl (by omega) (W.region (WL.eql rfl rfl rfl (WL.as rfl rfl (WL.nil (W.condpT rfl (by omega) (W.seq (W.region ?_)))))))))))
  refine WL.ldAF (T := Ty) (j := 2) rfl rfl rfl rfl rfl rfl (by repeat' constructor) ?_
  refine WL.ldAF (T := Ty) (j := 0) rfl rfl rfl rfl rfl rfl (by repeat' constructor) ?_
  refine WL.callF rfl rfl (fun x p d => touchr_c _ _ _ _ (by first | assumption | exact ClkB.ln (by assumption)) (by first | assumption | exact ROs.wide (by assumption) | exact ROs.mono (by assumption) (eqh_at 0 rfl p d) | exact ros_at 0 rfl p d | exact ros_at 1 rfl p d | exact ros_at 2 rfl p d | exact ros_at 3 rfl p d | exact ros_at 4 rfl p d)) (fun r3 => ?_)
  refine WL.opens (α := Value) (φ := fun v => r3 = .tuple #[.agg #[.int .i64 _, .int .i64 _, v, .int .i64 _, .int .i64 _, .int .i64 _], .bool _] ∧ SL v _) (ps := fun v => [Buf 7 v _]) 0 rfl (fun h q => q) (by repeat' constructor) ?_
  rintro u3 ⟨es3, su3⟩
  subst es3
  dsimp only [List.cons_append, List.nil_append] at su3 ⊢
  refine WL.mv rfl rfl (WL.extL rfl rfl rfl (WL.extL rfl rfl rfl ?_))
  refine WL.alF (T := Ty) rfl rfl (by repeat' constructor) (fun b4 => ?_)
  refine WL.stAO (T := Ty) (j := 0) rfl rfl rfl rfl (by repeat' first | exact AO.nil | apply AO.cons (by first | rfl | exact SL.one (by assumption))) rfl rfl (by repeat' constructor) (by repeat' constructor) ?_
  refine WL.as rfl rfl (WL.nil (W.seq (W.region ?_)))
  refine WL.ldAF (T := Ty) (j := 0) rfl rfl rfl rfl rfl rfl (by repeat' constructor) ?_
  refine WL.mv rfl rfl ?_
  refine WL.stAO (T := Ty) (j := 3) rfl rfl rfl rfl (by repeat' first | exact AO.nil | apply AO.cons (by first | rfl | exact SL.one (by assumption))) rfl rfl (by repeat' constructor) (by repeat' constructor) ?_
  refine WL.as rfl rfl (WL.as rfl rfl (WL.nil (W.nb (sz := 3) ?_)))
  exact W.fit (Hs' := [box b1 _ _, Buf 7 u3 _, Buf 3 nilV []]) (by (repeat' first | exact Sel.nil | apply Sel.k | exact Pick.h | apply Pick.t)) (W.retC3 (T := Ty) (j := 0) rfl rfl rfl rfl rfl rfl rfl rfl (fun h q => ⟨(u3, nilV), ⟨rfl, by assumption, slZ⟩, q⟩))
 ·rw [if_neg (by omega), if_neg (by omega), if_pos (by omega)] at hd
  cases hd
  refine W.seq (W.region ?_)
  refine WL.bxF rfl rfl (by repeat' constructor) (fun b0 => ?_)
  refine WL.alF (T := Ty) rfl rfl (by repeat' constructor) (fun b1 => ?_)
  refine WL.as rfl rfl (WL.as rfl rfl (WL.nil (W.seq (W.region (WL.mv rfl rfl (WL.shrS (c := 8) rfl rfl rfl (by omega) (by decide) ?_))))))
  refine WL.callV rfl rfl (fun x p d => key15_c _ _) ?_
  refine WL.alF (T := Ty) rfl rfl (by repeat' constructor) (fun b2 => ?_)
  refine WL.stAO (T := Ty) (j := 0) rfl rfl rfl rfl (by repeat' first | exact AO.nil | apply AO.cons (by first | rfl | exact SL.one (by assumption))) rfl rfl (by repeat' constructor) (by repeat' constructor) ?_
  refine WL.nil (W.seq (W.seq (W.region (WL.mv rfl rfl (WL.andI rfl rfl rfl (by decide) (WL.nil (W.block (W.seq (W.seq (W.region (WL.eql rfl rfl rfl (WL.as rfl rfl (WL.nil ?_)))))))))))))
  refine W.condpF rfl (by omega) (W.seq (W.region (WL.eql rfl rfl rfl (WL.as rfl rfl (WL.nil (W.condpF rfl (by omega) (W.region (WL.eql rfl rfl rfl (WL.as rfl rfl (WL.nil (W.condpF rfl (by omega) (W.seq (W.seq ?_)))))))))))))
  refine W.region (WL.eql rfl rfl rfl (WL.as rfl rfl (WL.nil (W.condpF rfl (by omega) (W.region (WL.eql rfl rfl rfl (WL.as rfl rfl (WL.nil (W.condpF rfl (by omega) (W.seq (W.seq (W.region (WL.eql rfl rfl rfl ?_)))))))))))))
  refine WL.as rfl rfl (WL.nil (W.condpT rfl (by omega) (W.skip (W.condpT rfl (by omega) (W.seq (W.region ?_))))))
  refine WL.ldAF (T := Ty) (j := 2) rfl rfl rfl rfl rfl rfl (by repeat' constructor) ?_
  refine WL.ldAF (T := Ty) (j := 0) rfl rfl rfl rfl rfl rfl (by repeat' constructor) ?_
  refine WL.mv rfl rfl (WL.shrS (c := 256) rfl rfl rfl (by omega) (by decide) (WL.andI rfl rfl rfl (by decide) (WL.subK rfl rfl rfl (wrap_i64 ⟨by omega, by omega⟩) (WL.mv rfl rfl (WL.andI rfl rfl rfl (by decide) (WL.subK rfl rfl rfl (wrap_i64 ⟨by omega, by omega⟩) ?_))))))
  refine WL.callF rfl rfl (fun x p d => pinr_c _ _ _ _ _ (by first | assumption | exact ClkB.ln (by assumption)) (by first | assumption | exact ROs.wide (by assumption) | exact ROs.mono (by assumption) (eqh_at 0 rfl p d) | exact ros_at 0 rfl p d | exact ros_at 1 rfl p d | exact ros_at 2 rfl p d | exact ros_at 3 rfl p d | exact ros_at 4 rfl p d)) (fun r3 => ?_)
  refine WL.opens (α := Value) (φ := fun v => r3 = .tuple #[.agg #[.int .i64 _, .int .i64 _, v, .int .i64 _, .int .i64 _, .int .i64 _], .bool _] ∧ SL v _) (ps := fun v => [Buf 7 v _]) 0 rfl (fun h q => q) (by repeat' constructor) ?_
  rintro u3 ⟨es3, su3⟩
  subst es3
  dsimp only [List.cons_append, List.nil_append] at su3 ⊢
  refine WL.mv rfl rfl (WL.extL rfl rfl rfl (WL.extL rfl rfl rfl ?_))
  refine WL.alF (T := Ty) rfl rfl (by repeat' constructor) (fun b4 => ?_)
  refine WL.stAO (T := Ty) (j := 0) rfl rfl rfl rfl (by repeat' first | exact AO.nil | apply AO.cons (by first | rfl | exact SL.one (by assumption))) rfl rfl (by repeat' constructor) (by repeat' constructor) ?_
  refine WL.as rfl rfl (WL.nil (W.seq (W.region ?_)))
  refine WL.ldAF (T := Ty) (j := 0) rfl rfl rfl rfl rfl rfl (by repeat' constructor) ?_
  refine WL.mv rfl rfl ?_
  refine WL.stAO (T := Ty) (j := 3) rfl rfl rfl rfl (by repeat' first | exact AO.nil | apply AO.cons (by first | rfl | exact SL.one (by assumption))) rfl rfl (by repeat' constructor) (by repeat' constructor) ?_
  refine WL.as rfl rfl (WL.as rfl rfl (WL.nil (W.nb (sz := 3) ?_)))
  exact W.fit (Hs' := [box b1 _ _, Buf 7 u3 _, Buf 3 nilV []]) (by (repeat' first | exact Sel.nil | apply Sel.k | exact Pick.h | apply Pick.t)) (W.retC3 (T := Ty) (j := 0) rfl rfl rfl rfl rfl rfl rfl rfl (fun h q => ⟨(u3, nilV), ⟨rfl, by assumption, slZ⟩, q⟩))
 ·rw [if_neg (by omega), if_neg (by omega), if_pos (by omega)] at hd
  cases hd
  refine W.seq (W.region ?_)
  refine WL.bxF rfl rfl (by repeat' constructor) (fun b0 => ?_)
  refine WL.alF (T := Ty) rfl rfl (by repeat' constructor) (fun b1 => ?_)
  refine WL.as rfl rfl (WL.as rfl rfl (WL.nil (W.seq (W.region (WL.mv rfl rfl (WL.shrS (c := 8) rfl rfl rfl (by omega) (by decide) ?_))))))
  refine WL.callV rfl rfl (fun x p d => key15_c _ _) ?_
  refine WL.alF (T := Ty) rfl rfl (by repeat' constructor) (fun b2 => ?_)
  refine WL.stAO (T := Ty) (j := 0) rfl rfl rfl rfl (by repeat' first | exact AO.nil | apply AO.cons (by first | rfl | exact SL.one (by assumption))) rfl rfl (by repeat' constructor) (by repeat' constructor) ?_
  refine WL.nil (W.seq (W.seq (W.region (WL.mv rfl rfl (WL.andI rfl rfl rfl (by decide) (WL.nil (W.block (W.seq (W.seq (W.region (WL.eql rfl rfl rfl (WL.as rfl rfl (WL.nil ?_)))))))))))))
  refine W.condpF rfl (by omega) (W.seq (W.region (WL.eql rfl rfl rfl (WL.as rfl rfl (WL.nil (W.condpF rfl (by omega) (W.region (WL.eql rfl rfl rfl (WL.as rfl rfl (WL.nil (W.condpF rfl (by omega) (W.seq (W.seq ?_)))))))))))))
  refine W.region (WL.eql rfl rfl rfl (WL.as rfl rfl (WL.nil (W.condpF rfl (by omega) (W.region (WL.eql rfl rfl rfl (WL.as rfl rfl (WL.nil (W.condpF rfl (by omega) (W.seq (W.seq (W.region (WL.eql rfl rfl rfl ?_)))))))))))))
  refine WL.as rfl rfl (WL.nil (W.condpF rfl (by omega) (W.region (WL.eql rfl rfl rfl (WL.as rfl rfl (WL.nil (W.condpT rfl (by omega) (W.seq (W.region ?_)))))))))
  refine WL.ldAF (T := Ty) (j := 2) rfl rfl rfl rfl rfl rfl (by repeat' constructor) ?_
  refine WL.ldAF (T := Ty) (j := 0) rfl rfl rfl rfl rfl rfl (by repeat' constructor) ?_
  refine WL.mv rfl rfl (WL.shrS (c := 256) rfl rfl rfl (by omega) (by decide) (WL.andI rfl rfl rfl (by decide) (WL.subK rfl rfl rfl (wrap_i64 ⟨by omega, by omega⟩) (WL.mv rfl rfl (WL.andI rfl rfl rfl (by decide) (WL.subK rfl rfl rfl (wrap_i64 ⟨by omega, by omega⟩) ?_))))))
  refine WL.callF rfl rfl (fun x p d => pinr_c _ _ _ _ _ (by first | assumption | exact ClkB.ln (by assumption)) (by first | assumption | exact ROs.wide (by assumption) | exact ROs.mono (by assumption) (eqh_at 0 rfl p d) | exact ros_at 0 rfl p d | exact ros_at 1 rfl p d | exact ros_at 2 rfl p d | exact ros_at 3 rfl p d | exact ros_at 4 rfl p d)) (fun r3 => ?_)
  refine WL.opens (α := Value) (φ := fun v => r3 = .tuple #[.agg #[.int .i64 _, .int .i64 _, v, .int .i64 _, .int .i64 _, .int .i64 _], .bool _] ∧ SL v _) (ps := fun v => [Buf 7 v _]) 0 rfl (fun h q => q) (by repeat' constructor) ?_
  rintro u3 ⟨es3, su3⟩
  subst es3
  dsimp only [List.cons_append, List.nil_append] at su3 ⊢
  refine WL.mv rfl rfl (WL.extL rfl rfl rfl (WL.extL rfl rfl rfl ?_))
  refine WL.alF (T := Ty) rfl rfl (by repeat' constructor) (fun b4 => ?_)
  refine WL.stAO (T := Ty) (j := 0) rfl rfl rfl rfl (by repeat' first | exact AO.nil | apply AO.cons (by first | rfl | exact SL.one (by assumption))) rfl rfl (by repeat' constructor) (by repeat' constructor) ?_
  refine WL.as rfl rfl (WL.nil (W.seq (W.region ?_)))
  refine WL.ldAF (T := Ty) (j := 0) rfl rfl rfl rfl rfl rfl (by repeat' constructor) ?_
  refine WL.mv rfl rfl ?_
  refine WL.stAO (T := Ty) (j := 3) rfl rfl rfl rfl (by repeat' first | exact AO.nil | apply AO.cons (by first | rfl | exact SL.one (by assumption))) rfl rfl (by repeat' constructor) (by repeat' constructor) ?_
  refine WL.as rfl rfl (WL.as rfl rfl (WL.nil (W.nb (sz := 3) ?_)))
  exact W.fit (Hs' := [box b1 _ _, Buf 7 u3 _, Buf 3 nilV []]) (by (repeat' first | exact Sel.nil | apply Sel.k | exact Pick.h | apply Pick.t)) (W.retC3 (T := Ty) (j := 0) rfl rfl rfl rfl rfl rfl rfl rfl (fun h q => ⟨(u3, nilV), ⟨rfl, by assumption, slZ⟩, q⟩))
 ·rw [if_neg (by omega), if_neg (by omega), if_neg (by omega)] at hd
  by_cases h2 : 0 < x / 256 % (3 + 1)
  ·rw [if_pos h2] at hd
   refine W.seq (W.region ?_)
   refine WL.bxF rfl rfl (by repeat' constructor) (fun b0 => ?_)
   refine WL.alF (T := Ty) rfl rfl (by repeat' constructor) (fun b1 => ?_)
   refine WL.as rfl rfl (WL.as rfl rfl (WL.nil (W.seq (W.region (WL.mv rfl rfl (WL.shrS (c := 8) rfl rfl rfl (by omega) (by decide) ?_))))))
   refine WL.callV rfl rfl (fun x p d => key15_c _ _) ?_
   refine WL.alF (T := Ty) rfl rfl (by repeat' constructor) (fun b2 => ?_)
   refine WL.stAO (T := Ty) (j := 0) rfl rfl rfl rfl (by repeat' first | exact AO.nil | apply AO.cons (by first | rfl | exact SL.one (by assumption))) rfl rfl (by repeat' constructor) (by repeat' constructor) ?_
   refine WL.nil (W.seq (W.seq (W.region (WL.mv rfl rfl (WL.andI rfl rfl rfl (by decide) (WL.nil (W.block (W.seq (W.seq (W.region (WL.eql rfl rfl rfl (WL.as rfl rfl (WL.nil ?_)))))))))))))
   refine W.condpF rfl (by omega) (W.seq (W.region (WL.eql rfl rfl rfl (WL.as rfl rfl (WL.nil (W.condpF rfl (by omega) (W.region (WL.eql rfl rfl rfl (WL.as rfl rfl (WL.nil (W.condpF rfl (by omega) (W.seq (W.seq ?_)))))))))))))
   refine W.region (WL.eql rfl rfl rfl (WL.as rfl rfl (WL.nil (W.condpF rfl (by omega) (W.region (WL.eql rfl rfl rfl (WL.as rfl rfl (WL.nil (W.condpF rfl (by omega) (W.seq (W.seq (W.region (WL.eql rfl rfl rfl ?_)))))))))))))
   refine WL.as rfl rfl (WL.nil (W.condpF rfl (by omega) (W.region (WL.eql rfl rfl rfl (WL.as rfl rfl (WL.nil (W.condpF rfl (by omega) (W.skip (W.inBlock (W.seq (W.seq (W.region (WL.mv rfl rfl ?_)))))))))))))
   refine WL.shrS (c := 256) rfl rfl rfl (by omega) (by decide) (WL.andI rfl rfl rfl (by decide) (WL.gtr rfl rfl rfl (WL.nil (W.condpT rfl (by omega) (W.seq (W.region ?_))))))
   refine WL.ldAF (T := Ty) (j := 2) rfl rfl rfl rfl rfl rfl (by repeat' constructor) ?_
   refine WL.ldAF (T := Ty) (j := 0) rfl rfl rfl rfl rfl rfl (by repeat' constructor) ?_
   refine WL.callF rfl rfl (fun x p d => admitr_c _ _ _ _ _ (by first | assumption | exact Bnd.G (by assumption)) (by first | assumption | exact Bnd.I (by assumption)) (by first | assumption | exact ROs.wide (by assumption) | exact ROs.mono (by assumption) (eqh_at 0 rfl p d) | exact ros_at 0 rfl p d | exact ros_at 1 rfl p d | exact ros_at 2 rfl p d | exact ros_at 3 rfl p d | exact ros_at 4 rfl p d) (by assumption)) (fun r3 => ?_)
   refine WL.opens (α := Value × Value) (φ := fun x => r3 = .tuple #[.agg #[.int .i64 _, .int .i64 _, x.1, .int .i64 _, .int .i64 _, .int .i64 _], x.2, .bool _] ∧ SL x.1 _ ∧ SL x.2 _) (ps := fun x => [Buf 7 x.1 _, Buf 3 x.2 _]) 0 rfl (fun h q => q) (by repeat' constructor) ?_
   rintro ⟨u3, kv3⟩ ⟨es3, su3, sk3⟩
   subst es3
   dsimp only [List.cons_append, List.nil_append] at su3 sk3 ⊢
   refine WL.extL rfl rfl rfl (WL.extL rfl rfl rfl (WL.extL rfl rfl rfl ?_))
   refine WL.stAO (T := Ty) (j := 3) rfl rfl rfl rfl (by repeat' first | exact AO.nil | apply AO.cons (by first | rfl | exact SL.one (by assumption))) rfl rfl (by repeat' constructor) (by repeat' constructor) ?_
   refine WL.as rfl rfl (WL.as rfl rfl (WL.nil ?_))
   exact W.fit (Hs' := [box b1 _ _, Buf 7 u3 _, Buf 3 kv3 _]) (by (repeat' first | exact Sel.nil | apply Sel.k | exact Pick.h | apply Pick.t)) (W.retC3 (T := Ty) (j := 0) rfl rfl rfl rfl rfl rfl rfl rfl (fun h q => ⟨(u3, kv3), ⟨rfl, by assumption, by assumption⟩, q⟩))
  ·rw [if_neg h2] at hd
   cases hd
   refine W.seq (W.region ?_)
   refine WL.bxF rfl rfl (by repeat' constructor) (fun b0 => ?_)
   refine WL.alF (T := Ty) rfl rfl (by repeat' constructor) (fun b1 => ?_)
   refine WL.as rfl rfl (WL.as rfl rfl (WL.nil (W.seq (W.region (WL.mv rfl rfl (WL.shrS (c := 8) rfl rfl rfl (by omega) (by decide) ?_))))))
   refine WL.callV rfl rfl (fun x p d => key15_c _ _) ?_
   refine WL.alF (T := Ty) rfl rfl (by repeat' constructor) (fun b2 => ?_)
   refine WL.stAO (T := Ty) (j := 0) rfl rfl rfl rfl (by repeat' first | exact AO.nil | apply AO.cons (by first | rfl | exact SL.one (by assumption))) rfl rfl (by repeat' constructor) (by repeat' constructor) ?_
   refine WL.nil (W.seq (W.seq (W.region (WL.mv rfl rfl (WL.andI rfl rfl rfl (by decide) (WL.nil (W.block (W.seq (W.seq (W.region (WL.eql rfl rfl rfl (WL.as rfl rfl (WL.nil ?_)))))))))))))
   refine W.condpF rfl (by omega) (W.seq (W.region (WL.eql rfl rfl rfl (WL.as rfl rfl (WL.nil (W.condpF rfl (by omega) (W.region (WL.eql rfl rfl rfl (WL.as rfl rfl (WL.nil (W.condpF rfl (by omega) (W.seq (W.seq ?_)))))))))))))
   refine W.region (WL.eql rfl rfl rfl (WL.as rfl rfl (WL.nil (W.condpF rfl (by omega) (W.region (WL.eql rfl rfl rfl (WL.as rfl rfl (WL.nil (W.condpF rfl (by omega) (W.seq (W.seq (W.region (WL.eql rfl rfl rfl ?_)))))))))))))
   refine WL.as rfl rfl (WL.nil (W.condpF rfl (by omega) (W.region (WL.eql rfl rfl rfl (WL.as rfl rfl (WL.nil (W.condpF rfl (by omega) (W.skip (W.inBlock (W.seq (W.seq (W.region (WL.mv rfl rfl ?_)))))))))))))
   refine WL.shrS (c := 256) rfl rfl rfl (by omega) (by decide) (WL.andI rfl rfl rfl (by decide) (WL.gtr rfl rfl rfl (WL.nil (W.condpF rfl (by omega) (W.skip (W.seq (W.region ?_)))))))
   refine WL.ldAF (T := Ty) (j := 2) rfl rfl rfl rfl rfl rfl (by repeat' constructor) ?_
   refine WL.ldAF (T := Ty) (j := 0) rfl rfl rfl rfl rfl rfl (by repeat' constructor) ?_
   refine WL.callF rfl rfl (fun x p d => dropr_c _ _ _ _ (by first | assumption | exact Bnd.G (by assumption)) (by first | assumption | exact ROs.wide (by assumption) | exact ROs.mono (by assumption) (eqh_at 0 rfl p d) | exact ros_at 0 rfl p d | exact ros_at 1 rfl p d | exact ros_at 2 rfl p d | exact ros_at 3 rfl p d | exact ros_at 4 rfl p d)) (fun r3 => ?_)
   refine WL.opens (α := Value) (φ := fun v => r3 = .tuple #[.agg #[.int .i64 _, .int .i64 _, v, .int .i64 _, .int .i64 _, .int .i64 _], .bool _] ∧ SL v _) (ps := fun v => [Buf 7 v _]) 0 rfl (fun h q => q) (by repeat' constructor) ?_
   rintro u3 ⟨es3, su3⟩
   subst es3
   dsimp only [List.cons_append, List.nil_append] at su3 ⊢
   refine WL.mv rfl rfl (WL.extL rfl rfl rfl (WL.extL rfl rfl rfl ?_))
   refine WL.alF (T := Ty) rfl rfl (by repeat' constructor) (fun b4 => ?_)
   refine WL.stAO (T := Ty) (j := 0) rfl rfl rfl rfl (by repeat' first | exact AO.nil | apply AO.cons (by first | rfl | exact SL.one (by assumption))) rfl rfl (by repeat' constructor) (by repeat' constructor) ?_
   refine WL.as rfl rfl (WL.nil (W.seq (W.region ?_)))
   refine WL.ldAF (T := Ty) (j := 0) rfl rfl rfl rfl rfl rfl (by repeat' constructor) ?_
   refine WL.mv rfl rfl ?_
   refine WL.stAO (T := Ty) (j := 3) rfl rfl rfl rfl (by repeat' first | exact AO.nil | apply AO.cons (by first | rfl | exact SL.one (by assumption))) rfl rfl (by repeat' constructor) (by repeat' constructor) ?_
   refine WL.as rfl rfl (WL.as rfl rfl (WL.nil (W.nb (sz := 3) ?_)))
   exact W.fit (Hs' := [box b1 _ _, Buf 7 u3 _, Buf 3 nilV []]) (by (repeat' first | exact Sel.nil | apply Sel.k | exact Pick.h | apply Pick.t)) (W.retC3 (T := Ty) (j := 0) rfl rfl rfl rfl rfl rfl rfl rfl (fun h q => ⟨(u3, nilV), ⟨rfl, by assumption, slZ⟩, q⟩))
theorem clockP_80 {a : Int} {z : List Int} {i : Nat} (h : i ≤ 80) (h2 : ¬ (i < z.length ∧ i < 80)) : clockP a (z.take i) = clockP a (z.take 80) := by
 by_cases h3 : i < 80
 ·rw [List.take_of_length_le (show z.length ≤ i by omega), List.take_of_length_le (show z.length ≤ 80 by omega)]
 ·rw [show i = 80 by omega]
theorem clock_zero (a : Int) (z : List Int) : clockP a (z.take 0) = newP (a % (7 + 1) + 1) := rfl
attribute [local irreducible] clockP
theorem clock15_c (ρ : Hp) (a0 : Int) (v1 : Value) (z1 : List Int) (r1 : ROs ρ 1 v1 (z1.map (Value.int .i64))) (m1 : ∀ n ∈ z1, (Lit.int .i64 n).wf = true) :
    Fn Try.prog 30 #[.int .i64 a0, v1] ρ [] (OCk (clockP a0 (z1.take 80))) := by
  have s1 := r1.slm
  refine in30 rfl rfl ?_
  refine W.seq (W.region ?_)
  refine WL.alF (T := Ty) rfl rfl (by repeat' constructor) (fun b0 => ?_)
  refine WL.nil (W.seq (W.region (WL.mv rfl rfl (WL.andI rfl rfl rfl (by decide) (WL.addK rfl rfl rfl (wrap_i64 ⟨by omega, by omega⟩) ?_)))))
  refine WL.callV rfl rfl (fun x p d => newr15q_c _ _) ?_
  refine WL.alF (T := Ty) rfl rfl (by repeat' constructor) (fun b1 => ?_)
  refine WL.stAO (T := Ty) (j := 0) rfl rfl rfl rfl (by repeat' first | exact AO.nil | apply AO.cons (by first | rfl | exact SL.one (by assumption))) rfl rfl (by repeat' constructor) (by repeat' constructor) ?_
  refine WL.nil (W.seq (W.seq (W.region (WL.as rfl rfl (WL.nil (W.block (W.nb (sz := 7) ?_)))))))
  refine W.loopR (σ := Nat × Clk × Value) (fun s => [(1, v1), (4, pt b0 0), (5, pt b1 0), (6, .int .i64 (s.1 : Int))])
    (fun s => [Buf 7 s.2.2 (s.2.1.pages.flatMap pgC), box b1 [.int .i64 s.2.1.most, .int .i64 s.2.1.target, s.2.2, .int .i64 (s.2.1.hot : Int), .int .i64 (s.2.1.cold : Int), .int .i64 (s.2.1.test : Int)] 73, box b0 [.int .i64 0, .int .i64 0, nilV, .int .i64 0, .int .i64 0, .int .i64 0] 73])
    (fun s ρ' => s.1 ≤ 80 ∧ s.2.1 = clockP a0 (z1.take s.1) ∧ Bnd s.2.1 ∧ SL s.2.2 s.2.1.pages.length) (fun s => 80 - s.1)
    (0, newP (a0 % (7 + 1) + 1), nilV) ⟨rfl, rfl, rfl, rfl, trivial⟩ rfl ⟨Nat.zero_le _, (clock_zero a0 z1).symm, by rw [← clock_zero a0 z1]; exact clock_B _ _, slZ⟩ ?_
  rintro ⟨i, c, v⟩ ρ1 le1 ⟨hi, hc, hb, sv⟩ next
  dsimp only at hi hc hb sv next ⊢
  replace r1 := r1.mono le1
  by_cases h1 : i < z1.length
  · obtain ⟨x, hx⟩ : ∃ x, z1[i]? = some x := ⟨_, List.getElem?_eq_getElem h1⟩
    have hx1 : (z1.map (Value.int .i64))[i]? = some (.int .i64 x) := by rw [List.getElem?_map, hx]; rfl
    by_cases h2 : i < 80
    · obtain ⟨⟨d, out, ok⟩, hd, hbd, hdm⟩ := step_ex hb x
      have hn : d = clockP a0 (z1.take (i + 1)) := by rw [clock_take hx, ← hc, next_of hd]
      dsimp only at hbd
      refine W.seq (W.seq (W.region (WL.mv rfl rfl (WL.mv rfl rfl ?_))))
      refine WL.len (T := Ty) rfl rfl (by assumption) rfl ?_
      refine WL.lss rfl rfl rfl (WL.mv rfl rfl (WL.gT rfl rfl (by omega) (WL.mv rfl rfl (WL.gT rfl rfl (by omega) (WL.lss rfl rfl rfl (WL.pickTp rfl rfl (by omega) rfl (WL.nil (W.condpT rfl (by omega) (W.skip (W.seq (W.block ?_)))))))))))
      refine W.drawP 11 [false, true, false] rfl (by repeat' constructor) (by repeat' constructor) (fun σ0 hσ0 dσ0 => ?_)
      have fσ0_0 := ros_at 0 rfl hσ0 dσ0
      have fσ0_1 := rb_at 1 rfl hσ0 dσ0
      refine WD.takeL 1 rfl (by decide +kernel) (WL.mv rfl rfl (WL.nilT (WD.takeL 2 rfl (by decide +kernel) (WL.mv rfl rfl (WL.nilT (WD.takeL 3 rfl (by decide +kernel) ?_))))))
      refine WL.ix (T := Ty) rfl rfl rfl (by assumption) rfl rfl (by omega) (by first | omega | decide +kernel) ?_
      refine WL.nilT (WD.takeL 4 rfl (by decide +kernel) ?_)
      refine WL.ldKn (T := Ty) rfl rfl rfl rfl (by first | assumption | exact ROs.wide (by assumption)) (by assumption) ?_
      refine WL.nilT (WD.oneL 0 rfl (by decide +kernel) ?_)
      refine WL.ldAF (T := Ty) (j := 1) rfl rfl rfl rfl rfl rfl (by repeat' constructor) ?_
      refine WL.nilE (WD.oneL 5 rfl (by decide +kernel) ?_)
      refine WL.callF rfl rfl (fun x p d => step15_c _ _ _ _ _ (by assumption) (by first | assumption | exact ROs.wide (by assumption) | exact ROs.mono (by assumption) (eqh_at 0 rfl p d) | exact ros_at 0 rfl p d | exact ros_at 1 rfl p d | exact ros_at 2 rfl p d | exact ros_at 3 rfl p d | exact ros_at 4 rfl p d) (by assumption)) (fun r2 => ?_)
      refine WL.opens (α := Value × Value) (φ := fun x => r2 = .tuple #[.agg #[.int .i64 _, .int .i64 _, x.1, .int .i64 _, .int .i64 _, .int .i64 _], x.2, .bool _] ∧ SL x.1 _ ∧ SL x.2 _) (ps := fun x => [Buf 7 x.1 _, Buf 3 x.2 _]) 0 rfl (fun h q => q) (by repeat' constructor) ?_
      rintro ⟨u2, kv2⟩ ⟨es2, su2, sk2⟩
      subst es2
      dsimp only [List.cons_append, List.nil_append] at su2 sk2 ⊢
      refine WL.nilSS (WD.takeL 6 rfl (by decide +kernel) (WL.mv rfl rfl (WL.nilT (WD.takeL 7 rfl (by decide +kernel) (WL.extL rfl rfl rfl (WL.nilT (WD.takeL 8 rfl (by decide +kernel) (WL.extL rfl rfl rfl (WL.nilT (WD.takeL 9 rfl (by decide +kernel) (WL.extL rfl rfl rfl (WL.nilT (WD.oneL 10 rfl (by decide +kernel) ?_)))))))))))))
      refine WL.stAO (T := Ty) (j := 3) rfl rfl rfl rfl (by repeat' first | exact AO.nil | apply AO.cons (by first | rfl | exact SL.one (by assumption))) rfl rfl (by repeat' constructor) (by repeat' constructor) ?_
      refine WL.nilE ?_
      refine WD.doneF hσ0 (by decide +kernel) (by repeat' constructor) ?_
      refine W.inBlock (W.region (WL.mv rfl rfl (WL.addK rfl rfl rfl (wrap_i64 ⟨by omega, by omega⟩) (WL.as rfl rfl (WL.nil ?_)))))
      refine W.fit (Hs' := [Buf 7 _ (d.pages.flatMap pgC), box b1 _ _, box b0 _ _]) (by (repeat' first | exact Sel.nil | apply Sel.k | exact Pick.h | apply Pick.t)) (W.sub ?_ (next ⟨i + 1, d, _⟩ ρ1 (Le.refl _) ⟨h2, hn, hbd, by assumption⟩ (by dsimp only; omega)))
      exact ⟨rfl, rfl, rfl, rfl, trivial⟩
    · rw [clockP_80 hi (fun h => h2 h.2)] at hc
      rw [← hc]
      refine W.seq (W.seq (W.region (WL.mv rfl rfl (WL.mv rfl rfl ?_))))
      refine WL.len (T := Ty) rfl rfl (by assumption) rfl ?_
      refine WL.lss rfl rfl rfl (WL.mv rfl rfl (WL.gT rfl rfl (by omega) (WL.mv rfl rfl (WL.gT rfl rfl (by omega) (WL.lss rfl rfl rfl (WL.pickTp rfl rfl (by omega) rfl (WL.nil (W.condpF rfl (by omega) (W.exit rfl (W.seq (W.region ?_)))))))))))
      refine WL.ldAF (T := Ty) (j := 1) rfl rfl rfl rfl rfl rfl (by repeat' constructor) ?_
      refine WL.stAO (T := Ty) (j := 2) rfl rfl rfl rfl (by repeat' first | exact AO.nil | apply AO.cons (by first | rfl | exact SL.one (by assumption))) rfl rfl (by repeat' constructor) (by repeat' constructor) ?_
      refine WL.nil ?_
      exact W.fit (Hs' := [box b0 _ _, Buf 7 v _]) (by (repeat' first | exact Sel.nil | apply Sel.k | exact Pick.h | apply Pick.t)) (W.retC (T := Ty) (j := 0) rfl rfl rfl rfl rfl rfl (fun h q => ⟨v, ⟨rfl, sv⟩, q⟩))
  · rw [clockP_80 hi (fun h => h1 h.1)] at hc
    rw [← hc]
    refine W.seq (W.seq (W.region (WL.mv rfl rfl (WL.mv rfl rfl ?_))))
    refine WL.len (T := Ty) rfl rfl (by assumption) rfl ?_
    refine WL.lss rfl rfl rfl (WL.mv rfl rfl (WL.gdTn rfl rfl rfl rfl rfl (by omega) (WL.gdTn rfl rfl rfl rfl rfl (by omega) (WL.pickFp rfl rfl (by omega) rfl (WL.nil (W.condF rfl (W.exit rfl (W.seq (W.region ?_)))))))))
    refine WL.ldAF (T := Ty) (j := 1) rfl rfl rfl rfl rfl rfl (by repeat' constructor) ?_
    refine WL.stAO (T := Ty) (j := 2) rfl rfl rfl rfl (by repeat' first | exact AO.nil | apply AO.cons (by first | rfl | exact SL.one (by assumption))) rfl rfl (by repeat' constructor) (by repeat' constructor) ?_
    refine WL.nil ?_
    exact W.fit (Hs' := [box b0 _ _, Buf 7 v _]) (by (repeat' first | exact Sel.nil | apply Sel.k | exact Pick.h | apply Pick.t)) (W.retC (T := Ty) (j := 0) rfl rfl rfl rfl rfl rfl (fun h q => ⟨v, ⟨rfl, sv⟩, q⟩))
end Go.Proofs.Ytbebhmdjnneimaa
