/- A script of the document's ring: one step, the ring behind all; whether two rows of keys are the same. -/
import Derived.Test.YtbebhmdjnneimaaStc
import Derived.Test.YtbebhmdjnneimaaNum
import Derived.Test.YtbebhmdjnneimaaTab
import Derived.Test.YtbebhmdjnneimaaCkr3
import Derived.Test.YtbebhmdjnneimaaClkSt
set_option linter.unusedSimpArgs false
set_option linter.unusedVariables false
set_option maxRecDepth 20000
set_option maxHeartbeats 4000000
namespace Go.Proofs.Ytbebhmdjnneimaa
open Go
theorem mod8 (x : Int) : x % (7 + 1) = 0 ∨ x % (7 + 1) = 1 ∨ x % (7 + 1) = 2 ∨ x % (7 + 1) = 3 ∨ x % (7 + 1) = 4 ∨ x % (7 + 1) = 5 ∨ x % (7 + 1) = 6 ∨ x % (7 + 1) = 7 := by omega
attribute [local irreducible] W WL Fn Buf ROs SL eptr box Rd Src bndOK WD RB Reads In Own handG handC cnt goesP comesP fndK touchP pinP dropP admitP keyP
theorem step15_c (ρ : Hp) (c : Clk) (v : Value) (x : Int) (d : Clk × List Ky × Bool) (hb : Bnd c) (r0 : ROs ρ 7 v (c.pages.flatMap pgC)) (hd : stepP c x = some d) :
  Fn Try.prog 41 #[.agg #[.int .i64 c.most, .int .i64 c.target, v, .int .i64 (c.hot : Int), .int .i64 (c.cold : Int), .int .i64 (c.test : Int)], .int .i64 x] ρ [] (OAd d) := by
 have hG := hb.G
 have hI := hb.I
 have hln : c.pages.length ≤ 1000000 := by have := hb.len; omega
 have hkk : keyP (x / 8) = keyP (x / 8) := rfl
 unfold stepP at hd
 refine in41 rfl rfl ?_
 rcases mod8 x with h | h | h | h | h | h | h | h
 ·rw [if_pos (by omega)] at hd
  refine W.seq (W.region ?_)
  refine WL.bxF rfl rfl (by repeat' constructor) (fun b0 => ?_)
  refine WL.alF (T := Ty) rfl rfl (by repeat' constructor) (fun b1 => ?_)
  refine WL.as rfl rfl (WL.as rfl rfl (WL.nil (W.seq (W.region (WL.mv rfl rfl (WL.shrS (c := 8) rfl rfl rfl (by omega) (by decide) ?_))))))
  refine WL.callV rfl rfl (fun x p d => key15_c _ _) ?_
  refine WL.alF (T := Ty) rfl rfl (by repeat' constructor) (fun b2 => ?_)
  refine WL.stAO (T := Ty) (j := 0) rfl rfl rfl rfl (by repeat' first | exact AO.nil | apply AO.cons (by first | rfl | exact SL.one (by assumption))) rfl rfl (by repeat' constructor) (by repeat' constructor) ?_
  refine WL.nil (W.seq (W.seq (W.region (WL.mv rfl rfl (WL.andI rfl rfl rfl (by decide) (WL.nil (W.block (W.seq (W.seq (W.region (WL.eql rfl rfl rfl (WL.as rfl rfl (WL.nil ?_)))))))))))))
  refine W.condpT rfl (by omega) (W.skip (W.condpT rfl (by omega) (W.seq (W.region ?_))))
  refine WL.ldAF (T := Ty) (j := 2) rfl rfl rfl rfl rfl rfl (by repeat' constructor) ?_
  refine WL.ldAF (T := Ty) (j := 0) rfl rfl rfl rfl rfl rfl (by repeat' constructor) ?_
  refine WL.callF rfl rfl (fun x p d => admitr_c _ _ _ _ _ (by first | assumption | exact Bnd.G (by assumption)) (by first | assumption | exact Bnd.I (by assumption)) (by first | assumption | exact ROs.wide (by assumption) | exact ROs.mono (by assumption) (eqh_at 0 rfl p d) | exact ros_at 0 rfl p d | exact ros_at 1 rfl p d | exact ros_at 2 rfl p d | exact ros_at 3 rfl p d | exact ros_at 4 rfl p d) (by assumption)) (fun r3 => ?_)
  refine WL.opens (α := Value × Value) (φ := fun x => r3 = .tuple #[.agg #[.int .i64 _, .int .i64 _, x.1, .int .i64 _, .int .i64 _, .int .i64 _], x.2, .bool _] ∧ SL x.1 _ ∧ SL x.2 _) (ps := fun x => [Buf 7 x.1 _, Buf 3 x.2 _]) 0 rfl (fun h q => q) (by repeat' constructor) ?_
  rintro ⟨u3, kv3⟩ ⟨es3, su3, sk3⟩
  subst es3
  dsimp only [List.cons_append, List.nil_append] at su3 sk3 ⊢
  refine WL.extL rfl rfl rfl (WL.extL rfl rfl rfl (WL.extL rfl rfl rfl ?_))
  refine WL.stAO (T := Ty) (j := 3) rfl rfl rfl rfl (by repeat' first | exact AO.nil | apply AO.cons (by first | rfl | exact SL.one (by assumption))) rfl rfl (by repeat' constructor) (by repeat' constructor) ?_
  refine WL.as rfl rfl (WL.as rfl rfl (WL.nil ?_))
  exact W.fit (Hs' := [box b1 _ _, Buf 7 u3 _, Buf 3 kv3 _]) (by (repeat' first | exact Sel.nil | apply Sel.k | exact Pick.h | apply Pick.t)) (W.retC3 (T := Ty) (j := 0) rfl rfl rfl rfl rfl rfl rfl rfl (fun h q => ⟨(u3, kv3), ⟨rfl, by assumption, by assumption⟩, q⟩))
 ·rw [if_pos (by omega)] at hd
  refine W.seq (W.region ?_)
  refine WL.bxF rfl rfl (by repeat' constructor) (fun b0 => ?_)
  refine WL.alF (T := Ty) rfl rfl (by repeat' constructor) (fun b1 => ?_)
  refine WL.as rfl rfl (WL.as rfl rfl (WL.nil (W.seq (W.region (WL.mv rfl rfl (WL.shrS (c := 8) rfl rfl rfl (by omega) (by decide) ?_))))))
  refine WL.callV rfl rfl (fun x p d => key15_c _ _) ?_
  refine WL.alF (T := Ty) rfl rfl (by repeat' constructor) (fun b2 => ?_)
  refine WL.stAO (T := Ty) (j := 0) rfl rfl rfl rfl (by repeat' first | exact AO.nil | apply AO.cons (by first | rfl | exact SL.one (by assumption))) rfl rfl (by repeat' constructor) (by repeat' constructor) ?_
  refine WL.nil (W.seq (W.seq (W.region (WL.mv rfl rfl (WL.andI rfl rfl rfl (by decide) (WL.nil (W.block (W.seq (W.seq (W.region (WL.eql rfl rfl rfl (WL.as rfl rfl (WL.nil ?_)))))))))))))
  refine W.condpF rfl (by omega) (W.seq (W.region (WL.eql rfl rfl rfl (WL.as rfl rfl (WL.nil (W.condpT rfl (by omega) (W.skip (W.condpT rfl (by omega) (W.seq (W.region ?_))))))))))
  refine WL.ldAF (T := Ty) (j := 2) rfl rfl rfl rfl rfl rfl (by repeat' constructor) ?_
  refine WL.ldAF (T := Ty) (j := 0) rfl rfl rfl rfl rfl rfl (by repeat' constructor) ?_
  refine WL.callF rfl rfl (fun x p d => admitr_c _ _ _ _ _ (by first | assumption | exact Bnd.G (by assumption)) (by first | assumption | exact Bnd.I (by assumption)) (by first | assumption | exact ROs.wide (by assumption) | exact ROs.mono (by assumption) (eqh_at 0 rfl p d) | exact ros_at 0 rfl p d | exact ros_at 1 rfl p d | exact ros_at 2 rfl p d | exact ros_at 3 rfl p d | exact ros_at 4 rfl p d) (by assumption)) (fun r3 => ?_)
  refine WL.opens (α := Value × Value) (φ := fun x => r3 = .tuple #[.agg #[.int .i64 _, .int .i64 _, x.1, .int .i64 _, .int .i64 _, .int .i64 _], x.2, .bool _] ∧ SL x.1 _ ∧ SL x.2 _) (ps := fun x => [Buf 7 x.1 _, Buf 3 x.2 _]) 0 rfl (fun h q => q) (by repeat' constructor) ?_
  rintro ⟨u3, kv3⟩ ⟨es3, su3, sk3⟩
  subst es3
  dsimp only [List.cons_append, List.nil_append] at su3 sk3 ⊢
  refine WL.extL rfl rfl rfl (WL.extL rfl rfl rfl (WL.extL rfl rfl rfl ?_))
  refine WL.stAO (T := Ty) (j := 3) rfl rfl rfl rfl (by repeat' first | exact AO.nil | apply AO.cons (by first | rfl | exact SL.one (by assumption))) rfl rfl (by repeat' constructor) (by repeat' constructor) ?_
  refine WL.as rfl rfl (WL.as rfl rfl (WL.nil ?_))
  exact W.fit (Hs' := [box b1 _ _, Buf 7 u3 _, Buf 3 kv3 _]) (by (repeat' first | exact Sel.nil | apply Sel.k | exact Pick.h | apply Pick.t)) (W.retC3 (T := Ty) (j := 0) rfl rfl rfl rfl rfl rfl rfl rfl (fun h q => ⟨(u3, kv3), ⟨rfl, by assumption, by assumption⟩, q⟩))
 ·rw [if_pos (by omega)] at hd
  refine W.seq (W.region ?_)
  refine WL.bxF rfl rfl (by repeat' constructor) (fun b0 => ?_)
  refine WL.alF (T := Ty) rfl rfl (by repeat' constructor) (fun b1 => ?_)
  refine WL.as rfl rfl (WL.as rfl rfl (WL.nil (W.seq (W.region (WL.mv rfl rfl (WL.shrS (c := 8) rfl rfl rfl (by omega) (by decide) ?_))))))
  refine WL.callV rfl rfl (fun x p d => key15_c _ _) ?_
  refine WL.alF (T := Ty) rfl rfl (by repeat' constructor) (fun b2 => ?_)
  refine WL.stAO (T := Ty) (j := 0) rfl rfl rfl rfl (by repeat' first | exact AO.nil | apply AO.cons (by first | rfl | exact SL.one (by assumption))) rfl rfl (by repeat' constructor) (by repeat' constructor) ?_
  refine WL.nil (W.seq (W.seq (W.region (WL.mv rfl rfl (WL.andI rfl rfl rfl (by decide) (WL.nil (W.block (W.seq (W.seq (W.region (WL.eql rfl rfl rfl (WL.as rfl rfl (WL.nil ?_)))))))))))))
  refine W.condpF rfl (by omega) (W.seq (W.region (WL.eql rfl rfl rfl (WL.as rfl rfl (WL.nil (W.condpF rfl (by omega) (W.region (WL.eql rfl rfl rfl (WL.as rfl rfl (WL.nil (W.condpT rfl (by omega) (W.seq (W.region ?_)))))))))))))
  refine WL.ldAF (T := Ty) (j := 2) rfl rfl rfl rfl rfl rfl (by repeat' constructor) ?_
  refine WL.ldAF (T := Ty) (j := 0) rfl rfl rfl rfl rfl rfl (by repeat' constructor) ?_
  refine WL.callF rfl rfl (fun x p d => admitr_c _ _ _ _ _ (by first | assumption | exact Bnd.G (by assumption)) (by first | assumption | exact Bnd.I (by assumption)) (by first | assumption | exact ROs.wide (by assumption) | exact ROs.mono (by assumption) (eqh_at 0 rfl p d) | exact ros_at 0 rfl p d | exact ros_at 1 rfl p d | exact ros_at 2 rfl p d | exact ros_at 3 rfl p d | exact ros_at 4 rfl p d) (by assumption)) (fun r3 => ?_)
  refine WL.opens (α := Value × Value) (φ := fun x => r3 = .tuple #[.agg #[.int .i64 _, .int .i64 _, x.1, .int .i64 _, .int .i64 _, .int .i64 _], x.2, .bool _] ∧ SL x.1 _ ∧ SL x.2 _) (ps := fun x => [Buf 7 x.1 _, Buf 3 x.2 _]) 0 rfl (fun h q => q) (by repeat' constructor) ?_
  rintro ⟨u3, kv3⟩ ⟨es3, su3, sk3⟩
  subst es3
  dsimp only [List.cons_append, List.nil_append] at su3 sk3 ⊢
  refine WL.extL rfl rfl rfl (WL.extL rfl rfl rfl (WL.extL rfl rfl rfl ?_))
  refine WL.stAO (T := Ty) (j := 3) rfl rfl rfl rfl (by repeat' first | exact AO.nil | apply AO.cons (by first | rfl | exact SL.one (by assumption))) rfl rfl (by repeat' constructor) (by repeat' constructor) ?_
  refine WL.as rfl rfl (WL.as rfl rfl (WL.nil ?_))
  exact W.fit (Hs' := [box b1 _ _, Buf 7 u3 _, Buf 3 kv3 _]) (by (repeat' first | exact Sel.nil | apply Sel.k | exact Pick.h | apply Pick.t)) (W.retC3 (T := Ty) (j := 0) rfl rfl rfl rfl rfl rfl rfl rfl (fun h q => ⟨(u3, kv3), ⟨rfl, by assumption, by assumption⟩, q⟩))
 ·rw [if_neg (by omega), if_pos (by omega)] at hd
  cases hd
  refine W.seq (W.region ?_)
  refine WL.bxF rfl rfl (by repeat' constructor) (fun b0 => ?_)
  refine WL.alF (T := Ty) rfl rfl (by repeat' constructor) (fun b1 => ?_)
  refine WL.as rfl rfl (WL.as rfl rfl (WL.nil (W.seq (W.region (WL.mv rfl rfl (WL.shrS (c := 8) rfl rfl rfl (by omega) (by decide) ?_))))))
  refine WL.callV rfl rfl (fun x p d => key15_c _ _) ?_
  refine WL.alF (T := Ty) rfl rfl (by repeat' constructor) (fun b2 => ?_)
  refine WL.stAO (T := Ty) (j := 0) rfl rfl rfl rfl (by repeat' first | exact AO.nil | apply AO.cons (by first | rfl | exact SL.one (by assumption))) rfl rfl (by repeat' constructor) (by repeat' constructor) ?_
  refine WL.nil (W.seq (W.seq (W.region (WL.mv rfl rfl (WL.andI rfl rfl rfl (by decide) (WL.nil (W.block (W.seq (W.seq (W.region (WL.eql rfl rfl rfl (WL.as rfl rfl (WL.nil ?_)))))))))))))
  refine W.condpF rfl (by omega) (W.seq (W.region (WL.eql rfl rfl rfl (WL.as rfl rfl (WL.nil (W.condpF rfl (by omega) (W.region (WL.eql rfl rfl rfl (WL.as rfl rfl (WL.nil (W.condpF rfl (by omega) (W.seq (W.seq ?_)))))))))))))
  refine W.region (WL.eql rfl rfl rfl (WL.as rfl rfl (WL.nil (W.condpT rfl (by omega) (W.skip (W.condpT rfl (by omega) (W.seq (W.region ?_))))))))
  refine WL.ldAF (T := Ty) (j := 2) rfl rfl rfl rfl rfl rfl (by repeat' constructor) ?_
  refine WL.ldAF (T := Ty) (j := 0) rfl rfl rfl rfl rfl rfl (by repeat' constructor) ?_
  refine WL.callF rfl rfl (fun x p d => touchr_c _ _ _ _ (by first | assumption | exact ClkB.ln (by assumption)) (by first | assumption | exact ROs.wide (by assumption) | exact ROs.mono (by assumption) (eqh_at 0 rfl p d) | exact ros_at 0 rfl p d | exact ros_at 1 rfl p d | exact ros_at 2 rfl p d | exact ros_at 3 rfl p d | exact ros_at 4 rfl p d)) (fun r3 => ?_)
  refine WL.opens (α := Value) (φ := fun v => r3 = .tuple #[.agg #[.int .i64 _, .int .i64 _, v, .int .i64 _, .int .i64 _, .int .i64 _], .bool _] ∧ SL v _) (ps := fun v => [Buf 7 v _]) 0 rfl (fun h q => q) (by repeat' constructor) ?_
  rintro u3 ⟨es3, su3⟩
  subst es3
  dsimp only [List.cons_append, List.nil_append] at su3 ⊢
  refine WL.mv rfl rfl (WL.extL rfl rfl rfl (WL.extL rfl rfl rfl ?_))
  refine WL.alF (T := Ty) rfl rfl (by repeat' constructor) (fun b4 => ?_)
  refine WL.stAO (T := Ty) (j := 0) rfl rfl rfl rfl (by repeat' first | exact AO.nil | apply AO.cons (by first | rfl | exact SL.one (by assumption))) rfl rfl (by repeat' constructor) (by repeat' constructor) ?_
  refine WL.as rfl rfl (WL.nil (W.seq (W.region ?_)))
  refine WL.ldAF (T := Ty) (j := 0) rfl rfl rfl rfl rfl rfl (by repeat' constructor) ?_
  refine WL.mv rfl rfl ?_
  refine WL.stAO (T := Ty) (j := 3) rfl rfl rfl rfl (by repeat' first | exact AO.nil | apply AO.cons (by first | rfl | exact SL.one (by assumption))) rfl rfl (by repeat' constructor) (by repeat' constructor) ?_
  refine WL.as rfl rfl (WL.as rfl rfl (WL.nil (W.nb (sz := 3) ?_)))
  exact W.fit (Hs' := [box b1 _ _, Buf 7 u3 _, Buf 3 nilV []]) (by (repeat' first | exact Sel.nil | apply Sel.k | exact Pick.h | apply Pick.t)) (W.retC3 (T := Ty) (j := 0) rfl rfl rfl rfl rfl rfl rfl rfl (fun h q => ⟨(u3, nilV), ⟨rfl, by assumption, slZ⟩, q⟩))
 ·rw [if_neg (by omega), if_pos (by omega)] at hd
  cases hd
  refine W.seq (W.region ?_)
  refine WL.bxF rfl rfl (by repeat' constructor) (fun b0 => ?_)
  refine WL.alF (T := Ty) rfl rfl (by repeat' constructor) (fun b1 => ?_)
  refine WL.as rfl rfl (WL.as rfl rfl (WL.nil (W.seq (W.region (WL.mv rfl rfl (WL.shrS (c := 8) rfl rfl rfl (by omega) (by decide) ?_))))))
  refine WL.callV rfl rfl (fun x p d => key15_c _ _) ?_
  refine WL.alF (T := Ty) rfl rfl (by repeat' constructor) (fun b2 => ?_)
  refine WL.stAO (T := Ty) (j := 0) rfl rfl rfl rfl (by repeat' first | exact AO.nil | apply AO.cons (by first | rfl | exact SL.one (by assumption))) rfl rfl (by repeat' constructor) (by repeat' constructor) ?_
  refine WL.nil (W.seq (W.seq (W.region (WL.mv rfl rfl (WL.andI rfl rfl rfl (by decide) (WL.nil (W.block (W.seq (W.seq (W.region (WL.eql rfl rfl rfl (WL.as rfl rfl (WL.nil ?_)))))))))))))
  refine W.condpF rfl (by omega) (W.seq (W.region (WL.eql rfl rfl rfl (WL.as rfl rfl (WL.nil (W.condpF rfl (by omega) (W.region (WL.eql rfl rfl rfl (WL.as rfl rfl (WL.nil (W.condpF rfl (by omega) (W.seq (W.seq ?_)))))))))))))
  refine W.region (WL.eql rfl rfl rfl (WL.as rfl rfl (WL.nil (W.condpF rfl (by omega) (W.region (WL.eql rfl rfl rfl (WL.as rfl rfl (WL.nil (W.condpT rfl (by omega) (W.seq (W.region ?_)))))))))))
  refine WL.ldAF (T := Ty) (j := 2) rfl rfl rfl rfl rfl rfl (by repeat' constructor) ?_
  refine WL.ldAF (T := Ty) (j := 0) rfl rfl rfl rfl rfl rfl (by repeat' constructor) ?_
  refine WL.callF rfl rfl (fun x p d => touchr_c _ _ _ _ (by first | assumption | exact ClkB.ln (by assumption)) (by first | assumption | exact ROs.wide (by assumption) | exact ROs.mono (by assumption) (eqh_at 0 rfl p d) | exact ros_at 0 rfl p d | exact ros_at 1 rfl p d | exact ros_at 2 rfl p d | exact ros_at 3 rfl p d | exact ros_at 4 rfl p d)) (fun r3 => ?_)
  refine WL.opens (α := Value) (φ := fun v => r3 = .tuple #[.agg #[.int .i64 _, .int .i64 _, v, .int .i64 _, .int .i64 _, .int .i64 _], .bool _] ∧ SL v _) (ps := fun v => [Buf 7 v _]) 0 rfl (fun h q => q) (by repeat' constructor) ?_
  rintro u3 ⟨es3, su3⟩
  subst es3
  dsimp only [List.cons_append, List.nil_append] at su3 ⊢
  refine WL.mv rfl rfl (WL.extL rfl rfl rfl (WL.extL rfl rfl rfl ?_))
  refine WL.alF (T := Ty) rfl rfl (by repeat' constructor) (fun b4 => ?_)
  refine WL.stAO (T := Ty) (j := 0) rfl rfl rfl rfl (by repeat' first | exact AO.nil | apply AO.cons (by first | rfl | exact SL.one (by assumption))) rfl rfl (by repeat' constructor) (by repeat' constructor) ?_
  refine WL.as rfl rfl (WL.nil (W.seq (W.region ?_)))
  refine WL.ldAF (T := Ty) (j := 0) rfl rfl rfl rfl rfl rfl (by repeat' constructor) ?_
  refine WL.mv rfl rfl ?_
  refine WL.stAO (T := Ty) (j := 3) rfl rfl rfl rfl (by repeat' first | exact AO.nil | apply AO.cons (by first | rfl | exact SL.one (by assumption))) rfl rfl (by repeat' constructor) (by repeat' constructor) ?_
  refine WL.as rfl rfl (WL.as rfl rfl (WL.nil (W.nb (sz := 3) ?_)))
  exact W.fit (Hs' := [box b1 _ _, Buf 7 u3 _, Buf 3 nilV []]) (by (repeat' first | exact Sel.nil | apply Sel.k | exact Pick.h | apply Pick.t)) (W.retC3 (T := Ty) (j := 0) rfl rfl rfl rfl rfl rfl rfl rfl (fun h q => ⟨(u3, nilV), ⟨rfl, by assumption, slZ⟩, q⟩))
 ·rw [if_neg (by omega), if_neg (by omega), if_pos (by omega)] at hd
  cases hd
  refine W.seq (W.region ?_)
  refine WL.bxF rfl rfl (by repeat' constructor) (fun b0 => ?_)
  refine WL.alF (T := Ty) rfl rfl (by repeat' constructor) (fun b1 => ?_)
  refine WL.as rfl rfl (WL.as rfl rfl (WL.nil (W.seq (W.region (WL.mv rfl rfl (WL.shrS (c := 8) rfl rfl rfl (by omega) (by decide) ?_))))))
  refine WL.callV rfl rfl (fun x p d => key15_c _ _) ?_
  refine WL.alF (T := Ty) rfl rfl (by repeat' constructor) (fun b2 => ?_)
  refine WL.stAO (T := Ty) (j := 0) rfl rfl rfl rfl (by repeat' first | exact AO.nil | apply AO.cons (by first | rfl | exact SL.one (by assumption))) rfl rfl (by repeat' constructor) (by repeat' constructor) ?_
  refine WL.nil (W.seq (W.seq (W.region (WL.mv rfl rfl (WL.andI rfl rfl rfl (by decide) (WL.nil (W.block (W.seq (W.seq (W.region (WL.eql rfl rfl rfl (WL.as rfl rfl (WL.nil ?_)))))))))))))
  refine W.condpF rfl (by omega) (W.seq (W.region (WL.eql rfl rfl rfl (WL.as rfl rfl (WL.nil (W.condpF rfl (by omega) (W.region (WL.eql rfl rfl rfl (WL.as rfl rfl (WL.nil (W.condpF rfl (by omega) (W.seq (W.seq ?_)))))))))))))
  refine W.region (WL.eql rfl rfl rfl (WL.as rfl rfl (WL.nil (W.condpF rfl (by omega) (W.region (WL.eql rfl rfl rfl (WL.as rfl rfl (WL.nil (W.condpF rfl (by omega) (W.seq (W.seq (W.region (WL.eql rfl rfl rfl ?_)))))))))))))
  refine WL.as rfl rfl (WL.nil (W.condpT rfl (by omega) (W.skip (W.condpT rfl (by omega) (W.seq (W.region ?_))))))
  refine WL.ldAF (T := Ty) (j := 2) rfl rfl rfl rfl rfl rfl (by repeat' constructor) ?_
  refine WL.ldAF (T := Ty) (j := 0) rfl rfl rfl rfl rfl rfl (by repeat' constructor) ?_
  refine WL.mv rfl rfl (WL.shrS (c := 256) rfl rfl rfl (by omega) (by decide) (WL.andI rfl rfl rfl (by decide) (WL.subK rfl rfl rfl (wrap_i64 ⟨by omega, by omega⟩) (WL.mv rfl rfl (WL.andI rfl rfl rfl (by decide) (WL.subK rfl rfl rfl (wrap_i64 ⟨by omega, by omega⟩) ?_))))))
  refine WL.callF rfl rfl (fun x p d => pinr_c _ _ _ _ _ (by first | assumption | exact ClkB.ln (by assumption)) (by first | assumption | exact ROs.wide (by assumption) | exact ROs.mono (by assumption) (eqh_at 0 rfl p d) | exact ros_at 0 rfl p d | exact ros_at 1 rfl p d | exact ros_at 2 rfl p d | exact ros_at 3 rfl p d | exact ros_at 4 rfl p d)) (fun r3 => ?_)
  refine WL.opens (α := Value) (φ := fun v => r3 = .tuple #[.agg #[.int .i64 _, .int .i64 _, v, .int .i64 _, .int .i64 _, .int .i64 _], .bool _] ∧ SL v _) (ps := fun v => [Buf 7 v _]) 0 rfl (fun h q => q) (by repeat' constructor) ?_
  rintro u3 ⟨es3, su3⟩
  subst es3
  dsimp only [List.cons_append, List.nil_append] at su3 ⊢
  refine WL.mv rfl rfl (WL.extL rfl rfl rfl (WL.extL rfl rfl rfl ?_))
  refine WL.alF (T := Ty) rfl rfl (by repeat' constructor) (fun b4 => ?_)
  refine WL.stAO (T := Ty) (j := 0) rfl rfl rfl rfl (by repeat' first | exact AO.nil | apply AO.cons (by first | rfl | exact SL.one (by assumption))) rfl rfl (by repeat' constructor) (by repeat' constructor) ?_
  refine WL.as rfl rfl (WL.nil (W.seq (W.region ?_)))
  refine WL.ldAF (T := Ty) (j := 0) rfl rfl rfl rfl rfl rfl (by repeat' constructor) ?_
  refine WL.mv rfl rfl ?_
  refine WL.stAO (T := Ty) (j := 3) rfl rfl rfl rfl (by repeat' first | exact AO.nil | apply AO.cons (by first | rfl | exact SL.one (by assumption))) rfl rfl (by repeat' constructor) (by repeat' constructor) ?_
  refine WL.as rfl rfl (WL.as rfl rfl (WL.nil (W.nb (sz := 3) ?_)))
  exact W.fit (Hs' := [box b1 _ _, Buf 7 u3 _, Buf 3 nilV []]) (by (repeat' first | exact Sel.nil | apply Sel.k | exact Pick.h | apply Pick.t)) (W.retC3 (T := Ty) (j := 0) rfl rfl rfl rfl rfl rfl rfl rfl (fun h q => ⟨(u3, nilV), ⟨rfl, by assumption, slZ⟩, q⟩))
 ·rw [if_neg (by omega), if_neg (by omega), if_pos (by omega)] at hd
  cases hd
  refine W.seq (W.region ?_)
  refine WL.bxF rfl rfl (by repeat' constructor) (fun b0 => ?_)
  refine WL.alF (T := Ty) rfl rfl (by repeat' constructor) (fun b1 => ?_)
  refine WL.as rfl rfl (WL.as rfl rfl (WL.nil (W.seq (W.region (WL.mv rfl rfl (WL.shrS (c := 8) rfl rfl rfl (by omega) (by decide) ?_))))))
  refine WL.callV rfl rfl (fun x p d => key15_c _ _) ?_
  refine WL.alF (T := Ty) rfl rfl (by repeat' constructor) (fun b2 => ?_)
  refine WL.stAO (T := Ty) (j := 0) rfl rfl rfl rfl (by repeat' first | exact AO.nil | apply AO.cons (by first | rfl | exact SL.one (by assumption))) rfl rfl (by repeat' constructor) (by repeat' constructor) ?_
  refine WL.nil (W.seq (W.seq (W.region (WL.mv rfl rfl (WL.andI rfl rfl rfl (by decide) (WL.nil (W.block (W.seq (W.seq (W.region (WL.eql rfl rfl rfl (WL.as rfl rfl (WL.nil ?_)))))))))))))
  refine W.condpF rfl (by omega) (W.seq (W.region (WL.eql rfl rfl rfl (WL.as rfl rfl (WL.nil (W.condpF rfl (by omega) (W.region (WL.eql rfl rfl rfl (WL.as rfl rfl (WL.nil (W.condpF rfl (by omega) (W.seq (W.seq ?_)))))))))))))
  refine W.region (WL.eql rfl rfl rfl (WL.as rfl rfl (WL.nil (W.condpF rfl (by omega) (W.region (WL.eql rfl rfl rfl (WL.as rfl rfl (WL.nil (W.condpF rfl (by omega) (W.seq (W.seq (W.region (WL.eql rfl rfl rfl ?_)))))))))))))
  refine WL.as rfl rfl (WL.nil (W.condpF rfl (by omega) (W.region (WL.eql rfl rfl rfl (WL.as rfl rfl (WL.nil (W.condpT rfl (by omega) (W.seq (W.region ?_)))))))))
  refine WL.ldAF (T := Ty) (j := 2) rfl rfl rfl rfl rfl rfl (by repeat' constructor) ?_
  refine WL.ldAF (T := Ty) (j := 0) rfl rfl rfl rfl rfl rfl (by repeat' constructor) ?_
  refine WL.mv rfl rfl (WL.shrS (c := 256) rfl rfl rfl (by omega) (by decide) (WL.andI rfl rfl rfl (by decide) (WL.subK rfl rfl rfl (wrap_i64 ⟨by omega, by omega⟩) (WL.mv rfl rfl (WL.andI rfl rfl rfl (by decide) (WL.subK rfl rfl rfl (wrap_i64 ⟨by omega, by omega⟩) ?_))))))
  refine WL.callF rfl rfl (fun x p d => pinr_c _ _ _ _ _ (by first | assumption | exact ClkB.ln (by assumption)) (by first | assumption | exact ROs.wide (by assumption) | exact ROs.mono (by assumption) (eqh_at 0 rfl p d) | exact ros_at 0 rfl p d | exact ros_at 1 rfl p d | exact ros_at 2 rfl p d | exact ros_at 3 rfl p d | exact ros_at 4 rfl p d)) (fun r3 => ?_)
  refine WL.opens (α := Value) (φ := fun v => r3 = .tuple #[.agg #[.int .i64 _, .int .i64 _, v, .int .i64 _, .int .i64 _, .int .i64 _], .bool _] ∧ SL v _) (ps := fun v => [Buf 7 v _]) 0 rfl (fun h q => q) (by repeat' constructor) ?_
  rintro u3 ⟨es3, su3⟩
  subst es3
  dsimp only [List.cons_append, List.nil_append] at su3 ⊢
  refine WL.mv rfl rfl (WL.extL rfl rfl rfl (WL.extL rfl rfl rfl ?_))
  refine WL.alF (T := Ty) rfl rfl (by repeat' constructor) (fun b4 => ?_)
  refine WL.stAO (T := Ty) (j := 0) rfl rfl rfl rfl (by repeat' first | exact AO.nil | apply AO.cons (by first | rfl | exact SL.one (by assumption))) rfl rfl (by repeat' constructor) (by repeat' constructor) ?_
  refine WL.as rfl rfl (WL.nil (W.seq (W.region ?_)))
  refine WL.ldAF (T := Ty) (j := 0) rfl rfl rfl rfl rfl rfl (by repeat' constructor) ?_
  refine WL.mv rfl rfl ?_
  refine WL.stAO (T := Ty) (j := 3) rfl rfl rfl rfl (by repeat' first | exact AO.nil | apply AO.cons (by first | rfl | exact SL.one (by assumption))) rfl rfl (by repeat' constructor) (by repeat' constructor) ?_
  refine WL.as rfl rfl (WL.as rfl rfl (WL.nil (W.nb (sz := 3) ?_)))
  exact W.fit (Hs' := [box b1 _ _, Buf 7 u3 _, Buf 3 nilV []]) (by (repeat' first | exact Sel.nil | apply Sel.k | exact Pick.h | apply Pick.t)) (W.retC3 (T := Ty) (j := 0) rfl rfl rfl rfl rfl rfl rfl rfl (fun h q => ⟨(u3, nilV), ⟨rfl, by assumption, slZ⟩, q⟩))
 ·rw [if_neg (by omega), if_neg (by omega), if_neg (by omega)] at hd
  by_cases h2 : 0 < x / 256 % (3 + 1)
  ·rw [if_pos h2] at hd
   refine W.seq (W.region ?_)
   refine WL.bxF rfl rfl (by repeat' constructor) (fun b0 => ?_)
   refine WL.alF (T := Ty) rfl rfl (by repeat' constructor) (fun b1 => ?_)
   refine WL.as rfl rfl (WL.as rfl rfl (WL.nil (W.seq (W.region (WL.mv rfl rfl (WL.shrS (c := 8) rfl rfl rfl (by omega) (by decide) ?_))))))
   refine WL.callV rfl rfl (fun x p d => key15_c _ _) ?_
   refine WL.alF (T := Ty) rfl rfl (by repeat' constructor) (fun b2 => ?_)
   refine WL.stAO (T := Ty) (j := 0) rfl rfl rfl rfl (by repeat' first | exact AO.nil | apply AO.cons (by first | rfl | exact SL.one (by assumption))) rfl rfl (by repeat' constructor) (by repeat' constructor) ?_
   refine WL.nil (W.seq (W.seq (W.region (WL.mv rfl rfl (WL.andI rfl rfl rfl (by decide) (WL.nil (W.block (W.seq (W.seq (W.region (WL.eql rfl rfl rfl (WL.as rfl rfl (WL.nil ?_)))))))))))))
   refine W.condpF rfl (by omega) (W.seq (W.region (WL.eql rfl rfl rfl (WL.as rfl rfl (WL.nil (W.condpF rfl (by omega) (W.region (WL.eql rfl rfl rfl (WL.as rfl rfl (WL.nil (W.condpF rfl (by omega) (W.seq (W.seq ?_)))))))))))))
   refine W.region (WL.eql rfl rfl rfl (WL.as rfl rfl (WL.nil (W.condpF rfl (by omega) (W.region (WL.eql rfl rfl rfl (WL.as rfl rfl (WL.nil (W.condpF rfl (by omega) (W.seq (W.seq (W.region (WL.eql rfl rfl rfl ?_)))))))))))))
   refine WL.as rfl rfl (WL.nil (W.condpF rfl (by omega) (W.region (WL.eql rfl rfl rfl (WL.as rfl rfl (WL.nil (W.condpF rfl (by omega) (W.skip (W.inBlock (W.seq (W.seq (W.region (WL.mv rfl rfl ?_)))))))))))))
   refine WL.shrS (c := 256) rfl rfl rfl (by omega) (by decide) (WL.andI rfl rfl rfl (by decide) (WL.gtr rfl rfl rfl (WL.nil (W.condpT rfl (by omega) (W.seq (W.region ?_))))))
   refine WL.ldAF (T := Ty) (j := 2) rfl rfl rfl rfl rfl rfl (by repeat' constructor) ?_
   refine WL.ldAF (T := Ty) (j := 0) rfl rfl rfl rfl rfl rfl (by repeat' constructor) ?_
   refine WL.callF rfl rfl (fun x p d => admitr_c _ _ _ _ _ (by first | assumption | exact Bnd.G (by assumption)) (by first | assumption | exact Bnd.I (by assumption)) (by first | assumption | exact ROs.wide (by assumption) | exact ROs.mono (by assumption) (eqh_at 0 rfl p d) | exact ros_at 0 rfl p d | exact ros_at 1 rfl p d | exact ros_at 2 rfl p d | exact ros_at 3 rfl p d | exact ros_at 4 rfl p d) (by assumption)) (fun r3 => ?_)
   refine WL.opens (α := Value × Value) (φ := fun x => r3 = .tuple #[.agg #[.int .i64 _, .int .i64 _, x.1, .int .i64 _, .int .i64 _, .int .i64 _], x.2, .bool _] ∧ SL x.1 _ ∧ SL x.2 _) (ps := fun x => [Buf 7 x.1 _, Buf 3 x.2 _]) 0 rfl (fun h q => q) (by repeat' constructor) ?_
   rintro ⟨u3, kv3⟩ ⟨es3, su3, sk3⟩
   subst es3
   dsimp only [List.cons_append, List.nil_append] at su3 sk3 ⊢
   refine WL.extL rfl rfl rfl (WL.extL rfl rfl rfl (WL.extL rfl rfl rfl ?_))
   refine WL.stAO (T := Ty) (j := 3) rfl rfl rfl rfl (by repeat' first | exact AO.nil | apply AO.cons (by first | rfl | exact SL.one (by assumption))) rfl rfl (by repeat' constructor) (by repeat' constructor) ?_
   refine WL.as rfl rfl (WL.as rfl rfl (WL.nil ?_))
   exact W.fit (Hs' := [box b1 _ _, Buf 7 u3 _, Buf 3 kv3 _]) (by (repeat' first | exact Sel.nil | apply Sel.k | exact Pick.h | apply Pick.t)) (W.retC3 (T := Ty) (j := 0) rfl rfl rfl rfl rfl rfl rfl rfl (fun h q => ⟨(u3, kv3), ⟨rfl, by assumption, by assumption⟩, q⟩))
  ·rw [if_neg h2] at hd
   cases hd
   refine W.seq (W.region ?_)
   refine WL.bxF rfl rfl (by repeat' constructor) (fun b0 => ?_)
   refine WL.alF (T := Ty) rfl rfl (by repeat' constructor) (fun b1 => ?_)
   refine WL.as rfl rfl (WL.as rfl rfl (WL.nil (W.seq (W.region (WL.mv rfl rfl (WL.shrS (c := 8) rfl rfl rfl (by omega) (by decide) ?_))))))
   refine WL.callV rfl rfl (fun x p d => key15_c _ _) ?_
   refine WL.alF (T := Ty) rfl rfl (by repeat' constructor) (fun b2 => ?_)
   refine WL.stAO (T := Ty) (j := 0) rfl rfl rfl rfl (by repeat' first | exact AO.nil | apply AO.cons (by first | rfl | exact SL.one (by assumption))) rfl rfl (by repeat' constructor) (by repeat' constructor) ?_
   refine WL.nil (W.seq (W.seq (W.region (WL.mv rfl rfl (WL.andI rfl rfl rfl (by decide) (WL.nil (W.block (W.seq (W.seq (W.region (WL.eql rfl rfl rfl (WL.as rfl rfl (WL.nil ?_)))))))))))))
   refine W.condpF rfl (by omega) (W.seq (W.region (WL.eql rfl rfl rfl (WL.as rfl rfl (WL.nil (W.condpF rfl (by omega) (W.region (WL.eql rfl rfl rfl (WL.as rfl rfl (WL.nil (W.condpF rfl (by omega) (W.seq (W.seq ?_)))))))))))))
   refine W.region (WL.eql rfl rfl rfl (WL.as rfl rfl (WL.nil (W.condpF rfl (by omega) (W.region (WL.eql rfl rfl rfl (WL.as rfl rfl (WL.nil (W.condpF rfl (by omega) (W.seq (W.seq (W.region (WL.eql rfl rfl rfl ?_)))))))))))))
   refine WL.as rfl rfl (WL.nil (W.condpF rfl (by omega) (W.region (WL.eql rfl rfl rfl (WL.as rfl rfl (WL.nil (W.condpF rfl (by omega) (W.skip (W.inBlock (W.seq (W.seq (W.region (WL.mv rfl rfl ?_)))))))))))))
   refine WL.shrS (c := 256) rfl rfl rfl (by omega) (by decide) (WL.andI rfl rfl rfl (by decide) (WL.gtr rfl rfl rfl (WL.nil (W.condpF rfl (by omega) (W.skip (W.seq (W.region ?_)))))))
   refine WL.ldAF (T := Ty) (j := 2) rfl rfl rfl rfl rfl rfl (by repeat' constructor) ?_
   refine WL.ldAF (T := Ty) (j := 0) rfl rfl rfl rfl rfl rfl (by repeat' constructor) ?_
   refine WL.callF rfl rfl (fun x p d => dropr_c _ _ _ _ (by first | assumption | exact Bnd.G (by assumption)) (by first | assumption | exact ROs.wide (by assumption) | exact ROs.mono (by assumption) (eqh_at 0 rfl p d) | exact ros_at 0 rfl p d | exact ros_at 1 rfl p d | exact ros_at 2 rfl p d | exact ros_at 3 rfl p d | exact ros_at 4 rfl p d)) (fun r3 => ?_)
   refine WL.opens (α := Value) (φ := fun v => r3 = .tuple #[.agg #[.int .i64 _, .int .i64 _, v, .int .i64 _, .int .i64 _, .int .i64 _], .bool _] ∧ SL v _) (ps := fun v => [Buf 7 v _]) 0 rfl (fun h q => q) (by repeat' constructor) ?_
   rintro u3 ⟨es3, su3⟩
   subst es3
   dsimp only [List.cons_append, List.nil_append] at su3 ⊢
   refine WL.mv rfl rfl (WL.extL rfl rfl rfl (WL.extL rfl rfl rfl ?_))
   refine WL.alF (T := Ty) rfl rfl (by repeat' constructor) (fun b4 => ?_)
   refine WL.stAO (T := Ty) (j := 0) rfl rfl rfl rfl (by repeat' first | exact AO.nil | apply AO.cons (by first | rfl | exact SL.one (by assumption))) rfl rfl (by repeat' constructor) (by repeat' constructor) ?_
   refine WL.as rfl rfl (WL.nil (W.seq (W.region ?_)))
   refine WL.ldAF (T := Ty) (j := 0) rfl rfl rfl rfl rfl rfl (by repeat' constructor) ?_
   refine WL.mv rfl rfl ?_
   refine WL.stAO (T := Ty) (j := 3) rfl rfl rfl rfl (by repeat' first | exact AO.nil | apply AO.cons (by first | rfl | exact SL.one (by assumption))) rfl rfl (by repeat' constructor) (by repeat' constructor) ?_
   refine WL.as rfl rfl (WL.as rfl rfl (WL.nil (W.nb (sz := 3) ?_)))
   exact W.fit (Hs' := [box b1 _ _, Buf 7 u3 _, Buf 3 nilV []]) (by (repeat' first | exact Sel.nil | apply Sel.k | exact Pick.h | apply Pick.t)) (W.retC3 (T := Ty) (j := 0) rfl rfl rfl rfl rfl rfl rfl rfl (fun h q => ⟨(u3, nilV), ⟨rfl, by assumption, slZ⟩, q⟩))
attribute [local irreducible] clockP
theorem same15k_e (ρ : Hp) (a b : List Ky) (v v' : Value) (z : Bool) (hl : a.length ≤ 1000000) (hl2 : b.length ≤ 1000000) (r0 : ROs ρ 3 v (a.flatMap kyC)) (r1 : ROs ρ 3 v' (b.flatMap kyC)) (hz : decide (a = b) = z) :
    Fn Try.prog 42 #[v, v'] ρ [] (Just (.bool z)) := by
  have l1 := ky_cells a
  have l2 := ky_cells b
  have sv : SL v a.length := r0.sl l1 (by omega)
  have sv' : SL v' b.length := r1.sl l2 (by omega)
  refine in42 rfl rfl ?_
  by_cases e5 : a.length = b.length
  · refine W.seq ?_
    refine W.region (WL.as rfl rfl (WL.nil (W.seq (W.seq (W.region (WL.mv rfl rfl ?_))))))
    refine WL.len (T := Ty) rfl rfl (by assumption) rfl ?_
    refine WL.mv rfl rfl ?_
    refine WL.len (T := Ty) rfl rfl (by assumption) rfl ?_
    refine WL.neq rfl rfl rfl (WL.nil (W.condpF rfl (by omega) (W.skip (W.seq (W.seq (W.region (WL.mv rfl rfl ?_)))))))
    refine WL.len (T := Ty) rfl rfl (by assumption) rfl ?_
    refine WL.mv rfl rfl (WL.nil (W.block ?_))
    refine W.loopR (σ := Nat) (fun i => [(0, v), (1, v'), (12, .int .i64 (a.length : Int)), (13, .int .i64 (i : Int))]) (fun i => []) (fun i ρ' => i ≤ a.length ∧ a.take i = b.take i) (fun i => a.length - i)
      0 ⟨rfl, rfl, rfl, rfl, trivial⟩ rfl ⟨Nat.zero_le _, rfl⟩ ?_
    rintro i ρ1 le1 ⟨hi, ht⟩ next
    replace r0 := r0.mono le1
    replace r1 := r1.mono le1
    by_cases hc : i < a.length
    · obtain ⟨q, hq⟩ : ∃ q, a[i]? = some q := ⟨_, List.getElem?_eq_getElem hc⟩
      obtain ⟨q', hq'⟩ : ∃ q, b[i]? = some q := ⟨_, List.getElem?_eq_getElem (by omega)⟩
      have hr : ((a.flatMap kyC).drop (((i : Nat) : Int).toNat * 3)).take 3 = kyC q := flat_row (k := 3) (f := kyC) (fun _ => rfl) hq
      have hr' : ((b.flatMap kyC).drop (((i : Nat) : Int).toNat * 3)).take 3 = kyC q' := flat_row (k := 3) (f := kyC) (fun _ => rfl) hq'
      unfold kyC at hr hr'
      have hpd := ky_dec q q'
      by_cases hqq : q = q'
      · rw [decide_eq_true hqq] at hpd
        refine W.seq (W.region (WL.lss rfl rfl rfl (WL.nil (W.seq (W.condpT rfl (by omega) (W.skip (W.seq (W.block (W.seq (W.region (WL.mv rfl rfl (WL.as rfl rfl (WL.nil ?_)))))))))))))
        refine W.seq ?_
        refine W.drawA 9 rfl (fun σ0 hσ0 dσ0 => ?_)
        refine WD.takeL 0 rfl (by decide +kernel) (WL.mv rfl rfl (WL.nilT (WD.takeL 1 rfl (by decide +kernel) (WL.mv rfl rfl (WL.nilT (WD.takeL 2 rfl (by decide +kernel) ?_))))))
        refine WL.ix (T := Ty) rfl rfl rfl (by assumption) rfl rfl (by omega) (by first | omega | decide +kernel) ?_
        refine WL.nilT (WD.takeL 3 rfl (by decide +kernel) ?_)
        refine WL.ldAR (T := Ty) rfl rfl rfl rfl (by first | assumption | exact ROs.wide (by assumption)) (by assumption) rfl ?_
        refine WL.nilT (WD.takeL 4 rfl (by decide +kernel) (WL.mv rfl rfl (WL.nilT (WD.takeL 5 rfl (by decide +kernel) (WL.mv rfl rfl (WL.nilT (WD.takeL 6 rfl (by decide +kernel) ?_)))))))
        refine WL.ix (T := Ty) rfl rfl rfl (by assumption) rfl rfl (by omega) (by first | omega | decide +kernel) ?_
        refine WL.nilT (WD.takeL 7 rfl (by decide +kernel) ?_)
        refine WL.ldAR (T := Ty) rfl rfl rfl rfl (by first | assumption | exact ROs.wide (by assumption)) (by assumption) rfl ?_
        refine WL.nilT (WD.takeL 8 rfl (by decide +kernel) ?_)
        refine WL.neFe (T := Ty) rfl rfl rfl rfl (by repeat' first | exact FE.nil | apply FE.int (by decide) rfl rfl rfl rfl | apply FE.bool (by decide) rfl rfl rfl rfl | apply FE.sub (by decide) rfl (by kernel_rfl) rfl rfl) (by kernel_rfl) (by kernel_rfl) (by assumption) ?_
        refine WL.nilT ?_
        refine WD.doneF hσ0 (by decide +kernel) (by repeat' constructor) ?_
        refine W.condF rfl (W.skip (W.inBlock (W.region (WL.addK rfl rfl rfl (wrap_i64 ⟨by omega, by omega⟩) (WL.mv rfl rfl (WL.nil ?_))))))
        refine W.fit (Hs' := []) (by (repeat' first | exact Sel.nil | apply Sel.k | exact Pick.h | apply Pick.t)) (W.sub ?_ (next (i + 1) ρ1 (Le.refl _) ⟨by omega, take_eq_succ ht hq (hqq ▸ hq')⟩ (by omega)))
        exact ⟨rfl, rfl, rfl, rfl, trivial⟩
      · rw [decide_eq_false hqq] at hpd
        refine W.seq (W.region (WL.lss rfl rfl rfl (WL.nil (W.seq (W.condpT rfl (by omega) (W.skip (W.seq (W.block (W.seq (W.region (WL.mv rfl rfl (WL.as rfl rfl (WL.nil ?_)))))))))))))
        refine W.seq ?_
        refine W.drawA 9 rfl (fun σ0 hσ0 dσ0 => ?_)
        refine WD.takeL 0 rfl (by decide +kernel) (WL.mv rfl rfl (WL.nilT (WD.takeL 1 rfl (by decide +kernel) (WL.mv rfl rfl (WL.nilT (WD.takeL 2 rfl (by decide +kernel) ?_))))))
        refine WL.ix (T := Ty) rfl rfl rfl (by assumption) rfl rfl (by omega) (by first | omega | decide +kernel) ?_
        refine WL.nilT (WD.takeL 3 rfl (by decide +kernel) ?_)
        refine WL.ldAR (T := Ty) rfl rfl rfl rfl (by first | assumption | exact ROs.wide (by assumption)) (by assumption) rfl ?_
        refine WL.nilT (WD.takeL 4 rfl (by decide +kernel) (WL.mv rfl rfl (WL.nilT (WD.takeL 5 rfl (by decide +kernel) (WL.mv rfl rfl (WL.nilT (WD.takeL 6 rfl (by decide +kernel) ?_)))))))
        refine WL.ix (T := Ty) rfl rfl rfl (by assumption) rfl rfl (by omega) (by first | omega | decide +kernel) ?_
        refine WL.nilT (WD.takeL 7 rfl (by decide +kernel) ?_)
        refine WL.ldAR (T := Ty) rfl rfl rfl rfl (by first | assumption | exact ROs.wide (by assumption)) (by assumption) rfl ?_
        refine WL.nilT (WD.takeL 8 rfl (by decide +kernel) ?_)
        refine WL.neFe (T := Ty) rfl rfl rfl rfl (by repeat' first | exact FE.nil | apply FE.int (by decide) rfl rfl rfl rfl | apply FE.bool (by decide) rfl rfl rfl rfl | apply FE.sub (by decide) rfl (by kernel_rfl) rfl rfl) (by kernel_rfl) (by kernel_rfl) (by assumption) ?_
        refine WL.nilT ?_
        refine WD.doneF hσ0 (by decide +kernel) (by repeat' constructor) ?_
        refine W.condT rfl (W.seq (W.region (WL.as rfl rfl (WL.nil ?_))))
        exact W.fit (Hs' := []) (by (repeat' first | exact Sel.nil | apply Sel.k | exact Pick.h | apply Pick.t)) (W.ret1 rfl rfl (fun h p => ⟨by rw [← hz, decide_eq_false (ne_of_get hq hq' hqq)], p⟩))
    · have hll : a = b := by rw [List.take_of_length_le (by omega), List.take_of_length_le (by omega)] at ht; exact ht
      refine W.seq (W.region (WL.lss rfl rfl rfl (WL.nil (W.seq (W.condpF rfl (by omega) (W.exit rfl (W.seq (W.region (WL.as rfl rfl (WL.nil ?_))))))))))
      exact W.fit (Hs' := []) (by (repeat' first | exact Sel.nil | apply Sel.k | exact Pick.h | apply Pick.t)) (W.ret1 rfl rfl (fun h p => ⟨by rw [← hz, decide_eq_true hll], p⟩))
  · refine W.seq ?_
    refine W.region (WL.as rfl rfl (WL.nil (W.seq (W.seq (W.region (WL.mv rfl rfl ?_))))))
    refine WL.len (T := Ty) rfl rfl (by assumption) rfl ?_
    refine WL.mv rfl rfl ?_
    refine WL.len (T := Ty) rfl rfl (by assumption) rfl ?_
    refine WL.neq rfl rfl rfl (WL.nil (W.condpT rfl (by omega) (W.seq (W.region (WL.as rfl rfl (WL.nil ?_))))))
    exact W.fit (Hs' := []) (by (repeat' first | exact Sel.nil | apply Sel.k | exact Pick.h | apply Pick.t)) (W.ret1 rfl rfl (fun h p => ⟨by rw [← hz, decide_eq_false (fun e => e5 (by rw [e]))], p⟩))
end Go.Proofs.Ytbebhmdjnneimaa
