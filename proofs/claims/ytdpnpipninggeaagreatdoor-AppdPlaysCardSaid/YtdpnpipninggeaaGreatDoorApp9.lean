/- Samples that come: what the document fixes. -/
import Derived.Test.YtdpnpipninggeaaGreatDoorStc
import Derived.Test.YtdpnpipninggeaaGreatDoorNum
import Derived.Test.YtdpnpipninggeaaGreatDoorTab
import Derived.Test.YtdpnpipninggeaaGreatDoorApp4
import Derived.Test.YtdpnpipninggeaaGreatDoorApp7
set_option linter.unusedSimpArgs false
set_option linter.unusedVariables false
set_option maxRecDepth 20000
set_option maxHeartbeats 4000000
namespace Go.Proofs.YtdpnpipninggeaaGreatDoor
open Go
def one5 : List Smp := [(-5, 1)]
theorem one5_ok : SmOK one5 := by
  intro s hs
  rw [List.mem_singleton.1 hs]
  exact ⟨by show i64ok (-5); unfold i64ok; omega, by decide, by decide⟩
theorem one5_ris : risB one5 = true := by unfold risB one5; simp
theorem one5_mk : mkC one5 = chk one5 := by unfold mkC mkOK; rw [one5_ris]; rfl
theorem one5_len : one5.length = 1 := rfl
attribute [local irreducible] W WL Fn Buf ROs SL eptr box Rd Src bndOK WD RB Reads In Own mkC chk encTs encX pack vputF vgetF decTs decX risB sumR tms vls vlI sB tB xB frsT lstT na n1 n2 n3 zigF
theorem awake13_c (ρ : Hp) (hT : TabG ρ) : Fn Tryz.prog 11 #[] ρ [] (fun r _ => r = .bool true) := by
  have ho := one5_ok
  have hr := one5_ris
  have hm := one5_mk
  have hln := one5_len
  have hp : 0 < one5.length := by rw [hln]; decide
  have hz : ([] : List Smp).flatMap smC = [] := rfl
  refine in11 rfl rfl ?_
  refine W.seq (W.region (WL.as rfl rfl (WL.nil (W.seq (W.region ?_)))))
  refine WL.bdC (T := Ty) rfl rfl rfl rfl (by repeat' first | exact CO.nil | apply CO.one (by first | rfl | exact SL.one (by assumption)) | apply CO.agg) rfl (by repeat' constructor) ?_
  refine WL.bdC (T := Ty) rfl rfl rfl rfl (by repeat' first | exact CO.nil | apply CO.one (by first | rfl | exact SL.one (by assumption)) | apply CO.agg) rfl (by repeat' constructor) ?_
  refine WL.callF rfl rfl (fun x p d => addO_z _ _ _ _ _ (by first | exact .inl rfl | assumption | exact .inr (by omega))) (fun r0 => ?_)
  refine WL.opens (α := Value) (φ := fun v => r0 = .tuple #[.agg #[.bool true, .int .i64 _, v], .int .i64 0] ∧ SL v _) (ps := fun v => [Buf 2 v _]) 0 rfl (fun h q => q) (by repeat' constructor) ?_
  rintro u0 ⟨es0, su0⟩
  subst es0
  dsimp only [List.cons_append, List.nil_append] at su0 ⊢
  refine WL.mv rfl rfl (WL.extL rfl rfl rfl (WL.extL rfl rfl rfl ?_))
  refine WL.alF (T := Ty) rfl rfl (by repeat' constructor) (fun b1 => ?_)
  refine WL.stAO (T := Ty) (j := 0) rfl rfl rfl rfl (by repeat' first | exact AO.nil | apply AO.cons (by first | rfl | exact SL.one (by assumption))) rfl rfl (by repeat' constructor) (by repeat' constructor) ?_
  refine WL.as rfl rfl (WL.nil (W.seq (W.region ?_)))
  refine WL.ldAF (T := Ty) (j := 0) rfl rfl rfl rfl rfl rfl (by repeat' constructor) ?_
  refine WL.bdC (T := Ty) rfl rfl rfl rfl (by repeat' first | exact CO.nil | apply CO.one (by first | rfl | exact SL.one (by assumption)) | apply CO.agg) rfl (by repeat' constructor) ?_
  refine WL.fit (Hs' := [box b1 _ _, Buf 2 u0 (one5.flatMap smC)]) (by (repeat' first | exact Sel.nil | apply Sel.k | exact Pick.h | apply Pick.t)) ?_
  have snil : SL nilV 0 := slZ
  have hs5 : SL u0 one5.length := by assumption
  refine WL.callF rfl rfl (fun x p d => addE_c _ _ _ _ _ _ _ (by first | assumption | exact ROs.wide (by assumption) | exact ROs.mono (by assumption) (eqh_at 0 rfl p d) | exact ros_at 0 rfl p d | exact ros_at 1 rfl p d | exact ros_at 2 rfl p d | exact ros_at 3 rfl p d | exact ros_at 4 rfl p d) (by first | assumption | omega) (by first | rfl | assumption) (by first | assumption | omega)) (fun r2 => ?_)
  refine WL.opens (α := Value) (φ := fun v => r2 = .tuple #[.agg #[.bool _, .int .i64 _, v], .int .i64 1] ∧ SL v _) (ps := fun v => [Buf 2 v _]) 0 rfl (fun h q => q) (by repeat' constructor) ?_
  rintro u2 ⟨es2, su2⟩
  subst es2
  dsimp only [List.cons_append, List.nil_append] at su2 ⊢
  refine WL.mv rfl rfl (WL.extL rfl rfl rfl (WL.extL rfl rfl rfl ?_))
  refine WL.alF (T := Ty) rfl rfl (by repeat' constructor) (fun b3 => ?_)
  refine WL.stAO (T := Ty) (j := 0) rfl rfl rfl rfl (by repeat' first | exact AO.nil | apply AO.cons (by first | rfl | exact SL.one (by assumption))) rfl rfl (by repeat' constructor) (by repeat' constructor) ?_
  refine WL.as rfl rfl (WL.nil (W.seq (W.region ?_)))
  refine WL.ldAF (T := Ty) (j := 2) rfl rfl rfl rfl rfl rfl (by repeat' constructor) ?_
  refine WL.callF rfl rfl (fun x p d => close13_c _ _ _ _ _ (by first | assumption | exact ROs.wide (by assumption) | exact ROs.mono (by assumption) (eqh_at 0 rfl p d) | exact ros_at 0 rfl p d | exact ros_at 1 rfl p d | exact ros_at 2 rfl p d | exact ros_at 3 rfl p d | exact ros_at 4 rfl p d) (by assumption) (by first | assumption | omega) (TabG.wide (by assumption))) (fun r4 => ?_)
  refine WL.opens (α := Value) (φ := fun v => r4 = .tuple #[v, .agg #[.bool _, .int .i64 _, nilV]] ∧ SL v _) (ps := fun v => [Buf 1 v _]) 0 rfl (fun h q => q) (by repeat' constructor) ?_
  rintro u4 ⟨es4, su4⟩
  subst es4
  dsimp only [List.cons_append, List.nil_append] at su4 ⊢
  refine WL.mv rfl rfl (WL.extL rfl rfl rfl (WL.extL rfl rfl rfl ?_))
  refine WL.alF (T := Ty) rfl rfl (by repeat' constructor) (fun b5 => ?_)
  refine WL.as rfl rfl ?_
  refine WL.stAO (T := Ty) (j := 0) rfl rfl rfl rfl (by repeat' first | exact AO.nil | apply AO.cons (by first | rfl | exact SL.one (by assumption))) rfl rfl (by repeat' constructor) (by repeat' constructor) ?_
  refine WL.nil (W.seq (W.region (WL.mv rfl rfl ?_)))
  rw [hm]
  refine WL.callF rfl rfl (fun x p d => ropen_c _ _ _ (by first | assumption | exact ROs.wide (by assumption) | exact ROs.mono (by assumption) (eqh_at 0 rfl p d) | exact ros_at 0 rfl p d | exact ros_at 1 rfl p d | exact ros_at 2 rfl p d | exact ros_at 3 rfl p d | exact ros_at 4 rfl p d) (by assumption) (by first | assumption | omega) (by first | assumption | omega) (by assumption) (TabG.wide (by assumption))) (fun r6 => ?_)
  refine WL.opens (α := Value) (φ := fun v => r6 = .tuple #[v, .int .i64 1, .bool true] ∧ SL v _) (ps := fun v => [Buf 2 v _]) 0 rfl (fun h q => q) (by repeat' constructor) ?_
  rintro u6 ⟨es6, su6⟩
  subst es6
  dsimp only [List.cons_append, List.nil_append] at su6 ⊢
  refine WL.mv rfl rfl (WL.extL rfl rfl rfl (WL.extL rfl rfl rfl (WL.extL rfl rfl rfl (WL.as rfl rfl (WL.as rfl rfl (WL.as rfl rfl (WL.nil (W.seq (W.region ?_)))))))))
  refine WL.ldAF (T := Ty) (j := 1) rfl rfl rfl rfl rfl rfl (by repeat' constructor) ?_
  refine WL.bdC (T := Ty) rfl rfl rfl rfl (by repeat' first | exact CO.nil | apply CO.one (by first | rfl | exact SL.one (by assumption)) | apply CO.agg) rfl (by repeat' constructor) ?_
  refine WL.callF rfl rfl (fun x p d => addE_z _ _ _ _ _ (by first | rfl | assumption) (by first | assumption | omega)) (fun r7 => ?_)
  refine WL.opens (α := Value) (φ := fun v => r7 = .tuple #[.agg #[.bool _, .int .i64 _, v], .int .i64 1] ∧ SL v _) (ps := fun v => [Buf 2 v _]) 0 rfl (fun h q => q) (by repeat' constructor) ?_
  rintro u7 ⟨es7, su7⟩
  subst es7
  dsimp only [List.cons_append, List.nil_append] at su7 ⊢
  refine WL.mv rfl rfl (WL.extL rfl rfl rfl (WL.extL rfl rfl rfl ?_))
  refine WL.alF (T := Ty) rfl rfl (by repeat' constructor) (fun b8 => ?_)
  refine WL.stAO (T := Ty) (j := 0) rfl rfl rfl rfl (by repeat' first | exact AO.nil | apply AO.cons (by first | rfl | exact SL.one (by assumption))) rfl rfl (by repeat' constructor) (by repeat' constructor) ?_
  refine WL.as rfl rfl (WL.nil (W.seq (W.region (WL.mv rfl rfl (WL.eql rfl rfl rfl (WL.mv rfl rfl (WL.gY rfl rfl (WL.mv rfl rfl (WL.gY rfl rfl (WL.eql rfl rfl rfl (WL.pickT rfl rfl rfl (WL.mv rfl rfl (WL.gY rfl rfl ?_)))))))))))))
  refine WL.faN (T := Ty) (off' := 2) rfl rfl rfl rfl rfl rfl rfl (WL.gY rfl rfl (WL.ldN (T := Ty) (j := 5) rfl rfl rfl rfl rfl rfl (WL.gY rfl rfl ?_)))
  refine WL.len (T := Ty) rfl rfl (by assumption) rfl ?_
  refine WL.gY rfl rfl (WL.eql rfl rfl rfl (WL.pickT rfl rfl rfl (WL.mv rfl rfl (WL.gY rfl rfl (WL.mv rfl rfl (WL.pickT rfl rfl rfl (WL.mv rfl rfl (WL.gY rfl rfl (WL.mv rfl rfl (WL.gY rfl rfl (WL.eql rfl rfl rfl (WL.pickT rfl rfl rfl (WL.mv rfl rfl ?_)))))))))))))
  refine WL.gY rfl rfl (WL.mv rfl rfl (WL.gY rfl rfl ?_))
  refine WL.len (T := Ty) rfl rfl (by assumption) rfl ?_
  refine WL.gY rfl rfl (WL.eql rfl rfl rfl (WL.pickT rfl rfl rfl (WL.mv rfl rfl (WL.gY rfl rfl (WL.faN (T := Ty) (off' := 0) rfl rfl rfl rfl rfl rfl rfl (WL.gY rfl rfl (WL.ldN (T := Ty) (j := 3) rfl rfl rfl rfl rfl rfl (WL.pickT rfl rfl rfl (WL.mv rfl rfl (WL.gY rfl rfl (WL.faN (T := Ty) (off' := 1) rfl rfl rfl rfl rfl rfl rfl (WL.gY rfl rfl (WL.ldN (T := Ty) (j := 3) rfl rfl rfl rfl rfl rfl ?_)))))))))))))
  refine WL.gY rfl rfl (WL.eql rfl rfl rfl (WL.pickT rfl rfl rfl (WL.mv rfl rfl (WL.gY rfl rfl (WL.faN (T := Ty) (off' := 2) rfl rfl rfl rfl rfl rfl rfl (WL.gY rfl rfl (WL.ldN (T := Ty) (j := 3) rfl rfl rfl rfl rfl rfl (WL.gY rfl rfl ?_))))))))
  refine WL.len (T := Ty) rfl rfl (by assumption) rfl ?_
  refine WL.gY rfl rfl (WL.eql rfl rfl rfl (WL.pickT rfl rfl rfl (WL.mv rfl rfl (WL.gY rfl rfl (WL.mv rfl rfl (WL.gY rfl rfl (WL.eql rfl rfl rfl (WL.pickT rfl rfl rfl (WL.mv rfl rfl (WL.gY rfl rfl ?_))))))))))
  refine WL.ldAF (T := Ty) (j := 7) rfl rfl rfl rfl rfl rfl (by repeat' constructor) ?_
  refine WL.gY rfl rfl ?_
  refine WL.callV rfl rfl (fun x p d => size13_c _ _ _ _ _ (by assumption) (by first | assumption | omega)) ?_
  refine WL.gY rfl rfl (WL.eql rfl rfl rfl (WL.pickT rfl rfl rfl (WL.mv rfl rfl (WL.gY rfl rfl ?_))))
  refine WL.ldAF (T := Ty) (j := 7) rfl rfl rfl rfl rfl rfl (by repeat' constructor) ?_
  refine WL.gY rfl rfl ?_
  refine WL.callV rfl rfl (fun x p d => full13_c _ _ _ _ _ (by assumption)) ?_
  refine WL.gY rfl rfl (WL.notp rfl rfl (WL.pickT rfl rfl rfl (WL.as rfl rfl (WL.nil ?_))))
  exact W.fit (Hs' := []) (by (repeat' first | exact Sel.nil | apply Sel.k | exact Pick.h | apply Pick.t)) (W.ret1 rfl rfl (fun h q => by rw [decide_eq_true (by omega)]))
end Go.Proofs.YtdpnpipninggeaaGreatDoor
