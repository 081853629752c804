/- Numbers of any length: what the document fixes. -/
import Derived.Test.YtimioninoafkhaaVal
import Derived.Test.YtimioninoafkhaaNum
import Derived.Test.YtimioninoafkhaaTab
import Derived.Test.YtimioninoafkhaaVint2
set_option linter.unusedSimpArgs false
set_option linter.unusedVariables false
set_option maxRecDepth 20000
namespace Go.Proofs.Ytimioninoafkhaa
open Go
attribute [local irreducible] W WL Fn Buf ROs SL eptr box Rd Src bndOK WD RB

theorem awake2_c (ρ : Hp) : Fn Try.prog 22 #[] ρ [] (fun r _ => r = .bool true) := by
  refine in22 rfl rfl ?_
  have g1 : vgetF 0 0 [172, 2, 9] = (300, 2) := by decide
  have g2 : vgetF 0 0 [128, 0] = (0, 0) := by decide
  have z1 : zigF (-1) = 1 := by decide
  have z2 : zigF 1 = 2 := by decide
  have z3 : zagF 3 = -2 := by decide
  have z4 : zigF (-9223372036854775808) = 18446744073709551615 := by decide
  have p1 : vputF 9 300 = [172, 2] := by decide
  have hs : strN ([] ++ vputF 9 300) = ⟨#[172, 2]⟩ := by rw [p1]; rfl
  refine W.seq ?_
  refine W.region ?_
  refine WL.as rfl rfl ?_
  refine WL.nil ?_
  refine W.seq ?_
  refine W.region ?_
  refine WL.bs (T := Ty) rfl rfl rfl rfl rfl rfl rfl rfl (by repeat' first | exact FL.nil | apply FL.cons) (fun _ _ => ?_)
  refine WL.callV (v := .tuple #[.int .u64 300, .int .i64 2]) rfl rfl (fun x p d => Fn.val (by rw [g1]; rfl) (vget_c _ _ [172, 2, 9] (ros_at 0 rfl p d) (by decide) (by decide))) ?_
  refine WL.mv rfl rfl ?_
  refine WL.extL rfl rfl rfl ?_
  refine WL.extL rfl rfl rfl ?_
  refine WL.as rfl rfl ?_
  refine WL.as rfl rfl ?_
  refine WL.nil ?_
  refine W.seq ?_
  refine W.region ?_
  refine WL.bs (T := Ty) rfl rfl rfl rfl rfl rfl rfl rfl (by repeat' first | exact FL.nil | apply FL.cons) (fun _ _ => ?_)
  refine WL.callV (v := .tuple #[.int .u64 0, .int .i64 0]) rfl rfl (fun x p d => Fn.val (by rw [g2]; rfl) (vget_c _ _ [128, 0] (ros_at 0 rfl p d) (by decide) (by decide))) ?_
  refine WL.mv rfl rfl ?_
  refine WL.extL rfl rfl rfl ?_
  refine WL.extL rfl rfl rfl ?_
  refine WL.as rfl rfl ?_
  refine WL.as rfl rfl ?_
  refine WL.nil ?_
  refine W.seq ?_
  refine W.region ?_
  refine WL.callV rfl rfl (fun x p d => zig_c _ (-1) ⟨by decide, by decide⟩) ?_
  refine WL.eql rfl rfl rfl ?_
  refine WL.mv rfl rfl ?_
  refine WL.gY rfl rfl ?_
  refine WL.callV rfl rfl (fun x p d => zig_c _ 1 ⟨by decide, by decide⟩) ?_
  refine WL.gY rfl rfl ?_
  refine WL.eql rfl rfl rfl ?_
  refine WL.pickT rfl rfl rfl ?_
  refine WL.mv rfl rfl ?_
  refine WL.gY rfl rfl ?_
  refine WL.callV rfl rfl (fun x p d => zag_c _ 3 (by decide)) ?_
  refine WL.gY rfl rfl ?_
  refine WL.eql rfl rfl rfl ?_
  refine WL.pickT rfl rfl rfl ?_
  refine WL.mv rfl rfl ?_
  refine WL.gY rfl rfl ?_
  refine WL.callV rfl rfl (fun x p d => zig_c _ (-9223372036854775808) ⟨by decide, by decide⟩) ?_
  refine WL.gY rfl rfl ?_
  refine WL.eql rfl rfl rfl ?_
  refine WL.pickT rfl rfl rfl ?_
  refine WL.mv rfl rfl ?_
  refine WL.gY rfl rfl ?_
  refine WL.mv rfl rfl ?_
  refine WL.gY rfl rfl ?_
  refine WL.eql rfl rfl rfl ?_
  refine WL.pickT rfl rfl rfl ?_
  refine WL.mv rfl rfl ?_
  refine WL.gY rfl rfl ?_
  refine WL.mv rfl rfl ?_
  refine WL.gY rfl rfl ?_
  refine WL.eql rfl rfl rfl ?_
  refine WL.pickT rfl rfl rfl ?_
  refine WL.mv rfl rfl ?_
  refine WL.gY rfl rfl ?_
  refine WL.mv rfl rfl ?_
  refine WL.gY rfl rfl ?_
  refine WL.eql rfl rfl rfl ?_
  refine WL.pickT rfl rfl rfl ?_
  refine WL.mv rfl rfl ?_
  refine WL.gY rfl rfl ?_
  refine WL.callF rfl rfl (fun x p d => vput_c _ _ [] 300 (ros_nil _ _) (by decide) (by decide)) (fun r => ?_)
  refine WL.gY rfl rfl ?_
  refine WL.b2sN (T := Ty) rfl rfl rfl rfl rfl rfl rfl (.own 0 rfl) ?_
  refine WL.gY rfl rfl ?_
  refine WL.eqST rfl rfl rfl (by first | with_reducible rfl | assumption) ?_
  refine WL.pickT rfl rfl rfl ?_
  refine WL.as rfl rfl ?_
  refine WL.nil ?_
  exact W.ret1 rfl rfl (fun h p => rfl)
end Go.Proofs.Ytimioninoafkhaa
