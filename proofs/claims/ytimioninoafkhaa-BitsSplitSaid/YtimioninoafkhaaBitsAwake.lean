/- Layer 1's awake. -/
import Derived.Test.YtimioninoafkhaaInn
import Derived.Test.YtimioninoafkhaaNum
import Derived.Test.YtimioninoafkhaaTab
import Derived.Test.YtimioninoafkhaaBits
set_option linter.unusedSimpArgs false
set_option linter.unusedVariables false
set_option maxRecDepth 20000
set_option maxHeartbeats 4000000
namespace Go.Proofs.Ytimioninoafkhaa
open Go
attribute [local irreducible] W WL Fn Buf ROs SL eptr box Rd Src bndOK WD RB Reads In

-- CALL 33 refine WL.callT rfl rfl (fun x p d => awake1_c _) ?_
theorem awake1_c (ρ : Hp) : Fn Try.prog 33 #[] ρ [] (fun r _ => r = .bool true) := by
  refine in33 rfl rfl ?_
  refine W.seq ?_
  refine W.region ?_
  refine WL.as rfl rfl ?_
  refine WL.nil ?_
  refine W.seq ?_
  refine W.region ?_
  refine WL.callF rfl rfl (fun x p d => newWriter_c _) (fun r => ?_)
  refine WL.ex (fun b0 => ?_)
  refine WL.pure (fun er => ?_)
  subst er
  refine WL.as rfl rfl ?_
  refine WL.nil ?_
  refine W.seq ?_
  refine W.seq ?_
  refine W.region ?_
  refine WL.mv rfl rfl ?_
  refine WL.eqP (T := Ty) rfl rfl rfl ?_
  refine WL.nil ?_
  refine W.condF rfl ?_
  refine W.skip ?_
  refine W.seq ?_
  refine W.region ?_
  refine WL.mv rfl rfl ?_
  refine WL.callM 0 rfl rfl rfl (fun x p d => put_ci _ _ _ _ _ (by omega) (by omega) (by repeat' first | assumption | exact bok_nil | exact bitsOf_bit _ _ | apply bok_app) (by first | assumption | omega | (simp only [List.length_append, bitsOf_len, List.length_nil, heldF]; omega))) (by repeat' first | exact FL.nil | apply FL.cons) ?_
  refine WL.nil ?_
  refine W.seq ?_
  refine W.region ?_
  refine WL.mv rfl rfl ?_
  refine WL.callM 0 rfl rfl rfl (fun x p d => put_ci _ _ _ _ _ (by omega) (by omega) (by repeat' first | assumption | exact bok_nil | exact bitsOf_bit _ _ | apply bok_app) (by first | assumption | omega | (simp only [List.length_append, bitsOf_len, List.length_nil, heldF]; omega))) (by repeat' first | exact FL.nil | apply FL.cons) ?_
  refine WL.nil ?_
  refine W.seq ?_
  refine W.region ?_
  refine WL.mv rfl rfl ?_
  refine WL.callF rfl rfl (fun x p d => bytes_c _ _ _ (by first | assumption | exact In.wide (by assumption) | exact In.mono (by assumption) (eqh_at 0 rfl p d) | exact in_at 0 rfl p d | exact in_at 1 rfl p d | exact in_at 2 rfl p d | exact in_at 3 rfl p d | exact in_at 4 rfl p d) (by first | assumption | omega | (simp only [List.length_append, bitsOf_len, List.length_nil, heldF]; omega))) (fun u1 => ?_)
  refine WL.fact (i := 0) rfl (fun h hb => Buf.slm hb) (fun hsl1 => ?_)
  refine WL.as rfl rfl ?_
  refine WL.nil ?_
  refine W.seq ?_
  refine W.region ?_
  refine WL.mv rfl rfl ?_
  refine WL.callF rfl rfl (fun x p d => newReader_c _ _ _ (by first | assumption | exact ROs.wide (by assumption) | exact ROs.mono (by assumption) (eqh_at 0 rfl p d) | exact ros_at 0 rfl p d | exact ros_at 1 rfl p d | exact ros_at 2 rfl p d | exact ros_at 3 rfl p d | exact ros_at 4 rfl p d) (by first | omega | (simp only [pack_len, List.length_append, bitsOf_len, List.length_nil, heldF]; omega))) (fun r => ?_)
  refine WL.ex (fun b2 => ?_)
  refine WL.pure (fun er => ?_)
  subst er
  refine WL.as rfl rfl ?_
  refine WL.nil ?_
  refine W.seq ?_
  refine W.seq ?_
  refine W.region ?_
  refine WL.mv rfl rfl ?_
  refine WL.eqP (T := Ty) rfl rfl rfl ?_
  refine WL.nil ?_
  refine W.condF rfl ?_
  refine W.skip ?_
  refine W.seq ?_
  refine W.region ?_
  refine WL.mv rfl rfl ?_
  refine WL.callM 0 rfl rfl rfl (fun x p d => get_c _ _ _ _ _ (by first | exact Nat.zero_le _ | assumption | (simp only [pack_len]; omega) | (exact getF_at _ _ _ (by first | exact Nat.zero_le _ | assumption | exact getF_at _ _ _ (by first | exact Nat.zero_le _ | assumption)))) (by first | assumption | omega | (simp only [pack_len, List.length_append, bitsOf_len, List.length_nil, heldF]; omega)) (by first | assumption | exact pack_lt _ (by repeat' first | assumption | exact bok_nil | exact bitsOf_bit _ _ | apply bok_app))) (by repeat' first | exact FL.nil | apply FL.cons) ?_
  refine WL.mv rfl rfl ?_
  refine WL.callM 0 rfl rfl rfl (fun x p d => get_c _ _ _ _ _ (by first | exact Nat.zero_le _ | assumption | (simp only [pack_len]; omega) | (exact getF_at _ _ _ (by first | exact Nat.zero_le _ | assumption | exact getF_at _ _ _ (by first | exact Nat.zero_le _ | assumption)))) (by first | assumption | omega | (simp only [pack_len, List.length_append, bitsOf_len, List.length_nil, heldF]; omega)) (by first | assumption | exact pack_lt _ (by repeat' first | assumption | exact bok_nil | exact bitsOf_bit _ _ | apply bok_app))) (by repeat' first | exact FL.nil | apply FL.cons) ?_
  refine WL.as rfl rfl ?_
  refine WL.as rfl rfl ?_
  refine WL.nil ?_
  refine W.seq ?_
  refine W.region ?_
  refine WL.mv rfl rfl ?_
  refine WL.callV rfl rfl (fun x p d => left_c _ _ _ _ (by first | assumption | exact In.wide (by assumption) | exact In.mono (by assumption) (eqh_at 0 rfl p d) | exact in_at 0 rfl p d | exact in_at 1 rfl p d | exact in_at 2 rfl p d | exact in_at 3 rfl p d | exact in_at 4 rfl p d) (by first | exact Nat.zero_le _ | assumption | (simp only [pack_len]; omega) | (exact getF_at _ _ _ (by first | exact Nat.zero_le _ | assumption | exact getF_at _ _ _ (by first | exact Nat.zero_le _ | assumption | exact getF_at _ _ _ (by first | exact Nat.zero_le _ | assumption))))) (by first | assumption | omega | (simp only [pack_len, List.length_append, bitsOf_len, List.length_nil, heldF]; omega))) ?_
  refine WL.as rfl rfl ?_
  refine WL.nil ?_
  refine W.seq ?_
  refine W.region ?_
  refine WL.mv rfl rfl ?_
  refine WL.callM 0 rfl rfl rfl (fun x p d => get_c _ _ _ _ _ (by first | exact Nat.zero_le _ | assumption | (simp only [pack_len]; omega) | (exact getF_at _ _ _ (by first | exact Nat.zero_le _ | assumption | exact getF_at _ _ _ (by first | exact Nat.zero_le _ | assumption)))) (by first | assumption | omega | (simp only [pack_len, List.length_append, bitsOf_len, List.length_nil, heldF]; omega)) (by first | assumption | exact pack_lt _ (by repeat' first | assumption | exact bok_nil | exact bitsOf_bit _ _ | apply bok_app))) (by repeat' first | exact FL.nil | apply FL.cons) ?_
  refine WL.as rfl rfl ?_
  refine WL.nil ?_
  refine W.seq ?_
  refine W.region ?_
  refine WL.mv rfl rfl ?_
  refine WL.callV rfl rfl (fun x p d => len_c _ _ _ (by first | assumption | exact In.wide (by assumption) | exact In.mono (by assumption) (eqh_at 0 rfl p d) | exact in_at 0 rfl p d | exact in_at 1 rfl p d | exact in_at 2 rfl p d | exact in_at 3 rfl p d | exact in_at 4 rfl p d)) ?_
  refine WL.eql rfl rfl rfl ?_
  refine WL.mv rfl rfl ?_
  refine WL.gY rfl rfl ?_
  refine WL.mv rfl rfl ?_
  refine WL.gY rfl rfl ?_
  refine WL.len (T := Ty) rfl rfl (by assumption) rfl ?_
  refine WL.gY rfl rfl ?_
  refine WL.eql rfl rfl rfl ?_
  refine WL.pickT rfl rfl rfl ?_
  refine WL.mv rfl rfl ?_
  refine WL.gY rfl rfl ?_
  refine WL.mv rfl rfl ?_
  refine WL.gY rfl rfl ?_
  refine WL.ix (T := Ty) rfl rfl rfl (by assumption) rfl rfl (by omega) (by first | omega | decide +kernel) ?_
  refine WL.gY rfl rfl ?_
  refine WL.ldEn (T := Ty) (j := 1) rfl rfl rfl rfl rfl (by first | omega | decide +kernel) ?_
  refine WL.gY rfl rfl ?_
  refine WL.eql rfl rfl rfl ?_
  refine WL.pickT rfl rfl rfl ?_
  refine WL.mv rfl rfl ?_
  refine WL.gY rfl rfl ?_
  refine WL.mv rfl rfl ?_
  refine WL.gY rfl rfl ?_
  refine WL.eql rfl rfl rfl ?_
  refine WL.pickT rfl rfl rfl ?_
  refine WL.mv rfl rfl ?_
  refine WL.gY rfl rfl ?_
  refine WL.mv rfl rfl ?_
  refine WL.gY rfl rfl ?_
  refine WL.eql rfl rfl rfl ?_
  refine WL.pickT rfl rfl rfl ?_
  refine WL.mv rfl rfl ?_
  refine WL.gY rfl rfl ?_
  refine WL.mv rfl rfl ?_
  refine WL.gY rfl rfl ?_
  refine WL.eql rfl rfl rfl ?_
  refine WL.pickT rfl rfl rfl ?_
  refine WL.mv rfl rfl ?_
  refine WL.gY rfl rfl ?_
  refine WL.mv rfl rfl ?_
  refine WL.gY rfl rfl ?_
  refine WL.eql rfl rfl rfl ?_
  refine WL.pickT rfl rfl rfl ?_
  refine WL.mv rfl rfl ?_
  refine WL.gY rfl rfl ?_
  refine WL.mv rfl rfl ?_
  refine WL.gY rfl rfl ?_
  refine WL.callV rfl rfl (fun x p d => ok_c _ _ _ _ (by first | assumption | exact In.wide (by assumption) | exact In.mono (by assumption) (eqh_at 0 rfl p d) | exact in_at 0 rfl p d | exact in_at 1 rfl p d | exact in_at 2 rfl p d | exact in_at 3 rfl p d | exact in_at 4 rfl p d)) ?_
  refine WL.gY rfl rfl ?_
  refine WL.not rfl rfl ?_
  refine WL.pickT rfl rfl rfl ?_
  refine WL.mv rfl rfl ?_
  refine WL.gY rfl rfl ?_
  refine WL.mv rfl rfl ?_
  refine WL.gY rfl rfl ?_
  refine WL.callV rfl rfl (fun x p d => left_c _ _ _ _ (by first | assumption | exact In.wide (by assumption) | exact In.mono (by assumption) (eqh_at 0 rfl p d) | exact in_at 0 rfl p d | exact in_at 1 rfl p d | exact in_at 2 rfl p d | exact in_at 3 rfl p d | exact in_at 4 rfl p d) (by first | exact Nat.zero_le _ | assumption | (simp only [pack_len]; omega) | (exact getF_at _ _ _ (by first | exact Nat.zero_le _ | assumption | exact getF_at _ _ _ (by first | exact Nat.zero_le _ | assumption | exact getF_at _ _ _ (by first | exact Nat.zero_le _ | assumption))))) (by first | assumption | omega | (simp only [pack_len, List.length_append, bitsOf_len, List.length_nil, heldF]; omega))) ?_
  refine WL.gY rfl rfl ?_
  refine WL.eql rfl rfl rfl ?_
  refine WL.pickT rfl rfl rfl ?_
  refine WL.as rfl rfl ?_
  refine WL.nil ?_
  exact W.ret1 rfl rfl (fun h p => congrArg Value.bool (by decide +kernel))
end Go.Proofs.Ytimioninoafkhaa
