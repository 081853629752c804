/- Layer 5's awake. -/
import Derived.Test.YtjibmfkhhljhcaaDoorStc
import Derived.Test.YtjibmfkhhljhcaaDoorNum
import Derived.Test.YtjibmfkhhljhcaaDoorTab
import Derived.Test.YtjibmfkhhljhcaaDoorXorvE
import Derived.Test.YtjibmfkhhljhcaaDoorBitsLen
import Derived.Test.YtjibmfkhhljhcaaDoorSameW
set_option linter.unusedSimpArgs false
set_option linter.unusedVariables false
set_option maxRecDepth 20000
set_option maxHeartbeats 4000000
namespace Go.Proofs.YtjibmfkhhljhcaaDoor
open Go
attribute [local irreducible] W WL Fn Buf ROs SL eptr box Rd Src bndOK WD RB Reads In

-- CALL 10 refine WL.callT rfl rfl (fun x p d => awake5_c _ (TabG.wide (by assumption))) ?_
theorem awake5_c (ρ : Hp) (hT : TabG ρ) : Fn Tryd.prog 10 #[] ρ [] (fun r _ => r = .bool true) := by
  refine in10 rfl rfl ?_
  have hw : ∀ x ∈ [0, 0, 1099511627776, 0, 1649267441664], x < 18446744073709551616 := by decide
  have hl : [0, 0, 1099511627776, 0, 1649267441664].length ≤ 70000 := by decide
  have hl2 : [0, 0, 1099511627776, 0, 1649267441664].length ≤ 17592186044416 := by decide
  have hd : decX (pack ([] ++ encX [0, 0, 1099511627776, 0, 1649267441664])) ⟨0, false⟩ 5 = some ([0, 0, 1099511627776, 0, 1649267441664], ⟨(encX [0, 0, 1099511627776, 0, 1649267441664]).length, false⟩) := by
    have := decX_encX (v := [0, 0, 1099511627776, 0, 1649267441664]) (ys := []) (n := 5) rfl hw (by simp)
    rw [List.append_nil] at this
    rw [List.nil_append]
    exact this
  have hlen : ([] ++ encX [0, 0, 1099511627776, 0, 1649267441664]).length = 97 := by decide +kernel
  have hb : ∀ d ∈ [] ++ encX [0, 0, 1099511627776, 0, 1649267441664], d < 2 := by decide +kernel
  have hpl : (pack ([] ++ encX [0, 0, 1099511627776, 0, 1649267441664])).length ≤ 140737488355328 := by decide +kernel
  have hpw : ∀ x ∈ pack ([] ++ encX [0, 0, 1099511627776, 0, 1649267441664]), x < 256 := by decide +kernel
  refine W.seq ?_
  refine W.region ?_
  refine WL.as rfl rfl ?_
  refine WL.nil ?_
  refine W.seq ?_
  refine W.region ?_
  refine WL.callF rfl rfl (fun x p d => newWriter_c _) (fun r => ?_)
  refine WL.ex (fun b0 => ?_)
  refine WL.pure (fun er => ?_)
  subst er
  refine WL.as rfl rfl ?_
  refine WL.nil ?_
  refine W.seq ?_
  refine W.seq ?_
  refine W.region ?_
  refine WL.mv rfl rfl ?_
  refine WL.eqP (T := Ty) rfl rfl rfl ?_
  refine WL.nil ?_
  refine W.condF rfl ?_
  refine W.skip ?_
  refine W.seq ?_
  refine W.region ?_
  refine WL.mv rfl rfl ?_
  refine WL.bsC (T := Ty) rfl rfl rfl rfl rfl rfl rfl (by repeat' first | exact CO.nil | apply CO.one (by first | rfl | exact SL.one (by assumption)) | apply CO.agg) rfl (by repeat' first | exact FL.nil | apply FL.cons) (fun u1 hu1 => ?_)
  refine WL.reC ucell [0, 0, 1099511627776, 0, 1649267441664] rfl ?_
  refine WL.callM 1 rfl rfl rfl (fun x p d => xenc_c _ _ _ _ _ (by first | assumption | exact ROs.wide (by assumption) | exact ROs.mono (by assumption) (eqh_at 0 rfl p d) | exact ros_at 0 rfl p d | exact ros_at 1 rfl p d | exact ros_at 2 rfl p d | exact ros_at 3 rfl p d | exact ros_at 4 rfl p d) (by first | assumption | exact bok_nil) (by first | assumption | omega | exact Nat.zero_le _ | decide) (by first | assumption | omega | decide) (by first | assumption | omega | decide) (TabG.wide (by assumption))) (by repeat' first | exact FL.nil | apply FL.cons) ?_
  refine WL.nil ?_
  refine W.seq ?_
  refine W.region ?_
  refine WL.mv rfl rfl ?_
  refine WL.callF rfl rfl (fun x p d => bytes_c _ _ _ (by first | assumption | exact In.wide (by assumption) | exact In.mono (by assumption) (eqh_at 0 rfl p d) | exact in_at 0 rfl p d | exact in_at 1 rfl p d | exact in_at 2 rfl p d | exact in_at 3 rfl p d | exact in_at 4 rfl p d) (by first | assumption | omega | (simp only [List.length_append, bitsOf_len, List.length_nil, heldF]; omega))) (fun u2 => ?_)
  refine WL.fact (i := 0) rfl (fun h hb => Buf.slm hb) (fun hsl2 => ?_)
  refine WL.callF rfl rfl (fun x p d => newReader_c _ _ _ (by first | assumption | exact ROs.wide (by assumption) | exact ROs.mono (by assumption) (eqh_at 0 rfl p d) | exact ros_at 0 rfl p d | exact ros_at 1 rfl p d | exact ros_at 2 rfl p d | exact ros_at 3 rfl p d | exact ros_at 4 rfl p d) (by first | assumption | omega | (simp only [pack_len, List.length_append, bitsOf_len, List.length_nil, heldF]; omega))) (fun r => ?_)
  refine WL.ex (fun b3 => ?_)
  refine WL.pure (fun er => ?_)
  subst er
  refine WL.as rfl rfl ?_
  refine WL.nil ?_
  refine W.seq ?_
  refine W.seq ?_
  refine W.region ?_
  refine WL.mv rfl rfl ?_
  refine WL.eqP (T := Ty) rfl rfl rfl ?_
  refine WL.nil ?_
  refine W.condF rfl ?_
  refine W.skip ?_
  refine W.seq ?_
  refine W.region ?_
  refine WL.mv rfl rfl ?_
  refine WL.callP 0 rfl rfl rfl (fun x p d => xdec_s _ _ _ _ _ (by assumption) (by first | assumption | exact Nat.zero_le _) (by first | assumption | omega | decide) (by assumption) (TabG.wide (by assumption))) (by repeat' first | exact FL.nil | apply FL.cons) (fun r => ?_)
  refine WL.ex (fun u4 => ?_)
  refine WL.pure (fun er => ?_)
  subst er
  refine WL.open ?_
  refine WL.fact (i := 0) rfl (fun h hb => Buf.slm hb) (fun hsl4 => ?_)
  refine WL.mv rfl rfl ?_
  refine WL.extL rfl rfl rfl ?_
  refine WL.extL rfl rfl rfl ?_
  refine WL.as rfl rfl ?_
  refine WL.as rfl rfl ?_
  refine WL.nil ?_
  refine W.seq ?_
  refine W.region ?_
  refine WL.mv rfl rfl ?_
  refine WL.callV rfl rfl (fun x p d => len_c _ _ _ (by first | assumption | exact In.wide (by assumption) | exact In.mono (by assumption) (eqh_at 0 rfl p d) | exact in_at 0 rfl p d | exact in_at 1 rfl p d | exact in_at 2 rfl p d | exact in_at 3 rfl p d | exact in_at 4 rfl p d)) ?_
  refine WL.eql rfl rfl rfl ?_
  refine WL.mv rfl rfl ?_
  refine WL.gY rfl rfl ?_
  refine WL.mv rfl rfl ?_
  refine WL.pickT rfl rfl rfl ?_
  refine WL.mv rfl rfl ?_
  refine WL.gY rfl rfl ?_
  refine WL.mv rfl rfl ?_
  refine WL.gY rfl rfl ?_
  refine WL.bsC (T := Ty) rfl rfl rfl rfl rfl rfl rfl (by repeat' first | exact CO.nil | apply CO.one (by first | rfl | exact SL.one (by assumption)) | apply CO.agg) rfl (by repeat' first | exact FL.nil | apply FL.cons) (fun u5 hu5 => ?_)
  refine WL.reC ucell [0, 0, 1099511627776, 0, 1649267441664] rfl ?_
  refine WL.gY rfl rfl ?_
  refine WL.callV rfl rfl (fun x p d => samew_t _ _ _ _ _ (by first | with_reducible rfl | assumption) (by first | assumption | exact ROs.wide (by assumption) | exact ROs.mono (by assumption) (eqh_at 0 rfl p d) | exact ros_at 0 rfl p d | exact ros_at 1 rfl p d | exact ros_at 2 rfl p d | exact ros_at 3 rfl p d | exact ros_at 4 rfl p d) (by first | assumption | exact ROs.wide (by assumption) | exact ROs.mono (by assumption) (eqh_at 0 rfl p d) | exact ros_at 0 rfl p d | exact ros_at 1 rfl p d | exact ros_at 2 rfl p d | exact ros_at 3 rfl p d | exact ros_at 4 rfl p d) (by first | assumption | omega | exact Nat.zero_le _ | decide)) ?_
  refine WL.pickT rfl rfl rfl ?_
  refine WL.as rfl rfl ?_
  refine WL.nil ?_
  exact W.ret1 rfl rfl (fun h p => rfl)
end Go.Proofs.YtjibmfkhhljhcaaDoor
