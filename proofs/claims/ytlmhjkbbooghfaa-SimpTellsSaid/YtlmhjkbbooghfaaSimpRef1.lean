/- Small numbers, many to a word: numbers(k) and bits(k) of the document. (Printed by gen_simpref.py.) -/
import Derived.Test.YtlmhjkbbooghfaaStc
import Derived.Test.YtlmhjkbbooghfaaNum
import Derived.Test.YtlmhjkbbooghfaaTab
import Derived.Test.YtlmhjkbbooghfaaSimpLaw
set_option linter.unusedSimpArgs false
set_option linter.unusedVariables false
set_option maxRecDepth 20000
set_option maxHeartbeats 4000000
namespace Go.Proofs.Ytlmhjkbbooghfaa
open Go
attribute [local irreducible] W WL Fn Buf ROs SL eptr box Rd Src bndOK WD RB Reads In

-- CALL 63 refine WL.callV rfl rfl (fun x p d => rnum_c _ _ (by first | assumption | omega)) ?_
theorem rnum_c (ρ : Hp) (k : Nat) (hk : k < 16) : Fn Try.prog 63 #[.int .i64 (k : Int)] ρ [] (Just (.int .i64 (cntS k : Int))) := by
  refine in63 rfl rfl ?_
  rcases (by omega : k = 0 ∨ k = 1 ∨ k = 2 ∨ k = 3 ∨ k = 4 ∨ k = 5 ∨ k = 6 ∨ k = 7 ∨ k = 8 ∨ k = 9 ∨ k = 10 ∨ k = 11 ∨ k = 12 ∨ k = 13 ∨ k = 14 ∨ k = 15) with rfl | rfl | rfl | rfl | rfl | rfl | rfl | rfl | rfl | rfl | rfl | rfl | rfl | rfl | rfl | rfl
  · refine W.seq ?_
    refine W.region ?_
    refine WL.as rfl rfl ?_
    refine WL.nil ?_
    refine W.seq ?_
    refine W.region ?_
    refine WL.bdAC (T := Ty) rfl rfl rfl rfl (by repeat' first | exact CO.nil | apply CO.one (by first | rfl | exact SL.one (by assumption)) | apply CO.agg) rfl (by repeat' first | exact FL.nil | apply FL.cons) ?_
    refine WL.alF (T := Ty) rfl rfl (by repeat' first | exact FL.nil | apply FL.cons) (fun b0 => ?_)
    refine WL.stAO (T := Ty) (j := 0) rfl rfl rfl rfl (by repeat' first | exact AO.nil | apply AO.cons (by first | rfl | exact SL.one (by assumption))) rfl rfl (by repeat' first | exact FL.nil | apply FL.cons) (by repeat' first | exact FL.nil | apply FL.cons) ?_
    refine WL.nil ?_
    refine W.seq ?_
    refine W.region ?_
    refine WL.mv rfl rfl ?_
    refine WL.ixX (T := Ty) (o' := 0) rfl rfl rfl rfl rfl (by omega) (by omega) rfl ?_
    refine WL.ldN (T := Ty) (j := 0) rfl rfl rfl rfl rfl rfl ?_
    refine WL.as rfl rfl ?_
    refine WL.nil ?_
    refine W.drop 0 rfl (by repeat' first | exact FL.nil | apply FL.cons) ?_
    exact W.ret1 rfl rfl (fun h p => ⟨rfl, p⟩)
  · refine W.seq ?_
    refine W.region ?_
    refine WL.as rfl rfl ?_
    refine WL.nil ?_
    refine W.seq ?_
    refine W.region ?_
    refine WL.bdAC (T := Ty) rfl rfl rfl rfl (by repeat' first | exact CO.nil | apply CO.one (by first | rfl | exact SL.one (by assumption)) | apply CO.agg) rfl (by repeat' first | exact FL.nil | apply FL.cons) ?_
    refine WL.alF (T := Ty) rfl rfl (by repeat' first | exact FL.nil | apply FL.cons) (fun b0 => ?_)
    refine WL.stAO (T := Ty) (j := 0) rfl rfl rfl rfl (by repeat' first | exact AO.nil | apply AO.cons (by first | rfl | exact SL.one (by assumption))) rfl rfl (by repeat' first | exact FL.nil | apply FL.cons) (by repeat' first | exact FL.nil | apply FL.cons) ?_
    refine WL.nil ?_
    refine W.seq ?_
    refine W.region ?_
    refine WL.mv rfl rfl ?_
    refine WL.ixX (T := Ty) (o' := 1) rfl rfl rfl rfl rfl (by omega) (by omega) rfl ?_
    refine WL.ldN (T := Ty) (j := 0) rfl rfl rfl rfl rfl rfl ?_
    refine WL.as rfl rfl ?_
    refine WL.nil ?_
    refine W.drop 0 rfl (by repeat' first | exact FL.nil | apply FL.cons) ?_
    exact W.ret1 rfl rfl (fun h p => ⟨rfl, p⟩)
  · refine W.seq ?_
    refine W.region ?_
    refine WL.as rfl rfl ?_
    refine WL.nil ?_
    refine W.seq ?_
    refine W.region ?_
    refine WL.bdAC (T := Ty) rfl rfl rfl rfl (by repeat' first | exact CO.nil | apply CO.one (by first | rfl | exact SL.one (by assumption)) | apply CO.agg) rfl (by repeat' first | exact FL.nil | apply FL.cons) ?_
    refine WL.alF (T := Ty) rfl rfl (by repeat' first | exact FL.nil | apply FL.cons) (fun b0 => ?_)
    refine WL.stAO (T := Ty) (j := 0) rfl rfl rfl rfl (by repeat' first | exact AO.nil | apply AO.cons (by first | rfl | exact SL.one (by assumption))) rfl rfl (by repeat' first | exact FL.nil | apply FL.cons) (by repeat' first | exact FL.nil | apply FL.cons) ?_
    refine WL.nil ?_
    refine W.seq ?_
    refine W.region ?_
    refine WL.mv rfl rfl ?_
    refine WL.ixX (T := Ty) (o' := 2) rfl rfl rfl rfl rfl (by omega) (by omega) rfl ?_
    refine WL.ldN (T := Ty) (j := 0) rfl rfl rfl rfl rfl rfl ?_
    refine WL.as rfl rfl ?_
    refine WL.nil ?_
    refine W.drop 0 rfl (by repeat' first | exact FL.nil | apply FL.cons) ?_
    exact W.ret1 rfl rfl (fun h p => ⟨rfl, p⟩)
  · refine W.seq ?_
    refine W.region ?_
    refine WL.as rfl rfl ?_
    refine WL.nil ?_
    refine W.seq ?_
    refine W.region ?_
    refine WL.bdAC (T := Ty) rfl rfl rfl rfl (by repeat' first | exact CO.nil | apply CO.one (by first | rfl | exact SL.one (by assumption)) | apply CO.agg) rfl (by repeat' first | exact FL.nil | apply FL.cons) ?_
    refine WL.alF (T := Ty) rfl rfl (by repeat' first | exact FL.nil | apply FL.cons) (fun b0 => ?_)
    refine WL.stAO (T := Ty) (j := 0) rfl rfl rfl rfl (by repeat' first | exact AO.nil | apply AO.cons (by first | rfl | exact SL.one (by assumption))) rfl rfl (by repeat' first | exact FL.nil | apply FL.cons) (by repeat' first | exact FL.nil | apply FL.cons) ?_
    refine WL.nil ?_
    refine W.seq ?_
    refine W.region ?_
    refine WL.mv rfl rfl ?_
    refine WL.ixX (T := Ty) (o' := 3) rfl rfl rfl rfl rfl (by omega) (by omega) rfl ?_
    refine WL.ldN (T := Ty) (j := 0) rfl rfl rfl rfl rfl rfl ?_
    refine WL.as rfl rfl ?_
    refine WL.nil ?_
    refine W.drop 0 rfl (by repeat' first | exact FL.nil | apply FL.cons) ?_
    exact W.ret1 rfl rfl (fun h p => ⟨rfl, p⟩)
  · refine W.seq ?_
    refine W.region ?_
    refine WL.as rfl rfl ?_
    refine WL.nil ?_
    refine W.seq ?_
    refine W.region ?_
    refine WL.bdAC (T := Ty) rfl rfl rfl rfl (by repeat' first | exact CO.nil | apply CO.one (by first | rfl | exact SL.one (by assumption)) | apply CO.agg) rfl (by repeat' first | exact FL.nil | apply FL.cons) ?_
    refine WL.alF (T := Ty) rfl rfl (by repeat' first | exact FL.nil | apply FL.cons) (fun b0 => ?_)
    refine WL.stAO (T := Ty) (j := 0) rfl rfl rfl rfl (by repeat' first | exact AO.nil | apply AO.cons (by first | rfl | exact SL.one (by assumption))) rfl rfl (by repeat' first | exact FL.nil | apply FL.cons) (by repeat' first | exact FL.nil | apply FL.cons) ?_
    refine WL.nil ?_
    refine W.seq ?_
    refine W.region ?_
    refine WL.mv rfl rfl ?_
    refine WL.ixX (T := Ty) (o' := 4) rfl rfl rfl rfl rfl (by omega) (by omega) rfl ?_
    refine WL.ldN (T := Ty) (j := 0) rfl rfl rfl rfl rfl rfl ?_
    refine WL.as rfl rfl ?_
    refine WL.nil ?_
    refine W.drop 0 rfl (by repeat' first | exact FL.nil | apply FL.cons) ?_
    exact W.ret1 rfl rfl (fun h p => ⟨rfl, p⟩)
  · refine W.seq ?_
    refine W.region ?_
    refine WL.as rfl rfl ?_
    refine WL.nil ?_
    refine W.seq ?_
    refine W.region ?_
    refine WL.bdAC (T := Ty) rfl rfl rfl rfl (by repeat' first | exact CO.nil | apply CO.one (by first | rfl | exact SL.one (by assumption)) | apply CO.agg) rfl (by repeat' first | exact FL.nil | apply FL.cons) ?_
    refine WL.alF (T := Ty) rfl rfl (by repeat' first | exact FL.nil | apply FL.cons) (fun b0 => ?_)
    refine WL.stAO (T := Ty) (j := 0) rfl rfl rfl rfl (by repeat' first | exact AO.nil | apply AO.cons (by first | rfl | exact SL.one (by assumption))) rfl rfl (by repeat' first | exact FL.nil | apply FL.cons) (by repeat' first | exact FL.nil | apply FL.cons) ?_
    refine WL.nil ?_
    refine W.seq ?_
    refine W.region ?_
    refine WL.mv rfl rfl ?_
    refine WL.ixX (T := Ty) (o' := 5) rfl rfl rfl rfl rfl (by omega) (by omega) rfl ?_
    refine WL.ldN (T := Ty) (j := 0) rfl rfl rfl rfl rfl rfl ?_
    refine WL.as rfl rfl ?_
    refine WL.nil ?_
    refine W.drop 0 rfl (by repeat' first | exact FL.nil | apply FL.cons) ?_
    exact W.ret1 rfl rfl (fun h p => ⟨rfl, p⟩)
  · refine W.seq ?_
    refine W.region ?_
    refine WL.as rfl rfl ?_
    refine WL.nil ?_
    refine W.seq ?_
    refine W.region ?_
    refine WL.bdAC (T := Ty) rfl rfl rfl rfl (by repeat' first | exact CO.nil | apply CO.one (by first | rfl | exact SL.one (by assumption)) | apply CO.agg) rfl (by repeat' first | exact FL.nil | apply FL.cons) ?_
    refine WL.alF (T := Ty) rfl rfl (by repeat' first | exact FL.nil | apply FL.cons) (fun b0 => ?_)
    refine WL.stAO (T := Ty) (j := 0) rfl rfl rfl rfl (by repeat' first | exact AO.nil | apply AO.cons (by first | rfl | exact SL.one (by assumption))) rfl rfl (by repeat' first | exact FL.nil | apply FL.cons) (by repeat' first | exact FL.nil | apply FL.cons) ?_
    refine WL.nil ?_
    refine W.seq ?_
    refine W.region ?_
    refine WL.mv rfl rfl ?_
    refine WL.ixX (T := Ty) (o' := 6) rfl rfl rfl rfl rfl (by omega) (by omega) rfl ?_
    refine WL.ldN (T := Ty) (j := 0) rfl rfl rfl rfl rfl rfl ?_
    refine WL.as rfl rfl ?_
    refine WL.nil ?_
    refine W.drop 0 rfl (by repeat' first | exact FL.nil | apply FL.cons) ?_
    exact W.ret1 rfl rfl (fun h p => ⟨rfl, p⟩)
  · refine W.seq ?_
    refine W.region ?_
    refine WL.as rfl rfl ?_
    refine WL.nil ?_
    refine W.seq ?_
    refine W.region ?_
    refine WL.bdAC (T := Ty) rfl rfl rfl rfl (by repeat' first | exact CO.nil | apply CO.one (by first | rfl | exact SL.one (by assumption)) | apply CO.agg) rfl (by repeat' first | exact FL.nil | apply FL.cons) ?_
    refine WL.alF (T := Ty) rfl rfl (by repeat' first | exact FL.nil | apply FL.cons) (fun b0 => ?_)
    refine WL.stAO (T := Ty) (j := 0) rfl rfl rfl rfl (by repeat' first | exact AO.nil | apply AO.cons (by first | rfl | exact SL.one (by assumption))) rfl rfl (by repeat' first | exact FL.nil | apply FL.cons) (by repeat' first | exact FL.nil | apply FL.cons) ?_
    refine WL.nil ?_
    refine W.seq ?_
    refine W.region ?_
    refine WL.mv rfl rfl ?_
    refine WL.ixX (T := Ty) (o' := 7) rfl rfl rfl rfl rfl (by omega) (by omega) rfl ?_
    refine WL.ldN (T := Ty) (j := 0) rfl rfl rfl rfl rfl rfl ?_
    refine WL.as rfl rfl ?_
    refine WL.nil ?_
    refine W.drop 0 rfl (by repeat' first | exact FL.nil | apply FL.cons) ?_
    exact W.ret1 rfl rfl (fun h p => ⟨rfl, p⟩)
  · refine W.seq ?_
    refine W.region ?_
    refine WL.as rfl rfl ?_
    refine WL.nil ?_
    refine W.seq ?_
    refine W.region ?_
    refine WL.bdAC (T := Ty) rfl rfl rfl rfl (by repeat' first | exact CO.nil | apply CO.one (by first | rfl | exact SL.one (by assumption)) | apply CO.agg) rfl (by repeat' first | exact FL.nil | apply FL.cons) ?_
    refine WL.alF (T := Ty) rfl rfl (by repeat' first | exact FL.nil | apply FL.cons) (fun b0 => ?_)
    refine WL.stAO (T := Ty) (j := 0) rfl rfl rfl rfl (by repeat' first | exact AO.nil | apply AO.cons (by first | rfl | exact SL.one (by assumption))) rfl rfl (by repeat' first | exact FL.nil | apply FL.cons) (by repeat' first | exact FL.nil | apply FL.cons) ?_
    refine WL.nil ?_
    refine W.seq ?_
    refine W.region ?_
    refine WL.mv rfl rfl ?_
    refine WL.ixX (T := Ty) (o' := 8) rfl rfl rfl rfl rfl (by omega) (by omega) rfl ?_
    refine WL.ldN (T := Ty) (j := 0) rfl rfl rfl rfl rfl rfl ?_
    refine WL.as rfl rfl ?_
    refine WL.nil ?_
    refine W.drop 0 rfl (by repeat' first | exact FL.nil | apply FL.cons) ?_
    exact W.ret1 rfl rfl (fun h p => ⟨rfl, p⟩)
  · refine W.seq ?_
    refine W.region ?_
    refine WL.as rfl rfl ?_
    refine WL.nil ?_
    refine W.seq ?_
    refine W.region ?_
    refine WL.bdAC (T := Ty) rfl rfl rfl rfl (by repeat' first | exact CO.nil | apply CO.one (by first | rfl | exact SL.one (by assumption)) | apply CO.agg) rfl (by repeat' first | exact FL.nil | apply FL.cons) ?_
    refine WL.alF (T := Ty) rfl rfl (by repeat' first | exact FL.nil | apply FL.cons) (fun b0 => ?_)
    refine WL.stAO (T := Ty) (j := 0) rfl rfl rfl rfl (by repeat' first | exact AO.nil | apply AO.cons (by first | rfl | exact SL.one (by assumption))) rfl rfl (by repeat' first | exact FL.nil | apply FL.cons) (by repeat' first | exact FL.nil | apply FL.cons) ?_
    refine WL.nil ?_
    refine W.seq ?_
    refine W.region ?_
    refine WL.mv rfl rfl ?_
    refine WL.ixX (T := Ty) (o' := 9) rfl rfl rfl rfl rfl (by omega) (by omega) rfl ?_
    refine WL.ldN (T := Ty) (j := 0) rfl rfl rfl rfl rfl rfl ?_
    refine WL.as rfl rfl ?_
    refine WL.nil ?_
    refine W.drop 0 rfl (by repeat' first | exact FL.nil | apply FL.cons) ?_
    exact W.ret1 rfl rfl (fun h p => ⟨rfl, p⟩)
  · refine W.seq ?_
    refine W.region ?_
    refine WL.as rfl rfl ?_
    refine WL.nil ?_
    refine W.seq ?_
    refine W.region ?_
    refine WL.bdAC (T := Ty) rfl rfl rfl rfl (by repeat' first | exact CO.nil | apply CO.one (by first | rfl | exact SL.one (by assumption)) | apply CO.agg) rfl (by repeat' first | exact FL.nil | apply FL.cons) ?_
    refine WL.alF (T := Ty) rfl rfl (by repeat' first | exact FL.nil | apply FL.cons) (fun b0 => ?_)
    refine WL.stAO (T := Ty) (j := 0) rfl rfl rfl rfl (by repeat' first | exact AO.nil | apply AO.cons (by first | rfl | exact SL.one (by assumption))) rfl rfl (by repeat' first | exact FL.nil | apply FL.cons) (by repeat' first | exact FL.nil | apply FL.cons) ?_
    refine WL.nil ?_
    refine W.seq ?_
    refine W.region ?_
    refine WL.mv rfl rfl ?_
    refine WL.ixX (T := Ty) (o' := 10) rfl rfl rfl rfl rfl (by omega) (by omega) rfl ?_
    refine WL.ldN (T := Ty) (j := 0) rfl rfl rfl rfl rfl rfl ?_
    refine WL.as rfl rfl ?_
    refine WL.nil ?_
    refine W.drop 0 rfl (by repeat' first | exact FL.nil | apply FL.cons) ?_
    exact W.ret1 rfl rfl (fun h p => ⟨rfl, p⟩)
  · refine W.seq ?_
    refine W.region ?_
    refine WL.as rfl rfl ?_
    refine WL.nil ?_
    refine W.seq ?_
    refine W.region ?_
    refine WL.bdAC (T := Ty) rfl rfl rfl rfl (by repeat' first | exact CO.nil | apply CO.one (by first | rfl | exact SL.one (by assumption)) | apply CO.agg) rfl (by repeat' first | exact FL.nil | apply FL.cons) ?_
    refine WL.alF (T := Ty) rfl rfl (by repeat' first | exact FL.nil | apply FL.cons) (fun b0 => ?_)
    refine WL.stAO (T := Ty) (j := 0) rfl rfl rfl rfl (by repeat' first | exact AO.nil | apply AO.cons (by first | rfl | exact SL.one (by assumption))) rfl rfl (by repeat' first | exact FL.nil | apply FL.cons) (by repeat' first | exact FL.nil | apply FL.cons) ?_
    refine WL.nil ?_
    refine W.seq ?_
    refine W.region ?_
    refine WL.mv rfl rfl ?_
    refine WL.ixX (T := Ty) (o' := 11) rfl rfl rfl rfl rfl (by omega) (by omega) rfl ?_
    refine WL.ldN (T := Ty) (j := 0) rfl rfl rfl rfl rfl rfl ?_
    refine WL.as rfl rfl ?_
    refine WL.nil ?_
    refine W.drop 0 rfl (by repeat' first | exact FL.nil | apply FL.cons) ?_
    exact W.ret1 rfl rfl (fun h p => ⟨rfl, p⟩)
  · refine W.seq ?_
    refine W.region ?_
    refine WL.as rfl rfl ?_
    refine WL.nil ?_
    refine W.seq ?_
    refine W.region ?_
    refine WL.bdAC (T := Ty) rfl rfl rfl rfl (by repeat' first | exact CO.nil | apply CO.one (by first | rfl | exact SL.one (by assumption)) | apply CO.agg) rfl (by repeat' first | exact FL.nil | apply FL.cons) ?_
    refine WL.alF (T := Ty) rfl rfl (by repeat' first | exact FL.nil | apply FL.cons) (fun b0 => ?_)
    refine WL.stAO (T := Ty) (j := 0) rfl rfl rfl rfl (by repeat' first | exact AO.nil | apply AO.cons (by first | rfl | exact SL.one (by assumption))) rfl rfl (by repeat' first | exact FL.nil | apply FL.cons) (by repeat' first | exact FL.nil | apply FL.cons) ?_
    refine WL.nil ?_
    refine W.seq ?_
    refine W.region ?_
    refine WL.mv rfl rfl ?_
    refine WL.ixX (T := Ty) (o' := 12) rfl rfl rfl rfl rfl (by omega) (by omega) rfl ?_
    refine WL.ldN (T := Ty) (j := 0) rfl rfl rfl rfl rfl rfl ?_
    refine WL.as rfl rfl ?_
    refine WL.nil ?_
    refine W.drop 0 rfl (by repeat' first | exact FL.nil | apply FL.cons) ?_
    exact W.ret1 rfl rfl (fun h p => ⟨rfl, p⟩)
  · refine W.seq ?_
    refine W.region ?_
    refine WL.as rfl rfl ?_
    refine WL.nil ?_
    refine W.seq ?_
    refine W.region ?_
    refine WL.bdAC (T := Ty) rfl rfl rfl rfl (by repeat' first | exact CO.nil | apply CO.one (by first | rfl | exact SL.one (by assumption)) | apply CO.agg) rfl (by repeat' first | exact FL.nil | apply FL.cons) ?_
    refine WL.alF (T := Ty) rfl rfl (by repeat' first | exact FL.nil | apply FL.cons) (fun b0 => ?_)
    refine WL.stAO (T := Ty) (j := 0) rfl rfl rfl rfl (by repeat' first | exact AO.nil | apply AO.cons (by first | rfl | exact SL.one (by assumption))) rfl rfl (by repeat' first | exact FL.nil | apply FL.cons) (by repeat' first | exact FL.nil | apply FL.cons) ?_
    refine WL.nil ?_
    refine W.seq ?_
    refine W.region ?_
    refine WL.mv rfl rfl ?_
    refine WL.ixX (T := Ty) (o' := 13) rfl rfl rfl rfl rfl (by omega) (by omega) rfl ?_
    refine WL.ldN (T := Ty) (j := 0) rfl rfl rfl rfl rfl rfl ?_
    refine WL.as rfl rfl ?_
    refine WL.nil ?_
    refine W.drop 0 rfl (by repeat' first | exact FL.nil | apply FL.cons) ?_
    exact W.ret1 rfl rfl (fun h p => ⟨rfl, p⟩)
  · refine W.seq ?_
    refine W.region ?_
    refine WL.as rfl rfl ?_
    refine WL.nil ?_
    refine W.seq ?_
    refine W.region ?_
    refine WL.bdAC (T := Ty) rfl rfl rfl rfl (by repeat' first | exact CO.nil | apply CO.one (by first | rfl | exact SL.one (by assumption)) | apply CO.agg) rfl (by repeat' first | exact FL.nil | apply FL.cons) ?_
    refine WL.alF (T := Ty) rfl rfl (by repeat' first | exact FL.nil | apply FL.cons) (fun b0 => ?_)
    refine WL.stAO (T := Ty) (j := 0) rfl rfl rfl rfl (by repeat' first | exact AO.nil | apply AO.cons (by first | rfl | exact SL.one (by assumption))) rfl rfl (by repeat' first | exact FL.nil | apply FL.cons) (by repeat' first | exact FL.nil | apply FL.cons) ?_
    refine WL.nil ?_
    refine W.seq ?_
    refine W.region ?_
    refine WL.mv rfl rfl ?_
    refine WL.ixX (T := Ty) (o' := 14) rfl rfl rfl rfl rfl (by omega) (by omega) rfl ?_
    refine WL.ldN (T := Ty) (j := 0) rfl rfl rfl rfl rfl rfl ?_
    refine WL.as rfl rfl ?_
    refine WL.nil ?_
    refine W.drop 0 rfl (by repeat' first | exact FL.nil | apply FL.cons) ?_
    exact W.ret1 rfl rfl (fun h p => ⟨rfl, p⟩)
  · refine W.seq ?_
    refine W.region ?_
    refine WL.as rfl rfl ?_
    refine WL.nil ?_
    refine W.seq ?_
    refine W.region ?_
    refine WL.bdAC (T := Ty) rfl rfl rfl rfl (by repeat' first | exact CO.nil | apply CO.one (by first | rfl | exact SL.one (by assumption)) | apply CO.agg) rfl (by repeat' first | exact FL.nil | apply FL.cons) ?_
    refine WL.alF (T := Ty) rfl rfl (by repeat' first | exact FL.nil | apply FL.cons) (fun b0 => ?_)
    refine WL.stAO (T := Ty) (j := 0) rfl rfl rfl rfl (by repeat' first | exact AO.nil | apply AO.cons (by first | rfl | exact SL.one (by assumption))) rfl rfl (by repeat' first | exact FL.nil | apply FL.cons) (by repeat' first | exact FL.nil | apply FL.cons) ?_
    refine WL.nil ?_
    refine W.seq ?_
    refine W.region ?_
    refine WL.mv rfl rfl ?_
    refine WL.ixX (T := Ty) (o' := 15) rfl rfl rfl rfl rfl (by omega) (by omega) rfl ?_
    refine WL.ldN (T := Ty) (j := 0) rfl rfl rfl rfl rfl rfl ?_
    refine WL.as rfl rfl ?_
    refine WL.nil ?_
    refine W.drop 0 rfl (by repeat' first | exact FL.nil | apply FL.cons) ?_
    exact W.ret1 rfl rfl (fun h p => ⟨rfl, p⟩)
-- CALL 64 refine WL.callV rfl rfl (fun x p d => rbits_c _ _ (by first | assumption | omega)) ?_
theorem rbits_c (ρ : Hp) (k : Nat) (hk : k < 16) : Fn Try.prog 64 #[.int .i64 (k : Int)] ρ [] (Just (.int .i64 (bitS k : Int))) := by
  refine in64 rfl rfl ?_
  rcases (by omega : k = 0 ∨ k = 1 ∨ k = 2 ∨ k = 3 ∨ k = 4 ∨ k = 5 ∨ k = 6 ∨ k = 7 ∨ k = 8 ∨ k = 9 ∨ k = 10 ∨ k = 11 ∨ k = 12 ∨ k = 13 ∨ k = 14 ∨ k = 15) with rfl | rfl | rfl | rfl | rfl | rfl | rfl | rfl | rfl | rfl | rfl | rfl | rfl | rfl | rfl | rfl
  · refine W.seq ?_
    refine W.region ?_
    refine WL.as rfl rfl ?_
    refine WL.nil ?_
    refine W.seq ?_
    refine W.region ?_
    refine WL.bdAC (T := Ty) rfl rfl rfl rfl (by repeat' first | exact CO.nil | apply CO.one (by first | rfl | exact SL.one (by assumption)) | apply CO.agg) rfl (by repeat' first | exact FL.nil | apply FL.cons) ?_
    refine WL.alF (T := Ty) rfl rfl (by repeat' first | exact FL.nil | apply FL.cons) (fun b0 => ?_)
    refine WL.stAO (T := Ty) (j := 0) rfl rfl rfl rfl (by repeat' first | exact AO.nil | apply AO.cons (by first | rfl | exact SL.one (by assumption))) rfl rfl (by repeat' first | exact FL.nil | apply FL.cons) (by repeat' first | exact FL.nil | apply FL.cons) ?_
    refine WL.nil ?_
    refine W.seq ?_
    refine W.region ?_
    refine WL.mv rfl rfl ?_
    refine WL.ixX (T := Ty) (o' := 0) rfl rfl rfl rfl rfl (by omega) (by omega) rfl ?_
    refine WL.ldN (T := Ty) (j := 0) rfl rfl rfl rfl rfl rfl ?_
    refine WL.as rfl rfl ?_
    refine WL.nil ?_
    refine W.drop 0 rfl (by repeat' first | exact FL.nil | apply FL.cons) ?_
    exact W.ret1 rfl rfl (fun h p => ⟨rfl, p⟩)
  · refine W.seq ?_
    refine W.region ?_
    refine WL.as rfl rfl ?_
    refine WL.nil ?_
    refine W.seq ?_
    refine W.region ?_
    refine WL.bdAC (T := Ty) rfl rfl rfl rfl (by repeat' first | exact CO.nil | apply CO.one (by first | rfl | exact SL.one (by assumption)) | apply CO.agg) rfl (by repeat' first | exact FL.nil | apply FL.cons) ?_
    refine WL.alF (T := Ty) rfl rfl (by repeat' first | exact FL.nil | apply FL.cons) (fun b0 => ?_)
    refine WL.stAO (T := Ty) (j := 0) rfl rfl rfl rfl (by repeat' first | exact AO.nil | apply AO.cons (by first | rfl | exact SL.one (by assumption))) rfl rfl (by repeat' first | exact FL.nil | apply FL.cons) (by repeat' first | exact FL.nil | apply FL.cons) ?_
    refine WL.nil ?_
    refine W.seq ?_
    refine W.region ?_
    refine WL.mv rfl rfl ?_
    refine WL.ixX (T := Ty) (o' := 1) rfl rfl rfl rfl rfl (by omega) (by omega) rfl ?_
    refine WL.ldN (T := Ty) (j := 0) rfl rfl rfl rfl rfl rfl ?_
    refine WL.as rfl rfl ?_
    refine WL.nil ?_
    refine W.drop 0 rfl (by repeat' first | exact FL.nil | apply FL.cons) ?_
    exact W.ret1 rfl rfl (fun h p => ⟨rfl, p⟩)
  · refine W.seq ?_
    refine W.region ?_
    refine WL.as rfl rfl ?_
    refine WL.nil ?_
    refine W.seq ?_
    refine W.region ?_
    refine WL.bdAC (T := Ty) rfl rfl rfl rfl (by repeat' first | exact CO.nil | apply CO.one (by first | rfl | exact SL.one (by assumption)) | apply CO.agg) rfl (by repeat' first | exact FL.nil | apply FL.cons) ?_
    refine WL.alF (T := Ty) rfl rfl (by repeat' first | exact FL.nil | apply FL.cons) (fun b0 => ?_)
    refine WL.stAO (T := Ty) (j := 0) rfl rfl rfl rfl (by repeat' first | exact AO.nil | apply AO.cons (by first | rfl | exact SL.one (by assumption))) rfl rfl (by repeat' first | exact FL.nil | apply FL.cons) (by repeat' first | exact FL.nil | apply FL.cons) ?_
    refine WL.nil ?_
    refine W.seq ?_
    refine W.region ?_
    refine WL.mv rfl rfl ?_
    refine WL.ixX (T := Ty) (o' := 2) rfl rfl rfl rfl rfl (by omega) (by omega) rfl ?_
    refine WL.ldN (T := Ty) (j := 0) rfl rfl rfl rfl rfl rfl ?_
    refine WL.as rfl rfl ?_
    refine WL.nil ?_
    refine W.drop 0 rfl (by repeat' first | exact FL.nil | apply FL.cons) ?_
    exact W.ret1 rfl rfl (fun h p => ⟨rfl, p⟩)
  · refine W.seq ?_
    refine W.region ?_
    refine WL.as rfl rfl ?_
    refine WL.nil ?_
    refine W.seq ?_
    refine W.region ?_
    refine WL.bdAC (T := Ty) rfl rfl rfl rfl (by repeat' first | exact CO.nil | apply CO.one (by first | rfl | exact SL.one (by assumption)) | apply CO.agg) rfl (by repeat' first | exact FL.nil | apply FL.cons) ?_
    refine WL.alF (T := Ty) rfl rfl (by repeat' first | exact FL.nil | apply FL.cons) (fun b0 => ?_)
    refine WL.stAO (T := Ty) (j := 0) rfl rfl rfl rfl (by repeat' first | exact AO.nil | apply AO.cons (by first | rfl | exact SL.one (by assumption))) rfl rfl (by repeat' first | exact FL.nil | apply FL.cons) (by repeat' first | exact FL.nil | apply FL.cons) ?_
    refine WL.nil ?_
    refine W.seq ?_
    refine W.region ?_
    refine WL.mv rfl rfl ?_
    refine WL.ixX (T := Ty) (o' := 3) rfl rfl rfl rfl rfl (by omega) (by omega) rfl ?_
    refine WL.ldN (T := Ty) (j := 0) rfl rfl rfl rfl rfl rfl ?_
    refine WL.as rfl rfl ?_
    refine WL.nil ?_
    refine W.drop 0 rfl (by repeat' first | exact FL.nil | apply FL.cons) ?_
    exact W.ret1 rfl rfl (fun h p => ⟨rfl, p⟩)
  · refine W.seq ?_
    refine W.region ?_
    refine WL.as rfl rfl ?_
    refine WL.nil ?_
    refine W.seq ?_
    refine W.region ?_
    refine WL.bdAC (T := Ty) rfl rfl rfl rfl (by repeat' first | exact CO.nil | apply CO.one (by first | rfl | exact SL.one (by assumption)) | apply CO.agg) rfl (by repeat' first | exact FL.nil | apply FL.cons) ?_
    refine WL.alF (T := Ty) rfl rfl (by repeat' first | exact FL.nil | apply FL.cons) (fun b0 => ?_)
    refine WL.stAO (T := Ty) (j := 0) rfl rfl rfl rfl (by repeat' first | exact AO.nil | apply AO.cons (by first | rfl | exact SL.one (by assumption))) rfl rfl (by repeat' first | exact FL.nil | apply FL.cons) (by repeat' first | exact FL.nil | apply FL.cons) ?_
    refine WL.nil ?_
    refine W.seq ?_
    refine W.region ?_
    refine WL.mv rfl rfl ?_
    refine WL.ixX (T := Ty) (o' := 4) rfl rfl rfl rfl rfl (by omega) (by omega) rfl ?_
    refine WL.ldN (T := Ty) (j := 0) rfl rfl rfl rfl rfl rfl ?_
    refine WL.as rfl rfl ?_
    refine WL.nil ?_
    refine W.drop 0 rfl (by repeat' first | exact FL.nil | apply FL.cons) ?_
    exact W.ret1 rfl rfl (fun h p => ⟨rfl, p⟩)
  · refine W.seq ?_
    refine W.region ?_
    refine WL.as rfl rfl ?_
    refine WL.nil ?_
    refine W.seq ?_
    refine W.region ?_
    refine WL.bdAC (T := Ty) rfl rfl rfl rfl (by repeat' first | exact CO.nil | apply CO.one (by first | rfl | exact SL.one (by assumption)) | apply CO.agg) rfl (by repeat' first | exact FL.nil | apply FL.cons) ?_
    refine WL.alF (T := Ty) rfl rfl (by repeat' first | exact FL.nil | apply FL.cons) (fun b0 => ?_)
    refine WL.stAO (T := Ty) (j := 0) rfl rfl rfl rfl (by repeat' first | exact AO.nil | apply AO.cons (by first | rfl | exact SL.one (by assumption))) rfl rfl (by repeat' first | exact FL.nil | apply FL.cons) (by repeat' first | exact FL.nil | apply FL.cons) ?_
    refine WL.nil ?_
    refine W.seq ?_
    refine W.region ?_
    refine WL.mv rfl rfl ?_
    refine WL.ixX (T := Ty) (o' := 5) rfl rfl rfl rfl rfl (by omega) (by omega) rfl ?_
    refine WL.ldN (T := Ty) (j := 0) rfl rfl rfl rfl rfl rfl ?_
    refine WL.as rfl rfl ?_
    refine WL.nil ?_
    refine W.drop 0 rfl (by repeat' first | exact FL.nil | apply FL.cons) ?_
    exact W.ret1 rfl rfl (fun h p => ⟨rfl, p⟩)
  · refine W.seq ?_
    refine W.region ?_
    refine WL.as rfl rfl ?_
    refine WL.nil ?_
    refine W.seq ?_
    refine W.region ?_
    refine WL.bdAC (T := Ty) rfl rfl rfl rfl (by repeat' first | exact CO.nil | apply CO.one (by first | rfl | exact SL.one (by assumption)) | apply CO.agg) rfl (by repeat' first | exact FL.nil | apply FL.cons) ?_
    refine WL.alF (T := Ty) rfl rfl (by repeat' first | exact FL.nil | apply FL.cons) (fun b0 => ?_)
    refine WL.stAO (T := Ty) (j := 0) rfl rfl rfl rfl (by repeat' first | exact AO.nil | apply AO.cons (by first | rfl | exact SL.one (by assumption))) rfl rfl (by repeat' first | exact FL.nil | apply FL.cons) (by repeat' first | exact FL.nil | apply FL.cons) ?_
    refine WL.nil ?_
    refine W.seq ?_
    refine W.region ?_
    refine WL.mv rfl rfl ?_
    refine WL.ixX (T := Ty) (o' := 6) rfl rfl rfl rfl rfl (by omega) (by omega) rfl ?_
    refine WL.ldN (T := Ty) (j := 0) rfl rfl rfl rfl rfl rfl ?_
    refine WL.as rfl rfl ?_
    refine WL.nil ?_
    refine W.drop 0 rfl (by repeat' first | exact FL.nil | apply FL.cons) ?_
    exact W.ret1 rfl rfl (fun h p => ⟨rfl, p⟩)
  · refine W.seq ?_
    refine W.region ?_
    refine WL.as rfl rfl ?_
    refine WL.nil ?_
    refine W.seq ?_
    refine W.region ?_
    refine WL.bdAC (T := Ty) rfl rfl rfl rfl (by repeat' first | exact CO.nil | apply CO.one (by first | rfl | exact SL.one (by assumption)) | apply CO.agg) rfl (by repeat' first | exact FL.nil | apply FL.cons) ?_
    refine WL.alF (T := Ty) rfl rfl (by repeat' first | exact FL.nil | apply FL.cons) (fun b0 => ?_)
    refine WL.stAO (T := Ty) (j := 0) rfl rfl rfl rfl (by repeat' first | exact AO.nil | apply AO.cons (by first | rfl | exact SL.one (by assumption))) rfl rfl (by repeat' first | exact FL.nil | apply FL.cons) (by repeat' first | exact FL.nil | apply FL.cons) ?_
    refine WL.nil ?_
    refine W.seq ?_
    refine W.region ?_
    refine WL.mv rfl rfl ?_
    refine WL.ixX (T := Ty) (o' := 7) rfl rfl rfl rfl rfl (by omega) (by omega) rfl ?_
    refine WL.ldN (T := Ty) (j := 0) rfl rfl rfl rfl rfl rfl ?_
    refine WL.as rfl rfl ?_
    refine WL.nil ?_
    refine W.drop 0 rfl (by repeat' first | exact FL.nil | apply FL.cons) ?_
    exact W.ret1 rfl rfl (fun h p => ⟨rfl, p⟩)
  · refine W.seq ?_
    refine W.region ?_
    refine WL.as rfl rfl ?_
    refine WL.nil ?_
    refine W.seq ?_
    refine W.region ?_
    refine WL.bdAC (T := Ty) rfl rfl rfl rfl (by repeat' first | exact CO.nil | apply CO.one (by first | rfl | exact SL.one (by assumption)) | apply CO.agg) rfl (by repeat' first | exact FL.nil | apply FL.cons) ?_
    refine WL.alF (T := Ty) rfl rfl (by repeat' first | exact FL.nil | apply FL.cons) (fun b0 => ?_)
    refine WL.stAO (T := Ty) (j := 0) rfl rfl rfl rfl (by repeat' first | exact AO.nil | apply AO.cons (by first | rfl | exact SL.one (by assumption))) rfl rfl (by repeat' first | exact FL.nil | apply FL.cons) (by repeat' first | exact FL.nil | apply FL.cons) ?_
    refine WL.nil ?_
    refine W.seq ?_
    refine W.region ?_
    refine WL.mv rfl rfl ?_
    refine WL.ixX (T := Ty) (o' := 8) rfl rfl rfl rfl rfl (by omega) (by omega) rfl ?_
    refine WL.ldN (T := Ty) (j := 0) rfl rfl rfl rfl rfl rfl ?_
    refine WL.as rfl rfl ?_
    refine WL.nil ?_
    refine W.drop 0 rfl (by repeat' first | exact FL.nil | apply FL.cons) ?_
    exact W.ret1 rfl rfl (fun h p => ⟨rfl, p⟩)
  · refine W.seq ?_
    refine W.region ?_
    refine WL.as rfl rfl ?_
    refine WL.nil ?_
    refine W.seq ?_
    refine W.region ?_
    refine WL.bdAC (T := Ty) rfl rfl rfl rfl (by repeat' first | exact CO.nil | apply CO.one (by first | rfl | exact SL.one (by assumption)) | apply CO.agg) rfl (by repeat' first | exact FL.nil | apply FL.cons) ?_
    refine WL.alF (T := Ty) rfl rfl (by repeat' first | exact FL.nil | apply FL.cons) (fun b0 => ?_)
    refine WL.stAO (T := Ty) (j := 0) rfl rfl rfl rfl (by repeat' first | exact AO.nil | apply AO.cons (by first | rfl | exact SL.one (by assumption))) rfl rfl (by repeat' first | exact FL.nil | apply FL.cons) (by repeat' first | exact FL.nil | apply FL.cons) ?_
    refine WL.nil ?_
    refine W.seq ?_
    refine W.region ?_
    refine WL.mv rfl rfl ?_
    refine WL.ixX (T := Ty) (o' := 9) rfl rfl rfl rfl rfl (by omega) (by omega) rfl ?_
    refine WL.ldN (T := Ty) (j := 0) rfl rfl rfl rfl rfl rfl ?_
    refine WL.as rfl rfl ?_
    refine WL.nil ?_
    refine W.drop 0 rfl (by repeat' first | exact FL.nil | apply FL.cons) ?_
    exact W.ret1 rfl rfl (fun h p => ⟨rfl, p⟩)
  · refine W.seq ?_
    refine W.region ?_
    refine WL.as rfl rfl ?_
    refine WL.nil ?_
    refine W.seq ?_
    refine W.region ?_
    refine WL.bdAC (T := Ty) rfl rfl rfl rfl (by repeat' first | exact CO.nil | apply CO.one (by first | rfl | exact SL.one (by assumption)) | apply CO.agg) rfl (by repeat' first | exact FL.nil | apply FL.cons) ?_
    refine WL.alF (T := Ty) rfl rfl (by repeat' first | exact FL.nil | apply FL.cons) (fun b0 => ?_)
    refine WL.stAO (T := Ty) (j := 0) rfl rfl rfl rfl (by repeat' first | exact AO.nil | apply AO.cons (by first | rfl | exact SL.one (by assumption))) rfl rfl (by repeat' first | exact FL.nil | apply FL.cons) (by repeat' first | exact FL.nil | apply FL.cons) ?_
    refine WL.nil ?_
    refine W.seq ?_
    refine W.region ?_
    refine WL.mv rfl rfl ?_
    refine WL.ixX (T := Ty) (o' := 10) rfl rfl rfl rfl rfl (by omega) (by omega) rfl ?_
    refine WL.ldN (T := Ty) (j := 0) rfl rfl rfl rfl rfl rfl ?_
    refine WL.as rfl rfl ?_
    refine WL.nil ?_
    refine W.drop 0 rfl (by repeat' first | exact FL.nil | apply FL.cons) ?_
    exact W.ret1 rfl rfl (fun h p => ⟨rfl, p⟩)
  · refine W.seq ?_
    refine W.region ?_
    refine WL.as rfl rfl ?_
    refine WL.nil ?_
    refine W.seq ?_
    refine W.region ?_
    refine WL.bdAC (T := Ty) rfl rfl rfl rfl (by repeat' first | exact CO.nil | apply CO.one (by first | rfl | exact SL.one (by assumption)) | apply CO.agg) rfl (by repeat' first | exact FL.nil | apply FL.cons) ?_
    refine WL.alF (T := Ty) rfl rfl (by repeat' first | exact FL.nil | apply FL.cons) (fun b0 => ?_)
    refine WL.stAO (T := Ty) (j := 0) rfl rfl rfl rfl (by repeat' first | exact AO.nil | apply AO.cons (by first | rfl | exact SL.one (by assumption))) rfl rfl (by repeat' first | exact FL.nil | apply FL.cons) (by repeat' first | exact FL.nil | apply FL.cons) ?_
    refine WL.nil ?_
    refine W.seq ?_
    refine W.region ?_
    refine WL.mv rfl rfl ?_
    refine WL.ixX (T := Ty) (o' := 11) rfl rfl rfl rfl rfl (by omega) (by omega) rfl ?_
    refine WL.ldN (T := Ty) (j := 0) rfl rfl rfl rfl rfl rfl ?_
    refine WL.as rfl rfl ?_
    refine WL.nil ?_
    refine W.drop 0 rfl (by repeat' first | exact FL.nil | apply FL.cons) ?_
    exact W.ret1 rfl rfl (fun h p => ⟨rfl, p⟩)
  · refine W.seq ?_
    refine W.region ?_
    refine WL.as rfl rfl ?_
    refine WL.nil ?_
    refine W.seq ?_
    refine W.region ?_
    refine WL.bdAC (T := Ty) rfl rfl rfl rfl (by repeat' first | exact CO.nil | apply CO.one (by first | rfl | exact SL.one (by assumption)) | apply CO.agg) rfl (by repeat' first | exact FL.nil | apply FL.cons) ?_
    refine WL.alF (T := Ty) rfl rfl (by repeat' first | exact FL.nil | apply FL.cons) (fun b0 => ?_)
    refine WL.stAO (T := Ty) (j := 0) rfl rfl rfl rfl (by repeat' first | exact AO.nil | apply AO.cons (by first | rfl | exact SL.one (by assumption))) rfl rfl (by repeat' first | exact FL.nil | apply FL.cons) (by repeat' first | exact FL.nil | apply FL.cons) ?_
    refine WL.nil ?_
    refine W.seq ?_
    refine W.region ?_
    refine WL.mv rfl rfl ?_
    refine WL.ixX (T := Ty) (o' := 12) rfl rfl rfl rfl rfl (by omega) (by omega) rfl ?_
    refine WL.ldN (T := Ty) (j := 0) rfl rfl rfl rfl rfl rfl ?_
    refine WL.as rfl rfl ?_
    refine WL.nil ?_
    refine W.drop 0 rfl (by repeat' first | exact FL.nil | apply FL.cons) ?_
    exact W.ret1 rfl rfl (fun h p => ⟨rfl, p⟩)
  · refine W.seq ?_
    refine W.region ?_
    refine WL.as rfl rfl ?_
    refine WL.nil ?_
    refine W.seq ?_
    refine W.region ?_
    refine WL.bdAC (T := Ty) rfl rfl rfl rfl (by repeat' first | exact CO.nil | apply CO.one (by first | rfl | exact SL.one (by assumption)) | apply CO.agg) rfl (by repeat' first | exact FL.nil | apply FL.cons) ?_
    refine WL.alF (T := Ty) rfl rfl (by repeat' first | exact FL.nil | apply FL.cons) (fun b0 => ?_)
    refine WL.stAO (T := Ty) (j := 0) rfl rfl rfl rfl (by repeat' first | exact AO.nil | apply AO.cons (by first | rfl | exact SL.one (by assumption))) rfl rfl (by repeat' first | exact FL.nil | apply FL.cons) (by repeat' first | exact FL.nil | apply FL.cons) ?_
    refine WL.nil ?_
    refine W.seq ?_
    refine W.region ?_
    refine WL.mv rfl rfl ?_
    refine WL.ixX (T := Ty) (o' := 13) rfl rfl rfl rfl rfl (by omega) (by omega) rfl ?_
    refine WL.ldN (T := Ty) (j := 0) rfl rfl rfl rfl rfl rfl ?_
    refine WL.as rfl rfl ?_
    refine WL.nil ?_
    refine W.drop 0 rfl (by repeat' first | exact FL.nil | apply FL.cons) ?_
    exact W.ret1 rfl rfl (fun h p => ⟨rfl, p⟩)
  · refine W.seq ?_
    refine W.region ?_
    refine WL.as rfl rfl ?_
    refine WL.nil ?_
    refine W.seq ?_
    refine W.region ?_
    refine WL.bdAC (T := Ty) rfl rfl rfl rfl (by repeat' first | exact CO.nil | apply CO.one (by first | rfl | exact SL.one (by assumption)) | apply CO.agg) rfl (by repeat' first | exact FL.nil | apply FL.cons) ?_
    refine WL.alF (T := Ty) rfl rfl (by repeat' first | exact FL.nil | apply FL.cons) (fun b0 => ?_)
    refine WL.stAO (T := Ty) (j := 0) rfl rfl rfl rfl (by repeat' first | exact AO.nil | apply AO.cons (by first | rfl | exact SL.one (by assumption))) rfl rfl (by repeat' first | exact FL.nil | apply FL.cons) (by repeat' first | exact FL.nil | apply FL.cons) ?_
    refine WL.nil ?_
    refine W.seq ?_
    refine W.region ?_
    refine WL.mv rfl rfl ?_
    refine WL.ixX (T := Ty) (o' := 14) rfl rfl rfl rfl rfl (by omega) (by omega) rfl ?_
    refine WL.ldN (T := Ty) (j := 0) rfl rfl rfl rfl rfl rfl ?_
    refine WL.as rfl rfl ?_
    refine WL.nil ?_
    refine W.drop 0 rfl (by repeat' first | exact FL.nil | apply FL.cons) ?_
    exact W.ret1 rfl rfl (fun h p => ⟨rfl, p⟩)
  · refine W.seq ?_
    refine W.region ?_
    refine WL.as rfl rfl ?_
    refine WL.nil ?_
    refine W.seq ?_
    refine W.region ?_
    refine WL.bdAC (T := Ty) rfl rfl rfl rfl (by repeat' first | exact CO.nil | apply CO.one (by first | rfl | exact SL.one (by assumption)) | apply CO.agg) rfl (by repeat' first | exact FL.nil | apply FL.cons) ?_
    refine WL.alF (T := Ty) rfl rfl (by repeat' first | exact FL.nil | apply FL.cons) (fun b0 => ?_)
    refine WL.stAO (T := Ty) (j := 0) rfl rfl rfl rfl (by repeat' first | exact AO.nil | apply AO.cons (by first | rfl | exact SL.one (by assumption))) rfl rfl (by repeat' first | exact FL.nil | apply FL.cons) (by repeat' first | exact FL.nil | apply FL.cons) ?_
    refine WL.nil ?_
    refine W.seq ?_
    refine W.region ?_
    refine WL.mv rfl rfl ?_
    refine WL.ixX (T := Ty) (o' := 15) rfl rfl rfl rfl rfl (by omega) (by omega) rfl ?_
    refine WL.ldN (T := Ty) (j := 0) rfl rfl rfl rfl rfl rfl ?_
    refine WL.as rfl rfl ?_
    refine WL.nil ?_
    refine W.drop 0 rfl (by repeat' first | exact FL.nil | apply FL.cons) ?_
    exact W.ret1 rfl rfl (fun h p => ⟨rfl, p⟩)
end Go.Proofs.Ytlmhjkbbooghfaa
