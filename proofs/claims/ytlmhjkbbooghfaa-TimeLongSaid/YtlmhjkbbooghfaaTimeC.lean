/- Times by their differences: what the code of package time does. -/
import Derived.Test.YtlmhjkbbooghfaaStc
import Derived.Test.YtlmhjkbbooghfaaNum
import Derived.Test.YtlmhjkbbooghfaaTab
import Derived.Test.YtlmhjkbbooghfaaBits
import Derived.Test.YtlmhjkbbooghfaaTimeLaw
set_option linter.unusedSimpArgs false
set_option linter.unusedVariables false
set_option maxRecDepth 20000
set_option maxHeartbeats 4000000
namespace Go.Proofs.Ytlmhjkbbooghfaa
open Go
attribute [local irreducible] W WL Fn Buf ROs SL eptr box Rd Src bndOK WD RB Reads In

def FormV (d : Int) : Value := .agg [.int .u64 ((whichF d).1 : Int), .int .i64 ((whichF d).2.1 : Int), .int .i64 ((whichF d).2.2 : Int)].toArray
-- CALL 82 refine WL.callT (v := FormV _) rfl rfl (fun x p d => which_c _ _) ?_ ;; simp only [FormV]
theorem which_c (ρ : Hp) (d : Int) : Fn Try.prog 82 #[.int .i64 d] ρ [] (fun r _ => r = FormV d) := by
  refine in82 rfl rfl ?_
  by_cases c0 : d = 0
  · have e : whichF d = (0, 1, 0) := by unfold whichF; rw [if_pos c0]
    refine W.seq ?_
    refine W.region ?_
    refine WL.alF (T := Ty) rfl rfl (by repeat' first | exact FL.nil | apply FL.cons) (fun b0 => ?_)
    refine WL.nil ?_
    refine W.seq ?_
    refine W.block ?_
    refine W.seq ?_
    refine W.region ?_
    refine WL.mv rfl rfl ?_
    refine WL.eql rfl rfl rfl ?_
    refine WL.as rfl rfl ?_
    refine WL.nil ?_
    refine W.condpT rfl (by omega) ?_
    refine W.seq ?_
    refine W.region ?_
    refine WL.bdC (T := Ty) rfl rfl rfl rfl (by repeat' first | exact CO.nil | apply CO.one (by first | rfl | exact SL.one (by assumption)) | apply CO.agg) rfl (by repeat' first | exact FL.nil | apply FL.cons) ?_
    refine WL.stAO (T := Ty) (j := 0) rfl rfl rfl rfl (by repeat' first | exact AO.nil | apply AO.cons (by first | rfl | exact SL.one (by assumption))) rfl rfl (by repeat' first | exact FL.nil | apply FL.cons) (by repeat' first | exact FL.nil | apply FL.cons) ?_
    refine WL.nil ?_
    exact W.retW (T := Ty) (j := 0) rfl rfl rfl rfl rfl rfl (fun h p => by unfold FormV; rw [e]; rfl)
  by_cases c1 : -64 ≤ d ∧ d ≤ 63
  · have e : whichF d = (2, 2, 7) := by unfold whichF; rw [if_neg c0, if_pos c1]
    refine W.seq ?_
    refine W.region ?_
    refine WL.alF (T := Ty) rfl rfl (by repeat' first | exact FL.nil | apply FL.cons) (fun b0 => ?_)
    refine WL.nil ?_
    refine W.seq ?_
    refine W.block ?_
    refine W.seq ?_
    refine W.region ?_
    refine WL.mv rfl rfl ?_
    refine WL.eql rfl rfl rfl ?_
    refine WL.as rfl rfl ?_
    refine WL.nil ?_
    refine W.condpF rfl (by omega) ?_
    refine W.seq ?_
    refine W.region ?_
    refine WL.mv rfl rfl ?_
    refine WL.geq rfl rfl rfl ?_
    refine WL.mv rfl rfl ?_
    refine WL.gT rfl rfl (by omega) ?_
    refine WL.mv rfl rfl ?_
    refine WL.gT rfl rfl (by omega) ?_
    refine WL.leq rfl rfl rfl ?_
    refine WL.pickTp rfl rfl (by omega) rfl ?_
    refine WL.as rfl rfl ?_
    refine WL.nil ?_
    refine W.condpT rfl (by omega) ?_
    refine W.seq ?_
    refine W.region ?_
    refine WL.bdC (T := Ty) rfl rfl rfl rfl (by repeat' first | exact CO.nil | apply CO.one (by first | rfl | exact SL.one (by assumption)) | apply CO.agg) rfl (by repeat' first | exact FL.nil | apply FL.cons) ?_
    refine WL.stAO (T := Ty) (j := 0) rfl rfl rfl rfl (by repeat' first | exact AO.nil | apply AO.cons (by first | rfl | exact SL.one (by assumption))) rfl rfl (by repeat' first | exact FL.nil | apply FL.cons) (by repeat' first | exact FL.nil | apply FL.cons) ?_
    refine WL.nil ?_
    exact W.retW (T := Ty) (j := 0) rfl rfl rfl rfl rfl rfl (fun h p => by unfold FormV; rw [e]; rfl)
  by_cases c2 : -256 ≤ d ∧ d ≤ 255
  · have e : whichF d = (6, 3, 9) := by unfold whichF; rw [if_neg c0, if_neg c1, if_pos c2]
    by_cases k1 : -64 ≤ d
    · refine W.seq ?_
      refine W.region ?_
      refine WL.alF (T := Ty) rfl rfl (by repeat' first | exact FL.nil | apply FL.cons) (fun b0 => ?_)
      refine WL.nil ?_
      refine W.seq ?_
      refine W.block ?_
      refine W.seq ?_
      refine W.region ?_
      refine WL.mv rfl rfl ?_
      refine WL.eql rfl rfl rfl ?_
      refine WL.as rfl rfl ?_
      refine WL.nil ?_
      refine W.condpF rfl (by omega) ?_
      refine W.seq ?_
      refine W.region ?_
      refine WL.mv rfl rfl ?_
      refine WL.geq rfl rfl rfl ?_
      refine WL.mv rfl rfl ?_
      refine WL.gT rfl rfl (by omega) ?_
      refine WL.mv rfl rfl ?_
      refine WL.gT rfl rfl (by omega) ?_
      refine WL.leq rfl rfl rfl ?_
      refine WL.pickTp rfl rfl (by omega) rfl ?_
      refine WL.as rfl rfl ?_
      refine WL.nil ?_
      refine W.condpF rfl (by omega) ?_
      refine W.seq ?_
      refine W.region ?_
      refine WL.mv rfl rfl ?_
      refine WL.geq rfl rfl rfl ?_
      refine WL.mv rfl rfl ?_
      refine WL.gT rfl rfl (by omega) ?_
      refine WL.mv rfl rfl ?_
      refine WL.gT rfl rfl (by omega) ?_
      refine WL.leq rfl rfl rfl ?_
      refine WL.pickTp rfl rfl (by omega) rfl ?_
      refine WL.as rfl rfl ?_
      refine WL.nil ?_
      refine W.condpT rfl (by omega) ?_
      refine W.seq ?_
      refine W.region ?_
      refine WL.bdC (T := Ty) rfl rfl rfl rfl (by repeat' first | exact CO.nil | apply CO.one (by first | rfl | exact SL.one (by assumption)) | apply CO.agg) rfl (by repeat' first | exact FL.nil | apply FL.cons) ?_
      refine WL.stAO (T := Ty) (j := 0) rfl rfl rfl rfl (by repeat' first | exact AO.nil | apply AO.cons (by first | rfl | exact SL.one (by assumption))) rfl rfl (by repeat' first | exact FL.nil | apply FL.cons) (by repeat' first | exact FL.nil | apply FL.cons) ?_
      refine WL.nil ?_
      exact W.retW (T := Ty) (j := 0) rfl rfl rfl rfl rfl rfl (fun h p => by unfold FormV; rw [e]; rfl)
    · refine W.seq ?_
      refine W.region ?_
      refine WL.alF (T := Ty) rfl rfl (by repeat' first | exact FL.nil | apply FL.cons) (fun b0 => ?_)
      refine WL.nil ?_
      refine W.seq ?_
      refine W.block ?_
      refine W.seq ?_
      refine W.region ?_
      refine WL.mv rfl rfl ?_
      refine WL.eql rfl rfl rfl ?_
      refine WL.as rfl rfl ?_
      refine WL.nil ?_
      refine W.condpF rfl (by omega) ?_
      refine W.seq ?_
      refine W.region ?_
      refine WL.mv rfl rfl ?_
      refine WL.geq rfl rfl rfl ?_
      refine WL.mv rfl rfl ?_
      refine WL.gdTn rfl rfl rfl rfl rfl (by omega) ?_
      refine WL.gdTn rfl rfl rfl rfl rfl (by omega) ?_
      refine WL.pickFp rfl rfl (by omega) rfl ?_
      refine WL.as rfl rfl ?_
      refine WL.nil ?_
      refine W.condF rfl ?_
      refine W.seq ?_
      refine W.region ?_
      refine WL.mv rfl rfl ?_
      refine WL.geq rfl rfl rfl ?_
      refine WL.mv rfl rfl ?_
      refine WL.gT rfl rfl (by omega) ?_
      refine WL.mv rfl rfl ?_
      refine WL.gT rfl rfl (by omega) ?_
      refine WL.leq rfl rfl rfl ?_
      refine WL.pickTp rfl rfl (by omega) rfl ?_
      refine WL.as rfl rfl ?_
      refine WL.nil ?_
      refine W.condpT rfl (by omega) ?_
      refine W.seq ?_
      refine W.region ?_
      refine WL.bdC (T := Ty) rfl rfl rfl rfl (by repeat' first | exact CO.nil | apply CO.one (by first | rfl | exact SL.one (by assumption)) | apply CO.agg) rfl (by repeat' first | exact FL.nil | apply FL.cons) ?_
      refine WL.stAO (T := Ty) (j := 0) rfl rfl rfl rfl (by repeat' first | exact AO.nil | apply AO.cons (by first | rfl | exact SL.one (by assumption))) rfl rfl (by repeat' first | exact FL.nil | apply FL.cons) (by repeat' first | exact FL.nil | apply FL.cons) ?_
      refine WL.nil ?_
      exact W.retW (T := Ty) (j := 0) rfl rfl rfl rfl rfl rfl (fun h p => by unfold FormV; rw [e]; rfl)
  by_cases c3 : -2048 ≤ d ∧ d ≤ 2047
  · have e : whichF d = (14, 4, 12) := by unfold whichF; rw [if_neg c0, if_neg c1, if_neg c2, if_pos c3]
    by_cases k1 : -64 ≤ d
    · refine W.seq ?_
      refine W.region ?_
      refine WL.alF (T := Ty) rfl rfl (by repeat' first | exact FL.nil | apply FL.cons) (fun b0 => ?_)
      refine WL.nil ?_
      refine W.seq ?_
      refine W.block ?_
      refine W.seq ?_
      refine W.region ?_
      refine WL.mv rfl rfl ?_
      refine WL.eql rfl rfl rfl ?_
      refine WL.as rfl rfl ?_
      refine WL.nil ?_
      refine W.condpF rfl (by omega) ?_
      refine W.seq ?_
      refine W.region ?_
      refine WL.mv rfl rfl ?_
      refine WL.geq rfl rfl rfl ?_
      refine WL.mv rfl rfl ?_
      refine WL.gT rfl rfl (by omega) ?_
      refine WL.mv rfl rfl ?_
      refine WL.gT rfl rfl (by omega) ?_
      refine WL.leq rfl rfl rfl ?_
      refine WL.pickTp rfl rfl (by omega) rfl ?_
      refine WL.as rfl rfl ?_
      refine WL.nil ?_
      refine W.condpF rfl (by omega) ?_
      refine W.seq ?_
      refine W.region ?_
      refine WL.mv rfl rfl ?_
      refine WL.geq rfl rfl rfl ?_
      refine WL.mv rfl rfl ?_
      refine WL.gT rfl rfl (by omega) ?_
      refine WL.mv rfl rfl ?_
      refine WL.gT rfl rfl (by omega) ?_
      refine WL.leq rfl rfl rfl ?_
      refine WL.pickTp rfl rfl (by omega) rfl ?_
      refine WL.as rfl rfl ?_
      refine WL.nil ?_
      refine W.condpF rfl (by omega) ?_
      refine W.seq ?_
      refine W.region ?_
      refine WL.mv rfl rfl ?_
      refine WL.geq rfl rfl rfl ?_
      refine WL.mv rfl rfl ?_
      refine WL.gT rfl rfl (by omega) ?_
      refine WL.mv rfl rfl ?_
      refine WL.gT rfl rfl (by omega) ?_
      refine WL.leq rfl rfl rfl ?_
      refine WL.pickTp rfl rfl (by omega) rfl ?_
      refine WL.as rfl rfl ?_
      refine WL.nil ?_
      refine W.condpT rfl (by omega) ?_
      refine W.seq ?_
      refine W.region ?_
      refine WL.bdC (T := Ty) rfl rfl rfl rfl (by repeat' first | exact CO.nil | apply CO.one (by first | rfl | exact SL.one (by assumption)) | apply CO.agg) rfl (by repeat' first | exact FL.nil | apply FL.cons) ?_
      refine WL.stAO (T := Ty) (j := 0) rfl rfl rfl rfl (by repeat' first | exact AO.nil | apply AO.cons (by first | rfl | exact SL.one (by assumption))) rfl rfl (by repeat' first | exact FL.nil | apply FL.cons) (by repeat' first | exact FL.nil | apply FL.cons) ?_
      refine WL.nil ?_
      exact W.retW (T := Ty) (j := 0) rfl rfl rfl rfl rfl rfl (fun h p => by unfold FormV; rw [e]; rfl)
    · refine W.seq ?_
      refine W.region ?_
      refine WL.alF (T := Ty) rfl rfl (by repeat' first | exact FL.nil | apply FL.cons) (fun b0 => ?_)
      refine WL.nil ?_
      refine W.seq ?_
      refine W.block ?_
      refine W.seq ?_
      refine W.region ?_
      refine WL.mv rfl rfl ?_
      refine WL.eql rfl rfl rfl ?_
      refine WL.as rfl rfl ?_
      refine WL.nil ?_
      refine W.condpF rfl (by omega) ?_
      refine W.seq ?_
      refine W.region ?_
      refine WL.mv rfl rfl ?_
      refine WL.geq rfl rfl rfl ?_
      refine WL.mv rfl rfl ?_
      refine WL.gdTn rfl rfl rfl rfl rfl (by omega) ?_
      refine WL.gdTn rfl rfl rfl rfl rfl (by omega) ?_
      refine WL.pickFp rfl rfl (by omega) rfl ?_
      refine WL.as rfl rfl ?_
      refine WL.nil ?_
      refine W.condF rfl ?_
      refine W.seq ?_
      refine W.region ?_
      refine WL.mv rfl rfl ?_
      refine WL.geq rfl rfl rfl ?_
      refine WL.mv rfl rfl ?_
      refine WL.gdTn rfl rfl rfl rfl rfl (by omega) ?_
      refine WL.gdTn rfl rfl rfl rfl rfl (by omega) ?_
      refine WL.pickFp rfl rfl (by omega) rfl ?_
      refine WL.as rfl rfl ?_
      refine WL.nil ?_
      refine W.condF rfl ?_
      refine W.seq ?_
      refine W.region ?_
      refine WL.mv rfl rfl ?_
      refine WL.geq rfl rfl rfl ?_
      refine WL.mv rfl rfl ?_
      refine WL.gT rfl rfl (by omega) ?_
      refine WL.mv rfl rfl ?_
      refine WL.gT rfl rfl (by omega) ?_
      refine WL.leq rfl rfl rfl ?_
      refine WL.pickTp rfl rfl (by omega) rfl ?_
      refine WL.as rfl rfl ?_
      refine WL.nil ?_
      refine W.condpT rfl (by omega) ?_
      refine W.seq ?_
      refine W.region ?_
      refine WL.bdC (T := Ty) rfl rfl rfl rfl (by repeat' first | exact CO.nil | apply CO.one (by first | rfl | exact SL.one (by assumption)) | apply CO.agg) rfl (by repeat' first | exact FL.nil | apply FL.cons) ?_
      refine WL.stAO (T := Ty) (j := 0) rfl rfl rfl rfl (by repeat' first | exact AO.nil | apply AO.cons (by first | rfl | exact SL.one (by assumption))) rfl rfl (by repeat' first | exact FL.nil | apply FL.cons) (by repeat' first | exact FL.nil | apply FL.cons) ?_
      refine WL.nil ?_
      exact W.retW (T := Ty) (j := 0) rfl rfl rfl rfl rfl rfl (fun h p => by unfold FormV; rw [e]; rfl)
  · have e : whichF d = (15, 4, 64) := by unfold whichF; rw [if_neg c0, if_neg c1, if_neg c2, if_neg c3]
    by_cases k1 : -64 ≤ d
    · refine W.seq ?_
      refine W.region ?_
      refine WL.alF (T := Ty) rfl rfl (by repeat' first | exact FL.nil | apply FL.cons) (fun b0 => ?_)
      refine WL.nil ?_
      refine W.seq ?_
      refine W.block ?_
      refine W.seq ?_
      refine W.region ?_
      refine WL.mv rfl rfl ?_
      refine WL.eql rfl rfl rfl ?_
      refine WL.as rfl rfl ?_
      refine WL.nil ?_
      refine W.condpF rfl (by omega) ?_
      refine W.seq ?_
      refine W.region ?_
      refine WL.mv rfl rfl ?_
      refine WL.geq rfl rfl rfl ?_
      refine WL.mv rfl rfl ?_
      refine WL.gT rfl rfl (by omega) ?_
      refine WL.mv rfl rfl ?_
      refine WL.gT rfl rfl (by omega) ?_
      refine WL.leq rfl rfl rfl ?_
      refine WL.pickTp rfl rfl (by omega) rfl ?_
      refine WL.as rfl rfl ?_
      refine WL.nil ?_
      refine W.condpF rfl (by omega) ?_
      refine W.seq ?_
      refine W.region ?_
      refine WL.mv rfl rfl ?_
      refine WL.geq rfl rfl rfl ?_
      refine WL.mv rfl rfl ?_
      refine WL.gT rfl rfl (by omega) ?_
      refine WL.mv rfl rfl ?_
      refine WL.gT rfl rfl (by omega) ?_
      refine WL.leq rfl rfl rfl ?_
      refine WL.pickTp rfl rfl (by omega) rfl ?_
      refine WL.as rfl rfl ?_
      refine WL.nil ?_
      refine W.condpF rfl (by omega) ?_
      refine W.seq ?_
      refine W.region ?_
      refine WL.mv rfl rfl ?_
      refine WL.geq rfl rfl rfl ?_
      refine WL.mv rfl rfl ?_
      refine WL.gT rfl rfl (by omega) ?_
      refine WL.mv rfl rfl ?_
      refine WL.gT rfl rfl (by omega) ?_
      refine WL.leq rfl rfl rfl ?_
      refine WL.pickTp rfl rfl (by omega) rfl ?_
      refine WL.as rfl rfl ?_
      refine WL.nil ?_
      refine W.condpF rfl (by omega) ?_
      refine W.skip ?_
      refine W.inBlock ?_
      refine W.seq ?_
      refine W.region ?_
      refine WL.bdC (T := Ty) rfl rfl rfl rfl (by repeat' first | exact CO.nil | apply CO.one (by first | rfl | exact SL.one (by assumption)) | apply CO.agg) rfl (by repeat' first | exact FL.nil | apply FL.cons) ?_
      refine WL.stAO (T := Ty) (j := 0) rfl rfl rfl rfl (by repeat' first | exact AO.nil | apply AO.cons (by first | rfl | exact SL.one (by assumption))) rfl rfl (by repeat' first | exact FL.nil | apply FL.cons) (by repeat' first | exact FL.nil | apply FL.cons) ?_
      refine WL.nil ?_
      exact W.retW (T := Ty) (j := 0) rfl rfl rfl rfl rfl rfl (fun h p => by unfold FormV; rw [e]; rfl)
    · refine W.seq ?_
      refine W.region ?_
      refine WL.alF (T := Ty) rfl rfl (by repeat' first | exact FL.nil | apply FL.cons) (fun b0 => ?_)
      refine WL.nil ?_
      refine W.seq ?_
      refine W.block ?_
      refine W.seq ?_
      refine W.region ?_
      refine WL.mv rfl rfl ?_
      refine WL.eql rfl rfl rfl ?_
      refine WL.as rfl rfl ?_
      refine WL.nil ?_
      refine W.condpF rfl (by omega) ?_
      refine W.seq ?_
      refine W.region ?_
      refine WL.mv rfl rfl ?_
      refine WL.geq rfl rfl rfl ?_
      refine WL.mv rfl rfl ?_
      refine WL.gdTn rfl rfl rfl rfl rfl (by omega) ?_
      refine WL.gdTn rfl rfl rfl rfl rfl (by omega) ?_
      refine WL.pickFp rfl rfl (by omega) rfl ?_
      refine WL.as rfl rfl ?_
      refine WL.nil ?_
      refine W.condF rfl ?_
      refine W.seq ?_
      refine W.region ?_
      refine WL.mv rfl rfl ?_
      refine WL.geq rfl rfl rfl ?_
      refine WL.mv rfl rfl ?_
      refine WL.gdTn rfl rfl rfl rfl rfl (by omega) ?_
      refine WL.gdTn rfl rfl rfl rfl rfl (by omega) ?_
      refine WL.pickFp rfl rfl (by omega) rfl ?_
      refine WL.as rfl rfl ?_
      refine WL.nil ?_
      refine W.condF rfl ?_
      refine W.seq ?_
      refine W.region ?_
      refine WL.mv rfl rfl ?_
      refine WL.geq rfl rfl rfl ?_
      refine WL.mv rfl rfl ?_
      refine WL.gdTn rfl rfl rfl rfl rfl (by omega) ?_
      refine WL.gdTn rfl rfl rfl rfl rfl (by omega) ?_
      refine WL.pickFp rfl rfl (by omega) rfl ?_
      refine WL.as rfl rfl ?_
      refine WL.nil ?_
      refine W.condF rfl ?_
      refine W.skip ?_
      refine W.inBlock ?_
      refine W.seq ?_
      refine W.region ?_
      refine WL.bdC (T := Ty) rfl rfl rfl rfl (by repeat' first | exact CO.nil | apply CO.one (by first | rfl | exact SL.one (by assumption)) | apply CO.agg) rfl (by repeat' first | exact FL.nil | apply FL.cons) ?_
      refine WL.stAO (T := Ty) (j := 0) rfl rfl rfl rfl (by repeat' first | exact AO.nil | apply AO.cons (by first | rfl | exact SL.one (by assumption))) rfl rfl (by repeat' first | exact FL.nil | apply FL.cons) (by repeat' first | exact FL.nil | apply FL.cons) ?_
      refine WL.nil ?_
      exact W.retW (T := Ty) (j := 0) rfl rfl rfl rfl rfl rfl (fun h p => by unfold FormV; rw [e]; rfl)

-- MUT 70 Wr
-- CALL 70 refine WL.callM $J rfl rfl rfl (fun x p d => tenc_c _ _ _ _ _ $RO (by first | assumption | exact bok_nil) (by first | assumption | omega | exact Nat.zero_le _) (by first | assumption | omega)) $FL ?_
theorem tenc_c (ρ : Hp) (b : Nat) (ds : List Nat) (v : Value) (ts : List Int) (hv : ROs ρ 1 v (ts.map (Value.int .i64))) (hds : ∀ d ∈ ds, d < 2) (hl : ds.length ≤ 1099000000) (htl : ts.length ≤ 70000) :
    Fn Try.prog 70 #[ptr b, v] ρ [Wr b ds] (fun r h => r = .tuple #[] ∧ Wr b (ds ++ encTs ts) h) := by
  refine in70 rfl rfl ?_
  have sv := hv.slm
  refine W.seq ?_
  refine W.region ?_
  refine WL.as rfl rfl ?_
  refine WL.as rfl rfl ?_
  refine WL.nil ?_
  refine W.seq ?_
  refine W.region ?_
  refine WL.mv rfl rfl ?_
  refine WL.len (T := Ty) rfl rfl (by assumption) rfl ?_
  refine WL.mv rfl rfl ?_
  refine WL.nil ?_
  refine W.block ?_
  refine W.loopS (σ := Nat × Int × Int × List Nat) (fun s => [(0, ptr b), (11, v), (12, .int .i64 (ts.length : Int)), (13, .int .i64 (s.1 : Int)), (4, .int .u64 s.2.1), (5, .int .u64 s.2.2.1)]) (fun s => [Wr b s.2.2.2])
    (fun s => s.1 ≤ ts.length ∧ s.2.2.2 ++ (if s.1 = 0 then encTs ts else encT s.2.1 s.2.2.1 (ts.drop s.1)) = ds ++ encTs ts ∧ (s.1 = 0 → s.2.2.1 = 0) ∧ (∀ d ∈ s.2.2.2, d < 2) ∧ s.2.2.2.length ≤ ds.length + 68 * s.1) (fun s => ts.length - s.1) (0, 0, 0, ds) ⟨rfl, rfl, rfl, rfl, rfl, rfl, trivial⟩ rfl ⟨Nat.zero_le _, rfl, fun _ => rfl, hds, by simp⟩ ?_
  rintro ⟨i, was, step, es⟩ ⟨h1, h2, h3, h4, h5⟩ next
  simp only [] at h1 h2 h3 h4 h5 next ⊢
  refine W.seq ?_
  refine W.region ?_
  refine WL.lss rfl rfl rfl ?_
  refine WL.nil ?_
  refine W.seq ?_
  refine W.condp rfl (fun hlt => ?_) (fun hge => ?_)
  · have hi : i < ts.length := by omega
    obtain ⟨x, hx⟩ : ∃ x, ts[i]? = some x := ⟨_, List.getElem?_eq_getElem hi⟩
    have hx1 : (ts.map (Value.int .i64))[i]? = some (.int .i64 x) := by rw [List.getElem?_map, hx]; rfl
    have hdrop : ts.drop i = x :: ts.drop (i + 1) := by
      rw [List.drop_eq_getElem_cons hi]
      congr 1
      rw [List.getElem?_eq_getElem hi] at hx
      exact Option.some.inj hx
    have hb := u64_bnd x
    by_cases h0 : i = 0
    · subst h0
      refine W.skip ?_
      refine W.seq ?_
      refine W.block ?_
      refine W.seq ?_
      refine W.region ?_
      refine WL.mv rfl rfl ?_
      refine WL.ix (T := Ty) rfl rfl rfl (by assumption) rfl rfl (by omega) (by first | omega | decide +kernel) ?_
      refine WL.ldKn (T := Ty) rfl rfl rfl rfl (by first | assumption | exact ROs.wide (by assumption)) (by assumption) ?_
      refine WL.as rfl rfl ?_
      refine WL.as rfl rfl ?_
      refine WL.nil ?_
      refine W.seq ?_
      refine W.region ?_
      refine WL.mv rfl rfl ?_
      refine WL.cv (T := Ty) rfl rfl rfl rfl ?_
      refine WL.as rfl rfl ?_
      refine WL.nil ?_
      refine W.seq ?_
      refine W.seq ?_
      refine W.region ?_
      refine WL.mv rfl rfl ?_
      refine WL.eql rfl rfl rfl ?_
      refine WL.nil ?_
      refine W.condT rfl ?_
      refine W.seq ?_
      refine W.region ?_
      refine WL.mv rfl rfl ?_
      refine WL.mv rfl rfl ?_
      refine WL.callM 0 rfl rfl rfl (fun x p d => put_ci _ _ _ _ _ (by omega) (by omega) (by repeat' first | assumption | exact bok_nil | exact bitsOf_bit _ _ | apply bok_app) (by first | assumption | omega | (simp only [List.length_append, bitsOf_len, List.length_nil, heldF]; omega))) (by repeat' first | exact FL.nil | apply FL.cons) ?_
      refine WL.nil ?_
      refine W.seq ?_
      refine W.region ?_
      refine WL.mv rfl rfl ?_
      refine WL.as rfl rfl ?_
      refine WL.nil ?_
      refine W.exit rfl ?_
      refine W.region ?_
      refine WL.addK rfl rfl rfl (wrap_i64 ⟨by omega, by omega⟩) ?_
      refine WL.mv rfl rfl ?_
      refine WL.nil ?_
      refine W.sub ?_ (next ⟨1, IntKind.u64.wrap x, step, es ++ bitsOf (IntKind.u64.wrap x).toNat 64⟩ ⟨by simp only []; omega, ?_, by simp, bok_app h4 (bitsOf_bit _ _), by simp [bitsOf_len]; omega⟩ (by simp only []; omega))
      · exact ⟨rfl, rfl, rfl, rfl, rfl, rfl, trivial⟩
      · have e : ts = x :: ts.drop 1 := by simpa using hdrop
        rw [if_pos rfl] at h2
        show (es ++ bitsOf (IntKind.u64.wrap x).toNat 64) ++ (if (1 : Nat) = 0 then encTs ts else encT (IntKind.u64.wrap x) step (ts.drop 1)) = ds ++ encTs ts
        rw [if_neg (by decide : ¬ (1 : Nat) = 0), ← h2, h3 rfl]
        conv => rhs; rw [e, encTs]
        simp
    · obtain ⟨d, hd⟩ : ∃ d, d = IntKind.u64.wrap (IntKind.u64.wrap (IntKind.u64.wrap x - was) - step) := ⟨_, rfl⟩
      have hdb := u64_bnd (IntKind.u64.wrap (IntKind.u64.wrap x - was) - step)
      have hwf := whichF_bnd (IntKind.i64.wrap (IntKind.u64.wrap (IntKind.u64.wrap (IntKind.u64.wrap x - was) - step)))
      refine W.skip ?_
      refine W.seq ?_
      refine W.block ?_
      refine W.seq ?_
      refine W.region ?_
      refine WL.mv rfl rfl ?_
      refine WL.ix (T := Ty) rfl rfl rfl (by assumption) rfl rfl (by omega) (by first | omega | decide +kernel) ?_
      refine WL.ldKn (T := Ty) rfl rfl rfl rfl (by first | assumption | exact ROs.wide (by assumption)) (by assumption) ?_
      refine WL.as rfl rfl ?_
      refine WL.as rfl rfl ?_
      refine WL.nil ?_
      refine W.seq ?_
      refine W.region ?_
      refine WL.mv rfl rfl ?_
      refine WL.cv (T := Ty) rfl rfl rfl rfl ?_
      refine WL.as rfl rfl ?_
      refine WL.nil ?_
      refine W.seq ?_
      refine W.seq ?_
      refine W.region ?_
      refine WL.mv rfl rfl ?_
      refine WL.eql rfl rfl rfl ?_
      refine WL.nil ?_
      refine W.condpF rfl (by omega) ?_
      refine W.skip ?_
      refine W.seq ?_
      refine W.region ?_
      refine WL.mv rfl rfl ?_
      refine WL.mv rfl rfl ?_
      refine WL.sub' (K := .u64) rfl rfl rfl ?_
      refine WL.mv rfl rfl ?_
      refine WL.sub' (K := .u64) rfl rfl rfl ?_
      refine WL.as rfl rfl ?_
      refine WL.nil ?_
      refine W.seq ?_
      refine W.region ?_
      refine WL.mv rfl rfl ?_
      refine WL.cv (T := Ty) rfl rfl rfl rfl ?_
      refine WL.callT (v := FormV _) rfl rfl (fun x p d => which_c _ _) ?_
      simp only [FormV]
      refine WL.alF (T := Ty) rfl rfl (by repeat' first | exact FL.nil | apply FL.cons) (fun b0 => ?_)
      refine WL.stAO (T := Ty) (j := 0) rfl rfl rfl rfl (by repeat' first | exact AO.nil | apply AO.cons (by first | rfl | exact SL.one (by assumption))) rfl rfl (by repeat' first | exact FL.nil | apply FL.cons) (by repeat' first | exact FL.nil | apply FL.cons) ?_
      refine WL.nil ?_
      refine W.seq ?_
      refine W.region ?_
      refine WL.mv rfl rfl ?_
      refine WL.faN (T := Ty) (off' := 0) rfl rfl rfl rfl rfl rfl rfl ?_
      refine WL.ldN (T := Ty) (j := 0) rfl rfl rfl rfl rfl rfl ?_
      refine WL.faN (T := Ty) (off' := 1) rfl rfl rfl rfl rfl rfl rfl ?_
      refine WL.ldN (T := Ty) (j := 0) rfl rfl rfl rfl rfl rfl ?_
      refine WL.callM 1 rfl rfl rfl (fun x p d => put_c _ _ _ _ _ (by omega) (by repeat' first | assumption | exact bok_nil | exact bitsOf_bit _ _ | apply bok_app) (by first | assumption | omega | (simp only [List.length_append, bitsOf_len, List.length_nil, heldF]; omega))) (by repeat' first | exact FL.nil | apply FL.cons) ?_
      refine WL.nil ?_
      refine W.seq ?_
      refine W.region ?_
      refine WL.mv rfl rfl ?_
      refine WL.mv rfl rfl ?_
      refine WL.faN (T := Ty) (off' := 2) rfl rfl rfl rfl rfl rfl rfl ?_
      refine WL.ldN (T := Ty) (j := 0) rfl rfl rfl rfl rfl rfl ?_
      refine WL.callM 1 rfl rfl rfl (fun x p d => put_ci _ _ _ _ _ (by omega) (by omega) (by repeat' first | assumption | exact bok_nil | exact bitsOf_bit _ _ | apply bok_app) (by first | assumption | omega | (simp only [List.length_append, bitsOf_len, List.length_nil, heldF]; omega))) (by repeat' first | exact FL.nil | apply FL.cons) ?_
      refine WL.nil ?_
      refine W.region ?_
      refine WL.mv rfl rfl ?_
      refine WL.mv rfl rfl ?_
      refine WL.mv rfl rfl ?_
      refine WL.sub' (K := .u64) rfl rfl rfl ?_
      refine WL.as rfl rfl ?_
      refine WL.as rfl rfl ?_
      refine WL.nil ?_
      refine W.inBlock ?_
      refine W.region ?_
      refine WL.addK rfl rfl rfl (wrap_i64 ⟨by omega, by omega⟩) ?_
      refine WL.mv rfl rfl ?_
      refine WL.nil ?_
      rw [heldF_nat _ (by omega), heldF_nat _ hwf.2.2, ← hd]
      refine W.drop 0 rfl (by repeat' first | exact FL.nil | apply FL.cons) ?_
      have hdl := dBits_len d
      refine W.sub ?_ (W.hs (fun h p => ?_) (next ⟨i + 1, IntKind.u64.wrap x, IntKind.u64.wrap (IntKind.u64.wrap x - was), es ++ dBits d⟩ ⟨by simp only []; omega, ?_, by simp, bok_app h4 (dBits_bit d), by simp; omega⟩ (by simp only []; omega)))
      · exact ⟨rfl, rfl, rfl, rfl, rfl, rfl, trivial⟩
      · unfold dBits
        rw [← List.append_assoc]
        exact p
      · show (es ++ dBits d) ++ (if i + 1 = 0 then encTs ts else encT (IntKind.u64.wrap x) (IntKind.u64.wrap (IntKind.u64.wrap x - was)) (ts.drop (i + 1))) = ds ++ encTs ts
        rw [if_neg h0, hdrop, encT, ← hd] at h2
        rw [if_neg (by omega : ¬ i + 1 = 0), ← h2, List.append_assoc]
  · have hie : i = ts.length := by omega
    have e : es = ds ++ encTs ts := by
      rw [← h2, hie, List.drop_of_length_le (Nat.le_refl _)]
      split
      · rename_i hn
        rw [List.eq_nil_of_length_eq_zero hn]; simp [encTs]
      · simp [encT]
    refine W.exit rfl ?_
    refine W.stop0 rfl (fun h p => ⟨rfl, ?_⟩)
    rw [← e]
    exact sepl_one.1 p

theorem onesF_at (bs : List Nat) : ∀ (k n : Nat) (s : RdSt), s.at' ≤ 8 * bs.length → (onesF bs k n s).2.at' ≤ 8 * bs.length ∧ (onesF bs k n s).1 ≤ n + k
  | 0, n, s, h => by simp [onesF, h]
  | k + 1, n, s, h => by
    unfold onesF
    split
    · have := onesF_at bs k (n + 1) _ (getF_at bs s 1 h)
      exact ⟨this.1, by omega⟩
    · exact ⟨getF_at bs s 1 h, by simp⟩
theorem nextF_at (bs : List Nat) (s : RdSt) (h : s.at' ≤ 8 * bs.length) : (nextF bs s).2.2.at' ≤ 8 * bs.length := getF_at _ _ _ (onesF_at bs 4 0 s h).1
-- MUT 81 Re
-- CALL 81 refine WL.callM $J rfl rfl rfl (fun x p d => tahead_c _ _ _ _ (by assumption) (by assumption) (by assumption) (by assumption)) $FL ?_
theorem tahead_c (ρ : Hp) (b : Nat) (bs : List Nat) (s : RdSt) {o : Nat} {s' : RdSt} (e : onesF bs 4 0 s = (o, s')) (hs : s.at' ≤ 8 * bs.length) (hl : bs.length ≤ 140737488355328) (hw : ∀ x ∈ bs, x < 256) :
    Fn Try.prog 81 #[ptr b] ρ [Re b bs s] (fun r h => r = .int .i64 (o : Int) ∧ Re b bs s' h) := by
  refine in81 rfl rfl ?_
  refine W.seq ?_
  refine W.region ?_
  refine WL.as rfl rfl ?_
  refine WL.nil ?_
  refine W.seq ?_
  refine W.region ?_
  refine WL.as rfl rfl ?_
  refine WL.nil ?_
  refine W.seq ?_
  refine W.block ?_
  refine W.loopS (σ := Nat × RdSt) (fun q => [(0, ptr b), (3, .int .i64 (q.1 : Int))]) (fun q => [Re b bs q.2])
    (fun q => q.1 ≤ 4 ∧ onesF bs (4 - q.1) q.1 q.2 = (o, s') ∧ q.2.at' ≤ 8 * bs.length) (fun q => 4 - q.1) (0, s) ⟨rfl, rfl, trivial⟩ rfl ⟨Nat.zero_le _, e, hs⟩ ?_
  rintro ⟨n, q⟩ ⟨h1, h2, h3⟩ next
  simp only [] at h1 h2 h3 next ⊢
  by_cases hn : n < 4
  · obtain ⟨g, q', hg⟩ : ∃ g q', getF bs q 1 = (g, q') := ⟨_, _, rfl⟩
    have hat := getF_at bs q 1 h3
    rw [hg] at hat
    rw [show 4 - n = (4 - (n + 1)) + 1 by omega, onesF, hg] at h2
    by_cases hg1 : g = 1
    · rw [if_pos hg1] at h2
      refine W.seq ?_
      refine W.seq ?_
      refine W.region ?_
      refine WL.mv rfl rfl ?_
      refine WL.lss rfl rfl rfl ?_
      refine WL.mv rfl rfl ?_
      refine WL.gT rfl rfl (by omega) ?_
      refine WL.mv rfl rfl ?_
      refine WL.gT rfl rfl (by omega) ?_
      refine WL.callM 0 rfl rfl rfl (fun x p d => get_e _ _ _ _ _ (by assumption) (by first | exact Nat.zero_le _ | assumption | (simp only [pack_len]; omega) | (exact getF_at _ _ _ (by first | exact Nat.zero_le _ | assumption | exact getF_at _ _ _ (by first | exact Nat.zero_le _ | assumption)))) (by first | assumption | omega | (simp only [pack_len, List.length_append, bitsOf_len, List.length_nil, heldF]; omega)) (by first | assumption | exact pack_lt _ (by repeat' first | assumption | exact bok_nil | exact bitsOf_bit _ _ | apply bok_app))) (by repeat' first | exact FL.nil | apply FL.cons) ?_
      refine WL.gT rfl rfl (by omega) ?_
      refine WL.eql rfl rfl rfl ?_
      refine WL.pickTp rfl rfl (by omega) rfl ?_
      refine WL.nil ?_
      refine W.condpT rfl (by omega) ?_
      refine W.skip ?_
      refine W.block ?_
      refine W.region ?_
      refine WL.mv rfl rfl ?_
      refine WL.addK rfl rfl rfl (wrap_i64 ⟨by omega, by omega⟩) ?_
      refine WL.as rfl rfl ?_
      refine WL.nil ?_
      refine W.inBlock ?_
      refine W.sub ?_ (next ⟨n + 1, q'⟩ ⟨by simp only []; omega, h2, hat⟩ (by simp only []; omega))
      exact ⟨rfl, rfl, trivial⟩
    · rw [if_neg hg1] at h2
      have e1 := congrArg Prod.fst h2
      have e2 := congrArg Prod.snd h2
      simp only [] at e1 e2
      refine W.seq ?_
      refine W.seq ?_
      refine W.region ?_
      refine WL.mv rfl rfl ?_
      refine WL.lss rfl rfl rfl ?_
      refine WL.mv rfl rfl ?_
      refine WL.gT rfl rfl (by omega) ?_
      refine WL.mv rfl rfl ?_
      refine WL.gT rfl rfl (by omega) ?_
      refine WL.callM 0 rfl rfl rfl (fun x p d => get_e _ _ _ _ _ (by assumption) (by first | exact Nat.zero_le _ | assumption | (simp only [pack_len]; omega) | (exact getF_at _ _ _ (by first | exact Nat.zero_le _ | assumption | exact getF_at _ _ _ (by first | exact Nat.zero_le _ | assumption)))) (by first | assumption | omega | (simp only [pack_len, List.length_append, bitsOf_len, List.length_nil, heldF]; omega)) (by first | assumption | exact pack_lt _ (by repeat' first | assumption | exact bok_nil | exact bitsOf_bit _ _ | apply bok_app))) (by repeat' first | exact FL.nil | apply FL.cons) ?_
      refine WL.gT rfl rfl (by omega) ?_
      refine WL.eql rfl rfl rfl ?_
      refine WL.pickTp rfl rfl (by omega) rfl ?_
      refine WL.nil ?_
      refine W.condpF rfl (by omega) ?_
      refine W.exit rfl ?_
      refine W.seq ?_
      refine W.region ?_
      refine WL.mv rfl rfl ?_
      refine WL.as rfl rfl ?_
      refine WL.nil ?_
      exact W.ret1 rfl rfl (fun h p => by rw [← e1, ← e2]; exact ⟨rfl, sepl_one.1 p⟩)
  · have hn4 : n = 4 := by omega
    subst hn4
    have e1 := congrArg Prod.fst h2
    have e2 := congrArg Prod.snd h2
    simp only [Nat.sub_self, onesF] at e1 e2
    refine W.seq ?_
    refine W.seq ?_
    refine W.region ?_
    refine WL.mv rfl rfl ?_
    refine WL.lss rfl rfl rfl ?_
    refine WL.mv rfl rfl ?_
    refine WL.gdN rfl rfl rfl rfl rfl rfl ?_
    refine WL.gdN rfl rfl rfl rfl rfl rfl ?_
    refine WL.gdN rfl rfl rfl rfl rfl rfl ?_
    refine WL.pickF rfl rfl rfl ?_
    refine WL.nil ?_
    refine W.condF rfl ?_
    refine W.exit rfl ?_
    refine W.seq ?_
    refine W.region ?_
    refine WL.mv rfl rfl ?_
    refine WL.as rfl rfl ?_
    refine WL.nil ?_
    exact W.ret1 rfl rfl (fun h p => by rw [← e1, ← e2]; exact ⟨rfl, sepl_one.1 p⟩)
theorem getF_lt (bs : List Nat) (s : RdSt) (n : Int) : (getF bs s n).1 < 2 ^ heldF n := by
  unfold getF
  split
  · exact Nat.pow_pos (by decide)
  · exact getV_lt _ _ _
theorem sx7 (u : Nat) (h : u < 2 ^ 7) : IntKind.i64.wrap (IntKind.u64.wrap ((u : Int) * 2 ^ min ((64 - 7 : Int)).toNat IntKind.u64.bits)) / 2 ^ min ((64 - max 7 1 : Int)).toNat IntKind.i64.bits = sext 7 u := by
  have e1 : min ((64 - 7 : Int)).toNat IntKind.u64.bits = 57 := by decide
  have e2 : min ((64 - max 7 1 : Int)).toNat IntKind.i64.bits = 57 := by decide
  have h' : u < 128 := h
  have hb := u64_bnd ((u : Int) * 144115188075855872)
  rw [e1, e2, show (2 : Int) ^ 57 = 144115188075855872 from rfl, i64_of_u64 _ hb.1 hb.2, u64_mod]
  unfold sext
  simp only [show (2 : Nat) ^ (7 - 1) = 64 from rfl, show (2 : Int) ^ 7 = 128 from rfl]
  (repeat' split) <;> omega
theorem sx9 (u : Nat) (h : u < 2 ^ 9) : IntKind.i64.wrap (IntKind.u64.wrap ((u : Int) * 2 ^ min ((64 - 9 : Int)).toNat IntKind.u64.bits)) / 2 ^ min ((64 - max 9 1 : Int)).toNat IntKind.i64.bits = sext 9 u := by
  have e1 : min ((64 - 9 : Int)).toNat IntKind.u64.bits = 55 := by decide
  have e2 : min ((64 - max 9 1 : Int)).toNat IntKind.i64.bits = 55 := by decide
  have h' : u < 512 := h
  have hb := u64_bnd ((u : Int) * 36028797018963968)
  rw [e1, e2, show (2 : Int) ^ 55 = 36028797018963968 from rfl, i64_of_u64 _ hb.1 hb.2, u64_mod]
  unfold sext
  simp only [show (2 : Nat) ^ (9 - 1) = 256 from rfl, show (2 : Int) ^ 9 = 512 from rfl]
  (repeat' split) <;> omega
theorem sx12 (u : Nat) (h : u < 2 ^ 12) : IntKind.i64.wrap (IntKind.u64.wrap ((u : Int) * 2 ^ min ((64 - 12 : Int)).toNat IntKind.u64.bits)) / 2 ^ min ((64 - max 12 1 : Int)).toNat IntKind.i64.bits = sext 12 u := by
  have e1 : min ((64 - 12 : Int)).toNat IntKind.u64.bits = 52 := by decide
  have e2 : min ((64 - max 12 1 : Int)).toNat IntKind.i64.bits = 52 := by decide
  have h' : u < 4096 := h
  have hb := u64_bnd ((u : Int) * 4503599627370496)
  rw [e1, e2, show (2 : Int) ^ 52 = 4503599627370496 from rfl, i64_of_u64 _ hb.1 hb.2, u64_mod]
  unfold sext
  simp only [show (2 : Nat) ^ (12 - 1) = 2048 from rfl, show (2 : Int) ^ 12 = 4096 from rfl]
  (repeat' split) <;> omega
theorem sx64 (u : Nat) (h : u < 2 ^ 64) : IntKind.i64.wrap (IntKind.u64.wrap ((u : Int) * 2 ^ min ((64 - 64 : Int)).toNat IntKind.u64.bits)) / 2 ^ min ((64 - max 64 1 : Int)).toNat IntKind.i64.bits = sext 64 u := by
  have e1 : min ((64 - 64 : Int)).toNat IntKind.u64.bits = 0 := by decide
  have e2 : min ((64 - max 64 1 : Int)).toNat IntKind.i64.bits = 0 := by decide
  have h' : u < 18446744073709551616 := h
  have hb := u64_bnd ((u : Int) * 1)
  rw [e1, e2, show (2 : Int) ^ 0 = 1 from rfl, i64_of_u64 _ hb.1 hb.2, u64_mod]
  unfold sext
  simp only [show (2 : Nat) ^ (64 - 1) = 9223372036854775808 from rfl, show (2 : Int) ^ 64 = 18446744073709551616 from rfl]
  (repeat' split) <;> omega
-- MUT 68 Re
-- CALL 68 refine WL.callM $J rfl rfl rfl (fun x p d => tnext_c _ _ _ _ (by assumption) (by assumption) (by assumption) (by assumption)) $FL ?_
theorem tnext_c (ρ : Hp) (b : Nat) (bs : List Nat) (s : RdSt) {d : Int} {ok : Bool} {s' : RdSt} (e : nextF bs s = (d, ok, s')) (hs : s.at' ≤ 8 * bs.length) (hl : bs.length ≤ 140737488355328) (hw : ∀ x ∈ bs, x < 256) :
    Fn Try.prog 68 #[ptr b] ρ [Re b bs s] (fun r h => r = .tuple #[.int .i64 d, .bool ok] ∧ Re b bs s' h) := by
  refine in68 rfl rfl ?_
  obtain ⟨o, s1, ho⟩ : ∃ o s1, onesF bs 4 0 s = (o, s1) := ⟨_, _, rfl⟩
  have hat := onesF_at bs 4 0 s hs
  rw [ho] at hat
  obtain ⟨u, s2, hu⟩ : ∃ u s2, getF bs s1 (sizeT o : Int) = (u, s2) := ⟨_, _, rfl⟩
  have hne := nextF_of ho hu
  rw [hne] at e
  obtain ⟨hat1, ho4⟩ := hat
  simp only [] at hat1 ho4
  have e1 := congrArg Prod.fst e
  have e2 := congrArg (fun q => q.2.1) e
  have e3 := congrArg (fun q => q.2.2) e
  simp only [] at e1 e2 e3
  subst e3
  rcases (by omega : o = 0 ∨ o = 1 ∨ o = 2 ∨ o = 3 ∨ o = 4) with rfl | rfl | rfl | rfl | rfl
  · have hu' : getF bs s1 0 = (u, s2) := hu
    have hcell : ([0, 7, 9, 12, 64].map (Value.int .i64))[0]? = some (.int .i64 0) := rfl
    refine W.seq ?_
    refine W.region ?_
    refine WL.as rfl rfl ?_
    refine WL.as rfl rfl ?_
    refine WL.nil ?_
    refine W.seq ?_
    refine W.region ?_
    refine WL.mv rfl rfl ?_
    refine WL.callM 0 rfl rfl rfl (fun x p d => tahead_c _ _ _ _ (by assumption) (by assumption) (by assumption) (by assumption)) (by repeat' first | exact FL.nil | apply FL.cons) ?_
    refine WL.as rfl rfl ?_
    refine WL.nil ?_
    refine W.seq ?_
    refine W.region ?_
    refine WL.bsC (T := Ty) rfl rfl rfl rfl rfl rfl rfl (by repeat' first | exact CO.nil | apply CO.one (by first | rfl | exact SL.one (by assumption)) | apply CO.agg) rfl (by repeat' first | exact FL.nil | apply FL.cons) (fun u0 hu0 => ?_)
    refine WL.reC (Value.int .i64) [0, 7, 9, 12, 64] rfl ?_
    refine WL.mv rfl rfl ?_
    refine WL.ix (T := Ty) rfl rfl rfl (by assumption) rfl rfl (by omega) (by first | omega | decide +kernel) ?_
    refine WL.ldEK (T := Ty) (j := 0) rfl rfl rfl rfl rfl (by assumption) (by omega) ?_
    refine WL.as rfl rfl ?_
    refine WL.nil ?_
    refine W.seq ?_
    refine W.region ?_
    refine WL.mv rfl rfl ?_
    refine WL.mv rfl rfl ?_
    refine WL.callM 1 rfl rfl rfl (fun x p d => get_e _ _ _ _ _ (by assumption) (by first | exact Nat.zero_le _ | assumption | (simp only [pack_len]; omega) | (exact getF_at _ _ _ (by first | exact Nat.zero_le _ | assumption | exact getF_at _ _ _ (by first | exact Nat.zero_le _ | assumption)))) (by first | assumption | omega | (simp only [pack_len, List.length_append, bitsOf_len, List.length_nil, heldF]; omega)) (by first | assumption | exact pack_lt _ (by repeat' first | assumption | exact bok_nil | exact bitsOf_bit _ _ | apply bok_app))) (by repeat' first | exact FL.nil | apply FL.cons) ?_
    refine WL.mv rfl rfl ?_
    refine WL.subK rfl rfl rfl (wrap_i64 ⟨by omega, by omega⟩) ?_
    refine WL.shlS rfl rfl rfl (by omega) rfl rfl ?_
    refine WL.cv (T := Ty) rfl rfl rfl rfl ?_
    refine WL.mv rfl rfl ?_
    refine WL.mx rfl rfl rfl ?_
    refine WL.subK rfl rfl rfl (wrap_i64 ⟨by omega, by omega⟩) ?_
    refine WL.shrS rfl rfl rfl (by omega) rfl ?_
    refine WL.as rfl rfl ?_
    refine WL.nil ?_
    refine W.seq ?_
    refine W.seq ?_
    refine W.region ?_
    refine WL.mv rfl rfl ?_
    refine WL.eql rfl rfl rfl ?_
    refine WL.nil ?_
    refine W.condT rfl ?_
    refine W.region ?_
    refine WL.as rfl rfl ?_
    refine WL.nil ?_
    refine W.seq ?_
    refine W.region ?_
    refine WL.mv rfl rfl ?_
    refine WL.mv rfl rfl ?_
    refine WL.callT (v := FormV _) rfl rfl (fun x p d => which_c _ _) ?_
    simp only [FormV]
    refine WL.fd (T := Ty) rfl rfl rfl rfl rfl rfl rfl ?_
    refine WL.mv rfl rfl ?_
    refine WL.eql rfl rfl rfl ?_
    refine WL.as rfl rfl ?_
    refine WL.as rfl rfl ?_
    refine WL.nil ?_
    refine W.drop 0 rfl (by repeat' first | exact FL.nil | apply FL.cons) ?_
    refine W.ret2 rfl rfl rfl (fun h p => ⟨?_, sepl_one.1 p⟩)
    rw [← e1, ← e2]
    rfl
  · have hu' : getF bs s1 7 = (u, s2) := hu
    have hcell : ([0, 7, 9, 12, 64].map (Value.int .i64))[1]? = some (.int .i64 7) := rfl
    have hlt := getF_lt bs s1 7
    rw [hu'] at hlt
    have hX := sx7 u hlt
    refine W.seq ?_
    refine W.region ?_
    refine WL.as rfl rfl ?_
    refine WL.as rfl rfl ?_
    refine WL.nil ?_
    refine W.seq ?_
    refine W.region ?_
    refine WL.mv rfl rfl ?_
    refine WL.callM 0 rfl rfl rfl (fun x p d => tahead_c _ _ _ _ (by assumption) (by assumption) (by assumption) (by assumption)) (by repeat' first | exact FL.nil | apply FL.cons) ?_
    refine WL.as rfl rfl ?_
    refine WL.nil ?_
    refine W.seq ?_
    refine W.region ?_
    refine WL.bsC (T := Ty) rfl rfl rfl rfl rfl rfl rfl (by repeat' first | exact CO.nil | apply CO.one (by first | rfl | exact SL.one (by assumption)) | apply CO.agg) rfl (by repeat' first | exact FL.nil | apply FL.cons) (fun u0 hu0 => ?_)
    refine WL.reC (Value.int .i64) [0, 7, 9, 12, 64] rfl ?_
    refine WL.mv rfl rfl ?_
    refine WL.ix (T := Ty) rfl rfl rfl (by assumption) rfl rfl (by omega) (by first | omega | decide +kernel) ?_
    refine WL.ldEK (T := Ty) (j := 0) rfl rfl rfl rfl rfl (by assumption) (by omega) ?_
    refine WL.as rfl rfl ?_
    refine WL.nil ?_
    refine W.seq ?_
    refine W.region ?_
    refine WL.mv rfl rfl ?_
    refine WL.mv rfl rfl ?_
    refine WL.callM 1 rfl rfl rfl (fun x p d => get_e _ _ _ _ _ (by assumption) (by first | exact Nat.zero_le _ | assumption | (simp only [pack_len]; omega) | (exact getF_at _ _ _ (by first | exact Nat.zero_le _ | assumption | exact getF_at _ _ _ (by first | exact Nat.zero_le _ | assumption)))) (by first | assumption | omega | (simp only [pack_len, List.length_append, bitsOf_len, List.length_nil, heldF]; omega)) (by first | assumption | exact pack_lt _ (by repeat' first | assumption | exact bok_nil | exact bitsOf_bit _ _ | apply bok_app))) (by repeat' first | exact FL.nil | apply FL.cons) ?_
    refine WL.mv rfl rfl ?_
    refine WL.subK rfl rfl rfl (wrap_i64 ⟨by omega, by omega⟩) ?_
    refine WL.shlS rfl rfl rfl (by omega) rfl rfl ?_
    refine WL.cv (T := Ty) rfl rfl rfl rfl ?_
    refine WL.mv rfl rfl ?_
    refine WL.mx rfl rfl rfl ?_
    refine WL.subK rfl rfl rfl (wrap_i64 ⟨by omega, by omega⟩) ?_
    refine WL.shrS rfl rfl rfl (by omega) rfl ?_
    refine WL.as rfl rfl ?_
    refine WL.nil ?_
    refine W.seq ?_
    refine W.seq ?_
    refine W.region ?_
    refine WL.mv rfl rfl ?_
    refine WL.eql rfl rfl rfl ?_
    refine WL.nil ?_
    refine W.condF rfl ?_
    refine W.skip ?_
    refine W.seq ?_
    refine W.region ?_
    refine WL.mv rfl rfl ?_
    refine WL.mv rfl rfl ?_
    refine WL.callT (v := FormV _) rfl rfl (fun x p d => which_c _ _) ?_
    simp only [FormV]
    refine WL.fd (T := Ty) rfl rfl rfl rfl rfl rfl rfl ?_
    refine WL.mv rfl rfl ?_
    refine WL.eql rfl rfl rfl ?_
    refine WL.as rfl rfl ?_
    refine WL.as rfl rfl ?_
    refine WL.nil ?_
    refine W.drop 0 rfl (by repeat' first | exact FL.nil | apply FL.cons) ?_
    refine W.ret2 rfl rfl rfl (fun h p => ⟨?_, sepl_one.1 p⟩)
    rw [hX, ← e1, ← e2]
    show Value.tuple #[.int .i64 (sext 7 u), .bool _] = Value.tuple #[.int .i64 (sext 7 u), .bool _]
    congr 4
    exact congrArg Value.bool (decide_eq_decide.2 (by show (((whichF (sext 7 u)).2.2 : Nat) : Int) = 7 ↔ (whichF (sext 7 u)).2.2 = 7; omega))
  · have hu' : getF bs s1 9 = (u, s2) := hu
    have hcell : ([0, 7, 9, 12, 64].map (Value.int .i64))[2]? = some (.int .i64 9) := rfl
    have hlt := getF_lt bs s1 9
    rw [hu'] at hlt
    have hX := sx9 u hlt
    refine W.seq ?_
    refine W.region ?_
    refine WL.as rfl rfl ?_
    refine WL.as rfl rfl ?_
    refine WL.nil ?_
    refine W.seq ?_
    refine W.region ?_
    refine WL.mv rfl rfl ?_
    refine WL.callM 0 rfl rfl rfl (fun x p d => tahead_c _ _ _ _ (by assumption) (by assumption) (by assumption) (by assumption)) (by repeat' first | exact FL.nil | apply FL.cons) ?_
    refine WL.as rfl rfl ?_
    refine WL.nil ?_
    refine W.seq ?_
    refine W.region ?_
    refine WL.bsC (T := Ty) rfl rfl rfl rfl rfl rfl rfl (by repeat' first | exact CO.nil | apply CO.one (by first | rfl | exact SL.one (by assumption)) | apply CO.agg) rfl (by repeat' first | exact FL.nil | apply FL.cons) (fun u0 hu0 => ?_)
    refine WL.reC (Value.int .i64) [0, 7, 9, 12, 64] rfl ?_
    refine WL.mv rfl rfl ?_
    refine WL.ix (T := Ty) rfl rfl rfl (by assumption) rfl rfl (by omega) (by first | omega | decide +kernel) ?_
    refine WL.ldEK (T := Ty) (j := 0) rfl rfl rfl rfl rfl (by assumption) (by omega) ?_
    refine WL.as rfl rfl ?_
    refine WL.nil ?_
    refine W.seq ?_
    refine W.region ?_
    refine WL.mv rfl rfl ?_
    refine WL.mv rfl rfl ?_
    refine WL.callM 1 rfl rfl rfl (fun x p d => get_e _ _ _ _ _ (by assumption) (by first | exact Nat.zero_le _ | assumption | (simp only [pack_len]; omega) | (exact getF_at _ _ _ (by first | exact Nat.zero_le _ | assumption | exact getF_at _ _ _ (by first | exact Nat.zero_le _ | assumption)))) (by first | assumption | omega | (simp only [pack_len, List.length_append, bitsOf_len, List.length_nil, heldF]; omega)) (by first | assumption | exact pack_lt _ (by repeat' first | assumption | exact bok_nil | exact bitsOf_bit _ _ | apply bok_app))) (by repeat' first | exact FL.nil | apply FL.cons) ?_
    refine WL.mv rfl rfl ?_
    refine WL.subK rfl rfl rfl (wrap_i64 ⟨by omega, by omega⟩) ?_
    refine WL.shlS rfl rfl rfl (by omega) rfl rfl ?_
    refine WL.cv (T := Ty) rfl rfl rfl rfl ?_
    refine WL.mv rfl rfl ?_
    refine WL.mx rfl rfl rfl ?_
    refine WL.subK rfl rfl rfl (wrap_i64 ⟨by omega, by omega⟩) ?_
    refine WL.shrS rfl rfl rfl (by omega) rfl ?_
    refine WL.as rfl rfl ?_
    refine WL.nil ?_
    refine W.seq ?_
    refine W.seq ?_
    refine W.region ?_
    refine WL.mv rfl rfl ?_
    refine WL.eql rfl rfl rfl ?_
    refine WL.nil ?_
    refine W.condF rfl ?_
    refine W.skip ?_
    refine W.seq ?_
    refine W.region ?_
    refine WL.mv rfl rfl ?_
    refine WL.mv rfl rfl ?_
    refine WL.callT (v := FormV _) rfl rfl (fun x p d => which_c _ _) ?_
    simp only [FormV]
    refine WL.fd (T := Ty) rfl rfl rfl rfl rfl rfl rfl ?_
    refine WL.mv rfl rfl ?_
    refine WL.eql rfl rfl rfl ?_
    refine WL.as rfl rfl ?_
    refine WL.as rfl rfl ?_
    refine WL.nil ?_
    refine W.drop 0 rfl (by repeat' first | exact FL.nil | apply FL.cons) ?_
    refine W.ret2 rfl rfl rfl (fun h p => ⟨?_, sepl_one.1 p⟩)
    rw [hX, ← e1, ← e2]
    show Value.tuple #[.int .i64 (sext 9 u), .bool _] = Value.tuple #[.int .i64 (sext 9 u), .bool _]
    congr 4
    exact congrArg Value.bool (decide_eq_decide.2 (by show (((whichF (sext 9 u)).2.2 : Nat) : Int) = 9 ↔ (whichF (sext 9 u)).2.2 = 9; omega))
  · have hu' : getF bs s1 12 = (u, s2) := hu
    have hcell : ([0, 7, 9, 12, 64].map (Value.int .i64))[3]? = some (.int .i64 12) := rfl
    have hlt := getF_lt bs s1 12
    rw [hu'] at hlt
    have hX := sx12 u hlt
    refine W.seq ?_
    refine W.region ?_
    refine WL.as rfl rfl ?_
    refine WL.as rfl rfl ?_
    refine WL.nil ?_
    refine W.seq ?_
    refine W.region ?_
    refine WL.mv rfl rfl ?_
    refine WL.callM 0 rfl rfl rfl (fun x p d => tahead_c _ _ _ _ (by assumption) (by assumption) (by assumption) (by assumption)) (by repeat' first | exact FL.nil | apply FL.cons) ?_
    refine WL.as rfl rfl ?_
    refine WL.nil ?_
    refine W.seq ?_
    refine W.region ?_
    refine WL.bsC (T := Ty) rfl rfl rfl rfl rfl rfl rfl (by repeat' first | exact CO.nil | apply CO.one (by first | rfl | exact SL.one (by assumption)) | apply CO.agg) rfl (by repeat' first | exact FL.nil | apply FL.cons) (fun u0 hu0 => ?_)
    refine WL.reC (Value.int .i64) [0, 7, 9, 12, 64] rfl ?_
    refine WL.mv rfl rfl ?_
    refine WL.ix (T := Ty) rfl rfl rfl (by assumption) rfl rfl (by omega) (by first | omega | decide +kernel) ?_
    refine WL.ldEK (T := Ty) (j := 0) rfl rfl rfl rfl rfl (by assumption) (by omega) ?_
    refine WL.as rfl rfl ?_
    refine WL.nil ?_
    refine W.seq ?_
    refine W.region ?_
    refine WL.mv rfl rfl ?_
    refine WL.mv rfl rfl ?_
    refine WL.callM 1 rfl rfl rfl (fun x p d => get_e _ _ _ _ _ (by assumption) (by first | exact Nat.zero_le _ | assumption | (simp only [pack_len]; omega) | (exact getF_at _ _ _ (by first | exact Nat.zero_le _ | assumption | exact getF_at _ _ _ (by first | exact Nat.zero_le _ | assumption)))) (by first | assumption | omega | (simp only [pack_len, List.length_append, bitsOf_len, List.length_nil, heldF]; omega)) (by first | assumption | exact pack_lt _ (by repeat' first | assumption | exact bok_nil | exact bitsOf_bit _ _ | apply bok_app))) (by repeat' first | exact FL.nil | apply FL.cons) ?_
    refine WL.mv rfl rfl ?_
    refine WL.subK rfl rfl rfl (wrap_i64 ⟨by omega, by omega⟩) ?_
    refine WL.shlS rfl rfl rfl (by omega) rfl rfl ?_
    refine WL.cv (T := Ty) rfl rfl rfl rfl ?_
    refine WL.mv rfl rfl ?_
    refine WL.mx rfl rfl rfl ?_
    refine WL.subK rfl rfl rfl (wrap_i64 ⟨by omega, by omega⟩) ?_
    refine WL.shrS rfl rfl rfl (by omega) rfl ?_
    refine WL.as rfl rfl ?_
    refine WL.nil ?_
    refine W.seq ?_
    refine W.seq ?_
    refine W.region ?_
    refine WL.mv rfl rfl ?_
    refine WL.eql rfl rfl rfl ?_
    refine WL.nil ?_
    refine W.condF rfl ?_
    refine W.skip ?_
    refine W.seq ?_
    refine W.region ?_
    refine WL.mv rfl rfl ?_
    refine WL.mv rfl rfl ?_
    refine WL.callT (v := FormV _) rfl rfl (fun x p d => which_c _ _) ?_
    simp only [FormV]
    refine WL.fd (T := Ty) rfl rfl rfl rfl rfl rfl rfl ?_
    refine WL.mv rfl rfl ?_
    refine WL.eql rfl rfl rfl ?_
    refine WL.as rfl rfl ?_
    refine WL.as rfl rfl ?_
    refine WL.nil ?_
    refine W.drop 0 rfl (by repeat' first | exact FL.nil | apply FL.cons) ?_
    refine W.ret2 rfl rfl rfl (fun h p => ⟨?_, sepl_one.1 p⟩)
    rw [hX, ← e1, ← e2]
    show Value.tuple #[.int .i64 (sext 12 u), .bool _] = Value.tuple #[.int .i64 (sext 12 u), .bool _]
    congr 4
    exact congrArg Value.bool (decide_eq_decide.2 (by show (((whichF (sext 12 u)).2.2 : Nat) : Int) = 12 ↔ (whichF (sext 12 u)).2.2 = 12; omega))
  · have hu' : getF bs s1 64 = (u, s2) := hu
    have hcell : ([0, 7, 9, 12, 64].map (Value.int .i64))[4]? = some (.int .i64 64) := rfl
    have hlt := getF_lt bs s1 64
    rw [hu'] at hlt
    have hX := sx64 u hlt
    refine W.seq ?_
    refine W.region ?_
    refine WL.as rfl rfl ?_
    refine WL.as rfl rfl ?_
    refine WL.nil ?_
    refine W.seq ?_
    refine W.region ?_
    refine WL.mv rfl rfl ?_
    refine WL.callM 0 rfl rfl rfl (fun x p d => tahead_c _ _ _ _ (by assumption) (by assumption) (by assumption) (by assumption)) (by repeat' first | exact FL.nil | apply FL.cons) ?_
    refine WL.as rfl rfl ?_
    refine WL.nil ?_
    refine W.seq ?_
    refine W.region ?_
    refine WL.bsC (T := Ty) rfl rfl rfl rfl rfl rfl rfl (by repeat' first | exact CO.nil | apply CO.one (by first | rfl | exact SL.one (by assumption)) | apply CO.agg) rfl (by repeat' first | exact FL.nil | apply FL.cons) (fun u0 hu0 => ?_)
    refine WL.reC (Value.int .i64) [0, 7, 9, 12, 64] rfl ?_
    refine WL.mv rfl rfl ?_
    refine WL.ix (T := Ty) rfl rfl rfl (by assumption) rfl rfl (by omega) (by first | omega | decide +kernel) ?_
    refine WL.ldEK (T := Ty) (j := 0) rfl rfl rfl rfl rfl (by assumption) (by omega) ?_
    refine WL.as rfl rfl ?_
    refine WL.nil ?_
    refine W.seq ?_
    refine W.region ?_
    refine WL.mv rfl rfl ?_
    refine WL.mv rfl rfl ?_
    refine WL.callM 1 rfl rfl rfl (fun x p d => get_e _ _ _ _ _ (by assumption) (by first | exact Nat.zero_le _ | assumption | (simp only [pack_len]; omega) | (exact getF_at _ _ _ (by first | exact Nat.zero_le _ | assumption | exact getF_at _ _ _ (by first | exact Nat.zero_le _ | assumption)))) (by first | assumption | omega | (simp only [pack_len, List.length_append, bitsOf_len, List.length_nil, heldF]; omega)) (by first | assumption | exact pack_lt _ (by repeat' first | assumption | exact bok_nil | exact bitsOf_bit _ _ | apply bok_app))) (by repeat' first | exact FL.nil | apply FL.cons) ?_
    refine WL.mv rfl rfl ?_
    refine WL.subK rfl rfl rfl (wrap_i64 ⟨by omega, by omega⟩) ?_
    refine WL.shlS rfl rfl rfl (by omega) rfl rfl ?_
    refine WL.cv (T := Ty) rfl rfl rfl rfl ?_
    refine WL.mv rfl rfl ?_
    refine WL.mx rfl rfl rfl ?_
    refine WL.subK rfl rfl rfl (wrap_i64 ⟨by omega, by omega⟩) ?_
    refine WL.shrS rfl rfl rfl (by omega) rfl ?_
    refine WL.as rfl rfl ?_
    refine WL.nil ?_
    refine W.seq ?_
    refine W.seq ?_
    refine W.region ?_
    refine WL.mv rfl rfl ?_
    refine WL.eql rfl rfl rfl ?_
    refine WL.nil ?_
    refine W.condF rfl ?_
    refine W.skip ?_
    refine W.seq ?_
    refine W.region ?_
    refine WL.mv rfl rfl ?_
    refine WL.mv rfl rfl ?_
    refine WL.callT (v := FormV _) rfl rfl (fun x p d => which_c _ _) ?_
    simp only [FormV]
    refine WL.fd (T := Ty) rfl rfl rfl rfl rfl rfl rfl ?_
    refine WL.mv rfl rfl ?_
    refine WL.eql rfl rfl rfl ?_
    refine WL.as rfl rfl ?_
    refine WL.as rfl rfl ?_
    refine WL.nil ?_
    refine W.drop 0 rfl (by repeat' first | exact FL.nil | apply FL.cons) ?_
    refine W.ret2 rfl rfl rfl (fun h p => ⟨?_, sepl_one.1 p⟩)
    rw [hX, ← e1, ← e2]
    show Value.tuple #[.int .i64 (sext 64 u), .bool _] = Value.tuple #[.int .i64 (sext 64 u), .bool _]
    congr 4
    exact congrArg Value.bool (decide_eq_decide.2 (by show (((whichF (sext 64 u)).2.2 : Nat) : Int) = 64 ↔ (whichF (sext 64 u)).2.2 = 64; omega))

/-- times that there may be, and where the reader stands -/
def RowT (bs : List Nat) (mk : RdSt → HP) (o : Option (List Int × RdSt)) : Value → HP := fun r h => ∃ v, r = .tuple #[v, .bool o.isSome] ∧ ∃ s' : RdSt, ((∀ x, o = some x → s' = x.2) ∧ s'.at' ≤ 8 * bs.length) ∧ sepl [Buf 1 v ((o.elim [] (·.1)).map (Value.int .i64)), mk s'] h
theorem rowTnone {bs : List Nat} {mk : RdSt → HP} {o : Option (List Int × RdSt)} (e : o = none) {s' : RdSt} (hs : s'.at' ≤ 8 * bs.length) {h : Hp} (p : sepl [Buf 1 (.slice none 0 0) [], mk s'] h) : RowT bs mk o (.tuple #[.slice none 0 0, .bool false]) h := by
  subst e; exact ⟨_, rfl, s', ⟨fun x hx => (by cases hx), hs⟩, p⟩
theorem rowTsome {bs : List Nat} {mk : RdSt → HP} {o : Option (List Int × RdSt)} {l : List Int} {s' : RdSt} {v : Value} (e : o = some (l, s')) (hs : s'.at' ≤ 8 * bs.length) {h : Hp} (p : sepl [Buf 1 v (l.map (Value.int .i64)), mk s'] h) : RowT bs mk o (.tuple #[v, .bool true]) h := by
  subst e; exact ⟨_, rfl, s', ⟨fun x hx => (by cases hx; rfl), hs⟩, p⟩
theorem heldT_eq (n : Int) : min (max n 0) 65535 = (heldT n : Int) := by unfold heldT; omega
theorem heldT_le (n : Int) : heldT n ≤ 65535 := by unfold heldT; omega
theorem decTs_zero {bs : List Nat} {s : RdSt} {n : Int} (h : heldT n = 0) : decTs bs s n = if s.bad = true then none else some ([], s) := by unfold decTs; rw [h]
theorem decTs_succ {bs : List Nat} {s : RdSt} {n : Int} {k : Nat} (h : heldT n = k + 1) : decTs bs s n = if (getF bs s 64).2.bad = true then none else decT bs k ((getF bs s 64).1 : Int) 0 [IntKind.i64.wrap ((getF bs s 64).1 : Int)] (getF bs s 64).2 := by unfold decTs; rw [h]
-- MUT 39 Re
theorem tdec_c (ρ : Hp) (b : Nat) (bs : List Nat) (s : RdSt) (n : Int) (hs : s.at' ≤ 8 * bs.length) (hl : bs.length ≤ 140737488355328) (hw : ∀ x ∈ bs, x < 256) :
    Fn Try.prog 39 #[ptr b, .int .i64 n] ρ [Re b bs s] (RowT bs (Re b bs) (decTs bs s n)) := by
  refine in39 rfl rfl ?_
  have hm := heldT_eq n
  have hml := heldT_le n
  obtain ⟨m, hm'⟩ : ∃ m, m = heldT n := ⟨_, rfl⟩
  rw [← hm'] at hm hml
  refine W.seq ?_
  refine W.region ?_
  refine WL.as rfl rfl ?_
  refine WL.as rfl rfl ?_
  refine WL.nil ?_
  refine W.seq ?_
  refine W.region ?_
  refine WL.mv rfl rfl ?_
  refine WL.mx rfl rfl rfl ?_
  refine WL.mn rfl rfl rfl ?_
  refine WL.as rfl rfl ?_
  refine WL.nil ?_
  refine W.seq ?_
  refine W.region ?_
  refine WL.as rfl rfl ?_
  refine WL.nil ?_
  refine W.seq ?_
  refine W.region ?_
  refine WL.as rfl rfl ?_
  refine WL.as rfl rfl ?_
  refine WL.nil ?_
  refine W.seq ?_
  refine W.seq ?_
  refine W.region ?_
  refine WL.mv rfl rfl ?_
  refine WL.mv rfl rfl ?_
  refine WL.nil ?_
  refine W.block ?_
  refine W.nb (sz := 1) ?_
  refine W.loopS (σ := Nat × Int × Int × List Int × Value × RdSt) (fun q => [(0, ptr b), (15, .int .i64 (min (max n 0) 65535)), (16, .int .i64 (q.1 : Int)), (7, .int .u64 q.2.1), (8, .int .u64 q.2.2.1), (6, q.2.2.2.2.1)]) (fun q => [Buf 1 q.2.2.2.2.1 (q.2.2.2.1.map (Value.int .i64)), Re b bs q.2.2.2.2.2])
    (fun q => q.1 ≤ m ∧ q.2.2.2.2.2.at' ≤ 8 * bs.length ∧ q.2.2.2.1.length = q.1 ∧ (q.1 = 0 → q.2.2.2.2.2 = s ∧ q.2.2.1 = 0) ∧ (q.1 ≠ 0 → decT bs (m - q.1) q.2.1 q.2.2.1 q.2.2.2.1 q.2.2.2.2.2 = decTs bs s n ∧ q.2.2.2.2.2.bad = false)) (fun q => m - q.1) (0, 0, 0, [], .slice none 0 0, s) ⟨rfl, rfl, rfl, rfl, rfl, rfl, trivial⟩ rfl ⟨Nat.zero_le _, hs, rfl, fun _ => ⟨rfl, rfl⟩, fun h => absurd rfl h⟩ ?_
  rintro ⟨i, was, step, out, ov, q⟩ ⟨h1, h2, h3, h4, h5⟩ next
  simp only [] at h1 h2 h3 h4 h5 next ⊢
  refine W.fact (i := 0) rfl (fun h hb => Buf.slm hb) (fun hso => ?_)
  refine W.seq ?_
  refine W.region ?_
  refine WL.lss rfl rfl rfl ?_
  refine WL.nil ?_
  refine W.seq ?_
  refine W.condp rfl (fun hlt => ?_) (fun hge => ?_)
  · by_cases hi0 : i = 0
    · obtain ⟨hq, hst⟩ := h4 hi0
      have ho : out = [] := List.eq_nil_of_length_eq_zero (by omega)
      subst hi0
      subst hq
      subst hst
      subst ho
      obtain ⟨k, hk⟩ : ∃ k, heldT n = k + 1 := ⟨m - 1, by omega⟩
      have hd := decTs_succ (bs := bs) (s := q) hk
      obtain ⟨g, ⟨ga, gb⟩, hg⟩ : ∃ g q', getF bs q 64 = (g, q') := ⟨_, _, rfl⟩
      have hat := getF_at bs q 64 h2
      have hglt := getF_lt bs q 64
      rw [hg] at hat hd hglt
      simp only [] at hat hd hglt
      have hg64 : g < 18446744073709551616 := hglt
      cases gb with
      | true =>
        rw [if_pos rfl] at hd
        refine W.skip ?_
        refine W.seq ?_
        refine W.block ?_
        refine W.seq ?_
        refine W.region ?_
        refine WL.mv rfl rfl ?_
        refine WL.as rfl rfl ?_
        refine WL.nil ?_
        refine W.seq ?_
        refine W.seq ?_
        refine W.region ?_
        refine WL.mv rfl rfl ?_
        refine WL.eql rfl rfl rfl ?_
        refine WL.nil ?_
        refine W.condT rfl ?_
        refine W.region ?_
        refine WL.mv rfl rfl ?_
        refine WL.callM 1 rfl rfl rfl (fun x p d => get_e _ _ _ _ _ (by assumption) (by first | exact Nat.zero_le _ | assumption | (simp only [pack_len]; omega) | (exact getF_at _ _ _ (by first | exact Nat.zero_le _ | assumption | exact getF_at _ _ _ (by first | exact Nat.zero_le _ | assumption)))) (by first | assumption | omega | (simp only [pack_len, List.length_append, bitsOf_len, List.length_nil, heldF]; omega)) (by first | assumption | exact pack_lt _ (by repeat' first | assumption | exact bok_nil | exact bitsOf_bit _ _ | apply bok_app))) (by repeat' first | exact FL.nil | apply FL.cons) ?_
        refine WL.as rfl rfl ?_
        refine WL.nil ?_
        refine W.seq ?_
        refine W.seq ?_
        refine W.region ?_
        refine WL.mv rfl rfl ?_
        refine WL.callV rfl rfl (fun x p d => ok_c _ _ _ _ (by first | assumption | exact In.wide (by assumption) | exact In.mono (by assumption) (eqh_at 0 rfl p d) | exact in_at 0 rfl p d | exact in_at 1 rfl p d | exact in_at 2 rfl p d | exact in_at 3 rfl p d | exact in_at 4 rfl p d)) ?_
        refine WL.not rfl rfl ?_
        refine WL.nil ?_
        refine W.condT rfl ?_
        refine W.seq ?_
        refine W.region ?_
        refine WL.as rfl rfl ?_
        refine WL.as rfl rfl ?_
        refine WL.nil ?_
        refine W.drop 0 rfl (by repeat' first | exact FL.nil | apply FL.cons) ?_
        refine W.nb (sz := 1) ?_
        exact W.ret2 rfl rfl rfl (fun h p => rowTnone hd (by assumption) p)
      | false =>
        rw [if_neg (by decide)] at hd
        refine W.skip ?_
        refine W.seq ?_
        refine W.block ?_
        refine W.seq ?_
        refine W.region ?_
        refine WL.mv rfl rfl ?_
        refine WL.as rfl rfl ?_
        refine WL.nil ?_
        refine W.seq ?_
        refine W.seq ?_
        refine W.region ?_
        refine WL.mv rfl rfl ?_
        refine WL.eql rfl rfl rfl ?_
        refine WL.nil ?_
        refine W.condT rfl ?_
        refine W.region ?_
        refine WL.mv rfl rfl ?_
        refine WL.callM 1 rfl rfl rfl (fun x p d => get_e _ _ _ _ _ (by assumption) (by first | exact Nat.zero_le _ | assumption | (simp only [pack_len]; omega) | (exact getF_at _ _ _ (by first | exact Nat.zero_le _ | assumption | exact getF_at _ _ _ (by first | exact Nat.zero_le _ | assumption)))) (by first | assumption | omega | (simp only [pack_len, List.length_append, bitsOf_len, List.length_nil, heldF]; omega)) (by first | assumption | exact pack_lt _ (by repeat' first | assumption | exact bok_nil | exact bitsOf_bit _ _ | apply bok_app))) (by repeat' first | exact FL.nil | apply FL.cons) ?_
        refine WL.as rfl rfl ?_
        refine WL.nil ?_
        refine W.seq ?_
        refine W.seq ?_
        refine W.region ?_
        refine WL.mv rfl rfl ?_
        refine WL.callV rfl rfl (fun x p d => ok_c _ _ _ _ (by first | assumption | exact In.wide (by assumption) | exact In.mono (by assumption) (eqh_at 0 rfl p d) | exact in_at 0 rfl p d | exact in_at 1 rfl p d | exact in_at 2 rfl p d | exact in_at 3 rfl p d | exact in_at 4 rfl p d)) ?_
        refine WL.not rfl rfl ?_
        refine WL.nil ?_
        refine W.condF rfl ?_
        refine W.skip ?_
        refine W.region ?_
        refine WL.mv rfl rfl ?_
        refine WL.mv rfl rfl ?_
        refine WL.cv (T := Ty) rfl rfl rfl rfl ?_
        refine WL.bsC (T := Ty) rfl rfl rfl rfl rfl rfl rfl (by repeat' first | exact CO.nil | apply CO.one (by first | rfl | exact SL.one (by assumption)) | apply CO.agg) rfl (by repeat' first | exact FL.nil | apply FL.cons) (fun u0 hu0 => ?_)
        refine WL.apQ (T := Ty) (i := 1) rfl rfl rfl rfl rfl rfl rfl (by first | exact .ro (by assumption) | exact .ro (ROs.wide (by assumption)) | exact .eqJ 0 rfl (by assumption) | exact .own 0 rfl | exact .own 1 rfl | exact .own 2 rfl | exact .own 3 rfl | exact .own 4 rfl | exact .own 5 rfl) (by first | assumption | exact ROs.slm (by assumption)) (fun _ => rfl) (by first | omega | (simp; omega)) (by first | omega | (simp; omega)) (fun v' => (by repeat' first | exact FL.nil | apply FL.cons)) (fun u1 hu1 => ?_)
        refine WL.as rfl rfl ?_
        refine WL.nil ?_
        refine W.inBlock ?_
        refine W.region ?_
        refine WL.addK rfl rfl rfl (wrap_i64 ⟨by omega, by omega⟩) ?_
        refine WL.mv rfl rfl ?_
        refine WL.nil ?_
        refine W.drop 0 rfl (by repeat' first | exact FL.nil | apply FL.cons) ?_
        refine W.sub ?_ (next ⟨1, (g : Int), 0, [] ++ [IntKind.i64.wrap (g : Int)], u1, ⟨ga, false⟩⟩ ⟨by simp only []; omega, hat, rfl, fun h => absurd (show (1 : Nat) = 0 from h) (by decide), fun _ => ⟨by rw [hd]; show decT bs (m - 1) _ _ _ _ = _; rw [show m - 1 = k by omega]; rfl, rfl⟩⟩ (by simp only []; omega))
        exact ⟨rfl, rfl, rfl, rfl, rfl, rfl, trivial⟩
    · obtain ⟨hdec, hqb⟩ := h5 hi0
      obtain ⟨d, ok, ⟨ga, gb⟩, hg⟩ : ∃ d ok q', nextF bs q = (d, ok, q') := ⟨_, _, _, rfl⟩
      have hat := nextF_at bs q h2
      rw [show m - i = (m - (i + 1)) + 1 by omega, decT, hg] at hdec
      rw [hg] at hat
      simp only [] at hat hdec
      cases ok with
      | false =>
        rw [if_pos (by left; rfl)] at hdec
        refine W.skip ?_
        refine W.seq ?_
        refine W.block ?_
        refine W.seq ?_
        refine W.region ?_
        refine WL.mv rfl rfl ?_
        refine WL.as rfl rfl ?_
        refine WL.nil ?_
        refine W.seq ?_
        refine W.seq ?_
        refine W.region ?_
        refine WL.mv rfl rfl ?_
        refine WL.eql rfl rfl rfl ?_
        refine WL.nil ?_
        refine W.condpF rfl (by omega) ?_
        refine W.seq ?_
        refine W.region ?_
        refine WL.mv rfl rfl ?_
        refine WL.callM 1 rfl rfl rfl (fun x p d => tnext_c _ _ _ _ (by assumption) (by assumption) (by assumption) (by assumption)) (by repeat' first | exact FL.nil | apply FL.cons) ?_
        refine WL.mv rfl rfl ?_
        refine WL.extL rfl rfl rfl ?_
        refine WL.extL rfl rfl rfl ?_
        refine WL.as rfl rfl ?_
        refine WL.as rfl rfl ?_
        refine WL.nil ?_
        refine W.seq ?_
        refine W.seq ?_
        refine W.region ?_
        refine WL.mv rfl rfl ?_
        refine WL.not rfl rfl ?_
        refine WL.nil ?_
        refine W.condT rfl ?_
        refine W.seq ?_
        refine W.region ?_
        refine WL.as rfl rfl ?_
        refine WL.as rfl rfl ?_
        refine WL.nil ?_
        refine W.drop 0 rfl (by repeat' first | exact FL.nil | apply FL.cons) ?_
        refine W.nb (sz := 1) ?_
        exact W.ret2 rfl rfl rfl (fun h p => rowTnone hdec.symm (by assumption) p)
      | true =>
        cases gb with
        | true =>
          rw [if_pos (by right; rfl)] at hdec
          refine W.skip ?_
          refine W.seq ?_
          refine W.block ?_
          refine W.seq ?_
          refine W.region ?_
          refine WL.mv rfl rfl ?_
          refine WL.as rfl rfl ?_
          refine WL.nil ?_
          refine W.seq ?_
          refine W.seq ?_
          refine W.region ?_
          refine WL.mv rfl rfl ?_
          refine WL.eql rfl rfl rfl ?_
          refine WL.nil ?_
          refine W.condpF rfl (by omega) ?_
          refine W.seq ?_
          refine W.region ?_
          refine WL.mv rfl rfl ?_
          refine WL.callM 1 rfl rfl rfl (fun x p d => tnext_c _ _ _ _ (by assumption) (by assumption) (by assumption) (by assumption)) (by repeat' first | exact FL.nil | apply FL.cons) ?_
          refine WL.mv rfl rfl ?_
          refine WL.extL rfl rfl rfl ?_
          refine WL.extL rfl rfl rfl ?_
          refine WL.as rfl rfl ?_
          refine WL.as rfl rfl ?_
          refine WL.nil ?_
          refine W.seq ?_
          refine W.seq ?_
          refine W.region ?_
          refine WL.mv rfl rfl ?_
          refine WL.not rfl rfl ?_
          refine WL.nil ?_
          refine W.condF rfl ?_
          refine W.skip ?_
          refine W.seq ?_
          refine W.region ?_
          refine WL.mv rfl rfl ?_
          refine WL.mv rfl rfl ?_
          refine WL.cv (T := Ty) rfl rfl rfl rfl ?_
          refine WL.add (K := .u64) rfl rfl rfl ?_
          refine WL.as rfl rfl ?_
          refine WL.nil ?_
          refine W.region ?_
          refine WL.mv rfl rfl ?_
          refine WL.mv rfl rfl ?_
          refine WL.add (K := .u64) rfl rfl rfl ?_
          refine WL.as rfl rfl ?_
          refine WL.nil ?_
          refine W.seq ?_
          refine W.seq ?_
          refine W.region ?_
          refine WL.mv rfl rfl ?_
          refine WL.callV rfl rfl (fun x p d => ok_c _ _ _ _ (by first | assumption | exact In.wide (by assumption) | exact In.mono (by assumption) (eqh_at 0 rfl p d) | exact in_at 0 rfl p d | exact in_at 1 rfl p d | exact in_at 2 rfl p d | exact in_at 3 rfl p d | exact in_at 4 rfl p d)) ?_
          refine WL.not rfl rfl ?_
          refine WL.nil ?_
          refine W.condT rfl ?_
          refine W.seq ?_
          refine W.region ?_
          refine WL.as rfl rfl ?_
          refine WL.as rfl rfl ?_
          refine WL.nil ?_
          refine W.drop 0 rfl (by repeat' first | exact FL.nil | apply FL.cons) ?_
          refine W.nb (sz := 1) ?_
          exact W.ret2 rfl rfl rfl (fun h p => rowTnone hdec.symm (by assumption) p)
        | false =>
          rw [if_neg (by simp)] at hdec
          refine W.skip ?_
          refine W.seq ?_
          refine W.block ?_
          refine W.seq ?_
          refine W.region ?_
          refine WL.mv rfl rfl ?_
          refine WL.as rfl rfl ?_
          refine WL.nil ?_
          refine W.seq ?_
          refine W.seq ?_
          refine W.region ?_
          refine WL.mv rfl rfl ?_
          refine WL.eql rfl rfl rfl ?_
          refine WL.nil ?_
          refine W.condpF rfl (by omega) ?_
          refine W.seq ?_
          refine W.region ?_
          refine WL.mv rfl rfl ?_
          refine WL.callM 1 rfl rfl rfl (fun x p d => tnext_c _ _ _ _ (by assumption) (by assumption) (by assumption) (by assumption)) (by repeat' first | exact FL.nil | apply FL.cons) ?_
          refine WL.mv rfl rfl ?_
          refine WL.extL rfl rfl rfl ?_
          refine WL.extL rfl rfl rfl ?_
          refine WL.as rfl rfl ?_
          refine WL.as rfl rfl ?_
          refine WL.nil ?_
          refine W.seq ?_
          refine W.seq ?_
          refine W.region ?_
          refine WL.mv rfl rfl ?_
          refine WL.not rfl rfl ?_
          refine WL.nil ?_
          refine W.condF rfl ?_
          refine W.skip ?_
          refine W.seq ?_
          refine W.region ?_
          refine WL.mv rfl rfl ?_
          refine WL.mv rfl rfl ?_
          refine WL.cv (T := Ty) rfl rfl rfl rfl ?_
          refine WL.add (K := .u64) rfl rfl rfl ?_
          refine WL.as rfl rfl ?_
          refine WL.nil ?_
          refine W.region ?_
          refine WL.mv rfl rfl ?_
          refine WL.mv rfl rfl ?_
          refine WL.add (K := .u64) rfl rfl rfl ?_
          refine WL.as rfl rfl ?_
          refine WL.nil ?_
          refine W.seq ?_
          refine W.seq ?_
          refine W.region ?_
          refine WL.mv rfl rfl ?_
          refine WL.callV rfl rfl (fun x p d => ok_c _ _ _ _ (by first | assumption | exact In.wide (by assumption) | exact In.mono (by assumption) (eqh_at 0 rfl p d) | exact in_at 0 rfl p d | exact in_at 1 rfl p d | exact in_at 2 rfl p d | exact in_at 3 rfl p d | exact in_at 4 rfl p d)) ?_
          refine WL.not rfl rfl ?_
          refine WL.nil ?_
          refine W.condF rfl ?_
          refine W.skip ?_
          refine W.region ?_
          refine WL.mv rfl rfl ?_
          refine WL.mv rfl rfl ?_
          refine WL.cv (T := Ty) rfl rfl rfl rfl ?_
          refine WL.bsC (T := Ty) rfl rfl rfl rfl rfl rfl rfl (by repeat' first | exact CO.nil | apply CO.one (by first | rfl | exact SL.one (by assumption)) | apply CO.agg) rfl (by repeat' first | exact FL.nil | apply FL.cons) (fun u0 hu0 => ?_)
          refine WL.ap1 (T := Ty) (i := 0) rfl rfl rfl rfl rfl rfl rfl rfl (by assumption) (by first | rfl | assumption) (by first | omega | (simp; omega)) (by first | omega | (simp; omega)) (fun v' => (by repeat' first | exact FL.nil | apply FL.cons)) (fun u1 hu1 => ?_)
          refine WL.as rfl rfl ?_
          refine WL.nil ?_
          refine W.inBlock ?_
          refine W.region ?_
          refine WL.addK rfl rfl rfl (wrap_i64 ⟨by omega, by omega⟩) ?_
          refine WL.mv rfl rfl ?_
          refine WL.nil ?_
          refine W.sub ?_ (W.hs (fun h p => ?_) (next ⟨i + 1, IntKind.u64.wrap (was + IntKind.u64.wrap (step + IntKind.u64.wrap d)), IntKind.u64.wrap (step + IntKind.u64.wrap d), out ++ [IntKind.i64.wrap (IntKind.u64.wrap (was + IntKind.u64.wrap (step + IntKind.u64.wrap d)))], u1, ⟨ga, false⟩⟩ ⟨by simp only []; omega, hat, by simp [h3], fun h => absurd h (by simp), fun _ => ⟨hdec, rfl⟩⟩ (by simp only []; omega)))
          · exact ⟨rfl, rfl, rfl, rfl, rfl, rfl, trivial⟩
          · simpa using p
  · have hie : i = m := by omega
    by_cases hm0 : m = 0
    · obtain ⟨hq, hst⟩ := h4 (by omega)
      subst hq
      have hd := decTs_zero (bs := bs) (s := q) (n := n) (by omega)
      obtain ⟨qa, qb⟩ := q
      cases qb with
      | true =>
        rw [if_pos rfl] at hd
        refine W.exit rfl ?_
        refine W.seq ?_
        refine W.seq ?_
        refine W.region ?_
        refine WL.mv rfl rfl ?_
        refine WL.callV rfl rfl (fun x p d => ok_c _ _ _ _ (by first | assumption | exact In.wide (by assumption) | exact In.mono (by assumption) (eqh_at 0 rfl p d) | exact in_at 0 rfl p d | exact in_at 1 rfl p d | exact in_at 2 rfl p d | exact in_at 3 rfl p d | exact in_at 4 rfl p d)) ?_
        refine WL.not rfl rfl ?_
        refine WL.nil ?_
        refine W.condT rfl ?_
        refine W.seq ?_
        refine W.region ?_
        refine WL.as rfl rfl ?_
        refine WL.as rfl rfl ?_
        refine WL.nil ?_
        refine W.drop 0 rfl (by repeat' first | exact FL.nil | apply FL.cons) ?_
        refine W.nb (sz := 1) ?_
        exact W.ret2 rfl rfl rfl (fun h p => rowTnone hd (by assumption) p)
      | false =>
        rw [if_neg (by simp)] at hd
        refine W.exit rfl ?_
        refine W.seq ?_
        refine W.seq ?_
        refine W.region ?_
        refine WL.mv rfl rfl ?_
        refine WL.callV rfl rfl (fun x p d => ok_c _ _ _ _ (by first | assumption | exact In.wide (by assumption) | exact In.mono (by assumption) (eqh_at 0 rfl p d) | exact in_at 0 rfl p d | exact in_at 1 rfl p d | exact in_at 2 rfl p d | exact in_at 3 rfl p d | exact in_at 4 rfl p d)) ?_
        refine WL.not rfl rfl ?_
        refine WL.nil ?_
        refine W.condF rfl ?_
        refine W.skip ?_
        refine W.seq ?_
        refine W.region ?_
        refine WL.mv rfl rfl ?_
        refine WL.as rfl rfl ?_
        refine WL.as rfl rfl ?_
        refine WL.nil ?_
        have ho : out = [] := List.eq_nil_of_length_eq_zero (by omega)
        subst ho
        exact W.ret2 rfl rfl rfl (fun h p => rowTsome hd h2 p)
    · obtain ⟨hdec, hqb⟩ := h5 (by omega)
      obtain ⟨qa, qb⟩ := q
      simp only [] at hqb
      subst hqb
      rw [hie, Nat.sub_self, decT] at hdec
      refine W.exit rfl ?_
      refine W.seq ?_
      refine W.seq ?_
      refine W.region ?_
      refine WL.mv rfl rfl ?_
      refine WL.callV rfl rfl (fun x p d => ok_c _ _ _ _ (by first | assumption | exact In.wide (by assumption) | exact In.mono (by assumption) (eqh_at 0 rfl p d) | exact in_at 0 rfl p d | exact in_at 1 rfl p d | exact in_at 2 rfl p d | exact in_at 3 rfl p d | exact in_at 4 rfl p d)) ?_
      refine WL.not rfl rfl ?_
      refine WL.nil ?_
      refine W.condF rfl ?_
      refine W.skip ?_
      refine W.seq ?_
      refine W.region ?_
      refine WL.mv rfl rfl ?_
      refine WL.as rfl rfl ?_
      refine WL.as rfl rfl ?_
      refine WL.nil ?_
      exact W.ret2 rfl rfl rfl (fun h p => rowTsome hdec.symm h2 p)
-- CALL 39 refine WL.callP $J rfl rfl rfl (fun x p d => tdec_s _ _ _ _ _ (by assumption) (by first | assumption | exact Nat.zero_le _) (by first | assumption | omega) (by assumption)) $FL (fun r => ?_) ;; refine WL.ex (fun u$N => ?_) ;; refine WL.pure (fun er => ?_) ;; subst er ;; refine WL.open ?_ ;; refine WL.fact (i := 0) rfl (fun h hb => Buf.slm hb) (fun hsl$N => ?_)
theorem tdec_s (ρ : Hp) (b : Nat) (bs : List Nat) (s : RdSt) (n : Int) {ts : List Int} {s' : RdSt} (e : decTs bs s n = some (ts, s')) (hs : s.at' ≤ 8 * bs.length) (hl : bs.length ≤ 140737488355328) (hw : ∀ x ∈ bs, x < 256) :
    Fn Try.prog 39 #[ptr b, .int .i64 n] ρ [Re b bs s] (fun r h => ∃ v, r = .tuple #[v, .bool true] ∧ sepl [Buf 1 v (ts.map (Value.int .i64)), Re b bs s'] h) := by
  have := tdec_c ρ b bs s n hs hl hw
  rw [e] at this
  exact this.mono (fun r h ⟨v, hr, q, ⟨hq, _⟩, p⟩ => ⟨v, hr, by rw [hq _ rfl] at p; exact p⟩)
-- CALL 39 refine WL.callP $J rfl rfl rfl (fun x p d => tdec_n _ _ _ _ _ (by assumption) (by first | assumption | exact Nat.zero_le _) (by first | assumption | omega) (by assumption)) $FL (fun r => ?_) ;; refine WL.ex (fun u$N => ?_) ;; refine WL.pure (fun er => ?_) ;; subst er ;; refine WL.ex (fun q$N => ?_) ;; refine WL.pure (fun hq$N => ?_) ;; refine WL.open ?_ ;; refine WL.fact (i := 0) rfl (fun h hb => Buf.slm hb) (fun hsl$N => ?_)
theorem tdec_n (ρ : Hp) (b : Nat) (bs : List Nat) (s : RdSt) (n : Int) (e : decTs bs s n = none) (hs : s.at' ≤ 8 * bs.length) (hl : bs.length ≤ 140737488355328) (hw : ∀ x ∈ bs, x < 256) :
    Fn Try.prog 39 #[ptr b, .int .i64 n] ρ [Re b bs s] (fun r h => ∃ v, r = .tuple #[v, .bool false] ∧ ∃ s' : RdSt, s'.at' ≤ 8 * bs.length ∧ sepl [Buf 1 v (([] : List Int).map (Value.int .i64)), Re b bs s'] h) := by
  have := tdec_c ρ b bs s n hs hl hw
  rw [e] at this
  exact this.mono (fun r h ⟨v, hr, q, ⟨_, hq⟩, p⟩ => ⟨v, hr, q, hq, p⟩)
end Go.Proofs.Ytlmhjkbbooghfaa
