/- Times by their differences: what the code of package time does. -/
import Derived.Test.YtdpnpipninggeaaGreatDoorStc
import Derived.Test.YtdpnpipninggeaaGreatDoorNum
import Derived.Test.YtdpnpipninggeaaGreatDoorTab
import Derived.Test.YtdpnpipninggeaaGreatDoorBits
import Derived.Test.YtdpnpipninggeaaGreatDoorBitsLaw
set_option linter.unusedSimpArgs false
set_option linter.unusedVariables false
set_option maxRecDepth 20000
set_option maxHeartbeats 4000000
namespace Go.Proofs.YtdpnpipninggeaaGreatDoor
open Go
attribute [local irreducible] W WL Fn Buf ROs SL eptr box Rd Src bndOK WD RB Reads In

def FormV (d : Int) : Value := .agg [.int .u64 ((whichF d).1 : Int), .int .i64 ((whichF d).2.1 : Int), .int .i64 ((whichF d).2.2 : Int)].toArray
theorem which_c (ρ : Hp) (d : Int) : Fn Tryz.prog 57 #[.int .i64 d] ρ [] (fun r _ => r = FormV d) := by
  refine in57 rfl rfl ?_
  by_cases c0 : d = 0
  · have e : whichF d = (0, 1, 0) := by unfold whichF; rw [if_pos c0]
    refine W.seq (W.region ?_)
    refine WL.alF (T := Ty) rfl rfl (by repeat' constructor) (fun b0 => ?_)
    refine WL.nil (W.seq (W.block (W.seq (W.region (WL.mv rfl rfl (WL.eql rfl rfl rfl (WL.as rfl rfl (WL.nil (W.condpT rfl (by omega) (W.seq (W.region ?_)))))))))))
    refine WL.bdC (T := Ty) rfl rfl rfl rfl (by repeat' first | exact CO.nil | apply CO.one (by first | rfl | exact SL.one (by assumption)) | apply CO.agg) rfl (by repeat' constructor) ?_
    refine WL.stAO (T := Ty) (j := 0) rfl rfl rfl rfl (by repeat' first | exact AO.nil | apply AO.cons (by first | rfl | exact SL.one (by assumption))) rfl rfl (by repeat' constructor) (by repeat' constructor) ?_
    refine WL.nil ?_
    exact W.retW (T := Ty) (j := 0) rfl rfl rfl rfl rfl rfl (fun h p => by unfold FormV; rw [e]; rfl)
  by_cases c1 : -64 ≤ d ∧ d ≤ 63
  · have e : whichF d = (2, 2, 7) := by unfold whichF; rw [if_neg c0, if_pos c1]
    refine W.seq (W.region ?_)
    refine WL.alF (T := Ty) rfl rfl (by repeat' constructor) (fun b0 => ?_)
    refine WL.nil (W.seq (W.block (W.seq (W.region (WL.mv rfl rfl (WL.eql rfl rfl rfl (WL.as rfl rfl (WL.nil (W.condpF rfl (by omega) (W.seq (W.region (WL.mv rfl rfl (WL.geq rfl rfl rfl ?_)))))))))))))
    refine WL.mv rfl rfl (WL.gT rfl rfl (by omega) (WL.mv rfl rfl (WL.gT rfl rfl (by omega) (WL.leq rfl rfl rfl (WL.pickTp rfl rfl (by omega) rfl (WL.as rfl rfl (WL.nil (W.condpT rfl (by omega) (W.seq (W.region ?_))))))))))
    refine WL.bdC (T := Ty) rfl rfl rfl rfl (by repeat' first | exact CO.nil | apply CO.one (by first | rfl | exact SL.one (by assumption)) | apply CO.agg) rfl (by repeat' constructor) ?_
    refine WL.stAO (T := Ty) (j := 0) rfl rfl rfl rfl (by repeat' first | exact AO.nil | apply AO.cons (by first | rfl | exact SL.one (by assumption))) rfl rfl (by repeat' constructor) (by repeat' constructor) ?_
    refine WL.nil ?_
    exact W.retW (T := Ty) (j := 0) rfl rfl rfl rfl rfl rfl (fun h p => by unfold FormV; rw [e]; rfl)
  by_cases c2 : -256 ≤ d ∧ d ≤ 255
  · have e : whichF d = (6, 3, 9) := by unfold whichF; rw [if_neg c0, if_neg c1, if_pos c2]
    by_cases k1 : -64 ≤ d
    · refine W.seq ?_
      refine W.region ?_
      refine WL.alF (T := Ty) rfl rfl (by repeat' constructor) (fun b0 => ?_)
      refine WL.nil (W.seq (W.block (W.seq (W.region (WL.mv rfl rfl (WL.eql rfl rfl rfl (WL.as rfl rfl (WL.nil (W.condpF rfl (by omega) (W.seq (W.region (WL.mv rfl rfl (WL.geq rfl rfl rfl ?_)))))))))))))
      refine WL.mv rfl rfl (WL.gT rfl rfl (by omega) (WL.mv rfl rfl (WL.gT rfl rfl (by omega) (WL.leq rfl rfl rfl (WL.pickTp rfl rfl (by omega) rfl (WL.as rfl rfl (WL.nil (W.condpF rfl (by omega) (W.seq (W.region (WL.mv rfl rfl (WL.geq rfl rfl rfl (WL.mv rfl rfl ?_)))))))))))))
      refine WL.gT rfl rfl (by omega) (WL.mv rfl rfl (WL.gT rfl rfl (by omega) (WL.leq rfl rfl rfl (WL.pickTp rfl rfl (by omega) rfl (WL.as rfl rfl (WL.nil (W.condpT rfl (by omega) (W.seq (W.region ?_)))))))))
      refine WL.bdC (T := Ty) rfl rfl rfl rfl (by repeat' first | exact CO.nil | apply CO.one (by first | rfl | exact SL.one (by assumption)) | apply CO.agg) rfl (by repeat' constructor) ?_
      refine WL.stAO (T := Ty) (j := 0) rfl rfl rfl rfl (by repeat' first | exact AO.nil | apply AO.cons (by first | rfl | exact SL.one (by assumption))) rfl rfl (by repeat' constructor) (by repeat' constructor) ?_
      refine WL.nil ?_
      exact W.retW (T := Ty) (j := 0) rfl rfl rfl rfl rfl rfl (fun h p => by unfold FormV; rw [e]; rfl)
    · refine W.seq ?_
      refine W.region ?_
      refine WL.alF (T := Ty) rfl rfl (by repeat' constructor) (fun b0 => ?_)
      refine WL.nil (W.seq (W.block (W.seq (W.region (WL.mv rfl rfl (WL.eql rfl rfl rfl (WL.as rfl rfl (WL.nil (W.condpF rfl (by omega) (W.seq (W.region (WL.mv rfl rfl (WL.geq rfl rfl rfl ?_)))))))))))))
      refine WL.mv rfl rfl (WL.gdTn rfl rfl rfl rfl rfl (by omega) (WL.gdTn rfl rfl rfl rfl rfl (by omega) (WL.pickFp rfl rfl (by omega) rfl (WL.as rfl rfl (WL.nil (W.condF rfl (W.seq (W.region (WL.mv rfl rfl (WL.geq rfl rfl rfl (WL.mv rfl rfl (WL.gT rfl rfl (by omega) (WL.mv rfl rfl ?_)))))))))))))
      refine WL.gT rfl rfl (by omega) (WL.leq rfl rfl rfl (WL.pickTp rfl rfl (by omega) rfl (WL.as rfl rfl (WL.nil (W.condpT rfl (by omega) (W.seq (W.region ?_)))))))
      refine WL.bdC (T := Ty) rfl rfl rfl rfl (by repeat' first | exact CO.nil | apply CO.one (by first | rfl | exact SL.one (by assumption)) | apply CO.agg) rfl (by repeat' constructor) ?_
      refine WL.stAO (T := Ty) (j := 0) rfl rfl rfl rfl (by repeat' first | exact AO.nil | apply AO.cons (by first | rfl | exact SL.one (by assumption))) rfl rfl (by repeat' constructor) (by repeat' constructor) ?_
      refine WL.nil ?_
      exact W.retW (T := Ty) (j := 0) rfl rfl rfl rfl rfl rfl (fun h p => by unfold FormV; rw [e]; rfl)
  by_cases c3 : -2048 ≤ d ∧ d ≤ 2047
  · have e : whichF d = (14, 4, 12) := by unfold whichF; rw [if_neg c0, if_neg c1, if_neg c2, if_pos c3]
    by_cases k1 : -64 ≤ d
    · refine W.seq ?_
      refine W.region ?_
      refine WL.alF (T := Ty) rfl rfl (by repeat' constructor) (fun b0 => ?_)
      refine WL.nil (W.seq (W.block (W.seq (W.region (WL.mv rfl rfl (WL.eql rfl rfl rfl (WL.as rfl rfl (WL.nil (W.condpF rfl (by omega) (W.seq (W.region (WL.mv rfl rfl (WL.geq rfl rfl rfl ?_)))))))))))))
      refine WL.mv rfl rfl (WL.gT rfl rfl (by omega) (WL.mv rfl rfl (WL.gT rfl rfl (by omega) (WL.leq rfl rfl rfl (WL.pickTp rfl rfl (by omega) rfl (WL.as rfl rfl (WL.nil (W.condpF rfl (by omega) (W.seq (W.region (WL.mv rfl rfl (WL.geq rfl rfl rfl (WL.mv rfl rfl ?_)))))))))))))
      refine WL.gT rfl rfl (by omega) (WL.mv rfl rfl (WL.gT rfl rfl (by omega) (WL.leq rfl rfl rfl (WL.pickTp rfl rfl (by omega) rfl (WL.as rfl rfl (WL.nil (W.condpF rfl (by omega) (W.seq (W.region (WL.mv rfl rfl (WL.geq rfl rfl rfl (WL.mv rfl rfl (WL.gT rfl rfl (by omega) ?_)))))))))))))
      refine WL.mv rfl rfl (WL.gT rfl rfl (by omega) (WL.leq rfl rfl rfl (WL.pickTp rfl rfl (by omega) rfl (WL.as rfl rfl (WL.nil (W.condpT rfl (by omega) (W.seq (W.region ?_))))))))
      refine WL.bdC (T := Ty) rfl rfl rfl rfl (by repeat' first | exact CO.nil | apply CO.one (by first | rfl | exact SL.one (by assumption)) | apply CO.agg) rfl (by repeat' constructor) ?_
      refine WL.stAO (T := Ty) (j := 0) rfl rfl rfl rfl (by repeat' first | exact AO.nil | apply AO.cons (by first | rfl | exact SL.one (by assumption))) rfl rfl (by repeat' constructor) (by repeat' constructor) ?_
      refine WL.nil ?_
      exact W.retW (T := Ty) (j := 0) rfl rfl rfl rfl rfl rfl (fun h p => by unfold FormV; rw [e]; rfl)
    · refine W.seq ?_
      refine W.region ?_
      refine WL.alF (T := Ty) rfl rfl (by repeat' constructor) (fun b0 => ?_)
      refine WL.nil (W.seq (W.block (W.seq (W.region (WL.mv rfl rfl (WL.eql rfl rfl rfl (WL.as rfl rfl (WL.nil (W.condpF rfl (by omega) (W.seq (W.region (WL.mv rfl rfl (WL.geq rfl rfl rfl ?_)))))))))))))
      refine WL.mv rfl rfl (WL.gdTn rfl rfl rfl rfl rfl (by omega) (WL.gdTn rfl rfl rfl rfl rfl (by omega) (WL.pickFp rfl rfl (by omega) rfl (WL.as rfl rfl (WL.nil (W.condF rfl (W.seq (W.region (WL.mv rfl rfl (WL.geq rfl rfl rfl (WL.mv rfl rfl (WL.gdTn rfl rfl rfl rfl rfl (by omega) (WL.gdTn rfl rfl rfl rfl rfl (by omega) ?_)))))))))))))
      refine WL.pickFp rfl rfl (by omega) rfl (WL.as rfl rfl (WL.nil (W.condF rfl (W.seq (W.region (WL.mv rfl rfl (WL.geq rfl rfl rfl (WL.mv rfl rfl (WL.gT rfl rfl (by omega) (WL.mv rfl rfl (WL.gT rfl rfl (by omega) (WL.leq rfl rfl rfl (WL.pickTp rfl rfl (by omega) rfl ?_)))))))))))))
      refine WL.as rfl rfl (WL.nil (W.condpT rfl (by omega) (W.seq (W.region ?_))))
      refine WL.bdC (T := Ty) rfl rfl rfl rfl (by repeat' first | exact CO.nil | apply CO.one (by first | rfl | exact SL.one (by assumption)) | apply CO.agg) rfl (by repeat' constructor) ?_
      refine WL.stAO (T := Ty) (j := 0) rfl rfl rfl rfl (by repeat' first | exact AO.nil | apply AO.cons (by first | rfl | exact SL.one (by assumption))) rfl rfl (by repeat' constructor) (by repeat' constructor) ?_
      refine WL.nil ?_
      exact W.retW (T := Ty) (j := 0) rfl rfl rfl rfl rfl rfl (fun h p => by unfold FormV; rw [e]; rfl)
  · have e : whichF d = (15, 4, 64) := by unfold whichF; rw [if_neg c0, if_neg c1, if_neg c2, if_neg c3]
    by_cases k1 : -64 ≤ d
    · refine W.seq ?_
      refine W.region ?_
      refine WL.alF (T := Ty) rfl rfl (by repeat' constructor) (fun b0 => ?_)
      refine WL.nil (W.seq (W.block (W.seq (W.region (WL.mv rfl rfl (WL.eql rfl rfl rfl (WL.as rfl rfl (WL.nil (W.condpF rfl (by omega) (W.seq (W.region (WL.mv rfl rfl (WL.geq rfl rfl rfl ?_)))))))))))))
      refine WL.mv rfl rfl (WL.gT rfl rfl (by omega) (WL.mv rfl rfl (WL.gT rfl rfl (by omega) (WL.leq rfl rfl rfl (WL.pickTp rfl rfl (by omega) rfl (WL.as rfl rfl (WL.nil (W.condpF rfl (by omega) (W.seq (W.region (WL.mv rfl rfl (WL.geq rfl rfl rfl (WL.mv rfl rfl ?_)))))))))))))
      refine WL.gT rfl rfl (by omega) (WL.mv rfl rfl (WL.gT rfl rfl (by omega) (WL.leq rfl rfl rfl (WL.pickTp rfl rfl (by omega) rfl (WL.as rfl rfl (WL.nil (W.condpF rfl (by omega) (W.seq (W.region (WL.mv rfl rfl (WL.geq rfl rfl rfl (WL.mv rfl rfl (WL.gT rfl rfl (by omega) ?_)))))))))))))
      refine WL.mv rfl rfl (WL.gT rfl rfl (by omega) (WL.leq rfl rfl rfl (WL.pickTp rfl rfl (by omega) rfl (WL.as rfl rfl (WL.nil (W.condpF rfl (by omega) (W.skip (W.inBlock (W.seq (W.region ?_))))))))))
      refine WL.bdC (T := Ty) rfl rfl rfl rfl (by repeat' first | exact CO.nil | apply CO.one (by first | rfl | exact SL.one (by assumption)) | apply CO.agg) rfl (by repeat' constructor) ?_
      refine WL.stAO (T := Ty) (j := 0) rfl rfl rfl rfl (by repeat' first | exact AO.nil | apply AO.cons (by first | rfl | exact SL.one (by assumption))) rfl rfl (by repeat' constructor) (by repeat' constructor) ?_
      refine WL.nil ?_
      exact W.retW (T := Ty) (j := 0) rfl rfl rfl rfl rfl rfl (fun h p => by unfold FormV; rw [e]; rfl)
    · refine W.seq ?_
      refine W.region ?_
      refine WL.alF (T := Ty) rfl rfl (by repeat' constructor) (fun b0 => ?_)
      refine WL.nil (W.seq (W.block (W.seq (W.region (WL.mv rfl rfl (WL.eql rfl rfl rfl (WL.as rfl rfl (WL.nil (W.condpF rfl (by omega) (W.seq (W.region (WL.mv rfl rfl (WL.geq rfl rfl rfl ?_)))))))))))))
      refine WL.mv rfl rfl (WL.gdTn rfl rfl rfl rfl rfl (by omega) (WL.gdTn rfl rfl rfl rfl rfl (by omega) (WL.pickFp rfl rfl (by omega) rfl (WL.as rfl rfl (WL.nil (W.condF rfl (W.seq (W.region (WL.mv rfl rfl (WL.geq rfl rfl rfl (WL.mv rfl rfl (WL.gdTn rfl rfl rfl rfl rfl (by omega) (WL.gdTn rfl rfl rfl rfl rfl (by omega) ?_)))))))))))))
      refine WL.pickFp rfl rfl (by omega) rfl (WL.as rfl rfl (WL.nil (W.condF rfl (W.seq (W.region (WL.mv rfl rfl (WL.geq rfl rfl rfl (WL.mv rfl rfl (WL.gdTn rfl rfl rfl rfl rfl (by omega) (WL.gdTn rfl rfl rfl rfl rfl (by omega) (WL.pickFp rfl rfl (by omega) rfl (WL.as rfl rfl (WL.nil ?_)))))))))))))
      refine W.condF rfl (W.skip (W.inBlock (W.seq (W.region ?_))))
      refine WL.bdC (T := Ty) rfl rfl rfl rfl (by repeat' first | exact CO.nil | apply CO.one (by first | rfl | exact SL.one (by assumption)) | apply CO.agg) rfl (by repeat' constructor) ?_
      refine WL.stAO (T := Ty) (j := 0) rfl rfl rfl rfl (by repeat' first | exact AO.nil | apply AO.cons (by first | rfl | exact SL.one (by assumption))) rfl rfl (by repeat' constructor) (by repeat' constructor) ?_
      refine WL.nil ?_
      exact W.retW (T := Ty) (j := 0) rfl rfl rfl rfl rfl rfl (fun h p => by unfold FormV; rw [e]; rfl)

theorem tenc_c (ρ : Hp) (b : Nat) (ds : List Nat) (v : Value) (ts : List Int) (hv : ROs ρ 1 v (ts.map (Value.int .i64))) (hds : ∀ d ∈ ds, d < 2) (hl : ds.length ≤ 1099000000) (htl : ts.length ≤ 70000) :
    Fn Tryz.prog 34 #[ptr b, v] ρ [Wr b ds] (fun r h => r = .tuple #[] ∧ Wr b (ds ++ encTs ts) h) := by
  refine in34 rfl rfl ?_
  have sv := hv.slm
  refine W.seq (W.region (WL.as rfl rfl (WL.as rfl rfl (WL.nil (W.seq (W.region (WL.mv rfl rfl ?_)))))))
  refine WL.len (T := Ty) rfl rfl (by assumption) rfl ?_
  refine WL.mv rfl rfl (WL.nil (W.block ?_))
  refine W.loopS (σ := Nat × Int × Int × List Nat) (fun s => [(0, ptr b), (11, v), (12, .int .i64 (ts.length : Int)), (13, .int .i64 (s.1 : Int)), (4, .int .u64 s.2.1), (5, .int .u64 s.2.2.1)]) (fun s => [Wr b s.2.2.2])
    (fun s => s.1 ≤ ts.length ∧ s.2.2.2 ++ (if s.1 = 0 then encTs ts else encT s.2.1 s.2.2.1 (ts.drop s.1)) = ds ++ encTs ts ∧ (s.1 = 0 → s.2.2.1 = 0) ∧ (∀ d ∈ s.2.2.2, d < 2) ∧ s.2.2.2.length ≤ ds.length + 68 * s.1) (fun s => ts.length - s.1) (0, 0, 0, ds) ⟨rfl, rfl, rfl, rfl, rfl, rfl, trivial⟩ rfl ⟨Nat.zero_le _, rfl, fun _ => rfl, hds, by simp⟩ ?_
  rintro ⟨i, was, step, es⟩ ⟨h1, h2, h3, h4, h5⟩ next
  simp only [] at h1 h2 h3 h4 h5 next ⊢
  refine W.seq (W.region (WL.lss rfl rfl rfl (WL.nil (W.seq ?_))))
  refine W.condp rfl (fun hlt => ?_) (fun hge => ?_)
  · have hi : i < ts.length := by omega
    obtain ⟨x, hx⟩ : ∃ x, ts[i]? = some x := ⟨_, List.getElem?_eq_getElem hi⟩
    have hx1 : (ts.map (Value.int .i64))[i]? = some (.int .i64 x) := by rw [List.getElem?_map, hx]; rfl
    have hdrop : ts.drop i = x :: ts.drop (i + 1) := by
      rw [List.drop_eq_getElem_cons hi]
      congr 1
      rw [List.getElem?_eq_getElem hi] at hx
      exact Option.some.inj hx
    have hb := u64_bnd x
    by_cases h0 : i = 0
    · subst h0
      refine W.skip (W.seq (W.block (W.seq (W.region (WL.mv rfl rfl ?_)))))
      refine WL.ix (T := Ty) rfl rfl rfl (by assumption) rfl rfl (by omega) (by first | omega | decide +kernel) ?_
      refine WL.ldKn (T := Ty) rfl rfl rfl rfl (by first | assumption | exact ROs.wide (by assumption)) (by assumption) ?_
      refine WL.as rfl rfl (WL.as rfl rfl (WL.nil (W.seq (W.region (WL.mv rfl rfl (WL.cv (T := Ty) rfl rfl rfl rfl (WL.as rfl rfl (WL.nil (W.seq (W.seq (W.region (WL.mv rfl rfl (WL.eql rfl rfl rfl ?_)))))))))))))
      refine WL.nil (W.condT rfl (W.seq (W.region (WL.mv rfl rfl (WL.mv rfl rfl ?_)))))
      refine WL.callM 0 rfl rfl rfl (fun x p d => put_ci _ _ _ _ _ (by omega) (by omega) (by repeat' first | assumption | exact bok_nil | exact bitsOf_bit _ _ | apply bok_app) (by first | assumption | omega | (simp only [List.length_append, bitsOf_len, List.length_nil, heldF]; omega))) (by repeat' constructor) ?_
      refine WL.nil (W.seq (W.region (WL.mv rfl rfl (WL.as rfl rfl (WL.nil (W.exit rfl (W.region (WL.addK rfl rfl rfl (wrap_i64 ⟨by omega, by omega⟩) (WL.mv rfl rfl (WL.nil ?_))))))))))
      refine W.sub ?_ (next ⟨1, IntKind.u64.wrap x, step, es ++ bitsOf (IntKind.u64.wrap x).toNat 64⟩ ⟨by simp only []; omega, ?_, by simp, bok_app h4 (bitsOf_bit _ _), by simp [bitsOf_len]; omega⟩ (by simp only []; omega))
      · exact ⟨rfl, rfl, rfl, rfl, rfl, rfl, trivial⟩
      · have e : ts = x :: ts.drop 1 := by simpa using hdrop
        rw [if_pos rfl] at h2
        show (es ++ bitsOf (IntKind.u64.wrap x).toNat 64) ++ (if (1 : Nat) = 0 then encTs ts else encT (IntKind.u64.wrap x) step (ts.drop 1)) = ds ++ encTs ts
        rw [if_neg (by decide : ¬ (1 : Nat) = 0), ← h2, h3 rfl]
        conv => rhs; rw [e, encTs]
        simp
    · obtain ⟨d, hd⟩ : ∃ d, d = IntKind.u64.wrap (IntKind.u64.wrap (IntKind.u64.wrap x - was) - step) := ⟨_, rfl⟩
      have hdb := u64_bnd (IntKind.u64.wrap (IntKind.u64.wrap x - was) - step)
      have hwf := whichF_bnd (IntKind.i64.wrap (IntKind.u64.wrap (IntKind.u64.wrap (IntKind.u64.wrap x - was) - step)))
      refine W.skip (W.seq (W.block (W.seq (W.region (WL.mv rfl rfl ?_)))))
      refine WL.ix (T := Ty) rfl rfl rfl (by assumption) rfl rfl (by omega) (by first | omega | decide +kernel) ?_
      refine WL.ldKn (T := Ty) rfl rfl rfl rfl (by first | assumption | exact ROs.wide (by assumption)) (by assumption) ?_
      refine WL.as rfl rfl (WL.as rfl rfl (WL.nil (W.seq (W.region (WL.mv rfl rfl (WL.cv (T := Ty) rfl rfl rfl rfl (WL.as rfl rfl (WL.nil (W.seq (W.seq (W.region (WL.mv rfl rfl (WL.eql rfl rfl rfl ?_)))))))))))))
      refine WL.nil (W.condpF rfl (by omega) (W.skip (W.seq (W.region (WL.mv rfl rfl (WL.mv rfl rfl (WL.sub' (K := .u64) rfl rfl rfl (WL.mv rfl rfl (WL.sub' (K := .u64) rfl rfl rfl (WL.as rfl rfl (WL.nil (W.seq (W.region ?_)))))))))))))
      refine WL.mv rfl rfl (WL.cv (T := Ty) rfl rfl rfl rfl ?_)
      refine WL.callT (v := FormV _) rfl rfl (fun x p d => which_c _ _) ?_
      simp only [FormV]
      refine WL.alF (T := Ty) rfl rfl (by repeat' constructor) (fun b0 => ?_)
      refine WL.stAO (T := Ty) (j := 0) rfl rfl rfl rfl (by repeat' first | exact AO.nil | apply AO.cons (by first | rfl | exact SL.one (by assumption))) rfl rfl (by repeat' constructor) (by repeat' constructor) ?_
      refine WL.nil (W.seq (W.region (WL.mv rfl rfl (WL.faN (T := Ty) (off' := 0) rfl rfl rfl rfl rfl rfl rfl (WL.ldN (T := Ty) (j := 0) rfl rfl rfl rfl rfl rfl (WL.faN (T := Ty) (off' := 1) rfl rfl rfl rfl rfl rfl rfl (WL.ldN (T := Ty) (j := 0) rfl rfl rfl rfl rfl rfl ?_)))))))
      refine WL.callM 1 rfl rfl rfl (fun x p d => put_c _ _ _ _ _ (by omega) (by repeat' first | assumption | exact bok_nil | exact bitsOf_bit _ _ | apply bok_app) (by first | assumption | omega | (simp only [List.length_append, bitsOf_len, List.length_nil, heldF]; omega))) (by repeat' constructor) ?_
      refine WL.nil (W.seq (W.region (WL.mv rfl rfl (WL.mv rfl rfl (WL.faN (T := Ty) (off' := 2) rfl rfl rfl rfl rfl rfl rfl (WL.ldN (T := Ty) (j := 0) rfl rfl rfl rfl rfl rfl ?_))))))
      refine WL.callM 1 rfl rfl rfl (fun x p d => put_ci _ _ _ _ _ (by omega) (by omega) (by repeat' first | assumption | exact bok_nil | exact bitsOf_bit _ _ | apply bok_app) (by first | assumption | omega | (simp only [List.length_append, bitsOf_len, List.length_nil, heldF]; omega))) (by repeat' constructor) ?_
      refine WL.nil (W.region (WL.mv rfl rfl (WL.mv rfl rfl (WL.mv rfl rfl (WL.sub' (K := .u64) rfl rfl rfl (WL.as rfl rfl (WL.as rfl rfl (WL.nil (W.inBlock (W.region (WL.addK rfl rfl rfl (wrap_i64 ⟨by omega, by omega⟩) (WL.mv rfl rfl (WL.nil ?_)))))))))))))
      rw [heldF_nat _ (by omega), heldF_nat _ hwf.2.2, ← hd]
      refine W.drop 0 rfl (by repeat' constructor) ?_
      have hdl := dBits_len d
      refine W.sub ?_ (W.hs (fun h p => ?_) (next ⟨i + 1, IntKind.u64.wrap x, IntKind.u64.wrap (IntKind.u64.wrap x - was), es ++ dBits d⟩ ⟨by simp only []; omega, ?_, by simp, bok_app h4 (dBits_bit d), by simp; omega⟩ (by simp only []; omega)))
      · exact ⟨rfl, rfl, rfl, rfl, rfl, rfl, trivial⟩
      · unfold dBits
        rw [← List.append_assoc]
        exact p
      · show (es ++ dBits d) ++ (if i + 1 = 0 then encTs ts else encT (IntKind.u64.wrap x) (IntKind.u64.wrap (IntKind.u64.wrap x - was)) (ts.drop (i + 1))) = ds ++ encTs ts
        rw [if_neg h0, hdrop, encT, ← hd] at h2
        rw [if_neg (by omega : ¬ i + 1 = 0), ← h2, List.append_assoc]
  · have hie : i = ts.length := by omega
    have e : es = ds ++ encTs ts := by
      rw [← h2, hie, List.drop_of_length_le (Nat.le_refl _)]
      split
      · rename_i hn
        rw [List.eq_nil_of_length_eq_zero hn]; simp [encTs]
      · simp [encT]
    refine W.exit rfl ?_
    refine W.stop0 rfl (fun h p => ⟨rfl, ?_⟩)
    rw [← e]
    exact sepl_one.1 p

theorem onesF_at (bs : List Nat) : ∀ (k n : Nat) (s : RdSt), s.at' ≤ 8 * bs.length → (onesF bs k n s).2.at' ≤ 8 * bs.length ∧ (onesF bs k n s).1 ≤ n + k
  | 0, n, s, h => by simp [onesF, h]
  | k + 1, n, s, h => by
    unfold onesF
    split
    · have := onesF_at bs k (n + 1) _ (getF_at bs s 1 h)
      exact ⟨this.1, by omega⟩
    · exact ⟨getF_at bs s 1 h, by simp⟩
theorem nextF_at (bs : List Nat) (s : RdSt) (h : s.at' ≤ 8 * bs.length) : (nextF bs s).2.2.at' ≤ 8 * bs.length := getF_at _ _ _ (onesF_at bs 4 0 s h).1
theorem getF_lt (bs : List Nat) (s : RdSt) (n : Int) : (getF bs s n).1 < 2 ^ heldF n := by
  unfold getF
  split
  · exact Nat.pow_pos (by decide)
  · exact getV_lt _ _ _
/-- times that there may be, and where the reader stands -/
def RowT (bs : List Nat) (mk : RdSt → HP) (o : Option (List Int × RdSt)) : Value → HP := fun r h => ∃ v, r = .tuple #[v, .bool o.isSome] ∧ ∃ s' : RdSt, ((∀ x, o = some x → s' = x.2) ∧ s'.at' ≤ 8 * bs.length) ∧ sepl [Buf 1 v ((o.elim [] (·.1)).map (Value.int .i64)), mk s'] h
theorem rowTnone {bs : List Nat} {mk : RdSt → HP} {o : Option (List Int × RdSt)} (e : o = none) {s' : RdSt} (hs : s'.at' ≤ 8 * bs.length) {h : Hp} (p : sepl [Buf 1 (.slice none 0 0) [], mk s'] h) : RowT bs mk o (.tuple #[.slice none 0 0, .bool false]) h := by
  subst e; exact ⟨_, rfl, s', ⟨fun x hx => (by cases hx), hs⟩, p⟩
theorem rowTsome {bs : List Nat} {mk : RdSt → HP} {o : Option (List Int × RdSt)} {l : List Int} {s' : RdSt} {v : Value} (e : o = some (l, s')) (hs : s'.at' ≤ 8 * bs.length) {h : Hp} (p : sepl [Buf 1 v (l.map (Value.int .i64)), mk s'] h) : RowT bs mk o (.tuple #[v, .bool true]) h := by
  subst e; exact ⟨_, rfl, s', ⟨fun x hx => (by cases hx; rfl), hs⟩, p⟩
theorem heldT_eq (n : Int) : min (max n 0) 65535 = (heldT n : Int) := by unfold heldT; omega
theorem heldT_le (n : Int) : heldT n ≤ 65535 := by unfold heldT; omega
theorem decTs_zero {bs : List Nat} {s : RdSt} {n : Int} (h : heldT n = 0) : decTs bs s n = if s.bad = true then none else some ([], s) := by unfold decTs; rw [h]
theorem decTs_succ {bs : List Nat} {s : RdSt} {n : Int} {k : Nat} (h : heldT n = k + 1) : decTs bs s n = if (getF bs s 64).2.bad = true then none else decT bs k ((getF bs s 64).1 : Int) 0 [IntKind.i64.wrap ((getF bs s 64).1 : Int)] (getF bs s 64).2 := by unfold decTs; rw [h]
end Go.Proofs.YtdpnpipninggeaaGreatDoor
