/- The document's ring: a page comes. -/
import Derived.Test.YtbebhmdjnneimaaStc
import Derived.Test.YtbebhmdjnneimaaNum
import Derived.Test.YtbebhmdjnneimaaTab
import Derived.Test.YtbebhmdjnneimaaCkr2
import Derived.Test.YtbebhmdjnneimaaRetC
set_option linter.unusedSimpArgs false
set_option linter.unusedVariables false
set_option maxRecDepth 20000
set_option maxHeartbeats 4000000
namespace Go.Proofs.Ytbebhmdjnneimaa
open Go
attribute [local irreducible] W WL Fn Buf ROs SL eptr box Rd Src bndOK WD RB Reads In Own fndK cnt handG handC
theorem comer_c (ρ : Hp) (b : Nat) (mo ta : Int) (v o : Value) (L : List Pg) (h1 h2 h3 : Nat) (p : Pg) (hi : h1 ≤ L.length) (hl : L.length ≤ 1000000) (sv : SL v L.length) (k1 : h1 ≤ 1000000) (k2 : h2 ≤ 1000000) (k3 : h3 ≤ 1000000) :
    Fn Try.prog 109 #[pt b 0, pgV p] ρ [box b [.int .i64 mo, .int .i64 ta, v, .int .i64 (h1 : Int), .int .i64 (h2 : Int), .int .i64 (h3 : Int), o] 145, Buf 7 v (L.flatMap pgC)] (RgR b (comesP ⟨mo, ta, L, h1, h2, h3⟩ p) o) := by
  have l1 := pgs_cells L
  have ho := pgs_one L
  refine in109 rfl rfl ?_
  unfold pgV
  by_cases h0 : L.length = 0
  · refine W.seq ?_
    refine W.region ?_
    refine WL.bxF rfl rfl (by repeat' constructor) (fun b0 => ?_)
    refine WL.nil (W.seq (W.seq (W.region (WL.mv rfl rfl (WL.nc rfl rfl (WL.faN (T := Ty) (off' := 0) rfl rfl rfl rfl rfl rfl rfl (WL.faN (T := Ty) (off' := 2) rfl rfl rfl rfl rfl rfl rfl (WL.ldN (T := Ty) (j := 1) rfl rfl rfl rfl rfl rfl ?_))))))))
    refine WL.len (T := Ty) rfl rfl (by assumption) rfl ?_
    refine WL.eql rfl rfl rfl (WL.nil (W.condpT rfl (by omega) (W.seq (W.region (WL.mv rfl rfl (WL.mv rfl rfl (WL.mv rfl rfl (WL.mv rfl rfl ?_))))))))
    refine WL.ldAF (T := Ty) (j := 0) rfl rfl rfl rfl rfl rfl (by repeat' constructor) ?_
    refine WL.bsC (T := Ty) rfl rfl rfl rfl rfl rfl rfl (by repeat' first | exact CO.nil | apply CO.one (by first | rfl | exact SL.one (by assumption)) | apply CO.agg) rfl (by repeat' constructor) (fun u1 hu1 => ?_)
    refine WL.nc rfl rfl (WL.faN (T := Ty) (off' := 0) rfl rfl rfl rfl rfl rfl rfl (WL.faN (T := Ty) (off' := 2) rfl rfl rfl rfl rfl rfl rfl ?_))
    refine WL.stF (T := Ty) (j := 2) rfl rfl rfl rfl (SL.one (by assumption)) rfl rfl (by repeat' constructor) (by repeat' constructor) ?_
    refine WL.nc rfl rfl (WL.faN (T := Ty) (off' := 0) rfl rfl rfl rfl rfl rfl rfl (WL.faN (T := Ty) (off' := 3) rfl rfl rfl rfl rfl rfl rfl ?_))
    refine WL.stF (T := Ty) (j := 2) rfl rfl rfl rfl rfl rfl rfl (by repeat' constructor) (by repeat' constructor) ?_
    refine WL.nc rfl rfl (WL.faN (T := Ty) (off' := 0) rfl rfl rfl rfl rfl rfl rfl (WL.faN (T := Ty) (off' := 4) rfl rfl rfl rfl rfl rfl rfl ?_))
    refine WL.stF (T := Ty) (j := 2) rfl rfl rfl rfl rfl rfl rfl (by repeat' constructor) (by repeat' constructor) ?_
    refine WL.nc rfl rfl (WL.faN (T := Ty) (off' := 0) rfl rfl rfl rfl rfl rfl rfl (WL.faN (T := Ty) (off' := 5) rfl rfl rfl rfl rfl rfl rfl ?_))
    refine WL.stF (T := Ty) (j := 2) rfl rfl rfl rfl rfl rfl rfl (by repeat' constructor) (by repeat' constructor) ?_
    refine WL.nil ?_
    have hL : L = [] := List.eq_nil_of_length_eq_zero h0
    refine W.fit (Hs' := [box b _ _, Buf 7 u1 _]) (by (repeat' first | exact Sel.nil | apply Sel.k | exact Pick.h | apply Pick.t)) (W.ret0 rfl (fun h q => ⟨u1, ⟨rfl, by unfold comesP; rw [if_pos h0]; exact hu1⟩, by unfold comesP; rw [if_pos h0]; unfold RgO; dsimp only; rw [List.flatMap_cons, List.flatMap_nil, List.append_nil]; exact q⟩))
  · have hfl : [] ++ (L.take h1).flatMap pgC ++ [.int .i64 p.key.a, .int .i64 p.key.b, .int .i64 p.key.c, .int .i64 p.kind, .bool p.ref, .bool p.trial, .int .i64 p.pins] ++ (L.drop h1).flatMap pgC = (L.take h1 ++ [p] ++ L.drop h1).flatMap pgC := by rw [List.nil_append, List.flatMap_append, List.flatMap_append]; rfl
    have hln : (L.take h1 ++ [p] ++ L.drop h1).length = L.length + 1 := by simp; omega
    have lA := pgs_cells (L.take h1)
    have oA := pgs_one (L.take h1)
    have lB := pgs_cells (L.drop h1)
    have oB := pgs_one (L.drop h1)
    have hc1 : handC h1 h1 = h1 + 1 := by unfold handC; rw [if_pos (Nat.le_refl _)]
    have hsz : (L.take h1).length + 1 + (L.drop h1).length = L.length + 1 := by simp; omega
    have lC : (([] : List Value) ++ (L.take h1).flatMap pgC ++ [Value.int .i64 p.key.a, .int .i64 p.key.b, .int .i64 p.key.c, .int .i64 p.kind, .bool p.ref, .bool p.trial, .int .i64 p.pins]).length = ((L.take h1).length + 1) * 7 := by rw [List.length_append, List.nil_append, lA]; simp only [List.length_cons, List.length_nil]; omega
    refine W.seq (W.region ?_)
    refine WL.bxF rfl rfl (by repeat' constructor) (fun b0 => ?_)
    refine WL.nil (W.seq (W.seq (W.region (WL.mv rfl rfl (WL.nc rfl rfl (WL.faN (T := Ty) (off' := 0) rfl rfl rfl rfl rfl rfl rfl (WL.faN (T := Ty) (off' := 2) rfl rfl rfl rfl rfl rfl rfl (WL.ldN (T := Ty) (j := 1) rfl rfl rfl rfl rfl rfl ?_))))))))
    refine WL.len (T := Ty) rfl rfl (by assumption) rfl ?_
    refine WL.eql rfl rfl rfl (WL.nil (W.condpF rfl (by omega) (W.skip (W.seq (W.region (WL.mv rfl rfl (WL.nc rfl rfl (WL.faN (T := Ty) (off' := 0) rfl rfl rfl rfl rfl rfl rfl (WL.faN (T := Ty) (off' := 3) rfl rfl rfl rfl rfl rfl rfl (WL.ldN (T := Ty) (j := 1) rfl rfl rfl rfl rfl rfl (WL.as rfl rfl (WL.nil (W.seq ?_)))))))))))))
    refine W.cutG (τ := Value) (fun s => [(0, pt b 0), (4, .int .i64 (h1 : Int))]) (fun s => [box b [.int .i64 mo, .int .i64 ta, s, .int .i64 (h1 : Int), .int .i64 (h2 : Int), .int .i64 (h3 : Int), o] 145, Buf 7 s ((L.take h1 ++ [p] ++ L.drop h1).flatMap pgC)]) (fun s ρ' => SL s (L.length + 1)) ?_ (fun cut => ?_)
    · intro u ρ1 le1 su
      have hend : ∀ (x2 x3 : Nat), handC h1 h2 = x2 → handC h1 h3 = x3 → ∀ h, sepl [box b [.int .i64 mo, .int .i64 ta, u, .int .i64 ((h1 : Int) + 1), .int .i64 (x2 : Int), .int .i64 (x3 : Int), o] 145, Buf 7 u ((L.take h1 ++ [p] ++ L.drop h1).flatMap pgC)] h → RgR b (comesP ⟨mo, ta, L, h1, h2, h3⟩ p) o (.tuple #[]) h := by
        intro x2 x3 e2 e3 h q
        refine ⟨u, ⟨rfl, by unfold comesP; rw [if_neg h0]; dsimp only; rw [hln]; exact su⟩, ?_⟩
        unfold comesP
        rw [if_neg h0]
        unfold RgO
        dsimp only
        rw [hc1, e2, e3, show ((h1 + 1 : Nat) : Int) = (h1 : Int) + 1 by push_cast; rfl]
        exact q
      by_cases c2 : h1 ≤ h2
      · have e2 : handC h1 h2 = h2 + 1 := by unfold handC; rw [if_pos c2]
        by_cases c3 : h1 ≤ h3
        · have e3 : handC h1 h3 = h3 + 1 := by unfold handC; rw [if_pos c3]
          refine W.seq (W.region (WL.mv rfl rfl (WL.nc rfl rfl (WL.faN (T := Ty) (off' := 0) rfl rfl rfl rfl rfl rfl rfl (WL.faN (T := Ty) (off' := 3) rfl rfl rfl rfl rfl rfl rfl (WL.ldN (T := Ty) (j := 0) rfl rfl rfl rfl rfl rfl (WL.addK rfl rfl rfl (wrap_i64 ⟨by omega, by omega⟩) (WL.nc rfl rfl (WL.faN (T := Ty) (off' := 0) rfl rfl rfl rfl rfl rfl rfl (WL.faN (T := Ty) (off' := 3) rfl rfl rfl rfl rfl rfl rfl ?_))))))))))
          refine WL.stF (T := Ty) (j := 0) rfl rfl rfl rfl rfl rfl rfl (by repeat' constructor) (by repeat' constructor) ?_
          refine WL.nil (W.seq (W.seq (W.region (WL.mv rfl rfl (WL.nc rfl rfl (WL.faN (T := Ty) (off' := 0) rfl rfl rfl rfl rfl rfl rfl (WL.faN (T := Ty) (off' := 4) rfl rfl rfl rfl rfl rfl rfl (WL.ldN (T := Ty) (j := 0) rfl rfl rfl rfl rfl rfl (WL.mv rfl rfl (WL.geq rfl rfl rfl (WL.nil (W.condpT rfl (by omega) (W.region ?_)))))))))))))
          refine WL.mv rfl rfl (WL.nc rfl rfl (WL.faN (T := Ty) (off' := 0) rfl rfl rfl rfl rfl rfl rfl (WL.faN (T := Ty) (off' := 4) rfl rfl rfl rfl rfl rfl rfl (WL.ldN (T := Ty) (j := 0) rfl rfl rfl rfl rfl rfl (WL.addK rfl rfl rfl (wrap_i64 ⟨by omega, by omega⟩) (WL.nc rfl rfl (WL.faN (T := Ty) (off' := 0) rfl rfl rfl rfl rfl rfl rfl (WL.faN (T := Ty) (off' := 4) rfl rfl rfl rfl rfl rfl rfl ?_))))))))
          refine WL.stF (T := Ty) (j := 0) rfl rfl rfl rfl rfl rfl rfl (by repeat' constructor) (by repeat' constructor) ?_
          refine WL.nil (W.seq (W.region (WL.mv rfl rfl (WL.nc rfl rfl (WL.faN (T := Ty) (off' := 0) rfl rfl rfl rfl rfl rfl rfl (WL.faN (T := Ty) (off' := 5) rfl rfl rfl rfl rfl rfl rfl (WL.ldN (T := Ty) (j := 0) rfl rfl rfl rfl rfl rfl (WL.mv rfl rfl (WL.geq rfl rfl rfl (WL.nil (W.condpT rfl (by omega) (W.region (WL.mv rfl rfl ?_)))))))))))))
          refine WL.nc rfl rfl (WL.faN (T := Ty) (off' := 0) rfl rfl rfl rfl rfl rfl rfl (WL.faN (T := Ty) (off' := 5) rfl rfl rfl rfl rfl rfl rfl (WL.ldN (T := Ty) (j := 0) rfl rfl rfl rfl rfl rfl (WL.addK rfl rfl rfl (wrap_i64 ⟨by omega, by omega⟩) (WL.nc rfl rfl (WL.faN (T := Ty) (off' := 0) rfl rfl rfl rfl rfl rfl rfl (WL.faN (T := Ty) (off' := 5) rfl rfl rfl rfl rfl rfl rfl ?_)))))))
          refine WL.stF (T := Ty) (j := 0) rfl rfl rfl rfl rfl rfl rfl (by repeat' constructor) (by repeat' constructor) ?_
          refine WL.nil ?_
          exact W.fit (Hs' := [box b _ _, Buf 7 u _]) (by (repeat' first | exact Sel.nil | apply Sel.k | exact Pick.h | apply Pick.t)) (W.stop0 rfl (fun h q => hend (h2 + 1) (h3 + 1) e2 e3 h q))
        · have e3 : handC h1 h3 = h3 := by unfold handC; rw [if_neg c3]
          refine W.seq (W.region (WL.mv rfl rfl (WL.nc rfl rfl (WL.faN (T := Ty) (off' := 0) rfl rfl rfl rfl rfl rfl rfl (WL.faN (T := Ty) (off' := 3) rfl rfl rfl rfl rfl rfl rfl (WL.ldN (T := Ty) (j := 0) rfl rfl rfl rfl rfl rfl (WL.addK rfl rfl rfl (wrap_i64 ⟨by omega, by omega⟩) (WL.nc rfl rfl (WL.faN (T := Ty) (off' := 0) rfl rfl rfl rfl rfl rfl rfl (WL.faN (T := Ty) (off' := 3) rfl rfl rfl rfl rfl rfl rfl ?_))))))))))
          refine WL.stF (T := Ty) (j := 0) rfl rfl rfl rfl rfl rfl rfl (by repeat' constructor) (by repeat' constructor) ?_
          refine WL.nil (W.seq (W.seq (W.region (WL.mv rfl rfl (WL.nc rfl rfl (WL.faN (T := Ty) (off' := 0) rfl rfl rfl rfl rfl rfl rfl (WL.faN (T := Ty) (off' := 4) rfl rfl rfl rfl rfl rfl rfl (WL.ldN (T := Ty) (j := 0) rfl rfl rfl rfl rfl rfl (WL.mv rfl rfl (WL.geq rfl rfl rfl (WL.nil (W.condpT rfl (by omega) (W.region ?_)))))))))))))
          refine WL.mv rfl rfl (WL.nc rfl rfl (WL.faN (T := Ty) (off' := 0) rfl rfl rfl rfl rfl rfl rfl (WL.faN (T := Ty) (off' := 4) rfl rfl rfl rfl rfl rfl rfl (WL.ldN (T := Ty) (j := 0) rfl rfl rfl rfl rfl rfl (WL.addK rfl rfl rfl (wrap_i64 ⟨by omega, by omega⟩) (WL.nc rfl rfl (WL.faN (T := Ty) (off' := 0) rfl rfl rfl rfl rfl rfl rfl (WL.faN (T := Ty) (off' := 4) rfl rfl rfl rfl rfl rfl rfl ?_))))))))
          refine WL.stF (T := Ty) (j := 0) rfl rfl rfl rfl rfl rfl rfl (by repeat' constructor) (by repeat' constructor) ?_
          refine WL.nil (W.seq (W.region (WL.mv rfl rfl (WL.nc rfl rfl (WL.faN (T := Ty) (off' := 0) rfl rfl rfl rfl rfl rfl rfl (WL.faN (T := Ty) (off' := 5) rfl rfl rfl rfl rfl rfl rfl (WL.ldN (T := Ty) (j := 0) rfl rfl rfl rfl rfl rfl (WL.mv rfl rfl (WL.geq rfl rfl rfl (WL.nil (W.condpF rfl (by omega) (W.skip ?_))))))))))))
          exact W.fit (Hs' := [box b _ _, Buf 7 u _]) (by (repeat' first | exact Sel.nil | apply Sel.k | exact Pick.h | apply Pick.t)) (W.stop0 rfl (fun h q => hend (h2 + 1) h3 e2 e3 h q))
      · have e2 : handC h1 h2 = h2 := by unfold handC; rw [if_neg c2]
        by_cases c3 : h1 ≤ h3
        · have e3 : handC h1 h3 = h3 + 1 := by unfold handC; rw [if_pos c3]
          refine W.seq (W.region (WL.mv rfl rfl (WL.nc rfl rfl (WL.faN (T := Ty) (off' := 0) rfl rfl rfl rfl rfl rfl rfl (WL.faN (T := Ty) (off' := 3) rfl rfl rfl rfl rfl rfl rfl (WL.ldN (T := Ty) (j := 0) rfl rfl rfl rfl rfl rfl (WL.addK rfl rfl rfl (wrap_i64 ⟨by omega, by omega⟩) (WL.nc rfl rfl (WL.faN (T := Ty) (off' := 0) rfl rfl rfl rfl rfl rfl rfl (WL.faN (T := Ty) (off' := 3) rfl rfl rfl rfl rfl rfl rfl ?_))))))))))
          refine WL.stF (T := Ty) (j := 0) rfl rfl rfl rfl rfl rfl rfl (by repeat' constructor) (by repeat' constructor) ?_
          refine WL.nil (W.seq (W.seq (W.region (WL.mv rfl rfl (WL.nc rfl rfl (WL.faN (T := Ty) (off' := 0) rfl rfl rfl rfl rfl rfl rfl (WL.faN (T := Ty) (off' := 4) rfl rfl rfl rfl rfl rfl rfl (WL.ldN (T := Ty) (j := 0) rfl rfl rfl rfl rfl rfl (WL.mv rfl rfl (WL.geq rfl rfl rfl (WL.nil (W.condpF rfl (by omega) (W.skip ?_)))))))))))))
          refine W.seq (W.region (WL.mv rfl rfl (WL.nc rfl rfl (WL.faN (T := Ty) (off' := 0) rfl rfl rfl rfl rfl rfl rfl (WL.faN (T := Ty) (off' := 5) rfl rfl rfl rfl rfl rfl rfl (WL.ldN (T := Ty) (j := 0) rfl rfl rfl rfl rfl rfl (WL.mv rfl rfl (WL.geq rfl rfl rfl (WL.nil (W.condpT rfl (by omega) (W.region (WL.mv rfl rfl (WL.nc rfl rfl ?_)))))))))))))
          refine WL.faN (T := Ty) (off' := 0) rfl rfl rfl rfl rfl rfl rfl (WL.faN (T := Ty) (off' := 5) rfl rfl rfl rfl rfl rfl rfl (WL.ldN (T := Ty) (j := 0) rfl rfl rfl rfl rfl rfl (WL.addK rfl rfl rfl (wrap_i64 ⟨by omega, by omega⟩) (WL.nc rfl rfl (WL.faN (T := Ty) (off' := 0) rfl rfl rfl rfl rfl rfl rfl (WL.faN (T := Ty) (off' := 5) rfl rfl rfl rfl rfl rfl rfl ?_))))))
          refine WL.stF (T := Ty) (j := 0) rfl rfl rfl rfl rfl rfl rfl (by repeat' constructor) (by repeat' constructor) ?_
          refine WL.nil ?_
          exact W.fit (Hs' := [box b _ _, Buf 7 u _]) (by (repeat' first | exact Sel.nil | apply Sel.k | exact Pick.h | apply Pick.t)) (W.stop0 rfl (fun h q => hend h2 (h3 + 1) e2 e3 h q))
        · have e3 : handC h1 h3 = h3 := by unfold handC; rw [if_neg c3]
          refine W.seq (W.region (WL.mv rfl rfl (WL.nc rfl rfl (WL.faN (T := Ty) (off' := 0) rfl rfl rfl rfl rfl rfl rfl (WL.faN (T := Ty) (off' := 3) rfl rfl rfl rfl rfl rfl rfl (WL.ldN (T := Ty) (j := 0) rfl rfl rfl rfl rfl rfl (WL.addK rfl rfl rfl (wrap_i64 ⟨by omega, by omega⟩) (WL.nc rfl rfl (WL.faN (T := Ty) (off' := 0) rfl rfl rfl rfl rfl rfl rfl (WL.faN (T := Ty) (off' := 3) rfl rfl rfl rfl rfl rfl rfl ?_))))))))))
          refine WL.stF (T := Ty) (j := 0) rfl rfl rfl rfl rfl rfl rfl (by repeat' constructor) (by repeat' constructor) ?_
          refine WL.nil (W.seq (W.seq (W.region (WL.mv rfl rfl (WL.nc rfl rfl (WL.faN (T := Ty) (off' := 0) rfl rfl rfl rfl rfl rfl rfl (WL.faN (T := Ty) (off' := 4) rfl rfl rfl rfl rfl rfl rfl (WL.ldN (T := Ty) (j := 0) rfl rfl rfl rfl rfl rfl (WL.mv rfl rfl (WL.geq rfl rfl rfl (WL.nil (W.condpF rfl (by omega) (W.skip ?_)))))))))))))
          refine W.seq (W.region (WL.mv rfl rfl (WL.nc rfl rfl (WL.faN (T := Ty) (off' := 0) rfl rfl rfl rfl rfl rfl rfl (WL.faN (T := Ty) (off' := 5) rfl rfl rfl rfl rfl rfl rfl (WL.ldN (T := Ty) (j := 0) rfl rfl rfl rfl rfl rfl (WL.mv rfl rfl (WL.geq rfl rfl rfl (WL.nil (W.condpF rfl (by omega) (W.skip ?_)))))))))))
          exact W.fit (Hs' := [box b _ _, Buf 7 u _]) (by (repeat' first | exact Sel.nil | apply Sel.k | exact Pick.h | apply Pick.t)) (W.stop0 rfl (fun h q => hend h2 h3 e2 e3 h q))
    · refine W.drawA 21 rfl (fun σ0 hσ0 dσ0 => ?_)
      have fσ0_0 := rb_at 0 rfl hσ0 dσ0
      have fσ0_1 := rb_at 1 rfl hσ0 dσ0
      have fσ0_2 := ros_at 2 rfl hσ0 dσ0
      refine WD.takeL 0 rfl (by decide +kernel) (WL.mv rfl rfl (WL.nilT (WD.takeL 2 rfl (by decide +kernel) (WL.mv rfl rfl (WL.nilT (WD.takeL 3 rfl (by decide +kernel) (WL.nc rfl rfl (WL.nilT (WD.takeL 4 rfl (by decide +kernel) (WL.faN (T := Ty) (off' := 0) rfl rfl rfl rfl rfl rfl rfl (WL.nilT (WD.takeL 5 rfl (by decide +kernel) (WL.faN (T := Ty) (off' := 2) rfl rfl rfl rfl rfl rfl rfl ?_)))))))))))))
      refine WL.nilT (WD.takeL 6 rfl (by decide +kernel) ?_)
      refine WL.ldBN (T := Ty) rfl rfl rfl rfl (by first | assumption | exact RB.wide (by assumption) | exact In.rb (by assumption)) rfl ?_
      refine WL.nilT (WD.takeL 7 rfl (by decide +kernel) (WL.mv rfl rfl (WL.nilT (WD.takeL 8 rfl (by decide +kernel) ?_))))
      refine WL.slTf (T := Ty) rfl rfl rfl rfl rfl rfl (by first | assumption | exact ROs.wide (by assumption)) (by intro a; rfl) (by first | assumption | omega | (simp; omega)) (fun u1 hu1 ru1 => ?_)
      refine WL.nilT (WD.takeL 10 rfl (by decide +kernel) ?_)
      refine WL.ldABF (T := Ty) rfl rfl rfl rfl (by first | assumption | exact RB.wide (by assumption) | exact In.rb (by assumption)) rfl (by repeat' constructor) ?_
      refine WL.nilT (WD.takeL 13 rfl (by decide +kernel) (WL.mv rfl rfl (WL.nilT (WD.takeL 14 rfl (by decide +kernel) (WL.nc rfl rfl (WL.nilT (WD.takeL 15 rfl (by decide +kernel) (WL.faN (T := Ty) (off' := 0) rfl rfl rfl rfl rfl rfl rfl (WL.nilT (WD.takeL 16 rfl (by decide +kernel) (WL.faN (T := Ty) (off' := 2) rfl rfl rfl rfl rfl rfl rfl (WL.nilT (WD.takeL 17 rfl (by decide +kernel) ?_)))))))))))))
      refine WL.ldBN (T := Ty) rfl rfl rfl rfl (by first | assumption | exact RB.wide (by assumption) | exact In.rb (by assumption)) rfl ?_
      refine WL.nilT (WD.takeL 18 rfl (by decide +kernel) (WL.mv rfl rfl (WL.nilT (WD.takeL 19 rfl (by decide +kernel) ?_))))
      refine WL.slDf (T := Ty) rfl rfl rfl rfl rfl rfl (by first | assumption | exact ROs.wide (by assumption)) (by intro a; rfl) (by first | assumption | omega | (simp; omega)) (fun u2 hu2 ru2 => ?_)
      refine WL.nilT ?_
      refine WD.twoL 1 11 rfl rfl (by decide +kernel) ?_ ?_
      · refine WL.bsC (T := Ty) rfl rfl rfl rfl rfl rfl rfl (by repeat' first | exact CO.nil | apply CO.one (by first | rfl | exact SL.one (by assumption)) | apply CO.agg) rfl (by repeat' constructor) (fun u3 hu3 => ?_)
        refine WL.nilS ?_
        refine WD.twoL 9 11 rfl rfl (by decide +kernel) ?_ ?_
        · refine WL.ap (T := Ty) (i := 1) (n := 0) rfl rfl rfl rfl rfl rfl rfl rfl (by first | exact .ro (by assumption) | exact .ro (ROs.wide (by assumption)) | exact .eqJ 0 rfl (by assumption) | exact .own 0 rfl | exact .own 1 rfl | exact .own 2 rfl | exact .own 3 rfl | exact .own 4 rfl | exact .own 5 rfl) (by first | assumption | exact ROs.slm (by assumption)) rfl (by assumption) (by assumption) (by first | omega | (simp; omega) | (simp only [List.length_drop, List.length_take]; omega)) (by unfold maxLen; first | omega | (simp only [List.length_drop, List.length_take]; omega)) (fun v' => (by repeat' constructor)) (fun u4 hu4 => ?_)
          refine WL.nilE (WD.oneL 11 rfl (by decide +kernel) ?_)
          refine WL.bsC (T := Ty) rfl rfl rfl rfl rfl rfl rfl (by repeat' first | exact CO.nil | apply CO.one (by first | rfl | exact SL.one (by assumption)) | apply CO.agg) rfl (by repeat' constructor) (fun u5 hu5 => ?_)
          refine WL.nilH hσ0 (fun σ1 hσ1 dσ1 mσ1 => ?_)
          have fσ0_0 := fσ0_0.mono mσ1
          have fσ0_1 := fσ0_1.mono mσ1
          have fσ0_2 := fσ0_2.mono mσ1
          have ru1 := ru1.mono mσ1
          have ru2 := ru2.mono mσ1
          have fσ1_0 := ros_at 0 rfl hσ1 dσ1
          refine WD.oneL 12 rfl (by decide +kernel) ?_
          refine WL.ap (T := Ty) (i := 1) (m := 1) rfl rfl rfl rfl rfl rfl rfl rfl (by first | exact .ro (by assumption) | exact .ro (ROs.wide (by assumption)) | exact .eqJ 0 rfl (by assumption) | exact .own 0 rfl | exact .own 1 rfl | exact .own 2 rfl | exact .own 3 rfl | exact .own 4 rfl | exact .own 5 rfl) (by first | assumption | exact ROs.slm (by assumption)) (by assumption) (by rfl) (AO.all (by repeat' first | exact AO.nil | apply AO.cons (by first | rfl | exact SL.one (by assumption)))) (by first | omega | (simp; omega) | (simp only [List.length_drop, List.length_take]; omega)) (by unfold maxLen; first | omega | (simp only [List.length_drop, List.length_take]; omega)) (fun v' => (by repeat' constructor)) (fun u6 hu6 => ?_)
          refine WL.nilE (WD.oneL 20 rfl (by decide +kernel) ?_)
          refine WL.ap (T := Ty) (i := 1) rfl rfl rfl rfl rfl rfl rfl rfl (by first | exact .ro (by assumption) | exact .ro (ROs.wide (by assumption)) | exact .eqJ 0 rfl (by assumption) | exact .own 0 rfl | exact .own 1 rfl | exact .own 2 rfl | exact .own 3 rfl | exact .own 4 rfl | exact .own 5 rfl) (by first | assumption | exact ROs.slm (by assumption)) (by assumption) (by assumption) (by assumption) (by first | omega | (simp; omega) | (simp only [List.length_drop, List.length_take]; omega)) (by unfold maxLen; first | omega | (simp only [List.length_drop, List.length_take]; omega)) (fun v' => (by repeat' constructor)) (fun u7 hu7 => ?_)
          refine WL.nilE ?_
          refine WD.lastG hσ1 (by decide +kernel) (by repeat' constructor) rfl (by repeat' constructor) ?_
          refine WL.nc rfl rfl (WL.faN (T := Ty) (off' := 0) rfl rfl rfl rfl rfl rfl rfl (WL.faN (T := Ty) (off' := 2) rfl rfl rfl rfl rfl rfl rfl ?_))
          refine WL.stF (T := Ty) (j := 2) rfl rfl rfl rfl (SL.one (by assumption)) rfl rfl (by repeat' constructor) (by repeat' constructor) ?_
          refine WL.nil ?_
          rw [hfl]
          refine W.fit (Hs' := [box b _ _, Buf 7 _ ((L.take h1 ++ [p] ++ L.drop h1).flatMap pgC)]) (by (repeat' first | exact Sel.nil | apply Sel.k | exact Pick.h | apply Pick.t)) (W.sub ?_ (cut _ _ (Le.refl _) (by rw [← hsz]; first | assumption | (rw [← Nat.zero_add (L.take h1).length]; assumption))))
          exact ⟨rfl, rfl, trivial⟩
        · refine WL.bsC (T := Ty) rfl rfl rfl rfl rfl rfl rfl (by repeat' first | exact CO.nil | apply CO.one (by first | rfl | exact SL.one (by assumption)) | apply CO.agg) rfl (by repeat' constructor) (fun u4 hu4 => ?_)
          refine WL.nilH hσ0 (fun σ1 hσ1 dσ1 mσ1 => ?_)
          have fσ0_0 := fσ0_0.mono mσ1
          have fσ0_1 := fσ0_1.mono mσ1
          have fσ0_2 := fσ0_2.mono mσ1
          have ru1 := ru1.mono mσ1
          have ru2 := ru2.mono mσ1
          have fσ1_0 := ros_at 0 rfl hσ1 dσ1
          refine WD.oneL 9 rfl (by decide +kernel) ?_
          refine WL.ap (T := Ty) (i := 1) (n := 0) rfl rfl rfl rfl rfl rfl rfl rfl (by first | exact .ro (by assumption) | exact .ro (ROs.wide (by assumption)) | exact .eqJ 0 rfl (by assumption) | exact .own 0 rfl | exact .own 1 rfl | exact .own 2 rfl | exact .own 3 rfl | exact .own 4 rfl | exact .own 5 rfl) (by first | assumption | exact ROs.slm (by assumption)) rfl (by assumption) (by assumption) (by first | omega | (simp; omega) | (simp only [List.length_drop, List.length_take]; omega)) (by unfold maxLen; first | omega | (simp only [List.length_drop, List.length_take]; omega)) (fun v' => (by repeat' constructor)) (fun u5 hu5 => ?_)
          refine WL.nilE (WD.oneL 12 rfl (by decide +kernel) ?_)
          refine WL.ap (T := Ty) (i := 1) (m := 1) rfl rfl rfl rfl rfl rfl rfl rfl (by first | exact .ro (by assumption) | exact .ro (ROs.wide (by assumption)) | exact .eqJ 0 rfl (by assumption) | exact .own 0 rfl | exact .own 1 rfl | exact .own 2 rfl | exact .own 3 rfl | exact .own 4 rfl | exact .own 5 rfl) (by first | assumption | exact ROs.slm (by assumption)) (by assumption) (by rfl) (AO.all (by repeat' first | exact AO.nil | apply AO.cons (by first | rfl | exact SL.one (by assumption)))) (by first | omega | (simp; omega) | (simp only [List.length_drop, List.length_take]; omega)) (by unfold maxLen; first | omega | (simp only [List.length_drop, List.length_take]; omega)) (fun v' => (by repeat' constructor)) (fun u6 hu6 => ?_)
          refine WL.nilE (WD.oneL 20 rfl (by decide +kernel) ?_)
          refine WL.ap (T := Ty) (i := 1) rfl rfl rfl rfl rfl rfl rfl rfl (by first | exact .ro (by assumption) | exact .ro (ROs.wide (by assumption)) | exact .eqJ 0 rfl (by assumption) | exact .own 0 rfl | exact .own 1 rfl | exact .own 2 rfl | exact .own 3 rfl | exact .own 4 rfl | exact .own 5 rfl) (by first | assumption | exact ROs.slm (by assumption)) (by assumption) (by assumption) (by assumption) (by first | omega | (simp; omega) | (simp only [List.length_drop, List.length_take]; omega)) (by unfold maxLen; first | omega | (simp only [List.length_drop, List.length_take]; omega)) (fun v' => (by repeat' constructor)) (fun u7 hu7 => ?_)
          refine WL.nilE ?_
          refine WD.lastG hσ1 (by decide +kernel) (by repeat' constructor) rfl (by repeat' constructor) ?_
          refine WL.nc rfl rfl (WL.faN (T := Ty) (off' := 0) rfl rfl rfl rfl rfl rfl rfl (WL.faN (T := Ty) (off' := 2) rfl rfl rfl rfl rfl rfl rfl ?_))
          refine WL.stF (T := Ty) (j := 2) rfl rfl rfl rfl (SL.one (by assumption)) rfl rfl (by repeat' constructor) (by repeat' constructor) ?_
          refine WL.nil ?_
          rw [hfl]
          refine W.fit (Hs' := [box b _ _, Buf 7 _ ((L.take h1 ++ [p] ++ L.drop h1).flatMap pgC)]) (by (repeat' first | exact Sel.nil | apply Sel.k | exact Pick.h | apply Pick.t)) (W.sub ?_ (cut _ _ (Le.refl _) (by rw [← hsz]; first | assumption | (rw [← Nat.zero_add (L.take h1).length]; assumption))))
          exact ⟨rfl, rfl, trivial⟩
      · refine WL.bsC (T := Ty) rfl rfl rfl rfl rfl rfl rfl (by repeat' first | exact CO.nil | apply CO.one (by first | rfl | exact SL.one (by assumption)) | apply CO.agg) rfl (by repeat' constructor) (fun u3 hu3 => ?_)
        refine WL.nilH hσ0 (fun σ1 hσ1 dσ1 mσ1 => ?_)
        have fσ0_0 := fσ0_0.mono mσ1
        have fσ0_1 := fσ0_1.mono mσ1
        have fσ0_2 := fσ0_2.mono mσ1
        have ru1 := ru1.mono mσ1
        have ru2 := ru2.mono mσ1
        have fσ1_0 := ros_at 0 rfl hσ1 dσ1
        refine WD.oneL 1 rfl (by decide +kernel) ?_
        refine WL.bsC (T := Ty) rfl rfl rfl rfl rfl rfl rfl (by repeat' first | exact CO.nil | apply CO.one (by first | rfl | exact SL.one (by assumption)) | apply CO.agg) rfl (by repeat' constructor) (fun u4 hu4 => ?_)
        refine WL.nilS (WD.oneL 9 rfl (by decide +kernel) ?_)
        refine WL.ap (T := Ty) (i := 1) (n := 0) rfl rfl rfl rfl rfl rfl rfl rfl (by first | exact .ro (by assumption) | exact .ro (ROs.wide (by assumption)) | exact .eqJ 0 rfl (by assumption) | exact .own 0 rfl | exact .own 1 rfl | exact .own 2 rfl | exact .own 3 rfl | exact .own 4 rfl | exact .own 5 rfl) (by first | assumption | exact ROs.slm (by assumption)) rfl (by assumption) (by assumption) (by first | omega | (simp; omega) | (simp only [List.length_drop, List.length_take]; omega)) (by unfold maxLen; first | omega | (simp only [List.length_drop, List.length_take]; omega)) (fun v' => (by repeat' constructor)) (fun u5 hu5 => ?_)
        refine WL.nilE (WD.oneL 12 rfl (by decide +kernel) ?_)
        refine WL.ap (T := Ty) (i := 1) (m := 1) rfl rfl rfl rfl rfl rfl rfl rfl (by first | exact .ro (by assumption) | exact .ro (ROs.wide (by assumption)) | exact .eqJ 0 rfl (by assumption) | exact .own 0 rfl | exact .own 1 rfl | exact .own 2 rfl | exact .own 3 rfl | exact .own 4 rfl | exact .own 5 rfl) (by first | assumption | exact ROs.slm (by assumption)) (by assumption) (by rfl) (AO.all (by repeat' first | exact AO.nil | apply AO.cons (by first | rfl | exact SL.one (by assumption)))) (by first | omega | (simp; omega) | (simp only [List.length_drop, List.length_take]; omega)) (by unfold maxLen; first | omega | (simp only [List.length_drop, List.length_take]; omega)) (fun v' => (by repeat' constructor)) (fun u6 hu6 => ?_)
        refine WL.nilE (WD.oneL 20 rfl (by decide +kernel) ?_)
        refine WL.ap (T := Ty) (i := 1) rfl rfl rfl rfl rfl rfl rfl rfl (by first | exact .ro (by assumption) | exact .ro (ROs.wide (by assumption)) | exact .eqJ 0 rfl (by assumption) | exact .own 0 rfl | exact .own 1 rfl | exact .own 2 rfl | exact .own 3 rfl | exact .own 4 rfl | exact .own 5 rfl) (by first | assumption | exact ROs.slm (by assumption)) (by assumption) (by assumption) (by assumption) (by first | omega | (simp; omega) | (simp only [List.length_drop, List.length_take]; omega)) (by unfold maxLen; first | omega | (simp only [List.length_drop, List.length_take]; omega)) (fun v' => (by repeat' constructor)) (fun u7 hu7 => ?_)
        refine WL.nilE ?_
        refine WD.lastG hσ1 (by decide +kernel) (by repeat' constructor) rfl (by repeat' constructor) ?_
        refine WL.nc rfl rfl (WL.faN (T := Ty) (off' := 0) rfl rfl rfl rfl rfl rfl rfl (WL.faN (T := Ty) (off' := 2) rfl rfl rfl rfl rfl rfl rfl ?_))
        refine WL.stF (T := Ty) (j := 2) rfl rfl rfl rfl (SL.one (by assumption)) rfl rfl (by repeat' constructor) (by repeat' constructor) ?_
        refine WL.nil ?_
        rw [hfl]
        refine W.fit (Hs' := [box b _ _, Buf 7 _ ((L.take h1 ++ [p] ++ L.drop h1).flatMap pgC)]) (by (repeat' first | exact Sel.nil | apply Sel.k | exact Pick.h | apply Pick.t)) (W.sub ?_ (cut _ _ (Le.refl _) (by rw [← hsz]; first | assumption | (rw [← Nat.zero_add (L.take h1).length]; assumption))))
        exact ⟨rfl, rfl, trivial⟩
end Go.Proofs.Ytbebhmdjnneimaa
/- The document's ring: the hand Hot turns, the hand Test turns, the ring cools. -/
set_option linter.unusedSimpArgs false
set_option linter.unusedVariables false
set_option maxRecDepth 20000
set_option maxHeartbeats 4000000
namespace Go.Proofs.Ytbebhmdjnneimaa
open Go
theorem goes_pages (c : Clk) (i : Nat) : (goesP c i).pages = c.pages.take i ++ c.pages.drop (i + 1) := rfl
attribute [local irreducible] W WL Fn Buf ROs SL eptr box Rd Src bndOK WD RB Reads In Own fndK cnt handG handC hotL hotT testL testT coolL goesP
theorem hotr_c (ρ : Hp) (b : Nat) (c : Clk) (v o : Value) (n : Nat) (c' : Clk) (hG : RefG c) (sv : SL v c.pages.length) (hh : hotT n c = some c') :
    Fn Try.prog 120 #[pt b 0] ρ [box b [.int .i64 c.most, .int .i64 c.target, v, .int .i64 (c.hot : Int), .int .i64 (c.cold : Int), .int .i64 (c.test : Int), o] 145, Buf 7 v (c.pages.flatMap pgC)] (RgR b c' o) := by
  refine in120 rfl rfl ?_
  refine W.block ?_
  refine W.loopR (σ := Nat × Clk × Value) (fun s => [(0, pt b 0)])
    (fun s => [box b [.int .i64 s.2.1.most, .int .i64 s.2.1.target, s.2.2, .int .i64 (s.2.1.hot : Int), .int .i64 (s.2.1.cold : Int), .int .i64 (s.2.1.test : Int), o] 145, Buf 7 s.2.2 (s.2.1.pages.flatMap pgC)])
    (fun s ρ' => hotT s.1 s.2.1 = some c' ∧ RefG s.2.1 ∧ SL s.2.2 s.2.1.pages.length) (fun s => s.1)
    (n, c, v) ⟨rfl, trivial⟩ rfl ⟨hh, hG, sv⟩ ?_
  clear hh hG sv c v n
  rintro ⟨n, c, v⟩ ρ1 le1 ⟨hh, hG, sv⟩ next
  dsimp only at hh hG sv next ⊢
  have hln := hG.B.ln
  have hc1 := cnt_le isHot c.pages
  have l1 := pgs_cells c.pages
  unfold hotT at hh
  by_cases h0 : cnt isHot c.pages = 0
  · rw [if_pos h0] at hh
    cases hh
    refine W.seq (W.seq (W.region (WL.mv rfl rfl (WL.nc rfl rfl (WL.faN (T := Ty) (off' := 0) rfl rfl rfl rfl rfl rfl rfl ?_)))))
    refine WL.ldAF (T := Ty) (j := 0) rfl rfl rfl rfl rfl rfl (by repeat' constructor) ?_
    refine WL.callV rfl rfl (fun x p d => countr1_c _ _ _ _ _ _ _ _ (by first | assumption | exact ROs.wide (by assumption) | exact ROs.mono (by assumption) (eqh_at 0 rfl p d) | exact ros_at 0 rfl p d | exact ros_at 1 rfl p d | exact ros_at 2 rfl p d | exact ros_at 3 rfl p d | exact ros_at 4 rfl p d) (by first | assumption | omega)) ?_
    refine WL.gtr rfl rfl rfl (WL.nil (W.condpF rfl (by omega) (W.exit rfl ?_)))
    exact W.fit (Hs' := [box b _ _, Buf 7 v _]) (by (repeat' first | exact Sel.nil | apply Sel.k | exact Pick.h | apply Pick.t)) (W.stop0 rfl (fun h q => ⟨v, ⟨rfl, sv⟩, q⟩))
  · rw [if_neg h0] at hh
    have nx : ∀ (c2 : Clk) (v2 : Value) (m : Nat), m < n → cnt isHot c2.pages = cnt isHot c.pages → hotL m c2 = some c' → RefG c2 → SL v2 c2.pages.length → W Try.prog _ ρ1 (RgR b c' o) _ [(0, pt b 0)] [box b [.int .i64 c2.most, .int .i64 c2.target, v2, .int .i64 (c2.hot : Int), .int .i64 (c2.cold : Int), .int .i64 (c2.test : Int), o] 145, Buf 7 v2 (c2.pages.flatMap pgC)] :=
      fun c2 v2 m hm e1 e2 e3 e4 => next ⟨m, c2, v2⟩ ρ1 (Le.refl _) ⟨by unfold hotT; dsimp only; rw [if_neg (by rw [e1]; exact h0)]; exact e2, e3, e4⟩ hm
    clear next
    cases n with
    | zero => unfold hotL at hh; cases hh
    | succ n =>
      rw [hotL_s] at hh
      cases hp : c.pages[c.hot]? with
      | none => rw [hp] at hh; cases hh
      | some p =>
        rw [hp] at hh
        dsimp only at hh
        have hpl := (List.getElem?_eq_some_iff.1 hp).1
        have hrow : ((c.pages.flatMap pgC).drop (((c.hot : Nat) : Int).toNat * 7)).take 7 = pgC p := flat_row pg_len hp
        unfold pgC at hrow
        have b1 := hG.R.h1
        have b2 := hG.R.h2
        have b3 := hG.R.h3
        have hcc : (⟨c.most, c.target, c.pages, c.hot, c.cold, c.test⟩ : Clk) = c := rfl
        have hput : ∀ (q : Pg) (cs : List Value), pgC q = cs → (c.pages.flatMap pgC).take (((c.hot : Nat) : Int).toNat * 7) ++ cs ++ (c.pages.flatMap pgC).drop (((c.hot : Nat) : Int).toNat * 7 + cs.length) = (c.pages.set c.hot q).flatMap pgC := fun q cs e => by subst e; exact flat_put pg_len hpl
        have nS : ∀ q : Pg, SL v (c.pages.set c.hot q).length := fun q => by rw [List.length_set]; exact sv
        rcases hG.kind hp with k1 | k1 | k1
        · rw [if_neg (by omega)] at hh
          rw [k1] at hrow
          cases hr : p.ref with
          | true =>
            rw [if_pos ⟨k1, hr⟩, show ({ p with ref := false } : Pg) = { p with kind := 1, ref := false } by rw [← k1]] at hh
            rw [hr] at hrow
            have hx1 := hput { p with kind := 1, ref := false } [.int .i64 p.key.a, .int .i64 p.key.b, .int .i64 p.key.c, .int .i64 1, .bool false, .bool p.trial, .int .i64 p.pins] rfl
            have hcn : cnt isHot (c.pages.set c.hot { p with kind := 1, ref := false }) = cnt isHot c.pages := cnt_set_eq hp (by unfold isHot; rw [k1])
            refine W.seq (W.seq (W.region (WL.mv rfl rfl (WL.nc rfl rfl (WL.faN (T := Ty) (off' := 0) rfl rfl rfl rfl rfl rfl rfl ?_)))))
            refine WL.ldAF (T := Ty) (j := 0) rfl rfl rfl rfl rfl rfl (by repeat' constructor) ?_
            refine WL.callV rfl rfl (fun x p d => countr1_c _ _ _ _ _ _ _ _ (by first | assumption | exact ROs.wide (by assumption) | exact ROs.mono (by assumption) (eqh_at 0 rfl p d) | exact ros_at 0 rfl p d | exact ros_at 1 rfl p d | exact ros_at 2 rfl p d | exact ros_at 3 rfl p d | exact ros_at 4 rfl p d) (by first | assumption | omega)) ?_
            refine WL.gtr rfl rfl rfl (WL.nil (W.condpT rfl (by omega) (W.skip (W.block (W.seq (W.region (WL.mv rfl rfl (WL.nc rfl rfl (WL.faN (T := Ty) (off' := 0) rfl rfl rfl rfl rfl rfl rfl (WL.faN (T := Ty) (off' := 3) rfl rfl rfl rfl rfl rfl rfl (WL.ldN (T := Ty) (j := 0) rfl rfl rfl rfl rfl rfl (WL.as rfl rfl (WL.nil ?_)))))))))))))
            refine W.seq (W.region (WL.mv rfl rfl (WL.nc rfl rfl (WL.faN (T := Ty) (off' := 0) rfl rfl rfl rfl rfl rfl rfl (WL.faN (T := Ty) (off' := 2) rfl rfl rfl rfl rfl rfl rfl (WL.ldN (T := Ty) (j := 0) rfl rfl rfl rfl rfl rfl (WL.mv rfl rfl ?_)))))))
            refine WL.ix (T := Ty) rfl rfl rfl (by assumption) rfl rfl (by omega) (by first | omega | decide +kernel) ?_
            refine WL.ldAE (T := Ty) (j := 1) rfl rfl rfl rfl rfl (by assumption) rfl ?_
            refine WL.alF (T := Ty) rfl rfl (by repeat' constructor) (fun b4 => ?_)
            refine WL.stAO (T := Ty) (j := 0) rfl rfl rfl rfl (by repeat' first | exact AO.nil | apply AO.cons (by first | rfl | exact SL.one (by assumption))) rfl rfl (by repeat' constructor) (by repeat' constructor) ?_
            refine WL.nil (W.seq (W.region (WL.as rfl rfl (WL.nil (W.seq (W.block (W.seq (W.region (WL.faN (T := Ty) (off' := 3) rfl rfl rfl rfl rfl rfl rfl (WL.ldN (T := Ty) (j := 0) rfl rfl rfl rfl rfl rfl (WL.eql rfl rfl rfl (WL.mv rfl rfl (WL.gY rfl rfl ?_)))))))))))))
            refine WL.faN (T := Ty) (off' := 4) rfl rfl rfl rfl rfl rfl rfl (WL.gY rfl rfl (WL.ldN (T := Ty) (j := 0) rfl rfl rfl rfl rfl rfl (WL.pickT rfl rfl rfl (WL.as rfl rfl (WL.nil (W.condT rfl (W.region (WL.faN (T := Ty) (off' := 4) rfl rfl rfl rfl rfl rfl rfl ?_))))))))
            refine WL.stF (T := Ty) (j := 0) rfl rfl rfl rfl rfl rfl rfl (by repeat' constructor) (by repeat' constructor) ?_
            refine WL.nil (W.inBlock (W.seq ?_))
            refine W.drawA 7 rfl (fun σ0 hσ0 dσ0 => ?_)
            have fσ0_0 := rb_at 0 rfl hσ0 dσ0
            have fσ0_1 := rb_at 1 rfl hσ0 dσ0
            have fσ0_2 := ros_at 2 rfl hσ0 dσ0
            refine WD.takeL 0 rfl (by decide +kernel) (WL.mv rfl rfl (WL.nilT (WD.takeL 1 rfl (by decide +kernel) (WL.nc rfl rfl (WL.nilT (WD.takeL 2 rfl (by decide +kernel) (WL.faN (T := Ty) (off' := 0) rfl rfl rfl rfl rfl rfl rfl (WL.nilT (WD.takeL 3 rfl (by decide +kernel) (WL.faN (T := Ty) (off' := 2) rfl rfl rfl rfl rfl rfl rfl (WL.nilT (WD.takeL 4 rfl (by decide +kernel) ?_))))))))))))
            refine WL.ldBN (T := Ty) rfl rfl rfl rfl (by first | assumption | exact RB.wide (by assumption) | exact In.rb (by assumption)) rfl ?_
            refine WL.nilT (WD.takeL 5 rfl (by decide +kernel) (WL.mv rfl rfl (WL.nilT (WD.takeL 6 rfl (by decide +kernel) ?_))))
            refine WL.ldABF (T := Ty) rfl rfl rfl rfl (by first | assumption | exact RB.wide (by assumption) | exact In.rb (by assumption)) rfl (by repeat' constructor) ?_
            refine WL.nilT ?_
            refine WD.lastG hσ0 (by decide +kernel) (by repeat' constructor) rfl (by repeat' constructor) ?_
            refine WL.ix (T := Ty) rfl rfl rfl (by assumption) rfl rfl (by omega) (by first | omega | decide +kernel) ?_
            refine WL.stAE (T := Ty) (j := 2) rfl rfl rfl rfl (AO.all (by repeat' first | exact AO.nil | apply AO.cons (by first | rfl | exact SL.one (by assumption)))) rfl (by first | assumption | omega | (simp only [List.length_cons, List.length_nil]; omega)) (Nat.zero_lt_succ _) (by repeat' constructor) ?_
            refine WL.nil (W.seq (W.region (WL.mv rfl rfl (WL.mv rfl rfl (WL.mv rfl rfl ?_)))))
            refine WL.callV rfl rfl (fun x p d => onr_c _ _ _ _ _ _ _ _ _ _ _ (by first | assumption | exact RB.wide (by assumption) | exact In.rb (by assumption) | exact RB.mono (by assumption) (eqh_at 0 rfl p d) | exact (in_at 0 rfl p d).rb | exact (in_at 1 rfl p d).rb | exact (in_at 2 rfl p d).rb | exact (in_at 3 rfl p d).rb | exact (in_at 4 rfl p d).rb | exact (in_at 5 rfl p d).rb | exact (in_at 6 rfl p d).rb | exact (in_at 7 rfl p d).rb) (by assumption) (by first | assumption | omega) (by first | assumption | omega)) ?_
            refine WL.nc rfl rfl (WL.faN (T := Ty) (off' := 0) rfl rfl rfl rfl rfl rfl rfl (WL.faN (T := Ty) (off' := 3) rfl rfl rfl rfl rfl rfl rfl ?_))
            refine WL.stF (T := Ty) (j := 1) rfl rfl rfl rfl rfl rfl rfl (by repeat' constructor) (by repeat' constructor) ?_
            refine WL.nil (W.seq (W.region (WL.mv rfl rfl (WL.nil (W.condF rfl (W.skip (W.inBlock ?_)))))))
            rw [hx1]
            refine W.fit (Hs' := [box b _ _, Buf 7 v _]) (by (repeat' first | exact Sel.nil | apply Sel.k | exact Pick.h | apply Pick.t)) (W.sub ?_ (nx { setP c c.hot { p with kind := 1, ref := false } with hot := onP c c.hot } v n (Nat.lt_succ_self n) hcn hh (hG.setHot hp (badK_1 rfl) rfl) (nS _)))
            exact ⟨rfl, trivial⟩
          | false =>
            rw [if_neg (fun h => by rw [hr] at h; cases h.2), if_pos k1] at hh
            cases hh
            rw [hr] at hrow
            have hx1 := hput { p with kind := 2, ref := false, trial := false } [.int .i64 p.key.a, .int .i64 p.key.b, .int .i64 p.key.c, .int .i64 2, .bool false, .bool false, .int .i64 p.pins] rfl
            refine W.seq (W.seq (W.region (WL.mv rfl rfl (WL.nc rfl rfl (WL.faN (T := Ty) (off' := 0) rfl rfl rfl rfl rfl rfl rfl ?_)))))
            refine WL.ldAF (T := Ty) (j := 0) rfl rfl rfl rfl rfl rfl (by repeat' constructor) ?_
            refine WL.callV rfl rfl (fun x p d => countr1_c _ _ _ _ _ _ _ _ (by first | assumption | exact ROs.wide (by assumption) | exact ROs.mono (by assumption) (eqh_at 0 rfl p d) | exact ros_at 0 rfl p d | exact ros_at 1 rfl p d | exact ros_at 2 rfl p d | exact ros_at 3 rfl p d | exact ros_at 4 rfl p d) (by first | assumption | omega)) ?_
            refine WL.gtr rfl rfl rfl (WL.nil (W.condpT rfl (by omega) (W.skip (W.block (W.seq (W.region (WL.mv rfl rfl (WL.nc rfl rfl (WL.faN (T := Ty) (off' := 0) rfl rfl rfl rfl rfl rfl rfl (WL.faN (T := Ty) (off' := 3) rfl rfl rfl rfl rfl rfl rfl (WL.ldN (T := Ty) (j := 0) rfl rfl rfl rfl rfl rfl (WL.as rfl rfl (WL.nil ?_)))))))))))))
            refine W.seq (W.region (WL.mv rfl rfl (WL.nc rfl rfl (WL.faN (T := Ty) (off' := 0) rfl rfl rfl rfl rfl rfl rfl (WL.faN (T := Ty) (off' := 2) rfl rfl rfl rfl rfl rfl rfl (WL.ldN (T := Ty) (j := 0) rfl rfl rfl rfl rfl rfl (WL.mv rfl rfl ?_)))))))
            refine WL.ix (T := Ty) rfl rfl rfl (by assumption) rfl rfl (by omega) (by first | omega | decide +kernel) ?_
            refine WL.ldAE (T := Ty) (j := 1) rfl rfl rfl rfl rfl (by assumption) rfl ?_
            refine WL.alF (T := Ty) rfl rfl (by repeat' constructor) (fun b4 => ?_)
            refine WL.stAO (T := Ty) (j := 0) rfl rfl rfl rfl (by repeat' first | exact AO.nil | apply AO.cons (by first | rfl | exact SL.one (by assumption))) rfl rfl (by repeat' constructor) (by repeat' constructor) ?_
            refine WL.nil (W.seq (W.region (WL.as rfl rfl (WL.nil (W.seq (W.block (W.seq (W.region (WL.faN (T := Ty) (off' := 3) rfl rfl rfl rfl rfl rfl rfl (WL.ldN (T := Ty) (j := 0) rfl rfl rfl rfl rfl rfl (WL.eql rfl rfl rfl (WL.mv rfl rfl (WL.gY rfl rfl ?_)))))))))))))
            refine WL.faN (T := Ty) (off' := 4) rfl rfl rfl rfl rfl rfl rfl (WL.gY rfl rfl (WL.ldN (T := Ty) (j := 0) rfl rfl rfl rfl rfl rfl (WL.pickT rfl rfl rfl (WL.as rfl rfl (WL.nil (W.condF rfl (W.seq (W.region (WL.faN (T := Ty) (off' := 3) rfl rfl rfl rfl rfl rfl rfl (WL.ldN (T := Ty) (j := 0) rfl rfl rfl rfl rfl rfl (WL.eql rfl rfl rfl (WL.as rfl rfl (WL.nil ?_)))))))))))))
            refine W.condT rfl (W.seq (W.region (WL.faN (T := Ty) (off' := 3) rfl rfl rfl rfl rfl rfl rfl ?_)))
            refine WL.stF (T := Ty) (j := 0) rfl rfl rfl rfl rfl rfl rfl (by repeat' constructor) (by repeat' constructor) ?_
            refine WL.faN (T := Ty) (off' := 4) rfl rfl rfl rfl rfl rfl rfl ?_
            refine WL.stF (T := Ty) (j := 0) rfl rfl rfl rfl rfl rfl rfl (by repeat' constructor) (by repeat' constructor) ?_
            refine WL.faN (T := Ty) (off' := 5) rfl rfl rfl rfl rfl rfl rfl ?_
            refine WL.stF (T := Ty) (j := 0) rfl rfl rfl rfl rfl rfl rfl (by repeat' constructor) (by repeat' constructor) ?_
            refine WL.nil (W.region (WL.as rfl rfl (WL.nil (W.inBlock (W.seq ?_)))))
            refine W.drawA 7 rfl (fun σ0 hσ0 dσ0 => ?_)
            have fσ0_0 := rb_at 0 rfl hσ0 dσ0
            have fσ0_1 := rb_at 1 rfl hσ0 dσ0
            have fσ0_2 := ros_at 2 rfl hσ0 dσ0
            refine WD.takeL 0 rfl (by decide +kernel) (WL.mv rfl rfl (WL.nilT (WD.takeL 1 rfl (by decide +kernel) (WL.nc rfl rfl (WL.nilT (WD.takeL 2 rfl (by decide +kernel) (WL.faN (T := Ty) (off' := 0) rfl rfl rfl rfl rfl rfl rfl (WL.nilT (WD.takeL 3 rfl (by decide +kernel) (WL.faN (T := Ty) (off' := 2) rfl rfl rfl rfl rfl rfl rfl (WL.nilT (WD.takeL 4 rfl (by decide +kernel) ?_))))))))))))
            refine WL.ldBN (T := Ty) rfl rfl rfl rfl (by first | assumption | exact RB.wide (by assumption) | exact In.rb (by assumption)) rfl ?_
            refine WL.nilT (WD.takeL 5 rfl (by decide +kernel) (WL.mv rfl rfl (WL.nilT (WD.takeL 6 rfl (by decide +kernel) ?_))))
            refine WL.ldABF (T := Ty) rfl rfl rfl rfl (by first | assumption | exact RB.wide (by assumption) | exact In.rb (by assumption)) rfl (by repeat' constructor) ?_
            refine WL.nilT ?_
            refine WD.lastG hσ0 (by decide +kernel) (by repeat' constructor) rfl (by repeat' constructor) ?_
            refine WL.ix (T := Ty) rfl rfl rfl (by assumption) rfl rfl (by omega) (by first | omega | decide +kernel) ?_
            refine WL.stAE (T := Ty) (j := 2) rfl rfl rfl rfl (AO.all (by repeat' first | exact AO.nil | apply AO.cons (by first | rfl | exact SL.one (by assumption)))) rfl (by first | assumption | omega | (simp only [List.length_cons, List.length_nil]; omega)) (Nat.zero_lt_succ _) (by repeat' constructor) ?_
            refine WL.nil (W.seq (W.region (WL.mv rfl rfl (WL.mv rfl rfl (WL.mv rfl rfl ?_)))))
            refine WL.callV rfl rfl (fun x p d => onr_c _ _ _ _ _ _ _ _ _ _ _ (by first | assumption | exact RB.wide (by assumption) | exact In.rb (by assumption) | exact RB.mono (by assumption) (eqh_at 0 rfl p d) | exact (in_at 0 rfl p d).rb | exact (in_at 1 rfl p d).rb | exact (in_at 2 rfl p d).rb | exact (in_at 3 rfl p d).rb | exact (in_at 4 rfl p d).rb | exact (in_at 5 rfl p d).rb | exact (in_at 6 rfl p d).rb | exact (in_at 7 rfl p d).rb) (by assumption) (by first | assumption | omega) (by first | assumption | omega)) ?_
            refine WL.nc rfl rfl (WL.faN (T := Ty) (off' := 0) rfl rfl rfl rfl rfl rfl rfl (WL.faN (T := Ty) (off' := 3) rfl rfl rfl rfl rfl rfl rfl ?_))
            refine WL.stF (T := Ty) (j := 1) rfl rfl rfl rfl rfl rfl rfl (by repeat' constructor) (by repeat' constructor) ?_
            refine WL.nil (W.seq (W.region (WL.mv rfl rfl (WL.nil (W.condT rfl ?_)))))
            rw [hx1]
            exact W.fit (Hs' := [box b _ _, Buf 7 v _]) (by (repeat' first | exact Sel.nil | apply Sel.k | exact Pick.h | apply Pick.t)) (W.ret0 rfl (fun h q => ⟨v, ⟨rfl, nS _⟩, q⟩))
        · rw [if_neg (by omega), if_neg (fun h => by omega), if_neg (by omega), show ({ p with trial := false } : Pg) = { p with kind := 2, trial := false } by rw [← k1]] at hh
          rw [k1] at hrow
          have hx1 := hput { p with kind := 2, trial := false } [.int .i64 p.key.a, .int .i64 p.key.b, .int .i64 p.key.c, .int .i64 2, .bool p.ref, .bool false, .int .i64 p.pins] rfl
          have hcn : cnt isHot (c.pages.set c.hot { p with kind := 2, trial := false }) = cnt isHot c.pages := cnt_set_eq hp (by unfold isHot; rw [k1])
          refine W.seq (W.seq (W.region (WL.mv rfl rfl (WL.nc rfl rfl (WL.faN (T := Ty) (off' := 0) rfl rfl rfl rfl rfl rfl rfl ?_)))))
          refine WL.ldAF (T := Ty) (j := 0) rfl rfl rfl rfl rfl rfl (by repeat' constructor) ?_
          refine WL.callV rfl rfl (fun x p d => countr1_c _ _ _ _ _ _ _ _ (by first | assumption | exact ROs.wide (by assumption) | exact ROs.mono (by assumption) (eqh_at 0 rfl p d) | exact ros_at 0 rfl p d | exact ros_at 1 rfl p d | exact ros_at 2 rfl p d | exact ros_at 3 rfl p d | exact ros_at 4 rfl p d) (by first | assumption | omega)) ?_
          refine WL.gtr rfl rfl rfl (WL.nil (W.condpT rfl (by omega) (W.skip (W.block (W.seq (W.region (WL.mv rfl rfl (WL.nc rfl rfl (WL.faN (T := Ty) (off' := 0) rfl rfl rfl rfl rfl rfl rfl (WL.faN (T := Ty) (off' := 3) rfl rfl rfl rfl rfl rfl rfl (WL.ldN (T := Ty) (j := 0) rfl rfl rfl rfl rfl rfl (WL.as rfl rfl (WL.nil ?_)))))))))))))
          refine W.seq (W.region (WL.mv rfl rfl (WL.nc rfl rfl (WL.faN (T := Ty) (off' := 0) rfl rfl rfl rfl rfl rfl rfl (WL.faN (T := Ty) (off' := 2) rfl rfl rfl rfl rfl rfl rfl (WL.ldN (T := Ty) (j := 0) rfl rfl rfl rfl rfl rfl (WL.mv rfl rfl ?_)))))))
          refine WL.ix (T := Ty) rfl rfl rfl (by assumption) rfl rfl (by omega) (by first | omega | decide +kernel) ?_
          refine WL.ldAE (T := Ty) (j := 1) rfl rfl rfl rfl rfl (by assumption) rfl ?_
          refine WL.alF (T := Ty) rfl rfl (by repeat' constructor) (fun b4 => ?_)
          refine WL.stAO (T := Ty) (j := 0) rfl rfl rfl rfl (by repeat' first | exact AO.nil | apply AO.cons (by first | rfl | exact SL.one (by assumption))) rfl rfl (by repeat' constructor) (by repeat' constructor) ?_
          refine WL.nil (W.seq (W.region (WL.as rfl rfl (WL.nil (W.seq (W.block (W.seq (W.region (WL.faN (T := Ty) (off' := 3) rfl rfl rfl rfl rfl rfl rfl (WL.ldN (T := Ty) (j := 0) rfl rfl rfl rfl rfl rfl (WL.eql rfl rfl rfl (WL.mv rfl rfl (WL.gdN rfl rfl rfl rfl rfl rfl ?_)))))))))))))
          refine WL.gdN rfl rfl rfl rfl rfl rfl (WL.pickF rfl rfl rfl (WL.as rfl rfl (WL.nil (W.condF rfl (W.seq (W.region (WL.faN (T := Ty) (off' := 3) rfl rfl rfl rfl rfl rfl rfl (WL.ldN (T := Ty) (j := 0) rfl rfl rfl rfl rfl rfl (WL.eql rfl rfl rfl (WL.as rfl rfl (WL.nil (W.condF rfl (W.seq ?_)))))))))))))
          refine W.region (WL.faN (T := Ty) (off' := 3) rfl rfl rfl rfl rfl rfl rfl (WL.ldN (T := Ty) (j := 0) rfl rfl rfl rfl rfl rfl (WL.eql rfl rfl rfl (WL.as rfl rfl (WL.nil (W.condT rfl (W.region (WL.faN (T := Ty) (off' := 5) rfl rfl rfl rfl rfl rfl rfl ?_))))))))
          refine WL.stF (T := Ty) (j := 0) rfl rfl rfl rfl rfl rfl rfl (by repeat' constructor) (by repeat' constructor) ?_
          refine WL.nil (W.inBlock (W.seq ?_))
          refine W.drawA 7 rfl (fun σ0 hσ0 dσ0 => ?_)
          have fσ0_0 := rb_at 0 rfl hσ0 dσ0
          have fσ0_1 := rb_at 1 rfl hσ0 dσ0
          have fσ0_2 := ros_at 2 rfl hσ0 dσ0
          refine WD.takeL 0 rfl (by decide +kernel) (WL.mv rfl rfl (WL.nilT (WD.takeL 1 rfl (by decide +kernel) (WL.nc rfl rfl (WL.nilT (WD.takeL 2 rfl (by decide +kernel) (WL.faN (T := Ty) (off' := 0) rfl rfl rfl rfl rfl rfl rfl (WL.nilT (WD.takeL 3 rfl (by decide +kernel) (WL.faN (T := Ty) (off' := 2) rfl rfl rfl rfl rfl rfl rfl (WL.nilT (WD.takeL 4 rfl (by decide +kernel) ?_))))))))))))
          refine WL.ldBN (T := Ty) rfl rfl rfl rfl (by first | assumption | exact RB.wide (by assumption) | exact In.rb (by assumption)) rfl ?_
          refine WL.nilT (WD.takeL 5 rfl (by decide +kernel) (WL.mv rfl rfl (WL.nilT (WD.takeL 6 rfl (by decide +kernel) ?_))))
          refine WL.ldABF (T := Ty) rfl rfl rfl rfl (by first | assumption | exact RB.wide (by assumption) | exact In.rb (by assumption)) rfl (by repeat' constructor) ?_
          refine WL.nilT ?_
          refine WD.lastG hσ0 (by decide +kernel) (by repeat' constructor) rfl (by repeat' constructor) ?_
          refine WL.ix (T := Ty) rfl rfl rfl (by assumption) rfl rfl (by omega) (by first | omega | decide +kernel) ?_
          refine WL.stAE (T := Ty) (j := 2) rfl rfl rfl rfl (AO.all (by repeat' first | exact AO.nil | apply AO.cons (by first | rfl | exact SL.one (by assumption)))) rfl (by first | assumption | omega | (simp only [List.length_cons, List.length_nil]; omega)) (Nat.zero_lt_succ _) (by repeat' constructor) ?_
          refine WL.nil (W.seq (W.region (WL.mv rfl rfl (WL.mv rfl rfl (WL.mv rfl rfl ?_)))))
          refine WL.callV rfl rfl (fun x p d => onr_c _ _ _ _ _ _ _ _ _ _ _ (by first | assumption | exact RB.wide (by assumption) | exact In.rb (by assumption) | exact RB.mono (by assumption) (eqh_at 0 rfl p d) | exact (in_at 0 rfl p d).rb | exact (in_at 1 rfl p d).rb | exact (in_at 2 rfl p d).rb | exact (in_at 3 rfl p d).rb | exact (in_at 4 rfl p d).rb | exact (in_at 5 rfl p d).rb | exact (in_at 6 rfl p d).rb | exact (in_at 7 rfl p d).rb) (by assumption) (by first | assumption | omega) (by first | assumption | omega)) ?_
          refine WL.nc rfl rfl (WL.faN (T := Ty) (off' := 0) rfl rfl rfl rfl rfl rfl rfl (WL.faN (T := Ty) (off' := 3) rfl rfl rfl rfl rfl rfl rfl ?_))
          refine WL.stF (T := Ty) (j := 1) rfl rfl rfl rfl rfl rfl rfl (by repeat' constructor) (by repeat' constructor) ?_
          refine WL.nil (W.seq (W.region (WL.mv rfl rfl (WL.nil (W.condF rfl (W.skip (W.inBlock ?_)))))))
          rw [hx1]
          refine W.fit (Hs' := [box b _ _, Buf 7 v _]) (by (repeat' first | exact Sel.nil | apply Sel.k | exact Pick.h | apply Pick.t)) (W.sub ?_ (nx { setP c c.hot { p with kind := 2, trial := false } with hot := onP c c.hot } v n (Nat.lt_succ_self n) hcn hh (hG.setHot hp (badK_2 rfl) rfl) (nS _)))
          exact ⟨rfl, trivial⟩
        · rw [if_pos k1] at hh
          have hq := hG.goes hp
          have hm1 := hq.B.m1
          have hm2 := hq.B.m2
          have ht12 : -1000 ≤ (goesP c c.hot).target ∧ (goesP c c.hot).target ≤ 1000 := ⟨hq.B.t1, hq.B.t2⟩
          rw [k1] at hrow
          refine W.seq (W.seq (W.region (WL.mv rfl rfl (WL.nc rfl rfl (WL.faN (T := Ty) (off' := 0) rfl rfl rfl rfl rfl rfl rfl ?_)))))
          refine WL.ldAF (T := Ty) (j := 0) rfl rfl rfl rfl rfl rfl (by repeat' constructor) ?_
          refine WL.callV rfl rfl (fun x p d => countr1_c _ _ _ _ _ _ _ _ (by first | assumption | exact ROs.wide (by assumption) | exact ROs.mono (by assumption) (eqh_at 0 rfl p d) | exact ros_at 0 rfl p d | exact ros_at 1 rfl p d | exact ros_at 2 rfl p d | exact ros_at 3 rfl p d | exact ros_at 4 rfl p d) (by first | assumption | omega)) ?_
          refine WL.gtr rfl rfl rfl (WL.nil (W.condpT rfl (by omega) (W.skip (W.block (W.seq (W.region (WL.mv rfl rfl (WL.nc rfl rfl (WL.faN (T := Ty) (off' := 0) rfl rfl rfl rfl rfl rfl rfl (WL.faN (T := Ty) (off' := 3) rfl rfl rfl rfl rfl rfl rfl (WL.ldN (T := Ty) (j := 0) rfl rfl rfl rfl rfl rfl (WL.as rfl rfl (WL.nil ?_)))))))))))))
          refine W.seq (W.region (WL.mv rfl rfl (WL.nc rfl rfl (WL.faN (T := Ty) (off' := 0) rfl rfl rfl rfl rfl rfl rfl (WL.faN (T := Ty) (off' := 2) rfl rfl rfl rfl rfl rfl rfl (WL.ldN (T := Ty) (j := 0) rfl rfl rfl rfl rfl rfl (WL.mv rfl rfl ?_)))))))
          refine WL.ix (T := Ty) rfl rfl rfl (by assumption) rfl rfl (by omega) (by first | omega | decide +kernel) ?_
          refine WL.ldAE (T := Ty) (j := 1) rfl rfl rfl rfl rfl (by assumption) rfl ?_
          refine WL.alF (T := Ty) rfl rfl (by repeat' constructor) (fun b4 => ?_)
          refine WL.stAO (T := Ty) (j := 0) rfl rfl rfl rfl (by repeat' first | exact AO.nil | apply AO.cons (by first | rfl | exact SL.one (by assumption))) rfl rfl (by repeat' constructor) (by repeat' constructor) ?_
          refine WL.nil (W.seq (W.region (WL.as rfl rfl (WL.nil (W.seq (W.block (W.seq (W.region (WL.faN (T := Ty) (off' := 3) rfl rfl rfl rfl rfl rfl rfl (WL.ldN (T := Ty) (j := 0) rfl rfl rfl rfl rfl rfl (WL.eql rfl rfl rfl (WL.mv rfl rfl (WL.gdN rfl rfl rfl rfl rfl rfl ?_)))))))))))))
          refine WL.gdN rfl rfl rfl rfl rfl rfl (WL.pickF rfl rfl rfl (WL.as rfl rfl (WL.nil (W.condF rfl (W.seq (W.region (WL.faN (T := Ty) (off' := 3) rfl rfl rfl rfl rfl rfl rfl (WL.ldN (T := Ty) (j := 0) rfl rfl rfl rfl rfl rfl (WL.eql rfl rfl rfl (WL.as rfl rfl (WL.nil (W.condF rfl (W.seq ?_)))))))))))))
          refine W.region (WL.faN (T := Ty) (off' := 3) rfl rfl rfl rfl rfl rfl rfl (WL.ldN (T := Ty) (j := 0) rfl rfl rfl rfl rfl rfl (WL.eql rfl rfl rfl (WL.as rfl rfl (WL.nil (W.condF rfl (W.seq (W.region (WL.mv rfl rfl (WL.mv rfl rfl ?_))))))))))
          refine WL.callTk (Take.cons 1 rfl (Take.cons 1 rfl Take.nil)) rfl rfl (fun x p d => goesr_c _ _ _ _ _ _ _ _ _ _ _ (by first | assumption | omega) (by first | assumption | omega) (by assumption) (by first | assumption | omega) (by first | assumption | omega) (by first | assumption | omega)) (by repeat' constructor) (fun r5 => ?_)
          refine WL.opens (α := Value) (φ := fun v => r5 = .tuple #[] ∧ SL v _) (ps := fun v => RgO _ _ _ v) 0 rfl (fun h q => q) (by repeat' constructor) ?_
          rintro u5 ⟨es5, su5⟩
          subst es5
          dsimp only [RgO, List.cons_append, List.nil_append] at su5 ⊢
          refine WL.nil (W.seq (W.region (WL.mv rfl rfl ?_)))
          rw [hcc] at su5 ⊢
          refine WL.callM 0 rfl rfl rfl (fun x p d => aimr_c _ _ _ _ _ _ _ _ _ _ (by first | assumption | omega) (by first | assumption | omega) (by first | assumption | omega) (by first | assumption | omega) (by first | assumption | omega)) (by repeat' constructor) ?_
          refine WL.nil (W.exit rfl ?_)
          have hcn : cnt isHot (goesP c c.hot).pages = cnt isHot c.pages := by rw [goes_pages]; exact cnt_del_eq hp (by unfold isHot; rw [k1]; rfl)
          refine W.fit (Hs' := [box b _ _, Buf 7 u5 _]) (by (repeat' first | exact Sel.nil | apply Sel.k | exact Pick.h | apply Pick.t)) (W.sub ?_ (nx (aimP (goesP c c.hot) (-1)) u5 n (Nat.lt_succ_self n) hcn hh (hq.aim _) su5))
          exact ⟨rfl, trivial⟩
theorem testr_c (ρ : Hp) (b : Nat) (c : Clk) (v o : Value) (n : Nat) (c' : Clk) (hG : RefG c) (sv : SL v c.pages.length) (hh : testT n c = some c') :
    Fn Try.prog 122 #[pt b 0] ρ [box b [.int .i64 c.most, .int .i64 c.target, v, .int .i64 (c.hot : Int), .int .i64 (c.cold : Int), .int .i64 (c.test : Int), o] 145, Buf 7 v (c.pages.flatMap pgC)] (RgR b c' o) := by
  refine in122 rfl rfl ?_
  refine W.block ?_
  refine W.loopR (σ := Nat × Clk × Value) (fun s => [(0, pt b 0)])
    (fun s => [box b [.int .i64 s.2.1.most, .int .i64 s.2.1.target, s.2.2, .int .i64 (s.2.1.hot : Int), .int .i64 (s.2.1.cold : Int), .int .i64 (s.2.1.test : Int), o] 145, Buf 7 s.2.2 (s.2.1.pages.flatMap pgC)])
    (fun s ρ' => testT s.1 s.2.1 = some c' ∧ RefG s.2.1 ∧ SL s.2.2 s.2.1.pages.length) (fun s => s.1)
    (n, c, v) ⟨rfl, trivial⟩ rfl ⟨hh, hG, sv⟩ ?_
  clear hh hG sv c v n
  rintro ⟨n, c, v⟩ ρ1 le1 ⟨hh, hG, sv⟩ next
  dsimp only at hh hG sv next ⊢
  have hln := hG.B.ln
  have hc1 := cnt_le isTest c.pages
  have l1 := pgs_cells c.pages
  unfold testT at hh
  by_cases h0 : cnt isTest c.pages = 0
  · rw [if_pos h0] at hh
    cases hh
    refine W.seq (W.seq (W.region (WL.mv rfl rfl (WL.nc rfl rfl (WL.faN (T := Ty) (off' := 0) rfl rfl rfl rfl rfl rfl rfl ?_)))))
    refine WL.ldAF (T := Ty) (j := 0) rfl rfl rfl rfl rfl rfl (by repeat' constructor) ?_
    refine WL.callV rfl rfl (fun x p d => countr3_c _ _ _ _ _ _ _ _ (by first | assumption | exact ROs.wide (by assumption) | exact ROs.mono (by assumption) (eqh_at 0 rfl p d) | exact ros_at 0 rfl p d | exact ros_at 1 rfl p d | exact ros_at 2 rfl p d | exact ros_at 3 rfl p d | exact ros_at 4 rfl p d) (by first | assumption | omega)) ?_
    refine WL.gtr rfl rfl rfl (WL.nil (W.condpF rfl (by omega) (W.exit rfl ?_)))
    exact W.fit (Hs' := [box b _ _, Buf 7 v _]) (by (repeat' first | exact Sel.nil | apply Sel.k | exact Pick.h | apply Pick.t)) (W.stop0 rfl (fun h q => ⟨v, ⟨rfl, sv⟩, q⟩))
  · rw [if_neg h0] at hh
    have nx : ∀ (c2 : Clk) (v2 : Value) (m : Nat), m < n → cnt isTest c2.pages = cnt isTest c.pages → testL m c2 = some c' → RefG c2 → SL v2 c2.pages.length → W Try.prog _ ρ1 (RgR b c' o) _ [(0, pt b 0)] [box b [.int .i64 c2.most, .int .i64 c2.target, v2, .int .i64 (c2.hot : Int), .int .i64 (c2.cold : Int), .int .i64 (c2.test : Int), o] 145, Buf 7 v2 (c2.pages.flatMap pgC)] :=
      fun c2 v2 m hm e1 e2 e3 e4 => next ⟨m, c2, v2⟩ ρ1 (Le.refl _) ⟨by unfold testT; dsimp only; rw [if_neg (by rw [e1]; exact h0)]; exact e2, e3, e4⟩ hm
    clear next
    cases n with
    | zero => unfold testL at hh; cases hh
    | succ n =>
      rw [testL_s] at hh
      cases hp : c.pages[c.test]? with
      | none => rw [hp] at hh; cases hh
      | some p =>
        rw [hp] at hh
        dsimp only at hh
        have hpl := (List.getElem?_eq_some_iff.1 hp).1
        have g3 : (c.pages.flatMap pgC)[((c.test : Nat) : Int).toNat * 7 + 3]? = some (.int .i64 p.kind) := flat_get pg_len hp rfl
        have g5 : (c.pages.flatMap pgC)[((c.test : Nat) : Int).toNat * 7 + 5]? = some (.bool p.trial) := flat_get pg_len hp rfl
        have b1 := hG.R.h1
        have b2 := hG.R.h2
        have b3 := hG.R.h3
        have hcc : (⟨c.most, c.target, c.pages, c.hot, c.cold, c.test⟩ : Clk) = c := rfl
        have nS : ∀ q : Pg, SL v (c.pages.set c.test q).length := fun q => by rw [List.length_set]; exact sv
        by_cases k3 : p.kind = 3
        · rw [if_pos k3] at hh
          cases hh
          have hq := hG.goes hp
          have hm1 := hq.B.m1
          have hm2 := hq.B.m2
          have ht12 : -1000 ≤ (goesP c c.test).target ∧ (goesP c c.test).target ≤ 1000 := ⟨hq.B.t1, hq.B.t2⟩
          refine W.seq (W.seq (W.region (WL.mv rfl rfl (WL.nc rfl rfl (WL.faN (T := Ty) (off' := 0) rfl rfl rfl rfl rfl rfl rfl ?_)))))
          refine WL.ldAF (T := Ty) (j := 0) rfl rfl rfl rfl rfl rfl (by repeat' constructor) ?_
          refine WL.callV rfl rfl (fun x p d => countr3_c _ _ _ _ _ _ _ _ (by first | assumption | exact ROs.wide (by assumption) | exact ROs.mono (by assumption) (eqh_at 0 rfl p d) | exact ros_at 0 rfl p d | exact ros_at 1 rfl p d | exact ros_at 2 rfl p d | exact ros_at 3 rfl p d | exact ros_at 4 rfl p d) (by first | assumption | omega)) ?_
          refine WL.gtr rfl rfl rfl (WL.nil (W.condpT rfl (by omega) (W.skip (W.block (W.seq (W.region (WL.mv rfl rfl (WL.nc rfl rfl (WL.faN (T := Ty) (off' := 0) rfl rfl rfl rfl rfl rfl rfl (WL.faN (T := Ty) (off' := 5) rfl rfl rfl rfl rfl rfl rfl (WL.ldN (T := Ty) (j := 0) rfl rfl rfl rfl rfl rfl (WL.as rfl rfl (WL.nil ?_)))))))))))))
          refine W.seq (W.seq (W.region (WL.mv rfl rfl (WL.nc rfl rfl (WL.faN (T := Ty) (off' := 0) rfl rfl rfl rfl rfl rfl rfl (WL.faN (T := Ty) (off' := 2) rfl rfl rfl rfl rfl rfl rfl (WL.ldN (T := Ty) (j := 0) rfl rfl rfl rfl rfl rfl (WL.mv rfl rfl ?_))))))))
          refine WL.ix (T := Ty) rfl rfl rfl (by assumption) rfl rfl (by omega) (by first | omega | decide +kernel) ?_
          refine WL.faEN (T := Ty) (off' := 3) rfl rfl rfl rfl rfl rfl rfl ?_
          refine WL.ldE (T := Ty) (j := 1) rfl rfl rfl rfl rfl (by assumption) ?_
          refine WL.eql rfl rfl rfl (WL.nil (W.condpT rfl (by omega) (W.seq (W.region (WL.mv rfl rfl (WL.mv rfl rfl ?_))))))
          refine WL.callTk (Take.cons 0 rfl (Take.cons 0 rfl Take.nil)) rfl rfl (fun x p d => goesr_c _ _ _ _ _ _ _ _ _ _ _ (by first | assumption | omega) (by first | assumption | omega) (by assumption) (by first | assumption | omega) (by first | assumption | omega) (by first | assumption | omega)) (by repeat' constructor) (fun r4 => ?_)
          refine WL.opens (α := Value) (φ := fun v => r4 = .tuple #[] ∧ SL v _) (ps := fun v => RgO _ _ _ v) 0 rfl (fun h q => q) (by repeat' constructor) ?_
          rintro u4 ⟨es4, su4⟩
          subst es4
          dsimp only [RgO, List.cons_append, List.nil_append] at su4 ⊢
          refine WL.nil (W.seq (W.region (WL.mv rfl rfl ?_)))
          rw [hcc] at su4 ⊢
          refine WL.callM 0 rfl rfl rfl (fun x p d => aimr_c _ _ _ _ _ _ _ _ _ _ (by first | assumption | omega) (by first | assumption | omega) (by first | assumption | omega) (by first | assumption | omega) (by first | assumption | omega)) (by repeat' constructor) ?_
          refine WL.nil ?_
          exact W.fit (Hs' := [box b _ _, Buf 7 u4 _]) (by (repeat' first | exact Sel.nil | apply Sel.k | exact Pick.h | apply Pick.t)) (W.ret0 rfl (fun h q => ⟨u4, ⟨rfl, su4⟩, q⟩))
        · rw [if_neg k3] at hh
          have hm1 := hG.B.m1
          have hm2 := hG.B.m2
          have ht12 : -1000 ≤ c.target ∧ c.target ≤ 1000 := ⟨hG.B.t1, hG.B.t2⟩
          have hset0 : (c.pages.flatMap pgC).set (((c.test : Nat) : Int).toNat * 7 + 5) (.bool false) = (c.pages.set c.test { p with trial := false }).flatMap pgC := flat_set (j := 5) pg_len hp (by decide) rfl
          by_cases k2 : p.kind = 2
          · cases hr : p.trial with
            | true =>
              rw [hr] at g5
              rw [if_pos ⟨k2, hr⟩] at hh
              have hcn : cnt isTest (c.pages.set c.test { p with trial := false }) = cnt isTest c.pages := cnt_set_eq hp rfl
              refine W.seq (W.seq (W.region (WL.mv rfl rfl (WL.nc rfl rfl (WL.faN (T := Ty) (off' := 0) rfl rfl rfl rfl rfl rfl rfl ?_)))))
              refine WL.ldAF (T := Ty) (j := 0) rfl rfl rfl rfl rfl rfl (by repeat' constructor) ?_
              refine WL.callV rfl rfl (fun x p d => countr3_c _ _ _ _ _ _ _ _ (by first | assumption | exact ROs.wide (by assumption) | exact ROs.mono (by assumption) (eqh_at 0 rfl p d) | exact ros_at 0 rfl p d | exact ros_at 1 rfl p d | exact ros_at 2 rfl p d | exact ros_at 3 rfl p d | exact ros_at 4 rfl p d) (by first | assumption | omega)) ?_
              refine WL.gtr rfl rfl rfl (WL.nil (W.condpT rfl (by omega) (W.skip (W.block (W.seq (W.region (WL.mv rfl rfl (WL.nc rfl rfl (WL.faN (T := Ty) (off' := 0) rfl rfl rfl rfl rfl rfl rfl (WL.faN (T := Ty) (off' := 5) rfl rfl rfl rfl rfl rfl rfl (WL.ldN (T := Ty) (j := 0) rfl rfl rfl rfl rfl rfl (WL.as rfl rfl (WL.nil ?_)))))))))))))
              refine W.seq (W.seq (W.region (WL.mv rfl rfl (WL.nc rfl rfl (WL.faN (T := Ty) (off' := 0) rfl rfl rfl rfl rfl rfl rfl (WL.faN (T := Ty) (off' := 2) rfl rfl rfl rfl rfl rfl rfl (WL.ldN (T := Ty) (j := 0) rfl rfl rfl rfl rfl rfl (WL.mv rfl rfl ?_))))))))
              refine WL.ix (T := Ty) rfl rfl rfl (by assumption) rfl rfl (by omega) (by first | omega | decide +kernel) ?_
              refine WL.faEN (T := Ty) (off' := 3) rfl rfl rfl rfl rfl rfl rfl ?_
              refine WL.ldE (T := Ty) (j := 1) rfl rfl rfl rfl rfl (by assumption) ?_
              refine WL.eql rfl rfl rfl (WL.nil (W.condpF rfl (by omega) (W.skip (W.seq (W.seq (W.region (WL.mv rfl rfl (WL.nc rfl rfl (WL.faN (T := Ty) (off' := 0) rfl rfl rfl rfl rfl rfl rfl (WL.faN (T := Ty) (off' := 2) rfl rfl rfl rfl rfl rfl rfl (WL.ldN (T := Ty) (j := 0) rfl rfl rfl rfl rfl rfl (WL.mv rfl rfl ?_))))))))))))
              refine WL.ix (T := Ty) rfl rfl rfl (by assumption) rfl rfl (by omega) (by first | omega | decide +kernel) ?_
              refine WL.faEN (T := Ty) (off' := 3) rfl rfl rfl rfl rfl rfl rfl ?_
              refine WL.ldE (T := Ty) (j := 1) rfl rfl rfl rfl rfl (by assumption) ?_
              refine WL.eql rfl rfl rfl (WL.mv rfl rfl (WL.gT rfl rfl (by omega) (WL.mv rfl rfl (WL.gT rfl rfl (by omega) (WL.nc rfl rfl (WL.gT rfl rfl (by omega) (WL.faN (T := Ty) (off' := 0) rfl rfl rfl rfl rfl rfl rfl (WL.gT rfl rfl (by omega) (WL.faN (T := Ty) (off' := 2) rfl rfl rfl rfl rfl rfl rfl (WL.gT rfl rfl (by omega) (WL.ldN (T := Ty) (j := 0) rfl rfl rfl rfl rfl rfl (WL.gT rfl rfl (by omega) (WL.mv rfl rfl ?_)))))))))))))
              refine WL.gT rfl rfl (by omega) ?_
              refine WL.ix (T := Ty) rfl rfl rfl (by assumption) rfl rfl (by omega) (by first | omega | decide +kernel) ?_
              refine WL.gT rfl rfl (by omega) (WL.faEN (T := Ty) (off' := 5) rfl rfl rfl rfl rfl rfl rfl (WL.gT rfl rfl (by omega) ?_))
              refine WL.ldE (T := Ty) (j := 1) rfl rfl rfl rfl rfl (by assumption) ?_
              refine WL.pickTp rfl rfl (by omega) rfl (WL.nil (W.condT rfl (W.seq (W.region (WL.mv rfl rfl (WL.nc rfl rfl (WL.faN (T := Ty) (off' := 0) rfl rfl rfl rfl rfl rfl rfl (WL.faN (T := Ty) (off' := 2) rfl rfl rfl rfl rfl rfl rfl (WL.ldN (T := Ty) (j := 0) rfl rfl rfl rfl rfl rfl (WL.mv rfl rfl ?_))))))))))
              refine WL.ix (T := Ty) rfl rfl rfl (by assumption) rfl rfl (by omega) (by first | omega | decide +kernel) ?_
              refine WL.faEN (T := Ty) (off' := 5) rfl rfl rfl rfl rfl rfl rfl ?_
              refine WL.stEF (T := Ty) (j := 1) rfl rfl rfl rfl rfl rfl (by first | assumption | omega | (simp only [List.length_set]; omega) | (simp; omega)) rfl (by repeat' constructor) ?_
              refine WL.nil (W.region (WL.mv rfl rfl ?_))
              refine WL.callM 0 rfl rfl rfl (fun x p d => aimr_c _ _ _ _ _ _ _ _ _ _ (by first | assumption | omega) (by first | assumption | omega) (by first | assumption | omega) (by first | assumption | omega) (by first | assumption | omega)) (by repeat' constructor) ?_
              refine WL.nil (W.region (WL.mv rfl rfl (WL.mv rfl rfl (WL.mv rfl rfl ?_))))
              refine WL.callV rfl rfl (fun x p d => onr_c _ _ _ _ _ _ _ _ _ _ _ (by first | assumption | exact RB.wide (by assumption) | exact In.rb (by assumption) | exact RB.mono (by assumption) (eqh_at 0 rfl p d) | exact (in_at 0 rfl p d).rb | exact (in_at 1 rfl p d).rb | exact (in_at 2 rfl p d).rb | exact (in_at 3 rfl p d).rb | exact (in_at 4 rfl p d).rb | exact (in_at 5 rfl p d).rb | exact (in_at 6 rfl p d).rb | exact (in_at 7 rfl p d).rb) (by assumption) (by first | assumption | omega) (by first | assumption | omega)) ?_
              refine WL.nc rfl rfl (WL.faN (T := Ty) (off' := 0) rfl rfl rfl rfl rfl rfl rfl (WL.faN (T := Ty) (off' := 5) rfl rfl rfl rfl rfl rfl rfl ?_))
              refine WL.stF (T := Ty) (j := 0) rfl rfl rfl rfl rfl rfl rfl (by repeat' constructor) (by repeat' constructor) ?_
              refine WL.nil (W.inBlock ?_)
              rw [hset0]
              refine W.fit (Hs' := [box b _ _, Buf 7 v _]) (by (repeat' first | exact Sel.nil | apply Sel.k | exact Pick.h | apply Pick.t)) (W.sub ?_ (nx { aimP (setP c c.test { p with trial := false }) (-1) with test := onP c c.test } v n (Nat.lt_succ_self n) hcn hh (hG.setTest (q := { p with trial := false }) hp (badK_2 k2) rfl _) (nS _)))
              exact ⟨rfl, trivial⟩
            | false =>
              rw [hr] at g5
              rw [if_neg (fun h => by rw [hr] at h; cases h.2)] at hh
              refine W.seq (W.seq (W.region (WL.mv rfl rfl (WL.nc rfl rfl (WL.faN (T := Ty) (off' := 0) rfl rfl rfl rfl rfl rfl rfl ?_)))))
              refine WL.ldAF (T := Ty) (j := 0) rfl rfl rfl rfl rfl rfl (by repeat' constructor) ?_
              refine WL.callV rfl rfl (fun x p d => countr3_c _ _ _ _ _ _ _ _ (by first | assumption | exact ROs.wide (by assumption) | exact ROs.mono (by assumption) (eqh_at 0 rfl p d) | exact ros_at 0 rfl p d | exact ros_at 1 rfl p d | exact ros_at 2 rfl p d | exact ros_at 3 rfl p d | exact ros_at 4 rfl p d) (by first | assumption | omega)) ?_
              refine WL.gtr rfl rfl rfl (WL.nil (W.condpT rfl (by omega) (W.skip (W.block (W.seq (W.region (WL.mv rfl rfl (WL.nc rfl rfl (WL.faN (T := Ty) (off' := 0) rfl rfl rfl rfl rfl rfl rfl (WL.faN (T := Ty) (off' := 5) rfl rfl rfl rfl rfl rfl rfl (WL.ldN (T := Ty) (j := 0) rfl rfl rfl rfl rfl rfl (WL.as rfl rfl (WL.nil ?_)))))))))))))
              refine W.seq (W.seq (W.region (WL.mv rfl rfl (WL.nc rfl rfl (WL.faN (T := Ty) (off' := 0) rfl rfl rfl rfl rfl rfl rfl (WL.faN (T := Ty) (off' := 2) rfl rfl rfl rfl rfl rfl rfl (WL.ldN (T := Ty) (j := 0) rfl rfl rfl rfl rfl rfl (WL.mv rfl rfl ?_))))))))
              refine WL.ix (T := Ty) rfl rfl rfl (by assumption) rfl rfl (by omega) (by first | omega | decide +kernel) ?_
              refine WL.faEN (T := Ty) (off' := 3) rfl rfl rfl rfl rfl rfl rfl ?_
              refine WL.ldE (T := Ty) (j := 1) rfl rfl rfl rfl rfl (by assumption) ?_
              refine WL.eql rfl rfl rfl (WL.nil (W.condpF rfl (by omega) (W.skip (W.seq (W.seq (W.region (WL.mv rfl rfl (WL.nc rfl rfl (WL.faN (T := Ty) (off' := 0) rfl rfl rfl rfl rfl rfl rfl (WL.faN (T := Ty) (off' := 2) rfl rfl rfl rfl rfl rfl rfl (WL.ldN (T := Ty) (j := 0) rfl rfl rfl rfl rfl rfl (WL.mv rfl rfl ?_))))))))))))
              refine WL.ix (T := Ty) rfl rfl rfl (by assumption) rfl rfl (by omega) (by first | omega | decide +kernel) ?_
              refine WL.faEN (T := Ty) (off' := 3) rfl rfl rfl rfl rfl rfl rfl ?_
              refine WL.ldE (T := Ty) (j := 1) rfl rfl rfl rfl rfl (by assumption) ?_
              refine WL.eql rfl rfl rfl (WL.mv rfl rfl (WL.gT rfl rfl (by omega) (WL.mv rfl rfl (WL.gT rfl rfl (by omega) (WL.nc rfl rfl (WL.gT rfl rfl (by omega) (WL.faN (T := Ty) (off' := 0) rfl rfl rfl rfl rfl rfl rfl (WL.gT rfl rfl (by omega) (WL.faN (T := Ty) (off' := 2) rfl rfl rfl rfl rfl rfl rfl (WL.gT rfl rfl (by omega) (WL.ldN (T := Ty) (j := 0) rfl rfl rfl rfl rfl rfl (WL.gT rfl rfl (by omega) (WL.mv rfl rfl ?_)))))))))))))
              refine WL.gT rfl rfl (by omega) ?_
              refine WL.ix (T := Ty) rfl rfl rfl (by assumption) rfl rfl (by omega) (by first | omega | decide +kernel) ?_
              refine WL.gT rfl rfl (by omega) (WL.faEN (T := Ty) (off' := 5) rfl rfl rfl rfl rfl rfl rfl (WL.gT rfl rfl (by omega) ?_))
              refine WL.ldE (T := Ty) (j := 1) rfl rfl rfl rfl rfl (by assumption) ?_
              refine WL.pickTp rfl rfl (by omega) rfl (WL.nil (W.condF rfl (W.skip (W.region (WL.mv rfl rfl (WL.mv rfl rfl (WL.mv rfl rfl ?_)))))))
              refine WL.callV rfl rfl (fun x p d => onr_c _ _ _ _ _ _ _ _ _ _ _ (by first | assumption | exact RB.wide (by assumption) | exact In.rb (by assumption) | exact RB.mono (by assumption) (eqh_at 0 rfl p d) | exact (in_at 0 rfl p d).rb | exact (in_at 1 rfl p d).rb | exact (in_at 2 rfl p d).rb | exact (in_at 3 rfl p d).rb | exact (in_at 4 rfl p d).rb | exact (in_at 5 rfl p d).rb | exact (in_at 6 rfl p d).rb | exact (in_at 7 rfl p d).rb) (by assumption) (by first | assumption | omega) (by first | assumption | omega)) ?_
              refine WL.nc rfl rfl (WL.faN (T := Ty) (off' := 0) rfl rfl rfl rfl rfl rfl rfl (WL.faN (T := Ty) (off' := 5) rfl rfl rfl rfl rfl rfl rfl ?_))
              refine WL.stF (T := Ty) (j := 0) rfl rfl rfl rfl rfl rfl rfl (by repeat' constructor) (by repeat' constructor) ?_
              refine WL.nil (W.inBlock ?_)
              refine W.fit (Hs' := [box b _ _, Buf 7 v _]) (by (repeat' first | exact Sel.nil | apply Sel.k | exact Pick.h | apply Pick.t)) (W.sub ?_ (nx { c with test := onP c c.test } v n (Nat.lt_succ_self n) rfl hh (hG.testS (by omega)) sv))
              exact ⟨rfl, trivial⟩
          · rw [if_neg (fun h => k2 h.1)] at hh
            refine W.seq (W.seq (W.region (WL.mv rfl rfl (WL.nc rfl rfl (WL.faN (T := Ty) (off' := 0) rfl rfl rfl rfl rfl rfl rfl ?_)))))
            refine WL.ldAF (T := Ty) (j := 0) rfl rfl rfl rfl rfl rfl (by repeat' constructor) ?_
            refine WL.callV rfl rfl (fun x p d => countr3_c _ _ _ _ _ _ _ _ (by first | assumption | exact ROs.wide (by assumption) | exact ROs.mono (by assumption) (eqh_at 0 rfl p d) | exact ros_at 0 rfl p d | exact ros_at 1 rfl p d | exact ros_at 2 rfl p d | exact ros_at 3 rfl p d | exact ros_at 4 rfl p d) (by first | assumption | omega)) ?_
            refine WL.gtr rfl rfl rfl (WL.nil (W.condpT rfl (by omega) (W.skip (W.block (W.seq (W.region (WL.mv rfl rfl (WL.nc rfl rfl (WL.faN (T := Ty) (off' := 0) rfl rfl rfl rfl rfl rfl rfl (WL.faN (T := Ty) (off' := 5) rfl rfl rfl rfl rfl rfl rfl (WL.ldN (T := Ty) (j := 0) rfl rfl rfl rfl rfl rfl (WL.as rfl rfl (WL.nil ?_)))))))))))))
            refine W.seq (W.seq (W.region (WL.mv rfl rfl (WL.nc rfl rfl (WL.faN (T := Ty) (off' := 0) rfl rfl rfl rfl rfl rfl rfl (WL.faN (T := Ty) (off' := 2) rfl rfl rfl rfl rfl rfl rfl (WL.ldN (T := Ty) (j := 0) rfl rfl rfl rfl rfl rfl (WL.mv rfl rfl ?_))))))))
            refine WL.ix (T := Ty) rfl rfl rfl (by assumption) rfl rfl (by omega) (by first | omega | decide +kernel) ?_
            refine WL.faEN (T := Ty) (off' := 3) rfl rfl rfl rfl rfl rfl rfl ?_
            refine WL.ldE (T := Ty) (j := 1) rfl rfl rfl rfl rfl (by assumption) ?_
            refine WL.eql rfl rfl rfl (WL.nil (W.condpF rfl (by omega) (W.skip (W.seq (W.seq (W.region (WL.mv rfl rfl (WL.nc rfl rfl (WL.faN (T := Ty) (off' := 0) rfl rfl rfl rfl rfl rfl rfl (WL.faN (T := Ty) (off' := 2) rfl rfl rfl rfl rfl rfl rfl (WL.ldN (T := Ty) (j := 0) rfl rfl rfl rfl rfl rfl (WL.mv rfl rfl ?_))))))))))))
            refine WL.ix (T := Ty) rfl rfl rfl (by assumption) rfl rfl (by omega) (by first | omega | decide +kernel) ?_
            refine WL.faEN (T := Ty) (off' := 3) rfl rfl rfl rfl rfl rfl rfl ?_
            refine WL.ldE (T := Ty) (j := 1) rfl rfl rfl rfl rfl (by assumption) ?_
            refine WL.eql rfl rfl rfl (WL.mv rfl rfl (WL.gdTn rfl rfl rfl rfl rfl (by omega) (WL.gdTn rfl rfl rfl rfl rfl (by omega) (WL.gdTn rfl rfl rfl rfl rfl (by omega) (WL.gdTn rfl rfl rfl rfl rfl (by omega) (WL.gdTn rfl rfl rfl rfl rfl (by omega) (WL.gdTn rfl rfl rfl rfl rfl (by omega) (WL.gdTn rfl rfl rfl rfl rfl (by omega) (WL.gdTn rfl rfl rfl rfl rfl (by omega) (WL.gdTn rfl rfl rfl rfl rfl (by omega) (WL.pickFp rfl rfl (by omega) rfl (WL.nil (W.condF rfl ?_)))))))))))))
            refine W.skip (W.region (WL.mv rfl rfl (WL.mv rfl rfl (WL.mv rfl rfl ?_))))
            refine WL.callV rfl rfl (fun x p d => onr_c _ _ _ _ _ _ _ _ _ _ _ (by first | assumption | exact RB.wide (by assumption) | exact In.rb (by assumption) | exact RB.mono (by assumption) (eqh_at 0 rfl p d) | exact (in_at 0 rfl p d).rb | exact (in_at 1 rfl p d).rb | exact (in_at 2 rfl p d).rb | exact (in_at 3 rfl p d).rb | exact (in_at 4 rfl p d).rb | exact (in_at 5 rfl p d).rb | exact (in_at 6 rfl p d).rb | exact (in_at 7 rfl p d).rb) (by assumption) (by first | assumption | omega) (by first | assumption | omega)) ?_
            refine WL.nc rfl rfl (WL.faN (T := Ty) (off' := 0) rfl rfl rfl rfl rfl rfl rfl (WL.faN (T := Ty) (off' := 5) rfl rfl rfl rfl rfl rfl rfl ?_))
            refine WL.stF (T := Ty) (j := 0) rfl rfl rfl rfl rfl rfl rfl (by repeat' constructor) (by repeat' constructor) ?_
            refine WL.nil (W.inBlock ?_)
            refine W.fit (Hs' := [box b _ _, Buf 7 v _]) (by (repeat' first | exact Sel.nil | apply Sel.k | exact Pick.h | apply Pick.t)) (W.sub ?_ (nx { c with test := onP c c.test } v n (Nat.lt_succ_self n) rfl hh (hG.testS (by omega)) sv))
            exact ⟨rfl, trivial⟩
theorem coolr_c (ρ : Hp) (b : Nat) (c : Clk) (v o : Value) (n : Nat) (c' : Clk) (hG : RefG c) (sv : SL v c.pages.length) (hh : coolL n c = some c') :
    Fn Try.prog 110 #[pt b 0] ρ [box b [.int .i64 c.most, .int .i64 c.target, v, .int .i64 (c.hot : Int), .int .i64 (c.cold : Int), .int .i64 (c.test : Int), o] 145, Buf 7 v (c.pages.flatMap pgC)] (RgR b c' o) := by
  refine in110 rfl rfl ?_
  refine W.block ?_
  refine W.loopR (σ := Nat × Clk × Value) (fun s => [(0, pt b 0)])
    (fun s => [box b [.int .i64 s.2.1.most, .int .i64 s.2.1.target, s.2.2, .int .i64 (s.2.1.hot : Int), .int .i64 (s.2.1.cold : Int), .int .i64 (s.2.1.test : Int), o] 145, Buf 7 s.2.2 (s.2.1.pages.flatMap pgC)])
    (fun s ρ' => coolL s.1 s.2.1 = some c' ∧ RefG s.2.1 ∧ SL s.2.2 s.2.1.pages.length) (fun s => s.1)
    (n, c, v) ⟨rfl, trivial⟩ rfl ⟨hh, hG, sv⟩ ?_
  clear hh hG sv c v n
  rintro ⟨n, c, v⟩ ρ1 le1 ⟨hh, hG, sv⟩ next
  dsimp only at hh hG sv next ⊢
  cases n with
  | zero => unfold coolL at hh; cases hh
  | succ n =>
    rw [coolL_s] at hh
    have hln := hG.B.ln
    have l1 := pgs_cells c.pages
    have hc1 := cnt_le isHot c.pages
    have hm1 := hG.B.m1
    have hm2 := hG.B.m2
    have ht1 := hG.B.t1
    have ht2 := hG.B.t2
    by_cases hgt : c.most - c.target < (cnt isHot c.pages : Int)
    · rw [if_pos hgt] at hh
      cases hx : hotT n c with
      | none => rw [hx] at hh; cases hh
      | some x =>
        rw [hx] at hh
        have hG' := hG.hotT hx
        refine W.seq (W.seq ?_)
        refine W.drawA 17 rfl (fun σ0 hσ0 dσ0 => ?_)
        have fσ0_0 := rb_at 0 rfl hσ0 dσ0
        have fσ0_1 := ros_at 1 rfl hσ0 dσ0
        refine WD.takeL 0 rfl (by decide +kernel) (WL.mv rfl rfl (WL.nilT (WD.takeL 1 rfl (by decide +kernel) (WL.nc rfl rfl (WL.nilT (WD.takeL 2 rfl (by decide +kernel) (WL.faN (T := Ty) (off' := 0) rfl rfl rfl rfl rfl rfl rfl (WL.nilT (WD.takeL 3 rfl (by decide +kernel) ?_)))))))))
        refine WL.ldABF (T := Ty) rfl rfl rfl rfl (by first | assumption | exact RB.wide (by assumption) | exact In.rb (by assumption)) rfl (by repeat' constructor) ?_
        refine WL.nilT (WD.takeL 5 rfl (by decide +kernel) (WL.mv rfl rfl (WL.nilT (WD.takeL 6 rfl (by decide +kernel) (WL.nc rfl rfl (WL.nilT (WD.takeL 7 rfl (by decide +kernel) (WL.faN (T := Ty) (off' := 0) rfl rfl rfl rfl rfl rfl rfl (WL.nilT (WD.takeL 8 rfl (by decide +kernel) (WL.faN (T := Ty) (off' := 0) rfl rfl rfl rfl rfl rfl rfl (WL.nilT (WD.takeL 9 rfl (by decide +kernel) ?_)))))))))))))
        refine WL.ldBN (T := Ty) rfl rfl rfl rfl (by first | assumption | exact RB.wide (by assumption) | exact In.rb (by assumption)) rfl ?_
        refine WL.nilT (WD.takeL 10 rfl (by decide +kernel) (WL.mv rfl rfl (WL.nilT (WD.takeL 11 rfl (by decide +kernel) (WL.nc rfl rfl (WL.nilT (WD.takeL 12 rfl (by decide +kernel) (WL.faN (T := Ty) (off' := 0) rfl rfl rfl rfl rfl rfl rfl (WL.nilT (WD.takeL 13 rfl (by decide +kernel) (WL.faN (T := Ty) (off' := 1) rfl rfl rfl rfl rfl rfl rfl (WL.nilT (WD.takeL 14 rfl (by decide +kernel) ?_)))))))))))))
        refine WL.ldBN (T := Ty) rfl rfl rfl rfl (by first | assumption | exact RB.wide (by assumption) | exact In.rb (by assumption)) rfl ?_
        refine WL.nilT (WD.takeL 15 rfl (by decide +kernel) (WL.subK rfl rfl rfl (wrap_i64 ⟨by omega, by omega⟩) (WL.nilT (WD.oneL 4 rfl (by decide +kernel) ?_))))
        refine WL.callV rfl rfl (fun x p d => countr1_c _ _ _ _ _ _ _ _ (by first | assumption | exact ROs.wide (by assumption) | exact ROs.mono (by assumption) (eqh_at 0 rfl p d) | exact ros_at 0 rfl p d | exact ros_at 1 rfl p d | exact ros_at 2 rfl p d | exact ros_at 3 rfl p d | exact ros_at 4 rfl p d) (by first | assumption | omega)) ?_
        refine WL.nilE (WD.takeL 16 rfl (by decide +kernel) (WL.gtr rfl rfl rfl (WL.nilT ?_)))
        refine WD.doneF hσ0 (by decide +kernel) (by repeat' constructor) ?_
        refine W.condpT rfl (by omega) (W.skip (W.block (W.region (WL.mv rfl rfl ?_))))
        refine WL.callTk (Take.cons 0 rfl (Take.cons 0 rfl Take.nil)) rfl rfl (fun x p d => hotr_c _ _ _ _ _ _ _ (by assumption) (by assumption) (by assumption)) (by repeat' constructor) (fun r0 => ?_)
        refine WL.opens (α := Value) (φ := fun v => r0 = .tuple #[] ∧ SL v _) (ps := fun v => RgO _ _ _ v) 0 rfl (fun h q => q) (by repeat' constructor) ?_
        rintro u0 ⟨es0, su0⟩
        subst es0
        dsimp only [RgO, List.cons_append, List.nil_append] at su0 ⊢
        refine WL.nil (W.inBlock ?_)
        refine W.fit (Hs' := [box b _ _, Buf 7 _ _]) (by (repeat' first | exact Sel.nil | apply Sel.k | exact Pick.h | apply Pick.t)) (W.sub ?_ (next ⟨n, x, _⟩ ρ1 (Le.refl _) ⟨hh, hG', by assumption⟩ (by dsimp only; omega)))
        exact ⟨rfl, trivial⟩
    · rw [if_neg hgt] at hh
      cases hh
      refine W.seq (W.seq ?_)
      refine W.drawA 17 rfl (fun σ0 hσ0 dσ0 => ?_)
      have fσ0_0 := rb_at 0 rfl hσ0 dσ0
      have fσ0_1 := ros_at 1 rfl hσ0 dσ0
      refine WD.takeL 0 rfl (by decide +kernel) (WL.mv rfl rfl (WL.nilT (WD.takeL 1 rfl (by decide +kernel) (WL.nc rfl rfl (WL.nilT (WD.takeL 2 rfl (by decide +kernel) (WL.faN (T := Ty) (off' := 0) rfl rfl rfl rfl rfl rfl rfl (WL.nilT (WD.takeL 3 rfl (by decide +kernel) ?_)))))))))
      refine WL.ldABF (T := Ty) rfl rfl rfl rfl (by first | assumption | exact RB.wide (by assumption) | exact In.rb (by assumption)) rfl (by repeat' constructor) ?_
      refine WL.nilT (WD.takeL 5 rfl (by decide +kernel) (WL.mv rfl rfl (WL.nilT (WD.takeL 6 rfl (by decide +kernel) (WL.nc rfl rfl (WL.nilT (WD.takeL 7 rfl (by decide +kernel) (WL.faN (T := Ty) (off' := 0) rfl rfl rfl rfl rfl rfl rfl (WL.nilT (WD.takeL 8 rfl (by decide +kernel) (WL.faN (T := Ty) (off' := 0) rfl rfl rfl rfl rfl rfl rfl (WL.nilT (WD.takeL 9 rfl (by decide +kernel) ?_)))))))))))))
      refine WL.ldBN (T := Ty) rfl rfl rfl rfl (by first | assumption | exact RB.wide (by assumption) | exact In.rb (by assumption)) rfl ?_
      refine WL.nilT (WD.takeL 10 rfl (by decide +kernel) (WL.mv rfl rfl (WL.nilT (WD.takeL 11 rfl (by decide +kernel) (WL.nc rfl rfl (WL.nilT (WD.takeL 12 rfl (by decide +kernel) (WL.faN (T := Ty) (off' := 0) rfl rfl rfl rfl rfl rfl rfl (WL.nilT (WD.takeL 13 rfl (by decide +kernel) (WL.faN (T := Ty) (off' := 1) rfl rfl rfl rfl rfl rfl rfl (WL.nilT (WD.takeL 14 rfl (by decide +kernel) ?_)))))))))))))
      refine WL.ldBN (T := Ty) rfl rfl rfl rfl (by first | assumption | exact RB.wide (by assumption) | exact In.rb (by assumption)) rfl ?_
      refine WL.nilT (WD.takeL 15 rfl (by decide +kernel) (WL.subK rfl rfl rfl (wrap_i64 ⟨by omega, by omega⟩) (WL.nilT (WD.oneL 4 rfl (by decide +kernel) ?_))))
      refine WL.callV rfl rfl (fun x p d => countr1_c _ _ _ _ _ _ _ _ (by first | assumption | exact ROs.wide (by assumption) | exact ROs.mono (by assumption) (eqh_at 0 rfl p d) | exact ros_at 0 rfl p d | exact ros_at 1 rfl p d | exact ros_at 2 rfl p d | exact ros_at 3 rfl p d | exact ros_at 4 rfl p d) (by first | assumption | omega)) ?_
      refine WL.nilE (WD.takeL 16 rfl (by decide +kernel) (WL.gtr rfl rfl rfl (WL.nilT ?_)))
      refine WD.doneF hσ0 (by decide +kernel) (by repeat' constructor) ?_
      refine W.condpF rfl (by omega) (W.exit rfl ?_)
      exact W.stop0 rfl (fun h q => ⟨v, ⟨rfl, sv⟩, q⟩)
end Go.Proofs.Ytbebhmdjnneimaa

/- The document's ring: whether one is loose; the hand Cold turns. -/
set_option linter.unusedSimpArgs false
set_option linter.unusedVariables false
set_option maxRecDepth 20000
set_option maxHeartbeats 4000000
namespace Go.Proofs.Ytbebhmdjnneimaa
open Go
theorem any_take {so : Pg → Bool} {L : List Pg} {i : Nat} {p : Pg} (hp : L[i]? = some p) (h : so p = true) : L.any so = true := List.any_eq_true.2 ⟨p, List.mem_of_getElem? hp, h⟩
theorem any_none {so : Pg → Bool} {L : List Pg} (h : ∀ p ∈ L, so p = false) : L.any so = false := by
  rw [Bool.eq_false_iff]
  intro e
  obtain ⟨p, hp, hs⟩ := List.any_eq_true.1 e
  rw [h p hp] at hs
  cases hs
attribute [local irreducible] W WL Fn Buf ROs SL eptr box Rd Src bndOK WD RB Reads In Own fndK cnt handG handC hotL testL coolL overL freeL coldL putP goesP
theorem loosr_c (ρ : Hp) (b : Nat) (kd : Int) (so : Pg → Bool) (mo ta : Int) (v o : Value) (L : List Pg) (h1 h2 h3 : Int) (rb : RB ρ b [.int .i64 mo, .int .i64 ta, v, .int .i64 h1, .int .i64 h2, .int .i64 h3, o] 145) (r0 : ROs ρ 7 v (L.flatMap pgC)) (hl : L.length ≤ 1000000)
    (hso : ∀ p ∈ L, so p = (decide (p.pins = 0) && (decide (p.kind = kd) || (decide (kd = 0) && (decide (p.kind = 1) || decide (p.kind = 2)))))) :
    Fn Try.prog 105 #[pt b 0, .int .i64 kd] ρ [] (Just (.bool (L.any so))) := by
  have s0 : SL v L.length := r0.sl (pgs_cells L) (by omega)
  refine in105 rfl rfl ?_
  refine W.seq (W.region (WL.as rfl rfl (WL.nil (W.seq (W.seq (W.region (WL.as rfl rfl (WL.nil (W.block ?_)))))))))
  refine W.loopR (σ := Nat) (fun i => [(0, pt b 0), (1, .int .i64 kd), (5, .int .i64 (i : Int))]) (fun i => []) (fun i ρ' => i ≤ L.length ∧ ∀ q ∈ L.take i, so q = false) (fun i => L.length - i)
    0 ⟨rfl, rfl, rfl, trivial⟩ rfl ⟨Nat.zero_le _, fun q hq => by cases hq⟩ ?_
  rintro i ρ1 le1 ⟨hi, hno⟩ next
  replace r0 := r0.mono le1
  replace rb := rb.mono le1
  by_cases hc : i < L.length
  · obtain ⟨p, hp⟩ : ∃ p, L[i]? = some p := ⟨_, List.getElem?_eq_getElem hc⟩
    have l1 := pgs_cells L
    have hrow : ((L.flatMap pgC).drop (((i : Nat) : Int).toNat * 7)).take 7 = pgC p := flat_row pg_len hp
    unfold pgC at hrow
    have hsp := hso p (List.mem_of_getElem? hp)
    have hy : so p = true → L.any so = true := any_take hp
    have hno' : so p = false → ∀ q ∈ L.take (i + 1), so q = false := by
      intro h q hq
      rw [List.take_add_one, hp, Option.toList_some] at hq
      rcases List.mem_append.1 hq with hq | hq
      · exact hno q hq
      · rw [List.mem_singleton.1 hq]; exact h
    by_cases c1 : p.pins = 0
    · rw [decide_eq_true c1, Bool.true_and] at hsp
      by_cases c2 : p.kind = kd
      · rw [decide_eq_true c2, Bool.true_or] at hsp
        refine W.seq (W.seq (W.region (WL.mv rfl rfl (WL.mv rfl rfl (WL.nc rfl rfl (WL.faN (T := Ty) (off' := 0) rfl rfl rfl rfl rfl rfl rfl (WL.faN (T := Ty) (off' := 2) rfl rfl rfl rfl rfl rfl rfl ?_)))))))
        refine WL.ldBN (T := Ty) rfl rfl rfl rfl (by first | assumption | exact RB.wide (by assumption) | exact In.rb (by assumption)) rfl ?_
        refine WL.len (T := Ty) rfl rfl (by assumption) rfl ?_
        refine WL.lss rfl rfl rfl (WL.nil (W.condpT rfl (by omega) (W.skip (W.seq (W.block (W.seq (W.region (WL.mv rfl rfl (WL.nc rfl rfl (WL.faN (T := Ty) (off' := 0) rfl rfl rfl rfl rfl rfl rfl (WL.faN (T := Ty) (off' := 2) rfl rfl rfl rfl rfl rfl rfl ?_)))))))))))
        refine WL.ldBN (T := Ty) rfl rfl rfl rfl (by first | assumption | exact RB.wide (by assumption) | exact In.rb (by assumption)) rfl ?_
        refine WL.mv rfl rfl ?_
        refine WL.ix (T := Ty) rfl rfl rfl (by assumption) rfl rfl (by omega) (by first | omega | decide +kernel) ?_
        refine WL.ldAR (T := Ty) rfl rfl rfl rfl (by first | assumption | exact ROs.wide (by assumption)) (by assumption) rfl ?_
        refine WL.alF (T := Ty) rfl rfl (by repeat' constructor) (fun b0 => ?_)
        refine WL.stAO (T := Ty) (j := 0) rfl rfl rfl rfl (by repeat' first | exact AO.nil | apply AO.cons (by first | rfl | exact SL.one (by assumption))) rfl rfl (by repeat' constructor) (by repeat' constructor) ?_
        refine WL.nil (W.seq (W.region (WL.faN (T := Ty) (off' := 6) rfl rfl rfl rfl rfl rfl rfl (WL.ldN (T := Ty) (j := 0) rfl rfl rfl rfl rfl rfl (WL.eql rfl rfl rfl (WL.mv rfl rfl (WL.gT rfl rfl (by omega) (WL.faN (T := Ty) (off' := 3) rfl rfl rfl rfl rfl rfl rfl (WL.gT rfl rfl (by omega) (WL.ldN (T := Ty) (j := 0) rfl rfl rfl rfl rfl rfl (WL.gT rfl rfl (by omega) (WL.mv rfl rfl (WL.gT rfl rfl (by omega) ?_)))))))))))))
        refine WL.eql rfl rfl rfl (WL.gT rfl rfl (by omega) (WL.mv rfl rfl (WL.gdFn rfl rfl rfl rfl rfl (by omega) (WL.gdFn rfl rfl rfl rfl rfl (by omega) (WL.gdFn rfl rfl rfl rfl rfl (by omega) (WL.gdU rfl rfl rfl rfl rfl (WL.gdU rfl rfl rfl rfl rfl (WL.gdFn rfl rfl rfl rfl rfl (by omega) (WL.gT rfl rfl (by omega) (WL.pickTp rfl rfl (by omega) rfl (WL.pickTp rfl rfl (by omega) rfl (WL.nil (W.condT rfl ?_)))))))))))))
        refine W.seq (W.region (WL.as rfl rfl (WL.nil ?_)))
        exact W.fit (Hs' := []) (by (repeat' first | exact Sel.nil | apply Sel.k | exact Pick.h | apply Pick.t)) (W.ret1 rfl rfl (fun h q => ⟨by rw [hy hsp], q⟩))
      · rw [decide_eq_false c2, Bool.false_or] at hsp
        by_cases c3 : kd = 0
        · rw [decide_eq_true c3, Bool.true_and] at hsp
          cases hr : (decide (p.kind = 1) || decide (p.kind = 2)) with
          | true =>
            rw [hr] at hsp
            refine W.seq (W.seq (W.region (WL.mv rfl rfl (WL.mv rfl rfl (WL.nc rfl rfl (WL.faN (T := Ty) (off' := 0) rfl rfl rfl rfl rfl rfl rfl (WL.faN (T := Ty) (off' := 2) rfl rfl rfl rfl rfl rfl rfl ?_)))))))
            refine WL.ldBN (T := Ty) rfl rfl rfl rfl (by first | assumption | exact RB.wide (by assumption) | exact In.rb (by assumption)) rfl ?_
            refine WL.len (T := Ty) rfl rfl (by assumption) rfl ?_
            refine WL.lss rfl rfl rfl (WL.nil (W.condpT rfl (by omega) (W.skip (W.seq (W.block (W.seq (W.region (WL.mv rfl rfl (WL.nc rfl rfl (WL.faN (T := Ty) (off' := 0) rfl rfl rfl rfl rfl rfl rfl (WL.faN (T := Ty) (off' := 2) rfl rfl rfl rfl rfl rfl rfl ?_)))))))))))
            refine WL.ldBN (T := Ty) rfl rfl rfl rfl (by first | assumption | exact RB.wide (by assumption) | exact In.rb (by assumption)) rfl ?_
            refine WL.mv rfl rfl ?_
            refine WL.ix (T := Ty) rfl rfl rfl (by assumption) rfl rfl (by omega) (by first | omega | decide +kernel) ?_
            refine WL.ldAR (T := Ty) rfl rfl rfl rfl (by first | assumption | exact ROs.wide (by assumption)) (by assumption) rfl ?_
            refine WL.alF (T := Ty) rfl rfl (by repeat' constructor) (fun b0 => ?_)
            refine WL.stAO (T := Ty) (j := 0) rfl rfl rfl rfl (by repeat' first | exact AO.nil | apply AO.cons (by first | rfl | exact SL.one (by assumption))) rfl rfl (by repeat' constructor) (by repeat' constructor) ?_
            refine WL.nil (W.seq (W.region (WL.faN (T := Ty) (off' := 6) rfl rfl rfl rfl rfl rfl rfl (WL.ldN (T := Ty) (j := 0) rfl rfl rfl rfl rfl rfl (WL.eql rfl rfl rfl (WL.mv rfl rfl (WL.gT rfl rfl (by omega) (WL.faN (T := Ty) (off' := 3) rfl rfl rfl rfl rfl rfl rfl (WL.gT rfl rfl (by omega) (WL.ldN (T := Ty) (j := 0) rfl rfl rfl rfl rfl rfl (WL.gT rfl rfl (by omega) (WL.mv rfl rfl (WL.gT rfl rfl (by omega) ?_)))))))))))))
            refine WL.eql rfl rfl rfl (WL.gT rfl rfl (by omega) (WL.mv rfl rfl (WL.gF rfl rfl (by omega) (WL.mv rfl rfl (WL.gF rfl rfl (by omega) (WL.eql rfl rfl rfl (WL.gF rfl rfl (by omega) (WL.mv rfl rfl (WL.gT rfl rfl (by omega) ?_)))))))))
            refine WL.ldAF (T := Ty) (j := 0) rfl rfl rfl rfl rfl rfl (by repeat' constructor) ?_
            refine WL.gT rfl rfl (by omega) ?_
            refine WL.callV rfl rfl (fun x p d => residentr_c _ _ _ _ _ _ _ _) ?_
            refine WL.gF rfl rfl (by omega) (WL.pickTp rfl rfl (by omega) rfl (WL.gT rfl rfl (by omega) (WL.pickFp rfl rfl (by omega) rfl (WL.pickTp rfl rfl (by omega) rfl (WL.nil ?_)))))
            rw [hr]
            refine W.condT rfl (W.seq (W.region (WL.as rfl rfl (WL.nil ?_))))
            exact W.fit (Hs' := []) (by (repeat' first | exact Sel.nil | apply Sel.k | exact Pick.h | apply Pick.t)) (W.ret1 rfl rfl (fun h q => ⟨by rw [hy hsp], q⟩))
          | false =>
            rw [hr] at hsp
            refine W.seq (W.seq (W.region (WL.mv rfl rfl (WL.mv rfl rfl (WL.nc rfl rfl (WL.faN (T := Ty) (off' := 0) rfl rfl rfl rfl rfl rfl rfl (WL.faN (T := Ty) (off' := 2) rfl rfl rfl rfl rfl rfl rfl ?_)))))))
            refine WL.ldBN (T := Ty) rfl rfl rfl rfl (by first | assumption | exact RB.wide (by assumption) | exact In.rb (by assumption)) rfl ?_
            refine WL.len (T := Ty) rfl rfl (by assumption) rfl ?_
            refine WL.lss rfl rfl rfl (WL.nil (W.condpT rfl (by omega) (W.skip (W.seq (W.block (W.seq (W.region (WL.mv rfl rfl (WL.nc rfl rfl (WL.faN (T := Ty) (off' := 0) rfl rfl rfl rfl rfl rfl rfl (WL.faN (T := Ty) (off' := 2) rfl rfl rfl rfl rfl rfl rfl ?_)))))))))))
            refine WL.ldBN (T := Ty) rfl rfl rfl rfl (by first | assumption | exact RB.wide (by assumption) | exact In.rb (by assumption)) rfl ?_
            refine WL.mv rfl rfl ?_
            refine WL.ix (T := Ty) rfl rfl rfl (by assumption) rfl rfl (by omega) (by first | omega | decide +kernel) ?_
            refine WL.ldAR (T := Ty) rfl rfl rfl rfl (by first | assumption | exact ROs.wide (by assumption)) (by assumption) rfl ?_
            refine WL.alF (T := Ty) rfl rfl (by repeat' constructor) (fun b0 => ?_)
            refine WL.stAO (T := Ty) (j := 0) rfl rfl rfl rfl (by repeat' first | exact AO.nil | apply AO.cons (by first | rfl | exact SL.one (by assumption))) rfl rfl (by repeat' constructor) (by repeat' constructor) ?_
            refine WL.nil (W.seq (W.region (WL.faN (T := Ty) (off' := 6) rfl rfl rfl rfl rfl rfl rfl (WL.ldN (T := Ty) (j := 0) rfl rfl rfl rfl rfl rfl (WL.eql rfl rfl rfl (WL.mv rfl rfl (WL.gT rfl rfl (by omega) (WL.faN (T := Ty) (off' := 3) rfl rfl rfl rfl rfl rfl rfl (WL.gT rfl rfl (by omega) (WL.ldN (T := Ty) (j := 0) rfl rfl rfl rfl rfl rfl (WL.gT rfl rfl (by omega) (WL.mv rfl rfl (WL.gT rfl rfl (by omega) ?_)))))))))))))
            refine WL.eql rfl rfl rfl (WL.gT rfl rfl (by omega) (WL.mv rfl rfl (WL.gF rfl rfl (by omega) (WL.mv rfl rfl (WL.gF rfl rfl (by omega) (WL.eql rfl rfl rfl (WL.gF rfl rfl (by omega) (WL.mv rfl rfl (WL.gT rfl rfl (by omega) ?_)))))))))
            refine WL.ldAF (T := Ty) (j := 0) rfl rfl rfl rfl rfl rfl (by repeat' constructor) ?_
            refine WL.gT rfl rfl (by omega) ?_
            refine WL.callV rfl rfl (fun x p d => residentr_c _ _ _ _ _ _ _ _) ?_
            refine WL.gF rfl rfl (by omega) (WL.pickTp rfl rfl (by omega) rfl (WL.gT rfl rfl (by omega) (WL.pickFp rfl rfl (by omega) rfl (WL.pickTp rfl rfl (by omega) rfl (WL.nil ?_)))))
            rw [hr]
            refine W.condF rfl (W.skip (W.inBlock (W.region (WL.mv rfl rfl (WL.addK rfl rfl rfl (wrap_i64 ⟨by omega, by omega⟩) (WL.as rfl rfl (WL.nil ?_)))))))
            refine W.fit (Hs' := []) (by (repeat' first | exact Sel.nil | apply Sel.k | exact Pick.h | apply Pick.t)) (W.sub ?_ (next (i + 1) ρ1 (Le.refl _) ⟨hc, hno' hsp⟩ (by omega)))
            exact ⟨rfl, rfl, rfl, trivial⟩
        · rw [decide_eq_false c3, Bool.false_and] at hsp
          refine W.seq (W.seq (W.region (WL.mv rfl rfl (WL.mv rfl rfl (WL.nc rfl rfl (WL.faN (T := Ty) (off' := 0) rfl rfl rfl rfl rfl rfl rfl (WL.faN (T := Ty) (off' := 2) rfl rfl rfl rfl rfl rfl rfl ?_)))))))
          refine WL.ldBN (T := Ty) rfl rfl rfl rfl (by first | assumption | exact RB.wide (by assumption) | exact In.rb (by assumption)) rfl ?_
          refine WL.len (T := Ty) rfl rfl (by assumption) rfl ?_
          refine WL.lss rfl rfl rfl (WL.nil (W.condpT rfl (by omega) (W.skip (W.seq (W.block (W.seq (W.region (WL.mv rfl rfl (WL.nc rfl rfl (WL.faN (T := Ty) (off' := 0) rfl rfl rfl rfl rfl rfl rfl (WL.faN (T := Ty) (off' := 2) rfl rfl rfl rfl rfl rfl rfl ?_)))))))))))
          refine WL.ldBN (T := Ty) rfl rfl rfl rfl (by first | assumption | exact RB.wide (by assumption) | exact In.rb (by assumption)) rfl ?_
          refine WL.mv rfl rfl ?_
          refine WL.ix (T := Ty) rfl rfl rfl (by assumption) rfl rfl (by omega) (by first | omega | decide +kernel) ?_
          refine WL.ldAR (T := Ty) rfl rfl rfl rfl (by first | assumption | exact ROs.wide (by assumption)) (by assumption) rfl ?_
          refine WL.alF (T := Ty) rfl rfl (by repeat' constructor) (fun b0 => ?_)
          refine WL.stAO (T := Ty) (j := 0) rfl rfl rfl rfl (by repeat' first | exact AO.nil | apply AO.cons (by first | rfl | exact SL.one (by assumption))) rfl rfl (by repeat' constructor) (by repeat' constructor) ?_
          refine WL.nil (W.seq (W.region (WL.faN (T := Ty) (off' := 6) rfl rfl rfl rfl rfl rfl rfl (WL.ldN (T := Ty) (j := 0) rfl rfl rfl rfl rfl rfl (WL.eql rfl rfl rfl (WL.mv rfl rfl (WL.gT rfl rfl (by omega) (WL.faN (T := Ty) (off' := 3) rfl rfl rfl rfl rfl rfl rfl (WL.gT rfl rfl (by omega) (WL.ldN (T := Ty) (j := 0) rfl rfl rfl rfl rfl rfl (WL.gT rfl rfl (by omega) (WL.mv rfl rfl (WL.gT rfl rfl (by omega) ?_)))))))))))))
          refine WL.eql rfl rfl rfl (WL.gT rfl rfl (by omega) (WL.mv rfl rfl (WL.gF rfl rfl (by omega) (WL.mv rfl rfl (WL.gF rfl rfl (by omega) (WL.eql rfl rfl rfl (WL.gF rfl rfl (by omega) (WL.mv rfl rfl (WL.gdTn rfl rfl rfl rfl rfl (by omega) (WL.gdTn rfl rfl rfl rfl rfl (by omega) (WL.gF rfl rfl (by omega) (WL.pickFp rfl rfl (by omega) rfl (WL.gT rfl rfl (by omega) ?_)))))))))))))
          refine WL.pickFp rfl rfl (by omega) rfl (WL.pickTp rfl rfl (by omega) rfl (WL.nil (W.condF rfl (W.skip (W.inBlock (W.region (WL.mv rfl rfl (WL.addK rfl rfl rfl (wrap_i64 ⟨by omega, by omega⟩) (WL.as rfl rfl (WL.nil ?_))))))))))
          refine W.fit (Hs' := []) (by (repeat' first | exact Sel.nil | apply Sel.k | exact Pick.h | apply Pick.t)) (W.sub ?_ (next (i + 1) ρ1 (Le.refl _) ⟨hc, hno' hsp⟩ (by omega)))
          exact ⟨rfl, rfl, rfl, trivial⟩
    · rw [decide_eq_false c1, Bool.false_and] at hsp
      refine W.seq (W.seq (W.region (WL.mv rfl rfl (WL.mv rfl rfl (WL.nc rfl rfl (WL.faN (T := Ty) (off' := 0) rfl rfl rfl rfl rfl rfl rfl (WL.faN (T := Ty) (off' := 2) rfl rfl rfl rfl rfl rfl rfl ?_)))))))
      refine WL.ldBN (T := Ty) rfl rfl rfl rfl (by first | assumption | exact RB.wide (by assumption) | exact In.rb (by assumption)) rfl ?_
      refine WL.len (T := Ty) rfl rfl (by assumption) rfl ?_
      refine WL.lss rfl rfl rfl (WL.nil (W.condpT rfl (by omega) (W.skip (W.seq (W.block (W.seq (W.region (WL.mv rfl rfl (WL.nc rfl rfl (WL.faN (T := Ty) (off' := 0) rfl rfl rfl rfl rfl rfl rfl (WL.faN (T := Ty) (off' := 2) rfl rfl rfl rfl rfl rfl rfl ?_)))))))))))
      refine WL.ldBN (T := Ty) rfl rfl rfl rfl (by first | assumption | exact RB.wide (by assumption) | exact In.rb (by assumption)) rfl ?_
      refine WL.mv rfl rfl ?_
      refine WL.ix (T := Ty) rfl rfl rfl (by assumption) rfl rfl (by omega) (by first | omega | decide +kernel) ?_
      refine WL.ldAR (T := Ty) rfl rfl rfl rfl (by first | assumption | exact ROs.wide (by assumption)) (by assumption) rfl ?_
      refine WL.alF (T := Ty) rfl rfl (by repeat' constructor) (fun b0 => ?_)
      refine WL.stAO (T := Ty) (j := 0) rfl rfl rfl rfl (by repeat' first | exact AO.nil | apply AO.cons (by first | rfl | exact SL.one (by assumption))) rfl rfl (by repeat' constructor) (by repeat' constructor) ?_
      refine WL.nil (W.seq (W.region (WL.faN (T := Ty) (off' := 6) rfl rfl rfl rfl rfl rfl rfl (WL.ldN (T := Ty) (j := 0) rfl rfl rfl rfl rfl rfl (WL.eql rfl rfl rfl (WL.mv rfl rfl (WL.gdTn rfl rfl rfl rfl rfl (by omega) (WL.gdTn rfl rfl rfl rfl rfl (by omega) (WL.gdTn rfl rfl rfl rfl rfl (by omega) (WL.gdTn rfl rfl rfl rfl rfl (by omega) (WL.gdTn rfl rfl rfl rfl rfl (by omega) (WL.gdU rfl rfl rfl rfl rfl (WL.gdU rfl rfl rfl rfl rfl ?_)))))))))))))
      refine WL.gdU rfl rfl rfl rfl rfl (WL.gdU rfl rfl rfl rfl rfl (WL.gdU rfl rfl rfl rfl rfl (WL.gdU rfl rfl rfl rfl rfl (WL.gdTn rfl rfl rfl rfl rfl (by omega) (WL.pickFp rfl rfl (by omega) rfl (WL.nil (W.condF rfl (W.skip (W.inBlock (W.region (WL.mv rfl rfl (WL.addK rfl rfl rfl (wrap_i64 ⟨by omega, by omega⟩) (WL.as rfl rfl ?_)))))))))))))
      refine WL.nil ?_
      refine W.fit (Hs' := []) (by (repeat' first | exact Sel.nil | apply Sel.k | exact Pick.h | apply Pick.t)) (W.sub ?_ (next (i + 1) ρ1 (Le.refl _) ⟨hc, hno' hsp⟩ (by omega)))
      exact ⟨rfl, rfl, rfl, trivial⟩
  · have hiL : L.take i = L := List.take_of_length_le (by omega)
    rw [hiL] at hno
    refine W.seq (W.seq (W.region (WL.mv rfl rfl (WL.mv rfl rfl (WL.nc rfl rfl (WL.faN (T := Ty) (off' := 0) rfl rfl rfl rfl rfl rfl rfl (WL.faN (T := Ty) (off' := 2) rfl rfl rfl rfl rfl rfl rfl ?_)))))))
    refine WL.ldBN (T := Ty) rfl rfl rfl rfl (by first | assumption | exact RB.wide (by assumption) | exact In.rb (by assumption)) rfl ?_
    refine WL.len (T := Ty) rfl rfl (by assumption) rfl ?_
    refine WL.lss rfl rfl rfl (WL.nil (W.condpF rfl (by omega) (W.exit rfl (W.seq (W.region (WL.as rfl rfl (WL.nil ?_)))))))
    exact W.ret1 rfl rfl (fun h q => ⟨by rw [any_none hno], q⟩)
theorem loosr0_c (ρ : Hp) (b : Nat) (mo ta : Int) (v o : Value) (L : List Pg) (h1 h2 h3 : Int) (hK : cnt badK L = 0) (rb : RB ρ b [.int .i64 mo, .int .i64 ta, v, .int .i64 h1, .int .i64 h2, .int .i64 h3, o] 145) (r0 : ROs ρ 7 v (L.flatMap pgC)) (hl : L.length ≤ 1000000) :
    Fn Try.prog 105 #[pt b 0, .int .i64 0] ρ [] (Just (.bool (decide (cnt isFree L ≠ 0)))) := by
  rw [cnt_ne]
  refine loosr_c ρ b 0 isFree mo ta v o L h1 h2 h3 rb r0 hl (fun p hp => ?_)
  have hk := allNot hK hp
  have h0 : p.kind ≠ 0 := by
    intro e
    unfold badK at hk
    rw [e] at hk
    cases hk
  rw [decide_eq_false h0]
  unfold isFree isRes
  rw [Bool.and_comm]
  simp
theorem loosr2_c (ρ : Hp) (b : Nat) (mo ta : Int) (v o : Value) (L : List Pg) (h1 h2 h3 : Int) (rb : RB ρ b [.int .i64 mo, .int .i64 ta, v, .int .i64 h1, .int .i64 h2, .int .i64 h3, o] 145) (r0 : ROs ρ 7 v (L.flatMap pgC)) (hl : L.length ≤ 1000000) :
    Fn Try.prog 105 #[pt b 0, .int .i64 2] ρ [] (Just (.bool (decide (cnt isCold L ≠ 0)))) := by
  rw [cnt_ne]
  refine loosr_c ρ b 2 isCold mo ta v o L h1 h2 h3 rb r0 hl (fun p hp => ?_)
  unfold isCold
  rw [Bool.and_comm]
  simp
end Go.Proofs.Ytbebhmdjnneimaa

/- The document's ring: the hand Cold turns. -/
set_option linter.unusedSimpArgs false
set_option linter.unusedVariables false
set_option maxRecDepth 20000
set_option maxHeartbeats 4000000
namespace Go.Proofs.Ytbebhmdjnneimaa
open Go
/-- the document's ring in a variable, and the row of what was put out -/
def RgX (b : Nat) (c : Clk) (out : List Ky) (r : Value) : HP := fun h => ∃ x : Value × Value, (r = .tuple #[] ∧ SL x.1 c.pages.length ∧ SL x.2 out.length) ∧ sepl [box b [.int .i64 c.most, .int .i64 c.target, x.1, .int .i64 (c.hot : Int), .int .i64 (c.cold : Int), .int .i64 (c.test : Int), x.2] 145, Buf 7 x.1 (c.pages.flatMap pgC), Buf 3 x.2 (out.flatMap kyC)] h
attribute [local irreducible] W WL Fn Buf ROs SL eptr box Rd Src bndOK WD RB Reads In Own fndK cnt handG handC hotL hotT testL testT coolL overL freeL coldL goesP
theorem coldr_c (ρ : Hp) (b : Nat) (c : Clk) (v o : Value) (out : List Ky) (n : Nat) (d : Clk) (k : Ky) (hG : RefG c) (hF : cnt isFree c.pages ≠ 0) (sv : SL v c.pages.length) (so : SL o out.length) (ho : out.length ≤ 1000000) (hh : coldL n c = some (d, k)) :
    Fn Try.prog 108 #[pt b 0] ρ [box b [.int .i64 c.most, .int .i64 c.target, v, .int .i64 (c.hot : Int), .int .i64 (c.cold : Int), .int .i64 (c.test : Int), o] 145, Buf 7 v (c.pages.flatMap pgC), Buf 3 o (out.flatMap kyC)] (RgX b d (out ++ [k])) := by
  have l3 := ky_cells out
  refine in108 rfl rfl ?_
  refine W.block ?_
  refine W.loopR (σ := Nat × Clk × Value) (fun s => [(0, pt b 0)])
    (fun s => [box b [.int .i64 s.2.1.most, .int .i64 s.2.1.target, s.2.2, .int .i64 (s.2.1.hot : Int), .int .i64 (s.2.1.cold : Int), .int .i64 (s.2.1.test : Int), o] 145, Buf 7 s.2.2 (s.2.1.pages.flatMap pgC), Buf 3 o (out.flatMap kyC)])
    (fun s ρ' => coldL s.1 s.2.1 = some (d, k) ∧ RefG s.2.1 ∧ SL s.2.2 s.2.1.pages.length ∧ cnt isFree s.2.1.pages ≠ 0) (fun s => s.1)
    (n, c, v) ⟨rfl, trivial⟩ rfl ⟨hh, hG, sv, hF⟩ ?_
  clear hh hG sv hF n c v
  rintro ⟨n, c, v⟩ ρ1 le1 ⟨hh, hG, sv, hF⟩ next
  dsimp only at hh hG sv hF next ⊢
  cases n with
  | zero => unfold coldL at hh; cases hh
  | succ n =>
    rw [coldL_s] at hh
    have hK := hG.K
    have hln := hG.B.ln
    cases hx : freeL n c with
    | none => rw [hx] at hh; cases hh
    | some x =>
      rw [hx] at hh
      simp only [Option.bind_some] at hh
      refine W.seq (W.seq (W.region (WL.mv rfl rfl ?_)))
      refine WL.callV rfl rfl (fun x p d => loosr0_c _ _ _ _ _ _ _ _ _ _ (by assumption) (by first | assumption | exact RB.wide (by assumption) | exact In.rb (by assumption) | exact RB.mono (by assumption) (eqh_at 0 rfl p d) | exact (in_at 0 rfl p d).rb | exact (in_at 1 rfl p d).rb | exact (in_at 2 rfl p d).rb | exact (in_at 3 rfl p d).rb | exact (in_at 4 rfl p d).rb | exact (in_at 5 rfl p d).rb | exact (in_at 6 rfl p d).rb | exact (in_at 7 rfl p d).rb) (by first | assumption | exact ROs.wide (by assumption) | exact ROs.mono (by assumption) (eqh_at 0 rfl p d) | exact ros_at 0 rfl p d | exact ros_at 1 rfl p d | exact ros_at 2 rfl p d | exact ros_at 3 rfl p d | exact ros_at 4 rfl p d) (by first | assumption | omega)) ?_
      refine WL.nil (W.condpT rfl (by omega) (W.skip (W.block (W.seq (W.block ?_)))))
      refine W.loopR (σ := Nat × Clk × Value) (fun s => [(0, pt b 0)])
        (fun s => [box b [.int .i64 s.2.1.most, .int .i64 s.2.1.target, s.2.2, .int .i64 (s.2.1.hot : Int), .int .i64 (s.2.1.cold : Int), .int .i64 (s.2.1.test : Int), o] 145, Buf 7 s.2.2 (s.2.1.pages.flatMap pgC), Buf 3 o (out.flatMap kyC)])
        (fun s ρ' => freeL s.1 s.2.1 = some x ∧ RefG s.2.1 ∧ SL s.2.2 s.2.1.pages.length ∧ cnt isFree s.2.1.pages ≠ 0) (fun s => s.1)
        (n, c, v) ⟨rfl, trivial⟩ rfl ⟨hx, hG, sv, hF⟩ ?_
      clear hx hG sv hF c v hK hln
      rintro ⟨m, c, v⟩ ρ2 le2 ⟨hx, hG, sv, hF⟩ next2
      dsimp only at hx hG sv hF next2 ⊢
      cases m with
      | zero => unfold freeL at hx; cases hx
      | succ m =>
        rw [freeL_s] at hx
        have hK := hG.K
        have hln := hG.B.ln
        have l1 := pgs_cells c.pages
        have hc1 := cnt_le isCold c.pages
        by_cases hz : cnt isCold c.pages = 0
        · rw [if_pos hz] at hx
          cases hy : hotT m c with
          | none => rw [hy] at hx; cases hx
          | some y =>
            rw [hy] at hx
            have hG' := hG.hotT hy
            have hF' : cnt isFree y.pages ≠ 0 := by rw [hotT_keep keepFree hy]; exact hF
            refine W.seq (W.seq (W.region (WL.mv rfl rfl ?_)))
            refine WL.callV rfl rfl (fun x p d => loosr2_c _ _ _ _ _ _ _ _ _ _ (by first | assumption | exact RB.wide (by assumption) | exact In.rb (by assumption) | exact RB.mono (by assumption) (eqh_at 0 rfl p d) | exact (in_at 0 rfl p d).rb | exact (in_at 1 rfl p d).rb | exact (in_at 2 rfl p d).rb | exact (in_at 3 rfl p d).rb | exact (in_at 4 rfl p d).rb | exact (in_at 5 rfl p d).rb | exact (in_at 6 rfl p d).rb | exact (in_at 7 rfl p d).rb) (by first | assumption | exact ROs.wide (by assumption) | exact ROs.mono (by assumption) (eqh_at 0 rfl p d) | exact ros_at 0 rfl p d | exact ros_at 1 rfl p d | exact ros_at 2 rfl p d | exact ros_at 3 rfl p d | exact ros_at 4 rfl p d) (by first | assumption | omega)) ?_
            refine WL.notp rfl rfl (WL.nil (W.condpT rfl (by omega) (W.skip (W.block (W.region (WL.mv rfl rfl ?_))))))
            refine WL.callTk (Take.cons 0 rfl (Take.cons 0 rfl Take.nil)) rfl rfl (fun x p d => hotr_c _ _ _ _ _ _ _ (by assumption) (by assumption) (by assumption)) (by repeat' constructor) (fun r0 => ?_)
            refine WL.opens (α := Value) (φ := fun v => r0 = .tuple #[] ∧ SL v _) (ps := fun v => RgO _ _ _ v) 0 rfl (fun h q => q) (by repeat' constructor) ?_
            rintro u0 ⟨es0, su0⟩
            subst es0
            dsimp only [RgO, List.cons_append, List.nil_append] at su0 ⊢
            refine WL.nil (W.inBlock ?_)
            refine W.fit (Hs' := [box b _ _, Buf 7 _ _, Buf 3 o _]) (by (repeat' first | exact Sel.nil | apply Sel.k | exact Pick.h | apply Pick.t)) (W.sub ?_ (next2 ⟨m, y, _⟩ ρ2 (Le.refl _) ⟨hx, hG', by assumption, hF'⟩ (by dsimp only; omega)))
            exact ⟨rfl, trivial⟩
        · rw [if_neg hz] at hx
          have ex := Option.some.inj hx
          subst ex
          cases hp : c.pages[c.cold]? with
          | none => rw [hp] at hh; cases hh
          | some p =>
            rw [hp] at hh
            dsimp only at hh
            have hpl := (List.getElem?_eq_some_iff.1 hp).1
            have hrow : ((c.pages.flatMap pgC).drop (((c.cold : Nat) : Int).toNat * 7)).take 7 = pgC p := flat_row pg_len hp
            unfold pgC at hrow
            have hput : ∀ (q : Pg) (cs : List Value), pgC q = cs → (c.pages.flatMap pgC).take (((c.cold : Nat) : Int).toNat * 7) ++ cs ++ (c.pages.flatMap pgC).drop (((c.cold : Nat) : Int).toNat * 7 + cs.length) = (c.pages.set c.cold q).flatMap pgC := fun q cs e => by subst e; exact flat_put pg_len hpl
            have nS : ∀ q : Pg, SL v (c.pages.set c.cold q).length := fun q => by rw [List.length_set]; exact sv
            have le12 : Le ρ1 ρ2 := le2
            have k1 := hG.R.h1
            have k2 := hG.R.h2
            have k3 := hG.R.h3
            have hp0 := hG.pins hp
            cases hcf : isCold p with
            | false =>
              rw [if_pos hcf] at hh
              by_cases kk : p.kind = 2
              · have kp : 0 < p.pins := by
                  unfold isCold at hcf
                  rw [decide_eq_true kk, Bool.true_and] at hcf
                  have := of_decide_eq_false hcf
                  omega
                refine W.seq (W.seq (W.region (WL.mv rfl rfl ?_)))
                refine WL.callV rfl rfl (fun x p d => loosr2_c _ _ _ _ _ _ _ _ _ _ (by first | assumption | exact RB.wide (by assumption) | exact In.rb (by assumption) | exact RB.mono (by assumption) (eqh_at 0 rfl p d) | exact (in_at 0 rfl p d).rb | exact (in_at 1 rfl p d).rb | exact (in_at 2 rfl p d).rb | exact (in_at 3 rfl p d).rb | exact (in_at 4 rfl p d).rb | exact (in_at 5 rfl p d).rb | exact (in_at 6 rfl p d).rb | exact (in_at 7 rfl p d).rb) (by first | assumption | exact ROs.wide (by assumption) | exact ROs.mono (by assumption) (eqh_at 0 rfl p d) | exact ros_at 0 rfl p d | exact ros_at 1 rfl p d | exact ros_at 2 rfl p d | exact ros_at 3 rfl p d | exact ros_at 4 rfl p d) (by first | assumption | omega)) ?_
                refine WL.notp rfl rfl (WL.nil (W.condpF rfl (by omega) (W.exit rfl (W.seq (W.region (WL.mv rfl rfl (WL.nc rfl rfl (WL.faN (T := Ty) (off' := 0) rfl rfl rfl rfl rfl rfl rfl (WL.faN (T := Ty) (off' := 4) rfl rfl rfl rfl rfl rfl rfl (WL.ldN (T := Ty) (j := 0) rfl rfl rfl rfl rfl rfl (WL.as rfl rfl (WL.nil (W.seq ?_)))))))))))))
                refine W.region (WL.mv rfl rfl (WL.nc rfl rfl (WL.faN (T := Ty) (off' := 0) rfl rfl rfl rfl rfl rfl rfl (WL.faN (T := Ty) (off' := 2) rfl rfl rfl rfl rfl rfl rfl (WL.ldN (T := Ty) (j := 0) rfl rfl rfl rfl rfl rfl (WL.mv rfl rfl ?_))))))
                refine WL.ix (T := Ty) rfl rfl rfl (by assumption) rfl rfl (by omega) (by first | omega | decide +kernel) ?_
                refine WL.ldAE (T := Ty) (j := 1) rfl rfl rfl rfl rfl (by assumption) rfl ?_
                refine WL.alF (T := Ty) rfl rfl (by repeat' constructor) (fun b0 => ?_)
                refine WL.stAO (T := Ty) (j := 0) rfl rfl rfl rfl (by repeat' first | exact AO.nil | apply AO.cons (by first | rfl | exact SL.one (by assumption))) rfl rfl (by repeat' constructor) (by repeat' constructor) ?_
                refine WL.nil (W.seq (W.seq (W.region (WL.faN (T := Ty) (off' := 3) rfl rfl rfl rfl rfl rfl rfl (WL.ldN (T := Ty) (j := 0) rfl rfl rfl rfl rfl rfl (WL.neq rfl rfl rfl (WL.mv rfl rfl (WL.gF rfl rfl (by omega) (WL.faN (T := Ty) (off' := 6) rfl rfl rfl rfl rfl rfl rfl (WL.gF rfl rfl (by omega) (WL.ldN (T := Ty) (j := 0) rfl rfl rfl rfl rfl rfl (WL.gF rfl rfl (by omega) (WL.gtr rfl rfl rfl ?_)))))))))))))
                refine WL.pickFp rfl rfl (by omega) rfl (WL.nil (W.condpT rfl (by omega) (W.seq (W.region (WL.mv rfl rfl (WL.mv rfl rfl (WL.mv rfl rfl ?_)))))))
                refine WL.callV rfl rfl (fun x p d => onr_c _ _ _ _ _ _ _ _ _ _ _ (by first | assumption | exact RB.wide (by assumption) | exact In.rb (by assumption) | exact RB.mono (by assumption) (eqh_at 0 rfl p d) | exact (in_at 0 rfl p d).rb | exact (in_at 1 rfl p d).rb | exact (in_at 2 rfl p d).rb | exact (in_at 3 rfl p d).rb | exact (in_at 4 rfl p d).rb | exact (in_at 5 rfl p d).rb | exact (in_at 6 rfl p d).rb | exact (in_at 7 rfl p d).rb) (by assumption) (by first | assumption | omega) (by first | assumption | omega)) ?_
                refine WL.nc rfl rfl (WL.faN (T := Ty) (off' := 0) rfl rfl rfl rfl rfl rfl rfl (WL.faN (T := Ty) (off' := 4) rfl rfl rfl rfl rfl rfl rfl ?_))
                refine WL.stF (T := Ty) (j := 1) rfl rfl rfl rfl rfl rfl rfl (by repeat' constructor) (by repeat' constructor) ?_
                refine WL.nil (W.exit rfl ?_)
                refine W.fit (Hs' := [box b _ _, Buf 7 _ _, Buf 3 o _]) (by (repeat' first | exact Sel.nil | apply Sel.k | exact Pick.h | apply Pick.t)) (W.sub ?_ (next ⟨n, { c with cold := onP c c.cold }, v⟩ ρ2 le12 ⟨hh, hG.coldS (by omega), sv, hF⟩ (by dsimp only; omega)))
                exact ⟨rfl, trivial⟩
              · refine W.seq ?_
                refine W.seq (W.region (WL.mv rfl rfl ?_))
                refine WL.callV rfl rfl (fun x p d => loosr2_c _ _ _ _ _ _ _ _ _ _ (by first | assumption | exact RB.wide (by assumption) | exact In.rb (by assumption) | exact RB.mono (by assumption) (eqh_at 0 rfl p d) | exact (in_at 0 rfl p d).rb | exact (in_at 1 rfl p d).rb | exact (in_at 2 rfl p d).rb | exact (in_at 3 rfl p d).rb | exact (in_at 4 rfl p d).rb | exact (in_at 5 rfl p d).rb | exact (in_at 6 rfl p d).rb | exact (in_at 7 rfl p d).rb) (by first | assumption | exact ROs.wide (by assumption) | exact ROs.mono (by assumption) (eqh_at 0 rfl p d) | exact ros_at 0 rfl p d | exact ros_at 1 rfl p d | exact ros_at 2 rfl p d | exact ros_at 3 rfl p d | exact ros_at 4 rfl p d) (by first | assumption | omega)) ?_
                refine WL.notp rfl rfl (WL.nil (W.condpF rfl (by omega) (W.exit rfl (W.seq (W.region (WL.mv rfl rfl (WL.nc rfl rfl (WL.faN (T := Ty) (off' := 0) rfl rfl rfl rfl rfl rfl rfl (WL.faN (T := Ty) (off' := 4) rfl rfl rfl rfl rfl rfl rfl (WL.ldN (T := Ty) (j := 0) rfl rfl rfl rfl rfl rfl (WL.as rfl rfl (WL.nil (W.seq ?_)))))))))))))
                refine W.region (WL.mv rfl rfl (WL.nc rfl rfl (WL.faN (T := Ty) (off' := 0) rfl rfl rfl rfl rfl rfl rfl (WL.faN (T := Ty) (off' := 2) rfl rfl rfl rfl rfl rfl rfl (WL.ldN (T := Ty) (j := 0) rfl rfl rfl rfl rfl rfl (WL.mv rfl rfl ?_))))))
                refine WL.ix (T := Ty) rfl rfl rfl (by assumption) rfl rfl (by omega) (by first | omega | decide +kernel) ?_
                refine WL.ldAE (T := Ty) (j := 1) rfl rfl rfl rfl rfl (by assumption) rfl ?_
                refine WL.alF (T := Ty) rfl rfl (by repeat' constructor) (fun b0 => ?_)
                refine WL.stAO (T := Ty) (j := 0) rfl rfl rfl rfl (by repeat' first | exact AO.nil | apply AO.cons (by first | rfl | exact SL.one (by assumption))) rfl rfl (by repeat' constructor) (by repeat' constructor) ?_
                refine WL.nil (W.seq (W.seq (W.region (WL.faN (T := Ty) (off' := 3) rfl rfl rfl rfl rfl rfl rfl (WL.ldN (T := Ty) (j := 0) rfl rfl rfl rfl rfl rfl (WL.neq rfl rfl rfl (WL.mv rfl rfl (WL.gdFn rfl rfl rfl rfl rfl (by omega) (WL.gdFn rfl rfl rfl rfl rfl (by omega) (WL.gdFn rfl rfl rfl rfl rfl (by omega) (WL.pickTp rfl rfl (by omega) rfl (WL.nil (W.condT rfl ?_)))))))))))))
                refine W.seq (W.region (WL.mv rfl rfl (WL.mv rfl rfl (WL.mv rfl rfl ?_))))
                refine WL.callV rfl rfl (fun x p d => onr_c _ _ _ _ _ _ _ _ _ _ _ (by first | assumption | exact RB.wide (by assumption) | exact In.rb (by assumption) | exact RB.mono (by assumption) (eqh_at 0 rfl p d) | exact (in_at 0 rfl p d).rb | exact (in_at 1 rfl p d).rb | exact (in_at 2 rfl p d).rb | exact (in_at 3 rfl p d).rb | exact (in_at 4 rfl p d).rb | exact (in_at 5 rfl p d).rb | exact (in_at 6 rfl p d).rb | exact (in_at 7 rfl p d).rb) (by assumption) (by first | assumption | omega) (by first | assumption | omega)) ?_
                refine WL.nc rfl rfl (WL.faN (T := Ty) (off' := 0) rfl rfl rfl rfl rfl rfl rfl (WL.faN (T := Ty) (off' := 4) rfl rfl rfl rfl rfl rfl rfl ?_))
                refine WL.stF (T := Ty) (j := 1) rfl rfl rfl rfl rfl rfl rfl (by repeat' constructor) (by repeat' constructor) ?_
                refine WL.nil (W.exit rfl ?_)
                refine W.fit (Hs' := [box b _ _, Buf 7 _ _, Buf 3 o _]) (by (repeat' first | exact Sel.nil | apply Sel.k | exact Pick.h | apply Pick.t)) (W.sub ?_ (next ⟨n, { c with cold := onP c c.cold }, v⟩ ρ2 le12 ⟨hh, hG.coldS (by omega), sv, hF⟩ (by dsimp only; omega)))
                exact ⟨rfl, trivial⟩
            | true =>
              obtain ⟨kk, kp⟩ := isCold_of (p := p) (by rw [hcf]; decide)
              rw [if_neg (by rw [hcf]; decide)] at hh
              rw [kk] at hrow
              cases hr : p.ref with
              | true =>
                rw [hr] at hrow
                cases ht : p.trial with
                | true =>
                  rw [if_pos ⟨hr, ht⟩] at hh
                  rw [ht] at hrow
                  have hx1 := hput { p with kind := 1, ref := false, trial := false } [.int .i64 p.key.a, .int .i64 p.key.b, .int .i64 p.key.c, .int .i64 1, .bool false, .bool false, .int .i64 p.pins] rfl
                  have hGn : RefG { setP c c.cold { p with kind := 1, ref := false, trial := false } with cold := onP c c.cold } := hG.setCold hp (badK_1 rfl) rfl
                  have hFn : cnt isFree (c.pages.set c.cold { p with kind := 1, ref := false, trial := false }) ≠ 0 := by
                    rw [cnt_set_eq hp (by unfold isFree isRes; rw [kk]; rfl)]; exact hF
                  cases hy : coolL n { setP c c.cold { p with kind := 1, ref := false, trial := false } with cold := onP c c.cold } with
                  | none => rw [hy] at hh; cases hh
                  | some y =>
                    rw [hy] at hh
                    simp only [Option.bind_some] at hh
                    have hGy := hGn.coolL hy
                    have hFy : cnt isFree y.pages ≠ 0 := by rw [coolL_keep keepFree _ _ _ hy]; exact hFn
                    refine W.seq (W.seq (W.region (WL.mv rfl rfl ?_)))
                    refine WL.callV rfl rfl (fun x p d => loosr2_c _ _ _ _ _ _ _ _ _ _ (by first | assumption | exact RB.wide (by assumption) | exact In.rb (by assumption) | exact RB.mono (by assumption) (eqh_at 0 rfl p d) | exact (in_at 0 rfl p d).rb | exact (in_at 1 rfl p d).rb | exact (in_at 2 rfl p d).rb | exact (in_at 3 rfl p d).rb | exact (in_at 4 rfl p d).rb | exact (in_at 5 rfl p d).rb | exact (in_at 6 rfl p d).rb | exact (in_at 7 rfl p d).rb) (by first | assumption | exact ROs.wide (by assumption) | exact ROs.mono (by assumption) (eqh_at 0 rfl p d) | exact ros_at 0 rfl p d | exact ros_at 1 rfl p d | exact ros_at 2 rfl p d | exact ros_at 3 rfl p d | exact ros_at 4 rfl p d) (by first | assumption | omega)) ?_
                    refine WL.notp rfl rfl (WL.nil (W.condpF rfl (by omega) (W.exit rfl (W.seq (W.region (WL.mv rfl rfl (WL.nc rfl rfl (WL.faN (T := Ty) (off' := 0) rfl rfl rfl rfl rfl rfl rfl (WL.faN (T := Ty) (off' := 4) rfl rfl rfl rfl rfl rfl rfl (WL.ldN (T := Ty) (j := 0) rfl rfl rfl rfl rfl rfl (WL.as rfl rfl (WL.nil (W.seq ?_)))))))))))))
                    refine W.region (WL.mv rfl rfl (WL.nc rfl rfl (WL.faN (T := Ty) (off' := 0) rfl rfl rfl rfl rfl rfl rfl (WL.faN (T := Ty) (off' := 2) rfl rfl rfl rfl rfl rfl rfl (WL.ldN (T := Ty) (j := 0) rfl rfl rfl rfl rfl rfl (WL.mv rfl rfl ?_))))))
                    refine WL.ix (T := Ty) rfl rfl rfl (by assumption) rfl rfl (by omega) (by first | omega | decide +kernel) ?_
                    refine WL.ldAE (T := Ty) (j := 1) rfl rfl rfl rfl rfl (by assumption) rfl ?_
                    refine WL.alF (T := Ty) rfl rfl (by repeat' constructor) (fun b0 => ?_)
                    refine WL.stAO (T := Ty) (j := 0) rfl rfl rfl rfl (by repeat' first | exact AO.nil | apply AO.cons (by first | rfl | exact SL.one (by assumption))) rfl rfl (by repeat' constructor) (by repeat' constructor) ?_
                    refine WL.nil (W.seq (W.seq (W.region (WL.faN (T := Ty) (off' := 3) rfl rfl rfl rfl rfl rfl rfl (WL.ldN (T := Ty) (j := 0) rfl rfl rfl rfl rfl rfl (WL.neq rfl rfl rfl (WL.mv rfl rfl (WL.gY rfl rfl (WL.faN (T := Ty) (off' := 6) rfl rfl rfl rfl rfl rfl rfl (WL.gY rfl rfl (WL.ldN (T := Ty) (j := 0) rfl rfl rfl rfl rfl rfl (WL.gY rfl rfl (WL.gtr rfl rfl rfl ?_)))))))))))))
                    refine WL.pickF rfl rfl rfl (WL.nil (W.condpF rfl (by omega) (W.skip (W.seq (W.seq (W.region (WL.faN (T := Ty) (off' := 4) rfl rfl rfl rfl rfl rfl rfl (WL.ldN (T := Ty) (j := 0) rfl rfl rfl rfl rfl rfl (WL.nil (W.condT rfl (W.seq (W.seq (W.region ?_)))))))))))))
                    refine WL.faN (T := Ty) (off' := 5) rfl rfl rfl rfl rfl rfl rfl (WL.ldN (T := Ty) (j := 0) rfl rfl rfl rfl rfl rfl (WL.nil (W.condT rfl (W.region (WL.faN (T := Ty) (off' := 3) rfl rfl rfl rfl rfl rfl rfl ?_)))))
                    refine WL.stF (T := Ty) (j := 0) rfl rfl rfl rfl rfl rfl rfl (by repeat' constructor) (by repeat' constructor) ?_
                    refine WL.faN (T := Ty) (off' := 5) rfl rfl rfl rfl rfl rfl rfl ?_
                    refine WL.stF (T := Ty) (j := 0) rfl rfl rfl rfl rfl rfl rfl (by repeat' constructor) (by repeat' constructor) ?_
                    refine WL.nil (W.seq (W.region (WL.faN (T := Ty) (off' := 4) rfl rfl rfl rfl rfl rfl rfl ?_)))
                    refine WL.stF (T := Ty) (j := 0) rfl rfl rfl rfl rfl rfl rfl (by repeat' constructor) (by repeat' constructor) ?_
                    refine WL.nil (W.seq ?_)
                    refine W.drawA 7 rfl (fun σ0 hσ0 dσ0 => ?_)
                    have fσ0_0 := rb_at 0 rfl hσ0 dσ0
                    have fσ0_1 := rb_at 1 rfl hσ0 dσ0
                    have fσ0_2 := ros_at 2 rfl hσ0 dσ0
                    have fσ0_3 := ros_at 3 rfl hσ0 dσ0
                    refine WD.takeL 0 rfl (by decide +kernel) (WL.mv rfl rfl (WL.nilT (WD.takeL 1 rfl (by decide +kernel) (WL.nc rfl rfl (WL.nilT (WD.takeL 2 rfl (by decide +kernel) (WL.faN (T := Ty) (off' := 0) rfl rfl rfl rfl rfl rfl rfl (WL.nilT (WD.takeL 3 rfl (by decide +kernel) (WL.faN (T := Ty) (off' := 2) rfl rfl rfl rfl rfl rfl rfl (WL.nilT (WD.takeL 4 rfl (by decide +kernel) ?_))))))))))))
                    refine WL.ldBN (T := Ty) rfl rfl rfl rfl (by first | assumption | exact RB.wide (by assumption) | exact In.rb (by assumption)) rfl ?_
                    refine WL.nilT (WD.takeL 5 rfl (by decide +kernel) (WL.mv rfl rfl (WL.nilT (WD.takeL 6 rfl (by decide +kernel) ?_))))
                    refine WL.ldABF (T := Ty) rfl rfl rfl rfl (by first | assumption | exact RB.wide (by assumption) | exact In.rb (by assumption)) rfl (by repeat' constructor) ?_
                    refine WL.nilT ?_
                    refine WD.lastG hσ0 (by decide +kernel) (by repeat' constructor) rfl (by repeat' constructor) ?_
                    refine WL.ix (T := Ty) rfl rfl rfl (by assumption) rfl rfl (by omega) (by first | omega | decide +kernel) ?_
                    refine WL.stAE (T := Ty) (j := 2) rfl rfl rfl rfl (AO.all (by repeat' first | exact AO.nil | apply AO.cons (by first | rfl | exact SL.one (by assumption)))) rfl (by first | assumption | omega | (simp only [List.length_cons, List.length_nil]; omega)) (Nat.zero_lt_succ _) (by repeat' constructor) ?_
                    refine WL.nil (W.seq (W.region (WL.mv rfl rfl (WL.mv rfl rfl (WL.mv rfl rfl ?_)))))
                    refine WL.callV rfl rfl (fun x p d => onr_c _ _ _ _ _ _ _ _ _ _ _ (by first | assumption | exact RB.wide (by assumption) | exact In.rb (by assumption) | exact RB.mono (by assumption) (eqh_at 0 rfl p d) | exact (in_at 0 rfl p d).rb | exact (in_at 1 rfl p d).rb | exact (in_at 2 rfl p d).rb | exact (in_at 3 rfl p d).rb | exact (in_at 4 rfl p d).rb | exact (in_at 5 rfl p d).rb | exact (in_at 6 rfl p d).rb | exact (in_at 7 rfl p d).rb) (by assumption) (by first | assumption | omega) (by first | assumption | omega)) ?_
                    refine WL.nc rfl rfl (WL.faN (T := Ty) (off' := 0) rfl rfl rfl rfl rfl rfl rfl (WL.faN (T := Ty) (off' := 4) rfl rfl rfl rfl rfl rfl rfl ?_))
                    refine WL.stF (T := Ty) (j := 1) rfl rfl rfl rfl rfl rfl rfl (by repeat' constructor) (by repeat' constructor) ?_
                    refine WL.nil (W.seq (W.seq (W.region (WL.faN (T := Ty) (off' := 3) rfl rfl rfl rfl rfl rfl rfl (WL.ldN (T := Ty) (j := 0) rfl rfl rfl rfl rfl rfl (WL.eql rfl rfl rfl (WL.nil (W.condT rfl (W.region (WL.mv rfl rfl ?_))))))))))
                    rw [hx1]
                    refine WL.callTk (Take.cons 1 rfl (Take.cons 1 rfl Take.nil)) rfl rfl (fun x p d => coolr_c _ b _ v o n y hGn (nS _) hy) (by repeat' constructor) (fun r9 => ?_)
                    refine WL.opens (α := Value) (φ := fun v => r9 = .tuple #[] ∧ SL v _) (ps := fun v => RgO _ _ _ v) 0 rfl (fun h q => q) (by repeat' constructor) ?_
                    rintro u9 ⟨es9, su9⟩
                    subst es9
                    dsimp only [RgO, List.cons_append, List.nil_append] at su9 ⊢
                    refine WL.nil (W.exit rfl ?_)
                    refine W.fit (Hs' := [box b _ _, Buf 7 _ _, Buf 3 o _]) (by (repeat' first | exact Sel.nil | apply Sel.k | exact Pick.h | apply Pick.t)) (W.sub ?_ (next ⟨n, y, u9⟩ ρ2 le12 ⟨hh, hGy, su9, hFy⟩ (by dsimp only; omega)))
                    exact ⟨rfl, trivial⟩
                | false =>
                  rw [if_neg (fun h => by rw [ht] at h; cases h.2), if_pos hr] at hh
                  rw [ht] at hrow
                  have hx1 := hput { p with kind := 2, ref := false, trial := true } [.int .i64 p.key.a, .int .i64 p.key.b, .int .i64 p.key.c, .int .i64 2, .bool false, .bool true, .int .i64 p.pins] rfl
                  rw [show ({ p with ref := false, trial := true } : Pg) = { p with kind := 2, ref := false, trial := true } by rw [← kk]] at hh
                  have hFn : cnt isFree (c.pages.set c.cold { p with kind := 2, ref := false, trial := true }) ≠ 0 := by
                    rw [cnt_set_eq hp (by unfold isFree isRes; rw [kk])]; exact hF
                  refine W.seq (W.seq (W.region (WL.mv rfl rfl ?_)))
                  refine WL.callV rfl rfl (fun x p d => loosr2_c _ _ _ _ _ _ _ _ _ _ (by first | assumption | exact RB.wide (by assumption) | exact In.rb (by assumption) | exact RB.mono (by assumption) (eqh_at 0 rfl p d) | exact (in_at 0 rfl p d).rb | exact (in_at 1 rfl p d).rb | exact (in_at 2 rfl p d).rb | exact (in_at 3 rfl p d).rb | exact (in_at 4 rfl p d).rb | exact (in_at 5 rfl p d).rb | exact (in_at 6 rfl p d).rb | exact (in_at 7 rfl p d).rb) (by first | assumption | exact ROs.wide (by assumption) | exact ROs.mono (by assumption) (eqh_at 0 rfl p d) | exact ros_at 0 rfl p d | exact ros_at 1 rfl p d | exact ros_at 2 rfl p d | exact ros_at 3 rfl p d | exact ros_at 4 rfl p d) (by first | assumption | omega)) ?_
                  refine WL.notp rfl rfl (WL.nil (W.condpF rfl (by omega) (W.exit rfl (W.seq (W.region (WL.mv rfl rfl (WL.nc rfl rfl (WL.faN (T := Ty) (off' := 0) rfl rfl rfl rfl rfl rfl rfl (WL.faN (T := Ty) (off' := 4) rfl rfl rfl rfl rfl rfl rfl (WL.ldN (T := Ty) (j := 0) rfl rfl rfl rfl rfl rfl (WL.as rfl rfl (WL.nil (W.seq ?_)))))))))))))
                  refine W.region (WL.mv rfl rfl (WL.nc rfl rfl (WL.faN (T := Ty) (off' := 0) rfl rfl rfl rfl rfl rfl rfl (WL.faN (T := Ty) (off' := 2) rfl rfl rfl rfl rfl rfl rfl (WL.ldN (T := Ty) (j := 0) rfl rfl rfl rfl rfl rfl (WL.mv rfl rfl ?_))))))
                  refine WL.ix (T := Ty) rfl rfl rfl (by assumption) rfl rfl (by omega) (by first | omega | decide +kernel) ?_
                  refine WL.ldAE (T := Ty) (j := 1) rfl rfl rfl rfl rfl (by assumption) rfl ?_
                  refine WL.alF (T := Ty) rfl rfl (by repeat' constructor) (fun b0 => ?_)
                  refine WL.stAO (T := Ty) (j := 0) rfl rfl rfl rfl (by repeat' first | exact AO.nil | apply AO.cons (by first | rfl | exact SL.one (by assumption))) rfl rfl (by repeat' constructor) (by repeat' constructor) ?_
                  refine WL.nil (W.seq (W.seq (W.region (WL.faN (T := Ty) (off' := 3) rfl rfl rfl rfl rfl rfl rfl (WL.ldN (T := Ty) (j := 0) rfl rfl rfl rfl rfl rfl (WL.neq rfl rfl rfl (WL.mv rfl rfl (WL.gY rfl rfl (WL.faN (T := Ty) (off' := 6) rfl rfl rfl rfl rfl rfl rfl (WL.gY rfl rfl (WL.ldN (T := Ty) (j := 0) rfl rfl rfl rfl rfl rfl (WL.gY rfl rfl (WL.gtr rfl rfl rfl ?_)))))))))))))
                  refine WL.pickF rfl rfl rfl (WL.nil (W.condpF rfl (by omega) (W.skip (W.seq (W.seq (W.region (WL.faN (T := Ty) (off' := 4) rfl rfl rfl rfl rfl rfl rfl (WL.ldN (T := Ty) (j := 0) rfl rfl rfl rfl rfl rfl (WL.nil (W.condT rfl (W.seq (W.seq (W.region ?_)))))))))))))
                  refine WL.faN (T := Ty) (off' := 5) rfl rfl rfl rfl rfl rfl rfl (WL.ldN (T := Ty) (j := 0) rfl rfl rfl rfl rfl rfl (WL.nil (W.condF rfl (W.region (WL.faN (T := Ty) (off' := 5) rfl rfl rfl rfl rfl rfl rfl ?_)))))
                  refine WL.stF (T := Ty) (j := 0) rfl rfl rfl rfl rfl rfl rfl (by repeat' constructor) (by repeat' constructor) ?_
                  refine WL.nil (W.seq (W.region (WL.faN (T := Ty) (off' := 4) rfl rfl rfl rfl rfl rfl rfl ?_)))
                  refine WL.stF (T := Ty) (j := 0) rfl rfl rfl rfl rfl rfl rfl (by repeat' constructor) (by repeat' constructor) ?_
                  refine WL.nil (W.seq ?_)
                  refine W.drawA 7 rfl (fun σ0 hσ0 dσ0 => ?_)
                  have fσ0_0 := rb_at 0 rfl hσ0 dσ0
                  have fσ0_1 := rb_at 1 rfl hσ0 dσ0
                  have fσ0_2 := ros_at 2 rfl hσ0 dσ0
                  have fσ0_3 := ros_at 3 rfl hσ0 dσ0
                  refine WD.takeL 0 rfl (by decide +kernel) (WL.mv rfl rfl (WL.nilT (WD.takeL 1 rfl (by decide +kernel) (WL.nc rfl rfl (WL.nilT (WD.takeL 2 rfl (by decide +kernel) (WL.faN (T := Ty) (off' := 0) rfl rfl rfl rfl rfl rfl rfl (WL.nilT (WD.takeL 3 rfl (by decide +kernel) (WL.faN (T := Ty) (off' := 2) rfl rfl rfl rfl rfl rfl rfl (WL.nilT (WD.takeL 4 rfl (by decide +kernel) ?_))))))))))))
                  refine WL.ldBN (T := Ty) rfl rfl rfl rfl (by first | assumption | exact RB.wide (by assumption) | exact In.rb (by assumption)) rfl ?_
                  refine WL.nilT (WD.takeL 5 rfl (by decide +kernel) (WL.mv rfl rfl (WL.nilT (WD.takeL 6 rfl (by decide +kernel) ?_))))
                  refine WL.ldABF (T := Ty) rfl rfl rfl rfl (by first | assumption | exact RB.wide (by assumption) | exact In.rb (by assumption)) rfl (by repeat' constructor) ?_
                  refine WL.nilT ?_
                  refine WD.lastG hσ0 (by decide +kernel) (by repeat' constructor) rfl (by repeat' constructor) ?_
                  refine WL.ix (T := Ty) rfl rfl rfl (by assumption) rfl rfl (by omega) (by first | omega | decide +kernel) ?_
                  refine WL.stAE (T := Ty) (j := 2) rfl rfl rfl rfl (AO.all (by repeat' first | exact AO.nil | apply AO.cons (by first | rfl | exact SL.one (by assumption)))) rfl (by first | assumption | omega | (simp only [List.length_cons, List.length_nil]; omega)) (Nat.zero_lt_succ _) (by repeat' constructor) ?_
                  refine WL.nil (W.seq (W.region (WL.mv rfl rfl (WL.mv rfl rfl (WL.mv rfl rfl ?_)))))
                  refine WL.callV rfl rfl (fun x p d => onr_c _ _ _ _ _ _ _ _ _ _ _ (by first | assumption | exact RB.wide (by assumption) | exact In.rb (by assumption) | exact RB.mono (by assumption) (eqh_at 0 rfl p d) | exact (in_at 0 rfl p d).rb | exact (in_at 1 rfl p d).rb | exact (in_at 2 rfl p d).rb | exact (in_at 3 rfl p d).rb | exact (in_at 4 rfl p d).rb | exact (in_at 5 rfl p d).rb | exact (in_at 6 rfl p d).rb | exact (in_at 7 rfl p d).rb) (by assumption) (by first | assumption | omega) (by first | assumption | omega)) ?_
                  refine WL.nc rfl rfl (WL.faN (T := Ty) (off' := 0) rfl rfl rfl rfl rfl rfl rfl (WL.faN (T := Ty) (off' := 4) rfl rfl rfl rfl rfl rfl rfl ?_))
                  refine WL.stF (T := Ty) (j := 1) rfl rfl rfl rfl rfl rfl rfl (by repeat' constructor) (by repeat' constructor) ?_
                  refine WL.nil (W.seq (W.seq (W.region (WL.faN (T := Ty) (off' := 3) rfl rfl rfl rfl rfl rfl rfl (WL.ldN (T := Ty) (j := 0) rfl rfl rfl rfl rfl rfl (WL.eql rfl rfl rfl (WL.nil (W.condF rfl (W.skip (W.exit rfl ?_))))))))))
                  rw [hx1]
                  refine W.fit (Hs' := [box b _ _, Buf 7 _ _, Buf 3 o _]) (by (repeat' first | exact Sel.nil | apply Sel.k | exact Pick.h | apply Pick.t)) (W.sub ?_ (next ⟨n, { setP c c.cold { p with kind := 2, ref := false, trial := true } with cold := onP c c.cold }, v⟩ ρ2 le12 ⟨hh, hG.setCold hp (badK_2 rfl) rfl, nS _, hFn⟩ (by dsimp only; omega)))
                  exact ⟨rfl, trivial⟩
              | false =>
                rw [hr] at hrow
                rw [if_neg (fun h => by rw [hr] at h; cases h.1), if_neg (fun h => by rw [hr] at h; cases h)] at hh
                unfold putP at hh
                rw [hp] at hh
                dsimp only at hh
                obtain ⟨d2, hx2, he⟩ := Option.map_eq_some_iff.1 hh
                cases he
                clear hh next next2
                have hfl : out.flatMap kyC ++ [.int .i64 p.key.a, .int .i64 p.key.b, .int .i64 p.key.c] = (out ++ [p.key]).flatMap kyC := by rw [List.flatMap_append]; rfl
                have hln1 : (out ++ [p.key]).length = out.length + 1 := by simp
                refine W.seq (W.seq (W.region (WL.mv rfl rfl ?_)))
                refine WL.callV rfl rfl (fun x p d => loosr2_c _ _ _ _ _ _ _ _ _ _ (by first | assumption | exact RB.wide (by assumption) | exact In.rb (by assumption) | exact RB.mono (by assumption) (eqh_at 0 rfl p d) | exact (in_at 0 rfl p d).rb | exact (in_at 1 rfl p d).rb | exact (in_at 2 rfl p d).rb | exact (in_at 3 rfl p d).rb | exact (in_at 4 rfl p d).rb | exact (in_at 5 rfl p d).rb | exact (in_at 6 rfl p d).rb | exact (in_at 7 rfl p d).rb) (by first | assumption | exact ROs.wide (by assumption) | exact ROs.mono (by assumption) (eqh_at 0 rfl p d) | exact ros_at 0 rfl p d | exact ros_at 1 rfl p d | exact ros_at 2 rfl p d | exact ros_at 3 rfl p d | exact ros_at 4 rfl p d) (by first | assumption | omega)) ?_
                refine WL.notp rfl rfl (WL.nil (W.condpF rfl (by omega) (W.exit rfl (W.seq (W.region (WL.mv rfl rfl (WL.nc rfl rfl (WL.faN (T := Ty) (off' := 0) rfl rfl rfl rfl rfl rfl rfl (WL.faN (T := Ty) (off' := 4) rfl rfl rfl rfl rfl rfl rfl (WL.ldN (T := Ty) (j := 0) rfl rfl rfl rfl rfl rfl (WL.as rfl rfl (WL.nil (W.seq ?_)))))))))))))
                refine W.region (WL.mv rfl rfl (WL.nc rfl rfl (WL.faN (T := Ty) (off' := 0) rfl rfl rfl rfl rfl rfl rfl (WL.faN (T := Ty) (off' := 2) rfl rfl rfl rfl rfl rfl rfl (WL.ldN (T := Ty) (j := 0) rfl rfl rfl rfl rfl rfl (WL.mv rfl rfl ?_))))))
                refine WL.ix (T := Ty) rfl rfl rfl (by assumption) rfl rfl (by omega) (by first | omega | decide +kernel) ?_
                refine WL.ldAE (T := Ty) (j := 1) rfl rfl rfl rfl rfl (by assumption) rfl ?_
                refine WL.alF (T := Ty) rfl rfl (by repeat' constructor) (fun b0 => ?_)
                refine WL.stAO (T := Ty) (j := 0) rfl rfl rfl rfl (by repeat' first | exact AO.nil | apply AO.cons (by first | rfl | exact SL.one (by assumption))) rfl rfl (by repeat' constructor) (by repeat' constructor) ?_
                refine WL.nil (W.seq (W.seq (W.region (WL.faN (T := Ty) (off' := 3) rfl rfl rfl rfl rfl rfl rfl (WL.ldN (T := Ty) (j := 0) rfl rfl rfl rfl rfl rfl (WL.neq rfl rfl rfl (WL.mv rfl rfl (WL.gY rfl rfl (WL.faN (T := Ty) (off' := 6) rfl rfl rfl rfl rfl rfl rfl (WL.gY rfl rfl (WL.ldN (T := Ty) (j := 0) rfl rfl rfl rfl rfl rfl (WL.gY rfl rfl (WL.gtr rfl rfl rfl ?_)))))))))))))
                refine WL.pickF rfl rfl rfl (WL.nil (W.condpF rfl (by omega) (W.skip (W.seq (W.seq (W.region (WL.faN (T := Ty) (off' := 4) rfl rfl rfl rfl rfl rfl rfl (WL.ldN (T := Ty) (j := 0) rfl rfl rfl rfl rfl rfl (WL.nil (W.condF rfl (W.skip (W.seq ?_))))))))))))
                refine W.cutG (τ := Value) (fun s => [(0, pt b 0), (2, .int .i64 (c.cold : Int)), (3, pt b0 0)]) (fun s => [box b0 [.int .i64 p.key.a, .int .i64 p.key.b, .int .i64 p.key.c, .int .i64 2, .bool false, .bool p.trial, .int .i64 p.pins] 78, box b [.int .i64 c.most, .int .i64 c.target, v, .int .i64 (c.hot : Int), .int .i64 (c.cold : Int), .int .i64 (c.test : Int), s] 145, Buf 7 v (c.pages.flatMap pgC), Buf 3 s ((out ++ [p.key]).flatMap kyC)]) (fun s ρ' => SL s (out ++ [p.key]).length) ?_ (fun cut => ?_)
                · intro o2 ρ3 le3 so2
                  refine W.seq (W.seq (W.region (WL.faN (T := Ty) (off' := 5) rfl rfl rfl rfl rfl rfl rfl (WL.ldN (T := Ty) (j := 0) rfl rfl rfl rfl rfl rfl (WL.nil ?_)))))
                  refine W.cutG (τ := Clk × Value) (fun s => [(0, pt b 0)]) (fun s => [box b [.int .i64 s.1.most, .int .i64 s.1.target, s.2, .int .i64 (s.1.hot : Int), .int .i64 (s.1.cold : Int), .int .i64 (s.1.test : Int), o2] 145, Buf 7 s.2 (s.1.pages.flatMap pgC), Buf 3 o2 ((out ++ [p.key]).flatMap kyC)]) (fun s ρ' => overL n s.1 = some d ∧ RefG s.1 ∧ SL s.2 s.1.pages.length) ?_ (fun cut1 => ?_)
                  · clear hx2 hx hF hG sv hK hln l1 hc1 hz hpl hrow hput nS k1 k2 k3 hp0 hcf kk kp hr
                    rintro ⟨c1, v1⟩ ρ4 le4 ⟨hh, hG, sv⟩
                    dsimp only at hh hG sv ⊢
                    refine W.seq (W.block ?_)
                    refine W.loopR (σ := Nat × Clk × Value) (fun s => [(0, pt b 0)])
                      (fun s => [box b [.int .i64 s.2.1.most, .int .i64 s.2.1.target, s.2.2, .int .i64 (s.2.1.hot : Int), .int .i64 (s.2.1.cold : Int), .int .i64 (s.2.1.test : Int), o2] 145, Buf 7 s.2.2 (s.2.1.pages.flatMap pgC), Buf 3 o2 ((out ++ [p.key]).flatMap kyC)])
                      (fun s ρ' => overL s.1 s.2.1 = some d ∧ RefG s.2.1 ∧ SL s.2.2 s.2.1.pages.length) (fun s => s.1)
                      (n, c1, v1) ⟨rfl, trivial⟩ rfl ⟨hh, hG, sv⟩ ?_
                    clear hh hG sv n c1 v1 hp c v
                    rintro ⟨n, c, v⟩ ρ5 le5 ⟨hh, hG, sv⟩ next
                    dsimp only at hh hG sv next ⊢
                    cases n with
                    | zero => unfold overL at hh; cases hh
                    | succ n =>
                      rw [overL_s] at hh
                      have hln := hG.B.ln
                      have l1 := pgs_cells c.pages
                      have ht0 := cnt_le isTest c.pages
                      by_cases hgt : c.most < (cnt isTest c.pages : Int)
                      · rw [if_pos hgt] at hh
                        cases hx : testT n c with
                        | none => rw [hx] at hh; cases hh
                        | some x =>
                          rw [hx] at hh
                          have hG' := hG.testT hx
                          refine W.seq (W.seq ?_)
                          refine W.drawA 11 rfl (fun σ0 hσ0 dσ0 => ?_)
                          have fσ0_0 := rb_at 0 rfl hσ0 dσ0
                          have fσ0_1 := ros_at 1 rfl hσ0 dσ0
                          have fσ0_2 := ros_at 2 rfl hσ0 dσ0
                          refine WD.takeL 0 rfl (by decide +kernel) (WL.mv rfl rfl (WL.nilT (WD.takeL 1 rfl (by decide +kernel) (WL.nc rfl rfl (WL.nilT (WD.takeL 2 rfl (by decide +kernel) (WL.faN (T := Ty) (off' := 0) rfl rfl rfl rfl rfl rfl rfl (WL.nilT (WD.takeL 3 rfl (by decide +kernel) ?_)))))))))
                          refine WL.ldABF (T := Ty) rfl rfl rfl rfl (by first | assumption | exact RB.wide (by assumption) | exact In.rb (by assumption)) rfl (by repeat' constructor) ?_
                          refine WL.nilT (WD.takeL 5 rfl (by decide +kernel) (WL.mv rfl rfl (WL.nilT (WD.takeL 6 rfl (by decide +kernel) (WL.nc rfl rfl (WL.nilT (WD.takeL 7 rfl (by decide +kernel) (WL.faN (T := Ty) (off' := 0) rfl rfl rfl rfl rfl rfl rfl (WL.nilT (WD.takeL 8 rfl (by decide +kernel) (WL.faN (T := Ty) (off' := 0) rfl rfl rfl rfl rfl rfl rfl (WL.nilT (WD.takeL 9 rfl (by decide +kernel) ?_)))))))))))))
                          refine WL.ldBN (T := Ty) rfl rfl rfl rfl (by first | assumption | exact RB.wide (by assumption) | exact In.rb (by assumption)) rfl ?_
                          refine WL.nilT (WD.oneL 4 rfl (by decide +kernel) ?_)
                          refine WL.callV rfl rfl (fun x p d => countr3_c _ _ _ _ _ _ _ _ (by first | assumption | exact ROs.wide (by assumption) | exact ROs.mono (by assumption) (eqh_at 0 rfl p d) | exact ros_at 0 rfl p d | exact ros_at 1 rfl p d | exact ros_at 2 rfl p d | exact ros_at 3 rfl p d | exact ros_at 4 rfl p d) (by first | assumption | omega)) ?_
                          refine WL.nilE (WD.takeL 10 rfl (by decide +kernel) (WL.gtr rfl rfl rfl (WL.nilT ?_)))
                          refine WD.doneF hσ0 (by decide +kernel) (by repeat' constructor) ?_
                          refine W.condpT rfl (by omega) (W.skip (W.block (W.region (WL.mv rfl rfl ?_))))
                          refine WL.callTk (Take.cons 0 rfl (Take.cons 0 rfl Take.nil)) rfl rfl (fun x p d => testr_c _ _ _ _ _ _ _ (by assumption) (by assumption) (by assumption)) (by repeat' constructor) (fun r1 => ?_)
                          refine WL.opens (α := Value) (φ := fun v => r1 = .tuple #[] ∧ SL v _) (ps := fun v => RgO _ _ _ v) 0 rfl (fun h q => q) (by repeat' constructor) ?_
                          rintro u1 ⟨es1, su1⟩
                          subst es1
                          dsimp only [RgO, List.cons_append, List.nil_append] at su1 ⊢
                          refine WL.nil (W.inBlock ?_)
                          refine W.fit (Hs' := [box b _ _, Buf 7 _ _, Buf 3 o2 _]) (by (repeat' first | exact Sel.nil | apply Sel.k | exact Pick.h | apply Pick.t)) (W.sub ?_ (next ⟨n, x, _⟩ ρ5 (Le.refl _) ⟨hh, hG', by assumption⟩ (by dsimp only; omega)))
                          exact ⟨rfl, trivial⟩
                      · rw [if_neg hgt] at hh
                        cases hh
                        refine W.seq (W.seq ?_)
                        refine W.drawA 11 rfl (fun σ0 hσ0 dσ0 => ?_)
                        have fσ0_0 := rb_at 0 rfl hσ0 dσ0
                        have fσ0_1 := ros_at 1 rfl hσ0 dσ0
                        have fσ0_2 := ros_at 2 rfl hσ0 dσ0
                        refine WD.takeL 0 rfl (by decide +kernel) (WL.mv rfl rfl (WL.nilT (WD.takeL 1 rfl (by decide +kernel) (WL.nc rfl rfl (WL.nilT (WD.takeL 2 rfl (by decide +kernel) (WL.faN (T := Ty) (off' := 0) rfl rfl rfl rfl rfl rfl rfl (WL.nilT (WD.takeL 3 rfl (by decide +kernel) ?_)))))))))
                        refine WL.ldABF (T := Ty) rfl rfl rfl rfl (by first | assumption | exact RB.wide (by assumption) | exact In.rb (by assumption)) rfl (by repeat' constructor) ?_
                        refine WL.nilT (WD.takeL 5 rfl (by decide +kernel) (WL.mv rfl rfl (WL.nilT (WD.takeL 6 rfl (by decide +kernel) (WL.nc rfl rfl (WL.nilT (WD.takeL 7 rfl (by decide +kernel) (WL.faN (T := Ty) (off' := 0) rfl rfl rfl rfl rfl rfl rfl (WL.nilT (WD.takeL 8 rfl (by decide +kernel) (WL.faN (T := Ty) (off' := 0) rfl rfl rfl rfl rfl rfl rfl (WL.nilT (WD.takeL 9 rfl (by decide +kernel) ?_)))))))))))))
                        refine WL.ldBN (T := Ty) rfl rfl rfl rfl (by first | assumption | exact RB.wide (by assumption) | exact In.rb (by assumption)) rfl ?_
                        refine WL.nilT (WD.oneL 4 rfl (by decide +kernel) ?_)
                        refine WL.callV rfl rfl (fun x p d => countr3_c _ _ _ _ _ _ _ _ (by first | assumption | exact ROs.wide (by assumption) | exact ROs.mono (by assumption) (eqh_at 0 rfl p d) | exact ros_at 0 rfl p d | exact ros_at 1 rfl p d | exact ros_at 2 rfl p d | exact ros_at 3 rfl p d | exact ros_at 4 rfl p d) (by first | assumption | omega)) ?_
                        refine WL.nilE (WD.takeL 10 rfl (by decide +kernel) (WL.gtr rfl rfl rfl (WL.nilT ?_)))
                        refine WD.doneF hσ0 (by decide +kernel) (by repeat' constructor) ?_
                        refine W.condpF rfl (by omega) (W.exit rfl ?_)
                        exact W.fit (Hs' := [box b _ _, Buf 7 v _, Buf 3 o2 _]) (by (repeat' first | exact Sel.nil | apply Sel.k | exact Pick.h | apply Pick.t)) (W.ret0 rfl (fun h q => ⟨(v, o2), ⟨rfl, sv, so2⟩, q⟩))
                  · cases ht : p.trial with
                    | true =>
                      rw [if_pos ht] at hx2
                      have hset0 : (c.pages.flatMap pgC).set (((c.cold : Nat) : Int).toNat * 7 + 3) (.int .i64 3) = (c.pages.set c.cold { p with kind := 3 }).flatMap pgC := flat_set (j := 3) pg_len hp (by decide) rfl
                      refine W.condT rfl (W.seq (W.region (WL.mv rfl rfl (WL.nc rfl rfl (WL.faN (T := Ty) (off' := 0) rfl rfl rfl rfl rfl rfl rfl (WL.faN (T := Ty) (off' := 2) rfl rfl rfl rfl rfl rfl rfl (WL.ldN (T := Ty) (j := 1) rfl rfl rfl rfl rfl rfl (WL.mv rfl rfl ?_))))))))
                      refine WL.ix (T := Ty) rfl rfl rfl (by assumption) rfl rfl (by omega) (by first | omega | decide +kernel) ?_
                      refine WL.faEN (T := Ty) (off' := 3) rfl rfl rfl rfl rfl rfl rfl ?_
                      refine WL.stEF (T := Ty) (j := 2) rfl rfl rfl rfl rfl rfl (by first | assumption | omega | (simp only [List.length_set]; omega) | (simp; omega)) rfl (by repeat' constructor) ?_
                      refine WL.nil (W.region (WL.mv rfl rfl (WL.mv rfl rfl (WL.mv rfl rfl ?_))))
                      refine WL.callV rfl rfl (fun x p d => onr_c _ _ _ _ _ _ _ _ _ _ _ (by first | assumption | exact RB.wide (by assumption) | exact In.rb (by assumption) | exact RB.mono (by assumption) (eqh_at 0 rfl p d) | exact (in_at 0 rfl p d).rb | exact (in_at 1 rfl p d).rb | exact (in_at 2 rfl p d).rb | exact (in_at 3 rfl p d).rb | exact (in_at 4 rfl p d).rb | exact (in_at 5 rfl p d).rb | exact (in_at 6 rfl p d).rb | exact (in_at 7 rfl p d).rb) (by assumption) (by first | assumption | omega) (by first | assumption | omega)) ?_
                      refine WL.nc rfl rfl (WL.faN (T := Ty) (off' := 0) rfl rfl rfl rfl rfl rfl rfl (WL.faN (T := Ty) (off' := 4) rfl rfl rfl rfl rfl rfl rfl ?_))
                      refine WL.stF (T := Ty) (j := 1) rfl rfl rfl rfl rfl rfl rfl (by repeat' constructor) (by repeat' constructor) ?_
                      refine WL.nil ?_
                      rw [hset0]
                      refine W.fit (Hs' := [box b _ _, Buf 7 v _, Buf 3 o2 _]) (by (repeat' first | exact Sel.nil | apply Sel.k | exact Pick.h | apply Pick.t)) (W.sub ?_ (cut1 ⟨{ setP c c.cold { p with kind := 3 } with cold := onP c c.cold }, v⟩ ρ3 (Le.refl _) ⟨hx2, hG.setCold (q := { p with kind := 3 }) hp (badK_3 rfl) rfl, nS _⟩))
                      exact ⟨rfl, trivial⟩
                    | false =>
                      rw [if_neg (fun h => by rw [ht] at h; cases h)] at hx2
                      refine W.condF rfl (W.region (WL.mv rfl rfl (WL.mv rfl rfl ?_)))
                      refine WL.callTk (Take.cons 1 rfl (Take.cons 1 rfl Take.nil)) rfl rfl (fun x p d => goesr_c _ _ _ _ _ _ _ _ _ _ _ (by first | assumption | omega) (by first | assumption | omega) (by assumption) (by first | assumption | omega) (by first | assumption | omega) (by first | assumption | omega)) (by repeat' constructor) (fun r1 => ?_)
                      refine WL.opens (α := Value) (φ := fun v => r1 = .tuple #[] ∧ SL v _) (ps := fun v => RgO _ _ _ v) 0 rfl (fun h q => q) (by repeat' constructor) ?_
                      rintro u1 ⟨es1, su1⟩
                      subst es1
                      dsimp only [RgO, List.cons_append, List.nil_append] at su1 ⊢
                      refine WL.nil ?_
                      refine W.fit (Hs' := [box b _ _, Buf 7 _ _, Buf 3 o2 _]) (by (repeat' first | exact Sel.nil | apply Sel.k | exact Pick.h | apply Pick.t)) (W.sub ?_ (cut1 ⟨goesP c c.cold, _⟩ ρ3 (Le.refl _) ⟨hx2, hG.goes hp, by assumption⟩))
                      exact ⟨rfl, trivial⟩
                · refine W.drawP 9 [false, false, true, true] rfl (by repeat' constructor) (by repeat' constructor) (fun σ0 hσ0 dσ0 => ?_)
                  have fσ0_0 := rb_at 0 rfl hσ0 dσ0
                  have fσ0_1 := rb_at 1 rfl hσ0 dσ0
                  refine WD.takeL 0 rfl (by decide +kernel) (WL.mv rfl rfl (WL.nilT (WD.takeL 1 rfl (by decide +kernel) (WL.mv rfl rfl (WL.nilT (WD.takeL 2 rfl (by decide +kernel) (WL.nc rfl rfl (WL.nilT (WD.takeL 3 rfl (by decide +kernel) (WL.faN (T := Ty) (off' := 6) rfl rfl rfl rfl rfl rfl rfl (WL.nilT (WD.takeL 4 rfl (by decide +kernel) ?_))))))))))))
                  refine WL.ldBN (T := Ty) rfl rfl rfl rfl (by first | assumption | exact RB.wide (by assumption) | exact In.rb (by assumption)) rfl ?_
                  refine WL.nilT (WD.takeL 5 rfl (by decide +kernel) (WL.faN (T := Ty) (off' := 0) rfl rfl rfl rfl rfl rfl rfl (WL.nilT (WD.takeL 6 rfl (by decide +kernel) ?_))))
                  refine WL.ldABF (T := Ty) rfl rfl rfl rfl (by first | assumption | exact RB.wide (by assumption) | exact In.rb (by assumption)) rfl (by repeat' constructor) ?_
                  refine WL.nilT (WD.oneL 7 rfl (by decide +kernel) ?_)
                  refine WL.bsC (T := Ty) rfl rfl rfl rfl rfl rfl rfl (by repeat' first | exact CO.nil | apply CO.one (by first | rfl | exact SL.one (by assumption)) | apply CO.agg) rfl (by repeat' constructor) (fun u1 hu1 => ?_)
                  refine WL.nilH hσ0 (fun σ1 hσ1 dσ1 mσ1 => ?_)
                  have fσ0_0 := fσ0_0.mono mσ1
                  have fσ0_1 := fσ0_1.mono mσ1
                  have fσ1_0 := ros_at 0 rfl hσ1 dσ1
                  refine WD.oneL 8 rfl (by decide +kernel) ?_
                  refine WL.ap (T := Ty) (i := 2) (m := 1) rfl rfl rfl rfl rfl rfl rfl rfl (by first | exact .ro (by assumption) | exact .ro (ROs.wide (by assumption)) | exact .eqJ 0 rfl (by assumption) | exact .own 0 rfl | exact .own 1 rfl | exact .own 2 rfl | exact .own 3 rfl | exact .own 4 rfl | exact .own 5 rfl) (by first | assumption | exact ROs.slm (by assumption)) (by assumption) (by rfl) (AO.all (by repeat' first | exact AO.nil | apply AO.cons (by first | rfl | exact SL.one (by assumption)))) (by first | omega | (simp; omega) | (simp only [List.length_drop, List.length_take]; omega)) (by unfold maxLen; first | omega | (simp only [List.length_drop, List.length_take]; omega)) (fun v' => (by repeat' constructor)) (fun u2 hu2 => ?_)
                  refine WL.nilE ?_
                  refine WD.lastG hσ1 (by decide +kernel) (by repeat' constructor) rfl (by repeat' constructor) ?_
                  refine WL.nc rfl rfl (WL.faN (T := Ty) (off' := 6) rfl rfl rfl rfl rfl rfl rfl ?_)
                  refine WL.stF (T := Ty) (j := 2) rfl rfl rfl rfl (SL.one (by assumption)) rfl rfl (by repeat' constructor) (by repeat' constructor) ?_
                  refine WL.nil ?_
                  rw [hfl]
                  refine W.fit (Hs' := [box b0 _ _, box b _ _, Buf 7 v _, Buf 3 _ ((out ++ [p.key]).flatMap kyC)]) (by (repeat' first | exact Sel.nil | apply Sel.k | exact Pick.h | apply Pick.t)) (W.sub ?_ (cut _ _ (Le.refl _) (by rw [hln1]; assumption)))
                  exact ⟨rfl, rfl, rfl, trivial⟩
end Go.Proofs.Ytbebhmdjnneimaa

/- The document's ring: a look, a pin, a page dropped; whether two rings are the same. -/
set_option linter.unusedSimpArgs false
set_option linter.unusedVariables false
set_option maxRecDepth 20000
set_option maxHeartbeats 4000000
namespace Go.Proofs.Ytbebhmdjnneimaa
open Go
attribute [local irreducible] W WL Fn Buf ROs SL eptr box Rd Src bndOK WD RB Reads In Own handG handC cnt goesP fndK touchP pinP dropP
theorem touchr_c (ρ : Hp) (c : Clk) (v : Value) (k : Ky) (hln : c.pages.length ≤ 1000000) (r0 : ROs ρ 7 v (c.pages.flatMap pgC)) :
    Fn Try.prog 78 #[.agg #[.int .i64 c.most, .int .i64 c.target, v, .int .i64 (c.hot : Int), .int .i64 (c.cold : Int), .int .i64 (c.test : Int)], .agg #[.int .i64 k.a, .int .i64 k.b, .int .i64 k.c]] ρ [] (OCB (touchP c k)) := by
  have l1 := pgs_cells c.pages
  have s0 : SL v c.pages.length := r0.sl l1 (by omega)
  refine in78 rfl rfl ?_
  rcases fnd_lt c.pages k with hf | ⟨i, p, hf, hp, hpk⟩
  · rw [touch_no hf]
    refine W.seq (W.region ?_)
    refine WL.bxF rfl rfl (by repeat' constructor) (fun b0 => ?_)
    refine WL.bxF rfl rfl (by repeat' constructor) (fun b1 => ?_)
    refine WL.alF (T := Ty) rfl rfl (by repeat' constructor) (fun b2 => ?_)
    refine WL.as rfl rfl (WL.nil (W.seq (W.region ?_)))
    refine WL.ldAF (T := Ty) (j := 2) rfl rfl rfl rfl rfl rfl (by repeat' constructor) ?_
    refine WL.callF rfl rfl (fun x p d => copied15_c _ _ _ _ _ _ _ _ (by first | assumption | exact ROs.wide (by assumption) | exact ROs.mono (by assumption) (eqh_at 0 rfl p d) | exact ros_at 0 rfl p d | exact ros_at 1 rfl p d | exact ros_at 2 rfl p d | exact ros_at 3 rfl p d | exact ros_at 4 rfl p d) (by first | assumption | omega)) (fun r3 => ?_)
    refine WL.opens (α := Value) (φ := fun v => r3 = .agg #[.int .i64 _, .int .i64 _, v, .int .i64 _, .int .i64 _, .int .i64 _] ∧ SL v _) (ps := fun v => [Buf 7 v _]) 0 rfl (fun h q => q) (by repeat' constructor) ?_
    rintro u3 ⟨es3, su3⟩
    subst es3
    dsimp only [List.cons_append, List.nil_append] at su3 ⊢
    refine WL.stAO (T := Ty) (j := 3) rfl rfl rfl rfl (by repeat' first | exact AO.nil | apply AO.cons (by first | rfl | exact SL.one (by assumption))) rfl rfl (by repeat' constructor) (by repeat' constructor) ?_
    refine WL.nil (W.seq (W.region ?_))
    refine WL.ldAF (T := Ty) (j := 3) rfl rfl rfl rfl rfl rfl (by repeat' constructor) ?_
    refine WL.ldAF (T := Ty) (j := 2) rfl rfl rfl rfl rfl rfl (by repeat' constructor) ?_
    refine WL.callV rfl rfl (fun x p d => findr15_e _ _ _ _ _ _ _ _ _ _ _ _ (by first | assumption | exact ROs.wide (by assumption) | exact ROs.mono (by assumption) (eqh_at 0 rfl p d) | exact ros_at 0 rfl p d | exact ros_at 1 rfl p d | exact ros_at 2 rfl p d | exact ros_at 3 rfl p d | exact ros_at 4 rfl p d) (by first | assumption | omega) (by assumption)) ?_
    refine WL.as rfl rfl (WL.nil (W.seq (W.seq (W.region (WL.mv rfl rfl (WL.lss rfl rfl rfl (WL.mv rfl rfl (WL.gdN rfl rfl rfl rfl rfl rfl (WL.gdN rfl rfl rfl rfl rfl rfl (WL.gdN rfl rfl rfl rfl rfl rfl (WL.gdN rfl rfl rfl rfl rfl rfl (WL.gdN rfl rfl rfl rfl rfl rfl (WL.gdN rfl rfl rfl rfl rfl rfl ?_)))))))))))))
    refine WL.gdN rfl rfl rfl rfl rfl rfl (WL.pickT rfl rfl rfl (WL.nil (W.condT rfl (W.seq (W.region ?_)))))
    refine WL.ldAF (T := Ty) (j := 3) rfl rfl rfl rfl rfl rfl (by repeat' constructor) ?_
    refine WL.stAO (T := Ty) (j := 1) rfl rfl rfl rfl (by repeat' first | exact AO.nil | apply AO.cons (by first | rfl | exact SL.one (by assumption))) rfl rfl (by repeat' constructor) (by repeat' constructor) ?_
    refine WL.as rfl rfl (WL.nil ?_)
    exact W.fit (Hs' := [box b2 _ _, Buf 7 u3 _]) (by (repeat' first | exact Sel.nil | apply Sel.k | exact Pick.h | apply Pick.t)) (W.retC2 (T := Ty) (j := 0) rfl rfl rfl rfl rfl rfl rfl (fun h q => ⟨u3, ⟨rfl, by assumption⟩, q⟩))
  · rw [touch_at hf hp]
    have hpl := (List.getElem?_eq_some_iff.1 hp).1
    have hrow : ((c.pages.flatMap pgC).drop (((i : Nat) : Int).toNat * 7)).take 7 = pgC p := flat_row pg_len hp
    unfold pgC at hrow
    have hset0 : (c.pages.flatMap pgC).set (((i : Nat) : Int).toNat * 7 + 4) (.bool true) = (c.pages.set i { p with ref := true }).flatMap pgC := flat_set (j := 4) pg_len hp (by decide) rfl
    cases hr : isRes p with
    | false =>
      have hr' : (decide (p.kind = 1) || decide (p.kind = 2)) = false := hr
      rw [if_neg (by decide)]
      refine W.seq (W.region ?_)
      refine WL.bxF rfl rfl (by repeat' constructor) (fun b0 => ?_)
      refine WL.bxF rfl rfl (by repeat' constructor) (fun b1 => ?_)
      refine WL.alF (T := Ty) rfl rfl (by repeat' constructor) (fun b2 => ?_)
      refine WL.as rfl rfl (WL.nil (W.seq (W.region ?_)))
      refine WL.ldAF (T := Ty) (j := 2) rfl rfl rfl rfl rfl rfl (by repeat' constructor) ?_
      refine WL.callF rfl rfl (fun x p d => copied15_c _ _ _ _ _ _ _ _ (by first | assumption | exact ROs.wide (by assumption) | exact ROs.mono (by assumption) (eqh_at 0 rfl p d) | exact ros_at 0 rfl p d | exact ros_at 1 rfl p d | exact ros_at 2 rfl p d | exact ros_at 3 rfl p d | exact ros_at 4 rfl p d) (by first | assumption | omega)) (fun r3 => ?_)
      refine WL.opens (α := Value) (φ := fun v => r3 = .agg #[.int .i64 _, .int .i64 _, v, .int .i64 _, .int .i64 _, .int .i64 _] ∧ SL v _) (ps := fun v => [Buf 7 v _]) 0 rfl (fun h q => q) (by repeat' constructor) ?_
      rintro u3 ⟨es3, su3⟩
      subst es3
      dsimp only [List.cons_append, List.nil_append] at su3 ⊢
      refine WL.stAO (T := Ty) (j := 3) rfl rfl rfl rfl (by repeat' first | exact AO.nil | apply AO.cons (by first | rfl | exact SL.one (by assumption))) rfl rfl (by repeat' constructor) (by repeat' constructor) ?_
      refine WL.nil (W.seq (W.region ?_))
      refine WL.ldAF (T := Ty) (j := 3) rfl rfl rfl rfl rfl rfl (by repeat' constructor) ?_
      refine WL.ldAF (T := Ty) (j := 2) rfl rfl rfl rfl rfl rfl (by repeat' constructor) ?_
      refine WL.callV rfl rfl (fun x p d => findr15_e _ _ _ _ _ _ _ _ _ _ _ _ (by first | assumption | exact ROs.wide (by assumption) | exact ROs.mono (by assumption) (eqh_at 0 rfl p d) | exact ros_at 0 rfl p d | exact ros_at 1 rfl p d | exact ros_at 2 rfl p d | exact ros_at 3 rfl p d | exact ros_at 4 rfl p d) (by first | assumption | omega) (by assumption)) ?_
      refine WL.as rfl rfl (WL.nil (W.seq (W.seq (W.region (WL.mv rfl rfl (WL.lss rfl rfl rfl (WL.mv rfl rfl (WL.gY rfl rfl (WL.faN (T := Ty) (off' := 2) rfl rfl rfl rfl rfl rfl rfl (WL.gY rfl rfl (WL.ldN (T := Ty) (j := 3) rfl rfl rfl rfl rfl rfl (WL.gY rfl rfl (WL.mv rfl rfl ?_)))))))))))))
      refine WL.gY rfl rfl ?_
      refine WL.ix (T := Ty) rfl rfl rfl (by assumption) rfl rfl (by omega) (by first | omega | decide +kernel) ?_
      refine WL.gY rfl rfl ?_
      refine WL.ldAE (T := Ty) (j := 0) rfl rfl rfl rfl rfl (by assumption) rfl ?_
      refine WL.gY rfl rfl ?_
      refine WL.callV rfl rfl (fun x p d => residentr_c _ _ _ _ _ _ _ _) ?_
      refine WL.gY rfl rfl (WL.not rfl rfl (WL.pickF rfl rfl rfl (WL.nil ?_)))
      rw [hr']
      refine W.condT rfl (W.seq (W.region ?_))
      refine WL.ldAF (T := Ty) (j := 3) rfl rfl rfl rfl rfl rfl (by repeat' constructor) ?_
      refine WL.stAO (T := Ty) (j := 1) rfl rfl rfl rfl (by repeat' first | exact AO.nil | apply AO.cons (by first | rfl | exact SL.one (by assumption))) rfl rfl (by repeat' constructor) (by repeat' constructor) ?_
      refine WL.as rfl rfl (WL.nil ?_)
      exact W.fit (Hs' := [box b2 _ _, Buf 7 u3 _]) (by (repeat' first | exact Sel.nil | apply Sel.k | exact Pick.h | apply Pick.t)) (W.retC2 (T := Ty) (j := 0) rfl rfl rfl rfl rfl rfl rfl (fun h q => ⟨u3, ⟨rfl, by assumption⟩, q⟩))
    | true =>
      have hr' : (decide (p.kind = 1) || decide (p.kind = 2)) = true := hr
      rw [if_pos rfl]
      refine W.seq (W.region ?_)
      refine WL.bxF rfl rfl (by repeat' constructor) (fun b0 => ?_)
      refine WL.bxF rfl rfl (by repeat' constructor) (fun b1 => ?_)
      refine WL.alF (T := Ty) rfl rfl (by repeat' constructor) (fun b2 => ?_)
      refine WL.as rfl rfl (WL.nil (W.seq (W.region ?_)))
      refine WL.ldAF (T := Ty) (j := 2) rfl rfl rfl rfl rfl rfl (by repeat' constructor) ?_
      refine WL.callF rfl rfl (fun x p d => copied15_c _ _ _ _ _ _ _ _ (by first | assumption | exact ROs.wide (by assumption) | exact ROs.mono (by assumption) (eqh_at 0 rfl p d) | exact ros_at 0 rfl p d | exact ros_at 1 rfl p d | exact ros_at 2 rfl p d | exact ros_at 3 rfl p d | exact ros_at 4 rfl p d) (by first | assumption | omega)) (fun r3 => ?_)
      refine WL.opens (α := Value) (φ := fun v => r3 = .agg #[.int .i64 _, .int .i64 _, v, .int .i64 _, .int .i64 _, .int .i64 _] ∧ SL v _) (ps := fun v => [Buf 7 v _]) 0 rfl (fun h q => q) (by repeat' constructor) ?_
      rintro u3 ⟨es3, su3⟩
      subst es3
      dsimp only [List.cons_append, List.nil_append] at su3 ⊢
      refine WL.stAO (T := Ty) (j := 3) rfl rfl rfl rfl (by repeat' first | exact AO.nil | apply AO.cons (by first | rfl | exact SL.one (by assumption))) rfl rfl (by repeat' constructor) (by repeat' constructor) ?_
      refine WL.nil (W.seq (W.region ?_))
      refine WL.ldAF (T := Ty) (j := 3) rfl rfl rfl rfl rfl rfl (by repeat' constructor) ?_
      refine WL.ldAF (T := Ty) (j := 2) rfl rfl rfl rfl rfl rfl (by repeat' constructor) ?_
      refine WL.callV rfl rfl (fun x p d => findr15_e _ _ _ _ _ _ _ _ _ _ _ _ (by first | assumption | exact ROs.wide (by assumption) | exact ROs.mono (by assumption) (eqh_at 0 rfl p d) | exact ros_at 0 rfl p d | exact ros_at 1 rfl p d | exact ros_at 2 rfl p d | exact ros_at 3 rfl p d | exact ros_at 4 rfl p d) (by first | assumption | omega) (by assumption)) ?_
      refine WL.as rfl rfl (WL.nil (W.seq (W.seq (W.region (WL.mv rfl rfl (WL.lss rfl rfl rfl (WL.mv rfl rfl (WL.gY rfl rfl (WL.faN (T := Ty) (off' := 2) rfl rfl rfl rfl rfl rfl rfl (WL.gY rfl rfl (WL.ldN (T := Ty) (j := 3) rfl rfl rfl rfl rfl rfl (WL.gY rfl rfl (WL.mv rfl rfl ?_)))))))))))))
      refine WL.gY rfl rfl ?_
      refine WL.ix (T := Ty) rfl rfl rfl (by assumption) rfl rfl (by omega) (by first | omega | decide +kernel) ?_
      refine WL.gY rfl rfl ?_
      refine WL.ldAE (T := Ty) (j := 0) rfl rfl rfl rfl rfl (by assumption) rfl ?_
      refine WL.gY rfl rfl ?_
      refine WL.callV rfl rfl (fun x p d => residentr_c _ _ _ _ _ _ _ _) ?_
      refine WL.gY rfl rfl (WL.not rfl rfl (WL.pickF rfl rfl rfl (WL.nil ?_)))
      rw [hr']
      refine W.condF rfl (W.skip (W.seq (W.region (WL.faN (T := Ty) (off' := 2) rfl rfl rfl rfl rfl rfl rfl (WL.ldN (T := Ty) (j := 3) rfl rfl rfl rfl rfl rfl (WL.mv rfl rfl ?_))))))
      refine WL.ix (T := Ty) rfl rfl rfl (by assumption) rfl rfl (by omega) (by first | omega | decide +kernel) ?_
      refine WL.faEN (T := Ty) (off' := 4) rfl rfl rfl rfl rfl rfl rfl ?_
      refine WL.stEF (T := Ty) (j := 0) rfl rfl rfl rfl rfl rfl (by first | assumption | omega | (simp only [List.length_set]; omega) | (simp; omega)) rfl (by repeat' constructor) ?_
      refine WL.nil (W.seq (W.region ?_))
      refine WL.ldAF (T := Ty) (j := 3) rfl rfl rfl rfl rfl rfl (by repeat' constructor) ?_
      refine WL.stAO (T := Ty) (j := 1) rfl rfl rfl rfl (by repeat' first | exact AO.nil | apply AO.cons (by first | rfl | exact SL.one (by assumption))) rfl rfl (by repeat' constructor) (by repeat' constructor) ?_
      refine WL.as rfl rfl (WL.nil ?_)
      rw [hset0]
      exact W.fit (Hs' := [box b2 _ _, Buf 7 u3 _]) (by (repeat' first | exact Sel.nil | apply Sel.k | exact Pick.h | apply Pick.t)) (W.retC2 (T := Ty) (j := 0) rfl rfl rfl rfl rfl rfl rfl (fun h q => ⟨u3, ⟨rfl, by unfold setP; dsimp only; rw [List.length_set]; assumption⟩, q⟩))
theorem pinr_c (ρ : Hp) (c : Clk) (v : Value) (k : Ky) (m : Int) (hln : c.pages.length ≤ 1000000) (r0 : ROs ρ 7 v (c.pages.flatMap pgC)) :
    Fn Try.prog 79 #[.agg #[.int .i64 c.most, .int .i64 c.target, v, .int .i64 (c.hot : Int), .int .i64 (c.cold : Int), .int .i64 (c.test : Int)], .agg #[.int .i64 k.a, .int .i64 k.b, .int .i64 k.c], .int .i64 m] ρ [] (OCB (pinP c k m)) := by
  have l1 := pgs_cells c.pages
  have s0 : SL v c.pages.length := r0.sl l1 (by omega)
  refine in79 rfl rfl ?_
  rcases fnd_lt c.pages k with hf | ⟨i, p, hf, hp, hpk⟩
  · rw [pin_no hf]
    refine W.seq (W.region ?_)
    refine WL.bxF rfl rfl (by repeat' constructor) (fun b0 => ?_)
    refine WL.bxF rfl rfl (by repeat' constructor) (fun b1 => ?_)
    refine WL.alF (T := Ty) rfl rfl (by repeat' constructor) (fun b2 => ?_)
    refine WL.as rfl rfl (WL.nil (W.seq (W.region ?_)))
    refine WL.ldAF (T := Ty) (j := 2) rfl rfl rfl rfl rfl rfl (by repeat' constructor) ?_
    refine WL.callF rfl rfl (fun x p d => copied15_c _ _ _ _ _ _ _ _ (by first | assumption | exact ROs.wide (by assumption) | exact ROs.mono (by assumption) (eqh_at 0 rfl p d) | exact ros_at 0 rfl p d | exact ros_at 1 rfl p d | exact ros_at 2 rfl p d | exact ros_at 3 rfl p d | exact ros_at 4 rfl p d) (by first | assumption | omega)) (fun r3 => ?_)
    refine WL.opens (α := Value) (φ := fun v => r3 = .agg #[.int .i64 _, .int .i64 _, v, .int .i64 _, .int .i64 _, .int .i64 _] ∧ SL v _) (ps := fun v => [Buf 7 v _]) 0 rfl (fun h q => q) (by repeat' constructor) ?_
    rintro u3 ⟨es3, su3⟩
    subst es3
    dsimp only [List.cons_append, List.nil_append] at su3 ⊢
    refine WL.stAO (T := Ty) (j := 3) rfl rfl rfl rfl (by repeat' first | exact AO.nil | apply AO.cons (by first | rfl | exact SL.one (by assumption))) rfl rfl (by repeat' constructor) (by repeat' constructor) ?_
    refine WL.nil (W.seq (W.region ?_))
    refine WL.ldAF (T := Ty) (j := 3) rfl rfl rfl rfl rfl rfl (by repeat' constructor) ?_
    refine WL.ldAF (T := Ty) (j := 2) rfl rfl rfl rfl rfl rfl (by repeat' constructor) ?_
    refine WL.callV rfl rfl (fun x p d => findr15_e _ _ _ _ _ _ _ _ _ _ _ _ (by first | assumption | exact ROs.wide (by assumption) | exact ROs.mono (by assumption) (eqh_at 0 rfl p d) | exact ros_at 0 rfl p d | exact ros_at 1 rfl p d | exact ros_at 2 rfl p d | exact ros_at 3 rfl p d | exact ros_at 4 rfl p d) (by first | assumption | omega) (by assumption)) ?_
    refine WL.as rfl rfl (WL.nil (W.seq (W.seq (W.region (WL.mv rfl rfl (WL.lss rfl rfl rfl (WL.mv rfl rfl (WL.gdN rfl rfl rfl rfl rfl rfl (WL.gdN rfl rfl rfl rfl rfl rfl (WL.gdN rfl rfl rfl rfl rfl rfl (WL.gdN rfl rfl rfl rfl rfl rfl (WL.gdN rfl rfl rfl rfl rfl rfl (WL.gdN rfl rfl rfl rfl rfl rfl ?_)))))))))))))
    refine WL.gdN rfl rfl rfl rfl rfl rfl (WL.pickT rfl rfl rfl (WL.nil (W.condT rfl (W.seq (W.region ?_)))))
    refine WL.ldAF (T := Ty) (j := 3) rfl rfl rfl rfl rfl rfl (by repeat' constructor) ?_
    refine WL.stAO (T := Ty) (j := 1) rfl rfl rfl rfl (by repeat' first | exact AO.nil | apply AO.cons (by first | rfl | exact SL.one (by assumption))) rfl rfl (by repeat' constructor) (by repeat' constructor) ?_
    refine WL.as rfl rfl (WL.nil ?_)
    exact W.fit (Hs' := [box b2 _ _, Buf 7 u3 _]) (by (repeat' first | exact Sel.nil | apply Sel.k | exact Pick.h | apply Pick.t)) (W.retC2 (T := Ty) (j := 0) rfl rfl rfl rfl rfl rfl rfl (fun h q => ⟨u3, ⟨rfl, by assumption⟩, q⟩))
  · rw [pin_at hf hp]
    have hpl := (List.getElem?_eq_some_iff.1 hp).1
    have hrow : ((c.pages.flatMap pgC).drop (((i : Nat) : Int).toNat * 7)).take 7 = pgC p := flat_row pg_len hp
    have g6 : (c.pages.flatMap pgC)[((i : Nat) : Int).toNat * 7 + 6]? = some (.int .i64 p.pins) := flat_get pg_len hp rfl
    unfold pgC at hrow
    have hset0 : (c.pages.flatMap pgC).set (((i : Nat) : Int).toNat * 7 + 6) (.int .i64 (max (IntKind.i64.wrap (p.pins + m)) 0)) = (c.pages.set i { p with pins := max (IntKind.i64.wrap (p.pins + m)) 0 }).flatMap pgC := flat_set (j := 6) pg_len hp (by decide) rfl
    cases hr : isRes p with
    | false =>
      have hr' : (decide (p.kind = 1) || decide (p.kind = 2)) = false := hr
      rw [if_neg (by decide)]
      refine W.seq (W.region ?_)
      refine WL.bxF rfl rfl (by repeat' constructor) (fun b0 => ?_)
      refine WL.bxF rfl rfl (by repeat' constructor) (fun b1 => ?_)
      refine WL.alF (T := Ty) rfl rfl (by repeat' constructor) (fun b2 => ?_)
      refine WL.as rfl rfl (WL.nil (W.seq (W.region ?_)))
      refine WL.ldAF (T := Ty) (j := 2) rfl rfl rfl rfl rfl rfl (by repeat' constructor) ?_
      refine WL.callF rfl rfl (fun x p d => copied15_c _ _ _ _ _ _ _ _ (by first | assumption | exact ROs.wide (by assumption) | exact ROs.mono (by assumption) (eqh_at 0 rfl p d) | exact ros_at 0 rfl p d | exact ros_at 1 rfl p d | exact ros_at 2 rfl p d | exact ros_at 3 rfl p d | exact ros_at 4 rfl p d) (by first | assumption | omega)) (fun r3 => ?_)
      refine WL.opens (α := Value) (φ := fun v => r3 = .agg #[.int .i64 _, .int .i64 _, v, .int .i64 _, .int .i64 _, .int .i64 _] ∧ SL v _) (ps := fun v => [Buf 7 v _]) 0 rfl (fun h q => q) (by repeat' constructor) ?_
      rintro u3 ⟨es3, su3⟩
      subst es3
      dsimp only [List.cons_append, List.nil_append] at su3 ⊢
      refine WL.stAO (T := Ty) (j := 3) rfl rfl rfl rfl (by repeat' first | exact AO.nil | apply AO.cons (by first | rfl | exact SL.one (by assumption))) rfl rfl (by repeat' constructor) (by repeat' constructor) ?_
      refine WL.nil (W.seq (W.region ?_))
      refine WL.ldAF (T := Ty) (j := 3) rfl rfl rfl rfl rfl rfl (by repeat' constructor) ?_
      refine WL.ldAF (T := Ty) (j := 2) rfl rfl rfl rfl rfl rfl (by repeat' constructor) ?_
      refine WL.callV rfl rfl (fun x p d => findr15_e _ _ _ _ _ _ _ _ _ _ _ _ (by first | assumption | exact ROs.wide (by assumption) | exact ROs.mono (by assumption) (eqh_at 0 rfl p d) | exact ros_at 0 rfl p d | exact ros_at 1 rfl p d | exact ros_at 2 rfl p d | exact ros_at 3 rfl p d | exact ros_at 4 rfl p d) (by first | assumption | omega) (by assumption)) ?_
      refine WL.as rfl rfl (WL.nil (W.seq (W.seq (W.region (WL.mv rfl rfl (WL.lss rfl rfl rfl (WL.mv rfl rfl (WL.gY rfl rfl (WL.faN (T := Ty) (off' := 2) rfl rfl rfl rfl rfl rfl rfl (WL.gY rfl rfl (WL.ldN (T := Ty) (j := 3) rfl rfl rfl rfl rfl rfl (WL.gY rfl rfl (WL.mv rfl rfl ?_)))))))))))))
      refine WL.gY rfl rfl ?_
      refine WL.ix (T := Ty) rfl rfl rfl (by assumption) rfl rfl (by omega) (by first | omega | decide +kernel) ?_
      refine WL.gY rfl rfl ?_
      refine WL.ldAE (T := Ty) (j := 0) rfl rfl rfl rfl rfl (by assumption) rfl ?_
      refine WL.gY rfl rfl ?_
      refine WL.callV rfl rfl (fun x p d => residentr_c _ _ _ _ _ _ _ _) ?_
      refine WL.gY rfl rfl (WL.not rfl rfl (WL.pickF rfl rfl rfl (WL.nil ?_)))
      rw [hr']
      refine W.condT rfl (W.seq (W.region ?_))
      refine WL.ldAF (T := Ty) (j := 3) rfl rfl rfl rfl rfl rfl (by repeat' constructor) ?_
      refine WL.stAO (T := Ty) (j := 1) rfl rfl rfl rfl (by repeat' first | exact AO.nil | apply AO.cons (by first | rfl | exact SL.one (by assumption))) rfl rfl (by repeat' constructor) (by repeat' constructor) ?_
      refine WL.as rfl rfl (WL.nil ?_)
      exact W.fit (Hs' := [box b2 _ _, Buf 7 u3 _]) (by (repeat' first | exact Sel.nil | apply Sel.k | exact Pick.h | apply Pick.t)) (W.retC2 (T := Ty) (j := 0) rfl rfl rfl rfl rfl rfl rfl (fun h q => ⟨u3, ⟨rfl, by assumption⟩, q⟩))
    | true =>
      have hr' : (decide (p.kind = 1) || decide (p.kind = 2)) = true := hr
      rw [if_pos rfl]
      refine W.seq (W.region ?_)
      refine WL.bxF rfl rfl (by repeat' constructor) (fun b0 => ?_)
      refine WL.bxF rfl rfl (by repeat' constructor) (fun b1 => ?_)
      refine WL.alF (T := Ty) rfl rfl (by repeat' constructor) (fun b2 => ?_)
      refine WL.as rfl rfl (WL.nil (W.seq (W.region ?_)))
      refine WL.ldAF (T := Ty) (j := 2) rfl rfl rfl rfl rfl rfl (by repeat' constructor) ?_
      refine WL.callF rfl rfl (fun x p d => copied15_c _ _ _ _ _ _ _ _ (by first | assumption | exact ROs.wide (by assumption) | exact ROs.mono (by assumption) (eqh_at 0 rfl p d) | exact ros_at 0 rfl p d | exact ros_at 1 rfl p d | exact ros_at 2 rfl p d | exact ros_at 3 rfl p d | exact ros_at 4 rfl p d) (by first | assumption | omega)) (fun r3 => ?_)
      refine WL.opens (α := Value) (φ := fun v => r3 = .agg #[.int .i64 _, .int .i64 _, v, .int .i64 _, .int .i64 _, .int .i64 _] ∧ SL v _) (ps := fun v => [Buf 7 v _]) 0 rfl (fun h q => q) (by repeat' constructor) ?_
      rintro u3 ⟨es3, su3⟩
      subst es3
      dsimp only [List.cons_append, List.nil_append] at su3 ⊢
      refine WL.stAO (T := Ty) (j := 3) rfl rfl rfl rfl (by repeat' first | exact AO.nil | apply AO.cons (by first | rfl | exact SL.one (by assumption))) rfl rfl (by repeat' constructor) (by repeat' constructor) ?_
      refine WL.nil (W.seq (W.region ?_))
      refine WL.ldAF (T := Ty) (j := 3) rfl rfl rfl rfl rfl rfl (by repeat' constructor) ?_
      refine WL.ldAF (T := Ty) (j := 2) rfl rfl rfl rfl rfl rfl (by repeat' constructor) ?_
      refine WL.callV rfl rfl (fun x p d => findr15_e _ _ _ _ _ _ _ _ _ _ _ _ (by first | assumption | exact ROs.wide (by assumption) | exact ROs.mono (by assumption) (eqh_at 0 rfl p d) | exact ros_at 0 rfl p d | exact ros_at 1 rfl p d | exact ros_at 2 rfl p d | exact ros_at 3 rfl p d | exact ros_at 4 rfl p d) (by first | assumption | omega) (by assumption)) ?_
      refine WL.as rfl rfl (WL.nil (W.seq (W.seq (W.region (WL.mv rfl rfl (WL.lss rfl rfl rfl (WL.mv rfl rfl (WL.gY rfl rfl (WL.faN (T := Ty) (off' := 2) rfl rfl rfl rfl rfl rfl rfl (WL.gY rfl rfl (WL.ldN (T := Ty) (j := 3) rfl rfl rfl rfl rfl rfl (WL.gY rfl rfl (WL.mv rfl rfl ?_)))))))))))))
      refine WL.gY rfl rfl ?_
      refine WL.ix (T := Ty) rfl rfl rfl (by assumption) rfl rfl (by omega) (by first | omega | decide +kernel) ?_
      refine WL.gY rfl rfl ?_
      refine WL.ldAE (T := Ty) (j := 0) rfl rfl rfl rfl rfl (by assumption) rfl ?_
      refine WL.gY rfl rfl ?_
      refine WL.callV rfl rfl (fun x p d => residentr_c _ _ _ _ _ _ _ _) ?_
      refine WL.gY rfl rfl (WL.not rfl rfl (WL.pickF rfl rfl rfl (WL.nil ?_)))
      rw [hr']
      refine W.condF rfl (W.skip (W.seq ?_))
      refine W.drawA 12 rfl (fun σ0 hσ0 dσ0 => ?_)
      have fσ0_0 := ros_at 0 rfl hσ0 dσ0
      have fσ0_1 := rb_at 1 rfl hσ0 dσ0
      have fσ0_2 := rb_at 2 rfl hσ0 dσ0
      have fσ0_3 := rb_at 3 rfl hσ0 dσ0
      refine WD.takeL 0 rfl (by decide +kernel) (WL.faN (T := Ty) (off' := 2) rfl rfl rfl rfl rfl rfl rfl (WL.nilT (WD.takeL 1 rfl (by decide +kernel) ?_)))
      refine WL.ldBN (T := Ty) rfl rfl rfl rfl (by first | assumption | exact RB.wide (by assumption) | exact In.rb (by assumption)) rfl ?_
      refine WL.nilT (WD.takeL 2 rfl (by decide +kernel) (WL.mv rfl rfl (WL.nilT (WD.takeL 3 rfl (by decide +kernel) (WL.faN (T := Ty) (off' := 2) rfl rfl rfl rfl rfl rfl rfl (WL.nilT (WD.takeL 4 rfl (by decide +kernel) ?_)))))))
      refine WL.ldBN (T := Ty) rfl rfl rfl rfl (by first | assumption | exact RB.wide (by assumption) | exact In.rb (by assumption)) rfl ?_
      refine WL.nilT (WD.takeL 5 rfl (by decide +kernel) (WL.mv rfl rfl (WL.nilT (WD.takeL 6 rfl (by decide +kernel) ?_))))
      refine WL.ix (T := Ty) rfl rfl rfl (by assumption) rfl rfl (by omega) (by first | omega | decide +kernel) ?_
      refine WL.nilT (WD.takeL 7 rfl (by decide +kernel) (WL.faEN (T := Ty) (off' := 6) rfl rfl rfl rfl rfl rfl rfl (WL.nilT (WD.takeL 8 rfl (by decide +kernel) ?_))))
      refine WL.ldR (T := Ty) rfl rfl rfl rfl (by first | assumption | exact ROs.wide (by assumption)) (by assumption) ?_
      refine WL.nilT (WD.takeL 9 rfl (by decide +kernel) (WL.mv rfl rfl (WL.nilT (WD.takeL 10 rfl (by decide +kernel) (WL.add (K := .i64) rfl rfl rfl (WL.nilT (WD.takeL 11 rfl (by decide +kernel) (WL.mx rfl rfl rfl (WL.nilT ?_)))))))))
      refine WD.lastG hσ0 (by decide +kernel) (by repeat' constructor) rfl (by repeat' constructor) ?_
      refine WL.ix (T := Ty) rfl rfl rfl (by assumption) rfl rfl (by omega) (by first | omega | decide +kernel) ?_
      refine WL.faEN (T := Ty) (off' := 6) rfl rfl rfl rfl rfl rfl rfl ?_
      refine WL.stEF (T := Ty) (j := 0) rfl rfl rfl rfl rfl rfl (by first | assumption | omega | (simp only [List.length_set]; omega) | (simp; omega)) rfl (by repeat' constructor) ?_
      refine WL.nil (W.seq (W.region ?_))
      refine WL.ldAF (T := Ty) (j := 3) rfl rfl rfl rfl rfl rfl (by repeat' constructor) ?_
      refine WL.stAO (T := Ty) (j := 1) rfl rfl rfl rfl (by repeat' first | exact AO.nil | apply AO.cons (by first | rfl | exact SL.one (by assumption))) rfl rfl (by repeat' constructor) (by repeat' constructor) ?_
      refine WL.as rfl rfl (WL.nil ?_)
      rw [hset0]
      exact W.fit (Hs' := [box b2 _ _, Buf 7 u3 _]) (by (repeat' first | exact Sel.nil | apply Sel.k | exact Pick.h | apply Pick.t)) (W.retC2 (T := Ty) (j := 0) rfl rfl rfl rfl rfl rfl rfl (fun h q => ⟨u3, ⟨rfl, by unfold setP; dsimp only; rw [List.length_set]; assumption⟩, q⟩))
theorem dropr_c (ρ : Hp) (c : Clk) (v : Value) (k : Ky) (hG : RefG c) (r0 : ROs ρ 7 v (c.pages.flatMap pgC)) :
    Fn Try.prog 80 #[.agg #[.int .i64 c.most, .int .i64 c.target, v, .int .i64 (c.hot : Int), .int .i64 (c.cold : Int), .int .i64 (c.test : Int)], .agg #[.int .i64 k.a, .int .i64 k.b, .int .i64 k.c]] ρ [] (OCB (dropP c k)) := by
  have hln := hG.B.ln
  have l1 := pgs_cells c.pages
  have s0 : SL v c.pages.length := r0.sl l1 (by omega)
  refine in80 rfl rfl ?_
  rcases fnd_lt c.pages k with hf | ⟨i, p, hf, hp, hpk⟩
  · rw [drop_no hf]
    refine W.seq (W.region ?_)
    refine WL.bxF rfl rfl (by repeat' constructor) (fun b0 => ?_)
    refine WL.bxF rfl rfl (by repeat' constructor) (fun b1 => ?_)
    refine WL.alF (T := Ty) rfl rfl (by repeat' constructor) (fun b2 => ?_)
    refine WL.as rfl rfl (WL.nil (W.seq (W.region ?_)))
    refine WL.ldAF (T := Ty) (j := 2) rfl rfl rfl rfl rfl rfl (by repeat' constructor) ?_
    refine WL.callF rfl rfl (fun x p d => copied15_c _ _ _ _ _ _ _ _ (by first | assumption | exact ROs.wide (by assumption) | exact ROs.mono (by assumption) (eqh_at 0 rfl p d) | exact ros_at 0 rfl p d | exact ros_at 1 rfl p d | exact ros_at 2 rfl p d | exact ros_at 3 rfl p d | exact ros_at 4 rfl p d) (by first | assumption | omega)) (fun r3 => ?_)
    refine WL.opens (α := Value) (φ := fun v => r3 = .agg #[.int .i64 _, .int .i64 _, v, .int .i64 _, .int .i64 _, .int .i64 _] ∧ SL v _) (ps := fun v => [Buf 7 v _]) 0 rfl (fun h q => q) (by repeat' constructor) ?_
    rintro u3 ⟨es3, su3⟩
    subst es3
    dsimp only [List.cons_append, List.nil_append] at su3 ⊢
    refine WL.bdC (T := Ty) rfl rfl rfl rfl (by repeat' first | exact CO.nil | apply CO.one (by first | rfl | exact SL.one (by assumption)) | apply CO.agg) rfl (by repeat' constructor) ?_
    refine WL.bxF rfl rfl (by repeat' constructor) (fun b4 => ?_)
    refine WL.as rfl rfl (WL.nil (W.seq (W.region ?_)))
    refine WL.ldAF (T := Ty) (j := 4) rfl rfl rfl rfl rfl rfl (by repeat' constructor) ?_
    refine WL.ldAF (T := Ty) (j := 3) rfl rfl rfl rfl rfl rfl (by repeat' constructor) ?_
    refine WL.callV rfl rfl (fun x p d => findr15_e _ _ _ _ _ _ _ _ _ _ _ _ (by first | assumption | exact ROs.wide (by assumption) | exact ROs.mono (by assumption) (eqh_at 0 rfl p d) | exact ros_at 0 rfl p d | exact ros_at 1 rfl p d | exact ros_at 2 rfl p d | exact ros_at 3 rfl p d | exact ros_at 4 rfl p d) (by first | assumption | omega) (by assumption)) ?_
    refine WL.as rfl rfl (WL.nil (W.seq (W.seq (W.region (WL.mv rfl rfl (WL.lss rfl rfl rfl (WL.nil (W.condT rfl (W.seq (W.region (WL.mv rfl rfl (WL.nc rfl rfl (WL.faN (T := Ty) (off' := 0) rfl rfl rfl rfl rfl rfl rfl ?_)))))))))))))
    refine WL.ldAF (T := Ty) (j := 0) rfl rfl rfl rfl rfl rfl (by repeat' constructor) ?_
    refine WL.stAO (T := Ty) (j := 2) rfl rfl rfl rfl (by repeat' first | exact AO.nil | apply AO.cons (by first | rfl | exact SL.one (by assumption))) rfl rfl (by repeat' constructor) (by repeat' constructor) ?_
    refine WL.as rfl rfl (WL.nil ?_)
    exact W.fit (Hs' := [box b2 _ _, Buf 7 u3 _]) (by (repeat' first | exact Sel.nil | apply Sel.k | exact Pick.h | apply Pick.t)) (W.retC2 (T := Ty) (j := 0) rfl rfl rfl rfl rfl rfl rfl (fun h q => ⟨u3, ⟨rfl, by assumption⟩, q⟩))
  · rw [drop_at hf]
    have hpl := (List.getElem?_eq_some_iff.1 hp).1
    have hx1 := hG.R.h1
    have hx2 := hG.R.h2
    have hx3 := hG.R.h3
    refine W.seq (W.region ?_)
    refine WL.bxF rfl rfl (by repeat' constructor) (fun b0 => ?_)
    refine WL.bxF rfl rfl (by repeat' constructor) (fun b1 => ?_)
    refine WL.alF (T := Ty) rfl rfl (by repeat' constructor) (fun b2 => ?_)
    refine WL.as rfl rfl (WL.nil (W.seq (W.region ?_)))
    refine WL.ldAF (T := Ty) (j := 2) rfl rfl rfl rfl rfl rfl (by repeat' constructor) ?_
    refine WL.callF rfl rfl (fun x p d => copied15_c _ _ _ _ _ _ _ _ (by first | assumption | exact ROs.wide (by assumption) | exact ROs.mono (by assumption) (eqh_at 0 rfl p d) | exact ros_at 0 rfl p d | exact ros_at 1 rfl p d | exact ros_at 2 rfl p d | exact ros_at 3 rfl p d | exact ros_at 4 rfl p d) (by first | assumption | omega)) (fun r3 => ?_)
    refine WL.opens (α := Value) (φ := fun v => r3 = .agg #[.int .i64 _, .int .i64 _, v, .int .i64 _, .int .i64 _, .int .i64 _] ∧ SL v _) (ps := fun v => [Buf 7 v _]) 0 rfl (fun h q => q) (by repeat' constructor) ?_
    rintro u3 ⟨es3, su3⟩
    subst es3
    dsimp only [List.cons_append, List.nil_append] at su3 ⊢
    refine WL.bdC (T := Ty) rfl rfl rfl rfl (by repeat' first | exact CO.nil | apply CO.one (by first | rfl | exact SL.one (by assumption)) | apply CO.agg) rfl (by repeat' constructor) ?_
    refine WL.bxF rfl rfl (by repeat' constructor) (fun b4 => ?_)
    refine WL.as rfl rfl (WL.nil (W.seq (W.region ?_)))
    refine WL.ldAF (T := Ty) (j := 4) rfl rfl rfl rfl rfl rfl (by repeat' constructor) ?_
    refine WL.ldAF (T := Ty) (j := 3) rfl rfl rfl rfl rfl rfl (by repeat' constructor) ?_
    refine WL.callV rfl rfl (fun x p d => findr15_e _ _ _ _ _ _ _ _ _ _ _ _ (by first | assumption | exact ROs.wide (by assumption) | exact ROs.mono (by assumption) (eqh_at 0 rfl p d) | exact ros_at 0 rfl p d | exact ros_at 1 rfl p d | exact ros_at 2 rfl p d | exact ros_at 3 rfl p d | exact ros_at 4 rfl p d) (by first | assumption | omega) (by assumption)) ?_
    refine WL.as rfl rfl (WL.nil (W.seq (W.seq (W.region (WL.mv rfl rfl (WL.lss rfl rfl rfl (WL.nil (W.condF rfl (W.skip (W.seq (W.region (WL.mv rfl rfl (WL.mv rfl rfl ?_)))))))))))))
    refine WL.callTk (Take.cons 0 rfl (Take.cons 0 rfl Take.nil)) rfl rfl (fun x p d => goesr_c _ _ _ _ _ _ _ _ _ _ _ (by first | assumption | omega) (by first | assumption | omega) (by assumption) (by first | assumption | omega) (by first | assumption | omega) (by first | assumption | omega)) (by repeat' constructor) (fun r5 => ?_)
    refine WL.opens (α := Value) (φ := fun v => r5 = .tuple #[] ∧ SL v _) (ps := fun v => RgO _ _ _ v) 0 rfl (fun h q => q) (by repeat' constructor) ?_
    rintro u5 ⟨es5, su5⟩
    subst es5
    dsimp only [RgO, List.cons_append, List.nil_append] at su5 ⊢
    refine WL.nil (W.seq (W.region (WL.mv rfl rfl (WL.nc rfl rfl (WL.faN (T := Ty) (off' := 0) rfl rfl rfl rfl rfl rfl rfl ?_)))))
    refine WL.ldAF (T := Ty) (j := 0) rfl rfl rfl rfl rfl rfl (by repeat' constructor) ?_
    refine WL.stAO (T := Ty) (j := 2) rfl rfl rfl rfl (by repeat' first | exact AO.nil | apply AO.cons (by first | rfl | exact SL.one (by assumption))) rfl rfl (by repeat' constructor) (by repeat' constructor) ?_
    refine WL.as rfl rfl (WL.nil ?_)
    exact W.fit (Hs' := [box b2 _ _, Buf 7 u5 _]) (by (repeat' first | exact Sel.nil | apply Sel.k | exact Pick.h | apply Pick.t)) (W.retC2 (T := Ty) (j := 0) rfl rfl rfl rfl rfl rfl rfl (fun h q => ⟨u5, ⟨rfl, su5⟩, q⟩))
end Go.Proofs.Ytbebhmdjnneimaa

/- The document's ring: a page comes, and what it puts out. -/
set_option linter.unusedSimpArgs false
set_option linter.unusedVariables false
set_option maxRecDepth 20000
set_option maxHeartbeats 4000000
namespace Go.Proofs.Ytbebhmdjnneimaa
open Go
theorem cold_res {c : Clk} {y : Clk × Ky} (hI : ClkI c) (hf : cnt isFree c.pages ≠ 0) (e : coldL 999999 c = some y) : cnt isRes y.1.pages + 1 = cnt isRes c.pages := by
  have hlr : cnt isRef c.pages ≤ c.pages.length := List.countP_le_length
  have hw := way_le isCold c.pages c.cold
  have hln := hI.ln
  obtain ⟨r, e1, hc⟩ := coldL_ex 90000 999999 c hI.R (by omega) (by have := hI.m1; omega) hI.tm hf (by unfold coldM; split <;> omega) (by omega)
  rw [e] at e1
  rw [Option.some.inj e1]
  exact hc
attribute [local irreducible] W WL Fn Buf ROs SL eptr box Rd Src bndOK WD RB Reads In Own handG handC cnt goesP comesP fndK touchP pinP dropP outL coolL coldL
theorem admitr_c (ρ : Hp) (c : Clk) (v : Value) (k : Ky) (d : Clk × List Ky × Bool) (hG : RefG c) (hI : ClkI c) (r0 : ROs ρ 7 v (c.pages.flatMap pgC)) (hd : admitP 1000000 c k = some d) :
    Fn Try.prog 77 #[.agg #[.int .i64 c.most, .int .i64 c.target, v, .int .i64 (c.hot : Int), .int .i64 (c.cold : Int), .int .i64 (c.test : Int)], .agg #[.int .i64 k.a, .int .i64 k.b, .int .i64 k.c]] ρ [] (OAd d) := by
  have hln := hG.B.ln
  have l1 := pgs_cells c.pages
  have s0 : SL v c.pages.length := r0.sl l1 (by omega)
  have hk : (⟨k.a, k.b, k.c⟩ : Ky) = k := rfl
  have hq1 := cnt_le isHot c.pages
  have hq2 := cnt_le (isKd 2) c.pages
  have hq3 : cnt isRes c.pages = cnt isHot c.pages + cnt (isKd 2) c.pages := cnt_res c.pages
  unfold admitP at hd
  refine in77 rfl rfl ?_
  generalize hfk : fndK c.pages k = fk at hd
  refine W.seq (W.region ?_)
  refine WL.bxF rfl rfl (by repeat' constructor) (fun b0 => ?_)
  refine WL.bxF rfl rfl (by repeat' constructor) (fun b1 => ?_)
  refine WL.alF (T := Ty) rfl rfl (by repeat' constructor) (fun b2 => ?_)
  refine WL.as rfl rfl (WL.as rfl rfl (WL.nil (W.seq (W.region ?_))))
  refine WL.ldAF (T := Ty) (j := 2) rfl rfl rfl rfl rfl rfl (by repeat' constructor) ?_
  refine WL.callF rfl rfl (fun x p d => copied15_c _ _ _ _ _ _ _ _ (by first | assumption | exact ROs.wide (by assumption) | exact ROs.mono (by assumption) (eqh_at 0 rfl p d) | exact ros_at 0 rfl p d | exact ros_at 1 rfl p d | exact ros_at 2 rfl p d | exact ros_at 3 rfl p d | exact ros_at 4 rfl p d) (by first | assumption | omega)) (fun r3 => ?_)
  refine WL.opens (α := Value) (φ := fun v => r3 = .agg #[.int .i64 _, .int .i64 _, v, .int .i64 _, .int .i64 _, .int .i64 _] ∧ SL v _) (ps := fun v => [Buf 7 v _]) 0 rfl (fun h q => q) (by repeat' constructor) ?_
  rintro u3 ⟨es3, su3⟩
  subst es3
  dsimp only [List.cons_append, List.nil_append] at su3 ⊢
  refine WL.bdC (T := Ty) rfl rfl rfl rfl (by repeat' first | exact CO.nil | apply CO.one (by first | rfl | exact SL.one (by assumption)) | apply CO.agg) rfl (by repeat' constructor) ?_
  refine WL.bxF rfl rfl (by repeat' constructor) (fun b4 => ?_)
  refine WL.as rfl rfl (WL.nil (W.seq (W.region ?_)))
  refine WL.ldAF (T := Ty) (j := 4) rfl rfl rfl rfl rfl rfl (by repeat' constructor) ?_
  refine WL.ldAF (T := Ty) (j := 3) rfl rfl rfl rfl rfl rfl (by repeat' constructor) ?_
  refine WL.callV rfl rfl (fun x p d => findr15_e _ _ _ _ _ _ _ _ _ _ _ _ (by first | assumption | exact ROs.wide (by assumption) | exact ROs.mono (by assumption) (eqh_at 0 rfl p d) | exact ros_at 0 rfl p d | exact ros_at 1 rfl p d | exact ros_at 2 rfl p d | exact ros_at 3 rfl p d | exact ros_at 4 rfl p d) (by first | assumption | omega) (by assumption)) ?_
  refine WL.as rfl rfl (WL.nil (W.seq (W.seq ?_)))
  refine W.cutG (τ := Unit) (fun s => [(2, pt b0 0), (3, pt b1 0), (4, pt b2 0), (5, nilV), (6, .bool false), (7, pt b4 0), (8, .int .i64 fk), (29, .bool (touchP c k).2)]) (fun s => [box b0 [.int .i64 c.most, .int .i64 c.target, v, .int .i64 (c.hot : Int), .int .i64 (c.cold : Int), .int .i64 (c.test : Int)] 73, box b1 [.int .i64 k.a, .int .i64 k.b, .int .i64 k.c] 76, box b2 [.int .i64 0, .int .i64 0, nilV, .int .i64 0, .int .i64 0, .int .i64 0] 73, box b4 [.int .i64 c.most, .int .i64 c.target, u3, .int .i64 (c.hot : Int), .int .i64 (c.cold : Int), .int .i64 (c.test : Int), nilV] 145, Buf 7 u3 (c.pages.flatMap pgC)]) (fun s ρ' => True) ?_ (fun cut => ?_)
  · rintro _ ρ1 le1 -
    replace r0 := r0.mono le1
    cases ht : (touchP c k).2 with
    | true =>
      rw [ht, if_pos rfl] at hd
      cases hd
      refine W.condT rfl (W.seq (W.region ?_))
      refine WL.ldAF (T := Ty) (j := 0) rfl rfl rfl rfl rfl rfl (by repeat' constructor) ?_
      refine WL.ldAF (T := Ty) (j := 1) rfl rfl rfl rfl rfl rfl (by repeat' constructor) ?_
      refine WL.callF rfl rfl (fun x p d => touchr_c _ _ _ _ (by first | assumption | exact ClkB.ln (by assumption)) (by first | assumption | exact ROs.wide (by assumption) | exact ROs.mono (by assumption) (eqh_at 0 rfl p d) | exact ros_at 0 rfl p d | exact ros_at 1 rfl p d | exact ros_at 2 rfl p d | exact ros_at 3 rfl p d | exact ros_at 4 rfl p d)) (fun r5 => ?_)
      refine WL.opens (α := Value) (φ := fun v => r5 = .tuple #[.agg #[.int .i64 _, .int .i64 _, v, .int .i64 _, .int .i64 _, .int .i64 _], .bool _] ∧ SL v _) (ps := fun v => [Buf 7 v _]) 0 rfl (fun h q => q) (by repeat' constructor) ?_
      rintro u5 ⟨es5, su5⟩
      subst es5
      dsimp only [List.cons_append, List.nil_append] at su5 ⊢
      refine WL.mv rfl rfl (WL.extL rfl rfl rfl (WL.extL rfl rfl rfl ?_))
      refine WL.alF (T := Ty) rfl rfl (by repeat' constructor) (fun b6 => ?_)
      refine WL.stAO (T := Ty) (j := 0) rfl rfl rfl rfl (by repeat' first | exact AO.nil | apply AO.cons (by first | rfl | exact SL.one (by assumption))) rfl rfl (by repeat' constructor) (by repeat' constructor) ?_
      refine WL.as rfl rfl (WL.nil (W.seq (W.region ?_)))
      refine WL.ldAF (T := Ty) (j := 0) rfl rfl rfl rfl rfl rfl (by repeat' constructor) ?_
      refine WL.mv rfl rfl ?_
      refine WL.stAO (T := Ty) (j := 4) rfl rfl rfl rfl (by repeat' first | exact AO.nil | apply AO.cons (by first | rfl | exact SL.one (by assumption))) rfl rfl (by repeat' constructor) (by repeat' constructor) ?_
      refine WL.as rfl rfl (WL.as rfl rfl (WL.nil ?_))
      rw [ht]
      refine W.nb (sz := 3) ?_
      exact W.fit (Hs' := [box b2 _ _, Buf 7 _ _, Buf 3 nilV []]) (by (repeat' first | exact Sel.nil | apply Sel.k | exact Pick.h | apply Pick.t)) (W.retC3 (T := Ty) (j := 0) rfl rfl rfl rfl rfl rfl rfl rfl (fun h q => ⟨(_, nilV), ⟨rfl, by assumption, slZ⟩, q⟩))
    | false =>
      rw [ht, if_neg (by decide)] at hd
      refine W.condF rfl (W.skip (W.seq ?_))
      refine W.cutG (τ := Unit) (fun s => [(2, pt b0 0), (3, pt b1 0), (4, pt b2 0), (5, nilV), (6, .bool false), (7, pt b4 0), (8, .int .i64 fk), (11, .bool (decide (c.most ≤ (cnt isRes c.pages : Int))))]) (fun s => [box b0 [.int .i64 c.most, .int .i64 c.target, v, .int .i64 (c.hot : Int), .int .i64 (c.cold : Int), .int .i64 (c.test : Int)] 73, box b1 [.int .i64 k.a, .int .i64 k.b, .int .i64 k.c] 76, box b2 [.int .i64 0, .int .i64 0, nilV, .int .i64 0, .int .i64 0, .int .i64 0] 73, box b4 [.int .i64 c.most, .int .i64 c.target, u3, .int .i64 (c.hot : Int), .int .i64 (c.cold : Int), .int .i64 (c.test : Int), nilV] 145, Buf 7 u3 (c.pages.flatMap pgC)]) (fun s ρ' => True) ?_ (fun cut2 => ?_)
      · rintro _ ρ2 le2 -
        have hK := hG.K
        refine W.seq (W.seq ?_)
        refine W.cutG (τ := Unit) (fun s => [(2, pt b0 0), (3, pt b1 0), (4, pt b2 0), (5, nilV), (6, .bool false), (7, pt b4 0), (8, .int .i64 fk), (51, .bool (decide (c.most ≤ (cnt isRes c.pages : Int) ∧ cnt isFree c.pages = 0)))]) (fun s => [box b0 [.int .i64 c.most, .int .i64 c.target, v, .int .i64 (c.hot : Int), .int .i64 (c.cold : Int), .int .i64 (c.test : Int)] 73, box b1 [.int .i64 k.a, .int .i64 k.b, .int .i64 k.c] 76, box b2 [.int .i64 0, .int .i64 0, nilV, .int .i64 0, .int .i64 0, .int .i64 0] 73, box b4 [.int .i64 c.most, .int .i64 c.target, u3, .int .i64 (c.hot : Int), .int .i64 (c.cold : Int), .int .i64 (c.test : Int), nilV] 145, Buf 7 u3 (c.pages.flatMap pgC)]) (fun s ρ' => True) ?_ (fun cut3 => ?_)
        · rintro _ ρ3 le3 -
          clear hq1 hq2 hq3 r0 le1
          by_cases hfull : c.most ≤ (cnt isRes c.pages : Int) ∧ cnt isFree c.pages = 0
          · rw [if_pos hfull] at hd
            cases hd
            refine W.condpT rfl (by omega) (W.seq (W.region (WL.mv rfl rfl (WL.nc rfl rfl (WL.faN (T := Ty) (off' := 0) rfl rfl rfl rfl rfl rfl rfl ?_)))))
            refine WL.ldAF (T := Ty) (j := 3) rfl rfl rfl rfl rfl rfl (by repeat' constructor) ?_
            refine WL.stAO (T := Ty) (j := 2) rfl rfl rfl rfl (by repeat' first | exact AO.nil | apply AO.cons (by first | rfl | exact SL.one (by assumption))) rfl rfl (by repeat' constructor) (by repeat' constructor) ?_
            refine WL.as rfl rfl (WL.as rfl rfl (WL.nil (W.nb (sz := 3) ?_)))
            exact W.fit (Hs' := [box b2 _ _, Buf 7 u3 _, Buf 3 nilV []]) (by (repeat' first | exact Sel.nil | apply Sel.k | exact Pick.h | apply Pick.t)) (W.retC3 (T := Ty) (j := 0) rfl rfl rfl rfl rfl rfl rfl rfl (fun h q => ⟨(u3, nilV), ⟨rfl, su3, slZ⟩, q⟩))
          · rw [if_neg hfull] at hd
            obtain ⟨hI1, g1, g2, g3⟩ := gone_I (k := k) hI ht
            rw [hfk] at hI1 g1 g2 g3
            refine W.condpF rfl (by omega) (W.skip (W.seq (W.seq (W.region (WL.mv rfl rfl (WL.geq rfl rfl rfl (WL.nil ?_)))))))
            refine W.cutG (τ := Clk × Value) (fun s => [(3, pt b1 0), (4, pt b2 0), (5, nilV), (6, .bool false), (7, pt b4 0), (8, .int .i64 fk)]) (fun s => [box b1 [.int .i64 k.a, .int .i64 k.b, .int .i64 k.c] 76, box b2 [.int .i64 0, .int .i64 0, nilV, .int .i64 0, .int .i64 0, .int .i64 0] 73, box b4 [.int .i64 s.1.most, .int .i64 s.1.target, s.2, .int .i64 (s.1.hot : Int), .int .i64 (s.1.cold : Int), .int .i64 (s.1.test : Int), nilV] 145, Buf 7 s.2 (s.1.pages.flatMap pgC)]) (fun s ρ' => s.1 = goneP c fk ∧ RefG s.1 ∧ SL s.2 s.1.pages.length) ?_ (fun cut4 => ?_)
            · rintro ⟨c1, v1⟩ ρ4 le4 ⟨hg, hG1, sv1⟩
              dsimp only at hg hG1 sv1 ⊢
              rw [← hg] at hd hI1 g1 g2 g3
              have hf1 : c1.most ≤ (cnt isRes c1.pages : Int) → cnt isFree c1.pages ≠ 0 := fun h1 h2 => hfull ⟨by omega, by omega⟩
              clear hg g1 g2 g3 hfull hfk ht hG hI hln l1 s0 su3 hK
              cases hx : outL 1000000 c1 [] with
              | none => rw [hx] at hd; cases hd
              | some r =>
                rw [hx] at hd
                simp only [Option.bind_some] at hd
                obtain ⟨c', hy, he⟩ := Option.map_eq_some_iff.1 hd
                subst he
                clear hd
                refine W.seq (W.block (W.nb (sz := 3) ?_))
                refine W.cutG2 (τ := Clk × Value × List Ky × Value) (fun s => [(3, pt b1 0), (4, pt b2 0), (5, nilV), (6, .bool false), (7, pt b4 0), (8, .int .i64 fk)]) (fun s => [Buf 3 s.2.2.2 (s.2.2.1.flatMap kyC), box b1 [.int .i64 k.a, .int .i64 k.b, .int .i64 k.c] 76, box b2 [.int .i64 0, .int .i64 0, nilV, .int .i64 0, .int .i64 0, .int .i64 0] 73, box b4 [.int .i64 s.1.most, .int .i64 s.1.target, s.2.1, .int .i64 (s.1.hot : Int), .int .i64 (s.1.cold : Int), .int .i64 (s.1.test : Int), s.2.2.2] 145, Buf 7 s.2.1 (s.1.pages.flatMap pgC)])
                  (fun s ρ' => r = (s.1, s.2.2.1) ∧ RefG s.1 ∧ SL s.2.1 s.1.pages.length ∧ SL s.2.2.2 s.2.2.1.length ∧ s.1.pages.length ≤ 10000) ?_ (fun cut5 => ?_)
                · clear hx hI1 hG1 sv1 hf1 c1 v1
                  rintro ⟨c, v, out, ko⟩ ρ5 le5 ⟨hr, hG, sv, sk, hl⟩
                  dsimp only at hr hG sv sk hl ⊢
                  subst hr
                  dsimp only at hy ⊢
                  have hh1 := hG.R.h1
                  have hh2 := hG.R.h2
                  have hh3 := hG.R.h3
                  by_cases hfk : 0 ≤ fk
                  · skip
                    have hnp : newPg k fk = ⟨k, 1, false, false, 0⟩ := by unfold newPg; rw [if_pos hfk, if_pos hfk]
                    rw [hnp] at hy
                    have hGc : RefG (comesP c ⟨k, 1, false, false, 0⟩) := hG.comes hl rfl rfl
                    refine W.seq (W.region ?_)
                    refine WL.ldAF (T := Ty) (j := 1) rfl rfl rfl rfl rfl rfl (by repeat' constructor) ?_
                    refine WL.bdC (T := Ty) rfl rfl rfl rfl (by repeat' first | exact CO.nil | apply CO.one (by first | rfl | exact SL.one (by assumption)) | apply CO.agg) rfl (by repeat' constructor) ?_
                    refine WL.alF (T := Ty) rfl rfl (by repeat' constructor) (fun b5 => ?_)
                    refine WL.stAO (T := Ty) (j := 0) rfl rfl rfl rfl (by repeat' first | exact AO.nil | apply AO.cons (by first | rfl | exact SL.one (by assumption))) rfl rfl (by repeat' constructor) (by repeat' constructor) ?_
                    refine WL.nil (W.seq (W.seq (W.region (WL.mv rfl rfl (WL.geq rfl rfl rfl (WL.nil (W.condpT rfl (by omega) (W.region (WL.faN (T := Ty) (off' := 3) rfl rfl rfl rfl rfl rfl rfl ?_)))))))))
                    refine WL.stF (T := Ty) (j := 0) rfl rfl rfl rfl rfl rfl rfl (by repeat' constructor) (by repeat' constructor) ?_
                    refine WL.faN (T := Ty) (off' := 5) rfl rfl rfl rfl rfl rfl rfl ?_
                    refine WL.stF (T := Ty) (j := 0) rfl rfl rfl rfl rfl rfl rfl (by repeat' constructor) (by repeat' constructor) ?_
                    refine WL.nil (W.seq (W.region (WL.mv rfl rfl ?_)))
                    refine WL.ldAF (T := Ty) (j := 0) rfl rfl rfl rfl rfl rfl (by repeat' constructor) ?_
                    refine WL.callTk (Take.cons 4 rfl (Take.cons 4 rfl Take.nil)) rfl rfl (fun x p d => comer_c _ b4 c.most c.target v ko c.pages c.hot c.cold c.test ⟨k, 1, false, false, 0⟩ (by omega) (by omega) sv (by omega) (by omega) (by omega)) (by repeat' constructor) (fun r9 => ?_)
                    refine WL.opens (α := Value) (φ := fun v => r9 = .tuple #[] ∧ SL v _) (ps := fun v => RgO _ _ _ v) 0 rfl (fun h q => q) (by repeat' constructor) ?_
                    rintro u9 ⟨es9, su9⟩
                    subst es9
                    dsimp only [RgO, List.cons_append, List.nil_append] at su9 ⊢
                    refine WL.nil (W.seq (W.region (WL.mv rfl rfl ?_)))
                    refine WL.callTk (Take.cons 0 rfl (Take.cons 0 rfl Take.nil)) rfl rfl (fun x p d => coolr_c _ _ _ _ _ _ _ (by assumption) (by assumption) (by assumption)) (by repeat' constructor) (fun r10 => ?_)
                    refine WL.opens (α := Value) (φ := fun v => r10 = .tuple #[] ∧ SL v _) (ps := fun v => RgO _ _ _ v) 0 rfl (fun h q => q) (by repeat' constructor) ?_
                    rintro u10 ⟨es10, su10⟩
                    subst es10
                    dsimp only [RgO, List.cons_append, List.nil_append] at su10 ⊢
                    refine WL.nil (W.seq ?_)
                    refine W.drawP 9 [false, false, false, false, false, true] rfl (by repeat' constructor) (by repeat' constructor) (fun σ0 hσ0 dσ0 => ?_)
                    have fσ0_0 := rb_at 0 rfl hσ0 dσ0
                    have fσ0_1 := ros_at 1 rfl hσ0 dσ0
                    have fσ0_2 := rb_at 2 rfl hσ0 dσ0
                    have fσ0_3 := ros_at 3 rfl hσ0 dσ0
                    have fσ0_4 := rb_at 4 rfl hσ0 dσ0
                    refine WD.takeL 0 rfl (by decide +kernel) (WL.mv rfl rfl (WL.nilT (WD.takeL 1 rfl (by decide +kernel) (WL.nc rfl rfl (WL.nilT (WD.takeL 2 rfl (by decide +kernel) (WL.faN (T := Ty) (off' := 0) rfl rfl rfl rfl rfl rfl rfl (WL.nilT (WD.takeL 3 rfl (by decide +kernel) ?_)))))))))
                    refine WL.ldABF (T := Ty) rfl rfl rfl rfl (by first | assumption | exact RB.wide (by assumption) | exact In.rb (by assumption)) rfl (by repeat' constructor) ?_
                    refine WL.nilT (WD.takeL 4 rfl (by decide +kernel) (WL.mv rfl rfl (WL.nilT (WD.takeL 5 rfl (by decide +kernel) (WL.nc rfl rfl (WL.nilT (WD.takeL 6 rfl (by decide +kernel) (WL.faN (T := Ty) (off' := 6) rfl rfl rfl rfl rfl rfl rfl (WL.nilT (WD.takeL 7 rfl (by decide +kernel) ?_))))))))))
                    refine WL.ldBN (T := Ty) rfl rfl rfl rfl (by first | assumption | exact RB.wide (by assumption) | exact In.rb (by assumption)) rfl ?_
                    refine WL.nilT (WD.oneL 8 rfl (by decide +kernel) ?_)
                    refine WL.stAO (T := Ty) (j := 1) rfl rfl rfl rfl (by repeat' first | exact AO.nil | apply AO.cons (by first | rfl | exact SL.one (by assumption))) rfl rfl (by repeat' constructor) (by repeat' constructor) ?_
                    refine WL.nilE ?_
                    refine WD.lastG hσ0 (by decide +kernel) (by repeat' constructor) rfl (by repeat' constructor) ?_
                    refine WL.as rfl rfl (WL.as rfl rfl (WL.nil ?_))
                    exact W.fit (Hs' := [box b2 _ _, Buf 7 u10 _, Buf 3 ko _]) (by (repeat' first | exact Sel.nil | apply Sel.k | exact Pick.h | apply Pick.t)) (W.retC3 (T := Ty) (j := 0) rfl rfl rfl rfl rfl rfl rfl rfl (fun h q => ⟨(u10, ko), ⟨rfl, by assumption, sk⟩, q⟩))
                  · skip
                    have hnp : newPg k fk = ⟨k, 2, false, true, 0⟩ := by unfold newPg; rw [if_neg hfk, if_neg hfk]
                    rw [hnp] at hy
                    have hGc : RefG (comesP c ⟨k, 2, false, true, 0⟩) := hG.comes hl rfl rfl
                    refine W.seq (W.region ?_)
                    refine WL.ldAF (T := Ty) (j := 1) rfl rfl rfl rfl rfl rfl (by repeat' constructor) ?_
                    refine WL.bdC (T := Ty) rfl rfl rfl rfl (by repeat' first | exact CO.nil | apply CO.one (by first | rfl | exact SL.one (by assumption)) | apply CO.agg) rfl (by repeat' constructor) ?_
                    refine WL.alF (T := Ty) rfl rfl (by repeat' constructor) (fun b5 => ?_)
                    refine WL.stAO (T := Ty) (j := 0) rfl rfl rfl rfl (by repeat' first | exact AO.nil | apply AO.cons (by first | rfl | exact SL.one (by assumption))) rfl rfl (by repeat' constructor) (by repeat' constructor) ?_
                    refine WL.nil (W.seq (W.seq (W.region (WL.mv rfl rfl (WL.geq rfl rfl rfl (WL.nil (W.condpF rfl (by omega) (W.skip (W.seq (W.region (WL.mv rfl rfl ?_)))))))))))
                    refine WL.ldAF (T := Ty) (j := 0) rfl rfl rfl rfl rfl rfl (by repeat' constructor) ?_
                    refine WL.callTk (Take.cons 4 rfl (Take.cons 4 rfl Take.nil)) rfl rfl (fun x p d => comer_c _ b4 c.most c.target v ko c.pages c.hot c.cold c.test ⟨k, 2, false, true, 0⟩ (by omega) (by omega) sv (by omega) (by omega) (by omega)) (by repeat' constructor) (fun r9 => ?_)
                    refine WL.opens (α := Value) (φ := fun v => r9 = .tuple #[] ∧ SL v _) (ps := fun v => RgO _ _ _ v) 0 rfl (fun h q => q) (by repeat' constructor) ?_
                    rintro u9 ⟨es9, su9⟩
                    subst es9
                    dsimp only [RgO, List.cons_append, List.nil_append] at su9 ⊢
                    refine WL.nil (W.seq (W.region (WL.mv rfl rfl ?_)))
                    refine WL.callTk (Take.cons 0 rfl (Take.cons 0 rfl Take.nil)) rfl rfl (fun x p d => coolr_c _ _ _ _ _ _ _ (by assumption) (by assumption) (by assumption)) (by repeat' constructor) (fun r10 => ?_)
                    refine WL.opens (α := Value) (φ := fun v => r10 = .tuple #[] ∧ SL v _) (ps := fun v => RgO _ _ _ v) 0 rfl (fun h q => q) (by repeat' constructor) ?_
                    rintro u10 ⟨es10, su10⟩
                    subst es10
                    dsimp only [RgO, List.cons_append, List.nil_append] at su10 ⊢
                    refine WL.nil (W.seq ?_)
                    refine W.drawP 9 [false, false, false, false, false, true] rfl (by repeat' constructor) (by repeat' constructor) (fun σ0 hσ0 dσ0 => ?_)
                    have fσ0_0 := rb_at 0 rfl hσ0 dσ0
                    have fσ0_1 := ros_at 1 rfl hσ0 dσ0
                    have fσ0_2 := rb_at 2 rfl hσ0 dσ0
                    have fσ0_3 := ros_at 3 rfl hσ0 dσ0
                    have fσ0_4 := rb_at 4 rfl hσ0 dσ0
                    refine WD.takeL 0 rfl (by decide +kernel) (WL.mv rfl rfl (WL.nilT (WD.takeL 1 rfl (by decide +kernel) (WL.nc rfl rfl (WL.nilT (WD.takeL 2 rfl (by decide +kernel) (WL.faN (T := Ty) (off' := 0) rfl rfl rfl rfl rfl rfl rfl (WL.nilT (WD.takeL 3 rfl (by decide +kernel) ?_)))))))))
                    refine WL.ldABF (T := Ty) rfl rfl rfl rfl (by first | assumption | exact RB.wide (by assumption) | exact In.rb (by assumption)) rfl (by repeat' constructor) ?_
                    refine WL.nilT (WD.takeL 4 rfl (by decide +kernel) (WL.mv rfl rfl (WL.nilT (WD.takeL 5 rfl (by decide +kernel) (WL.nc rfl rfl (WL.nilT (WD.takeL 6 rfl (by decide +kernel) (WL.faN (T := Ty) (off' := 6) rfl rfl rfl rfl rfl rfl rfl (WL.nilT (WD.takeL 7 rfl (by decide +kernel) ?_))))))))))
                    refine WL.ldBN (T := Ty) rfl rfl rfl rfl (by first | assumption | exact RB.wide (by assumption) | exact In.rb (by assumption)) rfl ?_
                    refine WL.nilT (WD.oneL 8 rfl (by decide +kernel) ?_)
                    refine WL.stAO (T := Ty) (j := 1) rfl rfl rfl rfl (by repeat' first | exact AO.nil | apply AO.cons (by first | rfl | exact SL.one (by assumption))) rfl rfl (by repeat' constructor) (by repeat' constructor) ?_
                    refine WL.nilE ?_
                    refine WD.lastG hσ0 (by decide +kernel) (by repeat' constructor) rfl (by repeat' constructor) ?_
                    refine WL.as rfl rfl (WL.as rfl rfl (WL.nil ?_))
                    exact W.fit (Hs' := [box b2 _ _, Buf 7 u10 _, Buf 3 ko _]) (by (repeat' first | exact Sel.nil | apply Sel.k | exact Pick.h | apply Pick.t)) (W.retC3 (T := Ty) (j := 0) rfl rfl rfl rfl rfl rfl rfl rfl (fun h q => ⟨(u10, ko), ⟨rfl, by assumption, sk⟩, q⟩))
                · refine W.loopR (σ := Nat × Clk × Value × List Ky × Value) (fun s => [(3, pt b1 0), (4, pt b2 0), (5, nilV), (6, .bool false), (7, pt b4 0), (8, .int .i64 fk)])
                    (fun s => [Buf 3 s.2.2.2.2 (s.2.2.2.1.flatMap kyC), box b1 [.int .i64 k.a, .int .i64 k.b, .int .i64 k.c] 76, box b2 [.int .i64 0, .int .i64 0, nilV, .int .i64 0, .int .i64 0, .int .i64 0] 73, box b4 [.int .i64 s.2.1.most, .int .i64 s.2.1.target, s.2.2.1, .int .i64 (s.2.1.hot : Int), .int .i64 (s.2.1.cold : Int), .int .i64 (s.2.1.test : Int), s.2.2.2.2] 145, Buf 7 s.2.2.1 (s.2.1.pages.flatMap pgC)])
                    (fun s ρ' => outL s.1 s.2.1 s.2.2.2.1 = some r ∧ RefG s.2.1 ∧ SL s.2.2.1 s.2.1.pages.length ∧ SL s.2.2.2.2 s.2.2.2.1.length ∧ s.2.1.pages.length ≤ 10000 ∧ (s.2.1.most ≤ (cnt isRes s.2.1.pages : Int) → s.1 = 1000000 ∧ s.2.2.2.1 = [] ∧ ClkI s.2.1 ∧ cnt isFree s.2.1.pages ≠ 0)) (fun s => s.1)
                    (1000000, c1, v1, [], nilV) ⟨rfl, rfl, rfl, rfl, rfl, rfl, trivial⟩ rfl ⟨hx, hG1, sv1, slZ, by have := hI1.ln; dsimp only; omega, fun h => ⟨rfl, rfl, hI1, hf1 h⟩⟩ ?_
                  clear hx hI1 hG1 sv1 hf1 c1 v1 hy
                  rintro ⟨m, c, v, out, ko⟩ ρ5 le5 ⟨hx, hG, sv, sk, hl, hw⟩ next
                  dsimp only at hx hG sv sk hl hw next ⊢
                  cases m with
                  | zero => unfold outL at hx; cases hx
                  | succ m =>
                    rw [outL_s] at hx
                    have hln := hG.B.ln
                    have l1 := pgs_cells c.pages
                    have hq1 := cnt_le isHot c.pages
                    have hq2 := cnt_le (isKd 2) c.pages
                    have hq3 : cnt isRes c.pages = cnt isHot c.pages + cnt (isKd 2) c.pages := cnt_res c.pages
                    by_cases hgt : c.most ≤ (cnt isRes c.pages : Int)
                    · obtain ⟨hm, ho, hI, hf⟩ := hw hgt
                      subst ho
                      have hm : m = 999999 := by omega
                      subst hm
                      rw [if_pos hgt] at hx
                      cases hz : coldL 999999 c with
                      | none => rw [hz] at hx; cases hx
                      | some y =>
                        rw [hz] at hx
                        simp only [Option.bind_some] at hx
                        have hGy := hG.coldL hz
                        have hly := coldL_I (cloLen 10000) _ c y hl hz
                        have hres := cold_res hI hf hz
                        have hmo : y.1.most = c.most := coldL_I (cloMost c.most) 999999 c y rfl hz
                        have hrs := hI.rs
                        obtain ⟨yc, yk⟩ := y
                        dsimp only at hx hGy hly hres hmo
                        refine W.seq (W.seq ?_)
                        refine W.drawA 17 rfl (fun σ0 hσ0 dσ0 => ?_)
                        have fσ0_0 := ros_at 0 rfl hσ0 dσ0
                        have fσ0_1 := rb_at 1 rfl hσ0 dσ0
                        have fσ0_2 := rb_at 2 rfl hσ0 dσ0
                        have fσ0_3 := rb_at 3 rfl hσ0 dσ0
                        have fσ0_4 := ros_at 4 rfl hσ0 dσ0
                        refine WD.takeL 0 rfl (by decide +kernel) (WL.mv rfl rfl (WL.nilT (WD.takeL 1 rfl (by decide +kernel) (WL.nc rfl rfl (WL.nilT (WD.takeL 2 rfl (by decide +kernel) (WL.faN (T := Ty) (off' := 0) rfl rfl rfl rfl rfl rfl rfl (WL.nilT (WD.takeL 3 rfl (by decide +kernel) ?_)))))))))
                        refine WL.ldABF (T := Ty) rfl rfl rfl rfl (by first | assumption | exact RB.wide (by assumption) | exact In.rb (by assumption)) rfl (by repeat' constructor) ?_
                        refine WL.nilT (WD.takeL 5 rfl (by decide +kernel) (WL.mv rfl rfl (WL.nilT (WD.takeL 6 rfl (by decide +kernel) (WL.nc rfl rfl (WL.nilT (WD.takeL 7 rfl (by decide +kernel) (WL.faN (T := Ty) (off' := 0) rfl rfl rfl rfl rfl rfl rfl (WL.nilT (WD.takeL 8 rfl (by decide +kernel) ?_))))))))))
                        refine WL.ldABF (T := Ty) rfl rfl rfl rfl (by first | assumption | exact RB.wide (by assumption) | exact In.rb (by assumption)) rfl (by repeat' constructor) ?_
                        refine WL.nilT (WD.takeL 11 rfl (by decide +kernel) (WL.mv rfl rfl (WL.nilT (WD.takeL 12 rfl (by decide +kernel) (WL.nc rfl rfl (WL.nilT (WD.takeL 13 rfl (by decide +kernel) (WL.faN (T := Ty) (off' := 0) rfl rfl rfl rfl rfl rfl rfl (WL.nilT (WD.takeL 14 rfl (by decide +kernel) (WL.faN (T := Ty) (off' := 0) rfl rfl rfl rfl rfl rfl rfl (WL.nilT (WD.takeL 15 rfl (by decide +kernel) ?_)))))))))))))
                        refine WL.ldBN (T := Ty) rfl rfl rfl rfl (by first | assumption | exact RB.wide (by assumption) | exact In.rb (by assumption)) rfl ?_
                        refine WL.nilT (WD.oneL 4 rfl (by decide +kernel) ?_)
                        refine WL.callV rfl rfl (fun x p d => countr1_c _ _ _ _ _ _ _ _ (by first | assumption | exact ROs.wide (by assumption) | exact ROs.mono (by assumption) (eqh_at 0 rfl p d) | exact ros_at 0 rfl p d | exact ros_at 1 rfl p d | exact ros_at 2 rfl p d | exact ros_at 3 rfl p d | exact ros_at 4 rfl p d) (by first | assumption | omega)) ?_
                        refine WL.nilE (WD.oneL 9 rfl (by decide +kernel) ?_)
                        refine WL.callV rfl rfl (fun x p d => countr_c _ _ _ _ _ _ _ _ _ (by first | assumption | exact ROs.wide (by assumption) | exact ROs.mono (by assumption) (eqh_at 0 rfl p d) | exact ros_at 0 rfl p d | exact ros_at 1 rfl p d | exact ros_at 2 rfl p d | exact ros_at 3 rfl p d | exact ros_at 4 rfl p d) (by first | assumption | omega)) ?_
                        refine WL.nilE (WD.takeL 10 rfl (by decide +kernel) (WL.addK rfl rfl rfl (wrap_i64 ⟨by omega, by omega⟩) (WL.nilT (WD.takeL 16 rfl (by decide +kernel) (WL.geq rfl rfl rfl (WL.nilT ?_))))))
                        refine WD.doneF hσ0 (by decide +kernel) (by repeat' constructor) ?_
                        refine W.condpT rfl (by omega) (W.skip (W.block (W.region (WL.mv rfl rfl ?_))))
                        refine WL.callTk (Take.cons 3 rfl (Take.cons 3 rfl (Take.cons 0 rfl Take.nil))) rfl rfl (fun x p d => coldr_c _ b4 c v ko [] 999999 yc yk hG hf sv sk (Nat.zero_le _) hz) (by repeat' constructor) (fun r9 => ?_)
                        refine WL.opens (α := Value × Value) (φ := fun x => r9 = .tuple #[] ∧ SL x.1 _ ∧ SL x.2 _) (ps := fun x => [_, Buf 7 x.1 _, Buf 3 x.2 _]) 0 rfl (fun h q => q) (by repeat' constructor) ?_
                        rintro ⟨u9, ko9⟩ ⟨es9, su9, sk9⟩
                        subst es9
                        dsimp only [List.cons_append, List.nil_append] at su9 sk9 ⊢
                        refine WL.nil (W.inBlock ?_)
                        refine W.fit (Hs' := [Buf 3 ko9 _, box b1 _ _, box b2 _ _, box b4 _ _, Buf 7 u9 _]) (by (repeat' first | exact Sel.nil | apply Sel.k | exact Pick.h | apply Pick.t)) (W.sub ?_ (next ⟨999999, yc, u9, [] ++ [yk], ko9⟩ ρ5 (Le.refl _) ⟨hx, hGy, su9, sk9, hly, fun h => absurd h (by dsimp only; omega)⟩ (by dsimp only; omega)))
                        exact ⟨rfl, rfl, rfl, rfl, rfl, rfl, trivial⟩
                    · rw [if_neg hgt] at hx
                      have ex := Option.some.inj hx
                      subst ex
                      refine W.seq (W.seq ?_)
                      refine W.drawA 17 rfl (fun σ0 hσ0 dσ0 => ?_)
                      have fσ0_0 := ros_at 0 rfl hσ0 dσ0
                      have fσ0_1 := rb_at 1 rfl hσ0 dσ0
                      have fσ0_2 := rb_at 2 rfl hσ0 dσ0
                      have fσ0_3 := rb_at 3 rfl hσ0 dσ0
                      have fσ0_4 := ros_at 4 rfl hσ0 dσ0
                      refine WD.takeL 0 rfl (by decide +kernel) (WL.mv rfl rfl (WL.nilT (WD.takeL 1 rfl (by decide +kernel) (WL.nc rfl rfl (WL.nilT (WD.takeL 2 rfl (by decide +kernel) (WL.faN (T := Ty) (off' := 0) rfl rfl rfl rfl rfl rfl rfl (WL.nilT (WD.takeL 3 rfl (by decide +kernel) ?_)))))))))
                      refine WL.ldABF (T := Ty) rfl rfl rfl rfl (by first | assumption | exact RB.wide (by assumption) | exact In.rb (by assumption)) rfl (by repeat' constructor) ?_
                      refine WL.nilT (WD.takeL 5 rfl (by decide +kernel) (WL.mv rfl rfl (WL.nilT (WD.takeL 6 rfl (by decide +kernel) (WL.nc rfl rfl (WL.nilT (WD.takeL 7 rfl (by decide +kernel) (WL.faN (T := Ty) (off' := 0) rfl rfl rfl rfl rfl rfl rfl (WL.nilT (WD.takeL 8 rfl (by decide +kernel) ?_))))))))))
                      refine WL.ldABF (T := Ty) rfl rfl rfl rfl (by first | assumption | exact RB.wide (by assumption) | exact In.rb (by assumption)) rfl (by repeat' constructor) ?_
                      refine WL.nilT (WD.takeL 11 rfl (by decide +kernel) (WL.mv rfl rfl (WL.nilT (WD.takeL 12 rfl (by decide +kernel) (WL.nc rfl rfl (WL.nilT (WD.takeL 13 rfl (by decide +kernel) (WL.faN (T := Ty) (off' := 0) rfl rfl rfl rfl rfl rfl rfl (WL.nilT (WD.takeL 14 rfl (by decide +kernel) (WL.faN (T := Ty) (off' := 0) rfl rfl rfl rfl rfl rfl rfl (WL.nilT (WD.takeL 15 rfl (by decide +kernel) ?_)))))))))))))
                      refine WL.ldBN (T := Ty) rfl rfl rfl rfl (by first | assumption | exact RB.wide (by assumption) | exact In.rb (by assumption)) rfl ?_
                      refine WL.nilT (WD.oneL 4 rfl (by decide +kernel) ?_)
                      refine WL.callV rfl rfl (fun x p d => countr1_c _ _ _ _ _ _ _ _ (by first | assumption | exact ROs.wide (by assumption) | exact ROs.mono (by assumption) (eqh_at 0 rfl p d) | exact ros_at 0 rfl p d | exact ros_at 1 rfl p d | exact ros_at 2 rfl p d | exact ros_at 3 rfl p d | exact ros_at 4 rfl p d) (by first | assumption | omega)) ?_
                      refine WL.nilE (WD.oneL 9 rfl (by decide +kernel) ?_)
                      refine WL.callV rfl rfl (fun x p d => countr_c _ _ _ _ _ _ _ _ _ (by first | assumption | exact ROs.wide (by assumption) | exact ROs.mono (by assumption) (eqh_at 0 rfl p d) | exact ros_at 0 rfl p d | exact ros_at 1 rfl p d | exact ros_at 2 rfl p d | exact ros_at 3 rfl p d | exact ros_at 4 rfl p d) (by first | assumption | omega)) ?_
                      refine WL.nilE (WD.takeL 10 rfl (by decide +kernel) (WL.addK rfl rfl rfl (wrap_i64 ⟨by omega, by omega⟩) (WL.nilT (WD.takeL 16 rfl (by decide +kernel) (WL.geq rfl rfl rfl (WL.nilT ?_))))))
                      refine WD.doneF hσ0 (by decide +kernel) (by repeat' constructor) ?_
                      refine W.condpF rfl (by omega) (W.exit rfl ?_)
                      refine W.fit (Hs' := [Buf 3 ko _, box b1 _ _, box b2 _ _, box b4 _ _, Buf 7 v _]) (by (repeat' first | exact Sel.nil | apply Sel.k | exact Pick.h | apply Pick.t)) (W.sub ?_ (cut5 ⟨c, v, out, ko⟩ ρ5 le5 ⟨rfl, hG, sv, sk, hl⟩))
                      exact ⟨rfl, rfl, rfl, rfl, rfl, rfl, trivial⟩
            · rcases fnd_lt c.pages k with hf | ⟨i, p, hf, hp, hpk⟩
              · have hfk1 : fk = -1 := by rw [← hfk, hf]
                subst hfk1
                refine W.condpF rfl (by omega) (W.skip ?_)
                refine W.fit (Hs' := [box b1 _ _, box b2 _ _, box b4 _ _, Buf 7 u3 _]) (by (repeat' first | exact Sel.nil | apply Sel.k | exact Pick.h | apply Pick.t)) (W.sub ?_ (cut4 ⟨c, u3⟩ _ (Le.refl _) ⟨by unfold goneP; rw [if_neg (by omega)], hG, su3⟩))
                exact ⟨rfl, rfl, rfl, rfl, rfl, rfl, trivial⟩
              · have hfk1 : fk = (i : Int) := by rw [← hfk, hf]
                subst hfk1
                have hpl := (List.getElem?_eq_some_iff.1 hp).1
                have hq := hG.goes hp
                have hx1 := hG.R.h1
                have hx2 := hG.R.h2
                have hx3 := hG.R.h3
                refine W.condpT rfl (by omega) (W.seq (W.region (WL.mv rfl rfl (WL.mv rfl rfl ?_))))
                refine WL.callTk (Take.cons 3 rfl (Take.cons 3 rfl Take.nil)) rfl rfl (fun x p d => goesr_c _ _ _ _ _ _ _ _ _ _ _ (by first | assumption | omega) (by first | assumption | omega) (by assumption) (by first | assumption | omega) (by first | assumption | omega) (by first | assumption | omega)) (by repeat' constructor) (fun r5 => ?_)
                refine WL.opens (α := Value) (φ := fun v => r5 = .tuple #[] ∧ SL v _) (ps := fun v => RgO _ _ _ v) 0 rfl (fun h q => q) (by repeat' constructor) ?_
                rintro u5 ⟨es5, su5⟩
                subst es5
                dsimp only [RgO, List.cons_append, List.nil_append] at su5 ⊢
                refine WL.nil ?_
                have hm1 := hq.B.m1
                have hm2 := hq.B.m2
                have ht12 : -1000 ≤ (goesP c i).target ∧ (goesP c i).target ≤ 1000 := ⟨hq.B.t1, hq.B.t2⟩
                have hcc : (⟨c.most, c.target, c.pages, c.hot, c.cold, c.test⟩ : Clk) = c := rfl
                rw [hcc] at su5 ⊢
                refine W.region (WL.mv rfl rfl ?_)
                refine WL.callM 0 rfl rfl rfl (fun x p d => aimr_c _ _ _ _ _ _ _ _ _ _ (by first | assumption | omega) (by first | assumption | omega) (by first | assumption | omega) (by first | assumption | omega) (by first | assumption | omega)) (by repeat' constructor) ?_
                refine WL.nil ?_
                refine W.fit (Hs' := [box b1 _ _, box b2 _ _, box b4 _ _, Buf 7 u5 _]) (by (repeat' first | exact Sel.nil | apply Sel.k | exact Pick.h | apply Pick.t)) (W.sub ?_ (cut4 ⟨aimP (goesP c i) 1, u5⟩ _ (Le.refl _) ⟨by unfold goneP; rw [if_pos (by omega), Int.toNat_natCast], hq.aim _, su5⟩))
                exact ⟨rfl, rfl, rfl, rfl, rfl, rfl, trivial⟩
        · by_cases f1 : c.most ≤ (cnt isRes c.pages : Int)
          · have hv1 : decide (c.most ≤ (cnt isRes c.pages : Int) ∧ cnt isFree c.pages = 0) = decide (¬ cnt isFree c.pages ≠ 0) := by
              by_cases h : cnt isFree c.pages = 0
              · rw [decide_eq_true (show c.most ≤ (cnt isRes c.pages : Int) ∧ cnt isFree c.pages = 0 from ⟨f1, h⟩), decide_eq_true (show ¬ cnt isFree c.pages ≠ 0 from fun q => q h)]
              · rw [decide_eq_false (show ¬ (c.most ≤ (cnt isRes c.pages : Int) ∧ cnt isFree c.pages = 0) from fun q => h q.2), decide_eq_false (show ¬ ¬ cnt isFree c.pages ≠ 0 from fun q => q h)]
            refine W.region (WL.mv rfl rfl (WL.mv rfl rfl (WL.gT rfl rfl (by omega) (WL.mv rfl rfl (WL.gT rfl rfl (by omega) ?_)))))
            refine WL.callV rfl rfl (fun x p d => loosr0_c _ _ _ _ _ _ _ _ _ _ (by assumption) (by first | assumption | exact RB.wide (by assumption) | exact In.rb (by assumption) | exact RB.mono (by assumption) (eqh_at 0 rfl p d) | exact (in_at 0 rfl p d).rb | exact (in_at 1 rfl p d).rb | exact (in_at 2 rfl p d).rb | exact (in_at 3 rfl p d).rb | exact (in_at 4 rfl p d).rb | exact (in_at 5 rfl p d).rb | exact (in_at 6 rfl p d).rb | exact (in_at 7 rfl p d).rb) (by first | assumption | exact ROs.wide (by assumption) | exact ROs.mono (by assumption) (eqh_at 0 rfl p d) | exact ros_at 0 rfl p d | exact ros_at 1 rfl p d | exact ros_at 2 rfl p d | exact ros_at 3 rfl p d | exact ros_at 4 rfl p d) (by first | assumption | omega)) ?_
            refine WL.gT rfl rfl (by omega) (WL.notp rfl rfl (WL.pickTp rfl rfl (by omega) rfl (WL.nil ?_)))
            refine W.fit (Hs' := [box b0 _ _, box b1 _ _, box b2 _ _, box b4 _ _, Buf 7 u3 _]) (by (repeat' first | exact Sel.nil | apply Sel.k | exact Pick.h | apply Pick.t)) (W.sub ?_ (cut3 () _ (Le.refl _) trivial))
            exact ⟨rfl, rfl, rfl, rfl, rfl, rfl, rfl, by rw [hv1]; rfl, trivial⟩
          · have hv1 : decide (c.most ≤ (cnt isRes c.pages : Int) ∧ cnt isFree c.pages = 0) = false := decide_eq_false (fun h => f1 h.1)
            refine W.region (WL.mv rfl rfl (WL.mv rfl rfl (WL.gdTn rfl rfl rfl rfl rfl (by omega) (WL.gdTn rfl rfl rfl rfl rfl (by omega) (WL.gdTn rfl rfl rfl rfl rfl (by omega) (WL.pickFp rfl rfl (by omega) rfl (WL.nil ?_)))))))
            refine W.fit (Hs' := [box b0 _ _, box b1 _ _, box b2 _ _, box b4 _ _, Buf 7 u3 _]) (by (repeat' first | exact Sel.nil | apply Sel.k | exact Pick.h | apply Pick.t)) (W.sub ?_ (cut3 () _ (Le.refl _) trivial))
            exact ⟨rfl, rfl, rfl, rfl, rfl, rfl, rfl, by rw [hv1]; rfl, trivial⟩
      · have hv0 : decide (c.most ≤ (cnt isRes c.pages : Int)) = decide (c.most ≤ (cnt isHot c.pages : Int) + (cnt (isKd 2) c.pages : Int)) := by rw [hq3]; push_cast; rfl
        have hln2 := hI.ln
        refine W.drawA 8 rfl (fun σ0 hσ0 dσ0 => ?_)
        have fσ0_0 := rb_at 0 rfl hσ0 dσ0
        have fσ0_1 := rb_at 1 rfl hσ0 dσ0
        have fσ0_2 := rb_at 2 rfl hσ0 dσ0
        have fσ0_3 := rb_at 3 rfl hσ0 dσ0
        have fσ0_4 := ros_at 4 rfl hσ0 dσ0
        refine WD.takeL 0 rfl (by decide +kernel) ?_
        refine WL.ldABF (T := Ty) rfl rfl rfl rfl (by first | assumption | exact RB.wide (by assumption) | exact In.rb (by assumption)) rfl (by repeat' constructor) ?_
        refine WL.nilT (WD.takeL 2 rfl (by decide +kernel) ?_)
        refine WL.ldABF (T := Ty) rfl rfl rfl rfl (by first | assumption | exact RB.wide (by assumption) | exact In.rb (by assumption)) rfl (by repeat' constructor) ?_
        refine WL.nilT (WD.takeL 5 rfl (by decide +kernel) (WL.faN (T := Ty) (off' := 0) rfl rfl rfl rfl rfl rfl rfl (WL.nilT (WD.takeL 6 rfl (by decide +kernel) ?_))))
        refine WL.ldBN (T := Ty) rfl rfl rfl rfl (by first | assumption | exact RB.wide (by assumption) | exact In.rb (by assumption)) rfl ?_
        refine WL.nilT (WD.oneL 1 rfl (by decide +kernel) ?_)
        refine WL.callV rfl rfl (fun x p d => countr1_c _ _ _ _ _ _ _ _ (by first | assumption | exact ROs.wide (by assumption) | exact ROs.mono (by assumption) (eqh_at 0 rfl p d) | exact ros_at 0 rfl p d | exact ros_at 1 rfl p d | exact ros_at 2 rfl p d | exact ros_at 3 rfl p d | exact ros_at 4 rfl p d) (by first | assumption | omega)) ?_
        refine WL.nilE (WD.oneL 3 rfl (by decide +kernel) ?_)
        refine WL.callV rfl rfl (fun x p d => countr_c _ _ _ _ _ _ _ _ _ (by first | assumption | exact ROs.wide (by assumption) | exact ROs.mono (by assumption) (eqh_at 0 rfl p d) | exact ros_at 0 rfl p d | exact ros_at 1 rfl p d | exact ros_at 2 rfl p d | exact ros_at 3 rfl p d | exact ros_at 4 rfl p d) (by first | assumption | omega)) ?_
        refine WL.nilE (WD.takeL 4 rfl (by decide +kernel) (WL.addK rfl rfl rfl (wrap_i64 ⟨by omega, by omega⟩) (WL.nilT (WD.takeL 7 rfl (by decide +kernel) (WL.geq rfl rfl rfl (WL.nilT ?_))))))
        refine WD.lastG hσ0 (by decide +kernel) (by repeat' constructor) rfl (by repeat' constructor) ?_
        refine WL.as rfl rfl (WL.nil ?_)
        refine W.fit (Hs' := [box b0 _ _, box b1 _ _, box b2 _ _, box b4 _ _, Buf 7 u3 _]) (by (repeat' first | exact Sel.nil | apply Sel.k | exact Pick.h | apply Pick.t)) (W.sub ?_ (cut2 () _ (Le.refl _) trivial))
        exact ⟨rfl, rfl, rfl, rfl, rfl, rfl, rfl, by rw [hv0]; rfl, trivial⟩
  · rcases fnd_lt c.pages k with hf | ⟨i, p, hf, hp, hpk⟩
    · have hfk1 : fk = -1 := by rw [← hfk, hf]
      subst hfk1
      refine W.region (WL.mv rfl rfl (WL.geq rfl rfl rfl (WL.mv rfl rfl (WL.gdN rfl rfl rfl rfl rfl rfl (WL.gdN rfl rfl rfl rfl rfl rfl (WL.gdN rfl rfl rfl rfl rfl rfl (WL.gdN rfl rfl rfl rfl rfl rfl (WL.gdN rfl rfl rfl rfl rfl rfl (WL.gdN rfl rfl rfl rfl rfl rfl (WL.pickF rfl rfl rfl (WL.nil ?_)))))))))))
      refine W.fit (Hs' := [box b0 _ _, box b1 _ _, box b2 _ _, box b4 _ _, Buf 7 u3 _]) (by (repeat' first | exact Sel.nil | apply Sel.k | exact Pick.h | apply Pick.t)) (W.sub ?_ (cut () _ (Le.refl _) trivial))
      exact ⟨rfl, rfl, rfl, rfl, rfl, rfl, rfl, by rw [touch_no hf]; rfl, trivial⟩
    · have hfk1 : fk = (i : Int) := by rw [← hfk, hf]
      subst hfk1
      have hpl := (List.getElem?_eq_some_iff.1 hp).1
      have hrow : ((c.pages.flatMap pgC).drop (((i : Nat) : Int).toNat * 7)).take 7 = pgC p := flat_row pg_len hp
      unfold pgC at hrow
      refine W.region (WL.mv rfl rfl (WL.geq rfl rfl rfl (WL.mv rfl rfl (WL.gY rfl rfl (WL.faN (T := Ty) (off' := 2) rfl rfl rfl rfl rfl rfl rfl (WL.gY rfl rfl (WL.ldN (T := Ty) (j := 4) rfl rfl rfl rfl rfl rfl (WL.gY rfl rfl (WL.mv rfl rfl (WL.gY rfl rfl ?_))))))))))
      refine WL.ix (T := Ty) rfl rfl rfl (by assumption) rfl rfl (by omega) (by first | omega | decide +kernel) ?_
      refine WL.gY rfl rfl ?_
      refine WL.ldAR (T := Ty) rfl rfl rfl rfl (by first | assumption | exact ROs.wide (by assumption)) (by assumption) rfl ?_
      refine WL.gY rfl rfl ?_
      refine WL.callV rfl rfl (fun x p d => residentr_c _ _ _ _ _ _ _ _) ?_
      refine WL.pickT rfl rfl rfl (WL.nil ?_)
      refine W.fit (Hs' := [box b0 _ _, box b1 _ _, box b2 _ _, box b4 _ _, Buf 7 u3 _]) (by (repeat' first | exact Sel.nil | apply Sel.k | exact Pick.h | apply Pick.t)) (W.sub ?_ (cut () _ (Le.refl _) trivial))
      exact ⟨rfl, rfl, rfl, rfl, rfl, rfl, rfl, by rw [touch_at hf hp]; unfold isRes; cases (decide (p.kind = 1) || decide (p.kind = 2)) <;> rfl, trivial⟩
end Go.Proofs.Ytbebhmdjnneimaa
