/- A page comes. -/
import Derived.Test.YtbebhmdjnneimaaStc
import Derived.Test.YtbebhmdjnneimaaNum
import Derived.Test.YtbebhmdjnneimaaTab
import Derived.Test.YtbebhmdjnneimaaClk2
import Derived.Test.YtbebhmdjnneimaaInsP
set_option linter.unusedSimpArgs false
set_option linter.unusedVariables false
set_option maxRecDepth 20000
set_option maxHeartbeats 4000000
namespace Go.Proofs.Ytbebhmdjnneimaa
open Go
attribute [local irreducible] W WL Fn Buf ROs SL eptr box Rd Src bndOK WD RB Reads In Own handG handC UseX
theorem comes_c (ρ : Hp) (b : Nat) (mo ta : Int) (v : Value) (L : List Pg) (h1 h2 h3 : Nat) (p : Pg) (hi : h1 ≤ L.length) (hl : L.length ≤ 1000000) (sv : SL v L.length) (k1 : h1 ≤ 1000000) (k2 : h2 ≤ 1000000) (k3 : h3 ≤ 1000000) :
    Fn Try.prog 73 #[pt b 0, pgV p] ρ [box b [.int .i64 mo, .int .i64 ta, v, .int .i64 (h1 : Int), .int .i64 (h2 : Int), .int .i64 (h3 : Int)] 73, Buf 7 v (L.flatMap pgC)] (CkR b (comesP ⟨mo, ta, L, h1, h2, h3⟩ p)) := by
  have l1 := pgs_cells L
  have ho := pgs_one L
  refine in73 rfl rfl ?_
  unfold pgV
  by_cases h0 : L.length = 0
  · refine W.seq ?_
    refine W.region ?_
    refine WL.bxF rfl rfl (by repeat' constructor) (fun b0 => ?_)
    refine WL.nil (W.seq (W.seq (W.region (WL.mv rfl rfl (WL.nc rfl rfl (WL.faN (T := Ty) (off' := 2) rfl rfl rfl rfl rfl rfl rfl (WL.ldN (T := Ty) (j := 1) rfl rfl rfl rfl rfl rfl ?_)))))))
    refine WL.len (T := Ty) rfl rfl (by assumption) rfl ?_
    refine WL.eql rfl rfl rfl (WL.nil (W.condpT rfl (by omega) (W.seq (W.region (WL.mv rfl rfl ?_)))))
    refine WL.ldAF (T := Ty) (j := 0) rfl rfl rfl rfl rfl rfl (by repeat' constructor) ?_
    refine WL.bsC (T := Ty) rfl rfl rfl rfl rfl rfl rfl (by repeat' first | exact CO.nil | apply CO.one (by first | rfl | exact SL.one (by assumption)) | apply CO.agg) rfl (by repeat' constructor) (fun u1 hu1 => ?_)
    refine WL.nc rfl rfl (WL.faN (T := Ty) (off' := 2) rfl rfl rfl rfl rfl rfl rfl ?_)
    refine WL.stF (T := Ty) (j := 2) rfl rfl rfl rfl (SL.one (by assumption)) rfl rfl (by repeat' constructor) (by repeat' constructor) ?_
    refine WL.nil (W.seq (W.region (WL.mv rfl rfl (WL.mv rfl rfl (WL.mv rfl rfl (WL.nc rfl rfl (WL.faN (T := Ty) (off' := 3) rfl rfl rfl rfl rfl rfl rfl ?_)))))))
    refine WL.stF (T := Ty) (j := 2) rfl rfl rfl rfl rfl rfl rfl (by repeat' constructor) (by repeat' constructor) ?_
    refine WL.nc rfl rfl (WL.faN (T := Ty) (off' := 4) rfl rfl rfl rfl rfl rfl rfl ?_)
    refine WL.stF (T := Ty) (j := 2) rfl rfl rfl rfl rfl rfl rfl (by repeat' constructor) (by repeat' constructor) ?_
    refine WL.nc rfl rfl (WL.faN (T := Ty) (off' := 5) rfl rfl rfl rfl rfl rfl rfl ?_)
    refine WL.stF (T := Ty) (j := 2) rfl rfl rfl rfl rfl rfl rfl (by repeat' constructor) (by repeat' constructor) ?_
    refine WL.nil ?_
    have hL : L = [] := List.eq_nil_of_length_eq_zero h0
    refine W.fit (Hs' := [box b _ _, Buf 7 u1 _]) (by (repeat' first | exact Sel.nil | apply Sel.k | exact Pick.h | apply Pick.t)) (W.ret0 rfl (fun h q => ⟨u1, ⟨rfl, by unfold comesP; rw [if_pos h0]; exact hu1⟩, by unfold comesP; rw [if_pos h0]; unfold PClkO; dsimp only; rw [List.flatMap_cons, List.flatMap_nil, List.append_nil]; exact q⟩))
  · have ux := useX
    have hfl : (L.flatMap pgC).take (h1 * 7) ++ [.int .i64 p.key.a, .int .i64 p.key.b, .int .i64 p.key.c, .int .i64 p.kind, .bool p.ref, .bool p.trial, .int .i64 p.pins] ++ (L.flatMap pgC).drop (h1 * 7) = (L.take h1 ++ [p] ++ L.drop h1).flatMap pgC := by rw [flat_take pg_len, flat_drop pg_len, List.flatMap_append, List.flatMap_append]; rfl
    have hln : (L.take h1 ++ [p] ++ L.drop h1).length = L.length + 1 := by simp; omega
    refine W.seq (W.region ?_)
    refine WL.bxF rfl rfl (by repeat' constructor) (fun b0 => ?_)
    refine WL.nil (W.seq (W.seq (W.region (WL.mv rfl rfl (WL.nc rfl rfl (WL.faN (T := Ty) (off' := 2) rfl rfl rfl rfl rfl rfl rfl (WL.ldN (T := Ty) (j := 1) rfl rfl rfl rfl rfl rfl ?_)))))))
    refine WL.len (T := Ty) rfl rfl (by assumption) rfl ?_
    refine WL.eql rfl rfl rfl (WL.nil (W.condpF rfl (by omega) (W.skip (W.seq (W.region (WL.mv rfl rfl (WL.nc rfl rfl (WL.faN (T := Ty) (off' := 3) rfl rfl rfl rfl rfl rfl rfl (WL.ldN (T := Ty) (j := 1) rfl rfl rfl rfl rfl rfl (WL.as rfl rfl (WL.nil (W.seq ?_))))))))))))
    refine W.cutG (τ := Value) (fun s => [(0, pt b 0), (4, .int .i64 (h1 : Int))]) (fun s => [Buf 7 s ((L.take h1 ++ [p] ++ L.drop h1).flatMap pgC), box b [.int .i64 mo, .int .i64 ta, s, .int .i64 (h1 : Int), .int .i64 (h2 : Int), .int .i64 (h3 : Int)] 73]) (fun s ρ' => SL s (L.length + 1)) ?_ (fun cut => ?_)
    · intro u ρ0 le0 su
      refine W.seq (W.region (WL.mv rfl rfl ?_))
      refine WL.callF rfl rfl (fun x p d => hands_c _ _) (fun u1 => ?_)
      refine WL.fact (i := 0) rfl (fun h hb => Buf.sl (n := 3) hb rfl (by decide)) (fun hsl1 => ?_)
      refine WL.len (T := Ty) rfl rfl (by assumption) rfl ?_
      refine WL.mv rfl rfl (WL.nil (W.block ?_))
      refine W.loopR (σ := Nat × Nat × Nat × Nat) (fun s => [(0, pt b 0), (4, .int .i64 (h1 : Int)), (43, u1), (44, .int .i64 ((3 : Nat) : Int)), (45, .int .i64 (s.1 : Int))])
        (fun s => [Buf 1 u1 [pt b 3, pt b 4, pt b 5], Buf 7 u ((L.take h1 ++ [p] ++ L.drop h1).flatMap pgC), box b [.int .i64 mo, .int .i64 ta, u, .int .i64 (s.2.1 : Int), .int .i64 (s.2.2.1 : Int), .int .i64 (s.2.2.2 : Int)] 73])
        (fun s ρ' => s.1 ≤ 3 ∧ s.2.1 = (if 0 < s.1 then handC h1 h1 else h1) ∧ s.2.2.1 = (if 1 < s.1 then handC h1 h2 else h2) ∧ s.2.2.2 = (if 2 < s.1 then handC h1 h3 else h3)) (fun s => 3 - s.1)
        (0, h1, h2, h3) ⟨rfl, rfl, rfl, rfl, rfl, trivial⟩ rfl ⟨Nat.zero_le _, rfl, rfl, rfl⟩ ?_
      rintro ⟨j, x1, x2, x3⟩ ρ1 le1 ⟨hj, e1, e2, e3⟩ next
      dsimp only at hj e1 e2 e3
      match j, hj, e1, e2, e3 with
      | 0, _, e1, e2, e3 =>
        have e1 : x1 = h1 := e1
        have e2 : x2 = h2 := e2
        have e3 : x3 = h3 := e3
        subst x1
        subst x2
        subst x3
        dsimp only
        have g0 : ([pt b 3, pt b 4, pt b 5] : List Value)[((0 : Nat) : Int).toNat * 1]? = some (pt b 3) := rfl
        refine W.seq (W.region (WL.lss rfl rfl rfl (WL.nil (W.seq (W.condT rfl (W.skip (W.seq (W.block (W.seq (W.region ?_))))))))))
        refine WL.ix (T := Ty) rfl rfl rfl (by assumption) rfl rfl (by omega) (by first | omega | decide +kernel) ?_
        refine WL.ldE (T := Ty) (j := 0) rfl rfl rfl rfl rfl (by assumption) ?_
        refine WL.as rfl rfl (WL.nil (W.seq (W.region (WL.mv rfl rfl (WL.nc rfl rfl (WL.ldN (T := Ty) (j := 2) rfl rfl rfl rfl rfl rfl (WL.mv rfl rfl (WL.geq rfl rfl rfl (WL.nil (W.condpT rfl (by omega) (W.region (WL.mv rfl rfl (WL.nc rfl rfl ?_)))))))))))))
        refine WL.ldN (T := Ty) (j := 2) rfl rfl rfl rfl rfl rfl (WL.addK rfl rfl rfl (wrap_i64 ⟨by omega, by omega⟩) (WL.nc rfl rfl ?_))
        refine WL.stF (T := Ty) (j := 2) rfl rfl rfl rfl rfl rfl rfl (by repeat' constructor) (by repeat' constructor) ?_
        refine WL.nil (W.inBlock (W.region (WL.addK rfl rfl rfl (wrap_i64 ⟨by omega, by omega⟩) (WL.mv rfl rfl (WL.nil ?_)))))
        rw [show (h1 : Int) + 1 = ((h1 + 1 : Nat) : Int) by push_cast; rfl]
        have hg : handC h1 h1 = (h1 + 1) := by unfold handC; rw [if_pos (Nat.le_refl _)]
        refine W.fit (Hs' := [Buf 1 u1 _, Buf 7 u _, box b _ _]) (by (repeat' first | exact Sel.nil | apply Sel.k | exact Pick.h | apply Pick.t)) (W.sub ?_ (next ⟨1, (h1 + 1), h2, h3⟩ ρ1 (Le.refl _) ⟨by dsimp only; omega, hg.symm, rfl, rfl⟩ (by dsimp only; omega)))
        exact ⟨rfl, rfl, rfl, rfl, rfl, trivial⟩
      | 1, _, e1, e2, e3 =>
        have e1 : x1 = handC h1 h1 := e1
        have e2 : x2 = h2 := e2
        have e3 : x3 = h3 := e3
        subst x1
        subst x2
        subst x3
        dsimp only
        have g0 : ([pt b 3, pt b 4, pt b 5] : List Value)[((1 : Nat) : Int).toNat * 1]? = some (pt b 4) := rfl
        by_cases c1 : h1 ≤ h2
        · refine W.seq ?_
          refine W.region (WL.lss rfl rfl rfl (WL.nil (W.seq (W.condT rfl (W.skip (W.seq (W.block (W.seq (W.region ?_)))))))))
          refine WL.ix (T := Ty) rfl rfl rfl (by assumption) rfl rfl (by omega) (by first | omega | decide +kernel) ?_
          refine WL.ldE (T := Ty) (j := 0) rfl rfl rfl rfl rfl (by assumption) ?_
          refine WL.as rfl rfl (WL.nil (W.seq (W.region (WL.mv rfl rfl (WL.nc rfl rfl (WL.ldN (T := Ty) (j := 2) rfl rfl rfl rfl rfl rfl (WL.mv rfl rfl (WL.geq rfl rfl rfl (WL.nil (W.condpT rfl (by omega) (W.region (WL.mv rfl rfl (WL.nc rfl rfl ?_)))))))))))))
          refine WL.ldN (T := Ty) (j := 2) rfl rfl rfl rfl rfl rfl (WL.addK rfl rfl rfl (wrap_i64 ⟨by omega, by omega⟩) (WL.nc rfl rfl ?_))
          refine WL.stF (T := Ty) (j := 2) rfl rfl rfl rfl rfl rfl rfl (by repeat' constructor) (by repeat' constructor) ?_
          refine WL.nil (W.inBlock (W.region (WL.addK rfl rfl rfl (wrap_i64 ⟨by omega, by omega⟩) (WL.mv rfl rfl (WL.nil ?_)))))
          rw [show (h2 : Int) + 1 = ((h2 + 1 : Nat) : Int) by push_cast; rfl]
          have hg : handC h1 h2 = (h2 + 1) := by unfold handC; rw [if_pos c1]
          refine W.fit (Hs' := [Buf 1 u1 _, Buf 7 u _, box b _ _]) (by (repeat' first | exact Sel.nil | apply Sel.k | exact Pick.h | apply Pick.t)) (W.sub ?_ (next ⟨2, (handC h1 h1), (h2 + 1), h3⟩ ρ1 (Le.refl _) ⟨by dsimp only; omega, rfl, hg.symm, rfl⟩ (by dsimp only; omega)))
          exact ⟨rfl, rfl, rfl, rfl, rfl, trivial⟩
        · refine W.seq ?_
          refine W.region (WL.lss rfl rfl rfl (WL.nil (W.seq (W.condT rfl (W.skip (W.seq (W.block (W.seq (W.region ?_)))))))))
          refine WL.ix (T := Ty) rfl rfl rfl (by assumption) rfl rfl (by omega) (by first | omega | decide +kernel) ?_
          refine WL.ldE (T := Ty) (j := 0) rfl rfl rfl rfl rfl (by assumption) ?_
          refine WL.as rfl rfl (WL.nil (W.seq (W.region (WL.mv rfl rfl (WL.nc rfl rfl (WL.ldN (T := Ty) (j := 2) rfl rfl rfl rfl rfl rfl (WL.mv rfl rfl (WL.geq rfl rfl rfl (WL.nil (W.condpF rfl (by omega) (W.skip (W.inBlock (W.region ?_)))))))))))))
          refine WL.addK rfl rfl rfl (wrap_i64 ⟨by omega, by omega⟩) (WL.mv rfl rfl (WL.nil ?_))
          have hg : handC h1 h2 = h2 := by unfold handC; rw [if_neg c1]
          refine W.fit (Hs' := [Buf 1 u1 _, Buf 7 u _, box b _ _]) (by (repeat' first | exact Sel.nil | apply Sel.k | exact Pick.h | apply Pick.t)) (W.sub ?_ (next ⟨2, (handC h1 h1), h2, h3⟩ ρ1 (Le.refl _) ⟨by dsimp only; omega, rfl, hg.symm, rfl⟩ (by dsimp only; omega)))
          exact ⟨rfl, rfl, rfl, rfl, rfl, trivial⟩
      | 2, _, e1, e2, e3 =>
        have e1 : x1 = handC h1 h1 := e1
        have e2 : x2 = handC h1 h2 := e2
        have e3 : x3 = h3 := e3
        subst x1
        subst x2
        subst x3
        dsimp only
        have g0 : ([pt b 3, pt b 4, pt b 5] : List Value)[((2 : Nat) : Int).toNat * 1]? = some (pt b 5) := rfl
        by_cases c1 : h1 ≤ h3
        · refine W.seq ?_
          refine W.region (WL.lss rfl rfl rfl (WL.nil (W.seq (W.condT rfl (W.skip (W.seq (W.block (W.seq (W.region ?_)))))))))
          refine WL.ix (T := Ty) rfl rfl rfl (by assumption) rfl rfl (by omega) (by first | omega | decide +kernel) ?_
          refine WL.ldE (T := Ty) (j := 0) rfl rfl rfl rfl rfl (by assumption) ?_
          refine WL.as rfl rfl (WL.nil (W.seq (W.region (WL.mv rfl rfl (WL.nc rfl rfl (WL.ldN (T := Ty) (j := 2) rfl rfl rfl rfl rfl rfl (WL.mv rfl rfl (WL.geq rfl rfl rfl (WL.nil (W.condpT rfl (by omega) (W.region (WL.mv rfl rfl (WL.nc rfl rfl ?_)))))))))))))
          refine WL.ldN (T := Ty) (j := 2) rfl rfl rfl rfl rfl rfl (WL.addK rfl rfl rfl (wrap_i64 ⟨by omega, by omega⟩) (WL.nc rfl rfl ?_))
          refine WL.stF (T := Ty) (j := 2) rfl rfl rfl rfl rfl rfl rfl (by repeat' constructor) (by repeat' constructor) ?_
          refine WL.nil (W.inBlock (W.region (WL.addK rfl rfl rfl (wrap_i64 ⟨by omega, by omega⟩) (WL.mv rfl rfl (WL.nil ?_)))))
          rw [show (h3 : Int) + 1 = ((h3 + 1 : Nat) : Int) by push_cast; rfl]
          have hg : handC h1 h3 = (h3 + 1) := by unfold handC; rw [if_pos c1]
          refine W.fit (Hs' := [Buf 1 u1 _, Buf 7 u _, box b _ _]) (by (repeat' first | exact Sel.nil | apply Sel.k | exact Pick.h | apply Pick.t)) (W.sub ?_ (next ⟨3, (handC h1 h1), (handC h1 h2), (h3 + 1)⟩ ρ1 (Le.refl _) ⟨by dsimp only; omega, rfl, rfl, hg.symm⟩ (by dsimp only; omega)))
          exact ⟨rfl, rfl, rfl, rfl, rfl, trivial⟩
        · refine W.seq ?_
          refine W.region (WL.lss rfl rfl rfl (WL.nil (W.seq (W.condT rfl (W.skip (W.seq (W.block (W.seq (W.region ?_)))))))))
          refine WL.ix (T := Ty) rfl rfl rfl (by assumption) rfl rfl (by omega) (by first | omega | decide +kernel) ?_
          refine WL.ldE (T := Ty) (j := 0) rfl rfl rfl rfl rfl (by assumption) ?_
          refine WL.as rfl rfl (WL.nil (W.seq (W.region (WL.mv rfl rfl (WL.nc rfl rfl (WL.ldN (T := Ty) (j := 2) rfl rfl rfl rfl rfl rfl (WL.mv rfl rfl (WL.geq rfl rfl rfl (WL.nil (W.condpF rfl (by omega) (W.skip (W.inBlock (W.region ?_)))))))))))))
          refine WL.addK rfl rfl rfl (wrap_i64 ⟨by omega, by omega⟩) (WL.mv rfl rfl (WL.nil ?_))
          have hg : handC h1 h3 = h3 := by unfold handC; rw [if_neg c1]
          refine W.fit (Hs' := [Buf 1 u1 _, Buf 7 u _, box b _ _]) (by (repeat' first | exact Sel.nil | apply Sel.k | exact Pick.h | apply Pick.t)) (W.sub ?_ (next ⟨3, (handC h1 h1), (handC h1 h2), h3⟩ ρ1 (Le.refl _) ⟨by dsimp only; omega, rfl, rfl, hg.symm⟩ (by dsimp only; omega)))
          exact ⟨rfl, rfl, rfl, rfl, rfl, trivial⟩
      | 3, _, e1, e2, e3 =>
        have e1 : x1 = handC h1 h1 := e1
        have e2 : x2 = handC h1 h2 := e2
        have e3 : x3 = handC h1 h3 := e3
        subst x1
        subst x2
        subst x3
        dsimp only
        refine W.seq (W.region (WL.lss rfl rfl rfl (WL.nil (W.seq (W.condF rfl (W.exit rfl ?_))))))
        refine W.fit (Hs' := [box b _ _, Buf 7 u _]) (by (repeat' first | exact Sel.nil | apply Sel.k | exact Pick.h | apply Pick.t)) (W.stop0 rfl (fun h q => ⟨u, ⟨rfl, by unfold comesP; rw [if_neg h0]; dsimp only; rw [hln]; exact su⟩, by unfold comesP; rw [if_neg h0]; exact q⟩))
    · refine W.drawP 9 [false, false, true] rfl (by repeat' constructor) (by repeat' constructor) (fun σ0 hσ0 dσ0 => ?_)
      have fσ0_0 := rb_at 0 rfl hσ0 dσ0
      have fσ0_1 := rb_at 1 rfl hσ0 dσ0
      refine WD.takeL 0 rfl (by decide +kernel) (WL.mv rfl rfl (WL.nilT (WD.takeL 1 rfl (by decide +kernel) (WL.mv rfl rfl (WL.nilT (WD.takeL 2 rfl (by decide +kernel) (WL.nc rfl rfl (WL.nilT (WD.takeL 3 rfl (by decide +kernel) (WL.faN (T := Ty) (off' := 2) rfl rfl rfl rfl rfl rfl rfl (WL.nilT (WD.takeL 4 rfl (by decide +kernel) ?_))))))))))))
      refine WL.ldBN (T := Ty) rfl rfl rfl rfl (by first | assumption | exact RB.wide (by assumption) | exact In.rb (by assumption)) rfl ?_
      refine WL.nilT (WD.takeL 5 rfl (by decide +kernel) (WL.mv rfl rfl (WL.nilT (WD.takeL 6 rfl (by decide +kernel) ?_))))
      refine WL.ldABF (T := Ty) rfl rfl rfl rfl (by first | assumption | exact RB.wide (by assumption) | exact In.rb (by assumption)) rfl (by repeat' constructor) ?_
      refine WL.nilT (WD.oneL 7 rfl (by decide +kernel) ?_)
      refine WL.bsXh (by with_reducible assumption) (T := Ty) rfl rfl rfl rfl rfl rfl rfl rfl (by repeat' constructor) (fun b1 => ?_)
      refine WL.nilS (WD.oneL 8 rfl (by decide +kernel) ?_)
      refine WL.callTk (Take.cons 2 rfl (Take.cons 1 rfl Take.nil)) rfl rfl (fun x p d => insP_c _ _ _ _ _ _ _ _ rfl (by assumption) (by first | assumption | omega) (by assumption) (AO.all (by repeat' first | exact AO.nil | apply AO.cons (by first | rfl | exact SL.one (by assumption)))) (by first | assumption | omega)) (by repeat' constructor) (fun u2 => ?_)
      refine WL.fact (i := 0) rfl (fun h hb => hb.sl (ins_len (by assumption) rfl) (by omega)) (fun hsl2 => ?_)
      refine WL.nilH hσ0 (fun σ1 hσ1 dσ1 mσ1 => ?_)
      have fσ0_0 := fσ0_0.mono mσ1
      have fσ0_1 := fσ0_1.mono mσ1
      have fσ1_0 := ros_at 0 rfl hσ1 dσ1
      refine WD.lastG hσ1 (by decide +kernel) (by repeat' constructor) rfl (by repeat' constructor) ?_
      refine WL.nc rfl rfl (WL.faN (T := Ty) (off' := 2) rfl rfl rfl rfl rfl rfl rfl ?_)
      refine WL.stF (T := Ty) (j := 2) rfl rfl rfl rfl (SL.one (by assumption)) rfl rfl (by repeat' constructor) (by repeat' constructor) ?_
      refine WL.nil ?_
      rw [hfl]
      refine W.fit (Hs' := [Buf 7 _ ((L.take h1 ++ [p] ++ L.drop h1).flatMap pgC), box b _ _]) (by (repeat' first | exact Sel.nil | apply Sel.k | exact Pick.h | apply Pick.t)) (W.sub ?_ (cut _ _ (Le.refl _) (by first | assumption | (rw [← hln]; assumption))))
      exact ⟨rfl, rfl, trivial⟩
end Go.Proofs.Ytbebhmdjnneimaa
