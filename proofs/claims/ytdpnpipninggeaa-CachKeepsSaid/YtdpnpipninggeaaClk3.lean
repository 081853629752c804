/- A page comes. -/
import Derived.Test.YtdpnpipninggeaaStc
import Derived.Test.YtdpnpipninggeaaNum
import Derived.Test.YtdpnpipninggeaaTab
import Derived.Test.YtdpnpipninggeaaClk2
import Derived.Test.YtdpnpipninggeaaInsP
import Derived.Test.YtdpnpipninggeaaClkLw2
set_option linter.unusedSimpArgs false
set_option linter.unusedVariables false
set_option maxRecDepth 20000
set_option maxHeartbeats 4000000
namespace Go.Proofs.Ytdpnpipninggeaa
open Go
attribute [local irreducible] W WL Fn Buf ROs SL eptr box Rd Src bndOK WD RB Reads In Own handG handC UseX
theorem comes_c (ρ : Hp) (b : Nat) (mo ta : Int) (v : Value) (L : List Pg) (h1 h2 h3 : Nat) (p : Pg) (hi : h1 ≤ L.length) (hl : L.length ≤ 1000000) (sv : SL v L.length) (k1 : h1 ≤ 1000000) (k2 : h2 ≤ 1000000) (k3 : h3 ≤ 1000000) :
    Fn Try.prog 35 #[pt b 0, pgV p] ρ [box b [.int .i64 mo, .int .i64 ta, v, .int .i64 (h1 : Int), .int .i64 (h2 : Int), .int .i64 (h3 : Int)] 36, Buf 7 v (L.flatMap pgC)] (CkR b (comesP ⟨mo, ta, L, h1, h2, h3⟩ p)) := by
  have l1 := pgs_cells L
  have ho := pgs_one L
  refine in35 rfl rfl ?_
  unfold pgV
  by_cases h0 : L.length = 0
  · refine W.seq ?_
    refine W.region ?_
    refine WL.bxF rfl rfl (by repeat' constructor) (fun b0 => ?_)
    refine WL.nil (W.seq (W.seq (W.region (WL.mv rfl rfl (WL.nc rfl rfl (WL.faN (T := Ty) (off' := 2) rfl rfl rfl rfl rfl rfl rfl (WL.ldN (T := Ty) (j := 1) rfl rfl rfl rfl rfl rfl ?_)))))))
    refine WL.len (T := Ty) rfl rfl (by assumption) rfl ?_
    refine WL.eql rfl rfl rfl (WL.nil (W.condpT rfl (by omega) (W.seq (W.region (WL.mv rfl rfl ?_)))))
    refine WL.ldAF (T := Ty) (j := 0) rfl rfl rfl rfl rfl rfl (by repeat' constructor) ?_
    refine WL.bsC (T := Ty) rfl rfl rfl rfl rfl rfl rfl (by repeat' first | exact CO.nil | apply CO.one (by first | rfl | exact SL.one (by assumption)) | apply CO.agg) rfl (by repeat' constructor) (fun u1 hu1 => ?_)
    refine WL.nc rfl rfl (WL.faN (T := Ty) (off' := 2) rfl rfl rfl rfl rfl rfl rfl ?_)
    refine WL.stF (T := Ty) (j := 2) rfl rfl rfl rfl (SL.one (by assumption)) rfl rfl (by repeat' constructor) (by repeat' constructor) ?_
    refine WL.nil (W.seq (W.region (WL.mv rfl rfl (WL.mv rfl rfl (WL.mv rfl rfl (WL.nc rfl rfl (WL.faN (T := Ty) (off' := 3) rfl rfl rfl rfl rfl rfl rfl ?_)))))))
    refine WL.stF (T := Ty) (j := 2) rfl rfl rfl rfl rfl rfl rfl (by repeat' constructor) (by repeat' constructor) ?_
    refine WL.nc rfl rfl (WL.faN (T := Ty) (off' := 4) rfl rfl rfl rfl rfl rfl rfl ?_)
    refine WL.stF (T := Ty) (j := 2) rfl rfl rfl rfl rfl rfl rfl (by repeat' constructor) (by repeat' constructor) ?_
    refine WL.nc rfl rfl (WL.faN (T := Ty) (off' := 5) rfl rfl rfl rfl rfl rfl rfl ?_)
    refine WL.stF (T := Ty) (j := 2) rfl rfl rfl rfl rfl rfl rfl (by repeat' constructor) (by repeat' constructor) ?_
    refine WL.nil ?_
    have hL : L = [] := List.eq_nil_of_length_eq_zero h0
    refine W.fit (Hs' := [box b _ _, Buf 7 u1 _]) (by (repeat' first | exact Sel.nil | apply Sel.k | exact Pick.h | apply Pick.t)) (W.ret0 rfl (fun h q => ⟨u1, ⟨rfl, by unfold comesP; rw [if_pos h0]; exact hu1⟩, by unfold comesP; rw [if_pos h0]; unfold PClkO; dsimp only; rw [List.flatMap_cons, List.flatMap_nil, List.append_nil]; exact q⟩))
  · have ux := useX
    have hfl : (L.flatMap pgC).take (h1 * 7) ++ [.int .i64 p.key.a, .int .i64 p.key.b, .int .i64 p.key.c, .int .i64 p.kind, .bool p.ref, .bool p.trial, .int .i64 p.pins] ++ (L.flatMap pgC).drop (h1 * 7) = (L.take h1 ++ [p] ++ L.drop h1).flatMap pgC := by rw [flat_take pg_len, flat_drop pg_len, List.flatMap_append, List.flatMap_append]; rfl
    have hln : (L.take h1 ++ [p] ++ L.drop h1).length = L.length + 1 := by simp; omega
    refine W.seq (W.region ?_)
    refine WL.bxF rfl rfl (by repeat' constructor) (fun b0 => ?_)
    refine WL.nil (W.seq (W.seq (W.region (WL.mv rfl rfl (WL.nc rfl rfl (WL.faN (T := Ty) (off' := 2) rfl rfl rfl rfl rfl rfl rfl (WL.ldN (T := Ty) (j := 1) rfl rfl rfl rfl rfl rfl ?_)))))))
    refine WL.len (T := Ty) rfl rfl (by assumption) rfl ?_
    refine WL.eql rfl rfl rfl (WL.nil (W.condpF rfl (by omega) (W.skip (W.seq (W.region (WL.mv rfl rfl (WL.nc rfl rfl (WL.faN (T := Ty) (off' := 3) rfl rfl rfl rfl rfl rfl rfl (WL.ldN (T := Ty) (j := 1) rfl rfl rfl rfl rfl rfl (WL.as rfl rfl (WL.nil (W.seq ?_))))))))))))
    refine W.cutG (τ := Value) (fun s => [(0, pt b 0), (4, .int .i64 (h1 : Int))]) (fun s => [Buf 7 s ((L.take h1 ++ [p] ++ L.drop h1).flatMap pgC), box b [.int .i64 mo, .int .i64 ta, s, .int .i64 (h1 : Int), .int .i64 (h2 : Int), .int .i64 (h3 : Int)] 36]) (fun s ρ' => SL s (L.length + 1)) ?_ (fun cut => ?_)
    · intro u ρ0 le0 su
      refine W.seq (W.region (WL.mv rfl rfl ?_))
      refine WL.callF rfl rfl (fun x p d => hands_c _ _) (fun u1 => ?_)
      refine WL.fact (i := 0) rfl (fun h hb => Buf.sl (n := 3) hb rfl (by decide)) (fun hsl1 => ?_)
      refine WL.len (T := Ty) rfl rfl (by assumption) rfl ?_
      refine WL.mv rfl rfl (WL.nil (W.block ?_))
      refine W.loopR (σ := Nat × Nat × Nat × Nat) (fun s => [(0, pt b 0), (4, .int .i64 (h1 : Int)), (43, u1), (44, .int .i64 ((3 : Nat) : Int)), (45, .int .i64 (s.1 : Int))])
        (fun s => [Buf 1 u1 [pt b 3, pt b 4, pt b 5], Buf 7 u ((L.take h1 ++ [p] ++ L.drop h1).flatMap pgC), box b [.int .i64 mo, .int .i64 ta, u, .int .i64 (s.2.1 : Int), .int .i64 (s.2.2.1 : Int), .int .i64 (s.2.2.2 : Int)] 36])
        (fun s ρ' => s.1 ≤ 3 ∧ s.2.1 = (if 0 < s.1 then handC h1 h1 else h1) ∧ s.2.2.1 = (if 1 < s.1 then handC h1 h2 else h2) ∧ s.2.2.2 = (if 2 < s.1 then handC h1 h3 else h3)) (fun s => 3 - s.1)
        (0, h1, h2, h3) ⟨rfl, rfl, rfl, rfl, rfl, trivial⟩ rfl ⟨Nat.zero_le _, rfl, rfl, rfl⟩ ?_
      rintro ⟨j, x1, x2, x3⟩ ρ1 le1 ⟨hj, e1, e2, e3⟩ next
      dsimp only at hj e1 e2 e3
      match j, hj, e1, e2, e3 with
      | 0, _, e1, e2, e3 =>
        have e1 : x1 = h1 := e1
        have e2 : x2 = h2 := e2
        have e3 : x3 = h3 := e3
        subst x1
        subst x2
        subst x3
        dsimp only
        have g0 : ([pt b 3, pt b 4, pt b 5] : List Value)[((0 : Nat) : Int).toNat * 1]? = some (pt b 3) := rfl
        refine W.seq (W.region (WL.lss rfl rfl rfl (WL.nil (W.seq (W.condT rfl (W.skip (W.seq (W.block (W.seq (W.region ?_))))))))))
        refine WL.ix (T := Ty) rfl rfl rfl (by assumption) rfl rfl (by omega) (by first | omega | decide +kernel) ?_
        refine WL.ldE (T := Ty) (j := 0) rfl rfl rfl rfl rfl (by assumption) ?_
        refine WL.as rfl rfl (WL.nil (W.seq (W.region (WL.mv rfl rfl (WL.nc rfl rfl (WL.ldN (T := Ty) (j := 2) rfl rfl rfl rfl rfl rfl (WL.mv rfl rfl (WL.geq rfl rfl rfl (WL.nil (W.condpT rfl (by omega) (W.region (WL.mv rfl rfl (WL.nc rfl rfl ?_)))))))))))))
        refine WL.ldN (T := Ty) (j := 2) rfl rfl rfl rfl rfl rfl (WL.addK rfl rfl rfl (wrap_i64 ⟨by omega, by omega⟩) (WL.nc rfl rfl ?_))
        refine WL.stF (T := Ty) (j := 2) rfl rfl rfl rfl rfl rfl rfl (by repeat' constructor) (by repeat' constructor) ?_
        refine WL.nil (W.inBlock (W.region (WL.addK rfl rfl rfl (wrap_i64 ⟨by omega, by omega⟩) (WL.mv rfl rfl (WL.nil ?_)))))
        rw [show (h1 : Int) + 1 = ((h1 + 1 : Nat) : Int) by push_cast; rfl]
        have hg : handC h1 h1 = (h1 + 1) := by unfold handC; rw [if_pos (Nat.le_refl _)]
        refine W.fit (Hs' := [Buf 1 u1 _, Buf 7 u _, box b _ _]) (by (repeat' first | exact Sel.nil | apply Sel.k | exact Pick.h | apply Pick.t)) (W.sub ?_ (next ⟨1, (h1 + 1), h2, h3⟩ ρ1 (Le.refl _) ⟨by dsimp only; omega, hg.symm, rfl, rfl⟩ (by dsimp only; omega)))
        exact ⟨rfl, rfl, rfl, rfl, rfl, trivial⟩
      | 1, _, e1, e2, e3 =>
        have e1 : x1 = handC h1 h1 := e1
        have e2 : x2 = h2 := e2
        have e3 : x3 = h3 := e3
        subst x1
        subst x2
        subst x3
        dsimp only
        have g0 : ([pt b 3, pt b 4, pt b 5] : List Value)[((1 : Nat) : Int).toNat * 1]? = some (pt b 4) := rfl
        by_cases c1 : h1 ≤ h2
        · refine W.seq ?_
          refine W.region (WL.lss rfl rfl rfl (WL.nil (W.seq (W.condT rfl (W.skip (W.seq (W.block (W.seq (W.region ?_)))))))))
          refine WL.ix (T := Ty) rfl rfl rfl (by assumption) rfl rfl (by omega) (by first | omega | decide +kernel) ?_
          refine WL.ldE (T := Ty) (j := 0) rfl rfl rfl rfl rfl (by assumption) ?_
          refine WL.as rfl rfl (WL.nil (W.seq (W.region (WL.mv rfl rfl (WL.nc rfl rfl (WL.ldN (T := Ty) (j := 2) rfl rfl rfl rfl rfl rfl (WL.mv rfl rfl (WL.geq rfl rfl rfl (WL.nil (W.condpT rfl (by omega) (W.region (WL.mv rfl rfl (WL.nc rfl rfl ?_)))))))))))))
          refine WL.ldN (T := Ty) (j := 2) rfl rfl rfl rfl rfl rfl (WL.addK rfl rfl rfl (wrap_i64 ⟨by omega, by omega⟩) (WL.nc rfl rfl ?_))
          refine WL.stF (T := Ty) (j := 2) rfl rfl rfl rfl rfl rfl rfl (by repeat' constructor) (by repeat' constructor) ?_
          refine WL.nil (W.inBlock (W.region (WL.addK rfl rfl rfl (wrap_i64 ⟨by omega, by omega⟩) (WL.mv rfl rfl (WL.nil ?_)))))
          rw [show (h2 : Int) + 1 = ((h2 + 1 : Nat) : Int) by push_cast; rfl]
          have hg : handC h1 h2 = (h2 + 1) := by unfold handC; rw [if_pos c1]
          refine W.fit (Hs' := [Buf 1 u1 _, Buf 7 u _, box b _ _]) (by (repeat' first | exact Sel.nil | apply Sel.k | exact Pick.h | apply Pick.t)) (W.sub ?_ (next ⟨2, (handC h1 h1), (h2 + 1), h3⟩ ρ1 (Le.refl _) ⟨by dsimp only; omega, rfl, hg.symm, rfl⟩ (by dsimp only; omega)))
          exact ⟨rfl, rfl, rfl, rfl, rfl, trivial⟩
        · refine W.seq ?_
          refine W.region (WL.lss rfl rfl rfl (WL.nil (W.seq (W.condT rfl (W.skip (W.seq (W.block (W.seq (W.region ?_)))))))))
          refine WL.ix (T := Ty) rfl rfl rfl (by assumption) rfl rfl (by omega) (by first | omega | decide +kernel) ?_
          refine WL.ldE (T := Ty) (j := 0) rfl rfl rfl rfl rfl (by assumption) ?_
          refine WL.as rfl rfl (WL.nil (W.seq (W.region (WL.mv rfl rfl (WL.nc rfl rfl (WL.ldN (T := Ty) (j := 2) rfl rfl rfl rfl rfl rfl (WL.mv rfl rfl (WL.geq rfl rfl rfl (WL.nil (W.condpF rfl (by omega) (W.skip (W.inBlock (W.region ?_)))))))))))))
          refine WL.addK rfl rfl rfl (wrap_i64 ⟨by omega, by omega⟩) (WL.mv rfl rfl (WL.nil ?_))
          have hg : handC h1 h2 = h2 := by unfold handC; rw [if_neg c1]
          refine W.fit (Hs' := [Buf 1 u1 _, Buf 7 u _, box b _ _]) (by (repeat' first | exact Sel.nil | apply Sel.k | exact Pick.h | apply Pick.t)) (W.sub ?_ (next ⟨2, (handC h1 h1), h2, h3⟩ ρ1 (Le.refl _) ⟨by dsimp only; omega, rfl, hg.symm, rfl⟩ (by dsimp only; omega)))
          exact ⟨rfl, rfl, rfl, rfl, rfl, trivial⟩
      | 2, _, e1, e2, e3 =>
        have e1 : x1 = handC h1 h1 := e1
        have e2 : x2 = handC h1 h2 := e2
        have e3 : x3 = h3 := e3
        subst x1
        subst x2
        subst x3
        dsimp only
        have g0 : ([pt b 3, pt b 4, pt b 5] : List Value)[((2 : Nat) : Int).toNat * 1]? = some (pt b 5) := rfl
        by_cases c1 : h1 ≤ h3
        · refine W.seq ?_
          refine W.region (WL.lss rfl rfl rfl (WL.nil (W.seq (W.condT rfl (W.skip (W.seq (W.block (W.seq (W.region ?_)))))))))
          refine WL.ix (T := Ty) rfl rfl rfl (by assumption) rfl rfl (by omega) (by first | omega | decide +kernel) ?_
          refine WL.ldE (T := Ty) (j := 0) rfl rfl rfl rfl rfl (by assumption) ?_
          refine WL.as rfl rfl (WL.nil (W.seq (W.region (WL.mv rfl rfl (WL.nc rfl rfl (WL.ldN (T := Ty) (j := 2) rfl rfl rfl rfl rfl rfl (WL.mv rfl rfl (WL.geq rfl rfl rfl (WL.nil (W.condpT rfl (by omega) (W.region (WL.mv rfl rfl (WL.nc rfl rfl ?_)))))))))))))
          refine WL.ldN (T := Ty) (j := 2) rfl rfl rfl rfl rfl rfl (WL.addK rfl rfl rfl (wrap_i64 ⟨by omega, by omega⟩) (WL.nc rfl rfl ?_))
          refine WL.stF (T := Ty) (j := 2) rfl rfl rfl rfl rfl rfl rfl (by repeat' constructor) (by repeat' constructor) ?_
          refine WL.nil (W.inBlock (W.region (WL.addK rfl rfl rfl (wrap_i64 ⟨by omega, by omega⟩) (WL.mv rfl rfl (WL.nil ?_)))))
          rw [show (h3 : Int) + 1 = ((h3 + 1 : Nat) : Int) by push_cast; rfl]
          have hg : handC h1 h3 = (h3 + 1) := by unfold handC; rw [if_pos c1]
          refine W.fit (Hs' := [Buf 1 u1 _, Buf 7 u _, box b _ _]) (by (repeat' first | exact Sel.nil | apply Sel.k | exact Pick.h | apply Pick.t)) (W.sub ?_ (next ⟨3, (handC h1 h1), (handC h1 h2), (h3 + 1)⟩ ρ1 (Le.refl _) ⟨by dsimp only; omega, rfl, rfl, hg.symm⟩ (by dsimp only; omega)))
          exact ⟨rfl, rfl, rfl, rfl, rfl, trivial⟩
        · refine W.seq ?_
          refine W.region (WL.lss rfl rfl rfl (WL.nil (W.seq (W.condT rfl (W.skip (W.seq (W.block (W.seq (W.region ?_)))))))))
          refine WL.ix (T := Ty) rfl rfl rfl (by assumption) rfl rfl (by omega) (by first | omega | decide +kernel) ?_
          refine WL.ldE (T := Ty) (j := 0) rfl rfl rfl rfl rfl (by assumption) ?_
          refine WL.as rfl rfl (WL.nil (W.seq (W.region (WL.mv rfl rfl (WL.nc rfl rfl (WL.ldN (T := Ty) (j := 2) rfl rfl rfl rfl rfl rfl (WL.mv rfl rfl (WL.geq rfl rfl rfl (WL.nil (W.condpF rfl (by omega) (W.skip (W.inBlock (W.region ?_)))))))))))))
          refine WL.addK rfl rfl rfl (wrap_i64 ⟨by omega, by omega⟩) (WL.mv rfl rfl (WL.nil ?_))
          have hg : handC h1 h3 = h3 := by unfold handC; rw [if_neg c1]
          refine W.fit (Hs' := [Buf 1 u1 _, Buf 7 u _, box b _ _]) (by (repeat' first | exact Sel.nil | apply Sel.k | exact Pick.h | apply Pick.t)) (W.sub ?_ (next ⟨3, (handC h1 h1), (handC h1 h2), h3⟩ ρ1 (Le.refl _) ⟨by dsimp only; omega, rfl, rfl, hg.symm⟩ (by dsimp only; omega)))
          exact ⟨rfl, rfl, rfl, rfl, rfl, trivial⟩
      | 3, _, e1, e2, e3 =>
        have e1 : x1 = handC h1 h1 := e1
        have e2 : x2 = handC h1 h2 := e2
        have e3 : x3 = handC h1 h3 := e3
        subst x1
        subst x2
        subst x3
        dsimp only
        refine W.seq (W.region (WL.lss rfl rfl rfl (WL.nil (W.seq (W.condF rfl (W.exit rfl ?_))))))
        refine W.fit (Hs' := [box b _ _, Buf 7 u _]) (by (repeat' first | exact Sel.nil | apply Sel.k | exact Pick.h | apply Pick.t)) (W.stop0 rfl (fun h q => ⟨u, ⟨rfl, by unfold comesP; rw [if_neg h0]; dsimp only; rw [hln]; exact su⟩, by unfold comesP; rw [if_neg h0]; exact q⟩))
    · refine W.drawP 9 [false, false, true] rfl (by repeat' constructor) (by repeat' constructor) (fun σ0 hσ0 dσ0 => ?_)
      have fσ0_0 := rb_at 0 rfl hσ0 dσ0
      have fσ0_1 := rb_at 1 rfl hσ0 dσ0
      refine WD.takeL 0 rfl (by decide +kernel) (WL.mv rfl rfl (WL.nilT (WD.takeL 1 rfl (by decide +kernel) (WL.mv rfl rfl (WL.nilT (WD.takeL 2 rfl (by decide +kernel) (WL.nc rfl rfl (WL.nilT (WD.takeL 3 rfl (by decide +kernel) (WL.faN (T := Ty) (off' := 2) rfl rfl rfl rfl rfl rfl rfl (WL.nilT (WD.takeL 4 rfl (by decide +kernel) ?_))))))))))))
      refine WL.ldBN (T := Ty) rfl rfl rfl rfl (by first | assumption | exact RB.wide (by assumption) | exact In.rb (by assumption)) rfl ?_
      refine WL.nilT (WD.takeL 5 rfl (by decide +kernel) (WL.mv rfl rfl (WL.nilT (WD.takeL 6 rfl (by decide +kernel) ?_))))
      refine WL.ldABF (T := Ty) rfl rfl rfl rfl (by first | assumption | exact RB.wide (by assumption) | exact In.rb (by assumption)) rfl (by repeat' constructor) ?_
      refine WL.nilT (WD.oneL 7 rfl (by decide +kernel) ?_)
      refine WL.bsXh (by with_reducible assumption) (T := Ty) rfl rfl rfl rfl rfl rfl rfl rfl (by repeat' constructor) (fun b1 => ?_)
      refine WL.nilS (WD.oneL 8 rfl (by decide +kernel) ?_)
      refine WL.callTk (Take.cons 2 rfl (Take.cons 1 rfl Take.nil)) rfl rfl (fun x p d => insP_c _ _ _ _ _ _ _ _ rfl (by assumption) (by first | assumption | omega) (by assumption) (AO.all (by repeat' first | exact AO.nil | apply AO.cons (by first | rfl | exact SL.one (by assumption)))) (by first | assumption | omega)) (by repeat' constructor) (fun u2 => ?_)
      refine WL.fact (i := 0) rfl (fun h hb => hb.sl (ins_len (by assumption) rfl) (by omega)) (fun hsl2 => ?_)
      refine WL.nilH hσ0 (fun σ1 hσ1 dσ1 mσ1 => ?_)
      have fσ0_0 := fσ0_0.mono mσ1
      have fσ0_1 := fσ0_1.mono mσ1
      have fσ1_0 := ros_at 0 rfl hσ1 dσ1
      refine WD.lastG hσ1 (by decide +kernel) (by repeat' constructor) rfl (by repeat' constructor) ?_
      refine WL.nc rfl rfl (WL.faN (T := Ty) (off' := 2) rfl rfl rfl rfl rfl rfl rfl ?_)
      refine WL.stF (T := Ty) (j := 2) rfl rfl rfl rfl (SL.one (by assumption)) rfl rfl (by repeat' constructor) (by repeat' constructor) ?_
      refine WL.nil ?_
      rw [hfl]
      refine W.fit (Hs' := [Buf 7 _ ((L.take h1 ++ [p] ++ L.drop h1).flatMap pgC), box b _ _]) (by (repeat' first | exact Sel.nil | apply Sel.k | exact Pick.h | apply Pick.t)) (W.sub ?_ (cut _ _ (Le.refl _) (by first | assumption | (rw [← hln]; assumption))))
      exact ⟨rfl, rfl, trivial⟩
end Go.Proofs.Ytdpnpipninggeaa
/- The hand Hot turns. -/
set_option linter.unusedSimpArgs false
set_option linter.unusedVariables false
set_option maxRecDepth 20000
set_option maxHeartbeats 4000000
namespace Go.Proofs.Ytdpnpipninggeaa
open Go
theorem hotL_s (n : Nat) (c : Clk) : hotL (n + 1) c = match c.pages[c.hot]? with
  | none => none
  | some p =>
   if p.kind = 3 then hotL n (aimP (goesP c c.hot) (-1))
   else if p.kind = 1 ∧ p.ref = true then hotL n { setP c c.hot { p with ref := false } with hot := onP c c.hot }
   else if p.kind = 1 then some { setP c c.hot { p with kind := 2, ref := false, trial := false } with hot := onP c c.hot }
   else hotL n { setP c c.hot { p with trial := false } with hot := onP c c.hot } := rfl
attribute [local irreducible] W WL Fn Buf ROs SL eptr box Rd Src bndOK WD RB Reads In Own handG handC hotL cnt goesP
theorem hotT_c (ρ : Hp) (b : Nat) (c : Clk) (v : Value) (n : Nat) (c' : Clk) (hB : ClkB c) (sv : SL v c.pages.length) (hh : hotT n c = some c') :
    Fn Try.prog 44 #[pt b 0] ρ [box b [.int .i64 c.most, .int .i64 c.target, v, .int .i64 (c.hot : Int), .int .i64 (c.cold : Int), .int .i64 (c.test : Int)] 36, Buf 7 v (c.pages.flatMap pgC)] (CkR b c') := by
  have hln := hB.ln
  refine in44 rfl rfl ?_
  unfold hotT at hh
  by_cases h0 : cnt isHot c.pages = 0
  · rw [if_pos h0] at hh
    cases hh
    refine W.seq (W.seq (W.region (WL.mv rfl rfl (WL.nc rfl rfl ?_))))
    refine WL.ldAF (T := Ty) (j := 0) rfl rfl rfl rfl rfl rfl (by repeat' constructor) ?_
    refine WL.callV rfl rfl (fun x p d => count_c _ isHot 48 (fun p ρ => hot_c ρ p) _ _ _ _ _ _ _ (by first | assumption | exact ROs.wide (by assumption) | exact ROs.mono (by assumption) (eqh_at 0 rfl p d) | exact ros_at 0 rfl p d | exact ros_at 1 rfl p d | exact ros_at 2 rfl p d | exact ros_at 3 rfl p d | exact ros_at 4 rfl p d) (by first | assumption | omega)) ?_
    refine WL.eql rfl rfl rfl (WL.nil (W.condpT rfl (by omega) ?_))
    exact W.ret0 rfl (fun h q => ⟨v, ⟨rfl, sv⟩, q⟩)
  · rw [if_neg h0] at hh
    refine W.seq (W.seq (W.region (WL.mv rfl rfl (WL.nc rfl rfl ?_))))
    refine WL.ldAF (T := Ty) (j := 0) rfl rfl rfl rfl rfl rfl (by repeat' constructor) ?_
    refine WL.callV rfl rfl (fun x p d => count_c _ isHot 48 (fun p ρ => hot_c ρ p) _ _ _ _ _ _ _ (by first | assumption | exact ROs.wide (by assumption) | exact ROs.mono (by assumption) (eqh_at 0 rfl p d) | exact ros_at 0 rfl p d | exact ros_at 1 rfl p d | exact ros_at 2 rfl p d | exact ros_at 3 rfl p d | exact ros_at 4 rfl p d) (by first | assumption | omega)) ?_
    refine WL.eql rfl rfl rfl (WL.nil (W.condpF rfl (by omega) (W.skip (W.block ?_))))
    refine W.loopR (σ := Nat × Clk × Value) (fun s => [(0, pt b 0)])
      (fun s => [box b [.int .i64 s.2.1.most, .int .i64 s.2.1.target, s.2.2, .int .i64 (s.2.1.hot : Int), .int .i64 (s.2.1.cold : Int), .int .i64 (s.2.1.test : Int)] 36, Buf 7 s.2.2 (s.2.1.pages.flatMap pgC)])
      (fun s ρ' => hotL s.1 s.2.1 = some c' ∧ ClkB s.2.1 ∧ SL s.2.2 s.2.1.pages.length) (fun s => s.1)
      (n, c, v) ⟨rfl, trivial⟩ rfl ⟨hh, hB, sv⟩ ?_
    clear hh hB sv hln h0 c v n
    rintro ⟨n, c, v⟩ ρ1 le1 ⟨hh, hB, sv⟩ next
    dsimp only at hh hB sv next ⊢
    cases n with
    | zero => unfold hotL at hh; cases hh
    | succ n =>
      rw [hotL_s] at hh
      have hln := hB.ln
      have l1 := pgs_cells c.pages
      cases hp : c.pages[c.hot]? with
      | none => rw [hp] at hh; cases hh
      | some p =>
        rw [hp] at hh
        dsimp only at hh
        have hpl := (List.getElem?_eq_some_iff.1 hp).1
        have g3 : (c.pages.flatMap pgC)[((c.hot : Nat) : Int).toNat * 7 + 3]? = some (.int .i64 p.kind) := flat_get pg_len hp rfl
        have g4 : (c.pages.flatMap pgC)[((c.hot : Nat) : Int).toNat * 7 + 4]? = some (.bool p.ref) := flat_get pg_len hp rfl
        have b1 := hB.h1
        have b2 := hB.h2
        have b3 := hB.h3
        refine W.block (W.seq ?_)
        refine W.cutG (τ := Unit) (fun s => [(0, pt b 0), (2, eptr v (((c.hot : Nat) : Int).toNat * 7))]) (fun s => [box b [.int .i64 c.most, .int .i64 c.target, v, .int .i64 (c.hot : Int), .int .i64 (c.cold : Int), .int .i64 (c.test : Int)] 36, Buf 7 v (c.pages.flatMap pgC)]) (fun s ρ' => True) ?_ (fun cut => ?_)
        · rintro _ ρ2 le2 -
          by_cases k3 : p.kind = 3
          · rw [if_pos k3] at hh
            have hG := hB.goes c.hot
            refine W.seq (W.region (WL.as rfl rfl (WL.nil (W.seq (W.block (W.seq (W.region (WL.mv rfl rfl (WL.ncE rfl rfl (WL.faEN (T := Ty) (off' := 3) rfl rfl rfl rfl rfl rfl rfl ?_))))))))))
            refine WL.ldE (T := Ty) (j := 1) rfl rfl rfl rfl rfl (by assumption) ?_
            refine WL.eql rfl rfl rfl (WL.as rfl rfl (WL.nil (W.condpT rfl (by omega) (W.seq (W.region (WL.mv rfl rfl (WL.mv rfl rfl (WL.nc rfl rfl (WL.faN (T := Ty) (off' := 3) rfl rfl rfl rfl rfl rfl rfl (WL.ldN (T := Ty) (j := 0) rfl rfl rfl rfl rfl rfl ?_))))))))))
            refine WL.callTk (Take.cons 0 rfl (Take.cons 0 rfl Take.nil)) rfl rfl (fun x p d => goes_c _ _ _ _ _ _ _ _ _ _ (by first | assumption | omega) (by first | assumption | omega) (by assumption) (by first | assumption | omega) (by first | assumption | omega) (by first | assumption | omega)) (by repeat' constructor) (fun r4 => ?_)
            refine WL.opens (α := Value) (φ := fun v => r4 = .tuple #[] ∧ SL v _) (ps := fun v => PClkO _ _ v) 0 rfl (fun h q => q) (by repeat' constructor) ?_
            rintro u4 ⟨es4, su4⟩
            subst es4
            dsimp only [PClkO, List.cons_append, List.nil_append] at su4 ⊢
            refine WL.nil (W.seq (W.region (WL.mv rfl rfl ?_)))
            have hm1 := hG.m1
            have hm2 := hG.m2
            have ht12 : -1000 ≤ (goesP c c.hot).target ∧ (goesP c c.hot).target ≤ 1000 := ⟨hG.t1, hG.t2⟩
            rw [show (⟨c.most, c.target, c.pages, c.hot, c.cold, c.test⟩ : Clk) = c from rfl] at su4 ⊢
            refine WL.callM 0 rfl rfl rfl (fun x p d => aim_c _ _ _ _ _ _ _ _ _ (by first | assumption | omega) (by first | assumption | omega) (by first | assumption | omega) (by first | assumption | omega) (by first | assumption | omega)) (by repeat' constructor) ?_
            refine WL.nil (W.exit rfl ?_)
            refine W.fit (Hs' := [box b _ _, Buf 7 u4 _]) (by (repeat' first | exact Sel.nil | apply Sel.k | exact Pick.h | apply Pick.t)) (W.sub ?_ (next ⟨n, aimP (goesP c c.hot) (-1), u4⟩ ρ2 le2 ⟨hh, hG.aim _, su4⟩ (by dsimp only; omega)))
            exact ⟨rfl, trivial⟩
          · rw [if_neg k3] at hh
            have hset0 : (c.pages.flatMap pgC).set (((c.hot : Nat) : Int).toNat * 7 + 5) (.bool false) = (c.pages.set c.hot { p with trial := false }).flatMap pgC := flat_set (j := 5) pg_len hp (by decide) rfl
            have hset1 : (c.pages.flatMap pgC).set (((c.hot : Nat) : Int).toNat * 7 + 4) (.bool false) = (c.pages.set c.hot { p with ref := false }).flatMap pgC := flat_set (j := 4) pg_len hp (by decide) rfl
            have hset2 : (c.pages.flatMap pgC).set (((c.hot : Nat) : Int).toNat * 7 + 3) (.int .i64 2) = (c.pages.set c.hot { p with kind := 2 }).flatMap pgC := flat_set (j := 3) pg_len hp (by decide) rfl
            have hq2 : (c.pages.set c.hot { p with kind := 2 })[c.hot]? = some { p with kind := 2 } := List.getElem?_set_self hpl
            have hset3 : ((c.pages.set c.hot { p with kind := 2 }).flatMap pgC).set (((c.hot : Nat) : Int).toNat * 7 + 4) (.bool false) = (c.pages.set c.hot { p with kind := 2, ref := false }).flatMap pgC := by
              have := flat_set (j := 4) (b := { p with kind := 2, ref := false }) (v := .bool false) pg_len hq2 (by decide) rfl
              rw [List.set_set] at this
              exact this
            have hq3 : (c.pages.set c.hot { p with kind := 2, ref := false })[c.hot]? = some { p with kind := 2, ref := false } := List.getElem?_set_self hpl
            have hset4 : ((c.pages.set c.hot { p with kind := 2, ref := false }).flatMap pgC).set (((c.hot : Nat) : Int).toNat * 7 + 5) (.bool false) = (c.pages.set c.hot { p with kind := 2, ref := false, trial := false }).flatMap pgC := by
              have := flat_set (j := 5) (b := { p with kind := 2, ref := false, trial := false }) (v := .bool false) pg_len hq3 (by decide) rfl
              rw [List.set_set] at this
              exact this
            have hon := onP_le hB c.hot b1 (by omega)
            have nB : ∀ q : Pg, ClkB { setP c c.hot q with hot := onP c c.hot } := fun q => ⟨hB.m1, hB.m2, hB.t1, hB.t2, by unfold setP; dsimp only; rw [List.length_set]; exact hln, hon, b2, b3⟩
            have nS : ∀ q : Pg, SL v (c.pages.set c.hot q).length := fun q => by rw [List.length_set]; exact sv
            by_cases k1 : p.kind = 1
            · cases hr : p.ref with
              | true =>
                rw [hr] at g4
                rw [if_pos ⟨k1, hr⟩] at hh
                refine W.seq (W.region (WL.as rfl rfl (WL.nil (W.seq (W.block (W.seq (W.region (WL.mv rfl rfl (WL.ncE rfl rfl (WL.faEN (T := Ty) (off' := 3) rfl rfl rfl rfl rfl rfl rfl ?_))))))))))
                refine WL.ldE (T := Ty) (j := 1) rfl rfl rfl rfl rfl (by assumption) ?_
                refine WL.eql rfl rfl rfl (WL.as rfl rfl (WL.nil (W.condpF rfl (by omega) (W.seq (W.region (WL.mv rfl rfl (WL.ncE rfl rfl (WL.faEN (T := Ty) (off' := 3) rfl rfl rfl rfl rfl rfl rfl ?_))))))))
                refine WL.ldE (T := Ty) (j := 1) rfl rfl rfl rfl rfl (by assumption) ?_
                refine WL.eql rfl rfl rfl (WL.mv rfl rfl (WL.gT rfl rfl (by omega) (WL.mv rfl rfl (WL.gT rfl rfl (by omega) (WL.ncE rfl rfl (WL.gT rfl rfl (by omega) (WL.faEN (T := Ty) (off' := 4) rfl rfl rfl rfl rfl rfl rfl (WL.gT rfl rfl (by omega) ?_))))))))
                refine WL.ldE (T := Ty) (j := 1) rfl rfl rfl rfl rfl (by assumption) ?_
                refine WL.pickTp rfl rfl (by omega) rfl (WL.as rfl rfl (WL.nil (W.condT rfl (W.region (WL.mv rfl rfl (WL.ncE rfl rfl (WL.faEN (T := Ty) (off' := 4) rfl rfl rfl rfl rfl rfl rfl ?_)))))))
                refine WL.stEF (T := Ty) (j := 1) rfl rfl rfl rfl rfl rfl (by first | assumption | omega | (simp only [List.length_set]; omega) | (simp; omega)) rfl (by repeat' constructor) ?_
                refine WL.nil (W.inBlock (W.seq (W.region (WL.mv rfl rfl (WL.mv rfl rfl (WL.nc rfl rfl (WL.faN (T := Ty) (off' := 3) rfl rfl rfl rfl rfl rfl rfl ?_)))))))
                refine WL.callM 0 rfl rfl rfl (fun x p d => on1_c _ _ _ _ _ _ _ _ _ (by assumption) (by first | assumption | omega) (by first | assumption | omega) (by first | assumption | omega)) (by repeat' constructor) ?_
                refine WL.nil (W.seq (W.region (WL.mv rfl rfl (WL.nil (W.condF rfl (W.skip (W.inBlock ?_)))))))
                rw [hset1]
                refine W.fit (Hs' := [box b _ _, Buf 7 v _]) (by (repeat' first | exact Sel.nil | apply Sel.k | exact Pick.h | apply Pick.t)) (W.sub ?_ (next ⟨n, { setP c c.hot { p with ref := false } with hot := onP c c.hot }, v⟩ ρ2 le2 ⟨hh, nB _, nS _⟩ (by dsimp only; omega)))
                exact ⟨rfl, trivial⟩
              | false =>
                rw [hr] at g4
                rw [if_neg (fun h => by rw [hr] at h; cases h.2), if_pos k1] at hh
                cases hh
                refine W.seq (W.region (WL.as rfl rfl (WL.nil (W.seq (W.block (W.seq (W.region (WL.mv rfl rfl (WL.ncE rfl rfl (WL.faEN (T := Ty) (off' := 3) rfl rfl rfl rfl rfl rfl rfl ?_))))))))))
                refine WL.ldE (T := Ty) (j := 1) rfl rfl rfl rfl rfl (by assumption) ?_
                refine WL.eql rfl rfl rfl (WL.as rfl rfl (WL.nil (W.condpF rfl (by omega) (W.seq (W.region (WL.mv rfl rfl (WL.ncE rfl rfl (WL.faEN (T := Ty) (off' := 3) rfl rfl rfl rfl rfl rfl rfl ?_))))))))
                refine WL.ldE (T := Ty) (j := 1) rfl rfl rfl rfl rfl (by assumption) ?_
                refine WL.eql rfl rfl rfl (WL.mv rfl rfl (WL.gT rfl rfl (by omega) (WL.mv rfl rfl (WL.gT rfl rfl (by omega) (WL.ncE rfl rfl (WL.gT rfl rfl (by omega) (WL.faEN (T := Ty) (off' := 4) rfl rfl rfl rfl rfl rfl rfl (WL.gT rfl rfl (by omega) ?_))))))))
                refine WL.ldE (T := Ty) (j := 1) rfl rfl rfl rfl rfl (by assumption) ?_
                refine WL.pickTp rfl rfl (by omega) rfl (WL.as rfl rfl (WL.nil (W.condF rfl (W.seq (W.region (WL.mv rfl rfl (WL.ncE rfl rfl (WL.faEN (T := Ty) (off' := 3) rfl rfl rfl rfl rfl rfl rfl ?_))))))))
                refine WL.ldE (T := Ty) (j := 1) rfl rfl rfl rfl rfl (by assumption) ?_
                refine WL.eql rfl rfl rfl (WL.as rfl rfl (WL.nil (W.condpT rfl (by omega) (W.seq (W.region (WL.mv rfl rfl (WL.mv rfl rfl (WL.mv rfl rfl (WL.ncE rfl rfl (WL.faEN (T := Ty) (off' := 3) rfl rfl rfl rfl rfl rfl rfl ?_))))))))))
                refine WL.stEF (T := Ty) (j := 1) rfl rfl rfl rfl rfl rfl (by first | assumption | omega | (simp only [List.length_set]; omega) | (simp; omega)) rfl (by repeat' constructor) ?_
                refine WL.ncE rfl rfl (WL.faEN (T := Ty) (off' := 4) rfl rfl rfl rfl rfl rfl rfl ?_)
                refine WL.stEF (T := Ty) (j := 1) rfl rfl rfl rfl rfl rfl (by first | assumption | omega | (simp only [List.length_set]; omega) | (simp; omega)) rfl (by repeat' constructor) ?_
                refine WL.ncE rfl rfl (WL.faEN (T := Ty) (off' := 5) rfl rfl rfl rfl rfl rfl rfl ?_)
                refine WL.stEF (T := Ty) (j := 1) rfl rfl rfl rfl rfl rfl (by first | assumption | omega | (simp only [List.length_set]; omega) | (simp; omega)) rfl (by repeat' constructor) ?_
                refine WL.nil (W.region (WL.as rfl rfl (WL.nil (W.inBlock (W.seq (W.region (WL.mv rfl rfl (WL.mv rfl rfl (WL.nc rfl rfl (WL.faN (T := Ty) (off' := 3) rfl rfl rfl rfl rfl rfl rfl ?_))))))))))
                refine WL.callM 0 rfl rfl rfl (fun x p d => on1_c _ _ _ _ _ _ _ _ _ (by assumption) (by first | assumption | omega) (by first | assumption | omega) (by first | assumption | omega)) (by repeat' constructor) ?_
                refine WL.nil (W.seq (W.region (WL.mv rfl rfl (WL.nil (W.condT rfl ?_)))))
                rw [hset2, hset3, hset4]
                exact W.ret0 rfl (fun h q => ⟨v, ⟨rfl, nS _⟩, q⟩)
            · rw [if_neg (fun h => k1 h.1), if_neg k1] at hh
              refine W.seq (W.region (WL.as rfl rfl (WL.nil (W.seq (W.block (W.seq (W.region (WL.mv rfl rfl (WL.ncE rfl rfl (WL.faEN (T := Ty) (off' := 3) rfl rfl rfl rfl rfl rfl rfl ?_))))))))))
              refine WL.ldE (T := Ty) (j := 1) rfl rfl rfl rfl rfl (by assumption) ?_
              refine WL.eql rfl rfl rfl (WL.as rfl rfl (WL.nil (W.condpF rfl (by omega) (W.seq (W.region (WL.mv rfl rfl (WL.ncE rfl rfl (WL.faEN (T := Ty) (off' := 3) rfl rfl rfl rfl rfl rfl rfl ?_))))))))
              refine WL.ldE (T := Ty) (j := 1) rfl rfl rfl rfl rfl (by assumption) ?_
              refine WL.eql rfl rfl rfl (WL.mv rfl rfl (WL.gdTn rfl rfl rfl rfl rfl (by omega) (WL.gdTn rfl rfl rfl rfl rfl (by omega) (WL.gdTn rfl rfl rfl rfl rfl (by omega) (WL.gdTn rfl rfl rfl rfl rfl (by omega) (WL.pickFp rfl rfl (by omega) rfl (WL.as rfl rfl (WL.nil (W.condF rfl (W.seq (W.region (WL.mv rfl rfl (WL.ncE rfl rfl ?_)))))))))))))
              refine WL.faEN (T := Ty) (off' := 3) rfl rfl rfl rfl rfl rfl rfl ?_
              refine WL.ldE (T := Ty) (j := 1) rfl rfl rfl rfl rfl (by assumption) ?_
              refine WL.eql rfl rfl rfl (WL.as rfl rfl (WL.nil (W.condpF rfl (by omega) (W.region (WL.mv rfl rfl (WL.ncE rfl rfl (WL.faEN (T := Ty) (off' := 5) rfl rfl rfl rfl rfl rfl rfl ?_)))))))
              refine WL.stEF (T := Ty) (j := 1) rfl rfl rfl rfl rfl rfl (by first | assumption | omega | (simp only [List.length_set]; omega) | (simp; omega)) rfl (by repeat' constructor) ?_
              refine WL.nil (W.inBlock (W.seq (W.region (WL.mv rfl rfl (WL.mv rfl rfl (WL.nc rfl rfl (WL.faN (T := Ty) (off' := 3) rfl rfl rfl rfl rfl rfl rfl ?_)))))))
              refine WL.callM 0 rfl rfl rfl (fun x p d => on1_c _ _ _ _ _ _ _ _ _ (by assumption) (by first | assumption | omega) (by first | assumption | omega) (by first | assumption | omega)) (by repeat' constructor) ?_
              refine WL.nil (W.seq (W.region (WL.mv rfl rfl (WL.nil (W.condF rfl (W.skip (W.inBlock ?_)))))))
              rw [hset0]
              refine W.fit (Hs' := [box b _ _, Buf 7 v _]) (by (repeat' first | exact Sel.nil | apply Sel.k | exact Pick.h | apply Pick.t)) (W.sub ?_ (next ⟨n, { setP c c.hot { p with trial := false } with hot := onP c c.hot }, v⟩ ρ2 le2 ⟨hh, nB _, nS _⟩ (by dsimp only; omega)))
              exact ⟨rfl, trivial⟩
        · refine W.drawA 9 rfl (fun σ0 hσ0 dσ0 => ?_)
          have fσ0_0 := rb_at 0 rfl hσ0 dσ0
          have fσ0_1 := ros_at 1 rfl hσ0 dσ0
          refine WD.takeL 0 rfl (by decide +kernel) (WL.mv rfl rfl (WL.nilT (WD.takeL 1 rfl (by decide +kernel) (WL.nc rfl rfl (WL.nilT (WD.takeL 2 rfl (by decide +kernel) (WL.faN (T := Ty) (off' := 2) rfl rfl rfl rfl rfl rfl rfl (WL.nilT (WD.takeL 3 rfl (by decide +kernel) ?_)))))))))
          refine WL.ldBN (T := Ty) rfl rfl rfl rfl (by first | assumption | exact RB.wide (by assumption) | exact In.rb (by assumption)) rfl ?_
          refine WL.nilT (WD.takeL 4 rfl (by decide +kernel) (WL.mv rfl rfl (WL.nilT (WD.takeL 5 rfl (by decide +kernel) (WL.nc rfl rfl (WL.nilT (WD.takeL 6 rfl (by decide +kernel) (WL.faN (T := Ty) (off' := 3) rfl rfl rfl rfl rfl rfl rfl (WL.nilT (WD.takeL 7 rfl (by decide +kernel) ?_))))))))))
          refine WL.ldBN (T := Ty) rfl rfl rfl rfl (by first | assumption | exact RB.wide (by assumption) | exact In.rb (by assumption)) rfl ?_
          refine WL.nilT (WD.takeL 8 rfl (by decide +kernel) ?_)
          refine WL.ix (T := Ty) rfl rfl rfl (by assumption) rfl rfl (by omega) (by first | omega | decide +kernel) ?_
          refine WL.nilT ?_
          refine WD.lastG hσ0 (by decide +kernel) (by repeat' constructor) rfl (by repeat' constructor) ?_
          refine WL.as rfl rfl (WL.nil ?_)
          refine W.fit (by (repeat' first | exact Sel.nil | apply Sel.k | exact Pick.h | apply Pick.t)) (W.sub ?_ (cut () ρ1 (Le.refl _) trivial))
          exact ⟨rfl, rfl, trivial⟩
end Go.Proofs.Ytdpnpipninggeaa

/- The hand Test turns; the ring cools. -/
set_option linter.unusedSimpArgs false
set_option linter.unusedVariables false
set_option maxRecDepth 20000
set_option maxHeartbeats 4000000
namespace Go.Proofs.Ytdpnpipninggeaa
open Go
theorem testL_s (n : Nat) (c : Clk) : testL (n + 1) c = match c.pages[c.test]? with
  | none => none
  | some p =>
   if p.kind = 3 then some (aimP (goesP c c.test) (-1))
   else if p.kind = 2 ∧ p.trial = true then testL n { aimP (setP c c.test { p with trial := false }) (-1) with test := onP c c.test }
   else testL n { c with test := onP c c.test } := rfl
theorem coolL_s (n : Nat) (c : Clk) : coolL (n + 1) c = if c.most - c.target < (cnt isHot c.pages : Int) then (hotT n c).bind (coolL n) else some c := rfl
theorem cnt_le (so : Pg → Bool) (l : List Pg) : cnt so l ≤ l.length := List.countP_le_length
attribute [local irreducible] W WL Fn Buf ROs SL eptr box Rd Src bndOK WD RB Reads In Own handG handC hotL hotT testL testT coolL cnt goesP
theorem testT_c (ρ : Hp) (b : Nat) (c : Clk) (v : Value) (n : Nat) (c' : Clk) (hB : ClkB c) (sv : SL v c.pages.length) (hh : testT n c = some c') :
    Fn Try.prog 50 #[pt b 0] ρ [box b [.int .i64 c.most, .int .i64 c.target, v, .int .i64 (c.hot : Int), .int .i64 (c.cold : Int), .int .i64 (c.test : Int)] 36, Buf 7 v (c.pages.flatMap pgC)] (CkR b c') := by
  have hln := hB.ln
  refine in50 rfl rfl ?_
  unfold testT at hh
  by_cases h0 : cnt isTest c.pages = 0
  · rw [if_pos h0] at hh
    cases hh
    refine W.seq (W.seq (W.region (WL.mv rfl rfl (WL.nc rfl rfl ?_))))
    refine WL.ldAF (T := Ty) (j := 0) rfl rfl rfl rfl rfl rfl (by repeat' constructor) ?_
    refine WL.callV rfl rfl (fun x p d => count_c _ isTest 49 (fun p ρ => test_c ρ p) _ _ _ _ _ _ _ (by first | assumption | exact ROs.wide (by assumption) | exact ROs.mono (by assumption) (eqh_at 0 rfl p d) | exact ros_at 0 rfl p d | exact ros_at 1 rfl p d | exact ros_at 2 rfl p d | exact ros_at 3 rfl p d | exact ros_at 4 rfl p d) (by first | assumption | omega)) ?_
    refine WL.eql rfl rfl rfl (WL.nil (W.condpT rfl (by omega) ?_))
    exact W.ret0 rfl (fun h q => ⟨v, ⟨rfl, sv⟩, q⟩)
  · rw [if_neg h0] at hh
    refine W.seq (W.seq (W.region (WL.mv rfl rfl (WL.nc rfl rfl ?_))))
    refine WL.ldAF (T := Ty) (j := 0) rfl rfl rfl rfl rfl rfl (by repeat' constructor) ?_
    refine WL.callV rfl rfl (fun x p d => count_c _ isTest 49 (fun p ρ => test_c ρ p) _ _ _ _ _ _ _ (by first | assumption | exact ROs.wide (by assumption) | exact ROs.mono (by assumption) (eqh_at 0 rfl p d) | exact ros_at 0 rfl p d | exact ros_at 1 rfl p d | exact ros_at 2 rfl p d | exact ros_at 3 rfl p d | exact ros_at 4 rfl p d) (by first | assumption | omega)) ?_
    refine WL.eql rfl rfl rfl (WL.nil (W.condpF rfl (by omega) (W.skip (W.block ?_))))
    refine W.loopR (σ := Nat × Clk × Value) (fun s => [(0, pt b 0)])
      (fun s => [box b [.int .i64 s.2.1.most, .int .i64 s.2.1.target, s.2.2, .int .i64 (s.2.1.hot : Int), .int .i64 (s.2.1.cold : Int), .int .i64 (s.2.1.test : Int)] 36, Buf 7 s.2.2 (s.2.1.pages.flatMap pgC)])
      (fun s ρ' => testL s.1 s.2.1 = some c' ∧ ClkB s.2.1 ∧ SL s.2.2 s.2.1.pages.length) (fun s => s.1)
      (n, c, v) ⟨rfl, trivial⟩ rfl ⟨hh, hB, sv⟩ ?_
    clear hh hB sv hln h0 c v n
    rintro ⟨n, c, v⟩ ρ1 le1 ⟨hh, hB, sv⟩ next
    dsimp only at hh hB sv next ⊢
    cases n with
    | zero => unfold testL at hh; cases hh
    | succ n =>
      rw [testL_s] at hh
      have hln := hB.ln
      have l1 := pgs_cells c.pages
      cases hp : c.pages[c.test]? with
      | none => rw [hp] at hh; cases hh
      | some p =>
        rw [hp] at hh
        dsimp only at hh
        have hpl := (List.getElem?_eq_some_iff.1 hp).1
        have g3 : (c.pages.flatMap pgC)[((c.test : Nat) : Int).toNat * 7 + 3]? = some (.int .i64 p.kind) := flat_get pg_len hp rfl
        have g5 : (c.pages.flatMap pgC)[((c.test : Nat) : Int).toNat * 7 + 5]? = some (.bool p.trial) := flat_get pg_len hp rfl
        have b1 := hB.h1
        have b2 := hB.h2
        have b3 := hB.h3
        refine W.block (W.seq ?_)
        refine W.cutG (τ := Unit) (fun s => [(0, pt b 0), (2, eptr v (((c.test : Nat) : Int).toNat * 7))]) (fun s => [box b [.int .i64 c.most, .int .i64 c.target, v, .int .i64 (c.hot : Int), .int .i64 (c.cold : Int), .int .i64 (c.test : Int)] 36, Buf 7 v (c.pages.flatMap pgC)]) (fun s ρ' => True) ?_ (fun cut => ?_)
        · rintro _ ρ2 le2 -
          by_cases k3 : p.kind = 3
          · rw [if_pos k3] at hh
            cases hh
            have hG := hB.goes c.test
            refine W.seq (W.seq (W.region (WL.mv rfl rfl (WL.ncE rfl rfl (WL.faEN (T := Ty) (off' := 3) rfl rfl rfl rfl rfl rfl rfl ?_)))))
            refine WL.ldE (T := Ty) (j := 1) rfl rfl rfl rfl rfl (by assumption) ?_
            refine WL.eql rfl rfl rfl (WL.nil (W.condpT rfl (by omega) (W.seq (W.region (WL.mv rfl rfl (WL.mv rfl rfl (WL.nc rfl rfl (WL.faN (T := Ty) (off' := 5) rfl rfl rfl rfl rfl rfl rfl (WL.ldN (T := Ty) (j := 0) rfl rfl rfl rfl rfl rfl ?_)))))))))
            refine WL.callTk (Take.cons 0 rfl (Take.cons 0 rfl Take.nil)) rfl rfl (fun x p d => goes_c _ _ _ _ _ _ _ _ _ _ (by first | assumption | omega) (by first | assumption | omega) (by assumption) (by first | assumption | omega) (by first | assumption | omega) (by first | assumption | omega)) (by repeat' constructor) (fun r4 => ?_)
            refine WL.opens (α := Value) (φ := fun v => r4 = .tuple #[] ∧ SL v _) (ps := fun v => PClkO _ _ v) 0 rfl (fun h q => q) (by repeat' constructor) ?_
            rintro u4 ⟨es4, su4⟩
            subst es4
            dsimp only [PClkO, List.cons_append, List.nil_append] at su4 ⊢
            refine WL.nil (W.seq (W.region (WL.mv rfl rfl ?_)))
            have hm1 := hG.m1
            have hm2 := hG.m2
            have ht12 : -1000 ≤ (goesP c c.test).target ∧ (goesP c c.test).target ≤ 1000 := ⟨hG.t1, hG.t2⟩
            rw [show (⟨c.most, c.target, c.pages, c.hot, c.cold, c.test⟩ : Clk) = c from rfl] at su4 ⊢
            refine WL.callM 0 rfl rfl rfl (fun x p d => aim_c _ _ _ _ _ _ _ _ _ (by first | assumption | omega) (by first | assumption | omega) (by first | assumption | omega) (by first | assumption | omega) (by first | assumption | omega)) (by repeat' constructor) ?_
            refine WL.nil ?_
            exact W.fit (Hs' := [box b _ _, Buf 7 u4 _]) (by (repeat' first | exact Sel.nil | apply Sel.k | exact Pick.h | apply Pick.t)) (W.ret0 rfl (fun h q => ⟨u4, ⟨rfl, su4⟩, q⟩))
          · rw [if_neg k3] at hh
            have hm1 := hB.m1
            have hm2 := hB.m2
            have ht12 : -1000 ≤ c.target ∧ c.target ≤ 1000 := ⟨hB.t1, hB.t2⟩
            have hset0 : (c.pages.flatMap pgC).set (((c.test : Nat) : Int).toNat * 7 + 5) (.bool false) = (c.pages.set c.test { p with trial := false }).flatMap pgC := flat_set (j := 5) pg_len hp (by decide) rfl
            have hon := onP_le hB c.test b3 (by omega)
            have nS : ∀ q : Pg, SL v (c.pages.set c.test q).length := fun q => by rw [List.length_set]; exact sv
            by_cases k2 : p.kind = 2
            · cases hr : p.trial with
              | true =>
                rw [hr] at g5
                rw [if_pos ⟨k2, hr⟩] at hh
                refine W.seq (W.seq (W.region (WL.mv rfl rfl (WL.ncE rfl rfl (WL.faEN (T := Ty) (off' := 3) rfl rfl rfl rfl rfl rfl rfl ?_)))))
                refine WL.ldE (T := Ty) (j := 1) rfl rfl rfl rfl rfl (by assumption) ?_
                refine WL.eql rfl rfl rfl (WL.nil (W.condpF rfl (by omega) (W.skip (W.seq (W.seq (W.region (WL.mv rfl rfl (WL.ncE rfl rfl (WL.faEN (T := Ty) (off' := 3) rfl rfl rfl rfl rfl rfl rfl ?_)))))))))
                refine WL.ldE (T := Ty) (j := 1) rfl rfl rfl rfl rfl (by assumption) ?_
                refine WL.eql rfl rfl rfl (WL.mv rfl rfl (WL.gT rfl rfl (by omega) (WL.mv rfl rfl (WL.gT rfl rfl (by omega) (WL.ncE rfl rfl (WL.gT rfl rfl (by omega) (WL.faEN (T := Ty) (off' := 5) rfl rfl rfl rfl rfl rfl rfl (WL.gT rfl rfl (by omega) ?_))))))))
                refine WL.ldE (T := Ty) (j := 1) rfl rfl rfl rfl rfl (by assumption) ?_
                refine WL.pickTp rfl rfl (by omega) rfl (WL.nil (W.condT rfl (W.seq (W.region (WL.mv rfl rfl (WL.ncE rfl rfl (WL.faEN (T := Ty) (off' := 5) rfl rfl rfl rfl rfl rfl rfl ?_)))))))
                refine WL.stEF (T := Ty) (j := 1) rfl rfl rfl rfl rfl rfl (by first | assumption | omega | (simp only [List.length_set]; omega) | (simp; omega)) rfl (by repeat' constructor) ?_
                refine WL.nil (W.region (WL.mv rfl rfl ?_))
                refine WL.callM 0 rfl rfl rfl (fun x p d => aim_c _ _ _ _ _ _ _ _ _ (by first | assumption | omega) (by first | assumption | omega) (by first | assumption | omega) (by first | assumption | omega) (by first | assumption | omega)) (by repeat' constructor) ?_
                refine WL.nil (W.region (WL.mv rfl rfl (WL.mv rfl rfl (WL.nc rfl rfl (WL.faN (T := Ty) (off' := 5) rfl rfl rfl rfl rfl rfl rfl ?_)))))
                refine WL.callM 0 rfl rfl rfl (fun x p d => on3_c _ _ _ _ _ _ _ _ _ (by assumption) (by first | assumption | omega) (by first | assumption | omega) (by first | assumption | omega)) (by repeat' constructor) ?_
                refine WL.nil (W.inBlock ?_)
                rw [hset0]
                refine W.fit (Hs' := [box b _ _, Buf 7 v _]) (by (repeat' first | exact Sel.nil | apply Sel.k | exact Pick.h | apply Pick.t)) (W.sub ?_ (next ⟨n, { aimP (setP c c.test { p with trial := false }) (-1) with test := onP c c.test }, v⟩ ρ2 le2 ⟨hh, ((hB.set _ _).aim _).testS hon, nS _⟩ (by dsimp only; omega)))
                exact ⟨rfl, trivial⟩
              | false =>
                rw [hr] at g5
                rw [if_neg (fun h => by rw [hr] at h; cases h.2)] at hh
                refine W.seq (W.seq (W.region (WL.mv rfl rfl (WL.ncE rfl rfl (WL.faEN (T := Ty) (off' := 3) rfl rfl rfl rfl rfl rfl rfl ?_)))))
                refine WL.ldE (T := Ty) (j := 1) rfl rfl rfl rfl rfl (by assumption) ?_
                refine WL.eql rfl rfl rfl (WL.nil (W.condpF rfl (by omega) (W.skip (W.seq (W.seq (W.region (WL.mv rfl rfl (WL.ncE rfl rfl (WL.faEN (T := Ty) (off' := 3) rfl rfl rfl rfl rfl rfl rfl ?_)))))))))
                refine WL.ldE (T := Ty) (j := 1) rfl rfl rfl rfl rfl (by assumption) ?_
                refine WL.eql rfl rfl rfl (WL.mv rfl rfl (WL.gT rfl rfl (by omega) (WL.mv rfl rfl (WL.gT rfl rfl (by omega) (WL.ncE rfl rfl (WL.gT rfl rfl (by omega) (WL.faEN (T := Ty) (off' := 5) rfl rfl rfl rfl rfl rfl rfl (WL.gT rfl rfl (by omega) ?_))))))))
                refine WL.ldE (T := Ty) (j := 1) rfl rfl rfl rfl rfl (by assumption) ?_
                refine WL.pickTp rfl rfl (by omega) rfl (WL.nil (W.condF rfl (W.skip (W.region (WL.mv rfl rfl (WL.mv rfl rfl (WL.nc rfl rfl (WL.faN (T := Ty) (off' := 5) rfl rfl rfl rfl rfl rfl rfl ?_))))))))
                refine WL.callM 0 rfl rfl rfl (fun x p d => on3_c _ _ _ _ _ _ _ _ _ (by assumption) (by first | assumption | omega) (by first | assumption | omega) (by first | assumption | omega)) (by repeat' constructor) ?_
                refine WL.nil (W.inBlock ?_)
                refine W.fit (Hs' := [box b _ _, Buf 7 v _]) (by (repeat' first | exact Sel.nil | apply Sel.k | exact Pick.h | apply Pick.t)) (W.sub ?_ (next ⟨n, { c with test := onP c c.test }, v⟩ ρ2 le2 ⟨hh, hB.testS hon, sv⟩ (by dsimp only; omega)))
                exact ⟨rfl, trivial⟩
            · rw [if_neg (fun h => k2 h.1)] at hh
              refine W.seq (W.seq (W.region (WL.mv rfl rfl (WL.ncE rfl rfl (WL.faEN (T := Ty) (off' := 3) rfl rfl rfl rfl rfl rfl rfl ?_)))))
              refine WL.ldE (T := Ty) (j := 1) rfl rfl rfl rfl rfl (by assumption) ?_
              refine WL.eql rfl rfl rfl (WL.nil (W.condpF rfl (by omega) (W.skip (W.seq (W.seq (W.region (WL.mv rfl rfl (WL.ncE rfl rfl (WL.faEN (T := Ty) (off' := 3) rfl rfl rfl rfl rfl rfl rfl ?_)))))))))
              refine WL.ldE (T := Ty) (j := 1) rfl rfl rfl rfl rfl (by assumption) ?_
              refine WL.eql rfl rfl rfl (WL.mv rfl rfl (WL.gdTn rfl rfl rfl rfl rfl (by omega) (WL.gdTn rfl rfl rfl rfl rfl (by omega) (WL.gdTn rfl rfl rfl rfl rfl (by omega) (WL.gdTn rfl rfl rfl rfl rfl (by omega) (WL.pickFp rfl rfl (by omega) rfl (WL.nil (W.condF rfl (W.skip (W.region (WL.mv rfl rfl (WL.mv rfl rfl (WL.nc rfl rfl ?_)))))))))))))
              refine WL.faN (T := Ty) (off' := 5) rfl rfl rfl rfl rfl rfl rfl ?_
              refine WL.callM 0 rfl rfl rfl (fun x p d => on3_c _ _ _ _ _ _ _ _ _ (by assumption) (by first | assumption | omega) (by first | assumption | omega) (by first | assumption | omega)) (by repeat' constructor) ?_
              refine WL.nil (W.inBlock ?_)
              refine W.fit (Hs' := [box b _ _, Buf 7 v _]) (by (repeat' first | exact Sel.nil | apply Sel.k | exact Pick.h | apply Pick.t)) (W.sub ?_ (next ⟨n, { c with test := onP c c.test }, v⟩ ρ2 le2 ⟨hh, hB.testS hon, sv⟩ (by dsimp only; omega)))
              exact ⟨rfl, trivial⟩
        · refine W.drawA 9 rfl (fun σ0 hσ0 dσ0 => ?_)
          have fσ0_0 := rb_at 0 rfl hσ0 dσ0
          have fσ0_1 := ros_at 1 rfl hσ0 dσ0
          refine WD.takeL 0 rfl (by decide +kernel) (WL.mv rfl rfl (WL.nilT (WD.takeL 1 rfl (by decide +kernel) (WL.nc rfl rfl (WL.nilT (WD.takeL 2 rfl (by decide +kernel) (WL.faN (T := Ty) (off' := 2) rfl rfl rfl rfl rfl rfl rfl (WL.nilT (WD.takeL 3 rfl (by decide +kernel) ?_)))))))))
          refine WL.ldBN (T := Ty) rfl rfl rfl rfl (by first | assumption | exact RB.wide (by assumption) | exact In.rb (by assumption)) rfl ?_
          refine WL.nilT (WD.takeL 4 rfl (by decide +kernel) (WL.mv rfl rfl (WL.nilT (WD.takeL 5 rfl (by decide +kernel) (WL.nc rfl rfl (WL.nilT (WD.takeL 6 rfl (by decide +kernel) (WL.faN (T := Ty) (off' := 5) rfl rfl rfl rfl rfl rfl rfl (WL.nilT (WD.takeL 7 rfl (by decide +kernel) ?_))))))))))
          refine WL.ldBN (T := Ty) rfl rfl rfl rfl (by first | assumption | exact RB.wide (by assumption) | exact In.rb (by assumption)) rfl ?_
          refine WL.nilT (WD.takeL 8 rfl (by decide +kernel) ?_)
          refine WL.ix (T := Ty) rfl rfl rfl (by assumption) rfl rfl (by omega) (by first | omega | decide +kernel) ?_
          refine WL.nilT ?_
          refine WD.lastG hσ0 (by decide +kernel) (by repeat' constructor) rfl (by repeat' constructor) ?_
          refine WL.as rfl rfl (WL.nil ?_)
          refine W.fit (by (repeat' first | exact Sel.nil | apply Sel.k | exact Pick.h | apply Pick.t)) (W.sub ?_ (cut () ρ1 (Le.refl _) trivial))
          exact ⟨rfl, rfl, trivial⟩
theorem coolL_c (ρ : Hp) (b : Nat) (c : Clk) (v : Value) (n : Nat) (c' : Clk) (hB : ClkB c) (sv : SL v c.pages.length) (hh : coolL n c = some c') :
    Fn Try.prog 36 #[pt b 0] ρ [box b [.int .i64 c.most, .int .i64 c.target, v, .int .i64 (c.hot : Int), .int .i64 (c.cold : Int), .int .i64 (c.test : Int)] 36, Buf 7 v (c.pages.flatMap pgC)] (CkR b c') := by
  refine in36 rfl rfl ?_
  refine W.block ?_
  refine W.loopR (σ := Nat × Clk × Value) (fun s => [(0, pt b 0)])
    (fun s => [box b [.int .i64 s.2.1.most, .int .i64 s.2.1.target, s.2.2, .int .i64 (s.2.1.hot : Int), .int .i64 (s.2.1.cold : Int), .int .i64 (s.2.1.test : Int)] 36, Buf 7 s.2.2 (s.2.1.pages.flatMap pgC)])
    (fun s ρ' => coolL s.1 s.2.1 = some c' ∧ ClkB s.2.1 ∧ SL s.2.2 s.2.1.pages.length) (fun s => s.1)
    (n, c, v) ⟨rfl, trivial⟩ rfl ⟨hh, hB, sv⟩ ?_
  clear hh hB sv c v n
  rintro ⟨n, c, v⟩ ρ1 le1 ⟨hh, hB, sv⟩ next
  dsimp only at hh hB sv next ⊢
  cases n with
  | zero => unfold coolL at hh; cases hh
  | succ n =>
    rw [coolL_s] at hh
    have hln := hB.ln
    have l1 := pgs_cells c.pages
    have hc1 := cnt_le isHot c.pages
    have hm1 := hB.m1
    have hm2 := hB.m2
    have ht1 := hB.t1
    have ht2 := hB.t2
    by_cases hgt : c.most - c.target < (cnt isHot c.pages : Int)
    · rw [if_pos hgt] at hh
      cases hx : hotT n c with
      | none => rw [hx] at hh; cases hh
      | some x =>
        rw [hx] at hh
        obtain ⟨hB', hm⟩ := hotT_B hB hx
        refine W.seq (W.seq ?_)
        refine W.drawA 14 rfl (fun σ0 hσ0 dσ0 => ?_)
        have fσ0_0 := rb_at 0 rfl hσ0 dσ0
        have fσ0_1 := ros_at 1 rfl hσ0 dσ0
        refine WD.takeL 0 rfl (by decide +kernel) (WL.mv rfl rfl (WL.nilT (WD.takeL 1 rfl (by decide +kernel) (WL.nc rfl rfl (WL.nilT (WD.takeL 2 rfl (by decide +kernel) ?_))))))
        refine WL.ldABF (T := Ty) rfl rfl rfl rfl (by first | assumption | exact RB.wide (by assumption) | exact In.rb (by assumption)) rfl (by repeat' constructor) ?_
        refine WL.nilT (WD.takeL 4 rfl (by decide +kernel) (WL.mv rfl rfl (WL.nilT (WD.takeL 5 rfl (by decide +kernel) (WL.nc rfl rfl (WL.nilT (WD.takeL 6 rfl (by decide +kernel) (WL.faN (T := Ty) (off' := 0) rfl rfl rfl rfl rfl rfl rfl (WL.nilT (WD.takeL 7 rfl (by decide +kernel) ?_))))))))))
        refine WL.ldBN (T := Ty) rfl rfl rfl rfl (by first | assumption | exact RB.wide (by assumption) | exact In.rb (by assumption)) rfl ?_
        refine WL.nilT (WD.takeL 8 rfl (by decide +kernel) (WL.mv rfl rfl (WL.nilT (WD.takeL 9 rfl (by decide +kernel) (WL.nc rfl rfl (WL.nilT (WD.takeL 10 rfl (by decide +kernel) (WL.faN (T := Ty) (off' := 1) rfl rfl rfl rfl rfl rfl rfl (WL.nilT (WD.takeL 11 rfl (by decide +kernel) ?_))))))))))
        refine WL.ldBN (T := Ty) rfl rfl rfl rfl (by first | assumption | exact RB.wide (by assumption) | exact In.rb (by assumption)) rfl ?_
        refine WL.nilT (WD.takeL 12 rfl (by decide +kernel) (WL.subK rfl rfl rfl (wrap_i64 ⟨by omega, by omega⟩) (WL.nilT (WD.oneL 3 rfl (by decide +kernel) ?_))))
        refine WL.callV rfl rfl (fun x p d => count_c _ isHot 48 (fun p ρ => hot_c ρ p) _ _ _ _ _ _ _ (by first | assumption | exact ROs.wide (by assumption) | exact ROs.mono (by assumption) (eqh_at 0 rfl p d) | exact ros_at 0 rfl p d | exact ros_at 1 rfl p d | exact ros_at 2 rfl p d | exact ros_at 3 rfl p d | exact ros_at 4 rfl p d) (by first | assumption | omega)) ?_
        refine WL.nilE (WD.takeL 13 rfl (by decide +kernel) (WL.gtr rfl rfl rfl (WL.nilT ?_)))
        refine WD.doneF hσ0 (by decide +kernel) (by repeat' constructor) ?_
        refine W.condpT rfl (by omega) (W.skip (W.block (W.region (WL.mv rfl rfl ?_))))
        refine WL.callTk (Take.cons 0 rfl (Take.cons 0 rfl Take.nil)) rfl rfl (fun x p d => hotT_c _ _ _ _ _ _ (by assumption) (by assumption) (by assumption)) (by repeat' constructor) (fun r0 => ?_)
        refine WL.opens (α := Value) (φ := fun v => r0 = .tuple #[] ∧ SL v _) (ps := fun v => PClkO _ _ v) 0 rfl (fun h q => q) (by repeat' constructor) ?_
        rintro u0 ⟨es0, su0⟩
        subst es0
        dsimp only [PClkO, List.cons_append, List.nil_append] at su0 ⊢
        refine WL.nil (W.inBlock ?_)
        refine W.fit (Hs' := [box b _ _, Buf 7 _ _]) (by (repeat' first | exact Sel.nil | apply Sel.k | exact Pick.h | apply Pick.t)) (W.sub ?_ (next ⟨n, x, _⟩ ρ1 (Le.refl _) ⟨hh, hB', by assumption⟩ (by dsimp only; omega)))
        exact ⟨rfl, trivial⟩
    · rw [if_neg hgt] at hh
      cases hh
      refine W.seq (W.seq ?_)
      refine W.drawA 14 rfl (fun σ0 hσ0 dσ0 => ?_)
      have fσ0_0 := rb_at 0 rfl hσ0 dσ0
      have fσ0_1 := ros_at 1 rfl hσ0 dσ0
      refine WD.takeL 0 rfl (by decide +kernel) (WL.mv rfl rfl (WL.nilT (WD.takeL 1 rfl (by decide +kernel) (WL.nc rfl rfl (WL.nilT (WD.takeL 2 rfl (by decide +kernel) ?_))))))
      refine WL.ldABF (T := Ty) rfl rfl rfl rfl (by first | assumption | exact RB.wide (by assumption) | exact In.rb (by assumption)) rfl (by repeat' constructor) ?_
      refine WL.nilT (WD.takeL 4 rfl (by decide +kernel) (WL.mv rfl rfl (WL.nilT (WD.takeL 5 rfl (by decide +kernel) (WL.nc rfl rfl (WL.nilT (WD.takeL 6 rfl (by decide +kernel) (WL.faN (T := Ty) (off' := 0) rfl rfl rfl rfl rfl rfl rfl (WL.nilT (WD.takeL 7 rfl (by decide +kernel) ?_))))))))))
      refine WL.ldBN (T := Ty) rfl rfl rfl rfl (by first | assumption | exact RB.wide (by assumption) | exact In.rb (by assumption)) rfl ?_
      refine WL.nilT (WD.takeL 8 rfl (by decide +kernel) (WL.mv rfl rfl (WL.nilT (WD.takeL 9 rfl (by decide +kernel) (WL.nc rfl rfl (WL.nilT (WD.takeL 10 rfl (by decide +kernel) (WL.faN (T := Ty) (off' := 1) rfl rfl rfl rfl rfl rfl rfl (WL.nilT (WD.takeL 11 rfl (by decide +kernel) ?_))))))))))
      refine WL.ldBN (T := Ty) rfl rfl rfl rfl (by first | assumption | exact RB.wide (by assumption) | exact In.rb (by assumption)) rfl ?_
      refine WL.nilT (WD.takeL 12 rfl (by decide +kernel) (WL.subK rfl rfl rfl (wrap_i64 ⟨by omega, by omega⟩) (WL.nilT (WD.oneL 3 rfl (by decide +kernel) ?_))))
      refine WL.callV rfl rfl (fun x p d => count_c _ isHot 48 (fun p ρ => hot_c ρ p) _ _ _ _ _ _ _ (by first | assumption | exact ROs.wide (by assumption) | exact ROs.mono (by assumption) (eqh_at 0 rfl p d) | exact ros_at 0 rfl p d | exact ros_at 1 rfl p d | exact ros_at 2 rfl p d | exact ros_at 3 rfl p d | exact ros_at 4 rfl p d) (by first | assumption | omega)) ?_
      refine WL.nilE (WD.takeL 13 rfl (by decide +kernel) (WL.gtr rfl rfl rfl (WL.nilT ?_)))
      refine WD.doneF hσ0 (by decide +kernel) (by repeat' constructor) ?_
      refine W.condpF rfl (by omega) (W.exit rfl ?_)
      exact W.stop0 rfl (fun h q => ⟨v, ⟨rfl, sv⟩, q⟩)
end Go.Proofs.Ytdpnpipninggeaa

/- A page is put out. -/
set_option linter.unusedSimpArgs false
set_option linter.unusedVariables false
set_option maxRecDepth 20000
set_option maxHeartbeats 4000000
namespace Go.Proofs.Ytdpnpipninggeaa
open Go
theorem overL_s (n : Nat) (c : Clk) : overL (n + 1) c = if c.most < (cnt isTest c.pages : Int) then (testT n c).bind (overL n) else some c := rfl
attribute [local irreducible] W WL Fn Buf ROs SL eptr box Rd Src bndOK WD RB Reads In Own handG handC hotL hotT testL testT coolL overL cnt goesP
def kyC (k : Ky) : List Value := [.int .i64 k.a, .int .i64 k.b, .int .i64 k.c]
/-- what comes back of a call that turns a clock and tells a key -/
def CkK (b : Nat) (c : Clk) (k : Ky) (r : Value) : HP := fun h => ∃ v, (r = .agg #[.int .i64 k.a, .int .i64 k.b, .int .i64 k.c] ∧ SL v c.pages.length) ∧ sepl (PClkO b c v) h
theorem putP_c (ρ : Hp) (b : Nat) (c : Clk) (v : Value) (n : Nat) (c' : Clk) (k : Ky) (hB : ClkB c) (sv : SL v c.pages.length) (hh : putP n c = some (c', k)) :
    Fn Try.prog 46 #[pt b 0] ρ [box b [.int .i64 c.most, .int .i64 c.target, v, .int .i64 (c.hot : Int), .int .i64 (c.cold : Int), .int .i64 (c.test : Int)] 36, Buf 7 v (c.pages.flatMap pgC)] (CkK b c' k) := by
  have hln := hB.ln
  have l1 := pgs_cells c.pages
  have k1 := hB.h1
  have k2 := hB.h2
  have k3 := hB.h3
  refine in46 rfl rfl ?_
  unfold putP at hh
  cases hp : c.pages[c.cold]? with
  | none => rw [hp] at hh; cases hh
  | some p =>
    rw [hp] at hh
    dsimp only at hh
    have hpl := (List.getElem?_eq_some_iff.1 hp).1
    have g5 : (c.pages.flatMap pgC)[((c.cold : Nat) : Int).toNat * 7 + 5]? = some (.bool p.trial) := flat_get pg_len hp rfl
    have hrow : ((c.pages.flatMap pgC).drop (((c.cold : Nat) : Int).toNat * 7)).take 3 = [.int .i64 p.key.a, .int .i64 p.key.b, .int .i64 p.key.c] := by
      have h := flat_row pg_len hp
      have h2 := congrArg (fun l => l.take 3) h
      simp only [List.take_take] at h2
      exact h2
    refine W.seq (W.region ?_)
    refine WL.alF (T := Ty) rfl rfl (by repeat' constructor) (fun b0 => ?_)
    refine WL.nil (W.seq ?_)
    refine W.cutG (τ := Unit) (fun s => [(0, pt b 0), (2, pt b0 0), (3, eptr v (((c.cold : Nat) : Int).toNat * 7))]) (fun s => [box b0 [.int .i64 0, .int .i64 0, .int .i64 0] 28, box b [.int .i64 c.most, .int .i64 c.target, v, .int .i64 (c.hot : Int), .int .i64 (c.cold : Int), .int .i64 (c.test : Int)] 36, Buf 7 v (c.pages.flatMap pgC)]) (fun s ρ' => True) ?_ (fun cut => ?_)
    · rintro _ ρ2 le2 -
      refine W.seq (W.region (WL.mv rfl rfl (WL.ncE rfl rfl (WL.faEN (T := Ty) (off' := 0) rfl rfl rfl rfl rfl rfl rfl ?_))))
      refine WL.ldAE (T := Ty) (j := 2) rfl rfl rfl rfl rfl (by assumption) rfl ?_
      refine WL.alF (T := Ty) rfl rfl (by repeat' constructor) (fun b1 => ?_)
      refine WL.stAO (T := Ty) (j := 0) rfl rfl rfl rfl (by repeat' first | exact AO.nil | apply AO.cons (by first | rfl | exact SL.one (by assumption))) rfl rfl (by repeat' constructor) (by repeat' constructor) ?_
      refine WL.nil (W.seq (W.seq (W.region (WL.mv rfl rfl (WL.ncE rfl rfl (WL.faEN (T := Ty) (off' := 5) rfl rfl rfl rfl rfl rfl rfl ?_))))))
      refine WL.ldE (T := Ty) (j := 3) rfl rfl rfl rfl rfl (by assumption) ?_
      refine WL.nil ?_
      have hset0 : (c.pages.flatMap pgC).set (((c.cold : Nat) : Int).toNat * 7 + 3) (.int .i64 3) = (c.pages.set c.cold { p with kind := 3 }).flatMap pgC := flat_set (j := 3) pg_len hp (by decide) rfl
      have hon := onP_le hB c.cold k2 (by omega)
      refine W.cutG (τ := Clk × Value) (fun s => [(0, pt b 0), (2, pt b0 0), (4, pt b1 0)]) (fun s => [box b1 [.int .i64 p.key.a, .int .i64 p.key.b, .int .i64 p.key.c] 28, box b0 [.int .i64 0, .int .i64 0, .int .i64 0] 28, box b [.int .i64 s.1.most, .int .i64 s.1.target, s.2, .int .i64 (s.1.hot : Int), .int .i64 (s.1.cold : Int), .int .i64 (s.1.test : Int)] 36, Buf 7 s.2 (s.1.pages.flatMap pgC)]) (fun s ρ' => overL n s.1 = some c' ∧ p.key = k ∧ ClkB s.1 ∧ SL s.2 s.1.pages.length) ?_ (fun cut1 => ?_)
      · clear hh hB sv hln l1 k1 k2 k3 hpl g5 hrow hset0 hon
        rintro ⟨c1, v1⟩ ρ3 le3 ⟨hh, hk, hB, sv⟩
        subst hk
        dsimp only at hh hB sv ⊢
        refine W.seq (W.block ?_)
        refine W.loopR (σ := Nat × Clk × Value) (fun s => [(0, pt b 0), (2, pt b0 0), (4, pt b1 0)])
          (fun s => [box b1 [.int .i64 p.key.a, .int .i64 p.key.b, .int .i64 p.key.c] 28, box b0 [.int .i64 0, .int .i64 0, .int .i64 0] 28, box b [.int .i64 s.2.1.most, .int .i64 s.2.1.target, s.2.2, .int .i64 (s.2.1.hot : Int), .int .i64 (s.2.1.cold : Int), .int .i64 (s.2.1.test : Int)] 36, Buf 7 s.2.2 (s.2.1.pages.flatMap pgC)])
          (fun s ρ' => overL s.1 s.2.1 = some c' ∧ ClkB s.2.1 ∧ SL s.2.2 s.2.1.pages.length) (fun s => s.1)
          (n, c1, v1) ⟨rfl, rfl, rfl, trivial⟩ rfl ⟨hh, hB, sv⟩ ?_
        clear hh hB sv n c1 v1
        rintro ⟨n, c, v⟩ ρ4 le4 ⟨hh, hB, sv⟩ next
        dsimp only at hh hB sv next ⊢
        cases n with
        | zero => unfold overL at hh; cases hh
        | succ n =>
          rw [overL_s] at hh
          have hln := hB.ln
          have l1 := pgs_cells c.pages
          by_cases hgt : c.most < (cnt isTest c.pages : Int)
          · rw [if_pos hgt] at hh
            cases hx : testT n c with
            | none => rw [hx] at hh; cases hh
            | some x =>
              rw [hx] at hh
              obtain ⟨hB', hm⟩ := testT_B hB hx
              refine W.seq (W.seq ?_)
              refine W.drawA 9 rfl (fun σ0 hσ0 dσ0 => ?_)
              have fσ0_0 := rb_at 0 rfl hσ0 dσ0
              have fσ0_1 := rb_at 1 rfl hσ0 dσ0
              have fσ0_2 := rb_at 2 rfl hσ0 dσ0
              have fσ0_3 := ros_at 3 rfl hσ0 dσ0
              refine WD.takeL 0 rfl (by decide +kernel) (WL.mv rfl rfl (WL.nilT (WD.takeL 1 rfl (by decide +kernel) (WL.nc rfl rfl (WL.nilT (WD.takeL 2 rfl (by decide +kernel) ?_))))))
              refine WL.ldABF (T := Ty) rfl rfl rfl rfl (by first | assumption | exact RB.wide (by assumption) | exact In.rb (by assumption)) rfl (by repeat' constructor) ?_
              refine WL.nilT (WD.takeL 4 rfl (by decide +kernel) (WL.mv rfl rfl (WL.nilT (WD.takeL 5 rfl (by decide +kernel) (WL.nc rfl rfl (WL.nilT (WD.takeL 6 rfl (by decide +kernel) (WL.faN (T := Ty) (off' := 0) rfl rfl rfl rfl rfl rfl rfl (WL.nilT (WD.takeL 7 rfl (by decide +kernel) ?_))))))))))
              refine WL.ldBN (T := Ty) rfl rfl rfl rfl (by first | assumption | exact RB.wide (by assumption) | exact In.rb (by assumption)) rfl ?_
              refine WL.nilT (WD.oneL 3 rfl (by decide +kernel) ?_)
              refine WL.callV rfl rfl (fun x p d => count_c _ isTest 49 (fun p ρ => test_c ρ p) _ _ _ _ _ _ _ (by first | assumption | exact ROs.wide (by assumption) | exact ROs.mono (by assumption) (eqh_at 0 rfl p d) | exact ros_at 0 rfl p d | exact ros_at 1 rfl p d | exact ros_at 2 rfl p d | exact ros_at 3 rfl p d | exact ros_at 4 rfl p d) (by first | assumption | omega)) ?_
              refine WL.nilE (WD.takeL 8 rfl (by decide +kernel) (WL.gtr rfl rfl rfl (WL.nilT ?_)))
              refine WD.doneF hσ0 (by decide +kernel) (by repeat' constructor) ?_
              refine W.condpT rfl (by omega) (W.skip (W.block (W.region (WL.mv rfl rfl ?_))))
              refine WL.callTk (Take.cons 2 rfl (Take.cons 2 rfl Take.nil)) rfl rfl (fun x p d => testT_c _ _ _ _ _ _ (by assumption) (by assumption) (by assumption)) (by repeat' constructor) (fun r2 => ?_)
              refine WL.opens (α := Value) (φ := fun v => r2 = .tuple #[] ∧ SL v _) (ps := fun v => PClkO _ _ v) 0 rfl (fun h q => q) (by repeat' constructor) ?_
              rintro u2 ⟨es2, su2⟩
              subst es2
              dsimp only [PClkO, List.cons_append, List.nil_append] at su2 ⊢
              refine WL.nil (W.inBlock ?_)
              refine W.fit (Hs' := [box b1 _ _, box b0 _ _, box b _ _, Buf 7 _ _]) (by (repeat' first | exact Sel.nil | apply Sel.k | exact Pick.h | apply Pick.t)) (W.sub ?_ (next ⟨n, x, _⟩ ρ4 (Le.refl _) ⟨hh, hB', by assumption⟩ (by dsimp only; omega)))
              exact ⟨rfl, rfl, rfl, trivial⟩
          · rw [if_neg hgt] at hh
            cases hh
            refine W.seq (W.seq ?_)
            refine W.drawA 9 rfl (fun σ0 hσ0 dσ0 => ?_)
            have fσ0_0 := rb_at 0 rfl hσ0 dσ0
            have fσ0_1 := rb_at 1 rfl hσ0 dσ0
            have fσ0_2 := rb_at 2 rfl hσ0 dσ0
            have fσ0_3 := ros_at 3 rfl hσ0 dσ0
            refine WD.takeL 0 rfl (by decide +kernel) (WL.mv rfl rfl (WL.nilT (WD.takeL 1 rfl (by decide +kernel) (WL.nc rfl rfl (WL.nilT (WD.takeL 2 rfl (by decide +kernel) ?_))))))
            refine WL.ldABF (T := Ty) rfl rfl rfl rfl (by first | assumption | exact RB.wide (by assumption) | exact In.rb (by assumption)) rfl (by repeat' constructor) ?_
            refine WL.nilT (WD.takeL 4 rfl (by decide +kernel) (WL.mv rfl rfl (WL.nilT (WD.takeL 5 rfl (by decide +kernel) (WL.nc rfl rfl (WL.nilT (WD.takeL 6 rfl (by decide +kernel) (WL.faN (T := Ty) (off' := 0) rfl rfl rfl rfl rfl rfl rfl (WL.nilT (WD.takeL 7 rfl (by decide +kernel) ?_))))))))))
            refine WL.ldBN (T := Ty) rfl rfl rfl rfl (by first | assumption | exact RB.wide (by assumption) | exact In.rb (by assumption)) rfl ?_
            refine WL.nilT (WD.oneL 3 rfl (by decide +kernel) ?_)
            refine WL.callV rfl rfl (fun x p d => count_c _ isTest 49 (fun p ρ => test_c ρ p) _ _ _ _ _ _ _ (by first | assumption | exact ROs.wide (by assumption) | exact ROs.mono (by assumption) (eqh_at 0 rfl p d) | exact ros_at 0 rfl p d | exact ros_at 1 rfl p d | exact ros_at 2 rfl p d | exact ros_at 3 rfl p d | exact ros_at 4 rfl p d) (by first | assumption | omega)) ?_
            refine WL.nilE (WD.takeL 8 rfl (by decide +kernel) (WL.gtr rfl rfl rfl (WL.nilT ?_)))
            refine WD.doneF hσ0 (by decide +kernel) (by repeat' constructor) ?_
            refine W.condpF rfl (by omega) (W.exit rfl (W.seq (W.region ?_)))
            refine WL.ldAF (T := Ty) (j := 0) rfl rfl rfl rfl rfl rfl (by repeat' constructor) ?_
            refine WL.stAO (T := Ty) (j := 1) rfl rfl rfl rfl (by repeat' first | exact AO.nil | apply AO.cons (by first | rfl | exact SL.one (by assumption))) rfl rfl (by repeat' constructor) (by repeat' constructor) ?_
            refine WL.nil ?_
            exact W.fit (Hs' := [box b0 _ _, box b _ _, Buf 7 v _]) (by (repeat' first | exact Sel.nil | apply Sel.k | exact Pick.h | apply Pick.t)) (W.retC (T := Ty) (j := 0) rfl rfl rfl rfl rfl rfl (fun h q => ⟨v, ⟨rfl, sv⟩, q⟩))
      · cases hr : p.trial with
        | true =>
          rw [if_pos hr] at hh
          obtain ⟨x, hx, he⟩ := Option.map_eq_some_iff.1 hh
          cases he
          refine W.condT rfl (W.seq (W.region (WL.mv rfl rfl (WL.ncE rfl rfl (WL.faEN (T := Ty) (off' := 3) rfl rfl rfl rfl rfl rfl rfl ?_)))))
          refine WL.stEF (T := Ty) (j := 3) rfl rfl rfl rfl rfl rfl (by first | assumption | omega | (simp only [List.length_set]; omega) | (simp; omega)) rfl (by repeat' constructor) ?_
          refine WL.nil (W.region (WL.mv rfl rfl (WL.mv rfl rfl (WL.nc rfl rfl (WL.faN (T := Ty) (off' := 4) rfl rfl rfl rfl rfl rfl rfl ?_)))))
          refine WL.callM 2 rfl rfl rfl (fun x p d => on2_c _ _ _ _ _ _ _ _ _ (by assumption) (by first | assumption | omega) (by first | assumption | omega) (by first | assumption | omega)) (by repeat' constructor) ?_
          refine WL.nil ?_
          rw [hset0]
          refine W.fit (Hs' := [box b1 _ _, box b0 _ _, box b _ _, Buf 7 v _]) (by (repeat' first | exact Sel.nil | apply Sel.k | exact Pick.h | apply Pick.t)) (W.sub ?_ (cut1 ⟨{ setP c c.cold { p with kind := 3 } with cold := onP c c.cold }, v⟩ ρ2 (Le.refl _) ⟨hx, rfl, (hB.set _ _).coldS hon, by unfold setP; dsimp only; rw [List.length_set]; exact sv⟩))
          exact ⟨rfl, rfl, rfl, trivial⟩
        | false =>
          rw [if_neg (fun h => by rw [hr] at h; cases h)] at hh
          obtain ⟨x, hx, he⟩ := Option.map_eq_some_iff.1 hh
          cases he
          refine W.condF rfl (W.region (WL.mv rfl rfl (WL.mv rfl rfl (WL.nc rfl rfl (WL.faN (T := Ty) (off' := 4) rfl rfl rfl rfl rfl rfl rfl (WL.ldN (T := Ty) (j := 2) rfl rfl rfl rfl rfl rfl ?_))))))
          refine WL.callTk (Take.cons 2 rfl (Take.cons 2 rfl Take.nil)) rfl rfl (fun x p d => goes_c _ _ _ _ _ _ _ _ _ _ (by first | assumption | omega) (by first | assumption | omega) (by assumption) (by first | assumption | omega) (by first | assumption | omega) (by first | assumption | omega)) (by repeat' constructor) (fun r2 => ?_)
          refine WL.opens (α := Value) (φ := fun v => r2 = .tuple #[] ∧ SL v _) (ps := fun v => PClkO _ _ v) 0 rfl (fun h q => q) (by repeat' constructor) ?_
          rintro u2 ⟨es2, su2⟩
          subst es2
          dsimp only [PClkO, List.cons_append, List.nil_append] at su2 ⊢
          refine WL.nil ?_
          refine W.fit (Hs' := [box b1 _ _, box b0 _ _, box b _ _, Buf 7 u2 _]) (by (repeat' first | exact Sel.nil | apply Sel.k | exact Pick.h | apply Pick.t)) (W.sub ?_ (cut1 ⟨goesP c c.cold, u2⟩ ρ2 (Le.refl _) ⟨hx, rfl, hB.goes _, su2⟩))
          exact ⟨rfl, rfl, rfl, trivial⟩
    · refine W.drawA 9 rfl (fun σ0 hσ0 dσ0 => ?_)
      have fσ0_0 := rb_at 0 rfl hσ0 dσ0
      have fσ0_1 := rb_at 1 rfl hσ0 dσ0
      have fσ0_2 := ros_at 2 rfl hσ0 dσ0
      refine WD.takeL 0 rfl (by decide +kernel) (WL.mv rfl rfl (WL.nilT (WD.takeL 1 rfl (by decide +kernel) (WL.nc rfl rfl (WL.nilT (WD.takeL 2 rfl (by decide +kernel) (WL.faN (T := Ty) (off' := 2) rfl rfl rfl rfl rfl rfl rfl (WL.nilT (WD.takeL 3 rfl (by decide +kernel) ?_)))))))))
      refine WL.ldBN (T := Ty) rfl rfl rfl rfl (by first | assumption | exact RB.wide (by assumption) | exact In.rb (by assumption)) rfl ?_
      refine WL.nilT (WD.takeL 4 rfl (by decide +kernel) (WL.mv rfl rfl (WL.nilT (WD.takeL 5 rfl (by decide +kernel) (WL.nc rfl rfl (WL.nilT (WD.takeL 6 rfl (by decide +kernel) (WL.faN (T := Ty) (off' := 4) rfl rfl rfl rfl rfl rfl rfl (WL.nilT (WD.takeL 7 rfl (by decide +kernel) ?_))))))))))
      refine WL.ldBN (T := Ty) rfl rfl rfl rfl (by first | assumption | exact RB.wide (by assumption) | exact In.rb (by assumption)) rfl ?_
      refine WL.nilT (WD.takeL 8 rfl (by decide +kernel) ?_)
      refine WL.ix (T := Ty) rfl rfl rfl (by assumption) rfl rfl (by omega) (by first | omega | decide +kernel) ?_
      refine WL.nilT ?_
      refine WD.lastG hσ0 (by decide +kernel) (by repeat' constructor) rfl (by repeat' constructor) ?_
      refine WL.as rfl rfl (WL.nil ?_)
      refine W.fit (Hs' := [box b0 _ _, box b _ _, Buf 7 v _]) (by (repeat' first | exact Sel.nil | apply Sel.k | exact Pick.h | apply Pick.t)) (W.sub ?_ (cut () ρ (Le.refl _) trivial))
      exact ⟨rfl, rfl, rfl, trivial⟩
end Go.Proofs.Ytdpnpipninggeaa

/- The hand Cold turns. -/
set_option linter.unusedSimpArgs false
set_option linter.unusedVariables false
set_option maxRecDepth 20000
set_option maxHeartbeats 4000000
namespace Go.Proofs.Ytdpnpipninggeaa
open Go
theorem freeL_s (n : Nat) (c : Clk) : freeL (n + 1) c = if cnt isCold c.pages = 0 then (hotT n c).bind (freeL n) else some c := rfl
theorem coldL_s (n : Nat) (c : Clk) : coldL (n + 1) c = (freeL n c).bind fun c => match c.pages[c.cold]? with
  | none => none
  | some p =>
   if isCold p = false then coldL n { c with cold := onP c c.cold }
   else if p.ref = true ∧ p.trial = true then (coolL n { setP c c.cold { p with kind := 1, ref := false, trial := false } with cold := onP c c.cold }).bind (coldL n)
   else if p.ref = true then coldL n { setP c c.cold { p with ref := false, trial := true } with cold := onP c c.cold }
   else putP n c := rfl
attribute [local irreducible] W WL Fn Buf ROs SL eptr box Rd Src bndOK WD RB Reads In Own handG handC hotL hotT testL testT coolL overL freeL coldL putP cnt goesP
theorem coldL_c (ρ : Hp) (b : Nat) (c : Clk) (v : Value) (n : Nat) (c' : Clk) (k : Ky) (hB : ClkB c) (sv : SL v c.pages.length) (hh : coldL n c = some (c', k)) :
    Fn Try.prog 34 #[pt b 0] ρ [box b [.int .i64 c.most, .int .i64 c.target, v, .int .i64 (c.hot : Int), .int .i64 (c.cold : Int), .int .i64 (c.test : Int)] 36, Buf 7 v (c.pages.flatMap pgC)] (CkK b c' k) := by
  refine in34 rfl rfl ?_
  refine W.seq (W.region ?_)
  refine WL.alF (T := Ty) rfl rfl (by repeat' constructor) (fun b0 => ?_)
  refine WL.nil (W.block ?_)
  refine W.loopR (σ := Nat × Clk × Value) (fun s => [(0, pt b 0), (2, pt b0 0)])
    (fun s => [box b0 [.int .i64 0, .int .i64 0, .int .i64 0] 28, box b [.int .i64 s.2.1.most, .int .i64 s.2.1.target, s.2.2, .int .i64 (s.2.1.hot : Int), .int .i64 (s.2.1.cold : Int), .int .i64 (s.2.1.test : Int)] 36, Buf 7 s.2.2 (s.2.1.pages.flatMap pgC)])
    (fun s ρ' => coldL s.1 s.2.1 = some (c', k) ∧ ClkB s.2.1 ∧ SL s.2.2 s.2.1.pages.length) (fun s => s.1)
    (n, c, v) ⟨rfl, rfl, trivial⟩ rfl ⟨hh, hB, sv⟩ ?_
  clear hh hB sv n c v
  rintro ⟨n, c, v⟩ ρ1 le1 ⟨hh, hB, sv⟩ next
  dsimp only at hh hB sv next ⊢
  cases n with
  | zero => unfold coldL at hh; cases hh
  | succ n =>
    rw [coldL_s] at hh
    cases hx : freeL n c with
    | none => rw [hx] at hh; cases hh
    | some x =>
      rw [hx] at hh
      simp only [Option.bind_some] at hh
      refine W.block (W.seq (W.block ?_))
      refine W.loopR (σ := Nat × Clk × Value) (fun s => [(0, pt b 0), (2, pt b0 0)])
        (fun s => [box b0 [.int .i64 0, .int .i64 0, .int .i64 0] 28, box b [.int .i64 s.2.1.most, .int .i64 s.2.1.target, s.2.2, .int .i64 (s.2.1.hot : Int), .int .i64 (s.2.1.cold : Int), .int .i64 (s.2.1.test : Int)] 36, Buf 7 s.2.2 (s.2.1.pages.flatMap pgC)])
        (fun s ρ' => freeL s.1 s.2.1 = some x ∧ ClkB s.2.1 ∧ SL s.2.2 s.2.1.pages.length) (fun s => s.1)
        (n, c, v) ⟨rfl, rfl, trivial⟩ rfl ⟨hx, hB, sv⟩ ?_
      clear hx hB sv c v
      rintro ⟨m, c, v⟩ ρ2 le2 ⟨hx, hB, sv⟩ next2
      dsimp only at hx hB sv next2 ⊢
      cases m with
      | zero => unfold freeL at hx; cases hx
      | succ m =>
        rw [freeL_s] at hx
        have hln := hB.ln
        have l1 := pgs_cells c.pages
        have hc1 := cnt_le isCold c.pages
        by_cases hz : cnt isCold c.pages = 0
        · rw [if_pos hz] at hx
          cases hy : hotT m c with
          | none => rw [hy] at hx; cases hx
          | some y =>
            rw [hy] at hx
            obtain ⟨hB', hm⟩ := hotT_B hB hy
            refine W.seq (W.seq (W.region (WL.mv rfl rfl (WL.nc rfl rfl ?_))))
            refine WL.ldAF (T := Ty) (j := 1) rfl rfl rfl rfl rfl rfl (by repeat' constructor) ?_
            refine WL.callV rfl rfl (fun x p d => count_c _ isCold 43 (fun p ρ => coldFree_c ρ p) _ _ _ _ _ _ _ (by first | assumption | exact ROs.wide (by assumption) | exact ROs.mono (by assumption) (eqh_at 0 rfl p d) | exact ros_at 0 rfl p d | exact ros_at 1 rfl p d | exact ros_at 2 rfl p d | exact ros_at 3 rfl p d | exact ros_at 4 rfl p d) (by first | assumption | omega)) ?_
            refine WL.eql rfl rfl rfl (WL.nil (W.condpT rfl (by omega) (W.skip (W.block (W.region (WL.mv rfl rfl ?_))))))
            refine WL.callTk (Take.cons 1 rfl (Take.cons 1 rfl Take.nil)) rfl rfl (fun x p d => hotT_c _ _ _ _ _ _ (by assumption) (by assumption) (by assumption)) (by repeat' constructor) (fun r1 => ?_)
            refine WL.opens (α := Value) (φ := fun v => r1 = .tuple #[] ∧ SL v _) (ps := fun v => PClkO _ _ v) 0 rfl (fun h q => q) (by repeat' constructor) ?_
            rintro u1 ⟨es1, su1⟩
            subst es1
            dsimp only [PClkO, List.cons_append, List.nil_append] at su1 ⊢
            refine WL.nil (W.inBlock ?_)
            refine W.fit (Hs' := [box b0 _ _, box b _ _, Buf 7 _ _]) (by (repeat' first | exact Sel.nil | apply Sel.k | exact Pick.h | apply Pick.t)) (W.sub ?_ (next2 ⟨m, y, _⟩ ρ2 (Le.refl _) ⟨hx, hB', by assumption⟩ (by dsimp only; omega)))
            exact ⟨rfl, rfl, trivial⟩
        · rw [if_neg hz] at hx
          have ex := Option.some.inj hx
          subst ex
          cases hp : c.pages[c.cold]? with
          | none => rw [hp] at hh; cases hh
          | some p =>
            rw [hp] at hh
            dsimp only at hh
            have hpl := (List.getElem?_eq_some_iff.1 hp).1
            have g4 : (c.pages.flatMap pgC)[((c.cold : Nat) : Int).toNat * 7 + 4]? = some (.bool p.ref) := flat_get pg_len hp rfl
            have g5 : (c.pages.flatMap pgC)[((c.cold : Nat) : Int).toNat * 7 + 5]? = some (.bool p.trial) := flat_get pg_len hp rfl
            have hrow : ((c.pages.flatMap pgC).drop (((c.cold : Nat) : Int).toNat * 7)).take 7 = pgC p := flat_row pg_len hp
            unfold pgC at hrow
            have k1 := hB.h1
            have k2 := hB.h2
            have k3 := hB.h3
            have hon := onP_le hB c.cold k2 (by omega)
            refine W.seq (W.seq (W.region (WL.mv rfl rfl (WL.nc rfl rfl ?_))))
            refine WL.ldAF (T := Ty) (j := 1) rfl rfl rfl rfl rfl rfl (by repeat' constructor) ?_
            refine WL.callV rfl rfl (fun x p d => count_c _ isCold 43 (fun p ρ => coldFree_c ρ p) _ _ _ _ _ _ _ (by first | assumption | exact ROs.wide (by assumption) | exact ROs.mono (by assumption) (eqh_at 0 rfl p d) | exact ros_at 0 rfl p d | exact ros_at 1 rfl p d | exact ros_at 2 rfl p d | exact ros_at 3 rfl p d | exact ros_at 4 rfl p d) (by first | assumption | omega)) ?_
            refine WL.eql rfl rfl rfl (WL.nil (W.condpF rfl (by omega) (W.exit rfl (W.seq ?_))))
            refine W.cutG (τ := Unit) (fun s => [(0, pt b 0), (2, pt b0 0), (3, eptr v (((c.cold : Nat) : Int).toNat * 7))]) (fun s => [box b0 [.int .i64 0, .int .i64 0, .int .i64 0] 28, box b [.int .i64 c.most, .int .i64 c.target, v, .int .i64 (c.hot : Int), .int .i64 (c.cold : Int), .int .i64 (c.test : Int)] 36, Buf 7 v (c.pages.flatMap pgC)]) (fun s ρ' => True) ?_ (fun cut => ?_)
            · rintro _ ρ3 le3 -
              have le13 : Le ρ1 ρ3 := fun b o h => le3 b o (le2 b o h)
              cases hcf : isCold p with
              | false =>
                rw [if_pos hcf] at hh
                have hcf' : (decide (p.kind = 2) && decide (p.pins = 0)) = false := hcf
                refine W.seq (W.seq (W.region (WL.mv rfl rfl (WL.ncE rfl rfl ?_))))
                refine WL.ldAE (T := Ty) (j := 2) rfl rfl rfl rfl rfl (by assumption) rfl ?_
                refine WL.callV rfl rfl (fun x p d => coldFreeX_c _ _ _ _ _ _ _ _) ?_
                refine WL.not rfl rfl (WL.nil ?_)
                rw [hcf']
                refine W.condT rfl (W.seq (W.region (WL.mv rfl rfl (WL.mv rfl rfl (WL.nc rfl rfl (WL.faN (T := Ty) (off' := 4) rfl rfl rfl rfl rfl rfl rfl ?_))))))
                refine WL.callM 1 rfl rfl rfl (fun x p d => on2_c _ _ _ _ _ _ _ _ _ (by assumption) (by first | assumption | omega) (by first | assumption | omega) (by first | assumption | omega)) (by repeat' constructor) ?_
                refine WL.nil (W.exit rfl ?_)
                refine W.fit (Hs' := [box b0 _ _, box b _ _, Buf 7 _ _]) (by (repeat' first | exact Sel.nil | apply Sel.k | exact Pick.h | apply Pick.t)) (W.sub ?_ (next ⟨n, { c with cold := onP c c.cold }, v⟩ ρ3 le13 ⟨hh, hB.coldS hon, sv⟩ (by dsimp only; omega)))
                exact ⟨rfl, rfl, trivial⟩
              | true =>
                rw [if_neg (by rw [hcf]; decide)] at hh
                have hcf' : (decide (p.kind = 2) && decide (p.pins = 0)) = true := hcf
                have nS : ∀ q : Pg, SL v (c.pages.set c.cold q).length := fun q => by rw [List.length_set]; exact sv
                cases hr : p.ref with
                | false =>
                  rw [hr] at g4
                  rw [if_neg (fun h => by rw [hr] at h; cases h.1), if_neg (fun h => by rw [hr] at h; cases h)] at hh
                  refine W.seq (W.seq (W.region (WL.mv rfl rfl (WL.ncE rfl rfl ?_))))
                  refine WL.ldAE (T := Ty) (j := 2) rfl rfl rfl rfl rfl (by assumption) rfl ?_
                  refine WL.callV rfl rfl (fun x p d => coldFreeX_c _ _ _ _ _ _ _ _) ?_
                  refine WL.not rfl rfl (WL.nil ?_)
                  rw [hcf']
                  refine W.condF rfl (W.skip (W.block (W.seq (W.region (WL.mv rfl rfl (WL.ncE rfl rfl (WL.faEN (T := Ty) (off' := 4) rfl rfl rfl rfl rfl rfl rfl ?_)))))))
                  refine WL.ldE (T := Ty) (j := 2) rfl rfl rfl rfl rfl (by assumption) ?_
                  refine WL.mv rfl rfl (WL.gdN rfl rfl rfl rfl rfl rfl (WL.gdN rfl rfl rfl rfl rfl rfl (WL.gdN rfl rfl rfl rfl rfl rfl (WL.gdN rfl rfl rfl rfl rfl rfl (WL.pickF rfl rfl rfl (WL.as rfl rfl (WL.nil (W.condF rfl (W.seq (W.region (WL.mv rfl rfl (WL.ncE rfl rfl (WL.faEN (T := Ty) (off' := 4) rfl rfl rfl rfl rfl rfl rfl ?_)))))))))))))
                  refine WL.ldE (T := Ty) (j := 2) rfl rfl rfl rfl rfl (by assumption) ?_
                  refine WL.as rfl rfl (WL.nil (W.condF rfl (W.seq (W.region (WL.mv rfl rfl ?_)))))
                  refine WL.callTk (Take.cons 1 rfl (Take.cons 1 rfl Take.nil)) rfl rfl (fun x p d => putP_c _ _ _ _ _ _ _ (by assumption) (by assumption) (by assumption)) (by repeat' constructor) (fun r1 => ?_)
                  refine WL.opens (α := Value) (φ := fun v => r1 = .agg #[.int .i64 _, .int .i64 _, .int .i64 _] ∧ SL v _) (ps := fun v => PClkO _ _ v) 0 rfl (fun h q => q) (by repeat' constructor) ?_
                  rintro u1 ⟨es1, su1⟩
                  subst es1
                  dsimp only [PClkO, List.cons_append, List.nil_append] at su1 ⊢
                  refine WL.stAO (T := Ty) (j := 2) rfl rfl rfl rfl (by repeat' first | exact AO.nil | apply AO.cons (by first | rfl | exact SL.one (by assumption))) rfl rfl (by repeat' constructor) (by repeat' constructor) ?_
                  refine WL.nil ?_
                  exact W.fit (Hs' := [box b0 _ _, box b _ _, Buf 7 u1 _]) (by (repeat' first | exact Sel.nil | apply Sel.k | exact Pick.h | apply Pick.t)) (W.retC (T := Ty) (j := 0) rfl rfl rfl rfl rfl rfl (fun h q => ⟨u1, ⟨rfl, su1⟩, q⟩))
                | true =>
                  rw [hr] at g4
                  cases ht : p.trial with
                  | false =>
                    rw [ht] at g5
                    rw [if_neg (fun h => by rw [ht] at h; cases h.2), if_pos hr] at hh
                    refine W.seq (W.seq (W.region (WL.mv rfl rfl (WL.ncE rfl rfl ?_))))
                    refine WL.ldAE (T := Ty) (j := 2) rfl rfl rfl rfl rfl (by assumption) rfl ?_
                    refine WL.callV rfl rfl (fun x p d => coldFreeX_c _ _ _ _ _ _ _ _) ?_
                    refine WL.not rfl rfl (WL.nil ?_)
                    rw [hcf']
                    refine W.condF rfl (W.skip (W.block (W.seq (W.region (WL.mv rfl rfl (WL.ncE rfl rfl (WL.faEN (T := Ty) (off' := 4) rfl rfl rfl rfl rfl rfl rfl ?_)))))))
                    refine WL.ldE (T := Ty) (j := 2) rfl rfl rfl rfl rfl (by assumption) ?_
                    refine WL.mv rfl rfl (WL.gY rfl rfl (WL.mv rfl rfl (WL.gY rfl rfl (WL.ncE rfl rfl (WL.gY rfl rfl (WL.faEN (T := Ty) (off' := 5) rfl rfl rfl rfl rfl rfl rfl (WL.gY rfl rfl ?_)))))))
                    refine WL.ldE (T := Ty) (j := 2) rfl rfl rfl rfl rfl (by assumption) ?_
                    refine WL.pickT rfl rfl rfl (WL.as rfl rfl (WL.nil (W.condF rfl (W.seq (W.region (WL.mv rfl rfl (WL.ncE rfl rfl (WL.faEN (T := Ty) (off' := 4) rfl rfl rfl rfl rfl rfl rfl ?_))))))))
                    refine WL.ldE (T := Ty) (j := 2) rfl rfl rfl rfl rfl (by assumption) ?_
                    refine WL.as rfl rfl (WL.nil (W.condT rfl (W.seq (W.region (WL.mv rfl rfl (WL.mv rfl rfl (WL.ncE rfl rfl (WL.faEN (T := Ty) (off' := 4) rfl rfl rfl rfl rfl rfl rfl ?_))))))))
                    refine WL.stEF (T := Ty) (j := 2) rfl rfl rfl rfl rfl rfl (by first | assumption | omega | (simp only [List.length_set]; omega) | (simp; omega)) rfl (by repeat' constructor) ?_
                    refine WL.ncE rfl rfl (WL.faEN (T := Ty) (off' := 5) rfl rfl rfl rfl rfl rfl rfl ?_)
                    refine WL.stEF (T := Ty) (j := 2) rfl rfl rfl rfl rfl rfl (by first | assumption | omega | (simp only [List.length_set]; omega) | (simp; omega)) rfl (by repeat' constructor) ?_
                    refine WL.nil (W.region (WL.mv rfl rfl (WL.mv rfl rfl (WL.nc rfl rfl (WL.faN (T := Ty) (off' := 4) rfl rfl rfl rfl rfl rfl rfl ?_)))))
                    refine WL.callM 1 rfl rfl rfl (fun x p d => on2_c _ _ _ _ _ _ _ _ _ (by assumption) (by first | assumption | omega) (by first | assumption | omega) (by first | assumption | omega)) (by repeat' constructor) ?_
                    refine WL.nil (W.inBlock (W.inBlock ?_))
                    have hset0 : (c.pages.flatMap pgC).set (((c.cold : Nat) : Int).toNat * 7 + 4) (.bool false) = (c.pages.set c.cold { p with ref := false }).flatMap pgC := flat_set (j := 4) pg_len hp (by decide) rfl
                    have hset1 : ((c.pages.set c.cold { p with ref := false }).flatMap pgC).set (((c.cold : Nat) : Int).toNat * 7 + 5) (.bool true) = (c.pages.set c.cold { p with ref := false, trial := true }).flatMap pgC := by
                      have := flat_set (j := 5) (b := { p with ref := false, trial := true }) (v := .bool true) pg_len (show (c.pages.set c.cold { p with ref := false })[c.cold]? = some { p with ref := false } from List.getElem?_set_self hpl) (by decide) rfl
                      rw [List.set_set] at this
                      exact this
                    rw [hset0, hset1]
                    refine W.fit (Hs' := [box b0 _ _, box b _ _, Buf 7 _ _]) (by (repeat' first | exact Sel.nil | apply Sel.k | exact Pick.h | apply Pick.t)) (W.sub ?_ (next ⟨n, { setP c c.cold { p with ref := false, trial := true } with cold := onP c c.cold }, v⟩ ρ3 le13 ⟨hh, (hB.set _ _).coldS hon, nS _⟩ (by dsimp only; omega)))
                    exact ⟨rfl, rfl, trivial⟩
                  | true =>
                    rw [ht] at g5
                    rw [if_pos ⟨hr, ht⟩] at hh
                    refine W.seq (W.seq (W.region (WL.mv rfl rfl (WL.ncE rfl rfl ?_))))
                    refine WL.ldAE (T := Ty) (j := 2) rfl rfl rfl rfl rfl (by assumption) rfl ?_
                    refine WL.callV rfl rfl (fun x p d => coldFreeX_c _ _ _ _ _ _ _ _) ?_
                    refine WL.not rfl rfl (WL.nil ?_)
                    rw [hcf']
                    refine W.condF rfl (W.skip (W.block (W.seq (W.region (WL.mv rfl rfl (WL.ncE rfl rfl (WL.faEN (T := Ty) (off' := 4) rfl rfl rfl rfl rfl rfl rfl ?_)))))))
                    refine WL.ldE (T := Ty) (j := 2) rfl rfl rfl rfl rfl (by assumption) ?_
                    refine WL.mv rfl rfl (WL.gY rfl rfl (WL.mv rfl rfl (WL.gY rfl rfl (WL.ncE rfl rfl (WL.gY rfl rfl (WL.faEN (T := Ty) (off' := 5) rfl rfl rfl rfl rfl rfl rfl (WL.gY rfl rfl ?_)))))))
                    refine WL.ldE (T := Ty) (j := 2) rfl rfl rfl rfl rfl (by assumption) ?_
                    refine WL.pickT rfl rfl rfl (WL.as rfl rfl (WL.nil (W.condT rfl (W.seq (W.region (WL.mv rfl rfl (WL.mv rfl rfl (WL.mv rfl rfl (WL.ncE rfl rfl (WL.faEN (T := Ty) (off' := 3) rfl rfl rfl rfl rfl rfl rfl ?_))))))))))
                    refine WL.stEF (T := Ty) (j := 2) rfl rfl rfl rfl rfl rfl (by first | assumption | omega | (simp only [List.length_set]; omega) | (simp; omega)) rfl (by repeat' constructor) ?_
                    refine WL.ncE rfl rfl (WL.faEN (T := Ty) (off' := 4) rfl rfl rfl rfl rfl rfl rfl ?_)
                    refine WL.stEF (T := Ty) (j := 2) rfl rfl rfl rfl rfl rfl (by first | assumption | omega | (simp only [List.length_set]; omega) | (simp; omega)) rfl (by repeat' constructor) ?_
                    refine WL.ncE rfl rfl (WL.faEN (T := Ty) (off' := 5) rfl rfl rfl rfl rfl rfl rfl ?_)
                    refine WL.stEF (T := Ty) (j := 2) rfl rfl rfl rfl rfl rfl (by first | assumption | omega | (simp only [List.length_set]; omega) | (simp; omega)) rfl (by repeat' constructor) ?_
                    refine WL.nil (W.seq (W.region (WL.mv rfl rfl (WL.mv rfl rfl (WL.nc rfl rfl (WL.faN (T := Ty) (off' := 4) rfl rfl rfl rfl rfl rfl rfl ?_))))))
                    refine WL.callM 1 rfl rfl rfl (fun x p d => on2_c _ _ _ _ _ _ _ _ _ (by assumption) (by first | assumption | omega) (by first | assumption | omega) (by first | assumption | omega)) (by repeat' constructor) ?_
                    refine WL.nil (W.region (WL.mv rfl rfl ?_))
                    have hset0 : (c.pages.flatMap pgC).set (((c.cold : Nat) : Int).toNat * 7 + 3) (.int .i64 1) = (c.pages.set c.cold { p with kind := 1 }).flatMap pgC := flat_set (j := 3) pg_len hp (by decide) rfl
                    have hset1 : ((c.pages.set c.cold { p with kind := 1 }).flatMap pgC).set (((c.cold : Nat) : Int).toNat * 7 + 4) (.bool false) = (c.pages.set c.cold { p with kind := 1, ref := false }).flatMap pgC := by
                      have := flat_set (j := 4) (b := { p with kind := 1, ref := false }) (v := .bool false) pg_len (show (c.pages.set c.cold { p with kind := 1 })[c.cold]? = some { p with kind := 1 } from List.getElem?_set_self hpl) (by decide) rfl
                      rw [List.set_set] at this
                      exact this
                    have hset2 : ((c.pages.set c.cold { p with kind := 1, ref := false }).flatMap pgC).set (((c.cold : Nat) : Int).toNat * 7 + 5) (.bool false) = (c.pages.set c.cold { p with kind := 1, ref := false, trial := false }).flatMap pgC := by
                      have := flat_set (j := 5) (b := { p with kind := 1, ref := false, trial := false }) (v := .bool false) pg_len (show (c.pages.set c.cold { p with kind := 1, ref := false })[c.cold]? = some { p with kind := 1, ref := false } from List.getElem?_set_self hpl) (by decide) rfl
                      rw [List.set_set] at this
                      exact this
                    rw [hset0, hset1, hset2]
                    cases hy : coolL n { setP c c.cold { p with kind := 1, ref := false, trial := false } with cold := onP c c.cold } with
                    | none => rw [hy] at hh; cases hh
                    | some y =>
                      rw [hy] at hh
                      have hBn : ClkB { setP c c.cold { p with kind := 1, ref := false, trial := false } with cold := onP c c.cold } := (hB.set _ _).coldS hon
                      obtain ⟨hB', hm⟩ := coolL_B n _ y hBn hy
                      refine WL.callTk (Take.cons 1 rfl (Take.cons 1 rfl Take.nil)) rfl rfl (fun x p d => coolL_c _ b _ v n y hBn (nS _) hy) (by repeat' constructor) (fun r9 => ?_)
                      refine WL.opens (α := Value) (φ := fun v => r9 = .tuple #[] ∧ SL v _) (ps := fun v => PClkO _ _ v) 0 rfl (fun h q => q) (by repeat' constructor) ?_
                      rintro u9 ⟨es9, su9⟩
                      subst es9
                      dsimp only [PClkO, List.cons_append, List.nil_append] at su9 ⊢
                      refine WL.nil (W.inBlock (W.inBlock ?_))
                      refine W.fit (Hs' := [box b0 _ _, box b _ _, Buf 7 _ _]) (by (repeat' first | exact Sel.nil | apply Sel.k | exact Pick.h | apply Pick.t)) (W.sub ?_ (next ⟨n, y, u9⟩ ρ3 le13 ⟨hh, hB', su9⟩ (by dsimp only; omega)))
                      exact ⟨rfl, rfl, trivial⟩
            · refine W.drawA 9 rfl (fun σ0 hσ0 dσ0 => ?_)
              have fσ0_0 := rb_at 0 rfl hσ0 dσ0
              have fσ0_1 := rb_at 1 rfl hσ0 dσ0
              have fσ0_2 := ros_at 2 rfl hσ0 dσ0
              refine WD.takeL 0 rfl (by decide +kernel) (WL.mv rfl rfl (WL.nilT (WD.takeL 1 rfl (by decide +kernel) (WL.nc rfl rfl (WL.nilT (WD.takeL 2 rfl (by decide +kernel) (WL.faN (T := Ty) (off' := 2) rfl rfl rfl rfl rfl rfl rfl (WL.nilT (WD.takeL 3 rfl (by decide +kernel) ?_)))))))))
              refine WL.ldBN (T := Ty) rfl rfl rfl rfl (by first | assumption | exact RB.wide (by assumption) | exact In.rb (by assumption)) rfl ?_
              refine WL.nilT (WD.takeL 4 rfl (by decide +kernel) (WL.mv rfl rfl (WL.nilT (WD.takeL 5 rfl (by decide +kernel) (WL.nc rfl rfl (WL.nilT (WD.takeL 6 rfl (by decide +kernel) (WL.faN (T := Ty) (off' := 4) rfl rfl rfl rfl rfl rfl rfl (WL.nilT (WD.takeL 7 rfl (by decide +kernel) ?_))))))))))
              refine WL.ldBN (T := Ty) rfl rfl rfl rfl (by first | assumption | exact RB.wide (by assumption) | exact In.rb (by assumption)) rfl ?_
              refine WL.nilT (WD.takeL 8 rfl (by decide +kernel) ?_)
              refine WL.ix (T := Ty) rfl rfl rfl (by assumption) rfl rfl (by omega) (by first | omega | decide +kernel) ?_
              refine WL.nilT ?_
              refine WD.lastG hσ0 (by decide +kernel) (by repeat' constructor) rfl (by repeat' constructor) ?_
              refine WL.as rfl rfl (WL.nil ?_)
              refine W.fit (Hs' := [box b0 _ _, box b _ _, Buf 7 v _]) (by (repeat' first | exact Sel.nil | apply Sel.k | exact Pick.h | apply Pick.t)) (W.sub ?_ (cut () ρ2 (Le.refl _) trivial))
              exact ⟨rfl, rfl, rfl, trivial⟩
end Go.Proofs.Ytdpnpipninggeaa
