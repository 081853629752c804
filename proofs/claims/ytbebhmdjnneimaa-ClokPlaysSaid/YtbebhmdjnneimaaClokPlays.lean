/- ClokPlays. -/
import Derived.Test.YtbebhmdjnneimaaStc
import Derived.Test.YtbebhmdjnneimaaNum
import Derived.Test.YtbebhmdjnneimaaTab
import Derived.Test.YtbebhmdjnneimaaClkAw
import Derived.Test.YtbebhmdjnneimaaClkW
set_option linter.unusedSimpArgs false
set_option linter.unusedVariables false
set_option maxRecDepth 20000
set_option maxHeartbeats 4000000
namespace Go.Proofs.Ytbebhmdjnneimaa
open Go
theorem rosKW (ρ : Hp) : ROs ρ 3 nilV (([] : List Ky).flatMap kyC) := .inl ⟨rfl, rfl⟩
theorem admit_outP {n : Nat} {c : Clk} {k : Ky} {d : Clk × List Ky × Bool} (hn : n ≤ 1000000) (e : admitP n c k = some d) : d.2.1.length ≤ 1000000 := by
 unfold admitP at e
 split at e
 ·cases e; exact Nat.zero_le _
 ·split at e
  ·cases e; exact Nat.zero_le _
  ·cases hx : outL n (goneP c (fndK c.pages k)) [] with
   | none => rw [hx] at e; cases e
   | some r =>
    rw [hx] at e
    simp only [Option.bind_some] at e
    obtain ⟨c', hy, he⟩ := Option.map_eq_some_iff.1 e
    subst he
    have := outL_n n _ [] r hx
    simp at this
    show r.2.length ≤ 1000000
    omega
theorem step_out {c : Clk} {x : Int} {d : Clk × List Ky × Bool} (e : stepP c x = some d) : d.2.1.length ≤ 1000000 := by
 unfold stepP at e
 split at e
 ·exact admit_outP (by decide) e
 ·split at e
  ·cases e; exact Nat.zero_le _
  ·split at e
   ·cases e; exact Nat.zero_le _
   ·split at e
    ·exact admit_outP (by decide) e
    ·cases e; exact Nat.zero_le _
theorem sameC_refl (c : Clk) : sameC c c = true := by unfold sameC samePs; simp
attribute [local irreducible] W WL Fn Buf ROs SL eptr box Rd Src bndOK WD RB Reads In Own admitP pinP touchP dropP fndK sameC newP keyP stepP
theorem ClokPlays_fn (ρ : Hp) (a0 : Int) (w0 : (Lit.int .i64 a0).wf = true) (v1 : Value) (z1 : List Int) (r1 : ROs ρ 1 v1 (z1.map (Value.int .i64))) (m1 : ∀ n ∈ z1, (Lit.int .i64 n).wf = true) (y1 : z1.length * 8 ≤ 140737488351232) :
    Fn Try.prog 14 #[.int .i64 a0, v1] ρ [] (fun r _ => r = .bool true) := by
  have s1 := r1.slm
  have hM1 : 1 ≤ a0 % (7 + 1) + 1 := by omega
  have hM2 : a0 % (7 + 1) + 1 ≤ 8 := by omega
  have e1 : (newP a0).most = min (max a0 1) 1000 := by unfold newP; rfl
  have e2 : (newP a0).target = 1 := by unfold newP; rfl
  have sn : SL nilV 0 := slZ
  refine in14 rfl rfl ?_
  refine W.seq (W.region (WL.as rfl rfl (WL.nil (W.seq (W.seq (W.region (WL.mv rfl rfl ?_)))))))
  refine WL.callV rfl rfl (fun x p d => new15q_c _ _) ?_
  refine WL.alF (T := Ty) rfl rfl (by repeat' constructor) (fun b0 => ?_)
  refine WL.stAO (T := Ty) (j := 0) rfl rfl rfl rfl (by repeat' first | exact AO.nil | apply AO.cons (by first | rfl | exact SL.one (by assumption))) rfl rfl (by repeat' constructor) (by repeat' constructor) ?_
  refine WL.nil (W.seq (W.region (WL.faN (T := Ty) (off' := 0) rfl rfl rfl rfl rfl rfl rfl (WL.ldN (T := Ty) (j := 0) rfl rfl rfl rfl rfl rfl (WL.mv rfl rfl (WL.mx rfl rfl rfl (WL.mn rfl rfl rfl (WL.neq rfl rfl rfl (WL.mv rfl rfl (WL.gF rfl rfl (by omega) (WL.faN (T := Ty) (off' := 1) rfl rfl rfl rfl rfl rfl rfl (WL.gF rfl rfl (by omega) (WL.ldN (T := Ty) (j := 0) rfl rfl rfl rfl rfl rfl ?_)))))))))))))
  refine WL.gF rfl rfl (by omega) (WL.neq rfl rfl rfl (WL.pickFp rfl rfl (by omega) rfl (WL.mv rfl rfl (WL.gF rfl rfl (by omega) (WL.faN (T := Ty) (off' := 2) rfl rfl rfl rfl rfl rfl rfl (WL.gF rfl rfl (by omega) (WL.ldN (T := Ty) (j := 0) rfl rfl rfl rfl rfl rfl (WL.gF rfl rfl (by omega) ?_))))))))
  refine WL.len (T := Ty) rfl rfl (by assumption) rfl ?_
  refine WL.gF rfl rfl (by omega) (WL.neq rfl rfl rfl (WL.pickFp rfl rfl (by omega) rfl (WL.nil (W.condF rfl (W.skip (W.seq (W.region (WL.mv rfl rfl (WL.andI rfl rfl rfl (by decide) (WL.addK rfl rfl rfl (wrap_i64 ⟨by omega, by omega⟩) ?_))))))))))
  refine WL.callV rfl rfl (fun x p d => new15q_c _ _) ?_
  refine WL.alF (T := Ty) rfl rfl (by repeat' constructor) (fun b1 => ?_)
  refine WL.stAO (T := Ty) (j := 0) rfl rfl rfl rfl (by repeat' first | exact AO.nil | apply AO.cons (by first | rfl | exact SL.one (by assumption))) rfl rfl (by repeat' constructor) (by repeat' constructor) ?_
  refine WL.nil (W.seq (W.region (WL.mv rfl rfl (WL.andI rfl rfl rfl (by decide) (WL.addK rfl rfl rfl (wrap_i64 ⟨by omega, by omega⟩) ?_)))))
  refine WL.callV rfl rfl (fun x p d => newr15q_c _ _) ?_
  refine WL.alF (T := Ty) rfl rfl (by repeat' constructor) (fun b2 => ?_)
  refine WL.stAO (T := Ty) (j := 0) rfl rfl rfl rfl (by repeat' first | exact AO.nil | apply AO.cons (by first | rfl | exact SL.one (by assumption))) rfl rfl (by repeat' constructor) (by repeat' constructor) ?_
  refine WL.nil (W.seq (W.seq (W.region (WL.as rfl rfl (WL.nil (W.block ?_))))))
  generalize a0 % (7 + 1) + 1 = M at hM1 hM2 ⊢
  have hnb := Bnd.new M hM1 hM2
  rw [← newP_S hM1 hM2] at hnb
  refine W.fit (Hs' := [box b1 _ _, box b2 _ _]) (by (repeat' first | exact Sel.nil | apply Sel.k | exact Pick.h | apply Pick.t)) ?_
  refine W.loopR (σ := Nat × Clk × Value × Value) (fun s => [(1, v1), (6, pt b1 0), (7, pt b2 0), (8, .int .i64 (s.1 : Int))])
    (fun s => [box b1 [.int .i64 s.2.1.most, .int .i64 s.2.1.target, s.2.2.1, .int .i64 (s.2.1.hot : Int), .int .i64 (s.2.1.cold : Int), .int .i64 (s.2.1.test : Int)] 73, box b2 [.int .i64 s.2.1.most, .int .i64 s.2.1.target, s.2.2.2, .int .i64 (s.2.1.hot : Int), .int .i64 (s.2.1.cold : Int), .int .i64 (s.2.1.test : Int)] 73]) (fun s ρ' => s.1 ≤ 150 ∧ Bnd s.2.1 ∧ ROs ρ' 7 s.2.2.1 (s.2.1.pages.flatMap pgC) ∧ ROs ρ' 7 s.2.2.2 (s.2.1.pages.flatMap pgC)) (fun s => 150 - s.1)
    (0, newP M, nilV, nilV) ⟨rfl, rfl, rfl, rfl, trivial⟩ rfl ⟨Nat.zero_le _, hnb, rosNew ρ M, rosNew ρ M⟩ ?_
  clear hnb sn e1 e2
  rintro ⟨i, c, vc, vw⟩ ρ1 le1 ⟨hi, hb, rc, rw'⟩ next
  dsimp only at hi hb rc rw' next ⊢
  replace r1 := r1.mono le1
  have hB := hb.B
  have hR := hb.R
  have hlen := hb.len
  have l1 := pgs_cells c.pages
  have hl4 : c.pages.length ≤ 10000 := by omega
  by_cases hc1 : i < z1.length
  · obtain ⟨x, hx⟩ : ∃ x, z1[i]? = some x := ⟨_, List.getElem?_eq_getElem hc1⟩
    have hx1 : (z1.map (Value.int .i64))[i]? = some (.int .i64 x) := by rw [List.getElem?_map, hx]; rfl
    by_cases hc2 : i < 150
    · obtain ⟨⟨d, out, ok⟩, hd, hbd, hdm⟩ := step_ex hb x
      dsimp only at hbd hdm
      have hol : out.length ≤ 1000000 := step_out hd
      refine W.seq (W.seq (W.region (WL.mv rfl rfl (WL.mv rfl rfl ?_))))
      refine WL.len (T := Ty) rfl rfl (by assumption) rfl ?_
      refine WL.lss rfl rfl rfl (WL.mv rfl rfl (WL.gT rfl rfl (by omega) (WL.mv rfl rfl (WL.gT rfl rfl (by omega) (WL.lss rfl rfl rfl (WL.pickTp rfl rfl (by omega) rfl (WL.nil (W.condpT rfl (by omega) (W.skip (W.seq (W.block (W.seq ?_))))))))))))
      refine W.cutG (τ := Nat × Value × Value) (fun s => [(1, v1), (6, pt b1 0), (7, pt b2 0), (8, .int .i64 (i : Int)), (9, pt s.1 0), (10, s.2.2), (11, .bool ok)])
        (fun s => [Buf 7 s.2.1 (d.pages.flatMap pgC), Buf 3 s.2.2 (out.flatMap kyC), box s.1 [.int .i64 d.most, .int .i64 d.target, s.2.1, .int .i64 (d.hot : Int), .int .i64 (d.cold : Int), .int .i64 (d.test : Int)] 73, box b1 [.int .i64 c.most, .int .i64 c.target, vc, .int .i64 (c.hot : Int), .int .i64 (c.cold : Int), .int .i64 (c.test : Int)] 73, box b2 [.int .i64 c.most, .int .i64 c.target, vw, .int .i64 (c.hot : Int), .int .i64 (c.cold : Int), .int .i64 (c.test : Int)] 73]) (fun s ρ' => True) ?_ (fun cutA => ?_)
      · rintro ⟨b3, uW, kW⟩ ρ2 le2 -
        dsimp only
        refine W.freeze 0 rfl (by repeat' constructor) (fun ρ3 le3 in3 => ?_)
        refine W.freeze 0 rfl (by repeat' constructor) (fun ρ4 le4 in4 => ?_)
        have rW := (in3.mono le4).ros
        have rK := in4.ros
        have le14 : Le ρ1 ρ4 := fun b o h => le4 b o (le3 b o (le2 b o h))
        replace r1 := r1.mono le14
        replace rc := rc.mono le14
        replace rw' := rw'.mono le14
        have nx := fun s ρ' (h : Le ρ4 ρ') => next s ρ' (fun b o q => h b o (le14 b o q))
        clear in3 in4 next
        refine W.seq (W.region (WL.mv rfl rfl (WL.mv rfl rfl ?_)))
        refine WL.ix (T := Ty) rfl rfl rfl (by assumption) rfl rfl (by omega) (by first | omega | decide +kernel) ?_
        refine WL.ldKn (T := Ty) rfl rfl rfl rfl (by first | assumption | exact ROs.wide (by assumption)) (by assumption) ?_
        refine WL.shrS (c := 8) rfl rfl rfl (by omega) (by decide) ?_
        refine WL.callV rfl rfl (fun x p d => key15_c _ _) ?_
        refine WL.alF (T := Ty) rfl rfl (by repeat' constructor) (fun b4 => ?_)
        refine WL.stAO (T := Ty) (j := 0) rfl rfl rfl rfl (by repeat' first | exact AO.nil | apply AO.cons (by first | rfl | exact SL.one (by assumption))) rfl rfl (by repeat' constructor) (by repeat' constructor) ?_
        refine WL.nil (W.seq (W.region (WL.as rfl rfl (WL.nil (W.seq (W.region ?_))))))
        refine WL.alF (T := Ty) rfl rfl (by repeat' constructor) (fun b5 => ?_)
        refine WL.nil (W.seq (W.region (WL.as rfl rfl (WL.nil (W.seq ?_)))))
        refine W.cutG (τ := Value × Value) (fun s => [(1, v1), (6, pt b1 0), (7, pt b2 0), (8, .int .i64 (i : Int)), (9, pt b3 0), (10, kW), (11, .bool ok), (12, pt b4 0), (13, s.2), (14, pt b5 0), (15, .bool ok)])
          (fun s => [box b1 [.int .i64 c.most, .int .i64 c.target, vc, .int .i64 (c.hot : Int), .int .i64 (c.cold : Int), .int .i64 (c.test : Int)] 73, box b2 [.int .i64 c.most, .int .i64 c.target, vw, .int .i64 (c.hot : Int), .int .i64 (c.cold : Int), .int .i64 (c.test : Int)] 73, box b3 [.int .i64 d.most, .int .i64 d.target, uW, .int .i64 (d.hot : Int), .int .i64 (d.cold : Int), .int .i64 (d.test : Int)] 73, box b4 [.int .i64 (keyP (x / 8)).a, .int .i64 (keyP (x / 8)).b, .int .i64 (keyP (x / 8)).c] 76, box b5 [.int .i64 d.most, .int .i64 d.target, s.1, .int .i64 (d.hot : Int), .int .i64 (d.cold : Int), .int .i64 (d.test : Int)] 73]) (fun s ρ' => ROs ρ' 7 s.1 (d.pages.flatMap pgC) ∧ ROs ρ' 3 s.2 (out.flatMap kyC)) ?_ (fun cut0 => ?_)
        · rintro ⟨uP, kP⟩ ρ5 le5 ⟨rP, rKP⟩
          dsimp only at rP rKP ⊢
          replace rW := rW.mono le5
          replace rK := rK.mono le5
          replace rc := rc.mono le5
          replace rw' := rw'.mono le5
          replace nx := fun s ρ' (h : Le ρ5 ρ') => nx s ρ' (fun b o q => h b o (le5 b o q))
          have hz0 : decide (out = out) = true := decide_eq_true rfl
          have hz1 : sameC d d = true := sameC_refl d
          obtain ⟨z2, hz2⟩ : ∃ z, sameC c d = z := ⟨_, rfl⟩
          obtain ⟨j, hj⟩ : ∃ j, fndK d.pages (keyP (x / 8)) = j := ⟨_, rfl⟩
          have hdl := hbd.len
          have hdl2 : d.pages.length ≤ 1000000 := by omega
          have hcl2 : c.pages.length ≤ 1000000 := by omega
          clear hd
          have l2 := pgs_cells d.pages
          have suP : SL uP d.pages.length := rP.sl l2 (by omega)
          have suW : SL uW d.pages.length := rW.sl l2 (by omega)
          cases ok with
          | false =>
            refine W.seq (W.seq ?_)
            refine W.drawA 42 rfl (fun σ0 hσ0 dσ0 => ?_)
            have fσ0_0 := rb_at 0 rfl hσ0 dσ0
            have fσ0_1 := rb_at 1 rfl hσ0 dσ0
            have fσ0_2 := rb_at 2 rfl hσ0 dσ0
            have fσ0_3 := rb_at 3 rfl hσ0 dσ0
            have fσ0_4 := rb_at 4 rfl hσ0 dσ0
            refine WD.takeL 0 rfl (by decide +kernel) (WL.mv rfl rfl (WL.nilT (WD.takeL 1 rfl (by decide +kernel) (WL.mv rfl rfl (WL.nilT (WD.takeL 2 rfl (by decide +kernel) (WL.neB (T := Ty) rfl rfl rfl rfl (WL.nilT (WD.takeL 3 rfl (by decide +kernel) (WL.mv rfl rfl (WL.nilT (WD.takeL 4 rfl (by decide +kernel) (WL.gY rfl rfl ?_)))))))))))))
            refine WL.mv rfl rfl (WL.nilT (WD.takeL 5 rfl (by decide +kernel) (WL.gY rfl rfl (WL.mv rfl rfl (WL.nilT (WD.oneL 6 rfl (by decide +kernel) (WL.gY rfl rfl ?_)))))))
            refine WL.callV rfl rfl (fun x p d => same15k_e _ _ _ _ _ _ (by first | assumption | omega) (by first | assumption | omega) (by first | assumption | exact ROs.wide (by assumption) | exact ROs.mono (by assumption) (eqh_at 0 rfl p d) | exact ros_at 0 rfl p d | exact ros_at 1 rfl p d | exact ros_at 2 rfl p d | exact ros_at 3 rfl p d | exact ros_at 4 rfl p d) (by first | assumption | exact ROs.wide (by assumption) | exact ROs.mono (by assumption) (eqh_at 0 rfl p d) | exact ros_at 0 rfl p d | exact ros_at 1 rfl p d | exact ros_at 2 rfl p d | exact ros_at 3 rfl p d | exact ros_at 4 rfl p d) (by assumption)) ?_
            refine WL.nilE (WD.takeL 7 rfl (by decide +kernel) (WL.gY rfl rfl (WL.not rfl rfl (WL.nilT (WD.takeL 8 rfl (by decide +kernel) (WL.pickF rfl rfl rfl (WL.nilT (WD.takeL 9 rfl (by decide +kernel) (WL.mv rfl rfl (WL.nilT (WD.takeL 10 rfl (by decide +kernel) (WL.gY rfl rfl (WL.mv rfl rfl ?_)))))))))))))
            refine WL.nilT (WD.takeL 11 rfl (by decide +kernel) (WL.gY rfl rfl (WL.mv rfl rfl (WL.nilT (WD.takeL 12 rfl (by decide +kernel) (WL.gdN rfl rfl rfl rfl rfl rfl (WL.nilT (WD.takeL 13 rfl (by decide +kernel) (WL.gdN rfl rfl rfl rfl rfl rfl (WL.nilT (WD.takeL 14 rfl (by decide +kernel) (WL.gdN rfl rfl rfl rfl rfl rfl (WL.nilT ?_)))))))))))))
            refine WD.takeL 15 rfl (by decide +kernel) (WL.gdN rfl rfl rfl rfl rfl rfl (WL.nilT (WD.takeL 16 rfl (by decide +kernel) (WL.gY rfl rfl (WL.pickF rfl rfl rfl (WL.nilT (WD.takeL 17 rfl (by decide +kernel) (WL.pickF rfl rfl rfl (WL.nilT (WD.takeL 18 rfl (by decide +kernel) (WL.mv rfl rfl (WL.nilT (WD.takeL 19 rfl (by decide +kernel) ?_)))))))))))))
            refine WL.gY rfl rfl (WL.mv rfl rfl (WL.nilT (WD.takeL 20 rfl (by decide +kernel) (WL.gY rfl rfl (WL.mv rfl rfl (WL.nilT (WD.takeL 21 rfl (by decide +kernel) (WL.gdN rfl rfl rfl rfl rfl rfl (WL.nilT (WD.takeL 22 rfl (by decide +kernel) (WL.gdN rfl rfl rfl rfl rfl rfl (WL.nilT (WD.takeL 24 rfl (by decide +kernel) ?_)))))))))))))
            refine WL.gdN rfl rfl rfl rfl rfl rfl (WL.nilT (WD.takeL 25 rfl (by decide +kernel) (WL.gdN rfl rfl rfl rfl rfl rfl (WL.nilT (WD.takeL 23 rfl (by decide +kernel) (WL.gdN rfl rfl rfl rfl rfl rfl (WL.nilT (WD.takeL 26 rfl (by decide +kernel) (WL.gdN rfl rfl rfl rfl rfl rfl (WL.nilT (WD.takeL 27 rfl (by decide +kernel) (WL.gdN rfl rfl rfl rfl rfl rfl (WL.nilT ?_)))))))))))))
            refine WD.takeL 28 rfl (by decide +kernel) (WL.gY rfl rfl (WL.pickF rfl rfl rfl (WL.nilT (WD.takeL 29 rfl (by decide +kernel) (WL.pickF rfl rfl rfl (WL.nilT (WD.takeL 30 rfl (by decide +kernel) (WL.mv rfl rfl (WL.nilT (WD.takeL 31 rfl (by decide +kernel) (WL.gY rfl rfl (WL.mv rfl rfl (WL.nilT ?_)))))))))))))
            refine WD.takeL 32 rfl (by decide +kernel) (WL.gY rfl rfl (WL.mv rfl rfl (WL.nilT (WD.takeL 33 rfl (by decide +kernel) (WL.gdN rfl rfl rfl rfl rfl rfl (WL.nilT (WD.takeL 34 rfl (by decide +kernel) (WL.gdN rfl rfl rfl rfl rfl rfl (WL.nilT (WD.takeL 36 rfl (by decide +kernel) (WL.gdN rfl rfl rfl rfl rfl rfl (WL.nilT (WD.takeL 37 rfl (by decide +kernel) ?_)))))))))))))
            refine WL.gdN rfl rfl rfl rfl rfl rfl (WL.nilT (WD.takeL 35 rfl (by decide +kernel) (WL.gdN rfl rfl rfl rfl rfl rfl (WL.nilT (WD.takeL 38 rfl (by decide +kernel) (WL.gdN rfl rfl rfl rfl rfl rfl (WL.nilT (WD.takeL 39 rfl (by decide +kernel) (WL.gdN rfl rfl rfl rfl rfl rfl (WL.nilT (WD.takeL 40 rfl (by decide +kernel) (WL.gY rfl rfl (WL.pickF rfl rfl rfl ?_)))))))))))))
            refine WL.nilT (WD.takeL 41 rfl (by decide +kernel) (WL.pickF rfl rfl rfl (WL.nilT ?_)))
            refine WD.doneF hσ0 (by decide +kernel) (by repeat' constructor) ?_
            refine W.condF rfl (W.skip (W.seq (W.region (WL.mv rfl rfl (WL.nil (W.condF rfl (W.skip (W.inBlock (W.region (WL.mv rfl rfl (WL.addK rfl rfl rfl (wrap_i64 ⟨by omega, by omega⟩) (WL.as rfl rfl (WL.nil ?_)))))))))))))
            refine W.fit (Hs' := [box b1 _ _, box b2 _ _]) (by (repeat' first | exact Sel.nil | apply Sel.k | exact Pick.h | apply Pick.t)) (W.sub ?_ (nx ⟨i + 1, c, vc, vw⟩ ρ5 (Le.refl _) ⟨by dsimp only; omega, hb, rc, rw'⟩ (by dsimp only; omega)))
            exact ⟨rfl, rfl, rfl, rfl, trivial⟩
          | true =>
            refine W.seq (W.seq ?_)
            refine W.cutG (τ := Unit) (fun s => [(1, v1), (6, pt b1 0), (7, pt b2 0), (8, .int .i64 (i : Int)), (9, pt b3 0), (14, pt b5 0), (15, .bool true), (170, .bool false)])
              (fun s => [box b1 [.int .i64 c.most, .int .i64 c.target, vc, .int .i64 (c.hot : Int), .int .i64 (c.cold : Int), .int .i64 (c.test : Int)] 73, box b2 [.int .i64 c.most, .int .i64 c.target, vw, .int .i64 (c.hot : Int), .int .i64 (c.cold : Int), .int .i64 (c.test : Int)] 73, box b3 [.int .i64 d.most, .int .i64 d.target, uW, .int .i64 (d.hot : Int), .int .i64 (d.cold : Int), .int .i64 (d.test : Int)] 73, box b5 [.int .i64 d.most, .int .i64 d.target, uP, .int .i64 (d.hot : Int), .int .i64 (d.cold : Int), .int .i64 (d.test : Int)] 73]) (fun s ρ' => ρ' = ρ5) ?_ (fun cutB => ?_)
            · rintro _ _ - rfl
              refine W.condF rfl (W.skip (W.seq (W.region (WL.mv rfl rfl (WL.nil (W.condT rfl ?_))))))
              refine W.drawP 3 [true, false, false, false] rfl (by repeat' constructor) (by repeat' constructor) (fun σ0 hσ0 dσ0 => ?_)
              have fσ0_0 := rb_at 0 rfl hσ0 dσ0
              have fσ0_1 := rb_at 1 rfl hσ0 dσ0
              have fσ0_2 := rb_at 2 rfl hσ0 dσ0
              refine WD.takeL 0 rfl (by decide +kernel) ?_
              refine WL.ldABF (T := Ty) rfl rfl rfl rfl (by first | assumption | exact RB.wide (by assumption) | exact In.rb (by assumption)) rfl (by repeat' constructor) ?_
              refine WL.nilT (WD.takeL 1 rfl (by decide +kernel) ?_)
              refine WL.ldABF (T := Ty) rfl rfl rfl rfl (by first | assumption | exact RB.wide (by assumption) | exact In.rb (by assumption)) rfl (by repeat' constructor) ?_
              refine WL.nilT (WD.oneL 2 rfl (by decide +kernel) ?_)
              refine WL.stAO (T := Ty) (j := 1) rfl rfl rfl rfl (by repeat' first | exact AO.nil | apply AO.cons (by first | rfl | exact SL.one (by assumption))) rfl rfl (by repeat' constructor) (by repeat' constructor) ?_
              refine WL.nilE ?_
              refine WD.lastG hσ0 (by decide +kernel) (by repeat' constructor) rfl (by repeat' constructor) ?_
              refine WL.stAO (T := Ty) (j := 0) rfl rfl rfl rfl (by repeat' first | exact AO.nil | apply AO.cons (by first | rfl | exact SL.one (by assumption))) rfl rfl (by repeat' constructor) (by repeat' constructor) ?_
              refine WL.nil (W.inBlock (W.region (WL.mv rfl rfl (WL.addK rfl rfl rfl (wrap_i64 ⟨by omega, by omega⟩) (WL.as rfl rfl (WL.nil ?_))))))
              refine W.fit (Hs' := [box b1 _ _, box b2 _ _]) (by (repeat' first | exact Sel.nil | apply Sel.k | exact Pick.h | apply Pick.t)) (W.sub ?_ (nx ⟨i + 1, d, uP, uW⟩ _ (Le.refl _) ⟨by dsimp only; omega, hbd, rP, rW⟩ (by dsimp only; omega)))
              exact ⟨rfl, rfl, rfl, rfl, trivial⟩
            · cases z2 with
              | false =>
                refine W.drawA 42 rfl (fun σ0 hσ0 dσ0 => ?_)
                have fσ0_0 := rb_at 0 rfl hσ0 dσ0
                have fσ0_1 := rb_at 1 rfl hσ0 dσ0
                have fσ0_2 := rb_at 2 rfl hσ0 dσ0
                have fσ0_3 := rb_at 3 rfl hσ0 dσ0
                have fσ0_4 := rb_at 4 rfl hσ0 dσ0
                refine WD.takeL 0 rfl (by decide +kernel) (WL.mv rfl rfl (WL.nilT (WD.takeL 1 rfl (by decide +kernel) (WL.mv rfl rfl (WL.nilT (WD.takeL 2 rfl (by decide +kernel) (WL.neB (T := Ty) rfl rfl rfl rfl (WL.nilT (WD.takeL 3 rfl (by decide +kernel) (WL.mv rfl rfl (WL.nilT (WD.takeL 4 rfl (by decide +kernel) (WL.gY rfl rfl ?_)))))))))))))
                refine WL.mv rfl rfl (WL.nilT (WD.takeL 5 rfl (by decide +kernel) (WL.gY rfl rfl (WL.mv rfl rfl (WL.nilT (WD.oneL 6 rfl (by decide +kernel) (WL.gY rfl rfl ?_)))))))
                refine WL.callV rfl rfl (fun x p d => same15k_e _ _ _ _ _ _ (by first | assumption | omega) (by first | assumption | omega) (by first | assumption | exact ROs.wide (by assumption) | exact ROs.mono (by assumption) (eqh_at 0 rfl p d) | exact ros_at 0 rfl p d | exact ros_at 1 rfl p d | exact ros_at 2 rfl p d | exact ros_at 3 rfl p d | exact ros_at 4 rfl p d) (by first | assumption | exact ROs.wide (by assumption) | exact ROs.mono (by assumption) (eqh_at 0 rfl p d) | exact ros_at 0 rfl p d | exact ros_at 1 rfl p d | exact ros_at 2 rfl p d | exact ros_at 3 rfl p d | exact ros_at 4 rfl p d) (by assumption)) ?_
                refine WL.nilE (WD.takeL 7 rfl (by decide +kernel) (WL.gY rfl rfl (WL.not rfl rfl (WL.nilT (WD.takeL 8 rfl (by decide +kernel) (WL.pickF rfl rfl rfl (WL.nilT (WD.takeL 9 rfl (by decide +kernel) (WL.mv rfl rfl (WL.nilT (WD.takeL 10 rfl (by decide +kernel) (WL.gY rfl rfl (WL.mv rfl rfl ?_)))))))))))))
                refine WL.nilT (WD.takeL 11 rfl (by decide +kernel) (WL.gY rfl rfl (WL.mv rfl rfl (WL.nilT (WD.takeL 12 rfl (by decide +kernel) (WL.gY rfl rfl ?_))))))
                refine WL.ldABF (T := Ty) rfl rfl rfl rfl (by first | assumption | exact RB.wide (by assumption) | exact In.rb (by assumption)) rfl (by repeat' constructor) ?_
                refine WL.nilT (WD.takeL 13 rfl (by decide +kernel) (WL.gY rfl rfl ?_))
                refine WL.ldABF (T := Ty) rfl rfl rfl rfl (by first | assumption | exact RB.wide (by assumption) | exact In.rb (by assumption)) rfl (by repeat' constructor) ?_
                refine WL.nilT (WD.oneL 14 rfl (by decide +kernel) (WL.gY rfl rfl ?_))
                refine WL.callV rfl rfl (fun x p d => samer15_e _ _ _ _ _ _ (by first | assumption | omega) (by first | assumption | omega) (by first | assumption | exact ROs.wide (by assumption) | exact ROs.mono (by assumption) (eqh_at 0 rfl p d) | exact ros_at 0 rfl p d | exact ros_at 1 rfl p d | exact ros_at 2 rfl p d | exact ros_at 3 rfl p d | exact ros_at 4 rfl p d) (by first | assumption | exact ROs.wide (by assumption) | exact ROs.mono (by assumption) (eqh_at 0 rfl p d) | exact ros_at 0 rfl p d | exact ros_at 1 rfl p d | exact ros_at 2 rfl p d | exact ros_at 3 rfl p d | exact ros_at 4 rfl p d) (by assumption)) ?_
                refine WL.nilE (WD.takeL 15 rfl (by decide +kernel) (WL.gY rfl rfl (WL.not rfl rfl (WL.nilT (WD.takeL 16 rfl (by decide +kernel) (WL.gY rfl rfl (WL.pickT rfl rfl rfl (WL.nilT (WD.takeL 17 rfl (by decide +kernel) (WL.pickF rfl rfl rfl (WL.nilT (WD.takeL 18 rfl (by decide +kernel) (WL.mv rfl rfl ?_)))))))))))))
                refine WL.nilT (WD.takeL 19 rfl (by decide +kernel) (WL.gY rfl rfl (WL.mv rfl rfl (WL.nilT (WD.takeL 20 rfl (by decide +kernel) (WL.gY rfl rfl (WL.mv rfl rfl (WL.nilT (WD.takeL 21 rfl (by decide +kernel) (WL.gY rfl rfl ?_))))))))))
                refine WL.ldABF (T := Ty) rfl rfl rfl rfl (by first | assumption | exact RB.wide (by assumption) | exact In.rb (by assumption)) rfl (by repeat' constructor) ?_
                refine WL.nilT (WD.takeL 22 rfl (by decide +kernel) (WL.gY rfl rfl ?_))
                refine WL.ldABF (T := Ty) rfl rfl rfl rfl (by first | assumption | exact RB.wide (by assumption) | exact In.rb (by assumption)) rfl (by repeat' constructor) ?_
                refine WL.nilT (WD.takeL 24 rfl (by decide +kernel) (WL.gY rfl rfl ?_))
                refine WL.ldABF (T := Ty) rfl rfl rfl rfl (by first | assumption | exact RB.wide (by assumption) | exact In.rb (by assumption)) rfl (by repeat' constructor) ?_
                refine WL.nilT (WD.takeL 25 rfl (by decide +kernel) (WL.gY rfl rfl ?_))
                refine WL.ldABF (T := Ty) rfl rfl rfl rfl (by first | assumption | exact RB.wide (by assumption) | exact In.rb (by assumption)) rfl (by repeat' constructor) ?_
                refine WL.nilT (WD.oneL 23 rfl (by decide +kernel) (WL.gY rfl rfl ?_))
                refine WL.callV rfl rfl (fun x p d => find15_e _ _ _ _ _ _ _ _ _ _ _ _ (by first | assumption | exact ROs.wide (by assumption) | exact ROs.mono (by assumption) (eqh_at 0 rfl p d) | exact ros_at 0 rfl p d | exact ros_at 1 rfl p d | exact ros_at 2 rfl p d | exact ros_at 3 rfl p d | exact ros_at 4 rfl p d) (by first | assumption | omega) (by assumption)) ?_
                refine WL.nilE (WD.oneL 26 rfl (by decide +kernel) (WL.gY rfl rfl ?_))
                refine WL.callV rfl rfl (fun x p d => findr15_e _ _ _ _ _ _ _ _ _ _ _ _ (by first | assumption | exact ROs.wide (by assumption) | exact ROs.mono (by assumption) (eqh_at 0 rfl p d) | exact ros_at 0 rfl p d | exact ros_at 1 rfl p d | exact ros_at 2 rfl p d | exact ros_at 3 rfl p d | exact ros_at 4 rfl p d) (by first | assumption | omega) (by assumption)) ?_
                refine WL.nilE (WD.takeL 27 rfl (by decide +kernel) (WL.gY rfl rfl (WL.neq rfl rfl rfl (WL.nilT (WD.takeL 28 rfl (by decide +kernel) (WL.gY rfl rfl (WL.pickT rfl rfl rfl (WL.nilT (WD.takeL 29 rfl (by decide +kernel) (WL.pickF rfl rfl rfl (WL.nilT (WD.takeL 30 rfl (by decide +kernel) (WL.mv rfl rfl ?_)))))))))))))
                refine WL.nilT (WD.takeL 31 rfl (by decide +kernel) (WL.gF rfl rfl (by omega) (WL.mv rfl rfl (WL.nilT (WD.takeL 32 rfl (by decide +kernel) (WL.gF rfl rfl (by omega) (WL.mv rfl rfl (WL.nilT (WD.takeL 33 rfl (by decide +kernel) (WL.gY rfl rfl ?_))))))))))
                refine WL.ldABF (T := Ty) rfl rfl rfl rfl (by first | assumption | exact RB.wide (by assumption) | exact In.rb (by assumption)) rfl (by repeat' constructor) ?_
                refine WL.nilT (WD.takeL 34 rfl (by decide +kernel) (WL.gY rfl rfl ?_))
                refine WL.ldABF (T := Ty) rfl rfl rfl rfl (by first | assumption | exact RB.wide (by assumption) | exact In.rb (by assumption)) rfl (by repeat' constructor) ?_
                refine WL.nilT (WD.takeL 36 rfl (by decide +kernel) (WL.gY rfl rfl ?_))
                refine WL.ldABF (T := Ty) rfl rfl rfl rfl (by first | assumption | exact RB.wide (by assumption) | exact In.rb (by assumption)) rfl (by repeat' constructor) ?_
                refine WL.nilT (WD.takeL 37 rfl (by decide +kernel) (WL.gY rfl rfl ?_))
                refine WL.ldABF (T := Ty) rfl rfl rfl rfl (by first | assumption | exact RB.wide (by assumption) | exact In.rb (by assumption)) rfl (by repeat' constructor) ?_
                refine WL.nilT (WD.oneL 35 rfl (by decide +kernel) (WL.gY rfl rfl ?_))
                refine WL.callV rfl rfl (fun x p d => same15_e _ _ _ _ _ _ (by first | assumption | omega) (by first | assumption | exact ROs.wide (by assumption) | exact ROs.mono (by assumption) (eqh_at 0 rfl p d) | exact ros_at 0 rfl p d | exact ros_at 1 rfl p d | exact ros_at 2 rfl p d | exact ros_at 3 rfl p d | exact ros_at 4 rfl p d) (by first | assumption | exact ROs.wide (by assumption) | exact ROs.mono (by assumption) (eqh_at 0 rfl p d) | exact ros_at 0 rfl p d | exact ros_at 1 rfl p d | exact ros_at 2 rfl p d | exact ros_at 3 rfl p d | exact ros_at 4 rfl p d) (by assumption)) ?_
                refine WL.nilE (WD.oneL 38 rfl (by decide +kernel) (WL.gY rfl rfl ?_))
                refine WL.callV rfl rfl (fun x p d => samer15_e _ _ _ _ _ _ (by first | assumption | omega) (by first | assumption | omega) (by first | assumption | exact ROs.wide (by assumption) | exact ROs.mono (by assumption) (eqh_at 0 rfl p d) | exact ros_at 0 rfl p d | exact ros_at 1 rfl p d | exact ros_at 2 rfl p d | exact ros_at 3 rfl p d | exact ros_at 4 rfl p d) (by first | assumption | exact ROs.wide (by assumption) | exact ROs.mono (by assumption) (eqh_at 0 rfl p d) | exact ros_at 0 rfl p d | exact ros_at 1 rfl p d | exact ros_at 2 rfl p d | exact ros_at 3 rfl p d | exact ros_at 4 rfl p d) (by assumption)) ?_
                refine WL.nilE (WD.takeL 39 rfl (by decide +kernel) (WL.gY rfl rfl (WL.neB (T := Ty) rfl rfl rfl rfl (WL.nilT (WD.takeL 40 rfl (by decide +kernel) (WL.gF rfl rfl (by omega) (WL.pickT rfl rfl rfl (WL.nilT (WD.takeL 41 rfl (by decide +kernel) (WL.pickFp rfl rfl (by omega) rfl (WL.nilT ?_)))))))))))
                refine WD.doneF hσ0 (by decide +kernel) (by repeat' constructor) ?_
                refine W.fit (Hs' := [box b1 _ _, box b2 _ _, box b3 _ _, box b5 _ _]) (by (repeat' first | exact Sel.nil | apply Sel.k | exact Pick.h | apply Pick.t)) (W.sub ?_ (cutB () _ (Le.refl _) rfl))
                exact ⟨rfl, rfl, rfl, rfl, rfl, rfl, rfl, rfl, trivial⟩
              | true =>
                refine W.drawA 42 rfl (fun σ0 hσ0 dσ0 => ?_)
                have fσ0_0 := rb_at 0 rfl hσ0 dσ0
                have fσ0_1 := rb_at 1 rfl hσ0 dσ0
                have fσ0_2 := rb_at 2 rfl hσ0 dσ0
                have fσ0_3 := rb_at 3 rfl hσ0 dσ0
                have fσ0_4 := rb_at 4 rfl hσ0 dσ0
                refine WD.takeL 0 rfl (by decide +kernel) (WL.mv rfl rfl (WL.nilT (WD.takeL 1 rfl (by decide +kernel) (WL.mv rfl rfl (WL.nilT (WD.takeL 2 rfl (by decide +kernel) (WL.neB (T := Ty) rfl rfl rfl rfl (WL.nilT (WD.takeL 3 rfl (by decide +kernel) (WL.mv rfl rfl (WL.nilT (WD.takeL 4 rfl (by decide +kernel) (WL.gY rfl rfl ?_)))))))))))))
                refine WL.mv rfl rfl (WL.nilT (WD.takeL 5 rfl (by decide +kernel) (WL.gY rfl rfl (WL.mv rfl rfl (WL.nilT (WD.oneL 6 rfl (by decide +kernel) (WL.gY rfl rfl ?_)))))))
                refine WL.callV rfl rfl (fun x p d => same15k_e _ _ _ _ _ _ (by first | assumption | omega) (by first | assumption | omega) (by first | assumption | exact ROs.wide (by assumption) | exact ROs.mono (by assumption) (eqh_at 0 rfl p d) | exact ros_at 0 rfl p d | exact ros_at 1 rfl p d | exact ros_at 2 rfl p d | exact ros_at 3 rfl p d | exact ros_at 4 rfl p d) (by first | assumption | exact ROs.wide (by assumption) | exact ROs.mono (by assumption) (eqh_at 0 rfl p d) | exact ros_at 0 rfl p d | exact ros_at 1 rfl p d | exact ros_at 2 rfl p d | exact ros_at 3 rfl p d | exact ros_at 4 rfl p d) (by assumption)) ?_
                refine WL.nilE (WD.takeL 7 rfl (by decide +kernel) (WL.gY rfl rfl (WL.not rfl rfl (WL.nilT (WD.takeL 8 rfl (by decide +kernel) (WL.pickF rfl rfl rfl (WL.nilT (WD.takeL 9 rfl (by decide +kernel) (WL.mv rfl rfl (WL.nilT (WD.takeL 10 rfl (by decide +kernel) (WL.gY rfl rfl (WL.mv rfl rfl ?_)))))))))))))
                refine WL.nilT (WD.takeL 11 rfl (by decide +kernel) (WL.gY rfl rfl (WL.mv rfl rfl (WL.nilT (WD.takeL 12 rfl (by decide +kernel) (WL.gY rfl rfl ?_))))))
                refine WL.ldABF (T := Ty) rfl rfl rfl rfl (by first | assumption | exact RB.wide (by assumption) | exact In.rb (by assumption)) rfl (by repeat' constructor) ?_
                refine WL.nilT (WD.takeL 13 rfl (by decide +kernel) (WL.gY rfl rfl ?_))
                refine WL.ldABF (T := Ty) rfl rfl rfl rfl (by first | assumption | exact RB.wide (by assumption) | exact In.rb (by assumption)) rfl (by repeat' constructor) ?_
                refine WL.nilT (WD.oneL 14 rfl (by decide +kernel) (WL.gY rfl rfl ?_))
                refine WL.callV rfl rfl (fun x p d => samer15_e _ _ _ _ _ _ (by first | assumption | omega) (by first | assumption | omega) (by first | assumption | exact ROs.wide (by assumption) | exact ROs.mono (by assumption) (eqh_at 0 rfl p d) | exact ros_at 0 rfl p d | exact ros_at 1 rfl p d | exact ros_at 2 rfl p d | exact ros_at 3 rfl p d | exact ros_at 4 rfl p d) (by first | assumption | exact ROs.wide (by assumption) | exact ROs.mono (by assumption) (eqh_at 0 rfl p d) | exact ros_at 0 rfl p d | exact ros_at 1 rfl p d | exact ros_at 2 rfl p d | exact ros_at 3 rfl p d | exact ros_at 4 rfl p d) (by assumption)) ?_
                refine WL.nilE (WD.takeL 15 rfl (by decide +kernel) (WL.gY rfl rfl (WL.not rfl rfl (WL.nilT (WD.takeL 16 rfl (by decide +kernel) (WL.gY rfl rfl (WL.pickT rfl rfl rfl (WL.nilT (WD.takeL 17 rfl (by decide +kernel) (WL.pickF rfl rfl rfl (WL.nilT (WD.takeL 18 rfl (by decide +kernel) (WL.mv rfl rfl ?_)))))))))))))
                refine WL.nilT (WD.takeL 19 rfl (by decide +kernel) (WL.gY rfl rfl (WL.mv rfl rfl (WL.nilT (WD.takeL 20 rfl (by decide +kernel) (WL.gY rfl rfl (WL.mv rfl rfl (WL.nilT (WD.takeL 21 rfl (by decide +kernel) (WL.gY rfl rfl ?_))))))))))
                refine WL.ldABF (T := Ty) rfl rfl rfl rfl (by first | assumption | exact RB.wide (by assumption) | exact In.rb (by assumption)) rfl (by repeat' constructor) ?_
                refine WL.nilT (WD.takeL 22 rfl (by decide +kernel) (WL.gY rfl rfl ?_))
                refine WL.ldABF (T := Ty) rfl rfl rfl rfl (by first | assumption | exact RB.wide (by assumption) | exact In.rb (by assumption)) rfl (by repeat' constructor) ?_
                refine WL.nilT (WD.takeL 24 rfl (by decide +kernel) (WL.gY rfl rfl ?_))
                refine WL.ldABF (T := Ty) rfl rfl rfl rfl (by first | assumption | exact RB.wide (by assumption) | exact In.rb (by assumption)) rfl (by repeat' constructor) ?_
                refine WL.nilT (WD.takeL 25 rfl (by decide +kernel) (WL.gY rfl rfl ?_))
                refine WL.ldABF (T := Ty) rfl rfl rfl rfl (by first | assumption | exact RB.wide (by assumption) | exact In.rb (by assumption)) rfl (by repeat' constructor) ?_
                refine WL.nilT (WD.oneL 23 rfl (by decide +kernel) (WL.gY rfl rfl ?_))
                refine WL.callV rfl rfl (fun x p d => find15_e _ _ _ _ _ _ _ _ _ _ _ _ (by first | assumption | exact ROs.wide (by assumption) | exact ROs.mono (by assumption) (eqh_at 0 rfl p d) | exact ros_at 0 rfl p d | exact ros_at 1 rfl p d | exact ros_at 2 rfl p d | exact ros_at 3 rfl p d | exact ros_at 4 rfl p d) (by first | assumption | omega) (by assumption)) ?_
                refine WL.nilE (WD.oneL 26 rfl (by decide +kernel) (WL.gY rfl rfl ?_))
                refine WL.callV rfl rfl (fun x p d => findr15_e _ _ _ _ _ _ _ _ _ _ _ _ (by first | assumption | exact ROs.wide (by assumption) | exact ROs.mono (by assumption) (eqh_at 0 rfl p d) | exact ros_at 0 rfl p d | exact ros_at 1 rfl p d | exact ros_at 2 rfl p d | exact ros_at 3 rfl p d | exact ros_at 4 rfl p d) (by first | assumption | omega) (by assumption)) ?_
                refine WL.nilE (WD.takeL 27 rfl (by decide +kernel) (WL.gY rfl rfl (WL.neq rfl rfl rfl (WL.nilT (WD.takeL 28 rfl (by decide +kernel) (WL.gY rfl rfl (WL.pickT rfl rfl rfl (WL.nilT (WD.takeL 29 rfl (by decide +kernel) (WL.pickF rfl rfl rfl (WL.nilT (WD.takeL 30 rfl (by decide +kernel) (WL.mv rfl rfl ?_)))))))))))))
                refine WL.nilT (WD.takeL 31 rfl (by decide +kernel) (WL.gF rfl rfl (by omega) (WL.mv rfl rfl (WL.nilT (WD.takeL 32 rfl (by decide +kernel) (WL.gF rfl rfl (by omega) (WL.mv rfl rfl (WL.nilT (WD.takeL 33 rfl (by decide +kernel) (WL.gY rfl rfl ?_))))))))))
                refine WL.ldABF (T := Ty) rfl rfl rfl rfl (by first | assumption | exact RB.wide (by assumption) | exact In.rb (by assumption)) rfl (by repeat' constructor) ?_
                refine WL.nilT (WD.takeL 34 rfl (by decide +kernel) (WL.gY rfl rfl ?_))
                refine WL.ldABF (T := Ty) rfl rfl rfl rfl (by first | assumption | exact RB.wide (by assumption) | exact In.rb (by assumption)) rfl (by repeat' constructor) ?_
                refine WL.nilT (WD.takeL 36 rfl (by decide +kernel) (WL.gY rfl rfl ?_))
                refine WL.ldABF (T := Ty) rfl rfl rfl rfl (by first | assumption | exact RB.wide (by assumption) | exact In.rb (by assumption)) rfl (by repeat' constructor) ?_
                refine WL.nilT (WD.takeL 37 rfl (by decide +kernel) (WL.gY rfl rfl ?_))
                refine WL.ldABF (T := Ty) rfl rfl rfl rfl (by first | assumption | exact RB.wide (by assumption) | exact In.rb (by assumption)) rfl (by repeat' constructor) ?_
                refine WL.nilT (WD.oneL 35 rfl (by decide +kernel) (WL.gY rfl rfl ?_))
                refine WL.callV rfl rfl (fun x p d => same15_e _ _ _ _ _ _ (by first | assumption | omega) (by first | assumption | exact ROs.wide (by assumption) | exact ROs.mono (by assumption) (eqh_at 0 rfl p d) | exact ros_at 0 rfl p d | exact ros_at 1 rfl p d | exact ros_at 2 rfl p d | exact ros_at 3 rfl p d | exact ros_at 4 rfl p d) (by first | assumption | exact ROs.wide (by assumption) | exact ROs.mono (by assumption) (eqh_at 0 rfl p d) | exact ros_at 0 rfl p d | exact ros_at 1 rfl p d | exact ros_at 2 rfl p d | exact ros_at 3 rfl p d | exact ros_at 4 rfl p d) (by assumption)) ?_
                refine WL.nilE (WD.oneL 38 rfl (by decide +kernel) (WL.gY rfl rfl ?_))
                refine WL.callV rfl rfl (fun x p d => samer15_e _ _ _ _ _ _ (by first | assumption | omega) (by first | assumption | omega) (by first | assumption | exact ROs.wide (by assumption) | exact ROs.mono (by assumption) (eqh_at 0 rfl p d) | exact ros_at 0 rfl p d | exact ros_at 1 rfl p d | exact ros_at 2 rfl p d | exact ros_at 3 rfl p d | exact ros_at 4 rfl p d) (by first | assumption | exact ROs.wide (by assumption) | exact ROs.mono (by assumption) (eqh_at 0 rfl p d) | exact ros_at 0 rfl p d | exact ros_at 1 rfl p d | exact ros_at 2 rfl p d | exact ros_at 3 rfl p d | exact ros_at 4 rfl p d) (by assumption)) ?_
                refine WL.nilE (WD.takeL 39 rfl (by decide +kernel) (WL.gY rfl rfl (WL.neB (T := Ty) rfl rfl rfl rfl (WL.nilT (WD.takeL 40 rfl (by decide +kernel) (WL.gF rfl rfl (by omega) (WL.pickT rfl rfl rfl (WL.nilT (WD.takeL 41 rfl (by decide +kernel) (WL.pickFp rfl rfl (by omega) rfl (WL.nilT ?_)))))))))))
                refine WD.doneF hσ0 (by decide +kernel) (by repeat' constructor) ?_
                refine W.fit (Hs' := [box b1 _ _, box b2 _ _, box b3 _ _, box b5 _ _]) (by (repeat' first | exact Sel.nil | apply Sel.k | exact Pick.h | apply Pick.t)) (W.sub ?_ (cutB () _ (Le.refl _) rfl))
                exact ⟨rfl, rfl, rfl, rfl, rfl, rfl, rfl, rfl, trivial⟩
        · have hn6 : (1000000 : Nat) ≤ 1000000 := Nat.le_refl _
          refine W.seq (W.region (WL.mv rfl rfl (WL.mv rfl rfl ?_)))
          refine WL.ix (T := Ty) rfl rfl rfl (by assumption) rfl rfl (by omega) (by first | omega | decide +kernel) ?_
          refine WL.ldKn (T := Ty) rfl rfl rfl rfl (by first | assumption | exact ROs.wide (by assumption)) (by assumption) ?_
          refine WL.as rfl rfl (WL.nil ?_)
          unfold stepP at hd
          by_cases k1 : x % (7 + 1) < 3
          · rw [if_pos k1] at hd
            refine W.block (W.seq (W.region (WL.mv rfl rfl (WL.andI rfl rfl rfl (by decide) (WL.lss rfl rfl rfl (WL.mv rfl rfl (WL.gdFn rfl rfl rfl rfl rfl (by omega) (WL.gdFn rfl rfl rfl rfl rfl (by omega) (WL.gdFn rfl rfl rfl rfl rfl (by omega) (WL.gdFn rfl rfl rfl rfl rfl (by omega) (WL.gdU rfl rfl rfl rfl rfl (WL.gdU rfl rfl rfl rfl rfl (WL.gdU rfl rfl rfl rfl rfl ?_)))))))))))))
            refine WL.gdU rfl rfl rfl rfl rfl (WL.gdFn rfl rfl rfl rfl rfl (by omega) (WL.pickTp rfl rfl (by omega) rfl (WL.as rfl rfl (WL.nil (W.condT rfl (W.region ?_))))))
            refine WL.ldAF (T := Ty) (j := 3) rfl rfl rfl rfl rfl rfl (by repeat' constructor) ?_
            refine WL.ldAF (T := Ty) (j := 1) rfl rfl rfl rfl rfl rfl (by repeat' constructor) ?_
            refine WL.callF rfl rfl (fun x p d => admit_c _ _ _ _ _ _ (by assumption) (by assumption) (by first | assumption | omega) (by first | assumption | omega) (by first | assumption | exact ROs.wide (by assumption) | exact ROs.mono (by assumption) (eqh_at 0 rfl p d) | exact ros_at 0 rfl p d | exact ros_at 1 rfl p d | exact ros_at 2 rfl p d | exact ros_at 3 rfl p d | exact ros_at 4 rfl p d) (by assumption)) (fun r6 => ?_)
            refine WL.opens (α := Value × Value) (φ := fun x => r6 = .tuple #[.agg #[.int .i64 _, .int .i64 _, x.1, .int .i64 _, .int .i64 _, .int .i64 _], x.2, .bool _] ∧ SL x.1 _ ∧ SL x.2 _) (ps := fun x => [Buf 7 x.1 _, Buf 3 x.2 _]) 0 rfl (fun h q => q) (by repeat' constructor) ?_
            rintro ⟨u6, kv6⟩ ⟨es6, su6, sk6⟩
            subst es6
            dsimp only [List.cons_append, List.nil_append] at su6 sk6 ⊢
            refine WL.mv rfl rfl (WL.extL rfl rfl rfl (WL.extL rfl rfl rfl (WL.extL rfl rfl rfl ?_)))
            refine WL.stAO (T := Ty) (j := 2) rfl rfl rfl rfl (by repeat' first | exact AO.nil | apply AO.cons (by first | rfl | exact SL.one (by assumption))) rfl rfl (by repeat' constructor) (by repeat' constructor) ?_
            refine WL.as rfl rfl (WL.as rfl rfl (WL.nil (W.inBlock ?_)))
            refine W.freeze 0 rfl (by repeat' constructor) (fun ρ5 le5 in5 => ?_)
            refine W.freeze 0 rfl (by repeat' constructor) (fun ρ6 le6 in6 => ?_)
            refine W.fit (Hs' := [box b1 _ _, box b2 _ _, box b3 _ _, box b4 _ _, box b5 _ _]) (by (repeat' first | exact Sel.nil | apply Sel.k | exact Pick.h | apply Pick.t)) (W.sub ?_ (cut0 ⟨_, _⟩ ρ6 (fun b o h => le6 b o (le5 b o h)) ⟨(in5.mono le6).ros, in6.ros⟩))
            exact ⟨rfl, rfl, rfl, rfl, rfl, rfl, rfl, rfl, rfl, rfl, rfl, trivial⟩
          · rw [if_neg k1] at hd
            by_cases k2 : x % (7 + 1) < 5
            · rw [if_pos k2] at hd
              cases hd
              refine W.block (W.seq (W.region (WL.mv rfl rfl (WL.andI rfl rfl rfl (by decide) (WL.lss rfl rfl rfl (WL.mv rfl rfl (WL.gF rfl rfl (by omega) (WL.mv rfl rfl (WL.gF rfl rfl (by omega) (WL.andI rfl rfl rfl (by decide) (WL.gF rfl rfl (by omega) (WL.eql rfl rfl rfl (WL.gF rfl rfl (by omega) ?_)))))))))))))
              refine WL.mv rfl rfl (WL.gdTn rfl rfl rfl rfl rfl (by omega) (WL.gdTn rfl rfl rfl rfl rfl (by omega) (WL.gdTn rfl rfl rfl rfl rfl (by omega) (WL.gdTn rfl rfl rfl rfl rfl (by omega) (WL.gF rfl rfl (by omega) (WL.pickFp rfl rfl (by omega) rfl (WL.pickFp rfl rfl (by omega) rfl (WL.as rfl rfl (WL.nil (W.condF rfl (W.seq (W.region (WL.mv rfl rfl ?_)))))))))))))
              refine WL.andI rfl rfl rfl (by decide) (WL.lss rfl rfl rfl (WL.as rfl rfl (WL.nil (W.condpT rfl (by omega) (W.region ?_)))))
              refine WL.ldAF (T := Ty) (j := 3) rfl rfl rfl rfl rfl rfl (by repeat' constructor) ?_
              refine WL.ldAF (T := Ty) (j := 1) rfl rfl rfl rfl rfl rfl (by repeat' constructor) ?_
              refine WL.callF rfl rfl (fun x p d => touch_c _ _ _ _ (by assumption) (by first | assumption | exact ROs.wide (by assumption) | exact ROs.mono (by assumption) (eqh_at 0 rfl p d) | exact ros_at 0 rfl p d | exact ros_at 1 rfl p d | exact ros_at 2 rfl p d | exact ros_at 3 rfl p d | exact ros_at 4 rfl p d)) (fun r6 => ?_)
              refine WL.opens (α := Value) (φ := fun v => r6 = .tuple #[.agg #[.int .i64 _, .int .i64 _, v, .int .i64 _, .int .i64 _, .int .i64 _], .bool _] ∧ SL v _) (ps := fun v => [Buf 7 v _]) 0 rfl (fun h q => q) (by repeat' constructor) ?_
              rintro u6 ⟨es6, su6⟩
              subst es6
              dsimp only [List.cons_append, List.nil_append] at su6 ⊢
              refine WL.mv rfl rfl (WL.extL rfl rfl rfl (WL.extL rfl rfl rfl ?_))
              refine WL.stAO (T := Ty) (j := 1) rfl rfl rfl rfl (by repeat' first | exact AO.nil | apply AO.cons (by first | rfl | exact SL.one (by assumption))) rfl rfl (by repeat' constructor) (by repeat' constructor) ?_
              refine WL.as rfl rfl (WL.nil (W.inBlock ?_))
              refine W.freeze 0 rfl (by repeat' constructor) (fun ρ5 le5 in5 => ?_)
              refine W.fit (Hs' := [box b1 _ _, box b2 _ _, box b3 _ _, box b4 _ _, box b5 _ _]) (by (repeat' first | exact Sel.nil | apply Sel.k | exact Pick.h | apply Pick.t)) (W.sub ?_ (cut0 ⟨_, _⟩ ρ5 le5 ⟨in5.ros, rosKW ρ5⟩))
              exact ⟨rfl, rfl, rfl, rfl, rfl, rfl, rfl, rfl, rfl, rfl, rfl, trivial⟩
            · rw [if_neg k2] at hd
              by_cases k3 : x % (7 + 1) < 7
              · rw [if_pos k3] at hd
                cases hd
                refine W.block (W.seq (W.region (WL.mv rfl rfl (WL.andI rfl rfl rfl (by decide) (WL.lss rfl rfl rfl (WL.mv rfl rfl (WL.gF rfl rfl (by omega) (WL.mv rfl rfl (WL.gF rfl rfl (by omega) (WL.andI rfl rfl rfl (by decide) (WL.gF rfl rfl (by omega) (WL.eql rfl rfl rfl (WL.gF rfl rfl (by omega) ?_)))))))))))))
                refine WL.mv rfl rfl (WL.gdTn rfl rfl rfl rfl rfl (by omega) (WL.gdTn rfl rfl rfl rfl rfl (by omega) (WL.gdTn rfl rfl rfl rfl rfl (by omega) (WL.gdTn rfl rfl rfl rfl rfl (by omega) (WL.gF rfl rfl (by omega) (WL.pickFp rfl rfl (by omega) rfl (WL.pickFp rfl rfl (by omega) rfl (WL.as rfl rfl (WL.nil (W.condF rfl (W.seq (W.region (WL.mv rfl rfl ?_)))))))))))))
                refine WL.andI rfl rfl rfl (by decide) (WL.lss rfl rfl rfl (WL.as rfl rfl (WL.nil (W.condpF rfl (by omega) (W.seq (W.region (WL.mv rfl rfl (WL.andI rfl rfl rfl (by decide) (WL.lss rfl rfl rfl (WL.as rfl rfl (WL.nil (W.condpT rfl (by omega) (W.region ?_)))))))))))))
                refine WL.ldAF (T := Ty) (j := 3) rfl rfl rfl rfl rfl rfl (by repeat' constructor) ?_
                refine WL.ldAF (T := Ty) (j := 1) rfl rfl rfl rfl rfl rfl (by repeat' constructor) ?_
                refine WL.mv rfl rfl (WL.shrS (c := 256) rfl rfl rfl (by omega) (by decide) (WL.andI rfl rfl rfl (by decide) (WL.subK rfl rfl rfl (wrap_i64 ⟨by omega, by omega⟩) (WL.mv rfl rfl (WL.andI rfl rfl rfl (by decide) (WL.subK rfl rfl rfl (wrap_i64 ⟨by omega, by omega⟩) ?_))))))
                refine WL.callF rfl rfl (fun x p d => pin_c _ _ _ _ _ (by assumption) (by first | assumption | exact ROs.wide (by assumption) | exact ROs.mono (by assumption) (eqh_at 0 rfl p d) | exact ros_at 0 rfl p d | exact ros_at 1 rfl p d | exact ros_at 2 rfl p d | exact ros_at 3 rfl p d | exact ros_at 4 rfl p d)) (fun r6 => ?_)
                refine WL.opens (α := Value) (φ := fun v => r6 = .tuple #[.agg #[.int .i64 _, .int .i64 _, v, .int .i64 _, .int .i64 _, .int .i64 _], .bool _] ∧ SL v _) (ps := fun v => [Buf 7 v _]) 0 rfl (fun h q => q) (by repeat' constructor) ?_
                rintro u6 ⟨es6, su6⟩
                subst es6
                dsimp only [List.cons_append, List.nil_append] at su6 ⊢
                refine WL.mv rfl rfl (WL.extL rfl rfl rfl (WL.extL rfl rfl rfl ?_))
                refine WL.stAO (T := Ty) (j := 1) rfl rfl rfl rfl (by repeat' first | exact AO.nil | apply AO.cons (by first | rfl | exact SL.one (by assumption))) rfl rfl (by repeat' constructor) (by repeat' constructor) ?_
                refine WL.as rfl rfl (WL.nil (W.inBlock ?_))
                refine W.freeze 0 rfl (by repeat' constructor) (fun ρ5 le5 in5 => ?_)
                refine W.fit (Hs' := [box b1 _ _, box b2 _ _, box b3 _ _, box b4 _ _, box b5 _ _]) (by (repeat' first | exact Sel.nil | apply Sel.k | exact Pick.h | apply Pick.t)) (W.sub ?_ (cut0 ⟨_, _⟩ ρ5 le5 ⟨in5.ros, rosKW ρ5⟩))
                exact ⟨rfl, rfl, rfl, rfl, rfl, rfl, rfl, rfl, rfl, rfl, rfl, trivial⟩
              · rw [if_neg k3] at hd
                by_cases k4 : 0 < x / 256 % (3 + 1)
                · rw [if_pos k4] at hd
                  refine W.block (W.seq (W.region (WL.mv rfl rfl (WL.andI rfl rfl rfl (by decide) (WL.lss rfl rfl rfl (WL.mv rfl rfl (WL.gF rfl rfl (by omega) (WL.mv rfl rfl (WL.gF rfl rfl (by omega) (WL.andI rfl rfl rfl (by decide) (WL.gF rfl rfl (by omega) (WL.eql rfl rfl rfl (WL.gF rfl rfl (by omega) ?_)))))))))))))
                  refine WL.mv rfl rfl (WL.gT rfl rfl (by omega) (WL.mv rfl rfl (WL.gT rfl rfl (by omega) (WL.shrS (c := 256) rfl rfl rfl (by omega) (by decide) (WL.gT rfl rfl (by omega) (WL.andI rfl rfl rfl (by decide) (WL.gT rfl rfl (by omega) (WL.gtr rfl rfl rfl (WL.gF rfl rfl (by omega) (WL.pickTp rfl rfl (by omega) rfl (WL.pickFp rfl rfl (by omega) rfl (WL.as rfl rfl (WL.nil ?_)))))))))))))
                  refine W.condpT rfl (by omega) (W.region ?_)
                  refine WL.ldAF (T := Ty) (j := 3) rfl rfl rfl rfl rfl rfl (by repeat' constructor) ?_
                  refine WL.ldAF (T := Ty) (j := 1) rfl rfl rfl rfl rfl rfl (by repeat' constructor) ?_
                  refine WL.callF rfl rfl (fun x p d => admit_c _ _ _ _ _ _ (by assumption) (by assumption) (by first | assumption | omega) (by first | assumption | omega) (by first | assumption | exact ROs.wide (by assumption) | exact ROs.mono (by assumption) (eqh_at 0 rfl p d) | exact ros_at 0 rfl p d | exact ros_at 1 rfl p d | exact ros_at 2 rfl p d | exact ros_at 3 rfl p d | exact ros_at 4 rfl p d) (by assumption)) (fun r6 => ?_)
                  refine WL.opens (α := Value × Value) (φ := fun x => r6 = .tuple #[.agg #[.int .i64 _, .int .i64 _, x.1, .int .i64 _, .int .i64 _, .int .i64 _], x.2, .bool _] ∧ SL x.1 _ ∧ SL x.2 _) (ps := fun x => [Buf 7 x.1 _, Buf 3 x.2 _]) 0 rfl (fun h q => q) (by repeat' constructor) ?_
                  rintro ⟨u6, kv6⟩ ⟨es6, su6, sk6⟩
                  subst es6
                  dsimp only [List.cons_append, List.nil_append] at su6 sk6 ⊢
                  refine WL.mv rfl rfl (WL.extL rfl rfl rfl (WL.extL rfl rfl rfl (WL.extL rfl rfl rfl ?_)))
                  refine WL.stAO (T := Ty) (j := 2) rfl rfl rfl rfl (by repeat' first | exact AO.nil | apply AO.cons (by first | rfl | exact SL.one (by assumption))) rfl rfl (by repeat' constructor) (by repeat' constructor) ?_
                  refine WL.as rfl rfl (WL.as rfl rfl (WL.nil (W.inBlock ?_)))
                  refine W.freeze 0 rfl (by repeat' constructor) (fun ρ5 le5 in5 => ?_)
                  refine W.freeze 0 rfl (by repeat' constructor) (fun ρ6 le6 in6 => ?_)
                  refine W.fit (Hs' := [box b1 _ _, box b2 _ _, box b3 _ _, box b4 _ _, box b5 _ _]) (by (repeat' first | exact Sel.nil | apply Sel.k | exact Pick.h | apply Pick.t)) (W.sub ?_ (cut0 ⟨_, _⟩ ρ6 (fun b o h => le6 b o (le5 b o h)) ⟨(in5.mono le6).ros, in6.ros⟩))
                  exact ⟨rfl, rfl, rfl, rfl, rfl, rfl, rfl, rfl, rfl, rfl, rfl, trivial⟩
                · rw [if_neg k4] at hd
                  cases hd
                  refine W.block (W.seq (W.region (WL.mv rfl rfl (WL.andI rfl rfl rfl (by decide) (WL.lss rfl rfl rfl (WL.mv rfl rfl (WL.gF rfl rfl (by omega) (WL.mv rfl rfl (WL.gF rfl rfl (by omega) (WL.andI rfl rfl rfl (by decide) (WL.gF rfl rfl (by omega) (WL.eql rfl rfl rfl (WL.gF rfl rfl (by omega) ?_)))))))))))))
                  refine WL.mv rfl rfl (WL.gT rfl rfl (by omega) (WL.mv rfl rfl (WL.gT rfl rfl (by omega) (WL.shrS (c := 256) rfl rfl rfl (by omega) (by decide) (WL.gT rfl rfl (by omega) (WL.andI rfl rfl rfl (by decide) (WL.gT rfl rfl (by omega) (WL.gtr rfl rfl rfl (WL.gF rfl rfl (by omega) (WL.pickTp rfl rfl (by omega) rfl (WL.pickFp rfl rfl (by omega) rfl (WL.as rfl rfl (WL.nil ?_)))))))))))))
                  refine W.condpF rfl (by omega) (W.seq (W.region (WL.mv rfl rfl (WL.andI rfl rfl rfl (by decide) (WL.lss rfl rfl rfl (WL.as rfl rfl (WL.nil (W.condpF rfl (by omega) (W.seq (W.region (WL.mv rfl rfl (WL.andI rfl rfl rfl (by decide) (WL.lss rfl rfl rfl ?_)))))))))))))
                  refine WL.as rfl rfl (WL.nil (W.condpF rfl (by omega) (W.region ?_)))
                  refine WL.ldAF (T := Ty) (j := 3) rfl rfl rfl rfl rfl rfl (by repeat' constructor) ?_
                  refine WL.ldAF (T := Ty) (j := 1) rfl rfl rfl rfl rfl rfl (by repeat' constructor) ?_
                  refine WL.callF rfl rfl (fun x p d => drop_c _ _ _ _ (by assumption) (by first | assumption | exact ROs.wide (by assumption) | exact ROs.mono (by assumption) (eqh_at 0 rfl p d) | exact ros_at 0 rfl p d | exact ros_at 1 rfl p d | exact ros_at 2 rfl p d | exact ros_at 3 rfl p d | exact ros_at 4 rfl p d)) (fun r6 => ?_)
                  refine WL.opens (α := Value) (φ := fun v => r6 = .tuple #[.agg #[.int .i64 _, .int .i64 _, v, .int .i64 _, .int .i64 _, .int .i64 _], .bool _] ∧ SL v _) (ps := fun v => [Buf 7 v _]) 0 rfl (fun h q => q) (by repeat' constructor) ?_
                  rintro u6 ⟨es6, su6⟩
                  subst es6
                  dsimp only [List.cons_append, List.nil_append] at su6 ⊢
                  refine WL.mv rfl rfl (WL.extL rfl rfl rfl (WL.extL rfl rfl rfl ?_))
                  refine WL.stAO (T := Ty) (j := 1) rfl rfl rfl rfl (by repeat' first | exact AO.nil | apply AO.cons (by first | rfl | exact SL.one (by assumption))) rfl rfl (by repeat' constructor) (by repeat' constructor) ?_
                  refine WL.as rfl rfl (WL.nil (W.inBlock ?_))
                  refine W.freeze 0 rfl (by repeat' constructor) (fun ρ5 le5 in5 => ?_)
                  refine W.fit (Hs' := [box b1 _ _, box b2 _ _, box b3 _ _, box b4 _ _, box b5 _ _]) (by (repeat' first | exact Sel.nil | apply Sel.k | exact Pick.h | apply Pick.t)) (W.sub ?_ (cut0 ⟨_, _⟩ ρ5 le5 ⟨in5.ros, rosKW ρ5⟩))
                  exact ⟨rfl, rfl, rfl, rfl, rfl, rfl, rfl, rfl, rfl, rfl, rfl, trivial⟩
      · refine W.drawA 13 rfl (fun σ0 hσ0 dσ0 => ?_)
        have fσ0_0 := rb_at 0 rfl hσ0 dσ0
        have fσ0_1 := rb_at 1 rfl hσ0 dσ0
        refine WD.takeL 0 rfl (by decide +kernel) ?_
        refine WL.ldABF (T := Ty) rfl rfl rfl rfl (by first | assumption | exact RB.wide (by assumption) | exact In.rb (by assumption)) rfl (by repeat' constructor) ?_
        refine WL.nilT (WD.takeL 1 rfl (by decide +kernel) (WL.mv rfl rfl (WL.nilT (WD.takeL 2 rfl (by decide +kernel) (WL.mv rfl rfl (WL.nilT (WD.takeL 3 rfl (by decide +kernel) ?_)))))))
        refine WL.ix (T := Ty) rfl rfl rfl (by assumption) rfl rfl (by omega) (by first | omega | decide +kernel) ?_
        refine WL.nilT (WD.takeL 4 rfl (by decide +kernel) ?_)
        refine WL.ldKn (T := Ty) rfl rfl rfl rfl (by first | assumption | exact ROs.wide (by assumption)) (by assumption) ?_
        refine WL.nilT ?_
        refine WD.twoL 5 10 rfl rfl (by decide +kernel) ?_ ?_
        · refine WL.callF rfl rfl (fun x p d => step15_c _ _ _ _ _ (by assumption) (by first | assumption | exact ROs.wide (by assumption) | exact ROs.mono (by assumption) (eqh_at 0 rfl p d) | exact ros_at 0 rfl p d | exact ros_at 1 rfl p d | exact ros_at 2 rfl p d | exact ros_at 3 rfl p d | exact ros_at 4 rfl p d) (by assumption)) (fun r3 => ?_)
          refine WL.opens (α := Value × Value) (φ := fun x => r3 = .tuple #[.agg #[.int .i64 _, .int .i64 _, x.1, .int .i64 _, .int .i64 _, .int .i64 _], x.2, .bool _] ∧ SL x.1 _ ∧ SL x.2 _) (ps := fun x => [Buf 7 x.1 _, Buf 3 x.2 _]) 0 rfl (fun h q => q) (by repeat' constructor) ?_
          rintro ⟨u3, kv3⟩ ⟨es3, su3, sk3⟩
          subst es3
          dsimp only [List.cons_append, List.nil_append] at su3 sk3 ⊢
          refine WL.nilSS (WD.takeL 6 rfl (by decide +kernel) (WL.mv rfl rfl (WL.nilT (WD.takeL 7 rfl (by decide +kernel) (WL.extL rfl rfl rfl (WL.nilT (WD.takeL 8 rfl (by decide +kernel) (WL.extL rfl rfl rfl (WL.nilT (WD.takeL 9 rfl (by decide +kernel) (WL.extL rfl rfl rfl (WL.nilT (WD.oneL 10 rfl (by decide +kernel) ?_)))))))))))))
          refine WL.alF (T := Ty) rfl rfl (by repeat' constructor) (fun b4 => ?_)
          refine WL.nilS (WD.oneL 11 rfl (by decide +kernel) ?_)
          refine WL.stAO (T := Ty) (j := 1) rfl rfl rfl rfl (by repeat' first | exact AO.nil | apply AO.cons (by first | rfl | exact SL.one (by assumption))) rfl rfl (by repeat' constructor) (by repeat' constructor) ?_
          refine WL.nilE (WD.takeL 12 rfl (by decide +kernel) (WL.as rfl rfl (WL.nilT ?_)))
          refine WD.lastG hσ0 (by decide +kernel) (by repeat' constructor) rfl (by repeat' constructor) ?_
          refine WL.as rfl rfl (WL.nil ?_)
          first | (refine W.fit (Hs' := [Buf 7 _ (d.pages.flatMap pgC), Buf 3 _ (out.flatMap kyC), box b5 _ _, box b1 _ _, box b2 _ _]) (by (repeat' first | exact Sel.nil | apply Sel.k | exact Pick.h | apply Pick.t)) (W.sub ?_ (cutA ⟨b5, _, _⟩ _ (Le.refl _) trivial))) | (refine W.fit (Hs' := [Buf 7 _ (d.pages.flatMap pgC), Buf 3 _ (out.flatMap kyC), box b4 _ _, box b1 _ _, box b2 _ _]) (by (repeat' first | exact Sel.nil | apply Sel.k | exact Pick.h | apply Pick.t)) (W.sub ?_ (cutA ⟨b4, _, _⟩ _ (Le.refl _) trivial))) | (refine W.fit (Hs' := [Buf 7 _ (d.pages.flatMap pgC), Buf 3 _ (out.flatMap kyC), box b3 _ _, box b1 _ _, box b2 _ _]) (by (repeat' first | exact Sel.nil | apply Sel.k | exact Pick.h | apply Pick.t)) (W.sub ?_ (cutA ⟨b3, _, _⟩ _ (Le.refl _) trivial))) | (refine W.fit (Hs' := [Buf 7 _ (d.pages.flatMap pgC), Buf 3 _ (out.flatMap kyC), box b6 _ _, box b1 _ _, box b2 _ _]) (by (repeat' first | exact Sel.nil | apply Sel.k | exact Pick.h | apply Pick.t)) (W.sub ?_ (cutA ⟨b6, _, _⟩ _ (Le.refl _) trivial)))
          exact ⟨rfl, rfl, rfl, rfl, rfl, rfl, rfl, trivial⟩
        · refine WL.alF (T := Ty) rfl rfl (by repeat' constructor) (fun b3 => ?_)
          refine WL.nilS (WD.oneL 5 rfl (by decide +kernel) ?_)
          refine WL.callF rfl rfl (fun x p d => step15_c _ _ _ _ _ (by assumption) (by first | assumption | exact ROs.wide (by assumption) | exact ROs.mono (by assumption) (eqh_at 0 rfl p d) | exact ros_at 0 rfl p d | exact ros_at 1 rfl p d | exact ros_at 2 rfl p d | exact ros_at 3 rfl p d | exact ros_at 4 rfl p d) (by assumption)) (fun r4 => ?_)
          refine WL.opens (α := Value × Value) (φ := fun x => r4 = .tuple #[.agg #[.int .i64 _, .int .i64 _, x.1, .int .i64 _, .int .i64 _, .int .i64 _], x.2, .bool _] ∧ SL x.1 _ ∧ SL x.2 _) (ps := fun x => [Buf 7 x.1 _, Buf 3 x.2 _]) 0 rfl (fun h q => q) (by repeat' constructor) ?_
          rintro ⟨u4, kv4⟩ ⟨es4, su4, sk4⟩
          subst es4
          dsimp only [List.cons_append, List.nil_append] at su4 sk4 ⊢
          refine WL.nilSS (WD.takeL 6 rfl (by decide +kernel) (WL.mv rfl rfl (WL.nilT (WD.takeL 7 rfl (by decide +kernel) (WL.extL rfl rfl rfl (WL.nilT (WD.takeL 8 rfl (by decide +kernel) (WL.extL rfl rfl rfl (WL.nilT (WD.takeL 9 rfl (by decide +kernel) (WL.extL rfl rfl rfl (WL.nilT (WD.oneL 11 rfl (by decide +kernel) ?_)))))))))))))
          refine WL.stAO (T := Ty) (j := 3) rfl rfl rfl rfl (by repeat' first | exact AO.nil | apply AO.cons (by first | rfl | exact SL.one (by assumption))) rfl rfl (by repeat' constructor) (by repeat' constructor) ?_
          refine WL.nilE (WD.takeL 12 rfl (by decide +kernel) (WL.as rfl rfl (WL.nilT ?_)))
          refine WD.lastG hσ0 (by decide +kernel) (by repeat' constructor) rfl (by repeat' constructor) ?_
          refine WL.as rfl rfl (WL.nil ?_)
          first | (refine W.fit (Hs' := [Buf 7 _ (d.pages.flatMap pgC), Buf 3 _ (out.flatMap kyC), box b5 _ _, box b1 _ _, box b2 _ _]) (by (repeat' first | exact Sel.nil | apply Sel.k | exact Pick.h | apply Pick.t)) (W.sub ?_ (cutA ⟨b5, _, _⟩ _ (Le.refl _) trivial))) | (refine W.fit (Hs' := [Buf 7 _ (d.pages.flatMap pgC), Buf 3 _ (out.flatMap kyC), box b4 _ _, box b1 _ _, box b2 _ _]) (by (repeat' first | exact Sel.nil | apply Sel.k | exact Pick.h | apply Pick.t)) (W.sub ?_ (cutA ⟨b4, _, _⟩ _ (Le.refl _) trivial))) | (refine W.fit (Hs' := [Buf 7 _ (d.pages.flatMap pgC), Buf 3 _ (out.flatMap kyC), box b3 _ _, box b1 _ _, box b2 _ _]) (by (repeat' first | exact Sel.nil | apply Sel.k | exact Pick.h | apply Pick.t)) (W.sub ?_ (cutA ⟨b3, _, _⟩ _ (Le.refl _) trivial))) | (refine W.fit (Hs' := [Buf 7 _ (d.pages.flatMap pgC), Buf 3 _ (out.flatMap kyC), box b6 _ _, box b1 _ _, box b2 _ _]) (by (repeat' first | exact Sel.nil | apply Sel.k | exact Pick.h | apply Pick.t)) (W.sub ?_ (cutA ⟨b6, _, _⟩ _ (Le.refl _) trivial)))
          exact ⟨rfl, rfl, rfl, rfl, rfl, rfl, rfl, trivial⟩
    · refine W.seq ?_
      refine W.seq (W.region (WL.mv rfl rfl (WL.mv rfl rfl ?_)))
      refine WL.len (T := Ty) rfl rfl (by assumption) rfl ?_
      refine WL.lss rfl rfl rfl (WL.mv rfl rfl (WL.gT rfl rfl (by omega) (WL.mv rfl rfl (WL.gT rfl rfl (by omega) (WL.lss rfl rfl rfl (WL.pickTp rfl rfl (by omega) rfl (WL.nil (W.condpF rfl (by omega) (W.exit rfl (W.seq (W.region ?_)))))))))))
      refine WL.callV rfl rfl (fun x p d => awake15_c _) ?_
      refine WL.as rfl rfl (WL.nil ?_)
      exact W.fit (Hs' := []) (by (repeat' first | exact Sel.nil | apply Sel.k | exact Pick.h | apply Pick.t)) (W.ret1 rfl rfl (fun h q => rfl))
  · refine W.seq ?_
    refine W.seq (W.region (WL.mv rfl rfl (WL.mv rfl rfl ?_)))
    refine WL.len (T := Ty) rfl rfl (by assumption) rfl ?_
    refine WL.lss rfl rfl rfl (WL.mv rfl rfl (WL.gdTn rfl rfl rfl rfl rfl (by omega) (WL.gdTn rfl rfl rfl rfl rfl (by omega) (WL.pickFp rfl rfl (by omega) rfl (WL.nil (W.condF rfl (W.exit rfl (W.seq (W.region ?_)))))))))
    refine WL.callV rfl rfl (fun x p d => awake15_c _) ?_
    refine WL.as rfl rfl (WL.nil ?_)
    exact W.fit (Hs' := []) (by (repeat' first | exact Sel.nil | apply Sel.k | exact Pick.h | apply Pick.t)) (W.ret1 rfl rfl (fun h q => rfl))
end Go.Proofs.Ytbebhmdjnneimaa
