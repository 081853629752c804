/- CachDrops. -/
import Derived.Test.YtdpnpipninggeaaStc
import Derived.Test.YtdpnpipninggeaaNum
import Derived.Test.YtdpnpipninggeaaTab
import Derived.Test.YtdpnpipninggeaaCachAw
import Derived.Test.YtdpnpipninggeaaCachLaw
import Derived.Test.YtdpnpipninggeaaClkKey
import Derived.Test.YtdpnpipninggeaaBrg
set_option linter.unusedSimpArgs false
set_option linter.unusedVariables false
set_option maxRecDepth 20000
set_option maxHeartbeats 4000000
namespace Go.Proofs.Ytdpnpipninggeaa
open Go
theorem rosR0 (ρ : Hp) (m : Int) : ROs ρ 7 nilV ((ring0 m).pages.flatMap pgC) := .inl ⟨rfl, rfl⟩
theorem ring1_len (m : Int) (k : Ky) (p : Int) : (ring1 m k p).pages.length = 1 := rfl
attribute [local irreducible] W WL Fn Buf ROs SL eptr box Rd Src bndOK WD RB Reads In Own fndK touchP pinP dropP admitP Qm qget qset qdel delsQ newP keyP ring0 ring1 rowP
theorem CachDrops_fn (ρ : Hp) (a0 : Int) (w0 : (Lit.int .i64 a0).wf = true) (a1 : Int) (w1 : (Lit.int .i64 a1).wf = true) :
  Fn Try.prog 5 #[.int .i64 a0, .int .i64 a1] ρ [] (fun r _ => r = .bool true) := by
 have hm1 : (1 : Int) ≤ 3 := by decide
 have hm2 : (3 : Int) ≤ 8 := by decide
 generalize hk : keyP a0 = k
 generalize hj : keyP a1 = j
 have d0 := admit_new hm1 k
 have p1 := pin_up 3 k
 have p2 := pin_down 3 k
 have dr := drop_one 3 k 0
 have t0 := touch_nil 3 k
 have f0 := fnd_nil 3 k
 have f1 := fnd_one 3 k 0
 have f2 := fnd_one 3 k 1
 obtain ⟨q1, g1, hq1⟩ : ∃ p : Pg, (ring1 3 k 0).pages[0]? = some p ∧ p.pins ≤ 0 := ⟨⟨k, 2, false, true, 0⟩, by unfold ring1; rfl, by show (0 : Int) ≤ 0; decide⟩
 obtain ⟨q2, g2, hq2⟩ : ∃ p : Pg, (ring1 3 k 1).pages[0]? = some p ∧ 0 < p.pins := ⟨⟨k, 2, false, true, 1⟩, by unfold ring1; rfl, by show (0 : Int) < 1; decide⟩
 have bb0 := ring0B hm1 hm2
 have bb1 := ring1B hm1 hm2 k
 have bb2 := ring1P hm1 hm2 k
 have B0 := bb0.B
 have R0 := bb0.R
 have B1 := bb1.B
 have B2 := bb2.B
 have l0 : (ring0 3).pages.length ≤ 10000 := by unfold ring0; exact Nat.zero_le _
 have l1 : (ring1 3 k 0).pages.length ≤ 1000000 := by rw [ring1_len]; decide
 have l2 : (ring1 3 k 1).pages.length ≤ 1000000 := by rw [ring1_len]; decide
 have z0 : (ring0 3).pages.length = 0 := by unfold ring0; rfl
 have hn6 : (1000000 : Nat) ≤ 1000000 := Nat.le_refl _
 have r0 : ROs ρ 7 nilV ((ring0 3).pages.flatMap pgC) := rosR0 ρ 3
 have h3 := rowP_len 3
 have h2 := rowP_len 2
 refine in5 rfl rfl ?_
 refine W.seq (W.region (WL.as rfl rfl (WL.nil (W.seq (W.region ?_)))))
 refine WL.callF rfl rfl (fun x p d => newc_c _ _) (fun r0 => ?_)
 refine WL.opens (α := Nat × Nat) (φ := fun x => r0 = pt x.1 0) (ps := fun x => [box x.1 _ 55, Qm .i64 x.2 _]) 0 rfl (fun h q => q) (by repeat' constructor) ?_
 rintro ⟨b0, m0⟩ es0
 subst es0
 dsimp only [List.cons_append, List.nil_append] at *
 refine WL.as rfl rfl (WL.nil (W.seq (W.region (WL.mv rfl rfl ?_))))
 refine WL.callV rfl rfl (fun x p d => key15_c _ _) ?_
 refine WL.mv rfl rfl ?_
 refine WL.callV rfl rfl (fun x p d => key15_c _ _) ?_
 refine WL.alF (T := Ty) rfl rfl (by repeat' constructor) (fun b1 => ?_)
 refine WL.alF (T := Ty) rfl rfl (by repeat' constructor) (fun b2 => ?_)
 refine WL.stAO (T := Ty) (j := 1) rfl rfl rfl rfl (by repeat' first | exact AO.nil | apply AO.cons (by first | rfl | exact SL.one (by assumption))) rfl rfl (by repeat' constructor) (by repeat' constructor) ?_
 refine WL.stAO (T := Ty) (j := 0) rfl rfl rfl rfl (by repeat' first | exact AO.nil | apply AO.cons (by first | rfl | exact SL.one (by assumption))) rfl rfl (by repeat' constructor) (by repeat' constructor) ?_
 refine WL.nil (W.seq (W.seq ?_))
 rw [newP_ring hm1 hm2, hk, hj]
 refine W.cutG (τ := Value × Value) (fun s => [(4, .bool false), (5, pt b0 0), (6, pt b1 0), (7, pt b2 0), (34, .bool false)]) (fun s => [box b0 [.int .i64 (ring1 3 k 1).most, .int .i64 (ring1 3 k 1).target, s.1, .int .i64 ((ring1 3 k 1).hot : Int), .int .i64 ((ring1 3 k 1).cold : Int), .int .i64 ((ring1 3 k 1).test : Int), .map (some m0)] 55, Qm .i64 m0 [(k, s.2)], Buf 7 s.1 ((ring1 3 k 1).pages.flatMap pgC), box b2 [.int .i64 j.a, .int .i64 j.b, .int .i64 j.c] 28, box b1 [.int .i64 k.a, .int .i64 k.b, .int .i64 k.c] 28]) (fun s ρ' => SL s.1 (ring1 3 k 1).pages.length) ?_ (fun cut => ?_)
 ·rintro ⟨v, val⟩ ρ1 le1 sv
  dsimp only at sv ⊢
  have hky := ky_dec k j
  have hdl := qdel_one k val
  have hdl0 : (qdel [(k, val)] k).length = 0 := by rw [hdl]; rfl
  have hFr : ∀ v', (qset (delsQ (qdel [(k, val)] k) []) k v').length = 1 := fun v' => by rw [hdl, qset_one]; rfl
  by_cases hkj : k = j
  ·rw [decide_eq_true hkj] at hky
   refine W.condF rfl (W.skip (W.seq (W.seq (W.region ?_))))
   refine WL.ldAF (T := Ty) (j := 4) rfl rfl rfl rfl rfl rfl (by repeat' constructor) ?_
   refine WL.ldAF (T := Ty) (j := 3) rfl rfl rfl rfl rfl rfl (by repeat' constructor) ?_
   refine WL.neFe (T := Ty) rfl rfl rfl rfl (by repeat' first | exact FE.nil | apply FE.int (by decide) rfl rfl rfl rfl | apply FE.bool (by decide) rfl rfl rfl rfl | apply FE.sub (by decide) rfl (by kernel_rfl) rfl rfl) (by kernel_rfl) (by kernel_rfl) (by assumption) ?_
   refine WL.mv rfl rfl (WL.gdN rfl rfl rfl rfl rfl rfl (WL.gdN rfl rfl rfl rfl rfl rfl (WL.gdN rfl rfl rfl rfl rfl rfl (WL.gdN rfl rfl rfl rfl rfl rfl (WL.gdU rfl rfl rfl rfl rfl (WL.gdU rfl rfl rfl rfl rfl (WL.gdU rfl rfl rfl rfl rfl (WL.gdN rfl rfl rfl rfl rfl rfl (WL.gdN rfl rfl rfl rfl rfl rfl (WL.gdU rfl rfl rfl rfl rfl (WL.gdU rfl rfl rfl rfl rfl (WL.gdU rfl rfl rfl rfl rfl (WL.gdN rfl rfl rfl rfl rfl rfl ?_)))))))))))))
   refine WL.pickF rfl rfl rfl (WL.nil (W.condF rfl (W.skip (W.seq (W.seq (W.region (WL.mv rfl rfl ?_)))))))
   refine WL.ldAF (T := Ty) (j := 4) rfl rfl rfl rfl rfl rfl (by repeat' constructor) ?_
   refine WL.callTk (Take.cons 0 rfl (Take.cons 0 rfl Take.nil)) rfl rfl (fun x p d => UnCX_c _ _ _ _ _ _ _ _ _ _ _ _ (by assumption) (by first | assumption | exact ROs.wide (by assumption) | exact ROs.mono (by assumption) (eqh_at 0 rfl p d) | exact ros_at 0 rfl p d | exact ros_at 1 rfl p d | exact ros_at 2 rfl p d | exact ros_at 3 rfl p d | exact ros_at 4 rfl p d) (by assumption) (by assumption) (by first | assumption | omega | decide) (by assumption)) (by repeat' constructor) (fun r3 => ?_)
   refine WL.opens (α := Value) (φ := fun x => r3 = .bool true ∧ SL x _) (ps := fun x => [_, Buf 7 x _, Qm .i64 _ _]) 0 rfl (fun h q => q) (by repeat' constructor) ?_
   rintro u3 ⟨es3, su3⟩
   subst es3
   dsimp only [List.cons_append, List.nil_append] at su3 ⊢
   refine WL.not rfl rfl (WL.mv rfl rfl (WL.gY rfl rfl (WL.mv rfl rfl (WL.gY rfl rfl ?_))))
   refine WL.ldAF (T := Ty) (j := 5) rfl rfl rfl rfl rfl rfl (by repeat' constructor) ?_
   refine WL.gY rfl rfl ?_
   refine WL.callTk (Take.cons 0 rfl (Take.cons 1 rfl Take.nil)) rfl rfl (fun x p d => DrCX_c _ _ _ _ _ _ _ _ _ _ _ _ (by assumption) (by first | assumption | exact ROs.wide (by assumption) | exact ROs.mono (by assumption) (eqh_at 0 rfl p d) | exact ros_at 0 rfl p d | exact ros_at 1 rfl p d | exact ros_at 2 rfl p d | exact ros_at 3 rfl p d | exact ros_at 4 rfl p d) (by assumption) (by assumption) (by first | assumption | omega | decide) (by assumption)) (by repeat' constructor) (fun r4 => ?_)
   refine WL.opens (α := Value) (φ := fun x => r4 = .bool true ∧ SL x _) (ps := fun x => [_, Buf 7 x _, Qm .i64 _ _]) 0 rfl (fun h q => q) (by repeat' constructor) ?_
   rintro u4 ⟨es4, su4⟩
   subst es4
   dsimp only [List.cons_append, List.nil_append] at su4 ⊢
   refine WL.gY rfl rfl (WL.not rfl rfl (WL.pickF rfl rfl rfl (WL.mv rfl rfl (WL.gY rfl rfl (WL.mv rfl rfl (WL.gY rfl rfl ?_))))))
   refine WL.ldAF (T := Ty) (j := 6) rfl rfl rfl rfl rfl rfl (by repeat' constructor) ?_
   refine WL.gY rfl rfl ?_
   refine WL.callTk (Take.cons 0 rfl (Take.cons 1 rfl Take.nil)) rfl rfl (fun x p d => DrAX_c _ _ _ _ _ _ _ _ _ (by assumption) (by first | assumption | exact ROs.wide (by assumption) | exact ROs.mono (by assumption) (eqh_at 0 rfl p d) | exact ros_at 0 rfl p d | exact ros_at 1 rfl p d | exact ros_at 2 rfl p d | exact ros_at 3 rfl p d | exact ros_at 4 rfl p d) (by assumption)) (by repeat' constructor) (fun r5 => ?_)
   refine WL.opens (α := Unit) (φ := fun _ => r5 = .bool false) (ps := fun _ => [_, Qm .i64 _ _]) 0 rfl (fun h q => ⟨(), q⟩) (by repeat' constructor) ?_
   rintro _ es5
   subst es5
   dsimp only [List.cons_append, List.nil_append]
   refine WL.pickF rfl rfl rfl (WL.mv rfl rfl (WL.gY rfl rfl (WL.mv rfl rfl (WL.gY rfl rfl ?_))))
   refine WL.callTk (Take.cons 0 rfl (Take.cons 0 rfl Take.nil)) rfl rfl (fun x p d => frames_e _ _ _ _ _ _ _ (by first | assumption | exact hFr _)) (by repeat' constructor) (fun r5 => ?_)
   refine WL.opens (α := Unit) (φ := fun _ => r5 = .int .i64 _) (ps := fun _ => [_, Qm .i64 _ _]) 0 rfl (fun h q => ⟨(), q⟩) (by repeat' constructor) ?_
   rintro _ es5
   subst es5
   dsimp only [List.cons_append, List.nil_append]
   refine WL.gY rfl rfl (WL.neq rfl rfl rfl (WL.pickF rfl rfl rfl (WL.mv rfl rfl (WL.gY rfl rfl (WL.mv rfl rfl (WL.gY rfl rfl ?_))))))
   refine WL.callF rfl rfl (fun x p d => clockc_c _ _ _ _ _ (by first | assumption | exact RB.wide (by assumption) | exact In.rb (by assumption) | exact RB.mono (by assumption) (eqh_at 0 rfl p d) | exact (in_at 0 rfl p d).rb | exact (in_at 1 rfl p d).rb | exact (in_at 2 rfl p d).rb | exact (in_at 3 rfl p d).rb | exact (in_at 4 rfl p d).rb | exact (in_at 5 rfl p d).rb | exact (in_at 6 rfl p d).rb | exact (in_at 7 rfl p d).rb) (by first | assumption | exact ROs.wide (by assumption) | exact ROs.mono (by assumption) (eqh_at 0 rfl p d) | exact ros_at 0 rfl p d | exact ros_at 1 rfl p d | exact ros_at 2 rfl p d | exact ros_at 3 rfl p d | exact ros_at 4 rfl p d) (by first | assumption | omega | decide)) (fun r5 => ?_)
   refine WL.opens (α := Value) (φ := fun v => r5 = .agg #[.int .i64 _, .int .i64 _, v, .int .i64 _, .int .i64 _, .int .i64 _] ∧ SL v _) (ps := fun v => [Buf 7 v _]) 0 rfl (fun h q => q) (by repeat' constructor) ?_
   rintro u5 ⟨es5, su5⟩
   subst es5
   dsimp only [List.cons_append, List.nil_append] at su5 ⊢
   refine WL.gY rfl rfl (WL.fd (T := Ty) rfl rfl rfl rfl rfl rfl rfl (WL.gY rfl rfl ?_))
   refine WL.len (T := Ty) rfl rfl (by assumption) rfl ?_
   refine WL.gY rfl rfl (WL.neq rfl rfl rfl (WL.pickF rfl rfl rfl (WL.nil (W.condpF rfl (by omega) (W.skip (W.seq (W.region (WL.mv rfl rfl ?_))))))))
   refine WL.ldAF (T := Ty) (j := 7) rfl rfl rfl rfl rfl rfl (by repeat' constructor) ?_
   refine WL.callTk (Take.cons 1 rfl (Take.cons 1 rfl Take.nil)) rfl rfl (fun x p d => getNX_c _ _ _ _ _ _ _ _ _ _ (by assumption) (by first | assumption | exact ROs.wide (by assumption) | exact ROs.mono (by assumption) (eqh_at 0 rfl p d) | exact ros_at 0 rfl p d | exact ros_at 1 rfl p d | exact ros_at 2 rfl p d | exact ros_at 3 rfl p d | exact ros_at 4 rfl p d) (by assumption)) (by repeat' constructor) (fun r6 => ?_)
   refine WL.opens (α := Unit) (φ := fun _ => r6 = .tuple #[nilV, .bool false]) (ps := fun _ => [_, Qm .i64 _ _]) 0 rfl (fun h q => ⟨(), q⟩) (by repeat' constructor) ?_
   rintro _ es6
   subst es6
   dsimp only [List.cons_append, List.nil_append]
   refine WL.mv rfl rfl (WL.extL rfl rfl rfl (WL.extL rfl rfl rfl (WL.as rfl rfl (WL.as rfl rfl (WL.nil (W.seq ?_))))))
   refine W.fit (Hs' := [box b0 _ _, Qm _ m0 _, Buf 7 u4 _, box b1 _ _]) (by (repeat' first | exact Sel.nil | apply Sel.k | exact Pick.h | apply Pick.t)) ?_
   refine W.drawP 16 [true, true, false, true] rfl (by repeat' constructor) (by repeat' constructor) (fun σ0 hσ0 dσ0 => ?_)
   have fσ0_0 := ros_at 0 rfl hσ0 dσ0
   refine WD.takeL 0 rfl (by decide +kernel) (WL.mv rfl rfl (WL.nilT (WD.takeL 1 rfl (by decide +kernel) (WL.not rfl rfl (WL.nilT (WD.takeL 2 rfl (by decide +kernel) (WL.mv rfl rfl (WL.nilT (WD.takeL 3 rfl (by decide +kernel) (WL.gY rfl rfl (WL.mv rfl rfl (WL.nilT ?_))))))))))))
   refine WD.twoL 4 5 rfl rfl (by decide +kernel) ?_ ?_
   ·refine WL.gY rfl rfl ?_
    refine WL.ldAF (T := Ty) (j := 3) rfl rfl rfl rfl rfl rfl (by repeat' constructor) ?_
    refine WL.nilE (WD.oneL 5 rfl (by decide +kernel) (WL.gY rfl rfl ?_))
    refine WL.callF rfl rfl (fun x p d => row16_c _ _) (fun u6 => ?_)
    refine WL.fact (i := 0) rfl (fun h hb => hb.sl (sms_cells _) (by omega)) (fun hsl6 => ?_)
    refine WL.nilH hσ0 (fun σ1 hσ1 dσ1 mσ1 => ?_)
    have fσ0_0 := fσ0_0.mono mσ1
    have fσ1_0 := ros_at 0 rfl hσ1 dσ1
    refine WD.oneL 6 rfl (by decide +kernel) (WL.gY rfl rfl ?_)
    refine WL.callTk (Take.cons 1 rfl (Take.cons 1 rfl Take.nil)) rfl rfl (fun x p d => putYX_c _ _ _ _ _ _ _ _ _ _ _ _ _ _ (by assumption) (by first | assumption | exact ROs.wide (by assumption) | exact ROs.mono (by assumption) (eqh_at 0 rfl p d) | exact ros_at 0 rfl p d | exact ros_at 1 rfl p d | exact ros_at 2 rfl p d | exact ros_at 3 rfl p d | exact ros_at 4 rfl p d) (by assumption) (by first | assumption | omega | decide) (by assumption) (by first | assumption | decide) (by first | assumption | omega | decide) (by first | assumption | exact ROs.wide (by assumption) | exact ROs.mono (by assumption) (eqh_at 0 rfl p d) | exact ros_at 0 rfl p d | exact ros_at 1 rfl p d | exact ros_at 2 rfl p d | exact ros_at 3 rfl p d | exact ros_at 4 rfl p d) (by first | assumption | omega | decide)) (by repeat' constructor) (fun r7 => ?_)
    refine WL.opens (α := Value × Value) (φ := fun x => r7 = .bool true ∧ SL x.1 _ ∧ SL x.2 _) (ps := fun x => [_, Buf 7 x.1 _, Qm .i64 _ _, Buf 2 x.2 _]) 0 rfl (fun h q => q) (by repeat' constructor) ?_
    rintro ⟨u7, kv7⟩ ⟨es7, su7, sk7⟩
    subst es7
    dsimp only [List.cons_append, List.nil_append] at su7 sk7 ⊢
    refine WL.bring 4 rfl (by repeat' constructor) ?_
    refine WL.nilE (WD.takeL 7 rfl (by decide +kernel) (WL.pickT rfl rfl rfl (WL.nilT (WD.takeL 8 rfl (by decide +kernel) (WL.mv rfl rfl (WL.nilT (WD.takeL 9 rfl (by decide +kernel) (WL.gY rfl rfl (WL.mv rfl rfl (WL.nilT (WD.oneL 10 rfl (by decide +kernel) (WL.gY rfl rfl ?_))))))))))))
    refine WL.callTk (Take.cons 1 rfl (Take.cons 2 rfl Take.nil)) rfl rfl (fun x p d => frames_e _ _ _ _ _ _ _ (by first | assumption | exact hFr _)) (by repeat' constructor) (fun r8 => ?_)
    refine WL.opens (α := Unit) (φ := fun _ => r8 = .int .i64 _) (ps := fun _ => [_, Qm .i64 _ _]) 0 rfl (fun h q => ⟨(), q⟩) (by repeat' constructor) ?_
    rintro _ es8
    subst es8
    dsimp only [List.cons_append, List.nil_append]
    refine WL.nilSS (WD.takeL 11 rfl (by decide +kernel) (WL.gY rfl rfl (WL.eql rfl rfl rfl (WL.nilT (WD.takeL 12 rfl (by decide +kernel) (WL.pickT rfl rfl rfl (WL.nilT (WD.takeL 13 rfl (by decide +kernel) (WL.mv rfl rfl (WL.nilT (WD.oneL 14 rfl (by decide +kernel) (WL.gY rfl rfl ?_))))))))))))
    refine WL.callV rfl rfl (fun x p d => awake16_c _) ?_
    refine WL.nilE (WD.takeL 15 rfl (by decide +kernel) (WL.pickT rfl rfl rfl (WL.nilT ?_)))
    refine WD.lastG hσ1 (by decide +kernel) (by repeat' constructor) rfl (by repeat' constructor) ?_
    refine WL.as rfl rfl (WL.nil ?_)
    exact W.fit (Hs' := []) (by (repeat' first | exact Sel.nil | apply Sel.k | exact Pick.h | apply Pick.t)) (W.ret1 rfl rfl (fun h q => rfl))
   ·refine WL.gY rfl rfl ?_
    refine WL.callF rfl rfl (fun x p d => row16_c _ _) (fun u6 => ?_)
    refine WL.fact (i := 0) rfl (fun h hb => hb.sl (sms_cells _) (by omega)) (fun hsl6 => ?_)
    refine WL.nilH hσ0 (fun σ1 hσ1 dσ1 mσ1 => ?_)
    have fσ0_0 := fσ0_0.mono mσ1
    have fσ1_0 := ros_at 0 rfl hσ1 dσ1
    refine WD.oneL 4 rfl (by decide +kernel) (WL.gY rfl rfl ?_)
    refine WL.ldAF (T := Ty) (j := 3) rfl rfl rfl rfl rfl rfl (by repeat' constructor) ?_
    refine WL.nilE (WD.oneL 6 rfl (by decide +kernel) (WL.gY rfl rfl ?_))
    refine WL.callTk (Take.cons 1 rfl (Take.cons 1 rfl Take.nil)) rfl rfl (fun x p d => putYX_c _ _ _ _ _ _ _ _ _ _ _ _ _ _ (by assumption) (by first | assumption | exact ROs.wide (by assumption) | exact ROs.mono (by assumption) (eqh_at 0 rfl p d) | exact ros_at 0 rfl p d | exact ros_at 1 rfl p d | exact ros_at 2 rfl p d | exact ros_at 3 rfl p d | exact ros_at 4 rfl p d) (by assumption) (by first | assumption | omega | decide) (by assumption) (by first | assumption | decide) (by first | assumption | omega | decide) (by first | assumption | exact ROs.wide (by assumption) | exact ROs.mono (by assumption) (eqh_at 0 rfl p d) | exact ros_at 0 rfl p d | exact ros_at 1 rfl p d | exact ros_at 2 rfl p d | exact ros_at 3 rfl p d | exact ros_at 4 rfl p d) (by first | assumption | omega | decide)) (by repeat' constructor) (fun r7 => ?_)
    refine WL.opens (α := Value × Value) (φ := fun x => r7 = .bool true ∧ SL x.1 _ ∧ SL x.2 _) (ps := fun x => [_, Buf 7 x.1 _, Qm .i64 _ _, Buf 2 x.2 _]) 0 rfl (fun h q => q) (by repeat' constructor) ?_
    rintro ⟨u7, kv7⟩ ⟨es7, su7, sk7⟩
    subst es7
    dsimp only [List.cons_append, List.nil_append] at su7 sk7 ⊢
    refine WL.bring 4 rfl (by repeat' constructor) ?_
    refine WL.nilE (WD.takeL 7 rfl (by decide +kernel) (WL.pickT rfl rfl rfl (WL.nilT (WD.takeL 8 rfl (by decide +kernel) (WL.mv rfl rfl (WL.nilT (WD.takeL 9 rfl (by decide +kernel) (WL.gY rfl rfl (WL.mv rfl rfl (WL.nilT (WD.oneL 10 rfl (by decide +kernel) (WL.gY rfl rfl ?_))))))))))))
    refine WL.callTk (Take.cons 1 rfl (Take.cons 2 rfl Take.nil)) rfl rfl (fun x p d => frames_e _ _ _ _ _ _ _ (by first | assumption | exact hFr _)) (by repeat' constructor) (fun r8 => ?_)
    refine WL.opens (α := Unit) (φ := fun _ => r8 = .int .i64 _) (ps := fun _ => [_, Qm .i64 _ _]) 0 rfl (fun h q => ⟨(), q⟩) (by repeat' constructor) ?_
    rintro _ es8
    subst es8
    dsimp only [List.cons_append, List.nil_append]
    refine WL.nilSS (WD.takeL 11 rfl (by decide +kernel) (WL.gY rfl rfl (WL.eql rfl rfl rfl (WL.nilT (WD.takeL 12 rfl (by decide +kernel) (WL.pickT rfl rfl rfl (WL.nilT (WD.takeL 13 rfl (by decide +kernel) (WL.mv rfl rfl (WL.nilT (WD.oneL 14 rfl (by decide +kernel) (WL.gY rfl rfl ?_))))))))))))
    refine WL.callV rfl rfl (fun x p d => awake16_c _) ?_
    refine WL.nilE (WD.takeL 15 rfl (by decide +kernel) (WL.pickT rfl rfl rfl (WL.nilT ?_)))
    refine WD.lastG hσ1 (by decide +kernel) (by repeat' constructor) rfl (by repeat' constructor) ?_
    refine WL.as rfl rfl (WL.nil ?_)
    exact W.fit (Hs' := []) (by (repeat' first | exact Sel.nil | apply Sel.k | exact Pick.h | apply Pick.t)) (W.ret1 rfl rfl (fun h q => rfl))
  ·rw [decide_eq_false hkj] at hky
   have fj := fnd_other (m := 3) 1 hkj
   have pj := pin_else (m := 3) (p := 1) (n := 1) hkj
   refine W.condF rfl (W.skip (W.seq (W.seq (W.region ?_))))
   refine WL.ldAF (T := Ty) (j := 4) rfl rfl rfl rfl rfl rfl (by repeat' constructor) ?_
   refine WL.ldAF (T := Ty) (j := 3) rfl rfl rfl rfl rfl rfl (by repeat' constructor) ?_
   refine WL.neFe (T := Ty) rfl rfl rfl rfl (by repeat' first | exact FE.nil | apply FE.int (by decide) rfl rfl rfl rfl | apply FE.bool (by decide) rfl rfl rfl rfl | apply FE.sub (by decide) rfl (by kernel_rfl) rfl rfl) (by kernel_rfl) (by kernel_rfl) (by assumption) ?_
   refine WL.mv rfl rfl (WL.gY rfl rfl (WL.mv rfl rfl (WL.gY rfl rfl ?_)))
   refine WL.ldAF (T := Ty) (j := 3) rfl rfl rfl rfl rfl rfl (by repeat' constructor) ?_
   refine WL.gY rfl rfl ?_
   refine WL.callTk (Take.cons 0 rfl (Take.cons 0 rfl Take.nil)) rfl rfl (fun x p d => DrAX_c _ _ _ _ _ _ _ _ _ (by assumption) (by first | assumption | exact ROs.wide (by assumption) | exact ROs.mono (by assumption) (eqh_at 0 rfl p d) | exact ros_at 0 rfl p d | exact ros_at 1 rfl p d | exact ros_at 2 rfl p d | exact ros_at 3 rfl p d | exact ros_at 4 rfl p d) (by assumption)) (by repeat' constructor) (fun r3 => ?_)
   refine WL.opens (α := Unit) (φ := fun _ => r3 = .bool false) (ps := fun _ => [_, Qm .i64 _ _]) 0 rfl (fun h q => ⟨(), q⟩) (by repeat' constructor) ?_
   rintro _ es3
   subst es3
   dsimp only [List.cons_append, List.nil_append]
   refine WL.gY rfl rfl (WL.mv rfl rfl (WL.gY rfl rfl (WL.mv rfl rfl (WL.gY rfl rfl ?_))))
   refine WL.ldAF (T := Ty) (j := 3) rfl rfl rfl rfl rfl rfl (by repeat' constructor) ?_
   refine WL.gY rfl rfl ?_
   refine WL.callTk (Take.cons 0 rfl (Take.cons 0 rfl Take.nil)) rfl rfl (fun x p d => PinNX_c _ _ _ _ _ _ _ _ _ _ (by assumption) (by first | assumption | exact ROs.wide (by assumption) | exact ROs.mono (by assumption) (eqh_at 0 rfl p d) | exact ros_at 0 rfl p d | exact ros_at 1 rfl p d | exact ros_at 2 rfl p d | exact ros_at 3 rfl p d | exact ros_at 4 rfl p d) (by assumption)) (by repeat' constructor) (fun r3 => ?_)
   refine WL.opens (α := Unit) (φ := fun _ => r3 = .bool false) (ps := fun _ => [_, Qm .i64 _ _]) 0 rfl (fun h q => ⟨(), q⟩) (by repeat' constructor) ?_
   rintro _ es3
   subst es3
   dsimp only [List.cons_append, List.nil_append]
   refine WL.gY rfl rfl (WL.pickF rfl rfl rfl (WL.gY rfl rfl (WL.mv rfl rfl (WL.gY rfl rfl (WL.mv rfl rfl (WL.gY rfl rfl ?_))))))
   refine WL.ldAF (T := Ty) (j := 3) rfl rfl rfl rfl rfl rfl (by repeat' constructor) ?_
   refine WL.gY rfl rfl ?_
   refine WL.callTk (Take.cons 0 rfl (Take.cons 0 rfl Take.nil)) rfl rfl (fun x p d => UnAX_c _ _ _ _ _ _ _ _ _ (by assumption) (by first | assumption | exact ROs.wide (by assumption) | exact ROs.mono (by assumption) (eqh_at 0 rfl p d) | exact ros_at 0 rfl p d | exact ros_at 1 rfl p d | exact ros_at 2 rfl p d | exact ros_at 3 rfl p d | exact ros_at 4 rfl p d) (by assumption)) (by repeat' constructor) (fun r3 => ?_)
   refine WL.opens (α := Unit) (φ := fun _ => r3 = .bool false) (ps := fun _ => [_, Qm .i64 _ _]) 0 rfl (fun h q => ⟨(), q⟩) (by repeat' constructor) ?_
   rintro _ es3
   subst es3
   dsimp only [List.cons_append, List.nil_append]
   refine WL.gY rfl rfl (WL.pickF rfl rfl rfl (WL.pickT rfl rfl rfl (WL.nil (W.condF rfl (W.skip (W.seq (W.seq (W.region (WL.mv rfl rfl ?_)))))))))
   refine WL.ldAF (T := Ty) (j := 4) rfl rfl rfl rfl rfl rfl (by repeat' constructor) ?_
   refine WL.callTk (Take.cons 0 rfl (Take.cons 0 rfl Take.nil)) rfl rfl (fun x p d => UnCX_c _ _ _ _ _ _ _ _ _ _ _ _ (by assumption) (by first | assumption | exact ROs.wide (by assumption) | exact ROs.mono (by assumption) (eqh_at 0 rfl p d) | exact ros_at 0 rfl p d | exact ros_at 1 rfl p d | exact ros_at 2 rfl p d | exact ros_at 3 rfl p d | exact ros_at 4 rfl p d) (by assumption) (by assumption) (by first | assumption | omega | decide) (by assumption)) (by repeat' constructor) (fun r3 => ?_)
   refine WL.opens (α := Value) (φ := fun x => r3 = .bool true ∧ SL x _) (ps := fun x => [_, Buf 7 x _, Qm .i64 _ _]) 0 rfl (fun h q => q) (by repeat' constructor) ?_
   rintro u3 ⟨es3, su3⟩
   subst es3
   dsimp only [List.cons_append, List.nil_append] at su3 ⊢
   refine WL.not rfl rfl (WL.mv rfl rfl (WL.gY rfl rfl (WL.mv rfl rfl (WL.gY rfl rfl ?_))))
   refine WL.ldAF (T := Ty) (j := 5) rfl rfl rfl rfl rfl rfl (by repeat' constructor) ?_
   refine WL.gY rfl rfl ?_
   refine WL.callTk (Take.cons 0 rfl (Take.cons 1 rfl Take.nil)) rfl rfl (fun x p d => DrCX_c _ _ _ _ _ _ _ _ _ _ _ _ (by assumption) (by first | assumption | exact ROs.wide (by assumption) | exact ROs.mono (by assumption) (eqh_at 0 rfl p d) | exact ros_at 0 rfl p d | exact ros_at 1 rfl p d | exact ros_at 2 rfl p d | exact ros_at 3 rfl p d | exact ros_at 4 rfl p d) (by assumption) (by assumption) (by first | assumption | omega | decide) (by assumption)) (by repeat' constructor) (fun r4 => ?_)
   refine WL.opens (α := Value) (φ := fun x => r4 = .bool true ∧ SL x _) (ps := fun x => [_, Buf 7 x _, Qm .i64 _ _]) 0 rfl (fun h q => q) (by repeat' constructor) ?_
   rintro u4 ⟨es4, su4⟩
   subst es4
   dsimp only [List.cons_append, List.nil_append] at su4 ⊢
   refine WL.gY rfl rfl (WL.not rfl rfl (WL.pickF rfl rfl rfl (WL.mv rfl rfl (WL.gY rfl rfl (WL.mv rfl rfl (WL.gY rfl rfl ?_))))))
   refine WL.ldAF (T := Ty) (j := 6) rfl rfl rfl rfl rfl rfl (by repeat' constructor) ?_
   refine WL.gY rfl rfl ?_
   refine WL.callTk (Take.cons 0 rfl (Take.cons 1 rfl Take.nil)) rfl rfl (fun x p d => DrAX_c _ _ _ _ _ _ _ _ _ (by assumption) (by first | assumption | exact ROs.wide (by assumption) | exact ROs.mono (by assumption) (eqh_at 0 rfl p d) | exact ros_at 0 rfl p d | exact ros_at 1 rfl p d | exact ros_at 2 rfl p d | exact ros_at 3 rfl p d | exact ros_at 4 rfl p d) (by assumption)) (by repeat' constructor) (fun r5 => ?_)
   refine WL.opens (α := Unit) (φ := fun _ => r5 = .bool false) (ps := fun _ => [_, Qm .i64 _ _]) 0 rfl (fun h q => ⟨(), q⟩) (by repeat' constructor) ?_
   rintro _ es5
   subst es5
   dsimp only [List.cons_append, List.nil_append]
   refine WL.pickF rfl rfl rfl (WL.mv rfl rfl (WL.gY rfl rfl (WL.mv rfl rfl (WL.gY rfl rfl ?_))))
   refine WL.callTk (Take.cons 0 rfl (Take.cons 0 rfl Take.nil)) rfl rfl (fun x p d => frames_e _ _ _ _ _ _ _ (by first | assumption | exact hFr _)) (by repeat' constructor) (fun r5 => ?_)
   refine WL.opens (α := Unit) (φ := fun _ => r5 = .int .i64 _) (ps := fun _ => [_, Qm .i64 _ _]) 0 rfl (fun h q => ⟨(), q⟩) (by repeat' constructor) ?_
   rintro _ es5
   subst es5
   dsimp only [List.cons_append, List.nil_append]
   refine WL.gY rfl rfl (WL.neq rfl rfl rfl (WL.pickF rfl rfl rfl (WL.mv rfl rfl (WL.gY rfl rfl (WL.mv rfl rfl (WL.gY rfl rfl ?_))))))
   refine WL.callF rfl rfl (fun x p d => clockc_c _ _ _ _ _ (by first | assumption | exact RB.wide (by assumption) | exact In.rb (by assumption) | exact RB.mono (by assumption) (eqh_at 0 rfl p d) | exact (in_at 0 rfl p d).rb | exact (in_at 1 rfl p d).rb | exact (in_at 2 rfl p d).rb | exact (in_at 3 rfl p d).rb | exact (in_at 4 rfl p d).rb | exact (in_at 5 rfl p d).rb | exact (in_at 6 rfl p d).rb | exact (in_at 7 rfl p d).rb) (by first | assumption | exact ROs.wide (by assumption) | exact ROs.mono (by assumption) (eqh_at 0 rfl p d) | exact ros_at 0 rfl p d | exact ros_at 1 rfl p d | exact ros_at 2 rfl p d | exact ros_at 3 rfl p d | exact ros_at 4 rfl p d) (by first | assumption | omega | decide)) (fun r5 => ?_)
   refine WL.opens (α := Value) (φ := fun v => r5 = .agg #[.int .i64 _, .int .i64 _, v, .int .i64 _, .int .i64 _, .int .i64 _] ∧ SL v _) (ps := fun v => [Buf 7 v _]) 0 rfl (fun h q => q) (by repeat' constructor) ?_
   rintro u5 ⟨es5, su5⟩
   subst es5
   dsimp only [List.cons_append, List.nil_append] at su5 ⊢
   refine WL.gY rfl rfl (WL.fd (T := Ty) rfl rfl rfl rfl rfl rfl rfl (WL.gY rfl rfl ?_))
   refine WL.len (T := Ty) rfl rfl (by assumption) rfl ?_
   refine WL.gY rfl rfl (WL.neq rfl rfl rfl (WL.pickF rfl rfl rfl (WL.nil (W.condpF rfl (by omega) (W.skip (W.seq (W.region (WL.mv rfl rfl ?_))))))))
   refine WL.ldAF (T := Ty) (j := 7) rfl rfl rfl rfl rfl rfl (by repeat' constructor) ?_
   refine WL.callTk (Take.cons 1 rfl (Take.cons 1 rfl Take.nil)) rfl rfl (fun x p d => getNX_c _ _ _ _ _ _ _ _ _ _ (by assumption) (by first | assumption | exact ROs.wide (by assumption) | exact ROs.mono (by assumption) (eqh_at 0 rfl p d) | exact ros_at 0 rfl p d | exact ros_at 1 rfl p d | exact ros_at 2 rfl p d | exact ros_at 3 rfl p d | exact ros_at 4 rfl p d) (by assumption)) (by repeat' constructor) (fun r6 => ?_)
   refine WL.opens (α := Unit) (φ := fun _ => r6 = .tuple #[nilV, .bool false]) (ps := fun _ => [_, Qm .i64 _ _]) 0 rfl (fun h q => ⟨(), q⟩) (by repeat' constructor) ?_
   rintro _ es6
   subst es6
   dsimp only [List.cons_append, List.nil_append]
   refine WL.mv rfl rfl (WL.extL rfl rfl rfl (WL.extL rfl rfl rfl (WL.as rfl rfl (WL.as rfl rfl (WL.nil (W.seq ?_))))))
   refine W.fit (Hs' := [box b0 _ _, Qm _ m0 _, Buf 7 u4 _, box b1 _ _]) (by (repeat' first | exact Sel.nil | apply Sel.k | exact Pick.h | apply Pick.t)) ?_
   refine W.drawP 16 [true, true, false, true] rfl (by repeat' constructor) (by repeat' constructor) (fun σ0 hσ0 dσ0 => ?_)
   have fσ0_0 := ros_at 0 rfl hσ0 dσ0
   refine WD.takeL 0 rfl (by decide +kernel) (WL.mv rfl rfl (WL.nilT (WD.takeL 1 rfl (by decide +kernel) (WL.not rfl rfl (WL.nilT (WD.takeL 2 rfl (by decide +kernel) (WL.mv rfl rfl (WL.nilT (WD.takeL 3 rfl (by decide +kernel) (WL.gY rfl rfl (WL.mv rfl rfl (WL.nilT ?_))))))))))))
   refine WD.twoL 4 5 rfl rfl (by decide +kernel) ?_ ?_
   ·refine WL.gY rfl rfl ?_
    refine WL.ldAF (T := Ty) (j := 3) rfl rfl rfl rfl rfl rfl (by repeat' constructor) ?_
    refine WL.nilE (WD.oneL 5 rfl (by decide +kernel) (WL.gY rfl rfl ?_))
    refine WL.callF rfl rfl (fun x p d => row16_c _ _) (fun u6 => ?_)
    refine WL.fact (i := 0) rfl (fun h hb => hb.sl (sms_cells _) (by omega)) (fun hsl6 => ?_)
    refine WL.nilH hσ0 (fun σ1 hσ1 dσ1 mσ1 => ?_)
    have fσ0_0 := fσ0_0.mono mσ1
    have fσ1_0 := ros_at 0 rfl hσ1 dσ1
    refine WD.oneL 6 rfl (by decide +kernel) (WL.gY rfl rfl ?_)
    refine WL.callTk (Take.cons 1 rfl (Take.cons 1 rfl Take.nil)) rfl rfl (fun x p d => putYX_c _ _ _ _ _ _ _ _ _ _ _ _ _ _ (by assumption) (by first | assumption | exact ROs.wide (by assumption) | exact ROs.mono (by assumption) (eqh_at 0 rfl p d) | exact ros_at 0 rfl p d | exact ros_at 1 rfl p d | exact ros_at 2 rfl p d | exact ros_at 3 rfl p d | exact ros_at 4 rfl p d) (by assumption) (by first | assumption | omega | decide) (by assumption) (by first | assumption | decide) (by first | assumption | omega | decide) (by first | assumption | exact ROs.wide (by assumption) | exact ROs.mono (by assumption) (eqh_at 0 rfl p d) | exact ros_at 0 rfl p d | exact ros_at 1 rfl p d | exact ros_at 2 rfl p d | exact ros_at 3 rfl p d | exact ros_at 4 rfl p d) (by first | assumption | omega | decide)) (by repeat' constructor) (fun r7 => ?_)
    refine WL.opens (α := Value × Value) (φ := fun x => r7 = .bool true ∧ SL x.1 _ ∧ SL x.2 _) (ps := fun x => [_, Buf 7 x.1 _, Qm .i64 _ _, Buf 2 x.2 _]) 0 rfl (fun h q => q) (by repeat' constructor) ?_
    rintro ⟨u7, kv7⟩ ⟨es7, su7, sk7⟩
    subst es7
    dsimp only [List.cons_append, List.nil_append] at su7 sk7 ⊢
    refine WL.bring 4 rfl (by repeat' constructor) ?_
    refine WL.nilE (WD.takeL 7 rfl (by decide +kernel) (WL.pickT rfl rfl rfl (WL.nilT (WD.takeL 8 rfl (by decide +kernel) (WL.mv rfl rfl (WL.nilT (WD.takeL 9 rfl (by decide +kernel) (WL.gY rfl rfl (WL.mv rfl rfl (WL.nilT (WD.oneL 10 rfl (by decide +kernel) (WL.gY rfl rfl ?_))))))))))))
    refine WL.callTk (Take.cons 1 rfl (Take.cons 2 rfl Take.nil)) rfl rfl (fun x p d => frames_e _ _ _ _ _ _ _ (by first | assumption | exact hFr _)) (by repeat' constructor) (fun r8 => ?_)
    refine WL.opens (α := Unit) (φ := fun _ => r8 = .int .i64 _) (ps := fun _ => [_, Qm .i64 _ _]) 0 rfl (fun h q => ⟨(), q⟩) (by repeat' constructor) ?_
    rintro _ es8
    subst es8
    dsimp only [List.cons_append, List.nil_append]
    refine WL.nilSS (WD.takeL 11 rfl (by decide +kernel) (WL.gY rfl rfl (WL.eql rfl rfl rfl (WL.nilT (WD.takeL 12 rfl (by decide +kernel) (WL.pickT rfl rfl rfl (WL.nilT (WD.takeL 13 rfl (by decide +kernel) (WL.mv rfl rfl (WL.nilT (WD.oneL 14 rfl (by decide +kernel) (WL.gY rfl rfl ?_))))))))))))
    refine WL.callV rfl rfl (fun x p d => awake16_c _) ?_
    refine WL.nilE (WD.takeL 15 rfl (by decide +kernel) (WL.pickT rfl rfl rfl (WL.nilT ?_)))
    refine WD.lastG hσ1 (by decide +kernel) (by repeat' constructor) rfl (by repeat' constructor) ?_
    refine WL.as rfl rfl (WL.nil ?_)
    exact W.fit (Hs' := []) (by (repeat' first | exact Sel.nil | apply Sel.k | exact Pick.h | apply Pick.t)) (W.ret1 rfl rfl (fun h q => rfl))
   ·refine WL.gY rfl rfl ?_
    refine WL.callF rfl rfl (fun x p d => row16_c _ _) (fun u6 => ?_)
    refine WL.fact (i := 0) rfl (fun h hb => hb.sl (sms_cells _) (by omega)) (fun hsl6 => ?_)
    refine WL.nilH hσ0 (fun σ1 hσ1 dσ1 mσ1 => ?_)
    have fσ0_0 := fσ0_0.mono mσ1
    have fσ1_0 := ros_at 0 rfl hσ1 dσ1
    refine WD.oneL 4 rfl (by decide +kernel) (WL.gY rfl rfl ?_)
    refine WL.ldAF (T := Ty) (j := 3) rfl rfl rfl rfl rfl rfl (by repeat' constructor) ?_
    refine WL.nilE (WD.oneL 6 rfl (by decide +kernel) (WL.gY rfl rfl ?_))
    refine WL.callTk (Take.cons 1 rfl (Take.cons 1 rfl Take.nil)) rfl rfl (fun x p d => putYX_c _ _ _ _ _ _ _ _ _ _ _ _ _ _ (by assumption) (by first | assumption | exact ROs.wide (by assumption) | exact ROs.mono (by assumption) (eqh_at 0 rfl p d) | exact ros_at 0 rfl p d | exact ros_at 1 rfl p d | exact ros_at 2 rfl p d | exact ros_at 3 rfl p d | exact ros_at 4 rfl p d) (by assumption) (by first | assumption | omega | decide) (by assumption) (by first | assumption | decide) (by first | assumption | omega | decide) (by first | assumption | exact ROs.wide (by assumption) | exact ROs.mono (by assumption) (eqh_at 0 rfl p d) | exact ros_at 0 rfl p d | exact ros_at 1 rfl p d | exact ros_at 2 rfl p d | exact ros_at 3 rfl p d | exact ros_at 4 rfl p d) (by first | assumption | omega | decide)) (by repeat' constructor) (fun r7 => ?_)
    refine WL.opens (α := Value × Value) (φ := fun x => r7 = .bool true ∧ SL x.1 _ ∧ SL x.2 _) (ps := fun x => [_, Buf 7 x.1 _, Qm .i64 _ _, Buf 2 x.2 _]) 0 rfl (fun h q => q) (by repeat' constructor) ?_
    rintro ⟨u7, kv7⟩ ⟨es7, su7, sk7⟩
    subst es7
    dsimp only [List.cons_append, List.nil_append] at su7 sk7 ⊢
    refine WL.bring 4 rfl (by repeat' constructor) ?_
    refine WL.nilE (WD.takeL 7 rfl (by decide +kernel) (WL.pickT rfl rfl rfl (WL.nilT (WD.takeL 8 rfl (by decide +kernel) (WL.mv rfl rfl (WL.nilT (WD.takeL 9 rfl (by decide +kernel) (WL.gY rfl rfl (WL.mv rfl rfl (WL.nilT (WD.oneL 10 rfl (by decide +kernel) (WL.gY rfl rfl ?_))))))))))))
    refine WL.callTk (Take.cons 1 rfl (Take.cons 2 rfl Take.nil)) rfl rfl (fun x p d => frames_e _ _ _ _ _ _ _ (by first | assumption | exact hFr _)) (by repeat' constructor) (fun r8 => ?_)
    refine WL.opens (α := Unit) (φ := fun _ => r8 = .int .i64 _) (ps := fun _ => [_, Qm .i64 _ _]) 0 rfl (fun h q => ⟨(), q⟩) (by repeat' constructor) ?_
    rintro _ es8
    subst es8
    dsimp only [List.cons_append, List.nil_append]
    refine WL.nilSS (WD.takeL 11 rfl (by decide +kernel) (WL.gY rfl rfl (WL.eql rfl rfl rfl (WL.nilT (WD.takeL 12 rfl (by decide +kernel) (WL.pickT rfl rfl rfl (WL.nilT (WD.takeL 13 rfl (by decide +kernel) (WL.mv rfl rfl (WL.nilT (WD.oneL 14 rfl (by decide +kernel) (WL.gY rfl rfl ?_))))))))))))
    refine WL.callV rfl rfl (fun x p d => awake16_c _) ?_
    refine WL.nilE (WD.takeL 15 rfl (by decide +kernel) (WL.pickT rfl rfl rfl (WL.nilT ?_)))
    refine WD.lastG hσ1 (by decide +kernel) (by repeat' constructor) rfl (by repeat' constructor) ?_
    refine WL.as rfl rfl (WL.nil ?_)
    exact W.fit (Hs' := []) (by (repeat' first | exact Sel.nil | apply Sel.k | exact Pick.h | apply Pick.t)) (W.ret1 rfl rfl (fun h q => rfl))
 ·refine W.drawP 20 [true, true, true, true] rfl (by repeat' constructor) (by repeat' constructor) (fun σ0 hσ0 dσ0 => ?_)
  refine WD.takeL 0 rfl (by decide +kernel) (WL.mv rfl rfl (WL.nilT (WD.takeL 1 rfl (by decide +kernel) (WL.eqP (T := Ty) rfl rfl rfl (WL.nilT (WD.takeL 2 rfl (by decide +kernel) (WL.mv rfl rfl (WL.nilT (WD.takeL 3 rfl (by decide +kernel) (WL.gY rfl rfl (WL.mv rfl rfl (WL.nilT ?_))))))))))))
  refine WD.twoL 4 5 rfl rfl (by decide +kernel) ?_ ?_
  ·refine WL.gY rfl rfl ?_
   refine WL.ldAF (T := Ty) (j := 2) rfl rfl rfl rfl rfl rfl (by repeat' constructor) ?_
   refine WL.nilE (WD.oneL 5 rfl (by decide +kernel) (WL.gY rfl rfl ?_))
   refine WL.callF rfl rfl (fun x p d => row16_c _ _) (fun u3 => ?_)
   refine WL.fact (i := 0) rfl (fun h hb => hb.sl (sms_cells _) (by omega)) (fun hsl3 => ?_)
   refine WL.nilH hσ0 (fun σ1 hσ1 dσ1 mσ1 => ?_)
   have fσ1_0 := ros_at 0 rfl hσ1 dσ1
   refine WD.oneL 6 rfl (by decide +kernel) (WL.gY rfl rfl ?_)
   refine WL.callTk (Take.cons 3 rfl (Take.cons 3 rfl Take.nil)) rfl rfl (fun x p d => putYX_c _ _ _ _ _ _ _ _ _ _ _ _ _ _ (by assumption) (by first | assumption | exact ROs.wide (by assumption) | exact ROs.mono (by assumption) (eqh_at 0 rfl p d) | exact ros_at 0 rfl p d | exact ros_at 1 rfl p d | exact ros_at 2 rfl p d | exact ros_at 3 rfl p d | exact ros_at 4 rfl p d) (by assumption) (by first | assumption | omega | decide) (by assumption) (by first | assumption | decide) (by first | assumption | omega | decide) (by first | assumption | exact ROs.wide (by assumption) | exact ROs.mono (by assumption) (eqh_at 0 rfl p d) | exact ros_at 0 rfl p d | exact ros_at 1 rfl p d | exact ros_at 2 rfl p d | exact ros_at 3 rfl p d | exact ros_at 4 rfl p d) (by first | assumption | omega | decide)) (by repeat' constructor) (fun r4 => ?_)
   refine WL.opens (α := Value × Value) (φ := fun x => r4 = .bool true ∧ SL x.1 _ ∧ SL x.2 _) (ps := fun x => [_, Buf 7 x.1 _, Qm .i64 _ _, Buf 2 x.2 _]) 0 rfl (fun h q => q) (by repeat' constructor) ?_
   rintro ⟨u4, kv4⟩ ⟨es4, su4, sk4⟩
   subst es4
   dsimp only [List.cons_append, List.nil_append] at su4 sk4 ⊢
   refine WL.bring 4 rfl (by repeat' constructor) ?_
   refine WL.nilE (WD.takeL 7 rfl (by decide +kernel) (WL.gY rfl rfl (WL.not rfl rfl (WL.nilT (WD.takeL 8 rfl (by decide +kernel) (WL.pickF rfl rfl rfl (WL.nilT (WD.takeL 9 rfl (by decide +kernel) (WL.mv rfl rfl (WL.nilT (WD.takeL 10 rfl (by decide +kernel) (WL.gY rfl rfl (WL.mv rfl rfl ?_)))))))))))))
   refine WL.nilT (WD.oneL 11 rfl (by decide +kernel) (WL.gY rfl rfl ?_))
   refine WL.ldAF (T := Ty) (j := 6) rfl rfl rfl rfl rfl rfl (by repeat' constructor) ?_
   refine WL.nilE (WD.oneL 12 rfl (by decide +kernel) (WL.gY rfl rfl ?_))
   refine WL.callTk (Take.cons 1 rfl (Take.cons 2 rfl Take.nil)) rfl rfl (fun x p d => PinYX_c _ _ _ _ _ _ _ _ _ _ (by assumption) (by first | assumption | exact ROs.wide (by assumption) | exact ROs.mono (by assumption) (eqh_at 0 rfl p d) | exact ros_at 0 rfl p d | exact ros_at 1 rfl p d | exact ros_at 2 rfl p d | exact ros_at 3 rfl p d | exact ros_at 4 rfl p d) (by assumption)) (by repeat' constructor) (fun r5 => ?_)
   refine WL.opens (α := Value) (φ := fun x => r5 = .bool true ∧ SL x _) (ps := fun x => [_, Buf 7 x _, Qm .i64 _ _]) 0 rfl (fun h q => q) (by repeat' constructor) ?_
   rintro u5 ⟨es5, su5⟩
   subst es5
   dsimp only [List.cons_append, List.nil_append] at su5 ⊢
   refine WL.bring 3 rfl (by repeat' constructor) ?_
   refine WL.nilE (WD.takeL 13 rfl (by decide +kernel) (WL.gY rfl rfl (WL.not rfl rfl (WL.nilT (WD.takeL 14 rfl (by decide +kernel) (WL.pickF rfl rfl rfl (WL.nilT (WD.takeL 15 rfl (by decide +kernel) (WL.mv rfl rfl (WL.nilT (WD.takeL 16 rfl (by decide +kernel) (WL.gY rfl rfl (WL.mv rfl rfl ?_)))))))))))))
   refine WL.nilT (WD.oneL 17 rfl (by decide +kernel) (WL.gY rfl rfl ?_))
   refine WL.ldAF (T := Ty) (j := 7) rfl rfl rfl rfl rfl rfl (by repeat' constructor) ?_
   refine WL.nilE (WD.oneL 18 rfl (by decide +kernel) (WL.gY rfl rfl ?_))
   refine WL.callTk (Take.cons 1 rfl (Take.cons 2 rfl Take.nil)) rfl rfl (fun x p d => DrBX_c _ _ _ _ _ _ _ _ _ _ _ (by assumption) (by first | assumption | exact ROs.wide (by assumption) | exact ROs.mono (by assumption) (eqh_at 0 rfl p d) | exact ros_at 0 rfl p d | exact ros_at 1 rfl p d | exact ros_at 2 rfl p d | exact ros_at 3 rfl p d | exact ros_at 4 rfl p d) (by assumption) (by assumption) (by first | assumption | omega | decide)) (by repeat' constructor) (fun r6 => ?_)
   refine WL.opens (α := Unit) (φ := fun _ => r6 = .bool false) (ps := fun _ => [_, Qm .i64 _ _]) 0 rfl (fun h q => ⟨(), q⟩) (by repeat' constructor) ?_
   rintro _ es6
   subst es6
   dsimp only [List.cons_append, List.nil_append]
   refine WL.nilSS (WD.takeL 19 rfl (by decide +kernel) (WL.pickF rfl rfl rfl (WL.nilT ?_)))
   refine WD.doneF hσ1 (by decide +kernel) (by repeat' constructor) ?_
   rw [qset_one]
   refine W.fit (Hs' := [box b0 _ _, Qm _ m0 _, Buf 7 _ ((ring1 3 k 1).pages.flatMap pgC), box b2 _ _, box b1 _ _]) (by (repeat' first | exact Sel.nil | apply Sel.k | exact Pick.h | apply Pick.t)) (W.sub ?_ (cut ⟨_, _⟩ _ (Le.refl _) (by assumption)))
   exact ⟨rfl, rfl, rfl, rfl, rfl, trivial⟩
  ·refine WL.gY rfl rfl ?_
   refine WL.callF rfl rfl (fun x p d => row16_c _ _) (fun u3 => ?_)
   refine WL.fact (i := 0) rfl (fun h hb => hb.sl (sms_cells _) (by omega)) (fun hsl3 => ?_)
   refine WL.nilH hσ0 (fun σ1 hσ1 dσ1 mσ1 => ?_)
   have fσ1_0 := ros_at 0 rfl hσ1 dσ1
   refine WD.oneL 4 rfl (by decide +kernel) (WL.gY rfl rfl ?_)
   refine WL.ldAF (T := Ty) (j := 2) rfl rfl rfl rfl rfl rfl (by repeat' constructor) ?_
   refine WL.nilE (WD.oneL 6 rfl (by decide +kernel) (WL.gY rfl rfl ?_))
   refine WL.callTk (Take.cons 3 rfl (Take.cons 3 rfl Take.nil)) rfl rfl (fun x p d => putYX_c _ _ _ _ _ _ _ _ _ _ _ _ _ _ (by assumption) (by first | assumption | exact ROs.wide (by assumption) | exact ROs.mono (by assumption) (eqh_at 0 rfl p d) | exact ros_at 0 rfl p d | exact ros_at 1 rfl p d | exact ros_at 2 rfl p d | exact ros_at 3 rfl p d | exact ros_at 4 rfl p d) (by assumption) (by first | assumption | omega | decide) (by assumption) (by first | assumption | decide) (by first | assumption | omega | decide) (by first | assumption | exact ROs.wide (by assumption) | exact ROs.mono (by assumption) (eqh_at 0 rfl p d) | exact ros_at 0 rfl p d | exact ros_at 1 rfl p d | exact ros_at 2 rfl p d | exact ros_at 3 rfl p d | exact ros_at 4 rfl p d) (by first | assumption | omega | decide)) (by repeat' constructor) (fun r4 => ?_)
   refine WL.opens (α := Value × Value) (φ := fun x => r4 = .bool true ∧ SL x.1 _ ∧ SL x.2 _) (ps := fun x => [_, Buf 7 x.1 _, Qm .i64 _ _, Buf 2 x.2 _]) 0 rfl (fun h q => q) (by repeat' constructor) ?_
   rintro ⟨u4, kv4⟩ ⟨es4, su4, sk4⟩
   subst es4
   dsimp only [List.cons_append, List.nil_append] at su4 sk4 ⊢
   refine WL.bring 4 rfl (by repeat' constructor) ?_
   refine WL.nilE (WD.takeL 7 rfl (by decide +kernel) (WL.gY rfl rfl (WL.not rfl rfl (WL.nilT (WD.takeL 8 rfl (by decide +kernel) (WL.pickF rfl rfl rfl (WL.nilT (WD.takeL 9 rfl (by decide +kernel) (WL.mv rfl rfl (WL.nilT (WD.takeL 10 rfl (by decide +kernel) (WL.gY rfl rfl (WL.mv rfl rfl ?_)))))))))))))
   refine WL.nilT (WD.oneL 11 rfl (by decide +kernel) (WL.gY rfl rfl ?_))
   refine WL.ldAF (T := Ty) (j := 6) rfl rfl rfl rfl rfl rfl (by repeat' constructor) ?_
   refine WL.nilE (WD.oneL 12 rfl (by decide +kernel) (WL.gY rfl rfl ?_))
   refine WL.callTk (Take.cons 1 rfl (Take.cons 2 rfl Take.nil)) rfl rfl (fun x p d => PinYX_c _ _ _ _ _ _ _ _ _ _ (by assumption) (by first | assumption | exact ROs.wide (by assumption) | exact ROs.mono (by assumption) (eqh_at 0 rfl p d) | exact ros_at 0 rfl p d | exact ros_at 1 rfl p d | exact ros_at 2 rfl p d | exact ros_at 3 rfl p d | exact ros_at 4 rfl p d) (by assumption)) (by repeat' constructor) (fun r5 => ?_)
   refine WL.opens (α := Value) (φ := fun x => r5 = .bool true ∧ SL x _) (ps := fun x => [_, Buf 7 x _, Qm .i64 _ _]) 0 rfl (fun h q => q) (by repeat' constructor) ?_
   rintro u5 ⟨es5, su5⟩
   subst es5
   dsimp only [List.cons_append, List.nil_append] at su5 ⊢
   refine WL.bring 3 rfl (by repeat' constructor) ?_
   refine WL.nilE (WD.takeL 13 rfl (by decide +kernel) (WL.gY rfl rfl (WL.not rfl rfl (WL.nilT (WD.takeL 14 rfl (by decide +kernel) (WL.pickF rfl rfl rfl (WL.nilT (WD.takeL 15 rfl (by decide +kernel) (WL.mv rfl rfl (WL.nilT (WD.takeL 16 rfl (by decide +kernel) (WL.gY rfl rfl (WL.mv rfl rfl ?_)))))))))))))
   refine WL.nilT (WD.oneL 17 rfl (by decide +kernel) (WL.gY rfl rfl ?_))
   refine WL.ldAF (T := Ty) (j := 7) rfl rfl rfl rfl rfl rfl (by repeat' constructor) ?_
   refine WL.nilE (WD.oneL 18 rfl (by decide +kernel) (WL.gY rfl rfl ?_))
   refine WL.callTk (Take.cons 1 rfl (Take.cons 2 rfl Take.nil)) rfl rfl (fun x p d => DrBX_c _ _ _ _ _ _ _ _ _ _ _ (by assumption) (by first | assumption | exact ROs.wide (by assumption) | exact ROs.mono (by assumption) (eqh_at 0 rfl p d) | exact ros_at 0 rfl p d | exact ros_at 1 rfl p d | exact ros_at 2 rfl p d | exact ros_at 3 rfl p d | exact ros_at 4 rfl p d) (by assumption) (by assumption) (by first | assumption | omega | decide)) (by repeat' constructor) (fun r6 => ?_)
   refine WL.opens (α := Unit) (φ := fun _ => r6 = .bool false) (ps := fun _ => [_, Qm .i64 _ _]) 0 rfl (fun h q => ⟨(), q⟩) (by repeat' constructor) ?_
   rintro _ es6
   subst es6
   dsimp only [List.cons_append, List.nil_append]
   refine WL.nilSS (WD.takeL 19 rfl (by decide +kernel) (WL.pickF rfl rfl rfl (WL.nilT ?_)))
   refine WD.doneF hσ1 (by decide +kernel) (by repeat' constructor) ?_
   rw [qset_one]
   refine W.fit (Hs' := [box b0 _ _, Qm _ m0 _, Buf 7 _ ((ring1 3 k 1).pages.flatMap pgC), box b2 _ _, box b1 _ _]) (by (repeat' first | exact Sel.nil | apply Sel.k | exact Pick.h | apply Pick.t)) (W.sub ?_ (cut ⟨_, _⟩ _ (Le.refl _) (by assumption)))
   exact ⟨rfl, rfl, rfl, rfl, rfl, trivial⟩
end Go.Proofs.Ytdpnpipninggeaa
