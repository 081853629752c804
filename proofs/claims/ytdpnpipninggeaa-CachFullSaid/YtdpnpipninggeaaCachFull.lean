/- CachFull. -/
import Derived.Test.YtdpnpipninggeaaStc
import Derived.Test.YtdpnpipninggeaaNum
import Derived.Test.YtdpnpipninggeaaTab
import Derived.Test.YtdpnpipninggeaaCachAw
import Derived.Test.YtdpnpipninggeaaCachLaw
import Derived.Test.YtdpnpipninggeaaBrg
set_option linter.unusedSimpArgs false
set_option linter.unusedVariables false
set_option maxRecDepth 20000
set_option maxHeartbeats 4000000
namespace Go.Proofs.Ytdpnpipninggeaa
open Go
theorem rosR0f (ρ : Hp) (m : Int) : ROs ρ 7 nilV ((ring0 m).pages.flatMap pgC) := .inl ⟨rfl, rfl⟩
theorem fK_i (i : Nat) : fK i = ⟨0, 0, (i : Int)⟩ := rfl
theorem fK_h (i : Nat) : fK (100 + i) = ⟨0, 0, 100 + (i : Int)⟩ := by unfold fK; congr 1
theorem Fu1.zero (m : Int) (h1 : 1 ≤ m) (h2 : m ≤ 8) : Fu1 m 0 (ring0 m) where
 b := ring0B h1 h2
 m := rfl
 p := fun p hp => by cases hp
 n := rfl
 r := fun x => ⟨fun ⟨p, hp, _⟩ => (by cases hp), fun ⟨j, hj, _⟩ => absurd hj (Nat.not_lt_zero j)⟩
theorem CMap.zero {m : Int} (h1 : 1 ≤ m) (h2 : m ≤ 8) : CMap (ring0 m) [] := CMap.new h1 h2
attribute [local irreducible] W WL Fn Buf ROs SL eptr box Rd Src bndOK WD RB Reads In Own fndK touchP pinP dropP admitP Qm qget qset qdel delsQ newP ring0 ring1 rowP
theorem CachFull_fn (ρ : Hp) (a0 : Int) (w0 : (Lit.int .i64 a0).wf = true) : Fn Try.prog 4 #[.int .i64 a0] ρ [] (fun r _ => r = .bool true) := by
  obtain ⟨m, hm⟩ : ∃ m : Nat, a0 % (7 + 1) + 1 = (m : Int) := ⟨(a0 % (7 + 1) + 1).toNat, by omega⟩
  have hm1 : 1 ≤ m := by omega
  have hm2 : m ≤ 8 := by omega
  have hM1 : (1 : Int) ≤ (m : Int) := by omega
  have hM2 : (m : Int) ≤ 8 := by omega
  have hn6 : (1000000 : Nat) ≤ 1000000 := Nat.le_refl _
  refine in4 rfl rfl ?_
  refine W.seq (W.region (WL.as rfl rfl (WL.nil (W.seq (W.region (WL.mv rfl rfl (WL.andI rfl rfl rfl (by decide) (WL.addK rfl rfl rfl (wrap_i64 ⟨by omega, by omega⟩) (WL.as rfl rfl (WL.nil (W.seq (W.region (WL.mv rfl rfl ?_)))))))))))))
  refine WL.callF rfl rfl (fun x p d => newc_c _ _) (fun r0 => ?_)
  refine WL.opens (α := Nat × Nat) (φ := fun x => r0 = pt x.1 0) (ps := fun x => [box x.1 _ 55, Qm .i64 x.2 _]) 0 rfl (fun h q => q) (by repeat' constructor) ?_
  rintro ⟨b0, m0⟩ es0
  subst es0
  dsimp only [List.cons_append, List.nil_append] at *
  refine WL.as rfl rfl (WL.nil (W.seq (W.seq (W.region (WL.mv rfl rfl (WL.eqP (T := Ty) rfl rfl rfl (WL.nil (W.condF rfl (W.skip (W.seq (W.seq (W.region (WL.as rfl rfl ?_)))))))))))))
  refine WL.nil (W.block ?_)
  rw [hm, newP_ring hM1 hM2]
  refine W.loopR (σ := Nat × Clk × Value × List (Ky × Value)) (fun s => [(0, .int .i64 (m : Int)), (3, pt b0 0), (4, .int .i64 (s.1 : Int))])
    (fun s => [box b0 [.int .i64 s.2.1.most, .int .i64 s.2.1.target, s.2.2.1, .int .i64 (s.2.1.hot : Int), .int .i64 (s.2.1.cold : Int), .int .i64 (s.2.1.test : Int), .map (some m0)] 55, Qm .i64 m0 s.2.2.2]) (fun s ρ' => s.1 ≤ m ∧ Fu1 (m : Int) s.1 s.2.1 ∧ CMap s.2.1 s.2.2.2 ∧ ROs ρ' 7 s.2.2.1 (s.2.1.pages.flatMap pgC)) (fun s => m - s.1)
    (0, ring0 (m : Int), nilV, []) ⟨rfl, rfl, rfl, trivial⟩ rfl ⟨Nat.zero_le _, Fu1.zero _ hM1 hM2, CMap.zero hM1 hM2, rosR0f ρ _⟩ ?_
  rintro ⟨i, c, v, kvs⟩ ρ1 le1 ⟨hi, hF, hC, rc⟩ next
  dsimp only at hi hF hC rc next ⊢
  have hB := hF.b.B
  have hR := hF.b.R
  have hl4 : c.pages.length ≤ 10000 := by have := hF.b.len; omega
  by_cases hc : i < m
  · obtain ⟨d, e, hd, hp, hF2⟩ := hF.put (by omega)
    have hCd := fun v' => hC.put hd v'
    have hbd : Bnd d := (hCd nilV).b
    have hBd := hbd.B
    have hCe : ∀ v', CMap e (qset (delsQ kvs []) (fK i) v') := by
      intro v'
      have := (hCd v').pin (fK i) 1
      rw [hp] at this
      exact this
    have hFr : ∀ v', (qset (delsQ kvs []) (⟨0, 0, (i : Int)⟩ : Ky) v').length = i + 1 := fun v' => (hCe v').len.trans hF2.n
    rw [fK_i] at hd hp
    have hrl := rowP_len (i : Int)
    clear hCd
    refine W.seq (W.seq (W.region (WL.mv rfl rfl (WL.mv rfl rfl (WL.lss rfl rfl rfl (WL.nil (W.condpT rfl (by omega) (W.skip (W.seq (W.block (W.seq (W.region (WL.mv rfl rfl ?_)))))))))))))
    refine WL.mv rfl rfl ?_
    refine WL.bdC (T := Ty) rfl rfl rfl rfl (by repeat' first | exact CO.nil | apply CO.one (by first | rfl | exact SL.one (by assumption)) | apply CO.agg) rfl (by repeat' constructor) ?_
    refine WL.mv rfl rfl ?_
    refine WL.callF rfl rfl (fun x p d => row16_c _ _) (fun u1 => ?_)
    refine WL.fact (i := 0) rfl (fun h hb => hb.sl (sms_cells _) (by omega)) (fun hsl1 => ?_)
    refine WL.callTk (Take.cons 1 rfl (Take.cons 1 rfl Take.nil)) rfl rfl (fun x p d => putYX_c _ _ _ _ _ _ _ _ _ _ _ _ _ _ (by assumption) (by first | assumption | exact ROs.wide (by assumption) | exact ROs.mono (by assumption) (eqh_at 0 rfl p d) | exact ros_at 0 rfl p d | exact ros_at 1 rfl p d | exact ros_at 2 rfl p d | exact ros_at 3 rfl p d | exact ros_at 4 rfl p d) (by assumption) (by first | assumption | omega | decide) (by assumption) (by first | assumption | decide) (by first | assumption | omega | decide) (by first | assumption | exact ROs.wide (by assumption) | exact ROs.mono (by assumption) (eqh_at 0 rfl p d) | exact ros_at 0 rfl p d | exact ros_at 1 rfl p d | exact ros_at 2 rfl p d | exact ros_at 3 rfl p d | exact ros_at 4 rfl p d) (by first | assumption | omega | decide)) (by repeat' constructor) (fun r2 => ?_)
    refine WL.opens (α := Value × Value) (φ := fun x => r2 = .bool true ∧ SL x.1 _ ∧ SL x.2 _) (ps := fun x => [_, Buf 7 x.1 _, Qm .i64 _ _, Buf 2 x.2 _]) 0 rfl (fun h q => q) (by repeat' constructor) ?_
    rintro ⟨u2, kv2⟩ ⟨es2, su2, sk2⟩
    subst es2
    dsimp only [List.cons_append, List.nil_append] at su2 sk2 ⊢
    refine WL.not rfl rfl (WL.mv rfl rfl (WL.gY rfl rfl (WL.mv rfl rfl (WL.gY rfl rfl (WL.mv rfl rfl (WL.gY rfl rfl ?_))))))
    refine WL.bdC (T := Ty) rfl rfl rfl rfl (by repeat' first | exact CO.nil | apply CO.one (by first | rfl | exact SL.one (by assumption)) | apply CO.agg) rfl (by repeat' constructor) ?_
    refine WL.gY rfl rfl ?_
    refine WL.callTk (Take.cons 0 rfl (Take.cons 1 rfl Take.nil)) rfl rfl (fun x p d => PinYX_c _ _ _ _ _ _ _ _ _ _ (by assumption) (by first | assumption | exact ROs.wide (by assumption) | exact ROs.mono (by assumption) (eqh_at 0 rfl p d) | exact ros_at 0 rfl p d | exact ros_at 1 rfl p d | exact ros_at 2 rfl p d | exact ros_at 3 rfl p d | exact ros_at 4 rfl p d) (by assumption)) (by repeat' constructor) (fun r3 => ?_)
    refine WL.opens (α := Value) (φ := fun x => r3 = .bool true ∧ SL x _) (ps := fun x => [_, Buf 7 x _, Qm .i64 _ _]) 0 rfl (fun h q => q) (by repeat' constructor) ?_
    rintro u3 ⟨es3, su3⟩
    subst es3
    dsimp only [List.cons_append, List.nil_append] at su3 ⊢
    refine WL.gY rfl rfl (WL.not rfl rfl (WL.pickF rfl rfl rfl (WL.mv rfl rfl (WL.gY rfl rfl (WL.mv rfl rfl (WL.gY rfl rfl ?_))))))
    refine WL.callTk (Take.cons 0 rfl (Take.cons 1 rfl Take.nil)) rfl rfl (fun x p d => frames_e _ _ _ _ _ _ _ (by first | assumption | exact hFr _)) (by repeat' constructor) (fun r4 => ?_)
    refine WL.opens (α := Unit) (φ := fun _ => r4 = .int .i64 _) (ps := fun _ => [_, Qm .i64 _ _]) 0 rfl (fun h q => ⟨(), q⟩) (by repeat' constructor) ?_
    rintro _ es4
    subst es4
    dsimp only [List.cons_append, List.nil_append]
    refine WL.gY rfl rfl (WL.mv rfl rfl (WL.gY rfl rfl (WL.addK rfl rfl rfl (wrap_i64 ⟨by omega, by omega⟩) (WL.gY rfl rfl (WL.neq rfl rfl rfl (WL.pickF rfl rfl rfl (WL.nil (W.condpF rfl (by omega) (W.skip (W.inBlock (W.region (WL.mv rfl rfl (WL.addK rfl rfl rfl (wrap_i64 ⟨by omega, by omega⟩) ?_)))))))))))))
    refine WL.as rfl rfl (WL.nil ?_)
    refine W.fit (Hs' := [Buf 7 _ (e.pages.flatMap pgC), box b0 _ _, Qm _ m0 _]) (by (repeat' first | exact Sel.nil | apply Sel.k | exact Pick.h | apply Pick.t)) ?_
    refine W.freeze 0 rfl (by repeat' constructor) (fun ρ2 le2 in2 => ?_)
    refine W.sub ?_ (next ⟨i + 1, e, _, _⟩ ρ2 le2 ⟨hc, hF2, hCe _, in2.ros⟩ (by dsimp only; omega))
    exact ⟨rfl, rfl, rfl, trivial⟩
  · have him : i = m := by omega
    subst him
    refine W.seq (W.seq (W.region (WL.mv rfl rfl (WL.mv rfl rfl (WL.lss rfl rfl rfl (WL.nil (W.condpF rfl (by omega) (W.exit rfl (W.seq (W.seq (W.region (WL.as rfl rfl (WL.nil ?_)))))))))))))
    refine W.block ?_
    refine W.loopR (σ := Nat × Clk × Value × List (Ky × Value)) (fun s => [(0, .int .i64 (i : Int)), (3, pt b0 0), (5, .int .i64 (s.1 : Int))])
      (fun s => [box b0 [.int .i64 s.2.1.most, .int .i64 s.2.1.target, s.2.2.1, .int .i64 (s.2.1.hot : Int), .int .i64 (s.2.1.cold : Int), .int .i64 (s.2.1.test : Int), .map (some m0)] 55, Qm .i64 m0 s.2.2.2]) (fun s ρ' => s.1 ≤ i ∧ Fu2 i s.1 s.2.1 ∧ CMap s.2.1 s.2.2.2 ∧ ROs ρ' 7 s.2.2.1 (s.2.1.pages.flatMap pgC)) (fun s => i - s.1)
      (0, c, v, kvs) ⟨rfl, rfl, rfl, trivial⟩ rfl ⟨Nat.zero_le _, hF.two, hC, rc⟩ ?_
    clear hF hC rc hB hR hl4 next c v kvs
    rintro ⟨j, c, v, kvs⟩ ρ2 le2 ⟨hj, hF, hC, rc⟩ next
    dsimp only at hj hF hC rc next ⊢
    have hB := hF.b.B
    have hR := hF.b.R
    have hl4 : c.pages.length ≤ 10000 := by have := hF.b.len; omega
    by_cases hc2 : j < i
    · obtain ⟨a1, at', q, c1, d, e, f1, f2, f3, p1, b1, a2, p2, hF2, t2⟩ := hF.step hc2 hm2
      have hC1 : CMap c1 kvs := by
        have := hC.pin (fK j) (-1)
        rw [p1] at this
        exact this
      have hCd := fun v' => hC1.put a2 v'
      have hbd : Bnd d := (hCd nilV).b
      have hB1 := b1.B
      have hR1 := b1.R
      have hl1 : c1.pages.length ≤ 10000 := by have := b1.len; omega
      have hBd := hbd.B
      have hBe := hF2.b.B
      have hCe : ∀ v', CMap e (qset (delsQ kvs [fK j]) (fK (100 + j)) v') := by
        intro v'
        have := (hCd v').pin (fK (100 + j)) 1
        rw [p2] at this
        exact this
      rw [fK_h] at a1 a2 p2 hCe
      rw [fK_i] at f1 p1 a2 t2 hCe
      have hFr : ∀ v', (qset (delsQ kvs [(⟨0, 0, (j : Int)⟩ : Ky)]) (⟨0, 0, 100 + (j : Int)⟩ : Ky) v').length = i := fun v' => (hCe v').len.trans hF2.rn
      have tt : touchP e ⟨0, 0, (j : Int)⟩ = ((touchP e ⟨0, 0, (j : Int)⟩).1, false) := by rw [← t2]
      have hol : ([(⟨0, 0, (j : Int)⟩ : Ky)] : List Ky).length ≤ 1000000 := by simp
      have hqp : 0 < q.pins := by omega
      have hr1 := rowP_len 1
      have hr2 := rowP_len 2
      clear hCd
      refine W.seq (W.seq (W.region (WL.mv rfl rfl (WL.mv rfl rfl (WL.lss rfl rfl rfl (WL.nil (W.condpT rfl (by omega) (W.skip (W.seq (W.block (W.seq (W.seq (W.region ?_)))))))))))))
      refine WL.mv rfl rfl (WL.mv rfl rfl (WL.addK rfl rfl rfl (wrap_i64 ⟨by omega, by omega⟩) ?_))
      refine WL.bdC (T := Ty) rfl rfl rfl rfl (by repeat' first | exact CO.nil | apply CO.one (by first | rfl | exact SL.one (by assumption)) | apply CO.agg) rfl (by repeat' constructor) ?_
      refine WL.callF rfl rfl (fun x p d => row16_c _ _) (fun u2 => ?_)
      refine WL.fact (i := 0) rfl (fun h hb => hb.sl (sms_cells _) (by omega)) (fun hsl2 => ?_)
      refine WL.callTk (Take.cons 1 rfl (Take.cons 1 rfl Take.nil)) rfl rfl (fun x p d => putNX_c _ _ _ _ _ _ _ _ _ _ _ _ _ (by assumption) (by first | assumption | exact ROs.wide (by assumption) | exact ROs.mono (by assumption) (eqh_at 0 rfl p d) | exact ros_at 0 rfl p d | exact ros_at 1 rfl p d | exact ros_at 2 rfl p d | exact ros_at 3 rfl p d | exact ros_at 4 rfl p d) (by assumption) (by first | assumption | omega | decide) (by assumption) (by first | assumption | decide)) (by repeat' constructor) (fun r3 => ?_)
      refine WL.opens (α := Unit) (φ := fun _ => r3 = .bool false) (ps := fun _ => [_, Qm .i64 _ _]) 0 rfl (fun h q => ⟨(), q⟩) (by repeat' constructor) ?_
      rintro _ es3
      subst es3
      dsimp only [List.cons_append, List.nil_append]
      refine WL.mv rfl rfl (WL.gY rfl rfl (WL.mv rfl rfl (WL.gY rfl rfl (WL.mv rfl rfl (WL.gY rfl rfl ?_)))))
      refine WL.bdC (T := Ty) rfl rfl rfl rfl (by repeat' first | exact CO.nil | apply CO.one (by first | rfl | exact SL.one (by assumption)) | apply CO.agg) rfl (by repeat' constructor) ?_
      refine WL.gY rfl rfl ?_
      refine WL.callTk (Take.cons 0 rfl (Take.cons 0 rfl Take.nil)) rfl rfl (fun x p d => UnCX_c _ _ _ _ _ _ _ _ _ _ _ _ (by assumption) (by first | assumption | exact ROs.wide (by assumption) | exact ROs.mono (by assumption) (eqh_at 0 rfl p d) | exact ros_at 0 rfl p d | exact ros_at 1 rfl p d | exact ros_at 2 rfl p d | exact ros_at 3 rfl p d | exact ros_at 4 rfl p d) (by assumption) (by assumption) (by first | assumption | omega | decide) (by assumption)) (by repeat' constructor) (fun r3 => ?_)
      refine WL.opens (α := Value) (φ := fun x => r3 = .bool true ∧ SL x _) (ps := fun x => [_, Buf 7 x _, Qm .i64 _ _]) 0 rfl (fun h q => q) (by repeat' constructor) ?_
      rintro u3 ⟨es3, su3⟩
      subst es3
      dsimp only [List.cons_append, List.nil_append] at su3 ⊢
      refine WL.gY rfl rfl (WL.not rfl rfl (WL.pickF rfl rfl rfl (WL.mv rfl rfl (WL.gY rfl rfl (WL.mv rfl rfl (WL.gY rfl rfl (WL.mv rfl rfl (WL.gY rfl rfl (WL.addK rfl rfl rfl (wrap_i64 ⟨by omega, by omega⟩) (WL.gY rfl rfl ?_))))))))))
      refine WL.bdC (T := Ty) rfl rfl rfl rfl (by repeat' first | exact CO.nil | apply CO.one (by first | rfl | exact SL.one (by assumption)) | apply CO.agg) rfl (by repeat' constructor) ?_
      refine WL.gY rfl rfl ?_
      refine WL.callF rfl rfl (fun x p d => row16_c _ _) (fun u4 => ?_)
      refine WL.fact (i := 0) rfl (fun h hb => hb.sl (sms_cells _) (by omega)) (fun hsl4 => ?_)
      refine WL.gY rfl rfl ?_
      refine WL.callTk (Take.cons 1 rfl (Take.cons 2 rfl Take.nil)) rfl rfl (fun x p d => putYX_c _ _ _ _ _ _ _ _ _ _ _ _ _ _ (by assumption) (by first | assumption | exact ROs.wide (by assumption) | exact ROs.mono (by assumption) (eqh_at 0 rfl p d) | exact ros_at 0 rfl p d | exact ros_at 1 rfl p d | exact ros_at 2 rfl p d | exact ros_at 3 rfl p d | exact ros_at 4 rfl p d) (by assumption) (by first | assumption | omega | decide) (by assumption) (by first | assumption | decide) (by first | assumption | omega | decide) (by first | assumption | exact ROs.wide (by assumption) | exact ROs.mono (by assumption) (eqh_at 0 rfl p d) | exact ros_at 0 rfl p d | exact ros_at 1 rfl p d | exact ros_at 2 rfl p d | exact ros_at 3 rfl p d | exact ros_at 4 rfl p d) (by first | assumption | omega | decide)) (by repeat' constructor) (fun r5 => ?_)
      refine WL.opens (α := Value × Value) (φ := fun x => r5 = .bool true ∧ SL x.1 _ ∧ SL x.2 _) (ps := fun x => [_, Buf 7 x.1 _, Qm .i64 _ _, Buf 2 x.2 _]) 0 rfl (fun h q => q) (by repeat' constructor) ?_
      rintro ⟨u5, kv5⟩ ⟨es5, su5, sk5⟩
      subst es5
      dsimp only [List.cons_append, List.nil_append] at su5 sk5 ⊢
      refine WL.gY rfl rfl (WL.not rfl rfl (WL.pickF rfl rfl rfl (WL.mv rfl rfl (WL.gY rfl rfl (WL.mv rfl rfl (WL.gY rfl rfl (WL.mv rfl rfl (WL.gY rfl rfl (WL.addK rfl rfl rfl (wrap_i64 ⟨by omega, by omega⟩) (WL.gY rfl rfl ?_))))))))))
      refine WL.bdC (T := Ty) rfl rfl rfl rfl (by repeat' first | exact CO.nil | apply CO.one (by first | rfl | exact SL.one (by assumption)) | apply CO.agg) rfl (by repeat' constructor) ?_
      refine WL.gY rfl rfl ?_
      refine WL.callTk (Take.cons 0 rfl (Take.cons 1 rfl Take.nil)) rfl rfl (fun x p d => PinYX_c _ _ _ _ _ _ _ _ _ _ (by assumption) (by first | assumption | exact ROs.wide (by assumption) | exact ROs.mono (by assumption) (eqh_at 0 rfl p d) | exact ros_at 0 rfl p d | exact ros_at 1 rfl p d | exact ros_at 2 rfl p d | exact ros_at 3 rfl p d | exact ros_at 4 rfl p d) (by assumption)) (by repeat' constructor) (fun r6 => ?_)
      refine WL.opens (α := Value) (φ := fun x => r6 = .bool true ∧ SL x _) (ps := fun x => [_, Buf 7 x _, Qm .i64 _ _]) 0 rfl (fun h q => q) (by repeat' constructor) ?_
      rintro u6 ⟨es6, su6⟩
      subst es6
      dsimp only [List.cons_append, List.nil_append] at su6 ⊢
      refine WL.gY rfl rfl (WL.not rfl rfl (WL.pickF rfl rfl rfl (WL.mv rfl rfl (WL.gY rfl rfl (WL.mv rfl rfl (WL.gY rfl rfl ?_))))))
      refine WL.callTk (Take.cons 0 rfl (Take.cons 1 rfl Take.nil)) rfl rfl (fun x p d => frames_e _ _ _ _ _ _ _ (by first | assumption | exact hFr _)) (by repeat' constructor) (fun r7 => ?_)
      refine WL.opens (α := Unit) (φ := fun _ => r7 = .int .i64 _) (ps := fun _ => [_, Qm .i64 _ _]) 0 rfl (fun h q => ⟨(), q⟩) (by repeat' constructor) ?_
      rintro _ es7
      subst es7
      dsimp only [List.cons_append, List.nil_append]
      refine WL.gY rfl rfl (WL.mv rfl rfl (WL.gY rfl rfl (WL.neq rfl rfl rfl (WL.pickF rfl rfl rfl (WL.nil (W.condpF rfl (by omega) (W.skip (W.seq (W.region (WL.mv rfl rfl (WL.mv rfl rfl ?_)))))))))))
      refine WL.bdC (T := Ty) rfl rfl rfl rfl (by repeat' first | exact CO.nil | apply CO.one (by first | rfl | exact SL.one (by assumption)) | apply CO.agg) rfl (by repeat' constructor) ?_
      refine WL.callTk (Take.cons 0 rfl (Take.cons 0 rfl Take.nil)) rfl rfl (fun x p d => getNX_c _ _ _ _ _ _ _ _ _ _ (by assumption) (by first | assumption | exact ROs.wide (by assumption) | exact ROs.mono (by assumption) (eqh_at 0 rfl p d) | exact ros_at 0 rfl p d | exact ros_at 1 rfl p d | exact ros_at 2 rfl p d | exact ros_at 3 rfl p d | exact ros_at 4 rfl p d) (by assumption)) (by repeat' constructor) (fun r7 => ?_)
      refine WL.opens (α := Unit) (φ := fun _ => r7 = .tuple #[nilV, .bool false]) (ps := fun _ => [_, Qm .i64 _ _]) 0 rfl (fun h q => ⟨(), q⟩) (by repeat' constructor) ?_
      rintro _ es7
      subst es7
      dsimp only [List.cons_append, List.nil_append]
      refine WL.mv rfl rfl (WL.extL rfl rfl rfl (WL.extL rfl rfl rfl (WL.as rfl rfl (WL.as rfl rfl (WL.nil (W.seq (W.region (WL.mv rfl rfl (WL.nil (W.condF rfl (W.skip (W.inBlock (W.region ?_)))))))))))))
      refine WL.mv rfl rfl (WL.addK rfl rfl rfl (wrap_i64 ⟨by omega, by omega⟩) (WL.as rfl rfl (WL.nil ?_)))
      refine W.fit (Hs' := [Buf 7 _ (e.pages.flatMap pgC), box b0 _ _, Qm _ m0 _]) (by (repeat' first | exact Sel.nil | apply Sel.k | exact Pick.h | apply Pick.t)) ?_
      refine W.freeze 0 rfl (by repeat' constructor) (fun ρ3 le3 in3 => ?_)
      refine W.sub ?_ (next ⟨j + 1, e, _, _⟩ ρ3 le3 ⟨hc2, hF2, hCe _, in3.ros⟩ (by dsimp only; omega))
      exact ⟨rfl, rfl, rfl, trivial⟩
    · refine W.seq ?_
      refine W.seq (W.region (WL.mv rfl rfl (WL.mv rfl rfl (WL.lss rfl rfl rfl (WL.nil (W.condpF rfl (by omega) (W.exit rfl (W.seq (W.region ?_)))))))))
      refine WL.callV rfl rfl (fun x p d => awake16_c _) ?_
      refine WL.as rfl rfl (WL.nil ?_)
      exact W.fit (Hs' := []) (by (repeat' first | exact Sel.nil | apply Sel.k | exact Pick.h | apply Pick.t)) (W.ret1 rfl rfl (fun h q => rfl))
end Go.Proofs.Ytdpnpipninggeaa
