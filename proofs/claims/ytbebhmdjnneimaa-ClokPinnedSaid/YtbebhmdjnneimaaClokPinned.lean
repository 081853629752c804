/- ClokPinned. -/
import Derived.Test.YtbebhmdjnneimaaStc
import Derived.Test.YtbebhmdjnneimaaNum
import Derived.Test.YtbebhmdjnneimaaTab
import Derived.Test.YtbebhmdjnneimaaClkAw
import Derived.Test.YtbebhmdjnneimaaClkW
import Derived.Test.YtbebhmdjnneimaaClkSt
import Derived.Test.YtbebhmdjnneimaaClk9
set_option linter.unusedSimpArgs false
set_option linter.unusedVariables false
set_option maxRecDepth 20000
set_option maxHeartbeats 4000000
namespace Go.Proofs.Ytbebhmdjnneimaa
open Go
theorem isRes_ne {p : Pg} (h : p.kind = 1 ∨ p.kind = 2 ∨ p.kind = 3) : isRes p = decide (p.kind ≠ 3) := by
 unfold isRes
 rcases h with h | h | h <;> rw [h] <;> rfl
theorem cnt_zero1 (L : List Pg) : cnt isRes (L.take 0) = 0 := rfl
theorem cnt_zero0 (L : List Pg) : ((cnt isRes (L.take 0) : Nat) : Int) = 0 := rfl
attribute [local irreducible] W WL Fn Buf ROs SL eptr box Rd Src bndOK WD RB Reads In Own admitP pinP touchP dropP fndK sameC newP keyP stepP clockP upA setP
theorem ClokPinned_fn (ρ : Hp) (a0 : Int) (w0 : (Lit.int .i64 a0).wf = true) (v1 : Value) (z1 : List Int) (r1 : ROs ρ 1 v1 (z1.map (Value.int .i64))) (m1 : ∀ n ∈ z1, (Lit.int .i64 n).wf = true) (y1 : z1.length * 8 ≤ 140737488351232) (a2 : Int) (w2 : (Lit.int .i64 a2).wf = true) :
    Fn Try.prog 11 #[.int .i64 a0, v1, .int .i64 a2] ρ [] (fun r _ => r = .bool true) := by
  have hcb := clock_B a0 (z1.take 80)
  have hpk := clock_PK a0 (z1.take 80) (by rw [List.length_take]; omega)
  refine in11 rfl rfl ?_
  generalize hcc : clockP a0 (z1.take 80) = c at hcb hpk
  refine W.seq (W.region (WL.as rfl rfl (WL.nil (W.seq (W.region (WL.mv rfl rfl (WL.mv rfl rfl ?_)))))))
  refine WL.callF rfl rfl (fun x p d => clock15_c _ _ _ _ (by first | assumption | exact ROs.wide (by assumption) | exact ROs.mono (by assumption) (eqh_at 0 rfl p d) | exact ros_at 0 rfl p d | exact ros_at 1 rfl p d | exact ros_at 2 rfl p d | exact ros_at 3 rfl p d | exact ros_at 4 rfl p d) (by assumption)) (fun r0 => ?_)
  refine WL.opens (α := Value) (φ := fun v => r0 = .agg #[.int .i64 _, .int .i64 _, v, .int .i64 _, .int .i64 _, .int .i64 _] ∧ SL v _) (ps := fun v => [Buf 7 v _]) 0 rfl (fun h q => q) (by repeat' constructor) ?_
  rintro u0 ⟨es0, su0⟩
  subst es0
  dsimp only [List.cons_append, List.nil_append] at su0 ⊢
  refine WL.alF (T := Ty) rfl rfl (by repeat' constructor) (fun b1 => ?_)
  refine WL.stAO (T := Ty) (j := 0) rfl rfl rfl rfl (by repeat' first | exact AO.nil | apply AO.cons (by first | rfl | exact SL.one (by assumption))) rfl rfl (by repeat' constructor) (by repeat' constructor) ?_
  refine WL.nil (W.seq (W.region (WL.as rfl rfl (WL.nil (W.seq (W.seq (W.region (WL.faN (T := Ty) (off' := 2) rfl rfl rfl rfl rfl rfl rfl (WL.ldN (T := Ty) (j := 0) rfl rfl rfl rfl rfl rfl ?_)))))))))
  refine WL.len (T := Ty) rfl rfl (by assumption) rfl ?_
  refine WL.mv rfl rfl (WL.nil (W.block ?_))
  rw [hcc] at su0 ⊢
  refine W.freeze 1 rfl (by repeat' constructor) (fun ρ1 le1 in1 => ?_)
  have rc := in1.ros
  clear in1 r1
  have hcG := hcb.G
  have hcl := hcb.len
  have l1 := pgs_cells c.pages
  refine W.cutG2 (τ := Clk × Value) (fun s => [(2, .int .i64 a2), (7, pt b1 0), (8, .int .i64 ((cnt isRes c.pages : Nat) : Int))]) (fun s => [box b1 [.int .i64 s.1.most, .int .i64 s.1.target, s.2, .int .i64 (s.1.hot : Int), .int .i64 (s.1.cold : Int), .int .i64 (s.1.test : Int)] 73])
    (fun s ρ' => AllPin s.1 (cnt isRes c.pages) ∧ ROs ρ' 7 s.2 (s.1.pages.flatMap pgC)) ?_ (fun cut0 => ?_)
  · generalize cnt isRes c.pages = n
    clear rc hcc hcb hpk su0 hcG hcl l1
    clear u0 c
    rintro ⟨c, v⟩ ρ2 le2 ⟨hAP, rc⟩
    dsimp only at hAP rc ⊢
    have hb := hAP.b
    have hB := hb.B
    have hR := hb.R
    have hG := hb.G
    have hlen := hb.len
    have l1 := pgs_cells c.pages
    have hl4 : c.pages.length ≤ 10000 := by omega
    have hn6 : (1000000 : Nat) ≤ 1000000 := Nat.le_refl _
    have hnc := hAP.n
    have hns := hb.rs
    have hnl := cnt_le isRes c.pages
    have hm1 := hb.m1
    have hstr : strK = ⟨9, 0, 0⟩ := rfl
    by_cases hrm : (n : Int) < c.most
    · obtain ⟨⟨d, out, ok⟩, hd⟩ := admit_ex strK hb.I
      have hA := hb.admits (by decide) hd
      obtain ⟨ho, hok⟩ := admit_room hAP.s (by omega) (by decide) hd
      dsimp only at ho hok
      subst ho hok
      obtain ⟨q, hq, hqk, _⟩ := hA.is rfl
      obtain ⟨i, hi⟩ := List.mem_iff_getElem?.1 hq
      have hf : fndK d.pages strK = (i : Int) := by rw [← hqk]; exact fnd_mem hA.b.ky hi
      have hdl : d.pages.length ≤ 16 := hA.b.len
      refine W.seq (W.region ?_)
      refine WL.bdC (T := Ty) rfl rfl rfl rfl (by repeat' first | exact CO.nil | apply CO.one (by first | rfl | exact SL.one (by assumption)) | apply CO.agg) rfl (by repeat' constructor) ?_
      refine WL.alF (T := Ty) rfl rfl (by repeat' constructor) (fun b2 => ?_)
      refine WL.stAO (T := Ty) (j := 0) rfl rfl rfl rfl (by repeat' first | exact AO.nil | apply AO.cons (by first | rfl | exact SL.one (by assumption))) rfl rfl (by repeat' constructor) (by repeat' constructor) ?_
      refine WL.nil (W.seq (W.region ?_))
      refine WL.ldAF (T := Ty) (j := 1) rfl rfl rfl rfl rfl rfl (by repeat' constructor) ?_
      refine WL.ldAF (T := Ty) (j := 0) rfl rfl rfl rfl rfl rfl (by repeat' constructor) ?_
      refine WL.callF rfl rfl (fun x p d => admitK_c _ _ _ _ _ _ _ _ (by assumption) (by assumption) (by first | assumption | omega) (by first | assumption | omega | decide) (by first | exact rosNew _ _ | assumption | exact ROs.wide (by assumption) | exact ROs.mono (by assumption) (eqh_at 0 rfl p d) | exact ros_at 0 rfl p d | exact ros_at 1 rfl p d | exact ros_at 2 rfl p d | exact ros_at 3 rfl p d | exact ros_at 4 rfl p d | exact ros_at 5 rfl p d | exact ros_at 6 rfl p d | exact ros_at 7 rfl p d | exact ros_at 8 rfl p d | exact ros_at 9 rfl p d) (by assumption)) (fun r3 => ?_)
      refine WL.opens (α := Value × Value) (φ := fun x => r3 = .tuple #[.agg #[.int .i64 _, .int .i64 _, x.1, .int .i64 _, .int .i64 _, .int .i64 _], x.2, .bool _] ∧ SL x.1 _ ∧ SL x.2 _) (ps := fun x => [Buf 7 x.1 _, Buf 3 x.2 _]) 0 rfl (fun h q => q) (by repeat' constructor) ?_
      rintro ⟨u3, kv3⟩ ⟨es3, su3, sk3⟩
      subst es3
      dsimp only [List.cons_append, List.nil_append] at su3 sk3 ⊢
      refine WL.mv rfl rfl (WL.extL rfl rfl rfl (WL.extL rfl rfl rfl (WL.extL rfl rfl rfl ?_)))
      refine WL.alF (T := Ty) rfl rfl (by repeat' constructor) (fun b4 => ?_)
      refine WL.stAO (T := Ty) (j := 0) rfl rfl rfl rfl (by repeat' first | exact AO.nil | apply AO.cons (by first | rfl | exact SL.one (by assumption))) rfl rfl (by repeat' constructor) (by repeat' constructor) ?_
      refine WL.as rfl rfl (WL.as rfl rfl (WL.nil (W.seq (W.seq (W.region (WL.mv rfl rfl (WL.mv rfl rfl (WL.faN (T := Ty) (off' := 0) rfl rfl rfl rfl rfl rfl rfl (WL.ldN (T := Ty) (j := 4) rfl rfl rfl rfl rfl rfl (WL.lss rfl rfl rfl (WL.neB (T := Ty) rfl rfl rfl rfl (WL.nil ?_))))))))))))
      rw [decide_eq_true hrm]
      have sk0 : SL kv3 0 := sk3
      refine W.condF rfl (W.skip (W.seq (W.seq (W.region (WL.mv rfl rfl (WL.nil (W.condT rfl (W.seq (W.region (WL.mv rfl rfl ?_))))))))))
      refine WL.len (T := Ty) rfl rfl (by assumption) rfl ?_
      refine WL.eql rfl rfl rfl (WL.mv rfl rfl (WL.gY rfl rfl ?_))
      refine WL.ldAF (T := Ty) (j := 0) rfl rfl rfl rfl rfl rfl (by repeat' constructor) ?_
      refine WL.gY rfl rfl ?_
      refine WL.ldAF (T := Ty) (j := 3) rfl rfl rfl rfl rfl rfl (by repeat' constructor) ?_
      refine WL.gY rfl rfl ?_
      refine WL.callV rfl rfl (fun x p d => find15_e _ _ _ _ _ _ _ _ _ _ _ _ (by first | assumption | exact ROs.wide (by assumption) | exact ROs.mono (by assumption) (eqh_at 0 rfl p d) | exact ros_at 0 rfl p d | exact ros_at 1 rfl p d | exact ros_at 2 rfl p d | exact ros_at 3 rfl p d | exact ros_at 4 rfl p d) (by first | assumption | omega) (by assumption)) ?_
      refine WL.gY rfl rfl (WL.geq rfl rfl rfl (WL.pickT rfl rfl rfl (WL.mv rfl rfl (WL.gY rfl rfl ?_))))
      refine WL.callV rfl rfl (fun x p d => awake15_c _) ?_
      refine WL.pickT rfl rfl rfl (WL.as rfl rfl (WL.nil ?_))
      exact W.fit (Hs' := []) (by (repeat' first | exact Sel.nil | apply Sel.k | exact Pick.h | apply Pick.t)) (W.ret1 rfl rfl (fun h q => rfl))
    · have hd : admitP 1000000 c strK = some (c, [], false) := admit_full hAP.s (by omega) hAP.f
      have hn1 : (n : Int) = c.most := by omega
      refine W.seq (W.region ?_)
      refine WL.bdC (T := Ty) rfl rfl rfl rfl (by repeat' first | exact CO.nil | apply CO.one (by first | rfl | exact SL.one (by assumption)) | apply CO.agg) rfl (by repeat' constructor) ?_
      refine WL.alF (T := Ty) rfl rfl (by repeat' constructor) (fun b2 => ?_)
      refine WL.stAO (T := Ty) (j := 0) rfl rfl rfl rfl (by repeat' first | exact AO.nil | apply AO.cons (by first | rfl | exact SL.one (by assumption))) rfl rfl (by repeat' constructor) (by repeat' constructor) ?_
      refine WL.nil (W.seq (W.region ?_))
      refine WL.ldAF (T := Ty) (j := 1) rfl rfl rfl rfl rfl rfl (by repeat' constructor) ?_
      refine WL.ldAF (T := Ty) (j := 0) rfl rfl rfl rfl rfl rfl (by repeat' constructor) ?_
      refine WL.callF rfl rfl (fun x p d => admitK_c _ _ _ _ _ _ _ _ (by assumption) (by assumption) (by first | assumption | omega) (by first | assumption | omega | decide) (by first | exact rosNew _ _ | assumption | exact ROs.wide (by assumption) | exact ROs.mono (by assumption) (eqh_at 0 rfl p d) | exact ros_at 0 rfl p d | exact ros_at 1 rfl p d | exact ros_at 2 rfl p d | exact ros_at 3 rfl p d | exact ros_at 4 rfl p d | exact ros_at 5 rfl p d | exact ros_at 6 rfl p d | exact ros_at 7 rfl p d | exact ros_at 8 rfl p d | exact ros_at 9 rfl p d) (by assumption)) (fun r3 => ?_)
      refine WL.opens (α := Value × Value) (φ := fun x => r3 = .tuple #[.agg #[.int .i64 _, .int .i64 _, x.1, .int .i64 _, .int .i64 _, .int .i64 _], x.2, .bool _] ∧ SL x.1 _ ∧ SL x.2 _) (ps := fun x => [Buf 7 x.1 _, Buf 3 x.2 _]) 0 rfl (fun h q => q) (by repeat' constructor) ?_
      rintro ⟨u3, kv3⟩ ⟨es3, su3, sk3⟩
      subst es3
      dsimp only [List.cons_append, List.nil_append] at su3 sk3 ⊢
      refine WL.mv rfl rfl (WL.extL rfl rfl rfl (WL.extL rfl rfl rfl (WL.extL rfl rfl rfl ?_)))
      refine WL.alF (T := Ty) rfl rfl (by repeat' constructor) (fun b4 => ?_)
      refine WL.stAO (T := Ty) (j := 0) rfl rfl rfl rfl (by repeat' first | exact AO.nil | apply AO.cons (by first | rfl | exact SL.one (by assumption))) rfl rfl (by repeat' constructor) (by repeat' constructor) ?_
      refine WL.as rfl rfl (WL.as rfl rfl (WL.nil (W.seq (W.seq (W.region (WL.mv rfl rfl (WL.mv rfl rfl (WL.faN (T := Ty) (off' := 0) rfl rfl rfl rfl rfl rfl rfl (WL.ldN (T := Ty) (j := 4) rfl rfl rfl rfl rfl rfl (WL.lss rfl rfl rfl (WL.neB (T := Ty) rfl rfl rfl rfl (WL.nil ?_))))))))))))
      rw [decide_eq_false hrm]
      have sv : SL v c.pages.length := rc.sl l1 (by omega)
      refine W.condF rfl (W.skip (W.seq (W.seq (W.region (WL.mv rfl rfl (WL.nil (W.condF rfl (W.skip (W.seq (W.region (WL.mv rfl rfl (WL.andI rfl rfl rfl (by decide) (WL.mv rfl rfl ?_)))))))))))))
      refine WL.remI rfl rfl rfl (by omega) (by omega) (WL.as rfl rfl (WL.nil (W.seq (W.region ?_))))
      refine WL.alF (T := Ty) rfl rfl (by repeat' constructor) (fun b5 => ?_)
      refine WL.nil (W.seq (W.seq (W.region (WL.faN (T := Ty) (off' := 2) rfl rfl rfl rfl rfl rfl rfl (WL.ldN (T := Ty) (j := 5) rfl rfl rfl rfl rfl rfl ?_)))))
      refine WL.len (T := Ty) rfl rfl (by assumption) rfl ?_
      refine WL.mv rfl rfl (WL.nil (W.block ?_))
      obtain ⟨k0, hk0⟩ : ∃ k : Nat, a2 % (255 + 1) % (n : Int) = (k : Int) := ⟨(a2 % (255 + 1) % (n : Int)).toNat, (Int.toNat_of_nonneg (Int.emod_nonneg _ (by omega))).symm⟩
      have hkn : k0 < n := by have := Int.emod_lt_of_pos (a2 % (255 + 1)) (show (0 : Int) < (n : Int) by omega); omega
      rw [hk0]
      refine W.fit (Hs' := [Buf 7 u3 _, box b5 _ _, box b4 _ _, box b2 _ _, box b1 _ _]) (by (repeat' first | exact Sel.nil | apply Sel.k | exact Pick.h | apply Pick.t)) ?_
      refine W.freeze 0 rfl (by repeat' constructor) (fun ρ3 le3 in3 => ?_)
      replace rc := rc.mono le3
      have ru := in3.ros
      clear in3
      refine W.loopR (σ := Nat × Ky × Clk × Value × Bool) (fun s => [(7, pt b1 0), (13, pt b2 0), (14, pt b4 0), (16, .bool s.2.2.2.2), (17, .int .i64 ((k0 : Int) - ((cnt isRes (c.pages.take s.1) : Nat) : Int))), (18, pt b5 0), (81, v), (82, .int .i64 (c.pages.length : Int)), (83, .int .i64 (s.1 : Int))])
        (fun s => [box b5 [.int .i64 s.2.1.a, .int .i64 s.2.1.b, .int .i64 s.2.1.c] 76, box b4 [.int .i64 s.2.2.1.most, .int .i64 s.2.2.1.target, s.2.2.2.1, .int .i64 (s.2.2.1.hot : Int), .int .i64 (s.2.2.1.cold : Int), .int .i64 (s.2.2.1.test : Int)] 73, box b2 [.int .i64 9, .int .i64 0, .int .i64 0] 76, box b1 [.int .i64 c.most, .int .i64 c.target, v, .int .i64 (c.hot : Int), .int .i64 (c.cold : Int), .int .i64 (c.test : Int)] 73])
        (fun s ρ' => s.1 ≤ c.pages.length ∧ (k0 < cnt isRes (c.pages.take s.1) → ∃ i q, c.pages[i]? = some q ∧ isRes q = true ∧ s.2.1 = q.key ∧ s.2.2.1 = setP c i { q with pins := 0 } ∧ s.2.2.2.2 = true ∧ ROs ρ' 7 s.2.2.2.1 (s.2.2.1.pages.flatMap pgC))) (fun s => c.pages.length - s.1)
        (0, ⟨0, 0, 0⟩, c, u3, false) ⟨rfl, rfl, rfl, rfl, by dsimp only; rw [cnt_zero0, Int.sub_zero]; rfl, rfl, rfl, rfl, rfl, trivial⟩ rfl ⟨Nat.zero_le _, fun h => absurd h (by rw [cnt_zero1]; omega)⟩ ?_
      rintro ⟨j, fr, d, w, ok⟩ ρ4 le4 ⟨hj, hw⟩ next
      dsimp only at hj hw next ⊢
      replace rc := rc.mono le4
      have hct := cnt_take_le (so := isRes) c.pages j
      by_cases hc : j < c.pages.length
      · obtain ⟨q, hq⟩ : ∃ q, c.pages[j]? = some q := ⟨_, List.getElem?_eq_getElem hc⟩
        have hrow : ((c.pages.flatMap pgC).drop (((j : Nat) : Int).toNat * 7)).take 7 = pgC q := flat_row pg_len hq
        unfold pgC at hrow
        have t1 := cnt_take1 (so := isRes) hq
        have hir := isRes_ne (hG.kind hq)
        have hqp := hAP.p q (List.mem_of_getElem? hq)
        have hwm : ∀ ρ', Le ρ4 ρ' → k0 < cnt isRes (c.pages.take j) → ∃ i q, c.pages[i]? = some q ∧ isRes q = true ∧ fr = q.key ∧ d = setP c i { q with pins := 0 } ∧ ok = true ∧ ROs ρ' 7 w (d.pages.flatMap pgC) := by
          intro ρ' le h
          obtain ⟨i, q, a1, a2, a3, a4, a5, a6⟩ := hw h
          exact ⟨i, q, a1, a2, a3, a4, a5, a6.mono le⟩
        by_cases k3 : q.kind = 3
        · have hr : isRes q = false := by rw [hir, decide_eq_false (fun h => h k3)]
          rw [hr, if_neg (by decide)] at t1
          refine W.seq (W.region (WL.lss rfl rfl rfl (WL.nil (W.seq (W.condpT rfl (by omega) (W.skip (W.seq (W.block (W.seq (W.region ?_))))))))))
          refine WL.ix (T := Ty) rfl rfl rfl (by assumption) rfl rfl (by omega) (by first | omega | decide +kernel) ?_
          refine WL.ldAR (T := Ty) rfl rfl rfl rfl (by first | assumption | exact ROs.wide (by assumption)) (by assumption) rfl ?_
          refine WL.alF (T := Ty) rfl rfl (by repeat' constructor) (fun b6 => ?_)
          refine WL.stAO (T := Ty) (j := 0) rfl rfl rfl rfl (by repeat' first | exact AO.nil | apply AO.cons (by first | rfl | exact SL.one (by assumption))) rfl rfl (by repeat' constructor) (by repeat' constructor) ?_
          refine WL.nil (W.seq (W.region (WL.faN (T := Ty) (off' := 3) rfl rfl rfl rfl rfl rfl rfl (WL.ldN (T := Ty) (j := 0) rfl rfl rfl rfl rfl rfl (WL.neq rfl rfl rfl (WL.nil (W.condpF rfl (by omega) (W.skip (W.inBlock (W.region (WL.addK rfl rfl rfl (wrap_i64 ⟨by omega, by omega⟩) (WL.mv rfl rfl (WL.nil ?_)))))))))))))
          refine W.fit (Hs' := [box b5 _ _, box b4 _ _, box b2 _ _, box b1 _ _]) (by (repeat' first | exact Sel.nil | apply Sel.k | exact Pick.h | apply Pick.t)) (W.sub ?_ (next ⟨j + 1, fr, d, w, ok⟩ ρ4 (Le.refl _) ⟨hc, by dsimp only; rw [t1]; exact hwm ρ4 (Le.refl _)⟩ (by dsimp only; omega)))
          exact ⟨rfl, rfl, rfl, rfl, by rw [t1]; rfl, rfl, rfl, rfl, rfl, trivial⟩
        · have hr : isRes q = true := by rw [hir, decide_eq_true k3]
          rw [hr, if_pos rfl] at t1
          have hsub : (k0 : Int) - ((cnt isRes (c.pages.take (j + 1)) : Nat) : Int) = (k0 : Int) - ((cnt isRes (c.pages.take j) : Nat) : Int) - 1 := by rw [t1]; push_cast; omega
          by_cases hk : k0 = cnt isRes (c.pages.take j)
          · obtain ⟨hpin, _⟩ := hAP.off hq hr
            obtain ⟨d2, hd2⟩ : ∃ x, x = setP c j { q with pins := 0 } := ⟨_, rfl⟩
            rw [← hd2] at hpin
            refine W.seq (W.region (WL.lss rfl rfl rfl (WL.nil (W.seq (W.condpT rfl (by omega) (W.skip (W.seq (W.block (W.seq (W.region ?_))))))))))
            refine WL.ix (T := Ty) rfl rfl rfl (by assumption) rfl rfl (by omega) (by first | omega | decide +kernel) ?_
            refine WL.ldAR (T := Ty) rfl rfl rfl rfl (by first | assumption | exact ROs.wide (by assumption)) (by assumption) rfl ?_
            refine WL.alF (T := Ty) rfl rfl (by repeat' constructor) (fun b6 => ?_)
            refine WL.stAO (T := Ty) (j := 0) rfl rfl rfl rfl (by repeat' first | exact AO.nil | apply AO.cons (by first | rfl | exact SL.one (by assumption))) rfl rfl (by repeat' constructor) (by repeat' constructor) ?_
            refine WL.nil (W.seq (W.region (WL.faN (T := Ty) (off' := 3) rfl rfl rfl rfl rfl rfl rfl (WL.ldN (T := Ty) (j := 0) rfl rfl rfl rfl rfl rfl (WL.neq rfl rfl rfl (WL.nil (W.condpT rfl (by omega) (W.seq (W.seq (W.region (WL.mv rfl rfl (WL.eql rfl rfl rfl (WL.nil ?_)))))))))))))
            refine W.condpT rfl (by omega) (W.seq (W.region (WL.faN (T := Ty) (off' := 0) rfl rfl rfl rfl rfl rfl rfl ?_)))
            refine WL.ldAF (T := Ty) (j := 0) rfl rfl rfl rfl rfl rfl (by repeat' constructor) ?_
            refine WL.stAO (T := Ty) (j := 1) rfl rfl rfl rfl (by repeat' first | exact AO.nil | apply AO.cons (by first | rfl | exact SL.one (by assumption))) rfl rfl (by repeat' constructor) (by repeat' constructor) ?_
            refine WL.nil (W.region ?_)
            refine WL.ldAF (T := Ty) (j := 4) rfl rfl rfl rfl rfl rfl (by repeat' constructor) ?_
            refine WL.faN (T := Ty) (off' := 0) rfl rfl rfl rfl rfl rfl rfl ?_
            refine WL.ldAF (T := Ty) (j := 0) rfl rfl rfl rfl rfl rfl (by repeat' constructor) ?_
            refine WL.faN (T := Ty) (off' := 6) rfl rfl rfl rfl rfl rfl rfl (WL.ldN (T := Ty) (j := 0) rfl rfl rfl rfl rfl rfl (WL.negK rfl rfl (wrap_i64 ⟨by omega, by omega⟩) ?_))
            refine WL.callF rfl rfl (fun x p d => pin_e _ _ _ _ _ _ _ (by assumption) (by first | assumption | exact ROs.wide (by assumption) | exact ROs.mono (by assumption) (eqh_at 0 rfl p d) | exact ros_at 0 rfl p d | exact ros_at 1 rfl p d | exact ros_at 2 rfl p d | exact ros_at 3 rfl p d | exact ros_at 4 rfl p d) (by assumption)) (fun r7 => ?_)
            refine WL.opens (α := Value) (φ := fun v => r7 = .tuple #[.agg #[.int .i64 _, .int .i64 _, v, .int .i64 _, .int .i64 _, .int .i64 _], .bool _] ∧ SL v _) (ps := fun v => [Buf 7 v _]) 0 rfl (fun h q => q) (by repeat' constructor) ?_
            rintro u7 ⟨es7, su7⟩
            subst es7
            dsimp only [List.cons_append, List.nil_append] at su7 ⊢
            refine WL.mv rfl rfl (WL.extL rfl rfl rfl (WL.extL rfl rfl rfl ?_))
            refine WL.stAO (T := Ty) (j := 3) rfl rfl rfl rfl (by repeat' first | exact AO.nil | apply AO.cons (by first | rfl | exact SL.one (by assumption))) rfl rfl (by repeat' constructor) (by repeat' constructor) ?_
            refine WL.as rfl rfl (WL.nil (W.region (WL.mv rfl rfl (WL.subK rfl rfl rfl (wrap_i64 ⟨by omega, by omega⟩) (WL.as rfl rfl (WL.nil (W.inBlock (W.region (WL.addK rfl rfl rfl (wrap_i64 ⟨by omega, by omega⟩) (WL.mv rfl rfl (WL.nil ?_)))))))))))
            refine W.fit (Hs' := [Buf 7 u7 _, box b5 _ _, box b4 _ _, box b2 _ _, box b1 _ _]) (by (repeat' first | exact Sel.nil | apply Sel.k | exact Pick.h | apply Pick.t)) ?_
            refine W.freeze 0 rfl (by repeat' constructor) (fun ρ5 le5 in5 => ?_)
            refine W.sub ?_ (next ⟨j + 1, q.key, d2, u7, true⟩ ρ5 le5 ⟨hc, fun _ => ⟨j, q, hq, hr, rfl, hd2, rfl, in5.ros⟩⟩ (by dsimp only; omega))
            exact ⟨rfl, rfl, rfl, rfl, by dsimp only; rw [hsub]; rfl, rfl, rfl, rfl, rfl, trivial⟩
          · refine W.seq ?_
            refine W.region (WL.lss rfl rfl rfl (WL.nil (W.seq (W.condpT rfl (by omega) (W.skip (W.seq (W.block (W.seq (W.region ?_)))))))))
            refine WL.ix (T := Ty) rfl rfl rfl (by assumption) rfl rfl (by omega) (by first | omega | decide +kernel) ?_
            refine WL.ldAR (T := Ty) rfl rfl rfl rfl (by first | assumption | exact ROs.wide (by assumption)) (by assumption) rfl ?_
            refine WL.alF (T := Ty) rfl rfl (by repeat' constructor) (fun b6 => ?_)
            refine WL.stAO (T := Ty) (j := 0) rfl rfl rfl rfl (by repeat' first | exact AO.nil | apply AO.cons (by first | rfl | exact SL.one (by assumption))) rfl rfl (by repeat' constructor) (by repeat' constructor) ?_
            refine WL.nil (W.seq (W.region (WL.faN (T := Ty) (off' := 3) rfl rfl rfl rfl rfl rfl rfl (WL.ldN (T := Ty) (j := 0) rfl rfl rfl rfl rfl rfl (WL.neq rfl rfl rfl (WL.nil (W.condpT rfl (by omega) (W.seq (W.seq (W.region (WL.mv rfl rfl (WL.eql rfl rfl rfl (WL.nil ?_)))))))))))))
            refine W.condpF rfl (by omega) (W.skip (W.region (WL.mv rfl rfl (WL.subK rfl rfl rfl (wrap_i64 ⟨by omega, by omega⟩) (WL.as rfl rfl (WL.nil (W.inBlock (W.region (WL.addK rfl rfl rfl (wrap_i64 ⟨by omega, by omega⟩) (WL.mv rfl rfl (WL.nil ?_)))))))))))
            refine W.fit (Hs' := [box b5 _ _, box b4 _ _, box b2 _ _, box b1 _ _]) (by (repeat' first | exact Sel.nil | apply Sel.k | exact Pick.h | apply Pick.t)) (W.sub ?_ (next ⟨j + 1, fr, d, w, ok⟩ ρ4 (Le.refl _) ⟨hc, by dsimp only; rw [t1]; intro h; exact hwm ρ4 (Le.refl _) (by omega)⟩ (by dsimp only; omega)))
            exact ⟨rfl, rfl, rfl, rfl, by dsimp only; rw [hsub]; rfl, rfl, rfl, rfl, rfl, trivial⟩
      · have hjL : j = c.pages.length := by omega
        subst hjL
        rw [List.take_length, hnc] at hw
        obtain ⟨i, q, hq, hr, hfr, hdd, hok, rd⟩ := hw hkn
        obtain ⟨_, hdb, hds, hdn, hdf, hdo⟩ := hAP.off hq hr
        rw [← hdd] at hdb hds hdn hdf hdo
        have hdm : d.most = c.most := by
          have := pin_mostS c q.key (-q.pins)
          rw [(hAP.off hq hr).1, ← hdd] at this
          exact this
        clear hdd
        subst hfr hok
        have hB2 := hdb.B
        have hR2 := hdb.R
        have hl2 := hdb.len
        have hl42 : d.pages.length ≤ 10000 := by omega
        obtain ⟨⟨e, out, ok⟩, he⟩ := admit_ex strK hdb.I
        have hA := hdb.admits (by decide) he
        obtain ⟨ho, hok⟩ := admit_one hdb hds (by omega) hdf hdo he
        dsimp only at ho hok
        subst ho hok
        obtain ⟨q2, hq2, hqk2, _⟩ := hA.is rfl
        obtain ⟨i2, hi2⟩ := List.mem_iff_getElem?.1 hq2
        have hf : fndK e.pages strK = (i2 : Int) := by rw [← hqk2]; exact fnd_mem hA.b.ky hi2
        have hel : e.pages.length ≤ 16 := hA.b.len
        refine W.seq (W.region (WL.lss rfl rfl rfl (WL.nil (W.seq (W.condpF rfl (by omega) (W.exit rfl (W.seq (W.region ?_))))))))
        refine WL.ldAF (T := Ty) (j := 1) rfl rfl rfl rfl rfl rfl (by repeat' constructor) ?_
        refine WL.ldAF (T := Ty) (j := 2) rfl rfl rfl rfl rfl rfl (by repeat' constructor) ?_
        refine WL.callF rfl rfl (fun x p d => admitK_c _ _ _ _ _ _ _ _ (by assumption) (by assumption) (by first | assumption | omega) (by first | assumption | omega | decide) (by first | exact rosNew _ _ | assumption | exact ROs.wide (by assumption) | exact ROs.mono (by assumption) (eqh_at 0 rfl p d) | exact ros_at 0 rfl p d | exact ros_at 1 rfl p d | exact ros_at 2 rfl p d | exact ros_at 3 rfl p d | exact ros_at 4 rfl p d | exact ros_at 5 rfl p d | exact ros_at 6 rfl p d | exact ros_at 7 rfl p d | exact ros_at 8 rfl p d | exact ros_at 9 rfl p d) (by assumption)) (fun r6 => ?_)
        refine WL.opens (α := Value × Value) (φ := fun x => r6 = .tuple #[.agg #[.int .i64 _, .int .i64 _, x.1, .int .i64 _, .int .i64 _, .int .i64 _], x.2, .bool _] ∧ SL x.1 _ ∧ SL x.2 _) (ps := fun x => [Buf 7 x.1 _, Buf 3 x.2 _]) 0 rfl (fun h q => q) (by repeat' constructor) ?_
        rintro ⟨u6, kv6⟩ ⟨es6, su6, sk6⟩
        subst es6
        dsimp only [List.cons_append, List.nil_append] at su6 sk6 ⊢
        refine WL.mv rfl rfl (WL.extL rfl rfl rfl (WL.extL rfl rfl rfl (WL.extL rfl rfl rfl ?_)))
        refine WL.alF (T := Ty) rfl rfl (by repeat' constructor) (fun b7 => ?_)
        refine WL.stAO (T := Ty) (j := 0) rfl rfl rfl rfl (by repeat' first | exact AO.nil | apply AO.cons (by first | rfl | exact SL.one (by assumption))) rfl rfl (by repeat' constructor) (by repeat' constructor) ?_
        refine WL.as rfl rfl (WL.as rfl rfl (WL.nil (W.seq ?_)))
        replace sk6 : SL kv6 1 := sk6
        have hrow : ((([q.key] : List Ky).flatMap kyC).drop ((0 : Int).toNat * 3)).take 3 = [.int .i64 q.key.a, .int .i64 q.key.b, .int .i64 q.key.c] := rfl
        have hky := ky_dec q.key q.key
        rw [decide_eq_true (rfl : q.key = q.key)] at hky
        refine W.drawA 25 rfl (fun σ0 hσ0 dσ0 => ?_)
        have fσ0_0 := rb_at 0 rfl hσ0 dσ0
        have fσ0_1 := ros_at 1 rfl hσ0 dσ0
        have fσ0_2 := ros_at 2 rfl hσ0 dσ0
        have fσ0_3 := rb_at 3 rfl hσ0 dσ0
        have fσ0_4 := rb_at 4 rfl hσ0 dσ0
        have fσ0_5 := rb_at 5 rfl hσ0 dσ0
        have fσ0_6 := rb_at 6 rfl hσ0 dσ0
        refine WD.takeL 0 rfl (by decide +kernel) (WL.mv rfl rfl (WL.nilT (WD.takeL 1 rfl (by decide +kernel) (WL.mv rfl rfl (WL.nilT (WD.takeL 2 rfl (by decide +kernel) (WL.gY rfl rfl (WL.mv rfl rfl (WL.nilT (WD.takeL 3 rfl (by decide +kernel) (WL.pickT rfl rfl rfl (WL.nilT (WD.takeL 4 rfl (by decide +kernel) ?_)))))))))))))
        refine WL.mv rfl rfl (WL.nilT (WD.takeL 5 rfl (by decide +kernel) (WL.gY rfl rfl (WL.mv rfl rfl (WL.nilT (WD.takeL 6 rfl (by decide +kernel) (WL.gY rfl rfl ?_)))))))
        refine WL.len (T := Ty) rfl rfl (by assumption) rfl ?_
        refine WL.nilT (WD.takeL 7 rfl (by decide +kernel) (WL.gY rfl rfl (WL.eql rfl rfl rfl (WL.nilT (WD.takeL 8 rfl (by decide +kernel) (WL.pickT rfl rfl rfl (WL.nilT (WD.takeL 9 rfl (by decide +kernel) (WL.mv rfl rfl (WL.nilT (WD.takeL 10 rfl (by decide +kernel) (WL.gY rfl rfl (WL.mv rfl rfl ?_)))))))))))))
        refine WL.nilT (WD.takeL 11 rfl (by decide +kernel) (WL.gY rfl rfl ?_))
        refine WL.ix (T := Ty) rfl rfl rfl (by assumption) rfl rfl (by omega) (by first | omega | decide +kernel) ?_
        refine WL.nilT (WD.takeL 12 rfl (by decide +kernel) (WL.gY rfl rfl ?_))
        refine WL.ldAR (T := Ty) rfl rfl rfl rfl (by first | assumption | exact ROs.wide (by assumption)) (by assumption) rfl ?_
        refine WL.nilT (WD.takeL 13 rfl (by decide +kernel) (WL.gY rfl rfl ?_))
        refine WL.ldABF (T := Ty) rfl rfl rfl rfl (by first | assumption | exact RB.wide (by assumption) | exact In.rb (by assumption)) rfl (by repeat' constructor) ?_
        refine WL.nilT (WD.takeL 14 rfl (by decide +kernel) (WL.gY rfl rfl ?_))
        refine WL.eqFe (T := Ty) rfl rfl rfl rfl (by repeat' first | exact FE.nil | apply FE.int (by decide) rfl rfl rfl rfl | apply FE.bool (by decide) rfl rfl rfl rfl | apply FE.sub (by decide) rfl (by kernel_rfl) rfl rfl) (by kernel_rfl) (by kernel_rfl) (by assumption) ?_
        refine WL.nilT (WD.takeL 15 rfl (by decide +kernel) (WL.pickT rfl rfl rfl (WL.nilT (WD.takeL 16 rfl (by decide +kernel) (WL.mv rfl rfl (WL.nilT (WD.takeL 17 rfl (by decide +kernel) (WL.gY rfl rfl ?_))))))))
        refine WL.ldABF (T := Ty) rfl rfl rfl rfl (by first | assumption | exact RB.wide (by assumption) | exact In.rb (by assumption)) rfl (by repeat' constructor) ?_
        refine WL.nilT (WD.takeL 18 rfl (by decide +kernel) (WL.gY rfl rfl ?_))
        refine WL.ldABF (T := Ty) rfl rfl rfl rfl (by first | assumption | exact RB.wide (by assumption) | exact In.rb (by assumption)) rfl (by repeat' constructor) ?_
        refine WL.nilT (WD.oneL 19 rfl (by decide +kernel) (WL.gY rfl rfl ?_))
        refine WL.callV rfl rfl (fun x p d => find15_e _ _ _ _ _ _ _ _ _ _ _ _ (by first | assumption | exact ROs.wide (by assumption) | exact ROs.mono (by assumption) (eqh_at 0 rfl p d) | exact ros_at 0 rfl p d | exact ros_at 1 rfl p d | exact ros_at 2 rfl p d | exact ros_at 3 rfl p d | exact ros_at 4 rfl p d) (by first | assumption | omega) (by assumption)) ?_
        refine WL.nilE (WD.takeL 20 rfl (by decide +kernel) (WL.gY rfl rfl (WL.geq rfl rfl rfl (WL.nilT (WD.takeL 21 rfl (by decide +kernel) (WL.pickT rfl rfl rfl (WL.nilT (WD.takeL 22 rfl (by decide +kernel) (WL.mv rfl rfl (WL.nilT (WD.oneL 23 rfl (by decide +kernel) (WL.gY rfl rfl ?_))))))))))))
        refine WL.callV rfl rfl (fun x p d => awake15_c _) ?_
        refine WL.nilE (WD.takeL 24 rfl (by decide +kernel) (WL.pickT rfl rfl rfl (WL.nilT ?_)))
        refine WD.lastG hσ0 (by decide +kernel) (by repeat' constructor) rfl (by repeat' constructor) ?_
        refine WL.as rfl rfl (WL.nil ?_)
        exact W.fit (Hs' := []) (by (repeat' first | exact Sel.nil | apply Sel.k | exact Pick.h | apply Pick.t)) (W.ret1 rfl rfl (fun h q => rfl))
  · refine W.loopR (σ := Nat × Clk × Value) (fun s => [(2, .int .i64 a2), (7, pt b1 0), (8, .int .i64 ((cnt isRes (c.pages.take s.1) : Nat) : Int)), (28, u0), (29, .int .i64 (c.pages.length : Int)), (30, .int .i64 (s.1 : Int))])
      (fun s => [box b1 [.int .i64 s.2.1.most, .int .i64 s.2.1.target, s.2.2, .int .i64 (s.2.1.hot : Int), .int .i64 (s.2.1.cold : Int), .int .i64 (s.2.1.test : Int)] 73]) (fun s ρ' => s.1 ≤ c.pages.length ∧ s.2.1 = upA c s.1 ∧ Bnd s.2.1 ∧ ROs ρ' 7 s.2.2 (s.2.1.pages.flatMap pgC)) (fun s => c.pages.length - s.1)
      (0, c, u0) ⟨rfl, rfl, rfl, rfl, rfl, rfl, trivial⟩ rfl ⟨Nat.zero_le _, (upA_zero c).symm, hcb, rc⟩ ?_
    rintro ⟨j, d, v⟩ ρ2 le2 ⟨hj, hd, hdb, rd⟩ next
    dsimp only at hj hd hdb rd next ⊢
    replace rc := rc.mono le2
    have hdB := hdb.B
    have hct := cnt_take_le (so := isRes) c.pages j
    have hcL := cnt_le isRes c.pages
    by_cases hc : j < c.pages.length
    · obtain ⟨p, hp⟩ : ∃ p, c.pages[j]? = some p := ⟨_, List.getElem?_eq_getElem hc⟩
      have hrow : ((c.pages.flatMap pgC).drop (((j : Nat) : Int).toNat * 7)).take 7 = pgC p := flat_row pg_len hp
      unfold pgC at hrow
      have t1 := cnt_take1 (so := isRes) hp
      have hir := isRes_ne (hcG.kind hp)
      by_cases k3 : p.kind = 3
      · have hr : isRes p = false := by rw [hir, decide_eq_false (fun h => h k3)]
        rw [hr, if_neg (by decide)] at t1
        refine W.seq (W.region (WL.lss rfl rfl rfl (WL.nil (W.seq (W.condpT rfl (by omega) (W.skip (W.seq (W.block (W.seq (W.region ?_))))))))))
        refine WL.ix (T := Ty) rfl rfl rfl (by assumption) rfl rfl (by omega) (by first | omega | decide +kernel) ?_
        refine WL.ldAR (T := Ty) rfl rfl rfl rfl (by first | assumption | exact ROs.wide (by assumption)) (by assumption) rfl ?_
        refine WL.alF (T := Ty) rfl rfl (by repeat' constructor) (fun b2 => ?_)
        refine WL.stAO (T := Ty) (j := 0) rfl rfl rfl rfl (by repeat' first | exact AO.nil | apply AO.cons (by first | rfl | exact SL.one (by assumption))) rfl rfl (by repeat' constructor) (by repeat' constructor) ?_
        refine WL.nil (W.seq (W.region (WL.faN (T := Ty) (off' := 3) rfl rfl rfl rfl rfl rfl rfl (WL.ldN (T := Ty) (j := 0) rfl rfl rfl rfl rfl rfl (WL.neq rfl rfl rfl (WL.nil (W.condpF rfl (by omega) (W.skip (W.inBlock (W.region (WL.addK rfl rfl rfl (wrap_i64 ⟨by omega, by omega⟩) (WL.mv rfl rfl (WL.nil ?_)))))))))))))
        refine W.fit (Hs' := [box b1 _ _]) (by (repeat' first | exact Sel.nil | apply Sel.k | exact Pick.h | apply Pick.t)) (W.sub ?_ (next ⟨j + 1, d, v⟩ ρ2 (Le.refl _) ⟨hc, by dsimp only; rw [hd, upA_no hp hr], hdb, rd⟩ (by dsimp only; omega)))
        exact ⟨rfl, rfl, by rw [t1]; rfl, rfl, rfl, rfl, trivial⟩
      · have hr : isRes p = true := by rw [hir, decide_eq_true k3]
        rw [hr, if_pos rfl] at t1
        have hpp := hpk p (List.mem_of_getElem? hp)
        have hpin : pinP d p.key 1 = (upA c (j + 1), true) := by rw [hd]; exact upA_pin hcb.ky hp hr hpp.2.1 (by have := hpp.2.2; omega)
        have hnb : Bnd (upA c (j + 1)) := by have := hdb.pin p.key 1; rw [hpin] at this; exact this
        obtain ⟨d2, hd2⟩ : ∃ x, x = upA c (j + 1) := ⟨_, rfl⟩
        rw [← hd2] at hpin hnb
        refine W.seq (W.region (WL.lss rfl rfl rfl (WL.nil (W.seq (W.condpT rfl (by omega) (W.skip (W.seq (W.block (W.seq (W.region ?_))))))))))
        refine WL.ix (T := Ty) rfl rfl rfl (by assumption) rfl rfl (by omega) (by first | omega | decide +kernel) ?_
        refine WL.ldAR (T := Ty) rfl rfl rfl rfl (by first | assumption | exact ROs.wide (by assumption)) (by assumption) rfl ?_
        refine WL.alF (T := Ty) rfl rfl (by repeat' constructor) (fun b2 => ?_)
        refine WL.stAO (T := Ty) (j := 0) rfl rfl rfl rfl (by repeat' first | exact AO.nil | apply AO.cons (by first | rfl | exact SL.one (by assumption))) rfl rfl (by repeat' constructor) (by repeat' constructor) ?_
        refine WL.nil (W.seq (W.region (WL.faN (T := Ty) (off' := 3) rfl rfl rfl rfl rfl rfl rfl (WL.ldN (T := Ty) (j := 0) rfl rfl rfl rfl rfl rfl (WL.neq rfl rfl rfl (WL.nil (W.condpT rfl (by omega) (W.seq (W.region (WL.mv rfl rfl (WL.addK rfl rfl rfl (wrap_i64 ⟨by omega, by omega⟩) (WL.as rfl rfl (WL.nil ?_)))))))))))))
        refine W.seq (W.region ?_)
        refine WL.ldAF (T := Ty) (j := 1) rfl rfl rfl rfl rfl rfl (by repeat' constructor) ?_
        refine WL.faN (T := Ty) (off' := 0) rfl rfl rfl rfl rfl rfl rfl ?_
        refine WL.ldAF (T := Ty) (j := 0) rfl rfl rfl rfl rfl rfl (by repeat' constructor) ?_
        refine WL.callF rfl rfl (fun x p d => pin_e _ _ _ _ _ _ _ (by assumption) (by first | assumption | exact ROs.wide (by assumption) | exact ROs.mono (by assumption) (eqh_at 0 rfl p d) | exact ros_at 0 rfl p d | exact ros_at 1 rfl p d | exact ros_at 2 rfl p d | exact ros_at 3 rfl p d | exact ros_at 4 rfl p d) (by assumption)) (fun r3 => ?_)
        refine WL.opens (α := Value) (φ := fun v => r3 = .tuple #[.agg #[.int .i64 _, .int .i64 _, v, .int .i64 _, .int .i64 _, .int .i64 _], .bool _] ∧ SL v _) (ps := fun v => [Buf 7 v _]) 0 rfl (fun h q => q) (by repeat' constructor) ?_
        rintro u3 ⟨es3, su3⟩
        subst es3
        dsimp only [List.cons_append, List.nil_append] at su3 ⊢
        refine WL.mv rfl rfl (WL.extL rfl rfl rfl (WL.extL rfl rfl rfl ?_))
        refine WL.alF (T := Ty) rfl rfl (by repeat' constructor) (fun b4 => ?_)
        refine WL.stAO (T := Ty) (j := 0) rfl rfl rfl rfl (by repeat' first | exact AO.nil | apply AO.cons (by first | rfl | exact SL.one (by assumption))) rfl rfl (by repeat' constructor) (by repeat' constructor) ?_
        refine WL.as rfl rfl (WL.nil (W.seq (W.region (WL.mv rfl rfl (WL.nil (W.condT rfl (W.region ?_)))))))
        refine WL.ldAF (T := Ty) (j := 0) rfl rfl rfl rfl rfl rfl (by repeat' constructor) ?_
        refine WL.stAO (T := Ty) (j := 3) rfl rfl rfl rfl (by repeat' first | exact AO.nil | apply AO.cons (by first | rfl | exact SL.one (by assumption))) rfl rfl (by repeat' constructor) (by repeat' constructor) ?_
        refine WL.nil (W.inBlock (W.region (WL.addK rfl rfl rfl (wrap_i64 ⟨by omega, by omega⟩) (WL.mv rfl rfl (WL.nil ?_)))))
        refine W.fit (Hs' := [Buf 7 _ (d2.pages.flatMap pgC), box b1 _ _]) (by (repeat' first | exact Sel.nil | apply Sel.k | exact Pick.h | apply Pick.t)) ?_
        refine W.freeze 0 rfl (by repeat' constructor) (fun ρ3 le3 in3 => ?_)
        refine W.sub ?_ (next ⟨j + 1, d2, _⟩ ρ3 le3 ⟨hc, hd2, hnb, in3.ros⟩ (by dsimp only; omega))
        exact ⟨rfl, rfl, by rw [t1]; rfl, rfl, rfl, rfl, trivial⟩
    · have hjL : j = c.pages.length := by omega
      subst hjL
      rw [List.take_length]
      have hAP : AllPin d (cnt isRes c.pages) := by rw [hd]; exact allPin (by rw [← hd]; exact hdb) hpk hcG.K
      refine W.seq (W.region (WL.lss rfl rfl rfl (WL.nil (W.seq (W.condpF rfl (by omega) (W.exit rfl ?_))))))
      refine W.sub ?_ (cut0 ⟨d, v⟩ ρ2 le2 ⟨hAP, rd⟩)
      exact ⟨rfl, rfl, rfl, trivial⟩
end Go.Proofs.Ytbebhmdjnneimaa
