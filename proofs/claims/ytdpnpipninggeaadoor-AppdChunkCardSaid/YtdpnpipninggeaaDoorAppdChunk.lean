/- AppdChunk. -/
import Derived.Test.YtdpnpipninggeaaDoorStc
import Derived.Test.YtdpnpipninggeaaDoorNum
import Derived.Test.YtdpnpipninggeaaDoorTab
import Derived.Test.YtdpnpipninggeaaDoorAppC
import Derived.Test.YtdpnpipninggeaaDoorRowsG
set_option linter.unusedSimpArgs false
set_option linter.unusedVariables false
set_option maxRecDepth 20000
set_option maxHeartbeats 4000000
namespace Go.Proofs.YtdpnpipninggeaaDoor
open Go
theorem sameL_reflC2 (L : List Smp) : sameL L L = true := by unfold sameL; simp
attribute [local irreducible] W WL Fn Buf ROs SL eptr box Rd Src bndOK WD RB Reads In Own mkC chk encTs encX pack vputF vgetF decTs decX risB sumR tms vls vlI sB tB xB frsT lstT na n1 n2 n3 zigF sameL rowC lastC
theorem AppdChunk_fn (ρ : Hp) (hT : TabG ρ) (a0 : Int) (w0 : (Lit.int .i64 a0).wf = true) (a1 : Int) (w1 : (Lit.int .i64 a1).wf = true) (v2 : Value) (z2 : List Int) (r2 : ROs ρ 1 v2 (z2.map (Value.int .u64))) (m2 : ∀ n ∈ z2, (Lit.int .u64 n).wf = true) (y2 : z2.length * 8 ≤ 140737488351232) :
    Fn Tryd.prog 3 #[.int .i64 a0, .int .i64 a1, v2] ρ [] (fun r _ => r = .bool true) := by
  have hz2 : ∀ n ∈ z2, 0 ≤ n ∧ n < 18446744073709551616 := fun n hn => wf_u64 (m2 n hn)
  have s2 : SL v2 z2.length := r2.slm
  refine in3 rfl rfl ?_
  refine W.seq (W.region (WL.as rfl rfl (WL.nil (W.seq (W.region (WL.mv rfl rfl (WL.andI rfl rfl rfl (by decide) (WL.mv rfl rfl (WL.andI rfl rfl rfl (by decide) (WL.addK rfl rfl rfl (wrap_i64 ⟨by omega, by omega⟩) (WL.as rfl rfl (WL.as rfl rfl (WL.nil ?_)))))))))))))
  refine W.seq (W.region ?_)
  refine WL.alF (T := Ty) rfl rfl (by repeat' constructor) (fun b0 => ?_)
  refine WL.nil (W.seq (W.region (WL.as rfl rfl (WL.nil (W.seq (W.seq (W.region (WL.as rfl rfl (WL.nil (W.block ?_))))))))))
  obtain ⟨m, hm, hm15⟩ : ∃ m : Nat, a0 % (15 + 1) = (m : Int) ∧ m ≤ 15 := ⟨(a0 % (15 + 1)).toNat, by omega, by omega⟩
  obtain ⟨st, hst, h1, h2⟩ : ∃ st : Int, a1 % (65535 + 1) + 1 = st ∧ 1 ≤ st ∧ st ≤ 65536 := ⟨_, rfl, by omega, by omega⟩
  rw [hm, hst]
  clear w0 w1 hm hst
  refine W.nb (sz := 2) (W.nb (sz := 2) ?_)
  refine W.loopR (σ := Nat × Bool × Value × Value) (fun s => [(0, .int .i64 (m : Int)), (1, .int .i64 st), (2, v2), (7, .pointer (some ⟨b0, 0, none⟩)), (8, s.2.2.2), (9, .int .i64 (s.1 : Int))])
    (fun s => [Buf 2 s.2.2.1 ((rowC st z2 s.1).flatMap smC), Buf 2 s.2.2.2 ((rowC st z2 s.1).flatMap smC), box b0 [.bool s.2.1, .int .i64 (lastC st s.1), s.2.2.1] 25])
    (fun s ρ' => s.1 ≤ m ∧ s.2.1 = decide (0 < s.1) ∧ SL s.2.2.1 s.1 ∧ SL s.2.2.2 s.1) (fun s => m - s.1)
    (0, false, nilV, nilV) ⟨rfl, rfl, rfl, rfl, rfl, rfl, trivial⟩ (by rw [rowC_zero]; unfold lastC; rfl) ⟨Nat.zero_le _, rfl, slZ, slZ⟩ ?_
  rintro ⟨i, an, lv, wv⟩ ρ3 le3 ⟨hi, han, sl, sw⟩ next
  dsimp only at hi han sl sw next ⊢
  replace r2 := r2.mono le3
  replace hT := hT.mono le3
  have hrl := rowC_len st z2 i
  by_cases hc : i < m
  · have hmb := mul_bnd h1 h2 (i := i) (by omega)
    have hadd : an = false ∨ lastC st i < (i : Int) * st := by rw [han]; exact lastC_lt h1 i
    have hl3 := lastC_s st i
    have hrs := rowC_s st z2 i
    have hrl1 := rowC_len st z2 (i + 1)
    have lc := sms_cells (rowC st z2 i)
    have hq : (!(decide ((8 : Int) ≤ (((rowC st z2 i).length + 1 : Nat) : Int)) == decide ((7 : Int) ≤ (i : Int)))) = false := by
      rw [hrl]
      by_cases h7 : 7 ≤ i
      · rw [decide_eq_true (by omega), decide_eq_true (by omega)]; rfl
      · rw [decide_eq_false (by omega), decide_eq_false (by omega)]; rfl
    by_cases hv : i < z2.length
    · obtain ⟨x, hx⟩ : ∃ x, z2[i]? = some x := ⟨_, List.getElem?_eq_getElem hv⟩
      have hsc : sC st z2 i = ((i : Int) * st, x) := by unfold sC; rw [List.getD_eq_getElem?_getD, hx]; rfl
      have hgx : z2.getD i 0 = x := by rw [List.getD_eq_getElem?_getD, hx]; rfl
      rw [hsc] at hrs
      refine W.seq (W.seq (W.region (WL.mv rfl rfl (WL.mv rfl rfl (WL.lss rfl rfl rfl (WL.nil (W.condpT rfl (by omega) (W.skip (W.seq (W.block (W.seq (W.region (WL.mv rfl rfl ?_)))))))))))))
      refine WL.mv rfl rfl (WL.mulK rfl rfl rfl (wrap_i64 ⟨by omega, by omega⟩) (WL.mv rfl rfl (WL.cvK (T := Ty) rfl rfl rfl rfl (wrap_u64 ⟨by omega, by omega⟩) ?_)))
      refine WL.bdC (T := Ty) rfl rfl rfl rfl (by repeat' first | exact CO.nil | apply CO.one (by first | rfl | exact SL.one (by assumption)) | apply CO.agg) rfl (by repeat' constructor) ?_
      refine WL.alF (T := Ty) rfl rfl (by repeat' constructor) (fun b1 => ?_)
      refine WL.stAO (T := Ty) (j := 0) rfl rfl rfl rfl (by repeat' first | exact AO.nil | apply AO.cons (by first | rfl | exact SL.one (by assumption))) rfl rfl (by repeat' constructor) (by repeat' constructor) ?_
      refine WL.nil (W.seq (W.seq (W.region (WL.mv rfl rfl (WL.mv rfl rfl ?_)))))
      refine WL.len (T := Ty) rfl rfl (by assumption) rfl ?_
      refine WL.lss rfl rfl rfl (WL.nil (W.condpT rfl (by omega) (W.region (WL.mv rfl rfl (WL.mv rfl rfl ?_)))))
      refine WL.ix (T := Ty) rfl rfl rfl (by assumption) rfl rfl (by omega) (by first | omega | decide +kernel) ?_
      refine WL.ldRz (T := Ty) rfl rfl rfl rfl (by first | assumption | exact ROs.wide (by assumption)) (by first | omega | decide +kernel) ?_
      refine WL.faN (T := Ty) (off' := 1) rfl rfl rfl rfl rfl rfl rfl ?_
      refine WL.stF (T := Ty) (j := 0) rfl rfl rfl rfl rfl rfl rfl (by repeat' constructor) (by repeat' constructor) ?_
      refine WL.nil (W.seq (W.region ?_))
      refine WL.ldAF (T := Ty) (j := 3) rfl rfl rfl rfl rfl rfl (by repeat' constructor) ?_
      refine WL.ldAF (T := Ty) (j := 0) rfl rfl rfl rfl rfl rfl (by repeat' constructor) ?_
      refine WL.callF rfl rfl (fun x p d => addO_c _ _ _ _ _ _ _ (by first | assumption | exact ROs.wide (by assumption) | exact ROs.mono (by assumption) (eqh_at 0 rfl p d) | exact ros_at 0 rfl p d | exact ros_at 1 rfl p d | exact ros_at 2 rfl p d | exact ros_at 3 rfl p d | exact ros_at 4 rfl p d) (by first | assumption | omega) (by first | exact .inl rfl | assumption | exact .inr (by omega))) (fun r2 => ?_)
      refine WL.opens (α := Value) (φ := fun v => r2 = .tuple #[.agg #[.bool true, .int .i64 _, v], .int .i64 0] ∧ SL v _) (ps := fun v => [Buf 2 v _]) 0 rfl (fun h q => q) (by repeat' constructor) ?_
      rintro u2 ⟨es2, su2⟩
      subst es2
      dsimp only [List.cons_append, List.nil_append] at su2 ⊢
      refine WL.mv rfl rfl (WL.extL rfl rfl rfl (WL.extL rfl rfl rfl ?_))
      refine WL.alF (T := Ty) rfl rfl (by repeat' constructor) (fun b3 => ?_)
      refine WL.stAO (T := Ty) (j := 0) rfl rfl rfl rfl (by repeat' first | exact AO.nil | apply AO.cons (by first | rfl | exact SL.one (by assumption))) rfl rfl (by repeat' constructor) (by repeat' constructor) ?_
      refine WL.as rfl rfl (WL.nil (W.seq (W.seq (W.region (WL.mv rfl rfl (WL.neq rfl rfl rfl (WL.mv rfl rfl (WL.gY rfl rfl (WL.faN (T := Ty) (off' := 2) rfl rfl rfl rfl rfl rfl rfl (WL.gY rfl rfl (WL.ldN (T := Ty) (j := 5) rfl rfl rfl rfl rfl rfl (WL.gY rfl rfl ?_))))))))))))
      refine WL.len (T := Ty) rfl rfl (by assumption) rfl ?_
      refine WL.gY rfl rfl (WL.mv rfl rfl (WL.gY rfl rfl (WL.neq rfl rfl rfl (WL.pickF rfl rfl rfl (WL.mv rfl rfl (WL.gF rfl rfl (by omega) ?_))))))
      refine WL.ldAF (T := Ty) (j := 0) rfl rfl rfl rfl rfl rfl (by repeat' constructor) ?_
      refine WL.gF rfl rfl (by omega) ?_
      refine WL.callV rfl rfl (fun x p d => size13_c _ _ _ _ _ (by assumption) (by first | assumption | omega)) ?_
      refine WL.gF rfl rfl (by omega) (WL.mv rfl rfl (WL.gF rfl rfl (by omega) (WL.addK rfl rfl rfl (wrap_i64 ⟨by omega, by omega⟩) (WL.gF rfl rfl (by omega) (WL.mulK rfl rfl rfl (wrap_i64 ⟨by omega, by omega⟩) (WL.gF rfl rfl (by omega) (WL.neq rfl rfl rfl (WL.pickFp rfl rfl (by omega) rfl (WL.mv rfl rfl (WL.gF rfl rfl (by omega) ?_))))))))))
      refine WL.ldAF (T := Ty) (j := 0) rfl rfl rfl rfl rfl rfl (by repeat' constructor) ?_
      refine WL.gF rfl rfl (by omega) ?_
      refine WL.callV rfl rfl (fun x p d => full13_c _ _ _ _ _ (by assumption)) ?_
      refine WL.gF rfl rfl (by omega) (WL.mv rfl rfl (WL.gF rfl rfl (by omega) (WL.geq rfl rfl rfl (WL.gF rfl rfl (by omega) (WL.neB (T := Ty) rfl rfl rfl rfl (WL.pickFp rfl rfl (by omega) rfl (WL.nil ?_)))))))
      rw [hgx, hq]
      refine W.condF rfl (W.skip (W.seq (W.region ?_)))
      refine WL.ldAF (T := Ty) (j := 0) rfl rfl rfl rfl rfl rfl (by repeat' constructor) ?_
      refine WL.stAO (T := Ty) (j := 5) rfl rfl rfl rfl (by repeat' first | exact AO.nil | apply AO.cons (by first | rfl | exact SL.one (by assumption))) rfl rfl (by repeat' constructor) (by repeat' constructor) ?_
      refine WL.nil (W.region (WL.mv rfl rfl ?_))
      refine WL.ldAF (T := Ty) (j := 2) rfl rfl rfl rfl rfl rfl (by repeat' constructor) ?_
      refine WL.bsC (T := Ty) rfl rfl rfl rfl rfl rfl rfl (by repeat' first | exact CO.nil | apply CO.one (by first | rfl | exact SL.one (by assumption)) | apply CO.agg) rfl (by repeat' constructor) (fun u4 hu4 => ?_)
      refine WL.apS (T := Ty) (i := 4) rfl rfl rfl rfl rfl rfl rfl rfl rfl (by first | rfl | assumption) rfl (by assumption) (by repeat' first | exact AO.nil | apply AO.cons (by first | rfl | exact SL.one (by assumption))) (by first | omega | (simp; omega) | (simp only [List.length_drop, List.length_take]; omega)) (by first | omega | (simp; omega) | (simp only [List.length_drop, List.length_take]; omega)) (fun v' => (by repeat' constructor)) (fun u5 hu5 => ?_)
      refine WL.as rfl rfl (WL.nil (W.inBlock (W.region (WL.mv rfl rfl (WL.addK rfl rfl rfl (wrap_i64 ⟨by omega, by omega⟩) (WL.as rfl rfl (WL.nil ?_)))))))
      rw [show (rowC st z2 i).flatMap smC ++ [Value.int .i64 ((i : Int) * st), Value.int .u64 x] = (rowC st z2 (i + 1)).flatMap smC by rw [← hrs, List.flatMap_append]; rfl, hrs, ← hl3]
      refine W.fit (by (repeat' first | exact Sel.nil | apply Sel.k | exact Pick.h | apply Pick.t)) (W.sub ?_ (next ⟨i + 1, true, u2, u5⟩ ρ3 (Le.refl _) ⟨by dsimp only; omega, by simp, by dsimp only; rw [← hrl1]; rw [hrl] at *; rw [hrl1]; assumption, by dsimp only; rw [hrl] at *; assumption⟩ (by dsimp only; omega)))
      exact ⟨rfl, rfl, rfl, rfl, rfl, rfl, trivial⟩
    · have hsc : sC st z2 i = ((i : Int) * st, (i : Int)) := by unfold sC; rw [List.getD_eq_getElem?_getD, List.getElem?_eq_none (by omega)]; rfl
      rw [hsc] at hrs
      refine W.seq (W.seq (W.region (WL.mv rfl rfl (WL.mv rfl rfl (WL.lss rfl rfl rfl (WL.nil (W.condpT rfl (by omega) (W.skip (W.seq (W.block (W.seq (W.region (WL.mv rfl rfl ?_)))))))))))))
      refine WL.mv rfl rfl (WL.mulK rfl rfl rfl (wrap_i64 ⟨by omega, by omega⟩) (WL.mv rfl rfl (WL.cvK (T := Ty) rfl rfl rfl rfl (wrap_u64 ⟨by omega, by omega⟩) ?_)))
      refine WL.bdC (T := Ty) rfl rfl rfl rfl (by repeat' first | exact CO.nil | apply CO.one (by first | rfl | exact SL.one (by assumption)) | apply CO.agg) rfl (by repeat' constructor) ?_
      refine WL.alF (T := Ty) rfl rfl (by repeat' constructor) (fun b1 => ?_)
      refine WL.stAO (T := Ty) (j := 0) rfl rfl rfl rfl (by repeat' first | exact AO.nil | apply AO.cons (by first | rfl | exact SL.one (by assumption))) rfl rfl (by repeat' constructor) (by repeat' constructor) ?_
      refine WL.nil (W.seq (W.seq (W.region (WL.mv rfl rfl (WL.mv rfl rfl ?_)))))
      refine WL.len (T := Ty) rfl rfl (by assumption) rfl ?_
      refine WL.lss rfl rfl rfl (WL.nil (W.condpF rfl (by omega) (W.skip (W.seq (W.region ?_)))))
      refine WL.ldAF (T := Ty) (j := 3) rfl rfl rfl rfl rfl rfl (by repeat' constructor) ?_
      refine WL.ldAF (T := Ty) (j := 0) rfl rfl rfl rfl rfl rfl (by repeat' constructor) ?_
      refine WL.callF rfl rfl (fun x p d => addO_c _ _ _ _ _ _ _ (by first | assumption | exact ROs.wide (by assumption) | exact ROs.mono (by assumption) (eqh_at 0 rfl p d) | exact ros_at 0 rfl p d | exact ros_at 1 rfl p d | exact ros_at 2 rfl p d | exact ros_at 3 rfl p d | exact ros_at 4 rfl p d) (by first | assumption | omega) (by first | exact .inl rfl | assumption | exact .inr (by omega))) (fun r2 => ?_)
      refine WL.opens (α := Value) (φ := fun v => r2 = .tuple #[.agg #[.bool true, .int .i64 _, v], .int .i64 0] ∧ SL v _) (ps := fun v => [Buf 2 v _]) 0 rfl (fun h q => q) (by repeat' constructor) ?_
      rintro u2 ⟨es2, su2⟩
      subst es2
      dsimp only [List.cons_append, List.nil_append] at su2 ⊢
      refine WL.mv rfl rfl (WL.extL rfl rfl rfl (WL.extL rfl rfl rfl ?_))
      refine WL.alF (T := Ty) rfl rfl (by repeat' constructor) (fun b3 => ?_)
      refine WL.stAO (T := Ty) (j := 0) rfl rfl rfl rfl (by repeat' first | exact AO.nil | apply AO.cons (by first | rfl | exact SL.one (by assumption))) rfl rfl (by repeat' constructor) (by repeat' constructor) ?_
      refine WL.as rfl rfl (WL.nil (W.seq (W.seq (W.region (WL.mv rfl rfl (WL.neq rfl rfl rfl (WL.mv rfl rfl (WL.gY rfl rfl (WL.faN (T := Ty) (off' := 2) rfl rfl rfl rfl rfl rfl rfl (WL.gY rfl rfl (WL.ldN (T := Ty) (j := 5) rfl rfl rfl rfl rfl rfl (WL.gY rfl rfl ?_))))))))))))
      refine WL.len (T := Ty) rfl rfl (by assumption) rfl ?_
      refine WL.gY rfl rfl (WL.mv rfl rfl (WL.gY rfl rfl (WL.neq rfl rfl rfl (WL.pickF rfl rfl rfl (WL.mv rfl rfl (WL.gF rfl rfl (by omega) ?_))))))
      refine WL.ldAF (T := Ty) (j := 0) rfl rfl rfl rfl rfl rfl (by repeat' constructor) ?_
      refine WL.gF rfl rfl (by omega) ?_
      refine WL.callV rfl rfl (fun x p d => size13_c _ _ _ _ _ (by assumption) (by first | assumption | omega)) ?_
      refine WL.gF rfl rfl (by omega) (WL.mv rfl rfl (WL.gF rfl rfl (by omega) (WL.addK rfl rfl rfl (wrap_i64 ⟨by omega, by omega⟩) (WL.gF rfl rfl (by omega) (WL.mulK rfl rfl rfl (wrap_i64 ⟨by omega, by omega⟩) (WL.gF rfl rfl (by omega) (WL.neq rfl rfl rfl (WL.pickFp rfl rfl (by omega) rfl (WL.mv rfl rfl (WL.gF rfl rfl (by omega) ?_))))))))))
      refine WL.ldAF (T := Ty) (j := 0) rfl rfl rfl rfl rfl rfl (by repeat' constructor) ?_
      refine WL.gF rfl rfl (by omega) ?_
      refine WL.callV rfl rfl (fun x p d => full13_c _ _ _ _ _ (by assumption)) ?_
      refine WL.gF rfl rfl (by omega) (WL.mv rfl rfl (WL.gF rfl rfl (by omega) (WL.geq rfl rfl rfl (WL.gF rfl rfl (by omega) (WL.neB (T := Ty) rfl rfl rfl rfl (WL.pickFp rfl rfl (by omega) rfl (WL.nil ?_)))))))
      rw [hq]
      refine W.condF rfl (W.skip (W.seq (W.region ?_)))
      refine WL.ldAF (T := Ty) (j := 0) rfl rfl rfl rfl rfl rfl (by repeat' constructor) ?_
      refine WL.stAO (T := Ty) (j := 5) rfl rfl rfl rfl (by repeat' first | exact AO.nil | apply AO.cons (by first | rfl | exact SL.one (by assumption))) rfl rfl (by repeat' constructor) (by repeat' constructor) ?_
      refine WL.nil (W.region (WL.mv rfl rfl ?_))
      refine WL.ldAF (T := Ty) (j := 2) rfl rfl rfl rfl rfl rfl (by repeat' constructor) ?_
      refine WL.bsC (T := Ty) rfl rfl rfl rfl rfl rfl rfl (by repeat' first | exact CO.nil | apply CO.one (by first | rfl | exact SL.one (by assumption)) | apply CO.agg) rfl (by repeat' constructor) (fun u4 hu4 => ?_)
      refine WL.apS (T := Ty) (i := 4) rfl rfl rfl rfl rfl rfl rfl rfl rfl (by first | rfl | assumption) rfl (by assumption) (by repeat' first | exact AO.nil | apply AO.cons (by first | rfl | exact SL.one (by assumption))) (by first | omega | (simp; omega) | (simp only [List.length_drop, List.length_take]; omega)) (by first | omega | (simp; omega) | (simp only [List.length_drop, List.length_take]; omega)) (fun v' => (by repeat' constructor)) (fun u5 hu5 => ?_)
      refine WL.as rfl rfl (WL.nil (W.inBlock (W.region (WL.mv rfl rfl (WL.addK rfl rfl rfl (wrap_i64 ⟨by omega, by omega⟩) (WL.as rfl rfl (WL.nil ?_)))))))
      rw [show (rowC st z2 i).flatMap smC ++ [Value.int .i64 ((i : Int) * st), Value.int .u64 (i : Int)] = (rowC st z2 (i + 1)).flatMap smC by rw [← hrs, List.flatMap_append]; rfl, hrs, ← hl3]
      refine W.fit (by (repeat' first | exact Sel.nil | apply Sel.k | exact Pick.h | apply Pick.t)) (W.sub ?_ (next ⟨i + 1, true, u2, u5⟩ ρ3 (Le.refl _) ⟨by dsimp only; omega, by simp, by dsimp only; rw [← hrl1]; rw [hrl] at *; rw [hrl1]; assumption, by dsimp only; rw [hrl] at *; assumption⟩ (by dsimp only; omega)))
      exact ⟨rfl, rfl, rfl, rfl, rfl, rfl, trivial⟩
  · have hci : i = m := by omega
    subst hci
    clear next
    by_cases h0 : i = 0
    · subst h0
      have ha : an = false := by rw [han]; rfl
      subst ha
      have ho : SmOK (rowC st z2 0) := by rw [rowC_zero]; exact SmOK.nil
      have hm0 : mkC (rowC st z2 0) = [] := by rw [rowC_zero]; exact mkC_nil
      have hl0 : (mkC (rowC st z2 0)).length = 0 := by rw [hm0]; rfl
      refine W.seq (W.seq (W.region (WL.mv rfl rfl (WL.mv rfl rfl (WL.lss rfl rfl rfl (WL.nil (W.condF rfl (W.exit rfl (W.seq (W.region ?_))))))))))
      refine WL.ldAF (T := Ty) (j := 2) rfl rfl rfl rfl rfl rfl (by repeat' constructor) ?_
      refine WL.callF rfl rfl (fun x p d => close13_c _ _ _ _ _ (by first | assumption | exact ROs.wide (by assumption) | exact ROs.mono (by assumption) (eqh_at 0 rfl p d) | exact ros_at 0 rfl p d | exact ros_at 1 rfl p d | exact ros_at 2 rfl p d | exact ros_at 3 rfl p d | exact ros_at 4 rfl p d) (by assumption) (by first | assumption | omega) (TabG.wide (by assumption))) (fun r1 => ?_)
      refine WL.opens (α := Value) (φ := fun v => r1 = .tuple #[v, .agg #[.bool _, .int .i64 _, nilV]] ∧ SL v _) (ps := fun v => [Buf 1 v _]) 0 rfl (fun h q => q) (by repeat' constructor) ?_
      rintro u1 ⟨es1, su1⟩
      subst es1
      dsimp only [List.cons_append, List.nil_append] at su1 ⊢
      refine WL.mv rfl rfl (WL.extL rfl rfl rfl (WL.extL rfl rfl rfl ?_))
      refine WL.alF (T := Ty) rfl rfl (by repeat' constructor) (fun b2 => ?_)
      refine WL.as rfl rfl ?_
      refine WL.stAO (T := Ty) (j := 0) rfl rfl rfl rfl (by repeat' first | exact AO.nil | apply AO.cons (by first | rfl | exact SL.one (by assumption))) rfl rfl (by repeat' constructor) (by repeat' constructor) ?_
      refine WL.nil (W.seq (W.region (WL.mv rfl rfl ?_)))
      refine WL.callV rfl rfl (fun x p d => ropen_0 _ _ _ (by first | assumption | exact ROs.wide (by assumption) | exact ROs.mono (by assumption) (eqh_at 0 rfl p d) | exact ros_at 0 rfl p d | exact ros_at 1 rfl p d | exact ros_at 2 rfl p d | exact ros_at 3 rfl p d | exact ros_at 4 rfl p d) (by first | assumption | rfl)) ?_
      refine WL.mv rfl rfl (WL.extL rfl rfl rfl (WL.extL rfl rfl rfl (WL.extL rfl rfl rfl (WL.as rfl rfl (WL.as rfl rfl (WL.as rfl rfl (WL.nil (W.seq (W.seq (W.region (WL.mv rfl rfl (WL.eql rfl rfl rfl (WL.nil ?_)))))))))))))
      refine W.condT rfl (W.seq (W.region (WL.mv rfl rfl ?_)))
      refine WL.len (T := Ty) rfl rfl (by assumption) rfl ?_
      refine WL.eql rfl rfl rfl (WL.mv rfl rfl (WL.gT rfl rfl (by omega) (WL.faN (T := Ty) (off' := 0) rfl rfl rfl rfl rfl rfl rfl (WL.gT rfl rfl (by omega) (WL.ldN (T := Ty) (j := 0) rfl rfl rfl rfl rfl rfl (WL.gT rfl rfl (by omega) (WL.not rfl rfl (WL.pickTp rfl rfl (by omega) rfl (WL.mv rfl rfl (WL.gY rfl rfl ?_))))))))))
      refine WL.callT rfl rfl (fun x p d => awake13_c _ (TabG.wide (by assumption))) ?_
      refine WL.pickT rfl rfl rfl (WL.as rfl rfl (WL.nil ?_))
      exact W.fit (Hs' := []) (by (repeat' first | exact Sel.nil | apply Sel.k | exact Pick.h | apply Pick.t)) (W.ret1 rfl rfl (fun h q => rfl))
    · have ha : an = true := by rw [han]; exact decide_eq_true (by omega)
      subst ha
      have ho := rowC_ok h1 h2 hz2 hm15
      have hr := rowC_ris h1 z2 i
      have hp : 0 < (rowC st z2 i).length := by omega
      have hmk : mkOK (rowC st z2 i) = true := by
        unfold mkOK
        rw [hr]
        simp
        intro h
        rw [h] at hp
        simp at hp
      have hmc : mkC (rowC st z2 i) = chk (rowC st z2 i) := by unfold mkC; rw [if_pos hmk]
      have hlc : lastC st i = ((i - 1 : Nat) : Int) * st := by unfold lastC; rw [if_neg h0]
      have hlb : 0 ≤ lastC st i ∧ lastC st i ≤ 983040 := by rw [hlc]; exact mul_bnd h1 h2 (by omega)
      have hq := rowC_get st z2 (show i - 1 < i by omega)
      obtain ⟨y, hy⟩ : ∃ y, sC st z2 (i - 1) = (lastC st i, y) := ⟨_, by rw [hlc]; rfl⟩
      rw [hy] at hq
      have hi1 : ((i : Int) - 1).toNat = i - 1 := by omega
      have hr1 : (((rowC st z2 i).flatMap smC).drop (((i : Int) - 1).toNat * 2)).take 2 = smC (lastC st i, y) := by rw [hi1]; exact flat_row sm_len hq
      have hc1 : ((rowC st z2 i).flatMap smC)[((i : Int) - 1).toNat * 2 + 0]? = some (.int .i64 (lastC st i)) := by rw [hi1]; exact flat_get sm_len hq rfl
      have hzz := sameL_reflC2 (rowC st z2 i)
      have hmn : (mkC ([] : List Smp)).length = 0 := by rw [mkC_nil]; rfl
      have hon := SmOK.nil
      refine W.seq (W.seq (W.region (WL.mv rfl rfl (WL.mv rfl rfl (WL.lss rfl rfl rfl (WL.nil (W.condpF rfl (by omega) (W.exit rfl (W.seq (W.region ?_))))))))))
      refine WL.ldAF (T := Ty) (j := 2) rfl rfl rfl rfl rfl rfl (by repeat' constructor) ?_
      refine WL.callF rfl rfl (fun x p d => close13_c _ _ _ _ _ (by first | assumption | exact ROs.wide (by assumption) | exact ROs.mono (by assumption) (eqh_at 0 rfl p d) | exact ros_at 0 rfl p d | exact ros_at 1 rfl p d | exact ros_at 2 rfl p d | exact ros_at 3 rfl p d | exact ros_at 4 rfl p d) (by assumption) (by first | assumption | omega) (TabG.wide (by assumption))) (fun r1 => ?_)
      refine WL.opens (α := Value) (φ := fun v => r1 = .tuple #[v, .agg #[.bool _, .int .i64 _, nilV]] ∧ SL v _) (ps := fun v => [Buf 1 v _]) 0 rfl (fun h q => q) (by repeat' constructor) ?_
      rintro u1 ⟨es1, su1⟩
      subst es1
      dsimp only [List.cons_append, List.nil_append] at su1 ⊢
      refine WL.mv rfl rfl (WL.extL rfl rfl rfl (WL.extL rfl rfl rfl ?_))
      refine WL.alF (T := Ty) rfl rfl (by repeat' constructor) (fun b2 => ?_)
      refine WL.as rfl rfl ?_
      refine WL.stAO (T := Ty) (j := 0) rfl rfl rfl rfl (by repeat' first | exact AO.nil | apply AO.cons (by first | rfl | exact SL.one (by assumption))) rfl rfl (by repeat' constructor) (by repeat' constructor) ?_
      refine WL.nil (W.seq (W.region (WL.mv rfl rfl ?_)))
      rw [hmc]
      refine WL.callF rfl rfl (fun x p d => ropen_c _ _ _ (by first | assumption | exact ROs.wide (by assumption) | exact ROs.mono (by assumption) (eqh_at 0 rfl p d) | exact ros_at 0 rfl p d | exact ros_at 1 rfl p d | exact ros_at 2 rfl p d | exact ros_at 3 rfl p d | exact ros_at 4 rfl p d) (by assumption) (by first | assumption | omega) (by first | assumption | omega) (by assumption) (TabG.wide (by assumption))) (fun r3 => ?_)
      refine WL.opens (α := Value) (φ := fun v => r3 = .tuple #[v, .int .i64 1, .bool true] ∧ SL v _) (ps := fun v => [Buf 2 v _]) 0 rfl (fun h q => q) (by repeat' constructor) ?_
      rintro u3 ⟨es3, su3⟩
      subst es3
      dsimp only [List.cons_append, List.nil_append] at su3 ⊢
      refine WL.mv rfl rfl (WL.extL rfl rfl rfl (WL.extL rfl rfl rfl (WL.extL rfl rfl rfl (WL.as rfl rfl (WL.as rfl rfl (WL.as rfl rfl (WL.nil (W.seq (W.seq (W.region (WL.mv rfl rfl (WL.eql rfl rfl rfl (WL.nil ?_)))))))))))))
      refine W.condpF rfl (by omega) (W.skip (W.seq ?_))
      refine W.fit (Hs' := [Buf 2 u3 _, Buf 2 wv _, box b2 _ _]) (by (repeat' first | exact Sel.nil | apply Sel.k | exact Pick.h | apply Pick.t)) ?_
      refine W.cutG (τ := Unit) (fun s => [(0, .int .i64 (i : Int)), (8, wv), (14, .pointer (some ⟨b2, 0, none⟩)), (15, u3), (16, .int .i64 1), (17, .bool true), (19, .int .i64 1)]) (fun s => [Buf 2 u3 ((rowC st z2 i).flatMap smC), Buf 2 wv ((rowC st z2 i).flatMap smC), box b2 [.bool true, .int .i64 (lastC st i), nilV] 25]) (fun s ρ' => True) ?_ (fun cut => ?_)
      · rintro _ ρ4 le4 -
        replace hT := hT.mono le4
        refine W.seq ?_
        refine W.cutG (τ := Unit) (fun s => [(0, .int .i64 (i : Int)), (8, wv), (14, .pointer (some ⟨b2, 0, none⟩)), (15, u3), (16, .int .i64 1), (17, .bool true), (19, .int .i64 1), (21, .int .i64 0)]) (fun s => [Buf 2 u3 ((rowC st z2 i).flatMap smC), Buf 2 wv ((rowC st z2 i).flatMap smC), box b2 [.bool true, .int .i64 (lastC st i), nilV] 25]) (fun s ρ' => True) ?_ (fun cut => ?_)
        · rintro _ ρ5 le5 -
          replace hT := hT.mono le5
          refine W.seq (W.region ?_)
          refine WL.ldAF (T := Ty) (j := 2) rfl rfl rfl rfl rfl rfl (by repeat' constructor) ?_
          refine WL.callF rfl rfl (fun x p d => close13_z _ _ _ (TabG.wide (by assumption))) (fun r4 => ?_)
          refine WL.opens (α := Value) (φ := fun v => r4 = .tuple #[v, .agg #[.bool _, .int .i64 _, nilV]] ∧ SL v _) (ps := fun v => [Buf 1 v _]) 0 rfl (fun h q => q) (by repeat' constructor) ?_
          rintro u4 ⟨es4, su4⟩
          subst es4
          dsimp only [List.cons_append, List.nil_append] at su4 ⊢
          refine WL.mv rfl rfl (WL.extL rfl rfl rfl (WL.extL rfl rfl rfl ?_))
          refine WL.alF (T := Ty) rfl rfl (by repeat' constructor) (fun b5 => ?_)
          refine WL.as rfl rfl ?_
          refine WL.stAO (T := Ty) (j := 0) rfl rfl rfl rfl (by repeat' first | exact AO.nil | apply AO.cons (by first | rfl | exact SL.one (by assumption))) rfl rfl (by repeat' constructor) (by repeat' constructor) ?_
          refine WL.nil (W.seq ?_)
          refine W.drawA 41 rfl (fun σ0 hσ0 dσ0 => ?_)
          have fσ0_0 := rb_at 0 rfl hσ0 dσ0
          have fσ0_1 := ros_at 1 rfl hσ0 dσ0
          have fσ0_2 := ros_at 2 rfl hσ0 dσ0
          have fσ0_3 := ros_at 3 rfl hσ0 dσ0
          have fσ0_4 := rb_at 4 rfl hσ0 dσ0
          refine WD.takeL 0 rfl (by decide +kernel) (WL.mv rfl rfl (WL.nilT (WD.takeL 1 rfl (by decide +kernel) (WL.mv rfl rfl (WL.nilT (WD.takeL 2 rfl (by decide +kernel) (WL.gY rfl rfl (WL.mv rfl rfl (WL.nilT (WD.takeL 3 rfl (by decide +kernel) (WL.gY rfl rfl (WL.eql rfl rfl rfl (WL.nilT ?_)))))))))))))
          refine WD.takeL 4 rfl (by decide +kernel) (WL.pickT rfl rfl rfl (WL.nilT (WD.takeL 5 rfl (by decide +kernel) (WL.mv rfl rfl (WL.nilT (WD.takeL 6 rfl (by decide +kernel) (WL.gY rfl rfl (WL.mv rfl rfl (WL.nilT (WD.takeL 7 rfl (by decide +kernel) (WL.gY rfl rfl (WL.mv rfl rfl (WL.nilT ?_)))))))))))))
          refine WD.oneL 8 rfl (by decide +kernel) (WL.gY rfl rfl ?_)
          refine WL.callV rfl rfl (fun x p d => refM_e _ _ _ _ _ _ (by first | assumption | exact ROs.wide (by assumption) | exact ROs.mono (by assumption) (eqh_at 0 rfl p d) | exact ros_at 0 rfl p d | exact ros_at 1 rfl p d | exact ros_at 2 rfl p d | exact ros_at 3 rfl p d | exact ros_at 4 rfl p d) (by first | assumption | exact ROs.wide (by assumption) | exact ROs.mono (by assumption) (eqh_at 0 rfl p d) | exact ros_at 0 rfl p d | exact ros_at 1 rfl p d | exact ros_at 2 rfl p d | exact ros_at 3 rfl p d | exact ros_at 4 rfl p d) (by first | assumption | omega) (by assumption)) ?_
          refine WL.nilE (WD.takeL 9 rfl (by decide +kernel) (WL.pickT rfl rfl rfl (WL.nilT (WD.takeL 10 rfl (by decide +kernel) (WL.mv rfl rfl (WL.nilT (WD.takeL 11 rfl (by decide +kernel) (WL.gY rfl rfl (WL.mv rfl rfl (WL.nilT (WD.takeL 12 rfl (by decide +kernel) (WL.gY rfl rfl (WL.eql rfl rfl rfl ?_)))))))))))))
          refine WL.nilT (WD.takeL 13 rfl (by decide +kernel) (WL.pickT rfl rfl rfl (WL.nilT (WD.takeL 14 rfl (by decide +kernel) (WL.mv rfl rfl (WL.nilT (WD.takeL 15 rfl (by decide +kernel) (WL.gY rfl rfl (WL.mv rfl rfl (WL.nilT (WD.takeL 16 rfl (by decide +kernel) (WL.gY rfl rfl (WL.eql rfl rfl rfl ?_)))))))))))))
          refine WL.nilT (WD.takeL 17 rfl (by decide +kernel) (WL.pickT rfl rfl rfl (WL.nilT (WD.takeL 18 rfl (by decide +kernel) (WL.mv rfl rfl (WL.nilT (WD.takeL 19 rfl (by decide +kernel) (WL.gY rfl rfl (WL.mv rfl rfl (WL.nilT (WD.takeL 20 rfl (by decide +kernel) (WL.gY rfl rfl ?_))))))))))))
          refine WL.len (T := Ty) rfl rfl (by assumption) rfl ?_
          refine WL.nilT (WD.takeL 21 rfl (by decide +kernel) (WL.gY rfl rfl (WL.eql rfl rfl rfl (WL.nilT (WD.takeL 22 rfl (by decide +kernel) (WL.pickT rfl rfl rfl (WL.nilT (WD.takeL 23 rfl (by decide +kernel) (WL.mv rfl rfl (WL.nilT (WD.takeL 24 rfl (by decide +kernel) (WL.gY rfl rfl (WL.faN (T := Ty) (off' := 0) rfl rfl rfl rfl rfl rfl rfl ?_)))))))))))))
          refine WL.nilT (WD.takeL 25 rfl (by decide +kernel) (WL.gY rfl rfl ?_))
          refine WL.ldBN (T := Ty) rfl rfl rfl rfl (by first | assumption | exact RB.wide (by assumption) | exact In.rb (by assumption)) rfl ?_
          refine WL.nilT (WD.takeL 26 rfl (by decide +kernel) (WL.pickT rfl rfl rfl (WL.nilT (WD.takeL 27 rfl (by decide +kernel) (WL.mv rfl rfl (WL.nilT (WD.takeL 28 rfl (by decide +kernel) (WL.gY rfl rfl (WL.faN (T := Ty) (off' := 1) rfl rfl rfl rfl rfl rfl rfl (WL.nilT (WD.takeL 29 rfl (by decide +kernel) (WL.gY rfl rfl ?_))))))))))))
          refine WL.ldBN (T := Ty) rfl rfl rfl rfl (by first | assumption | exact RB.wide (by assumption) | exact In.rb (by assumption)) rfl ?_
          refine WL.nilT (WD.takeL 30 rfl (by decide +kernel) (WL.gY rfl rfl (WL.mv rfl rfl (WL.nilT (WD.takeL 31 rfl (by decide +kernel) (WL.gY rfl rfl (WL.mv rfl rfl (WL.nilT (WD.takeL 32 rfl (by decide +kernel) (WL.gY rfl rfl (WL.subK rfl rfl rfl (wrap_i64 ⟨by omega, by omega⟩) (WL.nilT (WD.takeL 33 rfl (by decide +kernel) ?_)))))))))))))
          refine WL.gY rfl rfl ?_
          refine WL.ix (T := Ty) rfl rfl rfl (by assumption) rfl rfl (by omega) (by first | omega | decide +kernel) ?_
          refine WL.nilT (WD.takeL 34 rfl (by decide +kernel) (WL.gY rfl rfl (WL.faEN (T := Ty) (off' := 0) rfl rfl rfl rfl rfl rfl rfl (WL.nilT (WD.takeL 35 rfl (by decide +kernel) (WL.gY rfl rfl ?_))))))
          refine WL.ldR (T := Ty) rfl rfl rfl rfl (by first | assumption | exact ROs.wide (by assumption)) (by assumption) ?_
          refine WL.nilT (WD.takeL 36 rfl (by decide +kernel) (WL.gY rfl rfl (WL.eql rfl rfl rfl (WL.nilT (WD.takeL 37 rfl (by decide +kernel) (WL.pickT rfl rfl rfl (WL.nilT (WD.takeL 38 rfl (by decide +kernel) (WL.mv rfl rfl (WL.nilT (WD.oneL 39 rfl (by decide +kernel) (WL.gT rfl rfl (by omega) ?_))))))))))))
          refine WL.callT rfl rfl (fun x p d => awake13_c _ (TabG.wide (by assumption))) ?_
          refine WL.nilE (WD.takeL 40 rfl (by decide +kernel) (WL.pickTp rfl rfl (by omega) rfl (WL.nilT ?_)))
          refine WD.lastG hσ0 (by decide +kernel) (by repeat' constructor) rfl (by repeat' constructor) ?_
          refine WL.as rfl rfl (WL.nil ?_)
          exact W.fit (Hs' := []) (by (repeat' first | exact Sel.nil | apply Sel.k | exact Pick.h | apply Pick.t)) (W.ret1 rfl rfl (fun h q => rfl))
        · refine W.drawA 15 rfl (fun σ0 hσ0 dσ0 => ?_)
          have fσ0_0 := ros_at 0 rfl hσ0 dσ0
          have fσ0_1 := ros_at 1 rfl hσ0 dσ0
          have fσ0_2 := rb_at 2 rfl hσ0 dσ0
          refine WD.takeL 0 rfl (by decide +kernel) ?_
          refine WL.ldABF (T := Ty) rfl rfl rfl rfl (by first | assumption | exact RB.wide (by assumption) | exact In.rb (by assumption)) rfl (by repeat' constructor) ?_
          refine WL.nilT (WD.takeL 1 rfl (by decide +kernel) (WL.mv rfl rfl (WL.nilT (WD.takeL 2 rfl (by decide +kernel) (WL.mv rfl rfl (WL.nilT (WD.takeL 3 rfl (by decide +kernel) (WL.subK rfl rfl rfl (wrap_i64 ⟨by omega, by omega⟩) (WL.nilT (WD.takeL 4 rfl (by decide +kernel) ?_))))))))))
          refine WL.ix (T := Ty) rfl rfl rfl (by assumption) rfl rfl (by omega) (by first | omega | decide +kernel) ?_
          refine WL.nilT (WD.takeL 5 rfl (by decide +kernel) (WL.faEN (T := Ty) (off' := 0) rfl rfl rfl rfl rfl rfl rfl (WL.nilT (WD.takeL 6 rfl (by decide +kernel) ?_))))
          refine WL.ldR (T := Ty) rfl rfl rfl rfl (by first | assumption | exact ROs.wide (by assumption)) (by assumption) ?_
          refine WL.nilT (WD.takeL 7 rfl (by decide +kernel) (WL.addK rfl rfl rfl (wrap_i64 ⟨by omega, by omega⟩) (WL.nilT (WD.takeL 8 rfl (by decide +kernel) ?_))))
          refine WL.bdC (T := Ty) rfl rfl rfl rfl (by repeat' first | exact CO.nil | apply CO.one (by first | rfl | exact SL.one (by assumption)) | apply CO.agg) rfl (by repeat' constructor) ?_
          refine WL.nilT ?_
          refine WD.twoL 9 13 rfl rfl (by decide +kernel) ?_ ?_
          · refine WL.callF rfl rfl (fun x p d => addO_z _ _ _ _ _ (by first | exact .inl rfl | assumption | exact .inr (by omega))) (fun r4 => ?_)
            refine WL.opens (α := Value) (φ := fun v => r4 = .tuple #[.agg #[.bool true, .int .i64 _, v], .int .i64 0] ∧ SL v _) (ps := fun v => [Buf 2 v _]) 0 rfl (fun h q => q) (by repeat' constructor) ?_
            rintro u4 ⟨es4, su4⟩
            subst es4
            dsimp only [List.cons_append, List.nil_append] at su4 ⊢
            refine WL.nilH hσ0 (fun σ1 hσ1 dσ1 mσ1 => ?_)
            have fσ0_0 := fσ0_0.mono mσ1
            have fσ0_1 := fσ0_1.mono mσ1
            have fσ0_2 := fσ0_2.mono mσ1
            have fσ1_0 := ros_at 0 rfl hσ1 dσ1
            refine WD.takeL 10 rfl (by decide +kernel) (WL.mv rfl rfl (WL.nilT (WD.takeL 11 rfl (by decide +kernel) (WL.extL rfl rfl rfl (WL.nilT (WD.takeL 12 rfl (by decide +kernel) (WL.extL rfl rfl rfl (WL.nilT (WD.oneL 13 rfl (by decide +kernel) ?_)))))))))
            refine WL.alF (T := Ty) rfl rfl (by repeat' constructor) (fun b5 => ?_)
            refine WL.nilS (WD.oneL 14 rfl (by decide +kernel) ?_)
            refine WL.stAO (T := Ty) (j := 1) rfl rfl rfl rfl (by repeat' first | exact AO.nil | apply AO.cons (by first | rfl | exact SL.one (by assumption))) rfl rfl (by repeat' constructor) (by repeat' constructor) ?_
            refine WL.nilE ?_
            refine WD.lastG hσ1 (by decide +kernel) (by repeat' constructor) rfl (by repeat' constructor) ?_
            refine WL.as rfl rfl (WL.nil ?_)
            refine W.fit (Hs' := [Buf 2 u3 _, Buf 2 wv _, box b2 _ _]) (by (repeat' first | exact Sel.nil | apply Sel.k | exact Pick.h | apply Pick.t)) (W.sub ?_ (cut () _ (Le.refl _) trivial))
            exact ⟨rfl, rfl, rfl, rfl, rfl, rfl, rfl, rfl, trivial⟩
          · refine WL.alF (T := Ty) rfl rfl (by repeat' constructor) (fun b4 => ?_)
            refine WL.nilS (WD.oneL 9 rfl (by decide +kernel) ?_)
            refine WL.callF rfl rfl (fun x p d => addO_z _ _ _ _ _ (by first | exact .inl rfl | assumption | exact .inr (by omega))) (fun r5 => ?_)
            refine WL.opens (α := Value) (φ := fun v => r5 = .tuple #[.agg #[.bool true, .int .i64 _, v], .int .i64 0] ∧ SL v _) (ps := fun v => [Buf 2 v _]) 0 rfl (fun h q => q) (by repeat' constructor) ?_
            rintro u5 ⟨es5, su5⟩
            subst es5
            dsimp only [List.cons_append, List.nil_append] at su5 ⊢
            refine WL.nilH hσ0 (fun σ1 hσ1 dσ1 mσ1 => ?_)
            have fσ0_0 := fσ0_0.mono mσ1
            have fσ0_1 := fσ0_1.mono mσ1
            have fσ0_2 := fσ0_2.mono mσ1
            have fσ1_0 := ros_at 0 rfl hσ1 dσ1
            refine WD.takeL 10 rfl (by decide +kernel) (WL.mv rfl rfl (WL.nilT (WD.takeL 11 rfl (by decide +kernel) (WL.extL rfl rfl rfl (WL.nilT (WD.takeL 12 rfl (by decide +kernel) (WL.extL rfl rfl rfl (WL.nilT (WD.oneL 14 rfl (by decide +kernel) ?_)))))))))
            refine WL.stAO (T := Ty) (j := 1) rfl rfl rfl rfl (by repeat' first | exact AO.nil | apply AO.cons (by first | rfl | exact SL.one (by assumption))) rfl rfl (by repeat' constructor) (by repeat' constructor) ?_
            refine WL.nilE ?_
            refine WD.lastG hσ1 (by decide +kernel) (by repeat' constructor) rfl (by repeat' constructor) ?_
            refine WL.as rfl rfl (WL.nil ?_)
            refine W.fit (Hs' := [Buf 2 u3 _, Buf 2 wv _, box b2 _ _]) (by (repeat' first | exact Sel.nil | apply Sel.k | exact Pick.h | apply Pick.t)) (W.sub ?_ (cut () _ (Le.refl _) trivial))
            exact ⟨rfl, rfl, rfl, rfl, rfl, rfl, rfl, rfl, trivial⟩
      · refine W.drawA 12 rfl (fun σ0 hσ0 dσ0 => ?_)
        have fσ0_0 := ros_at 0 rfl hσ0 dσ0
        have fσ0_1 := ros_at 1 rfl hσ0 dσ0
        have fσ0_2 := rb_at 2 rfl hσ0 dσ0
        refine WD.takeL 0 rfl (by decide +kernel) ?_
        refine WL.ldABF (T := Ty) rfl rfl rfl rfl (by first | assumption | exact RB.wide (by assumption) | exact In.rb (by assumption)) rfl (by repeat' constructor) ?_
        refine WL.nilT (WD.takeL 1 rfl (by decide +kernel) (WL.mv rfl rfl (WL.nilT (WD.takeL 2 rfl (by decide +kernel) (WL.mv rfl rfl (WL.nilT (WD.takeL 3 rfl (by decide +kernel) (WL.subK rfl rfl rfl (wrap_i64 ⟨by omega, by omega⟩) (WL.nilT (WD.takeL 4 rfl (by decide +kernel) ?_))))))))))
        refine WL.ix (T := Ty) rfl rfl rfl (by assumption) rfl rfl (by omega) (by first | omega | decide +kernel) ?_
        refine WL.nilT (WD.takeL 5 rfl (by decide +kernel) ?_)
        refine WL.ldAR (T := Ty) rfl rfl rfl rfl (by first | assumption | exact ROs.wide (by assumption)) (by assumption) rfl ?_
        refine WL.nilT ?_
        refine WD.twoL 6 10 rfl rfl (by decide +kernel) ?_ ?_
        · refine WL.callF rfl rfl (fun x p d => addE_z _ _ _ _ _ (by first | rfl | assumption) (by first | assumption | omega)) (fun r4 => ?_)
          refine WL.opens (α := Value) (φ := fun v => r4 = .tuple #[.agg #[.bool _, .int .i64 _, v], .int .i64 1] ∧ SL v _) (ps := fun v => [Buf 2 v _]) 0 rfl (fun h q => q) (by repeat' constructor) ?_
          rintro u4 ⟨es4, su4⟩
          subst es4
          dsimp only [List.cons_append, List.nil_append] at su4 ⊢
          refine WL.nilH hσ0 (fun σ1 hσ1 dσ1 mσ1 => ?_)
          have fσ0_0 := fσ0_0.mono mσ1
          have fσ0_1 := fσ0_1.mono mσ1
          have fσ0_2 := fσ0_2.mono mσ1
          have fσ1_0 := ros_at 0 rfl hσ1 dσ1
          refine WD.takeL 7 rfl (by decide +kernel) (WL.mv rfl rfl (WL.nilT (WD.takeL 8 rfl (by decide +kernel) (WL.extL rfl rfl rfl (WL.nilT (WD.takeL 9 rfl (by decide +kernel) (WL.extL rfl rfl rfl (WL.nilT (WD.oneL 10 rfl (by decide +kernel) ?_)))))))))
          refine WL.alF (T := Ty) rfl rfl (by repeat' constructor) (fun b5 => ?_)
          refine WL.nilS (WD.oneL 11 rfl (by decide +kernel) ?_)
          refine WL.stAO (T := Ty) (j := 1) rfl rfl rfl rfl (by repeat' first | exact AO.nil | apply AO.cons (by first | rfl | exact SL.one (by assumption))) rfl rfl (by repeat' constructor) (by repeat' constructor) ?_
          refine WL.nilE ?_
          refine WD.lastG hσ1 (by decide +kernel) (by repeat' constructor) rfl (by repeat' constructor) ?_
          refine WL.as rfl rfl (WL.nil ?_)
          refine W.fit (Hs' := [Buf 2 u3 _, Buf 2 wv _, box b2 _ _]) (by (repeat' first | exact Sel.nil | apply Sel.k | exact Pick.h | apply Pick.t)) (W.sub ?_ (cut () _ (Le.refl _) trivial))
          exact ⟨rfl, rfl, rfl, rfl, rfl, rfl, rfl, trivial⟩
        · refine WL.alF (T := Ty) rfl rfl (by repeat' constructor) (fun b4 => ?_)
          refine WL.nilS (WD.oneL 6 rfl (by decide +kernel) ?_)
          refine WL.callF rfl rfl (fun x p d => addE_z _ _ _ _ _ (by first | rfl | assumption) (by first | assumption | omega)) (fun r5 => ?_)
          refine WL.opens (α := Value) (φ := fun v => r5 = .tuple #[.agg #[.bool _, .int .i64 _, v], .int .i64 1] ∧ SL v _) (ps := fun v => [Buf 2 v _]) 0 rfl (fun h q => q) (by repeat' constructor) ?_
          rintro u5 ⟨es5, su5⟩
          subst es5
          dsimp only [List.cons_append, List.nil_append] at su5 ⊢
          refine WL.nilH hσ0 (fun σ1 hσ1 dσ1 mσ1 => ?_)
          have fσ0_0 := fσ0_0.mono mσ1
          have fσ0_1 := fσ0_1.mono mσ1
          have fσ0_2 := fσ0_2.mono mσ1
          have fσ1_0 := ros_at 0 rfl hσ1 dσ1
          refine WD.takeL 7 rfl (by decide +kernel) (WL.mv rfl rfl (WL.nilT (WD.takeL 8 rfl (by decide +kernel) (WL.extL rfl rfl rfl (WL.nilT (WD.takeL 9 rfl (by decide +kernel) (WL.extL rfl rfl rfl (WL.nilT (WD.oneL 11 rfl (by decide +kernel) ?_)))))))))
          refine WL.stAO (T := Ty) (j := 1) rfl rfl rfl rfl (by repeat' first | exact AO.nil | apply AO.cons (by first | rfl | exact SL.one (by assumption))) rfl rfl (by repeat' constructor) (by repeat' constructor) ?_
          refine WL.nilE ?_
          refine WD.lastG hσ1 (by decide +kernel) (by repeat' constructor) rfl (by repeat' constructor) ?_
          refine WL.as rfl rfl (WL.nil ?_)
          refine W.fit (Hs' := [Buf 2 u3 _, Buf 2 wv _, box b2 _ _]) (by (repeat' first | exact Sel.nil | apply Sel.k | exact Pick.h | apply Pick.t)) (W.sub ?_ (cut () _ (Le.refl _) trivial))
          exact ⟨rfl, rfl, rfl, rfl, rfl, rfl, rfl, trivial⟩
end Go.Proofs.YtdpnpipninggeaaDoor
