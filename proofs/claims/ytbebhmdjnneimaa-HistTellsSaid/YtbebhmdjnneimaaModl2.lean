/- modl: samples of a span; which ops are none; where a series stands. -/
import Derived.Test.YtbebhmdjnneimaaStc
import Derived.Test.YtbebhmdjnneimaaNum
import Derived.Test.YtbebhmdjnneimaaTab
import Derived.Test.YtbebhmdjnneimaaModl1
import Derived.Test.YtbebhmdjnneimaaIdxF
set_option linter.unusedSimpArgs false
set_option linter.unusedVariables false
set_option maxRecDepth 20000
set_option maxHeartbeats 4000000
namespace Go.Proofs.Ytbebhmdjnneimaa
open Go
attribute [local irreducible] W WL Fn Buf ROs SL eptr box Rd Src bndOK WD RB Reads In Own
theorem within_snoc (l : List Smp) (s : Smp) (f t : Int) : within (l ++ [s]) f t = within l f t ++ (if f ≤ s.1 ∧ s.1 ≤ t then [s] else []) := by
 unfold within
 rw [List.filter_append]
 congr 1
 by_cases h : f ≤ s.1 ∧ s.1 ≤ t <;> simp [h, List.filter]
theorem take_snoc {α : Type} {l : List α} {k : Nat} {a : α} (h : l[k]? = some a) : l.take (k + 1) = l.take k ++ [a] := by
 rw [List.take_add_one, h]; rfl
theorem within_c (ρ : Hp) (v : Value) (l : List Smp) (f t : Int) (hv : ROs ρ 2 v (l.flatMap smC)) (hb : l.length ≤ 100000000) :
    Fn Try.prog 90 #[v, .int .i64 f, .int .i64 t] ρ [] (fun r => Buf 2 r ((within l f t).flatMap smC)) := by
  refine in90 rfl rfl ?_
  have sv : SL v l.length := hv.sl (sms_cells l) (by omega)
  refine W.seq (W.region (WL.as rfl rfl (WL.nil (W.seq (W.region (WL.as rfl rfl (WL.nil (W.seq (W.seq (W.region (WL.mv rfl rfl ?_)))))))))))
  refine WL.len (T := Ty) rfl rfl (by assumption) rfl ?_
  refine WL.mv rfl rfl (WL.nil (W.block (W.nb (sz := 2) ?_)))
  refine W.loopS (σ := Nat × Value) (fun s => [(1, .int .i64 f), (2, .int .i64 t), (7, s.2), (10, v), (11, .int .i64 (l.length : Int)), (12, .int .i64 (s.1 : Int))])
    (fun s => [Buf 2 s.2 ((within (l.take s.1) f t).flatMap smC)]) (fun s => s.1 ≤ l.length ∧ SL s.2 (within (l.take s.1) f t).length) (fun s => l.length - s.1) (0, nilV) ⟨rfl, rfl, rfl, rfl, rfl, rfl, trivial⟩ rfl ⟨Nat.zero_le _, slZ⟩ ?_
  rintro ⟨k, u⟩ ⟨hk, su⟩ next
  simp only [] at hk su next ⊢
  by_cases hc : k < l.length
  · obtain ⟨q, hq⟩ : ∃ q, l[k]? = some q := ⟨_, List.getElem?_eq_getElem hc⟩
    have hr : ((l.flatMap smC).drop (((k : Nat) : Int).toNat * 2)).take 2 = smC q := flat_row sm_len hq
    have hwl := within_len (l.take k) f t
    have htk : (l.take k).length ≤ l.length := by rw [List.length_take]; omega
    have hcl := sms_cells (within (l.take k) f t)
    have hts := take_snoc hq
    by_cases hin : f ≤ q.1 ∧ q.1 ≤ t
    · have hw := within_snoc (l.take k) q f t
      rw [if_pos hin, ← hts] at hw
      have hw2 : (within (l.take (k + 1)) f t).flatMap smC = (within (l.take k) f t).flatMap smC ++ [.int .i64 q.1, .int .u64 q.2] := by rw [hw, List.flatMap_append]; rfl
      obtain ⟨hin1, hin2⟩ := hin
      refine W.seq (W.region (WL.lss rfl rfl rfl (WL.nil (W.seq (W.condpT rfl (by omega) (W.skip (W.seq (W.block (W.seq (W.region ?_))))))))))
      refine WL.ix (T := Ty) rfl rfl rfl (by assumption) rfl rfl (by omega) (by first | omega | decide +kernel) ?_
      refine WL.ldAR (T := Ty) rfl rfl rfl rfl (by first | assumption | exact ROs.wide (by assumption)) (by assumption) rfl ?_
      refine WL.alF (T := Ty) rfl rfl (by repeat' constructor) (fun b0 => ?_)
      refine WL.stAO (T := Ty) (j := 0) rfl rfl rfl rfl (by repeat' first | exact AO.nil | apply AO.cons (by first | rfl | exact SL.one (by assumption))) rfl rfl (by repeat' constructor) (by repeat' constructor) ?_
      refine WL.nil (W.seq (W.region (WL.faN (T := Ty) (off' := 0) rfl rfl rfl rfl rfl rfl rfl (WL.ldN (T := Ty) (j := 0) rfl rfl rfl rfl rfl rfl (WL.mv rfl rfl (WL.geq rfl rfl rfl (WL.mv rfl rfl (WL.gT rfl rfl (by omega) (WL.faN (T := Ty) (off' := 0) rfl rfl rfl rfl rfl rfl rfl (WL.gT rfl rfl (by omega) (WL.ldN (T := Ty) (j := 0) rfl rfl rfl rfl rfl rfl (WL.gT rfl rfl (by omega) (WL.mv rfl rfl ?_)))))))))))))
      refine WL.gT rfl rfl (by omega) (WL.leq rfl rfl rfl (WL.pickTp rfl rfl (by omega) rfl (WL.nil (W.condpT rfl (by omega) (W.region (WL.mv rfl rfl ?_))))))
      refine WL.ldAF (T := Ty) (j := 0) rfl rfl rfl rfl rfl rfl (by repeat' constructor) ?_
      refine WL.bsC (T := Ty) rfl rfl rfl rfl rfl rfl rfl (by repeat' first | exact CO.nil | apply CO.one (by first | rfl | exact SL.one (by assumption)) | apply CO.agg) rfl (by repeat' constructor) (fun u1 hu1 => ?_)
      refine WL.apS (T := Ty) (i := 1) rfl rfl rfl rfl rfl rfl rfl rfl rfl (by first | rfl | assumption) rfl (by assumption) (by repeat' first | exact AO.nil | apply AO.cons (by first | rfl | exact SL.one (by assumption))) (by first | omega | (simp; omega)) (by first | omega | (simp; omega)) (fun v' => (by repeat' constructor)) (fun u2 hu2 => ?_)
      refine WL.as rfl rfl (WL.nil (W.inBlock (W.region (WL.addK rfl rfl rfl (wrap_i64 ⟨by omega, by omega⟩) (WL.mv rfl rfl (WL.nil ?_))))))
      rw [← hw2]
      refine W.fit (by (repeat' first | exact Sel.nil | refine Sel.cons 0 rfl ?_ | refine Sel.cons 1 rfl ?_ | refine Sel.cons 2 rfl ?_ | refine Sel.cons 3 rfl ?_ | refine Sel.cons 4 rfl ?_ | refine Sel.cons 5 rfl ?_ | refine Sel.cons 6 rfl ?_ | refine Sel.cons 7 rfl ?_ | refine Sel.cons 8 rfl ?_)) (W.sub ?_ (next ⟨k + 1, _⟩ ⟨by simp only []; omega, by simp only []; rw [hw, List.length_append]; assumption⟩ (by simp only []; omega)))
      exact ⟨rfl, rfl, rfl, rfl, rfl, rfl, trivial⟩
    · have hw := within_snoc (l.take k) q f t
      rw [if_neg hin, ← hts, List.append_nil] at hw
      by_cases h1 : f ≤ q.1
      · refine W.seq ?_
        refine W.region (WL.lss rfl rfl rfl (WL.nil (W.seq (W.condpT rfl (by omega) (W.skip (W.seq (W.block (W.seq (W.region ?_)))))))))
        refine WL.ix (T := Ty) rfl rfl rfl (by assumption) rfl rfl (by omega) (by first | omega | decide +kernel) ?_
        refine WL.ldAR (T := Ty) rfl rfl rfl rfl (by first | assumption | exact ROs.wide (by assumption)) (by assumption) rfl ?_
        refine WL.alF (T := Ty) rfl rfl (by repeat' constructor) (fun b0 => ?_)
        refine WL.stAO (T := Ty) (j := 0) rfl rfl rfl rfl (by repeat' first | exact AO.nil | apply AO.cons (by first | rfl | exact SL.one (by assumption))) rfl rfl (by repeat' constructor) (by repeat' constructor) ?_
        refine WL.nil (W.seq (W.region (WL.faN (T := Ty) (off' := 0) rfl rfl rfl rfl rfl rfl rfl (WL.ldN (T := Ty) (j := 0) rfl rfl rfl rfl rfl rfl (WL.mv rfl rfl (WL.geq rfl rfl rfl (WL.mv rfl rfl (WL.gT rfl rfl (by omega) (WL.faN (T := Ty) (off' := 0) rfl rfl rfl rfl rfl rfl rfl (WL.gT rfl rfl (by omega) (WL.ldN (T := Ty) (j := 0) rfl rfl rfl rfl rfl rfl (WL.gT rfl rfl (by omega) (WL.mv rfl rfl ?_)))))))))))))
        refine WL.gT rfl rfl (by omega) (WL.leq rfl rfl rfl (WL.pickTp rfl rfl (by omega) rfl (WL.nil (W.condpF rfl (by omega) (W.skip (W.inBlock (W.region (WL.addK rfl rfl rfl (wrap_i64 ⟨by omega, by omega⟩) (WL.mv rfl rfl (WL.nil ?_))))))))))
        rw [← hw] at su ⊢
        refine W.fit (by (repeat' first | exact Sel.nil | refine Sel.cons 0 rfl ?_ | refine Sel.cons 1 rfl ?_ | refine Sel.cons 2 rfl ?_ | refine Sel.cons 3 rfl ?_ | refine Sel.cons 4 rfl ?_ | refine Sel.cons 5 rfl ?_ | refine Sel.cons 6 rfl ?_ | refine Sel.cons 7 rfl ?_ | refine Sel.cons 8 rfl ?_)) (W.sub ?_ (next ⟨k + 1, _⟩ ⟨by simp only []; omega, su⟩ (by simp only []; omega)))
        exact ⟨rfl, rfl, rfl, rfl, rfl, rfl, trivial⟩
      · refine W.seq ?_
        refine W.region (WL.lss rfl rfl rfl (WL.nil (W.seq (W.condpT rfl (by omega) (W.skip (W.seq (W.block (W.seq (W.region ?_)))))))))
        refine WL.ix (T := Ty) rfl rfl rfl (by assumption) rfl rfl (by omega) (by first | omega | decide +kernel) ?_
        refine WL.ldAR (T := Ty) rfl rfl rfl rfl (by first | assumption | exact ROs.wide (by assumption)) (by assumption) rfl ?_
        refine WL.alF (T := Ty) rfl rfl (by repeat' constructor) (fun b0 => ?_)
        refine WL.stAO (T := Ty) (j := 0) rfl rfl rfl rfl (by repeat' first | exact AO.nil | apply AO.cons (by first | rfl | exact SL.one (by assumption))) rfl rfl (by repeat' constructor) (by repeat' constructor) ?_
        refine WL.nil (W.seq (W.region (WL.faN (T := Ty) (off' := 0) rfl rfl rfl rfl rfl rfl rfl (WL.ldN (T := Ty) (j := 0) rfl rfl rfl rfl rfl rfl (WL.mv rfl rfl (WL.geq rfl rfl rfl (WL.mv rfl rfl (WL.gdTn rfl rfl rfl rfl rfl (by omega) (WL.gdTn rfl rfl rfl rfl rfl (by omega) (WL.gdTn rfl rfl rfl rfl rfl (by omega) (WL.gdTn rfl rfl rfl rfl rfl (by omega) (WL.pickFp rfl rfl (by omega) rfl (WL.nil ?_)))))))))))))
        refine W.condF rfl (W.skip (W.inBlock (W.region (WL.addK rfl rfl rfl (wrap_i64 ⟨by omega, by omega⟩) (WL.mv rfl rfl (WL.nil ?_))))))
        rw [← hw] at su ⊢
        refine W.fit (by (repeat' first | exact Sel.nil | refine Sel.cons 0 rfl ?_ | refine Sel.cons 1 rfl ?_ | refine Sel.cons 2 rfl ?_ | refine Sel.cons 3 rfl ?_ | refine Sel.cons 4 rfl ?_ | refine Sel.cons 5 rfl ?_ | refine Sel.cons 6 rfl ?_ | refine Sel.cons 7 rfl ?_ | refine Sel.cons 8 rfl ?_)) (W.sub ?_ (next ⟨k + 1, _⟩ ⟨by simp only []; omega, su⟩ (by simp only []; omega)))
        exact ⟨rfl, rfl, rfl, rfl, rfl, rfl, trivial⟩
  · have hkk : k = l.length := by omega
    subst hkk
    rw [List.take_length] at su ⊢
    have hcl := sms_cells (within l f t)
    refine W.seq (W.region (WL.lss rfl rfl rfl (WL.nil (W.seq (W.condpF rfl (by omega) (W.exit rfl (W.seq (W.region (WL.mv rfl rfl ?_)))))))))
    refine WL.callP 0 rfl rfl rfl (fun x p d => clipM_c _ _ _ _ (by assumption)) (by repeat' constructor) (fun u0 => ?_)
    refine WL.fact (i := 0) rfl (fun h hb => hb.sl (by assumption) (by omega)) (fun hsl0 => ?_)
    refine WL.as rfl rfl (WL.nil ?_)
    exact W.fit (by (repeat' first | exact Sel.nil | refine Sel.cons 0 rfl ?_ | refine Sel.cons 1 rfl ?_ | refine Sel.cons 2 rfl ?_ | refine Sel.cons 3 rfl ?_ | refine Sel.cons 4 rfl ?_ | refine Sel.cons 5 rfl ?_ | refine Sel.cons 6 rfl ?_ | refine Sel.cons 7 rfl ?_ | refine Sel.cons 8 rfl ?_)) (W.ret1 rfl rfl (fun h p => sepl_one.1 p))
theorem bad_c (ρ : Hp) (o : MOp) : Fn Try.prog 45 #[.agg (opC o).toArray] ρ [] (Just (.bool (badOp o))) := by
 refine in45 rfl rfl ?_
 obtain ⟨b, hb⟩ : ∃ b, badOp o = b := ⟨_, rfl⟩
 rw [hb]
 unfold opC
 unfold badOp at hb
 by_cases hk : 1 ≤ o.kind ∧ o.kind ≤ 5
 ·rw [if_pos hk] at hb
  obtain ⟨hk1, hk2⟩ := hk
  rcases (by omega : o.kind = 1 ∨ o.kind = 2 ∨ o.kind = 3 ∨ o.kind = 4 ∨ o.kind = 5) with h | h | h | h | h
  ·by_cases hs : o.series < 0
   ·rw [decide_eq_true (by omega)] at hb
    subst hb
    refine W.seq (W.region ?_)
    refine WL.bxF rfl rfl (by repeat' constructor) (fun b0 => ?_)
    refine WL.as rfl rfl (WL.nil (W.seq (W.seq (W.region (WL.faN (T := Ty) (off' := 0) rfl rfl rfl rfl rfl rfl rfl (WL.ldN (T := Ty) (j := 0) rfl rfl rfl rfl rfl rfl (WL.nil (W.block (W.seq (W.seq (W.region (WL.eql rfl rfl rfl (WL.as rfl rfl ?_)))))))))))))
    refine WL.nil (W.condpT rfl (by omega) (W.skip (W.condpT rfl (by omega) (W.seq (W.region (WL.faN (T := Ty) (off' := 1) rfl rfl rfl rfl rfl rfl rfl (WL.ldN (T := Ty) (j := 0) rfl rfl rfl rfl rfl rfl (WL.lss rfl rfl rfl (WL.mv rfl rfl (WL.gdFn rfl rfl rfl rfl rfl (by omega) (WL.gdFn rfl rfl rfl rfl rfl (by omega) (WL.gdFn rfl rfl rfl rfl rfl (by omega) (WL.pickTp rfl rfl (by omega) rfl ?_)))))))))))))
    refine WL.as rfl rfl (WL.nil ?_)
    exact W.fit (Hs' := []) (by (repeat' first | exact Sel.nil | refine Sel.cons 0 rfl ?_ | refine Sel.cons 1 rfl ?_ | refine Sel.cons 2 rfl ?_ | refine Sel.cons 3 rfl ?_ | refine Sel.cons 4 rfl ?_ | refine Sel.cons 5 rfl ?_ | refine Sel.cons 6 rfl ?_ | refine Sel.cons 7 rfl ?_ | refine Sel.cons 8 rfl ?_)) (W.ret1 rfl rfl (fun h q => ⟨rfl, q⟩))
   ·have e : decide (o.series < 0 ∨ 16 ≤ o.series) = decide (16 ≤ o.series) := decide_eq_decide.2 ⟨fun h => by omega, .inr⟩
    rw [e] at hb
    subst hb
    refine W.seq (W.region ?_)
    refine WL.bxF rfl rfl (by repeat' constructor) (fun b0 => ?_)
    refine WL.as rfl rfl (WL.nil (W.seq (W.seq (W.region (WL.faN (T := Ty) (off' := 0) rfl rfl rfl rfl rfl rfl rfl (WL.ldN (T := Ty) (j := 0) rfl rfl rfl rfl rfl rfl (WL.nil (W.block (W.seq (W.seq (W.region (WL.eql rfl rfl rfl (WL.as rfl rfl ?_)))))))))))))
    refine WL.nil (W.condpT rfl (by omega) (W.skip (W.condpT rfl (by omega) (W.seq (W.region (WL.faN (T := Ty) (off' := 1) rfl rfl rfl rfl rfl rfl rfl (WL.ldN (T := Ty) (j := 0) rfl rfl rfl rfl rfl rfl (WL.lss rfl rfl rfl (WL.mv rfl rfl (WL.gF rfl rfl (by omega) (WL.faN (T := Ty) (off' := 1) rfl rfl rfl rfl rfl rfl rfl (WL.gF rfl rfl (by omega) (WL.ldN (T := Ty) (j := 0) rfl rfl rfl rfl rfl rfl ?_)))))))))))))
    refine WL.gF rfl rfl (by omega) (WL.geq rfl rfl rfl (WL.pickFp rfl rfl (by omega) rfl (WL.as rfl rfl (WL.nil ?_))))
    exact W.fit (Hs' := []) (by (repeat' first | exact Sel.nil | refine Sel.cons 0 rfl ?_ | refine Sel.cons 1 rfl ?_ | refine Sel.cons 2 rfl ?_ | refine Sel.cons 3 rfl ?_ | refine Sel.cons 4 rfl ?_ | refine Sel.cons 5 rfl ?_ | refine Sel.cons 6 rfl ?_ | refine Sel.cons 7 rfl ?_ | refine Sel.cons 8 rfl ?_)) (W.ret1 rfl rfl (fun h q => ⟨rfl, q⟩))
  ·by_cases hs : o.series < 0
   ·rw [decide_eq_true (by omega)] at hb
    subst hb
    refine W.seq (W.region ?_)
    refine WL.bxF rfl rfl (by repeat' constructor) (fun b0 => ?_)
    refine WL.as rfl rfl (WL.nil (W.seq (W.seq (W.region (WL.faN (T := Ty) (off' := 0) rfl rfl rfl rfl rfl rfl rfl (WL.ldN (T := Ty) (j := 0) rfl rfl rfl rfl rfl rfl (WL.nil (W.block (W.seq (W.seq (W.region (WL.eql rfl rfl rfl (WL.as rfl rfl ?_)))))))))))))
    refine WL.nil (W.condpF rfl (by omega) (W.seq (W.region (WL.eql rfl rfl rfl (WL.as rfl rfl (WL.nil (W.condpT rfl (by omega) (W.skip (W.condpT rfl (by omega) (W.seq (W.region (WL.faN (T := Ty) (off' := 1) rfl rfl rfl rfl rfl rfl rfl (WL.ldN (T := Ty) (j := 0) rfl rfl rfl rfl rfl rfl ?_)))))))))))))
    refine WL.lss rfl rfl rfl (WL.mv rfl rfl (WL.gdFn rfl rfl rfl rfl rfl (by omega) (WL.gdFn rfl rfl rfl rfl rfl (by omega) (WL.gdFn rfl rfl rfl rfl rfl (by omega) (WL.pickTp rfl rfl (by omega) rfl (WL.as rfl rfl (WL.nil ?_)))))))
    exact W.fit (Hs' := []) (by (repeat' first | exact Sel.nil | refine Sel.cons 0 rfl ?_ | refine Sel.cons 1 rfl ?_ | refine Sel.cons 2 rfl ?_ | refine Sel.cons 3 rfl ?_ | refine Sel.cons 4 rfl ?_ | refine Sel.cons 5 rfl ?_ | refine Sel.cons 6 rfl ?_ | refine Sel.cons 7 rfl ?_ | refine Sel.cons 8 rfl ?_)) (W.ret1 rfl rfl (fun h q => ⟨rfl, q⟩))
   ·have e : decide (o.series < 0 ∨ 16 ≤ o.series) = decide (16 ≤ o.series) := decide_eq_decide.2 ⟨fun h => by omega, .inr⟩
    rw [e] at hb
    subst hb
    refine W.seq (W.region ?_)
    refine WL.bxF rfl rfl (by repeat' constructor) (fun b0 => ?_)
    refine WL.as rfl rfl (WL.nil (W.seq (W.seq (W.region (WL.faN (T := Ty) (off' := 0) rfl rfl rfl rfl rfl rfl rfl (WL.ldN (T := Ty) (j := 0) rfl rfl rfl rfl rfl rfl (WL.nil (W.block (W.seq (W.seq (W.region (WL.eql rfl rfl rfl (WL.as rfl rfl ?_)))))))))))))
    refine WL.nil (W.condpF rfl (by omega) (W.seq (W.region (WL.eql rfl rfl rfl (WL.as rfl rfl (WL.nil (W.condpT rfl (by omega) (W.skip (W.condpT rfl (by omega) (W.seq (W.region (WL.faN (T := Ty) (off' := 1) rfl rfl rfl rfl rfl rfl rfl (WL.ldN (T := Ty) (j := 0) rfl rfl rfl rfl rfl rfl ?_)))))))))))))
    refine WL.lss rfl rfl rfl (WL.mv rfl rfl (WL.gF rfl rfl (by omega) (WL.faN (T := Ty) (off' := 1) rfl rfl rfl rfl rfl rfl rfl (WL.gF rfl rfl (by omega) (WL.ldN (T := Ty) (j := 0) rfl rfl rfl rfl rfl rfl (WL.gF rfl rfl (by omega) (WL.geq rfl rfl rfl (WL.pickFp rfl rfl (by omega) rfl (WL.as rfl rfl (WL.nil ?_))))))))))
    exact W.fit (Hs' := []) (by (repeat' first | exact Sel.nil | refine Sel.cons 0 rfl ?_ | refine Sel.cons 1 rfl ?_ | refine Sel.cons 2 rfl ?_ | refine Sel.cons 3 rfl ?_ | refine Sel.cons 4 rfl ?_ | refine Sel.cons 5 rfl ?_ | refine Sel.cons 6 rfl ?_ | refine Sel.cons 7 rfl ?_ | refine Sel.cons 8 rfl ?_)) (W.ret1 rfl rfl (fun h q => ⟨rfl, q⟩))
  ·by_cases hs : o.series < 0
   ·rw [decide_eq_true (by omega)] at hb
    subst hb
    refine W.seq (W.region ?_)
    refine WL.bxF rfl rfl (by repeat' constructor) (fun b0 => ?_)
    refine WL.as rfl rfl (WL.nil (W.seq (W.seq (W.region (WL.faN (T := Ty) (off' := 0) rfl rfl rfl rfl rfl rfl rfl (WL.ldN (T := Ty) (j := 0) rfl rfl rfl rfl rfl rfl (WL.nil (W.block (W.seq (W.seq (W.region (WL.eql rfl rfl rfl (WL.as rfl rfl ?_)))))))))))))
    refine WL.nil (W.condpF rfl (by omega) (W.seq (W.region (WL.eql rfl rfl rfl (WL.as rfl rfl (WL.nil (W.condpF rfl (by omega) (W.seq (W.region (WL.eql rfl rfl rfl (WL.as rfl rfl (WL.nil (W.condpT rfl (by omega) ?_)))))))))))))
    refine W.skip (W.condpT rfl (by omega) (W.seq (W.region (WL.faN (T := Ty) (off' := 1) rfl rfl rfl rfl rfl rfl rfl (WL.ldN (T := Ty) (j := 0) rfl rfl rfl rfl rfl rfl (WL.lss rfl rfl rfl (WL.mv rfl rfl (WL.gdFn rfl rfl rfl rfl rfl (by omega) (WL.gdFn rfl rfl rfl rfl rfl (by omega) (WL.gdFn rfl rfl rfl rfl rfl (by omega) (WL.pickTp rfl rfl (by omega) rfl (WL.as rfl rfl (WL.nil ?_)))))))))))))
    exact W.fit (Hs' := []) (by (repeat' first | exact Sel.nil | refine Sel.cons 0 rfl ?_ | refine Sel.cons 1 rfl ?_ | refine Sel.cons 2 rfl ?_ | refine Sel.cons 3 rfl ?_ | refine Sel.cons 4 rfl ?_ | refine Sel.cons 5 rfl ?_ | refine Sel.cons 6 rfl ?_ | refine Sel.cons 7 rfl ?_ | refine Sel.cons 8 rfl ?_)) (W.ret1 rfl rfl (fun h q => ⟨rfl, q⟩))
   ·have e : decide (o.series < 0 ∨ 16 ≤ o.series) = decide (16 ≤ o.series) := decide_eq_decide.2 ⟨fun h => by omega, .inr⟩
    rw [e] at hb
    subst hb
    refine W.seq (W.region ?_)
    refine WL.bxF rfl rfl (by repeat' constructor) (fun b0 => ?_)
    refine WL.as rfl rfl (WL.nil (W.seq (W.seq (W.region (WL.faN (T := Ty) (off' := 0) rfl rfl rfl rfl rfl rfl rfl (WL.ldN (T := Ty) (j := 0) rfl rfl rfl rfl rfl rfl (WL.nil (W.block (W.seq (W.seq (W.region (WL.eql rfl rfl rfl (WL.as rfl rfl ?_)))))))))))))
    refine WL.nil (W.condpF rfl (by omega) (W.seq (W.region (WL.eql rfl rfl rfl (WL.as rfl rfl (WL.nil (W.condpF rfl (by omega) (W.seq (W.region (WL.eql rfl rfl rfl (WL.as rfl rfl (WL.nil (W.condpT rfl (by omega) ?_)))))))))))))
    refine W.skip (W.condpT rfl (by omega) (W.seq (W.region (WL.faN (T := Ty) (off' := 1) rfl rfl rfl rfl rfl rfl rfl (WL.ldN (T := Ty) (j := 0) rfl rfl rfl rfl rfl rfl (WL.lss rfl rfl rfl (WL.mv rfl rfl (WL.gF rfl rfl (by omega) (WL.faN (T := Ty) (off' := 1) rfl rfl rfl rfl rfl rfl rfl (WL.gF rfl rfl (by omega) (WL.ldN (T := Ty) (j := 0) rfl rfl rfl rfl rfl rfl (WL.gF rfl rfl (by omega) (WL.geq rfl rfl rfl ?_)))))))))))))
    refine WL.pickFp rfl rfl (by omega) rfl (WL.as rfl rfl (WL.nil ?_))
    exact W.fit (Hs' := []) (by (repeat' first | exact Sel.nil | refine Sel.cons 0 rfl ?_ | refine Sel.cons 1 rfl ?_ | refine Sel.cons 2 rfl ?_ | refine Sel.cons 3 rfl ?_ | refine Sel.cons 4 rfl ?_ | refine Sel.cons 5 rfl ?_ | refine Sel.cons 6 rfl ?_ | refine Sel.cons 7 rfl ?_ | refine Sel.cons 8 rfl ?_)) (W.ret1 rfl rfl (fun h q => ⟨rfl, q⟩))
  ·by_cases hs : o.series < 0
   ·rw [decide_eq_true (by omega)] at hb
    subst hb
    refine W.seq (W.region ?_)
    refine WL.bxF rfl rfl (by repeat' constructor) (fun b0 => ?_)
    refine WL.as rfl rfl (WL.nil (W.seq (W.seq (W.region (WL.faN (T := Ty) (off' := 0) rfl rfl rfl rfl rfl rfl rfl (WL.ldN (T := Ty) (j := 0) rfl rfl rfl rfl rfl rfl (WL.nil (W.block (W.seq (W.seq (W.region (WL.eql rfl rfl rfl (WL.as rfl rfl ?_)))))))))))))
    refine WL.nil (W.condpF rfl (by omega) (W.seq (W.region (WL.eql rfl rfl rfl (WL.as rfl rfl (WL.nil (W.condpF rfl (by omega) (W.seq (W.region (WL.eql rfl rfl rfl (WL.as rfl rfl (WL.nil (W.condpF rfl (by omega) ?_)))))))))))))
    refine W.seq (W.region (WL.eql rfl rfl rfl (WL.as rfl rfl (WL.nil (W.condpT rfl (by omega) (W.skip (W.condpT rfl (by omega) (W.seq (W.region (WL.faN (T := Ty) (off' := 1) rfl rfl rfl rfl rfl rfl rfl (WL.ldN (T := Ty) (j := 0) rfl rfl rfl rfl rfl rfl (WL.lss rfl rfl rfl (WL.mv rfl rfl ?_)))))))))))))
    refine WL.gdFn rfl rfl rfl rfl rfl (by omega) (WL.gdFn rfl rfl rfl rfl rfl (by omega) (WL.gdFn rfl rfl rfl rfl rfl (by omega) (WL.pickTp rfl rfl (by omega) rfl (WL.as rfl rfl (WL.nil ?_)))))
    exact W.fit (Hs' := []) (by (repeat' first | exact Sel.nil | refine Sel.cons 0 rfl ?_ | refine Sel.cons 1 rfl ?_ | refine Sel.cons 2 rfl ?_ | refine Sel.cons 3 rfl ?_ | refine Sel.cons 4 rfl ?_ | refine Sel.cons 5 rfl ?_ | refine Sel.cons 6 rfl ?_ | refine Sel.cons 7 rfl ?_ | refine Sel.cons 8 rfl ?_)) (W.ret1 rfl rfl (fun h q => ⟨rfl, q⟩))
   ·have e : decide (o.series < 0 ∨ 16 ≤ o.series) = decide (16 ≤ o.series) := decide_eq_decide.2 ⟨fun h => by omega, .inr⟩
    rw [e] at hb
    subst hb
    refine W.seq (W.region ?_)
    refine WL.bxF rfl rfl (by repeat' constructor) (fun b0 => ?_)
    refine WL.as rfl rfl (WL.nil (W.seq (W.seq (W.region (WL.faN (T := Ty) (off' := 0) rfl rfl rfl rfl rfl rfl rfl (WL.ldN (T := Ty) (j := 0) rfl rfl rfl rfl rfl rfl (WL.nil (W.block (W.seq (W.seq (W.region (WL.eql rfl rfl rfl (WL.as rfl rfl ?_)))))))))))))
    refine WL.nil (W.condpF rfl (by omega) (W.seq (W.region (WL.eql rfl rfl rfl (WL.as rfl rfl (WL.nil (W.condpF rfl (by omega) (W.seq (W.region (WL.eql rfl rfl rfl (WL.as rfl rfl (WL.nil (W.condpF rfl (by omega) ?_)))))))))))))
    refine W.seq (W.region (WL.eql rfl rfl rfl (WL.as rfl rfl (WL.nil (W.condpT rfl (by omega) (W.skip (W.condpT rfl (by omega) (W.seq (W.region (WL.faN (T := Ty) (off' := 1) rfl rfl rfl rfl rfl rfl rfl (WL.ldN (T := Ty) (j := 0) rfl rfl rfl rfl rfl rfl (WL.lss rfl rfl rfl (WL.mv rfl rfl ?_)))))))))))))
    refine WL.gF rfl rfl (by omega) (WL.faN (T := Ty) (off' := 1) rfl rfl rfl rfl rfl rfl rfl (WL.gF rfl rfl (by omega) (WL.ldN (T := Ty) (j := 0) rfl rfl rfl rfl rfl rfl (WL.gF rfl rfl (by omega) (WL.geq rfl rfl rfl (WL.pickFp rfl rfl (by omega) rfl (WL.as rfl rfl (WL.nil ?_))))))))
    exact W.fit (Hs' := []) (by (repeat' first | exact Sel.nil | refine Sel.cons 0 rfl ?_ | refine Sel.cons 1 rfl ?_ | refine Sel.cons 2 rfl ?_ | refine Sel.cons 3 rfl ?_ | refine Sel.cons 4 rfl ?_ | refine Sel.cons 5 rfl ?_ | refine Sel.cons 6 rfl ?_ | refine Sel.cons 7 rfl ?_ | refine Sel.cons 8 rfl ?_)) (W.ret1 rfl rfl (fun h q => ⟨rfl, q⟩))
  ·by_cases hs : o.series < 0
   ·rw [decide_eq_true (by omega)] at hb
    subst hb
    refine W.seq (W.region ?_)
    refine WL.bxF rfl rfl (by repeat' constructor) (fun b0 => ?_)
    refine WL.as rfl rfl (WL.nil (W.seq (W.seq (W.region (WL.faN (T := Ty) (off' := 0) rfl rfl rfl rfl rfl rfl rfl (WL.ldN (T := Ty) (j := 0) rfl rfl rfl rfl rfl rfl (WL.nil (W.block (W.seq (W.seq (W.region (WL.eql rfl rfl rfl (WL.as rfl rfl ?_)))))))))))))
    refine WL.nil (W.condpF rfl (by omega) (W.seq (W.region (WL.eql rfl rfl rfl (WL.as rfl rfl (WL.nil (W.condpF rfl (by omega) (W.seq (W.region (WL.eql rfl rfl rfl (WL.as rfl rfl (WL.nil (W.condpF rfl (by omega) ?_)))))))))))))
    refine W.seq (W.region (WL.eql rfl rfl rfl (WL.as rfl rfl (WL.nil (W.condpF rfl (by omega) (W.region (WL.eql rfl rfl rfl (WL.as rfl rfl (WL.nil (W.condpT rfl (by omega) (W.seq (W.region (WL.faN (T := Ty) (off' := 1) rfl rfl rfl rfl rfl rfl rfl ?_)))))))))))))
    refine WL.ldN (T := Ty) (j := 0) rfl rfl rfl rfl rfl rfl (WL.lss rfl rfl rfl (WL.mv rfl rfl (WL.gdFn rfl rfl rfl rfl rfl (by omega) (WL.gdFn rfl rfl rfl rfl rfl (by omega) (WL.gdFn rfl rfl rfl rfl rfl (by omega) (WL.pickTp rfl rfl (by omega) rfl (WL.as rfl rfl (WL.nil ?_))))))))
    exact W.fit (Hs' := []) (by (repeat' first | exact Sel.nil | refine Sel.cons 0 rfl ?_ | refine Sel.cons 1 rfl ?_ | refine Sel.cons 2 rfl ?_ | refine Sel.cons 3 rfl ?_ | refine Sel.cons 4 rfl ?_ | refine Sel.cons 5 rfl ?_ | refine Sel.cons 6 rfl ?_ | refine Sel.cons 7 rfl ?_ | refine Sel.cons 8 rfl ?_)) (W.ret1 rfl rfl (fun h q => ⟨rfl, q⟩))
   ·have e : decide (o.series < 0 ∨ 16 ≤ o.series) = decide (16 ≤ o.series) := decide_eq_decide.2 ⟨fun h => by omega, .inr⟩
    rw [e] at hb
    subst hb
    refine W.seq (W.region ?_)
    refine WL.bxF rfl rfl (by repeat' constructor) (fun b0 => ?_)
    refine WL.as rfl rfl (WL.nil (W.seq (W.seq (W.region (WL.faN (T := Ty) (off' := 0) rfl rfl rfl rfl rfl rfl rfl (WL.ldN (T := Ty) (j := 0) rfl rfl rfl rfl rfl rfl (WL.nil (W.block (W.seq (W.seq (W.region (WL.eql rfl rfl rfl (WL.as rfl rfl ?_)))))))))))))
    refine WL.nil (W.condpF rfl (by omega) (W.seq (W.region (WL.eql rfl rfl rfl (WL.as rfl rfl (WL.nil (W.condpF rfl (by omega) (W.seq (W.region (WL.eql rfl rfl rfl (WL.as rfl rfl (WL.nil (W.condpF rfl (by omega) ?_)))))))))))))
    refine W.seq (W.region (WL.eql rfl rfl rfl (WL.as rfl rfl (WL.nil (W.condpF rfl (by omega) (W.region (WL.eql rfl rfl rfl (WL.as rfl rfl (WL.nil (W.condpT rfl (by omega) (W.seq (W.region (WL.faN (T := Ty) (off' := 1) rfl rfl rfl rfl rfl rfl rfl ?_)))))))))))))
    refine WL.ldN (T := Ty) (j := 0) rfl rfl rfl rfl rfl rfl (WL.lss rfl rfl rfl (WL.mv rfl rfl (WL.gF rfl rfl (by omega) (WL.faN (T := Ty) (off' := 1) rfl rfl rfl rfl rfl rfl rfl (WL.gF rfl rfl (by omega) (WL.ldN (T := Ty) (j := 0) rfl rfl rfl rfl rfl rfl (WL.gF rfl rfl (by omega) (WL.geq rfl rfl rfl (WL.pickFp rfl rfl (by omega) rfl (WL.as rfl rfl (WL.nil ?_)))))))))))
    exact W.fit (Hs' := []) (by (repeat' first | exact Sel.nil | refine Sel.cons 0 rfl ?_ | refine Sel.cons 1 rfl ?_ | refine Sel.cons 2 rfl ?_ | refine Sel.cons 3 rfl ?_ | refine Sel.cons 4 rfl ?_ | refine Sel.cons 5 rfl ?_ | refine Sel.cons 6 rfl ?_ | refine Sel.cons 7 rfl ?_ | refine Sel.cons 8 rfl ?_)) (W.ret1 rfl rfl (fun h q => ⟨rfl, q⟩))
 ·rw [if_neg hk] at hb
  by_cases h6 : o.kind = 6
  ·rw [decide_eq_false (by omega)] at hb
   subst hb
   refine W.seq (W.region ?_)
   refine WL.bxF rfl rfl (by repeat' constructor) (fun b0 => ?_)
   refine WL.as rfl rfl (WL.nil (W.seq (W.seq (W.region (WL.faN (T := Ty) (off' := 0) rfl rfl rfl rfl rfl rfl rfl (WL.ldN (T := Ty) (j := 0) rfl rfl rfl rfl rfl rfl (WL.nil (W.block (W.seq (W.seq (W.region (WL.eql rfl rfl rfl (WL.as rfl rfl ?_)))))))))))))
   refine WL.nil (W.condpF rfl (by omega) (W.seq (W.region (WL.eql rfl rfl rfl (WL.as rfl rfl (WL.nil (W.condpF rfl (by omega) (W.seq (W.region (WL.eql rfl rfl rfl (WL.as rfl rfl (WL.nil (W.condpF rfl (by omega) ?_)))))))))))))
   refine W.seq (W.region (WL.eql rfl rfl rfl (WL.as rfl rfl (WL.nil (W.condpF rfl (by omega) (W.region (WL.eql rfl rfl rfl (WL.as rfl rfl (WL.nil (W.condpF rfl (by omega) (W.skip (W.inBlock (W.seq ?_)))))))))))))
   refine W.region (WL.faN (T := Ty) (off' := 0) rfl rfl rfl rfl rfl rfl rfl (WL.ldN (T := Ty) (j := 0) rfl rfl rfl rfl rfl rfl (WL.neq rfl rfl rfl (WL.mv rfl rfl (WL.gdTn rfl rfl rfl rfl rfl (by omega) (WL.gdTn rfl rfl rfl rfl rfl (by omega) (WL.gdTn rfl rfl rfl rfl rfl (by omega) (WL.pickFp rfl rfl (by omega) rfl (WL.as rfl rfl (WL.nil ?_))))))))))
   exact W.fit (Hs' := []) (by (repeat' first | exact Sel.nil | refine Sel.cons 0 rfl ?_ | refine Sel.cons 1 rfl ?_ | refine Sel.cons 2 rfl ?_ | refine Sel.cons 3 rfl ?_ | refine Sel.cons 4 rfl ?_ | refine Sel.cons 5 rfl ?_ | refine Sel.cons 6 rfl ?_ | refine Sel.cons 7 rfl ?_ | refine Sel.cons 8 rfl ?_)) (W.ret1 rfl rfl (fun h q => ⟨rfl, q⟩))
  ·have e : decide (o.kind ≠ 6 ∧ o.kind ≠ 7) = decide (¬ o.kind = 7) := decide_eq_decide.2 ⟨fun h => h.2, fun h => ⟨h6, h⟩⟩
   rw [e] at hb
   subst hb
   refine W.seq (W.region ?_)
   refine WL.bxF rfl rfl (by repeat' constructor) (fun b0 => ?_)
   refine WL.as rfl rfl (WL.nil (W.seq (W.seq (W.region (WL.faN (T := Ty) (off' := 0) rfl rfl rfl rfl rfl rfl rfl (WL.ldN (T := Ty) (j := 0) rfl rfl rfl rfl rfl rfl (WL.nil (W.block (W.seq (W.seq (W.region (WL.eql rfl rfl rfl (WL.as rfl rfl ?_)))))))))))))
   refine WL.nil (W.condpF rfl (by omega) (W.seq (W.region (WL.eql rfl rfl rfl (WL.as rfl rfl (WL.nil (W.condpF rfl (by omega) (W.seq (W.region (WL.eql rfl rfl rfl (WL.as rfl rfl (WL.nil (W.condpF rfl (by omega) ?_)))))))))))))
   refine W.seq (W.region (WL.eql rfl rfl rfl (WL.as rfl rfl (WL.nil (W.condpF rfl (by omega) (W.region (WL.eql rfl rfl rfl (WL.as rfl rfl (WL.nil (W.condpF rfl (by omega) (W.skip (W.inBlock (W.seq ?_)))))))))))))
   refine W.region (WL.faN (T := Ty) (off' := 0) rfl rfl rfl rfl rfl rfl rfl (WL.ldN (T := Ty) (j := 0) rfl rfl rfl rfl rfl rfl (WL.neq rfl rfl rfl (WL.mv rfl rfl (WL.gT rfl rfl (by omega) (WL.faN (T := Ty) (off' := 0) rfl rfl rfl rfl rfl rfl rfl (WL.gT rfl rfl (by omega) (WL.ldN (T := Ty) (j := 0) rfl rfl rfl rfl rfl rfl (WL.gT rfl rfl (by omega) (WL.neq rfl rfl rfl (WL.pickTp rfl rfl (by omega) rfl (WL.as rfl rfl (WL.nil ?_)))))))))))))
   exact W.fit (Hs' := []) (by (repeat' first | exact Sel.nil | refine Sel.cons 0 rfl ?_ | refine Sel.cons 1 rfl ?_ | refine Sel.cons 2 rfl ?_ | refine Sel.cons 3 rfl ?_ | refine Sel.cons 4 rfl ?_ | refine Sel.cons 5 rfl ?_ | refine Sel.cons 6 rfl ?_ | refine Sel.cons 7 rfl ?_ | refine Sel.cons 8 rfl ?_)) (W.ret1 rfl rfl (fun h q => ⟨rfl, q⟩))
theorem find1_c (ρ : Hp) (p : Ser × Value) (b : Nat) (id : Int) (hb : RB ρ b [.int .i64 id] 3) :
  Fn Try.prog 112 #[.agg (serC p).toArray, pt b 0] ρ [] (Just (.bool (decide (id ≤ p.1.id)))) := by
 refine in112 rfl rfl ?_
 unfold serC
 refine W.seq (W.region ?_)
 refine WL.bxF rfl rfl (by repeat' constructor) (fun b0 => ?_)
 refine WL.as rfl rfl (WL.nil (W.seq (W.region (WL.faN (T := Ty) (off' := 0) rfl rfl rfl rfl rfl rfl rfl (WL.ldN (T := Ty) (j := 0) rfl rfl rfl rfl rfl rfl ?_)))))
 refine WL.ldBN (T := Ty) rfl rfl rfl rfl (by first | assumption | exact RB.wide (by assumption) | exact In.rb (by assumption)) rfl ?_
 refine WL.geq rfl rfl rfl (WL.as rfl rfl (WL.nil ?_))
 exact W.fit (Hs' := []) (by (repeat' first | exact Sel.nil | refine Sel.cons 0 rfl ?_ | refine Sel.cons 1 rfl ?_ | refine Sel.cons 2 rfl ?_ | refine Sel.cons 3 rfl ?_ | refine Sel.cons 4 rfl ?_ | refine Sel.cons 5 rfl ?_ | refine Sel.cons 6 rfl ?_ | refine Sel.cons 7 rfl ?_ | refine Sel.cons 8 rfl ?_)) (W.ret1 rfl rfl (fun h q => ⟨rfl, q⟩))
theorem iters1_c (ρ : Hp) (p : Itr × Value) (b : Nat) (o : MOp) (hb : RB ρ b (opC o) 24) :
  Fn Try.prog 86 #[.agg (itrC p).toArray, pt b 0] ρ [] (Just (.bool (decide (p.1.id = o.iter)))) := by
 refine in86 rfl rfl ?_
 unfold itrC
 unfold opC at hb
 refine W.seq (W.region ?_)
 refine WL.bxF rfl rfl (by repeat' constructor) (fun b0 => ?_)
 refine WL.as rfl rfl (WL.nil (W.seq (W.region (WL.faN (T := Ty) (off' := 0) rfl rfl rfl rfl rfl rfl rfl (WL.ldN (T := Ty) (j := 0) rfl rfl rfl rfl rfl rfl (WL.faN (T := Ty) (off' := 2) rfl rfl rfl rfl rfl rfl rfl ?_))))))
 refine WL.ldBN (T := Ty) rfl rfl rfl rfl (by first | assumption | exact RB.wide (by assumption) | exact In.rb (by assumption)) rfl ?_
 refine WL.eql rfl rfl rfl (WL.as rfl rfl (WL.nil ?_))
 exact W.fit (Hs' := []) (by (repeat' first | exact Sel.nil | refine Sel.cons 0 rfl ?_ | refine Sel.cons 1 rfl ?_ | refine Sel.cons 2 rfl ?_ | refine Sel.cons 3 rfl ?_ | refine Sel.cons 4 rfl ?_ | refine Sel.cons 5 rfl ?_ | refine Sel.cons 6 rfl ?_ | refine Sel.cons 7 rfl ?_ | refine Sel.cons 8 rfl ?_)) (W.ret1 rfl rfl (fun h q => ⟨rfl, q⟩))
theorem serIx_map (L : List (Ser × Value)) (id : Int) : serIx (L.map Prod.fst) id = L.findIdx fun p => decide (id ≤ p.1.id) := by
 unfold serIx
 rw [List.findIdx_map]; rfl
theorem itrIx_map (L : List (Itr × Value)) (id : Int) : itrIx (L.map Prod.fst) id = L.findIdx fun p => decide (p.1.id = id) := by
 unfold itrIx
 rw [List.findIdx_map]; rfl
theorem find_c (ρ : Hp) (v : Value) (L : List (Ser × Value)) (id : Int) (hv : ROs ρ 5 v (L.flatMap serC)) (hl : L.length ≤ 140737488355) :
  Fn Try.prog 88 #[v, .int .i64 id] ρ [] (Just (.tuple #[.int .i64 (serIx (L.map Prod.fst) id : Nat), .bool (serHas (L.map Prod.fst) id).isSome])) := by
 refine in88 rfl rfl ?_
 have sv : SL v L.length := hv.sl (ser_cells L) (by omega)
 refine W.seq (W.region ?_)
 refine WL.bxF rfl rfl (by repeat' constructor) (fun b0 => ?_)
 refine WL.as rfl rfl (WL.as rfl rfl (WL.nil (W.seq (W.region (WL.mv rfl rfl (WL.mkF rfl rfl ?_))))))
 skip
 refine WL.callV rfl rfl (fun x p d => idxS_c _ v serC ser_len L (fun y => decide (id ≤ y.1.id)) _ [pt b0 0] hv.wide (fun y hy => find1_c _ y b0 id (in_at 0 rfl p d).rb) hl) ?_
 by_cases hc : serIx (L.map Prod.fst) id < L.length
 ·have hi : idxF (fun y : Ser × Value => decide (id ≤ y.1.id)) L = (serIx (L.map Prod.fst) id : Nat) := by
   unfold idxF
   rw [← serIx_map, if_pos hc]
  rw [hi]
  generalize hk : serIx (L.map Prod.fst) id = k at hc ⊢
  obtain ⟨p, hp⟩ : ∃ p, L[k]? = some p := ⟨_, List.getElem?_eq_getElem hc⟩
  have hg : (L.flatMap serC)[((k : Nat) : Int).toNat * 5 + 0]? = some (.int .i64 p.1.id) := flat_get ser_len hp rfl
  have he : (serHas (L.map Prod.fst) id).isSome = decide (p.1.id = id) := by
   unfold serHas
   rw [hk, map_fst_get rfl hp]
   by_cases h : p.1.id = id <;> simp [h]
  rw [he]
  refine WL.as rfl rfl (WL.nil (W.seq (W.seq (W.region (WL.mv rfl rfl (WL.lss rfl rfl rfl (WL.nil (W.condF rfl (W.skip (W.seq ?_))))))))))
  refine W.drawA 9 rfl (fun σ0 hσ0 dσ0 => ?_)
  have fσ0_0 := rb_at 0 rfl hσ0 dσ0
  refine WD.takeL 0 rfl (by decide +kernel) (WL.mv rfl rfl (WL.nilT (WD.takeL 1 rfl (by decide +kernel) (WL.mv rfl rfl (WL.nilT (WD.takeL 2 rfl (by decide +kernel) (WL.mv rfl rfl (WL.nilT (WD.takeL 3 rfl (by decide +kernel) ?_)))))))))
  refine WL.ix (T := Ty) rfl rfl rfl (by assumption) rfl rfl (by omega) (by first | omega | decide +kernel) ?_
  refine WL.nilT (WD.takeL 4 rfl (by decide +kernel) (WL.faEN (T := Ty) (off' := 0) rfl rfl rfl rfl rfl rfl rfl (WL.nilT (WD.takeL 5 rfl (by decide +kernel) ?_))))
  refine WL.ldR (T := Ty) rfl rfl rfl rfl (by first | assumption | exact ROs.wide (by assumption)) (by assumption) ?_
  refine WL.nilT (WD.takeL 6 rfl (by decide +kernel) ?_)
  refine WL.ldBN (T := Ty) rfl rfl rfl rfl (by first | assumption | exact RB.wide (by assumption) | exact In.rb (by assumption)) rfl ?_
  refine WL.nilT (WD.takeL 7 rfl (by decide +kernel) (WL.eql rfl rfl rfl (WL.nilT (WD.takeL 8 rfl (by decide +kernel) (WL.as rfl rfl (WL.nilT ?_))))))
  refine WD.lastG hσ0 (by decide +kernel) (by repeat' constructor) rfl (by repeat' constructor) ?_
  refine WL.as rfl rfl (WL.nil ?_)
  exact W.fit (Hs' := []) (by (repeat' first | exact Sel.nil | refine Sel.cons 0 rfl ?_ | refine Sel.cons 1 rfl ?_ | refine Sel.cons 2 rfl ?_ | refine Sel.cons 3 rfl ?_ | refine Sel.cons 4 rfl ?_ | refine Sel.cons 5 rfl ?_ | refine Sel.cons 6 rfl ?_ | refine Sel.cons 7 rfl ?_ | refine Sel.cons 8 rfl ?_)) (W.ret2 rfl rfl rfl (fun h q => ⟨rfl, q⟩))
 ·have hi : idxF (fun y : Ser × Value => decide (id ≤ y.1.id)) L = -1 := by
   unfold idxF
   rw [← serIx_map, if_neg hc]
  have hz := serIx_le (L.map Prod.fst) id
  rw [List.length_map] at hz
  have he : serHas (L.map Prod.fst) id = none := by
   unfold serHas
   rw [List.getElem?_eq_none (by rw [List.length_map]; omega)]
  rw [hi, he, show serIx (L.map Prod.fst) id = L.length by omega]
  refine WL.as rfl rfl (WL.nil (W.seq (W.seq (W.region (WL.mv rfl rfl (WL.lss rfl rfl rfl (WL.nil (W.condT rfl (W.seq (W.region (WL.mv rfl rfl ?_)))))))))))
  refine WL.len (T := Ty) rfl rfl (by assumption) rfl ?_
  refine WL.as rfl rfl (WL.as rfl rfl (WL.nil ?_))
  exact W.fit (Hs' := []) (by (repeat' first | exact Sel.nil | refine Sel.cons 0 rfl ?_ | refine Sel.cons 1 rfl ?_ | refine Sel.cons 2 rfl ?_ | refine Sel.cons 3 rfl ?_ | refine Sel.cons 4 rfl ?_ | refine Sel.cons 5 rfl ?_ | refine Sel.cons 6 rfl ?_ | refine Sel.cons 7 rfl ?_ | refine Sel.cons 8 rfl ?_)) (W.ret2 rfl rfl rfl (fun h q => ⟨rfl, q⟩))
end Go.Proofs.Ytbebhmdjnneimaa
