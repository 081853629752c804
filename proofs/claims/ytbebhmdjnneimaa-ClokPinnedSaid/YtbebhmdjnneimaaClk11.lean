/- A new clock; whether two clocks are the same. -/
import Derived.Test.YtbebhmdjnneimaaStc
import Derived.Test.YtbebhmdjnneimaaNum
import Derived.Test.YtbebhmdjnneimaaTab
import Derived.Test.YtbebhmdjnneimaaClk10
import Derived.Test.YtbebhmdjnneimaaMEq
set_option linter.unusedSimpArgs false
set_option linter.unusedVariables false
set_option maxRecDepth 20000
set_option maxHeartbeats 4000000
namespace Go.Proofs.Ytbebhmdjnneimaa
open Go
def samePs (a b : List Pg) : Bool := decide (a = b)
def newP (m : Int) : Clk := ⟨min (max m 1) 1000, 1, [], 0, 0, 0⟩
theorem pg_dec (q q' : Pg) : ((decide (q.key.a = q'.key.a) && (decide (q.key.b = q'.key.b) && (decide (q.key.c = q'.key.c) && true))) && (decide (q.kind = q'.kind) && (q.ref == q'.ref && (q.trial == q'.trial && (decide (q.pins = q'.pins) && true))))) = decide (q = q') := by
 obtain ⟨⟨a, b, c⟩, k, r, t, n⟩ := q
 obtain ⟨⟨a', b', c'⟩, k', r', t', n'⟩ := q'
 rw [Bool.eq_iff_iff]
 simp [Pg.mk.injEq, Ky.mk.injEq, and_assoc]
/-- whether two clocks are the same -/
def sameC (a b : Clk) : Bool := decide (a.most = b.most) && (decide (a.target = b.target) && (decide ((a.hot : Int) = (b.hot : Int)) && (decide ((a.cold : Int) = (b.cold : Int)) && (decide ((a.test : Int) = (b.test : Int)) && samePs a.pages b.pages))))
attribute [local irreducible] W WL Fn Buf ROs SL eptr box Rd Src bndOK WD RB Reads In Own
theorem new15_c (ρ : Hp) (m : Int) : Fn Try.prog 35 #[.int .i64 m] ρ [] (Just (.agg #[.int .i64 (min (max m 1) 1000), .int .i64 1, nilV, .int .i64 0, .int .i64 0, .int .i64 0])) := by
 refine in35 rfl rfl ?_
 refine W.seq (W.region ?_)
 refine WL.alF (T := Ty) rfl rfl (by repeat' constructor) (fun b0 => ?_)
 refine WL.nil (W.seq (W.region (WL.mv rfl rfl (WL.mx rfl rfl rfl (WL.mn rfl rfl rfl ?_)))))
 refine WL.bdC (T := Ty) rfl rfl rfl rfl (by repeat' first | exact CO.nil | apply CO.one (by first | rfl | exact SL.one (by assumption)) | apply CO.agg) rfl (by repeat' constructor) ?_
 refine WL.stAO (T := Ty) (j := 0) rfl rfl rfl rfl (by repeat' first | exact AO.nil | apply AO.cons (by first | rfl | exact SL.one (by assumption))) rfl rfl (by repeat' constructor) (by repeat' constructor) ?_
 refine WL.nil ?_
 exact W.retC (T := Ty) (j := 0) rfl rfl rfl rfl rfl rfl (fun h q => ⟨rfl, q⟩)
theorem new15q_c (ρ : Hp) (m : Int) : Fn Try.prog 35 #[.int .i64 m] ρ [] (Just (.agg #[.int .i64 (newP m).most, .int .i64 (newP m).target, nilV, .int .i64 (((newP m).hot : Nat) : Int), .int .i64 (((newP m).cold : Nat) : Int), .int .i64 (((newP m).test : Nat) : Int)])) := new15_c ρ m
theorem eqPs_c (ρ : Hp) (v v' : Value) (l l' : List Pg) (hv : ROs ρ 7 v (l.flatMap pgC)) (hv' : ROs ρ 7 v' (l'.flatMap pgC)) (hb : l.length ≤ 1000000) :
  Fn Try.prog 81 #[v, v'] ρ [] (Just (.bool (samePs l l'))) := by
 refine in81 rfl rfl ?_
 have sv : SL v l.length := hv.sl (pgs_cells l) (by omega)
 have sv' : SL v' l'.length := hv'.sl (pgs_cells l') (by omega)
 by_cases hl : l.length = l'.length
 ·refine W.seq ?_
  refine W.region (WL.as rfl rfl (WL.nil (W.seq (W.seq (W.region (WL.mv rfl rfl ?_))))))
  refine WL.len (T := Ty) rfl rfl (by assumption) rfl ?_
  refine WL.mv rfl rfl ?_
  refine WL.len (T := Ty) rfl rfl (by assumption) rfl ?_
  refine WL.neq rfl rfl rfl (WL.nil (W.condpF rfl (by omega) (W.skip (W.seq (W.seq (W.region (WL.mv rfl rfl ?_)))))))
  refine WL.len (T := Ty) rfl rfl (by assumption) rfl ?_
  refine WL.mv rfl rfl (WL.nil (W.block ?_))
  refine W.loopS (σ := Nat) (fun i => [(0, v), (1, v'), (12, .int .i64 (l.length : Int)), (13, .int .i64 (i : Int))]) (fun _ => []) (fun i => i ≤ l.length ∧ l.take i = l'.take i) (fun i => l.length - i) 0 ⟨rfl, rfl, rfl, rfl, trivial⟩ rfl ⟨Nat.zero_le _, rfl⟩ ?_
  intro i ⟨hi, ht⟩ next
  by_cases hc : i < l.length
  ·obtain ⟨q, hq⟩ : ∃ q, l[i]? = some q := ⟨_, List.getElem?_eq_getElem hc⟩
   obtain ⟨q', hq'⟩ : ∃ q, l'[i]? = some q := ⟨_, List.getElem?_eq_getElem (by omega)⟩
   have hr : ((l.flatMap pgC).drop (((i : Nat) : Int).toNat * 7)).take 7 = pgC q := flat_row pg_len hq
   have hr' : ((l'.flatMap pgC).drop (((i : Nat) : Int).toNat * 7)).take 7 = pgC q' := flat_row pg_len hq'
   unfold pgC at hr hr'
   refine W.seq (W.region (WL.lss rfl rfl rfl (WL.nil (W.seq (W.condpT rfl (by omega) (W.skip (W.seq (W.block (W.seq (W.region (WL.mv rfl rfl (WL.as rfl rfl (WL.nil ?_)))))))))))))
   refine W.seq ?_
   refine W.drawA 9 rfl (fun σ0 hσ0 dσ0 => ?_)
   refine WD.takeL 0 rfl (by decide +kernel) (WL.mv rfl rfl (WL.nilT (WD.takeL 1 rfl (by decide +kernel) (WL.mv rfl rfl (WL.nilT (WD.takeL 2 rfl (by decide +kernel) ?_))))))
   refine WL.ix (T := Ty) rfl rfl rfl (by assumption) rfl rfl (by omega) (by first | omega | decide +kernel) ?_
   refine WL.nilT (WD.takeL 3 rfl (by decide +kernel) ?_)
   refine WL.ldAR (T := Ty) rfl rfl rfl rfl (by first | assumption | exact ROs.wide (by assumption)) (by assumption) rfl ?_
   refine WL.nilT (WD.takeL 4 rfl (by decide +kernel) (WL.mv rfl rfl (WL.nilT (WD.takeL 5 rfl (by decide +kernel) (WL.mv rfl rfl (WL.nilT (WD.takeL 6 rfl (by decide +kernel) ?_)))))))
   refine WL.ix (T := Ty) rfl rfl rfl (by assumption) rfl rfl (by omega) (by first | omega | decide +kernel) ?_
   refine WL.nilT (WD.takeL 7 rfl (by decide +kernel) ?_)
   refine WL.ldAR (T := Ty) rfl rfl rfl rfl (by first | assumption | exact ROs.wide (by assumption)) (by assumption) rfl ?_
   refine WL.nilT (WD.takeL 8 rfl (by decide +kernel) ?_)
   refine WL.neF (T := Ty) rfl rfl rfl rfl (by repeat' first | exact FE.nil | apply FE.int (by decide) rfl rfl rfl rfl | apply FE.bool (by decide) rfl rfl rfl rfl | apply FE.sub (by decide) rfl (by kernel_rfl) rfl rfl) (by kernel_rfl) (by kernel_rfl) ?_
   refine WL.nilT ?_
   refine WD.doneF hσ0 (by decide +kernel) (by repeat' constructor) ?_
   rw [pg_dec]
   by_cases hqq : q = q'
   ·rw [decide_eq_true hqq]
    refine W.condF rfl (W.skip (W.inBlock (W.region (WL.addK rfl rfl rfl (wrap_i64 ⟨by omega, by omega⟩) (WL.mv rfl rfl (WL.nil ?_))))))
    refine W.sub ?_ (next (i + 1) ⟨by omega, take_eq_succ ht hq (hqq ▸ hq')⟩ (by omega))
    exact ⟨rfl, rfl, rfl, rfl, trivial⟩
   ·rw [decide_eq_false hqq]
    refine W.condT rfl (W.seq (W.region (WL.as rfl rfl (WL.nil ?_))))
    exact W.ret1 rfl rfl (fun h p => ⟨by rw [samePs, decide_eq_false (ne_of_get hq hq' hqq)], p⟩)
  ·have hll : l = l' := by rw [List.take_of_length_le (by omega), List.take_of_length_le (by omega)] at ht; exact ht
   refine W.seq (W.region (WL.lss rfl rfl rfl (WL.nil (W.seq (W.condpF rfl (by omega) (W.exit rfl (W.seq (W.region (WL.as rfl rfl (WL.nil ?_))))))))))
   exact W.ret1 rfl rfl (fun h p => ⟨by rw [samePs, decide_eq_true hll], p⟩)
 ·refine W.seq ?_
  refine W.region (WL.as rfl rfl (WL.nil (W.seq (W.seq (W.region (WL.mv rfl rfl ?_))))))
  refine WL.len (T := Ty) rfl rfl (by assumption) rfl ?_
  refine WL.mv rfl rfl ?_
  refine WL.len (T := Ty) rfl rfl (by assumption) rfl ?_
  refine WL.neq rfl rfl rfl (WL.nil (W.condpT rfl (by omega) (W.seq (W.region (WL.as rfl rfl (WL.nil ?_))))))
  exact W.ret1 rfl rfl (fun h p => ⟨by rw [samePs, decide_eq_false (fun e => hl (by rw [e]))], p⟩)
theorem same15_c (ρ : Hp) (a b : Clk) (v v' : Value) (hl : a.pages.length ≤ 1000000) (r0 : ROs ρ 7 v (a.pages.flatMap pgC)) (r1 : ROs ρ 7 v' (b.pages.flatMap pgC)) :
  Fn Try.prog 44 #[.agg #[.int .i64 a.most, .int .i64 a.target, v, .int .i64 (a.hot : Int), .int .i64 (a.cold : Int), .int .i64 (a.test : Int)], .agg #[.int .i64 b.most, .int .i64 b.target, v', .int .i64 (b.hot : Int), .int .i64 (b.cold : Int), .int .i64 (b.test : Int)]] ρ [] (Just (.bool (sameC a b))) := by
 refine in44 rfl rfl ?_
 obtain ⟨z, hz⟩ : ∃ z, sameC a b = z := ⟨_, rfl⟩
 rw [hz]
 unfold sameC at hz
 by_cases e0 : a.most = b.most
 ·rw [decide_eq_true e0, Bool.true_and] at hz
  by_cases e1 : a.target = b.target
  ·rw [decide_eq_true e1, Bool.true_and] at hz
   by_cases e2 : (a.hot : Int) = (b.hot : Int)
   ·rw [decide_eq_true e2, Bool.true_and] at hz
    by_cases e3 : (a.cold : Int) = (b.cold : Int)
    ·rw [decide_eq_true e3, Bool.true_and] at hz
     by_cases e4 : (a.test : Int) = (b.test : Int)
     ·rw [decide_eq_true e4, Bool.true_and] at hz
      refine W.seq (W.region ?_)
      refine WL.bxF rfl rfl (by repeat' constructor) (fun b0 => ?_)
      refine WL.bxF rfl rfl (by repeat' constructor) (fun b1 => ?_)
      refine WL.as rfl rfl (WL.nil (W.seq (W.region (WL.faN (T := Ty) (off' := 0) rfl rfl rfl rfl rfl rfl rfl (WL.ldN (T := Ty) (j := 1) rfl rfl rfl rfl rfl rfl (WL.faN (T := Ty) (off' := 0) rfl rfl rfl rfl rfl rfl rfl (WL.ldN (T := Ty) (j := 0) rfl rfl rfl rfl rfl rfl (WL.eql rfl rfl rfl (WL.mv rfl rfl (WL.gT rfl rfl (by omega) (WL.faN (T := Ty) (off' := 1) rfl rfl rfl rfl rfl rfl rfl (WL.gT rfl rfl (by omega) (WL.ldN (T := Ty) (j := 1) rfl rfl rfl rfl rfl rfl ?_)))))))))))))
      refine WL.gT rfl rfl (by omega) (WL.faN (T := Ty) (off' := 1) rfl rfl rfl rfl rfl rfl rfl (WL.gT rfl rfl (by omega) (WL.ldN (T := Ty) (j := 0) rfl rfl rfl rfl rfl rfl (WL.gT rfl rfl (by omega) (WL.eql rfl rfl rfl (WL.pickTp rfl rfl (by omega) rfl (WL.mv rfl rfl (WL.gT rfl rfl (by omega) (WL.faN (T := Ty) (off' := 3) rfl rfl rfl rfl rfl rfl rfl (WL.gT rfl rfl (by omega) (WL.ldN (T := Ty) (j := 1) rfl rfl rfl rfl rfl rfl (WL.gT rfl rfl (by omega) (WL.faN (T := Ty) (off' := 3) rfl rfl rfl rfl rfl rfl rfl ?_)))))))))))))
      refine WL.gT rfl rfl (by omega) (WL.ldN (T := Ty) (j := 0) rfl rfl rfl rfl rfl rfl (WL.gT rfl rfl (by omega) (WL.eql rfl rfl rfl (WL.pickTp rfl rfl (by omega) rfl (WL.mv rfl rfl (WL.gT rfl rfl (by omega) (WL.faN (T := Ty) (off' := 4) rfl rfl rfl rfl rfl rfl rfl (WL.gT rfl rfl (by omega) (WL.ldN (T := Ty) (j := 1) rfl rfl rfl rfl rfl rfl (WL.gT rfl rfl (by omega) (WL.faN (T := Ty) (off' := 4) rfl rfl rfl rfl rfl rfl rfl (WL.gT rfl rfl (by omega) (WL.ldN (T := Ty) (j := 0) rfl rfl rfl rfl rfl rfl ?_)))))))))))))
      refine WL.gT rfl rfl (by omega) (WL.eql rfl rfl rfl (WL.pickTp rfl rfl (by omega) rfl (WL.mv rfl rfl (WL.gT rfl rfl (by omega) (WL.faN (T := Ty) (off' := 5) rfl rfl rfl rfl rfl rfl rfl (WL.gT rfl rfl (by omega) (WL.ldN (T := Ty) (j := 1) rfl rfl rfl rfl rfl rfl (WL.gT rfl rfl (by omega) (WL.faN (T := Ty) (off' := 5) rfl rfl rfl rfl rfl rfl rfl (WL.gT rfl rfl (by omega) (WL.ldN (T := Ty) (j := 0) rfl rfl rfl rfl rfl rfl (WL.gT rfl rfl (by omega) (WL.eql rfl rfl rfl ?_)))))))))))))
      refine WL.pickTp rfl rfl (by omega) rfl (WL.mv rfl rfl (WL.gT rfl rfl (by omega) (WL.faN (T := Ty) (off' := 2) rfl rfl rfl rfl rfl rfl rfl (WL.gT rfl rfl (by omega) (WL.ldN (T := Ty) (j := 1) rfl rfl rfl rfl rfl rfl (WL.gT rfl rfl (by omega) (WL.faN (T := Ty) (off' := 2) rfl rfl rfl rfl rfl rfl rfl (WL.gT rfl rfl (by omega) (WL.ldN (T := Ty) (j := 0) rfl rfl rfl rfl rfl rfl (WL.gT rfl rfl (by omega) ?_))))))))))
      refine WL.callV rfl rfl (fun x p d => eqPs_c _ _ _ _ _ (by first | assumption | exact ROs.wide (by assumption) | exact ROs.mono (by assumption) (eqh_at 0 rfl p d) | exact ros_at 0 rfl p d | exact ros_at 1 rfl p d | exact ros_at 2 rfl p d | exact ros_at 3 rfl p d | exact ros_at 4 rfl p d) (by first | assumption | exact ROs.wide (by assumption) | exact ROs.mono (by assumption) (eqh_at 0 rfl p d) | exact ros_at 0 rfl p d | exact ros_at 1 rfl p d | exact ros_at 2 rfl p d | exact ros_at 3 rfl p d | exact ros_at 4 rfl p d) (by first | assumption | omega)) ?_
      refine WL.pickTp rfl rfl (by omega) rfl (WL.as rfl rfl (WL.nil ?_))
      rw [hz]
      skip
      exact W.fit (Hs' := []) (by (repeat' first | exact Sel.nil | apply Sel.k | exact Pick.h | apply Pick.t)) (W.ret1 rfl rfl (fun h q => ⟨rfl, q⟩))
     ·rw [decide_eq_false e4, Bool.false_and] at hz
      subst hz
      refine W.seq (W.region ?_)
      refine WL.bxF rfl rfl (by repeat' constructor) (fun b0 => ?_)
      refine WL.bxF rfl rfl (by repeat' constructor) (fun b1 => ?_)
      refine WL.as rfl rfl (WL.nil (W.seq (W.region (WL.faN (T := Ty) (off' := 0) rfl rfl rfl rfl rfl rfl rfl (WL.ldN (T := Ty) (j := 1) rfl rfl rfl rfl rfl rfl (WL.faN (T := Ty) (off' := 0) rfl rfl rfl rfl rfl rfl rfl (WL.ldN (T := Ty) (j := 0) rfl rfl rfl rfl rfl rfl (WL.eql rfl rfl rfl (WL.mv rfl rfl (WL.gT rfl rfl (by omega) (WL.faN (T := Ty) (off' := 1) rfl rfl rfl rfl rfl rfl rfl (WL.gT rfl rfl (by omega) (WL.ldN (T := Ty) (j := 1) rfl rfl rfl rfl rfl rfl ?_)))))))))))))
      refine WL.gT rfl rfl (by omega) (WL.faN (T := Ty) (off' := 1) rfl rfl rfl rfl rfl rfl rfl (WL.gT rfl rfl (by omega) (WL.ldN (T := Ty) (j := 0) rfl rfl rfl rfl rfl rfl (WL.gT rfl rfl (by omega) (WL.eql rfl rfl rfl (WL.pickTp rfl rfl (by omega) rfl (WL.mv rfl rfl (WL.gT rfl rfl (by omega) (WL.faN (T := Ty) (off' := 3) rfl rfl rfl rfl rfl rfl rfl (WL.gT rfl rfl (by omega) (WL.ldN (T := Ty) (j := 1) rfl rfl rfl rfl rfl rfl (WL.gT rfl rfl (by omega) (WL.faN (T := Ty) (off' := 3) rfl rfl rfl rfl rfl rfl rfl ?_)))))))))))))
      refine WL.gT rfl rfl (by omega) (WL.ldN (T := Ty) (j := 0) rfl rfl rfl rfl rfl rfl (WL.gT rfl rfl (by omega) (WL.eql rfl rfl rfl (WL.pickTp rfl rfl (by omega) rfl (WL.mv rfl rfl (WL.gT rfl rfl (by omega) (WL.faN (T := Ty) (off' := 4) rfl rfl rfl rfl rfl rfl rfl (WL.gT rfl rfl (by omega) (WL.ldN (T := Ty) (j := 1) rfl rfl rfl rfl rfl rfl (WL.gT rfl rfl (by omega) (WL.faN (T := Ty) (off' := 4) rfl rfl rfl rfl rfl rfl rfl (WL.gT rfl rfl (by omega) (WL.ldN (T := Ty) (j := 0) rfl rfl rfl rfl rfl rfl ?_)))))))))))))
      refine WL.gT rfl rfl (by omega) (WL.eql rfl rfl rfl (WL.pickTp rfl rfl (by omega) rfl (WL.mv rfl rfl (WL.gT rfl rfl (by omega) (WL.faN (T := Ty) (off' := 5) rfl rfl rfl rfl rfl rfl rfl (WL.gT rfl rfl (by omega) (WL.ldN (T := Ty) (j := 1) rfl rfl rfl rfl rfl rfl (WL.gT rfl rfl (by omega) (WL.faN (T := Ty) (off' := 5) rfl rfl rfl rfl rfl rfl rfl (WL.gT rfl rfl (by omega) (WL.ldN (T := Ty) (j := 0) rfl rfl rfl rfl rfl rfl (WL.gT rfl rfl (by omega) (WL.eql rfl rfl rfl ?_)))))))))))))
      refine WL.pickTp rfl rfl (by omega) rfl (WL.mv rfl rfl (WL.gdTn rfl rfl rfl rfl rfl (by omega) (WL.gdTn rfl rfl rfl rfl rfl (by omega) (WL.gdTn rfl rfl rfl rfl rfl (by omega) (WL.gdTn rfl rfl rfl rfl rfl (by omega) (WL.gdTn rfl rfl rfl rfl rfl (by omega) (WL.pickFp rfl rfl (by omega) rfl (WL.as rfl rfl (WL.nil ?_)))))))))
      exact W.fit (Hs' := []) (by (repeat' first | exact Sel.nil | apply Sel.k | exact Pick.h | apply Pick.t)) (W.ret1 rfl rfl (fun h q => ⟨rfl, q⟩))
    ·rw [decide_eq_false e3, Bool.false_and] at hz
     subst hz
     refine W.seq (W.region ?_)
     refine WL.bxF rfl rfl (by repeat' constructor) (fun b0 => ?_)
     refine WL.bxF rfl rfl (by repeat' constructor) (fun b1 => ?_)
     refine WL.as rfl rfl (WL.nil (W.seq (W.region (WL.faN (T := Ty) (off' := 0) rfl rfl rfl rfl rfl rfl rfl (WL.ldN (T := Ty) (j := 1) rfl rfl rfl rfl rfl rfl (WL.faN (T := Ty) (off' := 0) rfl rfl rfl rfl rfl rfl rfl (WL.ldN (T := Ty) (j := 0) rfl rfl rfl rfl rfl rfl (WL.eql rfl rfl rfl (WL.mv rfl rfl (WL.gT rfl rfl (by omega) (WL.faN (T := Ty) (off' := 1) rfl rfl rfl rfl rfl rfl rfl (WL.gT rfl rfl (by omega) (WL.ldN (T := Ty) (j := 1) rfl rfl rfl rfl rfl rfl ?_)))))))))))))
     refine WL.gT rfl rfl (by omega) (WL.faN (T := Ty) (off' := 1) rfl rfl rfl rfl rfl rfl rfl (WL.gT rfl rfl (by omega) (WL.ldN (T := Ty) (j := 0) rfl rfl rfl rfl rfl rfl (WL.gT rfl rfl (by omega) (WL.eql rfl rfl rfl (WL.pickTp rfl rfl (by omega) rfl (WL.mv rfl rfl (WL.gT rfl rfl (by omega) (WL.faN (T := Ty) (off' := 3) rfl rfl rfl rfl rfl rfl rfl (WL.gT rfl rfl (by omega) (WL.ldN (T := Ty) (j := 1) rfl rfl rfl rfl rfl rfl (WL.gT rfl rfl (by omega) (WL.faN (T := Ty) (off' := 3) rfl rfl rfl rfl rfl rfl rfl ?_)))))))))))))
     refine WL.gT rfl rfl (by omega) (WL.ldN (T := Ty) (j := 0) rfl rfl rfl rfl rfl rfl (WL.gT rfl rfl (by omega) (WL.eql rfl rfl rfl (WL.pickTp rfl rfl (by omega) rfl (WL.mv rfl rfl (WL.gT rfl rfl (by omega) (WL.faN (T := Ty) (off' := 4) rfl rfl rfl rfl rfl rfl rfl (WL.gT rfl rfl (by omega) (WL.ldN (T := Ty) (j := 1) rfl rfl rfl rfl rfl rfl (WL.gT rfl rfl (by omega) (WL.faN (T := Ty) (off' := 4) rfl rfl rfl rfl rfl rfl rfl (WL.gT rfl rfl (by omega) (WL.ldN (T := Ty) (j := 0) rfl rfl rfl rfl rfl rfl ?_)))))))))))))
     refine WL.gT rfl rfl (by omega) (WL.eql rfl rfl rfl (WL.pickTp rfl rfl (by omega) rfl (WL.mv rfl rfl (WL.gdTn rfl rfl rfl rfl rfl (by omega) (WL.gdTn rfl rfl rfl rfl rfl (by omega) (WL.gdTn rfl rfl rfl rfl rfl (by omega) (WL.gdTn rfl rfl rfl rfl rfl (by omega) (WL.gdTn rfl rfl rfl rfl rfl (by omega) (WL.pickFp rfl rfl (by omega) rfl (WL.mv rfl rfl (WL.gdN rfl rfl rfl rfl rfl rfl (WL.gdN rfl rfl rfl rfl rfl rfl (WL.gdN rfl rfl rfl rfl rfl rfl ?_)))))))))))))
     refine WL.gdN rfl rfl rfl rfl rfl rfl (WL.gdN rfl rfl rfl rfl rfl rfl (WL.pickF rfl rfl rfl (WL.as rfl rfl (WL.nil ?_))))
     exact W.fit (Hs' := []) (by (repeat' first | exact Sel.nil | apply Sel.k | exact Pick.h | apply Pick.t)) (W.ret1 rfl rfl (fun h q => ⟨rfl, q⟩))
   ·rw [decide_eq_false e2, Bool.false_and] at hz
    subst hz
    refine W.seq (W.region ?_)
    refine WL.bxF rfl rfl (by repeat' constructor) (fun b0 => ?_)
    refine WL.bxF rfl rfl (by repeat' constructor) (fun b1 => ?_)
    refine WL.as rfl rfl (WL.nil (W.seq (W.region (WL.faN (T := Ty) (off' := 0) rfl rfl rfl rfl rfl rfl rfl (WL.ldN (T := Ty) (j := 1) rfl rfl rfl rfl rfl rfl (WL.faN (T := Ty) (off' := 0) rfl rfl rfl rfl rfl rfl rfl (WL.ldN (T := Ty) (j := 0) rfl rfl rfl rfl rfl rfl (WL.eql rfl rfl rfl (WL.mv rfl rfl (WL.gT rfl rfl (by omega) (WL.faN (T := Ty) (off' := 1) rfl rfl rfl rfl rfl rfl rfl (WL.gT rfl rfl (by omega) (WL.ldN (T := Ty) (j := 1) rfl rfl rfl rfl rfl rfl ?_)))))))))))))
    refine WL.gT rfl rfl (by omega) (WL.faN (T := Ty) (off' := 1) rfl rfl rfl rfl rfl rfl rfl (WL.gT rfl rfl (by omega) (WL.ldN (T := Ty) (j := 0) rfl rfl rfl rfl rfl rfl (WL.gT rfl rfl (by omega) (WL.eql rfl rfl rfl (WL.pickTp rfl rfl (by omega) rfl (WL.mv rfl rfl (WL.gT rfl rfl (by omega) (WL.faN (T := Ty) (off' := 3) rfl rfl rfl rfl rfl rfl rfl (WL.gT rfl rfl (by omega) (WL.ldN (T := Ty) (j := 1) rfl rfl rfl rfl rfl rfl (WL.gT rfl rfl (by omega) (WL.faN (T := Ty) (off' := 3) rfl rfl rfl rfl rfl rfl rfl ?_)))))))))))))
    refine WL.gT rfl rfl (by omega) (WL.ldN (T := Ty) (j := 0) rfl rfl rfl rfl rfl rfl (WL.gT rfl rfl (by omega) (WL.eql rfl rfl rfl (WL.pickTp rfl rfl (by omega) rfl (WL.mv rfl rfl (WL.gdTn rfl rfl rfl rfl rfl (by omega) (WL.gdTn rfl rfl rfl rfl rfl (by omega) (WL.gdTn rfl rfl rfl rfl rfl (by omega) (WL.gdTn rfl rfl rfl rfl rfl (by omega) (WL.gdTn rfl rfl rfl rfl rfl (by omega) (WL.pickFp rfl rfl (by omega) rfl (WL.mv rfl rfl (WL.gdN rfl rfl rfl rfl rfl rfl ?_)))))))))))))
    refine WL.gdN rfl rfl rfl rfl rfl rfl (WL.gdN rfl rfl rfl rfl rfl rfl (WL.gdN rfl rfl rfl rfl rfl rfl (WL.gdN rfl rfl rfl rfl rfl rfl (WL.pickF rfl rfl rfl (WL.mv rfl rfl (WL.gdN rfl rfl rfl rfl rfl rfl (WL.gdN rfl rfl rfl rfl rfl rfl (WL.gdN rfl rfl rfl rfl rfl rfl (WL.gdN rfl rfl rfl rfl rfl rfl (WL.gdN rfl rfl rfl rfl rfl rfl (WL.pickF rfl rfl rfl (WL.as rfl rfl (WL.nil ?_)))))))))))))
    exact W.fit (Hs' := []) (by (repeat' first | exact Sel.nil | apply Sel.k | exact Pick.h | apply Pick.t)) (W.ret1 rfl rfl (fun h q => ⟨rfl, q⟩))
  ·rw [decide_eq_false e1, Bool.false_and] at hz
   subst hz
   refine W.seq (W.region ?_)
   refine WL.bxF rfl rfl (by repeat' constructor) (fun b0 => ?_)
   refine WL.bxF rfl rfl (by repeat' constructor) (fun b1 => ?_)
   refine WL.as rfl rfl (WL.nil (W.seq (W.region (WL.faN (T := Ty) (off' := 0) rfl rfl rfl rfl rfl rfl rfl (WL.ldN (T := Ty) (j := 1) rfl rfl rfl rfl rfl rfl (WL.faN (T := Ty) (off' := 0) rfl rfl rfl rfl rfl rfl rfl (WL.ldN (T := Ty) (j := 0) rfl rfl rfl rfl rfl rfl (WL.eql rfl rfl rfl (WL.mv rfl rfl (WL.gT rfl rfl (by omega) (WL.faN (T := Ty) (off' := 1) rfl rfl rfl rfl rfl rfl rfl (WL.gT rfl rfl (by omega) (WL.ldN (T := Ty) (j := 1) rfl rfl rfl rfl rfl rfl ?_)))))))))))))
   refine WL.gT rfl rfl (by omega) (WL.faN (T := Ty) (off' := 1) rfl rfl rfl rfl rfl rfl rfl (WL.gT rfl rfl (by omega) (WL.ldN (T := Ty) (j := 0) rfl rfl rfl rfl rfl rfl (WL.gT rfl rfl (by omega) (WL.eql rfl rfl rfl (WL.pickTp rfl rfl (by omega) rfl (WL.mv rfl rfl (WL.gdTn rfl rfl rfl rfl rfl (by omega) (WL.gdTn rfl rfl rfl rfl rfl (by omega) (WL.gdTn rfl rfl rfl rfl rfl (by omega) (WL.gdTn rfl rfl rfl rfl rfl (by omega) (WL.gdTn rfl rfl rfl rfl rfl (by omega) (WL.pickFp rfl rfl (by omega) rfl ?_)))))))))))))
   refine WL.mv rfl rfl (WL.gdN rfl rfl rfl rfl rfl rfl (WL.gdN rfl rfl rfl rfl rfl rfl (WL.gdN rfl rfl rfl rfl rfl rfl (WL.gdN rfl rfl rfl rfl rfl rfl (WL.gdN rfl rfl rfl rfl rfl rfl (WL.pickF rfl rfl rfl (WL.mv rfl rfl (WL.gdN rfl rfl rfl rfl rfl rfl (WL.gdN rfl rfl rfl rfl rfl rfl (WL.gdN rfl rfl rfl rfl rfl rfl (WL.gdN rfl rfl rfl rfl rfl rfl (WL.gdN rfl rfl rfl rfl rfl rfl (WL.pickF rfl rfl rfl ?_)))))))))))))
   refine WL.mv rfl rfl (WL.gdN rfl rfl rfl rfl rfl rfl (WL.gdN rfl rfl rfl rfl rfl rfl (WL.gdN rfl rfl rfl rfl rfl rfl (WL.gdN rfl rfl rfl rfl rfl rfl (WL.gdN rfl rfl rfl rfl rfl rfl (WL.pickF rfl rfl rfl (WL.as rfl rfl (WL.nil ?_))))))))
   exact W.fit (Hs' := []) (by (repeat' first | exact Sel.nil | apply Sel.k | exact Pick.h | apply Pick.t)) (W.ret1 rfl rfl (fun h q => ⟨rfl, q⟩))
 ·rw [decide_eq_false e0, Bool.false_and] at hz
  subst hz
  refine W.seq (W.region ?_)
  refine WL.bxF rfl rfl (by repeat' constructor) (fun b0 => ?_)
  refine WL.bxF rfl rfl (by repeat' constructor) (fun b1 => ?_)
  refine WL.as rfl rfl (WL.nil (W.seq (W.region (WL.faN (T := Ty) (off' := 0) rfl rfl rfl rfl rfl rfl rfl (WL.ldN (T := Ty) (j := 1) rfl rfl rfl rfl rfl rfl (WL.faN (T := Ty) (off' := 0) rfl rfl rfl rfl rfl rfl rfl (WL.ldN (T := Ty) (j := 0) rfl rfl rfl rfl rfl rfl (WL.eql rfl rfl rfl (WL.mv rfl rfl (WL.gdTn rfl rfl rfl rfl rfl (by omega) (WL.gdTn rfl rfl rfl rfl rfl (by omega) (WL.gdTn rfl rfl rfl rfl rfl (by omega) (WL.gdTn rfl rfl rfl rfl rfl (by omega) ?_)))))))))))))
  refine WL.gdTn rfl rfl rfl rfl rfl (by omega) (WL.pickFp rfl rfl (by omega) rfl (WL.mv rfl rfl (WL.gdN rfl rfl rfl rfl rfl rfl (WL.gdN rfl rfl rfl rfl rfl rfl (WL.gdN rfl rfl rfl rfl rfl rfl (WL.gdN rfl rfl rfl rfl rfl rfl (WL.gdN rfl rfl rfl rfl rfl rfl (WL.pickF rfl rfl rfl (WL.mv rfl rfl (WL.gdN rfl rfl rfl rfl rfl rfl (WL.gdN rfl rfl rfl rfl rfl rfl (WL.gdN rfl rfl rfl rfl rfl rfl (WL.gdN rfl rfl rfl rfl rfl rfl ?_)))))))))))))
  refine WL.gdN rfl rfl rfl rfl rfl rfl (WL.pickF rfl rfl rfl (WL.mv rfl rfl (WL.gdN rfl rfl rfl rfl rfl rfl (WL.gdN rfl rfl rfl rfl rfl rfl (WL.gdN rfl rfl rfl rfl rfl rfl (WL.gdN rfl rfl rfl rfl rfl rfl (WL.gdN rfl rfl rfl rfl rfl rfl (WL.pickF rfl rfl rfl (WL.mv rfl rfl (WL.gdN rfl rfl rfl rfl rfl rfl (WL.gdN rfl rfl rfl rfl rfl rfl (WL.gdN rfl rfl rfl rfl rfl rfl (WL.gdN rfl rfl rfl rfl rfl rfl ?_)))))))))))))
  refine WL.gdN rfl rfl rfl rfl rfl rfl (WL.pickF rfl rfl rfl (WL.as rfl rfl (WL.nil ?_)))
  exact W.fit (Hs' := []) (by (repeat' first | exact Sel.nil | apply Sel.k | exact Pick.h | apply Pick.t)) (W.ret1 rfl rfl (fun h q => ⟨rfl, q⟩))
theorem same15_e (ρ : Hp) (a b : Clk) (v v' : Value) (z : Bool) (hl : a.pages.length ≤ 1000000) (r0 : ROs ρ 7 v (a.pages.flatMap pgC)) (r1 : ROs ρ 7 v' (b.pages.flatMap pgC)) (hz : sameC a b = z) :
  Fn Try.prog 44 #[.agg #[.int .i64 a.most, .int .i64 a.target, v, .int .i64 (a.hot : Int), .int .i64 (a.cold : Int), .int .i64 (a.test : Int)], .agg #[.int .i64 b.most, .int .i64 b.target, v', .int .i64 (b.hot : Int), .int .i64 (b.cold : Int), .int .i64 (b.test : Int)]] ρ [] (Just (.bool z)) :=
 Fn.val (congrArg Value.bool hz) (same15_c ρ a b v v' hl r0 r1)
end Go.Proofs.Ytbebhmdjnneimaa
