/- modl: what is the same. -/
import Derived.Test.YtbebhmdjnneimaaStc
import Derived.Test.YtbebhmdjnneimaaNum
import Derived.Test.YtbebhmdjnneimaaTab
import Derived.Test.YtbebhmdjnneimaaMEq
import Derived.Test.YtbebhmdjnneimaaClos
set_option linter.unusedSimpArgs false
set_option linter.unusedVariables false
set_option maxRecDepth 20000
set_option maxHeartbeats 4000000
namespace Go.Proofs.Ytbebhmdjnneimaa
open Go
attribute [local irreducible] W WL Fn Buf ROs SL eptr box Rd Src bndOK WD RB Reads In Own
theorem drop_cons {α : Type} {L : List α} {i : Nat} {a : α} (h : L[i]? = some a) : L.drop i = a :: L.drop (i + 1) := by
  have hl := List.getElem?_eq_some_iff.1 h
  rw [List.drop_eq_getElem_cons hl.1, hl.2]
theorem allB_len {α β : Type} {p : α → β → Bool} : ∀ {L : List α} {M : List β}, L.length ≠ M.length → allB p L M = false
  | [], [], h => absurd rfl h
  | [], _ :: _, _ => rfl
  | _ :: _, [], _ => rfl
  | a :: L, b :: M, h => by
    rw [allB, allB_len (fun e => h (by simp [e])), Bool.and_false]
theorem same1_c (ρ : Hp) (a b : Ser) (u u' : Value) (hu : ROs ρ 2 u (a.list.flatMap smC)) (hu' : ROs ρ 2 u' (b.list.flatMap smC)) (hl : a.list.length ≤ 100000000) :
    Fn Try.prog 55 #[.agg #[.int .i64 a.id, .bool a.shut, .bool a.any, .int .i64 a.last, u], .agg #[.int .i64 b.id, .bool b.shut, .bool b.any, .int .i64 b.last, u']] ρ [] (Just (.bool (sameSer a b))) := by
  refine in55 rfl rfl ?_
  obtain ⟨z, hz⟩ : ∃ z, sameSer a b = z := ⟨_, rfl⟩
  rw [hz]
  unfold sameSer at hz
  by_cases h1 : a.id = b.id
  · rw [decide_eq_true h1, Bool.true_and] at hz
    cases h2 : (a.shut == b.shut) with
    | false =>
      rw [h2] at hz
      simp only [Bool.false_and] at hz
      subst hz
      refine W.seq (W.region ?_)
      refine WL.bxF rfl rfl (by repeat' first | exact FL.nil | apply FL.cons) (fun b0 => ?_)
      refine WL.bxF rfl rfl (by repeat' first | exact FL.nil | apply FL.cons) (fun b1 => ?_)
      refine WL.as rfl rfl (WL.nil (W.seq (W.region (WL.faN (T := Ty) (off' := 0) rfl rfl rfl rfl rfl rfl rfl (WL.ldN (T := Ty) (j := 1) rfl rfl rfl rfl rfl rfl (WL.faN (T := Ty) (off' := 0) rfl rfl rfl rfl rfl rfl rfl (WL.ldN (T := Ty) (j := 0) rfl rfl rfl rfl rfl rfl (WL.eql rfl rfl rfl (WL.mv rfl rfl (WL.gT rfl rfl (by omega) (WL.faN (T := Ty) (off' := 1) rfl rfl rfl rfl rfl rfl rfl (WL.gT rfl rfl (by omega) (WL.ldN (T := Ty) (j := 1) rfl rfl rfl rfl rfl rfl ?_)))))))))))))
      refine WL.gT rfl rfl (by omega) (WL.faN (T := Ty) (off' := 1) rfl rfl rfl rfl rfl rfl rfl (WL.gT rfl rfl (by omega) (WL.ldN (T := Ty) (j := 0) rfl rfl rfl rfl rfl rfl (WL.gT rfl rfl (by omega) (WL.eqB (T := Ty) rfl rfl rfl rfl (WL.pickTp rfl rfl (by omega) rfl (WL.mv rfl rfl ?_)))))))
      rw [h2]
      refine WL.gdN rfl rfl rfl rfl rfl rfl (WL.gdN rfl rfl rfl rfl rfl rfl (WL.gdN rfl rfl rfl rfl rfl rfl (WL.gdN rfl rfl rfl rfl rfl rfl (WL.gdN rfl rfl rfl rfl rfl rfl (WL.pickF rfl rfl rfl (WL.mv rfl rfl (WL.gdN rfl rfl rfl rfl rfl rfl (WL.gdN rfl rfl rfl rfl rfl rfl (WL.gdN rfl rfl rfl rfl rfl rfl (WL.gdN rfl rfl rfl rfl rfl rfl (WL.gdN rfl rfl rfl rfl rfl rfl (WL.pickF rfl rfl rfl (WL.mv rfl rfl ?_)))))))))))))
      refine WL.gdN rfl rfl rfl rfl rfl rfl (WL.gdN rfl rfl rfl rfl rfl rfl (WL.gdN rfl rfl rfl rfl rfl rfl (WL.gdN rfl rfl rfl rfl rfl rfl (WL.gdN rfl rfl rfl rfl rfl rfl (WL.pickF rfl rfl rfl (WL.as rfl rfl (WL.nil ?_)))))))
      exact W.fit (Hs' := []) (by (repeat' first | exact Sel.nil | refine Sel.cons 0 rfl ?_ | refine Sel.cons 1 rfl ?_ | refine Sel.cons 2 rfl ?_ | refine Sel.cons 3 rfl ?_ | refine Sel.cons 4 rfl ?_ | refine Sel.cons 5 rfl ?_ | refine Sel.cons 6 rfl ?_ | refine Sel.cons 7 rfl ?_ | refine Sel.cons 8 rfl ?_)) (W.ret1 rfl rfl (fun h q => ⟨rfl, q⟩))
    | true =>
      rw [h2, Bool.true_and] at hz
      cases h3 : (a.any == b.any) with
      | false =>
        rw [h3] at hz
        simp only [Bool.false_and] at hz
        subst hz
        refine W.seq (W.region ?_)
        refine WL.bxF rfl rfl (by repeat' first | exact FL.nil | apply FL.cons) (fun b0 => ?_)
        refine WL.bxF rfl rfl (by repeat' first | exact FL.nil | apply FL.cons) (fun b1 => ?_)
        refine WL.as rfl rfl (WL.nil (W.seq (W.region (WL.faN (T := Ty) (off' := 0) rfl rfl rfl rfl rfl rfl rfl (WL.ldN (T := Ty) (j := 1) rfl rfl rfl rfl rfl rfl (WL.faN (T := Ty) (off' := 0) rfl rfl rfl rfl rfl rfl rfl (WL.ldN (T := Ty) (j := 0) rfl rfl rfl rfl rfl rfl (WL.eql rfl rfl rfl (WL.mv rfl rfl (WL.gT rfl rfl (by omega) (WL.faN (T := Ty) (off' := 1) rfl rfl rfl rfl rfl rfl rfl (WL.gT rfl rfl (by omega) (WL.ldN (T := Ty) (j := 1) rfl rfl rfl rfl rfl rfl ?_)))))))))))))
        refine WL.gT rfl rfl (by omega) (WL.faN (T := Ty) (off' := 1) rfl rfl rfl rfl rfl rfl rfl (WL.gT rfl rfl (by omega) (WL.ldN (T := Ty) (j := 0) rfl rfl rfl rfl rfl rfl (WL.gT rfl rfl (by omega) (WL.eqB (T := Ty) rfl rfl rfl rfl (WL.pickTp rfl rfl (by omega) rfl (WL.mv rfl rfl ?_)))))))
        rw [h2]
        refine WL.gY rfl rfl (WL.faN (T := Ty) (off' := 2) rfl rfl rfl rfl rfl rfl rfl (WL.gY rfl rfl (WL.ldN (T := Ty) (j := 1) rfl rfl rfl rfl rfl rfl (WL.gY rfl rfl (WL.faN (T := Ty) (off' := 2) rfl rfl rfl rfl rfl rfl rfl (WL.gY rfl rfl (WL.ldN (T := Ty) (j := 0) rfl rfl rfl rfl rfl rfl (WL.gY rfl rfl (WL.eqB (T := Ty) rfl rfl rfl rfl (WL.pickT rfl rfl rfl (WL.mv rfl rfl ?_)))))))))))
        rw [h3]
        refine WL.gdN rfl rfl rfl rfl rfl rfl (WL.gdN rfl rfl rfl rfl rfl rfl (WL.gdN rfl rfl rfl rfl rfl rfl (WL.gdN rfl rfl rfl rfl rfl rfl (WL.gdN rfl rfl rfl rfl rfl rfl (WL.pickF rfl rfl rfl (WL.mv rfl rfl (WL.gdN rfl rfl rfl rfl rfl rfl (WL.gdN rfl rfl rfl rfl rfl rfl (WL.gdN rfl rfl rfl rfl rfl rfl (WL.gdN rfl rfl rfl rfl rfl rfl (WL.gdN rfl rfl rfl rfl rfl rfl (WL.pickF rfl rfl rfl (WL.as rfl rfl ?_)))))))))))))
        refine WL.nil ?_
        exact W.fit (Hs' := []) (by (repeat' first | exact Sel.nil | refine Sel.cons 0 rfl ?_ | refine Sel.cons 1 rfl ?_ | refine Sel.cons 2 rfl ?_ | refine Sel.cons 3 rfl ?_ | refine Sel.cons 4 rfl ?_ | refine Sel.cons 5 rfl ?_ | refine Sel.cons 6 rfl ?_ | refine Sel.cons 7 rfl ?_ | refine Sel.cons 8 rfl ?_)) (W.ret1 rfl rfl (fun h q => ⟨rfl, q⟩))
      | true =>
        rw [h3, Bool.true_and] at hz
        by_cases h4 : a.last = b.last
        · rw [decide_eq_true h4, Bool.true_and] at hz
          refine W.seq (W.region ?_)
          refine WL.bxF rfl rfl (by repeat' first | exact FL.nil | apply FL.cons) (fun b0 => ?_)
          refine WL.bxF rfl rfl (by repeat' first | exact FL.nil | apply FL.cons) (fun b1 => ?_)
          refine WL.as rfl rfl (WL.nil (W.seq (W.region (WL.faN (T := Ty) (off' := 0) rfl rfl rfl rfl rfl rfl rfl (WL.ldN (T := Ty) (j := 1) rfl rfl rfl rfl rfl rfl (WL.faN (T := Ty) (off' := 0) rfl rfl rfl rfl rfl rfl rfl (WL.ldN (T := Ty) (j := 0) rfl rfl rfl rfl rfl rfl (WL.eql rfl rfl rfl (WL.mv rfl rfl (WL.gT rfl rfl (by omega) (WL.faN (T := Ty) (off' := 1) rfl rfl rfl rfl rfl rfl rfl (WL.gT rfl rfl (by omega) (WL.ldN (T := Ty) (j := 1) rfl rfl rfl rfl rfl rfl ?_)))))))))))))
          refine WL.gT rfl rfl (by omega) (WL.faN (T := Ty) (off' := 1) rfl rfl rfl rfl rfl rfl rfl (WL.gT rfl rfl (by omega) (WL.ldN (T := Ty) (j := 0) rfl rfl rfl rfl rfl rfl (WL.gT rfl rfl (by omega) (WL.eqB (T := Ty) rfl rfl rfl rfl (WL.pickTp rfl rfl (by omega) rfl (WL.mv rfl rfl ?_)))))))
          rw [h2]
          refine WL.gY rfl rfl (WL.faN (T := Ty) (off' := 2) rfl rfl rfl rfl rfl rfl rfl (WL.gY rfl rfl (WL.ldN (T := Ty) (j := 1) rfl rfl rfl rfl rfl rfl (WL.gY rfl rfl (WL.faN (T := Ty) (off' := 2) rfl rfl rfl rfl rfl rfl rfl (WL.gY rfl rfl (WL.ldN (T := Ty) (j := 0) rfl rfl rfl rfl rfl rfl (WL.gY rfl rfl (WL.eqB (T := Ty) rfl rfl rfl rfl (WL.pickT rfl rfl rfl (WL.mv rfl rfl ?_)))))))))))
          rw [h3]
          refine WL.gY rfl rfl (WL.faN (T := Ty) (off' := 3) rfl rfl rfl rfl rfl rfl rfl (WL.gY rfl rfl (WL.ldN (T := Ty) (j := 1) rfl rfl rfl rfl rfl rfl (WL.gY rfl rfl (WL.faN (T := Ty) (off' := 3) rfl rfl rfl rfl rfl rfl rfl (WL.gY rfl rfl (WL.ldN (T := Ty) (j := 0) rfl rfl rfl rfl rfl rfl (WL.gY rfl rfl (WL.eql rfl rfl rfl (WL.pickT rfl rfl rfl (WL.mv rfl rfl (WL.gT rfl rfl (by omega) (WL.faN (T := Ty) (off' := 4) rfl rfl rfl rfl rfl rfl rfl ?_)))))))))))))
          refine WL.gT rfl rfl (by omega) (WL.ldN (T := Ty) (j := 1) rfl rfl rfl rfl rfl rfl (WL.gT rfl rfl (by omega) (WL.faN (T := Ty) (off' := 4) rfl rfl rfl rfl rfl rfl rfl (WL.gT rfl rfl (by omega) (WL.ldN (T := Ty) (j := 0) rfl rfl rfl rfl rfl rfl (WL.gT rfl rfl (by omega) ?_))))))
          refine WL.callV rfl rfl (fun x p d => eqM_c _ _ _ _ _ (by first | assumption | exact ROs.wide (by assumption) | exact ROs.mono (by assumption) (eqh_at 0 rfl p d) | exact ros_at 0 rfl p d | exact ros_at 1 rfl p d | exact ros_at 2 rfl p d | exact ros_at 3 rfl p d | exact ros_at 4 rfl p d) (by first | assumption | exact ROs.wide (by assumption) | exact ROs.mono (by assumption) (eqh_at 0 rfl p d) | exact ros_at 0 rfl p d | exact ros_at 1 rfl p d | exact ros_at 2 rfl p d | exact ros_at 3 rfl p d | exact ros_at 4 rfl p d) (by first | assumption | omega)) ?_
          refine WL.pickTp rfl rfl (by omega) rfl (WL.as rfl rfl (WL.nil ?_))
          rw [hz]
          skip
          exact W.fit (Hs' := []) (by (repeat' first | exact Sel.nil | refine Sel.cons 0 rfl ?_ | refine Sel.cons 1 rfl ?_ | refine Sel.cons 2 rfl ?_ | refine Sel.cons 3 rfl ?_ | refine Sel.cons 4 rfl ?_ | refine Sel.cons 5 rfl ?_ | refine Sel.cons 6 rfl ?_ | refine Sel.cons 7 rfl ?_ | refine Sel.cons 8 rfl ?_)) (W.ret1 rfl rfl (fun h q => ⟨rfl, q⟩))
        · rw [decide_eq_false h4] at hz
          simp only [Bool.false_and] at hz
          subst hz
          refine W.seq (W.region ?_)
          refine WL.bxF rfl rfl (by repeat' first | exact FL.nil | apply FL.cons) (fun b0 => ?_)
          refine WL.bxF rfl rfl (by repeat' first | exact FL.nil | apply FL.cons) (fun b1 => ?_)
          refine WL.as rfl rfl (WL.nil (W.seq (W.region (WL.faN (T := Ty) (off' := 0) rfl rfl rfl rfl rfl rfl rfl (WL.ldN (T := Ty) (j := 1) rfl rfl rfl rfl rfl rfl (WL.faN (T := Ty) (off' := 0) rfl rfl rfl rfl rfl rfl rfl (WL.ldN (T := Ty) (j := 0) rfl rfl rfl rfl rfl rfl (WL.eql rfl rfl rfl (WL.mv rfl rfl (WL.gT rfl rfl (by omega) (WL.faN (T := Ty) (off' := 1) rfl rfl rfl rfl rfl rfl rfl (WL.gT rfl rfl (by omega) (WL.ldN (T := Ty) (j := 1) rfl rfl rfl rfl rfl rfl ?_)))))))))))))
          refine WL.gT rfl rfl (by omega) (WL.faN (T := Ty) (off' := 1) rfl rfl rfl rfl rfl rfl rfl (WL.gT rfl rfl (by omega) (WL.ldN (T := Ty) (j := 0) rfl rfl rfl rfl rfl rfl (WL.gT rfl rfl (by omega) (WL.eqB (T := Ty) rfl rfl rfl rfl (WL.pickTp rfl rfl (by omega) rfl (WL.mv rfl rfl ?_)))))))
          rw [h2]
          refine WL.gY rfl rfl (WL.faN (T := Ty) (off' := 2) rfl rfl rfl rfl rfl rfl rfl (WL.gY rfl rfl (WL.ldN (T := Ty) (j := 1) rfl rfl rfl rfl rfl rfl (WL.gY rfl rfl (WL.faN (T := Ty) (off' := 2) rfl rfl rfl rfl rfl rfl rfl (WL.gY rfl rfl (WL.ldN (T := Ty) (j := 0) rfl rfl rfl rfl rfl rfl (WL.gY rfl rfl (WL.eqB (T := Ty) rfl rfl rfl rfl (WL.pickT rfl rfl rfl (WL.mv rfl rfl ?_)))))))))))
          rw [h3]
          refine WL.gY rfl rfl (WL.faN (T := Ty) (off' := 3) rfl rfl rfl rfl rfl rfl rfl (WL.gY rfl rfl (WL.ldN (T := Ty) (j := 1) rfl rfl rfl rfl rfl rfl (WL.gY rfl rfl (WL.faN (T := Ty) (off' := 3) rfl rfl rfl rfl rfl rfl rfl (WL.gY rfl rfl (WL.ldN (T := Ty) (j := 0) rfl rfl rfl rfl rfl rfl (WL.gY rfl rfl (WL.eql rfl rfl rfl (WL.pickT rfl rfl rfl (WL.mv rfl rfl (WL.gdTn rfl rfl rfl rfl rfl (by omega) (WL.gdTn rfl rfl rfl rfl rfl (by omega) ?_)))))))))))))
          refine WL.gdTn rfl rfl rfl rfl rfl (by omega) (WL.gdTn rfl rfl rfl rfl rfl (by omega) (WL.gdTn rfl rfl rfl rfl rfl (by omega) (WL.pickFp rfl rfl (by omega) rfl (WL.as rfl rfl (WL.nil ?_)))))
          exact W.fit (Hs' := []) (by (repeat' first | exact Sel.nil | refine Sel.cons 0 rfl ?_ | refine Sel.cons 1 rfl ?_ | refine Sel.cons 2 rfl ?_ | refine Sel.cons 3 rfl ?_ | refine Sel.cons 4 rfl ?_ | refine Sel.cons 5 rfl ?_ | refine Sel.cons 6 rfl ?_ | refine Sel.cons 7 rfl ?_ | refine Sel.cons 8 rfl ?_)) (W.ret1 rfl rfl (fun h q => ⟨rfl, q⟩))
  · rw [decide_eq_false h1] at hz
    simp only [Bool.false_and] at hz
    subst hz
    refine W.seq (W.region ?_)
    refine WL.bxF rfl rfl (by repeat' first | exact FL.nil | apply FL.cons) (fun b0 => ?_)
    refine WL.bxF rfl rfl (by repeat' first | exact FL.nil | apply FL.cons) (fun b1 => ?_)
    refine WL.as rfl rfl (WL.nil (W.seq (W.region (WL.faN (T := Ty) (off' := 0) rfl rfl rfl rfl rfl rfl rfl (WL.ldN (T := Ty) (j := 1) rfl rfl rfl rfl rfl rfl (WL.faN (T := Ty) (off' := 0) rfl rfl rfl rfl rfl rfl rfl (WL.ldN (T := Ty) (j := 0) rfl rfl rfl rfl rfl rfl (WL.eql rfl rfl rfl (WL.mv rfl rfl (WL.gdTn rfl rfl rfl rfl rfl (by omega) (WL.gdTn rfl rfl rfl rfl rfl (by omega) (WL.gdTn rfl rfl rfl rfl rfl (by omega) (WL.gdTn rfl rfl rfl rfl rfl (by omega) ?_)))))))))))))
    refine WL.gdTn rfl rfl rfl rfl rfl (by omega) (WL.pickFp rfl rfl (by omega) rfl (WL.mv rfl rfl (WL.gdN rfl rfl rfl rfl rfl rfl (WL.gdN rfl rfl rfl rfl rfl rfl (WL.gdN rfl rfl rfl rfl rfl rfl (WL.gdN rfl rfl rfl rfl rfl rfl (WL.gdN rfl rfl rfl rfl rfl rfl (WL.pickF rfl rfl rfl (WL.mv rfl rfl (WL.gdN rfl rfl rfl rfl rfl rfl (WL.gdN rfl rfl rfl rfl rfl rfl (WL.gdN rfl rfl rfl rfl rfl rfl (WL.gdN rfl rfl rfl rfl rfl rfl ?_)))))))))))))
    refine WL.gdN rfl rfl rfl rfl rfl rfl (WL.pickF rfl rfl rfl (WL.mv rfl rfl (WL.gdN rfl rfl rfl rfl rfl rfl (WL.gdN rfl rfl rfl rfl rfl rfl (WL.gdN rfl rfl rfl rfl rfl rfl (WL.gdN rfl rfl rfl rfl rfl rfl (WL.gdN rfl rfl rfl rfl rfl rfl (WL.pickF rfl rfl rfl (WL.as rfl rfl (WL.nil ?_))))))))))
    exact W.fit (Hs' := []) (by (repeat' first | exact Sel.nil | refine Sel.cons 0 rfl ?_ | refine Sel.cons 1 rfl ?_ | refine Sel.cons 2 rfl ?_ | refine Sel.cons 3 rfl ?_ | refine Sel.cons 4 rfl ?_ | refine Sel.cons 5 rfl ?_ | refine Sel.cons 6 rfl ?_ | refine Sel.cons 7 rfl ?_ | refine Sel.cons 8 rfl ?_)) (W.ret1 rfl rfl (fun h q => ⟨rfl, q⟩))
theorem same2_c (ρ : Hp) (a b : Itr) (u u' : Value) (hu : ROs ρ 2 u (a.rest.flatMap smC)) (hu' : ROs ρ 2 u' (b.rest.flatMap smC)) (hl : a.rest.length ≤ 100000000) :
    Fn Try.prog 57 #[.agg #[.int .i64 a.id, u], .agg #[.int .i64 b.id, u']] ρ [] (Just (.bool (sameItr a b))) := by
  refine in57 rfl rfl ?_
  obtain ⟨z, hz⟩ : ∃ z, sameItr a b = z := ⟨_, rfl⟩
  rw [hz]
  unfold sameItr at hz
  by_cases h1 : a.id = b.id
  · rw [decide_eq_true h1, Bool.true_and] at hz
    refine W.seq (W.region ?_)
    refine WL.bxF rfl rfl (by repeat' first | exact FL.nil | apply FL.cons) (fun b0 => ?_)
    refine WL.bxF rfl rfl (by repeat' first | exact FL.nil | apply FL.cons) (fun b1 => ?_)
    refine WL.as rfl rfl (WL.nil (W.seq (W.region (WL.faN (T := Ty) (off' := 0) rfl rfl rfl rfl rfl rfl rfl (WL.ldN (T := Ty) (j := 1) rfl rfl rfl rfl rfl rfl (WL.faN (T := Ty) (off' := 0) rfl rfl rfl rfl rfl rfl rfl (WL.ldN (T := Ty) (j := 0) rfl rfl rfl rfl rfl rfl (WL.eql rfl rfl rfl (WL.mv rfl rfl (WL.gT rfl rfl (by omega) (WL.faN (T := Ty) (off' := 1) rfl rfl rfl rfl rfl rfl rfl (WL.gT rfl rfl (by omega) (WL.ldN (T := Ty) (j := 1) rfl rfl rfl rfl rfl rfl ?_)))))))))))))
    refine WL.gT rfl rfl (by omega) (WL.faN (T := Ty) (off' := 1) rfl rfl rfl rfl rfl rfl rfl (WL.gT rfl rfl (by omega) (WL.ldN (T := Ty) (j := 0) rfl rfl rfl rfl rfl rfl (WL.gT rfl rfl (by omega) ?_))))
    refine WL.callV rfl rfl (fun x p d => eqM_c _ _ _ _ _ (by first | assumption | exact ROs.wide (by assumption) | exact ROs.mono (by assumption) (eqh_at 0 rfl p d) | exact ros_at 0 rfl p d | exact ros_at 1 rfl p d | exact ros_at 2 rfl p d | exact ros_at 3 rfl p d | exact ros_at 4 rfl p d) (by first | assumption | exact ROs.wide (by assumption) | exact ROs.mono (by assumption) (eqh_at 0 rfl p d) | exact ros_at 0 rfl p d | exact ros_at 1 rfl p d | exact ros_at 2 rfl p d | exact ros_at 3 rfl p d | exact ros_at 4 rfl p d) (by first | assumption | omega)) ?_
    refine WL.pickTp rfl rfl (by omega) rfl (WL.as rfl rfl (WL.nil ?_))
    rw [hz]
    skip
    exact W.fit (Hs' := []) (by (repeat' first | exact Sel.nil | refine Sel.cons 0 rfl ?_ | refine Sel.cons 1 rfl ?_ | refine Sel.cons 2 rfl ?_ | refine Sel.cons 3 rfl ?_ | refine Sel.cons 4 rfl ?_ | refine Sel.cons 5 rfl ?_ | refine Sel.cons 6 rfl ?_ | refine Sel.cons 7 rfl ?_ | refine Sel.cons 8 rfl ?_)) (W.ret1 rfl rfl (fun h q => ⟨rfl, q⟩))
  · rw [decide_eq_false h1] at hz
    simp only [Bool.false_and] at hz
    subst hz
    refine W.seq (W.region ?_)
    refine WL.bxF rfl rfl (by repeat' first | exact FL.nil | apply FL.cons) (fun b0 => ?_)
    refine WL.bxF rfl rfl (by repeat' first | exact FL.nil | apply FL.cons) (fun b1 => ?_)
    refine WL.as rfl rfl (WL.nil (W.seq (W.region (WL.faN (T := Ty) (off' := 0) rfl rfl rfl rfl rfl rfl rfl (WL.ldN (T := Ty) (j := 1) rfl rfl rfl rfl rfl rfl (WL.faN (T := Ty) (off' := 0) rfl rfl rfl rfl rfl rfl rfl (WL.ldN (T := Ty) (j := 0) rfl rfl rfl rfl rfl rfl (WL.eql rfl rfl rfl (WL.mv rfl rfl (WL.gdTn rfl rfl rfl rfl rfl (by omega) (WL.gdTn rfl rfl rfl rfl rfl (by omega) (WL.gdTn rfl rfl rfl rfl rfl (by omega) (WL.gdTn rfl rfl rfl rfl rfl (by omega) ?_)))))))))))))
    refine WL.gdTn rfl rfl rfl rfl rfl (by omega) (WL.pickFp rfl rfl (by omega) rfl (WL.as rfl rfl (WL.nil ?_)))
    exact W.fit (Hs' := []) (by (repeat' first | exact Sel.nil | refine Sel.cons 0 rfl ?_ | refine Sel.cons 1 rfl ?_ | refine Sel.cons 2 rfl ?_ | refine Sel.cons 3 rfl ?_ | refine Sel.cons 4 rfl ?_ | refine Sel.cons 5 rfl ?_ | refine Sel.cons 6 rfl ?_ | refine Sel.cons 7 rfl ?_ | refine Sel.cons 8 rfl ?_)) (W.ret1 rfl rfl (fun h q => ⟨rfl, q⟩))
theorem Rds5.wide {ρ x : Hp} {L : List (Ser × Value)} (h : Rds rdSer ρ L) : Rds rdSer (join ρ x) L := fun a ha => ROs.mono (h a ha) (fun _ _ => join_left)
theorem Rds2.wide {ρ x : Hp} {L : List (Itr × Value)} (h : Rds rdItr ρ L) : Rds rdItr (join ρ x) L := fun a ha => ROs.mono (h a ha) (fun _ _ => join_left)
-- CALL 58 refine WL.callV rfl rfl (fun x p d => eqfS_c _ _ _ _ _ _ $RO $RO (by first | assumption | exact Rds5.wide (by assumption)) (by first | assumption | exact Rds5.wide (by assumption)) (by assumption) (by assumption) (by first | assumption | omega)) ?_
theorem eqfS_c (ρ : Hp) (v v' : Value) (L L' : List (Ser × Value)) (n : Nat) (hv : ROs ρ 5 v (L.flatMap serC)) (hv' : ROs ρ 5 v' (L'.flatMap serC)) (hd : Rds rdSer ρ L) (hd' : Rds rdSer ρ L') (hn : ∀ p ∈ L, p.1.list.length ≤ n) (hl : L.length ≤ n) (hb : n ≤ 100000000) :
    Fn Try.prog 58 #[v, v', .func (.func 55) #[] #[]] ρ [] (Just (.bool (allB sameSer (L.map Prod.fst) (L'.map Prod.fst)))) := by
  have sv : SL v L.length := hv.sl (ser_cells L) (by omega)
  have sv' : SL v' L'.length := hv'.sl (ser_cells L') (by omega)
  refine in58 rfl rfl ?_
  by_cases hL : L.length = L'.length
  · refine W.seq ?_
    refine W.region (WL.as rfl rfl (WL.nil (W.seq (W.seq (W.region (WL.mv rfl rfl ?_))))))
    refine WL.len (T := Ty) rfl rfl (by assumption) rfl ?_
    refine WL.mv rfl rfl ?_
    refine WL.len (T := Ty) rfl rfl (by assumption) rfl ?_
    refine WL.neq rfl rfl rfl (WL.nil (W.condpF rfl (by omega) (W.skip (W.seq (W.seq (W.region (WL.mv rfl rfl ?_)))))))
    refine WL.len (T := Ty) rfl rfl (by assumption) rfl ?_
    refine WL.mv rfl rfl (WL.nil (W.block ?_))
    refine W.loopS (σ := Nat) (fun i => [(1, v'), (2, .func (.func 55) #[] #[]), (15, v), (16, .int .i64 (L.length : Int)), (17, .int .i64 (i : Int))]) (fun _ => []) (fun i => i ≤ L.length ∧ allB sameSer (L.map Prod.fst) (L'.map Prod.fst) = allB sameSer ((L.drop i).map Prod.fst) ((L'.drop i).map Prod.fst)) (fun i => L.length - i) 0 ⟨rfl, rfl, rfl, rfl, rfl, trivial⟩ rfl ⟨Nat.zero_le _, rfl⟩ ?_
    intro i ⟨hi, hA⟩ next
    by_cases hlt : i < L.length
    · obtain ⟨⟨a, u⟩, ha⟩ : ∃ a, L[i]? = some a := ⟨_, List.getElem?_eq_getElem hlt⟩
      obtain ⟨⟨b, u'⟩, hb⟩ : ∃ b, L'[i]? = some b := ⟨_, List.getElem?_eq_getElem (by omega)⟩
      have hr : ((L.flatMap serC).drop (((i : Nat) : Int).toNat * 5)).take 5 = [.int .i64 a.id, .bool a.shut, .bool a.any, .int .i64 a.last, u] := flat_row (f := serC) (k := 5) (fun _ => rfl) ha
      have hr' : ((L'.flatMap serC).drop (((i : Nat) : Int).toNat * 5)).take 5 = [.int .i64 b.id, .bool b.shut, .bool b.any, .int .i64 b.last, u'] := flat_row (f := serC) (k := 5) (fun _ => rfl) hb
      have ru : ROs ρ 2 u (a.list.flatMap smC) := hd _ (List.mem_of_getElem? ha)
      have ru' : ROs ρ 2 u' (b.list.flatMap smC) := hd' _ (List.mem_of_getElem? hb)
      have su : SL u a.list.length := ru.sl (sms_cells _) (by omega)
      have su' : SL u' b.list.length := ru'.sl (sms_cells _) (by omega)
      have hla := hn _ (List.mem_of_getElem? ha)
      dsimp only at hla
      rw [drop_cons ha, drop_cons hb, List.map_cons, List.map_cons, allB] at hA
      refine W.seq (W.region (WL.lss rfl rfl rfl (WL.nil (W.seq (W.condpT rfl (by omega) (W.skip (W.seq (W.block (W.seq (W.region (WL.mv rfl rfl ?_)))))))))))
      refine WL.ix (T := Ty) rfl rfl rfl (by assumption) rfl rfl (by omega) (by first | omega | decide +kernel) ?_
      refine WL.ldAR (T := Ty) rfl rfl rfl rfl (by first | assumption | exact ROs.wide (by assumption)) (by assumption) rfl ?_
      refine WL.alF (T := Ty) rfl rfl (by repeat' first | exact FL.nil | apply FL.cons) (fun b0 => ?_)
      refine WL.as rfl rfl ?_
      refine WL.stAO (T := Ty) (j := 0) rfl rfl rfl rfl (by repeat' first | exact AO.nil | apply AO.cons (by first | rfl | exact SL.one (by assumption))) rfl rfl (by repeat' first | exact FL.nil | apply FL.cons) (by repeat' first | exact FL.nil | apply FL.cons) ?_
      refine WL.nil (W.seq (W.region (WL.mv rfl rfl (WL.mv rfl rfl ?_))))
      refine WL.ix (T := Ty) rfl rfl rfl (by assumption) rfl rfl (by omega) (by first | omega | decide +kernel) ?_
      refine WL.ldAR (T := Ty) rfl rfl rfl rfl (by first | assumption | exact ROs.wide (by assumption)) (by assumption) rfl ?_
      refine WL.alF (T := Ty) rfl rfl (by repeat' first | exact FL.nil | apply FL.cons) (fun b1 => ?_)
      refine WL.stAO (T := Ty) (j := 0) rfl rfl rfl rfl (by repeat' first | exact AO.nil | apply AO.cons (by first | rfl | exact SL.one (by assumption))) rfl rfl (by repeat' first | exact FL.nil | apply FL.cons) (by repeat' first | exact FL.nil | apply FL.cons) ?_
      refine WL.nil (W.seq (W.region (WL.mv rfl rfl ?_)))
      refine WL.ldAF (T := Ty) (j := 1) rfl rfl rfl rfl rfl rfl (by repeat' first | exact FL.nil | apply FL.cons) ?_
      refine WL.ldAF (T := Ty) (j := 0) rfl rfl rfl rfl rfl rfl (by repeat' first | exact FL.nil | apply FL.cons) ?_
      refine WL.callC (cs := []) rfl rfl rfl (same1_c _ a b u u' (by first | assumption | exact ROs.wide (by assumption)) (by first | assumption | exact ROs.wide (by assumption)) (by omega)) ?_
      cases hs : sameSer a b with
      | false =>
        have e : allB sameSer (L.map Prod.fst) (L'.map Prod.fst) = false := by rw [hA, hs]; rfl
        rw [e]
        refine WL.not rfl rfl (WL.nil (W.condT rfl (W.seq (W.region (WL.as rfl rfl (WL.nil ?_))))))
        exact W.fit (Hs' := []) (by (repeat' first | exact Sel.nil | refine Sel.cons 0 rfl ?_ | refine Sel.cons 1 rfl ?_ | refine Sel.cons 2 rfl ?_ | refine Sel.cons 3 rfl ?_ | refine Sel.cons 4 rfl ?_ | refine Sel.cons 5 rfl ?_ | refine Sel.cons 6 rfl ?_ | refine Sel.cons 7 rfl ?_ | refine Sel.cons 8 rfl ?_)) (W.ret1 rfl rfl (fun h q => ⟨rfl, q⟩))
      | true =>
        rw [hs, Bool.true_and] at hA
        refine WL.not rfl rfl (WL.nil (W.condF rfl (W.skip (W.inBlock (W.region (WL.addK rfl rfl rfl (wrap_i64 ⟨by omega, by omega⟩) (WL.mv rfl rfl (WL.nil ?_))))))))
        refine W.fit (Hs' := []) (by (repeat' first | exact Sel.nil | refine Sel.cons 0 rfl ?_ | refine Sel.cons 1 rfl ?_ | refine Sel.cons 2 rfl ?_ | refine Sel.cons 3 rfl ?_ | refine Sel.cons 4 rfl ?_ | refine Sel.cons 5 rfl ?_ | refine Sel.cons 6 rfl ?_ | refine Sel.cons 7 rfl ?_ | refine Sel.cons 8 rfl ?_)) (W.sub ?_ (next (i + 1) ⟨by omega, hA⟩ (by omega)))
        exact ⟨rfl, rfl, rfl, rfl, rfl, trivial⟩
    · have e : allB sameSer (L.map Prod.fst) (L'.map Prod.fst) = true := by
        rw [hA, List.drop_of_length_le (by omega), List.drop_of_length_le (by omega)]; rfl
      rw [e]
      refine W.seq (W.region (WL.lss rfl rfl rfl (WL.nil (W.seq (W.condpF rfl (by omega) (W.exit rfl (W.seq (W.region (WL.as rfl rfl (WL.nil ?_))))))))))
      exact W.ret1 rfl rfl (fun h q => ⟨rfl, q⟩)
  · rw [allB_len (by rw [List.length_map, List.length_map]; exact hL)]
    refine W.seq (W.region (WL.as rfl rfl (WL.nil (W.seq (W.seq (W.region (WL.mv rfl rfl ?_)))))))
    refine WL.len (T := Ty) rfl rfl (by assumption) rfl ?_
    refine WL.mv rfl rfl ?_
    refine WL.len (T := Ty) rfl rfl (by assumption) rfl ?_
    refine WL.neq rfl rfl rfl (WL.nil (W.condpT rfl (by omega) (W.seq (W.region (WL.as rfl rfl (WL.nil ?_))))))
    exact W.ret1 rfl rfl (fun h q => ⟨rfl, q⟩)
-- CALL 59 refine WL.callV rfl rfl (fun x p d => eqfI_c _ _ _ _ _ _ $RO $RO (by first | assumption | exact Rds2.wide (by assumption)) (by first | assumption | exact Rds2.wide (by assumption)) (by assumption) (by assumption) (by first | assumption | omega)) ?_
theorem eqfI_c (ρ : Hp) (v v' : Value) (L L' : List (Itr × Value)) (n : Nat) (hv : ROs ρ 2 v (L.flatMap itrC)) (hv' : ROs ρ 2 v' (L'.flatMap itrC)) (hd : Rds rdItr ρ L) (hd' : Rds rdItr ρ L') (hn : ∀ p ∈ L, p.1.rest.length ≤ n) (hl : L.length ≤ n) (hb : n ≤ 100000000) :
    Fn Try.prog 59 #[v, v', .func (.func 57) #[] #[]] ρ [] (Just (.bool (allB sameItr (L.map Prod.fst) (L'.map Prod.fst)))) := by
  have sv : SL v L.length := hv.sl (itr_cells L) (by omega)
  have sv' : SL v' L'.length := hv'.sl (itr_cells L') (by omega)
  refine in59 rfl rfl ?_
  by_cases hL : L.length = L'.length
  · refine W.seq ?_
    refine W.region (WL.as rfl rfl (WL.nil (W.seq (W.seq (W.region (WL.mv rfl rfl ?_))))))
    refine WL.len (T := Ty) rfl rfl (by assumption) rfl ?_
    refine WL.mv rfl rfl ?_
    refine WL.len (T := Ty) rfl rfl (by assumption) rfl ?_
    refine WL.neq rfl rfl rfl (WL.nil (W.condpF rfl (by omega) (W.skip (W.seq (W.seq (W.region (WL.mv rfl rfl ?_)))))))
    refine WL.len (T := Ty) rfl rfl (by assumption) rfl ?_
    refine WL.mv rfl rfl (WL.nil (W.block ?_))
    refine W.loopS (σ := Nat) (fun i => [(1, v'), (2, .func (.func 57) #[] #[]), (15, v), (16, .int .i64 (L.length : Int)), (17, .int .i64 (i : Int))]) (fun _ => []) (fun i => i ≤ L.length ∧ allB sameItr (L.map Prod.fst) (L'.map Prod.fst) = allB sameItr ((L.drop i).map Prod.fst) ((L'.drop i).map Prod.fst)) (fun i => L.length - i) 0 ⟨rfl, rfl, rfl, rfl, rfl, trivial⟩ rfl ⟨Nat.zero_le _, rfl⟩ ?_
    intro i ⟨hi, hA⟩ next
    by_cases hlt : i < L.length
    · obtain ⟨⟨a, u⟩, ha⟩ : ∃ a, L[i]? = some a := ⟨_, List.getElem?_eq_getElem hlt⟩
      obtain ⟨⟨b, u'⟩, hb⟩ : ∃ b, L'[i]? = some b := ⟨_, List.getElem?_eq_getElem (by omega)⟩
      have hr : ((L.flatMap itrC).drop (((i : Nat) : Int).toNat * 2)).take 2 = [.int .i64 a.id, u] := flat_row (f := itrC) (k := 2) (fun _ => rfl) ha
      have hr' : ((L'.flatMap itrC).drop (((i : Nat) : Int).toNat * 2)).take 2 = [.int .i64 b.id, u'] := flat_row (f := itrC) (k := 2) (fun _ => rfl) hb
      have ru : ROs ρ 2 u (a.rest.flatMap smC) := hd _ (List.mem_of_getElem? ha)
      have ru' : ROs ρ 2 u' (b.rest.flatMap smC) := hd' _ (List.mem_of_getElem? hb)
      have su : SL u a.rest.length := ru.sl (sms_cells _) (by omega)
      have su' : SL u' b.rest.length := ru'.sl (sms_cells _) (by omega)
      have hla := hn _ (List.mem_of_getElem? ha)
      dsimp only at hla
      rw [drop_cons ha, drop_cons hb, List.map_cons, List.map_cons, allB] at hA
      refine W.seq (W.region (WL.lss rfl rfl rfl (WL.nil (W.seq (W.condpT rfl (by omega) (W.skip (W.seq (W.block (W.seq (W.region (WL.mv rfl rfl ?_)))))))))))
      refine WL.ix (T := Ty) rfl rfl rfl (by assumption) rfl rfl (by omega) (by first | omega | decide +kernel) ?_
      refine WL.ldAR (T := Ty) rfl rfl rfl rfl (by first | assumption | exact ROs.wide (by assumption)) (by assumption) rfl ?_
      refine WL.alF (T := Ty) rfl rfl (by repeat' first | exact FL.nil | apply FL.cons) (fun b0 => ?_)
      refine WL.as rfl rfl ?_
      refine WL.stAO (T := Ty) (j := 0) rfl rfl rfl rfl (by repeat' first | exact AO.nil | apply AO.cons (by first | rfl | exact SL.one (by assumption))) rfl rfl (by repeat' first | exact FL.nil | apply FL.cons) (by repeat' first | exact FL.nil | apply FL.cons) ?_
      refine WL.nil (W.seq (W.region (WL.mv rfl rfl (WL.mv rfl rfl ?_))))
      refine WL.ix (T := Ty) rfl rfl rfl (by assumption) rfl rfl (by omega) (by first | omega | decide +kernel) ?_
      refine WL.ldAR (T := Ty) rfl rfl rfl rfl (by first | assumption | exact ROs.wide (by assumption)) (by assumption) rfl ?_
      refine WL.alF (T := Ty) rfl rfl (by repeat' first | exact FL.nil | apply FL.cons) (fun b1 => ?_)
      refine WL.stAO (T := Ty) (j := 0) rfl rfl rfl rfl (by repeat' first | exact AO.nil | apply AO.cons (by first | rfl | exact SL.one (by assumption))) rfl rfl (by repeat' first | exact FL.nil | apply FL.cons) (by repeat' first | exact FL.nil | apply FL.cons) ?_
      refine WL.nil (W.seq (W.region (WL.mv rfl rfl ?_)))
      refine WL.ldAF (T := Ty) (j := 1) rfl rfl rfl rfl rfl rfl (by repeat' first | exact FL.nil | apply FL.cons) ?_
      refine WL.ldAF (T := Ty) (j := 0) rfl rfl rfl rfl rfl rfl (by repeat' first | exact FL.nil | apply FL.cons) ?_
      refine WL.callC (cs := []) rfl rfl rfl (same2_c _ a b u u' (by first | assumption | exact ROs.wide (by assumption)) (by first | assumption | exact ROs.wide (by assumption)) (by omega)) ?_
      cases hs : sameItr a b with
      | false =>
        have e : allB sameItr (L.map Prod.fst) (L'.map Prod.fst) = false := by rw [hA, hs]; rfl
        rw [e]
        refine WL.not rfl rfl (WL.nil (W.condT rfl (W.seq (W.region (WL.as rfl rfl (WL.nil ?_))))))
        exact W.fit (Hs' := []) (by (repeat' first | exact Sel.nil | refine Sel.cons 0 rfl ?_ | refine Sel.cons 1 rfl ?_ | refine Sel.cons 2 rfl ?_ | refine Sel.cons 3 rfl ?_ | refine Sel.cons 4 rfl ?_ | refine Sel.cons 5 rfl ?_ | refine Sel.cons 6 rfl ?_ | refine Sel.cons 7 rfl ?_ | refine Sel.cons 8 rfl ?_)) (W.ret1 rfl rfl (fun h q => ⟨rfl, q⟩))
      | true =>
        rw [hs, Bool.true_and] at hA
        refine WL.not rfl rfl (WL.nil (W.condF rfl (W.skip (W.inBlock (W.region (WL.addK rfl rfl rfl (wrap_i64 ⟨by omega, by omega⟩) (WL.mv rfl rfl (WL.nil ?_))))))))
        refine W.fit (Hs' := []) (by (repeat' first | exact Sel.nil | refine Sel.cons 0 rfl ?_ | refine Sel.cons 1 rfl ?_ | refine Sel.cons 2 rfl ?_ | refine Sel.cons 3 rfl ?_ | refine Sel.cons 4 rfl ?_ | refine Sel.cons 5 rfl ?_ | refine Sel.cons 6 rfl ?_ | refine Sel.cons 7 rfl ?_ | refine Sel.cons 8 rfl ?_)) (W.sub ?_ (next (i + 1) ⟨by omega, hA⟩ (by omega)))
        exact ⟨rfl, rfl, rfl, rfl, rfl, trivial⟩
    · have e : allB sameItr (L.map Prod.fst) (L'.map Prod.fst) = true := by
        rw [hA, List.drop_of_length_le (by omega), List.drop_of_length_le (by omega)]; rfl
      rw [e]
      refine W.seq (W.region (WL.lss rfl rfl rfl (WL.nil (W.seq (W.condpF rfl (by omega) (W.exit rfl (W.seq (W.region (WL.as rfl rfl (WL.nil ?_))))))))))
      exact W.ret1 rfl rfl (fun h q => ⟨rfl, q⟩)
  · rw [allB_len (by rw [List.length_map, List.length_map]; exact hL)]
    refine W.seq (W.region (WL.as rfl rfl (WL.nil (W.seq (W.seq (W.region (WL.mv rfl rfl ?_)))))))
    refine WL.len (T := Ty) rfl rfl (by assumption) rfl ?_
    refine WL.mv rfl rfl ?_
    refine WL.len (T := Ty) rfl rfl (by assumption) rfl ?_
    refine WL.neq rfl rfl rfl (WL.nil (W.condpT rfl (by omega) (W.seq (W.region (WL.as rfl rfl (WL.nil ?_))))))
    exact W.ret1 rfl rfl (fun h q => ⟨rfl, q⟩)
theorem RMdl.cells {h : Hp} {v : Value} {m : Mdl} (r : RMdl h v m) : ∃ sv iv L K, v = .agg #[sv, iv, .int .i64 m.next] ∧ L.map Prod.fst = m.ser ∧ K.map Prod.fst = m.its ∧ ROs h 5 sv (L.flatMap serC) ∧ ROs h 2 iv (K.flatMap itrC) ∧ Rds rdSer h L ∧ Rds rdItr h K := r
-- CALL 22 refine WL.callV rfl rfl (fun x p d => same_c _ _ _ _ _ _ $RM $RM (by assumption) (by first | assumption | omega)) ?_
theorem same_c (ρ : Hp) (v v' : Value) (m m' : Mdl) (n : Nat) (hm : RMdl ρ v m) (hm' : RMdl ρ v' m') (hI : MInv n m) (hb : n ≤ 1000000) :
    Fn Try.prog 22 #[v, v'] ρ [] (Just (.bool (sameMdl m m'))) := by
  refine in22 rfl rfl ?_
  obtain ⟨sv, iv, L, K, rfl, e1, e2, r1, r2, r3, r4⟩ := hm.cells
  obtain ⟨sv', iv', L', K', rfl, e1', e2', r1', r2', r3', r4'⟩ := hm'.cells
  obtain ⟨z, hz⟩ : ∃ z, sameMdl m m' = z := ⟨_, rfl⟩
  rw [hz]
  unfold sameMdl at hz
  rw [← e1, ← e2, ← e1', ← e2'] at hz
  have b1 : ∀ p ∈ L, p.1.list.length ≤ n + 8 := fun p hp => by have := hI.lens p.1 (by rw [← e1]; exact List.mem_map_of_mem hp); omega
  have b2 : ∀ p ∈ K, p.1.rest.length ≤ n + 8 := fun p hp => by have := hI.rests p.1 (by rw [← e2]; exact List.mem_map_of_mem hp); omega
  have b3 : L.length ≤ n + 8 := by have := hI.sers; rw [← e1, List.length_map] at this; omega
  have b4 : K.length ≤ n + 8 := by have := hI.its; rw [← e2, List.length_map] at this; omega
  clear hI
  obtain ⟨n', hn'⟩ : ∃ n', n' = n + 8 := ⟨_, rfl⟩
  rw [← hn'] at b1 b2 b3 b4
  replace hb : n' ≤ 100000000 := by omega
  clear hn' n
  by_cases h1 : m.next = m'.next
  · rw [decide_eq_true h1, Bool.true_and] at hz
    cases h2 : allB sameSer (L.map Prod.fst) (L'.map Prod.fst) with
    | false =>
      rw [h2] at hz
      simp only [Bool.false_and] at hz
      subst hz
      refine W.seq (W.region ?_)
      refine WL.bxF rfl rfl (by repeat' first | exact FL.nil | apply FL.cons) (fun b5 => ?_)
      refine WL.bxF rfl rfl (by repeat' first | exact FL.nil | apply FL.cons) (fun b6 => ?_)
      refine WL.as rfl rfl (WL.nil (W.seq (W.region (WL.as rfl rfl (WL.nil (W.seq (W.region (WL.as rfl rfl (WL.nil (W.seq (W.region (WL.faN (T := Ty) (off' := 2) rfl rfl rfl rfl rfl rfl rfl (WL.ldN (T := Ty) (j := 1) rfl rfl rfl rfl rfl rfl ?_)))))))))))))
      refine WL.faN (T := Ty) (off' := 2) rfl rfl rfl rfl rfl rfl rfl (WL.ldN (T := Ty) (j := 0) rfl rfl rfl rfl rfl rfl (WL.eql rfl rfl rfl (WL.mv rfl rfl (WL.gT rfl rfl (by omega) (WL.faN (T := Ty) (off' := 0) rfl rfl rfl rfl rfl rfl rfl (WL.gT rfl rfl (by omega) (WL.ldN (T := Ty) (j := 1) rfl rfl rfl rfl rfl rfl (WL.gT rfl rfl (by omega) (WL.faN (T := Ty) (off' := 0) rfl rfl rfl rfl rfl rfl rfl (WL.gT rfl rfl (by omega) (WL.ldN (T := Ty) (j := 0) rfl rfl rfl rfl rfl rfl (WL.gT rfl rfl (by omega) (WL.mv rfl rfl ?_)))))))))))))
      refine WL.gT rfl rfl (by omega) ?_
      refine WL.callV rfl rfl (fun x p d => eqfS_c _ _ _ _ _ _ (by first | assumption | exact ROs.wide (by assumption) | exact ROs.mono (by assumption) (eqh_at 0 rfl p d) | exact ros_at 0 rfl p d | exact ros_at 1 rfl p d | exact ros_at 2 rfl p d | exact ros_at 3 rfl p d | exact ros_at 4 rfl p d) (by first | assumption | exact ROs.wide (by assumption) | exact ROs.mono (by assumption) (eqh_at 0 rfl p d) | exact ros_at 0 rfl p d | exact ros_at 1 rfl p d | exact ros_at 2 rfl p d | exact ros_at 3 rfl p d | exact ros_at 4 rfl p d) (by first | assumption | exact Rds5.wide (by assumption)) (by first | assumption | exact Rds5.wide (by assumption)) (by assumption) (by assumption) (by first | assumption | omega)) ?_
      refine WL.pickTp rfl rfl (by omega) rfl (WL.mv rfl rfl ?_)
      rw [h2]
      refine WL.gdN rfl rfl rfl rfl rfl rfl (WL.gdN rfl rfl rfl rfl rfl rfl (WL.gdN rfl rfl rfl rfl rfl rfl (WL.gdN rfl rfl rfl rfl rfl rfl (WL.gdN rfl rfl rfl rfl rfl rfl (WL.gdN rfl rfl rfl rfl rfl rfl (WL.pickF rfl rfl rfl (WL.as rfl rfl (WL.nil ?_))))))))
      exact W.fit (Hs' := []) (by (repeat' first | exact Sel.nil | refine Sel.cons 0 rfl ?_ | refine Sel.cons 1 rfl ?_ | refine Sel.cons 2 rfl ?_ | refine Sel.cons 3 rfl ?_ | refine Sel.cons 4 rfl ?_ | refine Sel.cons 5 rfl ?_ | refine Sel.cons 6 rfl ?_ | refine Sel.cons 7 rfl ?_ | refine Sel.cons 8 rfl ?_)) (W.ret1 rfl rfl (fun h q => ⟨rfl, q⟩))
    | true =>
      rw [h2, Bool.true_and] at hz
      refine W.seq (W.region ?_)
      refine WL.bxF rfl rfl (by repeat' first | exact FL.nil | apply FL.cons) (fun b5 => ?_)
      refine WL.bxF rfl rfl (by repeat' first | exact FL.nil | apply FL.cons) (fun b6 => ?_)
      refine WL.as rfl rfl (WL.nil (W.seq (W.region (WL.as rfl rfl (WL.nil (W.seq (W.region (WL.as rfl rfl (WL.nil (W.seq (W.region (WL.faN (T := Ty) (off' := 2) rfl rfl rfl rfl rfl rfl rfl (WL.ldN (T := Ty) (j := 1) rfl rfl rfl rfl rfl rfl ?_)))))))))))))
      refine WL.faN (T := Ty) (off' := 2) rfl rfl rfl rfl rfl rfl rfl (WL.ldN (T := Ty) (j := 0) rfl rfl rfl rfl rfl rfl (WL.eql rfl rfl rfl (WL.mv rfl rfl (WL.gT rfl rfl (by omega) (WL.faN (T := Ty) (off' := 0) rfl rfl rfl rfl rfl rfl rfl (WL.gT rfl rfl (by omega) (WL.ldN (T := Ty) (j := 1) rfl rfl rfl rfl rfl rfl (WL.gT rfl rfl (by omega) (WL.faN (T := Ty) (off' := 0) rfl rfl rfl rfl rfl rfl rfl (WL.gT rfl rfl (by omega) (WL.ldN (T := Ty) (j := 0) rfl rfl rfl rfl rfl rfl (WL.gT rfl rfl (by omega) (WL.mv rfl rfl ?_)))))))))))))
      refine WL.gT rfl rfl (by omega) ?_
      refine WL.callV rfl rfl (fun x p d => eqfS_c _ _ _ _ _ _ (by first | assumption | exact ROs.wide (by assumption) | exact ROs.mono (by assumption) (eqh_at 0 rfl p d) | exact ros_at 0 rfl p d | exact ros_at 1 rfl p d | exact ros_at 2 rfl p d | exact ros_at 3 rfl p d | exact ros_at 4 rfl p d) (by first | assumption | exact ROs.wide (by assumption) | exact ROs.mono (by assumption) (eqh_at 0 rfl p d) | exact ros_at 0 rfl p d | exact ros_at 1 rfl p d | exact ros_at 2 rfl p d | exact ros_at 3 rfl p d | exact ros_at 4 rfl p d) (by first | assumption | exact Rds5.wide (by assumption)) (by first | assumption | exact Rds5.wide (by assumption)) (by assumption) (by assumption) (by first | assumption | omega)) ?_
      refine WL.pickTp rfl rfl (by omega) rfl (WL.mv rfl rfl ?_)
      rw [h2]
      refine WL.gY rfl rfl (WL.faN (T := Ty) (off' := 1) rfl rfl rfl rfl rfl rfl rfl (WL.gY rfl rfl (WL.ldN (T := Ty) (j := 1) rfl rfl rfl rfl rfl rfl (WL.gY rfl rfl (WL.faN (T := Ty) (off' := 1) rfl rfl rfl rfl rfl rfl rfl (WL.gY rfl rfl (WL.ldN (T := Ty) (j := 0) rfl rfl rfl rfl rfl rfl (WL.gY rfl rfl (WL.mv rfl rfl (WL.gY rfl rfl ?_))))))))))
      refine WL.callV rfl rfl (fun x p d => eqfI_c _ _ _ _ _ _ (by first | assumption | exact ROs.wide (by assumption) | exact ROs.mono (by assumption) (eqh_at 0 rfl p d) | exact ros_at 0 rfl p d | exact ros_at 1 rfl p d | exact ros_at 2 rfl p d | exact ros_at 3 rfl p d | exact ros_at 4 rfl p d) (by first | assumption | exact ROs.wide (by assumption) | exact ROs.mono (by assumption) (eqh_at 0 rfl p d) | exact ros_at 0 rfl p d | exact ros_at 1 rfl p d | exact ros_at 2 rfl p d | exact ros_at 3 rfl p d | exact ros_at 4 rfl p d) (by first | assumption | exact Rds2.wide (by assumption)) (by first | assumption | exact Rds2.wide (by assumption)) (by assumption) (by assumption) (by first | assumption | omega)) ?_
      refine WL.pickT rfl rfl rfl (WL.as rfl rfl (WL.nil ?_))
      rw [hz]
      skip
      exact W.fit (Hs' := []) (by (repeat' first | exact Sel.nil | refine Sel.cons 0 rfl ?_ | refine Sel.cons 1 rfl ?_ | refine Sel.cons 2 rfl ?_ | refine Sel.cons 3 rfl ?_ | refine Sel.cons 4 rfl ?_ | refine Sel.cons 5 rfl ?_ | refine Sel.cons 6 rfl ?_ | refine Sel.cons 7 rfl ?_ | refine Sel.cons 8 rfl ?_)) (W.ret1 rfl rfl (fun h q => ⟨rfl, q⟩))
  · rw [decide_eq_false h1] at hz
    simp only [Bool.false_and] at hz
    subst hz
    refine W.seq (W.region ?_)
    refine WL.bxF rfl rfl (by repeat' first | exact FL.nil | apply FL.cons) (fun b5 => ?_)
    refine WL.bxF rfl rfl (by repeat' first | exact FL.nil | apply FL.cons) (fun b6 => ?_)
    refine WL.as rfl rfl (WL.nil (W.seq (W.region (WL.as rfl rfl (WL.nil (W.seq (W.region (WL.as rfl rfl (WL.nil (W.seq (W.region (WL.faN (T := Ty) (off' := 2) rfl rfl rfl rfl rfl rfl rfl (WL.ldN (T := Ty) (j := 1) rfl rfl rfl rfl rfl rfl ?_)))))))))))))
    refine WL.faN (T := Ty) (off' := 2) rfl rfl rfl rfl rfl rfl rfl (WL.ldN (T := Ty) (j := 0) rfl rfl rfl rfl rfl rfl (WL.eql rfl rfl rfl (WL.mv rfl rfl (WL.gdTn rfl rfl rfl rfl rfl (by omega) (WL.gdTn rfl rfl rfl rfl rfl (by omega) (WL.gdTn rfl rfl rfl rfl rfl (by omega) (WL.gdTn rfl rfl rfl rfl rfl (by omega) (WL.gdTn rfl rfl rfl rfl rfl (by omega) (WL.gdTn rfl rfl rfl rfl rfl (by omega) (WL.pickFp rfl rfl (by omega) rfl (WL.mv rfl rfl (WL.gdN rfl rfl rfl rfl rfl rfl (WL.gdN rfl rfl rfl rfl rfl rfl ?_)))))))))))))
    refine WL.gdN rfl rfl rfl rfl rfl rfl (WL.gdN rfl rfl rfl rfl rfl rfl (WL.gdN rfl rfl rfl rfl rfl rfl (WL.gdN rfl rfl rfl rfl rfl rfl (WL.pickF rfl rfl rfl (WL.as rfl rfl (WL.nil ?_))))))
    exact W.fit (Hs' := []) (by (repeat' first | exact Sel.nil | refine Sel.cons 0 rfl ?_ | refine Sel.cons 1 rfl ?_ | refine Sel.cons 2 rfl ?_ | refine Sel.cons 3 rfl ?_ | refine Sel.cons 4 rfl ?_ | refine Sel.cons 5 rfl ?_ | refine Sel.cons 6 rfl ?_ | refine Sel.cons 7 rfl ?_ | refine Sel.cons 8 rfl ?_)) (W.ret1 rfl rfl (fun h q => ⟨rfl, q⟩))
-- CALL 23 refine WL.callV rfl rfl (fun x p d => sameR_c _ _ _ _ _ $RR $RR (by first | assumption | omega)) ?_
theorem sameR_c (ρ : Hp) (v v' : Value) (a b : Rst) (ha : RRst ρ v a) (hb : RRst ρ v' b) (hl : a.list.length ≤ 100000000) :
    Fn Try.prog 23 #[v, v'] ρ [] (Just (.bool (sameRst a b))) := by
  refine in23 rfl rfl ?_
  obtain ⟨u, rfl, ru⟩ := ha
  obtain ⟨u', rfl, ru'⟩ := hb
  unfold rstV
  obtain ⟨z, hz⟩ : ∃ z, sameRst a b = z := ⟨_, rfl⟩
  rw [hz]
  unfold sameRst at hz
  by_cases h1 : a.err = b.err
  · rw [decide_eq_true h1, Bool.true_and] at hz
    by_cases h2 : a.iter = b.iter
    · rw [decide_eq_true h2, Bool.true_and] at hz
      refine W.seq (W.region ?_)
      refine WL.bxF rfl rfl (by repeat' first | exact FL.nil | apply FL.cons) (fun b0 => ?_)
      refine WL.bxF rfl rfl (by repeat' first | exact FL.nil | apply FL.cons) (fun b1 => ?_)
      refine WL.as rfl rfl (WL.nil (W.seq (W.region (WL.faN (T := Ty) (off' := 0) rfl rfl rfl rfl rfl rfl rfl (WL.ldN (T := Ty) (j := 1) rfl rfl rfl rfl rfl rfl (WL.faN (T := Ty) (off' := 0) rfl rfl rfl rfl rfl rfl rfl (WL.ldN (T := Ty) (j := 0) rfl rfl rfl rfl rfl rfl (WL.eql rfl rfl rfl (WL.mv rfl rfl (WL.gT rfl rfl (by omega) (WL.faN (T := Ty) (off' := 1) rfl rfl rfl rfl rfl rfl rfl (WL.gT rfl rfl (by omega) (WL.ldN (T := Ty) (j := 1) rfl rfl rfl rfl rfl rfl ?_)))))))))))))
      refine WL.gT rfl rfl (by omega) (WL.faN (T := Ty) (off' := 1) rfl rfl rfl rfl rfl rfl rfl (WL.gT rfl rfl (by omega) (WL.ldN (T := Ty) (j := 0) rfl rfl rfl rfl rfl rfl (WL.gT rfl rfl (by omega) (WL.eql rfl rfl rfl (WL.pickTp rfl rfl (by omega) rfl (WL.mv rfl rfl (WL.gT rfl rfl (by omega) (WL.faN (T := Ty) (off' := 2) rfl rfl rfl rfl rfl rfl rfl (WL.gT rfl rfl (by omega) (WL.ldN (T := Ty) (j := 1) rfl rfl rfl rfl rfl rfl (WL.gT rfl rfl (by omega) (WL.faN (T := Ty) (off' := 2) rfl rfl rfl rfl rfl rfl rfl ?_)))))))))))))
      refine WL.gT rfl rfl (by omega) (WL.ldN (T := Ty) (j := 0) rfl rfl rfl rfl rfl rfl (WL.gT rfl rfl (by omega) ?_))
      refine WL.callV rfl rfl (fun x p d => eqM_c _ _ _ _ _ (by first | assumption | exact ROs.wide (by assumption) | exact ROs.mono (by assumption) (eqh_at 0 rfl p d) | exact ros_at 0 rfl p d | exact ros_at 1 rfl p d | exact ros_at 2 rfl p d | exact ros_at 3 rfl p d | exact ros_at 4 rfl p d) (by first | assumption | exact ROs.wide (by assumption) | exact ROs.mono (by assumption) (eqh_at 0 rfl p d) | exact ros_at 0 rfl p d | exact ros_at 1 rfl p d | exact ros_at 2 rfl p d | exact ros_at 3 rfl p d | exact ros_at 4 rfl p d) (by first | assumption | omega)) ?_
      refine WL.pickTp rfl rfl (by omega) rfl (WL.as rfl rfl (WL.nil ?_))
      rw [hz]
      skip
      exact W.fit (Hs' := []) (by (repeat' first | exact Sel.nil | refine Sel.cons 0 rfl ?_ | refine Sel.cons 1 rfl ?_ | refine Sel.cons 2 rfl ?_ | refine Sel.cons 3 rfl ?_ | refine Sel.cons 4 rfl ?_ | refine Sel.cons 5 rfl ?_ | refine Sel.cons 6 rfl ?_ | refine Sel.cons 7 rfl ?_ | refine Sel.cons 8 rfl ?_)) (W.ret1 rfl rfl (fun h q => ⟨rfl, q⟩))
    · rw [decide_eq_false h2] at hz
      simp only [Bool.false_and] at hz
      subst hz
      refine W.seq (W.region ?_)
      refine WL.bxF rfl rfl (by repeat' first | exact FL.nil | apply FL.cons) (fun b0 => ?_)
      refine WL.bxF rfl rfl (by repeat' first | exact FL.nil | apply FL.cons) (fun b1 => ?_)
      refine WL.as rfl rfl (WL.nil (W.seq (W.region (WL.faN (T := Ty) (off' := 0) rfl rfl rfl rfl rfl rfl rfl (WL.ldN (T := Ty) (j := 1) rfl rfl rfl rfl rfl rfl (WL.faN (T := Ty) (off' := 0) rfl rfl rfl rfl rfl rfl rfl (WL.ldN (T := Ty) (j := 0) rfl rfl rfl rfl rfl rfl (WL.eql rfl rfl rfl (WL.mv rfl rfl (WL.gT rfl rfl (by omega) (WL.faN (T := Ty) (off' := 1) rfl rfl rfl rfl rfl rfl rfl (WL.gT rfl rfl (by omega) (WL.ldN (T := Ty) (j := 1) rfl rfl rfl rfl rfl rfl ?_)))))))))))))
      refine WL.gT rfl rfl (by omega) (WL.faN (T := Ty) (off' := 1) rfl rfl rfl rfl rfl rfl rfl (WL.gT rfl rfl (by omega) (WL.ldN (T := Ty) (j := 0) rfl rfl rfl rfl rfl rfl (WL.gT rfl rfl (by omega) (WL.eql rfl rfl rfl (WL.pickTp rfl rfl (by omega) rfl (WL.mv rfl rfl (WL.gdTn rfl rfl rfl rfl rfl (by omega) (WL.gdTn rfl rfl rfl rfl rfl (by omega) (WL.gdTn rfl rfl rfl rfl rfl (by omega) (WL.gdTn rfl rfl rfl rfl rfl (by omega) (WL.gdTn rfl rfl rfl rfl rfl (by omega) (WL.pickFp rfl rfl (by omega) rfl ?_)))))))))))))
      refine WL.as rfl rfl (WL.nil ?_)
      exact W.fit (Hs' := []) (by (repeat' first | exact Sel.nil | refine Sel.cons 0 rfl ?_ | refine Sel.cons 1 rfl ?_ | refine Sel.cons 2 rfl ?_ | refine Sel.cons 3 rfl ?_ | refine Sel.cons 4 rfl ?_ | refine Sel.cons 5 rfl ?_ | refine Sel.cons 6 rfl ?_ | refine Sel.cons 7 rfl ?_ | refine Sel.cons 8 rfl ?_)) (W.ret1 rfl rfl (fun h q => ⟨rfl, q⟩))
  · rw [decide_eq_false h1] at hz
    simp only [Bool.false_and] at hz
    subst hz
    refine W.seq (W.region ?_)
    refine WL.bxF rfl rfl (by repeat' first | exact FL.nil | apply FL.cons) (fun b0 => ?_)
    refine WL.bxF rfl rfl (by repeat' first | exact FL.nil | apply FL.cons) (fun b1 => ?_)
    refine WL.as rfl rfl (WL.nil (W.seq (W.region (WL.faN (T := Ty) (off' := 0) rfl rfl rfl rfl rfl rfl rfl (WL.ldN (T := Ty) (j := 1) rfl rfl rfl rfl rfl rfl (WL.faN (T := Ty) (off' := 0) rfl rfl rfl rfl rfl rfl rfl (WL.ldN (T := Ty) (j := 0) rfl rfl rfl rfl rfl rfl (WL.eql rfl rfl rfl (WL.mv rfl rfl (WL.gdTn rfl rfl rfl rfl rfl (by omega) (WL.gdTn rfl rfl rfl rfl rfl (by omega) (WL.gdTn rfl rfl rfl rfl rfl (by omega) (WL.gdTn rfl rfl rfl rfl rfl (by omega) ?_)))))))))))))
    refine WL.gdTn rfl rfl rfl rfl rfl (by omega) (WL.pickFp rfl rfl (by omega) rfl (WL.mv rfl rfl (WL.gdN rfl rfl rfl rfl rfl rfl (WL.gdN rfl rfl rfl rfl rfl rfl (WL.gdN rfl rfl rfl rfl rfl rfl (WL.gdN rfl rfl rfl rfl rfl rfl (WL.gdN rfl rfl rfl rfl rfl rfl (WL.pickF rfl rfl rfl (WL.as rfl rfl (WL.nil ?_))))))))))
    exact W.fit (Hs' := []) (by (repeat' first | exact Sel.nil | refine Sel.cons 0 rfl ?_ | refine Sel.cons 1 rfl ?_ | refine Sel.cons 2 rfl ?_ | refine Sel.cons 3 rfl ?_ | refine Sel.cons 4 rfl ?_ | refine Sel.cons 5 rfl ?_ | refine Sel.cons 6 rfl ?_ | refine Sel.cons 7 rfl ?_ | refine Sel.cons 8 rfl ?_)) (W.ret1 rfl rfl (fun h q => ⟨rfl, q⟩))
end Go.Proofs.Ytbebhmdjnneimaa
