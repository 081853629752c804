/- SameWords of the document: what it does. -/
import Derived.Test.YtjibmfkhhljhcaaStc
import Derived.Test.YtjibmfkhhljhcaaNum
import Derived.Test.YtjibmfkhhljhcaaTab
set_option linter.unusedSimpArgs false
set_option linter.unusedVariables false
set_option maxRecDepth 20000
set_option maxHeartbeats 4000000
namespace Go.Proofs.Ytjibmfkhhljhcaa
open Go
attribute [local irreducible] W WL Fn Buf ROs SL eptr box Rd Src bndOK WD RB Reads In

-- CALL 14 refine WL.callV rfl rfl (fun x p d => samew_t _ _ _ _ _ (by first | with_reducible rfl | assumption) $RO $RO (by first | assumption | omega | exact Nat.zero_le _ | decide)) ?_
-- CALL 14 refine WL.callV rfl rfl (fun x p d => samew_c _ _ _ _ _ $RO $RO (by first | assumption | omega | exact Nat.zero_le _ | decide)) ?_
theorem samew_c (ρ : Hp) (v w : Value) (xs ys : List Nat) (hv : ROs ρ 1 v (xs.map ucell)) (hw : ROs ρ 1 w (ys.map ucell)) (hl : xs.length ≤ 17592186044416) :
    Fn Try.prog 14 #[v, w] ρ [] (Just (.bool (decide (xs = ys)))) := by
  refine in14 rfl rfl ?_
  have sv := hv.slm
  have sw := hw.slm
  by_cases hlen : xs.length = ys.length
  · refine W.seq ?_
    refine W.region ?_
    refine WL.as rfl rfl ?_
    refine WL.nil ?_
    refine W.seq ?_
    refine W.seq ?_
    refine W.region ?_
    refine WL.mv rfl rfl ?_
    refine WL.len (T := Ty) rfl rfl (by assumption) rfl ?_
    refine WL.mv rfl rfl ?_
    refine WL.len (T := Ty) rfl rfl (by assumption) rfl ?_
    refine WL.neq rfl rfl rfl ?_
    refine WL.nil ?_
    refine W.condpF rfl (by omega) ?_
    refine W.skip ?_
    refine W.seq ?_
    refine W.seq ?_
    refine W.region ?_
    refine WL.as rfl rfl ?_
    refine WL.nil ?_
    refine W.block ?_
    refine W.loopS (σ := Nat) (fun i => [(0, v), (1, w), (5, .int .i64 (i : Int))]) (fun _ => []) (fun i => i ≤ xs.length ∧ xs.take i = ys.take i) (fun i => xs.length - i) 0 ⟨rfl, rfl, rfl, trivial⟩ rfl ⟨Nat.zero_le _, rfl⟩ ?_
    intro i ⟨hi, he⟩ next
    by_cases hlt : i < xs.length
    · obtain ⟨x, hx⟩ : ∃ x, xs[i]? = some x := ⟨_, List.getElem?_eq_getElem hlt⟩
      obtain ⟨y, hy⟩ : ∃ y, ys[i]? = some y := ⟨_, List.getElem?_eq_getElem (by omega)⟩
      have hx1 : (xs.map ucell)[i]? = some (ucell x) := by rw [List.getElem?_map, hx]; rfl
      have hy1 : (ys.map ucell)[i]? = some (ucell y) := by rw [List.getElem?_map, hy]; rfl
      by_cases hxy : x = y
      · refine W.seq ?_
        refine W.seq ?_
        refine W.region ?_
        refine WL.mv rfl rfl ?_
        refine WL.mv rfl rfl ?_
        refine WL.len (T := Ty) rfl rfl (by assumption) rfl ?_
        refine WL.lss rfl rfl rfl ?_
        refine WL.nil ?_
        refine W.condpT rfl (by omega) ?_
        refine W.skip ?_
        refine W.seq ?_
        refine W.block ?_
        refine W.seq ?_
        refine W.drawA 9 rfl (fun σ0 hσ0 dσ0 => ?_)
        refine WD.takeL 0 rfl (by decide +kernel) ?_
        refine WL.mv rfl rfl ?_
        refine WL.nilT ?_
        refine WD.takeL 1 rfl (by decide +kernel) ?_
        refine WL.mv rfl rfl ?_
        refine WL.nilT ?_
        refine WD.takeL 2 rfl (by decide +kernel) ?_
        refine WL.ix (T := Ty) rfl rfl rfl (by assumption) rfl rfl (by omega) (by first | omega | decide +kernel) ?_
        refine WL.nilT ?_
        refine WD.takeL 3 rfl (by decide +kernel) ?_
        refine WL.ldKn (T := Ty) rfl rfl rfl rfl (by first | assumption | exact ROs.wide (by assumption)) (by assumption) ?_
        refine WL.nilT ?_
        refine WD.takeL 4 rfl (by decide +kernel) ?_
        refine WL.mv rfl rfl ?_
        refine WL.nilT ?_
        refine WD.takeL 5 rfl (by decide +kernel) ?_
        refine WL.mv rfl rfl ?_
        refine WL.nilT ?_
        refine WD.takeL 6 rfl (by decide +kernel) ?_
        refine WL.ix (T := Ty) rfl rfl rfl (by assumption) rfl rfl (by omega) (by first | omega | decide +kernel) ?_
        refine WL.nilT ?_
        refine WD.takeL 7 rfl (by decide +kernel) ?_
        refine WL.ldKn (T := Ty) rfl rfl rfl rfl (by first | assumption | exact ROs.wide (by assumption)) (by assumption) ?_
        refine WL.nilT ?_
        refine WD.takeL 8 rfl (by decide +kernel) ?_
        refine WL.neq rfl rfl rfl ?_
        refine WL.nilT ?_
        refine WD.doneF hσ0 (by decide +kernel) (by repeat' first | exact FL.nil | apply FL.cons) ?_
        refine W.condpF rfl (by omega) ?_
        refine W.skip ?_
        refine W.inBlock ?_
        refine W.region ?_
        refine WL.mv rfl rfl ?_
        refine WL.addK rfl rfl rfl (wrap_i64 ⟨by omega, by omega⟩) ?_
        refine WL.as rfl rfl ?_
        refine WL.nil ?_
        refine W.sub ?_ (next (i + 1) ⟨by omega, by rw [List.take_add_one, List.take_add_one, he, hx, hy, hxy]⟩ (by omega))
        exact ⟨rfl, rfl, rfl, trivial⟩
      · have hne : ¬ xs = ys := by
          intro e
          rw [e, hy] at hx
          exact hxy (Option.some.inj hx).symm
        refine W.seq ?_
        refine W.seq ?_
        refine W.region ?_
        refine WL.mv rfl rfl ?_
        refine WL.mv rfl rfl ?_
        refine WL.len (T := Ty) rfl rfl (by assumption) rfl ?_
        refine WL.lss rfl rfl rfl ?_
        refine WL.nil ?_
        refine W.condpT rfl (by omega) ?_
        refine W.skip ?_
        refine W.seq ?_
        refine W.block ?_
        refine W.seq ?_
        refine W.drawA 9 rfl (fun σ0 hσ0 dσ0 => ?_)
        refine WD.takeL 0 rfl (by decide +kernel) ?_
        refine WL.mv rfl rfl ?_
        refine WL.nilT ?_
        refine WD.takeL 1 rfl (by decide +kernel) ?_
        refine WL.mv rfl rfl ?_
        refine WL.nilT ?_
        refine WD.takeL 2 rfl (by decide +kernel) ?_
        refine WL.ix (T := Ty) rfl rfl rfl (by assumption) rfl rfl (by omega) (by first | omega | decide +kernel) ?_
        refine WL.nilT ?_
        refine WD.takeL 3 rfl (by decide +kernel) ?_
        refine WL.ldKn (T := Ty) rfl rfl rfl rfl (by first | assumption | exact ROs.wide (by assumption)) (by assumption) ?_
        refine WL.nilT ?_
        refine WD.takeL 4 rfl (by decide +kernel) ?_
        refine WL.mv rfl rfl ?_
        refine WL.nilT ?_
        refine WD.takeL 5 rfl (by decide +kernel) ?_
        refine WL.mv rfl rfl ?_
        refine WL.nilT ?_
        refine WD.takeL 6 rfl (by decide +kernel) ?_
        refine WL.ix (T := Ty) rfl rfl rfl (by assumption) rfl rfl (by omega) (by first | omega | decide +kernel) ?_
        refine WL.nilT ?_
        refine WD.takeL 7 rfl (by decide +kernel) ?_
        refine WL.ldKn (T := Ty) rfl rfl rfl rfl (by first | assumption | exact ROs.wide (by assumption)) (by assumption) ?_
        refine WL.nilT ?_
        refine WD.takeL 8 rfl (by decide +kernel) ?_
        refine WL.neq rfl rfl rfl ?_
        refine WL.nilT ?_
        refine WD.doneF hσ0 (by decide +kernel) (by repeat' first | exact FL.nil | apply FL.cons) ?_
        refine W.condpT rfl (by omega) ?_
        refine W.seq ?_
        refine W.region ?_
        refine WL.as rfl rfl ?_
        refine WL.nil ?_
        exact W.ret1 rfl rfl (fun h p => ⟨by rw [decide_eq_false hne], p⟩)
    · have hee : xs = ys := by
        rw [List.take_of_length_le (by omega), List.take_of_length_le (by omega)] at he
        exact he
      refine W.seq ?_
      refine W.seq ?_
      refine W.region ?_
      refine WL.mv rfl rfl ?_
      refine WL.mv rfl rfl ?_
      refine WL.len (T := Ty) rfl rfl (by assumption) rfl ?_
      refine WL.lss rfl rfl rfl ?_
      refine WL.nil ?_
      refine W.condpF rfl (by omega) ?_
      refine W.exit rfl ?_
      refine W.seq ?_
      refine W.region ?_
      refine WL.as rfl rfl ?_
      refine WL.nil ?_
      exact W.ret1 rfl rfl (fun h p => ⟨by rw [decide_eq_true hee], p⟩)
  · have hne : ¬ xs = ys := fun e => hlen (by rw [e])
    refine W.seq ?_
    refine W.region ?_
    refine WL.as rfl rfl ?_
    refine WL.nil ?_
    refine W.seq ?_
    refine W.seq ?_
    refine W.region ?_
    refine WL.mv rfl rfl ?_
    refine WL.len (T := Ty) rfl rfl (by assumption) rfl ?_
    refine WL.mv rfl rfl ?_
    refine WL.len (T := Ty) rfl rfl (by assumption) rfl ?_
    refine WL.neq rfl rfl rfl ?_
    refine WL.nil ?_
    refine W.condpT rfl (by omega) ?_
    refine W.seq ?_
    refine W.region ?_
    refine WL.as rfl rfl ?_
    refine WL.nil ?_
    exact W.ret1 rfl rfl (fun h p => ⟨by rw [decide_eq_false hne], p⟩)
theorem samew_t (ρ : Hp) (v w : Value) (xs ys : List Nat) (e : xs = ys) (hv : ROs ρ 1 v (xs.map ucell)) (hw : ROs ρ 1 w (ys.map ucell)) (hl : xs.length ≤ 17592186044416) :
    Fn Try.prog 14 #[v, w] ρ [] (Just (.bool true)) := by
  have := samew_c ρ v w xs ys hv hw hl
  rw [decide_eq_true e] at this
  exact this
end Go.Proofs.Ytjibmfkhhljhcaa
