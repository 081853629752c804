/- A closure is called that gives new parts. -/
import Derived.Test.YtbebhmdjnneimaaClos
import Derived.Test.YtbebhmdjnneimaaOwn
set_option linter.unusedSimpArgs false
set_option linter.unusedVariables false
namespace Go.Proofs.Ytbebhmdjnneimaa
open Go
section
variable {P : Program} {T : Tab P} {fn : Func} {ρ σ : Hp} {Q : Value → HP} {k : List Item} {md : Bool} {X : World → Hp → Act → World → Prop} {env : Env} {Hs : List HP} {ops : Array Oper} {l : List Oper} {d : Tmp} {ty : TypeId} {pos : String} {aft : Array Edge}
theorem WL.callCG {g : FuncId} {y : Operand} {xs : List Operand} {ts : Array TypeId} {vs cs : List Value} {H1 H2 : List HP} {Q1 : Value → HP} (hn : Nat.ble (d + 1) fn.ntmps = true)
    (hy : ev env y = some (.func (.func g) #[] cs.toArray)) (hv : xs.mapM (ev env) = some vs) (hc : Fn P g (vs ++ cs).toArray ρ H1 Q1) (hH : ∀ h, sepl Hs h → sepl (H1 ++ H2) h)
    (h : ∀ r, WL false P fn ρ X ops l ((d, r) :: env) (Q1 r :: H2)) :
    WL false P fn ρ X ops (⟨some d, .call { callee := .value y, args := xs.toArray, argTypes := ts }, ty, pos, aft, none⟩ :: l) env Hs := by
  intro w0 h0 w hh a s p e
  refine wpList_plain rfl fun K hK => ?_
  obtain ⟨x, z, hx, hz, dd, rfl⟩ := sepl_append.1 (hH _ p)
  have hargs := evs_map e hv
  unfold Oper.wp
  have hrun : (execOp a.eval ⟨some d, .call { callee := .value y, args := xs.toArray, argTypes := ts }, ty, pos, aft, none⟩).run P w = .ok (.enter g (vs ++ cs).toArray) w := by
    obtain ⟨⟨G, hG, hnm, hb⟩, _⟩ := hc
    have hb' : G.body.isNone = false := by cases hq : G.body <;> simp [hq] at hb ⊢
    have h1 : a.eval y = .func (.func g) #[] cs.toArray := e.eval hy
    simp only [execOp, resolve, h1, Deferred.ofValue, invoke, callFunc, List.map_toArray, hargs, Sem.run_bind, Sem.run_pure, Result.andThen_ok, run_program, hG, hnm, hb']
    simp [hG, hnm, hb']
  rw [hrun, Oper.upon_enter]
  have hdx : Dj ρ x := (dj_join_right.1 s.dj).1
  refine (hc.2 w x (fun b o hb => s.own b o (join_left hb)) s.ro hdx hx).mono ?_
  rintro _ w' ⟨r, x', rfl, s', hq⟩
  have hch := s.change dd s'.dom s'.own s'.rest s'.size s'.os s'.tape s'.output
  exact hK _ _ (h r w0 h0 w' _ _ hch.2 ⟨x', z, hq, hz, hch.1, rfl⟩ (e.put (Nat.le_of_ble_eq_true hn) r))
theorem WL.callCF {g : FuncId} {y : Operand} {xs : List Operand} {ts : Array TypeId} {vs cs : List Value} {Q1 : Value → HP} (hn : Nat.ble (d + 1) fn.ntmps = true)
    (hy : ev env y = some (.func (.func g) #[] cs.toArray)) (hv : xs.mapM (ev env) = some vs) (hc : ∀ x, sepl Hs x → Dj ρ x → Fn P g (vs ++ cs).toArray (join ρ x) [] Q1)
    (h : ∀ r, WL false P fn ρ X ops l ((d, r) :: env) (Q1 r :: Hs)) :
    WL false P fn ρ X ops (⟨some d, .call { callee := .value y, args := xs.toArray, argTypes := ts }, ty, pos, aft, none⟩ :: l) env Hs := by
  intro w0 h0 w hh a s p e
  have hok : FnOK P g := (hc hh p s.dj).1
  have hC : Fn P g (vs ++ cs).toArray ρ [sepl Hs] (fun r => sep (sepl Hs) (Q1 r)) := Fn.frame hok hc
  exact WL.callCG (H1 := [sepl Hs]) (H2 := []) hn hy hv hC (fun h p => sepl_one.2 p) (fun r => .hs (Hs' := Q1 r :: Hs) (fun h p => sep_comm (sepl_one.1 p)) (h r)) w0 h0 w hh a s p e
end
end Go.Proofs.Ytbebhmdjnneimaa
