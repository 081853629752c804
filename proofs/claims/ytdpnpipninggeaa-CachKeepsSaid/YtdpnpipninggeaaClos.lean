/- Functions that are values. -/
import Derived.Test.YtdpnpipninggeaaGrow
set_option linter.unusedSimpArgs false
set_option linter.unusedVariables false
namespace Go.Proofs.Ytdpnpipninggeaa
open Go
section
variable {P : Program} {T : Tab P} {fn : Func} {ρ σ : Hp} {Q : Value → HP} {k : List Item} {md : Bool} {X : World → Hp → Act → World → Prop} {env : Env} {Hs : List HP} {ops : Array Oper} {l : List Oper}
variable {d : Tmp} {ty : TypeId} {pos : String} {aft : Array Edge}
theorem evs_map {a : Act} {n : Nat} (e : EnvOK n env a) : ∀ {xs : List Operand} {vs : List Value}, xs.mapM (ev env) = some vs → xs.map a.eval = vs
  | [], vs, hv => by simp at hv; simp [hv]
  | z :: xs, vs, hv => by
    simp only [List.mapM_cons, Option.bind_eq_bind, Option.bind_eq_some_iff] at hv
    obtain ⟨v, h1, vs', h2, h3⟩ := hv
    simp at h3
    subst h3
    simp [e.eval h1, evs_map e h2]
/-- a function with variables of another is made -/
theorem WL.mkF {g : FuncId} {ys : List Operand} {cs : List Value} (hn : Nat.ble (d + 1) fn.ntmps = true) (hy : ys.mapM (ev env) = some cs)
    (h : WL md P fn ρ X ops l ((d, .func (.func g) #[] cs.toArray) :: env) Hs) : WL md P fn ρ X ops (⟨some d, .makeFunc (.func g) #[] ys.toArray, ty, pos, aft, none⟩ :: l) env Hs :=
  .val rfl rfl hn (fun f w e => by
    have : ys.map f = cs := by
      clear h
      induction ys generalizing cs with
      | nil => simp at hy; simp [hy]
      | cons z ys ih =>
        simp only [List.mapM_cons, Option.bind_eq_bind, Option.bind_eq_some_iff] at hy
        obtain ⟨v, h1, vs', h2, h3⟩ := hy
        simp at h3
        subst h3
        simp [e _ _ h1, ih h2]
    simp [execOp, Instr.makeFunc, this]) h
/-- and called -/
theorem WL.callC {g : FuncId} {y : Operand} {xs : List Operand} {ts : Array TypeId} {vs cs : List Value} {v : Value} (hn : Nat.ble (d + 1) fn.ntmps = true)
    (hy : ev env y = some (.func (.func g) #[] cs.toArray)) (hv : xs.mapM (ev env) = some vs) (hc : Fn P g (vs ++ cs).toArray ρ [] (Just v))
    (h : WL false P fn ρ X ops l ((d, v) :: env) Hs) :
    WL false P fn ρ X ops (⟨some d, .call { callee := .value y, args := xs.toArray, argTypes := ts }, ty, pos, aft, none⟩ :: l) env Hs := by
  intro w0 h0 w hh a s p e
  refine wpList_plain rfl fun K hK => ?_
  have hargs := evs_map e hv
  unfold Oper.wp
  have hrun : (execOp a.eval ⟨some d, .call { callee := .value y, args := xs.toArray, argTypes := ts }, ty, pos, aft, none⟩).run P w = .ok (.enter g (vs ++ cs).toArray) w := by
    obtain ⟨⟨G, hG, hnm, hb⟩, _⟩ := hc
    have hb' : G.body.isNone = false := by cases hq : G.body <;> simp [hq] at hb ⊢
    have h1 : a.eval y = .func (.func g) #[] cs.toArray := e.eval hy
    simp only [execOp, resolve, h1, Deferred.ofValue, invoke, callFunc, List.map_toArray, hargs, Sem.run_bind, Sem.run_pure, Result.andThen_ok, run_program, hG, hnm, hb']
    simp [hG, hnm, hb']
  rw [hrun, Oper.upon_enter]
  have dn : Dj hh nohp := dj_nohp _
  have hdx : Dj ρ nohp := dj_nohp _
  refine (hc.2 w nohp (fun b o hb => by cases hb) s.ro hdx emp_nohp).mono ?_
  rintro _ w' ⟨r, x', rfl, s', hr, hq⟩
  subst hr
  have hx' := emp_eq hq
  subst hx'
  have s2 : St ρ w0 h0 w (join nohp hh) := by rw [join_nohp']; exact s
  have hch := s2.change (dj_nohp' _) s'.dom s'.own s'.rest s'.size s'.os s'.tape s'.output
  have h2 := hch.2
  rw [join_nohp'] at h2
  exact hK _ _ (h w0 h0 w' _ _ h2 p (e.put (Nat.le_of_ble_eq_true hn) _))
end
end Go.Proofs.Ytdpnpipninggeaa
