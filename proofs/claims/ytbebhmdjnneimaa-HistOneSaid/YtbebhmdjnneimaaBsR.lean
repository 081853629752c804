/- Two structs that are built into one slice. -/
import Derived.Test.YtbebhmdjnneimaaStc
import Derived.Test.YtbebhmdjnneimaaOwn
import Derived.Test.YtbebhmdjnneimaaRwx
set_option linter.unusedSimpArgs false
set_option linter.unusedVariables false
namespace Go.Proofs.Ytbebhmdjnneimaa
open Go
theorem put1_mid : ∀ (v a b t : List Value), b.length = v.length → put1 (a ++ (b ++ t)) a.length v = a ++ (v ++ t)
  | [], a, b, t, h => by
    have : b = [] := List.eq_nil_of_length_eq_zero h
    subst this
    rfl
  | x :: v, a, [], t, h => by simp at h
  | x :: v, a, y :: b, t, h => by
    have ih := put1_mid v (a ++ [x]) b t (by simpa using h)
    rw [put1]
    have e : (a ++ (y :: b ++ t)).set a.length x = (a ++ [x]) ++ (b ++ t) := by
      rw [List.cons_append, List.set_append_right _ _ (Nat.le_refl _), Nat.sub_self]; simp
    rw [e, show a.length + 1 = (a ++ [x]).length by simp, ih]
    simp
theorem fill_two {eS : Nat} {z c0 c1 : List Value} (hz : Nat.beq z.length eS = true) (h0 : Nat.beq c0.length eS = true) (h1 : Nat.beq c1.length eS = true) :
    fillC (fun i => some (i * eS, eS)) (zerosL z 2) [(0, c0), (1, c1)] = some (c0 ++ c1) := by
  have hz := Nat.eq_of_beq_eq_true hz
  have h0' := Nat.eq_of_beq_eq_true h0
  have h1' := Nat.eq_of_beq_eq_true h1
  have e : zerosL z 2 = z ++ z := by simp [zerosL]
  have b0 : Nat.ble (0 * eS + eS) (z ++ z).length = true := by rw [Nat.ble_eq, List.length_append]; omega
  have p0 : put1 (z ++ z) (0 * eS) c0 = c0 ++ z := by rw [Nat.zero_mul]; exact put1_mid c0 [] z z (by omega)
  have b1 : Nat.ble (1 * eS + eS) (c0 ++ z).length = true := by rw [Nat.ble_eq, List.length_append]; omega
  have p1 : put1 (c0 ++ z) (1 * eS) c1 = c0 ++ c1 := by
    have := put1_mid c1 c0 z [] (by omega)
    rw [h0', List.append_nil, List.append_nil] at this
    rw [Nat.one_mul]
    exact this
  rw [e]
  unfold fillC
  show (bif Nat.beq c0.length eS && Nat.ble (0 * eS + eS) (z ++ z).length then fillC _ (put1 (z ++ z) (0 * eS) c0) _ else none) = _
  rw [h0, b0, p0]
  unfold fillC
  show (bif Nat.beq c1.length eS && Nat.ble (1 * eS + eS) (c0 ++ z).length then fillC _ (put1 (c0 ++ z) (1 * eS) c1) _ else none) = _
  rw [h1, b1, p1]
  rfl
section
variable {P : Program} {T : Tab P} {fn : Func} {ρ : Hp} {X : World → Hp → Act → World → Prop} {env : Env} {Hs : List HP} {ops : Array Oper} {l : List Oper} {d : Tmp} {ty : TypeId} {pos : String} {aft : Array Edge}
theorem WL.bs2 {t E : TypeId} {x y : Operand} {c0 c1 : List Value} {eD : TypeDesc} {eS eB : Nat} {eZ : Value} {eC : Bool} {a b : Nat} {z : Value} {c : Bool} {out' : List Value} (hn : Nat.ble (d + 1) fn.ntmps = true)
    (ht : T.tt t = some ⟨.slice E, a, b, z, c⟩) (he : T.tt E = some ⟨eD, eS, eB, eZ, eC⟩) (hsz : Nat.beq eZ.cells.toList.length eS = true) (hN : Nat.ble (2 * eS) 16777216 = true)
    (hx : ev env x = some (.agg c0.toArray)) (hy : ev env y = some (.agg c1.toArray)) (h0 : Nat.beq c0.length eS = true) (h1 : Nat.beq c1.length eS = true) (hF : FL (c0 ++ c1) out')
    (h : ∀ v, SL v 2 → WL false P fn ρ X ops l ((d, v) :: env) (Buf eS v out' :: Hs)) : WL false P fn ρ X ops (⟨some d, .buildSlice t 2 #[(0, x), (1, y)], ty, pos, aft, none⟩ :: l) env Hs :=
  WL.bsC (T := T) (n := 2) (ps := [(0, x), (1, y)]) hn ht he hsz hN rfl (by simp only [evParts, hx, hy]) (.agg (.agg .nil)) (fill_two hsz h0 h1) hF h
/-- two elements more, of a struct's cells, which were just built -/
theorem WL.apS2 {x y : Operand} {t E : TypeId} {v u : Value} {cs news : List Value} {i n : Nat} {eD : TypeDesc} {eS eB : Nat} {eZ : Value} {eC : Bool} {a b : Nat} {z : Value} {c : Bool} {Hr : List HP} {Hs' : Value → List HP} (hn : Nat.ble (d + 1) fn.ntmps = true)
    (hx : ev env x = some v) (hy : ev env y = some u) (ht : T.tt t = some ⟨.slice E, a, b, z, c⟩) (he : T.tt E = some ⟨eD, eS, eB, eZ, eC⟩) (hz : Nat.beq eZ.cells.toList.length eS = true) (h0 : Nat.ble 1 eS = true)
    (hs : Hs = Buf eS u news :: Hr) (hH : nthH Hr i = some (Buf eS v cs)) (hu : SL u 2) (hm : Nat.beq news.length (2 * eS) = true) (hl : cs.length = n * eS) (h1 : AO news) (hb : (n + 2) * eB ≤ 140737488355328) (hM : n + 2 ≤ 140737488355328)
    (hF : ∀ v', FL (Hr.set i (Buf eS v' (cs ++ news))) (Hs' v'))
    (h : ∀ v', SL v' (n + 2) → WL false P fn ρ X ops l ((d, v') :: env) (Hs' v')) : WL false P fn ρ X ops (⟨some d, .call { callee := .builtin .append, args := #[x, y], argTypes := #[t, t] }, ty, pos, aft, none⟩ :: l) env Hs := by
  subst hs
  rw [nthH_eq] at hH
  refine WL.ap (T := T) (i := i + 1) (n := n) (m := 2) (news := news) (Hs' := fun v' => Buf eS u news :: Hr.set i (Buf eS v' (cs ++ news))) hn hx hy ht he hz h0 (by simpa using hH) (.own 0 (by simp)) hu hl (Nat.eq_of_beq_eq_true hm) h1.all hb (by unfold maxLen; omega) (fun v' => by simpa using FL.rfl _) (fun v' hv' => ?_)
  refine WL.drop 0 rfl (FL.rfl _) ?_
  simp only [List.eraseIdx_cons_zero]
  rw [(hF v').eq]
  exact h v' hv'
end
end Go.Proofs.Ytbebhmdjnneimaa
