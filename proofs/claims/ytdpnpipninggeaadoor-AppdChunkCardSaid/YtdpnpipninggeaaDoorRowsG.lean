/- Rows whose room is told: zeros appended beyond the room. Over whatever program. -/
import Derived.Test.YtdpnpipninggeaaDoorRwx
import Derived.Test.YtdpnpipninggeaaDoorApz
import Derived.Lib.Overlaps
set_option linter.unusedSimpArgs false
set_option linter.unusedVariables false
namespace Go.Proofs.YtdpnpipninggeaaDoor
open Go
section
variable {P : Program} {T : Tab P} {fn : Func} {ρ σ : Hp} {Q : Value → HP} {k : List Item} {md : Bool} {X : World → Hp → Act → World → Prop} {env : Env} {Hs : List HP} {ops : Array Oper} {l : List Oper}
variable {d : Tmp} {ty : TypeId} {pos : String} {aft : Array Edge}
/-- a slice is built, its row told -/
theorem WL.bsX {t E : TypeId} {n : Nat} {ps : List (Nat × Operand)} {vs : List (Nat × Value)} {eD : TypeDesc} {eS eB : Nat} {eZ : Value} {eC : Bool} {a b : Nat} {z : Value} {c : Bool} {out out' : List Value} (hn : Nat.ble (d + 1) fn.ntmps = true)
    (ht : T.tt t = some ⟨.slice E, a, b, z, c⟩) (he : T.tt E = some ⟨eD, eS, eB, eZ, eC⟩) (hsz : Nat.beq eZ.cells.toList.length eS = true) (hN : Nat.ble (n * eS) 16777216 = true) (hN' : Nat.ble n 16777216 = true) (hv : evParts env ps = some vs)
    (hf : fillL (fun i => some (i * eS, eS)) (zerosL eZ.cells.toList n) vs = some out) (hF : FL out out')
    (h : ∀ b', WL false P fn ρ X ops l ((d, slv b' 0 n n) :: env) (box b' out' E :: Hs)) : WL false P fn ρ X ops (⟨some d, .buildSlice t n ps.toArray, ty, pos, aft, none⟩ :: l) env Hs :=
  .turns (ok := fun v Hs' => ∃ b', v = slv b' 0 n n ∧ Hs' = box b' out' E :: Hs) rfl rfl hn (fun f w0 h0 w hh s p e => by
    have hF := hF.eq
    subst hF
    have hsz := Nat.eq_of_beq_eq_true hsz
    have hN := Nat.le_of_ble_eq_true hN
    have hN' := Nat.le_of_ble_eq_true hN'
    have hfill := fill_of_fillL vs _ _ hf
    have hm := evParts_map e ps vs hv
    have hol : out.length = n * eS := by
      have hkeep : ∀ (vs : List (Nat × Value)) (cs out : List Value), fillL (fun i => some (i * eS, eS)) cs vs = some out → out.length = cs.length := by
        intro vs
        induction vs with
        | nil => intro cs out h; simp [fillL] at h; rw [h]
        | cons q r ih =>
          intro cs out h
          simp only [fillL] at h
          cases hc : (Nat.beq q.2.cells.toList.length eS && Nat.ble (q.1 * eS + eS) cs.length) with
          | false => rw [hc] at h; simp at h
          | true => simp only [hc, cond_true] at h; rw [ih _ _ h, put1_length]
      rw [hkeep _ _ _ hf, zerosL_length, hsz]
    have hnew := s.new (.cells out.toArray E)
    refine ⟨slv w.heap.size 0 n n, _, _, box w.heap.size out E :: Hs, ?_, hnew.2, ⟨_, _, pts_one _ _, p, hnew.1, rfl⟩, w.heap.size, rfl, rfl⟩
    have hz := zeros_eq eZ n
    simp only [Array.length_toList] at hsz
    rw [hsz] at hz
    by_cases h00 : n * eS = 0
    · have ho : zerosL eZ.cells.toList n = [] := List.eq_nil_of_length_eq_zero (by rw [zerosL_length]; simpa [hsz] using h00)
      rw [ho] at hfill
      have hr0 : (Array.range (n * eS)).map (fun i => (#[] : Array Value)[i % (#[] : Array Value).size]!) = #[] := by rw [h00, Array.range_zero', Array.map_empty]
      have hlt : ¬ (n * eS > 2 ^ 24) := by omega
      simp only [execOp, Instr.buildSlice, Sem.run_bind, T.runU ht, T.runS he, Result.andThen_ok, if_neg hlt, if_pos h00, Sem.run_pure, hr0]
      have hm' : (ps.toArray.map fun x => (x.1, f x.2)).toList = vs := by simpa using hm
      simp [hm', hm, hfill, newRow]
    · simp [execOp, Instr.buildSlice, T.runU ht, T.runS he, T.runZ he, hm, show ¬ (16777216 < n * eS) by omega, h00, hsz, hz, hfill, newRow]) (fun v Hs' ⟨b', hv, hH⟩ => by subst hv; subst hH; exact h b')
/-- nil, cut from its beginning -/
theorem WL.slZ {x : Operand} {A B C : Option Operand} {t E : TypeId} {eD : TypeDesc} {eS eB : Nat} {eZ : Value} {eC : Bool} {a q : Nat} {z : Value} {cc : Bool} (hn : Nat.ble (d + 1) fn.ntmps = true)
    (hx : ev env x = some (.slice none 0 0)) (hA : bndOK env A 0 0) (hB : (B = none ∧ C = none) ∨ ∃ y K, B = some y ∧ ev env y = some (.int K 0)) (hC : bndOK env C 0 0) (ht : T.tt t = some ⟨.slice E, a, q, z, cc⟩) (he : T.tt E = some ⟨eD, eS, eB, eZ, eC⟩)
    (h : WL md P fn ρ X ops l ((d, .slice none 0 0) :: env) Hs) : WL md P fn ρ X ops (⟨some d, .slice t x A B C, ty, pos, aft, none⟩ :: l) env Hs :=
  .val rfl rfl hn (fun f w e => by
    have ka : (A.map f = none ∧ (0 : Nat) = 0) ∨ ∃ K, A.map f = some (.int K ((0 : Nat) : Int)) := by
      rcases hA with ⟨rfl, h⟩ | ⟨y, K, rfl, h⟩
      · exact .inl ⟨rfl, rfl⟩
      · exact .inr ⟨K, by simp [e _ _ h]⟩
    have kc : (C.map f = none ∧ (0 : Nat) = 0) ∨ ∃ K, C.map f = some (.int K ((0 : Nat) : Int)) := by
      rcases hC with ⟨rfl, h⟩ | ⟨y, K, rfl, h⟩
      · exact .inl ⟨rfl, rfl⟩
      · exact .inr ⟨K, by simp [e _ _ h]⟩
    have kb : (B.map f = none ∧ (0 : Nat) = 0 ∧ C.map f = none) ∨ ∃ K, B.map f = some (.int K ((0 : Nat) : Int)) := by
      rcases hB with ⟨rfl, rfl⟩ | ⟨y, K, rfl, h⟩
      · exact .inl ⟨rfl, rfl, rfl⟩
      · exact .inr ⟨K, by simp [e _ _ h]⟩
    have hb := bounds_run (P := P) (w := w) ka kb kc (Nat.le_refl _) (Nat.le_refl _) (Nat.le_refl _)
    simp [execOp, e _ _ hx, Instr.sliceAt, Instr.slice, hb, T.runU ht, T.runS he, Result.andThen]) h
/- copies whose count is taken -/
/-- where this stands in the context, a slice that is built is told as a row of its own -/
def UseX : Prop := True
theorem WL.bsXh (hu : UseX) {t E : TypeId} {n : Nat} {ps : List (Nat × Operand)} {vs : List (Nat × Value)} {eD : TypeDesc} {eS eB : Nat} {eZ : Value} {eC : Bool} {a b : Nat} {z : Value} {c : Bool} {out out' : List Value} (hn : Nat.ble (d + 1) fn.ntmps = true)
    (ht : T.tt t = some ⟨.slice E, a, b, z, c⟩) (he : T.tt E = some ⟨eD, eS, eB, eZ, eC⟩) (hsz : Nat.beq eZ.cells.toList.length eS = true) (hN : Nat.ble (n * eS) 16777216 = true) (hN' : Nat.ble n 16777216 = true) (hv : evParts env ps = some vs)
    (hf : fillL (fun i => some (i * eS, eS)) (zerosL eZ.cells.toList n) vs = some out) (hF : FL out out')
    (h : ∀ b', WL false P fn ρ X ops l ((d, slv b' 0 n n) :: env) (box b' out' E :: Hs)) : WL false P fn ρ X ops (⟨some d, .buildSlice t n ps.toArray, ty, pos, aft, none⟩ :: l) env Hs :=
  .bsX (T := T) hn ht he hsz hN hN' hv hf hF h
end
end Go.Proofs.YtdpnpipninggeaaDoor
