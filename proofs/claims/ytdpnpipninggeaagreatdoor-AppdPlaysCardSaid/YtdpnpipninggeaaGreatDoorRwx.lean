/- Rows whose room is told: what stands behind a slice's end, too. Over whatever program. -/
import Derived.Test.YtdpnpipninggeaaGreatDoorGrow
import Derived.Test.YtdpnpipninggeaaGreatDoorApz
import Derived.Lib.Overlaps
set_option linter.unusedSimpArgs false
set_option linter.unusedVariables false
namespace Go.Proofs.YtdpnpipninggeaaGreatDoor
open Go
/-- a row, all of it -/
def Rw (b : Nat) (T : TypeId) (c : List Value) : HP := fun h => ∃ fr : Nat × Nat, (fr.1 = fr.2 ∨ c.length ≤ fr.1) ∧ pts b (.cells c.toArray T fr) h
abbrev slv (b off n c : Nat) : Value := .slice (some ⟨b, off, none⟩) n c
section
variable {P : Program} {T : Tab P} {fn : Func} {ρ σ : Hp} {Q : Value → HP} {k : List Item} {md : Bool} {X : World → Hp → Act → World → Prop} {env : Env} {Hs : List HP} {ops : Array Oper} {l : List Oper}
variable {d : Tmp} {ty : TypeId} {pos : String} {aft : Array Edge}
theorem bound_run {w : World} {K : IntKind} {m y : Nat} {c : BoundsCode} (h : m ≤ y) : (Instr.sliceBound (.int K (m : Int)) y c).run P w = .ok m w := by
  have h1 : (m : Int) ≤ (y : Int) := by omega
  simp [Instr.sliceBound, asIntOf, h1]
theorem bounds_run {w : World} {len cap lo hi mx : Nat} {A B C : Option Value} (hA : (A = none ∧ lo = 0) ∨ ∃ K, A = some (.int K (lo : Int))) (hB : (B = none ∧ hi = len ∧ C = none) ∨ ∃ K, B = some (.int K (hi : Int)))
    (hC : (C = none ∧ mx = cap) ∨ ∃ K, C = some (.int K (mx : Int))) (h1 : lo ≤ hi) (h2 : hi ≤ mx) (h3 : mx ≤ cap) : (Instr.sliceBounds true len cap A B C).run P w = .ok (lo, hi, mx) w := by
  rcases hC with ⟨rfl, rfl⟩ | ⟨Kc, rfl⟩ <;> rcases hB with ⟨rfl, rfl, hc⟩ | ⟨Kb, rfl⟩ <;> rcases hA with ⟨rfl, rfl⟩ | ⟨Ka, rfl⟩ <;>
    first
    | cases hc; done
    | simp [Instr.sliceBounds, bound_run (P := P) h1, bound_run (P := P) h2, bound_run (P := P) h3, Result.andThen]
/-- cells of a row are written over -/
def over (buf : List Value) (at' : Nat) (vs : List Value) : List Value := buf.take at' ++ vs ++ buf.drop (at' + vs.length)
end
end Go.Proofs.YtdpnpipninggeaaGreatDoor
/- Rows whose room is told: zeros appended beyond the room. Over whatever program. -/
set_option linter.unusedSimpArgs false
set_option linter.unusedVariables false
namespace Go.Proofs.YtdpnpipninggeaaGreatDoor
open Go
section
variable {P : Program} {T : Tab P} {fn : Func} {ρ σ : Hp} {Q : Value → HP} {k : List Item} {md : Bool} {X : World → Hp → Act → World → Prop} {env : Env} {Hs : List HP} {ops : Array Oper} {l : List Oper}
variable {d : Tmp} {ty : TypeId} {pos : String} {aft : Array Edge}
/-- nil, cut from its beginning -/
theorem WL.slZ {x : Operand} {A B C : Option Operand} {t E : TypeId} {eD : TypeDesc} {eS eB : Nat} {eZ : Value} {eC : Bool} {a q : Nat} {z : Value} {cc : Bool} (hn : Nat.ble (d + 1) fn.ntmps = true)
    (hx : ev env x = some (.slice none 0 0)) (hA : bndOK env A 0 0) (hB : (B = none ∧ C = none) ∨ ∃ y K, B = some y ∧ ev env y = some (.int K 0)) (hC : bndOK env C 0 0) (ht : T.tt t = some ⟨.slice E, a, q, z, cc⟩) (he : T.tt E = some ⟨eD, eS, eB, eZ, eC⟩)
    (h : WL md P fn ρ X ops l ((d, .slice none 0 0) :: env) Hs) : WL md P fn ρ X ops (⟨some d, .slice t x A B C, ty, pos, aft, none⟩ :: l) env Hs :=
  .val rfl rfl hn (fun f w e => by
    have ka : (A.map f = none ∧ (0 : Nat) = 0) ∨ ∃ K, A.map f = some (.int K ((0 : Nat) : Int)) := by
      rcases hA with ⟨rfl, h⟩ | ⟨y, K, rfl, h⟩
      · exact .inl ⟨rfl, rfl⟩
      · exact .inr ⟨K, by simp [e _ _ h]⟩
    have kc : (C.map f = none ∧ (0 : Nat) = 0) ∨ ∃ K, C.map f = some (.int K ((0 : Nat) : Int)) := by
      rcases hC with ⟨rfl, h⟩ | ⟨y, K, rfl, h⟩
      · exact .inl ⟨rfl, rfl⟩
      · exact .inr ⟨K, by simp [e _ _ h]⟩
    have kb : (B.map f = none ∧ (0 : Nat) = 0 ∧ C.map f = none) ∨ ∃ K, B.map f = some (.int K ((0 : Nat) : Int)) := by
      rcases hB with ⟨rfl, rfl⟩ | ⟨y, K, rfl, h⟩
      · exact .inl ⟨rfl, rfl, rfl⟩
      · exact .inr ⟨K, by simp [e _ _ h]⟩
    have hb := bounds_run (P := P) (w := w) ka kb kc (Nat.le_refl _) (Nat.le_refl _) (Nat.le_refl _)
    simp [execOp, e _ _ hx, Instr.sliceAt, Instr.slice, hb, T.runU ht, T.runS he, Result.andThen]) h
/- copies whose count is taken -/
/-- where this stands in the context, a slice that is built is told as a row of its own -/
def UseX : Prop := True
end
end Go.Proofs.YtdpnpipninggeaaGreatDoor
