/- make of a row of zero values, and append of such, their number told by an equation; over whatever program. -/
import Derived.Test.YtjibmfkhhljhcaaApz
set_option linter.unusedSimpArgs false
set_option linter.unusedVariables false
namespace Go.Proofs.Ytjibmfkhhljhcaa
open Go
section
variable {P : Program} {T : Tab P} {fn : Func} {ρ σ : Hp} {Q : Value → HP} {k : List Item} {md : Bool} {X : World → Hp → Act → World → Prop} {env : Env} {Hs : List HP} {ops : Array Oper} {l : List Oper}
variable {d : Tmp} {ty : TypeId} {pos : String} {aft : Array Edge} {n fuel : Nat} {listed : Array Bool}
theorem WL.mkM {α : Type} [Inhabited α] {f : α → Value} {x y : Operand} {t E : TypeId} {n : Nat} {q : Int} {K K' : IntKind} {eD : TypeDesc} {eB : Nat} {eZ : Value} {eC : Bool} {a b : Nat} {z : Value} {c : Bool} (hn : Nat.ble (d + 1) fn.ntmps = true) (hx : ev env x = some (.int K q)) (hy : ev env y = some (.int K' q))
    (hqn : q = ((n : Nat) : Int)) (ht : T.tt t = some ⟨.slice E, a, b, z, c⟩) (he : T.tt E = some ⟨eD, 1, eB, eZ, eC⟩) (hq : eZ.cells.toList = [f default]) (hb : n * eB ≤ 281474976710656) (hM : n ≤ 140737488355328)
    (h : ∀ v, SL v n → WL false P fn ρ X ops l ((d, v) :: env) (Buf 1 v ((List.replicate n default).map f) :: Hs)) : WL false P fn ρ X ops (⟨some d, .makeSlice t x y, ty, pos, aft, none⟩ :: l) env Hs := by
  subst hqn
  refine WL.mk (T := T) (n := n) hn hx hy ht he (by rw [hq]; rfl) hb (by unfold maxLen; omega) rfl (fun v hv => ?_)
  rw [zerosL_map hq]
  exact h v hv
theorem WL.apZe {α : Type} [Inhabited α] {f : α → Value} {L : List α} {x y : Operand} {t E tI : TypeId} {v : Value} {tii : TyI} {i m : Nat} {q : Int} {eD : TypeDesc} {eB : Nat} {eZ : Value} {eC : Bool} {a b : Nat} {z : Value} {c : Bool} {Hs' : Value → List HP} (hn : Nat.ble (d + 1) fn.ntmps = true)
    (hx : ev env x = some v) (hy : ev env y = some (.int .i64 q)) (hqm : q = ((m : Nat) : Int)) (ht : T.tt t = some ⟨.slice E, a, b, z, c⟩) (he : T.tt E = some ⟨eD, 1, eB, eZ, eC⟩) (hti : T.tt tI = some tii) (hdk : tii.desc = .int .i64) (hq : eZ.cells.toList = [f default])
    (hH : nthH Hs i = some (Buf 1 v (L.map f))) (hf : ∀ a, (f a).oneCell' = true) (hb : (L.length + m) * eB ≤ 140737488355328) (hM : L.length + m ≤ 140737488355328)
    (hF : ∀ v', FL (Hs.set i (Buf 1 v' ((L ++ List.replicate m default).map f))) (Hs' v'))
    (h : ∀ v', SL v' (L ++ List.replicate m default).length → WL false P fn ρ X ops l ((d, v') :: env) (Hs' v')) : WL false P fn ρ X ops (⟨some d, .call { callee := .builtin .append, args := #[x, y], argTypes := #[t, tI] }, ty, pos, aft, none⟩ :: l) env Hs := by
  subst hqm
  exact .apZ (T := T) hn hx hy ht he hti hdk hq hH hf hb hM hF h
end
end Go.Proofs.Ytjibmfkhhljhcaa
