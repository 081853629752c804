/- '==' of two structs of numbers that are the same; over whatever program. -/
import Derived.Test.YtlmhjkbbooghfaaArr
import Derived.Laws.StructEq
set_option linter.unusedSimpArgs false
set_option linter.unusedVariables false
namespace Go.Proofs.Ytlmhjkbbooghfaa
open Go
section
variable {P : Program} {T : Tab P} {fn : Func} {ρ σ : Hp} {Q : Value → HP} {k : List Item} {md : Bool} {X : World → Hp → Act → World → Prop} {env : Env} {Hs : List HP} {ops : Array Oper} {l : List Oper}
variable {d : Tmp} {ty : TypeId} {pos : String} {aft : Array Edge}
/-- fields that all are numbers -/
inductive FI (T : Tab P) (cs : List Value) : List Field → Prop
  | nil : FI T cs []
  | cons {f : Field} {fs : List Field} {K : IntKind} {a : Int} {q : TyI} (hn : f.name ≠ "_") (ht : T.tt f.type = some q) (hd : q.desc = .int K) (hc : cs[f.offset]? = some (.int K a)) (h : FI T cs fs) : FI T cs (f :: fs)
theorem FI.run {cs : List Value} {w : World} {fs : List Field} (h : FI T cs fs) : (Op.eqFields 9999 cs.toArray cs.toArray fs).run P w = .ok true w := by
  induction h with
  | nil => simp [Op.eqFields]
  | @cons f fs K a q hn ht hd hc h ih =>
    have u := T.und ht
    rw [hd] at u
    have k1 : P.plainKey f.type = true := by simp [Program.plainKey, u]
    have hc' : cs.toArray[f.offset]? = some (.int K a) := by rw [List.getElem?_toArray]; exact hc
    simp only [Op.eqFields, hn, ne_eq, not_false_eq_true, if_true, Sem.run_bind, run_part_plain w k1 hc', run_equalIn_int w 9998 _ K K a a u, Result.andThen_ok]
    simpa using ih
theorem WL.neAS {x y : Operand} {t t' : TypeId} {cs : List Value} {fs : List Field} {s1 s2 : Nat} {z : Value} {c : Bool} (hn : Nat.ble (d + 1) fn.ntmps = true)
    (hx : ev env x = some (.agg cs.toArray)) (hy : ev env y = some (.agg cs.toArray)) (ht : T.tt t = some ⟨.struct fs.toArray, s1, s2, z, c⟩) (hF : FI T cs fs)
    (hg : P.eqGuardType P.depth t = false) (hs : P.stoodInHeld t = false)
    (h : WL md P fn ρ X ops l ((d, .bool false) :: env) Hs) : WL md P fn ρ X ops (⟨some d, .binOp .neq t x y t', ty, pos, aft, none⟩ :: l) env Hs :=
  .val rfl rfl hn (fun f w ee => by
    have hu := T.und ht
    have hfs : P.fieldsOf t = fs.toArray := by simp [Program.fieldsOf, hu]
    have hst := run_equalIn_struct (P := P) (w := w) 9999 t cs.toArray cs.toArray (by rw [hfs]; exact hu) hs
    rw [hfs] at hst
    have hst' := hst.trans (hF.run (w := w))
    simp only [execOp, ee _ _ hx, ee _ _ hy, Sem.run_bind, run_eqGuard_agg w .neq t _ _ _ _ hg, Result.andThen_ok, run_neq_struct, hst']
    rfl) h
end
end Go.Proofs.Ytlmhjkbbooghfaa
