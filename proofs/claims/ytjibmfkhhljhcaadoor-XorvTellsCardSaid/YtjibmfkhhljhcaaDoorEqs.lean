/- '==' of structs of three plain fields; over whatever program. -/
import Derived.Test.YtjibmfkhhljhcaaDoorArr
import Derived.Laws.StructEq
set_option linter.unusedSimpArgs false
set_option linter.unusedVariables false
namespace Go.Proofs.YtjibmfkhhljhcaaDoor
open Go
section
variable {P : Program} {T : Tab P} {fn : Func} {ρ σ : Hp} {Q : Value → HP} {k : List Item} {md : Bool} {X : World → Hp → Act → World → Prop} {env : Env} {Hs : List HP} {ops : Array Oper} {l : List Oper}
variable {d : Tmp} {ty : TypeId} {pos : String} {aft : Array Edge} {n fuel : Nat} {listed : Array Bool}
theorem eqf_step {w : World} {dd : Nat} {f : Field} {fs : List Field} {xs ys : Array Value} {x y : Value} {r : Bool} (hn : f.name ≠ "_") (hk : P.plainKey f.type = true) (hx : xs[f.offset]? = some x) (hy : ys[f.offset]? = some y) (he : (Op.equalIn dd f.type x y).run P w = .ok r w) :
    (Op.eqFields dd xs ys (f :: fs)).run P w = if r = true then (Op.eqFields dd xs ys fs).run P w else .ok false w := by
  simp only [Op.eqFields, hn, ne_eq, not_false_eq_true, if_true, Sem.run_bind, run_part_plain w hk hx, run_part_plain w hk hy, he, Result.andThen_ok]
  cases r <;> simp
/-- '!=' of two structs of a bool and two numbers -/
theorem WL.neBII {x y : Operand} {t t' : TypeId} {f1 f2 f3 : Field} {p p' : Bool} {K : IntKind} {a a' b b' : Int} {s1 s2 : Nat} {z : Value} {c : Bool} {q1 q2 q3 : TyI} (hn : Nat.ble (d + 1) fn.ntmps = true)
    (hx : ev env x = some (.agg [.bool p, .int K a, .int K b].toArray)) (hy : ev env y = some (.agg [.bool p', .int K a', .int K b'].toArray)) (ht : T.tt t = some ⟨.struct #[f1, f2, f3], s1, s2, z, c⟩)
    (h1 : T.tt f1.type = some q1) (d1 : q1.desc = .bool) (h2 : T.tt f2.type = some q2) (d2 : q2.desc = .int K) (h3 : T.tt f3.type = some q3) (d3 : q3.desc = .int K)
    (n1 : f1.name ≠ "_") (n2 : f2.name ≠ "_") (n3 : f3.name ≠ "_") (o1 : f1.offset = 0) (o2 : f2.offset = 1) (o3 : f3.offset = 2)
    (hg : P.eqGuardType P.depth t = false) (hs : P.stoodInHeld t = false)
    (h : WL md P fn ρ X ops l ((d, .bool (!(p == p' && (a == a' && b == b')))) :: env) Hs) : WL md P fn ρ X ops (⟨some d, .binOp .neq t x y t', ty, pos, aft, none⟩ :: l) env Hs :=
  .val rfl rfl hn (fun f w ee => by
    have hu := T.und ht
    have u1 := T.und h1
    have u2 := T.und h2
    have u3 := T.und h3
    rw [d1] at u1
    rw [d2] at u2
    rw [d3] at u3
    have hfs : P.fieldsOf t = #[f1, f2, f3] := by simp [Program.fieldsOf, hu]
    have hst := run_equalIn_struct (P := P) (w := w) 9999 t [.bool p, .int K a, .int K b].toArray [.bool p', .int K a', .int K b'].toArray (by rw [hfs]; exact hu) hs
    have k1 : P.plainKey f1.type = true := by simp [Program.plainKey, u1]
    have k2 : P.plainKey f2.type = true := by simp [Program.plainKey, u2]
    have k3 : P.plainKey f3.type = true := by simp [Program.plainKey, u3]
    have hf : (Op.eqFields 9999 [.bool p, .int K a, .int K b].toArray [.bool p', .int K a', .int K b'].toArray [f1, f2, f3]).run P w = .ok (p == p' && (a == a' && b == b')) w := by
      rw [eqf_step n1 k1 (x := .bool p) (y := .bool p') (by rw [o1]; rfl) (by rw [o1]; rfl) (run_equalIn_bool w 9998 _ p p' u1)]
      rw [eqf_step n2 k2 (x := .int K a) (y := .int K a') (by rw [o2]; rfl) (by rw [o2]; rfl) (run_equalIn_int w 9998 _ K K a a' u2)]
      rw [eqf_step n3 k3 (x := .int K b) (y := .int K b') (by rw [o3]; rfl) (by rw [o3]; rfl) (run_equalIn_int w 9998 _ K K b b' u3)]
      cases hp : (p == p') <;> cases ha : (a == a') <;> cases hb : (b == b') <;> simp [Op.eqFields]
    rw [hfs] at hst
    have hst' := hst.trans hf
    simp only [execOp, ee _ _ hx, ee _ _ hy, Sem.run_bind, run_eqGuard_agg w .neq t _ _ _ _ hg, Result.andThen_ok, run_neq_struct, hst']
    rfl) h
end
end Go.Proofs.YtjibmfkhhljhcaaDoor
