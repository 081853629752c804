/- '==' and '!=' of two structs of numbers, bools and such structs, whatever they are; over whatever program. -/
import Derived.Test.YtdpnpipninggeaaGreatDoorStc
import Derived.Laws.StructEq
set_option linter.unusedSimpArgs false
set_option linter.unusedVariables false
namespace Go.Proofs.YtdpnpipninggeaaGreatDoor
open Go
section
variable {P : Program} {T : Tab P} {fn : Func} {ρ σ : Hp} {Q : Value → HP} {k : List Item} {md : Bool} {X : World → Hp → Act → World → Prop} {env : Env} {Hs : List HP} {ops : Array Oper} {l : List Oper}
variable {d : Tmp} {ty : TypeId} {pos : String} {aft : Array Edge}
inductive FE (T : Tab P) : Nat → List Value → List Value → List Field → Bool → Prop
  | nil {n : Nat} {cs cs' : List Value} : FE T n cs cs' [] true
  | int {n : Nat} {cs cs' : List Value} {f : Field} {fs : List Field} {K : IntKind} {a a' : Int} {q : TyI} {b : Bool} (hn : f.name ≠ "_") (ht : T.tt f.type = some q) (hd : q.desc = .int K) (hc : cs[f.offset]? = some (.int K a)) (hc' : cs'[f.offset]? = some (.int K a')) (h : FE T n cs cs' fs b) : FE T n cs cs' (f :: fs) (decide (a = a') && b)
  | bool {n : Nat} {cs cs' : List Value} {f : Field} {fs : List Field} {a a' : Bool} {q : TyI} {b : Bool} (hn : f.name ≠ "_") (ht : T.tt f.type = some q) (hd : q.desc = .bool) (hc : cs[f.offset]? = some (.bool a)) (hc' : cs'[f.offset]? = some (.bool a')) (h : FE T n cs cs' fs b) : FE T n cs cs' (f :: fs) ((a == a') && b)
  | sub {n : Nat} {cs cs' ds ds' : List Value} {f : Field} {fs gs : List Field} {sz s2 : Nat} {z : Value} {c : Bool} {b0 b : Bool} (hn : f.name ≠ "_") (ht : T.tt f.type = some ⟨.struct gs.toArray, sz, s2, z, c⟩) (hs : P.stoodInHeld f.type = false)
      (e : (cs.drop f.offset).take sz = ds) (e' : (cs'.drop f.offset).take sz = ds') (h0 : FE T n ds ds' gs b0) (h : FE T (n + 1) cs cs' fs b) : FE T (n + 1) cs cs' (f :: fs) (b0 && b)
theorem part_sub {t : TypeId} {ti : TyI} {cs : List Value} {off : Nat} (ht : T.tt t = some ti) (h1 : oneCellT ti.desc = false) (w : World) : (part t cs.toArray off).run P w = .ok (.agg ((cs.drop off).take ti.size).toArray) w := by
  have e : cs.toArray.extract off (off + ti.size) = ((cs.drop off).take ti.size).toArray := by
    simp [List.extract_toArray, List.extract_eq_take_drop, Nat.add_sub_cancel_left]
  simp [part, isAgg_agg ht h1, T.runS ht, e]
theorem eqf_cons {w : World} {dd : Nat} {f : Field} {fs : List Field} {xs ys : Array Value} {x y : Value} {r : Bool} (hn : f.name ≠ "_") (hx : (part f.type xs f.offset).run P w = .ok x w) (hy : (part f.type ys f.offset).run P w = .ok y w) (he : (Op.equalIn dd f.type x y).run P w = .ok r w) :
    (Op.eqFields dd xs ys (f :: fs)).run P w = if r = true then (Op.eqFields dd xs ys fs).run P w else .ok false w := by
  simp only [Op.eqFields, hn, ne_eq, not_false_eq_true, if_true, Sem.run_bind, hx, hy, he, Result.andThen_ok]
  cases r <;> simp
theorem FE.run {n : Nat} {cs cs' : List Value} {fs : List Field} {b : Bool} (h : FE T n cs cs' fs b) : ∀ (d : Nat), n < d → ∀ w : World, (Op.eqFields d cs.toArray cs'.toArray fs).run P w = .ok b w := by
  induction h with
  | nil => intro d _ w; simp [Op.eqFields]
  | @int n cs cs' f fs K a a' q b hn ht hd hc hc' h ih =>
    intro d hd' w
    obtain ⟨d, rfl⟩ : ∃ e, d = e + 1 := ⟨d - 1, by omega⟩
    have u := T.und ht
    rw [hd] at u
    have k1 : P.plainKey f.type = true := by simp [Program.plainKey, u]
    have g1 : cs.toArray[f.offset]? = some (.int K a) := by rw [List.getElem?_toArray]; exact hc
    have g2 : cs'.toArray[f.offset]? = some (.int K a') := by rw [List.getElem?_toArray]; exact hc'
    rw [eqf_cons hn (run_part_plain w k1 g1) (run_part_plain w k1 g2) (run_equalIn_int w d _ K K a a' u), ih (d + 1) hd' w]
    by_cases e : a = a' <;> simp [e]
  | @bool n cs cs' f fs a a' q b hn ht hd hc hc' h ih =>
    intro d hd' w
    obtain ⟨d, rfl⟩ : ∃ e, d = e + 1 := ⟨d - 1, by omega⟩
    have u := T.und ht
    rw [hd] at u
    have k1 : P.plainKey f.type = true := by simp [Program.plainKey, u]
    have g1 : cs.toArray[f.offset]? = some (.bool a) := by rw [List.getElem?_toArray]; exact hc
    have g2 : cs'.toArray[f.offset]? = some (.bool a') := by rw [List.getElem?_toArray]; exact hc'
    rw [eqf_cons hn (run_part_plain w k1 g1) (run_part_plain w k1 g2) (run_equalIn_bool w d _ a a' u), ih (d + 1) hd' w]
    cases a <;> cases a' <;> simp
  | @sub n cs cs' ds ds' f fs gs sz s2 z c b0 b hn ht hs e e' h0 h ih0 ih =>
    intro d hd' w
    obtain ⟨d, rfl⟩ : ∃ e, d = e + 1 := ⟨d - 1, by omega⟩
    subst e e'
    have hu := T.und ht
    have hfs : P.fieldsOf f.type = gs.toArray := by simp [Program.fieldsOf, hu]
    have hst := run_equalIn_struct (P := P) (w := w) d f.type ((cs.drop f.offset).take sz).toArray ((cs'.drop f.offset).take sz).toArray (by rw [hfs]; exact hu) hs
    rw [hfs] at hst
    have hst' := hst.trans (ih0 d (by omega) w)
    rw [eqf_cons hn (part_sub ht rfl w) (part_sub ht rfl w) hst', ih (d + 1) hd' w]
    cases b0 <;> simp
theorem WL.neF {x y : Operand} {t t' : TypeId} {cs cs' : List Value} {fs : List Field} {s1 s2 : Nat} {z : Value} {c b : Bool} (hn : Nat.ble (d + 1) fn.ntmps = true)
    (hx : ev env x = some (.agg cs.toArray)) (hy : ev env y = some (.agg cs'.toArray)) (ht : T.tt t = some ⟨.struct fs.toArray, s1, s2, z, c⟩) (hF : FE T 2 cs cs' fs b)
    (hg : P.eqGuardType P.depth t = false) (hs : P.stoodInHeld t = false)
    (h : WL md P fn ρ X ops l ((d, .bool (!b)) :: env) Hs) : WL md P fn ρ X ops (⟨some d, .binOp .neq t x y t', ty, pos, aft, none⟩ :: l) env Hs :=
  .val rfl rfl hn (fun f w ee => by
    have hu := T.und ht
    have hfs : P.fieldsOf t = fs.toArray := by simp [Program.fieldsOf, hu]
    have hst := run_equalIn_struct (P := P) (w := w) 9999 t cs.toArray cs'.toArray (by rw [hfs]; exact hu) hs
    rw [hfs] at hst
    have hst' := hst.trans (hF.run 9999 (by omega) w)
    simp only [execOp, ee _ _ hx, ee _ _ hy, Sem.run_bind, run_eqGuard_agg w .neq t _ _ _ _ hg, Result.andThen_ok, run_neq_struct, hst']
    rfl) h
end
end Go.Proofs.YtdpnpipninggeaaGreatDoor
