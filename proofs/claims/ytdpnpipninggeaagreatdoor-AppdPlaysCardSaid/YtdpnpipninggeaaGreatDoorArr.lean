/- Arrays: variables of them, one cell set, results in variables, '==' of equal ones. Over whatever program. -/
import Derived.Test.YtdpnpipninggeaaGreatDoorVal
import Derived.ChangeKeysEq
set_option linter.unusedSimpArgs false
set_option linter.unusedVariables false
namespace Go.Proofs.YtdpnpipninggeaaGreatDoor
open Go

section
variable {P : Program} {T : Tab P} {fn : Func} {ρ σ : Hp} {Q : Value → HP} {k : List Item} {md : Bool} {X : World → Hp → Act → World → Prop} {env : Env} {Hs : List HP} {ops : Array Oper} {l : List Oper}
variable {d : Tmp} {ty : TypeId} {pos : String} {aft : Array Edge} {n fuel : Nat} {listed : Array Bool}

theorem WL.alX {t : TypeId} {dd : TypeDesc} {a b : Nat} {z : Value} {c : Bool} {cs : List Value} (hn : Nat.ble (d + 1) fn.ntmps = true) (ht : T.tt t = some ⟨dd, a, b, z, c⟩) (hF : z.cells.toList = cs)
    (h : ∀ b, WL false P fn ρ X ops l ((d, .pointer (some ⟨b, 0, none⟩)) :: env) (box b cs t :: Hs)) : WL false P fn ρ X ops (⟨some d, .alloc t, ty, pos, aft, none⟩ :: l) env Hs :=
  .al (T := T) (hz := ⟨_, ht, hF⟩) hn h
theorem WL.stX {x y : Operand} {t : TypeId} {b off j : Nat} {c c' : List Value} {Ty : TypeId} {v : Value} {ti : TyI} {Hs' : List HP} (hx : ev env x = some (.pointer (some ⟨b, off, none⟩))) (hy : ev env y = some v)
    (ht : T.tt t = some ti) (hsz : ti.size = 1) (hv : v.oneCell' = true) (hH : nthH Hs j = some (box b c Ty)) (hl : off < c.length) (hc : c.set off v = c') (hF : FL (Hs.set j (box b c' Ty)) Hs')
    (h : WL false P fn ρ X ops l env Hs') : WL false P fn ρ X ops (⟨none, .store t x y, ty, pos, aft, none⟩ :: l) env Hs :=
  .st (T := T) hx hy ht hsz hv (by rw [← nthH_eq]; exact hH) hl (by rw [hc, hF.eq]; exact h)
/-- a whole variable is stored -/
theorem WL.stW {x y : Operand} {t : TypeId} {b j : Nat} {c : List Value} {Ty : TypeId} {cs : List Value} {ti : TyI} {Hs' : List HP} (hx : ev env x = some (.pointer (some ⟨b, 0, none⟩))) (hy : ev env y = some (.agg cs.toArray))
    (ht : T.tt t = some ti) (hsz : cs.length = ti.size) (h1 : ∀ q ∈ cs, q.oneCell' = true) (hH : nthH Hs j = some (box b c Ty)) (hl : c.length = cs.length) (hF : FL (Hs.set j (box b cs Ty)) Hs')
    (h : WL false P fn ρ X ops l env Hs') : WL false P fn ρ X ops (⟨none, .store t x y, ty, pos, aft, none⟩ :: l) env Hs :=
  .stA (T := T) (j := j) (c' := cs) hx hy ht hsz h1 (by rw [← nthH_eq]; exact hH) (by omega) (by
    have : c.take 0 ++ cs ++ c.drop (0 + cs.length) = cs := by simp [← hl]
    rw [this]; exact FL.rfl _) hF h
theorem WL.ldW {x : Operand} {t : TypeId} {b j : Nat} {c : List Value} {Ty : TypeId} {ti : TyI} (hn : Nat.ble (d + 1) fn.ntmps = true) (hx : ev env x = some (.pointer (some ⟨b, 0, none⟩)))
    (ht : T.tt t = some ti) (h1 : oneCellT ti.desc = false) (hH : nthH Hs j = some (box b c Ty)) (hl : c.length = ti.size)
    (h : WL false P fn ρ X ops l ((d, .agg c.toArray) :: env) Hs) : WL false P fn ρ X ops (⟨some d, .load t x, ty, pos, aft, none⟩ :: l) env Hs :=
  .ldA (T := T) (j := j) (cs := c) hn hx ht h1 (by rw [← nthH_eq]; exact hH) (by rw [List.drop_zero, ← hl, List.take_length]) (by omega) h
theorem WL.ixX {x y : Operand} {t e : TypeId} {b off N o' : Nat} {K : IntKind} {i : Int} {eD : TypeDesc} {eS eB : Nat} {eZ : Value} {eC : Bool} {z : Value} {p q : Nat} {c : Bool} (hn : Nat.ble (d + 1) fn.ntmps = true) (hx : ev env x = some (.pointer (some ⟨b, off, none⟩))) (hy : ev env y = some (.int K i))
    (ht : T.tt t = some ⟨.array N e, p, q, z, c⟩) (he : T.tt e = some ⟨eD, eS, eB, eZ, eC⟩) (h0 : 0 ≤ i) (h1 : i < N) (ho : off + i.toNat * eS = o')
    (h : WL md P fn ρ X ops l ((d, .pointer (some ⟨b, o', none⟩)) :: env) Hs) : WL md P fn ρ X ops (⟨some d, .indexAddr t x y, ty, pos, aft, none⟩ :: l) env Hs := by
  subst ho
  exact .ixA (T := T) hn hx hy ht he h0 h1 h

/-- a result that stands in a variable -/
theorem W.retW {t : Tmp} {rt : TypeId} {b j : Nat} {c : List Value} {Ty : TypeId} {ti : TyI} (hr : fn.results = #[.cell t rt]) (hv : look env t = some (.pointer (some ⟨b, 0, none⟩))) (ht : T.tt rt = some ti) (h1 : oneCellT ti.desc = false)
    (hH : nthH Hs j = some (box b c Ty)) (hl : c.length = ti.size) (h : ∀ h, sepl Hs h → Q (.agg c.toArray) h) : W P fn ρ Q (.code .ret :: k) env Hs := by
  intro _ _ w hh a s p e
  have hH' : Hs[j]? = some (box b c Ty) := by rw [← nthH_eq]; exact hH
  obtain ⟨y, z, hy, _, rfl, _⟩ := sepl_at hH' p
  have hld : (loadVar rt ⟨b, 0, none⟩).run P w = .ok (.agg c.toArray) w := loadN (T := T) ht h1 hl (fun i v hi => by
    rw [Addr.add_lit, Nat.zero_add, box_cell hy (fun b o hb => s.own b o (join_left hb))]
    exact hi)
  refine .ret e.defers (v := .agg c.toArray) ?_ ⟨_, _, rfl, s, h _ p⟩
  have := e.at' t _ hv
  simp [results, hr, this, asAddr, hld]

theorem WD.lastF {ol : List Oper} {H0 : List HP} (hσ : sepl H0 σ) (hB : (headDone n listed && Region.seqB .any ol.toArray fuel n listed) = true) (hF : FL (ol.drop n) l) (hfu : Nat.beq l.length fuel = true)
    (h : WL false P fn ρ X ol.toArray l env (H0 ++ Hs)) : WD P fn ρ σ X ol.toArray n fuel listed env Hs :=
  .last hσ hB (by rw [← hF.eq]) (Nat.eq_of_beq_eq_true hfu) h
end
end Go.Proofs.YtdpnpipninggeaaGreatDoor
