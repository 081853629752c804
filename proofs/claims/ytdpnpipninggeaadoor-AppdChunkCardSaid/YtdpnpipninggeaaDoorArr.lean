/- Arrays: variables of them, one cell set, results in variables, '==' of equal ones. Over whatever program. -/
import Derived.Test.YtdpnpipninggeaaDoorVal
import Derived.ChangeKeysEq
set_option linter.unusedSimpArgs false
set_option linter.unusedVariables false
namespace Go.Proofs.YtdpnpipninggeaaDoor
open Go

section
variable {P : Program} {T : Tab P} {fn : Func} {ρ σ : Hp} {Q : Value → HP} {k : List Item} {md : Bool} {X : World → Hp → Act → World → Prop} {env : Env} {Hs : List HP} {ops : Array Oper} {l : List Oper}
variable {d : Tmp} {ty : TypeId} {pos : String} {aft : Array Edge} {n fuel : Nat} {listed : Array Bool}

theorem WL.alX {t : TypeId} {dd : TypeDesc} {a b : Nat} {z : Value} {c : Bool} {cs : List Value} (hn : Nat.ble (d + 1) fn.ntmps = true) (ht : T.tt t = some ⟨dd, a, b, z, c⟩) (hF : z.cells.toList = cs)
    (h : ∀ b, WL false P fn ρ X ops l ((d, .pointer (some ⟨b, 0, none⟩)) :: env) (box b cs t :: Hs)) : WL false P fn ρ X ops (⟨some d, .alloc t, ty, pos, aft, none⟩ :: l) env Hs :=
  .al (T := T) (hz := ⟨_, ht, hF⟩) hn h
theorem WL.stX {x y : Operand} {t : TypeId} {b off j : Nat} {c c' : List Value} {Ty : TypeId} {v : Value} {ti : TyI} {Hs' : List HP} (hx : ev env x = some (.pointer (some ⟨b, off, none⟩))) (hy : ev env y = some v)
    (ht : T.tt t = some ti) (hsz : ti.size = 1) (hv : v.oneCell' = true) (hH : nthH Hs j = some (box b c Ty)) (hl : off < c.length) (hc : c.set off v = c') (hF : FL (Hs.set j (box b c' Ty)) Hs')
    (h : WL false P fn ρ X ops l env Hs') : WL false P fn ρ X ops (⟨none, .store t x y, ty, pos, aft, none⟩ :: l) env Hs :=
  .st (T := T) hx hy ht hsz hv (by rw [← nthH_eq]; exact hH) hl (by rw [hc, hF.eq]; exact h)
/-- a whole variable is stored -/
theorem WL.stW {x y : Operand} {t : TypeId} {b j : Nat} {c : List Value} {Ty : TypeId} {cs : List Value} {ti : TyI} {Hs' : List HP} (hx : ev env x = some (.pointer (some ⟨b, 0, none⟩))) (hy : ev env y = some (.agg cs.toArray))
    (ht : T.tt t = some ti) (hsz : cs.length = ti.size) (h1 : ∀ q ∈ cs, q.oneCell' = true) (hH : nthH Hs j = some (box b c Ty)) (hl : c.length = cs.length) (hF : FL (Hs.set j (box b cs Ty)) Hs')
    (h : WL false P fn ρ X ops l env Hs') : WL false P fn ρ X ops (⟨none, .store t x y, ty, pos, aft, none⟩ :: l) env Hs :=
  .stA (T := T) (j := j) (c' := cs) hx hy ht hsz h1 (by rw [← nthH_eq]; exact hH) (by omega) (by
    have : c.take 0 ++ cs ++ c.drop (0 + cs.length) = cs := by simp [← hl]
    rw [this]; exact FL.rfl _) hF h
theorem WL.ldW {x : Operand} {t : TypeId} {b j : Nat} {c : List Value} {Ty : TypeId} {ti : TyI} (hn : Nat.ble (d + 1) fn.ntmps = true) (hx : ev env x = some (.pointer (some ⟨b, 0, none⟩)))
    (ht : T.tt t = some ti) (h1 : oneCellT ti.desc = false) (hH : nthH Hs j = some (box b c Ty)) (hl : c.length = ti.size)
    (h : WL false P fn ρ X ops l ((d, .agg c.toArray) :: env) Hs) : WL false P fn ρ X ops (⟨some d, .load t x, ty, pos, aft, none⟩ :: l) env Hs :=
  .ldA (T := T) (j := j) (cs := c) hn hx ht h1 (by rw [← nthH_eq]; exact hH) (by rw [List.drop_zero, ← hl, List.take_length]) (by omega) h
theorem WL.ixX {x y : Operand} {t e : TypeId} {b off N o' : Nat} {K : IntKind} {i : Int} {eD : TypeDesc} {eS eB : Nat} {eZ : Value} {eC : Bool} {z : Value} {p q : Nat} {c : Bool} (hn : Nat.ble (d + 1) fn.ntmps = true) (hx : ev env x = some (.pointer (some ⟨b, off, none⟩))) (hy : ev env y = some (.int K i))
    (ht : T.tt t = some ⟨.array N e, p, q, z, c⟩) (he : T.tt e = some ⟨eD, eS, eB, eZ, eC⟩) (h0 : 0 ≤ i) (h1 : i < N) (ho : off + i.toNat * eS = o')
    (h : WL md P fn ρ X ops l ((d, .pointer (some ⟨b, o', none⟩)) :: env) Hs) : WL md P fn ρ X ops (⟨some d, .indexAddr t x y, ty, pos, aft, none⟩ :: l) env Hs := by
  subst ho
  exact .ixA (T := T) hn hx hy ht he h0 h1 h

/-- a result that stands in a variable -/
theorem W.retW {t : Tmp} {rt : TypeId} {b j : Nat} {c : List Value} {Ty : TypeId} {ti : TyI} (hr : fn.results = #[.cell t rt]) (hv : look env t = some (.pointer (some ⟨b, 0, none⟩))) (ht : T.tt rt = some ti) (h1 : oneCellT ti.desc = false)
    (hH : nthH Hs j = some (box b c Ty)) (hl : c.length = ti.size) (h : ∀ h, sepl Hs h → Q (.agg c.toArray) h) : W P fn ρ Q (.code .ret :: k) env Hs := by
  intro _ _ w hh a s p e
  have hH' : Hs[j]? = some (box b c Ty) := by rw [← nthH_eq]; exact hH
  obtain ⟨y, z, hy, _, rfl, _⟩ := sepl_at hH' p
  have hld : (loadVar rt ⟨b, 0, none⟩).run P w = .ok (.agg c.toArray) w := loadN (T := T) ht h1 hl (fun i v hi => by
    rw [Addr.add_lit, Nat.zero_add, box_cell hy (fun b o hb => s.own b o (join_left hb))]
    exact hi)
  refine .ret e.defers (v := .agg c.toArray) ?_ ⟨_, _, rfl, s, h _ p⟩
  have := e.at' t _ hv
  simp [results, hr, this, asAddr, hld]

/-- '[]byte(..)' of a constant: the row is marked behind its end -/
theorem WL.cvB {x : Operand} {t E : TypeId} {v : Value} {cs : List Value} {j : Nat} {eD : TypeDesc} {eS eB : Nat} {eZ : Value} {eC : Bool} {a b : Nat} {z : Value} {c : Bool} (hn : Nat.ble (d + 1) fn.ntmps = true)
    (hx : ev env x = some v) (ht : T.tt t = some ⟨.slice E, a, b, z, c⟩) (he : T.tt E = some ⟨eD, eS, eB, eZ, eC⟩) (hE : eD = .int .u8) (hH : nthH Hs j = some (Buf 1 v cs)) (hne : cs ≠ [])
    (h : WL false P fn ρ X ops l ((d, v) :: env) Hs) : WL false P fn ρ X ops (⟨some d, .convert t t x, ty, pos, aft, none⟩ :: l) env Hs :=
  .turns (ok := fun u Hs' => u = v ∧ Hs' = Hs) rfl rfl hn (fun f w0 h0 w hh s p e => by
    have hH' : Hs[j]? = some (Buf 1 v cs) := by rw [← nthH_eq]; exact hH
    obtain ⟨A, C, hA, dd, rfl, _, hset⟩ := sepl_at hH' p
    have hu := T.und ht
    have hue : P.underlying E = some (.int .u8) := by rw [T.und he, hE]
    rcases hA with ⟨_, h0, _⟩ | ⟨bl, off, n', cp, buf, Ty, fr, rfl, hl, hcp, hncp, hcm, hfr, htk, hp⟩
    · exact absurd h0 hne
    · have ea := pts_eq hp
      subst ea
      have hw : w.heap[bl]? = some (.cells buf Ty fr) := s.own bl _ (join_left (by simp [one]))
      have hsh : w.shape? bl = some (Ty, buf.size) := by simp [World.shape?, hw]
      obtain ⟨fr', hfz, h2⟩ : ∃ fr' : Nat × Nat, (w.freeze ⟨bl, buf.size, none⟩ 1).heap[bl]? = some (.cells buf Ty fr') ∧ buf.size ≤ fr'.1 := by
        obtain ⟨lo, hi⟩ := fr
        refine ⟨if lo == hi then (buf.size, buf.size + 1) else (min lo buf.size, max hi (buf.size + 1)), ?_, ?_⟩
        · simp [World.freeze, Array.getElem?_modify, hw]
        · split
          · simp
          · rename_i hne'
            rcases hfr with h | h
            · simp at hne' h; exact absurd h hne'
            · simp at h ⊢; omega
      have hother : ∀ m, m ≠ bl → (w.freeze ⟨bl, buf.size, none⟩ 1).heap[m]? = w.heap[m]? := by
        intro m hm
        simp [World.freeze, Array.getElem?_modify, Ne.symm hm]
      have hch : Dj (one bl (.cells buf Ty fr')) C ∧ St ρ w0 h0 (w.freeze ⟨bl, buf.size, none⟩ 1) (join (one bl (.cells buf Ty fr')) C) := by
        refine s.change dd ?_ ?_ ?_ (by simp [World.freeze]) ?_ ?_ ?_
        · intro m hm
          left
          by_cases e : m = bl
          · subst e; simp [one]
          · simp [one, e] at hm
        · intro m o ho
          by_cases e : m = bl
          · subst e; simp [one] at ho; subst ho; exact hfz
          · simp [one, e] at ho
        · intro m _ hm
          refine hother m (fun e => ?_)
          subst e
          simp [one] at hm
        · simp [World.freeze]
        · simp [World.freeze]
        · simp [World.freeze]
      refine ⟨_, _, _, Hs, ?_, hch.2, ?_, rfl, rfl⟩
      · simp [execOp, e _ _ hx, convert, T.runU ht, T.runU he, hE, markStringish, hsh]
      · have := hset (Buf 1 (.slice (some ⟨bl, off, none⟩) n' cp) cs) _ (.inr ⟨bl, off, n', cp, buf, Ty, fr', rfl, hl, hcp, hncp, hcm, .inr h2, htk, pts_one _ _⟩) hch.1
        have hs : Hs.set j (Buf 1 (.slice (some ⟨bl, off, none⟩) n' cp) cs) = Hs := by
          apply List.ext_getElem?
          intro i
          rw [List.getElem?_set]
          by_cases hij : j = i
          · subst hij
            have hlt := (List.getElem?_eq_some_iff.1 hH').1
            simp [hlt]
            exact ((List.getElem?_eq_some_iff.1 hH').2).symm
          · simp [hij]
        rw [hs] at this
        exact this) (fun u Hs' ⟨hu, hH'⟩ => by subst hu; subst hH'; exact h)
theorem WD.lastF {ol : List Oper} {H0 : List HP} (hσ : sepl H0 σ) (hB : (headDone n listed && Region.seqB .any ol.toArray fuel n listed) = true) (hF : FL (ol.drop n) l) (hfu : Nat.beq l.length fuel = true)
    (h : WL false P fn ρ X ol.toArray l env (H0 ++ Hs)) : WD P fn ρ σ X ol.toArray n fuel listed env Hs :=
  .last hσ hB (by rw [← hF.eq]) (Nat.eq_of_beq_eq_true hfu) h
end
end Go.Proofs.YtdpnpipninggeaaDoor
