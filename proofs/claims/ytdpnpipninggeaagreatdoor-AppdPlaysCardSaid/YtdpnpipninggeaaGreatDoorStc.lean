/- Structs as values: a field, a whole one loaded and stored, one built of an array. Over whatever program. -/
import Derived.Test.YtdpnpipninggeaaGreatDoorInn
import Derived.Laws.Strings
set_option linter.unusedSimpArgs false
set_option linter.unusedVariables false
namespace Go.Proofs.YtdpnpipninggeaaGreatDoor
open Go

theorem buf_nil (sz : Nat) : Buf sz (.slice none 0 0) [] nohp := .inl ⟨rfl, rfl, emp_nohp⟩
/-- values of one cell each -/
inductive AO : List Value → Prop
  | nil : AO []
  | cons {v : Value} {l} (h : v.oneCell' = true) (r : AO l) : AO (v :: l)
theorem AO.all {l : List Value} (h : AO l) : ∀ q ∈ l, q.oneCell' = true := by
  induction h with
  | nil => simp
  | cons h r ih =>
    intro q hq
    rcases List.mem_cons.1 hq with rfl | hq
    · exact h
    · exact ih q hq

section
variable {P : Program} {T : Tab P} {fn : Func} {ρ σ : Hp} {Q : Value → HP} {k : List Item} {md : Bool} {X : World → Hp → Act → World → Prop} {env : Env} {Hs : List HP} {ops : Array Oper} {l : List Oper}
variable {d : Tmp} {ty : TypeId} {pos : String} {aft : Array Edge} {n fuel : Nat} {listed : Array Bool}

theorem isAgg_agg {t : TypeId} {ti : TyI} (ht : T.tt t = some ti) (h1 : oneCellT ti.desc = false) (w : World) : (isAgg t).run P w = .ok true w := by
  unfold isAgg
  cases hd : ti.desc <;> simp_all [T.runU ht, oneCellT]
/-- a whole struct in a variable is loaded -/
theorem WL.ldAF {x : Operand} {t : TypeId} {b off j : Nat} {c : List Value} {Ty : TypeId} {cs : List Value} {ti : TyI} (hn : Nat.ble (d + 1) fn.ntmps = true) (hx : ev env x = some (.pointer (some ⟨b, off, none⟩)))
    (ht : T.tt t = some ti) (h1 : oneCellT ti.desc = false) (hH : nthH Hs j = some (box b c Ty)) (hl : Nat.ble (off + ti.size) c.length = true) (hF : FL ((c.drop off).take ti.size) cs)
    (h : WL false P fn ρ X ops l ((d, .agg cs.toArray) :: env) Hs) : WL false P fn ρ X ops (⟨some d, .load t x, ty, pos, aft, none⟩ :: l) env Hs :=
  .ldA (T := T) hn hx ht h1 (by rw [← nthH_eq]; exact hH) hF.eq (Nat.le_of_ble_eq_true hl) h
theorem WL.ldABF {x : Operand} {t : TypeId} {b off : Nat} {c : List Value} {Ty : TypeId} {cs : List Value} {ti : TyI} (hn : Nat.ble (d + 1) fn.ntmps = true) (hx : ev env x = some (.pointer (some ⟨b, off, none⟩)))
    (ht : T.tt t = some ti) (h1 : oneCellT ti.desc = false) (hR : RB ρ b c Ty) (hl : Nat.ble (off + ti.size) c.length = true) (hF : FL ((c.drop off).take ti.size) cs)
    (h : WL md P fn ρ X ops l ((d, .agg cs.toArray) :: env) Hs) : WL md P fn ρ X ops (⟨some d, .load t x, ty, pos, aft, none⟩ :: l) env Hs :=
  .ldAB (T := T) hn hx ht h1 hR hF.eq (Nat.le_of_ble_eq_true hl) h
/-- a whole struct is stored -/
theorem WL.stAO {x y : Operand} {t : TypeId} {b off j : Nat} {c c' : List Value} {Ty : TypeId} {cs : List Value} {ti : TyI} {Hs' : List HP} (hx : ev env x = some (.pointer (some ⟨b, off, none⟩))) (hy : ev env y = some (.agg cs.toArray))
    (ht : T.tt t = some ti) (hsz : Nat.beq cs.length ti.size = true) (h1 : AO cs) (hH : nthH Hs j = some (box b c Ty)) (hl : Nat.ble (off + cs.length) c.length = true)
    (hc' : FL (c.take off ++ cs ++ c.drop (off + cs.length)) c') (hF : FL (Hs.set j (box b c' Ty)) Hs')
    (h : WL false P fn ρ X ops l env Hs') : WL false P fn ρ X ops (⟨none, .store t x y, ty, pos, aft, none⟩ :: l) env Hs :=
  .stA (T := T) hx hy ht (Nat.eq_of_beq_eq_true hsz) h1.all (by rw [← nthH_eq]; exact hH) (Nat.le_of_ble_eq_true hl) hc' hF h
/-- an array is built -/
theorem WL.bdAC {t e : TypeId} {N : Nat} {ps : List (Nat × Operand)} {vs : List (Nat × Value)} {ws : List (Nat × List Value)} {eD : TypeDesc} {eS eB : Nat} {eZ : Value} {eC : Bool} {a b : Nat} {z : Value} {c : Bool} {out out' : List Value} (hn : Nat.ble (d + 1) fn.ntmps = true)
    (ht : T.tt t = some ⟨.array N e, a, b, z, c⟩) (he : T.tt e = some ⟨eD, eS, eB, eZ, eC⟩) (hv : evParts env ps = some vs) (hc : CO vs ws) (hf : fillC (fun i => some (i * eS, eS)) z.cells.toList ws = some out) (hF : FL out out')
    (h : WL md P fn ρ X ops l ((d, .agg out'.toArray) :: env) Hs) : WL md P fn ρ X ops (⟨some d, .build t ps.toArray, ty, pos, aft, none⟩ :: l) env Hs :=
  .bdA (T := T) hn ht he hv (by rw [hc.fill]; exact hf) hF h
/-- one of some numbers, whichever it is -/
inductive AI (K : IntKind) : List Value → Prop
  | nil : AI K []
  | cons {n : Int} {l} (r : AI K l) : AI K (.int K n :: l)
/-- a byte of a string -/
theorem WL.ixS {x y : Operand} {t : TypeId} {s : ByteArray} {K : IntKind} {i : Int} {n : Nat} {ti : TyI} {b1 b2 : Bool} (hn : Nat.ble (d + 1) fn.ntmps = true) (hx : ev env x = some (.string s)) (hy : ev env y = some (.int K i)) (ht : T.tt t = some ti) (hS : ti.desc = .string)
    (h0 : 0 ≤ i) (hi : i.toNat < s.size) (hv : (bytesN s)[i.toNat]? = some n)
    (h : WL md P fn ρ X ops l ((d, .int .u8 (n : Int)) :: env) Hs) : WL md P fn ρ X ops (⟨some d, .index t x y, ty, pos, aft, none⟩ :: l) env Hs :=
  .val rfl rfl hn (fun f w e => by
    have hu : P.underlying t = some .string := by rw [T.und ht, hS]
    have hr := run_index_string w t s K i hu
    rw [dif_pos ⟨h0, by omega⟩] at hr
    have hb : ((s[i.toNat]'hi).toNat : Int) = (n : Int) := by
      have : (bytesN s)[i.toNat]? = some (s[i.toNat]'hi).toNat := by
        unfold bytesN
        have hl : i.toNat < s.data.toList.length := by simpa using hi
        rw [List.getElem?_map, List.getElem?_eq_getElem hl]
        simp [ByteArray.getElem_eq_getElem_data]
      rw [this] at hv
      have := Option.some.inj hv
      omega
    rw [hb] at hr
    simp [execOp, e _ _ hx, e _ _ hy, hr]) h
/-- a row that only the zero value begins -/
def RowZ (o : Option (List Int)) : Value → HP := fun r h => ∃ v, r = .tuple #[v, .bool o.isSome] ∧ Buf 1 v ((o.getD []).map (Value.int .i64)) h
end
end Go.Proofs.YtdpnpipninggeaaGreatDoor
