/- The rules for slices, addresses, variables and what is built, over whatever program. -/
import Derived.Test.YtdpnpipninggeaaGreatDoorMem
set_option linter.unusedSimpArgs false
set_option linter.unusedVariables false
namespace Go.Proofs.YtdpnpipninggeaaGreatDoor
open Go

section
variable {P : Program} {T : Tab P} {fn : Func} {ρ : Hp} {Q : Value → HP} {k : List Item} {md : Bool} {X : World → Hp → Act → World → Prop} {env : Env} {Hs : List HP} {ops : Array Oper} {l : List Oper}
variable {d : Tmp} {ty : TypeId} {pos : String} {aft : Array Edge}

/- conversions, len, nil -/
theorem WL.cv {x : Operand} {s t : TypeId} {K K' : IntKind} {n : Int} {si : TyI} {z : Value} {a b : Nat} {c : Bool} (hn : Nat.ble (d + 1) fn.ntmps = true) (hx : ev env x = some (.int K' n))
    (hs : T.tt s = some si) (ht : T.tt t = some ⟨.int K, a, b, z, c⟩)
    (h : WL md P fn ρ X ops l ((d, .int K (K.wrap n)) :: env) Hs) : WL md P fn ρ X ops (⟨some d, .convert s t x, ty, pos, aft, none⟩ :: l) env Hs :=
  .val rfl rfl hn (fun f w e => by simp [execOp, e _ _ hx, convert, T.runU hs, T.runU ht, Conv.intToInt]) h
theorem SL.shape {v : Value} {n : Nat} (h : SL v n) : ∃ a c, v = .slice a n c := by
  rcases h with ⟨rfl, rfl⟩ | ⟨b, c, rfl⟩ <;> exact ⟨_, _, rfl⟩
theorem WL.len {x : Operand} {t : TypeId} {v : Value} {n : Nat} {e : TypeId} {z : Value} {a b : Nat} {c : Bool} (hn : Nat.ble (d + 1) fn.ntmps = true) (hx : ev env x = some v) (hv : SL v n)
    (ht : T.tt t = some ⟨.slice e, a, b, z, c⟩)
    (h : WL md P fn ρ X ops l ((d, .int .i64 n) :: env) Hs) : WL md P fn ρ X ops (⟨some d, .call { callee := .builtin .len, args := #[x], argTypes := #[t] }, ty, pos, aft, none⟩ :: l) env Hs :=
  .val rfl rfl hn (fun f w e => by obtain ⟨p, q, rfl⟩ := hv.shape; simp [execOp, resolve, invoke, builtin, e _ _ hx, Builtin.len_, T.runU ht, goInt]) h
theorem WL.cap {x : Operand} {t : TypeId} {p : Option Addr} {n m : Nat} {e : TypeId} {z : Value} {a b : Nat} {c : Bool} (hn : Nat.ble (d + 1) fn.ntmps = true) (hx : ev env x = some (.slice p n m))
    (ht : T.tt t = some ⟨.slice e, a, b, z, c⟩)
    (h : WL md P fn ρ X ops l ((d, .int .i64 m) :: env) Hs) : WL md P fn ρ X ops (⟨some d, .call { callee := .builtin .cap, args := #[x], argTypes := #[t] }, ty, pos, aft, none⟩ :: l) env Hs :=
  .val rfl rfl hn (fun f w e => by simp [execOp, resolve, invoke, builtin, e _ _ hx, Builtin.cap_, T.runU ht, goInt]) h
def isNil : Value → Bool
  | .slice none _ _ | .pointer none | .map none | .nilFunc | .nilIface => true
  | _ => false
/- equality -/
theorem eqIn_slice {t e : TypeId} {z : Value} {a b : Nat} {c : Bool} (ht : T.tt t = some ⟨.slice e, a, b, z, c⟩) (n : Nat) {v : Value} {m : Nat} (hv : SL v m) (w : World) :
    (Op.equalIn (n + 1) t v (.slice none 0 0)).run P w = .ok (isNil v) w := by
  rcases hv with ⟨rfl, rfl⟩ | ⟨b, c, rfl⟩ <;> simp [Op.equalIn, T.runU ht, isNil]
theorem eqIn_bool {t : TypeId} {z : Value} {a b : Nat} {c : Bool} (ht : T.tt t = some ⟨.bool, a, b, z, c⟩) (n : Nat) (p q : Bool) (w : World) :
    (Op.equalIn (n + 1) t (.bool p) (.bool q)).run P w = .ok (p == q) w := by
  simp [Op.equalIn, T.runU ht]
theorem eql_run {t : TypeId} {x y : Value} {r : Bool} {w : World} (he : ∀ n, (Op.equalIn (n + 1) t x y).run P w = .ok r w) : (Op.equal t x y).run P w = .ok r w := he 9999
/-- 's == nil' of a slice -/
theorem WL.eqN {x : Operand} {t t' : TypeId} {v : Value} {n : Nat} {e : TypeId} {z : Value} {a b : Nat} {c : Bool} (hn : Nat.ble (d + 1) fn.ntmps = true) (hx : ev env x = some v) (hv : SL v n)
    (ht : T.tt t = some ⟨.slice e, a, b, z, c⟩)
    (h : WL md P fn ρ X ops l ((d, .bool (isNil v)) :: env) Hs) : WL md P fn ρ X ops (⟨some d, .binOp .eql t x (.const (.slice none 0 0)) t', ty, pos, aft, none⟩ :: l) env Hs :=
  .val rfl rfl hn (fun f w e => by
    have hc : f (.const (.slice none 0 0)) = .slice none 0 0 := e _ _ rfl
    have he := eql_run (w := w) (fun n => eqIn_slice (T := T) ht n hv w)
    obtain ⟨p, q, rfl⟩ := hv.shape
    simp only [execOp, e _ _ hx, hc, eqGuard_at_slice]
    simp [binOp, he]) h
theorem WL.eqB {x y : Operand} {t t' : TypeId} {p q : Bool} {z : Value} {a b : Nat} {c : Bool} (hn : Nat.ble (d + 1) fn.ntmps = true) (hx : ev env x = some (.bool p)) (hy : ev env y = some (.bool q))
    (ht : T.tt t = some ⟨.bool, a, b, z, c⟩)
    (h : WL md P fn ρ X ops l ((d, .bool (p == q)) :: env) Hs) : WL md P fn ρ X ops (⟨some d, .binOp .eql t x y t', ty, pos, aft, none⟩ :: l) env Hs :=
  .val rfl rfl hn (fun f w e => by
    have he := eql_run (w := w) (fun n => eqIn_bool (T := T) ht n p q w)
    simp only [execOp, e _ _ hx, e _ _ hy, eqGuard_at_bool]
    simp [binOp, he]) h
theorem WL.neB {x y : Operand} {t t' : TypeId} {p q : Bool} {z : Value} {a b : Nat} {c : Bool} (hn : Nat.ble (d + 1) fn.ntmps = true) (hx : ev env x = some (.bool p)) (hy : ev env y = some (.bool q))
    (ht : T.tt t = some ⟨.bool, a, b, z, c⟩)
    (h : WL md P fn ρ X ops l ((d, .bool (!(p == q))) :: env) Hs) : WL md P fn ρ X ops (⟨some d, .binOp .neq t x y t', ty, pos, aft, none⟩ :: l) env Hs :=
  .val rfl rfl hn (fun f w e => by
    have he := eql_run (w := w) (fun n => eqIn_bool (T := T) ht n p q w)
    simp only [execOp, e _ _ hx, e _ _ hy, eqGuard_at_bool]
    simp [binOp, he]) h
theorem WL.neS {x y : Operand} {t t' : TypeId} {p q : ByteArray} (hn : Nat.ble (d + 1) fn.ntmps = true) (hx : ev env x = some (.string p)) (hy : ev env y = some (.string q))
    (h : WL md P fn ρ X ops l ((d, .bool (!(p.toList == q.toList))) :: env) Hs) : WL md P fn ρ X ops (⟨some d, .binOp .neq t x y t', ty, pos, aft, none⟩ :: l) env Hs :=
  .val rfl rfl hn (fun f w e => by simp only [execOp, e _ _ hx, e _ _ hy, eqGuard_at_string]; simp [binOp, Op.stringOp]) h
theorem WL.mn {x y : Operand} {ts : Array TypeId} {K : IntKind} {m n : Int} (hn : Nat.ble (d + 1) fn.ntmps = true) (hx : ev env x = some (.int K m)) (hy : ev env y = some (.int K n))
    (h : WL md P fn ρ X ops l ((d, .int K (min m n)) :: env) Hs) : WL md P fn ρ X ops (⟨some d, .call { callee := .builtin .min, args := #[x, y], argTypes := ts }, ty, pos, aft, none⟩ :: l) env Hs :=
  .val rfl rfl hn (fun f w e => by
    have : (if n < m then n else m) = min m n := by omega
    simp [execOp, resolve, invoke, builtin, e _ _ hx, e _ _ hy, Builtin.min_, Builtin.min2, this]) h
theorem WL.mx {x y : Operand} {ts : Array TypeId} {K : IntKind} {m n : Int} (hn : Nat.ble (d + 1) fn.ntmps = true) (hx : ev env x = some (.int K m)) (hy : ev env y = some (.int K n))
    (h : WL md P fn ρ X ops l ((d, .int K (max m n)) :: env) Hs) : WL md P fn ρ X ops (⟨some d, .call { callee := .builtin .max, args := #[x, y], argTypes := ts }, ty, pos, aft, none⟩ :: l) env Hs :=
  .val rfl rfl hn (fun f w e => by
    have : (if m < n then n else m) = max m n := by omega
    simp [execOp, resolve, invoke, builtin, e _ _ hx, e _ _ hy, Builtin.max_, Builtin.max2, this]) h
/- addresses -/
theorem WL.nc {x : Operand} {p : Addr} (hn : Nat.ble (d + 1) fn.ntmps = true) (hx : ev env x = some (.pointer (some p)))
    (h : WL md P fn ρ X ops l ((d, .pointer (some p)) :: env) Hs) : WL md P fn ρ X ops (⟨some d, .nilCheck x, ty, pos, aft, none⟩ :: l) env Hs :=
  .val rfl rfl hn (fun f w e => by simp [execOp, e _ _ hx]) h
theorem WL.ix {x y : Operand} {t e : TypeId} {v : Value} {n : Nat} {K : IntKind} {i : Int} {eD : TypeDesc} {eS eB : Nat} {eZ : Value} {eC : Bool} {z : Value} {a b : Nat} {c : Bool} (hn : Nat.ble (d + 1) fn.ntmps = true) (hx : ev env x = some v) (hy : ev env y = some (.int K i)) (hv : SL v n)
    (ht : T.tt t = some ⟨.slice e, a, b, z, c⟩) (he : T.tt e = some ⟨eD, eS, eB, eZ, eC⟩) (h0 : 0 ≤ i) (h1 : i < n)
    (h : WL md P fn ρ X ops l ((d, eptr v (i.toNat * eS)) :: env) Hs) : WL md P fn ρ X ops (⟨some d, .indexAddr t x y, ty, pos, aft, none⟩ :: l) env Hs :=
  .val rfl rfl hn (fun f w e => by
    rcases hv with ⟨rfl, rfl⟩ | ⟨b, c, rfl⟩
    · omega
    · simp [execOp, e _ _ hx, e _ _ hy, Instr.indexAt, asIntOf, T.runU ht, T.runS he, h0, h1, eptr, vaddr]) h
/-- an array's element, the array's address told -/
theorem WL.ixA {x y : Operand} {t e : TypeId} {b off N : Nat} {K : IntKind} {i : Int} {eD : TypeDesc} {eS eB : Nat} {eZ : Value} {eC : Bool} {z : Value} {p q : Nat} {c : Bool} (hn : Nat.ble (d + 1) fn.ntmps = true) (hx : ev env x = some (.pointer (some ⟨b, off, none⟩))) (hy : ev env y = some (.int K i))
    (ht : T.tt t = some ⟨.array N e, p, q, z, c⟩) (he : T.tt e = some ⟨eD, eS, eB, eZ, eC⟩) (h0 : 0 ≤ i) (h1 : i < N)
    (h : WL md P fn ρ X ops l ((d, .pointer (some ⟨b, off + i.toNat * eS, none⟩)) :: env) Hs) : WL md P fn ρ X ops (⟨some d, .indexAddr t x y, ty, pos, aft, none⟩ :: l) env Hs :=
  .val rfl rfl hn (fun f w e => by
    simp [execOp, e _ _ hx, e _ _ hy, Instr.indexAt, Instr.sureAddr, asIntOf, T.runU ht, T.runS he, h0, h1, Addr.add_lit]) h
theorem WL.faG {x : Operand} {t : TypeId} {i : Nat} {p : Addr} {fs : Array Field} {F : Field} {fi : TyI} {z : Value} {a b : Nat} {c : Bool} (hn : Nat.ble (d + 1) fn.ntmps = true) (hx : ev env x = some (.pointer (some p)))
    (ht : T.tt t = some ⟨.struct fs, a, b, z, c⟩) (hF : fs[i]? = some F) (hfi : T.tt F.type = some fi) (hsz : fi.size ≠ 0)
    (h : WL md P fn ρ X ops l ((d, .pointer (some (p.add F.offset))) :: env) Hs) : WL md P fn ρ X ops (⟨some d, .fieldAddr t x i, ty, pos, aft, none⟩ :: l) env Hs :=
  .val rfl rfl hn (fun f w e => by simp [execOp, e _ _ hx, Instr.fieldAt, Instr.sureAddr, fieldPlace, T.runU ht, T.runS hfi, hF, hsz]) h
theorem WL.fa {x : Operand} {t : TypeId} {i : Nat} {b off : Nat} {fs : Array Field} {F : Field} {fi : TyI} {z : Value} {a a' : Nat} {c : Bool} (hn : Nat.ble (d + 1) fn.ntmps = true) (hx : ev env x = some (.pointer (some ⟨b, off, none⟩)))
    (ht : T.tt t = some ⟨.struct fs, a, a', z, c⟩) (hF : fs[i]? = some F) (hfi : T.tt F.type = some fi) (hsz : Nat.beq fi.size 0 = false)
    (h : WL md P fn ρ X ops l ((d, .pointer (some ⟨b, off + F.offset, none⟩)) :: env) Hs) : WL md P fn ρ X ops (⟨some d, .fieldAddr t x i, ty, pos, aft, none⟩ :: l) env Hs :=
  .faG hn hx ht hF hfi (fun e => by rw [e] at hsz; cases hsz) (by rw [Addr.add_lit]; exact h)
theorem WL.faE {x : Operand} {t : TypeId} {i j : Nat} {v : Value} {fs : Array Field} {F : Field} {fi : TyI} {z : Value} {a a' : Nat} {c : Bool} (hn : Nat.ble (d + 1) fn.ntmps = true) (hx : ev env x = some (eptr v j))
    (ht : T.tt t = some ⟨.struct fs, a, a', z, c⟩) (hF : fs[i]? = some F) (hfi : T.tt F.type = some fi) (hsz : Nat.beq fi.size 0 = false)
    (h : WL md P fn ρ X ops l ((d, eptr v (j + F.offset)) :: env) Hs) : WL md P fn ρ X ops (⟨some d, .fieldAddr t x i, ty, pos, aft, none⟩ :: l) env Hs :=
  .faG hn hx ht hF hfi (fun e => by rw [e] at hsz; cases hsz) (by rw [add_add]; exact h)

/- loads -/
def oneCellT : TypeDesc → Bool
  | .struct _ | .array _ _ => false
  | _ => true
theorem load1 {t : TypeId} {ti : TyI} (ht : T.tt t = some ti) (h1 : oneCellT ti.desc = true) {w : World} {a : Addr} {v : Value} (hc : w.cell? a = some v) : (loadVar t a).run P w = .ok v w := by
  have : (isAgg t).run P w = .ok false w := by
    unfold isAgg
    cases hd : ti.desc <;> simp_all [T.runU ht, oneCellT]
  simp [loadVar, this, hc]
theorem box_cell {b : Nat} {c : List Value} {Ty : TypeId} {h : Hp} (hb : box b c Ty h) {w : World} (hw : ∀ b o, h b = some o → w.heap[b]? = some o) (i : Nat) : w.cell? ⟨b, i, none⟩ = c[i]? := by
  simp [World.cell?, hw b _ hb.1]
theorem WL.ld {x : Operand} {t : TypeId} {b off j : Nat} {c : List Value} {Ty : TypeId} {v : Value} {ti : TyI} (hn : Nat.ble (d + 1) fn.ntmps = true) (hx : ev env x = some (.pointer (some ⟨b, off, none⟩)))
    (ht : T.tt t = some ti) (h1 : oneCellT ti.desc = true) (hH : Hs[j]? = some (box b c Ty)) (hc : c[off]? = some v)
    (h : WL false P fn ρ X ops l ((d, v) :: env) Hs) : WL false P fn ρ X ops (⟨some d, .load t x, ty, pos, aft, none⟩ :: l) env Hs :=
  .rd rfl rfl hn (fun f w hh ho _ p e => by
    obtain ⟨y, z, hy, _, rfl, _⟩ := sepl_at hH p
    have hcell := box_cell hy (fun b o hb => ho b o (join_left hb)) off
    rw [hc] at hcell
    simp [execOp, e _ _ hx, Instr.loadAt, Instr.sureAddr, load1 ht h1 hcell]) h
theorem WL.ldE {x : Operand} {t : TypeId} {i j sz : Nat} {u v : Value} {cs : List Value} {ti : TyI} (hn : Nat.ble (d + 1) fn.ntmps = true) (hx : ev env x = some (eptr u i))
    (ht : T.tt t = some ti) (h1 : oneCellT ti.desc = true) (hH : Hs[j]? = some (Buf sz u cs)) (hc : cs[i]? = some v)
    (h : WL false P fn ρ X ops l ((d, v) :: env) Hs) : WL false P fn ρ X ops (⟨some d, .load t x, ty, pos, aft, none⟩ :: l) env Hs :=
  .rd rfl rfl hn (fun f w hh ho _ p e => by
    obtain ⟨y, z, hy, _, rfl, _⟩ := sepl_at hH p
    have hcell := (Buf.ro hy).cell (w := w) (fun b o hb => ho b o (join_left hb)) hc
    simp [execOp, e _ _ hx, eptr, Instr.loadAt, Instr.sureAddr, load1 ht h1 hcell]) h
theorem WL.ldR {x : Operand} {t : TypeId} {i sz : Nat} {u v : Value} {cs : List Value} {ti : TyI} (hn : Nat.ble (d + 1) fn.ntmps = true) (hx : ev env x = some (eptr u i))
    (ht : T.tt t = some ti) (h1 : oneCellT ti.desc = true) (hR : ROs ρ sz u cs) (hc : cs[i]? = some v)
    (h : WL md P fn ρ X ops l ((d, v) :: env) Hs) : WL md P fn ρ X ops (⟨some d, .load t x, ty, pos, aft, none⟩ :: l) env Hs :=
  .rdR rfl rfl hn (fun f w hr e => by
    have hcell := hR.cell (w := w) hr hc
    simp [execOp, e _ _ hx, eptr, Instr.loadAt, Instr.sureAddr, load1 ht h1 hcell]) h
theorem loadN {t : TypeId} {ti : TyI} (ht : T.tt t = some ti) (h1 : oneCellT ti.desc = false) {w : World} {a : Addr} {cs : List Value} (hl : cs.length = ti.size)
    (hc : ∀ j v, cs[j]? = some v → w.cell? (a.add j) = some v) : (loadVar t a).run P w = .ok (.agg cs.toArray) w := by
  have : (isAgg t).run P w = .ok true w := by
    unfold isAgg
    cases hd : ti.desc <;> simp_all [T.runU ht, oneCellT]
  simp [loadVar, this, T.runS ht, ← hl, run_loadCells_list w a cs hc]
theorem WL.ldA {x : Operand} {t : TypeId} {b off j : Nat} {c : List Value} {Ty : TypeId} {cs : List Value} {ti : TyI} (hn : Nat.ble (d + 1) fn.ntmps = true) (hx : ev env x = some (.pointer (some ⟨b, off, none⟩)))
    (ht : T.tt t = some ti) (h1 : oneCellT ti.desc = false) (hH : Hs[j]? = some (box b c Ty)) (hc : (c.drop off).take ti.size = cs) (hl : off + ti.size ≤ c.length)
    (h : WL false P fn ρ X ops l ((d, .agg cs.toArray) :: env) Hs) : WL false P fn ρ X ops (⟨some d, .load t x, ty, pos, aft, none⟩ :: l) env Hs :=
  .rd rfl rfl hn (fun f w hh ho _ p e => by
    obtain ⟨y, z, hy, _, rfl, _⟩ := sepl_at hH p
    subst hc
    have hr := loadN (T := T) ht h1 (w := w) (a := ⟨b, off, none⟩) (cs := (c.drop off).take ti.size) (by simp; omega) (fun i v hi => by
      rw [Addr.add_lit, box_cell hy (fun b o hb => ho b o (join_left hb))]
      rw [List.getElem?_take] at hi
      split at hi
      · simpa [List.getElem?_drop] using hi
      · cases hi)
    simp [execOp, e _ _ hx, Instr.loadAt, Instr.sureAddr, hr]) h
theorem ROs.cells {sz : Nat} {v : Value} {cs : List Value} (h : ROs ρ sz v cs) {w : World} (hw : ∀ b o, ρ b = some o → w.heap[b]? = some o) (i n : Nat) (j : Nat) (x : Value)
    (hx : ((cs.drop i).take n)[j]? = some x) : w.cell? (((vaddr v).add i).add j) = some x := by
  rw [add_add]
  refine h.cell hw ?_
  rw [List.getElem?_take] at hx
  split at hx
  · simpa [List.getElem?_drop] using hx
  · cases hx
theorem WL.ldAR {x : Operand} {t : TypeId} {i sz : Nat} {u : Value} {cs vs : List Value} {ti : TyI} (hn : Nat.ble (d + 1) fn.ntmps = true) (hx : ev env x = some (eptr u i))
    (ht : T.tt t = some ti) (h1 : oneCellT ti.desc = false) (hR : ROs ρ sz u cs) (hc : (cs.drop i).take ti.size = vs) (hl : vs.length = ti.size)
    (h : WL md P fn ρ X ops l ((d, .agg vs.toArray) :: env) Hs) : WL md P fn ρ X ops (⟨some d, .load t x, ty, pos, aft, none⟩ :: l) env Hs :=
  .rdR rfl rfl hn (fun f w hr e => by
    subst hc
    have hr := loadN (T := T) ht h1 (w := w) (a := (vaddr u).add i) (cs := (cs.drop i).take ti.size) hl (hR.cells hr i ti.size)
    simp [execOp, e _ _ hx, eptr, Instr.loadAt, Instr.sureAddr, hr]) h
/- stores -/
theorem set_cells {w : World} {b : Nat} {c : Array Value} {Ty : TypeId} {fr : Nat × Nat} (hb : w.heap[b]? = some (.cells c Ty fr)) (i : Nat) (v : Value) :
    (w.setCell ⟨b, i, none⟩ v).heap[b]? = some (.cells (c.setIfInBounds i v) Ty fr) ∧ ∀ n, n ≠ b → (w.setCell ⟨b, i, none⟩ v).heap[n]? = w.heap[n]? := by
  constructor
  · simp [World.setCell, Array.getElem?_modify, hb]
  · intro n hn
    simp [World.setCell, Array.getElem?_modify, Ne.symm hn]
theorem store1 {t : TypeId} {ti : TyI} (ht : T.tt t = some ti) (hs : ti.size = 1) {v : Value} (hv : v.oneCell' = true) {w : World} {a : Addr} {u : Value} (hc : w.cell? a = some u) (hf : w.frozen? a = false) :
    (storeVar t a v).run P w = .ok () (w.setCell a v) := by
  have hcells : v.cells = #[v] := by cases v <;> first | rfl | (simp [Value.oneCell'] at hv)
  have ha : a.add 0 = a := by simp [Addr.add]
  simp [storeVar, hcells, T.runS ht, hs, storeCells, ha, run_store P w a v _ hv, hc, hf]
theorem St.set {w0 : World} {h0 : Hp} {w : World} {b : Nat} {c : Array Value} {Ty : TypeId} {fr : Nat × Nat} {z : Hp} (s : St ρ w0 h0 w (join (one b (.cells c Ty fr)) z)) (dd : Dj (one b (.cells c Ty fr)) z) (i : Nat) (v : Value) :
    Dj (one b (.cells (c.setIfInBounds i v) Ty fr)) z ∧ St ρ w0 h0 (w.setCell ⟨b, i, none⟩ v) (join (one b (.cells (c.setIfInBounds i v) Ty fr)) z) := by
  have hb : w.heap[b]? = some (.cells c Ty fr) := s.own b _ (join_left (by simp [one]))
  have hs := set_cells hb i v
  refine s.change dd ?_ ?_ ?_ (by simp) rfl rfl rfl
  · intro n hn
    left
    by_cases e : n = b
    · subst e; simp [one]
    · simp [one, e] at hn
  · intro n o ho
    by_cases e : n = b
    · subst e; simp [one] at ho; subst ho; exact hs.1
    · simp [one, e] at ho
  · intro n _ hn
    refine hs.2 n (fun e => ?_)
    subst e
    simp [one] at hn
theorem WL.st {x y : Operand} {t : TypeId} {b off j : Nat} {c : List Value} {Ty : TypeId} {v : Value} {ti : TyI} (hx : ev env x = some (.pointer (some ⟨b, off, none⟩))) (hy : ev env y = some v)
    (ht : T.tt t = some ti) (hsz : ti.size = 1) (hv : v.oneCell' = true) (hH : Hs[j]? = some (box b c Ty)) (hl : off < c.length)
    (h : WL false P fn ρ X ops l env (Hs.set j (box b (c.set off v) Ty))) : WL false P fn ρ X ops (⟨none, .store t x y, ty, pos, aft, none⟩ :: l) env Hs :=
  .does rfl rfl (fun f w0 h0 w hh s p e => by
    obtain ⟨a, z, ha, dd, rfl, _, hset⟩ := sepl_at hH p
    have hcell := box_cell ha (fun b o hb => s.own b o (join_left hb)) off
    have ea := pts_eq ha
    subst ea
    have hw : w.heap[b]? = some (.cells c.toArray Ty (0, 0)) := s.own b _ (join_left (by simp [one]))
    have hf : w.frozen? ⟨b, off, none⟩ = false := by simp [World.frozen?, hw]
    rw [List.getElem?_eq_getElem hl] at hcell
    have hst := s.set dd off v
    refine ⟨w.setCell ⟨b, off, none⟩ v, _, ?_, hst.2, ?_⟩
    · simp [execOp, e _ _ hx, e _ _ hy, Instr.storeAt, Instr.sureAddr, store1 ht hsz hv hcell hf]
    · refine hset _ _ ?_ hst.1
      show pts b _ _
      rw [List.setIfInBounds_toArray]
      exact pts_one _ _) h
theorem WL.stE {x y : Operand} {t : TypeId} {i j sz : Nat} {u v : Value} {cs : List Value} {ti : TyI} (hx : ev env x = some (eptr u i)) (hy : ev env y = some v)
    (ht : T.tt t = some ti) (hsz : ti.size = 1) (hv : v.oneCell' = true) (hH : Hs[j]? = some (Buf sz u cs)) (hl : i < cs.length)
    (h : WL false P fn ρ X ops l env (Hs.set j (Buf sz u (cs.set i v)))) : WL false P fn ρ X ops (⟨none, .store t x y, ty, pos, aft, none⟩ :: l) env Hs :=
  .does rfl rfl (fun f w0 h0 w hh s p e => by
    obtain ⟨a, z, ha, dd, rfl, _, hset⟩ := sepl_at hH p
    have hro := Buf.ro ha
    have hcell := hro.cell (w := w) (fun b o hb => s.own b o (join_left hb)) (List.getElem?_eq_getElem hl)
    rcases ha with ⟨rfl, rfl, _⟩ | ⟨b, off, n, c, buf, Ty, fr, rfl, hln, hc, hnc, hm, hfr, htk, hp⟩
    · simp at hl
    · have hle : n * sz ≤ c * sz := Nat.mul_le_mul_right _ hnc
      have ea := pts_eq hp
      subst ea
      have hw : w.heap[b]? = some (.cells buf Ty fr) := s.own b _ (join_left (by simp [one]))
      have hf : w.frozen? ⟨b, off + i, none⟩ = false := by
        have := frOK hfr (i := off + i) (by omega)
        simp only [World.frozen?, hw]
        simpa using this
      have hst := s.set dd (off + i) v
      simp only [vaddr, Addr.add_lit] at hcell
      refine ⟨w.setCell ⟨b, off + i, none⟩ v, _, ?_, hst.2, ?_⟩
      · simp [execOp, e _ _ hx, e _ _ hy, eptr, vaddr, Addr.add_lit, Instr.storeAt, Instr.sureAddr, store1 ht hsz hv hcell hf]
      · refine hset _ _ ?_ hst.1
        refine .inr ⟨b, off, n, c, _, Ty, fr, rfl, by simpa using hln, by simpa using hc, hnc, hm, by simpa using hfr, ?_, pts_one _ _⟩
        rw [← htk]
        apply List.ext_getElem?
        intro m
        simp only [List.getElem?_take, List.getElem?_drop, Array.toList_setIfInBounds, List.getElem?_set, List.length_take, List.length_drop]
        by_cases hm1 : m < n * sz
        · simp only [hm1, if_true]
          by_cases hm2 : i = m
          · subst hm2
            simp only [if_true]
            have h1 : off + i < buf.size := by omega
            have h2 : i < (buf.toList.drop off).length := by simp; omega
            simp [h1]
            omega
          · rw [if_neg (by omega), if_neg hm2]
        · simp [hm1]
          intro hm3
          omega) h
end
end Go.Proofs.YtdpnpipninggeaaGreatDoor
