/- The rules for single operations, over whatever program: what each leaves in the frame and in the parts of memory. -/
import Derived.Test.YtdpnpipninggeaaGreatDoorSep
import Derived.Laws.Entries
import Derived.Laws.Tables
import Derived.Laws.Slices
import Derived.Laws.Pointers
import Derived.Laws.Unary
import Derived.Laws.Shifts
import Derived.Laws.Bits
set_option linter.unusedSimpArgs false
set_option linter.unusedVariables false
namespace Go.Proofs.YtdpnpipninggeaaGreatDoor
open Go

/- what the table of types says of a type -/
structure TyI where
  desc : TypeDesc
  size : Nat
  bytes : Nat
  zero : Value
  comparable : Bool
structure Tab (P : Program) where
  tt : TypeId → Option TyI
  ok : ∀ t i, tt t = some i → P.underlying t = some i.desc ∧ ∃ I, P.info? t = some I ∧ I.size = i.size ∧ I.bytes = i.bytes ∧ I.zero = some i.zero ∧ I.comparable = i.comparable

theorem Tab.und {P : Program} (T : Tab P) {t : TypeId} {i : TyI} (h : T.tt t = some i) : P.underlying t = some i.desc := (T.ok t i h).1
theorem Tab.runU {P : Program} (T : Tab P) {t : TypeId} {i : TyI} (h : T.tt t = some i) (w : World) : (underlying t).run P w = .ok i.desc w := run_underlying (T.und h) w
theorem Tab.runS {P : Program} (T : Tab P) {t : TypeId} {i : TyI} (h : T.tt t = some i) (w : World) : (sizeOf t).run P w = .ok i.size w := by
  obtain ⟨_, I, hi, hs, _⟩ := T.ok t i h
  simp [sizeOf, typeInfo, hi, hs]
theorem Tab.runZ {P : Program} (T : Tab P) {t : TypeId} {i : TyI} (h : T.tt t = some i) (w : World) : (zeroValue t).run P w = .ok i.zero w := by
  obtain ⟨_, I, hi, hs, hb, hz, _⟩ := T.ok t i h
  simp [zeroValue, typeInfo, hi, hz]

section
variable {P : Program} {fn : Func} {ρ : Hp} {Q : Value → HP} {k : List Item} {md : Bool} {X : World → Hp → Act → World → Prop} {env : Env} {Hs : List HP} {ops : Array Oper} {l : List Oper}
variable {d : Tmp} {ty : TypeId} {pos : String} {aft : Array Edge}

/-- an operation that yields a value wherever what is read lies as it does -/
theorem WL.rdR {o : Oper} {v : Value} (hg : o.guard = none) (hd : o.dst = some d) (hn : Nat.ble (d + 1) fn.ntmps = true)
    (hr : ∀ (f : Operand → Value) w, (∀ b o, ρ b = some o → w.heap[b]? = some o) → (∀ x v, ev env x = some v → f x = v) → (execOp f o).run P w = .ok (.value v) w)
    (h : WL md P fn ρ X ops l ((d, v) :: env) Hs) : WL md P fn ρ X ops (o :: l) env Hs := by
  cases md with
  | false =>
    intro w0 h0 w hh a s p e
    refine wpList_plain hg fun K hK => ?_
    unfold Oper.wp
    rw [hr a.eval w s.ro (fun x v hx => e.eval hx), Oper.upon_value, hd]
    exact hK _ _ (h w0 h0 w hh _ s p (e.put (Nat.le_of_ble_eq_true hn) v))
  | true =>
    intro a e
    refine ⟨v, .inl ⟨by simp [Region.wanted, hg], fun w hw => hr a.eval w hw (fun x v hx => e.eval hx)⟩, ?_⟩
    rw [hd]
    exact h _ (e.put (Nat.le_of_ble_eq_true hn) v)
theorem WL.val {o : Oper} {v : Value} (hg : o.guard = none) (hd : o.dst = some d) (hn : Nat.ble (d + 1) fn.ntmps = true)
    (hr : ∀ (f : Operand → Value) w, (∀ x v, ev env x = some v → f x = v) → (execOp f o).run P w = .ok (.value v) w)
    (h : WL md P fn ρ X ops l ((d, v) :: env) Hs) : WL md P fn ρ X ops (o :: l) env Hs :=
  .rdR hg hd hn (fun f w _ e => hr f w e) h

theorem WL.mv {x : Operand} {v : Value} (hn : Nat.ble (d + 1) fn.ntmps = true) (hx : ev env x = some v)
    (h : WL md P fn ρ X ops l ((d, v) :: env) Hs) : WL md P fn ρ X ops (⟨some d, .move x, ty, pos, aft, none⟩ :: l) env Hs :=
  .val rfl rfl hn (fun f w e => by simp [execOp, e _ _ hx]) h
theorem WL.as {x : Operand} {v : Value} (hn : Nat.ble (d + 1) fn.ntmps = true) (hx : ev env x = some v)
    (h : WL md P fn ρ X ops l ((d, v) :: env) Hs) : WL md P fn ρ X ops (⟨some d, .assign x, ty, pos, aft, none⟩ :: l) env Hs :=
  .val rfl rfl hn (fun f w e => by simp [execOp, e _ _ hx]) h
theorem WL.pickT {c x y : Operand} {v : Value} (hn : Nat.ble (d + 1) fn.ntmps = true) (hc : ev env c = some (.bool true)) (hx : ev env x = some v)
    (h : WL md P fn ρ X ops l ((d, v) :: env) Hs) : WL md P fn ρ X ops (⟨some d, .pick c x y, ty, pos, aft, none⟩ :: l) env Hs :=
  .val rfl rfl hn (fun f w e => by simp [execOp, e _ _ hc, e _ _ hx, asBool]) h
theorem WL.pickF {c x y : Operand} {v : Value} (hn : Nat.ble (d + 1) fn.ntmps = true) (hc : ev env c = some (.bool false)) (hy : ev env y = some v)
    (h : WL md P fn ρ X ops l ((d, v) :: env) Hs) : WL md P fn ρ X ops (⟨some d, .pick c x y, ty, pos, aft, none⟩ :: l) env Hs :=
  .val rfl rfl hn (fun f w e => by simp [execOp, e _ _ hc, e _ _ hy, asBool]) h

/- sums -/
def i64ok (n : Int) : Prop := -9223372036854775808 ≤ n ∧ n ≤ 9223372036854775807
theorem wrap_i64 {n : Int} (h : i64ok n) : IntKind.i64.wrap n = n := by
  unfold i64ok at h; simp [IntKind.wrap, IntKind.bits, IntKind.signed]; split <;> omega
theorem wrap_u64 {n : Int} (h : 0 ≤ n ∧ n < 18446744073709551616) : IntKind.u64.wrap n = n := by
  simp [IntKind.wrap, IntKind.bits, IntKind.signed]; omega
theorem wrap_u32 {n : Int} (h : 0 ≤ n ∧ n < 4294967296) : IntKind.u32.wrap n = n := by
  simp [IntKind.wrap, IntKind.bits, IntKind.signed]; omega
theorem wrap_u8 {n : Int} (h : 0 ≤ n ∧ n < 256) : IntKind.u8.wrap n = n := by
  simp [IntKind.wrap, IntKind.bits, IntKind.signed]; omega

theorem WL.add {x y : Operand} {t t' : TypeId} {K : IntKind} {m n : Int} (hn : Nat.ble (d + 1) fn.ntmps = true) (hx : ev env x = some (.int K m)) (hy : ev env y = some (.int K n))
    (h : WL md P fn ρ X ops l ((d, .int K (K.wrap (m + n))) :: env) Hs) : WL md P fn ρ X ops (⟨some d, .binOp .add t x y t', ty, pos, aft, none⟩ :: l) env Hs :=
  .val rfl rfl hn (fun f w e => by simp [execOp, go_sem, e _ _ hx, e _ _ hy]) h
theorem WL.sub' {x y : Operand} {t t' : TypeId} {K : IntKind} {m n : Int} (hn : Nat.ble (d + 1) fn.ntmps = true) (hx : ev env x = some (.int K m)) (hy : ev env y = some (.int K n))
    (h : WL md P fn ρ X ops l ((d, .int K (K.wrap (m - n))) :: env) Hs) : WL md P fn ρ X ops (⟨some d, .binOp .sub t x y t', ty, pos, aft, none⟩ :: l) env Hs :=
  .val rfl rfl hn (fun f w e => by simp [execOp, go_sem, e _ _ hx, e _ _ hy]) h
theorem WL.mul {x y : Operand} {t t' : TypeId} {K : IntKind} {m n : Int} (hn : Nat.ble (d + 1) fn.ntmps = true) (hx : ev env x = some (.int K m)) (hy : ev env y = some (.int K n))
    (h : WL md P fn ρ X ops l ((d, .int K (K.wrap (m * n))) :: env) Hs) : WL md P fn ρ X ops (⟨some d, .binOp .mul t x y t', ty, pos, aft, none⟩ :: l) env Hs :=
  .val rfl rfl hn (fun f w e => by simp [execOp, go_sem, e _ _ hx, e _ _ hy]) h
theorem WL.quo {x y : Operand} {t t' : TypeId} {K : IntKind} {m n : Int} (hn : Nat.ble (d + 1) fn.ntmps = true) (hx : ev env x = some (.int K m)) (hy : ev env y = some (.int K n)) (h0 : n ≠ 0)
    (h : WL md P fn ρ X ops l ((d, .int K (K.wrap (m.tdiv n))) :: env) Hs) : WL md P fn ρ X ops (⟨some d, .binOp .quo t x y t', ty, pos, aft, none⟩ :: l) env Hs :=
  .val rfl rfl hn (fun f w e => by simp [execOp, go_sem, e _ _ hx, e _ _ hy, h0]) h
theorem WL.rem {x y : Operand} {t t' : TypeId} {K : IntKind} {m n : Int} (hn : Nat.ble (d + 1) fn.ntmps = true) (hx : ev env x = some (.int K m)) (hy : ev env y = some (.int K n)) (h0 : n ≠ 0)
    (h : WL md P fn ρ X ops l ((d, .int K (m.tmod n)) :: env) Hs) : WL md P fn ρ X ops (⟨some d, .binOp .rem t x y t', ty, pos, aft, none⟩ :: l) env Hs :=
  .val rfl rfl hn (fun f w e => by simp [execOp, go_sem, e _ _ hx, e _ _ hy, h0]) h
theorem WL.quoI {x y : Operand} {t t' : TypeId} {m n : Int} (hn : Nat.ble (d + 1) fn.ntmps = true) (hx : ev env x = some (.int .i64 m)) (hy : ev env y = some (.int .i64 n)) (h0 : 0 < n) (h1 : 0 ≤ m) (h2 : m ≤ 9223372036854775807)
    (h : WL md P fn ρ X ops l ((d, .int .i64 (m / n)) :: env) Hs) : WL md P fn ρ X ops (⟨some d, .binOp .quo t x y t', ty, pos, aft, none⟩ :: l) env Hs :=
  .quo hn hx hy (by omega) (by
    have e : m.tdiv n = m / n := Int.tdiv_eq_ediv_of_nonneg h1
    have h3 : 0 ≤ m / n := Int.ediv_nonneg h1 (by omega)
    have h4 : m / n ≤ m := Int.ediv_le_self n h1
    rw [e, wrap_i64 ⟨by omega, by omega⟩]; exact h)
theorem WL.remI {x y : Operand} {t t' : TypeId} {K : IntKind} {m n : Int} (hn : Nat.ble (d + 1) fn.ntmps = true) (hx : ev env x = some (.int K m)) (hy : ev env y = some (.int K n)) (h0 : 0 < n) (h1 : 0 ≤ m)
    (h : WL md P fn ρ X ops l ((d, .int K (m % n)) :: env) Hs) : WL md P fn ρ X ops (⟨some d, .binOp .rem t x y t', ty, pos, aft, none⟩ :: l) env Hs :=
  .rem hn hx hy (by omega) (by rw [Int.tmod_eq_emod_of_nonneg h1]; exact h)

/- bits -/
theorem WL.and {x y : Operand} {t t' : TypeId} {K : IntKind} {m n : Int} (hn : Nat.ble (d + 1) fn.ntmps = true) (hx : ev env x = some (.int K m)) (hy : ev env y = some (.int K n))
    (h : WL md P fn ρ X ops l ((d, .int K (bits .and K m n)) :: env) Hs) : WL md P fn ρ X ops (⟨some d, .binOp .and t x y t', ty, pos, aft, none⟩ :: l) env Hs :=
  .val rfl rfl hn (fun f w e => by simp [execOp, go_sem, e _ _ hx, e _ _ hy]) h
theorem WL.or {x y : Operand} {t t' : TypeId} {K : IntKind} {m n : Int} (hn : Nat.ble (d + 1) fn.ntmps = true) (hx : ev env x = some (.int K m)) (hy : ev env y = some (.int K n))
    (h : WL md P fn ρ X ops l ((d, .int K (bits .or K m n)) :: env) Hs) : WL md P fn ρ X ops (⟨some d, .binOp .or t x y t', ty, pos, aft, none⟩ :: l) env Hs :=
  .val rfl rfl hn (fun f w e => by simp [execOp, go_sem, e _ _ hx, e _ _ hy]) h
theorem WL.xor {x y : Operand} {t t' : TypeId} {K : IntKind} {m n : Int} (hn : Nat.ble (d + 1) fn.ntmps = true) (hx : ev env x = some (.int K m)) (hy : ev env y = some (.int K n))
    (h : WL md P fn ρ X ops l ((d, .int K (bits .xor K m n)) :: env) Hs) : WL md P fn ρ X ops (⟨some d, .binOp .xor t x y t', ty, pos, aft, none⟩ :: l) env Hs :=
  .val rfl rfl hn (fun f w e => by simp [execOp, go_sem, e _ _ hx, e _ _ hy]) h
theorem WL.shl {x y : Operand} {t t' : TypeId} {K K' : IntKind} {m n : Int} (hn : Nat.ble (d + 1) fn.ntmps = true) (hx : ev env x = some (.int K m)) (hy : ev env y = some (.int K' n)) (h0 : 0 ≤ n)
    (h : WL md P fn ρ X ops l ((d, .int K (K.wrap (m * 2 ^ min n.toNat K.bits))) :: env) Hs) : WL md P fn ρ X ops (⟨some d, .binOp .shl t x y t', ty, pos, aft, none⟩ :: l) env Hs :=
  .val rfl rfl hn (fun f w e => by simp [execOp, go_sem, e _ _ hx, e _ _ hy, shift_shl_any K K' m n h0]) h
theorem WL.shr {x y : Operand} {t t' : TypeId} {K K' : IntKind} {m n : Int} (hn : Nat.ble (d + 1) fn.ntmps = true) (hx : ev env x = some (.int K m)) (hy : ev env y = some (.int K' n)) (h0 : 0 ≤ n)
    (h : WL md P fn ρ X ops l ((d, .int K (m / 2 ^ min n.toNat K.bits)) :: env) Hs) : WL md P fn ρ X ops (⟨some d, .binOp .shr t x y t', ty, pos, aft, none⟩ :: l) env Hs :=
  .val rfl rfl hn (fun f w e => by simp [execOp, go_sem, e _ _ hx, e _ _ hy, shift_shr_any K K' m n h0]) h

/- tests -/
theorem WL.lss {x y : Operand} {t t' : TypeId} {K : IntKind} {m n : Int} (hn : Nat.ble (d + 1) fn.ntmps = true) (hx : ev env x = some (.int K m)) (hy : ev env y = some (.int K n))
    (h : WL md P fn ρ X ops l ((d, .bool (decide (m < n))) :: env) Hs) : WL md P fn ρ X ops (⟨some d, .binOp .lss t x y t', ty, pos, aft, none⟩ :: l) env Hs :=
  .val rfl rfl hn (fun f w e => by simp [execOp, go_sem, e _ _ hx, e _ _ hy]) h
theorem WL.leq {x y : Operand} {t t' : TypeId} {K : IntKind} {m n : Int} (hn : Nat.ble (d + 1) fn.ntmps = true) (hx : ev env x = some (.int K m)) (hy : ev env y = some (.int K n))
    (h : WL md P fn ρ X ops l ((d, .bool (decide (m ≤ n))) :: env) Hs) : WL md P fn ρ X ops (⟨some d, .binOp .leq t x y t', ty, pos, aft, none⟩ :: l) env Hs :=
  .val rfl rfl hn (fun f w e => by simp [execOp, go_sem, e _ _ hx, e _ _ hy]) h
theorem WL.gtr {x y : Operand} {t t' : TypeId} {K : IntKind} {m n : Int} (hn : Nat.ble (d + 1) fn.ntmps = true) (hx : ev env x = some (.int K m)) (hy : ev env y = some (.int K n))
    (h : WL md P fn ρ X ops l ((d, .bool (decide (n < m))) :: env) Hs) : WL md P fn ρ X ops (⟨some d, .binOp .gtr t x y t', ty, pos, aft, none⟩ :: l) env Hs :=
  .val rfl rfl hn (fun f w e => by simp [execOp, go_sem, e _ _ hx, e _ _ hy]) h
theorem WL.geq {x y : Operand} {t t' : TypeId} {K : IntKind} {m n : Int} (hn : Nat.ble (d + 1) fn.ntmps = true) (hx : ev env x = some (.int K m)) (hy : ev env y = some (.int K n))
    (h : WL md P fn ρ X ops l ((d, .bool (decide (n ≤ m))) :: env) Hs) : WL md P fn ρ X ops (⟨some d, .binOp .geq t x y t', ty, pos, aft, none⟩ :: l) env Hs :=
  .val rfl rfl hn (fun f w e => by simp [execOp, go_sem, e _ _ hx, e _ _ hy]) h
theorem int_beq (m n : Int) : (m == n) = decide (m = n) := by
  by_cases h : m = n <;> simp [h]
theorem WL.eql {x y : Operand} {t t' : TypeId} {K : IntKind} {m n : Int} (hn : Nat.ble (d + 1) fn.ntmps = true) (hx : ev env x = some (.int K m)) (hy : ev env y = some (.int K n))
    (h : WL md P fn ρ X ops l ((d, .bool (decide (m = n))) :: env) Hs) : WL md P fn ρ X ops (⟨some d, .binOp .eql t x y t', ty, pos, aft, none⟩ :: l) env Hs :=
  .val rfl rfl hn (fun f w e => by simp [execOp, go_sem, e _ _ hx, e _ _ hy, int_beq]) h
theorem WL.neq {x y : Operand} {t t' : TypeId} {K : IntKind} {m n : Int} (hn : Nat.ble (d + 1) fn.ntmps = true) (hx : ev env x = some (.int K m)) (hy : ev env y = some (.int K n))
    (h : WL md P fn ρ X ops l ((d, .bool (decide (¬ m = n))) :: env) Hs) : WL md P fn ρ X ops (⟨some d, .binOp .neq t x y t', ty, pos, aft, none⟩ :: l) env Hs :=
  .val rfl rfl hn (fun f w e => by simp [execOp, go_sem, e _ _ hx, e _ _ hy, int_beq, bne, decide_not]) h
theorem WL.not {x : Operand} {t : TypeId} {b : Bool} (hn : Nat.ble (d + 1) fn.ntmps = true) (hx : ev env x = some (.bool b))
    (h : WL md P fn ρ X ops l ((d, .bool (!b)) :: env) Hs) : WL md P fn ρ X ops (⟨some d, .unOp .not t x, ty, pos, aft, none⟩ :: l) env Hs :=
  .val rfl rfl hn (fun f w e => by simp [execOp, go_sem, e _ _ hx]) h
theorem WL.notp {x : Operand} {t : TypeId} {p : Prop} [Decidable p] (hn : Nat.ble (d + 1) fn.ntmps = true) (hx : ev env x = some (.bool (decide p)))
    (h : WL md P fn ρ X ops l ((d, .bool (decide (¬ p))) :: env) Hs) : WL md P fn ρ X ops (⟨some d, .unOp .not t x, ty, pos, aft, none⟩ :: l) env Hs :=
  .not hn hx (by rw [← decide_not]; exact h)
theorem WL.neg {x : Operand} {t : TypeId} {K : IntKind} {n : Int} (hn : Nat.ble (d + 1) fn.ntmps = true) (hx : ev env x = some (.int K n))
    (h : WL md P fn ρ X ops l ((d, .int K (K.wrap (-n))) :: env) Hs) : WL md P fn ρ X ops (⟨some d, .unOp .neg t x, ty, pos, aft, none⟩ :: l) env Hs :=
  .val rfl rfl hn (fun f w e => by simp [execOp, go_sem, e _ _ hx]) h

theorem WL.ext {x : Operand} {vs : Array Value} {i : Nat} {v : Value} (hn : Nat.ble (d + 1) fn.ntmps = true) (hx : ev env x = some (.tuple vs)) (hv : vs[i]? = some v)
    (h : WL md P fn ρ X ops l ((d, v) :: env) Hs) : WL md P fn ρ X ops (⟨some d, .extract x i, ty, pos, aft, none⟩ :: l) env Hs :=
  .val rfl rfl hn (fun f w e => by simp [execOp, e _ _ hx, Instr.extract, hv]) h

/- guards -/
theorem wanted_look {o : Oper} {j : Nat} {b c : Bool} {t : Tmp} (hg : o.guard = some (j, b)) (hj : (ops[j]?).bind (·.dst) = some t) {a : Act} (ha : a.tmps[t]? = some (.bool c)) : Region.wanted o (yielded ops a.tmps) = (c == b) := by
  have : ∃ oj, ops[j]? = some oj ∧ oj.dst = some t := by
    cases hq : ops[j]? with
    | none => simp [hq] at hj
    | some oj => exact ⟨oj, rfl, by simpa [hq] using hj⟩
  obtain ⟨oj, h1, h2⟩ := this
  simp [Region.wanted, hg, yielded, h1, h2, ha]
theorem WL.gdN {o : Oper} {j : Nat} {b c : Bool} {t : Tmp} (hg : o.guard = some (j, b)) (hd : o.dst = some d) (hn : Nat.ble (d + 1) fn.ntmps = true) (hj : (ops[j]?).bind (·.dst) = some t) (ht : look env t = some (.bool c)) (hne : (c == b) = false)
    (h : WL md P fn ρ X ops l ((d, undef) :: env) Hs) : WL md P fn ρ X ops (o :: l) env Hs := by
  cases md with
  | false =>
    intro w0 h0 w hh a s p e
    have hw := wanted_look hg hj (e.at' t _ ht)
    unfold wpList
    rw [if_neg (by simp [hw, hne]), hd]
    exact h w0 h0 w hh _ s p (e.put (Nat.le_of_ble_eq_true hn) _)
  | true =>
    intro a e
    have hw := wanted_look hg hj (e.at' t _ ht)
    refine ⟨undef, .inr ⟨by rw [hw, hne], rfl⟩, ?_⟩
    rw [hd]
    exact h _ (e.put (Nat.le_of_ble_eq_true hn) _)
theorem WL.gdY {o : Oper} {j : Nat} {b : Bool} {t : Tmp} (hg : o.guard = some (j, b)) (hj : (ops[j]?).bind (·.dst) = some t) (ht : look env t = some (.bool b))
    (h : WL md P fn ρ X ops ({ o with guard := none } :: l) env Hs) : WL md P fn ρ X ops (o :: l) env Hs := by
  cases md with
  | false =>
    intro w0 h0 w hh a s p e
    have hw := wanted_look hg hj (e.at' t _ ht)
    have hh' := h w0 h0 w hh a s p e
    unfold wpList at hh' ⊢
    rw [if_pos (by simp [hw])]
    rw [if_pos (by simp [Region.wanted])] at hh'
    exact hh'
  | true =>
    intro a e
    have hw := wanted_look hg hj (e.at' t _ ht)
    obtain ⟨v, hv, hl⟩ := h a e
    refine ⟨v, .inl ⟨by simp [hw], ?_⟩, hl⟩
    rcases hv with ⟨_, hv⟩ | ⟨hv, _⟩
    · exact hv
    · simp [Region.wanted] at hv

/-- a guard over what was not wanted itself -/
theorem WL.gdU {o : Oper} {j : Nat} {b : Bool} {t : Tmp} (hg : o.guard = some (j, b)) (hd : o.dst = some d) (hn : Nat.ble (d + 1) fn.ntmps = true) (hj : (ops[j]?).bind (·.dst) = some t) (ht : look env t = some undef)
    (h : WL md P fn ρ X ops l ((d, undef) :: env) Hs) : WL md P fn ρ X ops (o :: l) env Hs := by
  have hwa : ∀ a : Act, EnvOK fn.ntmps env a → Region.wanted o (yielded ops a.tmps) = false := by
    intro a e
    have : ∃ oj, ops[j]? = some oj ∧ oj.dst = some t := by
      cases hq : ops[j]? with
      | none => simp [hq] at hj
      | some oj => exact ⟨oj, rfl, by simpa [hq] using hj⟩
    obtain ⟨oj, h1, h2⟩ := this
    have := e.at' t _ ht
    simp [Region.wanted, hg, yielded, h1, h2, this, undef]
  cases md with
  | false =>
    intro w0 h0 w hh a s p e
    unfold wpList
    rw [if_neg (by simp [hwa a e]), hd]
    exact h w0 h0 w hh _ s p (e.put (Nat.le_of_ble_eq_true hn) _)
  | true =>
    intro a e
    refine ⟨undef, .inr ⟨hwa a e, rfl⟩, ?_⟩
    rw [hd]
    exact h _ (e.put (Nat.le_of_ble_eq_true hn) _)
theorem WL.gY {dst : Option Tmp} {op : Op} {j : Nat} {b : Bool} {t : Tmp} (hj : (ops[j]?).bind (·.dst) = some t) (ht : look env t = some (.bool b))
    (h : WL md P fn ρ X ops (⟨dst, op, ty, pos, aft, none⟩ :: l) env Hs) : WL md P fn ρ X ops (⟨dst, op, ty, pos, aft, some (j, b)⟩ :: l) env Hs := WL.gdY rfl hj ht h
theorem WL.gT {dst : Option Tmp} {op : Op} {j : Nat} {t : Tmp} {p : Prop} [Decidable p] (hj : (ops[j]?).bind (·.dst) = some t) (ht : look env t = some (.bool (decide p))) (hp : p)
    (h : WL md P fn ρ X ops (⟨dst, op, ty, pos, aft, none⟩ :: l) env Hs) : WL md P fn ρ X ops (⟨dst, op, ty, pos, aft, some (j, true)⟩ :: l) env Hs := WL.gdY rfl hj (by rw [ht, decide_eq_true hp]) h
theorem WL.gF {dst : Option Tmp} {op : Op} {j : Nat} {t : Tmp} {p : Prop} [Decidable p] (hj : (ops[j]?).bind (·.dst) = some t) (ht : look env t = some (.bool (decide p))) (hp : ¬ p)
    (h : WL md P fn ρ X ops (⟨dst, op, ty, pos, aft, none⟩ :: l) env Hs) : WL md P fn ρ X ops (⟨dst, op, ty, pos, aft, some (j, false)⟩ :: l) env Hs := WL.gdY rfl hj (by rw [ht, decide_eq_false hp]) h
/- guards and choices over a test that is told -/
theorem WL.gdTn {o : Oper} {j : Nat} {t : Tmp} {p : Prop} [Decidable p] (hg : o.guard = some (j, true)) (hd : o.dst = some d) (hn : Nat.ble (d + 1) fn.ntmps = true) (hj : (ops[j]?).bind (·.dst) = some t) (ht : look env t = some (.bool (decide p))) (hp : ¬ p)
    (h : WL md P fn ρ X ops l ((d, undef) :: env) Hs) : WL md P fn ρ X ops (o :: l) env Hs :=
  .gdN (c := false) hg hd hn hj (by rw [ht, decide_eq_false hp]) rfl h
theorem WL.gdFn {o : Oper} {j : Nat} {t : Tmp} {p : Prop} [Decidable p] (hg : o.guard = some (j, false)) (hd : o.dst = some d) (hn : Nat.ble (d + 1) fn.ntmps = true) (hj : (ops[j]?).bind (·.dst) = some t) (ht : look env t = some (.bool (decide p))) (hp : p)
    (h : WL md P fn ρ X ops l ((d, undef) :: env) Hs) : WL md P fn ρ X ops (o :: l) env Hs :=
  .gdN (c := true) hg hd hn hj (by rw [ht, decide_eq_true hp]) rfl h
theorem WL.pickTp {c x y : Operand} {v : Value} {p : Prop} [Decidable p] (hn : Nat.ble (d + 1) fn.ntmps = true) (hc : ev env c = some (.bool (decide p))) (hp : p) (hx : ev env x = some v)
    (h : WL md P fn ρ X ops l ((d, v) :: env) Hs) : WL md P fn ρ X ops (⟨some d, .pick c x y, ty, pos, aft, none⟩ :: l) env Hs :=
  .pickT hn (by rw [hc, decide_eq_true hp]) hx h
theorem WL.pickFp {c x y : Operand} {v : Value} {p : Prop} [Decidable p] (hn : Nat.ble (d + 1) fn.ntmps = true) (hc : ev env c = some (.bool (decide p))) (hp : ¬ p) (hy : ev env y = some v)
    (h : WL md P fn ρ X ops l ((d, v) :: env) Hs) : WL md P fn ρ X ops (⟨some d, .pick c x y, ty, pos, aft, none⟩ :: l) env Hs :=
  .pickF hn (by rw [hc, decide_eq_false hp]) hy h
end
end Go.Proofs.YtdpnpipninggeaaGreatDoor
