/- Numbers as the machine holds them, and plain ones. -/
import Derived.Test.YtdpnpipninggeaaGreatDoorOps
import Derived.Laws.Entries
import Derived.Laws.Bits
set_option linter.unusedSimpArgs false
set_option linter.unusedVariables false
namespace Go.Proofs.YtdpnpipninggeaaGreatDoor
open Go

theorem wrapU8 (n : Nat) : IntKind.u8.wrap (n : Int) = ((n % 256 : Nat) : Int) := by
  simp [IntKind.wrap, IntKind.bits, IntKind.signed]
theorem wrapU64 (n : Nat) : IntKind.u64.wrap (n : Int) = ((n % 18446744073709551616 : Nat) : Int) := by
  simp [IntKind.wrap, IntKind.bits, IntKind.signed]
theorem wrapI64 (n : Nat) (h : n < 9223372036854775808) : IntKind.i64.wrap (n : Int) = (n : Int) := by
  simp [IntKind.wrap, IntKind.bits, IntKind.signed]; omega

theorem bv_nat (n a : Nat) (h : a < 2 ^ n) : (BitVec.ofInt n (a : Int)).toNat = a := by
  have e : BitVec.ofInt n (a : Int) = BitVec.ofNat n a := by simp
  rw [e, BitVec.toNat_ofNat, Nat.mod_eq_of_lt h]
theorem wrap_nat {k : IntKind} {n : Nat} (hs : k.signed = false) (h : n < 2 ^ k.bits) : k.wrap (n : Int) = n := by
  simp only [IntKind.wrap, hs, Bool.false_and]
  have : ((n : Int) % (2 ^ k.bits : Int)) = ((n % 2 ^ k.bits : Nat) : Int) := by simp
  simp [this, Nat.mod_eq_of_lt h]
theorem bits_and {k : IntKind} (hs : k.signed = false) {a b : Nat} (ha : a < 2 ^ k.bits) (hb : b < 2 ^ k.bits) : bits .and k (a : Int) (b : Int) = ((a &&& b : Nat) : Int) := by
  simp only [bits, BitVec.toNat_and, bv_nat _ _ ha, bv_nat _ _ hb]
  exact wrap_nat hs (Nat.and_lt_two_pow _ hb)
theorem bits_or {k : IntKind} (hs : k.signed = false) {a b : Nat} (ha : a < 2 ^ k.bits) (hb : b < 2 ^ k.bits) : bits .or k (a : Int) (b : Int) = ((a ||| b : Nat) : Int) := by
  simp only [bits, BitVec.toNat_or, bv_nat _ _ ha, bv_nat _ _ hb]
  exact wrap_nat hs (Nat.or_lt_two_pow ha hb)
theorem bits_xor {k : IntKind} (hs : k.signed = false) {a b : Nat} (ha : a < 2 ^ k.bits) (hb : b < 2 ^ k.bits) : bits .xor k (a : Int) (b : Int) = ((a ^^^ b : Nat) : Int) := by
  simp only [bits, BitVec.toNat_xor, bv_nat _ _ ha, bv_nat _ _ hb]
  exact wrap_nat hs (Nat.xor_lt_two_pow ha hb)
/-- an int that is held against a mask of low bits -/
theorem bits_mask_i64 (x : Int) (n : Nat) (hn : n ≤ 62) : bits .and .i64 x ((2 ^ n - 1 : Nat) : Int) = x % (2 ^ n : Nat) := by
  have hp : 2 ^ n ≤ 2 ^ 62 := Nat.pow_le_pow_right (by decide) hn
  have hpos : 0 < 2 ^ n := Nat.pos_of_ne_zero (by simp)
  have h1 : 2 ^ n - 1 < 2 ^ 64 := by
    have : (2 : Nat) ^ 62 < 2 ^ 64 := by decide
    omega
  simp only [bits, BitVec.toNat_and]
  rw [show (BitVec.ofInt IntKind.i64.bits ((2 ^ n - 1 : Nat) : Int)).toNat = 2 ^ n - 1 from bv_nat 64 _ h1]
  have h2 : (BitVec.ofInt IntKind.i64.bits x).toNat = (x % (2 ^ 64 : Int)).toNat := by
    simp [BitVec.toNat_ofInt, IntKind.bits]
  rw [h2, Nat.and_two_pow_sub_one_eq_mod]
  have h4 : (x % (2 ^ 64 : Int)).toNat % 2 ^ n = (x % (2 ^ n : Nat)).toNat := by
    have hx0 : 0 ≤ x % (2 ^ 64 : Int) := Int.emod_nonneg _ (by decide)
    have e1 : (((x % (2 ^ 64 : Int)).toNat % 2 ^ n : Nat) : Int) = x % (2 ^ n : Nat) := by
      rw [Int.natCast_emod, Int.toNat_of_nonneg hx0]
      have hd : ((2 ^ n : Nat) : Int) ∣ (2 ^ 64 : Int) := by
        have : (2 ^ n : Nat) ∣ 2 ^ 64 := Nat.pow_dvd_pow 2 (by omega)
        have h := Int.natCast_dvd_natCast.2 this
        simpa using h
      exact Int.emod_emod_of_dvd _ hd
    rw [← e1, Int.toNat_natCast]
  rw [h4]
  have h5 : 0 ≤ x % (2 ^ n : Nat) := Int.emod_nonneg _ (by omega)
  have h6 : x % (2 ^ n : Nat) < (2 ^ n : Nat) := Int.emod_lt_of_pos _ (by omega)
  have h7 : (x % (2 ^ n : Nat)).toNat < 9223372036854775808 := by
    have : (2 : Nat) ^ 62 < 9223372036854775808 := by decide
    omega
  rw [wrapI64 _ h7, Int.toNat_of_nonneg h5]

section
variable {P : Program} {fn : Func} {ρ : Hp} {md : Bool} {X : World → Hp → Act → World → Prop} {env : Env} {Hs : List HP} {ops : Array Oper} {l : List Oper}
variable {d : Tmp} {ty : TypeId} {pos : String} {aft : Array Edge}
/- numbers that stay in their kind -/
theorem WL.addK {x y : Operand} {t t' : TypeId} {K : IntKind} {m n : Int} (hn : Nat.ble (d + 1) fn.ntmps = true) (hx : ev env x = some (.int K m)) (hy : ev env y = some (.int K n)) (hw : K.wrap (m + n) = m + n)
    (h : WL md P fn ρ X ops l ((d, .int K (m + n)) :: env) Hs) : WL md P fn ρ X ops (⟨some d, .binOp .add t x y t', ty, pos, aft, none⟩ :: l) env Hs := .add hn hx hy (by rw [hw]; exact h)
theorem WL.subK {x y : Operand} {t t' : TypeId} {K : IntKind} {m n : Int} (hn : Nat.ble (d + 1) fn.ntmps = true) (hx : ev env x = some (.int K m)) (hy : ev env y = some (.int K n)) (hw : K.wrap (m - n) = m - n)
    (h : WL md P fn ρ X ops l ((d, .int K (m - n)) :: env) Hs) : WL md P fn ρ X ops (⟨some d, .binOp .sub t x y t', ty, pos, aft, none⟩ :: l) env Hs := .sub' hn hx hy (by rw [hw]; exact h)
theorem WL.mulK {x y : Operand} {t t' : TypeId} {K : IntKind} {m n : Int} (hn : Nat.ble (d + 1) fn.ntmps = true) (hx : ev env x = some (.int K m)) (hy : ev env y = some (.int K n)) (hw : K.wrap (m * n) = m * n)
    (h : WL md P fn ρ X ops l ((d, .int K (m * n)) :: env) Hs) : WL md P fn ρ X ops (⟨some d, .binOp .mul t x y t', ty, pos, aft, none⟩ :: l) env Hs := .mul hn hx hy (by rw [hw]; exact h)
theorem WL.negK {x : Operand} {t : TypeId} {K : IntKind} {n : Int} (hn : Nat.ble (d + 1) fn.ntmps = true) (hx : ev env x = some (.int K n)) (hw : K.wrap (-n) = -n)
    (h : WL md P fn ρ X ops l ((d, .int K (-n)) :: env) Hs) : WL md P fn ρ X ops (⟨some d, .unOp .neg t x, ty, pos, aft, none⟩ :: l) env Hs := .neg hn hx (by rw [hw]; exact h)
theorem WL.cvK {T : Tab P} {x : Operand} {s t : TypeId} {K K' : IntKind} {n : Int} {si : TyI} {z : Value} {a b : Nat} {c : Bool} (hn : Nat.ble (d + 1) fn.ntmps = true) (hx : ev env x = some (.int K' n)) (hs : T.tt s = some si) (ht : T.tt t = some ⟨.int K, a, b, z, c⟩) (hw : K.wrap n = n)
    (h : WL md P fn ρ X ops l ((d, .int K n) :: env) Hs) : WL md P fn ρ X ops (⟨some d, .convert s t x, ty, pos, aft, none⟩ :: l) env Hs := .cv (T := T) hn hx hs ht (by rw [hw]; exact h)
theorem WL.shlS {x y : Operand} {t t' : TypeId} {K K' : IntKind} {m n c r : Int} (hn : Nat.ble (d + 1) fn.ntmps = true) (hx : ev env x = some (.int K m)) (hy : ev env y = some (.int K' n)) (h0 : 0 ≤ n)
    (hc : (2 : Int) ^ min n.toNat K.bits = c) (hr : K.wrap (m * c) = r)
    (h : WL md P fn ρ X ops l ((d, .int K r) :: env) Hs) : WL md P fn ρ X ops (⟨some d, .binOp .shl t x y t', ty, pos, aft, none⟩ :: l) env Hs := .shl hn hx hy h0 (by rw [hc, hr]; exact h)
theorem WL.shrS {x y : Operand} {t t' : TypeId} {K K' : IntKind} {m n c : Int} (hn : Nat.ble (d + 1) fn.ntmps = true) (hx : ev env x = some (.int K m)) (hy : ev env y = some (.int K' n)) (h0 : 0 ≤ n)
    (hc : (2 : Int) ^ min n.toNat K.bits = c)
    (h : WL md P fn ρ X ops l ((d, .int K (m / c)) :: env) Hs) : WL md P fn ρ X ops (⟨some d, .binOp .shr t x y t', ty, pos, aft, none⟩ :: l) env Hs := .shr hn hx hy h0 (by rw [hc]; exact h)
def maskLog (n : Int) : Nat := Nat.log2 (n.toNat + 1)
theorem bits_mask_u {k : IntKind} (hs : k.signed = false) (m : Int) (s : Nat) (h0 : 0 ≤ m) (hm : m < 2 ^ k.bits) (hk : s ≤ k.bits) : bits .and k m ((2 : Int) ^ s - 1) = m % 2 ^ s := by
  obtain ⟨a, rfl⟩ := Int.eq_ofNat_of_zero_le h0
  have e : (2 : Int) ^ s - 1 = ((2 ^ s - 1 : Nat) : Int) := by
    have : 0 < 2 ^ s := Nat.pos_of_ne_zero (by simp)
    rw [Int.natCast_sub this]; simp
  have h1 : a < 2 ^ k.bits := by exact_mod_cast hm
  have h2 : 2 ^ s - 1 < 2 ^ k.bits := by
    have h3 : 2 ^ s ≤ 2 ^ k.bits := Nat.pow_le_pow_right (by decide) hk
    have : 0 < 2 ^ s := Nat.pos_of_ne_zero (by simp)
    omega
  rw [e, bits_and hs h1 h2, Nat.and_two_pow_sub_one_eq_mod]
  simp
/-- held against a mask of low bits -/
theorem WL.andU {x y : Operand} {t t' : TypeId} {K : IntKind} {m n : Int} (hn : Nat.ble (d + 1) fn.ntmps = true) (hx : ev env x = some (.int K m)) (hy : ev env y = some (.int K n))
    (hs : K.signed = false) (hk : (decide ((2 : Int) ^ maskLog n = n + 1) && Nat.ble (maskLog n) K.bits) = true) (h0 : 0 ≤ m) (h1 : m < 2 ^ K.bits)
    (h : WL md P fn ρ X ops l ((d, .int K (m % (n + 1))) :: env) Hs) : WL md P fn ρ X ops (⟨some d, .binOp .and t x y t', ty, pos, aft, none⟩ :: l) env Hs :=
  .and hn hx hy (by
    simp only [Bool.and_eq_true, decide_eq_true_eq] at hk
    have := bits_mask_u hs m (maskLog n) h0 h1 (Nat.le_of_ble_eq_true hk.2)
    rw [hk.1, Int.add_sub_cancel] at this
    rw [this]; exact h)
theorem WL.andI {x y : Operand} {t t' : TypeId} {m n : Int} (hn : Nat.ble (d + 1) fn.ntmps = true) (hx : ev env x = some (.int .i64 m)) (hy : ev env y = some (.int .i64 n))
    (hk : (decide ((2 : Int) ^ maskLog n = n + 1) && Nat.ble (maskLog n) 62) = true)
    (h : WL md P fn ρ X ops l ((d, .int .i64 (m % (n + 1))) :: env) Hs) : WL md P fn ρ X ops (⟨some d, .binOp .and t x y t', ty, pos, aft, none⟩ :: l) env Hs :=
  .and hn hx hy (by
    simp only [Bool.and_eq_true, decide_eq_true_eq] at hk
    have := bits_mask_i64 m (maskLog n) (Nat.le_of_ble_eq_true hk.2)
    have e : ((2 ^ maskLog n - 1 : Nat) : Int) = n := by
      have hp : 0 < 2 ^ maskLog n := Nat.pos_of_ne_zero (by simp)
      rw [Int.natCast_sub hp]; simp; omega
    have e2 : ((2 ^ maskLog n : Nat) : Int) = n + 1 := by simp; exact hk.1
    rw [e, e2] at this
    rw [this]; exact h)
end
theorem xor_ones64 (a : Nat) (h : a < 18446744073709551616) : a ^^^ 18446744073709551615 = 18446744073709551615 - a := by
  have := congrArg BitVec.toNat (BitVec.xor_allOnes (x := BitVec.ofNat 64 a))
  simp only [BitVec.toNat_xor, BitVec.toNat_not, BitVec.toNat_ofNat, BitVec.toNat_allOnes] at this
  rw [Nat.mod_eq_of_lt h] at this
  exact this
theorem bits_xor_ones64 (a : Nat) (h : a < 18446744073709551616) : bits .xor .u64 (a : Int) 18446744073709551615 = ((18446744073709551615 - a : Nat) : Int) := by
  rw [show (18446744073709551615 : Int) = ((18446744073709551615 : Nat) : Int) from rfl, bits_xor rfl (by exact h) (by decide), xor_ones64 a h]
theorem bits_xor_zero64 (a : Nat) (h : a < 18446744073709551616) : bits .xor .u64 (a : Int) 0 = (a : Int) := by
  rw [show (0 : Int) = ((0 : Nat) : Int) from rfl, bits_xor rfl (by exact h) (by decide), Nat.xor_zero]
end Go.Proofs.YtdpnpipninggeaaGreatDoor
