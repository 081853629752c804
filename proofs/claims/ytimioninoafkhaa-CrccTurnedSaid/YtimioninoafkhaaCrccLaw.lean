/- Sums of bytes: a step is eight shifts of the whole state, and shifts are linear and lose nothing. In plain Lean. -/
import Derived.Test.YtimioninoafkhaaNum
set_option linter.unusedSimpArgs false
set_option linter.unusedVariables false
namespace Go.Proofs.Ytimioninoafkhaa
open Go

def S1 (c : BitVec 32) : BitVec 32 := (c >>> 1) ^^^ (if c.getLsbD 0 then 0x82F63B78#32 else 0#32)
def S8 (c : BitVec 32) : BitVec 32 := S1 (S1 (S1 (S1 (S1 (S1 (S1 (S1 c)))))))
theorem S1_lin (a b : BitVec 32) : S1 (a ^^^ b) = S1 a ^^^ S1 b := by
  unfold S1
  have h1 : (a ^^^ b) >>> 1 = (a >>> 1) ^^^ (b >>> 1) := by
    apply BitVec.eq_of_getLsbD_eq
    intro i _
    simp
  have hc : ∀ x y p q : BitVec 32, (x ^^^ p) ^^^ (y ^^^ q) = (x ^^^ y) ^^^ (p ^^^ q) := by
    intro x y p q
    rw [BitVec.xor_assoc, ← BitVec.xor_assoc p y q, BitVec.xor_comm p y, BitVec.xor_assoc y p q, ← BitVec.xor_assoc]
  rw [h1, hc]
  congr 1
  simp only [BitVec.getLsbD_xor]
  cases a.getLsbD 0 <;> cases b.getLsbD 0 <;> decide
theorem S8_lin (a b : BitVec 32) : S8 (a ^^^ b) = S8 a ^^^ S8 b := by simp only [S8, S1_lin]
theorem S1_zero : S1 0#32 = 0#32 := by decide
theorem S8_zero : S8 0#32 = 0#32 := by decide
theorem S1_inj (c : BitVec 32) (h : S1 c = 0#32) : c = 0#32 := by
  have h31 : (S1 c).getLsbD 31 = c.getLsbD 0 := by
    unfold S1
    rw [BitVec.getLsbD_xor]
    have : (c >>> 1).getLsbD 31 = false := by simp [BitVec.getLsbD_ushiftRight]
    rw [this]
    cases c.getLsbD 0 <;> decide
  rw [h] at h31
  have h0 : c.getLsbD 0 = false := by simpa using h31.symm
  unfold S1 at h
  rw [h0] at h
  simp only [Bool.false_eq_true, if_false, BitVec.xor_zero] at h
  apply BitVec.eq_of_getLsbD_eq
  intro i hi
  cases i with
  | zero => simpa using h0
  | succ i =>
    have := congrArg (fun b => b.getLsbD i) h
    simp only [BitVec.getLsbD_ushiftRight] at this
    rw [Nat.add_comm] at this
    simpa using this
theorem S8_inj (c : BitVec 32) (h : S8 c = 0#32) : c = 0#32 := by
  unfold S8 at h
  exact S1_inj _ (S1_inj _ (S1_inj _ (S1_inj _ (S1_inj _ (S1_inj _ (S1_inj _ (S1_inj _ h)))))))
theorem S1_shift (c : BitVec 32) (k : Nat) (h : c.getLsbD k = false) : S1 (c >>> k) = c >>> (k + 1) := by
  unfold S1
  have : (c >>> k).getLsbD 0 = false := by simpa [BitVec.getLsbD_ushiftRight] using h
  rw [this]
  simp only [Bool.false_eq_true, if_false, BitVec.xor_zero]
  rw [← BitVec.shiftRight_add]
theorem S8_shift (c : BitVec 32) (h : ∀ i, i < 8 → c.getLsbD i = false) : S8 c = c >>> 8 := by
  unfold S8
  have e : c = c >>> 0 := by simp
  rw [show S1 c = S1 (c >>> 0) by rw [← e], S1_shift c 0 (h 0 (by decide)), S1_shift c 1 (h 1 (by decide)), S1_shift c 2 (h 2 (by decide)), S1_shift c 3 (h 3 (by decide)), S1_shift c 4 (h 4 (by decide)), S1_shift c 5 (h 5 (by decide)), S1_shift c 6 (h 6 (by decide)), S1_shift c 7 (h 7 (by decide))]

/- the same in numbers -/
def entS (c : Nat) : Nat := if c % 2 = 1 then (c / 2) ^^^ 2197175160 else c / 2
def entN : Nat → Nat → Nat
  | 0, c => c
  | k + 1, c => entN k (entS c)
def entF (i : Nat) : Nat := entN 8 i
theorem entS_bv (c : BitVec 32) : entS c.toNat = (S1 c).toNat := by
  unfold entS S1
  have h0 : c.getLsbD 0 = decide (c.toNat % 2 = 1) := by
    rw [BitVec.getLsbD, Nat.testBit_zero]
  rw [h0]
  by_cases h : c.toNat % 2 = 1
  · rw [if_pos h]
    simp [h, BitVec.toNat_xor, BitVec.toNat_ushiftRight, Nat.shiftRight_eq_div_pow]
  · rw [if_neg h]
    simp [h, BitVec.toNat_ushiftRight, Nat.shiftRight_eq_div_pow]
theorem entF_bv (c : BitVec 32) : entF c.toNat = (S8 c).toNat := by
  simp only [entF, entN, S8, entS_bv]
theorem entF_lt (i : Nat) (h : i < 4294967296) : entF i < 4294967296 := by
  have : entF i = (S8 (BitVec.ofNat 32 i)).toNat := by
    rw [← entF_bv, BitVec.toNat_ofNat, Nat.mod_eq_of_lt h]
  rw [this]
  exact (S8 _).isLt
/-- one byte more, by a table -/
def stepT (T : List Nat) (c x : Nat) : Nat := T.getD ((c % 256) ^^^ x) 0 ^^^ (c / 256)
def sumT (T : List Nat) (bs : List Nat) : Nat := bs.foldl (stepT T) 4294967295 ^^^ 4294967295
/-- one byte more, as the document says -/
def stepR (c x : Nat) : Nat := entF ((c ^^^ x) % 256) ^^^ (c / 256)
def sumR (bs : List Nat) : Nat := bs.foldl stepR 4294967295 ^^^ 4294967295
def tblL : List Nat := (List.range 256).map entF
theorem tblL_get (i : Nat) (h : i < 256) : tblL.getD i 0 = entF i := by
  simp [tblL, List.getD, h]
theorem tblL_len : tblL.length = 256 := by simp [tblL]
theorem xor_mod (c x : Nat) (hx : x < 256) : (c % 256) ^^^ x = (c ^^^ x) % 256 := by
  have h := Nat.xor_mod_two_pow (a := c) (b := x) (n := 8)
  rw [show (2 : Nat) ^ 8 = 256 from rfl] at h
  rw [h, Nat.mod_eq_of_lt hx]
theorem step_same (c x : Nat) (hx : x < 256) : stepT tblL c x = stepR c x := by
  unfold stepT stepR
  rw [xor_mod c x hx, tblL_get _ (Nat.mod_lt _ (by decide))]
theorem stepR_bv (c : BitVec 32) (x : Nat) (hx : x < 256) : stepR c.toNat x = (S8 (c ^^^ BitVec.ofNat 32 x)).toNat := by
  -- the low byte goes by the table, the others are shifted
  have hlo : ∀ (y : BitVec 32), S8 y = S8 (BitVec.ofNat 32 (y.toNat % 256)) ^^^ (y >>> 8) := by
    intro y
    have hy : y = BitVec.ofNat 32 (y.toNat % 256) ^^^ (y &&& 0xFFFFFF00#32) := by
      apply BitVec.eq_of_getLsbD_eq
      intro i hi
      rw [BitVec.getLsbD_xor, BitVec.getLsbD_and, BitVec.getLsbD_ofNat]
      have hm : (y.toNat % 256).testBit i = (decide (i < 8) && y.toNat.testBit i) := by
        rw [show (256 : Nat) = 2 ^ 8 from rfl, Nat.testBit_mod_two_pow]
      have hk : (0xFFFFFF00#32).getLsbD i = decide (8 ≤ i) := by
        have : ∀ j : Fin 32, (0xFFFFFF00#32).getLsbD j.val = decide (8 ≤ j.val) := by decide
        exact this ⟨i, hi⟩
      rw [hm, hk]
      simp only [hi, decide_true, Bool.true_and, BitVec.getLsbD]
      by_cases h8 : i < 8
      · simp [h8, show ¬ 8 ≤ i by omega]
      · simp [h8, show 8 ≤ i by omega]
    have h1 : S8 (y &&& 0xFFFFFF00#32) = (y &&& 0xFFFFFF00#32) >>> 8 := S8_shift _ (fun i hi => by
      rw [BitVec.getLsbD_and]
      have : ∀ j : Fin 8, (0xFFFFFF00#32).getLsbD j.val = false := by decide
      rw [this ⟨i, hi⟩, Bool.and_false])
    have h2 : (y &&& 0xFFFFFF00#32) >>> 8 = y >>> 8 := by
      apply BitVec.eq_of_getLsbD_eq
      intro i hi
      rw [BitVec.getLsbD_ushiftRight, BitVec.getLsbD_ushiftRight, BitVec.getLsbD_and]
      by_cases h : 8 + i < 32
      · have : ∀ j : Fin 24, (0xFFFFFF00#32).getLsbD (8 + j.val) = true := by decide
        rw [this ⟨i, by omega⟩, Bool.and_true]
      · have : y.getLsbD (8 + i) = false := BitVec.getLsbD_of_ge _ _ (by omega)
        rw [this, Bool.false_and]
    calc S8 y = S8 (BitVec.ofNat 32 (y.toNat % 256) ^^^ (y &&& 0xFFFFFF00#32)) := by rw [← hy]
      _ = S8 (BitVec.ofNat 32 (y.toNat % 256)) ^^^ (y >>> 8) := by rw [S8_lin, h1, h2]
  have hx32 : (BitVec.ofNat 32 x).toNat = x := by rw [BitVec.toNat_ofNat]; omega
  rw [hlo, BitVec.toNat_xor, BitVec.toNat_ushiftRight]
  have e1 : (c ^^^ BitVec.ofNat 32 x).toNat = c.toNat ^^^ x := by rw [BitVec.toNat_xor, hx32]
  have e2 : ((c ^^^ BitVec.ofNat 32 x) >>> 8) = c >>> 8 := by
    apply BitVec.eq_of_getLsbD_eq
    intro i hi
    rw [BitVec.getLsbD_ushiftRight, BitVec.getLsbD_ushiftRight, BitVec.getLsbD_xor, BitVec.getLsbD_ofNat]
    have : x.testBit (8 + i) = false := Nat.testBit_lt_two_pow (Nat.lt_of_lt_of_le hx (by rw [show (256 : Nat) = 2 ^ 8 from rfl]; exact Nat.pow_le_pow_right (by decide) (by omega)))
    simp [this]
  have e3 : (c ^^^ BitVec.ofNat 32 x).toNat >>> 8 = c.toNat / 256 := by
    have := congrArg BitVec.toNat e2
    rw [BitVec.toNat_ushiftRight, BitVec.toNat_ushiftRight, Nat.shiftRight_eq_div_pow c.toNat] at this
    exact this
  unfold stepR
  rw [e3, e1, ← entF_bv, BitVec.toNat_ofNat, Nat.mod_eq_of_lt (show (c.toNat ^^^ x) % 256 < 2 ^ 32 by omega)]
end Go.Proofs.Ytimioninoafkhaa
