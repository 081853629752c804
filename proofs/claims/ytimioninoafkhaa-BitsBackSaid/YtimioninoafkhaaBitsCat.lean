/- Numbers put one behind the other. In plain Lean. -/
import Derived.Test.YtimioninoafkhaaBitsLaw
set_option linter.unusedSimpArgs false
set_option linter.unusedVariables false
namespace Go.Proofs.Ytimioninoafkhaa
open Go
def catG (vs : List Nat) (kf : Nat → Int) : Nat → List Nat
  | 0 => []
  | i + 1 => catG vs kf i ++ bitsOf (vs.getD i 0) (heldF (kf i))
theorem catG_bit (vs : List Nat) (kf : Nat → Int) : ∀ i, ∀ d ∈ catG vs kf i, d < 2
  | 0 => by simp [catG]
  | i + 1 => bok_app (catG_bit vs kf i) (bitsOf_bit _ _)
theorem heldF_le (n : Int) : heldF n ≤ 64 := by unfold heldF; omega
theorem catG_len (vs : List Nat) (kf : Nat → Int) : ∀ i, (catG vs kf i).length ≤ 64 * i
  | 0 => by simp [catG]
  | i + 1 => by
    have := catG_len vs kf i
    have := heldF_le (kf i)
    simp only [catG, List.length_append, bitsOf_len]; omega
theorem catG_pre (vs : List Nat) (kf : Nat → Int) (i : Nat) : ∀ m, ∃ zs, catG vs kf (i + m) = catG vs kf i ++ zs ∧ ∀ d ∈ zs, d < 2
  | 0 => ⟨[], by simp, by simp⟩
  | m + 1 => by
    obtain ⟨zs, h1, h2⟩ := catG_pre vs kf i m
    refine ⟨zs ++ bitsOf (vs.getD (i + m) 0) (heldF (kf (i + m))), ?_, bok_app h2 (bitsOf_bit _ _)⟩
    rw [show i + (m + 1) = (i + m) + 1 by omega, catG, h1, List.append_assoc]
theorem catG_mono (vs : List Nat) (kf : Nat → Int) {i I : Nat} (h : i ≤ I) : (catG vs kf i).length ≤ (catG vs kf I).length := by
  obtain ⟨zs, hz, _⟩ := catG_pre vs kf i (I - i)
  rw [show i + (I - i) = I by omega] at hz
  rw [hz]; simp
theorem want_eq (v : Nat) (k : Int) (hv : v < 18446744073709551616) (h0 : 0 ≤ k) (hk : k < 64) :
    bits .and .u64 (v : Int) (IntKind.u64.wrap (IntKind.u64.wrap (1 * 2 ^ min k.toNat IntKind.u64.bits) - 1)) = ((v % 2 ^ heldF k : Nat) : Int) := by
  have e1 : min k.toNat IntKind.u64.bits = heldF k := by unfold heldF; simp [IntKind.bits]; omega
  have hm : heldF k ≤ 63 := by unfold heldF; omega
  have hp : 2 ^ heldF k ≤ 2 ^ 63 := Nat.pow_le_pow_right (by decide) hm
  have hp0 : 0 < 2 ^ heldF k := Nat.pow_pos (by decide)
  have e2 : (2 : Int) ^ heldF k = ((2 ^ heldF k : Nat) : Int) := by push_cast; rfl
  rw [e1, Int.one_mul, wrap_u64 (n := 2 ^ heldF k) (by rw [e2]; omega), wrap_u64 (n := 2 ^ heldF k - 1) (by rw [e2]; omega), bits_mask_u rfl _ _ (by omega) (by simp [IntKind.bits]; omega) (by simp [IntKind.bits]; omega)]
  push_cast
  rfl
/-- the i-th number is read -/
theorem catG_get (vs : List Nat) (kf : Nat → Int) {i I : Nat} (h : i < I) :
    getF (pack (catG vs kf I)) ⟨(catG vs kf i).length, false⟩ (kf i) = (vs.getD i 0 % 2 ^ heldF (kf i), ⟨(catG vs kf (i + 1)).length, false⟩) := by
  obtain ⟨zs, hz, hzb⟩ := catG_pre vs kf (i + 1) (I - (i + 1))
  rw [show i + 1 + (I - (i + 1)) = I by omega] at hz
  have hl := pack_len (catG vs kf I)
  have hlen : (catG vs kf I).length = (catG vs kf i).length + heldF (kf i) + zs.length := by
    rw [hz]; simp [catG, bitsOf_len]; omega
  unfold getF leftF
  rw [if_neg (by simp; omega)]
  congr 1
  · rw [hz, catG]; exact getV_bits _ zs _ _ (catG_bit vs kf i) hzb
  · simp [catG, bitsOf_len]
end Go.Proofs.Ytimioninoafkhaa
