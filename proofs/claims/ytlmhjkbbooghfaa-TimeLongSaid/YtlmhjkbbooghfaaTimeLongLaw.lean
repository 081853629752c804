/- A difference told longer than it need be. In plain Lean. -/
import Derived.Test.YtlmhjkbbooghfaaTimeLaw
set_option linter.unusedSimpArgs false
set_option linter.unusedVariables false
namespace Go.Proofs.Ytlmhjkbbooghfaa
open Go
def headT : Nat → Nat
  | 0 => 0
  | 1 => 2
  | 2 => 6
  | 3 => 14
  | _ => 15
def lenT : Nat → Nat
  | 0 => 1
  | 1 => 2
  | 2 => 3
  | _ => 4
/-- the least form that a difference fits in -/
def leastT (d : Int) : Nat := if d = 0 then 0 else if -64 ≤ d ∧ d ≤ 63 then 1 else if -256 ≤ d ∧ d ≤ 255 then 2 else if -2048 ≤ d ∧ d ≤ 2047 then 3 else 4
theorem which_least (d : Int) : (whichF d).2.2 = sizeT (leastT d) := by
  unfold whichF leastT
  repeat' split
  all_goals rfl
theorem leastT_le (d : Int) : leastT d ≤ 4 := by
  unfold leastT
  repeat' split
  all_goals omega
theorem sizeT_inj (a b : Nat) (ha : a ≤ 4) (hb : b ≤ 4) : sizeT a = sizeT b ↔ a = b := by
  have : ∀ a b : Fin 5, sizeT a.val = sizeT b.val ↔ a.val = b.val := by decide
  exact this ⟨a, by omega⟩ ⟨b, by omega⟩
theorem sext_u (d : Int) (k : Nat) (hk : k ≤ 4) (hd : -4095 ≤ d ∧ d ≤ 4095) (hl : leastT d ≤ k) : sext (sizeT k) ((IntKind.u64.wrap d).toNat % 2 ^ sizeT k) = d := by
  have hb := u64_bnd d
  have hi := i64_u64 d (by omega)
  rcases (by omega : k = 0 ∨ k = 1 ∨ k = 2 ∨ k = 3 ∨ k = 4) with rfl | rfl | rfl | rfl | rfl
  · have : d = 0 := by
      unfold leastT at hl
      repeat' split at hl
      all_goals omega
    subst this
    rfl
  · have h : -64 ≤ d ∧ d ≤ 63 := by
      unfold leastT at hl
      repeat' split at hl
      all_goals omega
    have := sext7 _ hb.1 hb.2 (by rw [hi]; exact h)
    rw [hi] at this
    exact this
  · have h : -256 ≤ d ∧ d ≤ 255 := by
      unfold leastT at hl
      repeat' split at hl
      all_goals omega
    have := sext9 _ hb.1 hb.2 (by rw [hi]; exact h)
    rw [hi] at this
    exact this
  · have h : -2048 ≤ d ∧ d ≤ 2047 := by
      unfold leastT at hl
      repeat' split at hl
      all_goals omega
    have := sext12 _ hb.1 hb.2 (by rw [hi]; exact h)
    rw [hi] at this
    exact this
  · have := sext64 _ hb.1 hb.2
    rw [hi] at this
    exact this
theorem next_long (xs : List Nat) (d : Int) (k : Nat) (hk : k ≤ 4) (h0 : 0 ≤ d) (hx : ∀ b ∈ xs, b < 2) :
    nextF (pack (xs ++ (bitsOf (headT k) (lenT k) ++ bitsOf d.toNat (sizeT k)))) ⟨xs.length, false⟩ =
      (sext (sizeT k) (d.toNat % 2 ^ sizeT k), decide ((whichF (sext (sizeT k) (d.toNat % 2 ^ sizeT k))).2.2 = sizeT k), ⟨xs.length + lenT k + sizeT k, false⟩) := by
  rcases (by omega : k = 0 ∨ k = 1 ∨ k = 2 ∨ k = 3 ∨ k = 4) with rfl | rfl | rfl | rfl | rfl
  · have := next_stop xs [] d 0 (by decide) h0 hx (by simp)
    rw [show bitsOf (headT 0) (lenT 0) = List.replicate 0 1 ++ [0] from rfl]
    simp only [List.append_nil, List.append_assoc, List.cons_append, List.nil_append] at this ⊢
    exact this
  · have := next_stop xs [] d 1 (by decide) h0 hx (by simp)
    rw [show bitsOf (headT 1) (lenT 1) = List.replicate 1 1 ++ [0] from rfl]
    simp only [List.append_nil, List.append_assoc, List.cons_append, List.nil_append] at this ⊢
    exact this
  · have := next_stop xs [] d 2 (by decide) h0 hx (by simp)
    rw [show bitsOf (headT 2) (lenT 2) = List.replicate 2 1 ++ [0] from rfl]
    simp only [List.append_nil, List.append_assoc, List.cons_append, List.nil_append] at this ⊢
    exact this
  · have := next_stop xs [] d 3 (by decide) h0 hx (by simp)
    rw [show bitsOf (headT 3) (lenT 3) = List.replicate 3 1 ++ [0] from rfl]
    simp only [List.append_nil, List.append_assoc, List.cons_append, List.nil_append] at this ⊢
    exact this
  · have := next_all xs [] d h0 hx (by simp)
    rw [show bitsOf (headT 4) (lenT 4) = List.replicate 4 1 from rfl]
    simp only [List.append_nil] at this ⊢
    exact this
/-- a time, and a difference told in some form that it fits in -/
theorem long_dec (d : Int) (k : Nat) (hk : k ≤ 4) (hd : -4095 ≤ d ∧ d ≤ 4095) (hl : leastT d ≤ k) :
    decTs (pack ([] ++ bitsOf 100 64 ++ bitsOf (headT k) (lenT k) ++ bitsOf (IntKind.u64.wrap d).toNat (sizeT k))) ⟨0, false⟩ 2 =
      if leastT d = k then some ([100, 100 + d], ⟨64 + lenT k + sizeT k, false⟩) else none := by
  have hb := u64_bnd d
  have hg := getF_put [] (bitsOf (headT k) (lenT k) ++ bitsOf (IntKind.u64.wrap d).toNat (sizeT k)) 100 64 (by simp) (bok_app (bitsOf_bit _ _) (bitsOf_bit _ _))
  rw [show heldF 64 = 64 from rfl, show 100 % 2 ^ 64 = 100 from by decide] at hg
  have hn := next_long (bitsOf 100 64) (IntKind.u64.wrap d) k hk hb.1 (bitsOf_bit _ _)
  rw [sext_u d k hk hd hl, bitsOf_len] at hn
  simp only [List.nil_append, List.length_nil, Nat.zero_add] at hg
  simp only [List.nil_append, List.append_assoc]
  unfold decTs
  rw [show heldT 2 = 1 + 1 from rfl]
  simp only [hg]
  rw [if_neg (by simp)]
  rw [decT, hn]
  simp only []
  have hw : (whichF d).2.2 = sizeT k ↔ leastT d = k := by rw [which_least]; exact sizeT_inj _ _ (leastT_le d) hk
  by_cases he : leastT d = k
  · rw [if_pos he, if_neg (by simp [hw.2 he]), decT]
    have e1 : IntKind.u64.wrap (0 + IntKind.u64.wrap d) = IntKind.u64.wrap d := by simp only [u64_mod]; omega
    have e2 : IntKind.i64.wrap (IntKind.u64.wrap (((100 : Nat) : Int) + IntKind.u64.wrap d)) = 100 + d := by
      rw [u64_u64r]
      exact i64_u64 _ (by constructor <;> omega)
    have e3 : IntKind.i64.wrap ((100 : Nat) : Int) = 100 := by decide
    rw [e1, e2, e3]
    rfl
  · rw [if_neg he, if_pos (by left; simp [hw, he])]
end Go.Proofs.Ytlmhjkbbooghfaa
