/- Numbers of any length, and their bytes. In plain Lean. -/
import Derived.Test.YtjibmfkhhljhcaaNum
import Derived.Test.YtjibmfkhhljhcaaVal
set_option linter.unusedSimpArgs false
set_option linter.unusedVariables false
set_option maxRecDepth 20000
namespace Go.Proofs.Ytjibmfkhhljhcaa
open Go
def vputF : Nat → Nat → List Nat
  | 0, u => [u]
  | k + 1, u => if u < 128 then [u] else (u % 128 + 128) :: vputF k (u / 128)
theorem or_128 (n : Nat) (h : n < 256) : n ||| 128 = n % 128 + 128 := by
  have : ∀ m : Fin 256, (m.val ||| 128) = m.val % 128 + 128 := by decide +kernel
  exact this ⟨n, h⟩

theorem vput_byte (u : Nat) : bits .or .u8 (IntKind.u8.wrap (u : Int)) 128 = ((u % 128 + 128 : Nat) : Int) := by
  have h : u % 256 < 256 := Nat.mod_lt _ (by decide)
  rw [wrapU8, show (128 : Int) = ((128 : Nat) : Int) from rfl, bits_or rfl (by exact h) (by decide), or_128 _ h]
  congr 2
  omega
theorem vput_shift (u : Nat) : (u : Int) / 128 = ((u / 128 : Nat) : Int) := by omega

/- reading -/
def vgetF : Nat → Nat → List Nat → Nat × Nat
  | _, _, [] => (0, 0)
  | i, u, c :: cs => if i = 10 ∨ (i = 9 ∧ 1 < c) ∨ (0 < i ∧ c = 0) then (0, 0) else if c < 128 then (u + c * 128 ^ i, i + 1) else vgetF (i + 1) (u + (c - 128) * 128 ^ i) cs

theorem pow7 (i : Nat) : 2 ^ (7 * i) = 128 ^ i := by rw [Nat.pow_mul]
theorem vget_shl (c i : Nat) (hi : i ≤ 9) (hc : c * 128 ^ i < 18446744073709551616) : IntKind.u64.wrap ((c : Int) * 2 ^ min ((7 * (i : Int)).toNat) IntKind.u64.bits) = ((c * 128 ^ i : Nat) : Int) := by
  have e : (7 * (i : Int)).toNat = 7 * i := by omega
  have e2 : min (7 * i) IntKind.u64.bits = 7 * i := by simp [IntKind.bits]; omega
  rw [e, e2]
  have e3 : (c : Int) * 2 ^ (7 * i) = ((c * 128 ^ i : Nat) : Int) := by rw [← pow7]; push_cast; rfl
  rw [e3, wrapU64, Nat.mod_eq_of_lt hc]
theorem or_add (u v i : Nat) (h : u < 128 ^ i) : u ||| (v * 128 ^ i) = u + v * 128 ^ i := by
  rw [← pow7] at *
  rw [Nat.mul_comm, Nat.or_comm, ← Nat.two_pow_add_eq_or_of_lt h, Nat.add_comm]
theorem and_127 (n : Nat) : n &&& 127 = n % 128 := Nat.and_two_pow_sub_one_eq_mod n 7

def RGet (r : Nat × Nat) : Value := .tuple #[.int .u64 (r.1 : Int), .int .i64 (r.2 : Int)]
theorem vget_mul (c i : Nat) (hi : i ≤ 9) (hc : c < 128) (h9 : i = 9 → c ≤ 1) : c * 128 ^ i < 18446744073709551616 := by
  rcases Nat.lt_or_ge i 9 with h | h
  · have h1 : 128 ^ i ≤ 128 ^ 8 := Nat.pow_le_pow_right (by decide) (by omega)
    have h2 : c * 128 ^ i ≤ 128 * 128 ^ 8 := Nat.mul_le_mul (by omega) h1
    have h3 : (128 : Nat) * 128 ^ 8 < 18446744073709551616 := by decide +kernel
    omega
  · have : i = 9 := by omega
    subst this
    have := h9 rfl
    have h2 : c * 128 ^ 9 ≤ 1 * 128 ^ 9 := Nat.mul_le_mul_right _ this
    have h3 : (1 : Nat) * 128 ^ 9 < 18446744073709551616 := by decide +kernel
    exact Nat.lt_of_le_of_lt h2 h3
theorem vget_or (u c i : Nat) (hu : u < 128 ^ i) (hi : i ≤ 9) (hc : c < 128) (h9 : i = 9 → c ≤ 1) :
    bits .or .u64 (u : Int) (IntKind.u64.wrap ((c : Int) * 2 ^ min ((7 * (i : Int)).toNat) IntKind.u64.bits)) = ((u + c * 128 ^ i : Nat) : Int) := by
  have hm := vget_mul c i hi hc h9
  have hu' : u < 18446744073709551616 := by
    have h1 : 128 ^ i ≤ 128 ^ 9 := Nat.pow_le_pow_right (by decide) hi
    have h2 : (128 : Nat) ^ 9 < 18446744073709551616 := by decide +kernel
    omega
  rw [vget_shl c i hi hm, bits_or rfl hu' hm, or_add u c i hu]
theorem vget_next (u c i : Nat) (hu : u < 128 ^ i) (hc : c < 128) : u + c * 128 ^ i < 128 ^ (i + 1) := by
  have h2 : c * 128 ^ i ≤ 127 * 128 ^ i := Nat.mul_le_mul_right _ (by omega)
  rw [Nat.pow_succ]; omega
theorem cell_nat {bs : List Nat} {i c : Nat} (h : bs[i]? = some c) : (bs.map bcell)[i]? = some (bcell c) := by simp [h]

theorem mul_split (u p : Nat) : (u % 128) * p + (u / 128) * (p * 128) = u * p := by
  have h : u = 128 * (u / 128) + u % 128 := (Nat.div_add_mod u 128).symm
  calc (u % 128) * p + (u / 128) * (p * 128) = (128 * (u / 128) + u % 128) * p := by
        rw [Nat.add_mul, Nat.add_comm, Nat.mul_comm p 128, ← Nat.mul_assoc, Nat.mul_comm (u / 128) 128]
    _ = u * p := by rw [← h]
theorem vput_len : ∀ (k u : Nat), 1 ≤ (vputF k u).length ∧ (vputF k u).length ≤ k + 1
  | 0, u => by simp [vputF]
  | k + 1, u => by
    have := vput_len k (u / 128)
    unfold vputF
    split
    · simp
    · simp; omega
theorem vput_lt : ∀ (k u : Nat), u < 256 * 128 ^ k → ∀ x ∈ vputF k u, x < 256
  | 0, u, h, x, hx => by simp [vputF] at hx h; omega
  | k + 1, u, h, x, hx => by
    unfold vputF at hx
    split at hx
    · simp at hx; omega
    · rcases List.mem_cons.1 hx with rfl | hx
      · omega
      · refine vput_lt k (u / 128) ?_ x hx
        rw [Nat.pow_succ] at h
        omega
theorem vget_put : ∀ (k i u acc : Nat) (rest : List Nat), i + k = 9 → u * 128 ^ i < 18446744073709551616 → (0 < i → 0 < u) → vgetF i acc (vputF k u ++ rest) = (acc + u * 128 ^ i, i + (vputF k u).length)
  | 0, i, u, acc, rest, hi, hu, hp => by
    have : i = 9 := by omega
    subst this
    have hu1 : u ≤ 1 := by
      have e : (128 : Nat) ^ 9 = 9223372036854775808 := by decide +kernel
      rw [e] at hu; omega
    have := hp (by omega)
    simp only [vputF, List.singleton_append, vgetF, List.length_singleton]
    rw [if_neg (by omega), if_pos (by omega)]
  | k + 1, i, u, acc, rest, hi, hu, hp => by
    unfold vputF
    split
    · rename_i h
      simp only [List.singleton_append, vgetF, List.length_singleton]
      rw [if_neg (by omega), if_pos h]
    · rename_i h
      simp only [List.cons_append, vgetF, List.length_cons]
      rw [if_neg (by omega), if_neg (by omega)]
      have hs := mul_split u (128 ^ i)
      have := vget_put k (i + 1) (u / 128) (acc + (u % 128 + 128 - 128) * 128 ^ i) rest (by omega) (by rw [Nat.pow_succ]; omega) (by omega)
      rw [this, Nat.pow_succ]
      congr 1
      · rw [show u % 128 + 128 - 128 = u % 128 by omega]; omega
      · omega
theorem vget_bound : ∀ (bs : List Nat) (i acc : Nat), i ≤ 10 → acc < 128 ^ i → (∀ x ∈ bs, x < 256) → (vgetF i acc bs).1 < 18446744073709551616
  | [], i, acc, _, _, _ => by simp [vgetF]
  | c :: cs, i, acc, hi, ha, hb => by
    unfold vgetF
    split
    · simp
    · rename_i hc
      have hc256 := hb c (by simp)
      split
      · rename_i h
        rcases Nat.lt_or_ge i 9 with h9 | h9
        · have h1 := vget_next acc c i ha h
          have h2 : 128 ^ (i + 1) ≤ 128 ^ 9 := Nat.pow_le_pow_right (by decide) (by omega)
          have e : (128 : Nat) ^ 9 = 9223372036854775808 := by decide +kernel
          rw [e] at h2
          show acc + c * 128 ^ i < _
          omega
        · have : i = 9 := by omega
          subst this
          have e : (128 : Nat) ^ 9 = 9223372036854775808 := by decide +kernel
          rw [e] at ha ⊢
          show acc + c * _ < _
          omega
      · rename_i h
        exact vget_bound cs (i + 1) _ (by omega) (vget_next acc (c - 128) i ha (by omega)) (fun x hx => hb x (by simp [hx]))
theorem vget_zero : ∀ (bs : List Nat) (i acc : Nat), (vgetF i acc bs).2 = 0 → (vgetF i acc bs).1 = 0
  | [], _, _, _ => by simp [vgetF]
  | c :: cs, i, acc, h => by
    unfold vgetF at h ⊢
    split
    · rfl
    · rename_i hc
      rw [if_neg hc] at h
      split
      · rename_i h1
        rw [if_pos h1] at h
        simp at h
      · rename_i h1
        rw [if_neg h1] at h
        exact vget_zero cs _ _ h
/-- what is read has just this form -/
theorem vget_form : ∀ (bs : List Nat) (i acc : Nat), i ≤ 9 → (∀ x ∈ bs, x < 256) → (vgetF i acc bs).2 ≠ 0 →
    ∃ y m, vgetF i acc bs = (acc + y * 128 ^ i, i + m) ∧ 0 < m ∧ m ≤ bs.length ∧ bs.take m = vputF (9 - i) y ∧ (0 < i → 0 < y)
  | [], i, acc, _, _, h => by simp [vgetF] at h
  | c :: cs, i, acc, hi, hb, h => by
    have hc256 := hb c (by simp)
    unfold vgetF at h ⊢
    split
    · rename_i hc; rw [if_pos hc] at h; simp at h
    · rename_i hc
      rw [if_neg hc] at h
      split
      · rename_i h1
        refine ⟨c, 1, rfl, by omega, by simp, ?_, by omega⟩
        cases hk : 9 - i with
        | zero => simp [vputF]
        | succ k => simp [vputF, h1]
      · rename_i h1
        rw [if_neg h1] at h
        obtain ⟨y, m, h2, h3, h4, h5, h6⟩ := vget_form cs (i + 1) (acc + (c - 128) * 128 ^ i) (by omega) (fun x hx => hb x (by simp [hx])) h
        have hy := h6 (by omega)
        refine ⟨(c - 128) + 128 * y, m + 1, ?_, by omega, by simp; omega, ?_, by omega⟩
        · rw [h2, Nat.pow_succ]
          congr 1
          · rw [Nat.add_mul, Nat.add_assoc, Nat.mul_comm (128 ^ i) 128, ← Nat.mul_assoc, Nat.mul_comm y 128]
          · omega
        · obtain ⟨k, hk⟩ : ∃ k, 9 - i = k + 1 := ⟨9 - i - 1, by omega⟩
          have hk' : 9 - (i + 1) = k := by omega
          rw [hk, vputF, if_neg (by omega), List.take_succ_cons, h5, hk']
          congr 1
          · omega
          · congr 1
            omega
theorem vget_le : ∀ (bs : List Nat) (i acc : Nat), (vgetF i acc bs).2 ≤ i + bs.length
  | [], i, acc => by simp [vgetF]
  | c :: cs, i, acc => by
    unfold vgetF
    split
    · simp
    · split
      · simp only [List.length_cons]; omega
      · have := vget_le cs (i + 1) (acc + (c - 128) * 128 ^ i)
        simp only [List.length_cons]; omega
end Go.Proofs.Ytjibmfkhhljhcaa
