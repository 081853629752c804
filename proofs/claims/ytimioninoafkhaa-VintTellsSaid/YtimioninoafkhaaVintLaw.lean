/- Numbers of any length: what is read is what was told, in its one form; numbers with a sign come back, nearer to 0 is smaller. In plain Lean. -/
import Derived.Test.YtimioninoafkhaaVint2
set_option linter.unusedSimpArgs false
set_option linter.unusedVariables false
set_option maxRecDepth 20000
namespace Go.Proofs.Ytimioninoafkhaa
open Go

theorem mul_split (u p : Nat) : (u % 128) * p + (u / 128) * (p * 128) = u * p := by
  have h : u = 128 * (u / 128) + u % 128 := (Nat.div_add_mod u 128).symm
  calc (u % 128) * p + (u / 128) * (p * 128) = (128 * (u / 128) + u % 128) * p := by
        rw [Nat.add_mul, Nat.add_comm, Nat.mul_comm p 128, ← Nat.mul_assoc, Nat.mul_comm (u / 128) 128]
    _ = u * p := by rw [← h]
theorem vput_len : ∀ (k u : Nat), 1 ≤ (vputF k u).length ∧ (vputF k u).length ≤ k + 1
  | 0, u => by simp [vputF]
  | k + 1, u => by
    have := vput_len k (u / 128)
    unfold vputF
    split
    · simp
    · simp; omega
theorem vput_lt : ∀ (k u : Nat), u < 256 * 128 ^ k → ∀ x ∈ vputF k u, x < 256
  | 0, u, h, x, hx => by simp [vputF] at hx h; omega
  | k + 1, u, h, x, hx => by
    unfold vputF at hx
    split at hx
    · simp at hx; omega
    · rcases List.mem_cons.1 hx with rfl | hx
      · omega
      · refine vput_lt k (u / 128) ?_ x hx
        rw [Nat.pow_succ] at h
        omega
theorem vget_put : ∀ (k i u acc : Nat) (rest : List Nat), i + k = 9 → u * 128 ^ i < 18446744073709551616 → (0 < i → 0 < u) → vgetF i acc (vputF k u ++ rest) = (acc + u * 128 ^ i, i + (vputF k u).length)
  | 0, i, u, acc, rest, hi, hu, hp => by
    have : i = 9 := by omega
    subst this
    have hu1 : u ≤ 1 := by
      have e : (128 : Nat) ^ 9 = 9223372036854775808 := by decide +kernel
      rw [e] at hu; omega
    have := hp (by omega)
    simp only [vputF, List.singleton_append, vgetF, List.length_singleton]
    rw [if_neg (by omega), if_pos (by omega)]
  | k + 1, i, u, acc, rest, hi, hu, hp => by
    unfold vputF
    split
    · rename_i h
      simp only [List.singleton_append, vgetF, List.length_singleton]
      rw [if_neg (by omega), if_pos h]
    · rename_i h
      simp only [List.cons_append, vgetF, List.length_cons]
      rw [if_neg (by omega), if_neg (by omega)]
      have hs := mul_split u (128 ^ i)
      have := vget_put k (i + 1) (u / 128) (acc + (u % 128 + 128 - 128) * 128 ^ i) rest (by omega) (by rw [Nat.pow_succ]; omega) (by omega)
      rw [this, Nat.pow_succ]
      congr 1
      · rw [show u % 128 + 128 - 128 = u % 128 by omega]; omega
      · omega
theorem vget_bound : ∀ (bs : List Nat) (i acc : Nat), i ≤ 10 → acc < 128 ^ i → (∀ x ∈ bs, x < 256) → (vgetF i acc bs).1 < 18446744073709551616
  | [], i, acc, _, _, _ => by simp [vgetF]
  | c :: cs, i, acc, hi, ha, hb => by
    unfold vgetF
    split
    · simp
    · rename_i hc
      have hc256 := hb c (by simp)
      split
      · rename_i h
        rcases Nat.lt_or_ge i 9 with h9 | h9
        · have h1 := vget_next acc c i ha h
          have h2 : 128 ^ (i + 1) ≤ 128 ^ 9 := Nat.pow_le_pow_right (by decide) (by omega)
          have e : (128 : Nat) ^ 9 = 9223372036854775808 := by decide +kernel
          rw [e] at h2
          show acc + c * 128 ^ i < _
          omega
        · have : i = 9 := by omega
          subst this
          have e : (128 : Nat) ^ 9 = 9223372036854775808 := by decide +kernel
          rw [e] at ha ⊢
          show acc + c * _ < _
          omega
      · rename_i h
        exact vget_bound cs (i + 1) _ (by omega) (vget_next acc (c - 128) i ha (by omega)) (fun x hx => hb x (by simp [hx]))
theorem vget_zero : ∀ (bs : List Nat) (i acc : Nat), (vgetF i acc bs).2 = 0 → (vgetF i acc bs).1 = 0
  | [], _, _, _ => by simp [vgetF]
  | c :: cs, i, acc, h => by
    unfold vgetF at h ⊢
    split
    · rfl
    · rename_i hc
      rw [if_neg hc] at h
      split
      · rename_i h1
        rw [if_pos h1] at h
        simp at h
      · rename_i h1
        rw [if_neg h1] at h
        exact vget_zero cs _ _ h
/-- what is read has just this form -/
theorem vget_form : ∀ (bs : List Nat) (i acc : Nat), i ≤ 9 → (∀ x ∈ bs, x < 256) → (vgetF i acc bs).2 ≠ 0 →
    ∃ y m, vgetF i acc bs = (acc + y * 128 ^ i, i + m) ∧ 0 < m ∧ m ≤ bs.length ∧ bs.take m = vputF (9 - i) y ∧ (0 < i → 0 < y)
  | [], i, acc, _, _, h => by simp [vgetF] at h
  | c :: cs, i, acc, hi, hb, h => by
    have hc256 := hb c (by simp)
    unfold vgetF at h ⊢
    split
    · rename_i hc; rw [if_pos hc] at h; simp at h
    · rename_i hc
      rw [if_neg hc] at h
      split
      · rename_i h1
        refine ⟨c, 1, rfl, by omega, by simp, ?_, by omega⟩
        cases hk : 9 - i with
        | zero => simp [vputF]
        | succ k => simp [vputF, h1]
      · rename_i h1
        rw [if_neg h1] at h
        obtain ⟨y, m, h2, h3, h4, h5, h6⟩ := vget_form cs (i + 1) (acc + (c - 128) * 128 ^ i) (by omega) (fun x hx => hb x (by simp [hx])) h
        have hy := h6 (by omega)
        refine ⟨(c - 128) + 128 * y, m + 1, ?_, by omega, by simp; omega, ?_, by omega⟩
        · rw [h2, Nat.pow_succ]
          congr 1
          · rw [Nat.add_mul, Nat.add_assoc, Nat.mul_comm (128 ^ i) 128, ← Nat.mul_assoc, Nat.mul_comm y 128]
          · omega
        · obtain ⟨k, hk⟩ : ∃ k, 9 - i = k + 1 := ⟨9 - i - 1, by omega⟩
          have hk' : 9 - (i + 1) = k := by omega
          rw [hk, vputF, if_neg (by omega), List.take_succ_cons, h5, hk']
          congr 1
          · omega
          · congr 1
            omega
theorem zag_zig (n : Int) : zagF (zigF n) = n := by
  unfold zagF zigF
  by_cases h : n < 0
  · simp only [if_pos h]
    rw [if_pos (by omega)]; omega
  · simp only [if_neg h]
    rw [if_neg (by omega)]; omega
theorem zig_zag (u : Nat) : zigF (zagF u) = u := by
  unfold zagF zigF
  by_cases h : u % 2 = 1
  · simp only [if_pos h]
    rw [if_pos (by omega)]; omega
  · simp only [if_neg h]
    rw [if_neg (by omega)]; omega
theorem zig_lt (n : Int) (h : i64ok n) : zigF n < 18446744073709551616 := by
  unfold i64ok at h
  unfold zigF
  split <;> omega
theorem zag_ok (u : Nat) (h : u < 18446744073709551616) : i64ok (zagF u) := by
  unfold zagF
  split <;> constructor <;> omega
theorem zig_up (n m : Int) (h0 : 0 ≤ n) (h : n < m) : zigF n < zigF m := by
  unfold zigF
  rw [if_neg (by omega), if_neg (by omega)]; omega
theorem zig_down (n m : Int) (h0 : n < 0) (h : m < n) : zigF n < zigF m := by
  unfold zigF
  rw [if_pos h0, if_pos (by omega)]; omega
end Go.Proofs.Ytimioninoafkhaa
