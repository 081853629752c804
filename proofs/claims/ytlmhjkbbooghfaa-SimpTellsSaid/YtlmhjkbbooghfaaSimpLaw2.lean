/- Small numbers, many to a word: the document's reading, that stops when it has enough. In plain Lean. -/
import Derived.Test.YtlmhjkbbooghfaaSimpLaw
set_option linter.unusedSimpArgs false
set_option linter.unusedVariables false
namespace Go.Proofs.Ytlmhjkbbooghfaa
open Go
def decGF : List Nat → Nat → List Nat → List Nat
  | [], _, out => out
  | w :: ws, m, out => if m ≤ out.length then out else decGF ws m (out ++ unpackW (bitS (w / 2 ^ 60)) (min (cntS (w / 2 ^ 60)) (m - out.length)) (w % 2 ^ 60))
theorem decGF_done : ∀ (ws : List Nat) (m : Nat) (out : List Nat), m ≤ out.length → decGF ws m out = out
  | [], _, _, _ => rfl
  | w :: ws, m, out, h => by rw [decGF, if_pos h]
theorem decSF_G : ∀ (ws : List Nat) (m : Nat) (out r : List Nat), decSF ws m out = some r → decGF ws m out = r ∧ r.length = m
  | [], m, out, r, h => by
    unfold decSF at h
    split at h
    · rename_i he
      have := Option.some.inj h
      subst this
      exact ⟨rfl, he⟩
    · cases h
  | w :: ws, m, out, r, h => by
    unfold decSF at h
    split at h
    · cases h
    · rename_i hn
      have := decSF_G ws m _ r h
      rw [decGF, if_neg hn]
      exact this
/-- both readings answer alike -/
theorem decS_G (ws : List Nat) (n : Int) : decS ws n = if (decGF ws (heldS n) []).length = heldS n ∧ encS (decGF ws (heldS n) []) = some ws then some (decGF ws (heldS n) []) else none := by
  by_cases h : (decGF ws (heldS n) []).length = heldS n ∧ encS (decGF ws (heldS n) []) = some ws
  · rw [if_pos h]
    obtain ⟨h1, h2⟩ := h
    have := dec_encS _ (decGF ws (heldS n) []) ws [] [] (Nat.le_refl _) h2
    simp only [List.append_nil, List.length_nil, Nat.zero_add, List.nil_append, h1] at this
    unfold decS
    rw [this]
    simp [decSF, h1, h2]
  · rw [if_neg h]
    unfold decS
    cases hd : decSF ws (heldS n) [] with
    | none => rfl
    | some r =>
      have hr := decSF_G _ _ _ _ hd
      simp only [Option.bind_some]
      by_cases he : encS r = some ws
      · exact absurd ⟨by rw [hr.1]; exact hr.2, by rw [hr.1]; exact he⟩ h
      · rw [if_neg he]
theorem word_part (w s b : Nat) (h : s + b ≤ 60) : w % 2 ^ 60 / 2 ^ s % 2 ^ b = w / 2 ^ s % 2 ^ b := by
  have e : (2 : Nat) ^ 60 = 2 ^ s * 2 ^ (60 - s) := by rw [← Nat.pow_add]; congr 1; omega
  rw [e, Nat.mod_mul_right_div_self, Nat.mod_mod_of_dvd _ (Nat.pow_dvd_pow 2 (by omega))]
end Go.Proofs.Ytlmhjkbbooghfaa
