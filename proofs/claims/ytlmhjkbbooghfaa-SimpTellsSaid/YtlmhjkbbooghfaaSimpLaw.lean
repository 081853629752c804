/- Small numbers, many to a word. In plain Lean. -/
import Derived.Test.YtlmhjkbbooghfaaNum
set_option linter.unusedSimpArgs false
set_option linter.unusedVariables false
namespace Go.Proofs.Ytlmhjkbbooghfaa
open Go
def cntL : List Nat := [240, 120, 60, 30, 20, 15, 12, 10, 8, 7, 6, 5, 4, 3, 2, 1]
def bitL : List Nat := [0, 0, 1, 2, 3, 4, 5, 6, 7, 8, 10, 12, 15, 20, 30, 60]
def cntS (i : Nat) : Nat := cntL.getD i 0
def bitS (i : Nat) : Nat := bitL.getD i 0
/-- whether the next numbers may stand in a word of a kind -/
def fitsS (u : List Nat) (i : Nat) : Bool := (decide (bitS i ≠ 0) || decide (cntS i ≤ u.length)) && (u.take (cntS i)).all (fun x => decide (x < 2 ^ bitS i))
/-- the first kind that may be, from 'i' on -/
def kindS (u : List Nat) : Nat → Nat → Option Nat
  | 0, _ => none
  | k + 1, i => if fitsS u i = true then some i else kindS u k (i + 1)
def packW (b : Nat) : List Nat → Nat
  | [] => 0
  | x :: l => x + 2 ^ b * packW b l
def wordS (u : List Nat) (i : Nat) : Nat := i * 2 ^ 60 + packW (bitS i) (u.take (cntS i))
/-- the words of numbers: 'k' words at most -/
def encSF : Nat → List Nat → Option (List Nat)
  | _, [] => some []
  | 0, _ => none
  | k + 1, x :: l => match kindS (x :: l) 16 0 with
    | none => none
    | some i => (encSF k ((x :: l).drop (cntS i))).map (wordS (x :: l) i :: ·)
def encS (u : List Nat) : Option (List Nat) := encSF u.length u
/-- the numbers of a word: at most 'm' -/
def unpackW (b : Nat) : Nat → Nat → List Nat
  | 0, _ => []
  | k + 1, w => w % 2 ^ b :: unpackW b k (w / 2 ^ b)
/-- the numbers of words, as long as there are fewer than 'm' -/
def decSF : List Nat → Nat → List Nat → Option (List Nat)
  | [], m, out => if out.length = m then some out else none
  | w :: ws, m, out => if m ≤ out.length then none else decSF ws m (out ++ unpackW (bitS (w / 2 ^ 60)) (min (cntS (w / 2 ^ 60)) (m - out.length)) (w % 2 ^ 60))
def heldS (n : Int) : Nat := (min (max n 0) 65535).toNat
def decS (w : List Nat) (n : Int) : Option (List Nat) := (decSF w (heldS n) []).bind fun out => if encS out = some w then some out else none
theorem kind_facts : ∀ i : Fin 16, 1 ≤ cntS i.val ∧ cntS i.val ≤ 240 ∧ bitS i.val ≤ 60 ∧ cntS i.val * bitS i.val ≤ 60 := by decide
theorem kindS_some {u : List Nat} : ∀ {k i j : Nat}, kindS u k i = some j → i ≤ j ∧ j < i + k ∧ fitsS u j = true
  | 0, _, _, h => by simp [kindS] at h
  | k + 1, i, j, h => by
    unfold kindS at h
    split at h
    · rename_i hf
      have := Option.some.inj h
      subst this
      exact ⟨Nat.le_refl _, by omega, hf⟩
    · have := kindS_some h
      exact ⟨by omega, by omega, this.2.2⟩
theorem kindS_first {u : List Nat} : ∀ {k i j : Nat}, kindS u k i = some j → ∀ t, i ≤ t → t < j → fitsS u t = false
  | 0, _, _, h => by simp [kindS] at h
  | k + 1, i, j, h => by
    unfold kindS at h
    split at h
    · have := Option.some.inj h
      subst this
      intro t h1 h2
      omega
    · rename_i hf
      intro t h1 h2
      by_cases he : t = i
      · subst he; simpa using hf
      · exact kindS_first h t (by omega) h2
theorem kindS_none {u : List Nat} : ∀ {k i : Nat}, kindS u k i = none → ∀ t, i ≤ t → t < i + k → fitsS u t = false
  | 0, _, _ => fun t h1 h2 => by omega
  | k + 1, i, h => by
    unfold kindS at h
    split at h
    · cases h
    · rename_i hf
      intro t h1 h2
      by_cases he : t = i
      · subst he; simpa using hf
      · exact kindS_none h t (by omega) (by omega)
/-- which kind is the first that may be is told by which may be -/
theorem kindS_is {u : List Nat} {j : Nat} (hj : j < 16) (hf : fitsS u j = true) (hb : ∀ t, t < j → fitsS u t = false) : kindS u 16 0 = some j := by
  cases h : kindS u 16 0 with
  | none => have := kindS_none h j (by omega) (by omega); rw [hf] at this; cases this
  | some i =>
    have h1 := kindS_some h
    have h2 := kindS_first h
    congr 1
    rcases Nat.lt_trichotomy i j with hl | rfl | hl
    · have := hb i hl; rw [h1.2.2] at this; cases this
    · rfl
    · have := h2 j (by omega) hl; rw [hf] at this; cases this
theorem packW_lt (b : Nat) : ∀ l : List Nat, (∀ x ∈ l, x < 2 ^ b) → packW b l < 2 ^ (b * l.length)
  | [], _ => by simp [packW]
  | x :: l, h => by
    have h1 := h x (by simp)
    have h2 := packW_lt b l (fun y hy => h y (by simp [hy]))
    have h3 : 2 ^ b * packW b l + 2 ^ b ≤ 2 ^ b * 2 ^ (b * l.length) := by
      rw [← Nat.mul_succ]
      exact Nat.mul_le_mul_left _ h2
    rw [packW, List.length_cons, Nat.mul_succ, Nat.add_comm (b * l.length), Nat.pow_add]
    omega
theorem unpack_pack (b : Nat) : ∀ (l : List Nat), (∀ x ∈ l, x < 2 ^ b) → unpackW b l.length (packW b l) = l
  | [], _ => rfl
  | x :: l, h => by
    have h1 := h x (by simp)
    have hp : 0 < 2 ^ b := Nat.pow_pos (by decide)
    rw [packW, List.length_cons, unpackW, Nat.add_mul_mod_self_left, Nat.mod_eq_of_lt h1, Nat.add_mul_div_left _ _ hp, Nat.div_eq_of_lt h1, Nat.zero_add, unpack_pack b l (fun y hy => h y (by simp [hy]))]
theorem unpackW_len (b : Nat) : ∀ (k w : Nat), (unpackW b k w).length = k
  | 0, _ => rfl
  | k + 1, w => by simp [unpackW, unpackW_len b k]
theorem fitsS_lt {u : List Nat} {i : Nat} (h : fitsS u i = true) : ∀ x ∈ u.take (cntS i), x < 2 ^ bitS i := by
  unfold fitsS at h
  rw [Bool.and_eq_true, List.all_eq_true] at h
  exact fun x hx => by simpa using h.2 x hx
theorem pow_le60 {i : Nat} (hi : i < 16) {u : List Nat} (hf : fitsS u i = true) : packW (bitS i) (u.take (cntS i)) < 2 ^ 60 := by
  have h := packW_lt (bitS i) _ (fitsS_lt hf)
  have hk := kind_facts ⟨i, hi⟩
  simp only [] at hk
  refine Nat.lt_of_lt_of_le h (Nat.pow_le_pow_right (by decide) ?_)
  have : (u.take (cntS i)).length ≤ cntS i := by simp; omega
  have h2 : bitS i * (u.take (cntS i)).length ≤ bitS i * cntS i := Nat.mul_le_mul_left _ this
  rw [Nat.mul_comm (bitS i) (cntS i)] at h2
  omega
theorem word_kind {i : Nat} (hi : i < 16) {u : List Nat} (hf : fitsS u i = true) : wordS u i / 2 ^ 60 = i ∧ wordS u i % 2 ^ 60 = packW (bitS i) (u.take (cntS i)) ∧ wordS u i < 18446744073709551616 := by
  have h := pow_le60 hi hf
  unfold wordS
  have hp : (2 : Nat) ^ 60 = 1152921504606846976 := by decide
  rw [hp] at h ⊢
  refine ⟨by omega, by omega, by omega⟩
theorem encSF_more : ∀ (k j : Nat) (u : List Nat), u.length ≤ k → u.length ≤ j → encSF k u = encSF j u
  | _, _, [], _, _ => by simp [encSF]
  | 0, _, x :: l, h, _ => by simp at h
  | _, 0, x :: l, _, h => by simp at h
  | k + 1, j + 1, x :: l, h1, h2 => by
    unfold encSF
    cases hk : kindS (x :: l) 16 0 with
    | none => rfl
    | some i =>
      have hi := kindS_some hk
      have hf := kind_facts ⟨i, by omega⟩
      simp only [] at hf ⊢
      have hd : ((x :: l).drop (cntS i)).length ≤ l.length := by simp; omega
      simp only [List.length_cons] at h1 h2
      rw [encSF_more k j _ (by omega) (by omega)]
theorem encS_nil : encS [] = some [] := rfl
theorem encS_cons (x : Nat) (l : List Nat) : encS (x :: l) = match kindS (x :: l) 16 0 with
    | none => none
    | some i => (encS ((x :: l).drop (cntS i))).map (wordS (x :: l) i :: ·) := by
  unfold encS
  rw [List.length_cons, encSF]
  cases hk : kindS (x :: l) 16 0 with
  | none => rfl
  | some i =>
    have hi := kindS_some hk
    have hf := kind_facts ⟨i, by omega⟩
    simp only [] at hf ⊢
    rw [encSF_more l.length ((x :: l).drop (cntS i)).length _ (by simp; omega) (Nat.le_refl _)]
/-- what was told is read, and as many words are read as were told -/
theorem dec_encS : ∀ (n : Nat) (u : List Nat) (ws : List Nat) (out : List Nat) (more : List Nat), u.length ≤ n → encS u = some ws →
    decSF (ws ++ more) (out.length + u.length) out = decSF more (out.length + u.length) (out ++ u)
  | _, [], ws, out, more, _, h => by
    rw [encS_nil] at h
    have := Option.some.inj h
    subst this
    simp
  | 0, x :: l, _, _, _, h, _ => by simp at h
  | n + 1, x :: l, ws, out, more, hn, h => by
    rw [encS_cons] at h
    cases hk : kindS (x :: l) 16 0 with
    | none => rw [hk] at h; cases h
    | some i =>
      rw [hk] at h
      simp only [] at h
      have hi := kindS_some hk
      have hi16 : i < 16 := by omega
      have hf := kind_facts ⟨i, hi16⟩
      simp only [] at hf
      have hw := word_kind hi16 hi.2.2
      cases he : encS ((x :: l).drop (cntS i)) with
      | none => rw [he] at h; cases h
      | some vs =>
        rw [he] at h
        have := Option.some.inj h
        subst this
        have hlt := fitsS_lt hi.2.2
        have hlen : ((x :: l).take (cntS i)).length = min (cntS i) (x :: l).length := by simp
        have hun : unpackW (bitS i) (min (cntS i) (x :: l).length) (packW (bitS i) ((x :: l).take (cntS i))) = (x :: l).take (cntS i) := by
          rw [← hlen]; exact unpack_pack _ _ hlt
        have ih := dec_encS n ((x :: l).drop (cntS i)) vs (out ++ (x :: l).take (cntS i)) more (by simp at hn ⊢; omega) he
        have hl2 : (out ++ (x :: l).take (cntS i)).length + ((x :: l).drop (cntS i)).length = out.length + (x :: l).length := by
          rw [List.length_append, Nat.add_assoc, ← List.length_append, List.take_append_drop]
        rw [List.cons_append, decSF, if_neg (by simp only [List.length_cons]; omega), hw.1, hw.2.1]
        rw [show out.length + (x :: l).length - out.length = (x :: l).length by omega, hun]
        rw [hl2, List.append_assoc, List.take_append_drop] at ih
        exact ih
theorem decS_encS {u ws : List Nat} (h : encS u = some ws) (hl : u.length ≤ 65535) : decS ws (u.length : Int) = some u := by
  have hh : heldS (u.length : Int) = u.length := by unfold heldS; omega
  have := dec_encS u.length u ws [] [] (Nat.le_refl _) h
  simp only [List.append_nil, List.length_nil, Nat.zero_add, List.nil_append] at this
  unfold decS
  rw [hh, this]
  simp [decSF, h]
/-- numbers of up to sixty bits are told, in no more words than there are numbers -/
theorem encS_some : ∀ (n : Nat) (u : List Nat), u.length ≤ n → (∀ x ∈ u, x < 2 ^ 60) → ∃ ws, encS u = some ws ∧ ws.length ≤ u.length
  | _, [], _, _ => ⟨[], rfl, Nat.le_refl _⟩
  | 0, x :: l, h, _ => by simp at h
  | n + 1, x :: l, hn, hx => by
    cases hk : kindS (x :: l) 16 0 with
    | none =>
      have := kindS_none hk 15 (by omega) (by omega)
      have hx0 := hx x (by simp)
      simp [fitsS, bitS, cntS, bitL, cntL] at this
      omega
    | some i =>
      have hi := kindS_some hk
      have hf := kind_facts ⟨i, by omega⟩
      simp only [] at hf
      obtain ⟨vs, hv, hvl⟩ := encS_some n ((x :: l).drop (cntS i)) (by simp at hn ⊢; omega) (fun y hy => hx y (List.mem_of_mem_drop hy))
      refine ⟨wordS (x :: l) i :: vs, ?_, ?_⟩
      · rw [encS_cons, hk]
        simp only [hv]
        rfl
      · simp at hvl ⊢
        omega
theorem packW_snoc (b x : Nat) : ∀ l : List Nat, packW b (l ++ [x]) = packW b l + 2 ^ (b * l.length) * x
  | [] => by simp [packW]
  | y :: l => by
    rw [List.cons_append, packW, packW_snoc b x l, packW, List.length_cons, Nat.mul_succ, Nat.add_comm (b * l.length), Nat.pow_add, Nat.mul_add, Nat.mul_assoc]
    omega
/-- one more number into a word -/
theorem word_or (i p x s : Nat) (hi : i < 16) (hp : p < 2 ^ s) (hx : p + 2 ^ s * x < 2 ^ 60) :
    bits .or .u64 ((i * 2 ^ 60 + p : Nat) : Int) (IntKind.u64.wrap ((x : Int) * 2 ^ s)) = ((i * 2 ^ 60 + (p + 2 ^ s * x) : Nat) : Int) := by
  have h60 : (2 : Nat) ^ 60 = 1152921504606846976 := by decide
  have e : ((x : Int) * 2 ^ s) = ((2 ^ s * x : Nat) : Int) := by push_cast; rw [Int.mul_comm]
  rw [e, wrapU64, Nat.mod_eq_of_lt (by omega), bits_or rfl (by show _ < 18446744073709551616; omega) (by show _ < 18446744073709551616; omega)]
  congr 1
  have h1 : p ||| 2 ^ s * x = p + 2 ^ s * x := by
    have := Nat.shiftLeft_add_eq_or_of_lt hp x
    rw [Nat.shiftLeft_eq, Nat.mul_comm] at this
    rw [Nat.or_comm, ← this, Nat.add_comm]
  have h2 : i * 2 ^ 60 + p = i * 2 ^ 60 ||| p := by
    have := Nat.shiftLeft_add_eq_or_of_lt (show p < 2 ^ 60 by omega) i
    rw [Nat.shiftLeft_eq] at this
    exact this
  have h3 : i * 2 ^ 60 + (p + 2 ^ s * x) = i * 2 ^ 60 ||| (p + 2 ^ s * x) := by
    have := Nat.shiftLeft_add_eq_or_of_lt hx i
    rw [Nat.shiftLeft_eq] at this
    exact this
  rw [h2, Nat.or_assoc, h1, ← h3]
end Go.Proofs.Ytlmhjkbbooghfaa
