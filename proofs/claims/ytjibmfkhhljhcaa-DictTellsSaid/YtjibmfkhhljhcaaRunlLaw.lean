/- Runs: the bytes of values, and the values of bytes. In plain Lean. -/
import Derived.Test.YtjibmfkhhljhcaaVintDef
set_option linter.unusedSimpArgs false
set_option linter.unusedVariables false
namespace Go.Proofs.Ytjibmfkhhljhcaa
open Go
/-- how long the first value goes -/
def cntF (x : Nat) : List Nat → Nat
  | [] => 0
  | y :: l => if y = x then cntF x l + 1 else 0
theorem cntF_le (x : Nat) : ∀ l : List Nat, cntF x l ≤ l.length
  | [] => Nat.le_refl _
  | y :: l => by have := cntF_le x l; unfold cntF; split <;> simp <;> omega
theorem cntF_same (x : Nat) : ∀ (l : List Nat) (i : Nat), i < cntF x l → l[i]? = some x
  | [], i, h => by simp [cntF] at h
  | y :: l, i, h => by
    unfold cntF at h
    split at h
    · rename_i e
      cases i with
      | zero => simp [e]
      | succ i => simpa using cntF_same x l i (by omega)
    · omega
theorem cntF_next (x : Nat) : ∀ (l : List Nat), l[cntF x l]? ≠ some x
  | [] => by simp
  | y :: l => by
    unfold cntF
    split
    · simpa using cntF_next x l
    · rename_i e; simpa using e
/-- the bytes of values: 'k' runs at most -/
def encRF : Nat → List Nat → List Nat
  | _, [] => []
  | 0, _ => []
  | k + 1, x :: l => vputF 9 (cntF x l + 1) ++ vputF 9 x ++ encRF k (l.drop (cntF x l))
def encR (v : List Nat) : List Nat := encRF v.length v
theorem encRF_more : ∀ (k m : Nat) (v : List Nat), v.length ≤ k → v.length ≤ m → encRF k v = encRF m v
  | _, _, [], _, _ => by simp [encRF]
  | 0, _, x :: l, h, _ => by simp at h
  | _, 0, x :: l, _, h => by simp at h
  | k + 1, m + 1, x :: l, h1, h2 => by
    have h3 : (l.drop (cntF x l)).length ≤ l.length := by simp
    simp only [List.length_cons] at h1 h2
    rw [encRF, encRF, encRF_more k m _ (by omega) (by omega)]
theorem encR_nil : encR [] = [] := rfl
theorem encR_cons (x : Nat) (l : List Nat) : encR (x :: l) = vputF 9 (cntF x l + 1) ++ vputF 9 x ++ encR (l.drop (cntF x l)) := by
  unfold encR
  rw [List.length_cons, encRF, encRF_more l.length (l.drop (cntF x l)).length _ (by simp) (Nat.le_refl _)]
theorem encR_len : ∀ (n : Nat) (v : List Nat), v.length ≤ n → (encR v).length ≤ 20 * v.length
  | _, [], _ => by simp [encR_nil]
  | 0, x :: l, h => by simp at h
  | n + 1, x :: l, h => by
    have h1 := vput_len 9 (cntF x l + 1)
    have h2 := vput_len 9 x
    have h3 := encR_len n (l.drop (cntF x l)) (by simp at h ⊢; omega)
    rw [encR_cons]
    simp only [List.length_append, List.length_cons, List.length_drop] at h3 ⊢
    omega
theorem vput9_lt {u : Nat} (h : u < 18446744073709551616) : ∀ x ∈ vputF 9 u, x < 256 :=
  vput_lt 9 u (Nat.lt_of_lt_of_le h (by decide +kernel))
theorem encR_lt : ∀ (n : Nat) (v : List Nat), v.length ≤ n → n < 18446744073709551616 → (∀ x ∈ v, x < 18446744073709551616) → ∀ x ∈ encR v, x < 256
  | _, [], _, _, _ => by simp [encR_nil]
  | 0, x :: l, h, _, _ => by simp at h
  | n + 1, x :: l, h, hn, hv => by
    have hc := cntF_le x l
    simp only [List.length_cons] at h
    rw [encR_cons]
    intro y hy
    rcases List.mem_append.1 hy with hy | hy
    · rcases List.mem_append.1 hy with hy | hy
      · exact vput9_lt (by omega) y hy
      · exact vput9_lt (hv x (by simp)) y hy
    · exact encR_lt n _ (by simp; omega) (by omega) (fun z hz => hv z (by simp [List.mem_of_mem_drop hz])) y hy
/-- the values of bytes: 'k' runs at most; 'm' values are wanted -/
def decRF : Nat → List Nat → Nat → List Nat → Option (List Nat)
  | _, [], m, out => if out.length = m then some out else none
  | 0, _, _, _ => none
  | k + 1, b :: bs, m, out =>
    if (vgetF 0 0 (b :: bs)).2 = 0 ∨ (vgetF 0 0 ((b :: bs).drop (vgetF 0 0 (b :: bs)).2)).2 = 0 ∨ (vgetF 0 0 (b :: bs)).1 = 0 ∨ m < out.length + (vgetF 0 0 (b :: bs)).1 ∨ out.getLast? = some (vgetF 0 0 ((b :: bs).drop (vgetF 0 0 (b :: bs)).2)).1 then none
    else decRF k ((b :: bs).drop ((vgetF 0 0 (b :: bs)).2 + (vgetF 0 0 ((b :: bs).drop (vgetF 0 0 (b :: bs)).2)).2)) m (out ++ List.replicate (vgetF 0 0 (b :: bs)).1 (vgetF 0 0 ((b :: bs).drop (vgetF 0 0 (b :: bs)).2)).1)
/-- how many values there may be -/
def heldM (n : Int) : Nat := (min (max n 0) 65535).toNat
theorem heldM_eq (n : Int) : min (max n 0) 65535 = (heldM n : Int) := by unfold heldM; omega
theorem heldM_le (n : Int) : heldM n ≤ 65535 := by unfold heldM; omega
def decR (bs : List Nat) (n : Int) : Option (List Nat) := decRF bs.length bs (heldM n) []
theorem decRF_more : ∀ (k j : Nat) (bs : List Nat) (m : Nat) (out : List Nat), bs.length ≤ k → bs.length ≤ j → decRF k bs m out = decRF j bs m out
  | _, _, [], _, _, _, _ => by simp [decRF]
  | 0, _, b :: bs, _, _, h, _ => by simp at h
  | _, 0, b :: bs, _, _, _, h => by simp at h
  | k + 1, j + 1, b :: bs, m, out, h1, h2 => by
    unfold decRF
    split
    · rfl
    · rename_i hn
      simp only [not_or] at hn
      refine decRF_more k j _ m _ ?_ ?_ <;> simp only [List.length_drop, List.length_cons] at * <;> omega
/-- one run more -/
theorem decR_step (bs : List Nat) (m : Nat) (out : List Nat) (hne : bs ≠ []) (u i v k : Nat) (h1 : vgetF 0 0 bs = (u, i)) (h2 : vgetF 0 0 (bs.drop i) = (v, k)) :
    decRF bs.length bs m out = if i = 0 ∨ k = 0 ∨ u = 0 ∨ m < out.length + u ∨ out.getLast? = some v then none else decRF (bs.drop (i + k)).length (bs.drop (i + k)) m (out ++ List.replicate u v) := by
  cases bs with
  | nil => exact absurd rfl hne
  | cons b bs =>
    rw [List.length_cons, decRF, h1, h2]
    simp only []
    split
    · rfl
    · rename_i hn
      simp only [not_or] at hn
      refine decRF_more _ _ _ m _ ?_ (Nat.le_refl _)
      simp only [List.length_drop, List.length_cons]
      omega
theorem vget9 (u : Nat) (rest : List Nat) (h : u < 18446744073709551616) : vgetF 0 0 (vputF 9 u ++ rest) = (u, (vputF 9 u).length) := by
  have := vget_put 9 0 u 0 rest rfl (by simpa using h) (fun h => absurd h (by decide))
  simpa using this
/-- what was told is read: as many as are wanted, or none -/
theorem dec_enc : ∀ (n : Nat) (v : List Nat) (m : Nat) (out : List Nat), v.length ≤ n → n < 18446744073709551616 → (∀ x ∈ v, x < 18446744073709551616) → (∀ x l, v = x :: l → out.getLast? ≠ some x) →
    decRF (encR v).length (encR v) m out = if out.length + v.length = m then some (out ++ v) else none
  | _, [], m, out, _, _, _, _ => by simp [encR_nil, decRF]
  | 0, x :: l, _, _, h, _, _, _ => by simp at h
  | n + 1, x :: l, m, out, h, hn, hv, hl => by
    have hc := cntF_le x l
    simp only [List.length_cons] at h
    have hx := hv x (by simp)
    have l1 := vput_len 9 (cntF x l + 1)
    have l2 := vput_len 9 x
    have e1 : vgetF 0 0 (encR (x :: l)) = (cntF x l + 1, (vputF 9 (cntF x l + 1)).length) := by
      rw [encR_cons, List.append_assoc]; exact vget9 _ _ (by omega)
    have e2 : vgetF 0 0 ((encR (x :: l)).drop (vputF 9 (cntF x l + 1)).length) = (x, (vputF 9 x).length) := by
      rw [encR_cons, List.append_assoc, List.drop_left]; exact vget9 _ _ hx
    have e3 : (encR (x :: l)).drop ((vputF 9 (cntF x l + 1)).length + (vputF 9 x).length) = encR (l.drop (cntF x l)) := by
      rw [encR_cons, ← List.length_append, List.drop_left]
    have hne : encR (x :: l) ≠ [] := by
      intro e
      have := congrArg List.length e
      rw [encR_cons] at this
      simp only [List.length_append, List.length_nil] at this
      omega
    rw [decR_step _ m out hne _ _ _ _ e1 e2, e3]
    have hrep : List.replicate (cntF x l + 1) x = x :: l.take (cntF x l) := by
      rw [List.replicate_succ]
      congr 1
      apply List.ext_getElem?
      intro i
      rw [List.getElem?_take]
      by_cases hi : i < cntF x l
      · rw [if_pos hi, cntF_same x l i hi]; simp [hi]
      · rw [if_neg hi]; simp; omega
    by_cases hm : m < out.length + (cntF x l + 1)
    · rw [if_pos (by right; right; right; left; exact hm), if_neg (by simp only [List.length_cons]; omega)]
    · have hlast := hl x l rfl
      rw [if_neg (by simp only [not_or]; refine ⟨by omega, by omega, by omega, hm, hlast⟩)]
      rw [dec_enc n (l.drop (cntF x l)) m _ (by simp; omega) (by omega) (fun z hz => hv z (by simp [List.mem_of_mem_drop hz])) ?_]
      · have e4 : out ++ List.replicate (cntF x l + 1) x ++ l.drop (cntF x l) = out ++ x :: l := by
          rw [hrep, List.append_assoc, List.cons_append, List.take_append_drop]
        rw [e4]
        simp only [List.length_append, List.length_replicate, List.length_drop, List.length_cons]
        have : out.length + (cntF x l + 1) + (l.length - cntF x l) = out.length + (l.length + 1) := by omega
        rw [this]
      · intro y t hy
        rw [List.getLast?_append, List.getLast?_replicate]
        simp
        intro e
        have := cntF_next x l
        have h0 := congrArg (fun q => q[0]?) hy
        simp at h0
        rw [h0] at this
        exact this (by rw [e])
theorem decR_encR (v : List Nat) (n : Int) (hl : v.length ≤ 65535) (hv : ∀ x ∈ v, x < 18446744073709551616) : decR (encR v) n = if v.length = heldM n then some v else none := by
  unfold decR
  rw [dec_enc v.length v _ [] (Nat.le_refl _) (by omega) hv (by simp)]
  simp
/-- what is read has as many values as are wanted, each of them a number of 64 bits -/
theorem decRF_ok : ∀ (k : Nat) (bs : List Nat) (m : Nat) (out o : List Nat), (∀ x ∈ bs, x < 256) → (∀ x ∈ out, x < 18446744073709551616) → decRF k bs m out = some o → o.length = m ∧ ∀ x ∈ o, x < 18446744073709551616
  | _, [], m, out, o, _, ho, h => by
    unfold decRF at h
    split at h
    · have e := Option.some.inj h
      subst e
      rename_i hl
      exact ⟨hl, ho⟩
    · cases h
  | 0, b :: bs, m, out, o, _, _, h => by simp [decRF] at h
  | k + 1, b :: bs, m, out, o, hb, ho, h => by
    unfold decRF at h
    split at h
    · cases h
    · refine decRF_ok k _ m _ o (fun x hx => hb x (List.mem_of_mem_drop hx)) (fun x hx => ?_) h
      rcases List.mem_append.1 hx with hx | hx
      · exact ho x hx
      · have e := List.eq_of_mem_replicate hx
        rw [e]
        exact vget_bound _ 0 0 (by decide) (by decide) (fun x hx => hb x (List.mem_of_mem_drop hx))
theorem decR_ok {bs : List Nat} {n : Int} {o : List Nat} (hb : ∀ x ∈ bs, x < 256) (h : decR bs n = some o) : o.length = heldM n ∧ ∀ x ∈ o, x < 18446744073709551616 :=
  decRF_ok _ _ _ _ _ hb (by simp) h
end Go.Proofs.Ytjibmfkhhljhcaa
