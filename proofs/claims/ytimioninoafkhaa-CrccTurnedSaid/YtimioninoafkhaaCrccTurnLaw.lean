/- Sums of bytes: the bytes that a turn leaves, step by step. In plain Lean. -/
import Derived.Test.YtimioninoafkhaaCrccLaw2
set_option linter.unusedSimpArgs false
set_option linter.unusedVariables false
namespace Go.Proofs.Ytimioninoafkhaa
open Go

/-- 'b', from its place 'p' on turned by what stands in 'cs' -/
def turnF (b : List Nat) (p : Nat) (cs : List Nat) : List Nat := b.take p ++ List.zipWith (· ^^^ ·) ((b.drop p).take cs.length) cs ++ b.drop (p + cs.length)
theorem turn_len (b : List Nat) (p : Nat) (cs : List Nat) (h : p + cs.length ≤ b.length) : (turnF b p cs).length = b.length := by
  simp [turnF]; omega
theorem turn_nil (b : List Nat) (p : Nat) : turnF b p [] = b := by simp [turnF]
theorem turn_get (b : List Nat) (p : Nat) (cs : List Nat) (x : Nat) (h : b[p + cs.length]? = some x) : (turnF b p cs)[p + cs.length]? = some x := by
  have hl := (List.getElem?_eq_some_iff.1 h).1
  unfold turnF
  rw [List.getElem?_append_right (by simp; omega)]
  have e : (b.take p ++ List.zipWith (· ^^^ ·) ((b.drop p).take cs.length) cs).length = p + cs.length := by simp; omega
  rw [e, Nat.sub_self, List.getElem?_drop, Nat.add_zero, h]
theorem turn_set (b : List Nat) (p : Nat) (cs : List Nat) (x c : Nat) (h : b[p + cs.length]? = some x) : (turnF b p cs).set (p + cs.length) (x ^^^ c) = turnF b p (cs ++ [c]) := by
  obtain ⟨hl, hx⟩ := List.getElem?_eq_some_iff.1 h
  have e : (b.take p ++ List.zipWith (· ^^^ ·) ((b.drop p).take cs.length) cs).length = p + cs.length := by simp; omega
  unfold turnF
  rw [List.set_append_right _ _ (by rw [e]; exact Nat.le_refl _), e, Nat.sub_self]
  have e1 : b.drop (p + cs.length) = x :: b.drop (p + cs.length + 1) := by rw [List.drop_eq_getElem_cons hl, hx]
  have e2 : (b.drop p).take (cs ++ [c]).length = (b.drop p).take cs.length ++ [x] := by
    rw [List.length_append, List.length_singleton, List.take_add_one, List.getElem?_drop, h]
    rfl
  have e3 : ((b.drop p).take cs.length).length = cs.length := by simp; omega
  rw [e1, List.set_cons_zero, e2, List.zipWith_append e3]
  simp [Nat.add_assoc]
theorem turn_lt (b : List Nat) (p : Nat) (cs : List Nat) (hb : ∀ x ∈ b, x < 256) (hc : ∀ x ∈ cs, x < 256) : ∀ x ∈ turnF b p cs, x < 256 := by
  intro x hx
  unfold turnF at hx
  rcases List.mem_append.1 hx with hx | hx
  · rcases List.mem_append.1 hx with hx | hx
    · exact hb x (List.mem_of_mem_take hx)
    · exact zip_lt (fun y hy => hb y (List.mem_of_mem_drop (List.mem_of_mem_take hy))) hc x hx
  · exact hb x (List.mem_of_mem_drop hx)
theorem sum_turn (b : List Nat) (p : Nat) (cs : List Nat) (h : p + cs.length ≤ b.length) (h4 : cs.length ≤ 4) (hb : ∀ x ∈ b, x < 256) (hc : ∀ x ∈ cs, x < 256) : sumR (turnF b p cs) = sumR b ↔ ∀ c ∈ cs, c = 0 := by
  have hm : ((b.drop p).take cs.length).length = cs.length := by simp; omega
  have := sum_turned (b.take p) ((b.drop p).take cs.length) (b.drop (p + cs.length)) cs hm h4 (fun x hx => hb x (List.mem_of_mem_take hx)) (fun x hx => hb x (List.mem_of_mem_drop (List.mem_of_mem_take hx))) (fun x hx => hb x (List.mem_of_mem_drop hx)) hc
  have e : b.take p ++ (b.drop p).take cs.length ++ b.drop (p + cs.length) = b := by
    rw [List.append_assoc, ← List.drop_drop, List.take_append_drop, List.take_append_drop]
  rw [e] at this
  exact this
/-- a whole number's byte -/
def byteAt (t : Int) (i : Nat) : Nat := ((t / 2 ^ (8 * i)) % 256).toNat
theorem byteAt_lt (t : Int) (i : Nat) : byteAt t i < 256 := by
  unfold byteAt
  have := Int.emod_nonneg (t / 2 ^ (8 * i)) (b := 256) (by decide)
  have := Int.emod_lt_of_pos (t / 2 ^ (8 * i)) (b := 256) (by decide)
  omega
def bytesTo (t : Int) (n : Nat) : List Nat := (List.range n).map (byteAt t)
theorem bytesTo_len (t : Int) (n : Nat) : (bytesTo t n).length = n := by simp [bytesTo]
theorem bytesTo_succ (t : Int) (n : Nat) : bytesTo t (n + 1) = bytesTo t n ++ [byteAt t n] := by simp [bytesTo, List.range_succ]
theorem bytesTo_lt (t : Int) (n : Nat) : ∀ x ∈ bytesTo t n, x < 256 := by
  intro x hx
  obtain ⟨i, _, rfl⟩ := List.mem_map.1 hx
  exact byteAt_lt t i
end Go.Proofs.Ytimioninoafkhaa
