/- The index of a table that is a constant string; how many bits a number has. -/
import Derived.Test.YtjibmfkhhljhcaaStc
set_option linter.unusedSimpArgs false
set_option linter.unusedVariables false
namespace Go.Proofs.Ytjibmfkhhljhcaa
open Go
section
variable {P : Program} {T : Tab P} {fn : Func} {ρ σ : Hp} {Q : Value → HP} {k : List Item} {md : Bool} {X : World → Hp → Act → World → Prop} {env : Env} {Hs : List HP} {ops : Array Oper} {l : List Oper}
variable {d : Tmp} {ty : TypeId} {pos : String} {aft : Array Edge} {n fuel : Nat} {listed : Array Bool}
/-- an index of a string whose bytes a function tells -/
theorem WL.ixT {x y : Operand} {t : TypeId} {s : ByteArray} {K : IntKind} {i : Int} {ti : TyI} {f : Nat → Nat} {m : Nat} (hall : ∀ j : Fin m, (bytesN s)[j.val]? = some (f j.val)) (hn : Nat.ble (d + 1) fn.ntmps = true) (hx : ev env x = some (.string s)) (hy : ev env y = some (.int K i)) (ht : T.tt t = some ti) (hS : ti.desc = .string)
    (h0 : 0 ≤ i) (hi : i < (m : Int))
    (h : WL md P fn ρ X ops l ((d, .int .u8 (f i.toNat : Int)) :: env) Hs) : WL md P fn ρ X ops (⟨some d, .index t x y, ty, pos, aft, none⟩ :: l) env Hs := by
  have hv := hall ⟨i.toNat, by omega⟩
  simp only [] at hv
  have hl : i.toNat < s.size := by
    have h1 := (List.getElem?_eq_some_iff.1 hv).1
    unfold bytesN at h1
    simpa using h1
  exact WL.ixS (b1 := true) (b2 := true) hn hx hy ht hS h0 hl hv h
end
/-- how many bits a number has -/
def lenB : Nat → Nat → Nat
  | 0, _ => 0
  | k + 1, x => if x = 0 then 0 else lenB k (x / 2) + 1
theorem lenB_le : ∀ (k x b : Nat), x < 2 ^ k → (lenB k x ≤ b ↔ x < 2 ^ b)
  | 0, x, b, h => by
    have : x = 0 := by simpa using h
    subst this
    simp [lenB, Nat.pow_pos]
  | k + 1, x, b, h => by
    unfold lenB
    by_cases h0 : x = 0
    · subst h0; simp [Nat.pow_pos]
    · rw [if_neg h0]
      cases b with
      | zero => simp; omega
      | succ b =>
        have := lenB_le k (x / 2) b (by rw [Nat.pow_succ] at h; omega)
        rw [Nat.pow_succ]
        omega
theorem lenB_shift (s : Nat) : ∀ (k x : Nat), x / 2 ^ s ≠ 0 → lenB (k + s) x = lenB k (x / 2 ^ s) + s := by
  induction s with
  | zero => intro k x h; simp
  | succ s ih =>
    intro k x h
    have hx : x ≠ 0 := fun e => h (by rw [e]; simp)
    have h2 : x / 2 ^ (s + 1) = (x / 2) / 2 ^ s := by rw [Nat.div_div_eq_div_mul, Nat.pow_succ, Nat.mul_comm]
    rw [show k + (s + 1) = (k + s) + 1 by omega, lenB, if_neg hx, h2, ih k (x / 2) (by rw [← h2]; exact h)]
    omega
theorem lenB_more : ∀ (k j x : Nat), x < 2 ^ k → lenB (k + j) x = lenB k x
  | 0, j, x, h => by
    have : x = 0 := by simpa using h
    subst this
    cases j <;> simp [lenB]
  | k + 1, j, x, h => by
    rw [show k + 1 + j = (k + j) + 1 by omega, lenB, lenB]
    by_cases h0 : x = 0
    · simp [h0]
    · rw [if_neg h0, if_neg h0, lenB_more k j (x / 2) (by rw [Nat.pow_succ] at h; omega)]
theorem lenB_up (x : Nat) : ∀ k, lenB k x ≤ k
  | 0 => Nat.le_refl _
  | k + 1 => by
    unfold lenB
    split
    · omega
    · have := lenB_up (x / 2) k; omega
/-- a number's upper part tells its bits -/
theorem lenB_hi {x : Nat} (k s : Nat) (h : 2 ^ s ≤ x) : lenB (k + s) x = lenB k (x / 2 ^ s) + s :=
  lenB_shift s k x (by
    have hp : 0 < 2 ^ s := Nat.pow_pos (by decide)
    have := Nat.div_pos h hp
    omega)
end Go.Proofs.Ytjibmfkhhljhcaa
