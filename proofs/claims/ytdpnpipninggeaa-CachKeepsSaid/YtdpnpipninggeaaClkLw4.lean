/- A page comes, plainly. -/
import Derived.Test.YtdpnpipninggeaaClkLw2
set_option linter.unusedSimpArgs false
set_option linter.unusedVariables false
namespace Go.Proofs.Ytdpnpipninggeaa
open Go
def outL : Nat → Clk → List Ky → Option (Clk × List Ky)
 | 0, _, _ => none
 | n + 1, c, out => if c.most ≤ (cnt isRes c.pages : Int) then (coldL n c).bind fun r => outL n r.1 (out ++ [r.2]) else some (c, out)
theorem outL_s (n : Nat) (c : Clk) (out : List Ky) : outL (n + 1) c out = if c.most ≤ (cnt isRes c.pages : Int) then (coldL n c).bind fun r => outL n r.1 (out ++ [r.2]) else some (c, out) := rfl
theorem outL_B : ∀ (n : Nat) (c : Clk) (out : List Ky) (r : Clk × List Ky), ClkB c → outL n c out = some r → ClkB r.1 ∧ r.1.most = c.most
 | 0, c, out, r, h, e => by cases e
 | n + 1, c, out, r, h, e => by
  unfold outL at e
  split at e
  ·cases hx : coldL n c with
   | none => rw [hx] at e; cases e
   | some x =>
    rw [hx] at e
    obtain ⟨a, b⟩ := coldL_B n c x h hx
    obtain ⟨a2, b2⟩ := outL_B n x.1 _ r a e
    exact ⟨a2, b2.trans b⟩
  ·cases e; exact ⟨h, rfl⟩
theorem outL_I {I : Clk → Prop} (S : Clo I) : ∀ (n : Nat) (c : Clk) (out : List Ky) (r : Clk × List Ky), I c → outL n c out = some r → I r.1
 | 0, c, out, r, h, e => by cases e
 | n + 1, c, out, r, h, e => by
  unfold outL at e
  split at e
  ·cases hx : coldL n c with
   | none => rw [hx] at e; cases e
   | some x =>
    rw [hx] at e
    exact outL_I S n x.1 _ r (coldL_I S n c x h hx) e
  ·cases e; exact h
theorem outL_n : ∀ (n : Nat) (c : Clk) (out : List Ky) (r : Clk × List Ky), outL n c out = some r → r.2.length ≤ out.length + n
 | 0, c, out, r, e => by cases e
 | n + 1, c, out, r, e => by
  unfold outL at e
  split at e
  ·cases hx : coldL n c with
   | none => rw [hx] at e; cases e
   | some x =>
    rw [hx] at e
    have := outL_n n x.1 _ r e
    rw [List.length_append] at this
    simp at this
    omega
  ·cases e; simp
theorem comes_B {c : Clk} (h : ClkB c) (hl : c.pages.length ≤ 999999) (g1 : c.hot ≤ 999999) (g2 : c.cold ≤ 999999) (g3 : c.test ≤ 999999) (p : Pg) : ClkB (comesP c p) := by
 unfold comesP
 split
 ·exact ⟨h.m1, h.m2, h.t1, h.t2, by simp, by simp, by simp, by simp⟩
 ·refine ⟨h.m1, h.m2, h.t1, h.t2, by simp; omega, ?_, ?_, ?_⟩
  all_goals unfold handC
  all_goals dsimp only
  all_goals split <;> omega
end Go.Proofs.Ytdpnpipninggeaa
