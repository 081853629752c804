/- Two structs that are built into one slice. -/
import Derived.Test.YtbebhmdjnneimaaStc
import Derived.Test.YtbebhmdjnneimaaOwn
import Derived.Test.YtbebhmdjnneimaaRwx
set_option linter.unusedSimpArgs false
set_option linter.unusedVariables false
namespace Go.Proofs.Ytbebhmdjnneimaa
open Go
theorem buf_open {sz n : Nat} {v : Value} {cs : List Value} {h : Hp} (hl : cs.length = n * sz) (hn : 1 ≤ n) (hs : 1 ≤ sz) (q : Buf sz v cs h) : ∃ x : Nat × Nat × Nat × Array Value × TypeId × (Nat × Nat), (v = slv x.1 x.2.1 n x.2.2.1 ∧ n ≤ x.2.2.1 ∧ ∀ k, k ≤ n → ∀ y, pts x.1 (.cells x.2.2.2.1 x.2.2.2.2.1 x.2.2.2.2.2) y → Buf sz (slv x.1 x.2.1 k x.2.2.1) (cs.take (k * sz)) y) ∧ sepl [pts x.1 (.cells x.2.2.2.1 x.2.2.2.2.1 x.2.2.2.2.2)] h := by
  rcases q with ⟨_, e, _⟩ | ⟨b, off, n', c, buf, T, fr, e, hl', h1, h2, h3, h4, h5, o⟩
  · subst e
    have : 1 * 1 ≤ n * sz := Nat.mul_le_mul hn hs
    simp at hl
    omega
  · have hnn : n' = n := by
      rw [hl] at hl'
      exact (Nat.eq_of_mul_eq_mul_right hs hl').symm
    subst hnn
    refine ⟨⟨b, off, c, buf, T, fr⟩, ⟨e, h2, fun k hk y hy => ?_⟩, sepl_one.2 o⟩
    have hle : k * sz ≤ n' * sz := Nat.mul_le_mul_right _ hk
    refine .inr ⟨b, off, k, c, buf, T, fr, rfl, ?_, h1, by omega, h3, h4, ?_, hy⟩
    · rw [List.length_take, hl]; omega
    · rw [← h5, List.take_take, Nat.min_eq_left hle]
section
variable {P : Program} {T : Tab P} {fn : Func} {ρ : Hp} {X : World → Hp → Act → World → Prop} {env : Env} {Hs : List HP} {ops : Array Oper} {l : List Oper} {d : Tmp} {ty : TypeId} {pos : String} {aft : Array Edge}
/-- the beginning of an owned slice: what was behind it is given up -/
theorem WL.slPre {x y : Operand} {t E : TypeId} {v : Value} {cs : List Value} {K : IntKind} {j n k : Nat} {eD : TypeDesc} {eS eB : Nat} {eZ : Value} {eC : Bool} {a q : Nat} {z : Value} {cc : Bool} {Hs' : Value → List HP} (hn : Nat.ble (d + 1) fn.ntmps = true)
    (hx : ev env x = some v) (hy : ev env y = some (.int K ((k : Nat) : Int))) (ht : T.tt t = some ⟨.slice E, a, q, z, cc⟩) (he : T.tt E = some ⟨eD, eS, eB, eZ, eC⟩) (h0 : Nat.ble 1 eS = true)
    (hH : nthH Hs j = some (Buf eS v cs)) (hl : cs.length = n * eS) (h1 : 1 ≤ n) (hk : k ≤ n) (hF : ∀ u, FL (Buf eS u (cs.take (k * eS)) :: Hs.eraseIdx j) (Hs' u))
    (h : ∀ u, SL u k → WL false P fn ρ X ops l ((d, u) :: env) (Hs' u)) : WL false P fn ρ X ops (⟨some d, .slice t x none (some y) none, ty, pos, aft, none⟩ :: l) env Hs := by
  refine WL.opens (α := Nat × Nat × Nat × Array Value × TypeId × (Nat × Nat)) (φ := fun x => v = slv x.1 x.2.1 n x.2.2.1 ∧ n ≤ x.2.2.1 ∧ ∀ k, k ≤ n → ∀ y, pts x.1 (.cells x.2.2.2.1 x.2.2.2.2.1 x.2.2.2.2.2) y → Buf eS (slv x.1 x.2.1 k x.2.2.1) (cs.take (k * eS)) y) (ps := fun x => [pts x.1 (.cells x.2.2.2.1 x.2.2.2.2.1 x.2.2.2.2.2)]) j hH (fun h q => buf_open hl h1 (Nat.le_of_ble_eq_true h0) q) (FL.rfl _) ?_
  rintro ⟨b, off, c, buf, Tt, fr⟩ ⟨e, hc, hb⟩
  subst e
  dsimp only at hc hb ⊢
  refine WL.slX0 (T := T) (hi := k) (mx := c) hn hx .no (.inr ⟨_, _, rfl, hy⟩) .no ht he (by omega) (Nat.le_refl _) ?_
  refine WL.parts (p := pts b (.cells buf Tt fr)) (ps := [Buf eS (slv b off k c) (cs.take (k * eS))]) 0 rfl (fun h q => sepl_one.2 (hb k hk h q)) (hF _) (h _ ?_)
  unfold SL
  exact .inr ⟨_, _, rfl⟩
end
end Go.Proofs.Ytbebhmdjnneimaa
