/- Values by what turns: what is read is what was told. In plain Lean. -/
import Derived.Test.YtjibmfkhhljhcaaDoorXorvLaw2
set_option linter.unusedSimpArgs false
set_option linter.unusedVariables false
namespace Go.Proofs.YtjibmfkhhljhcaaDoor
open Go
theorem step_turn {bs : List Nat} {w w' : Win} {a x : Nat} {s' : RdSt} (hw : WinOK w) (ha : a ≤ 8 * bs.length) (h : turnX bs w ⟨a, false⟩ = (x, true, w', s')) (hb : s'.bad = false) :
    x < 18446744073709551616 ∧ (stepX w x).2 = w' ∧ s' = ⟨a + (stepX w x).1.length, false⟩ ∧ a + (stepX w x).1.length ≤ 8 * bs.length ∧ (stepX w x).1 = bitsAt bs a (stepX w x).1.length ∧ rturnX bs w ⟨a, false⟩ = some (x, w', s') := by
  unfold turnX at h
  unfold rturnX
  obtain ⟨g1, s1, e1⟩ : ∃ g s, getF bs ⟨a, false⟩ 1 = (g, s) := ⟨_, _, rfl⟩
  obtain ⟨g2, s2, e2⟩ : ∃ g s, getF bs s1 1 = (g, s) := ⟨_, _, rfl⟩
  have a1 := getF_atL bs ⟨a, false⟩ 1 ha
  rw [e1] at a1 h ⊢
  simp only [] at a1 h ⊢
  have a2 := getF_atL bs s1 1 a1
  rw [e2] at a2 h ⊢
  simp only [] at a2 h ⊢
  by_cases c1 : g1 = 0
  · rw [if_pos c1] at h
    obtain ⟨rfl, _, rfl, rfl⟩ : 0 = x ∧ true = true ∧ w = w' ∧ s1 = s' := by
      have q1 := congrArg Prod.fst h
      have q2 := congrArg (fun z => z.2.2.1) h
      have q3 := congrArg (fun z => z.2.2.2) h
      exact ⟨q1, rfl, q2, q3⟩
    obtain ⟨_, k1, k2, k3⟩ := getF_ok e1 ha hb
    rw [heldc1] at k1 k2 k3
    simp only [] at k1 k2 k3
    have es : stepX w 0 = ([0], w) := by unfold stepX; rw [if_pos rfl]; rfl
    rw [es]
    refine ⟨by decide, rfl, k2, k3, (bit_one (k1 ▸ c1)).symm, ?_⟩
    rw [if_neg (by omega)]
  · rw [if_neg c1] at h
    by_cases c2 : g2 = 0
    · rw [if_pos c2] at h
      obtain ⟨g3, s3, e3⟩ : ∃ g s, getF bs s2 (lngX w : Int) = (g, s) := ⟨_, _, rfl⟩
      rw [e3] at h ⊢
      simp only [] at h ⊢
      obtain ⟨q1, q2, rfl, rfl⟩ : g3 * 2 ^ w.b % 18446744073709551616 = x ∧ (w.is && decide (g3 * 2 ^ w.b % 18446744073709551616 ≠ 0)) = true ∧ w = w' ∧ s3 = s' := by
        have q1 := congrArg Prod.fst h
        have q0 := congrArg (fun z => z.2.1) h
        have q2 := congrArg (fun z => z.2.2.1) h
        have q3 := congrArg (fun z => z.2.2.2) h
        exact ⟨q1, q0, q2, q3⟩
      obtain ⟨n3, k1, k2, k3⟩ := getF_ok e3 a2 hb
      obtain ⟨n2, m1, m2, m3⟩ := getF_ok e2 a1 n3
      obtain ⟨_, l1, l2, l3⟩ := getF_ok e1 ha n2
      rw [heldc1] at l1 l2 l3 m1 m2 m3
      rw [held64 _ (lng_le w)] at k1 k2 k3
      simp only [] at l1 l2 l3
      rw [l2] at m1 m2 m3
      simp only [] at m1 m2 m3
      rw [m2] at k1 k2 k3
      simp only [] at k1 k2 k3
      have hg1 : g1 = 1 := by have := getV_lt bs a 1; omega
      have hy : g3 < 2 ^ (64 - w.a - w.b) := by rw [k1]; exact getV_lt _ _ _
      obtain ⟨hm1, hm2⟩ := mod64 hw.2 hy
      rw [hm2] at q1 q2
      rw [q1] at q2 hm1
      obtain ⟨his, hx0⟩ : w.is = true ∧ x ≠ 0 := by simpa using q2
      have hx : x < 18446744073709551616 := by
        have : 2 ^ (64 - w.a) ≤ 2 ^ 64 := Nat.pow_le_pow_right (by decide) (by omega)
        omega
      have hf : fitsX w x = true := by
        unfold fitsX
        have f1 := le_ldX hx hw.1 hm1
        have f2 : w.b ≤ tzX x := by rw [← q1]; exact le_tzX (by rw [q1]; exact hx0) (by rw [q1]; exact hx)
        rw [his, decide_eq_true f1, decide_eq_true f2]; rfl
      have hxd : x / 2 ^ w.b = g3 := by rw [← q1]; exact Nat.mul_div_cancel _ (Nat.pow_pos (by decide))
      have es : stepX w x = ([1, 0] ++ bitsOf g3 (lngX w), w) := by unfold stepX; rw [if_neg hx0, if_pos hf, hxd]; rfl
      rw [es]
      have hlen : ([1, 0] ++ bitsOf g3 (lngX w)).length = 2 + lngX w := by simp [bitsOf_len]; omega
      refine ⟨hx, rfl, ?_, ?_, ?_, ?_⟩
      · rw [k2]
        show (⟨_, _⟩ : RdSt) = ⟨_, _⟩
        rw [hlen]
        congr 1
        omega
      · show a + ([1, 0] ++ bitsOf g3 (lngX w)).length ≤ _
        rw [hlen]; omega
      · show [1, 0] ++ bitsOf g3 (lngX w) = bitsAt bs a ([1, 0] ++ bitsOf g3 (lngX w)).length
        refine app_join (two_bits (bit_one (l1 ▸ hg1)) (bit_one (m1 ▸ c2))).symm ?_
        rw [bitsOf_len, k1, bitsOf_getV]
        rfl
      · rw [if_pos hg1, if_neg (by omega), if_neg (by rw [his]; decide), hm2, q1]
    · rw [if_neg c2] at h
      obtain ⟨g3, s3, e3⟩ : ∃ g s, getF bs s2 5 = (g, s) := ⟨_, _, rfl⟩
      have a3 := getF_atL bs s2 5 a2
      rw [e3] at a3 h ⊢
      simp only [] at a3 h ⊢
      obtain ⟨g4, s4, e4⟩ : ∃ g s, getF bs s3 6 = (g, s) := ⟨_, _, rfl⟩
      have a4 := getF_atL bs s3 6 a3
      rw [e4] at a4 h ⊢
      simp only [] at a4 h ⊢
      by_cases c3 : 64 < g3 + (g4 + 1)
      · rw [if_pos c3] at h
        have q0 := congrArg (fun z => z.2.1) h
        cases q0
      · rw [if_neg c3] at h
        obtain ⟨g5, s5, e5⟩ : ∃ g s, getF bs s4 ((g4 + 1 : Nat) : Int) = (g, s) := ⟨_, _, rfl⟩
        rw [e5] at h ⊢
        simp only [] at h ⊢
        by_cases c4 : g5 * 2 ^ (64 - g3 - (g4 + 1)) % 18446744073709551616 = 0 ∨ ¬ (ldX (g5 * 2 ^ (64 - g3 - (g4 + 1)) % 18446744073709551616) = g3 ∧ tzX (g5 * 2 ^ (64 - g3 - (g4 + 1)) % 18446744073709551616) = 64 - g3 - (g4 + 1)) ∨ fitsX w (g5 * 2 ^ (64 - g3 - (g4 + 1)) % 18446744073709551616) = true
        · rw [if_pos c4] at h
          have q0 := congrArg (fun z => z.2.1) h
          cases q0
        · rw [if_neg c4] at h
          obtain ⟨q1, rfl, rfl⟩ : g5 * 2 ^ (64 - g3 - (g4 + 1)) % 18446744073709551616 = x ∧ (⟨true, g3, 64 - g3 - (g4 + 1)⟩ : Win) = w' ∧ s5 = s' := by
            have q1 := congrArg Prod.fst h
            have q2 := congrArg (fun z => z.2.2.1) h
            have q3 := congrArg (fun z => z.2.2.2) h
            exact ⟨q1, q2, q3⟩
          obtain ⟨n5, k1, k2, k3⟩ := getF_ok e5 a4 hb
          obtain ⟨n4, p1, p2, p3⟩ := getF_ok e4 a3 n5
          obtain ⟨n3, o1, o2, o3⟩ := getF_ok e3 a2 n4
          obtain ⟨n2, m1, m2, m3⟩ := getF_ok e2 a1 n3
          obtain ⟨_, l1, l2, l3⟩ := getF_ok e1 ha n2
          rw [heldc1] at l1 l2 l3 m1 m2 m3
          rw [heldc5] at o1 o2 o3
          rw [heldc6] at p1 p2 p3
          rw [held64 _ (by omega)] at k1 k2 k3
          simp only [] at l1 l2 l3
          rw [l2] at m1 m2 m3
          simp only [] at m1 m2 m3
          rw [m2] at o1 o2 o3
          simp only [] at o1 o2 o3
          rw [o2] at p1 p2 p3
          simp only [] at p1 p2 p3
          rw [p2] at k1 k2 k3
          simp only [] at k1 k2 k3
          have hg1 : g1 = 1 := by have := getV_lt bs a 1; omega
          have hg2 : g2 = 1 := by have := getV_lt bs (a + 1) 1; omega
          have hg3 : g3 < 32 := by rw [o1]; exact getV_lt _ _ 5
          have hy : g5 < 2 ^ (64 - g3 - (64 - g3 - (g4 + 1))) := by
            rw [show 64 - g3 - (64 - g3 - (g4 + 1)) = g4 + 1 by omega, k1]; exact getV_lt _ _ _
          obtain ⟨hm1, hm2⟩ := mod64 (a := g3) (b := 64 - g3 - (g4 + 1)) (by omega) hy
          rw [q1] at c4
          simp only [not_or, Classical.not_not] at c4
          obtain ⟨hx0, ⟨hld, htz⟩, hnf⟩ := c4
          rw [hm2] at q1
          have hx : x < 18446744073709551616 := by
            have : 2 ^ (64 - g3) ≤ 2 ^ 64 := Nat.pow_le_pow_right (by decide) (by omega)
            omega
          have hlng : lngX (ofX x) = g4 + 1 := by
            show 64 - ldX x - tzX x = _
            rw [hld, htz]; omega
          have hxd : x / 2 ^ tzX x = g5 := by rw [htz, ← q1]; exact Nat.mul_div_cancel _ (Nat.pow_pos (by decide))
          have es : stepX w x = ([1, 1] ++ bitsOf g3 5 ++ bitsOf g4 6 ++ bitsOf g5 (g4 + 1), ⟨true, g3, 64 - g3 - (g4 + 1)⟩) := by
            unfold stepX
            rw [if_neg hx0, if_neg hnf, hxd, hlng, hld, Nat.add_sub_cancel]
            unfold ofX
            rw [hld, htz]; rfl
          rw [es]
          have hlen : ([1, 1] ++ bitsOf g3 5 ++ bitsOf g4 6 ++ bitsOf g5 (g4 + 1)).length = 13 + (g4 + 1) := by simp [bitsOf_len]; omega
          refine ⟨hx, rfl, ?_, ?_, ?_, ?_⟩
          · rw [k2]
            show (⟨_, _⟩ : RdSt) = ⟨_, _⟩
            rw [hlen]
            congr 1
            omega
          · show a + ([1, 1] ++ bitsOf g3 5 ++ bitsOf g4 6 ++ bitsOf g5 (g4 + 1)).length ≤ _
            rw [hlen]; omega
          · show [1, 1] ++ bitsOf g3 5 ++ bitsOf g4 6 ++ bitsOf g5 (g4 + 1) = bitsAt bs a ([1, 1] ++ bitsOf g3 5 ++ bitsOf g4 6 ++ bitsOf g5 (g4 + 1)).length
            refine app_join (app_join (app_join (two_bits (bit_one (l1 ▸ hg1)) (bit_one (m1 ▸ hg2))).symm ?_) ?_) ?_
            · rw [bitsOf_len, o1, bitsOf_getV]; rfl
            · rw [bitsOf_len, p1, bitsOf_getV]
              congr 1
            · rw [bitsOf_len]
              conv => lhs; rw [k1, bitsOf_getV]
              congr 1
          · rw [if_pos hg1, if_pos hg2, if_neg c3, hm2, q1]
end Go.Proofs.YtjibmfkhhljhcaaDoor
