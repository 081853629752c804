/- Values by what turns: what is read of what was told, and what was told of what is read. In plain Lean. -/
import Derived.Test.YtjibmfkhhljhcaaDoorXorvLaw
set_option linter.unusedSimpArgs false
set_option linter.unusedVariables false
namespace Go.Proofs.YtjibmfkhhljhcaaDoor
open Go
theorem held64 (n : Nat) (h : n ≤ 64) : heldF (n : Int) = n := by unfold heldF; omega
theorem heldc1 : heldF 1 = 1 := rfl
theorem heldc5 : heldF 5 = 5 := rfl
theorem heldc6 : heldF 6 = 6 := rfl
theorem heldc64 : heldF 64 = 64 := rfl
theorem lng_le (w : Win) : lngX w ≤ 64 := by unfold lngX; omega
theorem one_bit {bs : List Nat} {a d : Nat} (h : [d] = bitsAt bs a 1) (hd : d < 2) : getV bs a 1 = d := by
  have : bitsOf d 1 = bitsAt bs a 1 := by rw [← h]; simp [bitsOf]; omega
  rw [getV_of this, Nat.pow_one, Nat.mod_eq_of_lt hd]
theorem bit_one {bs : List Nat} {a d : Nat} (h : getV bs a 1 = d) : bitsAt bs a 1 = [d] := by
  have h1 := bitsOf_getV bs a 1
  have h2 := getV_lt bs a 1
  rw [h] at h1 h2
  rw [← h1]
  simp [bitsOf]; omega
theorem two_bits {bs : List Nat} {a d e : Nat} (h1 : bitsAt bs a 1 = [d]) (h2 : bitsAt bs (a + 1) 1 = [e]) : bitsAt bs a 2 = [d, e] := by
  rw [show (2 : Nat) = 1 + 1 from rfl, bitsAt_add, h1, h2]; rfl
theorem app_split {bs : List Nat} {a : Nat} {p q : List Nat} (h : p ++ q = bitsAt bs a (p ++ q).length) : p = bitsAt bs a p.length ∧ q = bitsAt bs (a + p.length) q.length := by
  rw [List.length_append, bitsAt_add] at h
  exact List.append_inj h (by rw [bitsAt_len])
theorem app_join {bs : List Nat} {a : Nat} {p q : List Nat} (h1 : p = bitsAt bs a p.length) (h2 : q = bitsAt bs (a + p.length) q.length) : p ++ q = bitsAt bs a (p ++ q).length := by
  rw [List.length_append, bitsAt_add, ← h1, ← h2]
theorem bits_join {bs : List Nat} {a k : Nat} : bitsOf (getV bs a k) k = bitsAt bs a (bitsOf (getV bs a k) k).length := by rw [bitsOf_len, bitsOf_getV]
/-- what was told is read -/
theorem turn_step {bs : List Nat} {w : Win} {a x : Nat} (hw : WinOK w) (hx : x < 18446744073709551616) (hb : (stepX w x).1 = bitsAt bs a (stepX w x).1.length) (hl : a + (stepX w x).1.length ≤ 8 * bs.length) :
    turnX bs w ⟨a, false⟩ = (x, true, (stepX w x).2, ⟨a + (stepX w x).1.length, false⟩) := by
  by_cases h0 : x = 0
  · subst h0
    have e : stepX w 0 = ([0], w) := by unfold stepX; rw [if_pos rfl]; rfl
    rw [e] at hb hl ⊢
    simp only [List.length_cons, List.length_nil] at hb hl ⊢
    have g1 := getF_of (bs := bs) (a := a) (n := 1) (by rw [heldc1]; omega)
    rw [heldc1, one_bit hb (by decide)] at g1
    unfold turnX
    rw [g1]
    simp
  · by_cases hf : fitsX w x = true
    · obtain ⟨his, hfa, hfb⟩ := fitsX_of hf
      have e : stepX w x = ([1, 0] ++ bitsOf (x / 2 ^ w.b) (lngX w), w) := by unfold stepX; rw [if_neg h0, if_pos hf]; rfl
      rw [e] at hb hl ⊢
      simp only [] at hb hl ⊢
      obtain ⟨b1, b2⟩ := app_split hb
      simp only [List.length_append, List.length_cons, List.length_nil, bitsOf_len] at b1 b2 hl ⊢
      have b1' : [1] ++ [0] = bitsAt bs a ([1] ++ [0]).length := b1
      obtain ⟨b3, b4⟩ := app_split b1'
      simp only [List.length_cons, List.length_nil] at b3 b4
      have g1 := getF_of (bs := bs) (a := a) (n := 1) (by rw [heldc1]; omega)
      rw [heldc1, one_bit b3 (by decide)] at g1
      have g2 := getF_of (bs := bs) (a := a + 1) (n := 1) (by rw [heldc1]; omega)
      rw [heldc1, one_bit b4 (by decide)] at g2
      have g3 := getF_of (bs := bs) (a := a + 1 + 1) (n := (lngX w : Int)) (by rw [held64 _ (lng_le w)]; omega)
      have hxa := ldX_lt hx hfa
      have hy : x / 2 ^ w.b < 2 ^ lngX w := by
        rw [Nat.div_lt_iff_lt_mul (Nat.pow_pos (by decide)), ← Nat.pow_add]
        have : lngX w + w.b = 64 - w.a := by unfold lngX; have := hw.2; omega
        rw [this]; exact hxa
      rw [held64 _ (lng_le w), getV_of b2, Nat.mod_eq_of_lt hy] at g3
      have hm := mod64 (a := w.a) (b := w.b) hw.2 hy
      rw [tzX_div h0 hx hfb] at hm
      unfold turnX
      rw [g1]
      simp only []
      rw [if_neg (by decide), g2]
      simp only []
      rw [if_pos trivial, g3]
      simp only []
      rw [tzX_div h0 hx hfb, hm.2, his, decide_eq_true h0]
      simp; omega
    · have hlt := ld_tz h0 hx
      have hld := ldX_le x
      have hlng : lngX (ofX x) = 64 - ldX x - tzX x := rfl
      have e : stepX w x = ([1, 1] ++ bitsOf (ldX x) 5 ++ bitsOf (lngX (ofX x) - 1) 6 ++ bitsOf (x / 2 ^ tzX x) (lngX (ofX x)), ofX x) := by unfold stepX; rw [if_neg h0, if_neg hf]; rfl
      rw [e] at hb hl ⊢
      simp only [] at hb hl ⊢
      obtain ⟨b1, b2⟩ := app_split hb
      obtain ⟨b1, b5⟩ := app_split b1
      obtain ⟨b1, b6⟩ := app_split b1
      simp only [List.length_append, List.length_cons, List.length_nil, bitsOf_len] at b1 b2 b5 b6 hl ⊢
      have b1' : [1] ++ [1] = bitsAt bs a ([1] ++ [1]).length := b1
      obtain ⟨b3, b4⟩ := app_split b1'
      simp only [List.length_cons, List.length_nil] at b3 b4
      have g1 := getF_of (bs := bs) (a := a) (n := 1) (by rw [heldc1]; omega)
      rw [heldc1, one_bit b3 (by decide)] at g1
      have g2 := getF_of (bs := bs) (a := a + 1) (n := 1) (by rw [heldc1]; omega)
      rw [heldc1, one_bit b4 (by decide)] at g2
      have g3 := getF_of (bs := bs) (a := a + 1 + 1) (n := 5) (by rw [heldc5]; omega)
      rw [heldc5, getV_of b6, Nat.mod_eq_of_lt (by show _ < 32; omega)] at g3
      have g4 := getF_of (bs := bs) (a := a + 1 + 1 + 5) (n := 6) (by rw [heldc6]; omega)
      rw [heldc6, show a + 1 + 1 + 5 = a + (1 + 1 + 5) by omega, getV_of b5, Nat.mod_eq_of_lt (by show _ < 64; omega)] at g4
      have em : lngX (ofX x) - 1 + 1 = lngX (ofX x) := by omega
      have g5 := getF_of (bs := bs) (a := a + (1 + 1 + 5) + 6) (n := (lngX (ofX x) : Int)) (by rw [held64 _ (lng_le _)]; omega)
      have hxa := ldX_lt hx (Nat.le_refl (ldX x))
      have hy : x / 2 ^ tzX x < 2 ^ lngX (ofX x) := by
        rw [Nat.div_lt_iff_lt_mul (Nat.pow_pos (by decide)), ← Nat.pow_add]
        have : lngX (ofX x) + tzX x = 64 - ldX x := by omega
        rw [this]; exact hxa
      rw [held64 _ (lng_le _), show a + (1 + 1 + 5) + 6 = a + (1 + 1 + 5 + 6) by omega, getV_of b2, Nat.mod_eq_of_lt hy] at g5
      have hm := mod64 (a := ldX x) (b := tzX x) (by omega) hy
      rw [tzX_div h0 hx (Nat.le_refl _)] at hm
      have etz : 64 - ldX x - lngX (ofX x) = tzX x := by omega
      unfold turnX
      rw [g1]
      simp only []
      rw [if_neg (by decide), g2]
      simp only []
      rw [if_neg (by decide), g3]
      simp only []
      rw [show a + 1 + 1 + 5 = a + (1 + 1 + 5) by omega, g4]
      simp only []
      rw [em, if_neg (by omega), show a + (1 + 1 + 5) + 6 = a + (1 + 1 + 5 + 6) by omega, g5]
      simp only []
      rw [etz, tzX_div h0 hx (Nat.le_refl _), hm.2, if_neg (by simp only [not_or]; exact ⟨h0, by simp, hf⟩)]
      simp [ofX]; omega
end Go.Proofs.YtjibmfkhhljhcaaDoor
