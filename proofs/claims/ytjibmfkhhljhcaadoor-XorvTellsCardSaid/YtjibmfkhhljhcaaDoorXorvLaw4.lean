/- Values by what turns: rows of values. In plain Lean. -/
import Derived.Test.YtjibmfkhhljhcaaDoorXorvLaw3
set_option linter.unusedSimpArgs false
set_option linter.unusedVariables false
namespace Go.Proofs.YtjibmfkhhljhcaaDoor
open Go
theorem xor_back (y was : Nat) : was ^^^ (y ^^^ was) = y := by
  rw [Nat.xor_comm y was, ← Nat.xor_assoc, Nat.xor_self, Nat.zero_xor]
theorem xor_back2 (x was : Nat) : (was ^^^ x) ^^^ was = x := by
  rw [Nat.xor_comm was x, Nat.xor_assoc, Nat.xor_self, Nat.xor_zero]
theorem dec_run (bs : List Nat) : ∀ (l : List Nat) (was : Nat) (w : Win) (out : List Nat) (a : Nat), WinOK w → was < 18446744073709551616 → (∀ x ∈ l, x < 18446744073709551616) →
    encG was w l = bitsAt bs a (encG was w l).length → a + (encG was w l).length ≤ 8 * bs.length → decXF bs l.length was w out ⟨a, false⟩ = some (out ++ l, ⟨a + (encG was w l).length, false⟩)
  | [], was, w, out, a, _, _, _, _, _ => by simp [decXF, encG]
  | y :: l, was, w, out, a, hw, hwas, hl, hb, hle => by
    have hy := hl y (by simp)
    have hx := xor_lt64 hy hwas
    rw [encG] at hb hle ⊢
    obtain ⟨b1, b2⟩ := app_split hb
    rw [List.length_append] at hle ⊢
    have ht := turn_step hw hx b1 (by omega)
    rw [List.length_cons, decXF, ht]
    simp only []
    rw [if_neg (by simp), xor_back, dec_run bs l y _ _ _ (stepX_ok hw hx) hy (fun x h => hl x (by simp [h])) b2 (by omega)]
    simp [Nat.add_assoc]
theorem run_dec (bs : List Nat) : ∀ (k was : Nat) (w : Win) (out : List Nat) (a : Nat) (o : List Nat) (s' : RdSt), WinOK w → was < 18446744073709551616 → a ≤ 8 * bs.length → decXF bs k was w out ⟨a, false⟩ = some (o, s') →
    ∃ l, o = out ++ l ∧ l.length = k ∧ (∀ x ∈ l, x < 18446744073709551616) ∧ s' = ⟨a + (encG was w l).length, false⟩ ∧ a + (encG was w l).length ≤ 8 * bs.length ∧ encG was w l = bitsAt bs a (encG was w l).length ∧ rdXF bs k was w out ⟨a, false⟩ = some (o, s')
  | 0, was, w, out, a, o, s', hw, hwas, ha, h => by
    have e := Option.some.inj h
    refine ⟨[], by rw [List.append_nil]; exact (congrArg Prod.fst e).symm, rfl, by simp, (congrArg Prod.snd e).symm, ha, rfl, ?_⟩
    unfold rdXF
    rw [if_neg (by simp)]
    exact h
  | k + 1, was, w, out, a, o, s', hw, hwas, ha, h => by
    rw [decXF] at h
    obtain ⟨x, ok, w', s1, ht⟩ : ∃ x ok w' s1, turnX bs w ⟨a, false⟩ = (x, ok, w', s1) := ⟨_, _, _, _, rfl⟩
    rw [ht] at h
    simp only [] at h
    split at h
    · cases h
    · rename_i hn
      simp only [not_or, Bool.not_eq_false, Bool.not_eq_true] at hn
      obtain ⟨hok, hs1⟩ := hn
      subst hok
      obtain ⟨hx, e1, e2, e3, e4, e5⟩ := step_turn hw ha ht hs1
      rw [e2] at h
      have hy := xor_lt64 hwas hx
      obtain ⟨l, c1, c2, c3, c4, c5, c6, c7⟩ := run_dec bs k _ w' _ _ o s' (e1 ▸ stepX_ok hw hx) hy e3 h
      have eg : encG was w ((was ^^^ x) :: l) = (stepX w x).1 ++ encG (was ^^^ x) w' l := by rw [encG, xor_back2, e1]
      refine ⟨(was ^^^ x) :: l, by rw [c1]; simp, by simp [c2], ?_, ?_, ?_, ?_, ?_⟩
      · intro z hz
        rcases List.mem_cons.1 hz with rfl | hz
        · exact hy
        · exact c3 z hz
      · rw [c4, eg, List.length_append, Nat.add_assoc]
      · rw [eg, List.length_append]; omega
      · rw [eg]
        exact app_join e4 c6
      · rw [rdXF, if_neg (by simp), e5]
        simp only []
        rw [e2]
        exact c7
theorem getF_mono (bs : List Nat) (s : RdSt) (n : Int) : s.at' ≤ (getF bs s n).2.at' := by
  unfold getF
  split
  · exact Nat.le_refl _
  · exact Nat.le_add_right _ _
theorem rturn_ok {bs : List Nat} {w w' : Win} {s s' : RdSt} {x : Nat} (h : rturnX bs w s = some (x, w', s')) (ha : s.at' ≤ 8 * bs.length) : x < 18446744073709551616 ∧ s.at' ≤ s'.at' ∧ s'.at' ≤ 8 * bs.length := by
  unfold rturnX at h
  have m1 := getF_mono bs s 1
  have a1 := getF_atL bs s 1 ha
  have m2 := getF_mono bs (getF bs s 1).2 1
  have a2 := getF_atL bs (getF bs s 1).2 1 a1
  split at h
  · split at h
    · simp only [] at h
      have m3 := getF_mono bs (getF bs (getF bs s 1).2 1).2 5
      have a3 := getF_atL bs (getF bs (getF bs s 1).2 1).2 5 a2
      have m4 := getF_mono bs (getF bs (getF bs (getF bs s 1).2 1).2 5).2 6
      have a4 := getF_atL bs (getF bs (getF bs (getF bs s 1).2 1).2 5).2 6 a3
      split at h
      · cases h
      · have e := Option.some.inj h
        have m5 := getF_mono bs (getF bs (getF bs (getF bs (getF bs s 1).2 1).2 5).2 6).2 (((getF bs (getF bs (getF bs (getF bs s 1).2 1).2 5).2 6).1 + 1 : Nat) : Int)
        have a5 := getF_atL bs (getF bs (getF bs (getF bs (getF bs s 1).2 1).2 5).2 6).2 (((getF bs (getF bs (getF bs (getF bs s 1).2 1).2 5).2 6).1 + 1 : Nat) : Int) a4
        have e1 := congrArg Prod.fst e
        have e3 := congrArg (fun z => z.2.2) e
        simp only [] at e1 e3
        rw [e3] at m5 a5
        refine ⟨by rw [← e1]; exact Nat.mod_lt _ (by decide), by omega, a5⟩
    · split at h
      · cases h
      · have e := Option.some.inj h
        have m3 := getF_mono bs (getF bs (getF bs s 1).2 1).2 (lngX w : Int)
        have a3 := getF_atL bs (getF bs (getF bs s 1).2 1).2 (lngX w : Int) a2
        have e1 := congrArg Prod.fst e
        have e3 := congrArg (fun z => z.2.2) e
        simp only [] at e1 e3
        rw [e3] at m3 a3
        refine ⟨by rw [← e1]; exact Nat.mod_lt _ (by decide), by omega, a3⟩
  · have e := Option.some.inj h
    have e1 := congrArg Prod.fst e
    have e3 := congrArg (fun z => z.2.2) e
    simp only [] at e1 e3
    rw [e3] at m1 a1
    exact ⟨by rw [← e1]; decide, m1, a1⟩
theorem rdXF_ok (bs : List Nat) : ∀ (k was : Nat) (w : Win) (out : List Nat) (s : RdSt) (o : List Nat) (s' : RdSt), was < 18446744073709551616 → s.at' ≤ 8 * bs.length → (∀ x ∈ out, x < 18446744073709551616) → rdXF bs k was w out s = some (o, s') →
    o.length = out.length + k ∧ (∃ l, o = out ++ l) ∧ (∀ x ∈ o, x < 18446744073709551616) ∧ s.at' ≤ s'.at' ∧ s'.at' ≤ 8 * bs.length ∧ s'.bad = false
  | 0, was, w, out, s, o, s', hwas, ha, ho, h => by
    unfold rdXF at h
    split at h
    · cases h
    · rename_i hb
      have e := Option.some.inj h
      have e1 := congrArg Prod.fst e
      have e2 := congrArg Prod.snd e
      simp only [] at e1 e2
      subst e1 e2
      exact ⟨rfl, ⟨[], by simp⟩, ho, Nat.le_refl _, ha, by simpa using hb⟩
  | k + 1, was, w, out, s, o, s', hwas, ha, ho, h => by
    rw [rdXF] at h
    split at h
    · cases h
    · cases ht : rturnX bs w s with
      | none => rw [ht] at h; cases h
      | some r =>
        obtain ⟨x, w', s1⟩ := r
        rw [ht] at h
        simp only [] at h
        obtain ⟨hx, h1, h2⟩ := rturn_ok ht ha
        obtain ⟨c1, ⟨l, c0⟩, c2, c3, c4, c5⟩ := rdXF_ok bs k _ w' _ s1 o s' (xor_lt64 hwas hx) h2 (fun z hz => by
          rcases List.mem_append.1 hz with h | h
          · exact ho z h
          · simp at h; rw [h]; exact xor_lt64 hwas hx) h
        refine ⟨by rw [c1]; simp; omega, ⟨(was ^^^ x) :: l, by rw [c0]; simp⟩, c2, by omega, c4, c5⟩
theorem get64_lt (bs : List Nat) (s : RdSt) : (getF bs s 64).1 < 18446744073709551616 := by
  unfold getF
  split
  · show (0 : Nat) < _
    decide
  · exact getV_lt _ _ 64
/-- what the document reads is what the code reads -/
theorem refX_eq (bs : List Nat) (a : Nat) (n : Int) (ha : a ≤ 8 * bs.length) : refX bs ⟨a, false⟩ n = decX bs ⟨a, false⟩ n := by
  have fwd : ∀ r, decX bs ⟨a, false⟩ n = some r → refX bs ⟨a, false⟩ n = some r := by
    rintro ⟨o, s'⟩ h
    unfold decX at h
    unfold refX rdX
    cases hn : heldM n with
    | zero =>
      rw [hn] at h
      simp only [] at h ⊢
      rw [if_neg (by decide)] at h ⊢
      have e := Option.some.inj h
      have e1 := congrArg Prod.fst e
      have e2 := congrArg Prod.snd e
      simp only [] at e1 e2
      subst e1 e2
      simp [encX, bitsAt]
    | succ k =>
      rw [hn] at h
      simp only [] at h ⊢
      rw [if_neg (by decide)]
      obtain ⟨v, s1, e1⟩ : ∃ v s1, getF bs ⟨a, false⟩ 64 = (v, s1) := ⟨_, _, rfl⟩
      have hv := get64_lt bs ⟨a, false⟩
      rw [e1] at h hv ⊢
      simp only [] at h hv ⊢
      split at h
      · cases h
      · rename_i hb
        obtain ⟨_, k1, k2, k3⟩ := getF_ok e1 ha (by simpa using hb)
        rw [heldc64] at k1 k2 k3
        simp only [] at k1 k2 k3
        rw [k2] at h ⊢
        obtain ⟨l, c1, c2, c3, c4, c5, c6, c7⟩ := run_dec bs k v _ _ _ o s' winOK0 hv k3 h
        rw [c7]
        simp only []
        have eo : encX o = bitsOf v 64 ++ encG v ⟨false, 0, 0⟩ l := by rw [c1]; rfl
        have hlen : s'.at' - a = (encX o).length := by
          rw [c4, eo, List.length_append, bitsOf_len]
          show a + 64 + _ - a = _
          omega
        rw [if_pos]
        rw [hlen, eo]
        refine app_join ?_ ?_
        · rw [bitsOf_len, k1, bitsOf_getV]
        · rw [bitsOf_len]; exact c6
  have bwd : ∀ r, refX bs ⟨a, false⟩ n = some r → decX bs ⟨a, false⟩ n = some r := by
    rintro ⟨o, s'⟩ h
    unfold refX rdX at h
    unfold decX
    cases hn : heldM n with
    | zero =>
      rw [hn] at h
      simp only [] at h ⊢
      rw [if_neg (by decide)] at h ⊢
      simp only [] at h
      split at h
      · exact h
      · cases h
    | succ k =>
      rw [hn] at h
      simp only [] at h ⊢
      rw [if_neg (by decide)] at h
      obtain ⟨v, s1, e1⟩ : ∃ v s1, getF bs ⟨a, false⟩ 64 = (v, s1) := ⟨_, _, rfl⟩
      have hv := get64_lt bs ⟨a, false⟩
      have a1 := getF_atL bs ⟨a, false⟩ 64 ha
      have m1 := getF_mono bs ⟨a, false⟩ 64
      rw [e1] at h hv a1 m1 ⊢
      simp only [] at h hv a1 m1 ⊢
      cases hr : rdXF bs k v ⟨false, 0, 0⟩ [v] s1 with
      | none => rw [hr] at h; cases h
      | some r =>
        obtain ⟨o1, s2⟩ := r
        rw [hr] at h
        simp only [] at h
        split at h
        · rename_i hbits
          have e := Option.some.inj h
          have q1 := congrArg Prod.fst e
          have q2 := congrArg Prod.snd e
          simp only [] at q1 q2
          subst q1 q2
          obtain ⟨c1, ⟨l, c0⟩, c2, c3, c4, c5⟩ := rdXF_ok bs k v _ _ s1 o1 s2 hv a1 (by simpa using hv) hr
          have eo : encX o1 = bitsOf v 64 ++ encG v ⟨false, 0, 0⟩ l := by rw [c0]; rfl
          have hlen : (encX o1).length = s2.at' - a := by rw [hbits, bitsAt_len]
          rw [eo] at hlen hbits
          rw [← hlen] at hbits
          obtain ⟨b1, b2⟩ := app_split hbits
          rw [List.length_append, bitsOf_len] at hlen
          rw [bitsOf_len] at b2
          have g1 := getF_of (bs := bs) (a := a) (n := 64) (by rw [heldc64]; omega)
          rw [e1, heldc64] at g1
          have es := congrArg Prod.snd g1
          simp only [] at es
          rw [if_neg (by rw [es]; simp), es]
          have hlk : l.length = k := by rw [c0] at c1; simp at c1; omega
          have hd := dec_run bs l v ⟨false, 0, 0⟩ [v] (a + 64) winOK0 hv (fun x hx => c2 x (by rw [c0]; simp [hx])) b2 (by omega)
          rw [hlk] at hd
          rw [hd, c0]
          congr 2
          obtain ⟨sa, sb⟩ := s2
          simp only [] at c5 hlen
          subst c5
          congr 1
          omega
        · cases h
  cases hd : decX bs ⟨a, false⟩ n with
  | some r => exact fwd r hd
  | none =>
    cases hr : refX bs ⟨a, false⟩ n with
    | none => rfl
    | some r => rw [bwd r hr] at hd; cases hd
/-- what is told is read, whatever stands behind -/
theorem decX_encX {v ys : List Nat} {n : Int} (hn : v.length = heldM n) (hw : ∀ x ∈ v, x < 18446744073709551616) (hy : ∀ d ∈ ys, d < 2) :
    decX (pack (encX v ++ ys)) ⟨0, false⟩ n = some (v, ⟨(encX v).length, false⟩) := by
  have hb := bitsAt_pack (encX v) ys (bok_app (encX_bit v) hy)
  have hp := pack_len (encX v ++ ys)
  rw [List.length_append] at hp
  generalize pack (encX v ++ ys) = bs at *
  unfold decX
  cases v with
  | nil =>
    rw [← hn]
    rfl
  | cons x l =>
    rw [← hn]
    simp only [List.length_cons]
    have ex : encX (x :: l) = bitsOf x 64 ++ encG x ⟨false, 0, 0⟩ l := rfl
    rw [ex] at hb hp ⊢
    rw [List.length_append, bitsOf_len] at hp ⊢
    obtain ⟨b1, b2⟩ := app_split hb.symm
    rw [bitsOf_len, Nat.zero_add] at b2
    rw [bitsOf_len] at b1
    have hx := hw x (by simp)
    have g1 := getF_of (bs := bs) (a := 0) (n := 64) (by rw [heldc64]; omega)
    rw [heldc64, getV_of b1, Nat.mod_eq_of_lt (by exact hx), Nat.zero_add] at g1
    rw [g1]
    simp only []
    rw [if_neg (by decide), dec_run bs l x ⟨false, 0, 0⟩ [x] 64 winOK0 hx (fun z hz => hw z (by simp [hz])) b2 (by omega)]
    rfl
theorem decX_at {bs : List Nat} {a : Nat} {n : Int} {o : List Nat} {s' : RdSt} (ha : a ≤ 8 * bs.length) (h : decX bs ⟨a, false⟩ n = some (o, s')) : s'.at' ≤ 8 * bs.length ∧ o.length = heldM n ∧ ∀ x ∈ o, x < 18446744073709551616 := by
  unfold decX at h
  cases hn : heldM n with
  | zero =>
    rw [hn] at h
    simp only [] at h
    rw [if_neg (by decide)] at h
    have e := Option.some.inj h
    have e1 := congrArg Prod.fst e
    have e2 := congrArg Prod.snd e
    simp only [] at e1 e2
    subst e1 e2
    exact ⟨ha, rfl, by simp⟩
  | succ k =>
    rw [hn] at h
    simp only [] at h
    obtain ⟨v, s1, e1⟩ : ∃ v s1, getF bs ⟨a, false⟩ 64 = (v, s1) := ⟨_, _, rfl⟩
    have hv := get64_lt bs ⟨a, false⟩
    rw [e1] at h hv
    simp only [] at h hv
    split at h
    · cases h
    · rename_i hb
      obtain ⟨_, k1, k2, k3⟩ := getF_ok e1 ha (by simpa using hb)
      rw [heldc64] at k1 k2 k3
      simp only [] at k1 k2 k3
      rw [k2] at h
      obtain ⟨l, c1, c2, c3, c4, c5, c6, c7⟩ := run_dec bs k v _ _ _ o s' winOK0 hv k3 h
      refine ⟨by rw [c4]; exact c5, by rw [c1]; simp [c2], fun x hx => ?_⟩
      rw [c1] at hx
      rcases List.mem_append.1 hx with h | h
      · simp at h; rw [h]; exact hv
      · exact c3 x h
/-- one value more -/
theorem encG_snoc : ∀ (l : List Nat) (last : Nat) (w : Win) (y : Nat), WinOK w → last < 18446744073709551616 → (∀ x ∈ l, x < 18446744073709551616) →
    ∃ w', WinOK w' ∧ encG last w (l ++ [y]) = encG last w l ++ (stepX w' (y ^^^ l.getLastD last)).1
  | [], last, w, y, hw, _, _ => ⟨w, hw, by simp [encG]⟩
  | z :: l, last, w, y, hw, hl, hx => by
    have hz := hx z (by simp)
    obtain ⟨w', hw', e⟩ := encG_snoc l z _ y (stepX_ok hw (xor_lt64 hz hl)) hz (fun x h => hx x (by simp [h]))
    refine ⟨w', hw', ?_⟩
    rw [List.cons_append, encG, e, encG, List.append_assoc, List.getLastD_cons]
theorem encX_one (x : Nat) : encX [x] = bitsOf x 64 := by simp [encX, encG]
theorem encX_snoc {v : List Nat} {i x y : Nat} (hw : ∀ x ∈ v, x < 18446744073709551616) (hx : v[i]? = some x) (hy : v[i + 1]? = some y) :
    (x = y → (encX (v.take (i + 2))).length = (encX (v.take (i + 1))).length + 1) ∧ (x ≠ y → (encX (v.take (i + 1))).length + 3 ≤ (encX (v.take (i + 2))).length) ∧ (encX (v.take (i + 2))).length ≤ (encX (v.take (i + 1))).length + 77 := by
  cases v with
  | nil => cases hx
  | cons z l =>
    have e1 : (z :: l).take (i + 2) = z :: (l.take i ++ [y]) := by
      rw [List.take_succ_cons, List.take_add_one]
      have : l[i]? = some y := by simpa using hy
      rw [this]; rfl
    have e2 : (z :: l).take (i + 1) = z :: l.take i := by rw [List.take_succ_cons]
    obtain ⟨w', hw', e⟩ := encG_snoc (l.take i) z ⟨false, 0, 0⟩ y winOK0 (hw z (by simp)) (fun q hq => hw q (by simp [List.mem_of_mem_take hq]))
    have hlast : (l.take i).getLastD z = x := by
      cases i with
      | zero => simpa using hx
      | succ i =>
        have hx' : l[i]? = some x := by simpa using hx
        rw [List.take_add_one, hx']
        simp
    rw [hlast] at e
    have hs := stepX_len (w := w') (x := y ^^^ x) hw' (xor_lt64 (hw y (List.mem_of_getElem? hy)) (hw x (List.mem_of_getElem? hx)))
    rw [e1, e2]
    simp only [encX, e, List.length_append]
    refine ⟨fun h => ?_, fun h => ?_, by omega⟩
    · have := hs.1 (by rw [h]; exact Nat.xor_self y)
      omega
    · have := hs.2.1 (fun h0 => h (by
        have := xor_back y x
        rw [h0, Nat.xor_zero] at this
        exact this))
      omega
theorem encG_same (m : Nat) : ∀ k : Nat, (encG m ⟨false, 0, 0⟩ (List.replicate k m)).length = k
  | 0 => rfl
  | k + 1 => by
    have e : stepX ⟨false, 0, 0⟩ (m ^^^ m) = ([0], ⟨false, 0, 0⟩) := by rw [Nat.xor_self]; unfold stepX; rw [if_pos rfl]; rfl
    rw [List.replicate_succ, encG, e, List.length_append, encG_same m k]
    simp; omega
theorem encX_same (m k : Nat) : (encX (List.replicate (k + 1) m)).length = 64 + k := by
  rw [List.replicate_succ, encX, List.length_append, bitsOf_len, encG_same]
end Go.Proofs.YtjibmfkhhljhcaaDoor
