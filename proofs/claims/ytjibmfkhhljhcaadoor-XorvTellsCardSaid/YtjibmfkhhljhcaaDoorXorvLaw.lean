/- Values by what turns: the bits of values, and the values of bits. In plain Lean. -/
import Derived.Test.YtjibmfkhhljhcaaDoorTimeLaw
import Derived.Test.YtjibmfkhhljhcaaDoorRunlLaw
import Derived.Test.YtjibmfkhhljhcaaDoorIxT
import Derived.Lib.TrailingZeros
set_option linter.unusedSimpArgs false
set_option linter.unusedVariables false
namespace Go.Proofs.YtjibmfkhhljhcaaDoor
open Go
/-- bits as they stand -/
def bitsAt (bs : List Nat) (a k : Nat) : List Nat := (List.range k).map (fun j => bitAt bs (a + j))
theorem bitsAt_len (bs : List Nat) (a k : Nat) : (bitsAt bs a k).length = k := by simp [bitsAt]
theorem bitsAt_add (bs : List Nat) (a k m : Nat) : bitsAt bs a (k + m) = bitsAt bs a k ++ bitsAt bs (a + k) m := by
  unfold bitsAt
  rw [List.range_add, List.map_append, List.map_map]
  congr 1
  refine List.map_congr_left (fun j _ => ?_)
  simp [Nat.add_assoc]
theorem bitsOf_getV (bs : List Nat) (a : Nat) : ∀ k, bitsOf (getV bs a k) k = bitsAt bs a k
  | 0 => rfl
  | k + 1 => by
    have hb := bitAt_lt bs (a + k)
    rw [bitsAt_add, bitsOf_split _ k 1, getV]
    have e1 : (2 * getV bs a k + bitAt bs (a + k)) / 2 ^ 1 = getV bs a k := by omega
    have e2 : bitsOf (2 * getV bs a k + bitAt bs (a + k)) 1 = bitsAt bs (a + k) 1 := by
      simp [bitsOf, bitsAt]; omega
    rw [e1, bitsOf_getV bs a k, e2]
theorem getV_of {bs : List Nat} {a k y : Nat} (h : bitsOf y k = bitsAt bs a k) : getV bs a k = y % 2 ^ k := by
  rw [← bitsOf_getV] at h
  have := congrArg (fun l => valOf l 0) h
  simp only [valOf_bits, Nat.zero_mul, Nat.zero_add] at this
  rw [Nat.mod_eq_of_lt (getV_lt bs a k)] at this
  exact this.symm
theorem bitsAt_pack (xs ys : List Nat) (h : ∀ d ∈ xs ++ ys, d < 2) : bitsAt (pack (xs ++ ys)) 0 xs.length = xs := by
  apply List.ext_getElem?
  intro i
  unfold bitsAt
  rw [List.getElem?_map]
  by_cases hi : i < xs.length
  · rw [List.getElem?_range hi]
    simp only [Option.map_some]
    rw [bitAt_pack _ h]
    simp [List.getD, List.getElem?_append_left hi, List.getElem?_eq_getElem hi]
  · rw [List.getElem?_eq_none (by simp; omega), List.getElem?_eq_none (by omega)]; rfl
theorem getF_ok {bs : List Nat} {s : RdSt} {n : Int} {v : Nat} {s' : RdSt} (e : getF bs s n = (v, s')) (hs : s.at' ≤ 8 * bs.length) (h : s'.bad = false) :
    s.bad = false ∧ v = getV bs s.at' (heldF n) ∧ s' = ⟨s.at' + heldF n, false⟩ ∧ s.at' + heldF n ≤ 8 * bs.length := by
  unfold getF at e
  split at e
  · have := congrArg Prod.snd e
    simp only [] at this
    rw [← this] at h
    cases h
  · rename_i hc
    simp only [not_or, Bool.not_eq_true, leftF] at hc
    obtain ⟨hb, hc⟩ := hc
    rw [if_neg (by simp [hb])] at hc
    have e1 := congrArg Prod.fst e
    have e2 := congrArg Prod.snd e
    simp only [] at e1 e2
    exact ⟨hb, e1.symm, e2.symm, by omega⟩
theorem getF_of {bs : List Nat} {a : Nat} {n : Int} (h : a + heldF n ≤ 8 * bs.length) : getF bs ⟨a, false⟩ n = (getV bs a (heldF n), ⟨a + heldF n, false⟩) := by
  unfold getF leftF
  rw [if_neg (by simp; omega)]
theorem getF_atL (bs : List Nat) (s : RdSt) (n : Int) (h : s.at' ≤ 8 * bs.length) : (getF bs s n).2.at' ≤ 8 * bs.length := by
  unfold getF
  split
  · exact h
  · rename_i h'
    simp only [not_or, Bool.not_eq_true, leftF] at h'
    rw [h'.1] at h'
    simp at h' ⊢
    omega
/-- which bits are told -/
structure Win where
  is : Bool
  a : Nat
  b : Nat
def ldX (x : Nat) : Nat := min (64 - lenB 64 x) 31
def tzX (x : Nat) : Nat := Lib.ctz 64 x
def ofX (x : Nat) : Win := ⟨true, ldX x, tzX x⟩
def fitsX (w : Win) (x : Nat) : Bool := w.is && (decide (w.a ≤ ldX x) && decide (w.b ≤ tzX x))
def lngX (w : Win) : Nat := 64 - w.a - w.b
def WinOK (w : Win) : Prop := w.a ≤ 31 ∧ w.a + w.b ≤ 64
theorem winOK0 : WinOK ⟨false, 0, 0⟩ := ⟨by decide, by decide⟩
theorem ldX_le (x : Nat) : ldX x ≤ 31 := by unfold ldX; omega
theorem ldX_lt {x a : Nat} (hx : x < 18446744073709551616) (h : a ≤ ldX x) : x < 2 ^ (64 - a) := by
  have hb := lenB_up x 64
  refine (lenB_le 64 x (64 - a) hx).1 ?_
  unfold ldX at h
  omega
theorem le_ldX {x a : Nat} (hx : x < 18446744073709551616) (ha : a ≤ 31) (h : x < 2 ^ (64 - a)) : a ≤ ldX x := by
  have := (lenB_le 64 x (64 - a) hx).2 h
  unfold ldX
  omega
theorem tzX_spec {x : Nat} (h0 : x ≠ 0) (hx : x < 18446744073709551616) : ∃ m, x = 2 ^ tzX x * (2 * m + 1) ∧ tzX x < 64 := by
  unfold tzX Lib.ctz
  rw [if_neg h0]
  exact Lib.ctzFrom_spec 64 x (by omega) hx
theorem tzX_div {x b : Nat} (h0 : x ≠ 0) (hx : x < 18446744073709551616) (hb : b ≤ tzX x) : x / 2 ^ b * 2 ^ b = x := by
  obtain ⟨m, hm, _⟩ := tzX_spec h0 hx
  refine Nat.div_mul_cancel ?_
  have : 2 ^ b ∣ 2 ^ tzX x := Nat.pow_dvd_pow 2 hb
  have h2 : 2 ^ tzX x ∣ x := ⟨_, hm⟩
  exact Nat.dvd_trans this h2
theorem le_tzX {y b : Nat} (h0 : y * 2 ^ b ≠ 0) (hx : y * 2 ^ b < 18446744073709551616) : b ≤ tzX (y * 2 ^ b) := by
  obtain ⟨m, hm, _⟩ := tzX_spec h0 hx
  rcases Nat.lt_or_ge (tzX (y * 2 ^ b)) b with h | h
  · exfalso
    obtain ⟨d, hd⟩ : ∃ d, b = tzX (y * 2 ^ b) + (d + 1) := ⟨b - tzX (y * 2 ^ b) - 1, by omega⟩
    have hp : 0 < 2 ^ tzX (y * 2 ^ b) := Nat.pow_pos (by decide)
    have e1 : y * 2 ^ b = 2 ^ tzX (y * 2 ^ b) * (2 * (y * 2 ^ d)) := by
      conv => lhs; rw [hd, Nat.pow_add, Nat.pow_succ]
      simp only [Nat.mul_comm, Nat.mul_left_comm, Nat.mul_assoc]
    have := Nat.eq_of_mul_eq_mul_left hp (e1.symm.trans hm)
    omega
  · exact h
theorem ld_tz {x : Nat} (h0 : x ≠ 0) (hx : x < 18446744073709551616) : ldX x + tzX x ≤ 63 := by
  obtain ⟨m, hm, hk⟩ := tzX_spec h0 hx
  have h1 := ldX_lt hx (Nat.le_refl _)
  have h2 : 2 ^ tzX x ≤ x := by
    conv => rhs; rw [hm]
    exact Nat.le_mul_of_pos_right _ (by omega)
  have h3 : 2 ^ tzX x < 2 ^ (64 - ldX x) := Nat.lt_of_le_of_lt h2 h1
  have := (Nat.pow_lt_pow_iff_right (a := 2) (by decide)).1 h3
  have := ldX_le x
  omega
theorem ofX_ok {x : Nat} (h0 : x ≠ 0) (hx : x < 18446744073709551616) : WinOK (ofX x) := by
  have := ld_tz h0 hx
  exact ⟨ldX_le x, by show ldX x + tzX x ≤ 64; omega⟩
/-- the bits of what turns, and the window behind them -/
def stepX (w : Win) (x : Nat) : List Nat × Win :=
  if x = 0 then (bitsOf 0 1, w)
  else if fitsX w x = true then (bitsOf 2 2 ++ bitsOf (x / 2 ^ w.b) (lngX w), w)
  else (bitsOf 3 2 ++ bitsOf (ldX x) 5 ++ bitsOf (lngX (ofX x) - 1) 6 ++ bitsOf (x / 2 ^ tzX x) (lngX (ofX x)), ofX x)
theorem stepX_ok {w : Win} {x : Nat} (hw : WinOK w) (hx : x < 18446744073709551616) : WinOK (stepX w x).2 := by
  unfold stepX
  split
  · exact hw
  · rename_i h0
    split
    · exact hw
    · exact ofX_ok h0 hx
theorem stepX_bit (w : Win) (x : Nat) : ∀ d ∈ (stepX w x).1, d < 2 := by
  unfold stepX
  split
  · exact bitsOf_bit _ _
  · split
    · exact bok_app (bitsOf_bit _ _) (bitsOf_bit _ _)
    · exact bok_app (bok_app (bok_app (bitsOf_bit _ _) (bitsOf_bit _ _)) (bitsOf_bit _ _)) (bitsOf_bit _ _)
theorem fitsX_of {w : Win} {x : Nat} (h : fitsX w x = true) : w.is = true ∧ w.a ≤ ldX x ∧ w.b ≤ tzX x := by
  unfold fitsX at h
  simpa using h
theorem stepX_len {w : Win} {x : Nat} (hw : WinOK w) (hx : x < 18446744073709551616) : (x = 0 → (stepX w x).1.length = 1) ∧ (x ≠ 0 → 3 ≤ (stepX w x).1.length) ∧ (stepX w x).1.length ≤ 77 := by
  by_cases h0 : x = 0
  · have e : (stepX w x).1.length = 1 := by unfold stepX; rw [if_pos h0]; rfl
    exact ⟨fun _ => e, fun h => absurd h0 h, by omega⟩
  · have hlt := ld_tz h0 hx
    by_cases hf : fitsX w x = true
    · obtain ⟨_, h1, h2⟩ := fitsX_of hf
      have e : (stepX w x).1.length = 2 + lngX w := by unfold stepX; rw [if_neg h0, if_pos hf]; simp [bitsOf_len]
      have : lngX w = 64 - w.a - w.b := rfl
      exact ⟨fun h => absurd h h0, fun _ => by omega, by omega⟩
    · have e : (stepX w x).1.length = 13 + lngX (ofX x) := by unfold stepX; rw [if_neg h0, if_neg hf]; simp [bitsOf_len]; omega
      have : lngX (ofX x) = 64 - ldX x - tzX x := rfl
      exact ⟨fun h => absurd h h0, fun _ => by omega, by omega⟩
def encG : Nat → Win → List Nat → List Nat
  | _, _, [] => []
  | last, w, y :: l => (stepX w (y ^^^ last)).1 ++ encG y (stepX w (y ^^^ last)).2 l
def encX : List Nat → List Nat
  | [] => []
  | y :: l => bitsOf y 64 ++ encG y ⟨false, 0, 0⟩ l
theorem xor_lt64 {x y : Nat} (hx : x < 18446744073709551616) (hy : y < 18446744073709551616) : x ^^^ y < 18446744073709551616 := Nat.xor_lt_two_pow (n := 64) hx hy
theorem encG_bit : ∀ (l : List Nat) (last : Nat) (w : Win), ∀ d ∈ encG last w l, d < 2
  | [], _, _ => by simp [encG]
  | y :: l, last, w => bok_app (stepX_bit _ _) (encG_bit l _ _)
theorem encX_bit : ∀ l : List Nat, ∀ d ∈ encX l, d < 2
  | [] => by simp [encX]
  | y :: l => bok_app (bitsOf_bit _ _) (encG_bit l _ _)
theorem encG_len : ∀ (l : List Nat) (last : Nat) (w : Win), WinOK w → last < 18446744073709551616 → (∀ x ∈ l, x < 18446744073709551616) → (encG last w l).length ≤ 77 * l.length
  | [], _, _, _, _, _ => by simp [encG]
  | y :: l, last, w, hw, hl, hx => by
    have hy := hx y (by simp)
    have h1 := stepX_len hw (xor_lt64 hy hl)
    have h2 := encG_len l y _ (stepX_ok hw (xor_lt64 hy hl)) hy (fun x h => hx x (by simp [h]))
    simp only [encG, List.length_append, List.length_cons]; omega
theorem encX_len : ∀ l : List Nat, (∀ x ∈ l, x < 18446744073709551616) → (encX l).length ≤ 77 * l.length
  | [], _ => by simp [encX]
  | y :: l, hx => by
    have h2 := encG_len l y _ winOK0 (hx y (by simp)) (fun x h => hx x (by simp [h]))
    simp only [encX, List.length_append, bitsOf_len, List.length_cons]; omega
/- reading -/
def turnX (bs : List Nat) (w : Win) (s : RdSt) : Nat × Bool × Win × RdSt :=
  if (getF bs s 1).1 = 0 then (0, true, w, (getF bs s 1).2)
  else if (getF bs (getF bs s 1).2 1).1 = 0 then
    ((getF bs (getF bs (getF bs s 1).2 1).2 (lngX w : Int)).1 * 2 ^ w.b % 18446744073709551616,
      w.is && decide ((getF bs (getF bs (getF bs s 1).2 1).2 (lngX w : Int)).1 * 2 ^ w.b % 18446744073709551616 ≠ 0), w, (getF bs (getF bs (getF bs s 1).2 1).2 (lngX w : Int)).2)
  else
    let s2 := (getF bs (getF bs s 1).2 1).2
    let a := (getF bs s2 5).1
    let s3 := (getF bs s2 5).2
    let m := (getF bs s3 6).1 + 1
    let s4 := (getF bs s3 6).2
    if 64 < a + m then (0, false, w, s4)
    else
      let x := (getF bs s4 (m : Int)).1 * 2 ^ (64 - a - m) % 18446744073709551616
      let s5 := (getF bs s4 (m : Int)).2
      if x = 0 ∨ ¬ (ldX x = a ∧ tzX x = 64 - a - m) ∨ fitsX w x = true then (0, false, w, s5) else (x, true, ⟨true, a, 64 - a - m⟩, s5)
def rturnX (bs : List Nat) (w : Win) (s : RdSt) : Option (Nat × Win × RdSt) :=
  if (getF bs s 1).1 = 1 then
    if (getF bs (getF bs s 1).2 1).1 = 1 then
      let s2 := (getF bs (getF bs s 1).2 1).2
      let a := (getF bs s2 5).1
      let s3 := (getF bs s2 5).2
      let m := (getF bs s3 6).1 + 1
      let s4 := (getF bs s3 6).2
      if 64 < a + m then none else some ((getF bs s4 (m : Int)).1 * 2 ^ (64 - a - m) % 18446744073709551616, ⟨true, a, 64 - a - m⟩, (getF bs s4 (m : Int)).2)
    else if w.is = false then none
    else some ((getF bs (getF bs (getF bs s 1).2 1).2 (lngX w : Int)).1 * 2 ^ w.b % 18446744073709551616, w, (getF bs (getF bs (getF bs s 1).2 1).2 (lngX w : Int)).2)
  else some (0, w, (getF bs s 1).2)
def decXF (bs : List Nat) : Nat → Nat → Win → List Nat → RdSt → Option (List Nat × RdSt)
  | 0, _, _, out, s => some (out, s)
  | k + 1, was, w, out, s =>
    if (turnX bs w s).2.1 = false ∨ (turnX bs w s).2.2.2.bad = true then none
    else decXF bs k (was ^^^ (turnX bs w s).1) (turnX bs w s).2.2.1 (out ++ [was ^^^ (turnX bs w s).1]) (turnX bs w s).2.2.2
def decX (bs : List Nat) (s : RdSt) (n : Int) : Option (List Nat × RdSt) :=
  match heldM n with
  | 0 => if s.bad = true then none else some ([], s)
  | k + 1 => if (getF bs s 64).2.bad = true then none else decXF bs k (getF bs s 64).1 ⟨false, 0, 0⟩ [(getF bs s 64).1] (getF bs s 64).2
def rdXF (bs : List Nat) : Nat → Nat → Win → List Nat → RdSt → Option (List Nat × RdSt)
  | 0, _, _, out, s => if s.bad = true then none else some (out, s)
  | k + 1, was, w, out, s =>
    if s.bad = true then none
    else match rturnX bs w s with
      | none => none
      | some (x, w', s') => rdXF bs k (was ^^^ x) w' (out ++ [was ^^^ x]) s'
def rdX (bs : List Nat) (s : RdSt) (n : Int) : Option (List Nat × RdSt) :=
  match heldM n with
  | 0 => if s.bad = true then none else some ([], s)
  | k + 1 => if s.bad = true then none else rdXF bs k (getF bs s 64).1 ⟨false, 0, 0⟩ [(getF bs s 64).1] (getF bs s 64).2
def refX (bs : List Nat) (s : RdSt) (n : Int) : Option (List Nat × RdSt) :=
  match rdX bs s n with
  | none => none
  | some r => if encX r.1 = bitsAt bs s.at' (r.2.at' - s.at') then some r else none
theorem mod64 {y a b : Nat} (h : a + b ≤ 64) (hy : y < 2 ^ (64 - a - b)) : y * 2 ^ b < 2 ^ (64 - a) ∧ y * 2 ^ b % 18446744073709551616 = y * 2 ^ b := by
  have e : 64 - a = (64 - a - b) + b := by omega
  have h1 : y * 2 ^ b < 2 ^ (64 - a) := by
    rw [e, Nat.pow_add]
    exact Nat.mul_lt_mul_of_pos_right hy (Nat.pow_pos (by decide))
  have h2 : 2 ^ (64 - a) ≤ 2 ^ 64 := Nat.pow_le_pow_right (by decide) (by omega)
  exact ⟨h1, Nat.mod_eq_of_lt (Nat.lt_of_lt_of_le h1 h2)⟩
end Go.Proofs.YtjibmfkhhljhcaaDoor
