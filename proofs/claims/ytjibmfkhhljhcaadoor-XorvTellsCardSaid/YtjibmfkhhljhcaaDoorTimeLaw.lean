/- Times by their differences: their bits, and the times of bits. In plain Lean. -/
import Derived.Test.YtjibmfkhhljhcaaDoorBitsLaw
import Derived.Test.YtjibmfkhhljhcaaDoorNum
set_option linter.unusedSimpArgs false
set_option linter.unusedVariables false
namespace Go.Proofs.YtjibmfkhhljhcaaDoor
open Go
theorem u64_mod (n : Int) : IntKind.u64.wrap n = n % 18446744073709551616 := by
  simp [IntKind.wrap, IntKind.bits, IntKind.signed]
theorem i64_of_u64 (u : Int) (h0 : 0 ≤ u) (h : u < 18446744073709551616) : IntKind.i64.wrap u = if u < 9223372036854775808 then u else u - 18446744073709551616 := by
  simp [IntKind.wrap, IntKind.bits, IntKind.signed]; split <;> split <;> omega
theorem u64_i64 (n : Int) : IntKind.u64.wrap (IntKind.i64.wrap n) = IntKind.u64.wrap n := by
  rw [u64_mod, u64_mod]
  simp [IntKind.wrap, IntKind.bits, IntKind.signed]; split <;> omega
theorem i64_u64 (n : Int) (h : -9223372036854775808 ≤ n ∧ n ≤ 9223372036854775807) : IntKind.i64.wrap (IntKind.u64.wrap n) = n := by
  rw [u64_mod]
  simp [IntKind.wrap, IntKind.bits, IntKind.signed]; split <;> omega
theorem i64_bnd (n : Int) : -9223372036854775808 ≤ IntKind.i64.wrap n ∧ IntKind.i64.wrap n ≤ 9223372036854775807 := by
  simp [IntKind.wrap, IntKind.bits, IntKind.signed]; split <;> omega
theorem u64_bnd (n : Int) : 0 ≤ IntKind.u64.wrap n ∧ IntKind.u64.wrap n < 18446744073709551616 := by rw [u64_mod]; omega
theorem u64_u64 (a : Int) : IntKind.u64.wrap (IntKind.u64.wrap a) = IntKind.u64.wrap a := by simp only [u64_mod]; omega
theorem u64_u64l (a b : Int) : IntKind.u64.wrap (IntKind.u64.wrap a + b) = IntKind.u64.wrap (a + b) := by simp only [u64_mod]; omega
theorem u64_u64r (a b : Int) : IntKind.u64.wrap (a + IntKind.u64.wrap b) = IntKind.u64.wrap (a + b) := by simp only [u64_mod]; omega
/-- which form a difference has: what stands ahead, in how many bits, and how many bits it has -/
def whichF (d : Int) : Nat × Nat × Nat :=
  if d = 0 then (0, 1, 0) else if -64 ≤ d ∧ d ≤ 63 then (2, 2, 7) else if -256 ≤ d ∧ d ≤ 255 then (6, 3, 9) else if -2048 ≤ d ∧ d ≤ 2047 then (14, 4, 12) else (15, 4, 64)
theorem whichF_bnd (d : Int) : (whichF d).1 ≤ 15 ∧ (whichF d).2.1 ≤ 4 ∧ (whichF d).2.2 ≤ 64 := by
  unfold whichF
  repeat' split
  all_goals decide
def dBits (d : Int) : List Nat := bitsOf (whichF (IntKind.i64.wrap d)).1 (whichF (IntKind.i64.wrap d)).2.1 ++ bitsOf d.toNat (whichF (IntKind.i64.wrap d)).2.2
def encT : Int → Int → List Int → List Nat
  | _, _, [] => []
  | was, step, x :: l => dBits (IntKind.u64.wrap (IntKind.u64.wrap (IntKind.u64.wrap x - was) - step)) ++ encT (IntKind.u64.wrap x) (IntKind.u64.wrap (IntKind.u64.wrap x - was)) l
def encTs : List Int → List Nat
  | [] => []
  | x :: l => bitsOf (IntKind.u64.wrap x).toNat 64 ++ encT (IntKind.u64.wrap x) 0 l
theorem dBits_bit (d : Int) : ∀ b ∈ dBits d, b < 2 := bok_app (bitsOf_bit _ _) (bitsOf_bit _ _)
theorem dBits_len (d : Int) : (dBits d).length ≤ 68 := by
  simp only [dBits, List.length_append, bitsOf_len, whichF]
  repeat' split
  all_goals simp
theorem encT_bit : ∀ (l : List Int) (was step : Int), ∀ b ∈ encT was step l, b < 2
  | [], _, _ => by simp [encT]
  | x :: l, was, step => bok_app (dBits_bit _) (encT_bit l _ _)
theorem encT_len : ∀ (l : List Int) (was step : Int), (encT was step l).length ≤ 68 * l.length
  | [], _, _ => by simp [encT]
  | x :: l, was, step => by
    have h1 := dBits_len (IntKind.u64.wrap (IntKind.u64.wrap (IntKind.u64.wrap x - was) - step))
    have h2 := encT_len l (IntKind.u64.wrap x) (IntKind.u64.wrap (IntKind.u64.wrap x - was))
    simp only [encT, List.length_append, List.length_cons]; omega
theorem encTs_bit : ∀ l : List Int, ∀ b ∈ encTs l, b < 2
  | [] => by simp [encTs]
  | x :: l => bok_app (bitsOf_bit _ _) (encT_bit l _ _)
theorem encTs_len : ∀ l : List Int, (encTs l).length ≤ 64 + 68 * l.length
  | [] => by simp [encTs]
  | x :: l => by
    have h2 := encT_len l (IntKind.u64.wrap x) 0
    simp only [encTs, List.length_append, bitsOf_len, List.length_cons]; omega
/- reading -/
/-- how many 1s stand ahead, four at most -/
def onesF (bs : List Nat) : Nat → Nat → RdSt → Nat × RdSt
  | 0, n, s => (n, s)
  | k + 1, n, s => if (getF bs s 1).1 = 1 then onesF bs k (n + 1) (getF bs s 1).2 else (n, (getF bs s 1).2)
def sizeT : Nat → Nat
  | 0 => 0
  | 1 => 7
  | 2 => 9
  | 3 => 12
  | _ => 64
/-- a number with a sign of 'n' bits -/
def sext (n u : Nat) : Int := if n = 0 then 0 else if u < 2 ^ (n - 1) then (u : Int) else (u : Int) - 2 ^ n
def nextF (bs : List Nat) (s : RdSt) : Int × Bool × RdSt :=
  (sext (sizeT (onesF bs 4 0 s).1) (getF bs (onesF bs 4 0 s).2 (sizeT (onesF bs 4 0 s).1 : Int)).1,
    decide ((whichF (sext (sizeT (onesF bs 4 0 s).1) (getF bs (onesF bs 4 0 s).2 (sizeT (onesF bs 4 0 s).1 : Int)).1)).2.2 = sizeT (onesF bs 4 0 s).1),
    (getF bs (onesF bs 4 0 s).2 (sizeT (onesF bs 4 0 s).1 : Int)).2)
/-- the times that follow -/
def decT (bs : List Nat) : Nat → Int → Int → List Int → RdSt → Option (List Int × RdSt)
  | 0, _, _, out, s => some (out, s)
  | k + 1, was, step, out, s =>
    if (nextF bs s).2.1 = false ∨ (nextF bs s).2.2.bad = true then none
    else decT bs k (IntKind.u64.wrap (was + IntKind.u64.wrap (step + IntKind.u64.wrap (nextF bs s).1))) (IntKind.u64.wrap (step + IntKind.u64.wrap (nextF bs s).1))
      (out ++ [IntKind.i64.wrap (IntKind.u64.wrap (was + IntKind.u64.wrap (step + IntKind.u64.wrap (nextF bs s).1)))]) (nextF bs s).2.2
def heldT (n : Int) : Nat := (min (max n 0) 65535).toNat
def decTs (bs : List Nat) (s : RdSt) (n : Int) : Option (List Int × RdSt) :=
  match heldT n with
  | 0 => if s.bad = true then none else some ([], s)
  | k + 1 => if (getF bs s 64).2.bad = true then none else decT bs k ((getF bs s 64).1 : Int) 0 [IntKind.i64.wrap ((getF bs s 64).1 : Int)] (getF bs s 64).2
/-- what was put is got -/
theorem getF_put (xs zs : List Nat) (v : Nat) (k : Int) (hx : ∀ d ∈ xs, d < 2) (hz : ∀ d ∈ zs, d < 2) :
    getF (pack (xs ++ (bitsOf v (heldF k) ++ zs))) ⟨xs.length, false⟩ k = (v % 2 ^ heldF k, ⟨xs.length + heldF k, false⟩) := by
  have hl := pack_len (xs ++ (bitsOf v (heldF k) ++ zs))
  simp only [List.length_append, bitsOf_len] at hl
  unfold getF leftF
  rw [if_neg (by simp; omega)]
  rw [← List.append_assoc]
  congr 1
  exact getV_bits xs zs v (heldF k) hx hz
theorem held1 : heldF 1 = 1 := rfl
theorem get_one (xs zs : List Nat) (d : Nat) (hx : ∀ d ∈ xs, d < 2) (hd : d < 2) (hz : ∀ d ∈ zs, d < 2) : getF (pack (xs ++ d :: zs)) ⟨xs.length, false⟩ 1 = (d, ⟨xs.length + 1, false⟩) := by
  have := getF_put xs zs d 1 hx hz
  rw [held1] at this
  have e : bitsOf d 1 = [d] := by simp [bitsOf]; omega
  rw [e, Nat.pow_one, Nat.mod_eq_of_lt hd] at this
  simpa using this
theorem ones_stop (zs : List Nat) (hz : ∀ d ∈ zs, d < 2) : ∀ (m k n : Nat) (xs : List Nat), (∀ d ∈ xs, d < 2) → m < k →
    onesF (pack (xs ++ (List.replicate m 1 ++ 0 :: zs))) k n ⟨xs.length, false⟩ = (n + m, ⟨xs.length + m + 1, false⟩)
  | 0, 0, _, _, _, h => by omega
  | 0, k + 1, n, xs, hx, _ => by
    have g := get_one xs zs 0 hx (by decide) hz
    simp only [List.replicate_zero, List.nil_append, onesF, g]
    simp
  | m + 1, 0, _, _, _, h => by omega
  | m + 1, k + 1, n, xs, hx, h => by
    have hz' : ∀ d ∈ List.replicate m 1 ++ 0 :: zs, d < 2 := by
      intro d hd
      rcases List.mem_append.1 hd with h | h
      · rw [List.eq_of_mem_replicate h]; decide
      · rcases List.mem_cons.1 h with rfl | h
        · decide
        · exact hz d h
    have g := get_one xs (List.replicate m 1 ++ 0 :: zs) 1 hx (by decide) hz'
    have ih := ones_stop zs hz m k (n + 1) (xs ++ [1]) (bok_app hx (by simp)) (by omega)
    have e : xs ++ (List.replicate (m + 1) 1 ++ 0 :: zs) = xs ++ 1 :: (List.replicate m 1 ++ 0 :: zs) := by rw [List.replicate_succ, List.cons_append]
    have e2 : xs ++ 1 :: (List.replicate m 1 ++ 0 :: zs) = xs ++ [1] ++ (List.replicate m 1 ++ 0 :: zs) := by simp
    rw [e, onesF, g]
    simp only [if_true]
    rw [e2, show (⟨xs.length + 1, false⟩ : RdSt) = ⟨(xs ++ [1]).length, false⟩ by simp, ih]
    simp only [List.length_append, List.length_cons, List.length_nil]
    refine Prod.ext (by show n + 1 + m = n + (m + 1); omega) ?_
    show (⟨_, _⟩ : RdSt) = ⟨_, _⟩
    congr 1
    omega
theorem ones_all (zs : List Nat) (hz : ∀ d ∈ zs, d < 2) : ∀ (k n : Nat) (xs : List Nat), (∀ d ∈ xs, d < 2) →
    onesF (pack (xs ++ (List.replicate k 1 ++ zs))) k n ⟨xs.length, false⟩ = (n + k, ⟨xs.length + k, false⟩)
  | 0, n, xs, hx => by simp [onesF]
  | k + 1, n, xs, hx => by
    have hz' : ∀ d ∈ List.replicate k 1 ++ zs, d < 2 := by
      intro d hd
      rcases List.mem_append.1 hd with h | h
      · rw [List.eq_of_mem_replicate h]; decide
      · exact hz d h
    have g := get_one xs (List.replicate k 1 ++ zs) 1 hx (by decide) hz'
    have ih := ones_all zs hz k (n + 1) (xs ++ [1]) (bok_app hx (by simp))
    have e : xs ++ (List.replicate (k + 1) 1 ++ zs) = xs ++ 1 :: (List.replicate k 1 ++ zs) := by rw [List.replicate_succ, List.cons_append]
    have e2 : xs ++ 1 :: (List.replicate k 1 ++ zs) = xs ++ [1] ++ (List.replicate k 1 ++ zs) := by simp
    rw [e, onesF, g]
    simp only [if_true]
    rw [e2, show (⟨xs.length + 1, false⟩ : RdSt) = ⟨(xs ++ [1]).length, false⟩ by simp, ih]
    simp only [List.length_append, List.length_cons, List.length_nil]
    refine Prod.ext (by show n + 1 + k = n + (k + 1); omega) ?_
    show (⟨_, _⟩ : RdSt) = ⟨_, _⟩
    congr 1
    omega
theorem nextF_of {bs : List Nat} {s s1 s2 : RdSt} {o u : Nat} (h1 : onesF bs 4 0 s = (o, s1)) (h2 : getF bs s1 (sizeT o : Int) = (u, s2)) :
    nextF bs s = (sext (sizeT o) u, decide ((whichF (sext (sizeT o) u)).2.2 = sizeT o), s2) := by
  unfold nextF
  rw [h1]
  simp only []
  rw [h2]
theorem heldF_nat (n : Nat) (h : n ≤ 64) : heldF (n : Int) = n := by unfold heldF; omega
/-- the number of a told form, whatever form it is, as long as it fits -/
theorem next_stop (xs zs : List Nat) (d : Int) (m : Nat) (hm : m < 4) (h0 : 0 ≤ d) (hx : ∀ d ∈ xs, d < 2) (hz : ∀ d ∈ zs, d < 2) :
    nextF (pack (xs ++ (List.replicate m 1 ++ 0 :: (bitsOf d.toNat (sizeT m) ++ zs)))) ⟨xs.length, false⟩ =
      (sext (sizeT m) (d.toNat % 2 ^ sizeT m), decide ((whichF (sext (sizeT m) (d.toNat % 2 ^ sizeT m))).2.2 = sizeT m), ⟨xs.length + m + 1 + sizeT m, false⟩) := by
  have hs : sizeT m ≤ 64 := by unfold sizeT; split <;> omega
  have h1 := ones_stop (bitsOf d.toNat (sizeT m) ++ zs) (bok_app (bitsOf_bit _ _) hz) m 4 0 xs hx hm
  have hx2 : ∀ d ∈ xs ++ (List.replicate m 1 ++ [0]), d < 2 := bok_app hx (bok_app (fun d h => by rw [List.eq_of_mem_replicate h]; decide) (by simp))
  have h2 := getF_put (xs ++ (List.replicate m 1 ++ [0])) zs d.toNat (sizeT m : Int) hx2 hz
  rw [heldF_nat _ hs] at h2
  have e : xs ++ (List.replicate m 1 ++ [0]) ++ (bitsOf d.toNat (sizeT m) ++ zs) = xs ++ (List.replicate m 1 ++ 0 :: (bitsOf d.toNat (sizeT m) ++ zs)) := by simp
  have el : (xs ++ (List.replicate m 1 ++ [0])).length = xs.length + m + 1 := by simp; omega
  rw [e, el] at h2
  rw [Nat.zero_add] at h1
  exact nextF_of h1 h2
theorem next_all (xs zs : List Nat) (d : Int) (h0 : 0 ≤ d) (hx : ∀ d ∈ xs, d < 2) (hz : ∀ d ∈ zs, d < 2) :
    nextF (pack (xs ++ (List.replicate 4 1 ++ (bitsOf d.toNat 64 ++ zs)))) ⟨xs.length, false⟩ =
      (sext 64 (d.toNat % 2 ^ 64), decide ((whichF (sext 64 (d.toNat % 2 ^ 64))).2.2 = 64), ⟨xs.length + 4 + 64, false⟩) := by
  have h1 := ones_all (bitsOf d.toNat 64 ++ zs) (bok_app (bitsOf_bit _ _) hz) 4 0 xs hx
  have hx2 : ∀ d ∈ xs ++ List.replicate 4 1, d < 2 := bok_app hx (fun d h => by rw [List.eq_of_mem_replicate h]; decide)
  have h2 := getF_put (xs ++ List.replicate 4 1) zs d.toNat (64 : Int) hx2 hz
  rw [show heldF 64 = 64 from rfl] at h2
  have e : xs ++ List.replicate 4 1 ++ (bitsOf d.toNat 64 ++ zs) = xs ++ (List.replicate 4 1 ++ (bitsOf d.toNat 64 ++ zs)) := by simp
  have el : (xs ++ List.replicate 4 1).length = xs.length + 4 := by simp
  rw [e, el] at h2
  exact nextF_of (o := 4) h1 h2
theorem sext7 (d : Int) (h0 : 0 ≤ d) (h1 : d < 18446744073709551616) (h : -64 ≤ IntKind.i64.wrap d ∧ IntKind.i64.wrap d ≤ 63) : sext 7 (d.toNat % 2 ^ 7) = IntKind.i64.wrap d := by
  rw [i64_of_u64 d h0 h1] at h ⊢
  unfold sext
  simp only [show (2 : Nat) ^ 7 = 128 from rfl, show (2 : Nat) ^ (7 - 1) = 64 from rfl, show (2 : Int) ^ 7 = 128 from rfl]
  split at h <;> (repeat' split) <;> omega
theorem sext9 (d : Int) (h0 : 0 ≤ d) (h1 : d < 18446744073709551616) (h : -256 ≤ IntKind.i64.wrap d ∧ IntKind.i64.wrap d ≤ 255) : sext 9 (d.toNat % 2 ^ 9) = IntKind.i64.wrap d := by
  rw [i64_of_u64 d h0 h1] at h ⊢
  unfold sext
  simp only [show (2 : Nat) ^ 9 = 512 from rfl, show (2 : Nat) ^ (9 - 1) = 256 from rfl, show (2 : Int) ^ 9 = 512 from rfl]
  split at h <;> (repeat' split) <;> omega
theorem sext12 (d : Int) (h0 : 0 ≤ d) (h1 : d < 18446744073709551616) (h : -2048 ≤ IntKind.i64.wrap d ∧ IntKind.i64.wrap d ≤ 2047) : sext 12 (d.toNat % 2 ^ 12) = IntKind.i64.wrap d := by
  rw [i64_of_u64 d h0 h1] at h ⊢
  unfold sext
  simp only [show (2 : Nat) ^ 12 = 4096 from rfl, show (2 : Nat) ^ (12 - 1) = 2048 from rfl, show (2 : Int) ^ 12 = 4096 from rfl]
  split at h <;> (repeat' split) <;> omega
theorem sext64 (d : Int) (h0 : 0 ≤ d) (h1 : d < 18446744073709551616) : sext 64 (d.toNat % 2 ^ 64) = IntKind.i64.wrap d := by
  rw [i64_of_u64 d h0 h1]
  unfold sext
  simp only [show (2 : Nat) ^ 64 = 18446744073709551616 from rfl, show (2 : Nat) ^ (64 - 1) = 9223372036854775808 from rfl, show (2 : Int) ^ 64 = 18446744073709551616 from rfl]
  (repeat' split) <;> omega
/-- what is told in its own form is read -/
theorem next_put (xs zs : List Nat) (d : Int) (h0 : 0 ≤ d) (h1 : d < 18446744073709551616) (hx : ∀ d ∈ xs, d < 2) (hz : ∀ d ∈ zs, d < 2) :
    nextF (pack (xs ++ (dBits d ++ zs))) ⟨xs.length, false⟩ = (IntKind.i64.wrap d, true, ⟨xs.length + (dBits d).length, false⟩) := by
  have hl : (dBits d).length = (whichF (IntKind.i64.wrap d)).2.1 + (whichF (IntKind.i64.wrap d)).2.2 := by simp [dBits, bitsOf_len]
  rw [hl]
  unfold dBits
  generalize hI : IntKind.i64.wrap d = I at *
  by_cases c0 : I = 0
  · have hd : d = 0 := by rw [i64_of_u64 d h0 h1] at hI; split at hI <;> omega
    have e : whichF I = (0, 1, 0) := by unfold whichF; rw [if_pos c0]
    have := next_stop xs zs d 0 (by decide) h0 hx hz
    rw [show sizeT 0 = 0 from rfl] at this
    rw [e]
    simp only [] at this ⊢
    rw [show bitsOf 0 1 = List.replicate 0 1 ++ [0] from rfl]
    rw [c0]
    simp only [List.replicate_zero, List.nil_append, List.append_assoc, List.cons_append] at this ⊢
    rw [this]
    simp [sext, whichF]
  by_cases c1 : -64 ≤ I ∧ I ≤ 63
  · have e : whichF I = (2, 2, 7) := by unfold whichF; rw [if_neg c0, if_pos c1]
    have := next_stop xs zs d 1 (by decide) h0 hx hz
    rw [show sizeT 1 = 7 from rfl, sext7 d h0 h1 (by rw [hI]; exact c1), hI, e] at this
    rw [e]
    simp only [] at this ⊢
    rw [show bitsOf 2 2 = List.replicate 1 1 ++ [0] from rfl]
    simp only [List.append_assoc, List.cons_append, List.nil_append] at this ⊢
    rw [this]
    simp
  by_cases c2 : -256 ≤ I ∧ I ≤ 255
  · have e : whichF I = (6, 3, 9) := by unfold whichF; rw [if_neg c0, if_neg c1, if_pos c2]
    have := next_stop xs zs d 2 (by decide) h0 hx hz
    rw [show sizeT 2 = 9 from rfl, sext9 d h0 h1 (by rw [hI]; exact c2), hI, e] at this
    rw [e]
    simp only [] at this ⊢
    rw [show bitsOf 6 3 = List.replicate 2 1 ++ [0] from rfl]
    simp only [List.append_assoc, List.cons_append, List.nil_append] at this ⊢
    rw [this]
    simp
  by_cases c3 : -2048 ≤ I ∧ I ≤ 2047
  · have e : whichF I = (14, 4, 12) := by unfold whichF; rw [if_neg c0, if_neg c1, if_neg c2, if_pos c3]
    have := next_stop xs zs d 3 (by decide) h0 hx hz
    rw [show sizeT 3 = 12 from rfl, sext12 d h0 h1 (by rw [hI]; exact c3), hI, e] at this
    rw [e]
    simp only [] at this ⊢
    rw [show bitsOf 14 4 = List.replicate 3 1 ++ [0] from rfl]
    simp only [List.append_assoc, List.cons_append, List.nil_append] at this ⊢
    rw [this]
    simp
  · have e : whichF I = (15, 4, 64) := by unfold whichF; rw [if_neg c0, if_neg c1, if_neg c2, if_neg c3]
    have := next_all xs zs d h0 hx hz
    rw [sext64 d h0 h1, hI, e] at this
    rw [e]
    simp only [] at this ⊢
    rw [show bitsOf 15 4 = List.replicate 4 1 from rfl]
    simp only [List.append_assoc] at this ⊢
    rw [this]
    simp
theorem decT_put (zs : List Nat) (hz : ∀ d ∈ zs, d < 2) : ∀ (l : List Int) (was step : Int) (out : List Int) (xs : List Nat), (∀ x ∈ l, -9223372036854775808 ≤ x ∧ x ≤ 9223372036854775807) → (∀ d ∈ xs, d < 2) →
    0 ≤ was ∧ was < 18446744073709551616 → 0 ≤ step ∧ step < 18446744073709551616 →
    decT (pack (xs ++ (encT was step l ++ zs))) l.length was step out ⟨xs.length, false⟩ = some (out ++ l, ⟨xs.length + (encT was step l).length, false⟩)
  | [], was, step, out, xs, _, _, _, _ => by simp [decT, encT]
  | x :: l, was, step, out, xs, hl, hx, hw, hs => by
    obtain ⟨d, hd⟩ : ∃ d, d = IntKind.u64.wrap (IntKind.u64.wrap (IntKind.u64.wrap x - was) - step) := ⟨_, rfl⟩
    have hdb := u64_bnd (IntKind.u64.wrap (IntKind.u64.wrap x - was) - step)
    rw [← hd] at hdb
    have hn := next_put xs (encT (IntKind.u64.wrap x) (IntKind.u64.wrap (IntKind.u64.wrap x - was)) l ++ zs) d hdb.1 hdb.2 hx (bok_app (encT_bit l _ _) hz)
    have e : xs ++ (encT was step (x :: l) ++ zs) = xs ++ (dBits d ++ (encT (IntKind.u64.wrap x) (IntKind.u64.wrap (IntKind.u64.wrap x - was)) l ++ zs)) := by
      rw [encT, ← hd]; simp
    have e2 : xs ++ (dBits d ++ (encT (IntKind.u64.wrap x) (IntKind.u64.wrap (IntKind.u64.wrap x - was)) l ++ zs)) = (xs ++ dBits d) ++ (encT (IntKind.u64.wrap x) (IntKind.u64.wrap (IntKind.u64.wrap x - was)) l ++ zs) := by simp
    have hstep : IntKind.u64.wrap (step + IntKind.u64.wrap (IntKind.i64.wrap d)) = IntKind.u64.wrap (IntKind.u64.wrap x - was) := by
      rw [u64_i64, hd]; simp only [u64_mod]; omega
    have hwas : IntKind.u64.wrap (was + IntKind.u64.wrap (IntKind.u64.wrap x - was)) = IntKind.u64.wrap x := by
      simp only [u64_mod]; omega
    have hxx : IntKind.i64.wrap (IntKind.u64.wrap x) = x := i64_u64 x (hl x (by simp))
    rw [List.length_cons, e, decT, hn]
    simp only [hstep, hwas, hxx]
    rw [if_neg (by simp), e2, show (⟨xs.length + (dBits d).length, false⟩ : RdSt) = ⟨(xs ++ dBits d).length, false⟩ by simp]
    rw [decT_put zs hz l _ _ _ (xs ++ dBits d) (fun y hy => hl y (by simp [hy])) (bok_app hx (dBits_bit d)) (u64_bnd _) (u64_bnd _)]
    rw [encT, ← hd]
    simp
    omega
/-- times are read as they were told, whatever stands behind -/
theorem decTs_put (ts : List Int) (zs : List Nat) (hz : ∀ d ∈ zs, d < 2) (ht : ∀ x ∈ ts, -9223372036854775808 ≤ x ∧ x ≤ 9223372036854775807) (hl : ts.length ≤ 65535) :
    decTs (pack (encTs ts ++ zs)) ⟨0, false⟩ (ts.length : Int) = some (ts, ⟨(encTs ts).length, false⟩) := by
  have hh : heldT (ts.length : Int) = ts.length := by unfold heldT; omega
  unfold decTs
  rw [hh]
  cases ts with
  | nil => simp [encTs]
  | cons x l =>
    have hb := u64_bnd x
    have hg := getF_put [] (encT (IntKind.u64.wrap x) 0 l ++ zs) (IntKind.u64.wrap x).toNat 64 (by simp) (bok_app (encT_bit l _ _) hz)
    rw [show heldF 64 = 64 from rfl, Nat.mod_eq_of_lt (by show _ < 18446744073709551616; omega)] at hg
    simp only [List.nil_append, List.length_nil, Nat.zero_add] at hg
    have e : encTs (x :: l) ++ zs = bitsOf (IntKind.u64.wrap x).toNat 64 ++ (encT (IntKind.u64.wrap x) 0 l ++ zs) := by rw [encTs]; simp
    have hd := decT_put zs hz l (IntKind.u64.wrap x) 0 [x] (bitsOf (IntKind.u64.wrap x).toNat 64) (fun y hy => ht y (by simp [hy])) (bitsOf_bit _ _) hb (by decide)
    simp only [List.length_cons]
    rw [e, hg]
    simp only []
    rw [if_neg (by simp), show (((IntKind.u64.wrap x).toNat : Nat) : Int) = IntKind.u64.wrap x by omega, i64_u64 x (ht x (by simp)), show (⟨64, false⟩ : RdSt) = ⟨(bitsOf (IntKind.u64.wrap x).toNat 64).length, false⟩ by simp [bitsOf_len], hd]
    simp [encTs, bitsOf_len]
end Go.Proofs.YtjibmfkhhljhcaaDoor
