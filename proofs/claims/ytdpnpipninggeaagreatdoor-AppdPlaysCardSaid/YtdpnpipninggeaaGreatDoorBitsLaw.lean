/- Bits in bytes, eight to a byte, the first one highest. In plain Lean. -/
import Derived.Test.YtdpnpipninggeaaGreatDoorNum
import Derived.Test.YtdpnpipninggeaaGreatDoorVal
import Derived.Test.YtdpnpipninggeaaGreatDoorStc
import Derived.Lib.TrailingZeros
set_option linter.unusedSimpArgs false
set_option linter.unusedVariables false
namespace Go.Proofs.YtdpnpipninggeaaGreatDoor
open Go

/-- how many bits a number may have -/
def heldF (n : Int) : Nat := (min (max n 0) 64).toNat
/-- the 'k' lowest bits of a number, the highest first -/
def bitsOf : Nat → Nat → List Nat
  | _, 0 => []
  | v, k + 1 => (v / 2 ^ k) % 2 :: bitsOf v k
theorem bitsOf_len : ∀ (v k : Nat), (bitsOf v k).length = k
  | _, 0 => rfl
  | v, k + 1 => by simp [bitsOf, bitsOf_len v k]
theorem bitsOf_bit : ∀ (v k : Nat), ∀ d ∈ bitsOf v k, d < 2
  | _, 0 => by simp [bitsOf]
  | v, k + 1 => by
    intro d hd
    rcases List.mem_cons.1 hd with rfl | hd
    · exact Nat.mod_lt _ (by decide)
    · exact bitsOf_bit v k d hd
/-- one bit more behind 'n' bits -/
def putBit (bs : List Nat) (n d : Nat) : List Nat :=
  if n % 8 = 0 then bs ++ [d * 2 ^ 7] else bs.set (n / 8) (bs.getD (n / 8) 0 ||| d * 2 ^ (7 - n % 8))
def packF : List Nat → Nat → List Nat → List Nat
  | bs, _, [] => bs
  | bs, n, d :: ds => packF (putBit bs n d) (n + 1) ds
def pack (ds : List Nat) : List Nat := packF [] 0 ds
theorem packF_append : ∀ (a b : List Nat) (bs : List Nat) (n : Nat), packF bs n (a ++ b) = packF (packF bs n a) (n + a.length) b
  | [], b, bs, n => rfl
  | d :: a, b, bs, n => by
    rw [List.cons_append, packF, packF_append a b, packF, List.length_cons]
    congr 1
    omega
theorem pack_append (a b : List Nat) : pack (a ++ b) = packF (pack a) a.length b := by
  unfold pack
  rw [packF_append, Nat.zero_add]
theorem pack_snoc (a : List Nat) (d : Nat) : pack (a ++ [d]) = putBit (pack a) a.length d := pack_append a [d]
theorem putBit_len (bs : List Nat) (n d : Nat) (h : bs.length = (n + 7) / 8) : (putBit bs n d).length = (n + 1 + 7) / 8 := by
  unfold putBit
  split <;> simp <;> omega
theorem packF_len : ∀ (ds bs : List Nat) (n : Nat), bs.length = (n + 7) / 8 → (packF bs n ds).length = (n + ds.length + 7) / 8
  | [], bs, n, h => by simpa [packF] using h
  | d :: ds, bs, n, h => by
    rw [packF, packF_len ds _ _ (putBit_len bs n d h), List.length_cons]
    congr 1
    omega
theorem pack_len (ds : List Nat) : (pack ds).length = (ds.length + 7) / 8 := by
  have := packF_len ds [] 0 rfl
  rw [Nat.zero_add] at this
  exact this
theorem putBit_lt (bs : List Nat) (n d : Nat) (hd : d < 2) (hb : ∀ x ∈ bs, x < 256) : ∀ x ∈ putBit bs n d, x < 256 := by
  intro x hx
  unfold putBit at hx
  split at hx
  · rcases List.mem_append.1 hx with h | h
    · exact hb x h
    · simp at h; omega
  · rcases List.mem_or_eq_of_mem_set hx with h | h
    · exact hb x h
    · subst h
      refine Nat.or_lt_two_pow (n := 8) ?_ ?_
      · rw [List.getD]
        cases h : bs[n / 8]? with
        | none => simp
        | some y => simpa using hb y (List.mem_of_getElem? h)
      · have : 2 ^ (7 - n % 8) ≤ 2 ^ 7 := Nat.pow_le_pow_right (by decide) (by omega)
        have h2 : d * 2 ^ (7 - n % 8) ≤ 1 * 2 ^ 7 := Nat.mul_le_mul (by omega) this
        omega
theorem packF_lt : ∀ (ds bs : List Nat) (n : Nat), (∀ d ∈ ds, d < 2) → (∀ x ∈ bs, x < 256) → ∀ x ∈ packF bs n ds, x < 256
  | [], bs, n, _, h => h
  | d :: ds, bs, n, hd, h => packF_lt ds _ _ (fun y hy => hd y (by simp [hy])) (putBit_lt bs n d (hd d (by simp)) h)
theorem pack_lt (ds : List Nat) (h : ∀ d ∈ ds, d < 2) : ∀ x ∈ pack ds, x < 256 := packF_lt ds [] 0 h (by simp)
/- reading -/
def bitAt (bs : List Nat) (i : Nat) : Nat := (bs.getD (i / 8) 0 / 2 ^ (7 - i % 8)) % 2
def getV (bs : List Nat) (at' : Nat) : Nat → Nat
  | 0 => 0
  | k + 1 => 2 * getV bs at' k + bitAt bs (at' + k)
theorem bitAt_lt (bs : List Nat) (i : Nat) : bitAt bs i < 2 := Nat.mod_lt _ (by decide)
theorem getV_lt (bs : List Nat) (a : Nat) : ∀ k, getV bs a k < 2 ^ k
  | 0 => by simp [getV]
  | k + 1 => by
    have := getV_lt bs a k
    have := bitAt_lt bs (a + k)
    rw [getV, Nat.pow_succ]; omega
theorem bit_eq (x k : Nat) : x / 2 ^ k % 2 = (x.testBit k).toNat := (Nat.toNat_testBit x k).symm
theorem bit_mul (d m j : Nat) (hd : d < 2) : d * 2 ^ m / 2 ^ j % 2 = if j = m then d else 0 := by
  have h01 : d = 0 ∨ d = 1 := by omega
  rcases h01 with rfl | rfl
  · simp
  · rw [Nat.one_mul, bit_eq, Nat.testBit_two_pow]
    by_cases h : m = j
    · subst h; simp
    · have h' : ¬ j = m := fun e => h e.symm
      simp [h, h']
theorem bit_or (x y k : Nat) : (x ||| y) / 2 ^ k % 2 = ((x / 2 ^ k % 2) ||| (y / 2 ^ k % 2)) := by
  rw [bit_eq, bit_eq, bit_eq, Nat.testBit_or]
  cases x.testBit k <;> cases y.testBit k <;> rfl
theorem bitAt_put (bs : List Nat) (n d i : Nat) (hl : bs.length = (n + 7) / 8) (hd : d < 2) (h0 : bitAt bs n = 0) : bitAt (putBit bs n d) i = if i = n then d else bitAt bs i := by
  unfold bitAt putBit
  by_cases h8 : n % 8 = 0
  · rw [if_pos h8]
    by_cases hi : i / 8 < bs.length
    · have hne : i ≠ n := by intro e; subst e; omega
      rw [if_neg hne]
      simp [List.getD, List.getElem?_append_left hi]
    · by_cases hi2 : i / 8 = bs.length
      · have e : (bs ++ [d * 2 ^ 7]).getD (i / 8) 0 = d * 2 ^ 7 := by
          rw [hi2]; simp [List.getD]
        rw [e, bit_mul d 7 _ hd]
        have e2 : bs.getD (i / 8) 0 = 0 := by rw [hi2]; simp [List.getD]
        rw [e2]
        by_cases hin : i = n
        · subst hin; rw [if_pos rfl, if_pos (by omega)]
        · rw [if_neg hin, if_neg (by omega)]; simp
      · have hgt : bs.length < i / 8 := by omega
        have e : (bs ++ [d * 2 ^ 7]).getD (i / 8) 0 = 0 := by
          simp only [List.getD]; rw [List.getElem?_eq_none (by simp; omega)]; rfl
        have e2 : bs.getD (i / 8) 0 = 0 := by
          simp only [List.getD]; rw [List.getElem?_eq_none (by omega)]; rfl
        rw [e, e2, if_neg (by intro e; subst e; omega)]
  · rw [if_neg h8]
    by_cases hi : i / 8 = n / 8
    · have e : (bs.set (n / 8) (bs.getD (n / 8) 0 ||| d * 2 ^ (7 - n % 8))).getD (i / 8) 0 = (bs.getD (n / 8) 0 ||| d * 2 ^ (7 - n % 8)) := by
        rw [hi]; simp only [List.getD]; rw [List.getElem?_set_self (by omega)]; rfl
      rw [e, bit_or, bit_mul _ _ _ hd, hi]
      by_cases hin : i = n
      · subst hin
        unfold bitAt at h0
        rw [if_pos rfl, if_pos rfl, h0]; simp
      · rw [if_neg hin, if_neg (by omega)]; simp
    · have e : (bs.set (n / 8) (bs.getD (n / 8) 0 ||| d * 2 ^ (7 - n % 8))).getD (i / 8) 0 = bs.getD (i / 8) 0 := by
        simp only [List.getD]; rw [List.getElem?_set_ne (fun e => hi e.symm)]
      rw [e, if_neg (fun e => hi (by rw [e]))]
theorem bitAt_packF : ∀ (ds bs : List Nat) (n : Nat), bs.length = (n + 7) / 8 → (∀ d ∈ ds, d < 2) → (∀ i, n ≤ i → bitAt bs i = 0) →
    ∀ i, bitAt (packF bs n ds) i = if i < n then bitAt bs i else ds.getD (i - n) 0
  | [], bs, n, _, _, h0, i => by
    by_cases h : i < n
    · simp [packF, h]
    · simp [packF, h, h0 i (by omega)]
  | d :: ds, bs, n, hl, hd, h0, i => by
    have hd0 := hd d (by simp)
    have hput := fun j => bitAt_put bs n d j hl hd0 (h0 n (Nat.le_refl _))
    rw [packF, bitAt_packF ds _ (n + 1) (putBit_len bs n d hl) (fun x hx => hd x (by simp [hx])) (fun j hj => by rw [hput, if_neg (by omega)]; exact h0 j (by omega)) i, hput]
    by_cases h1 : i < n
    · rw [if_pos (by omega), if_neg (by omega), if_pos h1]
    · rw [if_neg h1]
      by_cases h2 : i = n
      · subst h2; rw [if_pos (by omega), if_pos rfl]; simp
      · rw [if_neg (by omega)]
        have : i - n = (i - (n + 1)) + 1 := by omega
        rw [this]; simp [List.getD]
theorem bitAt_pack (ds : List Nat) (hd : ∀ d ∈ ds, d < 2) (i : Nat) : bitAt (pack ds) i = ds.getD i 0 := by
  have := bitAt_packF ds [] 0 rfl hd (fun i _ => by simp [bitAt]) i
  rw [if_neg (by omega), Nat.sub_zero] at this
  exact this
/-- bits as a number -/
def valOf : List Nat → Nat → Nat
  | [], a => a
  | d :: ds, a => valOf ds (2 * a + d)
theorem valOf_bits (v : Nat) : ∀ (k a : Nat), valOf (bitsOf v k) a = a * 2 ^ k + v % 2 ^ k
  | 0, a => by simp [bitsOf, valOf, Nat.mod_one]
  | k + 1, a => by
    rw [bitsOf, valOf, valOf_bits v k, Nat.pow_succ, Nat.mod_mul, Nat.add_mul]
    have e1 : 2 * a * 2 ^ k = a * (2 ^ k * 2) := by rw [Nat.mul_comm 2 a, Nat.mul_assoc, Nat.mul_comm 2]
    rw [e1, Nat.mul_comm (v / 2 ^ k % 2)]
    omega
theorem getV_app (ds : List Nat) (bs : List Nat) : ∀ (es : List Nat) (a m : Nat), (∀ j d, es[j]? = some d → bitAt bs (a + m + j) = d) → getV bs a (m + es.length) = valOf es (getV bs a m)
  | [], a, m, _ => by simp [valOf]
  | e :: es, a, m, h => by
    rw [valOf, List.length_cons, show m + (es.length + 1) = (m + 1) + es.length by omega, getV_app ds bs es a (m + 1) (fun j d hj => by
      rw [show a + (m + 1) + j = a + m + (j + 1) by omega]; exact h (j + 1) d (by simpa using hj)), getV, ← Nat.add_zero (a + m), h 0 e rfl]
/-- what was put is read -/
theorem getV_pack (xs ys zs : List Nat) (hd : ∀ d ∈ xs ++ ys ++ zs, d < 2) : getV (pack (xs ++ ys ++ zs)) xs.length ys.length = valOf ys 0 := by
  have := getV_app [] (pack (xs ++ ys ++ zs)) ys xs.length 0 (fun j d hj => by
    rw [bitAt_pack _ hd, Nat.add_zero]
    have hlt := (List.getElem?_eq_some_iff.1 hj).1
    simp only [List.getD]
    rw [List.append_assoc, List.getElem?_append_right (by omega), List.getElem?_append_left (by omega), show xs.length + j - xs.length = j by omega, hj]; rfl)
  rw [Nat.zero_add] at this
  exact this
theorem getV_bits (xs zs : List Nat) (v k : Nat) (hx : ∀ d ∈ xs, d < 2) (hz : ∀ d ∈ zs, d < 2) : getV (pack (xs ++ bitsOf v k ++ zs)) xs.length k = v % 2 ^ k := by
  have := getV_pack xs (bitsOf v k) zs (fun d hd => by
    rcases List.mem_append.1 hd with h | h
    · rcases List.mem_append.1 h with h | h
      · exact hx d h
      · exact bitsOf_bit v k d h
    · exact hz d h)
  rw [bitsOf_len, valOf_bits] at this
  simpa using this
theorem bitsOf_split (v : Nat) : ∀ (m k : Nat), bitsOf v (m + k) = bitsOf (v / 2 ^ k) m ++ bitsOf v k
  | 0, k => by simp [bitsOf]
  | m + 1, k => by
    rw [show m + 1 + k = (m + k) + 1 by omega, bitsOf, bitsOf_split v m k, bitsOf, List.cons_append]
    congr 2
    rw [Nat.div_div_eq_div_mul, ← Nat.pow_add, Nat.add_comm k m]
/-- a reader, and what it gives -/
structure RdSt where
  at' : Nat
  bad : Bool
def leftF (bs : List Nat) (s : RdSt) : Nat := if s.bad then 0 else 8 * bs.length - s.at'
def getF (bs : List Nat) (s : RdSt) (n : Int) : Nat × RdSt :=
  if s.bad = true ∨ leftF bs s < heldF n then (0, ⟨s.at', true⟩) else (getV bs s.at' (heldF n), ⟨s.at' + heldF n, false⟩)
theorem bok_nil : ∀ d ∈ ([] : List Nat), d < 2 := by simp
theorem bok_app {a b : List Nat} (ha : ∀ d ∈ a, d < 2) (hb : ∀ d ∈ b, d < 2) : ∀ d ∈ a ++ b, d < 2 := fun d h => (List.mem_append.1 h).elim (ha d) (hb d)
end Go.Proofs.YtdpnpipninggeaaGreatDoor
/- Times by their differences: their bits, and the times of bits. In plain Lean. -/
set_option linter.unusedSimpArgs false
set_option linter.unusedVariables false
namespace Go.Proofs.YtdpnpipninggeaaGreatDoor
open Go
theorem u64_mod (n : Int) : IntKind.u64.wrap n = n % 18446744073709551616 := by
  simp [IntKind.wrap, IntKind.bits, IntKind.signed]
theorem i64_of_u64 (u : Int) (h0 : 0 ≤ u) (h : u < 18446744073709551616) : IntKind.i64.wrap u = if u < 9223372036854775808 then u else u - 18446744073709551616 := by
  simp [IntKind.wrap, IntKind.bits, IntKind.signed]; split <;> split <;> omega
theorem u64_i64 (n : Int) : IntKind.u64.wrap (IntKind.i64.wrap n) = IntKind.u64.wrap n := by
  rw [u64_mod, u64_mod]
  simp [IntKind.wrap, IntKind.bits, IntKind.signed]; split <;> omega
theorem i64_u64 (n : Int) (h : -9223372036854775808 ≤ n ∧ n ≤ 9223372036854775807) : IntKind.i64.wrap (IntKind.u64.wrap n) = n := by
  rw [u64_mod]
  simp [IntKind.wrap, IntKind.bits, IntKind.signed]; split <;> omega
theorem i64_bnd (n : Int) : -9223372036854775808 ≤ IntKind.i64.wrap n ∧ IntKind.i64.wrap n ≤ 9223372036854775807 := by
  simp [IntKind.wrap, IntKind.bits, IntKind.signed]; split <;> omega
theorem u64_bnd (n : Int) : 0 ≤ IntKind.u64.wrap n ∧ IntKind.u64.wrap n < 18446744073709551616 := by rw [u64_mod]; omega
theorem u64_u64 (a : Int) : IntKind.u64.wrap (IntKind.u64.wrap a) = IntKind.u64.wrap a := by simp only [u64_mod]; omega
/-- which form a difference has: what stands ahead, in how many bits, and how many bits it has -/
def whichF (d : Int) : Nat × Nat × Nat :=
  if d = 0 then (0, 1, 0) else if -64 ≤ d ∧ d ≤ 63 then (2, 2, 7) else if -256 ≤ d ∧ d ≤ 255 then (6, 3, 9) else if -2048 ≤ d ∧ d ≤ 2047 then (14, 4, 12) else (15, 4, 64)
theorem whichF_bnd (d : Int) : (whichF d).1 ≤ 15 ∧ (whichF d).2.1 ≤ 4 ∧ (whichF d).2.2 ≤ 64 := by
  unfold whichF
  repeat' split
  all_goals decide
def dBits (d : Int) : List Nat := bitsOf (whichF (IntKind.i64.wrap d)).1 (whichF (IntKind.i64.wrap d)).2.1 ++ bitsOf d.toNat (whichF (IntKind.i64.wrap d)).2.2
def encT : Int → Int → List Int → List Nat
  | _, _, [] => []
  | was, step, x :: l => dBits (IntKind.u64.wrap (IntKind.u64.wrap (IntKind.u64.wrap x - was) - step)) ++ encT (IntKind.u64.wrap x) (IntKind.u64.wrap (IntKind.u64.wrap x - was)) l
def encTs : List Int → List Nat
  | [] => []
  | x :: l => bitsOf (IntKind.u64.wrap x).toNat 64 ++ encT (IntKind.u64.wrap x) 0 l
theorem dBits_bit (d : Int) : ∀ b ∈ dBits d, b < 2 := bok_app (bitsOf_bit _ _) (bitsOf_bit _ _)
theorem dBits_len (d : Int) : (dBits d).length ≤ 68 := by
  simp only [dBits, List.length_append, bitsOf_len, whichF]
  repeat' split
  all_goals simp
theorem encT_bit : ∀ (l : List Int) (was step : Int), ∀ b ∈ encT was step l, b < 2
  | [], _, _ => by simp [encT]
  | x :: l, was, step => bok_app (dBits_bit _) (encT_bit l _ _)
theorem encT_len : ∀ (l : List Int) (was step : Int), (encT was step l).length ≤ 68 * l.length
  | [], _, _ => by simp [encT]
  | x :: l, was, step => by
    have h1 := dBits_len (IntKind.u64.wrap (IntKind.u64.wrap (IntKind.u64.wrap x - was) - step))
    have h2 := encT_len l (IntKind.u64.wrap x) (IntKind.u64.wrap (IntKind.u64.wrap x - was))
    simp only [encT, List.length_append, List.length_cons]; omega
theorem encTs_bit : ∀ l : List Int, ∀ b ∈ encTs l, b < 2
  | [] => by simp [encTs]
  | x :: l => bok_app (bitsOf_bit _ _) (encT_bit l _ _)
theorem encTs_len : ∀ l : List Int, (encTs l).length ≤ 64 + 68 * l.length
  | [] => by simp [encTs]
  | x :: l => by
    have h2 := encT_len l (IntKind.u64.wrap x) 0
    simp only [encTs, List.length_append, bitsOf_len, List.length_cons]; omega
/- reading -/
/-- how many 1s stand ahead, four at most -/
def onesF (bs : List Nat) : Nat → Nat → RdSt → Nat × RdSt
  | 0, n, s => (n, s)
  | k + 1, n, s => if (getF bs s 1).1 = 1 then onesF bs k (n + 1) (getF bs s 1).2 else (n, (getF bs s 1).2)
def sizeT : Nat → Nat
  | 0 => 0
  | 1 => 7
  | 2 => 9
  | 3 => 12
  | _ => 64
/-- a number with a sign of 'n' bits -/
def sext (n u : Nat) : Int := if n = 0 then 0 else if u < 2 ^ (n - 1) then (u : Int) else (u : Int) - 2 ^ n
def nextF (bs : List Nat) (s : RdSt) : Int × Bool × RdSt :=
  (sext (sizeT (onesF bs 4 0 s).1) (getF bs (onesF bs 4 0 s).2 (sizeT (onesF bs 4 0 s).1 : Int)).1,
    decide ((whichF (sext (sizeT (onesF bs 4 0 s).1) (getF bs (onesF bs 4 0 s).2 (sizeT (onesF bs 4 0 s).1 : Int)).1)).2.2 = sizeT (onesF bs 4 0 s).1),
    (getF bs (onesF bs 4 0 s).2 (sizeT (onesF bs 4 0 s).1 : Int)).2)
/-- the times that follow -/
def decT (bs : List Nat) : Nat → Int → Int → List Int → RdSt → Option (List Int × RdSt)
  | 0, _, _, out, s => some (out, s)
  | k + 1, was, step, out, s =>
    if (nextF bs s).2.1 = false ∨ (nextF bs s).2.2.bad = true then none
    else decT bs k (IntKind.u64.wrap (was + IntKind.u64.wrap (step + IntKind.u64.wrap (nextF bs s).1))) (IntKind.u64.wrap (step + IntKind.u64.wrap (nextF bs s).1))
      (out ++ [IntKind.i64.wrap (IntKind.u64.wrap (was + IntKind.u64.wrap (step + IntKind.u64.wrap (nextF bs s).1)))]) (nextF bs s).2.2
def heldT (n : Int) : Nat := (min (max n 0) 65535).toNat
def decTs (bs : List Nat) (s : RdSt) (n : Int) : Option (List Int × RdSt) :=
  match heldT n with
  | 0 => if s.bad = true then none else some ([], s)
  | k + 1 => if (getF bs s 64).2.bad = true then none else decT bs k ((getF bs s 64).1 : Int) 0 [IntKind.i64.wrap ((getF bs s 64).1 : Int)] (getF bs s 64).2
/-- what was put is got -/
theorem getF_put (xs zs : List Nat) (v : Nat) (k : Int) (hx : ∀ d ∈ xs, d < 2) (hz : ∀ d ∈ zs, d < 2) :
    getF (pack (xs ++ (bitsOf v (heldF k) ++ zs))) ⟨xs.length, false⟩ k = (v % 2 ^ heldF k, ⟨xs.length + heldF k, false⟩) := by
  have hl := pack_len (xs ++ (bitsOf v (heldF k) ++ zs))
  simp only [List.length_append, bitsOf_len] at hl
  unfold getF leftF
  rw [if_neg (by simp; omega)]
  rw [← List.append_assoc]
  congr 1
  exact getV_bits xs zs v (heldF k) hx hz
theorem held1 : heldF 1 = 1 := rfl
theorem get_one (xs zs : List Nat) (d : Nat) (hx : ∀ d ∈ xs, d < 2) (hd : d < 2) (hz : ∀ d ∈ zs, d < 2) : getF (pack (xs ++ d :: zs)) ⟨xs.length, false⟩ 1 = (d, ⟨xs.length + 1, false⟩) := by
  have := getF_put xs zs d 1 hx hz
  rw [held1] at this
  have e : bitsOf d 1 = [d] := by simp [bitsOf]; omega
  rw [e, Nat.pow_one, Nat.mod_eq_of_lt hd] at this
  simpa using this
theorem ones_stop (zs : List Nat) (hz : ∀ d ∈ zs, d < 2) : ∀ (m k n : Nat) (xs : List Nat), (∀ d ∈ xs, d < 2) → m < k →
    onesF (pack (xs ++ (List.replicate m 1 ++ 0 :: zs))) k n ⟨xs.length, false⟩ = (n + m, ⟨xs.length + m + 1, false⟩)
  | 0, 0, _, _, _, h => by omega
  | 0, k + 1, n, xs, hx, _ => by
    have g := get_one xs zs 0 hx (by decide) hz
    simp only [List.replicate_zero, List.nil_append, onesF, g]
    simp
  | m + 1, 0, _, _, _, h => by omega
  | m + 1, k + 1, n, xs, hx, h => by
    have hz' : ∀ d ∈ List.replicate m 1 ++ 0 :: zs, d < 2 := by
      intro d hd
      rcases List.mem_append.1 hd with h | h
      · rw [List.eq_of_mem_replicate h]; decide
      · rcases List.mem_cons.1 h with rfl | h
        · decide
        · exact hz d h
    have g := get_one xs (List.replicate m 1 ++ 0 :: zs) 1 hx (by decide) hz'
    have ih := ones_stop zs hz m k (n + 1) (xs ++ [1]) (bok_app hx (by simp)) (by omega)
    have e : xs ++ (List.replicate (m + 1) 1 ++ 0 :: zs) = xs ++ 1 :: (List.replicate m 1 ++ 0 :: zs) := by rw [List.replicate_succ, List.cons_append]
    have e2 : xs ++ 1 :: (List.replicate m 1 ++ 0 :: zs) = xs ++ [1] ++ (List.replicate m 1 ++ 0 :: zs) := by simp
    rw [e, onesF, g]
    simp only [if_true]
    rw [e2, show (⟨xs.length + 1, false⟩ : RdSt) = ⟨(xs ++ [1]).length, false⟩ by simp, ih]
    simp only [List.length_append, List.length_cons, List.length_nil]
    refine Prod.ext (by show n + 1 + m = n + (m + 1); omega) ?_
    show (⟨_, _⟩ : RdSt) = ⟨_, _⟩
    congr 1
    omega
theorem ones_all (zs : List Nat) (hz : ∀ d ∈ zs, d < 2) : ∀ (k n : Nat) (xs : List Nat), (∀ d ∈ xs, d < 2) →
    onesF (pack (xs ++ (List.replicate k 1 ++ zs))) k n ⟨xs.length, false⟩ = (n + k, ⟨xs.length + k, false⟩)
  | 0, n, xs, hx => by simp [onesF]
  | k + 1, n, xs, hx => by
    have hz' : ∀ d ∈ List.replicate k 1 ++ zs, d < 2 := by
      intro d hd
      rcases List.mem_append.1 hd with h | h
      · rw [List.eq_of_mem_replicate h]; decide
      · exact hz d h
    have g := get_one xs (List.replicate k 1 ++ zs) 1 hx (by decide) hz'
    have ih := ones_all zs hz k (n + 1) (xs ++ [1]) (bok_app hx (by simp))
    have e : xs ++ (List.replicate (k + 1) 1 ++ zs) = xs ++ 1 :: (List.replicate k 1 ++ zs) := by rw [List.replicate_succ, List.cons_append]
    have e2 : xs ++ 1 :: (List.replicate k 1 ++ zs) = xs ++ [1] ++ (List.replicate k 1 ++ zs) := by simp
    rw [e, onesF, g]
    simp only [if_true]
    rw [e2, show (⟨xs.length + 1, false⟩ : RdSt) = ⟨(xs ++ [1]).length, false⟩ by simp, ih]
    simp only [List.length_append, List.length_cons, List.length_nil]
    refine Prod.ext (by show n + 1 + k = n + (k + 1); omega) ?_
    show (⟨_, _⟩ : RdSt) = ⟨_, _⟩
    congr 1
    omega
theorem nextF_of {bs : List Nat} {s s1 s2 : RdSt} {o u : Nat} (h1 : onesF bs 4 0 s = (o, s1)) (h2 : getF bs s1 (sizeT o : Int) = (u, s2)) :
    nextF bs s = (sext (sizeT o) u, decide ((whichF (sext (sizeT o) u)).2.2 = sizeT o), s2) := by
  unfold nextF
  rw [h1]
  simp only []
  rw [h2]
theorem heldF_nat (n : Nat) (h : n ≤ 64) : heldF (n : Int) = n := by unfold heldF; omega
/-- the number of a told form, whatever form it is, as long as it fits -/
theorem next_stop (xs zs : List Nat) (d : Int) (m : Nat) (hm : m < 4) (h0 : 0 ≤ d) (hx : ∀ d ∈ xs, d < 2) (hz : ∀ d ∈ zs, d < 2) :
    nextF (pack (xs ++ (List.replicate m 1 ++ 0 :: (bitsOf d.toNat (sizeT m) ++ zs)))) ⟨xs.length, false⟩ =
      (sext (sizeT m) (d.toNat % 2 ^ sizeT m), decide ((whichF (sext (sizeT m) (d.toNat % 2 ^ sizeT m))).2.2 = sizeT m), ⟨xs.length + m + 1 + sizeT m, false⟩) := by
  have hs : sizeT m ≤ 64 := by unfold sizeT; split <;> omega
  have h1 := ones_stop (bitsOf d.toNat (sizeT m) ++ zs) (bok_app (bitsOf_bit _ _) hz) m 4 0 xs hx hm
  have hx2 : ∀ d ∈ xs ++ (List.replicate m 1 ++ [0]), d < 2 := bok_app hx (bok_app (fun d h => by rw [List.eq_of_mem_replicate h]; decide) (by simp))
  have h2 := getF_put (xs ++ (List.replicate m 1 ++ [0])) zs d.toNat (sizeT m : Int) hx2 hz
  rw [heldF_nat _ hs] at h2
  have e : xs ++ (List.replicate m 1 ++ [0]) ++ (bitsOf d.toNat (sizeT m) ++ zs) = xs ++ (List.replicate m 1 ++ 0 :: (bitsOf d.toNat (sizeT m) ++ zs)) := by simp
  have el : (xs ++ (List.replicate m 1 ++ [0])).length = xs.length + m + 1 := by simp; omega
  rw [e, el] at h2
  rw [Nat.zero_add] at h1
  exact nextF_of h1 h2
theorem next_all (xs zs : List Nat) (d : Int) (h0 : 0 ≤ d) (hx : ∀ d ∈ xs, d < 2) (hz : ∀ d ∈ zs, d < 2) :
    nextF (pack (xs ++ (List.replicate 4 1 ++ (bitsOf d.toNat 64 ++ zs)))) ⟨xs.length, false⟩ =
      (sext 64 (d.toNat % 2 ^ 64), decide ((whichF (sext 64 (d.toNat % 2 ^ 64))).2.2 = 64), ⟨xs.length + 4 + 64, false⟩) := by
  have h1 := ones_all (bitsOf d.toNat 64 ++ zs) (bok_app (bitsOf_bit _ _) hz) 4 0 xs hx
  have hx2 : ∀ d ∈ xs ++ List.replicate 4 1, d < 2 := bok_app hx (fun d h => by rw [List.eq_of_mem_replicate h]; decide)
  have h2 := getF_put (xs ++ List.replicate 4 1) zs d.toNat (64 : Int) hx2 hz
  rw [show heldF 64 = 64 from rfl] at h2
  have e : xs ++ List.replicate 4 1 ++ (bitsOf d.toNat 64 ++ zs) = xs ++ (List.replicate 4 1 ++ (bitsOf d.toNat 64 ++ zs)) := by simp
  have el : (xs ++ List.replicate 4 1).length = xs.length + 4 := by simp
  rw [e, el] at h2
  exact nextF_of (o := 4) h1 h2
theorem sext7 (d : Int) (h0 : 0 ≤ d) (h1 : d < 18446744073709551616) (h : -64 ≤ IntKind.i64.wrap d ∧ IntKind.i64.wrap d ≤ 63) : sext 7 (d.toNat % 2 ^ 7) = IntKind.i64.wrap d := by
  rw [i64_of_u64 d h0 h1] at h ⊢
  unfold sext
  simp only [show (2 : Nat) ^ 7 = 128 from rfl, show (2 : Nat) ^ (7 - 1) = 64 from rfl, show (2 : Int) ^ 7 = 128 from rfl]
  split at h <;> (repeat' split) <;> omega
theorem sext9 (d : Int) (h0 : 0 ≤ d) (h1 : d < 18446744073709551616) (h : -256 ≤ IntKind.i64.wrap d ∧ IntKind.i64.wrap d ≤ 255) : sext 9 (d.toNat % 2 ^ 9) = IntKind.i64.wrap d := by
  rw [i64_of_u64 d h0 h1] at h ⊢
  unfold sext
  simp only [show (2 : Nat) ^ 9 = 512 from rfl, show (2 : Nat) ^ (9 - 1) = 256 from rfl, show (2 : Int) ^ 9 = 512 from rfl]
  split at h <;> (repeat' split) <;> omega
theorem sext12 (d : Int) (h0 : 0 ≤ d) (h1 : d < 18446744073709551616) (h : -2048 ≤ IntKind.i64.wrap d ∧ IntKind.i64.wrap d ≤ 2047) : sext 12 (d.toNat % 2 ^ 12) = IntKind.i64.wrap d := by
  rw [i64_of_u64 d h0 h1] at h ⊢
  unfold sext
  simp only [show (2 : Nat) ^ 12 = 4096 from rfl, show (2 : Nat) ^ (12 - 1) = 2048 from rfl, show (2 : Int) ^ 12 = 4096 from rfl]
  split at h <;> (repeat' split) <;> omega
theorem sext64 (d : Int) (h0 : 0 ≤ d) (h1 : d < 18446744073709551616) : sext 64 (d.toNat % 2 ^ 64) = IntKind.i64.wrap d := by
  rw [i64_of_u64 d h0 h1]
  unfold sext
  simp only [show (2 : Nat) ^ 64 = 18446744073709551616 from rfl, show (2 : Nat) ^ (64 - 1) = 9223372036854775808 from rfl, show (2 : Int) ^ 64 = 18446744073709551616 from rfl]
  (repeat' split) <;> omega
/-- what is told in its own form is read -/
theorem next_put (xs zs : List Nat) (d : Int) (h0 : 0 ≤ d) (h1 : d < 18446744073709551616) (hx : ∀ d ∈ xs, d < 2) (hz : ∀ d ∈ zs, d < 2) :
    nextF (pack (xs ++ (dBits d ++ zs))) ⟨xs.length, false⟩ = (IntKind.i64.wrap d, true, ⟨xs.length + (dBits d).length, false⟩) := by
  have hl : (dBits d).length = (whichF (IntKind.i64.wrap d)).2.1 + (whichF (IntKind.i64.wrap d)).2.2 := by simp [dBits, bitsOf_len]
  rw [hl]
  unfold dBits
  generalize hI : IntKind.i64.wrap d = I at *
  by_cases c0 : I = 0
  · have hd : d = 0 := by rw [i64_of_u64 d h0 h1] at hI; split at hI <;> omega
    have e : whichF I = (0, 1, 0) := by unfold whichF; rw [if_pos c0]
    have := next_stop xs zs d 0 (by decide) h0 hx hz
    rw [show sizeT 0 = 0 from rfl] at this
    rw [e]
    simp only [] at this ⊢
    rw [show bitsOf 0 1 = List.replicate 0 1 ++ [0] from rfl]
    rw [c0]
    simp only [List.replicate_zero, List.nil_append, List.append_assoc, List.cons_append] at this ⊢
    rw [this]
    simp [sext, whichF]
  by_cases c1 : -64 ≤ I ∧ I ≤ 63
  · have e : whichF I = (2, 2, 7) := by unfold whichF; rw [if_neg c0, if_pos c1]
    have := next_stop xs zs d 1 (by decide) h0 hx hz
    rw [show sizeT 1 = 7 from rfl, sext7 d h0 h1 (by rw [hI]; exact c1), hI, e] at this
    rw [e]
    simp only [] at this ⊢
    rw [show bitsOf 2 2 = List.replicate 1 1 ++ [0] from rfl]
    simp only [List.append_assoc, List.cons_append, List.nil_append] at this ⊢
    rw [this]
    simp
  by_cases c2 : -256 ≤ I ∧ I ≤ 255
  · have e : whichF I = (6, 3, 9) := by unfold whichF; rw [if_neg c0, if_neg c1, if_pos c2]
    have := next_stop xs zs d 2 (by decide) h0 hx hz
    rw [show sizeT 2 = 9 from rfl, sext9 d h0 h1 (by rw [hI]; exact c2), hI, e] at this
    rw [e]
    simp only [] at this ⊢
    rw [show bitsOf 6 3 = List.replicate 2 1 ++ [0] from rfl]
    simp only [List.append_assoc, List.cons_append, List.nil_append] at this ⊢
    rw [this]
    simp
  by_cases c3 : -2048 ≤ I ∧ I ≤ 2047
  · have e : whichF I = (14, 4, 12) := by unfold whichF; rw [if_neg c0, if_neg c1, if_neg c2, if_pos c3]
    have := next_stop xs zs d 3 (by decide) h0 hx hz
    rw [show sizeT 3 = 12 from rfl, sext12 d h0 h1 (by rw [hI]; exact c3), hI, e] at this
    rw [e]
    simp only [] at this ⊢
    rw [show bitsOf 14 4 = List.replicate 3 1 ++ [0] from rfl]
    simp only [List.append_assoc, List.cons_append, List.nil_append] at this ⊢
    rw [this]
    simp
  · have e : whichF I = (15, 4, 64) := by unfold whichF; rw [if_neg c0, if_neg c1, if_neg c2, if_neg c3]
    have := next_all xs zs d h0 hx hz
    rw [sext64 d h0 h1, hI, e] at this
    rw [e]
    simp only [] at this ⊢
    rw [show bitsOf 15 4 = List.replicate 4 1 from rfl]
    simp only [List.append_assoc] at this ⊢
    rw [this]
    simp
theorem decT_put (zs : List Nat) (hz : ∀ d ∈ zs, d < 2) : ∀ (l : List Int) (was step : Int) (out : List Int) (xs : List Nat), (∀ x ∈ l, -9223372036854775808 ≤ x ∧ x ≤ 9223372036854775807) → (∀ d ∈ xs, d < 2) →
    0 ≤ was ∧ was < 18446744073709551616 → 0 ≤ step ∧ step < 18446744073709551616 →
    decT (pack (xs ++ (encT was step l ++ zs))) l.length was step out ⟨xs.length, false⟩ = some (out ++ l, ⟨xs.length + (encT was step l).length, false⟩)
  | [], was, step, out, xs, _, _, _, _ => by simp [decT, encT]
  | x :: l, was, step, out, xs, hl, hx, hw, hs => by
    obtain ⟨d, hd⟩ : ∃ d, d = IntKind.u64.wrap (IntKind.u64.wrap (IntKind.u64.wrap x - was) - step) := ⟨_, rfl⟩
    have hdb := u64_bnd (IntKind.u64.wrap (IntKind.u64.wrap x - was) - step)
    rw [← hd] at hdb
    have hn := next_put xs (encT (IntKind.u64.wrap x) (IntKind.u64.wrap (IntKind.u64.wrap x - was)) l ++ zs) d hdb.1 hdb.2 hx (bok_app (encT_bit l _ _) hz)
    have e : xs ++ (encT was step (x :: l) ++ zs) = xs ++ (dBits d ++ (encT (IntKind.u64.wrap x) (IntKind.u64.wrap (IntKind.u64.wrap x - was)) l ++ zs)) := by
      rw [encT, ← hd]; simp
    have e2 : xs ++ (dBits d ++ (encT (IntKind.u64.wrap x) (IntKind.u64.wrap (IntKind.u64.wrap x - was)) l ++ zs)) = (xs ++ dBits d) ++ (encT (IntKind.u64.wrap x) (IntKind.u64.wrap (IntKind.u64.wrap x - was)) l ++ zs) := by simp
    have hstep : IntKind.u64.wrap (step + IntKind.u64.wrap (IntKind.i64.wrap d)) = IntKind.u64.wrap (IntKind.u64.wrap x - was) := by
      rw [u64_i64, hd]; simp only [u64_mod]; omega
    have hwas : IntKind.u64.wrap (was + IntKind.u64.wrap (IntKind.u64.wrap x - was)) = IntKind.u64.wrap x := by
      simp only [u64_mod]; omega
    have hxx : IntKind.i64.wrap (IntKind.u64.wrap x) = x := i64_u64 x (hl x (by simp))
    rw [List.length_cons, e, decT, hn]
    simp only [hstep, hwas, hxx]
    rw [if_neg (by simp), e2, show (⟨xs.length + (dBits d).length, false⟩ : RdSt) = ⟨(xs ++ dBits d).length, false⟩ by simp]
    rw [decT_put zs hz l _ _ _ (xs ++ dBits d) (fun y hy => hl y (by simp [hy])) (bok_app hx (dBits_bit d)) (u64_bnd _) (u64_bnd _)]
    rw [encT, ← hd]
    simp
    omega
/-- times are read as they were told, whatever stands behind -/
theorem decTs_put (ts : List Int) (zs : List Nat) (hz : ∀ d ∈ zs, d < 2) (ht : ∀ x ∈ ts, -9223372036854775808 ≤ x ∧ x ≤ 9223372036854775807) (hl : ts.length ≤ 65535) :
    decTs (pack (encTs ts ++ zs)) ⟨0, false⟩ (ts.length : Int) = some (ts, ⟨(encTs ts).length, false⟩) := by
  have hh : heldT (ts.length : Int) = ts.length := by unfold heldT; omega
  unfold decTs
  rw [hh]
  cases ts with
  | nil => simp [encTs]
  | cons x l =>
    have hb := u64_bnd x
    have hg := getF_put [] (encT (IntKind.u64.wrap x) 0 l ++ zs) (IntKind.u64.wrap x).toNat 64 (by simp) (bok_app (encT_bit l _ _) hz)
    rw [show heldF 64 = 64 from rfl, Nat.mod_eq_of_lt (by show _ < 18446744073709551616; omega)] at hg
    simp only [List.nil_append, List.length_nil, Nat.zero_add] at hg
    have e : encTs (x :: l) ++ zs = bitsOf (IntKind.u64.wrap x).toNat 64 ++ (encT (IntKind.u64.wrap x) 0 l ++ zs) := by rw [encTs]; simp
    have hd := decT_put zs hz l (IntKind.u64.wrap x) 0 [x] (bitsOf (IntKind.u64.wrap x).toNat 64) (fun y hy => ht y (by simp [hy])) (bitsOf_bit _ _) hb (by decide)
    simp only [List.length_cons]
    rw [e, hg]
    simp only []
    rw [if_neg (by simp), show (((IntKind.u64.wrap x).toNat : Nat) : Int) = IntKind.u64.wrap x by omega, i64_u64 x (ht x (by simp)), show (⟨64, false⟩ : RdSt) = ⟨(bitsOf (IntKind.u64.wrap x).toNat 64).length, false⟩ by simp [bitsOf_len], hd]
    simp [encTs, bitsOf_len]
end Go.Proofs.YtdpnpipninggeaaGreatDoor

/- Numbers of any length, and their bytes. In plain Lean. -/
set_option linter.unusedSimpArgs false
set_option linter.unusedVariables false
set_option maxRecDepth 20000
namespace Go.Proofs.YtdpnpipninggeaaGreatDoor
open Go
def vputF : Nat → Nat → List Nat
  | 0, u => [u]
  | k + 1, u => if u < 128 then [u] else (u % 128 + 128) :: vputF k (u / 128)
theorem or_128 (n : Nat) (h : n < 256) : n ||| 128 = n % 128 + 128 := by
  have : ∀ m : Fin 256, (m.val ||| 128) = m.val % 128 + 128 := by decide +kernel
  exact this ⟨n, h⟩

theorem vput_byte (u : Nat) : bits .or .u8 (IntKind.u8.wrap (u : Int)) 128 = ((u % 128 + 128 : Nat) : Int) := by
  have h : u % 256 < 256 := Nat.mod_lt _ (by decide)
  rw [wrapU8, show (128 : Int) = ((128 : Nat) : Int) from rfl, bits_or rfl (by exact h) (by decide), or_128 _ h]
  congr 2
  omega
theorem vput_shift (u : Nat) : (u : Int) / 128 = ((u / 128 : Nat) : Int) := by omega

/- reading -/
def vgetF : Nat → Nat → List Nat → Nat × Nat
  | _, _, [] => (0, 0)
  | i, u, c :: cs => if i = 10 ∨ (i = 9 ∧ 1 < c) ∨ (0 < i ∧ c = 0) then (0, 0) else if c < 128 then (u + c * 128 ^ i, i + 1) else vgetF (i + 1) (u + (c - 128) * 128 ^ i) cs

theorem pow7 (i : Nat) : 2 ^ (7 * i) = 128 ^ i := by rw [Nat.pow_mul]
theorem vget_shl (c i : Nat) (hi : i ≤ 9) (hc : c * 128 ^ i < 18446744073709551616) : IntKind.u64.wrap ((c : Int) * 2 ^ min ((7 * (i : Int)).toNat) IntKind.u64.bits) = ((c * 128 ^ i : Nat) : Int) := by
  have e : (7 * (i : Int)).toNat = 7 * i := by omega
  have e2 : min (7 * i) IntKind.u64.bits = 7 * i := by simp [IntKind.bits]; omega
  rw [e, e2]
  have e3 : (c : Int) * 2 ^ (7 * i) = ((c * 128 ^ i : Nat) : Int) := by rw [← pow7]; push_cast; rfl
  rw [e3, wrapU64, Nat.mod_eq_of_lt hc]
theorem or_add (u v i : Nat) (h : u < 128 ^ i) : u ||| (v * 128 ^ i) = u + v * 128 ^ i := by
  rw [← pow7] at *
  rw [Nat.mul_comm, Nat.or_comm, ← Nat.two_pow_add_eq_or_of_lt h, Nat.add_comm]
def RGet (r : Nat × Nat) : Value := .tuple #[.int .u64 (r.1 : Int), .int .i64 (r.2 : Int)]
theorem vget_mul (c i : Nat) (hi : i ≤ 9) (hc : c < 128) (h9 : i = 9 → c ≤ 1) : c * 128 ^ i < 18446744073709551616 := by
  rcases Nat.lt_or_ge i 9 with h | h
  · have h1 : 128 ^ i ≤ 128 ^ 8 := Nat.pow_le_pow_right (by decide) (by omega)
    have h2 : c * 128 ^ i ≤ 128 * 128 ^ 8 := Nat.mul_le_mul (by omega) h1
    have h3 : (128 : Nat) * 128 ^ 8 < 18446744073709551616 := by decide +kernel
    omega
  · have : i = 9 := by omega
    subst this
    have := h9 rfl
    have h2 : c * 128 ^ 9 ≤ 1 * 128 ^ 9 := Nat.mul_le_mul_right _ this
    have h3 : (1 : Nat) * 128 ^ 9 < 18446744073709551616 := by decide +kernel
    exact Nat.lt_of_le_of_lt h2 h3
theorem vget_or (u c i : Nat) (hu : u < 128 ^ i) (hi : i ≤ 9) (hc : c < 128) (h9 : i = 9 → c ≤ 1) :
    bits .or .u64 (u : Int) (IntKind.u64.wrap ((c : Int) * 2 ^ min ((7 * (i : Int)).toNat) IntKind.u64.bits)) = ((u + c * 128 ^ i : Nat) : Int) := by
  have hm := vget_mul c i hi hc h9
  have hu' : u < 18446744073709551616 := by
    have h1 : 128 ^ i ≤ 128 ^ 9 := Nat.pow_le_pow_right (by decide) hi
    have h2 : (128 : Nat) ^ 9 < 18446744073709551616 := by decide +kernel
    omega
  rw [vget_shl c i hi hm, bits_or rfl hu' hm, or_add u c i hu]
theorem vget_next (u c i : Nat) (hu : u < 128 ^ i) (hc : c < 128) : u + c * 128 ^ i < 128 ^ (i + 1) := by
  have h2 : c * 128 ^ i ≤ 127 * 128 ^ i := Nat.mul_le_mul_right _ (by omega)
  rw [Nat.pow_succ]; omega
theorem cell_nat {bs : List Nat} {i c : Nat} (h : bs[i]? = some c) : (bs.map bcell)[i]? = some (bcell c) := by simp [h]

theorem mul_split (u p : Nat) : (u % 128) * p + (u / 128) * (p * 128) = u * p := by
  have h : u = 128 * (u / 128) + u % 128 := (Nat.div_add_mod u 128).symm
  calc (u % 128) * p + (u / 128) * (p * 128) = (128 * (u / 128) + u % 128) * p := by
        rw [Nat.add_mul, Nat.add_comm, Nat.mul_comm p 128, ← Nat.mul_assoc, Nat.mul_comm (u / 128) 128]
    _ = u * p := by rw [← h]
theorem vput_len : ∀ (k u : Nat), 1 ≤ (vputF k u).length ∧ (vputF k u).length ≤ k + 1
  | 0, u => by simp [vputF]
  | k + 1, u => by
    have := vput_len k (u / 128)
    unfold vputF
    split
    · simp
    · simp; omega
theorem vput_lt : ∀ (k u : Nat), u < 256 * 128 ^ k → ∀ x ∈ vputF k u, x < 256
  | 0, u, h, x, hx => by simp [vputF] at hx h; omega
  | k + 1, u, h, x, hx => by
    unfold vputF at hx
    split at hx
    · simp at hx; omega
    · rcases List.mem_cons.1 hx with rfl | hx
      · omega
      · refine vput_lt k (u / 128) ?_ x hx
        rw [Nat.pow_succ] at h
        omega
theorem vget_put : ∀ (k i u acc : Nat) (rest : List Nat), i + k = 9 → u * 128 ^ i < 18446744073709551616 → (0 < i → 0 < u) → vgetF i acc (vputF k u ++ rest) = (acc + u * 128 ^ i, i + (vputF k u).length)
  | 0, i, u, acc, rest, hi, hu, hp => by
    have : i = 9 := by omega
    subst this
    have hu1 : u ≤ 1 := by
      have e : (128 : Nat) ^ 9 = 9223372036854775808 := by decide +kernel
      rw [e] at hu; omega
    have := hp (by omega)
    simp only [vputF, List.singleton_append, vgetF, List.length_singleton]
    rw [if_neg (by omega), if_pos (by omega)]
  | k + 1, i, u, acc, rest, hi, hu, hp => by
    unfold vputF
    split
    · rename_i h
      simp only [List.singleton_append, vgetF, List.length_singleton]
      rw [if_neg (by omega), if_pos h]
    · rename_i h
      simp only [List.cons_append, vgetF, List.length_cons]
      rw [if_neg (by omega), if_neg (by omega)]
      have hs := mul_split u (128 ^ i)
      have := vget_put k (i + 1) (u / 128) (acc + (u % 128 + 128 - 128) * 128 ^ i) rest (by omega) (by rw [Nat.pow_succ]; omega) (by omega)
      rw [this, Nat.pow_succ]
      congr 1
      · rw [show u % 128 + 128 - 128 = u % 128 by omega]; omega
      · omega
end Go.Proofs.YtdpnpipninggeaaGreatDoor

/- Runs: the bytes of values, and the values of bytes. In plain Lean. -/
set_option linter.unusedSimpArgs false
set_option linter.unusedVariables false
namespace Go.Proofs.YtdpnpipninggeaaGreatDoor
open Go
/-- how long the first value goes -/
def cntF (x : Nat) : List Nat → Nat
  | [] => 0
  | y :: l => if y = x then cntF x l + 1 else 0
/-- the bytes of values: 'k' runs at most -/
def encRF : Nat → List Nat → List Nat
  | _, [] => []
  | 0, _ => []
  | k + 1, x :: l => vputF 9 (cntF x l + 1) ++ vputF 9 x ++ encRF k (l.drop (cntF x l))
def encR (v : List Nat) : List Nat := encRF v.length v
/-- the values of bytes: 'k' runs at most; 'm' values are wanted -/
def decRF : Nat → List Nat → Nat → List Nat → Option (List Nat)
  | _, [], m, out => if out.length = m then some out else none
  | 0, _, _, _ => none
  | k + 1, b :: bs, m, out =>
    if (vgetF 0 0 (b :: bs)).2 = 0 ∨ (vgetF 0 0 ((b :: bs).drop (vgetF 0 0 (b :: bs)).2)).2 = 0 ∨ (vgetF 0 0 (b :: bs)).1 = 0 ∨ m < out.length + (vgetF 0 0 (b :: bs)).1 ∨ out.getLast? = some (vgetF 0 0 ((b :: bs).drop (vgetF 0 0 (b :: bs)).2)).1 then none
    else decRF k ((b :: bs).drop ((vgetF 0 0 (b :: bs)).2 + (vgetF 0 0 ((b :: bs).drop (vgetF 0 0 (b :: bs)).2)).2)) m (out ++ List.replicate (vgetF 0 0 (b :: bs)).1 (vgetF 0 0 ((b :: bs).drop (vgetF 0 0 (b :: bs)).2)).1)
/-- how many values there may be -/
def heldM (n : Int) : Nat := (min (max n 0) 65535).toNat
theorem heldM_eq (n : Int) : min (max n 0) 65535 = (heldM n : Int) := by unfold heldM; omega
theorem heldM_le (n : Int) : heldM n ≤ 65535 := by unfold heldM; omega
def decR (bs : List Nat) (n : Int) : Option (List Nat) := decRF bs.length bs (heldM n) []
end Go.Proofs.YtdpnpipninggeaaGreatDoor

/- The index of a table that is a constant string; how many bits a number has. -/
set_option linter.unusedSimpArgs false
set_option linter.unusedVariables false
namespace Go.Proofs.YtdpnpipninggeaaGreatDoor
open Go
section
variable {P : Program} {T : Tab P} {fn : Func} {ρ σ : Hp} {Q : Value → HP} {k : List Item} {md : Bool} {X : World → Hp → Act → World → Prop} {env : Env} {Hs : List HP} {ops : Array Oper} {l : List Oper}
variable {d : Tmp} {ty : TypeId} {pos : String} {aft : Array Edge} {n fuel : Nat} {listed : Array Bool}
/-- an index of a string whose bytes a function tells -/
theorem WL.ixT {x y : Operand} {t : TypeId} {s : ByteArray} {K : IntKind} {i : Int} {ti : TyI} {f : Nat → Nat} {m : Nat} (hall : ∀ j : Fin m, (bytesN s)[j.val]? = some (f j.val)) (hn : Nat.ble (d + 1) fn.ntmps = true) (hx : ev env x = some (.string s)) (hy : ev env y = some (.int K i)) (ht : T.tt t = some ti) (hS : ti.desc = .string)
    (h0 : 0 ≤ i) (hi : i < (m : Int))
    (h : WL md P fn ρ X ops l ((d, .int .u8 (f i.toNat : Int)) :: env) Hs) : WL md P fn ρ X ops (⟨some d, .index t x y, ty, pos, aft, none⟩ :: l) env Hs := by
  have hv := hall ⟨i.toNat, by omega⟩
  simp only [] at hv
  have hl : i.toNat < s.size := by
    have h1 := (List.getElem?_eq_some_iff.1 hv).1
    unfold bytesN at h1
    simpa using h1
  exact WL.ixS (b1 := true) (b2 := true) hn hx hy ht hS h0 hl hv h
end
/-- how many bits a number has -/
def lenB : Nat → Nat → Nat
  | 0, _ => 0
  | k + 1, x => if x = 0 then 0 else lenB k (x / 2) + 1
theorem lenB_le : ∀ (k x b : Nat), x < 2 ^ k → (lenB k x ≤ b ↔ x < 2 ^ b)
  | 0, x, b, h => by
    have : x = 0 := by simpa using h
    subst this
    simp [lenB, Nat.pow_pos]
  | k + 1, x, b, h => by
    unfold lenB
    by_cases h0 : x = 0
    · subst h0; simp [Nat.pow_pos]
    · rw [if_neg h0]
      cases b with
      | zero => simp; omega
      | succ b =>
        have := lenB_le k (x / 2) b (by rw [Nat.pow_succ] at h; omega)
        rw [Nat.pow_succ]
        omega
theorem lenB_shift (s : Nat) : ∀ (k x : Nat), x / 2 ^ s ≠ 0 → lenB (k + s) x = lenB k (x / 2 ^ s) + s := by
  induction s with
  | zero => intro k x h; simp
  | succ s ih =>
    intro k x h
    have hx : x ≠ 0 := fun e => h (by rw [e]; simp)
    have h2 : x / 2 ^ (s + 1) = (x / 2) / 2 ^ s := by rw [Nat.div_div_eq_div_mul, Nat.pow_succ, Nat.mul_comm]
    rw [show k + (s + 1) = (k + s) + 1 by omega, lenB, if_neg hx, h2, ih k (x / 2) (by rw [← h2]; exact h)]
    omega
theorem lenB_more : ∀ (k j x : Nat), x < 2 ^ k → lenB (k + j) x = lenB k x
  | 0, j, x, h => by
    have : x = 0 := by simpa using h
    subst this
    cases j <;> simp [lenB]
  | k + 1, j, x, h => by
    rw [show k + 1 + j = (k + j) + 1 by omega, lenB, lenB]
    by_cases h0 : x = 0
    · simp [h0]
    · rw [if_neg h0, if_neg h0, lenB_more k j (x / 2) (by rw [Nat.pow_succ] at h; omega)]
theorem lenB_up (x : Nat) : ∀ k, lenB k x ≤ k
  | 0 => Nat.le_refl _
  | k + 1 => by
    unfold lenB
    split
    · omega
    · have := lenB_up (x / 2) k; omega
/-- a number's upper part tells its bits -/
theorem lenB_hi {x : Nat} (k s : Nat) (h : 2 ^ s ≤ x) : lenB (k + s) x = lenB k (x / 2 ^ s) + s :=
  lenB_shift s k x (by
    have hp : 0 < 2 ^ s := Nat.pow_pos (by decide)
    have := Nat.div_pos h hp
    omega)
end Go.Proofs.YtdpnpipninggeaaGreatDoor

/- Values by what turns: the bits of values, and the values of bits. In plain Lean. -/
set_option linter.unusedSimpArgs false
set_option linter.unusedVariables false
namespace Go.Proofs.YtdpnpipninggeaaGreatDoor
open Go
/-- bits as they stand -/
def bitsAt (bs : List Nat) (a k : Nat) : List Nat := (List.range k).map (fun j => bitAt bs (a + j))
theorem bitsAt_len (bs : List Nat) (a k : Nat) : (bitsAt bs a k).length = k := by simp [bitsAt]
theorem bitsAt_add (bs : List Nat) (a k m : Nat) : bitsAt bs a (k + m) = bitsAt bs a k ++ bitsAt bs (a + k) m := by
  unfold bitsAt
  rw [List.range_add, List.map_append, List.map_map]
  congr 1
  refine List.map_congr_left (fun j _ => ?_)
  simp [Nat.add_assoc]
theorem bitsOf_getV (bs : List Nat) (a : Nat) : ∀ k, bitsOf (getV bs a k) k = bitsAt bs a k
  | 0 => rfl
  | k + 1 => by
    have hb := bitAt_lt bs (a + k)
    rw [bitsAt_add, bitsOf_split _ k 1, getV]
    have e1 : (2 * getV bs a k + bitAt bs (a + k)) / 2 ^ 1 = getV bs a k := by omega
    have e2 : bitsOf (2 * getV bs a k + bitAt bs (a + k)) 1 = bitsAt bs (a + k) 1 := by
      simp [bitsOf, bitsAt]; omega
    rw [e1, bitsOf_getV bs a k, e2]
theorem getV_of {bs : List Nat} {a k y : Nat} (h : bitsOf y k = bitsAt bs a k) : getV bs a k = y % 2 ^ k := by
  rw [← bitsOf_getV] at h
  have := congrArg (fun l => valOf l 0) h
  simp only [valOf_bits, Nat.zero_mul, Nat.zero_add] at this
  rw [Nat.mod_eq_of_lt (getV_lt bs a k)] at this
  exact this.symm
theorem bitsAt_pack (xs ys : List Nat) (h : ∀ d ∈ xs ++ ys, d < 2) : bitsAt (pack (xs ++ ys)) 0 xs.length = xs := by
  apply List.ext_getElem?
  intro i
  unfold bitsAt
  rw [List.getElem?_map]
  by_cases hi : i < xs.length
  · rw [List.getElem?_range hi]
    simp only [Option.map_some]
    rw [bitAt_pack _ h]
    simp [List.getD, List.getElem?_append_left hi, List.getElem?_eq_getElem hi]
  · rw [List.getElem?_eq_none (by simp; omega), List.getElem?_eq_none (by omega)]; rfl
theorem getF_ok {bs : List Nat} {s : RdSt} {n : Int} {v : Nat} {s' : RdSt} (e : getF bs s n = (v, s')) (hs : s.at' ≤ 8 * bs.length) (h : s'.bad = false) :
    s.bad = false ∧ v = getV bs s.at' (heldF n) ∧ s' = ⟨s.at' + heldF n, false⟩ ∧ s.at' + heldF n ≤ 8 * bs.length := by
  unfold getF at e
  split at e
  · have := congrArg Prod.snd e
    simp only [] at this
    rw [← this] at h
    cases h
  · rename_i hc
    simp only [not_or, Bool.not_eq_true, leftF] at hc
    obtain ⟨hb, hc⟩ := hc
    rw [if_neg (by simp [hb])] at hc
    have e1 := congrArg Prod.fst e
    have e2 := congrArg Prod.snd e
    simp only [] at e1 e2
    exact ⟨hb, e1.symm, e2.symm, by omega⟩
theorem getF_of {bs : List Nat} {a : Nat} {n : Int} (h : a + heldF n ≤ 8 * bs.length) : getF bs ⟨a, false⟩ n = (getV bs a (heldF n), ⟨a + heldF n, false⟩) := by
  unfold getF leftF
  rw [if_neg (by simp; omega)]
theorem getF_atL (bs : List Nat) (s : RdSt) (n : Int) (h : s.at' ≤ 8 * bs.length) : (getF bs s n).2.at' ≤ 8 * bs.length := by
  unfold getF
  split
  · exact h
  · rename_i h'
    simp only [not_or, Bool.not_eq_true, leftF] at h'
    rw [h'.1] at h'
    simp at h' ⊢
    omega
/-- which bits are told -/
structure Win where
  is : Bool
  a : Nat
  b : Nat
def ldX (x : Nat) : Nat := min (64 - lenB 64 x) 31
def tzX (x : Nat) : Nat := Lib.ctz 64 x
def ofX (x : Nat) : Win := ⟨true, ldX x, tzX x⟩
def fitsX (w : Win) (x : Nat) : Bool := w.is && (decide (w.a ≤ ldX x) && decide (w.b ≤ tzX x))
def lngX (w : Win) : Nat := 64 - w.a - w.b
def WinOK (w : Win) : Prop := w.a ≤ 31 ∧ w.a + w.b ≤ 64
theorem winOK0 : WinOK ⟨false, 0, 0⟩ := ⟨by decide, by decide⟩
theorem ldX_le (x : Nat) : ldX x ≤ 31 := by unfold ldX; omega
theorem ldX_lt {x a : Nat} (hx : x < 18446744073709551616) (h : a ≤ ldX x) : x < 2 ^ (64 - a) := by
  have hb := lenB_up x 64
  refine (lenB_le 64 x (64 - a) hx).1 ?_
  unfold ldX at h
  omega
theorem le_ldX {x a : Nat} (hx : x < 18446744073709551616) (ha : a ≤ 31) (h : x < 2 ^ (64 - a)) : a ≤ ldX x := by
  have := (lenB_le 64 x (64 - a) hx).2 h
  unfold ldX
  omega
theorem tzX_spec {x : Nat} (h0 : x ≠ 0) (hx : x < 18446744073709551616) : ∃ m, x = 2 ^ tzX x * (2 * m + 1) ∧ tzX x < 64 := by
  unfold tzX Lib.ctz
  rw [if_neg h0]
  exact Lib.ctzFrom_spec 64 x (by omega) hx
theorem tzX_div {x b : Nat} (h0 : x ≠ 0) (hx : x < 18446744073709551616) (hb : b ≤ tzX x) : x / 2 ^ b * 2 ^ b = x := by
  obtain ⟨m, hm, _⟩ := tzX_spec h0 hx
  refine Nat.div_mul_cancel ?_
  have : 2 ^ b ∣ 2 ^ tzX x := Nat.pow_dvd_pow 2 hb
  have h2 : 2 ^ tzX x ∣ x := ⟨_, hm⟩
  exact Nat.dvd_trans this h2
theorem le_tzX {y b : Nat} (h0 : y * 2 ^ b ≠ 0) (hx : y * 2 ^ b < 18446744073709551616) : b ≤ tzX (y * 2 ^ b) := by
  obtain ⟨m, hm, _⟩ := tzX_spec h0 hx
  rcases Nat.lt_or_ge (tzX (y * 2 ^ b)) b with h | h
  · exfalso
    obtain ⟨d, hd⟩ : ∃ d, b = tzX (y * 2 ^ b) + (d + 1) := ⟨b - tzX (y * 2 ^ b) - 1, by omega⟩
    have hp : 0 < 2 ^ tzX (y * 2 ^ b) := Nat.pow_pos (by decide)
    have e1 : y * 2 ^ b = 2 ^ tzX (y * 2 ^ b) * (2 * (y * 2 ^ d)) := by
      conv => lhs; rw [hd, Nat.pow_add, Nat.pow_succ]
      simp only [Nat.mul_comm, Nat.mul_left_comm, Nat.mul_assoc]
    have := Nat.eq_of_mul_eq_mul_left hp (e1.symm.trans hm)
    omega
  · exact h
theorem ld_tz {x : Nat} (h0 : x ≠ 0) (hx : x < 18446744073709551616) : ldX x + tzX x ≤ 63 := by
  obtain ⟨m, hm, hk⟩ := tzX_spec h0 hx
  have h1 := ldX_lt hx (Nat.le_refl _)
  have h2 : 2 ^ tzX x ≤ x := by
    conv => rhs; rw [hm]
    exact Nat.le_mul_of_pos_right _ (by omega)
  have h3 : 2 ^ tzX x < 2 ^ (64 - ldX x) := Nat.lt_of_le_of_lt h2 h1
  have := (Nat.pow_lt_pow_iff_right (a := 2) (by decide)).1 h3
  have := ldX_le x
  omega
theorem ofX_ok {x : Nat} (h0 : x ≠ 0) (hx : x < 18446744073709551616) : WinOK (ofX x) := by
  have := ld_tz h0 hx
  exact ⟨ldX_le x, by show ldX x + tzX x ≤ 64; omega⟩
/-- the bits of what turns, and the window behind them -/
def stepX (w : Win) (x : Nat) : List Nat × Win :=
  if x = 0 then (bitsOf 0 1, w)
  else if fitsX w x = true then (bitsOf 2 2 ++ bitsOf (x / 2 ^ w.b) (lngX w), w)
  else (bitsOf 3 2 ++ bitsOf (ldX x) 5 ++ bitsOf (lngX (ofX x) - 1) 6 ++ bitsOf (x / 2 ^ tzX x) (lngX (ofX x)), ofX x)
theorem stepX_ok {w : Win} {x : Nat} (hw : WinOK w) (hx : x < 18446744073709551616) : WinOK (stepX w x).2 := by
  unfold stepX
  split
  · exact hw
  · rename_i h0
    split
    · exact hw
    · exact ofX_ok h0 hx
theorem stepX_bit (w : Win) (x : Nat) : ∀ d ∈ (stepX w x).1, d < 2 := by
  unfold stepX
  split
  · exact bitsOf_bit _ _
  · split
    · exact bok_app (bitsOf_bit _ _) (bitsOf_bit _ _)
    · exact bok_app (bok_app (bok_app (bitsOf_bit _ _) (bitsOf_bit _ _)) (bitsOf_bit _ _)) (bitsOf_bit _ _)
theorem fitsX_of {w : Win} {x : Nat} (h : fitsX w x = true) : w.is = true ∧ w.a ≤ ldX x ∧ w.b ≤ tzX x := by
  unfold fitsX at h
  simpa using h
theorem stepX_len {w : Win} {x : Nat} (hw : WinOK w) (hx : x < 18446744073709551616) : (x = 0 → (stepX w x).1.length = 1) ∧ (x ≠ 0 → 3 ≤ (stepX w x).1.length) ∧ (stepX w x).1.length ≤ 77 := by
  by_cases h0 : x = 0
  · have e : (stepX w x).1.length = 1 := by unfold stepX; rw [if_pos h0]; rfl
    exact ⟨fun _ => e, fun h => absurd h0 h, by omega⟩
  · have hlt := ld_tz h0 hx
    by_cases hf : fitsX w x = true
    · obtain ⟨_, h1, h2⟩ := fitsX_of hf
      have e : (stepX w x).1.length = 2 + lngX w := by unfold stepX; rw [if_neg h0, if_pos hf]; simp [bitsOf_len]
      have : lngX w = 64 - w.a - w.b := rfl
      exact ⟨fun h => absurd h h0, fun _ => by omega, by omega⟩
    · have e : (stepX w x).1.length = 13 + lngX (ofX x) := by unfold stepX; rw [if_neg h0, if_neg hf]; simp [bitsOf_len]; omega
      have : lngX (ofX x) = 64 - ldX x - tzX x := rfl
      exact ⟨fun h => absurd h h0, fun _ => by omega, by omega⟩
def encG : Nat → Win → List Nat → List Nat
  | _, _, [] => []
  | last, w, y :: l => (stepX w (y ^^^ last)).1 ++ encG y (stepX w (y ^^^ last)).2 l
def encX : List Nat → List Nat
  | [] => []
  | y :: l => bitsOf y 64 ++ encG y ⟨false, 0, 0⟩ l
theorem xor_lt64 {x y : Nat} (hx : x < 18446744073709551616) (hy : y < 18446744073709551616) : x ^^^ y < 18446744073709551616 := Nat.xor_lt_two_pow (n := 64) hx hy
theorem encG_bit : ∀ (l : List Nat) (last : Nat) (w : Win), ∀ d ∈ encG last w l, d < 2
  | [], _, _ => by simp [encG]
  | y :: l, last, w => bok_app (stepX_bit _ _) (encG_bit l _ _)
theorem encX_bit : ∀ l : List Nat, ∀ d ∈ encX l, d < 2
  | [] => by simp [encX]
  | y :: l => bok_app (bitsOf_bit _ _) (encG_bit l _ _)
theorem encG_len : ∀ (l : List Nat) (last : Nat) (w : Win), WinOK w → last < 18446744073709551616 → (∀ x ∈ l, x < 18446744073709551616) → (encG last w l).length ≤ 77 * l.length
  | [], _, _, _, _, _ => by simp [encG]
  | y :: l, last, w, hw, hl, hx => by
    have hy := hx y (by simp)
    have h1 := stepX_len hw (xor_lt64 hy hl)
    have h2 := encG_len l y _ (stepX_ok hw (xor_lt64 hy hl)) hy (fun x h => hx x (by simp [h]))
    simp only [encG, List.length_append, List.length_cons]; omega
theorem encX_len : ∀ l : List Nat, (∀ x ∈ l, x < 18446744073709551616) → (encX l).length ≤ 77 * l.length
  | [], _ => by simp [encX]
  | y :: l, hx => by
    have h2 := encG_len l y _ winOK0 (hx y (by simp)) (fun x h => hx x (by simp [h]))
    simp only [encX, List.length_append, bitsOf_len, List.length_cons]; omega
/- reading -/
def turnX (bs : List Nat) (w : Win) (s : RdSt) : Nat × Bool × Win × RdSt :=
  if (getF bs s 1).1 = 0 then (0, true, w, (getF bs s 1).2)
  else if (getF bs (getF bs s 1).2 1).1 = 0 then
    ((getF bs (getF bs (getF bs s 1).2 1).2 (lngX w : Int)).1 * 2 ^ w.b % 18446744073709551616,
      w.is && decide ((getF bs (getF bs (getF bs s 1).2 1).2 (lngX w : Int)).1 * 2 ^ w.b % 18446744073709551616 ≠ 0), w, (getF bs (getF bs (getF bs s 1).2 1).2 (lngX w : Int)).2)
  else
    let s2 := (getF bs (getF bs s 1).2 1).2
    let a := (getF bs s2 5).1
    let s3 := (getF bs s2 5).2
    let m := (getF bs s3 6).1 + 1
    let s4 := (getF bs s3 6).2
    if 64 < a + m then (0, false, w, s4)
    else
      let x := (getF bs s4 (m : Int)).1 * 2 ^ (64 - a - m) % 18446744073709551616
      let s5 := (getF bs s4 (m : Int)).2
      if x = 0 ∨ ¬ (ldX x = a ∧ tzX x = 64 - a - m) ∨ fitsX w x = true then (0, false, w, s5) else (x, true, ⟨true, a, 64 - a - m⟩, s5)
def rturnX (bs : List Nat) (w : Win) (s : RdSt) : Option (Nat × Win × RdSt) :=
  if (getF bs s 1).1 = 1 then
    if (getF bs (getF bs s 1).2 1).1 = 1 then
      let s2 := (getF bs (getF bs s 1).2 1).2
      let a := (getF bs s2 5).1
      let s3 := (getF bs s2 5).2
      let m := (getF bs s3 6).1 + 1
      let s4 := (getF bs s3 6).2
      if 64 < a + m then none else some ((getF bs s4 (m : Int)).1 * 2 ^ (64 - a - m) % 18446744073709551616, ⟨true, a, 64 - a - m⟩, (getF bs s4 (m : Int)).2)
    else if w.is = false then none
    else some ((getF bs (getF bs (getF bs s 1).2 1).2 (lngX w : Int)).1 * 2 ^ w.b % 18446744073709551616, w, (getF bs (getF bs (getF bs s 1).2 1).2 (lngX w : Int)).2)
  else some (0, w, (getF bs s 1).2)
def decXF (bs : List Nat) : Nat → Nat → Win → List Nat → RdSt → Option (List Nat × RdSt)
  | 0, _, _, out, s => some (out, s)
  | k + 1, was, w, out, s =>
    if (turnX bs w s).2.1 = false ∨ (turnX bs w s).2.2.2.bad = true then none
    else decXF bs k (was ^^^ (turnX bs w s).1) (turnX bs w s).2.2.1 (out ++ [was ^^^ (turnX bs w s).1]) (turnX bs w s).2.2.2
def decX (bs : List Nat) (s : RdSt) (n : Int) : Option (List Nat × RdSt) :=
  match heldM n with
  | 0 => if s.bad = true then none else some ([], s)
  | k + 1 => if (getF bs s 64).2.bad = true then none else decXF bs k (getF bs s 64).1 ⟨false, 0, 0⟩ [(getF bs s 64).1] (getF bs s 64).2
def rdXF (bs : List Nat) : Nat → Nat → Win → List Nat → RdSt → Option (List Nat × RdSt)
  | 0, _, _, out, s => if s.bad = true then none else some (out, s)
  | k + 1, was, w, out, s =>
    if s.bad = true then none
    else match rturnX bs w s with
      | none => none
      | some (x, w', s') => rdXF bs k (was ^^^ x) w' (out ++ [was ^^^ x]) s'
def rdX (bs : List Nat) (s : RdSt) (n : Int) : Option (List Nat × RdSt) :=
  match heldM n with
  | 0 => if s.bad = true then none else some ([], s)
  | k + 1 => if s.bad = true then none else rdXF bs k (getF bs s 64).1 ⟨false, 0, 0⟩ [(getF bs s 64).1] (getF bs s 64).2
def refX (bs : List Nat) (s : RdSt) (n : Int) : Option (List Nat × RdSt) :=
  match rdX bs s n with
  | none => none
  | some r => if encX r.1 = bitsAt bs s.at' (r.2.at' - s.at') then some r else none
theorem mod64 {y a b : Nat} (h : a + b ≤ 64) (hy : y < 2 ^ (64 - a - b)) : y * 2 ^ b < 2 ^ (64 - a) ∧ y * 2 ^ b % 18446744073709551616 = y * 2 ^ b := by
  have e : 64 - a = (64 - a - b) + b := by omega
  have h1 : y * 2 ^ b < 2 ^ (64 - a) := by
    rw [e, Nat.pow_add]
    exact Nat.mul_lt_mul_of_pos_right hy (Nat.pow_pos (by decide))
  have h2 : 2 ^ (64 - a) ≤ 2 ^ 64 := Nat.pow_le_pow_right (by decide) (by omega)
  exact ⟨h1, Nat.mod_eq_of_lt (Nat.lt_of_lt_of_le h1 h2)⟩
end Go.Proofs.YtdpnpipninggeaaGreatDoor

/- Values by what turns: what is read of what was told, and what was told of what is read. In plain Lean. -/
set_option linter.unusedSimpArgs false
set_option linter.unusedVariables false
namespace Go.Proofs.YtdpnpipninggeaaGreatDoor
open Go
theorem held64 (n : Nat) (h : n ≤ 64) : heldF (n : Int) = n := by unfold heldF; omega
theorem heldc1 : heldF 1 = 1 := rfl
theorem heldc5 : heldF 5 = 5 := rfl
theorem heldc6 : heldF 6 = 6 := rfl
theorem heldc64 : heldF 64 = 64 := rfl
theorem lng_le (w : Win) : lngX w ≤ 64 := by unfold lngX; omega
theorem one_bit {bs : List Nat} {a d : Nat} (h : [d] = bitsAt bs a 1) (hd : d < 2) : getV bs a 1 = d := by
  have : bitsOf d 1 = bitsAt bs a 1 := by rw [← h]; simp [bitsOf]; omega
  rw [getV_of this, Nat.pow_one, Nat.mod_eq_of_lt hd]
theorem bit_one {bs : List Nat} {a d : Nat} (h : getV bs a 1 = d) : bitsAt bs a 1 = [d] := by
  have h1 := bitsOf_getV bs a 1
  have h2 := getV_lt bs a 1
  rw [h] at h1 h2
  rw [← h1]
  simp [bitsOf]; omega
theorem two_bits {bs : List Nat} {a d e : Nat} (h1 : bitsAt bs a 1 = [d]) (h2 : bitsAt bs (a + 1) 1 = [e]) : bitsAt bs a 2 = [d, e] := by
  rw [show (2 : Nat) = 1 + 1 from rfl, bitsAt_add, h1, h2]; rfl
theorem app_split {bs : List Nat} {a : Nat} {p q : List Nat} (h : p ++ q = bitsAt bs a (p ++ q).length) : p = bitsAt bs a p.length ∧ q = bitsAt bs (a + p.length) q.length := by
  rw [List.length_append, bitsAt_add] at h
  exact List.append_inj h (by rw [bitsAt_len])
theorem app_join {bs : List Nat} {a : Nat} {p q : List Nat} (h1 : p = bitsAt bs a p.length) (h2 : q = bitsAt bs (a + p.length) q.length) : p ++ q = bitsAt bs a (p ++ q).length := by
  rw [List.length_append, bitsAt_add, ← h1, ← h2]
/-- what was told is read -/
theorem turn_step {bs : List Nat} {w : Win} {a x : Nat} (hw : WinOK w) (hx : x < 18446744073709551616) (hb : (stepX w x).1 = bitsAt bs a (stepX w x).1.length) (hl : a + (stepX w x).1.length ≤ 8 * bs.length) :
    turnX bs w ⟨a, false⟩ = (x, true, (stepX w x).2, ⟨a + (stepX w x).1.length, false⟩) := by
  by_cases h0 : x = 0
  · subst h0
    have e : stepX w 0 = ([0], w) := by unfold stepX; rw [if_pos rfl]; rfl
    rw [e] at hb hl ⊢
    simp only [List.length_cons, List.length_nil] at hb hl ⊢
    have g1 := getF_of (bs := bs) (a := a) (n := 1) (by rw [heldc1]; omega)
    rw [heldc1, one_bit hb (by decide)] at g1
    unfold turnX
    rw [g1]
    simp
  · by_cases hf : fitsX w x = true
    · obtain ⟨his, hfa, hfb⟩ := fitsX_of hf
      have e : stepX w x = ([1, 0] ++ bitsOf (x / 2 ^ w.b) (lngX w), w) := by unfold stepX; rw [if_neg h0, if_pos hf]; rfl
      rw [e] at hb hl ⊢
      simp only [] at hb hl ⊢
      obtain ⟨b1, b2⟩ := app_split hb
      simp only [List.length_append, List.length_cons, List.length_nil, bitsOf_len] at b1 b2 hl ⊢
      have b1' : [1] ++ [0] = bitsAt bs a ([1] ++ [0]).length := b1
      obtain ⟨b3, b4⟩ := app_split b1'
      simp only [List.length_cons, List.length_nil] at b3 b4
      have g1 := getF_of (bs := bs) (a := a) (n := 1) (by rw [heldc1]; omega)
      rw [heldc1, one_bit b3 (by decide)] at g1
      have g2 := getF_of (bs := bs) (a := a + 1) (n := 1) (by rw [heldc1]; omega)
      rw [heldc1, one_bit b4 (by decide)] at g2
      have g3 := getF_of (bs := bs) (a := a + 1 + 1) (n := (lngX w : Int)) (by rw [held64 _ (lng_le w)]; omega)
      have hxa := ldX_lt hx hfa
      have hy : x / 2 ^ w.b < 2 ^ lngX w := by
        rw [Nat.div_lt_iff_lt_mul (Nat.pow_pos (by decide)), ← Nat.pow_add]
        have : lngX w + w.b = 64 - w.a := by unfold lngX; have := hw.2; omega
        rw [this]; exact hxa
      rw [held64 _ (lng_le w), getV_of b2, Nat.mod_eq_of_lt hy] at g3
      have hm := mod64 (a := w.a) (b := w.b) hw.2 hy
      rw [tzX_div h0 hx hfb] at hm
      unfold turnX
      rw [g1]
      simp only []
      rw [if_neg (by decide), g2]
      simp only []
      rw [if_pos trivial, g3]
      simp only []
      rw [tzX_div h0 hx hfb, hm.2, his, decide_eq_true h0]
      simp; omega
    · have hlt := ld_tz h0 hx
      have hld := ldX_le x
      have hlng : lngX (ofX x) = 64 - ldX x - tzX x := rfl
      have e : stepX w x = ([1, 1] ++ bitsOf (ldX x) 5 ++ bitsOf (lngX (ofX x) - 1) 6 ++ bitsOf (x / 2 ^ tzX x) (lngX (ofX x)), ofX x) := by unfold stepX; rw [if_neg h0, if_neg hf]; rfl
      rw [e] at hb hl ⊢
      simp only [] at hb hl ⊢
      obtain ⟨b1, b2⟩ := app_split hb
      obtain ⟨b1, b5⟩ := app_split b1
      obtain ⟨b1, b6⟩ := app_split b1
      simp only [List.length_append, List.length_cons, List.length_nil, bitsOf_len] at b1 b2 b5 b6 hl ⊢
      have b1' : [1] ++ [1] = bitsAt bs a ([1] ++ [1]).length := b1
      obtain ⟨b3, b4⟩ := app_split b1'
      simp only [List.length_cons, List.length_nil] at b3 b4
      have g1 := getF_of (bs := bs) (a := a) (n := 1) (by rw [heldc1]; omega)
      rw [heldc1, one_bit b3 (by decide)] at g1
      have g2 := getF_of (bs := bs) (a := a + 1) (n := 1) (by rw [heldc1]; omega)
      rw [heldc1, one_bit b4 (by decide)] at g2
      have g3 := getF_of (bs := bs) (a := a + 1 + 1) (n := 5) (by rw [heldc5]; omega)
      rw [heldc5, getV_of b6, Nat.mod_eq_of_lt (by show _ < 32; omega)] at g3
      have g4 := getF_of (bs := bs) (a := a + 1 + 1 + 5) (n := 6) (by rw [heldc6]; omega)
      rw [heldc6, show a + 1 + 1 + 5 = a + (1 + 1 + 5) by omega, getV_of b5, Nat.mod_eq_of_lt (by show _ < 64; omega)] at g4
      have em : lngX (ofX x) - 1 + 1 = lngX (ofX x) := by omega
      have g5 := getF_of (bs := bs) (a := a + (1 + 1 + 5) + 6) (n := (lngX (ofX x) : Int)) (by rw [held64 _ (lng_le _)]; omega)
      have hxa := ldX_lt hx (Nat.le_refl (ldX x))
      have hy : x / 2 ^ tzX x < 2 ^ lngX (ofX x) := by
        rw [Nat.div_lt_iff_lt_mul (Nat.pow_pos (by decide)), ← Nat.pow_add]
        have : lngX (ofX x) + tzX x = 64 - ldX x := by omega
        rw [this]; exact hxa
      rw [held64 _ (lng_le _), show a + (1 + 1 + 5) + 6 = a + (1 + 1 + 5 + 6) by omega, getV_of b2, Nat.mod_eq_of_lt hy] at g5
      have hm := mod64 (a := ldX x) (b := tzX x) (by omega) hy
      rw [tzX_div h0 hx (Nat.le_refl _)] at hm
      have etz : 64 - ldX x - lngX (ofX x) = tzX x := by omega
      unfold turnX
      rw [g1]
      simp only []
      rw [if_neg (by decide), g2]
      simp only []
      rw [if_neg (by decide), g3]
      simp only []
      rw [show a + 1 + 1 + 5 = a + (1 + 1 + 5) by omega, g4]
      simp only []
      rw [em, if_neg (by omega), show a + (1 + 1 + 5) + 6 = a + (1 + 1 + 5 + 6) by omega, g5]
      simp only []
      rw [etz, tzX_div h0 hx (Nat.le_refl _), hm.2, if_neg (by simp only [not_or]; exact ⟨h0, by simp, hf⟩)]
      simp [ofX]; omega
end Go.Proofs.YtdpnpipninggeaaGreatDoor

/- Values by what turns: what is read is what was told. In plain Lean. -/
set_option linter.unusedSimpArgs false
set_option linter.unusedVariables false
namespace Go.Proofs.YtdpnpipninggeaaGreatDoor
open Go
theorem step_turn {bs : List Nat} {w w' : Win} {a x : Nat} {s' : RdSt} (hw : WinOK w) (ha : a ≤ 8 * bs.length) (h : turnX bs w ⟨a, false⟩ = (x, true, w', s')) (hb : s'.bad = false) :
    x < 18446744073709551616 ∧ (stepX w x).2 = w' ∧ s' = ⟨a + (stepX w x).1.length, false⟩ ∧ a + (stepX w x).1.length ≤ 8 * bs.length ∧ (stepX w x).1 = bitsAt bs a (stepX w x).1.length ∧ rturnX bs w ⟨a, false⟩ = some (x, w', s') := by
  unfold turnX at h
  unfold rturnX
  obtain ⟨g1, s1, e1⟩ : ∃ g s, getF bs ⟨a, false⟩ 1 = (g, s) := ⟨_, _, rfl⟩
  obtain ⟨g2, s2, e2⟩ : ∃ g s, getF bs s1 1 = (g, s) := ⟨_, _, rfl⟩
  have a1 := getF_atL bs ⟨a, false⟩ 1 ha
  rw [e1] at a1 h ⊢
  simp only [] at a1 h ⊢
  have a2 := getF_atL bs s1 1 a1
  rw [e2] at a2 h ⊢
  simp only [] at a2 h ⊢
  by_cases c1 : g1 = 0
  · rw [if_pos c1] at h
    obtain ⟨rfl, _, rfl, rfl⟩ : 0 = x ∧ true = true ∧ w = w' ∧ s1 = s' := by
      have q1 := congrArg Prod.fst h
      have q2 := congrArg (fun z => z.2.2.1) h
      have q3 := congrArg (fun z => z.2.2.2) h
      exact ⟨q1, rfl, q2, q3⟩
    obtain ⟨_, k1, k2, k3⟩ := getF_ok e1 ha hb
    rw [heldc1] at k1 k2 k3
    simp only [] at k1 k2 k3
    have es : stepX w 0 = ([0], w) := by unfold stepX; rw [if_pos rfl]; rfl
    rw [es]
    refine ⟨by decide, rfl, k2, k3, (bit_one (k1 ▸ c1)).symm, ?_⟩
    rw [if_neg (by omega)]
  · rw [if_neg c1] at h
    by_cases c2 : g2 = 0
    · rw [if_pos c2] at h
      obtain ⟨g3, s3, e3⟩ : ∃ g s, getF bs s2 (lngX w : Int) = (g, s) := ⟨_, _, rfl⟩
      rw [e3] at h ⊢
      simp only [] at h ⊢
      obtain ⟨q1, q2, rfl, rfl⟩ : g3 * 2 ^ w.b % 18446744073709551616 = x ∧ (w.is && decide (g3 * 2 ^ w.b % 18446744073709551616 ≠ 0)) = true ∧ w = w' ∧ s3 = s' := by
        have q1 := congrArg Prod.fst h
        have q0 := congrArg (fun z => z.2.1) h
        have q2 := congrArg (fun z => z.2.2.1) h
        have q3 := congrArg (fun z => z.2.2.2) h
        exact ⟨q1, q0, q2, q3⟩
      obtain ⟨n3, k1, k2, k3⟩ := getF_ok e3 a2 hb
      obtain ⟨n2, m1, m2, m3⟩ := getF_ok e2 a1 n3
      obtain ⟨_, l1, l2, l3⟩ := getF_ok e1 ha n2
      rw [heldc1] at l1 l2 l3 m1 m2 m3
      rw [held64 _ (lng_le w)] at k1 k2 k3
      simp only [] at l1 l2 l3
      rw [l2] at m1 m2 m3
      simp only [] at m1 m2 m3
      rw [m2] at k1 k2 k3
      simp only [] at k1 k2 k3
      have hg1 : g1 = 1 := by have := getV_lt bs a 1; omega
      have hy : g3 < 2 ^ (64 - w.a - w.b) := by rw [k1]; exact getV_lt _ _ _
      obtain ⟨hm1, hm2⟩ := mod64 hw.2 hy
      rw [hm2] at q1 q2
      rw [q1] at q2 hm1
      obtain ⟨his, hx0⟩ : w.is = true ∧ x ≠ 0 := by simpa using q2
      have hx : x < 18446744073709551616 := by
        have : 2 ^ (64 - w.a) ≤ 2 ^ 64 := Nat.pow_le_pow_right (by decide) (by omega)
        omega
      have hf : fitsX w x = true := by
        unfold fitsX
        have f1 := le_ldX hx hw.1 hm1
        have f2 : w.b ≤ tzX x := by rw [← q1]; exact le_tzX (by rw [q1]; exact hx0) (by rw [q1]; exact hx)
        rw [his, decide_eq_true f1, decide_eq_true f2]; rfl
      have hxd : x / 2 ^ w.b = g3 := by rw [← q1]; exact Nat.mul_div_cancel _ (Nat.pow_pos (by decide))
      have es : stepX w x = ([1, 0] ++ bitsOf g3 (lngX w), w) := by unfold stepX; rw [if_neg hx0, if_pos hf, hxd]; rfl
      rw [es]
      have hlen : ([1, 0] ++ bitsOf g3 (lngX w)).length = 2 + lngX w := by simp [bitsOf_len]; omega
      refine ⟨hx, rfl, ?_, ?_, ?_, ?_⟩
      · rw [k2]
        show (⟨_, _⟩ : RdSt) = ⟨_, _⟩
        rw [hlen]
        congr 1
        omega
      · show a + ([1, 0] ++ bitsOf g3 (lngX w)).length ≤ _
        rw [hlen]; omega
      · show [1, 0] ++ bitsOf g3 (lngX w) = bitsAt bs a ([1, 0] ++ bitsOf g3 (lngX w)).length
        refine app_join (two_bits (bit_one (l1 ▸ hg1)) (bit_one (m1 ▸ c2))).symm ?_
        rw [bitsOf_len, k1, bitsOf_getV]
        rfl
      · rw [if_pos hg1, if_neg (by omega), if_neg (by rw [his]; decide), hm2, q1]
    · rw [if_neg c2] at h
      obtain ⟨g3, s3, e3⟩ : ∃ g s, getF bs s2 5 = (g, s) := ⟨_, _, rfl⟩
      have a3 := getF_atL bs s2 5 a2
      rw [e3] at a3 h ⊢
      simp only [] at a3 h ⊢
      obtain ⟨g4, s4, e4⟩ : ∃ g s, getF bs s3 6 = (g, s) := ⟨_, _, rfl⟩
      have a4 := getF_atL bs s3 6 a3
      rw [e4] at a4 h ⊢
      simp only [] at a4 h ⊢
      by_cases c3 : 64 < g3 + (g4 + 1)
      · rw [if_pos c3] at h
        have q0 := congrArg (fun z => z.2.1) h
        cases q0
      · rw [if_neg c3] at h
        obtain ⟨g5, s5, e5⟩ : ∃ g s, getF bs s4 ((g4 + 1 : Nat) : Int) = (g, s) := ⟨_, _, rfl⟩
        rw [e5] at h ⊢
        simp only [] at h ⊢
        by_cases c4 : g5 * 2 ^ (64 - g3 - (g4 + 1)) % 18446744073709551616 = 0 ∨ ¬ (ldX (g5 * 2 ^ (64 - g3 - (g4 + 1)) % 18446744073709551616) = g3 ∧ tzX (g5 * 2 ^ (64 - g3 - (g4 + 1)) % 18446744073709551616) = 64 - g3 - (g4 + 1)) ∨ fitsX w (g5 * 2 ^ (64 - g3 - (g4 + 1)) % 18446744073709551616) = true
        · rw [if_pos c4] at h
          have q0 := congrArg (fun z => z.2.1) h
          cases q0
        · rw [if_neg c4] at h
          obtain ⟨q1, rfl, rfl⟩ : g5 * 2 ^ (64 - g3 - (g4 + 1)) % 18446744073709551616 = x ∧ (⟨true, g3, 64 - g3 - (g4 + 1)⟩ : Win) = w' ∧ s5 = s' := by
            have q1 := congrArg Prod.fst h
            have q2 := congrArg (fun z => z.2.2.1) h
            have q3 := congrArg (fun z => z.2.2.2) h
            exact ⟨q1, q2, q3⟩
          obtain ⟨n5, k1, k2, k3⟩ := getF_ok e5 a4 hb
          obtain ⟨n4, p1, p2, p3⟩ := getF_ok e4 a3 n5
          obtain ⟨n3, o1, o2, o3⟩ := getF_ok e3 a2 n4
          obtain ⟨n2, m1, m2, m3⟩ := getF_ok e2 a1 n3
          obtain ⟨_, l1, l2, l3⟩ := getF_ok e1 ha n2
          rw [heldc1] at l1 l2 l3 m1 m2 m3
          rw [heldc5] at o1 o2 o3
          rw [heldc6] at p1 p2 p3
          rw [held64 _ (by omega)] at k1 k2 k3
          simp only [] at l1 l2 l3
          rw [l2] at m1 m2 m3
          simp only [] at m1 m2 m3
          rw [m2] at o1 o2 o3
          simp only [] at o1 o2 o3
          rw [o2] at p1 p2 p3
          simp only [] at p1 p2 p3
          rw [p2] at k1 k2 k3
          simp only [] at k1 k2 k3
          have hg1 : g1 = 1 := by have := getV_lt bs a 1; omega
          have hg2 : g2 = 1 := by have := getV_lt bs (a + 1) 1; omega
          have hg3 : g3 < 32 := by rw [o1]; exact getV_lt _ _ 5
          have hy : g5 < 2 ^ (64 - g3 - (64 - g3 - (g4 + 1))) := by
            rw [show 64 - g3 - (64 - g3 - (g4 + 1)) = g4 + 1 by omega, k1]; exact getV_lt _ _ _
          obtain ⟨hm1, hm2⟩ := mod64 (a := g3) (b := 64 - g3 - (g4 + 1)) (by omega) hy
          rw [q1] at c4
          simp only [not_or, Classical.not_not] at c4
          obtain ⟨hx0, ⟨hld, htz⟩, hnf⟩ := c4
          rw [hm2] at q1
          have hx : x < 18446744073709551616 := by
            have : 2 ^ (64 - g3) ≤ 2 ^ 64 := Nat.pow_le_pow_right (by decide) (by omega)
            omega
          have hlng : lngX (ofX x) = g4 + 1 := by
            show 64 - ldX x - tzX x = _
            rw [hld, htz]; omega
          have hxd : x / 2 ^ tzX x = g5 := by rw [htz, ← q1]; exact Nat.mul_div_cancel _ (Nat.pow_pos (by decide))
          have es : stepX w x = ([1, 1] ++ bitsOf g3 5 ++ bitsOf g4 6 ++ bitsOf g5 (g4 + 1), ⟨true, g3, 64 - g3 - (g4 + 1)⟩) := by
            unfold stepX
            rw [if_neg hx0, if_neg hnf, hxd, hlng, hld, Nat.add_sub_cancel]
            unfold ofX
            rw [hld, htz]; rfl
          rw [es]
          have hlen : ([1, 1] ++ bitsOf g3 5 ++ bitsOf g4 6 ++ bitsOf g5 (g4 + 1)).length = 13 + (g4 + 1) := by simp [bitsOf_len]; omega
          refine ⟨hx, rfl, ?_, ?_, ?_, ?_⟩
          · rw [k2]
            show (⟨_, _⟩ : RdSt) = ⟨_, _⟩
            rw [hlen]
            congr 1
            omega
          · show a + ([1, 1] ++ bitsOf g3 5 ++ bitsOf g4 6 ++ bitsOf g5 (g4 + 1)).length ≤ _
            rw [hlen]; omega
          · show [1, 1] ++ bitsOf g3 5 ++ bitsOf g4 6 ++ bitsOf g5 (g4 + 1) = bitsAt bs a ([1, 1] ++ bitsOf g3 5 ++ bitsOf g4 6 ++ bitsOf g5 (g4 + 1)).length
            refine app_join (app_join (app_join (two_bits (bit_one (l1 ▸ hg1)) (bit_one (m1 ▸ hg2))).symm ?_) ?_) ?_
            · rw [bitsOf_len, o1, bitsOf_getV]; rfl
            · rw [bitsOf_len, p1, bitsOf_getV]
              congr 1
            · rw [bitsOf_len]
              conv => lhs; rw [k1, bitsOf_getV]
              congr 1
          · rw [if_pos hg1, if_pos hg2, if_neg c3, hm2, q1]
end Go.Proofs.YtdpnpipninggeaaGreatDoor

/- Values by what turns: rows of values. In plain Lean. -/
set_option linter.unusedSimpArgs false
set_option linter.unusedVariables false
namespace Go.Proofs.YtdpnpipninggeaaGreatDoor
open Go
theorem xor_back (y was : Nat) : was ^^^ (y ^^^ was) = y := by
  rw [Nat.xor_comm y was, ← Nat.xor_assoc, Nat.xor_self, Nat.zero_xor]
theorem xor_back2 (x was : Nat) : (was ^^^ x) ^^^ was = x := by
  rw [Nat.xor_comm was x, Nat.xor_assoc, Nat.xor_self, Nat.xor_zero]
theorem dec_run (bs : List Nat) : ∀ (l : List Nat) (was : Nat) (w : Win) (out : List Nat) (a : Nat), WinOK w → was < 18446744073709551616 → (∀ x ∈ l, x < 18446744073709551616) →
    encG was w l = bitsAt bs a (encG was w l).length → a + (encG was w l).length ≤ 8 * bs.length → decXF bs l.length was w out ⟨a, false⟩ = some (out ++ l, ⟨a + (encG was w l).length, false⟩)
  | [], was, w, out, a, _, _, _, _, _ => by simp [decXF, encG]
  | y :: l, was, w, out, a, hw, hwas, hl, hb, hle => by
    have hy := hl y (by simp)
    have hx := xor_lt64 hy hwas
    rw [encG] at hb hle ⊢
    obtain ⟨b1, b2⟩ := app_split hb
    rw [List.length_append] at hle ⊢
    have ht := turn_step hw hx b1 (by omega)
    rw [List.length_cons, decXF, ht]
    simp only []
    rw [if_neg (by simp), xor_back, dec_run bs l y _ _ _ (stepX_ok hw hx) hy (fun x h => hl x (by simp [h])) b2 (by omega)]
    simp [Nat.add_assoc]
theorem run_dec (bs : List Nat) : ∀ (k was : Nat) (w : Win) (out : List Nat) (a : Nat) (o : List Nat) (s' : RdSt), WinOK w → was < 18446744073709551616 → a ≤ 8 * bs.length → decXF bs k was w out ⟨a, false⟩ = some (o, s') →
    ∃ l, o = out ++ l ∧ l.length = k ∧ (∀ x ∈ l, x < 18446744073709551616) ∧ s' = ⟨a + (encG was w l).length, false⟩ ∧ a + (encG was w l).length ≤ 8 * bs.length ∧ encG was w l = bitsAt bs a (encG was w l).length ∧ rdXF bs k was w out ⟨a, false⟩ = some (o, s')
  | 0, was, w, out, a, o, s', hw, hwas, ha, h => by
    have e := Option.some.inj h
    refine ⟨[], by rw [List.append_nil]; exact (congrArg Prod.fst e).symm, rfl, by simp, (congrArg Prod.snd e).symm, ha, rfl, ?_⟩
    unfold rdXF
    rw [if_neg (by simp)]
    exact h
  | k + 1, was, w, out, a, o, s', hw, hwas, ha, h => by
    rw [decXF] at h
    obtain ⟨x, ok, w', s1, ht⟩ : ∃ x ok w' s1, turnX bs w ⟨a, false⟩ = (x, ok, w', s1) := ⟨_, _, _, _, rfl⟩
    rw [ht] at h
    simp only [] at h
    split at h
    · cases h
    · rename_i hn
      simp only [not_or, Bool.not_eq_false, Bool.not_eq_true] at hn
      obtain ⟨hok, hs1⟩ := hn
      subst hok
      obtain ⟨hx, e1, e2, e3, e4, e5⟩ := step_turn hw ha ht hs1
      rw [e2] at h
      have hy := xor_lt64 hwas hx
      obtain ⟨l, c1, c2, c3, c4, c5, c6, c7⟩ := run_dec bs k _ w' _ _ o s' (e1 ▸ stepX_ok hw hx) hy e3 h
      have eg : encG was w ((was ^^^ x) :: l) = (stepX w x).1 ++ encG (was ^^^ x) w' l := by rw [encG, xor_back2, e1]
      refine ⟨(was ^^^ x) :: l, by rw [c1]; simp, by simp [c2], ?_, ?_, ?_, ?_, ?_⟩
      · intro z hz
        rcases List.mem_cons.1 hz with rfl | hz
        · exact hy
        · exact c3 z hz
      · rw [c4, eg, List.length_append, Nat.add_assoc]
      · rw [eg, List.length_append]; omega
      · rw [eg]
        exact app_join e4 c6
      · rw [rdXF, if_neg (by simp), e5]
        simp only []
        rw [e2]
        exact c7
theorem getF_mono (bs : List Nat) (s : RdSt) (n : Int) : s.at' ≤ (getF bs s n).2.at' := by
  unfold getF
  split
  · exact Nat.le_refl _
  · exact Nat.le_add_right _ _
theorem rturn_ok {bs : List Nat} {w w' : Win} {s s' : RdSt} {x : Nat} (h : rturnX bs w s = some (x, w', s')) (ha : s.at' ≤ 8 * bs.length) : x < 18446744073709551616 ∧ s.at' ≤ s'.at' ∧ s'.at' ≤ 8 * bs.length := by
  unfold rturnX at h
  have m1 := getF_mono bs s 1
  have a1 := getF_atL bs s 1 ha
  have m2 := getF_mono bs (getF bs s 1).2 1
  have a2 := getF_atL bs (getF bs s 1).2 1 a1
  split at h
  · split at h
    · simp only [] at h
      have m3 := getF_mono bs (getF bs (getF bs s 1).2 1).2 5
      have a3 := getF_atL bs (getF bs (getF bs s 1).2 1).2 5 a2
      have m4 := getF_mono bs (getF bs (getF bs (getF bs s 1).2 1).2 5).2 6
      have a4 := getF_atL bs (getF bs (getF bs (getF bs s 1).2 1).2 5).2 6 a3
      split at h
      · cases h
      · have e := Option.some.inj h
        have m5 := getF_mono bs (getF bs (getF bs (getF bs (getF bs s 1).2 1).2 5).2 6).2 (((getF bs (getF bs (getF bs (getF bs s 1).2 1).2 5).2 6).1 + 1 : Nat) : Int)
        have a5 := getF_atL bs (getF bs (getF bs (getF bs (getF bs s 1).2 1).2 5).2 6).2 (((getF bs (getF bs (getF bs (getF bs s 1).2 1).2 5).2 6).1 + 1 : Nat) : Int) a4
        have e1 := congrArg Prod.fst e
        have e3 := congrArg (fun z => z.2.2) e
        simp only [] at e1 e3
        rw [e3] at m5 a5
        refine ⟨by rw [← e1]; exact Nat.mod_lt _ (by decide), by omega, a5⟩
    · split at h
      · cases h
      · have e := Option.some.inj h
        have m3 := getF_mono bs (getF bs (getF bs s 1).2 1).2 (lngX w : Int)
        have a3 := getF_atL bs (getF bs (getF bs s 1).2 1).2 (lngX w : Int) a2
        have e1 := congrArg Prod.fst e
        have e3 := congrArg (fun z => z.2.2) e
        simp only [] at e1 e3
        rw [e3] at m3 a3
        refine ⟨by rw [← e1]; exact Nat.mod_lt _ (by decide), by omega, a3⟩
  · have e := Option.some.inj h
    have e1 := congrArg Prod.fst e
    have e3 := congrArg (fun z => z.2.2) e
    simp only [] at e1 e3
    rw [e3] at m1 a1
    exact ⟨by rw [← e1]; decide, m1, a1⟩
theorem rdXF_ok (bs : List Nat) : ∀ (k was : Nat) (w : Win) (out : List Nat) (s : RdSt) (o : List Nat) (s' : RdSt), was < 18446744073709551616 → s.at' ≤ 8 * bs.length → (∀ x ∈ out, x < 18446744073709551616) → rdXF bs k was w out s = some (o, s') →
    o.length = out.length + k ∧ (∃ l, o = out ++ l) ∧ (∀ x ∈ o, x < 18446744073709551616) ∧ s.at' ≤ s'.at' ∧ s'.at' ≤ 8 * bs.length ∧ s'.bad = false
  | 0, was, w, out, s, o, s', hwas, ha, ho, h => by
    unfold rdXF at h
    split at h
    · cases h
    · rename_i hb
      have e := Option.some.inj h
      have e1 := congrArg Prod.fst e
      have e2 := congrArg Prod.snd e
      simp only [] at e1 e2
      subst e1 e2
      exact ⟨rfl, ⟨[], by simp⟩, ho, Nat.le_refl _, ha, by simpa using hb⟩
  | k + 1, was, w, out, s, o, s', hwas, ha, ho, h => by
    rw [rdXF] at h
    split at h
    · cases h
    · cases ht : rturnX bs w s with
      | none => rw [ht] at h; cases h
      | some r =>
        obtain ⟨x, w', s1⟩ := r
        rw [ht] at h
        simp only [] at h
        obtain ⟨hx, h1, h2⟩ := rturn_ok ht ha
        obtain ⟨c1, ⟨l, c0⟩, c2, c3, c4, c5⟩ := rdXF_ok bs k _ w' _ s1 o s' (xor_lt64 hwas hx) h2 (fun z hz => by
          rcases List.mem_append.1 hz with h | h
          · exact ho z h
          · simp at h; rw [h]; exact xor_lt64 hwas hx) h
        refine ⟨by rw [c1]; simp; omega, ⟨(was ^^^ x) :: l, by rw [c0]; simp⟩, c2, by omega, c4, c5⟩
theorem get64_lt (bs : List Nat) (s : RdSt) : (getF bs s 64).1 < 18446744073709551616 := by
  unfold getF
  split
  · show (0 : Nat) < _
    decide
  · exact getV_lt _ _ 64
/-- what the document reads is what the code reads -/
theorem refX_eq (bs : List Nat) (a : Nat) (n : Int) (ha : a ≤ 8 * bs.length) : refX bs ⟨a, false⟩ n = decX bs ⟨a, false⟩ n := by
  have fwd : ∀ r, decX bs ⟨a, false⟩ n = some r → refX bs ⟨a, false⟩ n = some r := by
    rintro ⟨o, s'⟩ h
    unfold decX at h
    unfold refX rdX
    cases hn : heldM n with
    | zero =>
      rw [hn] at h
      simp only [] at h ⊢
      rw [if_neg (by decide)] at h ⊢
      have e := Option.some.inj h
      have e1 := congrArg Prod.fst e
      have e2 := congrArg Prod.snd e
      simp only [] at e1 e2
      subst e1 e2
      simp [encX, bitsAt]
    | succ k =>
      rw [hn] at h
      simp only [] at h ⊢
      rw [if_neg (by decide)]
      obtain ⟨v, s1, e1⟩ : ∃ v s1, getF bs ⟨a, false⟩ 64 = (v, s1) := ⟨_, _, rfl⟩
      have hv := get64_lt bs ⟨a, false⟩
      rw [e1] at h hv ⊢
      simp only [] at h hv ⊢
      split at h
      · cases h
      · rename_i hb
        obtain ⟨_, k1, k2, k3⟩ := getF_ok e1 ha (by simpa using hb)
        rw [heldc64] at k1 k2 k3
        simp only [] at k1 k2 k3
        rw [k2] at h ⊢
        obtain ⟨l, c1, c2, c3, c4, c5, c6, c7⟩ := run_dec bs k v _ _ _ o s' winOK0 hv k3 h
        rw [c7]
        simp only []
        have eo : encX o = bitsOf v 64 ++ encG v ⟨false, 0, 0⟩ l := by rw [c1]; rfl
        have hlen : s'.at' - a = (encX o).length := by
          rw [c4, eo, List.length_append, bitsOf_len]
          show a + 64 + _ - a = _
          omega
        rw [if_pos]
        rw [hlen, eo]
        refine app_join ?_ ?_
        · rw [bitsOf_len, k1, bitsOf_getV]
        · rw [bitsOf_len]; exact c6
  have bwd : ∀ r, refX bs ⟨a, false⟩ n = some r → decX bs ⟨a, false⟩ n = some r := by
    rintro ⟨o, s'⟩ h
    unfold refX rdX at h
    unfold decX
    cases hn : heldM n with
    | zero =>
      rw [hn] at h
      simp only [] at h ⊢
      rw [if_neg (by decide)] at h ⊢
      simp only [] at h
      split at h
      · exact h
      · cases h
    | succ k =>
      rw [hn] at h
      simp only [] at h ⊢
      rw [if_neg (by decide)] at h
      obtain ⟨v, s1, e1⟩ : ∃ v s1, getF bs ⟨a, false⟩ 64 = (v, s1) := ⟨_, _, rfl⟩
      have hv := get64_lt bs ⟨a, false⟩
      have a1 := getF_atL bs ⟨a, false⟩ 64 ha
      have m1 := getF_mono bs ⟨a, false⟩ 64
      rw [e1] at h hv a1 m1 ⊢
      simp only [] at h hv a1 m1 ⊢
      cases hr : rdXF bs k v ⟨false, 0, 0⟩ [v] s1 with
      | none => rw [hr] at h; cases h
      | some r =>
        obtain ⟨o1, s2⟩ := r
        rw [hr] at h
        simp only [] at h
        split at h
        · rename_i hbits
          have e := Option.some.inj h
          have q1 := congrArg Prod.fst e
          have q2 := congrArg Prod.snd e
          simp only [] at q1 q2
          subst q1 q2
          obtain ⟨c1, ⟨l, c0⟩, c2, c3, c4, c5⟩ := rdXF_ok bs k v _ _ s1 o1 s2 hv a1 (by simpa using hv) hr
          have eo : encX o1 = bitsOf v 64 ++ encG v ⟨false, 0, 0⟩ l := by rw [c0]; rfl
          have hlen : (encX o1).length = s2.at' - a := by rw [hbits, bitsAt_len]
          rw [eo] at hlen hbits
          rw [← hlen] at hbits
          obtain ⟨b1, b2⟩ := app_split hbits
          rw [List.length_append, bitsOf_len] at hlen
          rw [bitsOf_len] at b2
          have g1 := getF_of (bs := bs) (a := a) (n := 64) (by rw [heldc64]; omega)
          rw [e1, heldc64] at g1
          have es := congrArg Prod.snd g1
          simp only [] at es
          rw [if_neg (by rw [es]; simp), es]
          have hlk : l.length = k := by rw [c0] at c1; simp at c1; omega
          have hd := dec_run bs l v ⟨false, 0, 0⟩ [v] (a + 64) winOK0 hv (fun x hx => c2 x (by rw [c0]; simp [hx])) b2 (by omega)
          rw [hlk] at hd
          rw [hd, c0]
          congr 2
          obtain ⟨sa, sb⟩ := s2
          simp only [] at c5 hlen
          subst c5
          congr 1
          omega
        · cases h
  cases hd : decX bs ⟨a, false⟩ n with
  | some r => exact fwd r hd
  | none =>
    cases hr : refX bs ⟨a, false⟩ n with
    | none => rfl
    | some r => rw [bwd r hr] at hd; cases hd
/-- what is told is read, whatever stands behind -/
theorem decX_encX {v ys : List Nat} {n : Int} (hn : v.length = heldM n) (hw : ∀ x ∈ v, x < 18446744073709551616) (hy : ∀ d ∈ ys, d < 2) :
    decX (pack (encX v ++ ys)) ⟨0, false⟩ n = some (v, ⟨(encX v).length, false⟩) := by
  have hb := bitsAt_pack (encX v) ys (bok_app (encX_bit v) hy)
  have hp := pack_len (encX v ++ ys)
  rw [List.length_append] at hp
  generalize pack (encX v ++ ys) = bs at *
  unfold decX
  cases v with
  | nil =>
    rw [← hn]
    rfl
  | cons x l =>
    rw [← hn]
    simp only [List.length_cons]
    have ex : encX (x :: l) = bitsOf x 64 ++ encG x ⟨false, 0, 0⟩ l := rfl
    rw [ex] at hb hp ⊢
    rw [List.length_append, bitsOf_len] at hp ⊢
    obtain ⟨b1, b2⟩ := app_split hb.symm
    rw [bitsOf_len, Nat.zero_add] at b2
    rw [bitsOf_len] at b1
    have hx := hw x (by simp)
    have g1 := getF_of (bs := bs) (a := 0) (n := 64) (by rw [heldc64]; omega)
    rw [heldc64, getV_of b1, Nat.mod_eq_of_lt (by exact hx), Nat.zero_add] at g1
    rw [g1]
    simp only []
    rw [if_neg (by decide), dec_run bs l x ⟨false, 0, 0⟩ [x] 64 winOK0 hx (fun z hz => hw z (by simp [hz])) b2 (by omega)]
    rfl
end Go.Proofs.YtdpnpipninggeaaGreatDoor

/- Sums of bytes: a step is eight shifts of the whole state, and shifts are linear and lose nothing. In plain Lean. -/
set_option linter.unusedSimpArgs false
set_option linter.unusedVariables false
namespace Go.Proofs.YtdpnpipninggeaaGreatDoor
open Go

def S1 (c : BitVec 32) : BitVec 32 := (c >>> 1) ^^^ (if c.getLsbD 0 then 0x82F63B78#32 else 0#32)
def S8 (c : BitVec 32) : BitVec 32 := S1 (S1 (S1 (S1 (S1 (S1 (S1 (S1 c)))))))
/- the same in numbers -/
def entS (c : Nat) : Nat := if c % 2 = 1 then (c / 2) ^^^ 2197175160 else c / 2
def entN : Nat → Nat → Nat
  | 0, c => c
  | k + 1, c => entN k (entS c)
def entF (i : Nat) : Nat := entN 8 i
theorem entS_bv (c : BitVec 32) : entS c.toNat = (S1 c).toNat := by
  unfold entS S1
  have h0 : c.getLsbD 0 = decide (c.toNat % 2 = 1) := by
    rw [BitVec.getLsbD, Nat.testBit_zero]
  rw [h0]
  by_cases h : c.toNat % 2 = 1
  · rw [if_pos h]
    simp [h, BitVec.toNat_xor, BitVec.toNat_ushiftRight, Nat.shiftRight_eq_div_pow]
  · rw [if_neg h]
    simp [h, BitVec.toNat_ushiftRight, Nat.shiftRight_eq_div_pow]
theorem entF_bv (c : BitVec 32) : entF c.toNat = (S8 c).toNat := by
  simp only [entF, entN, S8, entS_bv]
theorem entF_lt (i : Nat) (h : i < 4294967296) : entF i < 4294967296 := by
  have : entF i = (S8 (BitVec.ofNat 32 i)).toNat := by
    rw [← entF_bv, BitVec.toNat_ofNat, Nat.mod_eq_of_lt h]
  rw [this]
  exact (S8 _).isLt
/-- one byte more, by a table -/
def stepT (T : List Nat) (c x : Nat) : Nat := T.getD ((c % 256) ^^^ x) 0 ^^^ (c / 256)
def sumT (T : List Nat) (bs : List Nat) : Nat := bs.foldl (stepT T) 4294967295 ^^^ 4294967295
/-- one byte more, as the document says -/
def stepR (c x : Nat) : Nat := entF ((c ^^^ x) % 256) ^^^ (c / 256)
def sumR (bs : List Nat) : Nat := bs.foldl stepR 4294967295 ^^^ 4294967295
def tblL : List Nat := (List.range 256).map entF
theorem tblL_get (i : Nat) (h : i < 256) : tblL.getD i 0 = entF i := by
  simp [tblL, List.getD, h]
theorem tblL_len : tblL.length = 256 := by simp [tblL]
theorem xor_mod (c x : Nat) (hx : x < 256) : (c % 256) ^^^ x = (c ^^^ x) % 256 := by
  have h := Nat.xor_mod_two_pow (a := c) (b := x) (n := 8)
  rw [show (2 : Nat) ^ 8 = 256 from rfl] at h
  rw [h, Nat.mod_eq_of_lt hx]
theorem step_same (c x : Nat) (hx : x < 256) : stepT tblL c x = stepR c x := by
  unfold stepT stepR
  rw [xor_mod c x hx, tblL_get _ (Nat.mod_lt _ (by decide))]
end Go.Proofs.YtdpnpipninggeaaGreatDoor

/- Sums of bytes: rows laid on each other; a turn within four bytes is told. In plain Lean. -/
set_option linter.unusedSimpArgs false
set_option linter.unusedVariables false
namespace Go.Proofs.YtdpnpipninggeaaGreatDoor
open Go

def bx (x : Nat) : BitVec 32 := BitVec.ofNat 32 x
def runB (c : BitVec 32) (bs : List Nat) : BitVec 32 := bs.foldl (fun c x => S8 (c ^^^ bx x)) c
def ones : BitVec 32 := BitVec.ofNat 32 4294967295
/- a turn within four bytes -/
def S8n : Nat → BitVec 32 → BitVec 32
  | 0, c => c
  | n + 1, c => S8n n (S8 c)
def word : List Nat → BitVec 32
  | [] => 0#32
  | d :: ds => bx d ^^^ (word ds <<< 8)
end Go.Proofs.YtdpnpipninggeaaGreatDoor
