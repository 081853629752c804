/- Bits in bytes, eight to a byte, the first one highest. In plain Lean. -/
import Derived.Test.YtjibmfkhhljhcaaNum
set_option linter.unusedSimpArgs false
set_option linter.unusedVariables false
namespace Go.Proofs.Ytjibmfkhhljhcaa
open Go

/-- how many bits a number may have -/
def heldF (n : Int) : Nat := (min (max n 0) 64).toNat
/-- the 'k' lowest bits of a number, the highest first -/
def bitsOf : Nat → Nat → List Nat
  | _, 0 => []
  | v, k + 1 => (v / 2 ^ k) % 2 :: bitsOf v k
theorem bitsOf_len : ∀ (v k : Nat), (bitsOf v k).length = k
  | _, 0 => rfl
  | v, k + 1 => by simp [bitsOf, bitsOf_len v k]
theorem bitsOf_bit : ∀ (v k : Nat), ∀ d ∈ bitsOf v k, d < 2
  | _, 0 => by simp [bitsOf]
  | v, k + 1 => by
    intro d hd
    rcases List.mem_cons.1 hd with rfl | hd
    · exact Nat.mod_lt _ (by decide)
    · exact bitsOf_bit v k d hd
/-- one bit more behind 'n' bits -/
def putBit (bs : List Nat) (n d : Nat) : List Nat :=
  if n % 8 = 0 then bs ++ [d * 2 ^ 7] else bs.set (n / 8) (bs.getD (n / 8) 0 ||| d * 2 ^ (7 - n % 8))
def packF : List Nat → Nat → List Nat → List Nat
  | bs, _, [] => bs
  | bs, n, d :: ds => packF (putBit bs n d) (n + 1) ds
def pack (ds : List Nat) : List Nat := packF [] 0 ds
theorem packF_append : ∀ (a b : List Nat) (bs : List Nat) (n : Nat), packF bs n (a ++ b) = packF (packF bs n a) (n + a.length) b
  | [], b, bs, n => rfl
  | d :: a, b, bs, n => by
    rw [List.cons_append, packF, packF_append a b, packF, List.length_cons]
    congr 1
    omega
theorem pack_append (a b : List Nat) : pack (a ++ b) = packF (pack a) a.length b := by
  unfold pack
  rw [packF_append, Nat.zero_add]
theorem pack_snoc (a : List Nat) (d : Nat) : pack (a ++ [d]) = putBit (pack a) a.length d := pack_append a [d]
theorem putBit_len (bs : List Nat) (n d : Nat) (h : bs.length = (n + 7) / 8) : (putBit bs n d).length = (n + 1 + 7) / 8 := by
  unfold putBit
  split <;> simp <;> omega
theorem packF_len : ∀ (ds bs : List Nat) (n : Nat), bs.length = (n + 7) / 8 → (packF bs n ds).length = (n + ds.length + 7) / 8
  | [], bs, n, h => by simpa [packF] using h
  | d :: ds, bs, n, h => by
    rw [packF, packF_len ds _ _ (putBit_len bs n d h), List.length_cons]
    congr 1
    omega
theorem pack_len (ds : List Nat) : (pack ds).length = (ds.length + 7) / 8 := by
  have := packF_len ds [] 0 rfl
  rw [Nat.zero_add] at this
  exact this
theorem putBit_lt (bs : List Nat) (n d : Nat) (hd : d < 2) (hb : ∀ x ∈ bs, x < 256) : ∀ x ∈ putBit bs n d, x < 256 := by
  intro x hx
  unfold putBit at hx
  split at hx
  · rcases List.mem_append.1 hx with h | h
    · exact hb x h
    · simp at h; omega
  · rcases List.mem_or_eq_of_mem_set hx with h | h
    · exact hb x h
    · subst h
      refine Nat.or_lt_two_pow (n := 8) ?_ ?_
      · rw [List.getD]
        cases h : bs[n / 8]? with
        | none => simp
        | some y => simpa using hb y (List.mem_of_getElem? h)
      · have : 2 ^ (7 - n % 8) ≤ 2 ^ 7 := Nat.pow_le_pow_right (by decide) (by omega)
        have h2 : d * 2 ^ (7 - n % 8) ≤ 1 * 2 ^ 7 := Nat.mul_le_mul (by omega) this
        omega
theorem packF_lt : ∀ (ds bs : List Nat) (n : Nat), (∀ d ∈ ds, d < 2) → (∀ x ∈ bs, x < 256) → ∀ x ∈ packF bs n ds, x < 256
  | [], bs, n, _, h => h
  | d :: ds, bs, n, hd, h => packF_lt ds _ _ (fun y hy => hd y (by simp [hy])) (putBit_lt bs n d (hd d (by simp)) h)
theorem pack_lt (ds : List Nat) (h : ∀ d ∈ ds, d < 2) : ∀ x ∈ pack ds, x < 256 := packF_lt ds [] 0 h (by simp)
/- reading -/
def bitAt (bs : List Nat) (i : Nat) : Nat := (bs.getD (i / 8) 0 / 2 ^ (7 - i % 8)) % 2
def getV (bs : List Nat) (at' : Nat) : Nat → Nat
  | 0 => 0
  | k + 1 => 2 * getV bs at' k + bitAt bs (at' + k)
theorem bitAt_lt (bs : List Nat) (i : Nat) : bitAt bs i < 2 := Nat.mod_lt _ (by decide)
theorem getV_lt (bs : List Nat) (a : Nat) : ∀ k, getV bs a k < 2 ^ k
  | 0 => by simp [getV]
  | k + 1 => by
    have := getV_lt bs a k
    have := bitAt_lt bs (a + k)
    rw [getV, Nat.pow_succ]; omega
theorem bit_eq (x k : Nat) : x / 2 ^ k % 2 = (x.testBit k).toNat := (Nat.toNat_testBit x k).symm
theorem bit_mul (d m j : Nat) (hd : d < 2) : d * 2 ^ m / 2 ^ j % 2 = if j = m then d else 0 := by
  have h01 : d = 0 ∨ d = 1 := by omega
  rcases h01 with rfl | rfl
  · simp
  · rw [Nat.one_mul, bit_eq, Nat.testBit_two_pow]
    by_cases h : m = j
    · subst h; simp
    · have h' : ¬ j = m := fun e => h e.symm
      simp [h, h']
theorem bit_or (x y k : Nat) : (x ||| y) / 2 ^ k % 2 = ((x / 2 ^ k % 2) ||| (y / 2 ^ k % 2)) := by
  rw [bit_eq, bit_eq, bit_eq, Nat.testBit_or]
  cases x.testBit k <;> cases y.testBit k <;> rfl
theorem bitAt_put (bs : List Nat) (n d i : Nat) (hl : bs.length = (n + 7) / 8) (hd : d < 2) (h0 : bitAt bs n = 0) : bitAt (putBit bs n d) i = if i = n then d else bitAt bs i := by
  unfold bitAt putBit
  by_cases h8 : n % 8 = 0
  · rw [if_pos h8]
    by_cases hi : i / 8 < bs.length
    · have hne : i ≠ n := by intro e; subst e; omega
      rw [if_neg hne]
      simp [List.getD, List.getElem?_append_left hi]
    · by_cases hi2 : i / 8 = bs.length
      · have e : (bs ++ [d * 2 ^ 7]).getD (i / 8) 0 = d * 2 ^ 7 := by
          rw [hi2]; simp [List.getD]
        rw [e, bit_mul d 7 _ hd]
        have e2 : bs.getD (i / 8) 0 = 0 := by rw [hi2]; simp [List.getD]
        rw [e2]
        by_cases hin : i = n
        · subst hin; rw [if_pos rfl, if_pos (by omega)]
        · rw [if_neg hin, if_neg (by omega)]; simp
      · have hgt : bs.length < i / 8 := by omega
        have e : (bs ++ [d * 2 ^ 7]).getD (i / 8) 0 = 0 := by
          simp only [List.getD]; rw [List.getElem?_eq_none (by simp; omega)]; rfl
        have e2 : bs.getD (i / 8) 0 = 0 := by
          simp only [List.getD]; rw [List.getElem?_eq_none (by omega)]; rfl
        rw [e, e2, if_neg (by intro e; subst e; omega)]
  · rw [if_neg h8]
    by_cases hi : i / 8 = n / 8
    · have e : (bs.set (n / 8) (bs.getD (n / 8) 0 ||| d * 2 ^ (7 - n % 8))).getD (i / 8) 0 = (bs.getD (n / 8) 0 ||| d * 2 ^ (7 - n % 8)) := by
        rw [hi]; simp only [List.getD]; rw [List.getElem?_set_self (by omega)]; rfl
      rw [e, bit_or, bit_mul _ _ _ hd, hi]
      by_cases hin : i = n
      · subst hin
        unfold bitAt at h0
        rw [if_pos rfl, if_pos rfl, h0]; simp
      · rw [if_neg hin, if_neg (by omega)]; simp
    · have e : (bs.set (n / 8) (bs.getD (n / 8) 0 ||| d * 2 ^ (7 - n % 8))).getD (i / 8) 0 = bs.getD (i / 8) 0 := by
        simp only [List.getD]; rw [List.getElem?_set_ne (fun e => hi e.symm)]
      rw [e, if_neg (fun e => hi (by rw [e]))]
theorem bitAt_packF : ∀ (ds bs : List Nat) (n : Nat), bs.length = (n + 7) / 8 → (∀ d ∈ ds, d < 2) → (∀ i, n ≤ i → bitAt bs i = 0) →
    ∀ i, bitAt (packF bs n ds) i = if i < n then bitAt bs i else ds.getD (i - n) 0
  | [], bs, n, _, _, h0, i => by
    by_cases h : i < n
    · simp [packF, h]
    · simp [packF, h, h0 i (by omega)]
  | d :: ds, bs, n, hl, hd, h0, i => by
    have hd0 := hd d (by simp)
    have hput := fun j => bitAt_put bs n d j hl hd0 (h0 n (Nat.le_refl _))
    rw [packF, bitAt_packF ds _ (n + 1) (putBit_len bs n d hl) (fun x hx => hd x (by simp [hx])) (fun j hj => by rw [hput, if_neg (by omega)]; exact h0 j (by omega)) i, hput]
    by_cases h1 : i < n
    · rw [if_pos (by omega), if_neg (by omega), if_pos h1]
    · rw [if_neg h1]
      by_cases h2 : i = n
      · subst h2; rw [if_pos (by omega), if_pos rfl]; simp
      · rw [if_neg (by omega)]
        have : i - n = (i - (n + 1)) + 1 := by omega
        rw [this]; simp [List.getD]
theorem bitAt_pack (ds : List Nat) (hd : ∀ d ∈ ds, d < 2) (i : Nat) : bitAt (pack ds) i = ds.getD i 0 := by
  have := bitAt_packF ds [] 0 rfl hd (fun i _ => by simp [bitAt]) i
  rw [if_neg (by omega), Nat.sub_zero] at this
  exact this
/-- bits as a number -/
def valOf : List Nat → Nat → Nat
  | [], a => a
  | d :: ds, a => valOf ds (2 * a + d)
theorem valOf_bits (v : Nat) : ∀ (k a : Nat), valOf (bitsOf v k) a = a * 2 ^ k + v % 2 ^ k
  | 0, a => by simp [bitsOf, valOf, Nat.mod_one]
  | k + 1, a => by
    rw [bitsOf, valOf, valOf_bits v k, Nat.pow_succ, Nat.mod_mul, Nat.add_mul]
    have e1 : 2 * a * 2 ^ k = a * (2 ^ k * 2) := by rw [Nat.mul_comm 2 a, Nat.mul_assoc, Nat.mul_comm 2]
    rw [e1, Nat.mul_comm (v / 2 ^ k % 2)]
    omega
theorem getV_app (ds : List Nat) (bs : List Nat) : ∀ (es : List Nat) (a m : Nat), (∀ j d, es[j]? = some d → bitAt bs (a + m + j) = d) → getV bs a (m + es.length) = valOf es (getV bs a m)
  | [], a, m, _ => by simp [valOf]
  | e :: es, a, m, h => by
    rw [valOf, List.length_cons, show m + (es.length + 1) = (m + 1) + es.length by omega, getV_app ds bs es a (m + 1) (fun j d hj => by
      rw [show a + (m + 1) + j = a + m + (j + 1) by omega]; exact h (j + 1) d (by simpa using hj)), getV, ← Nat.add_zero (a + m), h 0 e rfl]
/-- what was put is read -/
theorem getV_pack (xs ys zs : List Nat) (hd : ∀ d ∈ xs ++ ys ++ zs, d < 2) : getV (pack (xs ++ ys ++ zs)) xs.length ys.length = valOf ys 0 := by
  have := getV_app [] (pack (xs ++ ys ++ zs)) ys xs.length 0 (fun j d hj => by
    rw [bitAt_pack _ hd, Nat.add_zero]
    have hlt := (List.getElem?_eq_some_iff.1 hj).1
    simp only [List.getD]
    rw [List.append_assoc, List.getElem?_append_right (by omega), List.getElem?_append_left (by omega), show xs.length + j - xs.length = j by omega, hj]; rfl)
  rw [Nat.zero_add] at this
  exact this
theorem getV_bits (xs zs : List Nat) (v k : Nat) (hx : ∀ d ∈ xs, d < 2) (hz : ∀ d ∈ zs, d < 2) : getV (pack (xs ++ bitsOf v k ++ zs)) xs.length k = v % 2 ^ k := by
  have := getV_pack xs (bitsOf v k) zs (fun d hd => by
    rcases List.mem_append.1 hd with h | h
    · rcases List.mem_append.1 h with h | h
      · exact hx d h
      · exact bitsOf_bit v k d h
    · exact hz d h)
  rw [bitsOf_len, valOf_bits] at this
  simpa using this
/-- behind what was put there is nothing -/
theorem getV_none (bs : List Nat) (a : Nat) : ∀ k, (∀ j, j < k → bitAt bs (a + j) = 0) → getV bs a k = 0
  | 0, _ => rfl
  | k + 1, h => by rw [getV, getV_none bs a k (fun j hj => h j (by omega)), h k (by omega)]
theorem getV_left (ds : List Nat) (hd : ∀ d ∈ ds, d < 2) (k : Nat) : getV (pack ds) ds.length k = 0 :=
  getV_none _ _ k (fun j _ => by rw [bitAt_pack ds hd]; simp only [List.getD]; rw [List.getElem?_eq_none (by omega)]; rfl)
theorem bitsOf_split (v : Nat) : ∀ (m k : Nat), bitsOf v (m + k) = bitsOf (v / 2 ^ k) m ++ bitsOf v k
  | 0, k => by simp [bitsOf]
  | m + 1, k => by
    rw [show m + 1 + k = (m + k) + 1 by omega, bitsOf, bitsOf_split v m k, bitsOf, List.cons_append]
    congr 2
    rw [Nat.div_div_eq_div_mul, ← Nat.pow_add, Nat.add_comm k m]
/-- a reader, and what it gives -/
structure RdSt where
  at' : Nat
  bad : Bool
def leftF (bs : List Nat) (s : RdSt) : Nat := if s.bad then 0 else 8 * bs.length - s.at'
def getF (bs : List Nat) (s : RdSt) (n : Int) : Nat × RdSt :=
  if s.bad = true ∨ leftF bs s < heldF n then (0, ⟨s.at', true⟩) else (getV bs s.at' (heldF n), ⟨s.at' + heldF n, false⟩)
theorem bok_nil : ∀ d ∈ ([] : List Nat), d < 2 := by simp
theorem bok_app {a b : List Nat} (ha : ∀ d ∈ a, d < 2) (hb : ∀ d ∈ b, d < 2) : ∀ d ∈ a ++ b, d < 2 := fun d h => (List.mem_append.1 h).elim (ha d) (hb d)
end Go.Proofs.Ytjibmfkhhljhcaa
