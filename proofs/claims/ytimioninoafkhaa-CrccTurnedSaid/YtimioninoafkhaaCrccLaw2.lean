/- Sums of bytes: rows laid on each other; a turn within four bytes is told. In plain Lean. -/
import Derived.Test.YtimioninoafkhaaCrccLaw
set_option linter.unusedSimpArgs false
set_option linter.unusedVariables false
namespace Go.Proofs.Ytimioninoafkhaa
open Go

def bx (x : Nat) : BitVec 32 := BitVec.ofNat 32 x
def runB (c : BitVec 32) (bs : List Nat) : BitVec 32 := bs.foldl (fun c x => S8 (c ^^^ bx x)) c
theorem runB_cons (c : BitVec 32) (x : Nat) (bs : List Nat) : runB c (x :: bs) = runB (S8 (c ^^^ bx x)) bs := rfl
theorem runB_append (c : BitVec 32) (a b : List Nat) : runB c (a ++ b) = runB (runB c a) b := by simp [runB]
theorem run_bv : ∀ (bs : List Nat) (c : BitVec 32), (∀ x ∈ bs, x < 256) → bs.foldl stepR c.toNat = (runB c bs).toNat
  | [], _, _ => rfl
  | x :: bs, c, h => by
    rw [List.foldl_cons, stepR_bv c x (h x (by simp)), runB_cons]
    exact run_bv bs _ (fun y hy => h y (by simp [hy]))
theorem bx_xor (a b : Nat) : bx (a ^^^ b) = bx a ^^^ bx b := BitVec.ofNat_xor ..
theorem xor4 (x y p q : BitVec 32) : (x ^^^ p) ^^^ (y ^^^ q) = (x ^^^ y) ^^^ (p ^^^ q) := by
  rw [BitVec.xor_assoc, ← BitVec.xor_assoc p y q, BitVec.xor_comm p y, BitVec.xor_assoc y p q, ← BitVec.xor_assoc]
theorem run_lin : ∀ (a b : List Nat) (p q : BitVec 32), a.length = b.length → runB (p ^^^ q) (List.zipWith (· ^^^ ·) a b) = runB p a ^^^ runB q b
  | [], [], p, q, _ => rfl
  | x :: a, y :: b, p, q, h => by
    rw [List.zipWith_cons_cons, runB_cons, runB_cons, runB_cons, bx_xor, ← xor4, S8_lin]
    exact run_lin a b _ _ (by simpa using h)
theorem foldl_lt : ∀ (bs : List Nat) (c : Nat), c < 4294967296 → (∀ x ∈ bs, x < 256) → bs.foldl stepR c < 4294967296 := by
  intro bs c hc h
  have := run_bv bs (BitVec.ofNat 32 c) h
  rw [BitVec.toNat_ofNat, Nat.mod_eq_of_lt hc] at this
  rw [this]
  exact (runB _ _).isLt
def ones : BitVec 32 := BitVec.ofNat 32 4294967295
theorem sumR_bv (bs : List Nat) (h : ∀ x ∈ bs, x < 256) : sumR bs = (runB ones bs ^^^ ones).toNat := by
  unfold sumR
  have := run_bv bs ones h
  rw [show ones.toNat = 4294967295 from rfl] at this
  rw [this, BitVec.toNat_xor]
  rfl
theorem sumR_lt (bs : List Nat) (h : ∀ x ∈ bs, x < 256) : sumR bs < 4294967296 := by
  rw [sumR_bv bs h]; exact BitVec.isLt _
theorem zip_lt {a b : List Nat} (ha : ∀ x ∈ a, x < 256) (hb : ∀ x ∈ b, x < 256) : ∀ x ∈ List.zipWith (· ^^^ ·) a b, x < 256 := by
  intro x hx
  induction a generalizing b with
  | nil => simp at hx
  | cons u a ih =>
    cases b with
    | nil => simp at hx
    | cons v b =>
      rw [List.zipWith_cons_cons] at hx
      rcases List.mem_cons.1 hx with rfl | hx
      · exact Nat.xor_lt_two_pow (n := 8) (ha u (by simp)) (hb v (by simp))
      · exact ih (fun y hy => ha y (by simp [hy])) (fun y hy => hb y (by simp [hy])) hx
/-- three rows laid on each other -/
theorem sum_linear (a b c : List Nat) (h1 : a.length = b.length) (h2 : a.length = c.length) (ha : ∀ x ∈ a, x < 256) (hb : ∀ x ∈ b, x < 256) (hc : ∀ x ∈ c, x < 256) :
    sumR (List.zipWith (· ^^^ ·) (List.zipWith (· ^^^ ·) a b) c) = sumR a ^^^ sumR b ^^^ sumR c := by
  have hab := zip_lt ha hb
  rw [sumR_bv _ (zip_lt hab hc), sumR_bv a ha, sumR_bv b hb, sumR_bv c hc, ← BitVec.toNat_xor, ← BitVec.toNat_xor]
  congr 1
  have e1 := run_lin a b ones ones h1
  have e2 := run_lin (List.zipWith (· ^^^ ·) a b) c (ones ^^^ ones) ones (by simp [← h1, h2])
  rw [e1] at e2
  have e3 : (ones ^^^ ones) ^^^ ones = ones := by decide
  rw [e3] at e2
  rw [e2]
  rw [xor4 (runB ones a) (runB ones b) ones ones, xor4 (runB ones a ^^^ runB ones b) (runB ones c) (ones ^^^ ones) ones, e3]

/- a turn within four bytes -/
def S8n : Nat → BitVec 32 → BitVec 32
  | 0, c => c
  | n + 1, c => S8n n (S8 c)
theorem S8n_inj : ∀ (n : Nat) (c : BitVec 32), S8n n c = 0#32 → c = 0#32
  | 0, _, h => h
  | n + 1, c, h => S8_inj c (S8n_inj n (S8 c) h)
def word : List Nat → BitVec 32
  | [] => 0#32
  | d :: ds => bx d ^^^ (word ds <<< 8)
theorem word_bits : ∀ (ds : List Nat), (∀ x ∈ ds, x < 256) → ∀ i, 8 * ds.length ≤ i → (word ds).getLsbD i = false
  | [], _, i, _ => by simp [word]
  | d :: ds, h, i, hi => by
    have hd := h d (by simp)
    simp only [List.length_cons] at hi
    unfold word bx
    rw [BitVec.getLsbD_xor, BitVec.getLsbD_ofNat, BitVec.getLsbD_shiftLeft]
    have h1 : d.testBit i = false := Nat.testBit_lt_two_pow (Nat.lt_of_lt_of_le hd (by rw [show (256 : Nat) = 2 ^ 8 from rfl]; exact Nat.pow_le_pow_right (by decide) (by omega)))
    have h2 := word_bits ds (fun x hx => h x (by simp [hx])) (i - 8) (by omega)
    rw [h1, h2]
    simp
theorem S8_up (w : BitVec 32) (h : ∀ i, 24 ≤ i → w.getLsbD i = false) : S8 (w <<< 8) = w := by
  rw [S8_shift _ (fun i hi => by rw [BitVec.getLsbD_shiftLeft]; simp [hi])]
  apply BitVec.eq_of_getLsbD_eq
  intro i hi
  rw [BitVec.getLsbD_ushiftRight, BitVec.getLsbD_shiftLeft]
  by_cases h24 : i < 24
  · simp [show 8 + i < 32 by omega]
  · rw [h i (by omega)]
    simp [show ¬ 8 + i < 32 by omega]
theorem run_word : ∀ (ds : List Nat) (c : BitVec 32), ds.length ≤ 4 → (∀ x ∈ ds, x < 256) → runB c ds = S8n ds.length (c ^^^ word ds)
  | [], c, _, _ => by simp [runB, word, S8n]
  | d :: ds, c, hl, h => by
    simp only [List.length_cons] at hl
    have hw := word_bits ds (fun x hx => h x (by simp [hx]))
    rw [runB_cons, run_word ds _ (by omega) (fun x hx => h x (by simp [hx]))]
    simp only [List.length_cons, S8n, word]
    congr 1
    rw [← BitVec.xor_assoc, S8_lin (c ^^^ bx d), S8_up (word ds) (fun i hi => hw i (by omega))]
theorem word_zero : ∀ (ds : List Nat), ds.length ≤ 4 → (∀ x ∈ ds, x < 256) → word ds = 0#32 → ∀ x ∈ ds, x = 0
  | [], _, _, _ => by simp
  | d :: ds, hl, h, hz => by
    simp only [List.length_cons] at hl
    have hd := h d (by simp)
    have hds : ∀ x ∈ ds, x < 256 := fun x hx => h x (by simp [hx])
    have hd0 : d = 0 := by
      apply Nat.eq_of_testBit_eq
      intro i
      rw [Nat.zero_testBit]
      by_cases hi : i < 8
      · have := congrArg (fun b => b.getLsbD i) hz
        unfold word bx at this
        simp only [BitVec.getLsbD_xor, BitVec.getLsbD_ofNat, BitVec.getLsbD_shiftLeft] at this
        simpa [hi, show i < 32 by omega] using this
      · exact Nat.testBit_lt_two_pow (Nat.lt_of_lt_of_le hd (by rw [show (256 : Nat) = 2 ^ 8 from rfl]; exact Nat.pow_le_pow_right (by decide) (by omega)))
    have hw0 : word ds = 0#32 := by
      have hw := word_bits ds hds
      have : word ds <<< 8 = 0#32 := by
        unfold word at hz
        rw [hd0] at hz
        simpa [bx] using hz
      have h2 := S8_up (word ds) (fun i hi => hw i (by omega))
      rw [this, S8_zero] at h2
      exact h2.symm
    intro x hx
    rcases List.mem_cons.1 hx with rfl | hx
    · exact hd0
    · exact word_zero ds (by omega) hds hw0 x hx
theorem run_zeros : ∀ (n : Nat) (c : BitVec 32), runB c (List.replicate n 0) = S8n n c
  | 0, c => rfl
  | n + 1, c => by
    rw [List.replicate_succ, runB_cons, run_zeros n]
    simp [S8n, bx]
theorem S8n_zero : ∀ n, S8n n 0#32 = 0#32
  | 0 => rfl
  | n + 1 => by rw [S8n, S8_zero]; exact S8n_zero n
theorem zip_self : ∀ (a : List Nat), List.zipWith (· ^^^ ·) a a = List.replicate a.length 0
  | [] => rfl
  | x :: a => by rw [List.zipWith_cons_cons, zip_self a, Nat.xor_self]; rfl
theorem zip_back : ∀ (m cs : List Nat), m.length = cs.length → List.zipWith (· ^^^ ·) (List.zipWith (· ^^^ ·) m cs) m = cs
  | [], [], _ => rfl
  | x :: m, c :: cs, h => by
    rw [List.zipWith_cons_cons, List.zipWith_cons_cons, zip_back m cs (by simpa using h), Nat.xor_comm x c, Nat.xor_assoc, Nat.xor_self, Nat.xor_zero]
/-- bytes of which up to four in a row are turned have the same sum only if none is -/
theorem sum_turned (pre mid post cs : List Nat) (hl : mid.length = cs.length) (h4 : cs.length ≤ 4) (hp : ∀ x ∈ pre, x < 256) (hm : ∀ x ∈ mid, x < 256) (hq : ∀ x ∈ post, x < 256) (hc : ∀ x ∈ cs, x < 256) :
    sumR (pre ++ List.zipWith (· ^^^ ·) mid cs ++ post) = sumR (pre ++ mid ++ post) ↔ ∀ c ∈ cs, c = 0 := by
  have hz := zip_lt hm hc
  have h1 : ∀ x ∈ pre ++ List.zipWith (· ^^^ ·) mid cs ++ post, x < 256 := by
    intro x hx
    rcases List.mem_append.1 hx with hx | hx
    · rcases List.mem_append.1 hx with hx | hx
      · exact hp x hx
      · exact hz x hx
    · exact hq x hx
  have h2 : ∀ x ∈ pre ++ mid ++ post, x < 256 := by
    intro x hx
    rcases List.mem_append.1 hx with hx | hx
    · rcases List.mem_append.1 hx with hx | hx
      · exact hp x hx
      · exact hm x hx
    · exact hq x hx
  have hd := run_lin (pre ++ List.zipWith (· ^^^ ·) mid cs ++ post) (pre ++ mid ++ post) ones ones (by simp [hl])
  have hzip : List.zipWith (· ^^^ ·) (pre ++ List.zipWith (· ^^^ ·) mid cs ++ post) (pre ++ mid ++ post) = List.replicate pre.length 0 ++ cs ++ List.replicate post.length 0 := by
    rw [List.zipWith_append (by simp [hl]), List.zipWith_append rfl, zip_self, zip_self, zip_back mid cs hl]
  rw [hzip, show ones ^^^ ones = 0#32 by decide, runB_append, runB_append, run_zeros, run_zeros, S8n_zero, run_word cs _ h4 hc, BitVec.zero_xor] at hd
  have hx : ∀ (A B : BitVec 32), A ^^^ B = 0#32 ↔ A = B := by
    intro A B
    constructor
    · intro h
      have := congrArg (· ^^^ B) h
      simpa [BitVec.xor_assoc] using this
    · rintro rfl; simp
  rw [sumR_bv _ h1, sumR_bv _ h2]
  constructor
  · intro he
    have he := BitVec.eq_of_toNat_eq he
    have he2 : runB ones (pre ++ List.zipWith (· ^^^ ·) mid cs ++ post) = runB ones (pre ++ mid ++ post) := by
      have := congrArg (· ^^^ ones) he
      simpa [BitVec.xor_assoc] using this
    rw [(hx _ _).2 he2] at hd
    exact word_zero cs h4 hc (S8n_inj _ _ (S8n_inj _ _ hd))
  · intro h0
    have hw : word cs = 0#32 := by
      clear hd hzip hl h4 h1 hz hc
      induction cs with
      | nil => rfl
      | cons c cs ih =>
        rw [word, h0 c (by simp), ih (fun x hx => h0 x (by simp [hx]))]
        decide
    rw [hw, S8n_zero, S8n_zero] at hd
    rw [(hx _ _).1 hd.symm]
end Go.Proofs.Ytimioninoafkhaa
