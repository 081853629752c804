/- Numbers of any length: what the code of package vint does. -/
import Derived.Test.YtimioninoafkhaaVal
import Derived.Test.YtimioninoafkhaaNum
import Derived.Test.YtimioninoafkhaaTab
import Derived.Test.YtimioninoafkhaaTab
import Derived.Test.YtimioninoafkhaaNum
set_option linter.unusedSimpArgs false
set_option linter.unusedVariables false
set_option maxRecDepth 20000
namespace Go.Proofs.Ytimioninoafkhaa
open Go
attribute [local irreducible] W WL Fn Buf ROs SL eptr box Rd Src bndOK WD RB

theorem clip_c (ρ : Hp) (v : Value) (cs : List Value) (n : Nat) (hl : cs.length = n * 1) :
    Fn Try.prog 42 #[v] ρ [Buf 1 v cs] (fun r => Buf 1 r cs) := by
  refine in42 rfl rfl ?_
  refine W.fact (i := 0) rfl (fun h hb => hb.sl hl (by omega)) fun hs => ?_
  refine W.seq ?_
  refine W.region ?_
  refine WL.as rfl rfl ?_
  refine WL.nil ?_
  refine W.seq ?_
  refine W.region ?_
  refine WL.mv rfl rfl ?_
  refine WL.mv rfl rfl ?_
  refine WL.len (T := Ty) rfl rfl (by assumption) rfl ?_
  refine WL.mv rfl rfl ?_
  refine WL.len (T := Ty) rfl rfl (by assumption) rfl ?_
  refine WL.clip (T := Ty) rfl rfl rfl rfl rfl rfl rfl (j := 0) rfl hl (fun u => by repeat' first | exact FL.nil | apply FL.cons) (fun u hu => ?_)
  refine WL.as rfl rfl ?_
  refine WL.nil ?_
  exact W.ret1 rfl rfl (fun h p => sepl_one.1 p)

theorem clone_c (ρ : Hp) (v : Value) (cs : List Value) (n : Nat) (hv : ROs ρ 1 v cs) (hl : cs.length = n * 1) (h1 : ∀ q ∈ cs, q.oneCell' = true) (hb : n ≤ 140737488355328) :
    Fn Try.prog 43 #[v] ρ [] (fun r => Buf 1 r cs) := by
  refine in43 rfl rfl ?_
  have hs : SL v n := hv.sl hl (by omega)
  refine W.seq ?_
  refine W.region ?_
  refine WL.as rfl rfl ?_
  refine WL.nil ?_
  refine W.seq ?_
  refine W.seq ?_
  refine W.region ?_
  refine WL.mv rfl rfl ?_
  refine WL.eqN (T := Ty) rfl rfl (by assumption) rfl ?_
  refine WL.nil ?_
  refine W.cond rfl (fun hnil => ?_) (fun _ => ?_)
  · refine W.seq ?_
    refine W.region ?_
    refine WL.as rfl rfl ?_
    refine WL.nil ?_
    refine W.nb (sz := 1) ?_
    refine W.ret1 rfl rfl (fun h p => ?_)
    have : cs = [] := by
      unfold ROs at hv
      rcases hv with ⟨_, h⟩ | ⟨a, rfl, h⟩ | ⟨b, off, m, c, buf, T, fr, rfl, _⟩
      · exact h
      · exact h
      · simp [isNil] at hnil
    rw [this]
    exact sepl_one.1 p
  · refine W.skip ?_
    refine W.seq ?_
    refine W.region ?_
    refine WL.bs (T := Ty) rfl rfl rfl rfl rfl rfl rfl rfl (by repeat' first | exact FL.nil | apply FL.cons) (fun _ _ => ?_)
    refine WL.mv rfl rfl ?_
    refine WL.ap (T := Ty) (i := 0) (n := 0) rfl rfl rfl rfl rfl rfl rfl rfl (.ro hv) hs rfl hl h1 (by show (0 + n) * 1 ≤ _; omega) (by unfold maxLen; omega) (fun v' => by repeat' first | exact FL.nil | apply FL.cons) (fun v' hv' => ?_)
    refine WL.as rfl rfl ?_
    refine WL.nil ?_
    exact W.ret1 rfl rfl (fun h p => sepl_one.1 p)

def vputF : Nat → Nat → List Nat
  | 0, u => [u]
  | k + 1, u => if u < 128 then [u] else (u % 128 + 128) :: vputF k (u / 128)
theorem or_128 (n : Nat) (h : n < 256) : n ||| 128 = n % 128 + 128 := by
  have : ∀ m : Fin 256, (m.val ||| 128) = m.val % 128 + 128 := by decide +kernel
  exact this ⟨n, h⟩

theorem vput_byte (u : Nat) : bits .or .u8 (IntKind.u8.wrap (u : Int)) 128 = ((u % 128 + 128 : Nat) : Int) := by
  have h : u % 256 < 256 := Nat.mod_lt _ (by decide)
  rw [wrapU8, show (128 : Int) = ((128 : Nat) : Int) from rfl, bits_or rfl (by exact h) (by decide), or_128 _ h]
  congr 2
  omega
theorem vput_shift (u : Nat) : (u : Int) / 128 = ((u / 128 : Nat) : Int) := by omega

theorem vput_c (ρ : Hp) (b : Value) (bs : List Nat) (u : Nat) (hb : ROs ρ 1 b (bs.map bcell)) (hu : u < 18446744073709551616) (hl : bs.length + 10 ≤ 140737488355328) :
    Fn Try.prog 21 #[b, .int .u64 (u : Int)] ρ [] (fun r => Buf 1 r ((bs ++ vputF 9 u).map bcell)) := by
  refine in21 rfl rfl ?_
  refine W.seq ?_
  refine W.region ?_
  refine WL.as rfl rfl ?_
  refine WL.nil ?_
  refine W.seq ?_
  refine W.region ?_
  refine WL.mv rfl rfl ?_
  refine WL.call (H1 := []) (H2 := []) rfl rfl (clone_c ρ b (bs.map bcell) bs.length hb (by simp) (one_bcell bs) (by omega)) (fun h p => p) (fun r => ?_)
  refine WL.call (H1 := [Buf 1 r (bs.map bcell)]) (H2 := []) rfl rfl (clip_c ρ r (bs.map bcell) bs.length (by simp)) (fun h p => p) (fun r2 => ?_)
  refine WL.as rfl rfl ?_
  refine WL.nil ?_
  refine W.seq ?_
  refine W.block ?_
  refine W.loopS (σ := Nat × List Nat × Nat × Value) (fun s => [(1, .int .u64 (s.2.2.1 : Int)), (5, s.2.2.2)]) (fun s => [Buf 1 s.2.2.2 (s.2.1.map bcell)])
    (fun s => s.2.1 ++ vputF s.1 s.2.2.1 = bs ++ vputF 9 u ∧ s.2.1.length + s.1 ≤ bs.length + 9 ∧ s.2.2.1 < 128 ^ (s.1 + 1)) (fun s => s.1) (9, bs, u, r2) ⟨rfl, rfl, trivial⟩ rfl ⟨rfl, by simp, by simp; omega⟩ ?_
  rintro ⟨k, xs, y, v⟩ ⟨h1, h2, h3⟩ next
  simp only [] at h1 h2 h3 next ⊢
  refine W.fact (i := 0) rfl (fun h hb => hb.sl (n := xs.length) (by simp) (by omega)) fun hs => ?_
  refine W.seq ?_
  refine W.seq ?_
  refine W.region ?_
  refine WL.mv rfl rfl ?_
  refine WL.geq rfl rfl rfl ?_
  refine WL.nil ?_
  refine W.condp rfl (fun hge => ?_) (fun hlt => ?_)
  · refine W.skip ?_
    refine W.seq ?_
    refine W.block ?_
    refine W.region ?_
    refine WL.mv rfl rfl ?_
    refine WL.mv rfl rfl ?_
    refine WL.cv (T := Ty) rfl rfl rfl rfl ?_
    refine WL.or rfl rfl rfl ?_
    refine WL.bs (T := Ty) rfl rfl rfl rfl rfl rfl rfl rfl (by repeat' first | exact FL.nil | apply FL.cons) (fun _ _ => ?_)
    rename_i t ht
    have hk : k ≠ 0 := by intro e; subst e; simp at h3; omega
    refine WL.ap (T := Ty) (i := 1) (n := xs.length) (m := 1) rfl rfl rfl rfl rfl rfl rfl rfl (.own 0 rfl) ht (by simp) rfl (by simp [Value.oneCell']) (by show (xs.length + 1) * 1 ≤ _; omega) (by unfold maxLen; omega) (fun v' => by repeat' first | exact FL.nil | apply FL.cons) (fun v' hv' => ?_)
    refine WL.as rfl rfl ?_
    refine WL.nil ?_
    refine W.inBlock ?_
    refine W.region ?_
    refine WL.mv rfl rfl ?_
    refine WL.shrS (c := 128) rfl rfl rfl (by omega) (by decide) ?_
    refine WL.as rfl rfl ?_
    refine WL.nil ?_
    refine W.drop 0 rfl (by repeat' first | exact FL.nil | apply FL.cons) ?_
    rw [vput_byte, vput_shift]
    obtain ⟨k, rfl⟩ : ∃ m, k = m + 1 := ⟨k - 1, by omega⟩
    refine W.sub ?_ (W.hs (fun h p => ?_) (next ⟨k, xs ++ [y % 128 + 128], y / 128, v'⟩ ⟨?_, ?_, ?_⟩ (by simp)))
    · exact ⟨rfl, rfl, trivial⟩
    · simpa [bcell] using p
    · rw [← h1]; simp [vputF]; omega
    · simp; omega
    · show y / 128 < 128 ^ (k + 1)
      rw [Nat.pow_succ] at h3; omega
  · refine W.exit rfl ?_
    refine W.seq ?_
    refine W.region ?_
    refine WL.mv rfl rfl ?_
    refine WL.mv rfl rfl ?_
    refine WL.cvK (T := Ty) rfl rfl rfl rfl (wrap_u8 ⟨by omega, by omega⟩) ?_
    refine WL.bs (T := Ty) rfl rfl rfl rfl rfl rfl rfl rfl (by repeat' first | exact FL.nil | apply FL.cons) (fun _ _ => ?_)
    rename_i t ht
    refine WL.ap (T := Ty) (i := 1) (n := xs.length) (m := 1) rfl rfl rfl rfl rfl rfl rfl rfl (.own 0 rfl) ht (by simp) rfl (by simp [Value.oneCell']) (by show (xs.length + 1) * 1 ≤ _; omega) (by unfold maxLen; omega) (fun v' => by repeat' first | exact FL.nil | apply FL.cons) (fun v' hv' => ?_)
    refine WL.as rfl rfl ?_
    refine WL.nil ?_
    refine W.drop 0 rfl (by repeat' first | exact FL.nil | apply FL.cons) ?_
    refine W.ret1 rfl rfl (fun h p => ?_)
    have e2 : vputF k y = [y] := by cases k <;> simp [vputF]; omega
    rw [← h1, e2]
    simpa [bcell] using sepl_one.1 p

/- reading -/
def vgetF : Nat → Nat → List Nat → Nat × Nat
  | _, _, [] => (0, 0)
  | i, u, c :: cs => if i = 10 ∨ (i = 9 ∧ 1 < c) ∨ (0 < i ∧ c = 0) then (0, 0) else if c < 128 then (u + c * 128 ^ i, i + 1) else vgetF (i + 1) (u + (c - 128) * 128 ^ i) cs

theorem pow7 (i : Nat) : 2 ^ (7 * i) = 128 ^ i := by rw [Nat.pow_mul]
theorem vget_shl (c i : Nat) (hi : i ≤ 9) (hc : c * 128 ^ i < 18446744073709551616) : IntKind.u64.wrap ((c : Int) * 2 ^ min ((7 * (i : Int)).toNat) IntKind.u64.bits) = ((c * 128 ^ i : Nat) : Int) := by
  have e : (7 * (i : Int)).toNat = 7 * i := by omega
  have e2 : min (7 * i) IntKind.u64.bits = 7 * i := by simp [IntKind.bits]; omega
  rw [e, e2]
  have e3 : (c : Int) * 2 ^ (7 * i) = ((c * 128 ^ i : Nat) : Int) := by rw [← pow7]; push_cast; rfl
  rw [e3, wrapU64, Nat.mod_eq_of_lt hc]
theorem or_add (u v i : Nat) (h : u < 128 ^ i) : u ||| (v * 128 ^ i) = u + v * 128 ^ i := by
  rw [← pow7] at *
  rw [Nat.mul_comm, Nat.or_comm, ← Nat.two_pow_add_eq_or_of_lt h, Nat.add_comm]
theorem and_127 (n : Nat) : n &&& 127 = n % 128 := Nat.and_two_pow_sub_one_eq_mod n 7

def RGet (r : Nat × Nat) : Value := .tuple #[.int .u64 (r.1 : Int), .int .i64 (r.2 : Int)]
theorem vget_mul (c i : Nat) (hi : i ≤ 9) (hc : c < 128) (h9 : i = 9 → c ≤ 1) : c * 128 ^ i < 18446744073709551616 := by
  rcases Nat.lt_or_ge i 9 with h | h
  · have h1 : 128 ^ i ≤ 128 ^ 8 := Nat.pow_le_pow_right (by decide) (by omega)
    have h2 : c * 128 ^ i ≤ 128 * 128 ^ 8 := Nat.mul_le_mul (by omega) h1
    have h3 : (128 : Nat) * 128 ^ 8 < 18446744073709551616 := by decide +kernel
    omega
  · have : i = 9 := by omega
    subst this
    have := h9 rfl
    have h2 : c * 128 ^ 9 ≤ 1 * 128 ^ 9 := Nat.mul_le_mul_right _ this
    have h3 : (1 : Nat) * 128 ^ 9 < 18446744073709551616 := by decide +kernel
    exact Nat.lt_of_le_of_lt h2 h3
theorem vget_or (u c i : Nat) (hu : u < 128 ^ i) (hi : i ≤ 9) (hc : c < 128) (h9 : i = 9 → c ≤ 1) :
    bits .or .u64 (u : Int) (IntKind.u64.wrap ((c : Int) * 2 ^ min ((7 * (i : Int)).toNat) IntKind.u64.bits)) = ((u + c * 128 ^ i : Nat) : Int) := by
  have hm := vget_mul c i hi hc h9
  have hu' : u < 18446744073709551616 := by
    have h1 : 128 ^ i ≤ 128 ^ 9 := Nat.pow_le_pow_right (by decide) hi
    have h2 : (128 : Nat) ^ 9 < 18446744073709551616 := by decide +kernel
    omega
  rw [vget_shl c i hi hm, bits_or rfl hu' hm, or_add u c i hu]
theorem vget_next (u c i : Nat) (hu : u < 128 ^ i) (hc : c < 128) : u + c * 128 ^ i < 128 ^ (i + 1) := by
  have h2 : c * 128 ^ i ≤ 127 * 128 ^ i := Nat.mul_le_mul_right _ (by omega)
  rw [Nat.pow_succ]; omega
theorem cell_nat {bs : List Nat} {i c : Nat} (h : bs[i]? = some c) : (bs.map bcell)[i]? = some (bcell c) := by simp [h]

theorem vget_c (ρ : Hp) (b : Value) (bs : List Nat) (hb : ROs ρ 1 b (bs.map bcell)) (hw : ∀ x ∈ bs, x < 256) (hl : bs.length ≤ 140737488355328) :
    Fn Try.prog 20 #[b] ρ [] (Just (RGet (vgetF 0 0 bs))) := by
  refine in20 rfl rfl ?_
  have hs : SL b bs.length := hb.sl (by simp) (by omega)
  refine W.seq ?_
  refine W.region ?_
  refine WL.as rfl rfl ?_
  refine WL.as rfl rfl ?_
  refine WL.nil ?_
  refine W.seq ?_
  refine W.region ?_
  refine WL.as rfl rfl ?_
  refine WL.nil ?_
  refine W.seq ?_
  refine W.seq ?_
  refine W.region ?_
  refine WL.mv rfl rfl ?_
  refine WL.len (T := Ty) rfl rfl (by assumption) rfl ?_
  refine WL.mv rfl rfl ?_
  refine WL.nil ?_
  refine W.block ?_
  refine W.loopS (σ := Nat × Nat) (fun s => [(4, .int .u64 (s.2 : Int)), (7, b), (8, .int .i64 (bs.length : Int)), (9, .int .i64 (s.1 : Int))]) (fun s => [])
    (fun s => s.1 ≤ bs.length ∧ s.1 ≤ 10 ∧ s.2 < 128 ^ s.1 ∧ vgetF s.1 s.2 (bs.drop s.1) = vgetF 0 0 bs) (fun s => bs.length - s.1) (0, 0) ⟨rfl, rfl, rfl, rfl, trivial⟩ rfl ⟨by simp, by simp, by simp, by simp⟩ ?_
  rintro ⟨i, u⟩ ⟨h1, h2, h3, h4⟩ next
  simp only [] at h1 h2 h3 h4 next ⊢
  refine W.seq ?_
  refine W.region ?_
  refine WL.lss rfl rfl rfl ?_
  refine WL.nil ?_
  refine W.seq ?_
  refine W.condp rfl (fun hlt => ?_) (fun hge => ?_)
  · have hi : i < bs.length := by omega
    obtain ⟨c, hc⟩ : ∃ c, bs[i]? = some c := ⟨_, List.getElem?_eq_getElem hi⟩
    have hc8 : c < 256 := hw c (List.mem_of_getElem? hc)
    have hdrop : bs.drop i = c :: bs.drop (i + 1) := by
      rw [List.drop_eq_getElem_cons hi]
      congr 1
      rw [List.getElem?_eq_getElem hi] at hc
      exact Option.some.inj hc
    rw [hdrop] at h4
    refine W.skip ?_
    refine W.seq ?_
    refine W.block ?_
    refine W.seq ?_
    refine W.region ?_
    refine WL.mv rfl rfl ?_
    refine WL.ix (T := Ty) rfl rfl rfl (by assumption) rfl rfl (by omega) (by omega) ?_
    refine WL.ldR (T := Ty) (v := bcell c) rfl rfl rfl rfl hb (by rw [show ((i : Int)).toNat * 1 = i by omega]; exact cell_nat hc) ?_
    unfold bcell
    have hcw : IntKind.u64.wrap (c : Int) = (c : Int) := wrap_u64 ⟨by omega, by omega⟩
    have hcw' : IntKind.u64.wrap ((c - 128 : Nat) : Int) = ((c - 128 : Nat) : Int) := wrap_u64 ⟨by omega, by omega⟩
    have hF0 : (i = 10 ∨ i = 9 ∧ 1 < c ∨ 0 < i ∧ c = 0) → vgetF 0 0 bs = (0, 0) := fun h => by rw [← h4]; simp [vgetF, h]
    by_cases h10 : i = 10
    · refine WL.as rfl rfl ?_
      refine WL.as rfl rfl ?_
      refine WL.nil ?_
      refine W.seq ?_
      refine W.block ?_
      refine W.seq ?_
      refine W.region ?_
      refine WL.mv rfl rfl ?_
      refine WL.eql rfl rfl rfl ?_
      refine WL.mv rfl rfl ?_
      refine WL.gdFn rfl rfl rfl rfl rfl (by omega) ?_
      refine WL.gdFn rfl rfl rfl rfl rfl (by omega) ?_
      refine WL.gdFn rfl rfl rfl rfl rfl (by omega) ?_
      refine WL.gdU rfl rfl rfl rfl rfl ?_
      refine WL.gdU rfl rfl rfl rfl rfl ?_
      refine WL.gdFn rfl rfl rfl rfl rfl (by omega) ?_
      refine WL.pickTp rfl rfl (by omega) rfl ?_
      refine WL.mv rfl rfl ?_
      refine WL.gdN rfl rfl rfl rfl rfl rfl ?_
      refine WL.gdN rfl rfl rfl rfl rfl rfl ?_
      refine WL.gdN rfl rfl rfl rfl rfl rfl ?_
      refine WL.gdU rfl rfl rfl rfl rfl ?_
      refine WL.gdU rfl rfl rfl rfl rfl ?_
      refine WL.gdN rfl rfl rfl rfl rfl rfl ?_
      refine WL.pickT rfl rfl rfl ?_
      refine WL.as rfl rfl ?_
      refine WL.nil ?_
      refine W.condT rfl ?_
      refine W.seq ?_
      refine W.region ?_
      refine WL.as rfl rfl ?_
      refine WL.as rfl rfl ?_
      refine WL.nil ?_
      exact W.ret2 rfl rfl rfl (fun h p => ⟨by rw [hF0 (by omega)]; rfl, p⟩)
    by_cases h9 : i = 9
    · by_cases hc1 : 1 < c
      · refine WL.as rfl rfl ?_
        refine WL.as rfl rfl ?_
        refine WL.nil ?_
        refine W.seq ?_
        refine W.block ?_
        refine W.seq ?_
        refine W.region ?_
        refine WL.mv rfl rfl ?_
        refine WL.eql rfl rfl rfl ?_
        refine WL.mv rfl rfl ?_
        refine WL.gF rfl rfl (by omega) ?_
        refine WL.mv rfl rfl ?_
        refine WL.gF rfl rfl (by omega) ?_
        refine WL.eql rfl rfl rfl ?_
        refine WL.gF rfl rfl (by omega) ?_
        refine WL.mv rfl rfl ?_
        refine WL.gT rfl rfl (by omega) ?_
        refine WL.mv rfl rfl ?_
        refine WL.gT rfl rfl (by omega) ?_
        refine WL.gtr rfl rfl rfl ?_
        refine WL.gF rfl rfl (by omega) ?_
        refine WL.pickTp rfl rfl (by omega) rfl ?_
        refine WL.pickFp rfl rfl (by omega) rfl ?_
        refine WL.mv rfl rfl ?_
        refine WL.gdFn rfl rfl rfl rfl rfl (by omega) ?_
        refine WL.gdFn rfl rfl rfl rfl rfl (by omega) ?_
        refine WL.gdFn rfl rfl rfl rfl rfl (by omega) ?_
        refine WL.gdU rfl rfl rfl rfl rfl ?_
        refine WL.gdU rfl rfl rfl rfl rfl ?_
        refine WL.gdFn rfl rfl rfl rfl rfl (by omega) ?_
        refine WL.pickTp rfl rfl (by omega) rfl ?_
        refine WL.as rfl rfl ?_
        refine WL.nil ?_
        refine W.condT rfl ?_
        refine W.seq ?_
        refine W.region ?_
        refine WL.as rfl rfl ?_
        refine WL.as rfl rfl ?_
        refine WL.nil ?_
        exact W.ret2 rfl rfl rfl (fun h p => ⟨by rw [hF0 (by omega)]; rfl, p⟩)
      by_cases hc0 : c = 0
      · refine WL.as rfl rfl ?_
        refine WL.as rfl rfl ?_
        refine WL.nil ?_
        refine W.seq ?_
        refine W.block ?_
        refine W.seq ?_
        refine W.region ?_
        refine WL.mv rfl rfl ?_
        refine WL.eql rfl rfl rfl ?_
        refine WL.mv rfl rfl ?_
        refine WL.gF rfl rfl (by omega) ?_
        refine WL.mv rfl rfl ?_
        refine WL.gF rfl rfl (by omega) ?_
        refine WL.eql rfl rfl rfl ?_
        refine WL.gF rfl rfl (by omega) ?_
        refine WL.mv rfl rfl ?_
        refine WL.gT rfl rfl (by omega) ?_
        refine WL.mv rfl rfl ?_
        refine WL.gT rfl rfl (by omega) ?_
        refine WL.gtr rfl rfl rfl ?_
        refine WL.gF rfl rfl (by omega) ?_
        refine WL.pickTp rfl rfl (by omega) rfl ?_
        refine WL.pickFp rfl rfl (by omega) rfl ?_
        refine WL.mv rfl rfl ?_
        refine WL.gF rfl rfl (by omega) ?_
        refine WL.mv rfl rfl ?_
        refine WL.gF rfl rfl (by omega) ?_
        refine WL.gtr rfl rfl rfl ?_
        refine WL.gF rfl rfl (by omega) ?_
        refine WL.mv rfl rfl ?_
        refine WL.gT rfl rfl (by omega) ?_
        refine WL.mv rfl rfl ?_
        refine WL.gT rfl rfl (by omega) ?_
        refine WL.eql rfl rfl rfl ?_
        refine WL.gF rfl rfl (by omega) ?_
        refine WL.pickTp rfl rfl (by omega) rfl ?_
        refine WL.pickFp rfl rfl (by omega) rfl ?_
        refine WL.as rfl rfl ?_
        refine WL.nil ?_
        refine W.condpT rfl (by omega) ?_
        refine W.seq ?_
        refine W.region ?_
        refine WL.as rfl rfl ?_
        refine WL.as rfl rfl ?_
        refine WL.nil ?_
        exact W.ret2 rfl rfl rfl (fun h p => ⟨by rw [hF0 (by omega)]; rfl, p⟩)
      have hF : vgetF 0 0 bs = (u + c * 128 ^ i, i + 1) := by rw [← h4, vgetF, if_neg (by omega), if_pos (by omega)]
      refine WL.as rfl rfl ?_
      refine WL.as rfl rfl ?_
      refine WL.nil ?_
      refine W.seq ?_
      refine W.block ?_
      refine W.seq ?_
      refine W.region ?_
      refine WL.mv rfl rfl ?_
      refine WL.eql rfl rfl rfl ?_
      refine WL.mv rfl rfl ?_
      refine WL.gF rfl rfl (by omega) ?_
      refine WL.mv rfl rfl ?_
      refine WL.gF rfl rfl (by omega) ?_
      refine WL.eql rfl rfl rfl ?_
      refine WL.gF rfl rfl (by omega) ?_
      refine WL.mv rfl rfl ?_
      refine WL.gT rfl rfl (by omega) ?_
      refine WL.mv rfl rfl ?_
      refine WL.gT rfl rfl (by omega) ?_
      refine WL.gtr rfl rfl rfl ?_
      refine WL.gF rfl rfl (by omega) ?_
      refine WL.pickTp rfl rfl (by omega) rfl ?_
      refine WL.pickFp rfl rfl (by omega) rfl ?_
      refine WL.mv rfl rfl ?_
      refine WL.gF rfl rfl (by omega) ?_
      refine WL.mv rfl rfl ?_
      refine WL.gF rfl rfl (by omega) ?_
      refine WL.gtr rfl rfl rfl ?_
      refine WL.gF rfl rfl (by omega) ?_
      refine WL.mv rfl rfl ?_
      refine WL.gT rfl rfl (by omega) ?_
      refine WL.mv rfl rfl ?_
      refine WL.gT rfl rfl (by omega) ?_
      refine WL.eql rfl rfl rfl ?_
      refine WL.gF rfl rfl (by omega) ?_
      refine WL.pickTp rfl rfl (by omega) rfl ?_
      refine WL.pickFp rfl rfl (by omega) rfl ?_
      refine WL.as rfl rfl ?_
      refine WL.nil ?_
      refine W.condpF rfl (by omega) ?_
      refine W.seq ?_
      refine W.region ?_
      refine WL.mv rfl rfl ?_
      refine WL.lss rfl rfl rfl ?_
      refine WL.as rfl rfl ?_
      refine WL.nil ?_
      refine W.condpT rfl (by omega) ?_
      refine W.seq ?_
      refine W.region ?_
      refine WL.mv rfl rfl ?_
      refine WL.mv rfl rfl ?_
      refine WL.cvK (T := Ty) rfl rfl rfl rfl (wrap_u64 ⟨by omega, by omega⟩) ?_
      refine WL.mv rfl rfl ?_
      refine WL.mulK rfl rfl rfl (wrap_i64 ⟨by omega, by omega⟩) ?_
      refine WL.shlS rfl rfl rfl (by omega) rfl rfl ?_
      refine WL.or rfl rfl rfl ?_
      refine WL.mv rfl rfl ?_
      refine WL.addK rfl rfl rfl (wrap_i64 ⟨by omega, by omega⟩) ?_
      refine WL.as rfl rfl ?_
      refine WL.as rfl rfl ?_
      refine WL.nil ?_
      refine W.ret2 rfl rfl rfl (fun h p => ⟨?_, p⟩)
      rw [hF, vget_or u c i h3 (by omega) (by omega) (by omega)]
      rfl
    have main : ∀ R : Prop, (∀ i0 : ¬ (0 < i ∧ c = 0), 0 < i ∨ i = 0 → R) → ((0 < i ∧ c = 0) → R) → R := fun R a b => by
      by_cases h : 0 < i ∧ c = 0
      · exact b h
      · exact a h (by omega)
    refine main _ (fun hn hi0 => ?_) (fun hbad => ?_)
    · by_cases hc128 : c < 128
      · have hF : vgetF 0 0 bs = (u + c * 128 ^ i, i + 1) := by rw [← h4, vgetF, if_neg (by omega), if_pos (by omega)]
        rcases hi0 with hi0 | hi0
        all_goals
          first
            | (refine WL.as rfl rfl ?_; refine WL.as rfl rfl ?_; refine WL.nil ?_; refine W.seq ?_; refine W.block ?_; refine W.seq ?_; refine W.region ?_; refine WL.mv rfl rfl ?_; refine WL.eql rfl rfl rfl ?_; refine WL.mv rfl rfl ?_; refine WL.gF rfl rfl (by omega) ?_; refine WL.mv rfl rfl ?_; refine WL.gF rfl rfl (by omega) ?_; refine WL.eql rfl rfl rfl ?_; refine WL.gF rfl rfl (by omega) ?_; refine WL.mv rfl rfl ?_; refine WL.gdTn rfl rfl rfl rfl rfl (by omega) ?_; refine WL.gdTn rfl rfl rfl rfl rfl (by omega) ?_; refine WL.gF rfl rfl (by omega) ?_; refine WL.pickFp rfl rfl (by omega) rfl ?_; refine WL.pickFp rfl rfl (by omega) rfl ?_; refine WL.mv rfl rfl ?_; refine WL.gY rfl rfl ?_; refine WL.mv rfl rfl ?_; refine WL.gY rfl rfl ?_; refine WL.gtr rfl rfl rfl ?_; refine WL.gY rfl rfl ?_; refine WL.mv rfl rfl ?_; refine WL.gT rfl rfl (by omega) ?_; refine WL.mv rfl rfl ?_; refine WL.gT rfl rfl (by omega) ?_; refine WL.eql rfl rfl rfl ?_; refine WL.gY rfl rfl ?_; refine WL.pickTp rfl rfl (by omega) rfl ?_; refine WL.pickF rfl rfl rfl ?_; refine WL.as rfl rfl ?_; refine WL.nil ?_; refine W.condpF rfl (by omega) ?_; refine W.seq ?_; refine W.region ?_; refine WL.mv rfl rfl ?_; refine WL.lss rfl rfl rfl ?_; refine WL.as rfl rfl ?_; refine WL.nil ?_; refine W.condpT rfl (by omega) ?_; refine W.seq ?_; refine W.region ?_; refine WL.mv rfl rfl ?_; refine WL.mv rfl rfl ?_; refine WL.cvK (T := Ty) rfl rfl rfl rfl (wrap_u64 ⟨by omega, by omega⟩) ?_; refine WL.mv rfl rfl ?_; refine WL.mulK rfl rfl rfl (wrap_i64 ⟨by omega, by omega⟩) ?_; refine WL.shlS rfl rfl rfl (by omega) rfl rfl ?_; refine WL.or rfl rfl rfl ?_; refine WL.mv rfl rfl ?_; refine WL.addK rfl rfl rfl (wrap_i64 ⟨by omega, by omega⟩) ?_; refine WL.as rfl rfl ?_; refine WL.as rfl rfl ?_; refine WL.nil ?_)
            | (refine WL.as rfl rfl ?_; refine WL.as rfl rfl ?_; refine WL.nil ?_; refine W.seq ?_; refine W.block ?_; refine W.seq ?_; refine W.region ?_; refine WL.mv rfl rfl ?_; refine WL.eql rfl rfl rfl ?_; refine WL.mv rfl rfl ?_; refine WL.gF rfl rfl (by omega) ?_; refine WL.mv rfl rfl ?_; refine WL.gF rfl rfl (by omega) ?_; refine WL.eql rfl rfl rfl ?_; refine WL.gF rfl rfl (by omega) ?_; refine WL.mv rfl rfl ?_; refine WL.gdTn rfl rfl rfl rfl rfl (by omega) ?_; refine WL.gdTn rfl rfl rfl rfl rfl (by omega) ?_; refine WL.gF rfl rfl (by omega) ?_; refine WL.pickFp rfl rfl (by omega) rfl ?_; refine WL.pickFp rfl rfl (by omega) rfl ?_; refine WL.mv rfl rfl ?_; refine WL.gY rfl rfl ?_; refine WL.mv rfl rfl ?_; refine WL.gY rfl rfl ?_; refine WL.gtr rfl rfl rfl ?_; refine WL.gY rfl rfl ?_; refine WL.mv rfl rfl ?_; refine WL.gdTn rfl rfl rfl rfl rfl (by omega) ?_; refine WL.gdTn rfl rfl rfl rfl rfl (by omega) ?_; refine WL.gY rfl rfl ?_; refine WL.pickFp rfl rfl (by omega) rfl ?_; refine WL.pickF rfl rfl rfl ?_; refine WL.as rfl rfl ?_; refine WL.nil ?_; refine W.condF rfl ?_; refine W.seq ?_; refine W.region ?_; refine WL.mv rfl rfl ?_; refine WL.lss rfl rfl rfl ?_; refine WL.as rfl rfl ?_; refine WL.nil ?_; refine W.condpT rfl (by omega) ?_; refine W.seq ?_; refine W.region ?_; refine WL.mv rfl rfl ?_; refine WL.mv rfl rfl ?_; refine WL.cvK (T := Ty) rfl rfl rfl rfl (wrap_u64 ⟨by omega, by omega⟩) ?_; refine WL.mv rfl rfl ?_; refine WL.mulK rfl rfl rfl (wrap_i64 ⟨by omega, by omega⟩) ?_; refine WL.shlS rfl rfl rfl (by omega) rfl rfl ?_; refine WL.or rfl rfl rfl ?_; refine WL.mv rfl rfl ?_; refine WL.addK rfl rfl rfl (wrap_i64 ⟨by omega, by omega⟩) ?_; refine WL.as rfl rfl ?_; refine WL.as rfl rfl ?_; refine WL.nil ?_)
          refine W.ret2 rfl rfl rfl (fun h p => ⟨?_, p⟩)
          rw [hF, vget_or u c i h3 (by omega) (by omega) (by omega)]
          rfl
      · have hF : vgetF 0 0 bs = vgetF (i + 1) (u + (c - 128) * 128 ^ i) (bs.drop (i + 1)) := by rw [← h4, vgetF, if_neg (by omega), if_neg (by omega)]
        have hand : (c : Int) % (127 + 1) = ((c - 128 : Nat) : Int) := by omega
        have hn2 := vget_next u (c - 128) i h3 (by omega)
        rcases hi0 with hi0 | hi0
        all_goals
          first
            | (refine WL.as rfl rfl ?_; refine WL.as rfl rfl ?_; refine WL.nil ?_; refine W.seq ?_; refine W.block ?_; refine W.seq ?_; refine W.region ?_; refine WL.mv rfl rfl ?_; refine WL.eql rfl rfl rfl ?_; refine WL.mv rfl rfl ?_; refine WL.gF rfl rfl (by omega) ?_; refine WL.mv rfl rfl ?_; refine WL.gF rfl rfl (by omega) ?_; refine WL.eql rfl rfl rfl ?_; refine WL.gF rfl rfl (by omega) ?_; refine WL.mv rfl rfl ?_; refine WL.gdTn rfl rfl rfl rfl rfl (by omega) ?_; refine WL.gdTn rfl rfl rfl rfl rfl (by omega) ?_; refine WL.gF rfl rfl (by omega) ?_; refine WL.pickFp rfl rfl (by omega) rfl ?_; refine WL.pickFp rfl rfl (by omega) rfl ?_; refine WL.mv rfl rfl ?_; refine WL.gY rfl rfl ?_; refine WL.mv rfl rfl ?_; refine WL.gY rfl rfl ?_; refine WL.gtr rfl rfl rfl ?_; refine WL.gY rfl rfl ?_; refine WL.mv rfl rfl ?_; refine WL.gT rfl rfl (by omega) ?_; refine WL.mv rfl rfl ?_; refine WL.gT rfl rfl (by omega) ?_; refine WL.eql rfl rfl rfl ?_; refine WL.gY rfl rfl ?_; refine WL.pickTp rfl rfl (by omega) rfl ?_; refine WL.pickF rfl rfl rfl ?_; refine WL.as rfl rfl ?_; refine WL.nil ?_; refine W.condpF rfl (by omega) ?_; refine W.seq ?_; refine W.region ?_; refine WL.mv rfl rfl ?_; refine WL.lss rfl rfl rfl ?_; refine WL.as rfl rfl ?_; refine WL.nil ?_; refine W.condpF rfl (by omega) ?_; refine W.skip ?_; refine W.inBlock ?_; refine W.region ?_; refine WL.mv rfl rfl ?_; refine WL.mv rfl rfl ?_; refine WL.andU rfl rfl rfl rfl (by decide) (by omega) (by simp only [IntKind.bits]; omega) ?_; refine WL.cvK (T := Ty) rfl rfl rfl rfl (wrap_u64 ⟨by omega, by omega⟩) ?_; refine WL.mv rfl rfl ?_; refine WL.mulK rfl rfl rfl (wrap_i64 ⟨by omega, by omega⟩) ?_; refine WL.shlS rfl rfl rfl (by omega) rfl rfl ?_; refine WL.or rfl rfl rfl ?_; refine WL.as rfl rfl ?_; refine WL.nil ?_; refine W.inBlock ?_; refine W.region ?_; refine WL.addK rfl rfl rfl (wrap_i64 ⟨by omega, by omega⟩) ?_; refine WL.mv rfl rfl ?_; refine WL.nil ?_)
            | (refine WL.as rfl rfl ?_; refine WL.as rfl rfl ?_; refine WL.nil ?_; refine W.seq ?_; refine W.block ?_; refine W.seq ?_; refine W.region ?_; refine WL.mv rfl rfl ?_; refine WL.eql rfl rfl rfl ?_; refine WL.mv rfl rfl ?_; refine WL.gF rfl rfl (by omega) ?_; refine WL.mv rfl rfl ?_; refine WL.gF rfl rfl (by omega) ?_; refine WL.eql rfl rfl rfl ?_; refine WL.gF rfl rfl (by omega) ?_; refine WL.mv rfl rfl ?_; refine WL.gdTn rfl rfl rfl rfl rfl (by omega) ?_; refine WL.gdTn rfl rfl rfl rfl rfl (by omega) ?_; refine WL.gF rfl rfl (by omega) ?_; refine WL.pickFp rfl rfl (by omega) rfl ?_; refine WL.pickFp rfl rfl (by omega) rfl ?_; refine WL.mv rfl rfl ?_; refine WL.gY rfl rfl ?_; refine WL.mv rfl rfl ?_; refine WL.gY rfl rfl ?_; refine WL.gtr rfl rfl rfl ?_; refine WL.gY rfl rfl ?_; refine WL.mv rfl rfl ?_; refine WL.gdTn rfl rfl rfl rfl rfl (by omega) ?_; refine WL.gdTn rfl rfl rfl rfl rfl (by omega) ?_; refine WL.gY rfl rfl ?_; refine WL.pickFp rfl rfl (by omega) rfl ?_; refine WL.pickF rfl rfl rfl ?_; refine WL.as rfl rfl ?_; refine WL.nil ?_; refine W.condF rfl ?_; refine W.seq ?_; refine W.region ?_; refine WL.mv rfl rfl ?_; refine WL.lss rfl rfl rfl ?_; refine WL.as rfl rfl ?_; refine WL.nil ?_; refine W.condpF rfl (by omega) ?_; refine W.skip ?_; refine W.inBlock ?_; refine W.region ?_; refine WL.mv rfl rfl ?_; refine WL.mv rfl rfl ?_; refine WL.andU rfl rfl rfl rfl (by decide) (by omega) (by simp only [IntKind.bits]; omega) ?_; refine WL.cvK (T := Ty) rfl rfl rfl rfl (wrap_u64 ⟨by omega, by omega⟩) ?_; refine WL.mv rfl rfl ?_; refine WL.mulK rfl rfl rfl (wrap_i64 ⟨by omega, by omega⟩) ?_; refine WL.shlS rfl rfl rfl (by omega) rfl rfl ?_; refine WL.or rfl rfl rfl ?_; refine WL.as rfl rfl ?_; refine WL.nil ?_; refine W.inBlock ?_; refine W.region ?_; refine WL.addK rfl rfl rfl (wrap_i64 ⟨by omega, by omega⟩) ?_; refine WL.mv rfl rfl ?_; refine WL.nil ?_)
          rw [hand, vget_or u (c - 128) i h3 (by omega) (by omega) (by omega)]
          refine W.sub ?_ (next ⟨i + 1, u + (c - 128) * 128 ^ i⟩ ⟨by simp; omega, by simp; omega, hn2, hF.symm⟩ (by simp; omega))
          exact ⟨rfl, rfl, rfl, rfl, trivial⟩
    · refine WL.as rfl rfl ?_
      refine WL.as rfl rfl ?_
      refine WL.nil ?_
      refine W.seq ?_
      refine W.block ?_
      refine W.seq ?_
      refine W.region ?_
      refine WL.mv rfl rfl ?_
      refine WL.eql rfl rfl rfl ?_
      refine WL.mv rfl rfl ?_
      refine WL.gF rfl rfl (by omega) ?_
      refine WL.mv rfl rfl ?_
      refine WL.gF rfl rfl (by omega) ?_
      refine WL.eql rfl rfl rfl ?_
      refine WL.gF rfl rfl (by omega) ?_
      refine WL.mv rfl rfl ?_
      refine WL.gdTn rfl rfl rfl rfl rfl (by omega) ?_
      refine WL.gdTn rfl rfl rfl rfl rfl (by omega) ?_
      refine WL.gF rfl rfl (by omega) ?_
      refine WL.pickFp rfl rfl (by omega) rfl ?_
      refine WL.pickFp rfl rfl (by omega) rfl ?_
      refine WL.mv rfl rfl ?_
      refine WL.gY rfl rfl ?_
      refine WL.mv rfl rfl ?_
      refine WL.gY rfl rfl ?_
      refine WL.gtr rfl rfl rfl ?_
      refine WL.gY rfl rfl ?_
      refine WL.mv rfl rfl ?_
      refine WL.gT rfl rfl (by omega) ?_
      refine WL.mv rfl rfl ?_
      refine WL.gT rfl rfl (by omega) ?_
      refine WL.eql rfl rfl rfl ?_
      refine WL.gY rfl rfl ?_
      refine WL.pickTp rfl rfl (by omega) rfl ?_
      refine WL.pickF rfl rfl rfl ?_
      refine WL.as rfl rfl ?_
      refine WL.nil ?_
      refine W.condpT rfl (by omega) ?_
      refine W.seq ?_
      refine W.region ?_
      refine WL.as rfl rfl ?_
      refine WL.as rfl rfl ?_
      refine WL.nil ?_
      exact W.ret2 rfl rfl rfl (fun h p => ⟨by rw [hF0 (by omega)]; rfl, p⟩)
  · refine W.exit rfl ?_
    refine W.seq ?_
    refine W.region ?_
    refine WL.as rfl rfl ?_
    refine WL.as rfl rfl ?_
    refine WL.nil ?_
    have : i = bs.length := by omega
    subst this
    simp [vgetF] at h4
    refine W.ret2 rfl rfl rfl (fun h p => ⟨by rw [← h4]; rfl, p⟩)
end Go.Proofs.Ytimioninoafkhaa
