/- Numbers of any length: numbers with a sign, and what the document's own answer does. -/
import Derived.Test.YtimioninoafkhaaVal
import Derived.Test.YtimioninoafkhaaNum
import Derived.Test.YtimioninoafkhaaTab
import Derived.Test.YtimioninoafkhaaVint
set_option linter.unusedSimpArgs false
set_option linter.unusedVariables false
set_option maxRecDepth 20000
namespace Go.Proofs.Ytimioninoafkhaa
open Go
attribute [local irreducible] W WL Fn Buf ROs SL eptr box Rd Src bndOK WD RB

def zigF (n : Int) : Nat := if n < 0 then (-2 * n - 1).toNat else (2 * n).toNat
def zagF (u : Nat) : Int := if u % 2 = 1 then -((u / 2 : Nat) : Int) - 1 else ((u / 2 : Nat) : Int)
def U64 (n : Nat) : Value := .int .u64 n
def I64 (n : Int) : Value := .int .i64 n

theorem zig_c (ρ : Hp) (n : Int) (hn : i64ok n) : Fn Try.prog 23 #[.int .i64 n] ρ [] (Just (U64 (zigF n))) := by
  refine in23 rfl rfl ?_
  unfold i64ok at hn
  refine W.seq ?_
  refine W.region ?_
  refine WL.as rfl rfl ?_
  refine WL.nil ?_
  refine W.seq ?_
  refine W.region ?_
  refine WL.mv rfl rfl ?_
  refine WL.cv (T := Ty) rfl rfl rfl rfl ?_
  refine WL.shlS (c := 2) rfl rfl rfl (by omega) (by decide) rfl ?_
  refine WL.mv rfl rfl ?_
  refine WL.shrS (c := 9223372036854775808) rfl rfl rfl (by omega) (by decide) ?_
  refine WL.cv (T := Ty) rfl rfl rfl rfl ?_
  refine WL.xor rfl rfl rfl ?_
  refine WL.as rfl rfl ?_
  refine WL.nil ?_
  refine W.ret1 rfl rfl (fun h p => ⟨?_, p⟩)
  by_cases h0 : n < 0
  · have q : n / 9223372036854775808 = -1 := by omega
    have w1 : IntKind.u64.wrap n = n + 18446744073709551616 := by simp [IntKind.wrap, IntKind.bits, IntKind.signed]; omega
    rw [q, show IntKind.u64.wrap (-1) = 18446744073709551615 from by decide, w1]
    obtain ⟨m, hm⟩ : ∃ m : Nat, (m : Int) = n + 9223372036854775808 := ⟨(n + 9223372036854775808).toNat, by omega⟩
    have w2 : IntKind.u64.wrap ((n + 18446744073709551616) * 2) = ((2 * m : Nat) : Int) := by simp [IntKind.wrap, IntKind.bits, IntKind.signed]; omega
    rw [w2, bits_xor_ones64 _ (by omega)]
    unfold U64 zigF
    rw [if_pos h0]
    congr 1
    omega
  · have q : n / 9223372036854775808 = 0 := by omega
    have w1 : IntKind.u64.wrap n = n := wrap_u64 ⟨by omega, by omega⟩
    rw [q, show IntKind.u64.wrap 0 = 0 from by decide, w1]
    obtain ⟨m, hm⟩ : ∃ m : Nat, (m : Int) = n := ⟨n.toNat, by omega⟩
    have w2 : IntKind.u64.wrap (n * 2) = ((2 * m : Nat) : Int) := by simp [IntKind.wrap, IntKind.bits, IntKind.signed]; omega
    rw [w2, bits_xor_zero64 _ (by omega)]
    unfold U64 zigF
    rw [if_neg h0]
    congr 1
    omega

theorem and_1 (u : Nat) (hu : u < 18446744073709551616) : bits .and .u64 (u : Int) 1 = ((u % 2 : Nat) : Int) := by
  rw [show (1 : Int) = ((1 : Nat) : Int) from rfl, bits_and rfl (by exact hu) (by decide), Nat.and_one_is_mod]
theorem zag_c (ρ : Hp) (u : Nat) (hu : u < 18446744073709551616) : Fn Try.prog 24 #[U64 u] ρ [] (Just (I64 (zagF u))) := by
  refine in24 rfl rfl ?_
  unfold U64
  refine W.seq ?_
  refine W.region ?_
  refine WL.as rfl rfl ?_
  refine WL.nil ?_
  refine W.seq ?_
  refine W.region ?_
  refine WL.mv rfl rfl ?_
  refine WL.shrS (c := 2) rfl rfl rfl (by omega) (by decide) ?_
  refine WL.cvK (T := Ty) rfl rfl rfl rfl (wrap_i64 ⟨by omega, by omega⟩) ?_
  refine WL.mv rfl rfl ?_
  refine WL.andU rfl rfl rfl rfl (by decide) (by omega) (by simp only [IntKind.bits]; omega) ?_
  refine WL.cvK (T := Ty) rfl rfl rfl rfl (wrap_i64 ⟨by omega, by omega⟩) ?_
  refine WL.negK rfl rfl (wrap_i64 ⟨by omega, by omega⟩) ?_
  refine WL.xor rfl rfl rfl ?_
  refine WL.as rfl rfl ?_
  refine WL.nil ?_
  refine W.ret1 rfl rfl (fun h p => ⟨?_, p⟩)
  have d : (u : Int) / 2 = ((u / 2 : Nat) : Int) := by omega
  rw [d]
  unfold I64 zagF
  by_cases h : u % 2 = 1
  · rw [show -((u : Int) % (1 + 1)) = -1 by omega, if_pos h, bits_xor_neg1 _ (by omega)]
  · rw [show -((u : Int) % (1 + 1)) = 0 by omega, if_neg h, bits_xor_i0 _ (by omega)]

theorem rzig_c (ρ : Hp) (n : Int) (hn : i64ok n) : Fn Try.prog 27 #[.int .i64 n] ρ [] (Just (U64 (zigF n))) := by
  refine in27 rfl rfl ?_
  unfold i64ok at hn
  refine W.seq ?_
  refine W.region ?_
  refine WL.as rfl rfl ?_
  refine WL.nil ?_
  refine W.seq ?_
  refine W.seq ?_
  refine W.region ?_
  refine WL.mv rfl rfl ?_
  refine WL.lss rfl rfl rfl ?_
  refine WL.nil ?_
  refine W.condp rfl (fun h0 => ?_) (fun h0 => ?_)
  · refine W.seq ?_
    refine W.region ?_
    refine WL.mv rfl rfl ?_
    refine WL.addK rfl rfl rfl (wrap_i64 ⟨by omega, by omega⟩) ?_
    refine WL.negK rfl rfl (wrap_i64 ⟨by omega, by omega⟩) ?_
    refine WL.cvK (T := Ty) rfl rfl rfl rfl (wrap_u64 ⟨by omega, by omega⟩) ?_
    refine WL.mulK rfl rfl rfl (wrap_u64 ⟨by omega, by omega⟩) ?_
    refine WL.addK rfl rfl rfl (wrap_u64 ⟨by omega, by omega⟩) ?_
    refine WL.as rfl rfl ?_
    refine WL.nil ?_
    refine W.ret1 rfl rfl (fun h p => ⟨?_, p⟩)
    unfold U64 zigF
    rw [if_pos h0]
    congr 1
    omega
  · refine W.skip ?_
    refine W.seq ?_
    refine W.region ?_
    refine WL.mv rfl rfl ?_
    refine WL.cvK (T := Ty) rfl rfl rfl rfl (wrap_u64 ⟨by omega, by omega⟩) ?_
    refine WL.mulK rfl rfl rfl (wrap_u64 ⟨by omega, by omega⟩) ?_
    refine WL.as rfl rfl ?_
    refine WL.nil ?_
    refine W.ret1 rfl rfl (fun h p => ⟨?_, p⟩)
    unfold U64 zigF
    rw [if_neg h0]
    congr 1
    omega
theorem rzag_c (ρ : Hp) (u : Nat) (hu : u < 18446744073709551616) : Fn Try.prog 28 #[U64 u] ρ [] (Just (I64 (zagF u))) := by
  refine in28 rfl rfl ?_
  unfold U64
  refine W.seq ?_
  refine W.region ?_
  refine WL.as rfl rfl ?_
  refine WL.nil ?_
  refine W.seq ?_
  refine W.seq ?_
  refine W.region ?_
  refine WL.mv rfl rfl ?_
  refine WL.andU rfl rfl rfl rfl (by decide) (by omega) (by simp only [IntKind.bits]; omega) ?_
  refine WL.eql rfl rfl rfl ?_
  refine WL.nil ?_
  refine W.condp rfl (fun h0 => ?_) (fun h0 => ?_)
  · refine W.seq ?_
    refine W.region ?_
    refine WL.mv rfl rfl ?_
    refine WL.shrS (c := 2) rfl rfl rfl (by omega) (by decide) ?_
    refine WL.cvK (T := Ty) rfl rfl rfl rfl (wrap_i64 ⟨by omega, by omega⟩) ?_
    refine WL.negK rfl rfl (wrap_i64 ⟨by omega, by omega⟩) ?_
    refine WL.subK rfl rfl rfl (wrap_i64 ⟨by omega, by omega⟩) ?_
    refine WL.as rfl rfl ?_
    refine WL.nil ?_
    refine W.ret1 rfl rfl (fun h p => ⟨?_, p⟩)
    unfold I64 zagF
    rw [if_pos (by omega)]
    congr 1
  · refine W.skip ?_
    refine W.seq ?_
    refine W.region ?_
    refine WL.mv rfl rfl ?_
    refine WL.shrS (c := 2) rfl rfl rfl (by omega) (by decide) ?_
    refine WL.cvK (T := Ty) rfl rfl rfl rfl (wrap_i64 ⟨by omega, by omega⟩) ?_
    refine WL.as rfl rfl ?_
    refine WL.nil ?_
    refine W.ret1 rfl rfl (fun h p => ⟨?_, p⟩)
    unfold I64 zagF
    rw [if_neg (by omega)]
    congr 1

theorem rput_c (ρ : Hp) (b : Value) (bs : List Nat) (u : Nat) (hb : ROs ρ 1 b (bs.map bcell)) (hu : u < 18446744073709551616) (hl : bs.length + 10 ≤ 140737488355328) :
    Fn Try.prog 25 #[b, .int .u64 (u : Int)] ρ [] (fun r => Buf 1 r ((bs ++ vputF 9 u).map bcell)) := by
  refine in25 rfl rfl ?_
  have hsb : SL b bs.length := hb.sl (by simp) (by omega)
  refine W.seq ?_
  refine W.region ?_
  refine WL.as rfl rfl ?_
  refine WL.nil ?_
  refine W.seq ?_
  refine W.region ?_
  refine WL.bs (T := Ty) rfl rfl rfl rfl rfl rfl rfl rfl (by repeat' first | exact FL.nil | apply FL.cons) (fun _ _ => ?_)
  refine WL.mv rfl rfl ?_
  rename_i t0 ht0
  refine WL.ap (T := Ty) (i := 0) (n := 0) rfl rfl rfl rfl rfl rfl rfl rfl (.ro hb) hsb rfl (by simp) (one_bcell bs) (by show (0 + _) * 1 ≤ _; omega) (by unfold maxLen; omega) (fun v' => by repeat' first | exact FL.nil | apply FL.cons) (fun v0 hv0 => ?_)
  refine WL.as rfl rfl ?_
  refine WL.nil ?_
  refine W.seq ?_
  refine W.block ?_
  refine W.loopS (σ := Nat × List Nat × Nat × Value) (fun s => [(1, .int .u64 (s.2.2.1 : Int)), (5, s.2.2.2)]) (fun s => [Buf 1 s.2.2.2 (s.2.1.map bcell)])
    (fun s => s.2.1 ++ vputF s.1 s.2.2.1 = bs ++ vputF 9 u ∧ s.2.1.length + s.1 ≤ bs.length + 9 ∧ s.2.2.1 < 128 ^ (s.1 + 1) ∧ s.2.2.1 ≤ u) (fun s => s.1) (9, bs, u, v0) ⟨rfl, rfl, trivial⟩ rfl ⟨rfl, by simp, by simp; omega, Nat.le_refl _⟩ ?_
  rintro ⟨k, xs, y, v⟩ ⟨h1, h2, h3, h4⟩ next
  simp only [] at h1 h2 h3 h4 next ⊢
  refine W.fact (i := 0) rfl (fun h hb => hb.sl (n := xs.length) (by simp) (by omega)) fun hs => ?_
  refine W.seq ?_
  refine W.seq ?_
  refine W.region ?_
  refine WL.mv rfl rfl ?_
  refine WL.gtr rfl rfl rfl ?_
  refine WL.nil ?_
  refine W.condp rfl (fun hge => ?_) (fun hlt => ?_)
  · have hk : k ≠ 0 := by intro e; subst e; simp at h3; omega
    have hor : bits .or .u64 ((y : Int) % (127 + 1)) 128 = ((y % 128 + 128 : Nat) : Int) := by
      rw [show (y : Int) % (127 + 1) = ((y % 128 : Nat) : Int) by omega, show (128 : Int) = ((128 : Nat) : Int) from rfl, bits_or rfl (by show y % 128 < 2 ^ 64; omega) (by decide), or_128 _ (by omega)]
      congr 2
      omega
    refine W.skip ?_
    refine W.block ?_
    refine W.seq ?_
    refine W.region ?_
    refine WL.mv rfl rfl ?_
    refine WL.mv rfl rfl ?_
    refine WL.andU rfl rfl rfl rfl (by decide) (by omega) (by simp only [IntKind.bits]; omega) ?_
    refine WL.or rfl rfl rfl ?_
    refine WL.cvK (T := Ty) rfl rfl rfl rfl (wrap_u8 ⟨by omega, by omega⟩) ?_
    refine WL.bs (T := Ty) rfl rfl rfl rfl rfl rfl rfl rfl (by repeat' first | exact FL.nil | apply FL.cons) (fun _ _ => ?_)
    rename_i t ht
    refine WL.ap (T := Ty) (i := 1) (n := xs.length) (m := 1) rfl rfl rfl rfl rfl rfl rfl rfl (.own 0 rfl) ht (by simp) rfl (by simp [Value.oneCell']) (by show (xs.length + 1) * 1 ≤ _; omega) (by unfold maxLen; omega) (fun v' => by repeat' first | exact FL.nil | apply FL.cons) (fun v' hv' => ?_)
    refine WL.as rfl rfl ?_
    refine WL.nil ?_
    refine W.region ?_
    refine WL.mv rfl rfl ?_
    refine WL.shrS (c := 128) rfl rfl rfl (by omega) (by decide) ?_
    refine WL.as rfl rfl ?_
    refine WL.nil ?_
    refine W.inBlock ?_
    refine W.drop 0 rfl (by repeat' first | exact FL.nil | apply FL.cons) ?_
    rw [hor]
    obtain ⟨k, rfl⟩ : ∃ m, k = m + 1 := ⟨k - 1, by omega⟩
    refine W.sub ?_ (W.hs (fun h p => ?_) (next ⟨k, xs ++ [y % 128 + 128], y / 128, v'⟩ ⟨?_, ?_, ?_, ?_⟩ (by simp)))
    · exact ⟨rfl, rfl, trivial⟩
    · simpa [bcell] using p
    · rw [← h1]; simp [vputF]; omega
    · simp; omega
    · show y / 128 < 128 ^ (k + 1)
      rw [Nat.pow_succ] at h3; omega
    · show y / 128 ≤ u
      omega
  · refine W.exit rfl ?_
    refine W.seq ?_
    refine W.region ?_
    refine WL.mv rfl rfl ?_
    refine WL.mv rfl rfl ?_
    refine WL.cvK (T := Ty) rfl rfl rfl rfl (wrap_u8 ⟨by omega, by omega⟩) ?_
    refine WL.bs (T := Ty) rfl rfl rfl rfl rfl rfl rfl rfl (by repeat' first | exact FL.nil | apply FL.cons) (fun _ _ => ?_)
    rename_i t ht
    refine WL.ap (T := Ty) (i := 1) (n := xs.length) (m := 1) rfl rfl rfl rfl rfl rfl rfl rfl (.own 0 rfl) ht (by simp) rfl (by simp [Value.oneCell']) (by show (xs.length + 1) * 1 ≤ _; omega) (by unfold maxLen; omega) (fun v' => by repeat' first | exact FL.nil | apply FL.cons) (fun v' hv' => ?_)
    refine WL.as rfl rfl ?_
    refine WL.nil ?_
    refine W.drop 0 rfl (by repeat' first | exact FL.nil | apply FL.cons) ?_
    refine W.ret1 rfl rfl (fun h p => ?_)
    have e2 : vputF k y = [y] := by cases k <;> simp [vputF]; omega
    rw [← h1, e2]
    simpa [bcell] using sepl_one.1 p

theorem rget_c (ρ : Hp) (b : Value) (bs : List Nat) (hb : ROs ρ 1 b (bs.map bcell)) (hw : ∀ x ∈ bs, x < 256) (hl : bs.length ≤ 140737488355328) :
    Fn Try.prog 26 #[b] ρ [] (Just (RGet (vgetF 0 0 bs))) := by
  refine in26 rfl rfl ?_
  have hs : SL b bs.length := hb.sl (by simp) (by omega)
  refine W.seq ?_
  refine W.region ?_
  refine WL.as rfl rfl ?_
  refine WL.as rfl rfl ?_
  refine WL.nil ?_
  refine W.seq ?_
  refine W.region ?_
  refine WL.as rfl rfl ?_
  refine WL.nil ?_
  refine W.seq ?_
  refine W.seq ?_
  refine W.region ?_
  refine WL.as rfl rfl ?_
  refine WL.nil ?_
  refine W.block ?_
  refine W.loopS (σ := Nat × Nat) (fun s => [(0, b), (4, .int .u64 (s.2 : Int)), (5, .int .i64 (s.1 : Int))]) (fun s => [])
    (fun s => s.1 ≤ bs.length ∧ s.1 ≤ 10 ∧ s.2 < 128 ^ s.1 ∧ vgetF s.1 s.2 (bs.drop s.1) = vgetF 0 0 bs) (fun s => bs.length - s.1) (0, 0) ⟨rfl, rfl, rfl, trivial⟩ rfl ⟨by simp, by simp, by simp, by simp⟩ ?_
  rintro ⟨i, u⟩ ⟨h1, h2, h3, h4⟩ next
  simp only [] at h1 h2 h3 h4 next ⊢
  by_cases hlt : i < bs.length
  · obtain ⟨c, hc⟩ : ∃ c, bs[i]? = some c := ⟨_, List.getElem?_eq_getElem hlt⟩
    have hc8 : c < 256 := hw c (List.mem_of_getElem? hc)
    have hdrop : bs.drop i = c :: bs.drop (i + 1) := by
      rw [List.drop_eq_getElem_cons hlt]
      congr 1
      rw [List.getElem?_eq_getElem hlt] at hc
      exact Option.some.inj hc
    rw [hdrop] at h4
    have hF0 : (i = 10 ∨ i = 9 ∧ 1 < c ∨ 0 < i ∧ c = 0) → vgetF 0 0 bs = (0, 0) := fun h => by rw [← h4]; simp [vgetF, h]
    by_cases h10 : i = 10
    · refine W.seq ?_
      refine W.seq ?_
      refine W.region ?_
      refine WL.mv rfl rfl ?_
      refine WL.mv rfl rfl ?_
      refine WL.len (T := Ty) rfl rfl (by assumption) rfl ?_
      refine WL.lss rfl rfl rfl ?_
      refine WL.mv rfl rfl ?_
      refine WL.gT rfl rfl (by omega) ?_
      refine WL.mv rfl rfl ?_
      refine WL.gT rfl rfl (by omega) ?_
      refine WL.lss rfl rfl rfl ?_
      refine WL.pickTp rfl rfl (by omega) rfl ?_
      refine WL.nil ?_
      refine W.condpF rfl (by omega) ?_
      refine W.exit rfl ?_
      refine W.seq ?_
      refine W.region ?_
      refine WL.as rfl rfl ?_
      refine WL.as rfl rfl ?_
      refine WL.nil ?_
      exact W.ret2 rfl rfl rfl (fun h p => ⟨by rw [hF0 (by omega)]; rfl, p⟩)
    · refine W.seq ?_
      refine W.seq ?_
      refine W.region ?_
      refine WL.mv rfl rfl ?_
      refine WL.mv rfl rfl ?_
      refine WL.len (T := Ty) rfl rfl (by assumption) rfl ?_
      refine WL.lss rfl rfl rfl ?_
      refine WL.mv rfl rfl ?_
      refine WL.gT rfl rfl (by omega) ?_
      refine WL.mv rfl rfl ?_
      refine WL.gT rfl rfl (by omega) ?_
      refine WL.lss rfl rfl rfl ?_
      refine WL.pickTp rfl rfl (by omega) rfl ?_
      refine WL.nil ?_
      refine W.condpT rfl (by omega) ?_
      refine W.skip ?_
      refine W.seq ?_
      refine W.block ?_
      refine W.seq ?_
      refine W.region ?_
      refine WL.mv rfl rfl ?_
      refine WL.mv rfl rfl ?_
      refine WL.ix (T := Ty) rfl rfl rfl (by assumption) rfl rfl (by omega) (by omega) ?_
      refine WL.ldR (T := Ty) (v := bcell c) rfl rfl rfl rfl hb (by rw [show ((i : Int)).toNat * 1 = i by omega]; exact cell_nat hc) ?_
      unfold bcell
      have key : (i = 9 ∧ 1 < c) ∨ (i = 9 ∧ c = 0) ∨ (i < 9 ∧ 0 < i ∧ c = 0) ∨ (i = 9 ∧ c = 1) ∨ (i < 9 ∧ 0 < c ∧ c < 128) ∨ (i = 0 ∧ c = 0) ∨ (i < 9 ∧ 128 ≤ c) := by omega
      rcases key with hk | hk | hk | hk | hk | hk | hk
      iterate 3
        · first
            | (refine WL.as rfl rfl ?_; refine WL.nil ?_; refine W.seq ?_; refine W.seq ?_; refine W.region ?_; refine WL.mv rfl rfl ?_; refine WL.eql rfl rfl rfl ?_; refine WL.mv rfl rfl ?_; refine WL.gT rfl rfl (by omega) ?_; refine WL.mv rfl rfl ?_; refine WL.gT rfl rfl (by omega) ?_; refine WL.gtr rfl rfl rfl ?_; refine WL.pickTp rfl rfl (by omega) rfl ?_; refine WL.mv rfl rfl ?_; refine WL.gF rfl rfl (by omega) ?_; refine WL.mv rfl rfl ?_; refine WL.gF rfl rfl (by omega) ?_; refine WL.eql rfl rfl rfl ?_; refine WL.gF rfl rfl (by omega) ?_; refine WL.mv rfl rfl ?_; refine WL.gT rfl rfl (by omega) ?_; refine WL.mv rfl rfl ?_; refine WL.gT rfl rfl (by omega) ?_; refine WL.gtr rfl rfl rfl ?_; refine WL.gF rfl rfl (by omega) ?_; refine WL.pickTp rfl rfl (by omega) rfl ?_; refine WL.pickFp rfl rfl (by omega) rfl ?_; refine WL.nil ?_; refine W.condpT rfl (by omega) ?_; refine W.seq ?_; refine W.region ?_; refine WL.as rfl rfl ?_; refine WL.as rfl rfl ?_; refine WL.nil ?_)
            | (refine WL.as rfl rfl ?_; refine WL.nil ?_; refine W.seq ?_; refine W.seq ?_; refine W.region ?_; refine WL.mv rfl rfl ?_; refine WL.eql rfl rfl rfl ?_; refine WL.mv rfl rfl ?_; refine WL.gdTn rfl rfl rfl rfl rfl (by omega) ?_; refine WL.gdTn rfl rfl rfl rfl rfl (by omega) ?_; refine WL.pickFp rfl rfl (by omega) rfl ?_; refine WL.mv rfl rfl ?_; refine WL.gY rfl rfl ?_; refine WL.mv rfl rfl ?_; refine WL.gY rfl rfl ?_; refine WL.eql rfl rfl rfl ?_; refine WL.gY rfl rfl ?_; refine WL.mv rfl rfl ?_; refine WL.gT rfl rfl (by omega) ?_; refine WL.mv rfl rfl ?_; refine WL.gT rfl rfl (by omega) ?_; refine WL.gtr rfl rfl rfl ?_; refine WL.gY rfl rfl ?_; refine WL.pickTp rfl rfl (by omega) rfl ?_; refine WL.pickF rfl rfl rfl ?_; refine WL.nil ?_; refine W.condpT rfl (by omega) ?_; refine W.seq ?_; refine W.region ?_; refine WL.as rfl rfl ?_; refine WL.as rfl rfl ?_; refine WL.nil ?_)
            | (refine WL.as rfl rfl ?_; refine WL.nil ?_; refine W.seq ?_; refine W.seq ?_; refine W.region ?_; refine WL.mv rfl rfl ?_; refine WL.eql rfl rfl rfl ?_; refine WL.mv rfl rfl ?_; refine WL.gT rfl rfl (by omega) ?_; refine WL.mv rfl rfl ?_; refine WL.gT rfl rfl (by omega) ?_; refine WL.gtr rfl rfl rfl ?_; refine WL.pickTp rfl rfl (by omega) rfl ?_; refine WL.mv rfl rfl ?_; refine WL.gdFn rfl rfl rfl rfl rfl (by omega) ?_; refine WL.gdFn rfl rfl rfl rfl rfl (by omega) ?_; refine WL.gdFn rfl rfl rfl rfl rfl (by omega) ?_; refine WL.gdU rfl rfl rfl rfl rfl ?_; refine WL.gdU rfl rfl rfl rfl rfl ?_; refine WL.gdFn rfl rfl rfl rfl rfl (by omega) ?_; refine WL.pickTp rfl rfl (by omega) rfl ?_; refine WL.nil ?_; refine W.condT rfl ?_; refine W.seq ?_; refine W.region ?_; refine WL.as rfl rfl ?_; refine WL.as rfl rfl ?_; refine WL.nil ?_)
          exact W.ret2 rfl rfl rfl (fun h p => ⟨by rw [hF0 (by omega)]; rfl, p⟩)
      iterate 3
        · have hF : vgetF 0 0 bs = (u + c * 128 ^ i, i + 1) := by rw [← h4, vgetF, if_neg (by omega), if_pos (by omega)]
          have hand : (c : Int) % (127 + 1) = (c : Int) := by omega
          first
            | (refine WL.as rfl rfl ?_; refine WL.nil ?_; refine W.seq ?_; refine W.seq ?_; refine W.region ?_; refine WL.mv rfl rfl ?_; refine WL.eql rfl rfl rfl ?_; refine WL.mv rfl rfl ?_; refine WL.gT rfl rfl (by omega) ?_; refine WL.mv rfl rfl ?_; refine WL.gT rfl rfl (by omega) ?_; refine WL.gtr rfl rfl rfl ?_; refine WL.pickTp rfl rfl (by omega) rfl ?_; refine WL.mv rfl rfl ?_; refine WL.gF rfl rfl (by omega) ?_; refine WL.mv rfl rfl ?_; refine WL.gF rfl rfl (by omega) ?_; refine WL.eql rfl rfl rfl ?_; refine WL.gF rfl rfl (by omega) ?_; refine WL.mv rfl rfl ?_; refine WL.gdTn rfl rfl rfl rfl rfl (by omega) ?_; refine WL.gdTn rfl rfl rfl rfl rfl (by omega) ?_; refine WL.gF rfl rfl (by omega) ?_; refine WL.pickFp rfl rfl (by omega) rfl ?_; refine WL.pickFp rfl rfl (by omega) rfl ?_; refine WL.nil ?_; refine W.condF rfl ?_; refine W.skip ?_; refine W.seq ?_; refine W.region ?_; refine WL.mv rfl rfl ?_; refine WL.mv rfl rfl ?_; refine WL.andU rfl rfl rfl rfl (by decide) (by omega) (by simp only [IntKind.bits]; omega) ?_; refine WL.cvK (T := Ty) rfl rfl rfl rfl (wrap_u64 ⟨by omega, by omega⟩) ?_; refine WL.mv rfl rfl ?_; refine WL.mulK rfl rfl rfl (wrap_i64 ⟨by omega, by omega⟩) ?_; refine WL.cvK (T := Ty) rfl rfl rfl rfl (wrap_u64 ⟨by omega, by omega⟩) ?_; refine WL.shlS rfl rfl rfl (by omega) rfl rfl ?_; refine WL.or rfl rfl rfl ?_; refine WL.as rfl rfl ?_; refine WL.nil ?_; refine W.seq ?_; refine W.region ?_; refine WL.mv rfl rfl ?_; refine WL.lss rfl rfl rfl ?_; refine WL.nil ?_; refine W.condpT rfl (by omega) ?_; refine W.seq ?_; refine W.region ?_; refine WL.mv rfl rfl ?_; refine WL.mv rfl rfl ?_; refine WL.addK rfl rfl rfl (wrap_i64 ⟨by omega, by omega⟩) ?_; refine WL.as rfl rfl ?_; refine WL.as rfl rfl ?_; refine WL.nil ?_)
            | (refine WL.as rfl rfl ?_; refine WL.nil ?_; refine W.seq ?_; refine W.seq ?_; refine W.region ?_; refine WL.mv rfl rfl ?_; refine WL.eql rfl rfl rfl ?_; refine WL.mv rfl rfl ?_; refine WL.gdTn rfl rfl rfl rfl rfl (by omega) ?_; refine WL.gdTn rfl rfl rfl rfl rfl (by omega) ?_; refine WL.pickFp rfl rfl (by omega) rfl ?_; refine WL.mv rfl rfl ?_; refine WL.gY rfl rfl ?_; refine WL.mv rfl rfl ?_; refine WL.gY rfl rfl ?_; refine WL.eql rfl rfl rfl ?_; refine WL.gY rfl rfl ?_; refine WL.mv rfl rfl ?_; refine WL.gT rfl rfl (by omega) ?_; refine WL.mv rfl rfl ?_; refine WL.gT rfl rfl (by omega) ?_; refine WL.gtr rfl rfl rfl ?_; refine WL.gY rfl rfl ?_; refine WL.pickTp rfl rfl (by omega) rfl ?_; refine WL.pickF rfl rfl rfl ?_; refine WL.nil ?_; refine W.condpF rfl (by omega) ?_; refine W.skip ?_; refine W.seq ?_; refine W.region ?_; refine WL.mv rfl rfl ?_; refine WL.mv rfl rfl ?_; refine WL.andU rfl rfl rfl rfl (by decide) (by omega) (by simp only [IntKind.bits]; omega) ?_; refine WL.cvK (T := Ty) rfl rfl rfl rfl (wrap_u64 ⟨by omega, by omega⟩) ?_; refine WL.mv rfl rfl ?_; refine WL.mulK rfl rfl rfl (wrap_i64 ⟨by omega, by omega⟩) ?_; refine WL.cvK (T := Ty) rfl rfl rfl rfl (wrap_u64 ⟨by omega, by omega⟩) ?_; refine WL.shlS rfl rfl rfl (by omega) rfl rfl ?_; refine WL.or rfl rfl rfl ?_; refine WL.as rfl rfl ?_; refine WL.nil ?_; refine W.seq ?_; refine W.region ?_; refine WL.mv rfl rfl ?_; refine WL.lss rfl rfl rfl ?_; refine WL.nil ?_; refine W.condpT rfl (by omega) ?_; refine W.seq ?_; refine W.region ?_; refine WL.mv rfl rfl ?_; refine WL.mv rfl rfl ?_; refine WL.addK rfl rfl rfl (wrap_i64 ⟨by omega, by omega⟩) ?_; refine WL.as rfl rfl ?_; refine WL.as rfl rfl ?_; refine WL.nil ?_)
            | (refine WL.as rfl rfl ?_; refine WL.nil ?_; refine W.seq ?_; refine W.seq ?_; refine W.region ?_; refine WL.mv rfl rfl ?_; refine WL.eql rfl rfl rfl ?_; refine WL.mv rfl rfl ?_; refine WL.gdTn rfl rfl rfl rfl rfl (by omega) ?_; refine WL.gdTn rfl rfl rfl rfl rfl (by omega) ?_; refine WL.pickFp rfl rfl (by omega) rfl ?_; refine WL.mv rfl rfl ?_; refine WL.gY rfl rfl ?_; refine WL.mv rfl rfl ?_; refine WL.gY rfl rfl ?_; refine WL.eql rfl rfl rfl ?_; refine WL.gY rfl rfl ?_; refine WL.mv rfl rfl ?_; refine WL.gdTn rfl rfl rfl rfl rfl (by omega) ?_; refine WL.gdTn rfl rfl rfl rfl rfl (by omega) ?_; refine WL.gY rfl rfl ?_; refine WL.pickFp rfl rfl (by omega) rfl ?_; refine WL.pickF rfl rfl rfl ?_; refine WL.nil ?_; refine W.condF rfl ?_; refine W.skip ?_; refine W.seq ?_; refine W.region ?_; refine WL.mv rfl rfl ?_; refine WL.mv rfl rfl ?_; refine WL.andU rfl rfl rfl rfl (by decide) (by omega) (by simp only [IntKind.bits]; omega) ?_; refine WL.cvK (T := Ty) rfl rfl rfl rfl (wrap_u64 ⟨by omega, by omega⟩) ?_; refine WL.mv rfl rfl ?_; refine WL.mulK rfl rfl rfl (wrap_i64 ⟨by omega, by omega⟩) ?_; refine WL.cvK (T := Ty) rfl rfl rfl rfl (wrap_u64 ⟨by omega, by omega⟩) ?_; refine WL.shlS rfl rfl rfl (by omega) rfl rfl ?_; refine WL.or rfl rfl rfl ?_; refine WL.as rfl rfl ?_; refine WL.nil ?_; refine W.seq ?_; refine W.region ?_; refine WL.mv rfl rfl ?_; refine WL.lss rfl rfl rfl ?_; refine WL.nil ?_; refine W.condpT rfl (by omega) ?_; refine W.seq ?_; refine W.region ?_; refine WL.mv rfl rfl ?_; refine WL.mv rfl rfl ?_; refine WL.addK rfl rfl rfl (wrap_i64 ⟨by omega, by omega⟩) ?_; refine WL.as rfl rfl ?_; refine WL.as rfl rfl ?_; refine WL.nil ?_)
          refine W.ret2 rfl rfl rfl (fun h p => ⟨?_, p⟩)
          rw [hF, hand, vget_or u c i h3 (by omega) (by omega) (by omega)]
          rfl
      · have hF : vgetF 0 0 bs = vgetF (i + 1) (u + (c - 128) * 128 ^ i) (bs.drop (i + 1)) := by rw [← h4, vgetF, if_neg (by omega), if_neg (by omega)]
        have hand : (c : Int) % (127 + 1) = ((c - 128 : Nat) : Int) := by omega
        have hn2 := vget_next u (c - 128) i h3 (by omega)
        refine WL.as rfl rfl ?_
        refine WL.nil ?_
        refine W.seq ?_
        refine W.seq ?_
        refine W.region ?_
        refine WL.mv rfl rfl ?_
        refine WL.eql rfl rfl rfl ?_
        refine WL.mv rfl rfl ?_
        refine WL.gdTn rfl rfl rfl rfl rfl (by omega) ?_
        refine WL.gdTn rfl rfl rfl rfl rfl (by omega) ?_
        refine WL.pickFp rfl rfl (by omega) rfl ?_
        refine WL.mv rfl rfl ?_
        refine WL.gY rfl rfl ?_
        refine WL.mv rfl rfl ?_
        refine WL.gY rfl rfl ?_
        refine WL.eql rfl rfl rfl ?_
        refine WL.gY rfl rfl ?_
        refine WL.mv rfl rfl ?_
        refine WL.gdTn rfl rfl rfl rfl rfl (by omega) ?_
        refine WL.gdTn rfl rfl rfl rfl rfl (by omega) ?_
        refine WL.gY rfl rfl ?_
        refine WL.pickFp rfl rfl (by omega) rfl ?_
        refine WL.pickF rfl rfl rfl ?_
        refine WL.nil ?_
        refine W.condF rfl ?_
        refine W.skip ?_
        refine W.seq ?_
        refine W.region ?_
        refine WL.mv rfl rfl ?_
        refine WL.mv rfl rfl ?_
        refine WL.andU rfl rfl rfl rfl (by decide) (by omega) (by simp only [IntKind.bits]; omega) ?_
        refine WL.cvK (T := Ty) rfl rfl rfl rfl (wrap_u64 ⟨by omega, by omega⟩) ?_
        refine WL.mv rfl rfl ?_
        refine WL.mulK rfl rfl rfl (wrap_i64 ⟨by omega, by omega⟩) ?_
        refine WL.cvK (T := Ty) rfl rfl rfl rfl (wrap_u64 ⟨by omega, by omega⟩) ?_
        refine WL.shlS rfl rfl rfl (by omega) rfl rfl ?_
        refine WL.or rfl rfl rfl ?_
        refine WL.as rfl rfl ?_
        refine WL.nil ?_
        refine W.seq ?_
        refine W.region ?_
        refine WL.mv rfl rfl ?_
        refine WL.lss rfl rfl rfl ?_
        refine WL.nil ?_
        refine W.condpF rfl (by omega) ?_
        refine W.skip ?_
        refine W.inBlock ?_
        refine W.region ?_
        refine WL.mv rfl rfl ?_
        refine WL.addK rfl rfl rfl (wrap_i64 ⟨by omega, by omega⟩) ?_
        refine WL.as rfl rfl ?_
        refine WL.nil ?_
        rw [hand, vget_or u (c - 128) i h3 (by omega) (by omega) (by omega)]
        refine W.sub ?_ (next ⟨i + 1, u + (c - 128) * 128 ^ i⟩ ⟨by simp; omega, by simp; omega, hn2, hF.symm⟩ (by simp; omega))
        exact ⟨rfl, rfl, rfl, trivial⟩
  · have : i = bs.length := by omega
    subst this
    refine W.seq ?_
    refine W.seq ?_
    refine W.region ?_
    refine WL.mv rfl rfl ?_
    refine WL.mv rfl rfl ?_
    refine WL.len (T := Ty) rfl rfl (by assumption) rfl ?_
    refine WL.lss rfl rfl rfl ?_
    refine WL.mv rfl rfl ?_
    refine WL.gdTn rfl rfl rfl rfl rfl (by omega) ?_
    refine WL.gdTn rfl rfl rfl rfl rfl (by omega) ?_
    refine WL.pickFp rfl rfl (by omega) rfl ?_
    refine WL.nil ?_
    refine W.condF rfl ?_
    refine W.exit rfl ?_
    refine W.seq ?_
    refine W.region ?_
    refine WL.as rfl rfl ?_
    refine WL.as rfl rfl ?_
    refine WL.nil ?_
    simp [vgetF] at h4
    refine W.ret2 rfl rfl rfl (fun h p => ⟨by rw [← h4]; rfl, p⟩)
end Go.Proofs.Ytimioninoafkhaa
