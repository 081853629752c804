/- Values by what turns: what the code of package xorv reads. -/
import Derived.Test.YtjibmfkhhljhcaaDoorStc
import Derived.Test.YtjibmfkhhljhcaaDoorNum
import Derived.Test.YtjibmfkhhljhcaaDoorTab
import Derived.Test.YtjibmfkhhljhcaaDoorXorv
import Derived.Test.YtjibmfkhhljhcaaDoorEqs
import Derived.KernelRfl
set_option linter.unusedSimpArgs false
set_option linter.unusedVariables false
set_option maxRecDepth 20000
set_option maxHeartbeats 4000000
namespace Go.Proofs.YtjibmfkhhljhcaaDoor
open Go
attribute [local irreducible] W WL Fn Buf ROs SL eptr box Rd Src bndOK WD RB Reads In encX decX encG decXF

theorem shl_val (x b : Nat) (hb : b ≤ 64) : IntKind.u64.wrap ((x : Int) * 2 ^ min ((b : Int)).toNat IntKind.u64.bits) = ((x * 2 ^ b % 18446744073709551616 : Nat) : Int) := by
  have e : min ((b : Int)).toNat IntKind.u64.bits = b := by
    rw [Int.toNat_natCast]
    exact Nat.min_eq_left (by show _ ≤ 64; omega)
  rw [e, show (x : Int) * 2 ^ b = ((x * 2 ^ b : Nat) : Int) by push_cast; rfl, wrapU64]
theorem getF_ltN (bs : List Nat) (s : RdSt) (n : Int) : (getF bs s n).1 < 2 ^ heldF n := by
  unfold getF
  split
  · exact Nat.pow_pos (by decide)
  · exact getV_lt _ _ _
theorem getF_lt5 (bs : List Nat) (s : RdSt) : (getF bs s 5).1 < 32 := getF_ltN bs s 5
theorem getF_lt6 (bs : List Nat) (s : RdSt) : (getF bs s 6).1 < 64 := getF_ltN bs s 6
theorem turn_c (ρ : Hp) (b q : Nat) (bs : List Nat) (s : RdSt) (w : Win) {x : Nat} {ok : Bool} {w' : Win} {s' : RdSt} (e : turnX bs w s = (x, ok, w', s')) (hw : WinOK w) (hs : s.at' ≤ 8 * bs.length) (hl : bs.length ≤ 140737488355328) (hbw : ∀ x ∈ bs, x < 256) (hT : TabG ρ) :
    Fn Tryd.prog 29 #[ptr b, ptr q] ρ [Re b bs s, box q (winC w) 56] (fun r h => r = .tuple #[.int .u64 (x : Int), .bool ok] ∧ sepl [Re b bs s', box q (winC w') 56] h) := by
  refine in29 rfl rfl ?_
  obtain ⟨g1, s1, e1⟩ : ∃ g s', getF bs s 1 = (g, s') := ⟨_, _, rfl⟩
  obtain ⟨g2, s2, e2⟩ : ∃ g s', getF bs s1 1 = (g, s') := ⟨_, _, rfl⟩
  have a1 := getF_at bs s 1 hs
  rw [e1] at a1
  simp only [] at a1
  have a2 := getF_at bs s1 1 a1
  rw [e2] at a2
  simp only [] at a2
  unfold turnX at e
  rw [e1] at e
  simp only [] at e
  rw [e2] at e
  simp only [] at e
  by_cases c1 : g1 = 0
  · rw [if_pos c1] at e
    obtain ⟨rfl, rfl, rfl, rfl⟩ : 0 = x ∧ true = ok ∧ w = w' ∧ s1 = s' := ⟨congrArg Prod.fst e, congrArg (fun z => z.2.1) e, congrArg (fun z => z.2.2.1) e, congrArg (fun z => z.2.2.2) e⟩
    refine W.seq ?_
    refine W.region ?_
    refine WL.as rfl rfl ?_
    refine WL.as rfl rfl ?_
    refine WL.nil ?_
    refine W.seq ?_
    refine W.seq ?_
    refine W.region ?_
    refine WL.mv rfl rfl ?_
    refine WL.callM 0 rfl rfl rfl (fun x p d => get_e _ _ _ _ _ (by assumption) (by first | exact Nat.zero_le _ | assumption | (simp only [pack_len]; omega) | (exact getF_at _ _ _ (by first | exact Nat.zero_le _ | assumption | exact getF_at _ _ _ (by first | exact Nat.zero_le _ | assumption)))) (by first | assumption | omega | (simp only [pack_len, List.length_append, bitsOf_len, List.length_nil, heldF]; omega)) (by first | assumption | exact pack_lt _ (by repeat' first | assumption | exact bok_nil | exact bitsOf_bit _ _ | apply bok_app))) (by repeat' first | exact FL.nil | apply FL.cons) ?_
    refine WL.eql rfl rfl rfl ?_
    refine WL.nil ?_
    refine W.condpT rfl (by omega) ?_
    refine W.seq ?_
    refine W.region ?_
    refine WL.as rfl rfl ?_
    refine WL.as rfl rfl ?_
    refine WL.nil ?_
    exact W.ret2 rfl rfl rfl (fun h p => ⟨rfl, p⟩)
  rw [if_neg c1] at e
  obtain ⟨is, a, t⟩ := w
  have hw' : a ≤ 31 ∧ a + t ≤ 64 := hw
  obtain ⟨hw1, hw2⟩ := hw'
  simp only [winC]
  by_cases c2 : g2 = 0
  · rw [if_pos c2] at e
    obtain ⟨g3, s3, e3⟩ : ∃ g s', getF bs s2 ((64 - a - t : Nat) : Int) = (g, s') := ⟨_, _, rfl⟩
    have elng : lngX ⟨is, a, t⟩ = 64 - a - t := rfl
    simp only [elng] at e
    rw [e3] at e
    simp only [] at e
    refine W.seq ?_
    refine W.region ?_
    refine WL.as rfl rfl ?_
    refine WL.as rfl rfl ?_
    refine WL.nil ?_
    refine W.seq ?_
    refine W.seq ?_
    refine W.region ?_
    refine WL.mv rfl rfl ?_
    refine WL.callM 0 rfl rfl rfl (fun x p d => get_e _ _ _ _ _ (by assumption) (by first | exact Nat.zero_le _ | assumption | (simp only [pack_len]; omega) | (exact getF_at _ _ _ (by first | exact Nat.zero_le _ | assumption | exact getF_at _ _ _ (by first | exact Nat.zero_le _ | assumption)))) (by first | assumption | omega | (simp only [pack_len, List.length_append, bitsOf_len, List.length_nil, heldF]; omega)) (by first | assumption | exact pack_lt _ (by repeat' first | assumption | exact bok_nil | exact bitsOf_bit _ _ | apply bok_app))) (by repeat' first | exact FL.nil | apply FL.cons) ?_
    refine WL.eql rfl rfl rfl ?_
    refine WL.nil ?_
    refine W.condpF rfl (by omega) ?_
    refine W.skip ?_
    refine W.seq ?_
    refine W.seq ?_
    refine W.region ?_
    refine WL.mv rfl rfl ?_
    refine WL.callM 0 rfl rfl rfl (fun x p d => get_e _ _ _ _ _ (by assumption) (by first | exact Nat.zero_le _ | assumption | (simp only [pack_len]; omega) | (exact getF_at _ _ _ (by first | exact Nat.zero_le _ | assumption | exact getF_at _ _ _ (by first | exact Nat.zero_le _ | assumption)))) (by first | assumption | omega | (simp only [pack_len, List.length_append, bitsOf_len, List.length_nil, heldF]; omega)) (by first | assumption | exact pack_lt _ (by repeat' first | assumption | exact bok_nil | exact bitsOf_bit _ _ | apply bok_app))) (by repeat' first | exact FL.nil | apply FL.cons) ?_
    refine WL.eql rfl rfl rfl ?_
    refine WL.nil ?_
    refine W.condpT rfl (by omega) ?_
    refine W.seq ?_
    refine W.drawP 11 [true, false] rfl (by repeat' first | exact FL.nil | apply FL.cons) (by repeat' first | exact FL.nil | apply FL.cons) (fun σ0 hσ0 dσ0 => ?_)
    have fσ0_0 := rb_at 0 rfl hσ0 dσ0
    refine WD.takeL 0 rfl (by decide +kernel) ?_
    refine WL.mv rfl rfl ?_
    refine WL.nilT ?_
    refine WD.takeL 1 rfl (by decide +kernel) ?_
    refine WL.mv rfl rfl ?_
    refine WL.nilT ?_
    refine WD.takeL 2 rfl (by decide +kernel) ?_
    refine WL.nc rfl rfl ?_
    refine WL.nilT ?_
    refine WD.takeL 3 rfl (by decide +kernel) ?_
    refine WL.ldABF (T := Ty) rfl rfl rfl rfl (by first | assumption | exact RB.wide (by assumption) | exact In.rb (by assumption)) rfl (by repeat' first | exact FL.nil | apply FL.cons) ?_
    refine WL.nilT ?_
    refine WD.takeL 6 rfl (by decide +kernel) ?_
    refine WL.mv rfl rfl ?_
    refine WL.nilT ?_
    refine WD.takeL 7 rfl (by decide +kernel) ?_
    refine WL.nc rfl rfl ?_
    refine WL.nilT ?_
    refine WD.takeL 8 rfl (by decide +kernel) ?_
    refine WL.faN (T := Ty) (off' := 2) rfl rfl rfl rfl rfl rfl rfl ?_
    refine WL.nilT ?_
    refine WD.takeL 9 rfl (by decide +kernel) ?_
    refine WL.ldBN (T := Ty) rfl rfl rfl rfl (by first | assumption | exact RB.wide (by assumption) | exact In.rb (by assumption)) rfl ?_
    refine WL.nilT ?_
    refine WD.oneL 4 rfl (by decide +kernel) ?_
    refine WL.callV rfl rfl (fun x p d => long_c _ _ _ _ (by omega)) ?_
    refine WL.nilE ?_
    refine WD.oneL 5 rfl (by decide +kernel) ?_
    refine WL.callM 1 rfl rfl rfl (fun x p d => get_e _ _ _ _ _ (by assumption) (by first | exact Nat.zero_le _ | assumption | (simp only [pack_len]; omega) | (exact getF_at _ _ _ (by first | exact Nat.zero_le _ | assumption | exact getF_at _ _ _ (by first | exact Nat.zero_le _ | assumption)))) (by first | assumption | omega | (simp only [pack_len, List.length_append, bitsOf_len, List.length_nil, heldF]; omega)) (by first | assumption | exact pack_lt _ (by repeat' first | assumption | exact bok_nil | exact bitsOf_bit _ _ | apply bok_app))) (by repeat' first | exact FL.nil | apply FL.cons) ?_
    refine WL.nilE ?_
    refine WD.takeL 10 rfl (by decide +kernel) ?_
    refine WL.shlS rfl rfl rfl (by omega) rfl rfl ?_
    refine WL.nilT ?_
    refine WD.lastG hσ0 (by decide +kernel) (by repeat' first | exact FL.nil | apply FL.cons) rfl (by repeat' first | exact FL.nil | apply FL.cons) ?_
    refine WL.as rfl rfl ?_
    refine WL.nil ?_
    refine W.seq ?_
    refine W.region ?_
    refine WL.mv rfl rfl ?_
    refine WL.mv rfl rfl ?_
    refine WL.nc rfl rfl ?_
    refine WL.faN (T := Ty) (off' := 0) rfl rfl rfl rfl rfl rfl rfl ?_
    refine WL.ldN (T := Ty) (j := 0) rfl rfl rfl rfl rfl rfl ?_
    refine WL.mv rfl rfl ?_
    rw [shl_val g3 t (by omega)]
    obtain ⟨rfl, rfl, rfl, rfl⟩ : g3 * 2 ^ t % 18446744073709551616 = x ∧ (is && decide (g3 * 2 ^ t % 18446744073709551616 ≠ 0)) = ok ∧ (⟨is, a, t⟩ : Win) = w' ∧ s3 = s' := ⟨congrArg Prod.fst e, congrArg (fun z => z.2.1) e, congrArg (fun z => z.2.2.1) e, congrArg (fun z => z.2.2.2) e⟩
    generalize g3 * 2 ^ t % 18446744073709551616 = x
    cases is with
    | false =>
      refine WL.gdN rfl rfl rfl rfl rfl rfl ?_
      refine WL.gdN rfl rfl rfl rfl rfl rfl ?_
      refine WL.pickF rfl rfl rfl ?_
      refine WL.as rfl rfl ?_
      refine WL.as rfl rfl ?_
      refine WL.nil ?_
      refine W.swap ?_
      exact W.ret2 rfl rfl rfl (fun h p => ⟨rfl, p⟩)
    | true =>
      refine WL.gY rfl rfl ?_
      refine WL.mv rfl rfl ?_
      refine WL.gY rfl rfl ?_
      refine WL.neq rfl rfl rfl ?_
      refine WL.pickT rfl rfl rfl ?_
      refine WL.as rfl rfl ?_
      refine WL.as rfl rfl ?_
      refine WL.nil ?_
      refine W.swap ?_
      refine W.ret2 rfl rfl rfl (fun h p => ⟨?_, p⟩)
      by_cases h0 : x = 0
      · subst h0; rfl
      · have h0' : ¬ (x : Int) = 0 := by omega
        simp [h0, h0']
  rw [if_neg c2] at e
  obtain ⟨g3, s3, e3⟩ : ∃ g s', getF bs s2 5 = (g, s') := ⟨_, _, rfl⟩
  have a3 := getF_at bs s2 5 a2
  have b3 := getF_lt5 bs s2
  rw [e3] at a3 b3 e
  simp only [] at a3 b3 e
  obtain ⟨g4, s4, e4⟩ : ∃ g s', getF bs s3 6 = (g, s') := ⟨_, _, rfl⟩
  have a4 := getF_at bs s3 6 a3
  have b4 := getF_lt6 bs s3
  rw [e4] at a4 b4 e
  simp only [] at a4 b4 e
  by_cases c3 : 64 < g3 + (g4 + 1)
  · rw [if_pos c3] at e
    obtain ⟨rfl, rfl, rfl, rfl⟩ : 0 = x ∧ false = ok ∧ (⟨is, a, t⟩ : Win) = w' ∧ s4 = s' := ⟨congrArg Prod.fst e, congrArg (fun z => z.2.1) e, congrArg (fun z => z.2.2.1) e, congrArg (fun z => z.2.2.2) e⟩
    refine W.seq ?_
    refine W.region ?_
    refine WL.as rfl rfl ?_
    refine WL.as rfl rfl ?_
    refine WL.nil ?_
    refine W.seq ?_
    refine W.seq ?_
    refine W.region ?_
    refine WL.mv rfl rfl ?_
    refine WL.callM 0 rfl rfl rfl (fun x p d => get_e _ _ _ _ _ (by assumption) (by first | exact Nat.zero_le _ | assumption | (simp only [pack_len]; omega) | (exact getF_at _ _ _ (by first | exact Nat.zero_le _ | assumption | exact getF_at _ _ _ (by first | exact Nat.zero_le _ | assumption)))) (by first | assumption | omega | (simp only [pack_len, List.length_append, bitsOf_len, List.length_nil, heldF]; omega)) (by first | assumption | exact pack_lt _ (by repeat' first | assumption | exact bok_nil | exact bitsOf_bit _ _ | apply bok_app))) (by repeat' first | exact FL.nil | apply FL.cons) ?_
    refine WL.eql rfl rfl rfl ?_
    refine WL.nil ?_
    refine W.condpF rfl (by omega) ?_
    refine W.skip ?_
    refine W.seq ?_
    refine W.seq ?_
    refine W.region ?_
    refine WL.mv rfl rfl ?_
    refine WL.callM 0 rfl rfl rfl (fun x p d => get_e _ _ _ _ _ (by assumption) (by first | exact Nat.zero_le _ | assumption | (simp only [pack_len]; omega) | (exact getF_at _ _ _ (by first | exact Nat.zero_le _ | assumption | exact getF_at _ _ _ (by first | exact Nat.zero_le _ | assumption)))) (by first | assumption | omega | (simp only [pack_len, List.length_append, bitsOf_len, List.length_nil, heldF]; omega)) (by first | assumption | exact pack_lt _ (by repeat' first | assumption | exact bok_nil | exact bitsOf_bit _ _ | apply bok_app))) (by repeat' first | exact FL.nil | apply FL.cons) ?_
    refine WL.eql rfl rfl rfl ?_
    refine WL.nil ?_
    refine W.condpF rfl (by omega) ?_
    refine W.skip ?_
    refine W.seq ?_
    refine W.region ?_
    refine WL.mv rfl rfl ?_
    refine WL.callM 0 rfl rfl rfl (fun x p d => get_e _ _ _ _ _ (by assumption) (by first | exact Nat.zero_le _ | assumption | (simp only [pack_len]; omega) | (exact getF_at _ _ _ (by first | exact Nat.zero_le _ | assumption | exact getF_at _ _ _ (by first | exact Nat.zero_le _ | assumption)))) (by first | assumption | omega | (simp only [pack_len, List.length_append, bitsOf_len, List.length_nil, heldF]; omega)) (by first | assumption | exact pack_lt _ (by repeat' first | assumption | exact bok_nil | exact bitsOf_bit _ _ | apply bok_app))) (by repeat' first | exact FL.nil | apply FL.cons) ?_
    refine WL.cvK (T := Ty) rfl rfl rfl rfl (wrap_i64 ⟨by omega, by omega⟩) ?_
    refine WL.mv rfl rfl ?_
    refine WL.callM 0 rfl rfl rfl (fun x p d => get_e _ _ _ _ _ (by assumption) (by first | exact Nat.zero_le _ | assumption | (simp only [pack_len]; omega) | (exact getF_at _ _ _ (by first | exact Nat.zero_le _ | assumption | exact getF_at _ _ _ (by first | exact Nat.zero_le _ | assumption)))) (by first | assumption | omega | (simp only [pack_len, List.length_append, bitsOf_len, List.length_nil, heldF]; omega)) (by first | assumption | exact pack_lt _ (by repeat' first | assumption | exact bok_nil | exact bitsOf_bit _ _ | apply bok_app))) (by repeat' first | exact FL.nil | apply FL.cons) ?_
    refine WL.cvK (T := Ty) rfl rfl rfl rfl (wrap_i64 ⟨by omega, by omega⟩) ?_
    refine WL.addK rfl rfl rfl (wrap_i64 ⟨by omega, by omega⟩) ?_
    refine WL.as rfl rfl ?_
    refine WL.as rfl rfl ?_
    refine WL.nil ?_
    refine W.seq ?_
    refine W.region ?_
    refine WL.mv rfl rfl ?_
    refine WL.mv rfl rfl ?_
    refine WL.subK rfl rfl rfl (wrap_i64 ⟨by omega, by omega⟩) ?_
    refine WL.mv rfl rfl ?_
    refine WL.subK rfl rfl rfl (wrap_i64 ⟨by omega, by omega⟩) ?_
    refine WL.bdC (T := Ty) rfl rfl rfl rfl (by repeat' first | exact CO.nil | apply CO.one (by first | rfl | exact SL.one (by assumption)) | apply CO.agg) rfl (by repeat' first | exact FL.nil | apply FL.cons) ?_
    refine WL.alF (T := Ty) rfl rfl (by repeat' first | exact FL.nil | apply FL.cons) (fun b5 => ?_)
    refine WL.stAO (T := Ty) (j := 0) rfl rfl rfl rfl (by repeat' first | exact AO.nil | apply AO.cons (by first | rfl | exact SL.one (by assumption))) rfl rfl (by repeat' first | exact FL.nil | apply FL.cons) (by repeat' first | exact FL.nil | apply FL.cons) ?_
    refine WL.nil ?_
    refine W.seq ?_
    refine W.seq ?_
    refine W.region ?_
    refine WL.faN (T := Ty) (off' := 2) rfl rfl rfl rfl rfl rfl rfl ?_
    refine WL.ldN (T := Ty) (j := 0) rfl rfl rfl rfl rfl rfl ?_
    refine WL.lss rfl rfl rfl ?_
    refine WL.nil ?_
    refine W.condpT rfl (by omega) ?_
    refine W.seq ?_
    refine W.region ?_
    refine WL.as rfl rfl ?_
    refine WL.as rfl rfl ?_
    refine WL.nil ?_
    refine W.drop 0 rfl (by repeat' first | exact FL.nil | apply FL.cons) ?_
    exact W.ret2 rfl rfl rfl (fun h p => ⟨rfl, p⟩)
  rw [if_neg c3] at e
  obtain ⟨g5, s5, e5⟩ : ∃ g s', getF bs s4 ((g4 + 1 : Nat) : Int) = (g, s') := ⟨_, _, rfl⟩
  have e5' : getF bs s4 ((g4 : Int) + 1) = (g5, s5) := by rw [← e5]; rfl
  rw [e5] at e
  simp only [] at e
  obtain ⟨tr, htr⟩ : ∃ tr : Nat, tr = 64 - g3 - (g4 + 1) := ⟨_, rfl⟩
  have htr2 : (64 : Int) - (g3 : Int) - ((g4 : Int) + 1) = (tr : Int) := by omega
  rw [← htr] at e
  refine W.seq ?_
  refine W.region ?_
  refine WL.as rfl rfl ?_
  refine WL.as rfl rfl ?_
  refine WL.nil ?_
  refine W.seq ?_
  refine W.seq ?_
  refine W.region ?_
  refine WL.mv rfl rfl ?_
  refine WL.callM 0 rfl rfl rfl (fun x p d => get_e _ _ _ _ _ (by assumption) (by first | exact Nat.zero_le _ | assumption | (simp only [pack_len]; omega) | (exact getF_at _ _ _ (by first | exact Nat.zero_le _ | assumption | exact getF_at _ _ _ (by first | exact Nat.zero_le _ | assumption)))) (by first | assumption | omega | (simp only [pack_len, List.length_append, bitsOf_len, List.length_nil, heldF]; omega)) (by first | assumption | exact pack_lt _ (by repeat' first | assumption | exact bok_nil | exact bitsOf_bit _ _ | apply bok_app))) (by repeat' first | exact FL.nil | apply FL.cons) ?_
  refine WL.eql rfl rfl rfl ?_
  refine WL.nil ?_
  refine W.condpF rfl (by omega) ?_
  refine W.skip ?_
  refine W.seq ?_
  refine W.seq ?_
  refine W.region ?_
  refine WL.mv rfl rfl ?_
  refine WL.callM 0 rfl rfl rfl (fun x p d => get_e _ _ _ _ _ (by assumption) (by first | exact Nat.zero_le _ | assumption | (simp only [pack_len]; omega) | (exact getF_at _ _ _ (by first | exact Nat.zero_le _ | assumption | exact getF_at _ _ _ (by first | exact Nat.zero_le _ | assumption)))) (by first | assumption | omega | (simp only [pack_len, List.length_append, bitsOf_len, List.length_nil, heldF]; omega)) (by first | assumption | exact pack_lt _ (by repeat' first | assumption | exact bok_nil | exact bitsOf_bit _ _ | apply bok_app))) (by repeat' first | exact FL.nil | apply FL.cons) ?_
  refine WL.eql rfl rfl rfl ?_
  refine WL.nil ?_
  refine W.condpF rfl (by omega) ?_
  refine W.skip ?_
  refine W.seq ?_
  refine W.region ?_
  refine WL.mv rfl rfl ?_
  refine WL.callM 0 rfl rfl rfl (fun x p d => get_e _ _ _ _ _ (by assumption) (by first | exact Nat.zero_le _ | assumption | (simp only [pack_len]; omega) | (exact getF_at _ _ _ (by first | exact Nat.zero_le _ | assumption | exact getF_at _ _ _ (by first | exact Nat.zero_le _ | assumption)))) (by first | assumption | omega | (simp only [pack_len, List.length_append, bitsOf_len, List.length_nil, heldF]; omega)) (by first | assumption | exact pack_lt _ (by repeat' first | assumption | exact bok_nil | exact bitsOf_bit _ _ | apply bok_app))) (by repeat' first | exact FL.nil | apply FL.cons) ?_
  refine WL.cvK (T := Ty) rfl rfl rfl rfl (wrap_i64 ⟨by omega, by omega⟩) ?_
  refine WL.mv rfl rfl ?_
  refine WL.callM 0 rfl rfl rfl (fun x p d => get_e _ _ _ _ _ (by assumption) (by first | exact Nat.zero_le _ | assumption | (simp only [pack_len]; omega) | (exact getF_at _ _ _ (by first | exact Nat.zero_le _ | assumption | exact getF_at _ _ _ (by first | exact Nat.zero_le _ | assumption)))) (by first | assumption | omega | (simp only [pack_len, List.length_append, bitsOf_len, List.length_nil, heldF]; omega)) (by first | assumption | exact pack_lt _ (by repeat' first | assumption | exact bok_nil | exact bitsOf_bit _ _ | apply bok_app))) (by repeat' first | exact FL.nil | apply FL.cons) ?_
  refine WL.cvK (T := Ty) rfl rfl rfl rfl (wrap_i64 ⟨by omega, by omega⟩) ?_
  refine WL.addK rfl rfl rfl (wrap_i64 ⟨by omega, by omega⟩) ?_
  refine WL.as rfl rfl ?_
  refine WL.as rfl rfl ?_
  refine WL.nil ?_
  refine W.seq ?_
  refine W.region ?_
  refine WL.mv rfl rfl ?_
  refine WL.mv rfl rfl ?_
  refine WL.subK rfl rfl rfl (wrap_i64 ⟨by omega, by omega⟩) ?_
  refine WL.mv rfl rfl ?_
  refine WL.subK rfl rfl rfl (wrap_i64 ⟨by omega, by omega⟩) ?_
  refine WL.bdC (T := Ty) rfl rfl rfl rfl (by repeat' first | exact CO.nil | apply CO.one (by first | rfl | exact SL.one (by assumption)) | apply CO.agg) rfl (by repeat' first | exact FL.nil | apply FL.cons) ?_
  refine WL.alF (T := Ty) rfl rfl (by repeat' first | exact FL.nil | apply FL.cons) (fun b5 => ?_)
  refine WL.stAO (T := Ty) (j := 0) rfl rfl rfl rfl (by repeat' first | exact AO.nil | apply AO.cons (by first | rfl | exact SL.one (by assumption))) rfl rfl (by repeat' first | exact FL.nil | apply FL.cons) (by repeat' first | exact FL.nil | apply FL.cons) ?_
  refine WL.nil ?_
  refine W.seq ?_
  refine W.seq ?_
  refine W.region ?_
  refine WL.faN (T := Ty) (off' := 2) rfl rfl rfl rfl rfl rfl rfl ?_
  refine WL.ldN (T := Ty) (j := 0) rfl rfl rfl rfl rfl rfl ?_
  refine WL.lss rfl rfl rfl ?_
  refine WL.nil ?_
  refine W.condpF rfl (by omega) ?_
  refine W.skip ?_
  refine W.seq ?_
  rw [htr2]
  refine W.drawP 6 [false, true, false] rfl (by repeat' first | exact FL.nil | apply FL.cons) (by repeat' first | exact FL.nil | apply FL.cons) (fun σ0 hσ0 dσ0 => ?_)
  have fσ0_0 := rb_at 0 rfl hσ0 dσ0
  have fσ0_1 := rb_at 1 rfl hσ0 dσ0
  refine WD.takeL 0 rfl (by decide +kernel) ?_
  refine WL.mv rfl rfl ?_
  refine WL.nilT ?_
  refine WD.takeL 1 rfl (by decide +kernel) ?_
  refine WL.mv rfl rfl ?_
  refine WL.nilT ?_
  refine WD.takeL 3 rfl (by decide +kernel) ?_
  refine WL.faN (T := Ty) (off' := 2) rfl rfl rfl rfl rfl rfl rfl ?_
  refine WL.nilT ?_
  refine WD.takeL 4 rfl (by decide +kernel) ?_
  refine WL.ldBN (T := Ty) rfl rfl rfl rfl (by first | assumption | exact RB.wide (by assumption) | exact In.rb (by assumption)) rfl ?_
  refine WL.nilT ?_
  refine WD.oneL 2 rfl (by decide +kernel) ?_
  refine WL.callM 1 rfl rfl rfl (fun x p d => get_e _ _ _ _ _ (by assumption) (by first | exact Nat.zero_le _ | assumption | (simp only [pack_len]; omega) | (exact getF_at _ _ _ (by first | exact Nat.zero_le _ | assumption | exact getF_at _ _ _ (by first | exact Nat.zero_le _ | assumption)))) (by first | assumption | omega | (simp only [pack_len, List.length_append, bitsOf_len, List.length_nil, heldF]; omega)) (by first | assumption | exact pack_lt _ (by repeat' first | assumption | exact bok_nil | exact bitsOf_bit _ _ | apply bok_app))) (by repeat' first | exact FL.nil | apply FL.cons) ?_
  refine WL.nilE ?_
  refine WD.takeL 5 rfl (by decide +kernel) ?_
  refine WL.shlS rfl rfl rfl (by omega) rfl rfl ?_
  refine WL.nilT ?_
  refine WD.lastG hσ0 (by decide +kernel) (by repeat' first | exact FL.nil | apply FL.cons) rfl (by repeat' first | exact FL.nil | apply FL.cons) ?_
  refine WL.as rfl rfl ?_
  refine WL.nil ?_
  refine W.seq ?_
  refine W.seq ?_
  refine W.drawA 15 rfl (fun σ1 hσ1 dσ1 => ?_)
  have fσ1_0 := rb_at 0 rfl hσ1 dσ1
  have fσ1_1 := rb_at 1 rfl hσ1 dσ1
  have fσ1_2 := in_at 2 rfl hσ1 dσ1
  refine WD.takeL 0 rfl (by decide +kernel) ?_
  refine WL.mv rfl rfl ?_
  refine WL.nilT ?_
  refine WD.takeL 1 rfl (by decide +kernel) ?_
  refine WL.eql rfl rfl rfl ?_
  refine WL.nilT ?_
  refine WD.takeL 2 rfl (by decide +kernel) ?_
  refine WL.mv rfl rfl ?_
  refine WL.nilT ?_
  refine WD.takeL 3 rfl (by decide +kernel) ?_
  rw [shl_val g5 tr (by omega)]
  have hxl : g5 * 2 ^ tr % 18446744073709551616 < 18446744073709551616 := Nat.mod_lt _ (by decide)
  generalize g5 * 2 ^ tr % 18446744073709551616 = y at *
  have finF : (y = 0 ∨ ¬ (ldX y = g3 ∧ tzX y = tr) ∨ fitsX ⟨is, a, t⟩ y = true) → 0 = x ∧ false = ok ∧ (⟨is, a, t⟩ : Win) = w' ∧ s5 = s' := fun hc => by
    rw [if_pos hc] at e
    exact ⟨congrArg Prod.fst e, congrArg (fun z => z.2.1) e, congrArg (fun z => z.2.2.1) e, congrArg (fun z => z.2.2.2) e⟩
  by_cases h0 : y = 0
  · obtain ⟨rfl, rfl, rfl, rfl⟩ := finF (.inl h0)
    have h0' : (y : Int) = 0 := by omega
    refine WL.gdFn rfl rfl rfl rfl rfl (by omega) ?_
    refine WL.nilT ?_
    refine WD.takeL 5 rfl (by decide +kernel) ?_
    refine WL.gdFn rfl rfl rfl rfl rfl (by omega) ?_
    refine WL.nilT ?_
    refine WD.takeL 4 rfl (by decide +kernel) ?_
    refine WL.gdFn rfl rfl rfl rfl rfl (by omega) ?_
    refine WL.nilT ?_
    refine WD.takeL 6 rfl (by decide +kernel) ?_
    refine WL.gdFn rfl rfl rfl rfl rfl (by omega) ?_
    refine WL.nilT ?_
    refine WD.takeL 7 rfl (by decide +kernel) ?_
    refine WL.pickTp rfl rfl (by omega) rfl ?_
    refine WL.nilT ?_
    refine WD.takeL 8 rfl (by decide +kernel) ?_
    refine WL.mv rfl rfl ?_
    refine WL.nilT ?_
    refine WD.takeL 9 rfl (by decide +kernel) ?_
    refine WL.gdN rfl rfl rfl rfl rfl rfl ?_
    refine WL.nilT ?_
    refine WD.takeL 10 rfl (by decide +kernel) ?_
    refine WL.gdN rfl rfl rfl rfl rfl rfl ?_
    refine WL.nilT ?_
    refine WD.takeL 11 rfl (by decide +kernel) ?_
    refine WL.gdN rfl rfl rfl rfl rfl rfl ?_
    refine WL.nilT ?_
    refine WD.takeL 12 rfl (by decide +kernel) ?_
    refine WL.gdN rfl rfl rfl rfl rfl rfl ?_
    refine WL.nilT ?_
    refine WD.takeL 13 rfl (by decide +kernel) ?_
    refine WL.gdN rfl rfl rfl rfl rfl rfl ?_
    refine WL.nilT ?_
    refine WD.takeL 14 rfl (by decide +kernel) ?_
    refine WL.pickT rfl rfl rfl ?_
    refine WL.nilT ?_
    refine WD.doneF hσ1 (by decide +kernel) (by repeat' first | exact FL.nil | apply FL.cons) ?_
    refine W.condT rfl ?_
    refine W.seq ?_
    refine W.region ?_
    refine WL.as rfl rfl ?_
    refine WL.as rfl rfl ?_
    refine WL.nil ?_
    refine W.drop 0 rfl (by repeat' first | exact FL.nil | apply FL.cons) ?_
    refine W.swap ?_
    exact W.ret2 rfl rfl rfl (fun h p => ⟨rfl, p⟩)
  · have h0' : ¬ (y : Int) = 0 := by omega
    have hval : (!(true == true && (((ldX y : Nat) : Int) == (g3 : Int) && ((tzX y : Nat) : Int) == (tr : Int)))) = decide (¬ (ldX y = g3 ∧ tzX y = tr)) := by
      by_cases q1 : ldX y = g3
      · by_cases q2 : tzX y = tr
        · simp [q1, q2]
        · have : ¬ ((tzX y : Int) = (tr : Int)) := by omega
          simp [q1, q2, this]
      · have : ¬ ((ldX y : Int) = (g3 : Int)) := by omega
        simp [q1, this]
    refine WL.gF rfl rfl (by omega) ?_
    refine WL.mv rfl rfl ?_
    refine WL.nilT ?_
    refine WD.takeL 5 rfl (by decide +kernel) ?_
    refine WL.gF rfl rfl (by omega) ?_
    refine WL.ldABF (T := Ty) rfl rfl rfl rfl (by first | assumption | exact RB.wide (by assumption) | exact In.rb (by assumption)) rfl (by repeat' first | exact FL.nil | apply FL.cons) ?_
    refine WL.nilT ?_
    refine WD.oneL 4 rfl (by decide +kernel) ?_
    refine WL.gF rfl rfl (by omega) ?_
    refine WL.callT (v := WinV (ofX _)) rfl rfl (fun x p d => of_c _ _ (by first | assumption | omega) (TabG.wide (by assumption))) ?_
    simp only [WinV, ofX]
    refine WL.nilE ?_
    refine WD.takeL 6 rfl (by decide +kernel) ?_
    refine WL.gF rfl rfl (by omega) ?_
    refine WL.neBII (T := Ty) rfl rfl rfl rfl rfl rfl rfl rfl rfl rfl (by decide) (by decide) (by decide) rfl rfl rfl (by kernel_rfl) (by kernel_rfl) ?_
    rw [hval]
    by_cases hd : ldX y = g3 ∧ tzX y = tr
    · rw [decide_eq_false (not_not_intro hd)]
      by_cases hf : fitsX ⟨is, a, t⟩ y = true
      · obtain ⟨rfl, rfl, rfl, rfl⟩ := finF (.inr (.inr hf))
        refine WL.nilT ?_
        refine WD.takeL 7 rfl (by decide +kernel) ?_
        refine WL.pickFp rfl rfl (by omega) rfl ?_
        refine WL.nilT ?_
        refine WD.takeL 8 rfl (by decide +kernel) ?_
        refine WL.mv rfl rfl ?_
        refine WL.nilT ?_
        refine WD.takeL 9 rfl (by decide +kernel) ?_
        refine WL.gY rfl rfl ?_
        refine WL.mv rfl rfl ?_
        refine WL.nilT ?_
        refine WD.takeL 10 rfl (by decide +kernel) ?_
        refine WL.gY rfl rfl ?_
        refine WL.nc rfl rfl ?_
        refine WL.nilT ?_
        refine WD.takeL 11 rfl (by decide +kernel) ?_
        refine WL.gY rfl rfl ?_
        refine WL.ldABF (T := Ty) rfl rfl rfl rfl (by first | assumption | exact RB.wide (by assumption) | exact In.rb (by assumption)) rfl (by repeat' first | exact FL.nil | apply FL.cons) ?_
        refine WL.nilT ?_
        refine WD.takeL 12 rfl (by decide +kernel) ?_
        refine WL.gY rfl rfl ?_
        refine WL.mv rfl rfl ?_
        refine WL.nilT ?_
        refine WD.oneL 13 rfl (by decide +kernel) ?_
        refine WL.gY rfl rfl ?_
        refine WL.callV rfl rfl (fun x p d => fits_e _ _ _ _ _ (by assumption) (by first | assumption | omega) (TabG.wide (by assumption))) ?_
        refine WL.nilE ?_
        refine WD.takeL 14 rfl (by decide +kernel) ?_
        refine WL.pickF rfl rfl rfl ?_
        refine WL.nilT ?_
        refine WD.doneF hσ1 (by decide +kernel) (by repeat' first | exact FL.nil | apply FL.cons) ?_
        refine W.condT rfl ?_
        refine W.seq ?_
        refine W.region ?_
        refine WL.as rfl rfl ?_
        refine WL.as rfl rfl ?_
        refine WL.nil ?_
        refine W.drop 0 rfl (by repeat' first | exact FL.nil | apply FL.cons) ?_
        refine W.swap ?_
        exact W.ret2 rfl rfl rfl (fun h p => ⟨rfl, p⟩)
      · have hf' : fitsX ⟨is, a, t⟩ y = false := by simpa using hf
        obtain ⟨rfl, rfl, rfl, rfl⟩ : y = x ∧ true = ok ∧ (⟨true, g3, tr⟩ : Win) = w' ∧ s5 = s' := by
          rw [if_neg (by simp only [not_or]; exact ⟨h0, fun h => h hd, hf⟩)] at e
          exact ⟨congrArg Prod.fst e, congrArg (fun z => z.2.1) e, congrArg (fun z => z.2.2.1) e, congrArg (fun z => z.2.2.2) e⟩
        refine WL.nilT ?_
        refine WD.takeL 7 rfl (by decide +kernel) ?_
        refine WL.pickFp rfl rfl (by omega) rfl ?_
        refine WL.nilT ?_
        refine WD.takeL 8 rfl (by decide +kernel) ?_
        refine WL.mv rfl rfl ?_
        refine WL.nilT ?_
        refine WD.takeL 9 rfl (by decide +kernel) ?_
        refine WL.gY rfl rfl ?_
        refine WL.mv rfl rfl ?_
        refine WL.nilT ?_
        refine WD.takeL 10 rfl (by decide +kernel) ?_
        refine WL.gY rfl rfl ?_
        refine WL.nc rfl rfl ?_
        refine WL.nilT ?_
        refine WD.takeL 11 rfl (by decide +kernel) ?_
        refine WL.gY rfl rfl ?_
        refine WL.ldABF (T := Ty) rfl rfl rfl rfl (by first | assumption | exact RB.wide (by assumption) | exact In.rb (by assumption)) rfl (by repeat' first | exact FL.nil | apply FL.cons) ?_
        refine WL.nilT ?_
        refine WD.takeL 12 rfl (by decide +kernel) ?_
        refine WL.gY rfl rfl ?_
        refine WL.mv rfl rfl ?_
        refine WL.nilT ?_
        refine WD.oneL 13 rfl (by decide +kernel) ?_
        refine WL.gY rfl rfl ?_
        refine WL.callV rfl rfl (fun x p d => fits_e _ _ _ _ _ (by assumption) (by first | assumption | omega) (TabG.wide (by assumption))) ?_
        refine WL.nilE ?_
        refine WD.takeL 14 rfl (by decide +kernel) ?_
        refine WL.pickF rfl rfl rfl ?_
        refine WL.nilT ?_
        refine WD.doneF hσ1 (by decide +kernel) (by repeat' first | exact FL.nil | apply FL.cons) ?_
        refine W.condF rfl ?_
        refine W.skip ?_
        refine W.seq ?_
        refine W.region ?_
        refine WL.mv rfl rfl ?_
        refine WL.ldAF (T := Ty) (j := 0) rfl rfl rfl rfl rfl rfl (by repeat' first | exact FL.nil | apply FL.cons) ?_
        refine WL.nc rfl rfl ?_
        refine WL.stAO (T := Ty) (j := 1) rfl rfl rfl rfl (by repeat' first | exact AO.nil | apply AO.cons (by first | rfl | exact SL.one (by assumption))) rfl rfl (by repeat' first | exact FL.nil | apply FL.cons) (by repeat' first | exact FL.nil | apply FL.cons) ?_
        refine WL.nil ?_
        refine W.seq ?_
        refine W.region ?_
        refine WL.mv rfl rfl ?_
        refine WL.as rfl rfl ?_
        refine WL.as rfl rfl ?_
        refine WL.nil ?_
        refine W.drop 0 rfl (by repeat' first | exact FL.nil | apply FL.cons) ?_
        refine W.swap ?_
        exact W.ret2 rfl rfl rfl (fun h p => ⟨rfl, p⟩)
    · rw [decide_eq_true hd]
      obtain ⟨rfl, rfl, rfl, rfl⟩ := finF (.inr (.inl hd))
      refine WL.nilT ?_
      refine WD.takeL 7 rfl (by decide +kernel) ?_
      refine WL.pickFp rfl rfl (by omega) rfl ?_
      refine WL.nilT ?_
      refine WD.takeL 8 rfl (by decide +kernel) ?_
      refine WL.mv rfl rfl ?_
      refine WL.nilT ?_
      refine WD.takeL 9 rfl (by decide +kernel) ?_
      refine WL.gdN rfl rfl rfl rfl rfl rfl ?_
      refine WL.nilT ?_
      refine WD.takeL 10 rfl (by decide +kernel) ?_
      refine WL.gdN rfl rfl rfl rfl rfl rfl ?_
      refine WL.nilT ?_
      refine WD.takeL 11 rfl (by decide +kernel) ?_
      refine WL.gdN rfl rfl rfl rfl rfl rfl ?_
      refine WL.nilT ?_
      refine WD.takeL 12 rfl (by decide +kernel) ?_
      refine WL.gdN rfl rfl rfl rfl rfl rfl ?_
      refine WL.nilT ?_
      refine WD.takeL 13 rfl (by decide +kernel) ?_
      refine WL.gdN rfl rfl rfl rfl rfl rfl ?_
      refine WL.nilT ?_
      refine WD.takeL 14 rfl (by decide +kernel) ?_
      refine WL.pickT rfl rfl rfl ?_
      refine WL.nilT ?_
      refine WD.doneF hσ1 (by decide +kernel) (by repeat' first | exact FL.nil | apply FL.cons) ?_
      refine W.condT rfl ?_
      refine W.seq ?_
      refine W.region ?_
      refine WL.as rfl rfl ?_
      refine WL.as rfl rfl ?_
      refine WL.nil ?_
      refine W.drop 0 rfl (by repeat' first | exact FL.nil | apply FL.cons) ?_
      refine W.swap ?_
      exact W.ret2 rfl rfl rfl (fun h p => ⟨rfl, p⟩)
end Go.Proofs.YtjibmfkhhljhcaaDoor
