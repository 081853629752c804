/- Numbers of any length: what the code of package vint does. -/
import Derived.Test.YtjibmfkhhljhcaaStc
import Derived.Test.YtjibmfkhhljhcaaNum
import Derived.Test.YtjibmfkhhljhcaaTab
import Derived.Test.YtjibmfkhhljhcaaCpB
import Derived.Test.YtjibmfkhhljhcaaClB
import Derived.Test.YtjibmfkhhljhcaaVintDef
set_option linter.unusedSimpArgs false
set_option linter.unusedVariables false
set_option maxRecDepth 20000
set_option maxHeartbeats 4000000
namespace Go.Proofs.Ytjibmfkhhljhcaa
open Go
attribute [local irreducible] W WL Fn Buf ROs SL eptr box Rd Src bndOK WD RB Reads In

-- CALL 36 refine WL.callF rfl rfl (fun x p d => vput_c _ _ _ _ $RO (by first | assumption | omega) (by first | assumption | omega | (simp only [List.length_append]; omega))) (fun u$N => ?_) ;; refine WL.fact (i := 0) rfl (fun h hb => Buf.slm hb) (fun hsl$N => ?_)
theorem vput_c (ρ : Hp) (b : Value) (bs : List Nat) (u : Nat) (hb : ROs ρ 1 b (bs.map bcell)) (hu : u < 18446744073709551616) (hl : bs.length + 10 ≤ 140737488355328) :
    Fn Try.prog 36 #[b, .int .u64 (u : Int)] ρ [] (fun r => Buf 1 r ((bs ++ vputF 9 u).map bcell)) := by
  refine in36 rfl rfl ?_
  refine W.seq ?_
  refine W.region ?_
  refine WL.as rfl rfl ?_
  refine WL.nil ?_
  refine W.seq ?_
  refine W.region ?_
  refine WL.mv rfl rfl ?_
  refine WL.callF rfl rfl (fun x p d => clone_c _ _ _ _ (by first | assumption | exact ROs.wide (by assumption) | exact ROs.mono (by assumption) (eqh_at 0 rfl p d) | exact ros_at 0 rfl p d | exact ros_at 1 rfl p d | exact ros_at 2 rfl p d | exact ros_at 3 rfl p d | exact ros_at 4 rfl p d) (Nat.mul_one _).symm (one_bcell _) (by simp; omega)) (fun u0 => ?_)
  refine WL.fact (i := 0) rfl (fun h hb => Buf.slm hb) (fun hsl0 => ?_)
  refine WL.callP 0 rfl rfl rfl (fun x p d => clip_c _ _ _ _ (Nat.mul_one _).symm) (by repeat' first | exact FL.nil | apply FL.cons) (fun u1 => ?_)
  refine WL.fact (i := 0) rfl (fun h hb => Buf.slm hb) (fun hsl1 => ?_)
  refine WL.as rfl rfl ?_
  refine WL.nil ?_
  refine W.seq ?_
  refine W.block ?_
  refine W.loopS (σ := Nat × List Nat × Nat × Value) (fun s => [(1, .int .u64 (s.2.2.1 : Int)), (5, s.2.2.2)]) (fun s => [Buf 1 s.2.2.2 (s.2.1.map bcell)])
    (fun s => s.2.1 ++ vputF s.1 s.2.2.1 = bs ++ vputF 9 u ∧ s.2.1.length + s.1 ≤ bs.length + 9 ∧ s.2.2.1 < 128 ^ (s.1 + 1)) (fun s => s.1) (9, bs, u, u1) ⟨rfl, rfl, trivial⟩ rfl ⟨rfl, by simp, by simp; omega⟩ ?_
  rintro ⟨k, xs, y, v⟩ ⟨h1, h2, h3⟩ next
  simp only [] at h1 h2 h3 next ⊢
  refine W.fact (i := 0) rfl (fun h hb => hb.sl (n := xs.length) (by simp) (by omega)) fun hs => ?_
  refine W.seq ?_
  refine W.seq ?_
  refine W.region ?_
  refine WL.mv rfl rfl ?_
  refine WL.geq rfl rfl rfl ?_
  refine WL.nil ?_
  refine W.condp rfl (fun hge => ?_) (fun hlt => ?_)
  · have hk : k ≠ 0 := by intro e; subst e; simp at h3; omega
    refine W.skip ?_
    refine W.seq ?_
    refine W.block ?_
    refine W.region ?_
    refine WL.mv rfl rfl ?_
    refine WL.mv rfl rfl ?_
    refine WL.cv (T := Ty) rfl rfl rfl rfl ?_
    refine WL.or rfl rfl rfl ?_
    refine WL.bsC (T := Ty) rfl rfl rfl rfl rfl rfl rfl (by repeat' first | exact CO.nil | apply CO.one (by first | rfl | exact SL.one (by assumption)) | apply CO.agg) rfl (by repeat' first | exact FL.nil | apply FL.cons) (fun u2 hu2 => ?_)
    refine WL.ap1 (T := Ty) (i := 0) rfl rfl rfl rfl rfl rfl rfl rfl (by assumption) (by first | rfl | assumption) (by first | omega | (simp; omega)) (by first | omega | (simp; omega)) (fun v' => (by repeat' first | exact FL.nil | apply FL.cons)) (fun u3 hu3 => ?_)
    refine WL.as rfl rfl ?_
    refine WL.nil ?_
    refine W.inBlock ?_
    refine W.region ?_
    refine WL.mv rfl rfl ?_
    refine WL.shrS (c := 128) rfl rfl rfl (by omega) (by decide) ?_
    refine WL.as rfl rfl ?_
    refine WL.nil ?_
    rw [vput_byte, vput_shift]
    obtain ⟨k, rfl⟩ : ∃ m, k = m + 1 := ⟨k - 1, by omega⟩
    refine W.sub ?_ (W.hs (fun h p => ?_) (next ⟨k, xs ++ [y % 128 + 128], y / 128, u3⟩ ⟨?_, ?_, ?_⟩ (by simp)))
    · exact ⟨rfl, rfl, trivial⟩
    · simpa [bcell] using p
    · rw [← h1]; simp [vputF]; omega
    · simp; omega
    · show y / 128 < 128 ^ (k + 1)
      rw [Nat.pow_succ] at h3; omega
  · refine W.exit rfl ?_
    refine W.seq ?_
    refine W.region ?_
    refine WL.mv rfl rfl ?_
    refine WL.mv rfl rfl ?_
    refine WL.cvK (T := Ty) rfl rfl rfl rfl (wrap_u8 ⟨by omega, by omega⟩) ?_
    refine WL.bsC (T := Ty) rfl rfl rfl rfl rfl rfl rfl (by repeat' first | exact CO.nil | apply CO.one (by first | rfl | exact SL.one (by assumption)) | apply CO.agg) rfl (by repeat' first | exact FL.nil | apply FL.cons) (fun u2 hu2 => ?_)
    refine WL.ap1 (T := Ty) (i := 0) rfl rfl rfl rfl rfl rfl rfl rfl (by assumption) (by first | rfl | assumption) (by first | omega | (simp; omega)) (by first | omega | (simp; omega)) (fun v' => (by repeat' first | exact FL.nil | apply FL.cons)) (fun u3 hu3 => ?_)
    refine WL.as rfl rfl ?_
    refine WL.nil ?_
    refine W.ret1 rfl rfl (fun h p => ?_)
    have e2 : vputF k y = [y] := by cases k <;> simp [vputF]; omega
    rw [← h1, e2]
    simpa [bcell] using sepl_one.1 p

-- CALL 26 refine WL.callV rfl rfl (fun x p d => vget_e _ _ _ $RO (by assumption) (by first | assumption) (by first | assumption | omega)) ?_
-- CALL 26 refine WL.callV rfl rfl (fun x p d => vget_c _ _ _ $RO (by first | assumption) (by first | assumption | omega)) ?_
theorem vget_c (ρ : Hp) (b : Value) (bs : List Nat) (hb : ROs ρ 1 b (bs.map bcell)) (hw : ∀ x ∈ bs, x < 256) (hl : bs.length ≤ 140737488355328) :
    Fn Try.prog 26 #[b] ρ [] (Just (RGet (vgetF 0 0 bs))) := by
  refine in26 rfl rfl ?_
  have hs : SL b bs.length := hb.sl (by simp) (by omega)
  refine W.seq ?_
  refine W.region ?_
  refine WL.as rfl rfl ?_
  refine WL.as rfl rfl ?_
  refine WL.nil ?_
  refine W.seq ?_
  refine W.region ?_
  refine WL.as rfl rfl ?_
  refine WL.nil ?_
  refine W.seq ?_
  refine W.seq ?_
  refine W.region ?_
  refine WL.mv rfl rfl ?_
  refine WL.len (T := Ty) rfl rfl (by assumption) rfl ?_
  refine WL.mv rfl rfl ?_
  refine WL.nil ?_
  refine W.block ?_
  refine W.loopS (σ := Nat × Nat) (fun s => [(4, .int .u64 (s.2 : Int)), (7, b), (8, .int .i64 (bs.length : Int)), (9, .int .i64 (s.1 : Int))]) (fun s => [])
    (fun s => s.1 ≤ bs.length ∧ s.1 ≤ 10 ∧ s.2 < 128 ^ s.1 ∧ vgetF s.1 s.2 (bs.drop s.1) = vgetF 0 0 bs) (fun s => bs.length - s.1) (0, 0) ⟨rfl, rfl, rfl, rfl, trivial⟩ rfl ⟨by simp, by simp, by simp, by simp⟩ ?_
  rintro ⟨i, u⟩ ⟨h1, h2, h3, h4⟩ next
  simp only [] at h1 h2 h3 h4 next ⊢
  refine W.seq ?_
  refine W.region ?_
  refine WL.lss rfl rfl rfl ?_
  refine WL.nil ?_
  refine W.seq ?_
  refine W.condp rfl (fun hlt => ?_) (fun hge => ?_)
  · have hi : i < bs.length := by omega
    obtain ⟨c, hc⟩ : ∃ c, bs[i]? = some c := ⟨_, List.getElem?_eq_getElem hi⟩
    have hc8 : c < 256 := hw c (List.mem_of_getElem? hc)
    have hdrop : bs.drop i = c :: bs.drop (i + 1) := by
      rw [List.drop_eq_getElem_cons hi]
      congr 1
      rw [List.getElem?_eq_getElem hi] at hc
      exact Option.some.inj hc
    rw [hdrop] at h4
    have hcell := cell_nat hc
    refine W.skip ?_
    refine W.seq ?_
    refine W.block ?_
    refine W.seq ?_
    refine W.region ?_
    refine WL.mv rfl rfl ?_
    refine WL.ix (T := Ty) rfl rfl rfl (by assumption) rfl rfl (by omega) (by first | omega | decide +kernel) ?_
    refine WL.ldKn (T := Ty) rfl rfl rfl rfl (by first | assumption | exact ROs.wide (by assumption)) (by assumption) ?_
    refine WL.as rfl rfl ?_
    refine WL.as rfl rfl ?_
    refine WL.nil ?_
    refine W.seq ?_
    refine W.block ?_
    refine W.seq ?_
    refine W.region ?_
    refine WL.mv rfl rfl ?_
    refine WL.eql rfl rfl rfl ?_
    refine WL.mv rfl rfl ?_
    unfold bcell
    have hcw : IntKind.u64.wrap (c : Int) = (c : Int) := wrap_u64 ⟨by omega, by omega⟩
    have hcw' : IntKind.u64.wrap ((c - 128 : Nat) : Int) = ((c - 128 : Nat) : Int) := wrap_u64 ⟨by omega, by omega⟩
    have hF0 : (i = 10 ∨ i = 9 ∧ 1 < c ∨ 0 < i ∧ c = 0) → vgetF 0 0 bs = (0, 0) := fun h => by rw [← h4]; simp [vgetF, h]
    by_cases h10 : i = 10
    · refine WL.gdFn rfl rfl rfl rfl rfl (by omega) ?_
      refine WL.gdFn rfl rfl rfl rfl rfl (by omega) ?_
      refine WL.gdFn rfl rfl rfl rfl rfl (by omega) ?_
      refine WL.gdU rfl rfl rfl rfl rfl ?_
      refine WL.gdU rfl rfl rfl rfl rfl ?_
      refine WL.gdFn rfl rfl rfl rfl rfl (by omega) ?_
      refine WL.pickTp rfl rfl (by omega) rfl ?_
      refine WL.mv rfl rfl ?_
      refine WL.gdN rfl rfl rfl rfl rfl rfl ?_
      refine WL.gdN rfl rfl rfl rfl rfl rfl ?_
      refine WL.gdN rfl rfl rfl rfl rfl rfl ?_
      refine WL.gdU rfl rfl rfl rfl rfl ?_
      refine WL.gdU rfl rfl rfl rfl rfl ?_
      refine WL.gdN rfl rfl rfl rfl rfl rfl ?_
      refine WL.pickT rfl rfl rfl ?_
      refine WL.as rfl rfl ?_
      refine WL.nil ?_
      refine W.condT rfl ?_
      refine W.seq ?_
      refine W.region ?_
      refine WL.as rfl rfl ?_
      refine WL.as rfl rfl ?_
      refine WL.nil ?_
      exact W.ret2 rfl rfl rfl (fun h p => ⟨by rw [hF0 (by omega)]; rfl, p⟩)
    by_cases h9 : i = 9
    · by_cases hc1 : 1 < c
      · refine WL.gF rfl rfl (by omega) ?_
        refine WL.mv rfl rfl ?_
        refine WL.gF rfl rfl (by omega) ?_
        refine WL.eql rfl rfl rfl ?_
        refine WL.gF rfl rfl (by omega) ?_
        refine WL.mv rfl rfl ?_
        refine WL.gT rfl rfl (by omega) ?_
        refine WL.mv rfl rfl ?_
        refine WL.gT rfl rfl (by omega) ?_
        refine WL.gtr rfl rfl rfl ?_
        refine WL.gF rfl rfl (by omega) ?_
        refine WL.pickTp rfl rfl (by omega) rfl ?_
        refine WL.pickFp rfl rfl (by omega) rfl ?_
        refine WL.mv rfl rfl ?_
        refine WL.gdFn rfl rfl rfl rfl rfl (by omega) ?_
        refine WL.gdFn rfl rfl rfl rfl rfl (by omega) ?_
        refine WL.gdFn rfl rfl rfl rfl rfl (by omega) ?_
        refine WL.gdU rfl rfl rfl rfl rfl ?_
        refine WL.gdU rfl rfl rfl rfl rfl ?_
        refine WL.gdFn rfl rfl rfl rfl rfl (by omega) ?_
        refine WL.pickTp rfl rfl (by omega) rfl ?_
        refine WL.as rfl rfl ?_
        refine WL.nil ?_
        refine W.condT rfl ?_
        refine W.seq ?_
        refine W.region ?_
        refine WL.as rfl rfl ?_
        refine WL.as rfl rfl ?_
        refine WL.nil ?_
        exact W.ret2 rfl rfl rfl (fun h p => ⟨by rw [hF0 (by omega)]; rfl, p⟩)
      by_cases hc0 : c = 0
      · refine WL.gF rfl rfl (by omega) ?_
        refine WL.mv rfl rfl ?_
        refine WL.gF rfl rfl (by omega) ?_
        refine WL.eql rfl rfl rfl ?_
        refine WL.gF rfl rfl (by omega) ?_
        refine WL.mv rfl rfl ?_
        refine WL.gT rfl rfl (by omega) ?_
        refine WL.mv rfl rfl ?_
        refine WL.gT rfl rfl (by omega) ?_
        refine WL.gtr rfl rfl rfl ?_
        refine WL.gF rfl rfl (by omega) ?_
        refine WL.pickTp rfl rfl (by omega) rfl ?_
        refine WL.pickFp rfl rfl (by omega) rfl ?_
        refine WL.mv rfl rfl ?_
        refine WL.gF rfl rfl (by omega) ?_
        refine WL.mv rfl rfl ?_
        refine WL.gF rfl rfl (by omega) ?_
        refine WL.gtr rfl rfl rfl ?_
        refine WL.gF rfl rfl (by omega) ?_
        refine WL.mv rfl rfl ?_
        refine WL.gT rfl rfl (by omega) ?_
        refine WL.mv rfl rfl ?_
        refine WL.gT rfl rfl (by omega) ?_
        refine WL.eql rfl rfl rfl ?_
        refine WL.gF rfl rfl (by omega) ?_
        refine WL.pickTp rfl rfl (by omega) rfl ?_
        refine WL.pickFp rfl rfl (by omega) rfl ?_
        refine WL.as rfl rfl ?_
        refine WL.nil ?_
        refine W.condpT rfl (by omega) ?_
        refine W.seq ?_
        refine W.region ?_
        refine WL.as rfl rfl ?_
        refine WL.as rfl rfl ?_
        refine WL.nil ?_
        exact W.ret2 rfl rfl rfl (fun h p => ⟨by rw [hF0 (by omega)]; rfl, p⟩)
      have hF : vgetF 0 0 bs = (u + c * 128 ^ i, i + 1) := by rw [← h4, vgetF, if_neg (by omega), if_pos (by omega)]
      refine WL.gF rfl rfl (by omega) ?_
      refine WL.mv rfl rfl ?_
      refine WL.gF rfl rfl (by omega) ?_
      refine WL.eql rfl rfl rfl ?_
      refine WL.gF rfl rfl (by omega) ?_
      refine WL.mv rfl rfl ?_
      refine WL.gT rfl rfl (by omega) ?_
      refine WL.mv rfl rfl ?_
      refine WL.gT rfl rfl (by omega) ?_
      refine WL.gtr rfl rfl rfl ?_
      refine WL.gF rfl rfl (by omega) ?_
      refine WL.pickTp rfl rfl (by omega) rfl ?_
      refine WL.pickFp rfl rfl (by omega) rfl ?_
      refine WL.mv rfl rfl ?_
      refine WL.gF rfl rfl (by omega) ?_
      refine WL.mv rfl rfl ?_
      refine WL.gF rfl rfl (by omega) ?_
      refine WL.gtr rfl rfl rfl ?_
      refine WL.gF rfl rfl (by omega) ?_
      refine WL.mv rfl rfl ?_
      refine WL.gT rfl rfl (by omega) ?_
      refine WL.mv rfl rfl ?_
      refine WL.gT rfl rfl (by omega) ?_
      refine WL.eql rfl rfl rfl ?_
      refine WL.gF rfl rfl (by omega) ?_
      refine WL.pickTp rfl rfl (by omega) rfl ?_
      refine WL.pickFp rfl rfl (by omega) rfl ?_
      refine WL.as rfl rfl ?_
      refine WL.nil ?_
      refine W.condpF rfl (by omega) ?_
      refine W.seq ?_
      refine W.region ?_
      refine WL.mv rfl rfl ?_
      refine WL.lss rfl rfl rfl ?_
      refine WL.as rfl rfl ?_
      refine WL.nil ?_
      refine W.condpT rfl (by omega) ?_
      refine W.seq ?_
      refine W.region ?_
      refine WL.mv rfl rfl ?_
      refine WL.mv rfl rfl ?_
      refine WL.cvK (T := Ty) rfl rfl rfl rfl (wrap_u64 ⟨by omega, by omega⟩) ?_
      refine WL.mv rfl rfl ?_
      refine WL.mulK rfl rfl rfl (wrap_i64 ⟨by omega, by omega⟩) ?_
      refine WL.shlS rfl rfl rfl (by omega) rfl rfl ?_
      refine WL.or rfl rfl rfl ?_
      refine WL.mv rfl rfl ?_
      refine WL.addK rfl rfl rfl (wrap_i64 ⟨by omega, by omega⟩) ?_
      refine WL.as rfl rfl ?_
      refine WL.as rfl rfl ?_
      refine WL.nil ?_
      refine W.ret2 rfl rfl rfl (fun h p => ⟨?_, p⟩)
      rw [hF, vget_or u c i h3 (by omega) (by omega) (by omega)]
      rfl
    have main : ∀ R : Prop, (∀ i0 : ¬ (0 < i ∧ c = 0), 0 < i ∨ i = 0 → R) → ((0 < i ∧ c = 0) → R) → R := fun R a b => by
      by_cases h : 0 < i ∧ c = 0
      · exact b h
      · exact a h (by omega)
    refine main _ (fun hn hi0 => ?_) (fun hbad => ?_)
    · by_cases hc128 : c < 128
      · have hF : vgetF 0 0 bs = (u + c * 128 ^ i, i + 1) := by rw [← h4, vgetF, if_neg (by omega), if_pos (by omega)]
        rcases hi0 with hi0 | hi0
        all_goals
          first
            | (refine WL.gF rfl rfl (by omega) ?_; refine WL.mv rfl rfl ?_; refine WL.gF rfl rfl (by omega) ?_; refine WL.eql rfl rfl rfl ?_; refine WL.gF rfl rfl (by omega) ?_; refine WL.mv rfl rfl ?_; refine WL.gdTn rfl rfl rfl rfl rfl (by omega) ?_; refine WL.gdTn rfl rfl rfl rfl rfl (by omega) ?_; refine WL.gF rfl rfl (by omega) ?_; refine WL.pickFp rfl rfl (by omega) rfl ?_; refine WL.pickFp rfl rfl (by omega) rfl ?_; refine WL.mv rfl rfl ?_; refine WL.gY rfl rfl ?_; refine WL.mv rfl rfl ?_; refine WL.gY rfl rfl ?_; refine WL.gtr rfl rfl rfl ?_; refine WL.gY rfl rfl ?_; refine WL.mv rfl rfl ?_; refine WL.gT rfl rfl (by omega) ?_; refine WL.mv rfl rfl ?_; refine WL.gT rfl rfl (by omega) ?_; refine WL.eql rfl rfl rfl ?_; refine WL.gY rfl rfl ?_; refine WL.pickTp rfl rfl (by omega) rfl ?_; refine WL.pickF rfl rfl rfl ?_; refine WL.as rfl rfl ?_; refine WL.nil ?_; refine W.condpF rfl (by omega) ?_; refine W.seq ?_; refine W.region ?_; refine WL.mv rfl rfl ?_; refine WL.lss rfl rfl rfl ?_; refine WL.as rfl rfl ?_; refine WL.nil ?_; refine W.condpT rfl (by omega) ?_; refine W.seq ?_; refine W.region ?_; refine WL.mv rfl rfl ?_; refine WL.mv rfl rfl ?_; refine WL.cvK (T := Ty) rfl rfl rfl rfl (wrap_u64 ⟨by omega, by omega⟩) ?_; refine WL.mv rfl rfl ?_; refine WL.mulK rfl rfl rfl (wrap_i64 ⟨by omega, by omega⟩) ?_; refine WL.shlS rfl rfl rfl (by omega) rfl rfl ?_; refine WL.or rfl rfl rfl ?_; refine WL.mv rfl rfl ?_; refine WL.addK rfl rfl rfl (wrap_i64 ⟨by omega, by omega⟩) ?_; refine WL.as rfl rfl ?_; refine WL.as rfl rfl ?_; refine WL.nil ?_)
            | (refine WL.gF rfl rfl (by omega) ?_; refine WL.mv rfl rfl ?_; refine WL.gF rfl rfl (by omega) ?_; refine WL.eql rfl rfl rfl ?_; refine WL.gF rfl rfl (by omega) ?_; refine WL.mv rfl rfl ?_; refine WL.gdTn rfl rfl rfl rfl rfl (by omega) ?_; refine WL.gdTn rfl rfl rfl rfl rfl (by omega) ?_; refine WL.gF rfl rfl (by omega) ?_; refine WL.pickFp rfl rfl (by omega) rfl ?_; refine WL.pickFp rfl rfl (by omega) rfl ?_; refine WL.mv rfl rfl ?_; refine WL.gY rfl rfl ?_; refine WL.mv rfl rfl ?_; refine WL.gY rfl rfl ?_; refine WL.gtr rfl rfl rfl ?_; refine WL.gY rfl rfl ?_; refine WL.mv rfl rfl ?_; refine WL.gdTn rfl rfl rfl rfl rfl (by omega) ?_; refine WL.gdTn rfl rfl rfl rfl rfl (by omega) ?_; refine WL.gY rfl rfl ?_; refine WL.pickFp rfl rfl (by omega) rfl ?_; refine WL.pickF rfl rfl rfl ?_; refine WL.as rfl rfl ?_; refine WL.nil ?_; refine W.condF rfl ?_; refine W.seq ?_; refine W.region ?_; refine WL.mv rfl rfl ?_; refine WL.lss rfl rfl rfl ?_; refine WL.as rfl rfl ?_; refine WL.nil ?_; refine W.condpT rfl (by omega) ?_; refine W.seq ?_; refine W.region ?_; refine WL.mv rfl rfl ?_; refine WL.mv rfl rfl ?_; refine WL.cvK (T := Ty) rfl rfl rfl rfl (wrap_u64 ⟨by omega, by omega⟩) ?_; refine WL.mv rfl rfl ?_; refine WL.mulK rfl rfl rfl (wrap_i64 ⟨by omega, by omega⟩) ?_; refine WL.shlS rfl rfl rfl (by omega) rfl rfl ?_; refine WL.or rfl rfl rfl ?_; refine WL.mv rfl rfl ?_; refine WL.addK rfl rfl rfl (wrap_i64 ⟨by omega, by omega⟩) ?_; refine WL.as rfl rfl ?_; refine WL.as rfl rfl ?_; refine WL.nil ?_)
          refine W.ret2 rfl rfl rfl (fun h p => ⟨?_, p⟩)
          rw [hF, vget_or u c i h3 (by omega) (by omega) (by omega)]
          rfl
      · have hF : vgetF 0 0 bs = vgetF (i + 1) (u + (c - 128) * 128 ^ i) (bs.drop (i + 1)) := by rw [← h4, vgetF, if_neg (by omega), if_neg (by omega)]
        have hand : (c : Int) % (127 + 1) = ((c - 128 : Nat) : Int) := by omega
        have hn2 := vget_next u (c - 128) i h3 (by omega)
        rcases hi0 with hi0 | hi0
        all_goals
          first
            | (refine WL.gF rfl rfl (by omega) ?_; refine WL.mv rfl rfl ?_; refine WL.gF rfl rfl (by omega) ?_; refine WL.eql rfl rfl rfl ?_; refine WL.gF rfl rfl (by omega) ?_; refine WL.mv rfl rfl ?_; refine WL.gdTn rfl rfl rfl rfl rfl (by omega) ?_; refine WL.gdTn rfl rfl rfl rfl rfl (by omega) ?_; refine WL.gF rfl rfl (by omega) ?_; refine WL.pickFp rfl rfl (by omega) rfl ?_; refine WL.pickFp rfl rfl (by omega) rfl ?_; refine WL.mv rfl rfl ?_; refine WL.gY rfl rfl ?_; refine WL.mv rfl rfl ?_; refine WL.gY rfl rfl ?_; refine WL.gtr rfl rfl rfl ?_; refine WL.gY rfl rfl ?_; refine WL.mv rfl rfl ?_; refine WL.gT rfl rfl (by omega) ?_; refine WL.mv rfl rfl ?_; refine WL.gT rfl rfl (by omega) ?_; refine WL.eql rfl rfl rfl ?_; refine WL.gY rfl rfl ?_; refine WL.pickTp rfl rfl (by omega) rfl ?_; refine WL.pickF rfl rfl rfl ?_; refine WL.as rfl rfl ?_; refine WL.nil ?_; refine W.condpF rfl (by omega) ?_; refine W.seq ?_; refine W.region ?_; refine WL.mv rfl rfl ?_; refine WL.lss rfl rfl rfl ?_; refine WL.as rfl rfl ?_; refine WL.nil ?_; refine W.condpF rfl (by omega) ?_; refine W.skip ?_; refine W.inBlock ?_; refine W.region ?_; refine WL.mv rfl rfl ?_; refine WL.mv rfl rfl ?_; refine WL.andU rfl rfl rfl rfl (by decide) (by omega) (by simp only [IntKind.bits]; omega) ?_; refine WL.cvK (T := Ty) rfl rfl rfl rfl (wrap_u64 ⟨by omega, by omega⟩) ?_; refine WL.mv rfl rfl ?_; refine WL.mulK rfl rfl rfl (wrap_i64 ⟨by omega, by omega⟩) ?_; refine WL.shlS rfl rfl rfl (by omega) rfl rfl ?_; refine WL.or rfl rfl rfl ?_; refine WL.as rfl rfl ?_; refine WL.nil ?_; refine W.inBlock ?_; refine W.region ?_; refine WL.addK rfl rfl rfl (wrap_i64 ⟨by omega, by omega⟩) ?_; refine WL.mv rfl rfl ?_; refine WL.nil ?_)
            | (refine WL.gF rfl rfl (by omega) ?_; refine WL.mv rfl rfl ?_; refine WL.gF rfl rfl (by omega) ?_; refine WL.eql rfl rfl rfl ?_; refine WL.gF rfl rfl (by omega) ?_; refine WL.mv rfl rfl ?_; refine WL.gdTn rfl rfl rfl rfl rfl (by omega) ?_; refine WL.gdTn rfl rfl rfl rfl rfl (by omega) ?_; refine WL.gF rfl rfl (by omega) ?_; refine WL.pickFp rfl rfl (by omega) rfl ?_; refine WL.pickFp rfl rfl (by omega) rfl ?_; refine WL.mv rfl rfl ?_; refine WL.gY rfl rfl ?_; refine WL.mv rfl rfl ?_; refine WL.gY rfl rfl ?_; refine WL.gtr rfl rfl rfl ?_; refine WL.gY rfl rfl ?_; refine WL.mv rfl rfl ?_; refine WL.gdTn rfl rfl rfl rfl rfl (by omega) ?_; refine WL.gdTn rfl rfl rfl rfl rfl (by omega) ?_; refine WL.gY rfl rfl ?_; refine WL.pickFp rfl rfl (by omega) rfl ?_; refine WL.pickF rfl rfl rfl ?_; refine WL.as rfl rfl ?_; refine WL.nil ?_; refine W.condF rfl ?_; refine W.seq ?_; refine W.region ?_; refine WL.mv rfl rfl ?_; refine WL.lss rfl rfl rfl ?_; refine WL.as rfl rfl ?_; refine WL.nil ?_; refine W.condpF rfl (by omega) ?_; refine W.skip ?_; refine W.inBlock ?_; refine W.region ?_; refine WL.mv rfl rfl ?_; refine WL.mv rfl rfl ?_; refine WL.andU rfl rfl rfl rfl (by decide) (by omega) (by simp only [IntKind.bits]; omega) ?_; refine WL.cvK (T := Ty) rfl rfl rfl rfl (wrap_u64 ⟨by omega, by omega⟩) ?_; refine WL.mv rfl rfl ?_; refine WL.mulK rfl rfl rfl (wrap_i64 ⟨by omega, by omega⟩) ?_; refine WL.shlS rfl rfl rfl (by omega) rfl rfl ?_; refine WL.or rfl rfl rfl ?_; refine WL.as rfl rfl ?_; refine WL.nil ?_; refine W.inBlock ?_; refine W.region ?_; refine WL.addK rfl rfl rfl (wrap_i64 ⟨by omega, by omega⟩) ?_; refine WL.mv rfl rfl ?_; refine WL.nil ?_)
          rw [hand, vget_or u (c - 128) i h3 (by omega) (by omega) (by omega)]
          refine W.sub ?_ (next ⟨i + 1, u + (c - 128) * 128 ^ i⟩ ⟨by simp; omega, by simp; omega, hn2, hF.symm⟩ (by simp; omega))
          exact ⟨rfl, rfl, rfl, rfl, trivial⟩
    · refine WL.gF rfl rfl (by omega) ?_
      refine WL.mv rfl rfl ?_
      refine WL.gF rfl rfl (by omega) ?_
      refine WL.eql rfl rfl rfl ?_
      refine WL.gF rfl rfl (by omega) ?_
      refine WL.mv rfl rfl ?_
      refine WL.gdTn rfl rfl rfl rfl rfl (by omega) ?_
      refine WL.gdTn rfl rfl rfl rfl rfl (by omega) ?_
      refine WL.gF rfl rfl (by omega) ?_
      refine WL.pickFp rfl rfl (by omega) rfl ?_
      refine WL.pickFp rfl rfl (by omega) rfl ?_
      refine WL.mv rfl rfl ?_
      refine WL.gY rfl rfl ?_
      refine WL.mv rfl rfl ?_
      refine WL.gY rfl rfl ?_
      refine WL.gtr rfl rfl rfl ?_
      refine WL.gY rfl rfl ?_
      refine WL.mv rfl rfl ?_
      refine WL.gT rfl rfl (by omega) ?_
      refine WL.mv rfl rfl ?_
      refine WL.gT rfl rfl (by omega) ?_
      refine WL.eql rfl rfl rfl ?_
      refine WL.gY rfl rfl ?_
      refine WL.pickTp rfl rfl (by omega) rfl ?_
      refine WL.pickF rfl rfl rfl ?_
      refine WL.as rfl rfl ?_
      refine WL.nil ?_
      refine W.condpT rfl (by omega) ?_
      refine W.seq ?_
      refine W.region ?_
      refine WL.as rfl rfl ?_
      refine WL.as rfl rfl ?_
      refine WL.nil ?_
      exact W.ret2 rfl rfl rfl (fun h p => ⟨by rw [hF0 (by omega)]; rfl, p⟩)
  · refine W.exit rfl ?_
    refine W.seq ?_
    refine W.region ?_
    refine WL.as rfl rfl ?_
    refine WL.as rfl rfl ?_
    refine WL.nil ?_
    have : i = bs.length := by omega
    subst this
    simp [vgetF] at h4
    refine W.ret2 rfl rfl rfl (fun h p => ⟨by rw [← h4]; rfl, p⟩)
theorem vget_e (ρ : Hp) (b : Value) (bs : List Nat) {u n : Nat} (hb : ROs ρ 1 b (bs.map bcell)) (e : vgetF 0 0 bs = (u, n)) (hw : ∀ x ∈ bs, x < 256) (hl : bs.length ≤ 140737488355328) :
    Fn Try.prog 26 #[b] ρ [] (Just (.tuple #[.int .u64 (u : Int), .int .i64 (n : Int)])) := by
  have := vget_c ρ b bs hb hw hl
  rw [e] at this
  exact this
end Go.Proofs.Ytjibmfkhhljhcaa
