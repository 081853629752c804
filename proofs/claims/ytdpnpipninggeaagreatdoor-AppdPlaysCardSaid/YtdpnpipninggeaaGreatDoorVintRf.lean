/- Numbers of any length: what the document's own code does. -/
import Derived.Test.YtdpnpipninggeaaGreatDoorStc
import Derived.Test.YtdpnpipninggeaaGreatDoorNum
import Derived.Test.YtdpnpipninggeaaGreatDoorTab
import Derived.Test.YtdpnpipninggeaaGreatDoorBitsLaw
set_option linter.unusedSimpArgs false
set_option linter.unusedVariables false
set_option maxRecDepth 20000
set_option maxHeartbeats 4000000
namespace Go.Proofs.YtdpnpipninggeaaGreatDoor
open Go
attribute [local irreducible] W WL Fn Buf ROs SL eptr box Rd Src bndOK WD RB Reads In

theorem rput_c (ρ : Hp) (b : Value) (bs : List Nat) (u : Nat) (hb : ROs ρ 1 b (bs.map bcell)) (hu : u < 18446744073709551616) (hl : bs.length + 10 ≤ 140737488355328) :
    Fn Tryz.prog 24 #[b, .int .u64 (u : Int)] ρ [] (fun r => Buf 1 r ((bs ++ vputF 9 u).map bcell)) := by
  refine in24 rfl rfl ?_
  have hsb : SL b bs.length := hb.sl (by simp) (by omega)
  refine W.seq (W.region (WL.as rfl rfl (WL.nil (W.seq (W.region ?_)))))
  refine WL.bsC (T := Ty) rfl rfl rfl rfl rfl rfl rfl (by repeat' first | exact CO.nil | apply CO.one (by first | rfl | exact SL.one (by assumption)) | apply CO.agg) rfl (by repeat' constructor) (fun u0 hu0 => ?_)
  refine WL.mv rfl rfl ?_
  refine WL.apN (T := Ty) (i := 0) rfl rfl rfl rfl rfl rfl rfl (by first | exact .ro (by assumption) | exact .ro (ROs.wide (by assumption)) | exact .eqJ 0 rfl (by assumption) | exact .own 0 rfl | exact .own 1 rfl | exact .own 2 rfl | exact .own 3 rfl | exact .own 4 rfl | exact .own 5 rfl) (by first | assumption | exact ROs.slm (by assumption)) (fun _ => rfl) (by first | omega | (simp; omega) | (simp only [List.length_drop, List.length_take]; omega)) (by first | omega | (simp; omega) | (simp only [List.length_drop, List.length_take]; omega)) (fun v' => (by repeat' constructor)) (fun u1 hu1 => ?_)
  refine WL.as rfl rfl (WL.nil (W.seq (W.block ?_)))
  refine W.loopS (σ := Nat × List Nat × Nat × Value) (fun s => [(1, .int .u64 (s.2.2.1 : Int)), (5, s.2.2.2)]) (fun s => [Buf 1 s.2.2.2 (s.2.1.map bcell)])
    (fun s => s.2.1 ++ vputF s.1 s.2.2.1 = bs ++ vputF 9 u ∧ s.2.1.length + s.1 ≤ bs.length + 9 ∧ s.2.2.1 < 128 ^ (s.1 + 1) ∧ s.2.2.1 ≤ u) (fun s => s.1) (9, bs, u, u1) ⟨rfl, rfl, trivial⟩ rfl ⟨rfl, by simp, by simp; omega, Nat.le_refl _⟩ ?_
  rintro ⟨k, xs, y, v⟩ ⟨h1, h2, h3, h4⟩ next
  simp only [] at h1 h2 h3 h4 next ⊢
  refine W.fact (i := 0) rfl (fun h hb => hb.sl (n := xs.length) (by simp) (by omega)) fun hs => ?_
  refine W.seq (W.seq (W.region (WL.mv rfl rfl (WL.gtr rfl rfl rfl (WL.nil ?_)))))
  refine W.condp rfl (fun hge => ?_) (fun hlt => ?_)
  · have hk : k ≠ 0 := by intro e; subst e; simp at h3; omega
    have hor : bits .or .u64 ((y : Int) % (127 + 1)) 128 = ((y % 128 + 128 : Nat) : Int) := by
      rw [show (y : Int) % (127 + 1) = ((y % 128 : Nat) : Int) by omega, show (128 : Int) = ((128 : Nat) : Int) from rfl, bits_or rfl (by show y % 128 < 2 ^ 64; omega) (by decide), or_128 _ (by omega)]
      congr 2
      omega
    refine W.skip (W.block (W.seq (W.region (WL.mv rfl rfl (WL.mv rfl rfl ?_)))))
    refine WL.andU rfl rfl rfl rfl (by decide) (by omega) (by simp only [IntKind.bits]; omega) ?_
    refine WL.or rfl rfl rfl (WL.cvK (T := Ty) rfl rfl rfl rfl (wrap_u8 ⟨by omega, by omega⟩) ?_)
    refine WL.bsC (T := Ty) rfl rfl rfl rfl rfl rfl rfl (by repeat' first | exact CO.nil | apply CO.one (by first | rfl | exact SL.one (by assumption)) | apply CO.agg) rfl (by repeat' constructor) (fun u2 hu2 => ?_)
    refine WL.ap1 (T := Ty) (i := 0) rfl rfl rfl rfl rfl rfl rfl rfl (by assumption) (by first | rfl | assumption) (by first | omega | (simp; omega) | (simp only [List.length_drop, List.length_take]; omega)) (by first | omega | (simp; omega) | (simp only [List.length_drop, List.length_take]; omega)) (fun v' => (by repeat' constructor)) (fun u3 hu3 => ?_)
    refine WL.as rfl rfl (WL.nil (W.region (WL.mv rfl rfl (WL.shrS (c := 128) rfl rfl rfl (by omega) (by decide) (WL.as rfl rfl (WL.nil (W.inBlock ?_)))))))
    rw [hor]
    obtain ⟨k, rfl⟩ : ∃ m, k = m + 1 := ⟨k - 1, by omega⟩
    refine W.sub ?_ (W.hs (fun h p => ?_) (next ⟨k, xs ++ [y % 128 + 128], y / 128, u3⟩ ⟨?_, ?_, ?_, ?_⟩ (by simp)))
    · exact ⟨rfl, rfl, trivial⟩
    · simpa [bcell] using p
    · rw [← h1]; simp [vputF]; omega
    · simp; omega
    · show y / 128 < 128 ^ (k + 1)
      rw [Nat.pow_succ] at h3; omega
    · show y / 128 ≤ u
      omega
  · refine W.exit rfl ?_
    refine W.seq (W.region (WL.mv rfl rfl (WL.mv rfl rfl (WL.cvK (T := Ty) rfl rfl rfl rfl (wrap_u8 ⟨by omega, by omega⟩) ?_))))
    refine WL.bsC (T := Ty) rfl rfl rfl rfl rfl rfl rfl (by repeat' first | exact CO.nil | apply CO.one (by first | rfl | exact SL.one (by assumption)) | apply CO.agg) rfl (by repeat' constructor) (fun u2 hu2 => ?_)
    refine WL.ap1 (T := Ty) (i := 0) rfl rfl rfl rfl rfl rfl rfl rfl (by assumption) (by first | rfl | assumption) (by first | omega | (simp; omega) | (simp only [List.length_drop, List.length_take]; omega)) (by first | omega | (simp; omega) | (simp only [List.length_drop, List.length_take]; omega)) (fun v' => (by repeat' constructor)) (fun u3 hu3 => ?_)
    refine WL.as rfl rfl (WL.nil ?_)
    refine W.ret1 rfl rfl (fun h p => ?_)
    have e2 : vputF k y = [y] := by cases k <;> simp [vputF]; omega
    rw [← h1, e2]
    simpa [bcell] using sepl_one.1 p

theorem rget_c (ρ : Hp) (b : Value) (bs : List Nat) (hb : ROs ρ 1 b (bs.map bcell)) (hw : ∀ x ∈ bs, x < 256) (hl : bs.length ≤ 140737488355328) :
    Fn Tryz.prog 44 #[b] ρ [] (Just (RGet (vgetF 0 0 bs))) := by
  refine in44 rfl rfl ?_
  have hs : SL b bs.length := hb.sl (by simp) (by omega)
  refine W.seq (W.region (WL.as rfl rfl (WL.as rfl rfl (WL.nil (W.seq (W.region (WL.as rfl rfl (WL.nil (W.seq (W.seq (W.region (WL.as rfl rfl (WL.nil ?_)))))))))))))
  refine W.block ?_
  refine W.loopS (σ := Nat × Nat) (fun s => [(0, b), (4, .int .u64 (s.2 : Int)), (5, .int .i64 (s.1 : Int))]) (fun s => [])
    (fun s => s.1 ≤ bs.length ∧ s.1 ≤ 10 ∧ s.2 < 128 ^ s.1 ∧ vgetF s.1 s.2 (bs.drop s.1) = vgetF 0 0 bs) (fun s => bs.length - s.1) (0, 0) ⟨rfl, rfl, rfl, trivial⟩ rfl ⟨by simp, by simp, by simp, by simp⟩ ?_
  rintro ⟨i, u⟩ ⟨h1, h2, h3, h4⟩ next
  simp only [] at h1 h2 h3 h4 next ⊢
  by_cases hlt : i < bs.length
  · obtain ⟨c, hc⟩ : ∃ c, bs[i]? = some c := ⟨_, List.getElem?_eq_getElem hlt⟩
    have hc8 : c < 256 := hw c (List.mem_of_getElem? hc)
    have hdrop : bs.drop i = c :: bs.drop (i + 1) := by
      rw [List.drop_eq_getElem_cons hlt]
      congr 1
      rw [List.getElem?_eq_getElem hlt] at hc
      exact Option.some.inj hc
    rw [hdrop] at h4
    have hF0 : (i = 10 ∨ i = 9 ∧ 1 < c ∨ 0 < i ∧ c = 0) → vgetF 0 0 bs = (0, 0) := fun h => by rw [← h4]; simp [vgetF, h]
    by_cases h10 : i = 10
    · refine W.seq ?_
      refine W.seq (W.region (WL.mv rfl rfl (WL.mv rfl rfl ?_)))
      refine WL.len (T := Ty) rfl rfl (by assumption) rfl ?_
      refine WL.lss rfl rfl rfl (WL.mv rfl rfl (WL.gT rfl rfl (by omega) (WL.mv rfl rfl (WL.gT rfl rfl (by omega) (WL.lss rfl rfl rfl (WL.pickTp rfl rfl (by omega) rfl (WL.nil (W.condpF rfl (by omega) (W.exit rfl (W.seq (W.region (WL.as rfl rfl (WL.as rfl rfl ?_)))))))))))))
      refine WL.nil ?_
      exact W.ret2 rfl rfl rfl (fun h p => ⟨by rw [hF0 (by omega)]; rfl, p⟩)
    · have hcell := cell_nat hc
      refine W.seq (W.seq (W.region (WL.mv rfl rfl (WL.mv rfl rfl ?_))))
      refine WL.len (T := Ty) rfl rfl (by assumption) rfl ?_
      refine WL.lss rfl rfl rfl (WL.mv rfl rfl (WL.gT rfl rfl (by omega) (WL.mv rfl rfl (WL.gT rfl rfl (by omega) (WL.lss rfl rfl rfl (WL.pickTp rfl rfl (by omega) rfl (WL.nil (W.condpT rfl (by omega) (W.skip (W.seq (W.block (W.seq (W.region ?_)))))))))))))
      refine WL.mv rfl rfl (WL.mv rfl rfl ?_)
      refine WL.ix (T := Ty) rfl rfl rfl (by assumption) rfl rfl (by omega) (by first | omega | decide +kernel) ?_
      refine WL.ldKn (T := Ty) rfl rfl rfl rfl (by first | assumption | exact ROs.wide (by assumption)) (by assumption) ?_
      refine WL.as rfl rfl (WL.nil (W.seq (W.seq (W.region (WL.mv rfl rfl (WL.eql rfl rfl rfl (WL.mv rfl rfl ?_)))))))
      unfold bcell
      have key : (i = 9 ∧ 1 < c) ∨ (i = 9 ∧ c = 0) ∨ (i < 9 ∧ 0 < i ∧ c = 0) ∨ (i = 9 ∧ c = 1) ∨ (i < 9 ∧ 0 < c ∧ c < 128) ∨ (i = 0 ∧ c = 0) ∨ (i < 9 ∧ 128 ≤ c) := by omega
      rcases key with hk | hk | hk | hk | hk | hk | hk
      iterate 3
        · first
            | (refine WL.gT rfl rfl (by omega) ?_; refine WL.mv rfl rfl ?_; refine WL.gT rfl rfl (by omega) ?_; refine WL.gtr rfl rfl rfl ?_; refine WL.pickTp rfl rfl (by omega) rfl ?_; refine WL.mv rfl rfl ?_; refine WL.gF rfl rfl (by omega) ?_; refine WL.mv rfl rfl ?_; refine WL.gF rfl rfl (by omega) ?_; refine WL.eql rfl rfl rfl ?_; refine WL.gF rfl rfl (by omega) ?_; refine WL.mv rfl rfl ?_; refine WL.gT rfl rfl (by omega) ?_; refine WL.mv rfl rfl ?_; refine WL.gT rfl rfl (by omega) ?_; refine WL.gtr rfl rfl rfl ?_; refine WL.gF rfl rfl (by omega) ?_; refine WL.pickTp rfl rfl (by omega) rfl ?_; refine WL.pickFp rfl rfl (by omega) rfl ?_; refine WL.nil ?_; refine W.condpT rfl (by omega) ?_; refine W.seq ?_; refine W.region ?_; refine WL.as rfl rfl ?_; refine WL.as rfl rfl ?_; refine WL.nil ?_)
            | (refine WL.gdTn rfl rfl rfl rfl rfl (by omega) ?_; refine WL.gdTn rfl rfl rfl rfl rfl (by omega) ?_; refine WL.pickFp rfl rfl (by omega) rfl ?_; refine WL.mv rfl rfl ?_; refine WL.gY rfl rfl ?_; refine WL.mv rfl rfl ?_; refine WL.gY rfl rfl ?_; refine WL.eql rfl rfl rfl ?_; refine WL.gY rfl rfl ?_; refine WL.mv rfl rfl ?_; refine WL.gT rfl rfl (by omega) ?_; refine WL.mv rfl rfl ?_; refine WL.gT rfl rfl (by omega) ?_; refine WL.gtr rfl rfl rfl ?_; refine WL.gY rfl rfl ?_; refine WL.pickTp rfl rfl (by omega) rfl ?_; refine WL.pickF rfl rfl rfl ?_; refine WL.nil ?_; refine W.condpT rfl (by omega) ?_; refine W.seq ?_; refine W.region ?_; refine WL.as rfl rfl ?_; refine WL.as rfl rfl ?_; refine WL.nil ?_)
            | (refine WL.gT rfl rfl (by omega) ?_; refine WL.mv rfl rfl ?_; refine WL.gT rfl rfl (by omega) ?_; refine WL.gtr rfl rfl rfl ?_; refine WL.pickTp rfl rfl (by omega) rfl ?_; refine WL.mv rfl rfl ?_; refine WL.gdFn rfl rfl rfl rfl rfl (by omega) ?_; refine WL.gdFn rfl rfl rfl rfl rfl (by omega) ?_; refine WL.gdFn rfl rfl rfl rfl rfl (by omega) ?_; refine WL.gdU rfl rfl rfl rfl rfl ?_; refine WL.gdU rfl rfl rfl rfl rfl ?_; refine WL.gdFn rfl rfl rfl rfl rfl (by omega) ?_; refine WL.pickTp rfl rfl (by omega) rfl ?_; refine WL.nil ?_; refine W.condT rfl ?_; refine W.seq ?_; refine W.region ?_; refine WL.as rfl rfl ?_; refine WL.as rfl rfl ?_; refine WL.nil ?_)
          exact W.ret2 rfl rfl rfl (fun h p => ⟨by rw [hF0 (by omega)]; rfl, p⟩)
      iterate 3
        · have hF : vgetF 0 0 bs = (u + c * 128 ^ i, i + 1) := by rw [← h4, vgetF, if_neg (by omega), if_pos (by omega)]
          have hand : (c : Int) % (127 + 1) = (c : Int) := by omega
          first
            | (refine WL.gT rfl rfl (by omega) ?_; refine WL.mv rfl rfl ?_; refine WL.gT rfl rfl (by omega) ?_; refine WL.gtr rfl rfl rfl ?_; refine WL.pickTp rfl rfl (by omega) rfl ?_; refine WL.mv rfl rfl ?_; refine WL.gF rfl rfl (by omega) ?_; refine WL.mv rfl rfl ?_; refine WL.gF rfl rfl (by omega) ?_; refine WL.eql rfl rfl rfl ?_; refine WL.gF rfl rfl (by omega) ?_; refine WL.mv rfl rfl ?_; refine WL.gdTn rfl rfl rfl rfl rfl (by omega) ?_; refine WL.gdTn rfl rfl rfl rfl rfl (by omega) ?_; refine WL.gF rfl rfl (by omega) ?_; refine WL.pickFp rfl rfl (by omega) rfl ?_; refine WL.pickFp rfl rfl (by omega) rfl ?_; refine WL.nil ?_; refine W.condF rfl ?_; refine W.skip ?_; refine W.seq ?_; refine W.region ?_; refine WL.mv rfl rfl ?_; refine WL.mv rfl rfl ?_; refine WL.andU rfl rfl rfl rfl (by decide) (by omega) (by simp only [IntKind.bits]; omega) ?_; refine WL.cvK (T := Ty) rfl rfl rfl rfl (wrap_u64 ⟨by omega, by omega⟩) ?_; refine WL.mv rfl rfl ?_; refine WL.mulK rfl rfl rfl (wrap_i64 ⟨by omega, by omega⟩) ?_; refine WL.cvK (T := Ty) rfl rfl rfl rfl (wrap_u64 ⟨by omega, by omega⟩) ?_; refine WL.shlS rfl rfl rfl (by omega) rfl rfl ?_; refine WL.or rfl rfl rfl ?_; refine WL.as rfl rfl ?_; refine WL.nil ?_; refine W.seq ?_; refine W.region ?_; refine WL.mv rfl rfl ?_; refine WL.lss rfl rfl rfl ?_; refine WL.nil ?_; refine W.condpT rfl (by omega) ?_; refine W.seq ?_; refine W.region ?_; refine WL.mv rfl rfl ?_; refine WL.mv rfl rfl ?_; refine WL.addK rfl rfl rfl (wrap_i64 ⟨by omega, by omega⟩) ?_; refine WL.as rfl rfl ?_; refine WL.as rfl rfl ?_; refine WL.nil ?_)
            | (refine WL.gdTn rfl rfl rfl rfl rfl (by omega) ?_; refine WL.gdTn rfl rfl rfl rfl rfl (by omega) ?_; refine WL.pickFp rfl rfl (by omega) rfl ?_; refine WL.mv rfl rfl ?_; refine WL.gY rfl rfl ?_; refine WL.mv rfl rfl ?_; refine WL.gY rfl rfl ?_; refine WL.eql rfl rfl rfl ?_; refine WL.gY rfl rfl ?_; refine WL.mv rfl rfl ?_; refine WL.gT rfl rfl (by omega) ?_; refine WL.mv rfl rfl ?_; refine WL.gT rfl rfl (by omega) ?_; refine WL.gtr rfl rfl rfl ?_; refine WL.gY rfl rfl ?_; refine WL.pickTp rfl rfl (by omega) rfl ?_; refine WL.pickF rfl rfl rfl ?_; refine WL.nil ?_; refine W.condpF rfl (by omega) ?_; refine W.skip ?_; refine W.seq ?_; refine W.region ?_; refine WL.mv rfl rfl ?_; refine WL.mv rfl rfl ?_; refine WL.andU rfl rfl rfl rfl (by decide) (by omega) (by simp only [IntKind.bits]; omega) ?_; refine WL.cvK (T := Ty) rfl rfl rfl rfl (wrap_u64 ⟨by omega, by omega⟩) ?_; refine WL.mv rfl rfl ?_; refine WL.mulK rfl rfl rfl (wrap_i64 ⟨by omega, by omega⟩) ?_; refine WL.cvK (T := Ty) rfl rfl rfl rfl (wrap_u64 ⟨by omega, by omega⟩) ?_; refine WL.shlS rfl rfl rfl (by omega) rfl rfl ?_; refine WL.or rfl rfl rfl ?_; refine WL.as rfl rfl ?_; refine WL.nil ?_; refine W.seq ?_; refine W.region ?_; refine WL.mv rfl rfl ?_; refine WL.lss rfl rfl rfl ?_; refine WL.nil ?_; refine W.condpT rfl (by omega) ?_; refine W.seq ?_; refine W.region ?_; refine WL.mv rfl rfl ?_; refine WL.mv rfl rfl ?_; refine WL.addK rfl rfl rfl (wrap_i64 ⟨by omega, by omega⟩) ?_; refine WL.as rfl rfl ?_; refine WL.as rfl rfl ?_; refine WL.nil ?_)
            | (refine WL.gdTn rfl rfl rfl rfl rfl (by omega) ?_; refine WL.gdTn rfl rfl rfl rfl rfl (by omega) ?_; refine WL.pickFp rfl rfl (by omega) rfl ?_; refine WL.mv rfl rfl ?_; refine WL.gY rfl rfl ?_; refine WL.mv rfl rfl ?_; refine WL.gY rfl rfl ?_; refine WL.eql rfl rfl rfl ?_; refine WL.gY rfl rfl ?_; refine WL.mv rfl rfl ?_; refine WL.gdTn rfl rfl rfl rfl rfl (by omega) ?_; refine WL.gdTn rfl rfl rfl rfl rfl (by omega) ?_; refine WL.gY rfl rfl ?_; refine WL.pickFp rfl rfl (by omega) rfl ?_; refine WL.pickF rfl rfl rfl ?_; refine WL.nil ?_; refine W.condF rfl ?_; refine W.skip ?_; refine W.seq ?_; refine W.region ?_; refine WL.mv rfl rfl ?_; refine WL.mv rfl rfl ?_; refine WL.andU rfl rfl rfl rfl (by decide) (by omega) (by simp only [IntKind.bits]; omega) ?_; refine WL.cvK (T := Ty) rfl rfl rfl rfl (wrap_u64 ⟨by omega, by omega⟩) ?_; refine WL.mv rfl rfl ?_; refine WL.mulK rfl rfl rfl (wrap_i64 ⟨by omega, by omega⟩) ?_; refine WL.cvK (T := Ty) rfl rfl rfl rfl (wrap_u64 ⟨by omega, by omega⟩) ?_; refine WL.shlS rfl rfl rfl (by omega) rfl rfl ?_; refine WL.or rfl rfl rfl ?_; refine WL.as rfl rfl ?_; refine WL.nil ?_; refine W.seq ?_; refine W.region ?_; refine WL.mv rfl rfl ?_; refine WL.lss rfl rfl rfl ?_; refine WL.nil ?_; refine W.condpT rfl (by omega) ?_; refine W.seq ?_; refine W.region ?_; refine WL.mv rfl rfl ?_; refine WL.mv rfl rfl ?_; refine WL.addK rfl rfl rfl (wrap_i64 ⟨by omega, by omega⟩) ?_; refine WL.as rfl rfl ?_; refine WL.as rfl rfl ?_; refine WL.nil ?_)
          refine W.ret2 rfl rfl rfl (fun h p => ⟨?_, p⟩)
          rw [hF, hand, vget_or u c i h3 (by omega) (by omega) (by omega)]
          rfl
      · have hF : vgetF 0 0 bs = vgetF (i + 1) (u + (c - 128) * 128 ^ i) (bs.drop (i + 1)) := by rw [← h4, vgetF, if_neg (by omega), if_neg (by omega)]
        have hand : (c : Int) % (127 + 1) = ((c - 128 : Nat) : Int) := by omega
        have hn2 := vget_next u (c - 128) i h3 (by omega)
        refine WL.gdTn rfl rfl rfl rfl rfl (by omega) (WL.gdTn rfl rfl rfl rfl rfl (by omega) (WL.pickFp rfl rfl (by omega) rfl (WL.mv rfl rfl (WL.gY rfl rfl (WL.mv rfl rfl (WL.gY rfl rfl (WL.eql rfl rfl rfl (WL.gY rfl rfl (WL.mv rfl rfl (WL.gdTn rfl rfl rfl rfl rfl (by omega) (WL.gdTn rfl rfl rfl rfl rfl (by omega) (WL.gY rfl rfl (WL.pickFp rfl rfl (by omega) rfl ?_)))))))))))))
        refine WL.pickF rfl rfl rfl (WL.nil (W.condF rfl (W.skip (W.seq (W.region (WL.mv rfl rfl (WL.mv rfl rfl ?_)))))))
        refine WL.andU rfl rfl rfl rfl (by decide) (by omega) (by simp only [IntKind.bits]; omega) ?_
        refine WL.cvK (T := Ty) rfl rfl rfl rfl (wrap_u64 ⟨by omega, by omega⟩) (WL.mv rfl rfl (WL.mulK rfl rfl rfl (wrap_i64 ⟨by omega, by omega⟩) (WL.cvK (T := Ty) rfl rfl rfl rfl (wrap_u64 ⟨by omega, by omega⟩) (WL.shlS rfl rfl rfl (by omega) rfl rfl (WL.or rfl rfl rfl (WL.as rfl rfl (WL.nil (W.seq (W.region (WL.mv rfl rfl (WL.lss rfl rfl rfl (WL.nil (W.condpF rfl (by omega) ?_)))))))))))))
        refine W.skip (W.inBlock (W.region (WL.mv rfl rfl (WL.addK rfl rfl rfl (wrap_i64 ⟨by omega, by omega⟩) (WL.as rfl rfl (WL.nil ?_))))))
        rw [hand, vget_or u (c - 128) i h3 (by omega) (by omega) (by omega)]
        refine W.sub ?_ (next ⟨i + 1, u + (c - 128) * 128 ^ i⟩ ⟨by simp; omega, by simp; omega, hn2, hF.symm⟩ (by simp; omega))
        exact ⟨rfl, rfl, rfl, trivial⟩
  · have : i = bs.length := by omega
    subst this
    refine W.seq (W.seq (W.region (WL.mv rfl rfl (WL.mv rfl rfl ?_))))
    refine WL.len (T := Ty) rfl rfl (by assumption) rfl ?_
    refine WL.lss rfl rfl rfl (WL.mv rfl rfl (WL.gdTn rfl rfl rfl rfl rfl (by omega) (WL.gdTn rfl rfl rfl rfl rfl (by omega) (WL.pickFp rfl rfl (by omega) rfl (WL.nil (W.condF rfl (W.exit rfl (W.seq (W.region (WL.as rfl rfl (WL.as rfl rfl (WL.nil ?_))))))))))))
    simp [vgetF] at h4
    refine W.ret2 rfl rfl rfl (fun h p => ⟨by rw [← h4]; rfl, p⟩)
theorem rget_e (ρ : Hp) (b : Value) (bs : List Nat) {u n : Nat} (hb : ROs ρ 1 b (bs.map bcell)) (e : vgetF 0 0 bs = (u, n)) (hw : ∀ x ∈ bs, x < 256) (hl : bs.length ≤ 140737488355328) :
    Fn Tryz.prog 44 #[b] ρ [] (Just (.tuple #[.int .u64 (u : Int), .int .i64 (n : Int)])) := by
  have := rget_c ρ b bs hb hw hl
  rw [e] at this
  exact this
end Go.Proofs.YtdpnpipninggeaaGreatDoor
/- How many values a row has at most: what the document's held does. -/
set_option linter.unusedSimpArgs false
set_option linter.unusedVariables false
set_option maxRecDepth 20000
set_option maxHeartbeats 4000000
namespace Go.Proofs.YtdpnpipninggeaaGreatDoor
open Go
attribute [local irreducible] W WL Fn Buf ROs SL eptr box Rd Src bndOK WD RB Reads In

theorem heldm_c (ρ : Hp) (n : Int) : Fn Tryz.prog 66 #[.int .i64 n] ρ [] (Just (.int .i64 (min (max n 0) 65535))) := by
  refine in66 rfl rfl ?_
  refine W.seq (W.region (WL.as rfl rfl (WL.nil (W.seq (W.region (WL.mv rfl rfl (WL.mx rfl rfl rfl (WL.mn rfl rfl rfl (WL.as rfl rfl (WL.nil ?_))))))))))
  exact W.ret1 rfl rfl (fun h p => ⟨rfl, p⟩)
end Go.Proofs.YtdpnpipninggeaaGreatDoor
