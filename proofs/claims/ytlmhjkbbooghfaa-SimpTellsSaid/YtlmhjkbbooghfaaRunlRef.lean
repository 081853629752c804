/- Runs: what the document's own code does. -/
import Derived.Test.YtlmhjkbbooghfaaInn
import Derived.Test.YtlmhjkbbooghfaaNum
import Derived.Test.YtlmhjkbbooghfaaTab
import Derived.Test.YtlmhjkbbooghfaaVintRf
import Derived.Test.YtlmhjkbbooghfaaRunlLaw
set_option linter.unusedSimpArgs false
set_option linter.unusedVariables false
set_option maxRecDepth 20000
set_option maxHeartbeats 4000000
namespace Go.Proofs.Ytlmhjkbbooghfaa
open Go
attribute [local irreducible] W WL Fn Buf ROs SL eptr box Rd Src bndOK WD RB Reads In

-- CALL 58 refine WL.callV rfl rfl (fun x p d => heldm_c _ _) ?_
theorem heldm_c (ρ : Hp) (n : Int) : Fn Try.prog 58 #[.int .i64 n] ρ [] (Just (.int .i64 (min (max n 0) 65535))) := by
  refine in58 rfl rfl ?_
  refine W.seq ?_
  refine W.region ?_
  refine WL.as rfl rfl ?_
  refine WL.nil ?_
  refine W.seq ?_
  refine W.region ?_
  refine WL.mv rfl rfl ?_
  refine WL.mx rfl rfl rfl ?_
  refine WL.mn rfl rfl rfl ?_
  refine WL.as rfl rfl ?_
  refine WL.nil ?_
  exact W.ret1 rfl rfl (fun h p => ⟨rfl, p⟩)
-- CALL 27 refine WL.callF rfl rfl (fun x p d => rruns_c _ _ _ $RO (by first | assumption | omega) (by first | assumption | omega)) (fun u$N => ?_) ;; refine WL.fact (i := 0) rfl (fun h hb => Buf.slm hb) (fun hsl$N => ?_)
theorem rruns_c (ρ : Hp) (v : Value) (vs : List Nat) (hv : ROs ρ 1 v (vs.map ucell)) (hw : ∀ x ∈ vs, x < 18446744073709551616) (hl : vs.length ≤ 1099511627776) :
    Fn Try.prog 27 #[v] ρ [] (fun r => Buf 1 r ((encR vs).map bcell)) := by
  refine in27 rfl rfl ?_
  have hs := hv.slm
  have hel := encR_len _ vs (Nat.le_refl _)
  refine W.seq ?_
  refine W.region ?_
  refine WL.as rfl rfl ?_
  refine WL.nil ?_
  refine W.seq ?_
  refine W.region ?_
  refine WL.as rfl rfl ?_
  refine WL.nil ?_
  refine W.seq ?_
  refine W.seq ?_
  refine W.region ?_
  refine WL.as rfl rfl ?_
  refine WL.nil ?_
  refine W.block ?_
  refine W.nb (sz := 1) ?_
  refine W.loopS (σ := Nat × Value × List Nat) (fun s => [(0, v), (3, s.2.1), (4, .int .i64 (s.1 : Int))]) (fun s => [Buf 1 s.2.1 (s.2.2.map bcell)])
    (fun s => s.2.2 ++ encR (vs.drop s.1) = encR vs ∧ s.1 ≤ vs.length) (fun s => vs.length - s.1) (0, .slice none 0 0, []) ⟨rfl, rfl, rfl, trivial⟩ rfl ⟨rfl, Nat.zero_le _⟩ ?_
  rintro ⟨i, o, os⟩ ⟨h2, h3⟩ next
  simp only [] at h2 h3 next ⊢
  have hol : os.length ≤ (encR vs).length := by rw [← h2]; simp
  refine W.fact (i := 0) rfl (fun h hb => Buf.slm hb) (fun hso => ?_)
  by_cases hi : i < vs.length
  · obtain ⟨x, hx⟩ : ∃ x, vs[i]? = some x := ⟨_, List.getElem?_eq_getElem hi⟩
    have hdrop : vs.drop i = x :: vs.drop (i + 1) := by
      rw [List.drop_eq_getElem_cons hi]
      congr 1
      rw [List.getElem?_eq_getElem hi] at hx
      exact Option.some.inj hx
    have hxl := hw x (List.mem_of_getElem? hx)
    have hx1 : (vs.map ucell)[i]? = some (ucell x) := by rw [List.getElem?_map, hx]; rfl
    obtain ⟨l, hl'⟩ : ∃ l, l = vs.drop (i + 1) := ⟨_, rfl⟩
    rw [← hl'] at hdrop
    have hll : l.length = vs.length - (i + 1) := by rw [hl']; simp
    have hcl := cntF_le x l
    have hp1 := vput_len 9 (cntF x l + 1)
    have hget : ∀ j, (x :: l)[j]? = vs[i + j]? := fun j => by rw [← hdrop, List.getElem?_drop]
    have hce : cntF x (x :: l) = cntF x l + 1 := by simp [cntF]
    refine W.seq ?_
    refine W.seq ?_
    refine W.region ?_
    refine WL.mv rfl rfl ?_
    refine WL.mv rfl rfl ?_
    refine WL.len (T := Ty) rfl rfl (by assumption) rfl ?_
    refine WL.lss rfl rfl rfl ?_
    refine WL.nil ?_
    refine W.condpT rfl (by omega) ?_
    refine W.skip ?_
    refine W.block ?_
    refine W.seq ?_
    refine W.region ?_
    refine WL.mv rfl rfl ?_
    refine WL.as rfl rfl ?_
    refine WL.nil ?_
    refine W.seq ?_
    refine W.block ?_
    refine W.cut2 (τ := Unit) (fun _ => [(0, v), (3, o), (4, .int .i64 (i : Int)), (5, .int .i64 ((i : Int) + ((cntF x l + 1 : Nat) : Int)))]) (fun _ => [Buf 1 o (os.map bcell)]) (fun _ => True) ?_ (fun cut => ?_)
    · intro _ _
      have hu : ((i : Int) + ((cntF x l + 1 : Nat) : Int)) - (i : Int) = ((cntF x l + 1 : Nat) : Int) := by omega
      refine W.seq ?_
      refine W.drawA 11 rfl (fun σ0 hσ0 dσ0 => ?_)
      have fσ0_0 := ros_at 0 rfl hσ0 dσ0
      refine WD.takeL 0 rfl (by decide +kernel) ?_
      refine WL.mv rfl rfl ?_
      refine WL.nilT ?_
      refine WD.takeL 1 rfl (by decide +kernel) ?_
      refine WL.mv rfl rfl ?_
      refine WL.nilT ?_
      refine WD.takeL 2 rfl (by decide +kernel) ?_
      refine WL.mv rfl rfl ?_
      refine WL.nilT ?_
      refine WD.takeL 3 rfl (by decide +kernel) ?_
      refine WL.subK rfl rfl rfl (wrap_i64 ⟨by omega, by omega⟩) ?_
      refine WL.nilT ?_
      refine WD.takeL 4 rfl (by decide +kernel) ?_
      refine WL.cvK (T := Ty) rfl rfl rfl rfl (wrap_u64 ⟨by omega, by omega⟩) ?_
      refine WL.nilT ?_
      refine WD.takeL 6 rfl (by decide +kernel) ?_
      refine WL.mv rfl rfl ?_
      refine WL.nilT ?_
      refine WD.takeL 7 rfl (by decide +kernel) ?_
      refine WL.mv rfl rfl ?_
      refine WL.nilT ?_
      refine WD.takeL 8 rfl (by decide +kernel) ?_
      refine WL.ix (T := Ty) rfl rfl rfl (by assumption) rfl rfl (by omega) (by first | omega | decide +kernel) ?_
      refine WL.nilT ?_
      refine WD.takeL 9 rfl (by decide +kernel) ?_
      refine WL.ldKn (T := Ty) rfl rfl rfl rfl (by first | assumption | exact ROs.wide (by assumption)) (by assumption) ?_
      refine WL.nilT ?_
      refine WD.oneL 5 rfl (by decide +kernel) ?_
      rw [hu]
      refine WL.callF rfl rfl (fun x p d => rput_c _ _ _ _ (by first | assumption | exact ROs.wide (by assumption) | exact ROs.mono (by assumption) (eqh_at 0 rfl p d) | exact ros_at 0 rfl p d | exact ros_at 1 rfl p d | exact ros_at 2 rfl p d | exact ros_at 3 rfl p d | exact ros_at 4 rfl p d) (by first | assumption | omega) (by first | assumption | omega | (simp only [List.length_append]; omega))) (fun u0 => ?_)
      refine WL.fact (i := 0) rfl (fun h hb => Buf.slm hb) (fun hsl0 => ?_)
      refine WL.nilH hσ0 (fun σ1 hσ1 dσ1 mσ1 => ?_)
      have fσ0_0 := fσ0_0.mono mσ1
      have fσ1_0 := ros_at 0 rfl hσ1 dσ1
      refine WD.oneL 10 rfl (by decide +kernel) ?_
      refine WL.callF rfl rfl (fun x p d => rput_c _ _ _ _ (by first | assumption | exact ROs.wide (by assumption) | exact ROs.mono (by assumption) (eqh_at 0 rfl p d) | exact ros_at 0 rfl p d | exact ros_at 1 rfl p d | exact ros_at 2 rfl p d | exact ros_at 3 rfl p d | exact ros_at 4 rfl p d) (by first | assumption | omega) (by first | assumption | omega | (simp only [List.length_append]; omega))) (fun u1 => ?_)
      refine WL.fact (i := 0) rfl (fun h hb => Buf.slm hb) (fun hsl1 => ?_)
      refine WL.nilH hσ1 (fun σ2 hσ2 dσ2 mσ2 => ?_)
      have fσ0_0 := fσ0_0.mono mσ2
      have fσ1_0 := fσ1_0.mono mσ2
      have fσ2_0 := ros_at 0 rfl hσ2 dσ2
      refine WD.lastG hσ2 (by decide +kernel) (by repeat' first | exact FL.nil | apply FL.cons) rfl (by repeat' first | exact FL.nil | apply FL.cons) ?_
      refine WL.as rfl rfl ?_
      refine WL.nil ?_
      refine W.region ?_
      refine WL.mv rfl rfl ?_
      refine WL.as rfl rfl ?_
      refine WL.nil ?_
      refine W.inBlock ?_
      refine W.drop 1 rfl (by repeat' first | exact FL.nil | apply FL.cons) ?_
      refine W.drop 1 rfl (by repeat' first | exact FL.nil | apply FL.cons) ?_
      refine W.sub ?_ (next ⟨i + (cntF x l + 1), u1, os ++ vputF 9 (cntF x l + 1) ++ vputF 9 x⟩ ⟨?_, ?_⟩ ?_)
      · exact ⟨rfl, rfl, rfl, trivial⟩
      · rw [← h2, ← List.drop_drop, hdrop, encR_cons]; simp
      · simp only []; omega
      · simp only []; omega
    refine W.loopS (σ := Nat) (fun j => [(0, v), (3, o), (4, .int .i64 (i : Int)), (5, .int .i64 ((i : Int) + (j : Int)))]) (fun _ => [Buf 1 o (os.map bcell)])
      (fun j => j ≤ cntF x (x :: l)) (fun j => cntF x (x :: l) - j) 0 ⟨rfl, rfl, rfl, by simp [look, ev], trivial⟩ rfl (Nat.zero_le _) ?_
    intro j hj next2
    rcases (by omega : j < cntF x (x :: l) ∨ (j = cntF x (x :: l) ∧ i + j < vs.length) ∨ (j = cntF x (x :: l) ∧ ¬ i + j < vs.length)) with h | ⟨h, h'⟩ | ⟨h, h'⟩
    · have hcell : (vs.map ucell)[i + j]? = some (ucell x) := by rw [List.getElem?_map, ← hget, cntF_same x (x :: l) j h]; rfl
      have hc2 := cntF_le x (x :: l)
      refine W.seq ?_
      refine W.seq ?_
      refine W.drawA 15 rfl (fun σ0 hσ0 dσ0 => ?_)
      have fσ0_0 := ros_at 0 rfl hσ0 dσ0
      refine WD.takeL 0 rfl (by decide +kernel) ?_
      refine WL.mv rfl rfl ?_
      refine WL.nilT ?_
      refine WD.takeL 1 rfl (by decide +kernel) ?_
      refine WL.mv rfl rfl ?_
      refine WL.nilT ?_
      refine WD.takeL 2 rfl (by decide +kernel) ?_
      refine WL.len (T := Ty) rfl rfl (by assumption) rfl ?_
      refine WL.nilT ?_
      refine WD.takeL 3 rfl (by decide +kernel) ?_
      refine WL.lss rfl rfl rfl ?_
      refine WL.nilT ?_
      refine WD.takeL 4 rfl (by decide +kernel) ?_
      refine WL.mv rfl rfl ?_
      refine WL.nilT ?_
      refine WD.takeL 5 rfl (by decide +kernel) ?_
      refine WL.gT rfl rfl (by omega) ?_
      refine WL.mv rfl rfl ?_
      refine WL.nilT ?_
      refine WD.takeL 6 rfl (by decide +kernel) ?_
      refine WL.gT rfl rfl (by omega) ?_
      refine WL.mv rfl rfl ?_
      refine WL.nilT ?_
      refine WD.takeL 7 rfl (by decide +kernel) ?_
      refine WL.gT rfl rfl (by omega) ?_
      refine WL.ix (T := Ty) rfl rfl rfl (by assumption) rfl rfl (by omega) (by first | omega | decide +kernel) ?_
      refine WL.nilT ?_
      refine WD.takeL 8 rfl (by decide +kernel) ?_
      refine WL.gT rfl rfl (by omega) ?_
      refine WL.ldKn (T := Ty) rfl rfl rfl rfl (by first | assumption | exact ROs.wide (by assumption)) (by assumption) ?_
      refine WL.nilT ?_
      refine WD.takeL 9 rfl (by decide +kernel) ?_
      refine WL.gT rfl rfl (by omega) ?_
      refine WL.mv rfl rfl ?_
      refine WL.nilT ?_
      refine WD.takeL 10 rfl (by decide +kernel) ?_
      refine WL.gT rfl rfl (by omega) ?_
      refine WL.mv rfl rfl ?_
      refine WL.nilT ?_
      refine WD.takeL 11 rfl (by decide +kernel) ?_
      refine WL.gT rfl rfl (by omega) ?_
      refine WL.ix (T := Ty) rfl rfl rfl (by assumption) rfl rfl (by omega) (by first | omega | decide +kernel) ?_
      refine WL.nilT ?_
      refine WD.takeL 12 rfl (by decide +kernel) ?_
      refine WL.gT rfl rfl (by omega) ?_
      refine WL.ldKn (T := Ty) rfl rfl rfl rfl (by first | assumption | exact ROs.wide (by assumption)) (by assumption) ?_
      refine WL.nilT ?_
      refine WD.takeL 13 rfl (by decide +kernel) ?_
      refine WL.gT rfl rfl (by omega) ?_
      refine WL.eql rfl rfl rfl ?_
      refine WL.nilT ?_
      refine WD.takeL 14 rfl (by decide +kernel) ?_
      refine WL.pickTp rfl rfl (by omega) rfl ?_
      refine WL.nilT ?_
      refine WD.doneF hσ0 (by decide +kernel) (by repeat' first | exact FL.nil | apply FL.cons) ?_
      refine W.condpT rfl (by omega) ?_
      refine W.skip ?_
      refine W.block ?_
      refine W.region ?_
      refine WL.mv rfl rfl ?_
      refine WL.addK rfl rfl rfl (wrap_i64 ⟨by omega, by omega⟩) ?_
      refine WL.as rfl rfl ?_
      refine WL.nil ?_
      refine W.inBlock ?_
      refine W.sub ?_ (next2 (j + 1) (by omega) (by omega))
      exact ⟨rfl, rfl, rfl, by simp [look, ev]; omega, trivial⟩
    · obtain ⟨y, hy⟩ : ∃ y, vs[i + j]? = some y := ⟨_, List.getElem?_eq_getElem h'⟩
      have hne : y ≠ x := by
        intro e
        have := cntF_next x (x :: l)
        rw [hget, ← h, hy, e] at this
        exact this rfl
      have hcell : (vs.map ucell)[i + j]? = some (ucell y) := by rw [List.getElem?_map, hy]; rfl
      refine W.seq ?_
      refine W.seq ?_
      refine W.drawA 15 rfl (fun σ0 hσ0 dσ0 => ?_)
      have fσ0_0 := ros_at 0 rfl hσ0 dσ0
      refine WD.takeL 0 rfl (by decide +kernel) ?_
      refine WL.mv rfl rfl ?_
      refine WL.nilT ?_
      refine WD.takeL 1 rfl (by decide +kernel) ?_
      refine WL.mv rfl rfl ?_
      refine WL.nilT ?_
      refine WD.takeL 2 rfl (by decide +kernel) ?_
      refine WL.len (T := Ty) rfl rfl (by assumption) rfl ?_
      refine WL.nilT ?_
      refine WD.takeL 3 rfl (by decide +kernel) ?_
      refine WL.lss rfl rfl rfl ?_
      refine WL.nilT ?_
      refine WD.takeL 4 rfl (by decide +kernel) ?_
      refine WL.mv rfl rfl ?_
      refine WL.nilT ?_
      refine WD.takeL 5 rfl (by decide +kernel) ?_
      refine WL.gT rfl rfl (by omega) ?_
      refine WL.mv rfl rfl ?_
      refine WL.nilT ?_
      refine WD.takeL 6 rfl (by decide +kernel) ?_
      refine WL.gT rfl rfl (by omega) ?_
      refine WL.mv rfl rfl ?_
      refine WL.nilT ?_
      refine WD.takeL 7 rfl (by decide +kernel) ?_
      refine WL.gT rfl rfl (by omega) ?_
      refine WL.ix (T := Ty) rfl rfl rfl (by assumption) rfl rfl (by omega) (by first | omega | decide +kernel) ?_
      refine WL.nilT ?_
      refine WD.takeL 8 rfl (by decide +kernel) ?_
      refine WL.gT rfl rfl (by omega) ?_
      refine WL.ldKn (T := Ty) rfl rfl rfl rfl (by first | assumption | exact ROs.wide (by assumption)) (by assumption) ?_
      refine WL.nilT ?_
      refine WD.takeL 9 rfl (by decide +kernel) ?_
      refine WL.gT rfl rfl (by omega) ?_
      refine WL.mv rfl rfl ?_
      refine WL.nilT ?_
      refine WD.takeL 10 rfl (by decide +kernel) ?_
      refine WL.gT rfl rfl (by omega) ?_
      refine WL.mv rfl rfl ?_
      refine WL.nilT ?_
      refine WD.takeL 11 rfl (by decide +kernel) ?_
      refine WL.gT rfl rfl (by omega) ?_
      refine WL.ix (T := Ty) rfl rfl rfl (by assumption) rfl rfl (by omega) (by first | omega | decide +kernel) ?_
      refine WL.nilT ?_
      refine WD.takeL 12 rfl (by decide +kernel) ?_
      refine WL.gT rfl rfl (by omega) ?_
      refine WL.ldKn (T := Ty) rfl rfl rfl rfl (by first | assumption | exact ROs.wide (by assumption)) (by assumption) ?_
      refine WL.nilT ?_
      refine WD.takeL 13 rfl (by decide +kernel) ?_
      refine WL.gT rfl rfl (by omega) ?_
      refine WL.eql rfl rfl rfl ?_
      refine WL.nilT ?_
      refine WD.takeL 14 rfl (by decide +kernel) ?_
      refine WL.pickTp rfl rfl (by omega) rfl ?_
      refine WL.nilT ?_
      refine WD.doneF hσ0 (by decide +kernel) (by repeat' first | exact FL.nil | apply FL.cons) ?_
      refine W.condpF rfl (by omega) ?_
      refine W.exit rfl ?_
      refine W.sub ?_ (cut () trivial)
      exact ⟨rfl, rfl, rfl, by rw [← hce, ← h]; rfl, trivial⟩
    · refine W.seq ?_
      refine W.seq ?_
      refine W.drawA 15 rfl (fun σ0 hσ0 dσ0 => ?_)
      have fσ0_0 := ros_at 0 rfl hσ0 dσ0
      refine WD.takeL 0 rfl (by decide +kernel) ?_
      refine WL.mv rfl rfl ?_
      refine WL.nilT ?_
      refine WD.takeL 1 rfl (by decide +kernel) ?_
      refine WL.mv rfl rfl ?_
      refine WL.nilT ?_
      refine WD.takeL 2 rfl (by decide +kernel) ?_
      refine WL.len (T := Ty) rfl rfl (by assumption) rfl ?_
      refine WL.nilT ?_
      refine WD.takeL 3 rfl (by decide +kernel) ?_
      refine WL.lss rfl rfl rfl ?_
      refine WL.nilT ?_
      refine WD.takeL 4 rfl (by decide +kernel) ?_
      refine WL.mv rfl rfl ?_
      refine WL.nilT ?_
      refine WD.takeL 5 rfl (by decide +kernel) ?_
      refine WL.gdTn rfl rfl rfl rfl rfl (by omega) ?_
      refine WL.nilT ?_
      refine WD.takeL 6 rfl (by decide +kernel) ?_
      refine WL.gdTn rfl rfl rfl rfl rfl (by omega) ?_
      refine WL.nilT ?_
      refine WD.takeL 7 rfl (by decide +kernel) ?_
      refine WL.gdTn rfl rfl rfl rfl rfl (by omega) ?_
      refine WL.nilT ?_
      refine WD.takeL 8 rfl (by decide +kernel) ?_
      refine WL.gdTn rfl rfl rfl rfl rfl (by omega) ?_
      refine WL.nilT ?_
      refine WD.takeL 9 rfl (by decide +kernel) ?_
      refine WL.gdTn rfl rfl rfl rfl rfl (by omega) ?_
      refine WL.nilT ?_
      refine WD.takeL 10 rfl (by decide +kernel) ?_
      refine WL.gdTn rfl rfl rfl rfl rfl (by omega) ?_
      refine WL.nilT ?_
      refine WD.takeL 11 rfl (by decide +kernel) ?_
      refine WL.gdTn rfl rfl rfl rfl rfl (by omega) ?_
      refine WL.nilT ?_
      refine WD.takeL 12 rfl (by decide +kernel) ?_
      refine WL.gdTn rfl rfl rfl rfl rfl (by omega) ?_
      refine WL.nilT ?_
      refine WD.takeL 13 rfl (by decide +kernel) ?_
      refine WL.gdTn rfl rfl rfl rfl rfl (by omega) ?_
      refine WL.nilT ?_
      refine WD.takeL 14 rfl (by decide +kernel) ?_
      refine WL.pickFp rfl rfl (by omega) rfl ?_
      refine WL.nilT ?_
      refine WD.doneF hσ0 (by decide +kernel) (by repeat' first | exact FL.nil | apply FL.cons) ?_
      refine W.condF rfl ?_
      refine W.exit rfl ?_
      refine W.sub ?_ (cut () trivial)
      exact ⟨rfl, rfl, rfl, by rw [← hce, ← h]; rfl, trivial⟩
  · have hie : i = vs.length := by omega
    rw [hie, List.drop_of_length_le (Nat.le_refl _), encR_nil, List.append_nil] at h2
    refine W.seq ?_
    refine W.seq ?_
    refine W.region ?_
    refine WL.mv rfl rfl ?_
    refine WL.mv rfl rfl ?_
    refine WL.len (T := Ty) rfl rfl (by assumption) rfl ?_
    refine WL.lss rfl rfl rfl ?_
    refine WL.nil ?_
    refine W.condpF rfl (by omega) ?_
    refine W.exit rfl ?_
    refine W.seq ?_
    refine W.region ?_
    refine WL.mv rfl rfl ?_
    refine WL.as rfl rfl ?_
    refine WL.nil ?_
    refine W.ret1 rfl rfl (fun h p => ?_)
    rw [← h2]
    exact sepl_one.1 p
-- CALL 28 refine WL.callF rfl rfl (fun x p d => rgetruns_s _ _ _ _ $RO (by assumption) (by first | assumption | omega) (by first | assumption | omega)) (fun r => ?_) ;; refine WL.ex (fun u$N => ?_) ;; refine WL.pure (fun er => ?_) ;; subst er ;; refine WL.fact (i := 0) rfl (fun h hb => Buf.slm hb) (fun hsl$N => ?_)
-- CALL 28 refine WL.callF rfl rfl (fun x p d => rgetruns_n _ _ _ _ $RO (by assumption) (by first | assumption | omega) (by first | assumption | omega)) (fun r => ?_) ;; refine WL.ex (fun u$N => ?_) ;; refine WL.pure (fun er => ?_) ;; subst er ;; refine WL.fact (i := 0) rfl (fun h hb => Buf.slm hb) (fun hsl$N => ?_)
-- CALL 28 refine WL.callF rfl rfl (fun x p d => rgetruns_e _ _ _ _ $RO (by assumption) (by first | assumption | omega) (by first | assumption | omega)) (fun r => ?_) ;; refine WL.ex (fun u$N => ?_) ;; refine WL.pure (fun er => ?_) ;; subst er ;; refine WL.fact (i := 0) rfl (fun h hb => Buf.slm hb) (fun hsl$N => ?_)
-- CALL 28 refine WL.callF rfl rfl (fun x p d => rgetruns_c _ _ _ _ $RO (by first | assumption | omega) (by first | assumption | omega)) (fun r => ?_) ;; refine WL.ex (fun u$N => ?_) ;; refine WL.pure (fun er => ?_) ;; subst er ;; refine WL.fact (i := 0) rfl (fun h hb => Buf.slm hb) (fun hsl$N => ?_)
theorem rgetruns_c (ρ : Hp) (v : Value) (bs : List Nat) (n : Int) (hv : ROs ρ 1 v (bs.map bcell)) (hw : ∀ x ∈ bs, x < 256) (hl : bs.length ≤ 140737488355328) :
    Fn Try.prog 28 #[v, .int .i64 n] ρ [] (RowR (decR bs n)) := by
  refine in28 rfl rfl ?_
  have hs := hv.slm
  have hm := heldM_eq n
  have hml := heldM_le n
  refine W.seq ?_
  refine W.region ?_
  refine WL.as rfl rfl ?_
  refine WL.as rfl rfl ?_
  refine WL.nil ?_
  refine W.seq ?_
  refine W.region ?_
  refine WL.mv rfl rfl ?_
  refine WL.callV rfl rfl (fun x p d => heldm_c _ _) ?_
  refine WL.as rfl rfl ?_
  refine WL.nil ?_
  refine W.seq ?_
  refine W.region ?_
  refine WL.mv rfl rfl ?_
  refine WL.as rfl rfl ?_
  refine WL.nil ?_
  refine W.seq ?_
  refine W.region ?_
  refine WL.as rfl rfl ?_
  refine WL.nil ?_
  refine W.seq ?_
  refine W.block ?_
  refine W.nb (sz := 1) ?_
  refine W.loopS (σ := List Nat × Value × Value × List Nat) (fun s => [(1, .int .i64 (min (max n 0) 65535)), (6, s.2.1), (7, s.2.2.1)]) (fun s => [Buf 1 s.2.2.1 (s.2.2.2.map ucell)])
    (fun s => ROs ρ 1 s.2.1 (s.1.map bcell) ∧ decRF s.1.length s.1 (heldM n) s.2.2.2 = decR bs n ∧ s.1.length ≤ bs.length ∧ (∀ x ∈ s.1, x < 256) ∧ s.2.2.2.length ≤ heldM n) (fun s => s.1.length) (bs, v, .slice none 0 0, []) ⟨rfl, rfl, rfl, trivial⟩ rfl ⟨hv, rfl, Nat.le_refl _, hw, Nat.zero_le _⟩ ?_
  rintro ⟨ws, w, o, os⟩ ⟨h1, h2, h3, h4, h5⟩ next
  simp only [] at h1 h2 h3 h4 h5 next ⊢
  have hsw := h1.slm
  refine W.fact (i := 0) rfl (fun h hb => Buf.slm hb) (fun hso => ?_)
  by_cases hnil : ws = []
  · subst hnil
    have hl0 : ([] : List Nat).length = 0 := rfl
    simp only [decRF, List.length_nil] at h2
    by_cases hlen : os.length = heldM n
    · rw [if_pos hlen] at h2
      refine W.seq ?_
      refine W.seq ?_
      refine W.region ?_
      refine WL.mv rfl rfl ?_
      refine WL.len (T := Ty) rfl rfl (by assumption) rfl ?_
      refine WL.gtr rfl rfl rfl ?_
      refine WL.nil ?_
      refine W.condF rfl ?_
      refine W.exit rfl ?_
      refine W.seq ?_
      refine W.seq ?_
      refine W.region ?_
      refine WL.mv rfl rfl ?_
      refine WL.len (T := Ty) rfl rfl (by assumption) rfl ?_
      refine WL.mv rfl rfl ?_
      refine WL.neq rfl rfl rfl ?_
      refine WL.nil ?_
      refine W.condpF rfl (by omega) ?_
      refine W.skip ?_
      refine W.seq ?_
      refine W.region ?_
      refine WL.mv rfl rfl ?_
      refine WL.as rfl rfl ?_
      refine WL.as rfl rfl ?_
      refine WL.nil ?_
      exact W.ret2 rfl rfl rfl (fun h p => rowSome h2.symm p)
    · rw [if_neg hlen] at h2
      refine W.seq ?_
      refine W.seq ?_
      refine W.region ?_
      refine WL.mv rfl rfl ?_
      refine WL.len (T := Ty) rfl rfl (by assumption) rfl ?_
      refine WL.gtr rfl rfl rfl ?_
      refine WL.nil ?_
      refine W.condF rfl ?_
      refine W.exit rfl ?_
      refine W.seq ?_
      refine W.seq ?_
      refine W.region ?_
      refine WL.mv rfl rfl ?_
      refine WL.len (T := Ty) rfl rfl (by assumption) rfl ?_
      refine WL.mv rfl rfl ?_
      refine WL.neq rfl rfl rfl ?_
      refine WL.nil ?_
      refine W.condpT rfl (by omega) ?_
      refine W.seq ?_
      refine W.region ?_
      refine WL.as rfl rfl ?_
      refine WL.as rfl rfl ?_
      refine WL.nil ?_
      refine W.drop 0 rfl (by repeat' first | exact FL.nil | apply FL.cons) ?_
      refine W.nb (sz := 1) ?_
      exact W.ret2 rfl rfl rfl (fun h p => rowNone h2.symm p)
  · have hpos : 0 < ws.length := List.length_pos_iff.2 hnil
    obtain ⟨u, i, g1⟩ : ∃ u i, vgetF 0 0 ws = (u, i) := ⟨_, _, rfl⟩
    obtain ⟨x, k, g2⟩ : ∃ x k, vgetF 0 0 (ws.drop i) = (x, k) := ⟨_, _, rfl⟩
    have b1 := vget_le ws 0 0
    have b2 := vget_le (ws.drop i) 0 0
    have c1 := vget_bound ws 0 0 (by decide) (by decide) h4
    have hw2 : ∀ y ∈ ws.drop i, y < 256 := fun y hy => h4 y (List.mem_of_mem_drop hy)
    have c2 := vget_bound (ws.drop i) 0 0 (by decide) (by decide) hw2
    have hdl : (ws.drop i).length ≤ 140737488355328 := by simp; omega
    rw [g1] at b1 c1
    rw [g2] at b2 c2
    simp only [List.length_drop] at b1 c1 b2 c2
    have hst := decR_step ws (heldM n) os hnil u i x k g1 g2
    rw [h2] at hst
    by_cases ci : i = 0
    · rw [if_pos (by simp [ci])] at hst
      refine W.seq ?_
      refine W.seq ?_
      refine W.region ?_
      refine WL.mv rfl rfl ?_
      refine WL.len (T := Ty) rfl rfl (by assumption) rfl ?_
      refine WL.gtr rfl rfl rfl ?_
      refine WL.nil ?_
      refine W.condpT rfl (by omega) ?_
      refine W.skip ?_
      refine W.block ?_
      refine W.seq ?_
      refine W.region ?_
      refine WL.mv rfl rfl ?_
      refine WL.callV rfl rfl (fun x p d => rget_e _ _ _ (by first | assumption | exact ROs.wide (by assumption) | exact ROs.mono (by assumption) (eqh_at 0 rfl p d) | exact ros_at 0 rfl p d | exact ros_at 1 rfl p d | exact ros_at 2 rfl p d | exact ros_at 3 rfl p d | exact ros_at 4 rfl p d) (by assumption) (by first | assumption) (by first | assumption | omega)) ?_
      refine WL.mv rfl rfl ?_
      refine WL.extL rfl rfl rfl ?_
      refine WL.extL rfl rfl rfl ?_
      refine WL.as rfl rfl ?_
      refine WL.as rfl rfl ?_
      refine WL.nil ?_
      refine W.seq ?_
      refine W.region ?_
      refine WL.mv rfl rfl ?_
      refine WL.mv rfl rfl ?_
      refine WL.slDn (T := Ty) rfl rfl rfl rfl rfl (by first | assumption | exact ROs.wide (by assumption)) (by first | assumption | omega | (simp; omega)) (fun u3 hu3 ru3 => ?_)
      refine WL.as rfl rfl ?_
      refine WL.nil ?_
      refine W.seq ?_
      refine W.region ?_
      refine WL.mv rfl rfl ?_
      refine WL.callV rfl rfl (fun x p d => rget_e _ _ _ (by first | assumption | exact ROs.wide (by assumption) | exact ROs.mono (by assumption) (eqh_at 0 rfl p d) | exact ros_at 0 rfl p d | exact ros_at 1 rfl p d | exact ros_at 2 rfl p d | exact ros_at 3 rfl p d | exact ros_at 4 rfl p d) (by assumption) (by first | assumption) (by first | assumption | omega)) ?_
      refine WL.mv rfl rfl ?_
      refine WL.extL rfl rfl rfl ?_
      refine WL.extL rfl rfl rfl ?_
      refine WL.as rfl rfl ?_
      refine WL.as rfl rfl ?_
      refine WL.nil ?_
      refine W.seq ?_
      refine W.region ?_
      refine WL.mv rfl rfl ?_
      refine WL.mv rfl rfl ?_
      refine WL.slDn (T := Ty) rfl rfl rfl rfl rfl (by first | assumption | exact ROs.wide (by assumption)) (by first | assumption | omega | (simp; omega)) (fun u4 hu4 ru4 => ?_)
      refine WL.as rfl rfl ?_
      refine WL.nil ?_
      refine W.seq ?_
      refine W.seq ?_
      refine W.region ?_
      refine WL.mv rfl rfl ?_
      refine WL.eql rfl rfl rfl ?_
      refine WL.mv rfl rfl ?_
      refine WL.gdFn rfl rfl rfl rfl rfl (by omega) ?_
      refine WL.gdFn rfl rfl rfl rfl rfl (by omega) ?_
      refine WL.pickTp rfl rfl (by omega) rfl ?_
      refine WL.mv rfl rfl ?_
      refine WL.gdN rfl rfl rfl rfl rfl rfl ?_
      refine WL.gdN rfl rfl rfl rfl rfl rfl ?_
      refine WL.pickT rfl rfl rfl ?_
      refine WL.mv rfl rfl ?_
      refine WL.gdN rfl rfl rfl rfl rfl rfl ?_
      refine WL.gdN rfl rfl rfl rfl rfl rfl ?_
      refine WL.gdN rfl rfl rfl rfl rfl rfl ?_
      refine WL.gdN rfl rfl rfl rfl rfl rfl ?_
      refine WL.gdN rfl rfl rfl rfl rfl rfl ?_
      refine WL.gdN rfl rfl rfl rfl rfl rfl ?_
      refine WL.gdN rfl rfl rfl rfl rfl rfl ?_
      refine WL.pickT rfl rfl rfl ?_
      refine WL.mv rfl rfl ?_
      refine WL.gdN rfl rfl rfl rfl rfl rfl ?_
      refine WL.gdN rfl rfl rfl rfl rfl rfl ?_
      refine WL.gdN rfl rfl rfl rfl rfl rfl ?_
      refine WL.gdN rfl rfl rfl rfl rfl rfl ?_
      refine WL.gdU rfl rfl rfl rfl rfl ?_
      refine WL.gdU rfl rfl rfl rfl rfl ?_
      refine WL.gdU rfl rfl rfl rfl rfl ?_
      refine WL.gdU rfl rfl rfl rfl rfl ?_
      refine WL.gdU rfl rfl rfl rfl rfl ?_
      refine WL.gdU rfl rfl rfl rfl rfl ?_
      refine WL.gdU rfl rfl rfl rfl rfl ?_
      refine WL.gdU rfl rfl rfl rfl rfl ?_
      refine WL.gdN rfl rfl rfl rfl rfl rfl ?_
      refine WL.pickT rfl rfl rfl ?_
      refine WL.nil ?_
      refine W.condT rfl ?_
      refine W.seq ?_
      refine W.region ?_
      refine WL.as rfl rfl ?_
      refine WL.as rfl rfl ?_
      refine WL.nil ?_
      refine W.drop 0 rfl (by repeat' first | exact FL.nil | apply FL.cons) ?_
      refine W.nb (sz := 1) ?_
      exact W.ret2 rfl rfl rfl (fun h p => rowNone hst p)
    by_cases ck : k = 0
    · rw [if_pos (by simp [ck])] at hst
      refine W.seq ?_
      refine W.seq ?_
      refine W.region ?_
      refine WL.mv rfl rfl ?_
      refine WL.len (T := Ty) rfl rfl (by assumption) rfl ?_
      refine WL.gtr rfl rfl rfl ?_
      refine WL.nil ?_
      refine W.condpT rfl (by omega) ?_
      refine W.skip ?_
      refine W.block ?_
      refine W.seq ?_
      refine W.region ?_
      refine WL.mv rfl rfl ?_
      refine WL.callV rfl rfl (fun x p d => rget_e _ _ _ (by first | assumption | exact ROs.wide (by assumption) | exact ROs.mono (by assumption) (eqh_at 0 rfl p d) | exact ros_at 0 rfl p d | exact ros_at 1 rfl p d | exact ros_at 2 rfl p d | exact ros_at 3 rfl p d | exact ros_at 4 rfl p d) (by assumption) (by first | assumption) (by first | assumption | omega)) ?_
      refine WL.mv rfl rfl ?_
      refine WL.extL rfl rfl rfl ?_
      refine WL.extL rfl rfl rfl ?_
      refine WL.as rfl rfl ?_
      refine WL.as rfl rfl ?_
      refine WL.nil ?_
      refine W.seq ?_
      refine W.region ?_
      refine WL.mv rfl rfl ?_
      refine WL.mv rfl rfl ?_
      refine WL.slDn (T := Ty) rfl rfl rfl rfl rfl (by first | assumption | exact ROs.wide (by assumption)) (by first | assumption | omega | (simp; omega)) (fun u3 hu3 ru3 => ?_)
      refine WL.as rfl rfl ?_
      refine WL.nil ?_
      refine W.seq ?_
      refine W.region ?_
      refine WL.mv rfl rfl ?_
      refine WL.callV rfl rfl (fun x p d => rget_e _ _ _ (by first | assumption | exact ROs.wide (by assumption) | exact ROs.mono (by assumption) (eqh_at 0 rfl p d) | exact ros_at 0 rfl p d | exact ros_at 1 rfl p d | exact ros_at 2 rfl p d | exact ros_at 3 rfl p d | exact ros_at 4 rfl p d) (by assumption) (by first | assumption) (by first | assumption | omega)) ?_
      refine WL.mv rfl rfl ?_
      refine WL.extL rfl rfl rfl ?_
      refine WL.extL rfl rfl rfl ?_
      refine WL.as rfl rfl ?_
      refine WL.as rfl rfl ?_
      refine WL.nil ?_
      refine W.seq ?_
      refine W.region ?_
      refine WL.mv rfl rfl ?_
      refine WL.mv rfl rfl ?_
      refine WL.slDn (T := Ty) rfl rfl rfl rfl rfl (by first | assumption | exact ROs.wide (by assumption)) (by first | assumption | omega | (simp; omega)) (fun u4 hu4 ru4 => ?_)
      refine WL.as rfl rfl ?_
      refine WL.nil ?_
      refine W.seq ?_
      refine W.seq ?_
      refine W.region ?_
      refine WL.mv rfl rfl ?_
      refine WL.eql rfl rfl rfl ?_
      refine WL.mv rfl rfl ?_
      refine WL.gF rfl rfl (by omega) ?_
      refine WL.mv rfl rfl ?_
      refine WL.gF rfl rfl (by omega) ?_
      refine WL.eql rfl rfl rfl ?_
      refine WL.pickFp rfl rfl (by omega) rfl ?_
      refine WL.mv rfl rfl ?_
      refine WL.gdFn rfl rfl rfl rfl rfl (by omega) ?_
      refine WL.gdFn rfl rfl rfl rfl rfl (by omega) ?_
      refine WL.pickTp rfl rfl (by omega) rfl ?_
      refine WL.mv rfl rfl ?_
      refine WL.gdN rfl rfl rfl rfl rfl rfl ?_
      refine WL.gdN rfl rfl rfl rfl rfl rfl ?_
      refine WL.gdN rfl rfl rfl rfl rfl rfl ?_
      refine WL.gdN rfl rfl rfl rfl rfl rfl ?_
      refine WL.gdN rfl rfl rfl rfl rfl rfl ?_
      refine WL.gdN rfl rfl rfl rfl rfl rfl ?_
      refine WL.gdN rfl rfl rfl rfl rfl rfl ?_
      refine WL.pickT rfl rfl rfl ?_
      refine WL.mv rfl rfl ?_
      refine WL.gdN rfl rfl rfl rfl rfl rfl ?_
      refine WL.gdN rfl rfl rfl rfl rfl rfl ?_
      refine WL.gdN rfl rfl rfl rfl rfl rfl ?_
      refine WL.gdN rfl rfl rfl rfl rfl rfl ?_
      refine WL.gdU rfl rfl rfl rfl rfl ?_
      refine WL.gdU rfl rfl rfl rfl rfl ?_
      refine WL.gdU rfl rfl rfl rfl rfl ?_
      refine WL.gdU rfl rfl rfl rfl rfl ?_
      refine WL.gdU rfl rfl rfl rfl rfl ?_
      refine WL.gdU rfl rfl rfl rfl rfl ?_
      refine WL.gdU rfl rfl rfl rfl rfl ?_
      refine WL.gdU rfl rfl rfl rfl rfl ?_
      refine WL.gdN rfl rfl rfl rfl rfl rfl ?_
      refine WL.pickT rfl rfl rfl ?_
      refine WL.nil ?_
      refine W.condT rfl ?_
      refine W.seq ?_
      refine W.region ?_
      refine WL.as rfl rfl ?_
      refine WL.as rfl rfl ?_
      refine WL.nil ?_
      refine W.drop 0 rfl (by repeat' first | exact FL.nil | apply FL.cons) ?_
      refine W.nb (sz := 1) ?_
      exact W.ret2 rfl rfl rfl (fun h p => rowNone hst p)
    by_cases cu : u = 0
    · rw [if_pos (by simp [cu])] at hst
      refine W.seq ?_
      refine W.seq ?_
      refine W.region ?_
      refine WL.mv rfl rfl ?_
      refine WL.len (T := Ty) rfl rfl (by assumption) rfl ?_
      refine WL.gtr rfl rfl rfl ?_
      refine WL.nil ?_
      refine W.condpT rfl (by omega) ?_
      refine W.skip ?_
      refine W.block ?_
      refine W.seq ?_
      refine W.region ?_
      refine WL.mv rfl rfl ?_
      refine WL.callV rfl rfl (fun x p d => rget_e _ _ _ (by first | assumption | exact ROs.wide (by assumption) | exact ROs.mono (by assumption) (eqh_at 0 rfl p d) | exact ros_at 0 rfl p d | exact ros_at 1 rfl p d | exact ros_at 2 rfl p d | exact ros_at 3 rfl p d | exact ros_at 4 rfl p d) (by assumption) (by first | assumption) (by first | assumption | omega)) ?_
      refine WL.mv rfl rfl ?_
      refine WL.extL rfl rfl rfl ?_
      refine WL.extL rfl rfl rfl ?_
      refine WL.as rfl rfl ?_
      refine WL.as rfl rfl ?_
      refine WL.nil ?_
      refine W.seq ?_
      refine W.region ?_
      refine WL.mv rfl rfl ?_
      refine WL.mv rfl rfl ?_
      refine WL.slDn (T := Ty) rfl rfl rfl rfl rfl (by first | assumption | exact ROs.wide (by assumption)) (by first | assumption | omega | (simp; omega)) (fun u3 hu3 ru3 => ?_)
      refine WL.as rfl rfl ?_
      refine WL.nil ?_
      refine W.seq ?_
      refine W.region ?_
      refine WL.mv rfl rfl ?_
      refine WL.callV rfl rfl (fun x p d => rget_e _ _ _ (by first | assumption | exact ROs.wide (by assumption) | exact ROs.mono (by assumption) (eqh_at 0 rfl p d) | exact ros_at 0 rfl p d | exact ros_at 1 rfl p d | exact ros_at 2 rfl p d | exact ros_at 3 rfl p d | exact ros_at 4 rfl p d) (by assumption) (by first | assumption) (by first | assumption | omega)) ?_
      refine WL.mv rfl rfl ?_
      refine WL.extL rfl rfl rfl ?_
      refine WL.extL rfl rfl rfl ?_
      refine WL.as rfl rfl ?_
      refine WL.as rfl rfl ?_
      refine WL.nil ?_
      refine W.seq ?_
      refine W.region ?_
      refine WL.mv rfl rfl ?_
      refine WL.mv rfl rfl ?_
      refine WL.slDn (T := Ty) rfl rfl rfl rfl rfl (by first | assumption | exact ROs.wide (by assumption)) (by first | assumption | omega | (simp; omega)) (fun u4 hu4 ru4 => ?_)
      refine WL.as rfl rfl ?_
      refine WL.nil ?_
      refine W.seq ?_
      refine W.seq ?_
      refine W.region ?_
      refine WL.mv rfl rfl ?_
      refine WL.eql rfl rfl rfl ?_
      refine WL.mv rfl rfl ?_
      refine WL.gF rfl rfl (by omega) ?_
      refine WL.mv rfl rfl ?_
      refine WL.gF rfl rfl (by omega) ?_
      refine WL.eql rfl rfl rfl ?_
      refine WL.pickFp rfl rfl (by omega) rfl ?_
      refine WL.mv rfl rfl ?_
      refine WL.gF rfl rfl (by omega) ?_
      refine WL.mv rfl rfl ?_
      refine WL.gF rfl rfl (by omega) ?_
      refine WL.eql rfl rfl rfl ?_
      refine WL.pickFp rfl rfl (by omega) rfl ?_
      refine WL.mv rfl rfl ?_
      refine WL.gdFn rfl rfl rfl rfl rfl (by omega) ?_
      refine WL.gdFn rfl rfl rfl rfl rfl (by omega) ?_
      refine WL.gdFn rfl rfl rfl rfl rfl (by omega) ?_
      refine WL.gdFn rfl rfl rfl rfl rfl (by omega) ?_
      refine WL.gdFn rfl rfl rfl rfl rfl (by omega) ?_
      refine WL.gdFn rfl rfl rfl rfl rfl (by omega) ?_
      refine WL.gdFn rfl rfl rfl rfl rfl (by omega) ?_
      refine WL.pickTp rfl rfl (by omega) rfl ?_
      refine WL.mv rfl rfl ?_
      refine WL.gdN rfl rfl rfl rfl rfl rfl ?_
      refine WL.gdN rfl rfl rfl rfl rfl rfl ?_
      refine WL.gdN rfl rfl rfl rfl rfl rfl ?_
      refine WL.gdN rfl rfl rfl rfl rfl rfl ?_
      refine WL.gdU rfl rfl rfl rfl rfl ?_
      refine WL.gdU rfl rfl rfl rfl rfl ?_
      refine WL.gdU rfl rfl rfl rfl rfl ?_
      refine WL.gdU rfl rfl rfl rfl rfl ?_
      refine WL.gdU rfl rfl rfl rfl rfl ?_
      refine WL.gdU rfl rfl rfl rfl rfl ?_
      refine WL.gdU rfl rfl rfl rfl rfl ?_
      refine WL.gdU rfl rfl rfl rfl rfl ?_
      refine WL.gdN rfl rfl rfl rfl rfl rfl ?_
      refine WL.pickT rfl rfl rfl ?_
      refine WL.nil ?_
      refine W.condT rfl ?_
      refine W.seq ?_
      refine W.region ?_
      refine WL.as rfl rfl ?_
      refine WL.as rfl rfl ?_
      refine WL.nil ?_
      refine W.drop 0 rfl (by repeat' first | exact FL.nil | apply FL.cons) ?_
      refine W.nb (sz := 1) ?_
      exact W.ret2 rfl rfl rfl (fun h p => rowNone hst p)
    by_cases cm : heldM n < os.length + u
    · rw [if_pos (by simp [cm])] at hst
      refine W.seq ?_
      refine W.seq ?_
      refine W.region ?_
      refine WL.mv rfl rfl ?_
      refine WL.len (T := Ty) rfl rfl (by assumption) rfl ?_
      refine WL.gtr rfl rfl rfl ?_
      refine WL.nil ?_
      refine W.condpT rfl (by omega) ?_
      refine W.skip ?_
      refine W.block ?_
      refine W.seq ?_
      refine W.region ?_
      refine WL.mv rfl rfl ?_
      refine WL.callV rfl rfl (fun x p d => rget_e _ _ _ (by first | assumption | exact ROs.wide (by assumption) | exact ROs.mono (by assumption) (eqh_at 0 rfl p d) | exact ros_at 0 rfl p d | exact ros_at 1 rfl p d | exact ros_at 2 rfl p d | exact ros_at 3 rfl p d | exact ros_at 4 rfl p d) (by assumption) (by first | assumption) (by first | assumption | omega)) ?_
      refine WL.mv rfl rfl ?_
      refine WL.extL rfl rfl rfl ?_
      refine WL.extL rfl rfl rfl ?_
      refine WL.as rfl rfl ?_
      refine WL.as rfl rfl ?_
      refine WL.nil ?_
      refine W.seq ?_
      refine W.region ?_
      refine WL.mv rfl rfl ?_
      refine WL.mv rfl rfl ?_
      refine WL.slDn (T := Ty) rfl rfl rfl rfl rfl (by first | assumption | exact ROs.wide (by assumption)) (by first | assumption | omega | (simp; omega)) (fun u3 hu3 ru3 => ?_)
      refine WL.as rfl rfl ?_
      refine WL.nil ?_
      refine W.seq ?_
      refine W.region ?_
      refine WL.mv rfl rfl ?_
      refine WL.callV rfl rfl (fun x p d => rget_e _ _ _ (by first | assumption | exact ROs.wide (by assumption) | exact ROs.mono (by assumption) (eqh_at 0 rfl p d) | exact ros_at 0 rfl p d | exact ros_at 1 rfl p d | exact ros_at 2 rfl p d | exact ros_at 3 rfl p d | exact ros_at 4 rfl p d) (by assumption) (by first | assumption) (by first | assumption | omega)) ?_
      refine WL.mv rfl rfl ?_
      refine WL.extL rfl rfl rfl ?_
      refine WL.extL rfl rfl rfl ?_
      refine WL.as rfl rfl ?_
      refine WL.as rfl rfl ?_
      refine WL.nil ?_
      refine W.seq ?_
      refine W.region ?_
      refine WL.mv rfl rfl ?_
      refine WL.mv rfl rfl ?_
      refine WL.slDn (T := Ty) rfl rfl rfl rfl rfl (by first | assumption | exact ROs.wide (by assumption)) (by first | assumption | omega | (simp; omega)) (fun u4 hu4 ru4 => ?_)
      refine WL.as rfl rfl ?_
      refine WL.nil ?_
      refine W.seq ?_
      refine W.seq ?_
      refine W.region ?_
      refine WL.mv rfl rfl ?_
      refine WL.eql rfl rfl rfl ?_
      refine WL.mv rfl rfl ?_
      refine WL.gF rfl rfl (by omega) ?_
      refine WL.mv rfl rfl ?_
      refine WL.gF rfl rfl (by omega) ?_
      refine WL.eql rfl rfl rfl ?_
      refine WL.pickFp rfl rfl (by omega) rfl ?_
      refine WL.mv rfl rfl ?_
      refine WL.gF rfl rfl (by omega) ?_
      refine WL.mv rfl rfl ?_
      refine WL.gF rfl rfl (by omega) ?_
      refine WL.eql rfl rfl rfl ?_
      refine WL.pickFp rfl rfl (by omega) rfl ?_
      refine WL.mv rfl rfl ?_
      refine WL.gF rfl rfl (by omega) ?_
      refine WL.mv rfl rfl ?_
      refine WL.gF rfl rfl (by omega) ?_
      refine WL.mv rfl rfl ?_
      refine WL.gF rfl rfl (by omega) ?_
      refine WL.mv rfl rfl ?_
      refine WL.gF rfl rfl (by omega) ?_
      refine WL.len (T := Ty) rfl rfl (by assumption) rfl ?_
      refine WL.gF rfl rfl (by omega) ?_
      refine WL.subK rfl rfl rfl (wrap_i64 ⟨by omega, by omega⟩) ?_
      refine WL.gF rfl rfl (by omega) ?_
      refine WL.cvK (T := Ty) rfl rfl rfl rfl (wrap_u64 ⟨by omega, by omega⟩) ?_
      refine WL.gF rfl rfl (by omega) ?_
      refine WL.gtr rfl rfl rfl ?_
      refine WL.pickFp rfl rfl (by omega) rfl ?_
      refine WL.mv rfl rfl ?_
      refine WL.gdFn rfl rfl rfl rfl rfl (by omega) ?_
      refine WL.gdFn rfl rfl rfl rfl rfl (by omega) ?_
      refine WL.gdFn rfl rfl rfl rfl rfl (by omega) ?_
      refine WL.gdFn rfl rfl rfl rfl rfl (by omega) ?_
      refine WL.gdU rfl rfl rfl rfl rfl ?_
      refine WL.gdU rfl rfl rfl rfl rfl ?_
      refine WL.gdU rfl rfl rfl rfl rfl ?_
      refine WL.gdU rfl rfl rfl rfl rfl ?_
      refine WL.gdU rfl rfl rfl rfl rfl ?_
      refine WL.gdU rfl rfl rfl rfl rfl ?_
      refine WL.gdU rfl rfl rfl rfl rfl ?_
      refine WL.gdU rfl rfl rfl rfl rfl ?_
      refine WL.gdFn rfl rfl rfl rfl rfl (by omega) ?_
      refine WL.pickTp rfl rfl (by omega) rfl ?_
      refine WL.nil ?_
      refine W.condT rfl ?_
      refine W.seq ?_
      refine W.region ?_
      refine WL.as rfl rfl ?_
      refine WL.as rfl rfl ?_
      refine WL.nil ?_
      refine W.drop 0 rfl (by repeat' first | exact FL.nil | apply FL.cons) ?_
      refine W.nb (sz := 1) ?_
      exact W.ret2 rfl rfl rfl (fun h p => rowNone hst p)
    have hcase : (os.length = 0 ∧ os.getLast? ≠ some x) ∨ (∃ y, y ≠ x ∧ 0 < os.length ∧ (os.map ucell)[os.length - 1]? = some (ucell y) ∧ os.getLast? ≠ some x) ∨ (0 < os.length ∧ (os.map ucell)[os.length - 1]? = some (ucell x) ∧ os.getLast? = some x) := by
      rw [List.getLast?_eq_getElem?]
      by_cases c0 : os.length = 0
      · left
        refine ⟨c0, ?_⟩
        rw [List.getElem?_eq_none (by omega)]
        simp
      · right
        have hg := List.getElem?_eq_getElem (show os.length - 1 < os.length by omega)
        by_cases hy : os[os.length - 1] = x
        · right
          exact ⟨by omega, by rw [List.getElem?_map, hg, hy]; rfl, by rw [hg, hy]⟩
        · left
          exact ⟨_, hy, by omega, by rw [List.getElem?_map, hg]; rfl, by rw [hg]; simpa using hy⟩
    rcases hcase with ⟨c0, hq⟩ | ⟨y, hy, c0, hlast, hq⟩ | ⟨c0, hlast, hq⟩
    iterate 2
      · rw [if_neg (by simp [ci, ck, cu, cm, hq])] at hst
        first
          | (refine W.seq ?_; refine W.seq ?_; refine W.region ?_; refine WL.mv rfl rfl ?_; refine WL.len (T := Ty) rfl rfl (by assumption) rfl ?_; refine WL.gtr rfl rfl rfl ?_; refine WL.nil ?_; refine W.condpT rfl (by omega) ?_; refine W.skip ?_; refine W.block ?_; refine W.seq ?_; refine W.region ?_; refine WL.mv rfl rfl ?_; refine WL.callV rfl rfl (fun x p d => rget_e _ _ _ (by first | assumption | exact ROs.wide (by assumption) | exact ROs.mono (by assumption) (eqh_at 0 rfl p d) | exact ros_at 0 rfl p d | exact ros_at 1 rfl p d | exact ros_at 2 rfl p d | exact ros_at 3 rfl p d | exact ros_at 4 rfl p d) (by assumption) (by first | assumption) (by first | assumption | omega)) ?_; refine WL.mv rfl rfl ?_; refine WL.extL rfl rfl rfl ?_; refine WL.extL rfl rfl rfl ?_; refine WL.as rfl rfl ?_; refine WL.as rfl rfl ?_; refine WL.nil ?_; refine W.seq ?_; refine W.region ?_; refine WL.mv rfl rfl ?_; refine WL.mv rfl rfl ?_; refine WL.slDn (T := Ty) rfl rfl rfl rfl rfl (by first | assumption | exact ROs.wide (by assumption)) (by first | assumption | omega | (simp; omega)) (fun u3 hu3 ru3 => ?_); refine WL.as rfl rfl ?_; refine WL.nil ?_; refine W.seq ?_; refine W.region ?_; refine WL.mv rfl rfl ?_; refine WL.callV rfl rfl (fun x p d => rget_e _ _ _ (by first | assumption | exact ROs.wide (by assumption) | exact ROs.mono (by assumption) (eqh_at 0 rfl p d) | exact ros_at 0 rfl p d | exact ros_at 1 rfl p d | exact ros_at 2 rfl p d | exact ros_at 3 rfl p d | exact ros_at 4 rfl p d) (by assumption) (by first | assumption) (by first | assumption | omega)) ?_; refine WL.mv rfl rfl ?_; refine WL.extL rfl rfl rfl ?_; refine WL.extL rfl rfl rfl ?_; refine WL.as rfl rfl ?_; refine WL.as rfl rfl ?_; refine WL.nil ?_; refine W.seq ?_; refine W.region ?_; refine WL.mv rfl rfl ?_; refine WL.mv rfl rfl ?_; refine WL.slDn (T := Ty) rfl rfl rfl rfl rfl (by first | assumption | exact ROs.wide (by assumption)) (by first | assumption | omega | (simp; omega)) (fun u4 hu4 ru4 => ?_); refine WL.as rfl rfl ?_; refine WL.nil ?_; refine W.seq ?_; refine W.seq ?_; refine W.region ?_; refine WL.mv rfl rfl ?_; refine WL.eql rfl rfl rfl ?_; refine WL.mv rfl rfl ?_; refine WL.gF rfl rfl (by omega) ?_; refine WL.mv rfl rfl ?_; refine WL.gF rfl rfl (by omega) ?_; refine WL.eql rfl rfl rfl ?_; refine WL.pickFp rfl rfl (by omega) rfl ?_; refine WL.mv rfl rfl ?_; refine WL.gF rfl rfl (by omega) ?_; refine WL.mv rfl rfl ?_; refine WL.gF rfl rfl (by omega) ?_; refine WL.eql rfl rfl rfl ?_; refine WL.pickFp rfl rfl (by omega) rfl ?_; refine WL.mv rfl rfl ?_; refine WL.gF rfl rfl (by omega) ?_; refine WL.mv rfl rfl ?_; refine WL.gF rfl rfl (by omega) ?_; refine WL.mv rfl rfl ?_; refine WL.gF rfl rfl (by omega) ?_; refine WL.mv rfl rfl ?_; refine WL.gF rfl rfl (by omega) ?_; refine WL.len (T := Ty) rfl rfl (by assumption) rfl ?_; refine WL.gF rfl rfl (by omega) ?_; refine WL.subK rfl rfl rfl (wrap_i64 ⟨by omega, by omega⟩) ?_; refine WL.gF rfl rfl (by omega) ?_; refine WL.cvK (T := Ty) rfl rfl rfl rfl (wrap_u64 ⟨by omega, by omega⟩) ?_; refine WL.gF rfl rfl (by omega) ?_; refine WL.gtr rfl rfl rfl ?_; refine WL.pickFp rfl rfl (by omega) rfl ?_; refine WL.mv rfl rfl ?_; refine WL.gF rfl rfl (by omega) ?_; refine WL.mv rfl rfl ?_; refine WL.gF rfl rfl (by omega) ?_; refine WL.len (T := Ty) rfl rfl (by assumption) rfl ?_; refine WL.gF rfl rfl (by omega) ?_; refine WL.gtr rfl rfl rfl ?_; refine WL.gF rfl rfl (by omega) ?_; refine WL.mv rfl rfl ?_; refine WL.gT rfl rfl (by omega) ?_; refine WL.mv rfl rfl ?_; refine WL.gT rfl rfl (by omega) ?_; refine WL.mv rfl rfl ?_; refine WL.gT rfl rfl (by omega) ?_; refine WL.len (T := Ty) rfl rfl (by assumption) rfl ?_; refine WL.gT rfl rfl (by omega) ?_; refine WL.subK rfl rfl rfl (wrap_i64 ⟨by omega, by omega⟩) ?_; refine WL.gT rfl rfl (by omega) ?_; refine WL.ix (T := Ty) rfl rfl rfl (by assumption) rfl rfl (by omega) (by first | omega | decide +kernel) ?_; refine WL.gT rfl rfl (by omega) ?_; refine WL.ldEK (T := Ty) (j := 0) rfl rfl rfl rfl rfl (by assumption) (by omega) ?_; refine WL.gT rfl rfl (by omega) ?_; refine WL.mv rfl rfl ?_; refine WL.gT rfl rfl (by omega) ?_; refine WL.eql rfl rfl rfl ?_; refine WL.gF rfl rfl (by omega) ?_; refine WL.pickTp rfl rfl (by omega) rfl ?_; refine WL.pickFp rfl rfl (by omega) rfl ?_; refine WL.nil ?_; refine W.condpF rfl (by omega) ?_; refine W.skip ?_; refine W.block ?_)
          | (refine W.seq ?_; refine W.seq ?_; refine W.region ?_; refine WL.mv rfl rfl ?_; refine WL.len (T := Ty) rfl rfl (by assumption) rfl ?_; refine WL.gtr rfl rfl rfl ?_; refine WL.nil ?_; refine W.condpT rfl (by omega) ?_; refine W.skip ?_; refine W.block ?_; refine W.seq ?_; refine W.region ?_; refine WL.mv rfl rfl ?_; refine WL.callV rfl rfl (fun x p d => rget_e _ _ _ (by first | assumption | exact ROs.wide (by assumption) | exact ROs.mono (by assumption) (eqh_at 0 rfl p d) | exact ros_at 0 rfl p d | exact ros_at 1 rfl p d | exact ros_at 2 rfl p d | exact ros_at 3 rfl p d | exact ros_at 4 rfl p d) (by assumption) (by first | assumption) (by first | assumption | omega)) ?_; refine WL.mv rfl rfl ?_; refine WL.extL rfl rfl rfl ?_; refine WL.extL rfl rfl rfl ?_; refine WL.as rfl rfl ?_; refine WL.as rfl rfl ?_; refine WL.nil ?_; refine W.seq ?_; refine W.region ?_; refine WL.mv rfl rfl ?_; refine WL.mv rfl rfl ?_; refine WL.slDn (T := Ty) rfl rfl rfl rfl rfl (by first | assumption | exact ROs.wide (by assumption)) (by first | assumption | omega | (simp; omega)) (fun u3 hu3 ru3 => ?_); refine WL.as rfl rfl ?_; refine WL.nil ?_; refine W.seq ?_; refine W.region ?_; refine WL.mv rfl rfl ?_; refine WL.callV rfl rfl (fun x p d => rget_e _ _ _ (by first | assumption | exact ROs.wide (by assumption) | exact ROs.mono (by assumption) (eqh_at 0 rfl p d) | exact ros_at 0 rfl p d | exact ros_at 1 rfl p d | exact ros_at 2 rfl p d | exact ros_at 3 rfl p d | exact ros_at 4 rfl p d) (by assumption) (by first | assumption) (by first | assumption | omega)) ?_; refine WL.mv rfl rfl ?_; refine WL.extL rfl rfl rfl ?_; refine WL.extL rfl rfl rfl ?_; refine WL.as rfl rfl ?_; refine WL.as rfl rfl ?_; refine WL.nil ?_; refine W.seq ?_; refine W.region ?_; refine WL.mv rfl rfl ?_; refine WL.mv rfl rfl ?_; refine WL.slDn (T := Ty) rfl rfl rfl rfl rfl (by first | assumption | exact ROs.wide (by assumption)) (by first | assumption | omega | (simp; omega)) (fun u4 hu4 ru4 => ?_); refine WL.as rfl rfl ?_; refine WL.nil ?_; refine W.seq ?_; refine W.seq ?_; refine W.region ?_; refine WL.mv rfl rfl ?_; refine WL.eql rfl rfl rfl ?_; refine WL.mv rfl rfl ?_; refine WL.gF rfl rfl (by omega) ?_; refine WL.mv rfl rfl ?_; refine WL.gF rfl rfl (by omega) ?_; refine WL.eql rfl rfl rfl ?_; refine WL.pickFp rfl rfl (by omega) rfl ?_; refine WL.mv rfl rfl ?_; refine WL.gF rfl rfl (by omega) ?_; refine WL.mv rfl rfl ?_; refine WL.gF rfl rfl (by omega) ?_; refine WL.eql rfl rfl rfl ?_; refine WL.pickFp rfl rfl (by omega) rfl ?_; refine WL.mv rfl rfl ?_; refine WL.gF rfl rfl (by omega) ?_; refine WL.mv rfl rfl ?_; refine WL.gF rfl rfl (by omega) ?_; refine WL.mv rfl rfl ?_; refine WL.gF rfl rfl (by omega) ?_; refine WL.mv rfl rfl ?_; refine WL.gF rfl rfl (by omega) ?_; refine WL.len (T := Ty) rfl rfl (by assumption) rfl ?_; refine WL.gF rfl rfl (by omega) ?_; refine WL.subK rfl rfl rfl (wrap_i64 ⟨by omega, by omega⟩) ?_; refine WL.gF rfl rfl (by omega) ?_; refine WL.cvK (T := Ty) rfl rfl rfl rfl (wrap_u64 ⟨by omega, by omega⟩) ?_; refine WL.gF rfl rfl (by omega) ?_; refine WL.gtr rfl rfl rfl ?_; refine WL.pickFp rfl rfl (by omega) rfl ?_; refine WL.mv rfl rfl ?_; refine WL.gF rfl rfl (by omega) ?_; refine WL.mv rfl rfl ?_; refine WL.gF rfl rfl (by omega) ?_; refine WL.len (T := Ty) rfl rfl (by assumption) rfl ?_; refine WL.gF rfl rfl (by omega) ?_; refine WL.gtr rfl rfl rfl ?_; refine WL.gF rfl rfl (by omega) ?_; refine WL.mv rfl rfl ?_; refine WL.gdTn rfl rfl rfl rfl rfl (by omega) ?_; refine WL.gdTn rfl rfl rfl rfl rfl (by omega) ?_; refine WL.gdTn rfl rfl rfl rfl rfl (by omega) ?_; refine WL.gdTn rfl rfl rfl rfl rfl (by omega) ?_; refine WL.gdTn rfl rfl rfl rfl rfl (by omega) ?_; refine WL.gdTn rfl rfl rfl rfl rfl (by omega) ?_; refine WL.gdTn rfl rfl rfl rfl rfl (by omega) ?_; refine WL.gdTn rfl rfl rfl rfl rfl (by omega) ?_; refine WL.gF rfl rfl (by omega) ?_; refine WL.pickFp rfl rfl (by omega) rfl ?_; refine WL.pickFp rfl rfl (by omega) rfl ?_; refine WL.nil ?_; refine W.condF rfl ?_; refine W.skip ?_; refine W.block ?_)
        refine W.loopS (σ := Nat × Value) (fun s => [(1, .int .i64 (min (max n 0) 65535)), (6, u4), (7, s.2), (8, .int .u64 ((u : Int) - (s.1 : Int))), (10, .int .u64 (x : Int))]) (fun s => [Buf 1 s.2 ((os ++ List.replicate s.1 x).map ucell)])
          (fun s => s.1 ≤ u) (fun s => u - s.1) (0, o) ⟨rfl, rfl, rfl, by show some (Value.int .u64 (u : Int)) = some (Value.int .u64 ((u : Int) - ((0 : Nat) : Int))); rw [show ((0 : Nat) : Int) = 0 from rfl, Int.sub_zero], rfl, trivial⟩ (by simp) (Nat.zero_le _) ?_
        rintro ⟨j, oo⟩ hj next2
        simp only [] at hj next2 ⊢
        refine W.fact (i := 0) rfl (fun h hb => Buf.slm hb) (fun hsoo => ?_)
        refine W.seq ?_
        refine W.seq ?_
        refine W.region ?_
        refine WL.mv rfl rfl ?_
        refine WL.gtr rfl rfl rfl ?_
        refine WL.nil ?_
        refine W.condp rfl (fun hlt => ?_) (fun hge => ?_)
        · have hol : (os ++ List.replicate j x).length ≤ 65535 := by simp; omega
          refine W.skip ?_
          refine W.seq ?_
          refine W.block ?_
          refine W.region ?_
          refine WL.mv rfl rfl ?_
          refine WL.mv rfl rfl ?_
          refine WL.bsC (T := Ty) rfl rfl rfl rfl rfl rfl rfl (by repeat' first | exact CO.nil | apply CO.one (by first | rfl | exact SL.one (by assumption)) | apply CO.agg) rfl (by repeat' first | exact FL.nil | apply FL.cons) (fun u5 hu5 => ?_)
          refine WL.ap1 (T := Ty) (i := 0) rfl rfl rfl rfl rfl rfl rfl rfl (by assumption) (by first | rfl | assumption) (by first | omega | (simp; omega)) (by first | omega | (simp; omega)) (fun v' => (by repeat' first | exact FL.nil | apply FL.cons)) (fun u6 hu6 => ?_)
          refine WL.as rfl rfl ?_
          refine WL.nil ?_
          refine W.inBlock ?_
          refine W.region ?_
          refine WL.mv rfl rfl ?_
          refine WL.subK rfl rfl rfl (wrap_u64 ⟨by omega, by omega⟩) ?_
          refine WL.as rfl rfl ?_
          refine WL.nil ?_
          refine W.sub ?_ (W.hs (fun h p => ?_) (next2 ⟨j + 1, u6⟩ (by simp only []; omega) (by simp only []; omega)))
          · exact ⟨rfl, rfl, rfl, by simp [look, ev]; omega, rfl, trivial⟩
          · rw [List.replicate_succ', ← List.append_assoc, List.map_append]
            exact p
        · have hju : j = u := by omega
          subst hju
          refine W.exit rfl ?_
          refine W.inBlock ?_
          refine W.sub ?_ (next ⟨(ws.drop i).drop k, u4, oo, os ++ List.replicate j x⟩ ⟨by assumption, by rw [List.drop_drop]; exact hst.symm, by simp; omega, fun y hy => h4 y (List.mem_of_mem_drop (List.mem_of_mem_drop hy)), by simp; omega⟩ (by simp; omega))
          exact ⟨rfl, rfl, rfl, trivial⟩
    · rw [if_pos (by simp [hq])] at hst
      refine W.seq ?_
      refine W.seq ?_
      refine W.region ?_
      refine WL.mv rfl rfl ?_
      refine WL.len (T := Ty) rfl rfl (by assumption) rfl ?_
      refine WL.gtr rfl rfl rfl ?_
      refine WL.nil ?_
      refine W.condpT rfl (by omega) ?_
      refine W.skip ?_
      refine W.block ?_
      refine W.seq ?_
      refine W.region ?_
      refine WL.mv rfl rfl ?_
      refine WL.callV rfl rfl (fun x p d => rget_e _ _ _ (by first | assumption | exact ROs.wide (by assumption) | exact ROs.mono (by assumption) (eqh_at 0 rfl p d) | exact ros_at 0 rfl p d | exact ros_at 1 rfl p d | exact ros_at 2 rfl p d | exact ros_at 3 rfl p d | exact ros_at 4 rfl p d) (by assumption) (by first | assumption) (by first | assumption | omega)) ?_
      refine WL.mv rfl rfl ?_
      refine WL.extL rfl rfl rfl ?_
      refine WL.extL rfl rfl rfl ?_
      refine WL.as rfl rfl ?_
      refine WL.as rfl rfl ?_
      refine WL.nil ?_
      refine W.seq ?_
      refine W.region ?_
      refine WL.mv rfl rfl ?_
      refine WL.mv rfl rfl ?_
      refine WL.slDn (T := Ty) rfl rfl rfl rfl rfl (by first | assumption | exact ROs.wide (by assumption)) (by first | assumption | omega | (simp; omega)) (fun u3 hu3 ru3 => ?_)
      refine WL.as rfl rfl ?_
      refine WL.nil ?_
      refine W.seq ?_
      refine W.region ?_
      refine WL.mv rfl rfl ?_
      refine WL.callV rfl rfl (fun x p d => rget_e _ _ _ (by first | assumption | exact ROs.wide (by assumption) | exact ROs.mono (by assumption) (eqh_at 0 rfl p d) | exact ros_at 0 rfl p d | exact ros_at 1 rfl p d | exact ros_at 2 rfl p d | exact ros_at 3 rfl p d | exact ros_at 4 rfl p d) (by assumption) (by first | assumption) (by first | assumption | omega)) ?_
      refine WL.mv rfl rfl ?_
      refine WL.extL rfl rfl rfl ?_
      refine WL.extL rfl rfl rfl ?_
      refine WL.as rfl rfl ?_
      refine WL.as rfl rfl ?_
      refine WL.nil ?_
      refine W.seq ?_
      refine W.region ?_
      refine WL.mv rfl rfl ?_
      refine WL.mv rfl rfl ?_
      refine WL.slDn (T := Ty) rfl rfl rfl rfl rfl (by first | assumption | exact ROs.wide (by assumption)) (by first | assumption | omega | (simp; omega)) (fun u4 hu4 ru4 => ?_)
      refine WL.as rfl rfl ?_
      refine WL.nil ?_
      refine W.seq ?_
      refine W.seq ?_
      refine W.region ?_
      refine WL.mv rfl rfl ?_
      refine WL.eql rfl rfl rfl ?_
      refine WL.mv rfl rfl ?_
      refine WL.gF rfl rfl (by omega) ?_
      refine WL.mv rfl rfl ?_
      refine WL.gF rfl rfl (by omega) ?_
      refine WL.eql rfl rfl rfl ?_
      refine WL.pickFp rfl rfl (by omega) rfl ?_
      refine WL.mv rfl rfl ?_
      refine WL.gF rfl rfl (by omega) ?_
      refine WL.mv rfl rfl ?_
      refine WL.gF rfl rfl (by omega) ?_
      refine WL.eql rfl rfl rfl ?_
      refine WL.pickFp rfl rfl (by omega) rfl ?_
      refine WL.mv rfl rfl ?_
      refine WL.gF rfl rfl (by omega) ?_
      refine WL.mv rfl rfl ?_
      refine WL.gF rfl rfl (by omega) ?_
      refine WL.mv rfl rfl ?_
      refine WL.gF rfl rfl (by omega) ?_
      refine WL.mv rfl rfl ?_
      refine WL.gF rfl rfl (by omega) ?_
      refine WL.len (T := Ty) rfl rfl (by assumption) rfl ?_
      refine WL.gF rfl rfl (by omega) ?_
      refine WL.subK rfl rfl rfl (wrap_i64 ⟨by omega, by omega⟩) ?_
      refine WL.gF rfl rfl (by omega) ?_
      refine WL.cvK (T := Ty) rfl rfl rfl rfl (wrap_u64 ⟨by omega, by omega⟩) ?_
      refine WL.gF rfl rfl (by omega) ?_
      refine WL.gtr rfl rfl rfl ?_
      refine WL.pickFp rfl rfl (by omega) rfl ?_
      refine WL.mv rfl rfl ?_
      refine WL.gF rfl rfl (by omega) ?_
      refine WL.mv rfl rfl ?_
      refine WL.gF rfl rfl (by omega) ?_
      refine WL.len (T := Ty) rfl rfl (by assumption) rfl ?_
      refine WL.gF rfl rfl (by omega) ?_
      refine WL.gtr rfl rfl rfl ?_
      refine WL.gF rfl rfl (by omega) ?_
      refine WL.mv rfl rfl ?_
      refine WL.gT rfl rfl (by omega) ?_
      refine WL.mv rfl rfl ?_
      refine WL.gT rfl rfl (by omega) ?_
      refine WL.mv rfl rfl ?_
      refine WL.gT rfl rfl (by omega) ?_
      refine WL.len (T := Ty) rfl rfl (by assumption) rfl ?_
      refine WL.gT rfl rfl (by omega) ?_
      refine WL.subK rfl rfl rfl (wrap_i64 ⟨by omega, by omega⟩) ?_
      refine WL.gT rfl rfl (by omega) ?_
      refine WL.ix (T := Ty) rfl rfl rfl (by assumption) rfl rfl (by omega) (by first | omega | decide +kernel) ?_
      refine WL.gT rfl rfl (by omega) ?_
      refine WL.ldEK (T := Ty) (j := 0) rfl rfl rfl rfl rfl (by assumption) (by omega) ?_
      refine WL.gT rfl rfl (by omega) ?_
      refine WL.mv rfl rfl ?_
      refine WL.gT rfl rfl (by omega) ?_
      refine WL.eql rfl rfl rfl ?_
      refine WL.gF rfl rfl (by omega) ?_
      refine WL.pickTp rfl rfl (by omega) rfl ?_
      refine WL.pickFp rfl rfl (by omega) rfl ?_
      refine WL.nil ?_
      refine W.condpT rfl (by omega) ?_
      refine W.seq ?_
      refine W.region ?_
      refine WL.as rfl rfl ?_
      refine WL.as rfl rfl ?_
      refine WL.nil ?_
      refine W.drop 0 rfl (by repeat' first | exact FL.nil | apply FL.cons) ?_
      refine W.nb (sz := 1) ?_
      exact W.ret2 rfl rfl rfl (fun h p => rowNone hst p)
theorem rgetruns_e (ρ : Hp) (v : Value) (bs : List Nat) (n : Int) {o : Option (List Nat)} (hv : ROs ρ 1 v (bs.map bcell)) (e : decR bs n = o) (hw : ∀ x ∈ bs, x < 256) (hl : bs.length ≤ 140737488355328) :
    Fn Try.prog 28 #[v, .int .i64 n] ρ [] (RowR o) := by
  rw [← e]
  exact rgetruns_c ρ v bs n hv hw hl
theorem rgetruns_s (ρ : Hp) (v : Value) (bs : List Nat) (n : Int) {vs : List Nat} (hv : ROs ρ 1 v (bs.map bcell)) (e : decR bs n = some vs) (hw : ∀ x ∈ bs, x < 256) (hl : bs.length ≤ 140737488355328) :
    Fn Try.prog 28 #[v, .int .i64 n] ρ [] (fun r h => ∃ v, r = .tuple #[v, .bool true] ∧ Buf 1 v (vs.map ucell) h) := rgetruns_e ρ v bs n hv e hw hl
theorem rgetruns_n (ρ : Hp) (v : Value) (bs : List Nat) (n : Int) (hv : ROs ρ 1 v (bs.map bcell)) (e : decR bs n = none) (hw : ∀ x ∈ bs, x < 256) (hl : bs.length ≤ 140737488355328) :
    Fn Try.prog 28 #[v, .int .i64 n] ρ [] (fun r h => ∃ v, r = .tuple #[v, .bool false] ∧ Buf 1 v (([] : List Nat).map ucell) h) := rgetruns_e ρ v bs n hv e hw hl
end Go.Proofs.Ytlmhjkbbooghfaa
