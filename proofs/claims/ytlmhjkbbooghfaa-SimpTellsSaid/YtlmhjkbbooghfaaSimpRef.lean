/- Small numbers, many to a word: what the document's own code does. -/
import Derived.Test.YtlmhjkbbooghfaaStc
import Derived.Test.YtlmhjkbbooghfaaNum
import Derived.Test.YtlmhjkbbooghfaaTab
import Derived.Test.YtlmhjkbbooghfaaSimpRef1
import Derived.Test.YtlmhjkbbooghfaaSimpLaw2
import Derived.Test.YtlmhjkbbooghfaaSimpD
import Derived.Test.YtlmhjkbbooghfaaSameW
set_option linter.unusedSimpArgs false
set_option linter.unusedVariables false
set_option maxRecDepth 20000
set_option maxHeartbeats 4000000
namespace Go.Proofs.Ytlmhjkbbooghfaa
open Go
attribute [local irreducible] W WL Fn Buf ROs SL eptr box Rd Src bndOK WD RB Reads In encS decS decSF bits

theorem bitS_zero : ∀ i : Fin 16, bitS i.val = 0 ↔ i.val < 2 := by decide
-- CALL 62 refine WL.callV rfl rfl (fun x p d => rfits_e _ _ _ _ (by assumption) $RO (by first | assumption | omega) (by first | assumption | omega) (by first | assumption | omega)) ?_
-- CALL 62 refine WL.callV rfl rfl (fun x p d => rfits_c _ _ _ _ $RO (by first | assumption | omega) (by first | assumption | omega) (by first | assumption | omega)) ?_
theorem rfits_c (ρ : Hp) (i : Nat) (v : Value) (us : List Nat) (hv : ROs ρ 1 v (us.map ucell)) (hi : i < 16) (hw : ∀ x ∈ us, x < 18446744073709551616) (hl : us.length ≤ 17592186044416) :
    Fn Try.prog 62 #[v, .int .i64 (i : Int)] ρ [] (Just (.bool (fitsS us i))) := by
  refine in62 rfl rfl ?_
  have sv := hv.slm
  have hf := kind_facts ⟨i, hi⟩
  have hz := bitS_zero ⟨i, hi⟩
  simp only [] at hf hz
  by_cases c0 : i < 2 ∧ us.length < cntS i
  · have hno : fitsS us i = false := by
      unfold fitsS
      rw [decide_eq_false (by omega : ¬ bitS i ≠ 0), decide_eq_false (by omega : ¬ cntS i ≤ us.length)]
      rfl
    rw [hno]
    obtain ⟨c1, c2⟩ := c0
    refine W.seq ?_
    refine W.region ?_
    refine WL.as rfl rfl ?_
    refine WL.nil ?_
    refine W.seq ?_
    refine W.seq ?_
    refine W.region ?_
    refine WL.mv rfl rfl ?_
    refine WL.lss rfl rfl rfl ?_
    refine WL.mv rfl rfl ?_
    refine WL.gT rfl rfl (by omega) ?_
    refine WL.mv rfl rfl ?_
    refine WL.gT rfl rfl (by omega) ?_
    refine WL.len (T := Ty) rfl rfl (by assumption) rfl ?_
    refine WL.gT rfl rfl (by omega) ?_
    refine WL.mv rfl rfl ?_
    refine WL.gT rfl rfl (by omega) ?_
    refine WL.callV rfl rfl (fun x p d => rnum_c _ _ (by first | assumption | omega)) ?_
    refine WL.gT rfl rfl (by omega) ?_
    refine WL.lss rfl rfl rfl ?_
    refine WL.pickTp rfl rfl (by omega) rfl ?_
    refine WL.nil ?_
    refine W.condpT rfl (by omega) ?_
    refine W.seq ?_
    refine W.region ?_
    refine WL.as rfl rfl ?_
    refine WL.nil ?_
    exact W.ret1 rfl rfl (fun h p => ⟨rfl, p⟩)
  · have hpre : (decide (bitS i ≠ 0) || decide (cntS i ≤ us.length)) = true := by
      by_cases h0 : i < 2
      · simp; omega
      · simp; omega
    by_cases cb : i < 2
    · refine W.seq ?_
      refine W.region ?_
      refine WL.as rfl rfl ?_
      refine WL.nil ?_
      refine W.seq ?_
      refine W.seq ?_
      refine W.region ?_
      refine WL.mv rfl rfl ?_
      refine WL.lss rfl rfl rfl ?_
      refine WL.mv rfl rfl ?_
      refine WL.gT rfl rfl (by omega) ?_
      refine WL.mv rfl rfl ?_
      refine WL.gT rfl rfl (by omega) ?_
      refine WL.len (T := Ty) rfl rfl (by assumption) rfl ?_
      refine WL.gT rfl rfl (by omega) ?_
      refine WL.mv rfl rfl ?_
      refine WL.gT rfl rfl (by omega) ?_
      refine WL.callV rfl rfl (fun x p d => rnum_c _ _ (by first | assumption | omega)) ?_
      refine WL.gT rfl rfl (by omega) ?_
      refine WL.lss rfl rfl rfl ?_
      refine WL.pickTp rfl rfl (by omega) rfl ?_
      refine WL.nil ?_
      refine W.condpF rfl (by omega) ?_
      refine W.skip ?_
      refine W.seq ?_
      refine W.seq ?_
      refine W.region ?_
      refine WL.as rfl rfl ?_
      refine WL.nil ?_
      refine W.block ?_
      refine W.loopS (σ := Nat) (fun j => [(0, v), (1, .int .i64 (i : Int)), (5, .int .i64 (j : Int))]) (fun _ => []) (fun j => j ≤ us.length ∧ j ≤ cntS i ∧ ∀ x ∈ us.take j, x < 2 ^ bitS i) (fun j => us.length - j) 0 ⟨rfl, rfl, rfl, trivial⟩ rfl ⟨Nat.zero_le _, Nat.zero_le _, by simp⟩ ?_
      intro j ⟨hj, hjc, ha⟩ next
      rcases (by omega : (j < us.length ∧ j < cntS i) ∨ (j < us.length ∧ ¬ j < cntS i) ∨ ¬ j < us.length) with ⟨hc1, hc2⟩ | ⟨hc1, hc2⟩ | hc1
      · obtain ⟨x, hx⟩ : ∃ x, us[j]? = some x := ⟨_, List.getElem?_eq_getElem hc1⟩
        have hx1 : (us.map ucell)[j]? = some (ucell x) := by rw [List.getElem?_map, hx]; rfl
        have hx64 := hw x (List.mem_of_getElem? hx)
        have hp : 0 < 2 ^ bitS i := Nat.pow_pos (by decide)
        have e2 : min ((bitS i : Nat) : Int).toNat IntKind.u64.bits = bitS i := by
          rw [Int.toNat_natCast]
          exact Nat.min_eq_left (by show _ ≤ 64; omega)
        have ex : ((x : Int) / 2 ^ min ((bitS i : Nat) : Int).toNat IntKind.u64.bits) = ((x / 2 ^ bitS i : Nat) : Int) := by rw [e2]; push_cast; rfl
        by_cases hb : x < 2 ^ bitS i
        · have hz0 : ¬ ¬ ((x : Int) / 2 ^ min ((bitS i : Nat) : Int).toNat IntKind.u64.bits) = 0 := by
            rw [ex, Nat.div_eq_of_lt hb]; simp
          refine W.seq ?_
          refine W.seq ?_
          refine W.region ?_
          refine WL.mv rfl rfl ?_
          refine WL.mv rfl rfl ?_
          refine WL.len (T := Ty) rfl rfl (by assumption) rfl ?_
          refine WL.lss rfl rfl rfl ?_
          refine WL.mv rfl rfl ?_
          refine WL.gT rfl rfl (by omega) ?_
          refine WL.mv rfl rfl ?_
          refine WL.gT rfl rfl (by omega) ?_
          refine WL.mv rfl rfl ?_
          refine WL.gT rfl rfl (by omega) ?_
          refine WL.callV rfl rfl (fun x p d => rnum_c _ _ (by first | assumption | omega)) ?_
          refine WL.gT rfl rfl (by omega) ?_
          refine WL.lss rfl rfl rfl ?_
          refine WL.pickTp rfl rfl (by omega) rfl ?_
          refine WL.nil ?_
          refine W.condpT rfl (by omega) ?_
          refine W.skip ?_
          refine W.seq ?_
          refine W.block ?_
          refine W.seq ?_
          refine W.drawA 9 rfl (fun σ0 hσ0 dσ0 => ?_)
          refine WD.takeL 0 rfl (by decide +kernel) ?_
          refine WL.mv rfl rfl ?_
          refine WL.nilT ?_
          refine WD.takeL 1 rfl (by decide +kernel) ?_
          refine WL.mv rfl rfl ?_
          refine WL.nilT ?_
          refine WD.takeL 2 rfl (by decide +kernel) ?_
          refine WL.ix (T := Ty) rfl rfl rfl (by assumption) rfl rfl (by omega) (by first | omega | decide +kernel) ?_
          refine WL.nilT ?_
          refine WD.takeL 3 rfl (by decide +kernel) ?_
          refine WL.ldKn (T := Ty) rfl rfl rfl rfl (by first | assumption | exact ROs.wide (by assumption)) (by assumption) ?_
          refine WL.nilT ?_
          refine WD.takeL 4 rfl (by decide +kernel) ?_
          refine WL.mv rfl rfl ?_
          refine WL.nilT ?_
          refine WD.oneL 5 rfl (by decide +kernel) ?_
          refine WL.callV rfl rfl (fun x p d => rbits_c _ _ (by first | assumption | omega)) ?_
          refine WL.nilE ?_
          refine WD.takeL 6 rfl (by decide +kernel) ?_
          refine WL.cvK (T := Ty) rfl rfl rfl rfl (wrap_u64 ⟨by omega, by omega⟩) ?_
          refine WL.nilT ?_
          refine WD.takeL 7 rfl (by decide +kernel) ?_
          refine WL.shrS rfl rfl rfl (by omega) rfl ?_
          refine WL.nilT ?_
          refine WD.takeL 8 rfl (by decide +kernel) ?_
          refine WL.neq rfl rfl rfl ?_
          refine WL.nilT ?_
          refine WD.doneF hσ0 (by decide +kernel) (by repeat' first | exact FL.nil | apply FL.cons) ?_
          refine W.condpF rfl (by omega) ?_
          refine W.skip ?_
          refine W.inBlock ?_
          refine W.region ?_
          refine WL.mv rfl rfl ?_
          refine WL.addK rfl rfl rfl (wrap_i64 ⟨by omega, by omega⟩) ?_
          refine WL.as rfl rfl ?_
          refine WL.nil ?_
          refine W.sub ?_ (next (j + 1) ⟨by omega, by omega, ?_⟩ (by omega))
          · exact ⟨rfl, rfl, rfl, trivial⟩
          · intro y hy
            rw [List.take_add_one, hx] at hy
            rcases List.mem_append.1 hy with h | h
            · exact ha y h
            · simp at h; rw [h]; exact hb
        · have hz0 : ¬ ((x : Int) / 2 ^ min ((bitS i : Nat) : Int).toNat IntKind.u64.bits) = 0 := by
            rw [ex]
            have := Nat.div_pos (by omega : 2 ^ bitS i ≤ x) hp
            omega
          have hno : fitsS us i = false := by
            cases hq : fitsS us i with
            | false => rfl
            | true => exact absurd (fitsS_lt hq x (List.mem_of_getElem? (i := j) (by rw [List.getElem?_take, if_pos hc2]; exact hx))) hb
          rw [hno]
          refine W.seq ?_
          refine W.seq ?_
          refine W.region ?_
          refine WL.mv rfl rfl ?_
          refine WL.mv rfl rfl ?_
          refine WL.len (T := Ty) rfl rfl (by assumption) rfl ?_
          refine WL.lss rfl rfl rfl ?_
          refine WL.mv rfl rfl ?_
          refine WL.gT rfl rfl (by omega) ?_
          refine WL.mv rfl rfl ?_
          refine WL.gT rfl rfl (by omega) ?_
          refine WL.mv rfl rfl ?_
          refine WL.gT rfl rfl (by omega) ?_
          refine WL.callV rfl rfl (fun x p d => rnum_c _ _ (by first | assumption | omega)) ?_
          refine WL.gT rfl rfl (by omega) ?_
          refine WL.lss rfl rfl rfl ?_
          refine WL.pickTp rfl rfl (by omega) rfl ?_
          refine WL.nil ?_
          refine W.condpT rfl (by omega) ?_
          refine W.skip ?_
          refine W.seq ?_
          refine W.block ?_
          refine W.seq ?_
          refine W.drawA 9 rfl (fun σ0 hσ0 dσ0 => ?_)
          refine WD.takeL 0 rfl (by decide +kernel) ?_
          refine WL.mv rfl rfl ?_
          refine WL.nilT ?_
          refine WD.takeL 1 rfl (by decide +kernel) ?_
          refine WL.mv rfl rfl ?_
          refine WL.nilT ?_
          refine WD.takeL 2 rfl (by decide +kernel) ?_
          refine WL.ix (T := Ty) rfl rfl rfl (by assumption) rfl rfl (by omega) (by first | omega | decide +kernel) ?_
          refine WL.nilT ?_
          refine WD.takeL 3 rfl (by decide +kernel) ?_
          refine WL.ldKn (T := Ty) rfl rfl rfl rfl (by first | assumption | exact ROs.wide (by assumption)) (by assumption) ?_
          refine WL.nilT ?_
          refine WD.takeL 4 rfl (by decide +kernel) ?_
          refine WL.mv rfl rfl ?_
          refine WL.nilT ?_
          refine WD.oneL 5 rfl (by decide +kernel) ?_
          refine WL.callV rfl rfl (fun x p d => rbits_c _ _ (by first | assumption | omega)) ?_
          refine WL.nilE ?_
          refine WD.takeL 6 rfl (by decide +kernel) ?_
          refine WL.cvK (T := Ty) rfl rfl rfl rfl (wrap_u64 ⟨by omega, by omega⟩) ?_
          refine WL.nilT ?_
          refine WD.takeL 7 rfl (by decide +kernel) ?_
          refine WL.shrS rfl rfl rfl (by omega) rfl ?_
          refine WL.nilT ?_
          refine WD.takeL 8 rfl (by decide +kernel) ?_
          refine WL.neq rfl rfl rfl ?_
          refine WL.nilT ?_
          refine WD.doneF hσ0 (by decide +kernel) (by repeat' first | exact FL.nil | apply FL.cons) ?_
          refine W.condpT rfl (by omega) ?_
          refine W.seq ?_
          refine W.region ?_
          refine WL.as rfl rfl ?_
          refine WL.nil ?_
          exact W.ret1 rfl rfl (fun h p => ⟨rfl, p⟩)
      · have hyes : fitsS us i = true := by
          unfold fitsS
          rw [hpre, Bool.true_and, List.all_eq_true, show cntS i = j by omega]
          exact fun x hx => decide_eq_true (ha x hx)
        rw [hyes]
        refine W.seq ?_
        refine W.seq ?_
        refine W.region ?_
        refine WL.mv rfl rfl ?_
        refine WL.mv rfl rfl ?_
        refine WL.len (T := Ty) rfl rfl (by assumption) rfl ?_
        refine WL.lss rfl rfl rfl ?_
        refine WL.mv rfl rfl ?_
        refine WL.gT rfl rfl (by omega) ?_
        refine WL.mv rfl rfl ?_
        refine WL.gT rfl rfl (by omega) ?_
        refine WL.mv rfl rfl ?_
        refine WL.gT rfl rfl (by omega) ?_
        refine WL.callV rfl rfl (fun x p d => rnum_c _ _ (by first | assumption | omega)) ?_
        refine WL.gT rfl rfl (by omega) ?_
        refine WL.lss rfl rfl rfl ?_
        refine WL.pickTp rfl rfl (by omega) rfl ?_
        refine WL.nil ?_
        refine W.condpF rfl (by omega) ?_
        refine W.exit rfl ?_
        refine W.seq ?_
        refine W.region ?_
        refine WL.as rfl rfl ?_
        refine WL.nil ?_
        exact W.ret1 rfl rfl (fun h p => ⟨rfl, p⟩)
      · have hyes : fitsS us i = true := by
          unfold fitsS
          rw [hpre, Bool.true_and, List.all_eq_true]
          intro x hx
          rw [List.take_of_length_le (by omega)] at ha hx
          exact decide_eq_true (ha x hx)
        rw [hyes]
        refine W.seq ?_
        refine W.seq ?_
        refine W.region ?_
        refine WL.mv rfl rfl ?_
        refine WL.mv rfl rfl ?_
        refine WL.len (T := Ty) rfl rfl (by assumption) rfl ?_
        refine WL.lss rfl rfl rfl ?_
        refine WL.mv rfl rfl ?_
        refine WL.gdTn rfl rfl rfl rfl rfl (by omega) ?_
        refine WL.gdTn rfl rfl rfl rfl rfl (by omega) ?_
        refine WL.gdTn rfl rfl rfl rfl rfl (by omega) ?_
        refine WL.gdTn rfl rfl rfl rfl rfl (by omega) ?_
        refine WL.pickFp rfl rfl (by omega) rfl ?_
        refine WL.nil ?_
        refine W.condF rfl ?_
        refine W.exit rfl ?_
        refine W.seq ?_
        refine W.region ?_
        refine WL.as rfl rfl ?_
        refine WL.nil ?_
        exact W.ret1 rfl rfl (fun h p => ⟨rfl, p⟩)
    · refine W.seq ?_
      refine W.region ?_
      refine WL.as rfl rfl ?_
      refine WL.nil ?_
      refine W.seq ?_
      refine W.seq ?_
      refine W.region ?_
      refine WL.mv rfl rfl ?_
      refine WL.lss rfl rfl rfl ?_
      refine WL.mv rfl rfl ?_
      refine WL.gdTn rfl rfl rfl rfl rfl (by omega) ?_
      refine WL.gdTn rfl rfl rfl rfl rfl (by omega) ?_
      refine WL.gdTn rfl rfl rfl rfl rfl (by omega) ?_
      refine WL.gdTn rfl rfl rfl rfl rfl (by omega) ?_
      refine WL.gdTn rfl rfl rfl rfl rfl (by omega) ?_
      refine WL.pickFp rfl rfl (by omega) rfl ?_
      refine WL.nil ?_
      refine W.condF rfl ?_
      refine W.skip ?_
      refine W.seq ?_
      refine W.seq ?_
      refine W.region ?_
      refine WL.as rfl rfl ?_
      refine WL.nil ?_
      refine W.block ?_
      refine W.loopS (σ := Nat) (fun j => [(0, v), (1, .int .i64 (i : Int)), (5, .int .i64 (j : Int))]) (fun _ => []) (fun j => j ≤ us.length ∧ j ≤ cntS i ∧ ∀ x ∈ us.take j, x < 2 ^ bitS i) (fun j => us.length - j) 0 ⟨rfl, rfl, rfl, trivial⟩ rfl ⟨Nat.zero_le _, Nat.zero_le _, by simp⟩ ?_
      intro j ⟨hj, hjc, ha⟩ next
      rcases (by omega : (j < us.length ∧ j < cntS i) ∨ (j < us.length ∧ ¬ j < cntS i) ∨ ¬ j < us.length) with ⟨hc1, hc2⟩ | ⟨hc1, hc2⟩ | hc1
      · obtain ⟨x, hx⟩ : ∃ x, us[j]? = some x := ⟨_, List.getElem?_eq_getElem hc1⟩
        have hx1 : (us.map ucell)[j]? = some (ucell x) := by rw [List.getElem?_map, hx]; rfl
        have hx64 := hw x (List.mem_of_getElem? hx)
        have hp : 0 < 2 ^ bitS i := Nat.pow_pos (by decide)
        have e2 : min ((bitS i : Nat) : Int).toNat IntKind.u64.bits = bitS i := by
          rw [Int.toNat_natCast]
          exact Nat.min_eq_left (by show _ ≤ 64; omega)
        have ex : ((x : Int) / 2 ^ min ((bitS i : Nat) : Int).toNat IntKind.u64.bits) = ((x / 2 ^ bitS i : Nat) : Int) := by rw [e2]; push_cast; rfl
        by_cases hb : x < 2 ^ bitS i
        · have hz0 : ¬ ¬ ((x : Int) / 2 ^ min ((bitS i : Nat) : Int).toNat IntKind.u64.bits) = 0 := by
            rw [ex, Nat.div_eq_of_lt hb]; simp
          refine W.seq ?_
          refine W.seq ?_
          refine W.region ?_
          refine WL.mv rfl rfl ?_
          refine WL.mv rfl rfl ?_
          refine WL.len (T := Ty) rfl rfl (by assumption) rfl ?_
          refine WL.lss rfl rfl rfl ?_
          refine WL.mv rfl rfl ?_
          refine WL.gT rfl rfl (by omega) ?_
          refine WL.mv rfl rfl ?_
          refine WL.gT rfl rfl (by omega) ?_
          refine WL.mv rfl rfl ?_
          refine WL.gT rfl rfl (by omega) ?_
          refine WL.callV rfl rfl (fun x p d => rnum_c _ _ (by first | assumption | omega)) ?_
          refine WL.gT rfl rfl (by omega) ?_
          refine WL.lss rfl rfl rfl ?_
          refine WL.pickTp rfl rfl (by omega) rfl ?_
          refine WL.nil ?_
          refine W.condpT rfl (by omega) ?_
          refine W.skip ?_
          refine W.seq ?_
          refine W.block ?_
          refine W.seq ?_
          refine W.drawA 9 rfl (fun σ0 hσ0 dσ0 => ?_)
          refine WD.takeL 0 rfl (by decide +kernel) ?_
          refine WL.mv rfl rfl ?_
          refine WL.nilT ?_
          refine WD.takeL 1 rfl (by decide +kernel) ?_
          refine WL.mv rfl rfl ?_
          refine WL.nilT ?_
          refine WD.takeL 2 rfl (by decide +kernel) ?_
          refine WL.ix (T := Ty) rfl rfl rfl (by assumption) rfl rfl (by omega) (by first | omega | decide +kernel) ?_
          refine WL.nilT ?_
          refine WD.takeL 3 rfl (by decide +kernel) ?_
          refine WL.ldKn (T := Ty) rfl rfl rfl rfl (by first | assumption | exact ROs.wide (by assumption)) (by assumption) ?_
          refine WL.nilT ?_
          refine WD.takeL 4 rfl (by decide +kernel) ?_
          refine WL.mv rfl rfl ?_
          refine WL.nilT ?_
          refine WD.oneL 5 rfl (by decide +kernel) ?_
          refine WL.callV rfl rfl (fun x p d => rbits_c _ _ (by first | assumption | omega)) ?_
          refine WL.nilE ?_
          refine WD.takeL 6 rfl (by decide +kernel) ?_
          refine WL.cvK (T := Ty) rfl rfl rfl rfl (wrap_u64 ⟨by omega, by omega⟩) ?_
          refine WL.nilT ?_
          refine WD.takeL 7 rfl (by decide +kernel) ?_
          refine WL.shrS rfl rfl rfl (by omega) rfl ?_
          refine WL.nilT ?_
          refine WD.takeL 8 rfl (by decide +kernel) ?_
          refine WL.neq rfl rfl rfl ?_
          refine WL.nilT ?_
          refine WD.doneF hσ0 (by decide +kernel) (by repeat' first | exact FL.nil | apply FL.cons) ?_
          refine W.condpF rfl (by omega) ?_
          refine W.skip ?_
          refine W.inBlock ?_
          refine W.region ?_
          refine WL.mv rfl rfl ?_
          refine WL.addK rfl rfl rfl (wrap_i64 ⟨by omega, by omega⟩) ?_
          refine WL.as rfl rfl ?_
          refine WL.nil ?_
          refine W.sub ?_ (next (j + 1) ⟨by omega, by omega, ?_⟩ (by omega))
          · exact ⟨rfl, rfl, rfl, trivial⟩
          · intro y hy
            rw [List.take_add_one, hx] at hy
            rcases List.mem_append.1 hy with h | h
            · exact ha y h
            · simp at h; rw [h]; exact hb
        · have hz0 : ¬ ((x : Int) / 2 ^ min ((bitS i : Nat) : Int).toNat IntKind.u64.bits) = 0 := by
            rw [ex]
            have := Nat.div_pos (by omega : 2 ^ bitS i ≤ x) hp
            omega
          have hno : fitsS us i = false := by
            cases hq : fitsS us i with
            | false => rfl
            | true => exact absurd (fitsS_lt hq x (List.mem_of_getElem? (i := j) (by rw [List.getElem?_take, if_pos hc2]; exact hx))) hb
          rw [hno]
          refine W.seq ?_
          refine W.seq ?_
          refine W.region ?_
          refine WL.mv rfl rfl ?_
          refine WL.mv rfl rfl ?_
          refine WL.len (T := Ty) rfl rfl (by assumption) rfl ?_
          refine WL.lss rfl rfl rfl ?_
          refine WL.mv rfl rfl ?_
          refine WL.gT rfl rfl (by omega) ?_
          refine WL.mv rfl rfl ?_
          refine WL.gT rfl rfl (by omega) ?_
          refine WL.mv rfl rfl ?_
          refine WL.gT rfl rfl (by omega) ?_
          refine WL.callV rfl rfl (fun x p d => rnum_c _ _ (by first | assumption | omega)) ?_
          refine WL.gT rfl rfl (by omega) ?_
          refine WL.lss rfl rfl rfl ?_
          refine WL.pickTp rfl rfl (by omega) rfl ?_
          refine WL.nil ?_
          refine W.condpT rfl (by omega) ?_
          refine W.skip ?_
          refine W.seq ?_
          refine W.block ?_
          refine W.seq ?_
          refine W.drawA 9 rfl (fun σ0 hσ0 dσ0 => ?_)
          refine WD.takeL 0 rfl (by decide +kernel) ?_
          refine WL.mv rfl rfl ?_
          refine WL.nilT ?_
          refine WD.takeL 1 rfl (by decide +kernel) ?_
          refine WL.mv rfl rfl ?_
          refine WL.nilT ?_
          refine WD.takeL 2 rfl (by decide +kernel) ?_
          refine WL.ix (T := Ty) rfl rfl rfl (by assumption) rfl rfl (by omega) (by first | omega | decide +kernel) ?_
          refine WL.nilT ?_
          refine WD.takeL 3 rfl (by decide +kernel) ?_
          refine WL.ldKn (T := Ty) rfl rfl rfl rfl (by first | assumption | exact ROs.wide (by assumption)) (by assumption) ?_
          refine WL.nilT ?_
          refine WD.takeL 4 rfl (by decide +kernel) ?_
          refine WL.mv rfl rfl ?_
          refine WL.nilT ?_
          refine WD.oneL 5 rfl (by decide +kernel) ?_
          refine WL.callV rfl rfl (fun x p d => rbits_c _ _ (by first | assumption | omega)) ?_
          refine WL.nilE ?_
          refine WD.takeL 6 rfl (by decide +kernel) ?_
          refine WL.cvK (T := Ty) rfl rfl rfl rfl (wrap_u64 ⟨by omega, by omega⟩) ?_
          refine WL.nilT ?_
          refine WD.takeL 7 rfl (by decide +kernel) ?_
          refine WL.shrS rfl rfl rfl (by omega) rfl ?_
          refine WL.nilT ?_
          refine WD.takeL 8 rfl (by decide +kernel) ?_
          refine WL.neq rfl rfl rfl ?_
          refine WL.nilT ?_
          refine WD.doneF hσ0 (by decide +kernel) (by repeat' first | exact FL.nil | apply FL.cons) ?_
          refine W.condpT rfl (by omega) ?_
          refine W.seq ?_
          refine W.region ?_
          refine WL.as rfl rfl ?_
          refine WL.nil ?_
          exact W.ret1 rfl rfl (fun h p => ⟨rfl, p⟩)
      · have hyes : fitsS us i = true := by
          unfold fitsS
          rw [hpre, Bool.true_and, List.all_eq_true, show cntS i = j by omega]
          exact fun x hx => decide_eq_true (ha x hx)
        rw [hyes]
        refine W.seq ?_
        refine W.seq ?_
        refine W.region ?_
        refine WL.mv rfl rfl ?_
        refine WL.mv rfl rfl ?_
        refine WL.len (T := Ty) rfl rfl (by assumption) rfl ?_
        refine WL.lss rfl rfl rfl ?_
        refine WL.mv rfl rfl ?_
        refine WL.gT rfl rfl (by omega) ?_
        refine WL.mv rfl rfl ?_
        refine WL.gT rfl rfl (by omega) ?_
        refine WL.mv rfl rfl ?_
        refine WL.gT rfl rfl (by omega) ?_
        refine WL.callV rfl rfl (fun x p d => rnum_c _ _ (by first | assumption | omega)) ?_
        refine WL.gT rfl rfl (by omega) ?_
        refine WL.lss rfl rfl rfl ?_
        refine WL.pickTp rfl rfl (by omega) rfl ?_
        refine WL.nil ?_
        refine W.condpF rfl (by omega) ?_
        refine W.exit rfl ?_
        refine W.seq ?_
        refine W.region ?_
        refine WL.as rfl rfl ?_
        refine WL.nil ?_
        exact W.ret1 rfl rfl (fun h p => ⟨rfl, p⟩)
      · have hyes : fitsS us i = true := by
          unfold fitsS
          rw [hpre, Bool.true_and, List.all_eq_true]
          intro x hx
          rw [List.take_of_length_le (by omega)] at ha hx
          exact decide_eq_true (ha x hx)
        rw [hyes]
        refine W.seq ?_
        refine W.seq ?_
        refine W.region ?_
        refine WL.mv rfl rfl ?_
        refine WL.mv rfl rfl ?_
        refine WL.len (T := Ty) rfl rfl (by assumption) rfl ?_
        refine WL.lss rfl rfl rfl ?_
        refine WL.mv rfl rfl ?_
        refine WL.gdTn rfl rfl rfl rfl rfl (by omega) ?_
        refine WL.gdTn rfl rfl rfl rfl rfl (by omega) ?_
        refine WL.gdTn rfl rfl rfl rfl rfl (by omega) ?_
        refine WL.gdTn rfl rfl rfl rfl rfl (by omega) ?_
        refine WL.pickFp rfl rfl (by omega) rfl ?_
        refine WL.nil ?_
        refine W.condF rfl ?_
        refine W.exit rfl ?_
        refine W.seq ?_
        refine W.region ?_
        refine WL.as rfl rfl ?_
        refine WL.nil ?_
        exact W.ret1 rfl rfl (fun h p => ⟨rfl, p⟩)
theorem rfits_e (ρ : Hp) (i : Nat) (v : Value) (us : List Nat) {t : Bool} (e : fitsS us i = t) (hv : ROs ρ 1 v (us.map ucell)) (hi : i < 16) (hw : ∀ x ∈ us, x < 18446744073709551616) (hl : us.length ≤ 17592186044416) :
    Fn Try.prog 62 #[v, .int .i64 (i : Int)] ρ [] (Just (.bool t)) := by
  have := rfits_c ρ i v us hv hi hw hl
  rw [e] at this
  exact this
end Go.Proofs.Ytlmhjkbbooghfaa
