/- Small numbers, many to a word: what the code of package simp does. -/
import Derived.Test.YtlmhjkbbooghfaaStc
import Derived.Test.YtlmhjkbbooghfaaNum
import Derived.Test.YtlmhjkbbooghfaaTab
import Derived.Test.YtlmhjkbbooghfaaSimpLaw
import Derived.Test.YtlmhjkbbooghfaaLen64
import Derived.Test.YtlmhjkbbooghfaaEq64
set_option linter.unusedSimpArgs false
set_option linter.unusedVariables false
set_option maxRecDepth 20000
set_option maxHeartbeats 4000000
namespace Go.Proofs.Ytlmhjkbbooghfaa
open Go
attribute [local irreducible] W WL Fn Buf ROs SL eptr box Rd Src bndOK WD RB Reads In

def kCells : List Value := [.int .i64 240, .int .i64 0, .int .i64 120, .int .i64 0, .int .i64 60, .int .i64 1, .int .i64 30, .int .i64 2, .int .i64 20, .int .i64 3, .int .i64 15, .int .i64 4, .int .i64 12, .int .i64 5, .int .i64 10, .int .i64 6,
  .int .i64 8, .int .i64 7, .int .i64 7, .int .i64 8, .int .i64 6, .int .i64 10, .int .i64 5, .int .i64 12, .int .i64 4, .int .i64 15, .int .i64 3, .int .i64 20, .int .i64 2, .int .i64 30, .int .i64 1, .int .i64 60]
theorem kRow (i : Nat) (hi : i < 16) : (kCells.drop (i * 2)).take 2 = [.int .i64 (cntS i : Int), .int .i64 (bitS i : Int)] := by
  rcases (by omega : i = 0 ∨ i = 1 ∨ i = 2 ∨ i = 3 ∨ i = 4 ∨ i = 5 ∨ i = 6 ∨ i = 7 ∨ i = 8 ∨ i = 9 ∨ i = 10 ∨ i = 11 ∨ i = 12 ∨ i = 13 ∨ i = 14 ∨ i = 15) with rfl | rfl | rfl | rfl | rfl | rfl | rfl | rfl | rfl | rfl | rfl | rfl | rfl | rfl | rfl | rfl
  all_goals rfl
-- CALL 60 refine WL.callF rfl rfl (fun x p d => kinds_c _) (fun u$N => ?_) ;; refine WL.fact (i := 0) rfl (fun h hb => hb.sl (n := 16) rfl (by omega)) (fun hsl$N => ?_)
theorem kinds_c (ρ : Hp) : Fn Try.prog 60 #[] ρ [] (fun r => Buf 2 r kCells) := by
  refine in60 rfl rfl ?_
  refine W.seq ?_
  refine W.region ?_
  refine WL.as rfl rfl ?_
  refine WL.nil ?_
  refine W.seq ?_
  refine W.region ?_
  refine WL.bdC (T := Ty) rfl rfl rfl rfl (by repeat' first | exact CO.nil | apply CO.one (by first | rfl | exact SL.one (by assumption)) | apply CO.agg) rfl (by repeat' first | exact FL.nil | apply FL.cons) ?_
  refine WL.bdC (T := Ty) rfl rfl rfl rfl (by repeat' first | exact CO.nil | apply CO.one (by first | rfl | exact SL.one (by assumption)) | apply CO.agg) rfl (by repeat' first | exact FL.nil | apply FL.cons) ?_
  refine WL.bdC (T := Ty) rfl rfl rfl rfl (by repeat' first | exact CO.nil | apply CO.one (by first | rfl | exact SL.one (by assumption)) | apply CO.agg) rfl (by repeat' first | exact FL.nil | apply FL.cons) ?_
  refine WL.bdC (T := Ty) rfl rfl rfl rfl (by repeat' first | exact CO.nil | apply CO.one (by first | rfl | exact SL.one (by assumption)) | apply CO.agg) rfl (by repeat' first | exact FL.nil | apply FL.cons) ?_
  refine WL.bdC (T := Ty) rfl rfl rfl rfl (by repeat' first | exact CO.nil | apply CO.one (by first | rfl | exact SL.one (by assumption)) | apply CO.agg) rfl (by repeat' first | exact FL.nil | apply FL.cons) ?_
  refine WL.bdC (T := Ty) rfl rfl rfl rfl (by repeat' first | exact CO.nil | apply CO.one (by first | rfl | exact SL.one (by assumption)) | apply CO.agg) rfl (by repeat' first | exact FL.nil | apply FL.cons) ?_
  refine WL.bdC (T := Ty) rfl rfl rfl rfl (by repeat' first | exact CO.nil | apply CO.one (by first | rfl | exact SL.one (by assumption)) | apply CO.agg) rfl (by repeat' first | exact FL.nil | apply FL.cons) ?_
  refine WL.bdC (T := Ty) rfl rfl rfl rfl (by repeat' first | exact CO.nil | apply CO.one (by first | rfl | exact SL.one (by assumption)) | apply CO.agg) rfl (by repeat' first | exact FL.nil | apply FL.cons) ?_
  refine WL.bdC (T := Ty) rfl rfl rfl rfl (by repeat' first | exact CO.nil | apply CO.one (by first | rfl | exact SL.one (by assumption)) | apply CO.agg) rfl (by repeat' first | exact FL.nil | apply FL.cons) ?_
  refine WL.bdC (T := Ty) rfl rfl rfl rfl (by repeat' first | exact CO.nil | apply CO.one (by first | rfl | exact SL.one (by assumption)) | apply CO.agg) rfl (by repeat' first | exact FL.nil | apply FL.cons) ?_
  refine WL.bdC (T := Ty) rfl rfl rfl rfl (by repeat' first | exact CO.nil | apply CO.one (by first | rfl | exact SL.one (by assumption)) | apply CO.agg) rfl (by repeat' first | exact FL.nil | apply FL.cons) ?_
  refine WL.bdC (T := Ty) rfl rfl rfl rfl (by repeat' first | exact CO.nil | apply CO.one (by first | rfl | exact SL.one (by assumption)) | apply CO.agg) rfl (by repeat' first | exact FL.nil | apply FL.cons) ?_
  refine WL.bdC (T := Ty) rfl rfl rfl rfl (by repeat' first | exact CO.nil | apply CO.one (by first | rfl | exact SL.one (by assumption)) | apply CO.agg) rfl (by repeat' first | exact FL.nil | apply FL.cons) ?_
  refine WL.bdC (T := Ty) rfl rfl rfl rfl (by repeat' first | exact CO.nil | apply CO.one (by first | rfl | exact SL.one (by assumption)) | apply CO.agg) rfl (by repeat' first | exact FL.nil | apply FL.cons) ?_
  refine WL.bdC (T := Ty) rfl rfl rfl rfl (by repeat' first | exact CO.nil | apply CO.one (by first | rfl | exact SL.one (by assumption)) | apply CO.agg) rfl (by repeat' first | exact FL.nil | apply FL.cons) ?_
  refine WL.bdC (T := Ty) rfl rfl rfl rfl (by repeat' first | exact CO.nil | apply CO.one (by first | rfl | exact SL.one (by assumption)) | apply CO.agg) rfl (by repeat' first | exact FL.nil | apply FL.cons) ?_
  refine WL.bsC (T := Ty) rfl rfl rfl rfl rfl rfl rfl (by repeat' first | exact CO.nil | apply CO.one (by first | rfl | exact SL.one (by assumption)) | apply CO.agg) rfl (by repeat' first | exact FL.nil | apply FL.cons) (fun u0 hu0 => ?_)
  refine WL.as rfl rfl ?_
  refine WL.nil ?_
  exact W.ret1 rfl rfl (fun h p => sepl_one.1 p)
-- CALL 80 refine WL.callV rfl rfl (fun x p d => sfits_f _ _ _ _ (by assumption) $RO (by first | assumption | omega) (by first | assumption | omega) (by first | assumption | omega)) ?_
-- CALL 80 refine WL.callV rfl rfl (fun x p d => sfits_t _ _ _ _ (by assumption) $RO (by first | assumption | omega) (by first | assumption | omega) (by first | assumption | omega)) ?_
-- CALL 80 refine WL.callV rfl rfl (fun x p d => sfits_c _ _ _ _ $RO (by first | assumption | omega) (by first | assumption | omega) (by first | assumption | omega)) ?_
theorem sfits_c (ρ : Hp) (i : Nat) (v : Value) (us : List Nat) (hv : ROs ρ 1 v (us.map ucell)) (hi : i < 16) (hw : ∀ x ∈ us, x < 18446744073709551616) (hl : us.length ≤ 17592186044416) :
    Fn Try.prog 80 #[.agg [.int .i64 (cntS i : Int), .int .i64 (bitS i : Int)].toArray, v] ρ [] (Just (.tuple #[.int .i64 ((if fitsS us i = true then min us.length (cntS i) else 0 : Nat) : Int), .bool (fitsS us i)])) := by
  refine in80 rfl rfl ?_
  have sv := hv.slm
  have hf := kind_facts ⟨i, hi⟩
  simp only [] at hf
  by_cases c0 : bitS i = 0 ∧ us.length < cntS i
  · have hno : fitsS us i = false := by
      unfold fitsS
      rw [decide_eq_false (by simp [c0.1] : ¬ bitS i ≠ 0), decide_eq_false (by omega : ¬ cntS i ≤ us.length)]
      rfl
    rw [hno]
    have c1 := c0.1
    have c2 := c0.2
    refine W.seq ?_
    refine W.region ?_
    refine WL.bxF rfl rfl (by repeat' first | exact FL.nil | apply FL.cons) (fun b0 => ?_)
    refine WL.as rfl rfl ?_
    refine WL.as rfl rfl ?_
    refine WL.nil ?_
    refine W.seq ?_
    refine W.seq ?_
    refine W.region ?_
    refine WL.faN (T := Ty) (off' := 1) rfl rfl rfl rfl rfl rfl rfl ?_
    refine WL.ldN (T := Ty) (j := 0) rfl rfl rfl rfl rfl rfl ?_
    refine WL.eql rfl rfl rfl ?_
    refine WL.mv rfl rfl ?_
    refine WL.gT rfl rfl (by omega) ?_
    refine WL.mv rfl rfl ?_
    refine WL.gT rfl rfl (by omega) ?_
    refine WL.len (T := Ty) rfl rfl (by assumption) rfl ?_
    refine WL.gT rfl rfl (by omega) ?_
    refine WL.faN (T := Ty) (off' := 0) rfl rfl rfl rfl rfl rfl rfl ?_
    refine WL.gT rfl rfl (by omega) ?_
    refine WL.ldN (T := Ty) (j := 0) rfl rfl rfl rfl rfl rfl ?_
    refine WL.gT rfl rfl (by omega) ?_
    refine WL.lss rfl rfl rfl ?_
    refine WL.pickTp rfl rfl (by omega) rfl ?_
    refine WL.nil ?_
    refine W.condpT rfl (by omega) ?_
    refine W.seq ?_
    refine W.region ?_
    refine WL.as rfl rfl ?_
    refine WL.as rfl rfl ?_
    refine WL.nil ?_
    refine W.drop 0 rfl (by repeat' first | exact FL.nil | apply FL.cons) ?_
    exact W.ret2 rfl rfl rfl (fun h p => ⟨rfl, p⟩)
  · have hpre : (decide (bitS i ≠ 0) || decide (cntS i ≤ us.length)) = true := by
      by_cases h0 : bitS i = 0
      · simp; omega
      · simp [h0]
    obtain ⟨m, hm⟩ : ∃ m, m = min us.length (cntS i) := ⟨_, rfl⟩
    have hmt : us.take m = us.take (cntS i) := by
      rw [hm, List.take_eq_take_iff]; omega
    have hml : (us.take m).length = m := by simp; omega
    have hmi : (min (us.length : Int) (cntS i : Int)) = (m : Int) := by omega
    have hmu : m ≤ us.length := by omega
    by_cases cb : bitS i = 0
    · refine W.seq ?_
      refine W.region ?_
      refine WL.bxF rfl rfl (by repeat' first | exact FL.nil | apply FL.cons) (fun b0 => ?_)
      refine WL.as rfl rfl ?_
      refine WL.as rfl rfl ?_
      refine WL.nil ?_
      refine W.seq ?_
      refine W.seq ?_
      refine W.region ?_
      refine WL.faN (T := Ty) (off' := 1) rfl rfl rfl rfl rfl rfl rfl ?_
      refine WL.ldN (T := Ty) (j := 0) rfl rfl rfl rfl rfl rfl ?_
      refine WL.eql rfl rfl rfl ?_
      refine WL.mv rfl rfl ?_
      refine WL.gT rfl rfl (by omega) ?_
      refine WL.mv rfl rfl ?_
      refine WL.gT rfl rfl (by omega) ?_
      refine WL.len (T := Ty) rfl rfl (by assumption) rfl ?_
      refine WL.gT rfl rfl (by omega) ?_
      refine WL.faN (T := Ty) (off' := 0) rfl rfl rfl rfl rfl rfl rfl ?_
      refine WL.gT rfl rfl (by omega) ?_
      refine WL.ldN (T := Ty) (j := 0) rfl rfl rfl rfl rfl rfl ?_
      refine WL.gT rfl rfl (by omega) ?_
      refine WL.lss rfl rfl rfl ?_
      refine WL.pickTp rfl rfl (by omega) rfl ?_
      refine WL.nil ?_
      refine W.condpF rfl (by omega) ?_
      refine W.skip ?_
      refine W.seq ?_
      refine W.region ?_
      refine WL.mv rfl rfl ?_
      refine WL.len (T := Ty) rfl rfl (by assumption) rfl ?_
      refine WL.faN (T := Ty) (off' := 0) rfl rfl rfl rfl rfl rfl rfl ?_
      refine WL.ldN (T := Ty) (j := 0) rfl rfl rfl rfl rfl rfl ?_
      refine WL.mn rfl rfl rfl ?_
      refine WL.as rfl rfl ?_
      refine WL.nil ?_
      refine W.seq ?_
      refine W.seq ?_
      refine W.region ?_
      refine WL.mv rfl rfl ?_
      refine WL.mv rfl rfl ?_
      rw [hmi]
      refine WL.slTn (T := Ty) rfl rfl rfl rfl rfl (by first | assumption | exact ROs.wide (by assumption)) (by first | assumption | omega | (simp; omega)) (fun u1 hu1 ru1 => ?_)
      refine WL.len (T := Ty) rfl rfl (by assumption) rfl ?_
      refine WL.mv rfl rfl ?_
      refine WL.nil ?_
      refine W.block ?_
      refine W.loopS (σ := Nat) (fun j => [(2, .pointer (some { block := b0, off := 0 })), (6, .int .i64 (m : Int)), (26, u1), (27, .int .i64 ((us.take m).length : Int)), (28, .int .i64 (j : Int))]) (fun _ => [box b0 [.int .i64 (cntS i : Int), .int .i64 (bitS i : Int)] 114]) (fun j => j ≤ m ∧ ∀ x ∈ (us.take m).take j, x < 2 ^ bitS i) (fun j => m - j) 0 ⟨rfl, rfl, rfl, rfl, rfl, trivial⟩ rfl ⟨Nat.zero_le _, by simp⟩ ?_
      intro j ⟨hj, ha⟩ next
      by_cases hlt : j < m
      · obtain ⟨x, hx⟩ : ∃ x, (us.take m)[j]? = some x := ⟨_, List.getElem?_eq_getElem (by omega)⟩
        have hx1 : ((us.take m).map ucell)[j]? = some (ucell x) := by rw [List.getElem?_map, hx]; rfl
        have hxm := List.mem_of_getElem? hx
        have hx64 := hw x (List.mem_of_mem_take hxm)
        have hle := lenB_le 64 x (bitS i) hx64
        by_cases hb : lenB 64 x ≤ bitS i
        · have hb2 := hle.1 hb
          refine W.seq ?_
          refine W.region ?_
          refine WL.lss rfl rfl rfl ?_
          refine WL.nil ?_
          refine W.seq ?_
          refine W.condpT rfl (by omega) ?_
          refine W.skip ?_
          refine W.seq ?_
          refine W.block ?_
          refine W.seq ?_
          refine W.region ?_
          refine WL.ix (T := Ty) rfl rfl rfl (by assumption) rfl rfl (by omega) (by first | omega | decide +kernel) ?_
          refine WL.ldKn (T := Ty) rfl rfl rfl rfl (by first | assumption | exact ROs.wide (by assumption)) (by assumption) ?_
          refine WL.as rfl rfl ?_
          refine WL.nil ?_
          refine W.seq ?_
          refine W.drawA 5 rfl (fun σ0 hσ0 dσ0 => ?_)
          have fσ0_0 := rb_at 0 rfl hσ0 dσ0
          refine WD.takeL 0 rfl (by decide +kernel) ?_
          refine WL.mv rfl rfl ?_
          refine WL.nilT ?_
          refine WD.takeL 2 rfl (by decide +kernel) ?_
          refine WL.faN (T := Ty) (off' := 1) rfl rfl rfl rfl rfl rfl rfl ?_
          refine WL.nilT ?_
          refine WD.takeL 3 rfl (by decide +kernel) ?_
          refine WL.ldBN (T := Ty) rfl rfl rfl rfl (by first | assumption | exact RB.wide (by assumption) | exact In.rb (by assumption)) rfl ?_
          refine WL.nilT ?_
          refine WD.oneL 1 rfl (by decide +kernel) ?_
          refine WL.callV rfl rfl (fun x p d => len64_c _ _ (by first | assumption | omega)) ?_
          refine WL.nilE ?_
          refine WD.takeL 4 rfl (by decide +kernel) ?_
          refine WL.gtr rfl rfl rfl ?_
          refine WL.nilT ?_
          refine WD.doneF hσ0 (by decide +kernel) (by repeat' first | exact FL.nil | apply FL.cons) ?_
          refine W.condpF rfl (by omega) ?_
          refine W.skip ?_
          refine W.inBlock ?_
          refine W.region ?_
          refine WL.addK rfl rfl rfl (wrap_i64 ⟨by omega, by omega⟩) ?_
          refine WL.mv rfl rfl ?_
          refine WL.nil ?_
          refine W.sub ?_ (next (j + 1) ⟨by omega, ?_⟩ (by omega))
          · exact ⟨rfl, rfl, rfl, rfl, rfl, trivial⟩
          · intro y hy
            rw [List.take_add_one, hx] at hy
            rcases List.mem_append.1 hy with h | h
            · exact ha y h
            · simp at h; rw [h]; exact hb2
        · have hno : fitsS us i = false := by
            cases hq : fitsS us i with
            | false => rfl
            | true => exact absurd (hle.2 (fitsS_lt hq x (by rw [← hmt]; exact hxm))) hb
          rw [hno]
          refine W.seq ?_
          refine W.region ?_
          refine WL.lss rfl rfl rfl ?_
          refine WL.nil ?_
          refine W.seq ?_
          refine W.condpT rfl (by omega) ?_
          refine W.skip ?_
          refine W.seq ?_
          refine W.block ?_
          refine W.seq ?_
          refine W.region ?_
          refine WL.ix (T := Ty) rfl rfl rfl (by assumption) rfl rfl (by omega) (by first | omega | decide +kernel) ?_
          refine WL.ldKn (T := Ty) rfl rfl rfl rfl (by first | assumption | exact ROs.wide (by assumption)) (by assumption) ?_
          refine WL.as rfl rfl ?_
          refine WL.nil ?_
          refine W.seq ?_
          refine W.drawA 5 rfl (fun σ0 hσ0 dσ0 => ?_)
          have fσ0_0 := rb_at 0 rfl hσ0 dσ0
          refine WD.takeL 0 rfl (by decide +kernel) ?_
          refine WL.mv rfl rfl ?_
          refine WL.nilT ?_
          refine WD.takeL 2 rfl (by decide +kernel) ?_
          refine WL.faN (T := Ty) (off' := 1) rfl rfl rfl rfl rfl rfl rfl ?_
          refine WL.nilT ?_
          refine WD.takeL 3 rfl (by decide +kernel) ?_
          refine WL.ldBN (T := Ty) rfl rfl rfl rfl (by first | assumption | exact RB.wide (by assumption) | exact In.rb (by assumption)) rfl ?_
          refine WL.nilT ?_
          refine WD.oneL 1 rfl (by decide +kernel) ?_
          refine WL.callV rfl rfl (fun x p d => len64_c _ _ (by first | assumption | omega)) ?_
          refine WL.nilE ?_
          refine WD.takeL 4 rfl (by decide +kernel) ?_
          refine WL.gtr rfl rfl rfl ?_
          refine WL.nilT ?_
          refine WD.doneF hσ0 (by decide +kernel) (by repeat' first | exact FL.nil | apply FL.cons) ?_
          refine W.condpT rfl (by omega) ?_
          refine W.seq ?_
          refine W.region ?_
          refine WL.as rfl rfl ?_
          refine WL.as rfl rfl ?_
          refine WL.nil ?_
          refine W.drop 0 rfl (by repeat' first | exact FL.nil | apply FL.cons) ?_
          exact W.ret2 rfl rfl rfl (fun h p => ⟨rfl, p⟩)
      · have hyes : fitsS us i = true := by
          unfold fitsS
          rw [hpre, Bool.true_and, List.all_eq_true, ← hmt]
          intro x hx
          rw [List.take_of_length_le (by omega)] at ha
          exact decide_eq_true (ha x hx)
        rw [if_pos hyes, hyes, ← hm]
        refine W.seq ?_
        refine W.region ?_
        refine WL.lss rfl rfl rfl ?_
        refine WL.nil ?_
        refine W.seq ?_
        refine W.condpF rfl (by omega) ?_
        refine W.exit rfl ?_
        refine W.seq ?_
        refine W.region ?_
        refine WL.mv rfl rfl ?_
        refine WL.as rfl rfl ?_
        refine WL.as rfl rfl ?_
        refine WL.nil ?_
        refine W.drop 0 rfl (by repeat' first | exact FL.nil | apply FL.cons) ?_
        exact W.ret2 rfl rfl rfl (fun h p => ⟨rfl, p⟩)
    · refine W.seq ?_
      refine W.region ?_
      refine WL.bxF rfl rfl (by repeat' first | exact FL.nil | apply FL.cons) (fun b0 => ?_)
      refine WL.as rfl rfl ?_
      refine WL.as rfl rfl ?_
      refine WL.nil ?_
      refine W.seq ?_
      refine W.seq ?_
      refine W.region ?_
      refine WL.faN (T := Ty) (off' := 1) rfl rfl rfl rfl rfl rfl rfl ?_
      refine WL.ldN (T := Ty) (j := 0) rfl rfl rfl rfl rfl rfl ?_
      refine WL.eql rfl rfl rfl ?_
      refine WL.mv rfl rfl ?_
      refine WL.gdTn rfl rfl rfl rfl rfl (by omega) ?_
      refine WL.gdTn rfl rfl rfl rfl rfl (by omega) ?_
      refine WL.gdTn rfl rfl rfl rfl rfl (by omega) ?_
      refine WL.gdTn rfl rfl rfl rfl rfl (by omega) ?_
      refine WL.gdTn rfl rfl rfl rfl rfl (by omega) ?_
      refine WL.pickFp rfl rfl (by omega) rfl ?_
      refine WL.nil ?_
      refine W.condF rfl ?_
      refine W.skip ?_
      refine W.seq ?_
      refine W.region ?_
      refine WL.mv rfl rfl ?_
      refine WL.len (T := Ty) rfl rfl (by assumption) rfl ?_
      refine WL.faN (T := Ty) (off' := 0) rfl rfl rfl rfl rfl rfl rfl ?_
      refine WL.ldN (T := Ty) (j := 0) rfl rfl rfl rfl rfl rfl ?_
      refine WL.mn rfl rfl rfl ?_
      refine WL.as rfl rfl ?_
      refine WL.nil ?_
      refine W.seq ?_
      refine W.seq ?_
      refine W.region ?_
      refine WL.mv rfl rfl ?_
      refine WL.mv rfl rfl ?_
      rw [hmi]
      refine WL.slTn (T := Ty) rfl rfl rfl rfl rfl (by first | assumption | exact ROs.wide (by assumption)) (by first | assumption | omega | (simp; omega)) (fun u1 hu1 ru1 => ?_)
      refine WL.len (T := Ty) rfl rfl (by assumption) rfl ?_
      refine WL.mv rfl rfl ?_
      refine WL.nil ?_
      refine W.block ?_
      refine W.loopS (σ := Nat) (fun j => [(2, .pointer (some { block := b0, off := 0 })), (6, .int .i64 (m : Int)), (26, u1), (27, .int .i64 ((us.take m).length : Int)), (28, .int .i64 (j : Int))]) (fun _ => [box b0 [.int .i64 (cntS i : Int), .int .i64 (bitS i : Int)] 114]) (fun j => j ≤ m ∧ ∀ x ∈ (us.take m).take j, x < 2 ^ bitS i) (fun j => m - j) 0 ⟨rfl, rfl, rfl, rfl, rfl, trivial⟩ rfl ⟨Nat.zero_le _, by simp⟩ ?_
      intro j ⟨hj, ha⟩ next
      by_cases hlt : j < m
      · obtain ⟨x, hx⟩ : ∃ x, (us.take m)[j]? = some x := ⟨_, List.getElem?_eq_getElem (by omega)⟩
        have hx1 : ((us.take m).map ucell)[j]? = some (ucell x) := by rw [List.getElem?_map, hx]; rfl
        have hxm := List.mem_of_getElem? hx
        have hx64 := hw x (List.mem_of_mem_take hxm)
        have hle := lenB_le 64 x (bitS i) hx64
        by_cases hb : lenB 64 x ≤ bitS i
        · have hb2 := hle.1 hb
          refine W.seq ?_
          refine W.region ?_
          refine WL.lss rfl rfl rfl ?_
          refine WL.nil ?_
          refine W.seq ?_
          refine W.condpT rfl (by omega) ?_
          refine W.skip ?_
          refine W.seq ?_
          refine W.block ?_
          refine W.seq ?_
          refine W.region ?_
          refine WL.ix (T := Ty) rfl rfl rfl (by assumption) rfl rfl (by omega) (by first | omega | decide +kernel) ?_
          refine WL.ldKn (T := Ty) rfl rfl rfl rfl (by first | assumption | exact ROs.wide (by assumption)) (by assumption) ?_
          refine WL.as rfl rfl ?_
          refine WL.nil ?_
          refine W.seq ?_
          refine W.drawA 5 rfl (fun σ0 hσ0 dσ0 => ?_)
          have fσ0_0 := rb_at 0 rfl hσ0 dσ0
          refine WD.takeL 0 rfl (by decide +kernel) ?_
          refine WL.mv rfl rfl ?_
          refine WL.nilT ?_
          refine WD.takeL 2 rfl (by decide +kernel) ?_
          refine WL.faN (T := Ty) (off' := 1) rfl rfl rfl rfl rfl rfl rfl ?_
          refine WL.nilT ?_
          refine WD.takeL 3 rfl (by decide +kernel) ?_
          refine WL.ldBN (T := Ty) rfl rfl rfl rfl (by first | assumption | exact RB.wide (by assumption) | exact In.rb (by assumption)) rfl ?_
          refine WL.nilT ?_
          refine WD.oneL 1 rfl (by decide +kernel) ?_
          refine WL.callV rfl rfl (fun x p d => len64_c _ _ (by first | assumption | omega)) ?_
          refine WL.nilE ?_
          refine WD.takeL 4 rfl (by decide +kernel) ?_
          refine WL.gtr rfl rfl rfl ?_
          refine WL.nilT ?_
          refine WD.doneF hσ0 (by decide +kernel) (by repeat' first | exact FL.nil | apply FL.cons) ?_
          refine W.condpF rfl (by omega) ?_
          refine W.skip ?_
          refine W.inBlock ?_
          refine W.region ?_
          refine WL.addK rfl rfl rfl (wrap_i64 ⟨by omega, by omega⟩) ?_
          refine WL.mv rfl rfl ?_
          refine WL.nil ?_
          refine W.sub ?_ (next (j + 1) ⟨by omega, ?_⟩ (by omega))
          · exact ⟨rfl, rfl, rfl, rfl, rfl, trivial⟩
          · intro y hy
            rw [List.take_add_one, hx] at hy
            rcases List.mem_append.1 hy with h | h
            · exact ha y h
            · simp at h; rw [h]; exact hb2
        · have hno : fitsS us i = false := by
            cases hq : fitsS us i with
            | false => rfl
            | true => exact absurd (hle.2 (fitsS_lt hq x (by rw [← hmt]; exact hxm))) hb
          rw [hno]
          refine W.seq ?_
          refine W.region ?_
          refine WL.lss rfl rfl rfl ?_
          refine WL.nil ?_
          refine W.seq ?_
          refine W.condpT rfl (by omega) ?_
          refine W.skip ?_
          refine W.seq ?_
          refine W.block ?_
          refine W.seq ?_
          refine W.region ?_
          refine WL.ix (T := Ty) rfl rfl rfl (by assumption) rfl rfl (by omega) (by first | omega | decide +kernel) ?_
          refine WL.ldKn (T := Ty) rfl rfl rfl rfl (by first | assumption | exact ROs.wide (by assumption)) (by assumption) ?_
          refine WL.as rfl rfl ?_
          refine WL.nil ?_
          refine W.seq ?_
          refine W.drawA 5 rfl (fun σ0 hσ0 dσ0 => ?_)
          have fσ0_0 := rb_at 0 rfl hσ0 dσ0
          refine WD.takeL 0 rfl (by decide +kernel) ?_
          refine WL.mv rfl rfl ?_
          refine WL.nilT ?_
          refine WD.takeL 2 rfl (by decide +kernel) ?_
          refine WL.faN (T := Ty) (off' := 1) rfl rfl rfl rfl rfl rfl rfl ?_
          refine WL.nilT ?_
          refine WD.takeL 3 rfl (by decide +kernel) ?_
          refine WL.ldBN (T := Ty) rfl rfl rfl rfl (by first | assumption | exact RB.wide (by assumption) | exact In.rb (by assumption)) rfl ?_
          refine WL.nilT ?_
          refine WD.oneL 1 rfl (by decide +kernel) ?_
          refine WL.callV rfl rfl (fun x p d => len64_c _ _ (by first | assumption | omega)) ?_
          refine WL.nilE ?_
          refine WD.takeL 4 rfl (by decide +kernel) ?_
          refine WL.gtr rfl rfl rfl ?_
          refine WL.nilT ?_
          refine WD.doneF hσ0 (by decide +kernel) (by repeat' first | exact FL.nil | apply FL.cons) ?_
          refine W.condpT rfl (by omega) ?_
          refine W.seq ?_
          refine W.region ?_
          refine WL.as rfl rfl ?_
          refine WL.as rfl rfl ?_
          refine WL.nil ?_
          refine W.drop 0 rfl (by repeat' first | exact FL.nil | apply FL.cons) ?_
          exact W.ret2 rfl rfl rfl (fun h p => ⟨rfl, p⟩)
      · have hyes : fitsS us i = true := by
          unfold fitsS
          rw [hpre, Bool.true_and, List.all_eq_true, ← hmt]
          intro x hx
          rw [List.take_of_length_le (by omega)] at ha
          exact decide_eq_true (ha x hx)
        rw [if_pos hyes, hyes, ← hm]
        refine W.seq ?_
        refine W.region ?_
        refine WL.lss rfl rfl rfl ?_
        refine WL.nil ?_
        refine W.seq ?_
        refine W.condpF rfl (by omega) ?_
        refine W.exit rfl ?_
        refine W.seq ?_
        refine W.region ?_
        refine WL.mv rfl rfl ?_
        refine WL.as rfl rfl ?_
        refine WL.as rfl rfl ?_
        refine WL.nil ?_
        refine W.drop 0 rfl (by repeat' first | exact FL.nil | apply FL.cons) ?_
        exact W.ret2 rfl rfl rfl (fun h p => ⟨rfl, p⟩)
theorem sfits_t (ρ : Hp) (i : Nat) (v : Value) (us : List Nat) (e : fitsS us i = true) (hv : ROs ρ 1 v (us.map ucell)) (hi : i < 16) (hw : ∀ x ∈ us, x < 18446744073709551616) (hl : us.length ≤ 17592186044416) :
    Fn Try.prog 80 #[.agg [.int .i64 (cntS i : Int), .int .i64 (bitS i : Int)].toArray, v] ρ [] (Just (.tuple #[.int .i64 ((min us.length (cntS i) : Nat) : Int), .bool true])) := by
  have := sfits_c ρ i v us hv hi hw hl
  rw [if_pos e, e] at this
  exact this
theorem sfits_f (ρ : Hp) (i : Nat) (v : Value) (us : List Nat) (e : fitsS us i = false) (hv : ROs ρ 1 v (us.map ucell)) (hi : i < 16) (hw : ∀ x ∈ us, x < 18446744073709551616) (hl : us.length ≤ 17592186044416) :
    Fn Try.prog 80 #[.agg [.int .i64 (cntS i : Int), .int .i64 (bitS i : Int)].toArray, v] ρ [] (Just (.tuple #[.int .i64 ((0 : Nat) : Int), .bool false])) := by
  have := sfits_c ρ i v us hv hi hw hl
  rw [if_neg (by rw [e]; decide), e] at this
  exact this
/-- the next word, and how many numbers it holds: none, if no kind may be -/
def nextS (us : List Nat) : Nat × Nat := match kindS us 16 0 with
  | none => (0, 0)
  | some i => (wordS us i, min us.length (cntS i))
theorem mul_le60 (j : Nat) {i m : Nat} (hi : i < 16) (hj : j < m) (hm : m ≤ cntS i) : ((j : Int) * (bitS i : Int)) = ((j * bitS i : Nat) : Int) ∧ j * bitS i + bitS i ≤ 60 := by
  have hf := kind_facts ⟨i, hi⟩
  simp only [] at hf
  have : (j + 1) * bitS i ≤ cntS i * bitS i := Nat.mul_le_mul_right _ (by omega)
  rw [Nat.succ_mul] at this
  exact ⟨by simp, by omega⟩
-- CALL 61 refine WL.callV rfl rfl (fun x p d => sword_e _ _ _ _ (by assumption) $RO $RO (by first | assumption | omega) (by first | assumption | omega)) ?_
-- CALL 61 refine WL.callV rfl rfl (fun x p d => sword_c _ _ _ _ $RO $RO (by first | assumption | omega) (by first | assumption | omega)) ?_
theorem sword_c (ρ : Hp) (a v : Value) (us : List Nat) (ha : ROs ρ 2 a kCells) (hv : ROs ρ 1 v (us.map ucell)) (hw : ∀ x ∈ us, x < 18446744073709551616) (hl : us.length ≤ 17592186044416) :
    Fn Try.prog 61 #[a, v] ρ [] (Just (.tuple #[.int .u64 ((nextS us).1 : Int), .int .i64 ((nextS us).2 : Int)])) := by
  refine in61 rfl rfl ?_
  have sv := hv.slm
  have sa : SL a 16 := ha.sl (n := 16) rfl (by omega)
  refine W.seq ?_
  refine W.region ?_
  refine WL.as rfl rfl ?_
  refine WL.as rfl rfl ?_
  refine WL.nil ?_
  refine W.seq ?_
  refine W.seq ?_
  refine W.region ?_
  refine WL.mv rfl rfl ?_
  refine WL.len (T := Ty) rfl rfl (by assumption) rfl ?_
  refine WL.mv rfl rfl ?_
  refine WL.nil ?_
  refine W.block ?_
  refine W.loopS (σ := Nat) (fun i => [(1, v), (13, a), (14, .int .i64 16), (15, .int .i64 (i : Int))]) (fun _ => []) (fun i => i ≤ 16 ∧ ∀ t, t < i → fitsS us t = false) (fun i => 16 - i) 0 ⟨rfl, rfl, rfl, rfl, trivial⟩ rfl ⟨Nat.zero_le _, fun t h => absurd h (Nat.not_lt_zero t)⟩ ?_
  intro i ⟨hi, hb⟩ next
  by_cases hlt : i < 16
  · have hrow := kRow i hlt
    refine W.seq ?_
    refine W.region ?_
    refine WL.lss rfl rfl rfl ?_
    refine WL.nil ?_
    refine W.seq ?_
    refine W.condpT rfl (by omega) ?_
    refine W.skip ?_
    refine W.seq ?_
    refine W.block ?_
    refine W.seq ?_
    refine W.region ?_
    refine WL.mv rfl rfl ?_
    refine WL.ix (T := Ty) rfl rfl rfl (by assumption) rfl rfl (by omega) (by first | omega | decide +kernel) ?_
    refine WL.ldAR (T := Ty) (vs := [.int .i64 (cntS i : Int), .int .i64 (bitS i : Int)]) rfl rfl rfl rfl ha hrow rfl ?_
    cases hfit : fitsS us i with
    | false =>
      refine WL.alF (T := Ty) rfl rfl (by repeat' first | exact FL.nil | apply FL.cons) (fun b0 => ?_)
      refine WL.as rfl rfl ?_
      refine WL.stAO (T := Ty) (j := 0) rfl rfl rfl rfl (by repeat' first | exact AO.nil | apply AO.cons (by first | rfl | exact SL.one (by assumption))) rfl rfl (by repeat' first | exact FL.nil | apply FL.cons) (by repeat' first | exact FL.nil | apply FL.cons) ?_
      refine WL.nil ?_
      refine W.seq ?_
      refine W.region ?_
      refine WL.ldAF (T := Ty) (j := 0) rfl rfl rfl rfl rfl rfl (by repeat' first | exact FL.nil | apply FL.cons) ?_
      refine WL.mv rfl rfl ?_
      refine WL.callV rfl rfl (fun x p d => sfits_f _ _ _ _ (by assumption) (by first | assumption | exact ROs.wide (by assumption) | exact ROs.mono (by assumption) (eqh_at 0 rfl p d) | exact ros_at 0 rfl p d | exact ros_at 1 rfl p d | exact ros_at 2 rfl p d | exact ros_at 3 rfl p d | exact ros_at 4 rfl p d) (by first | assumption | omega) (by first | assumption | omega) (by first | assumption | omega)) ?_
      refine WL.mv rfl rfl ?_
      refine WL.extL rfl rfl rfl ?_
      refine WL.extL rfl rfl rfl ?_
      refine WL.as rfl rfl ?_
      refine WL.as rfl rfl ?_
      refine WL.nil ?_
      refine W.seq ?_
      refine W.seq ?_
      refine W.region ?_
      refine WL.mv rfl rfl ?_
      refine WL.not rfl rfl ?_
      refine WL.nil ?_
      refine W.condT rfl ?_
      refine W.exit rfl ?_
      refine W.region ?_
      refine WL.addK rfl rfl rfl (wrap_i64 ⟨by omega, by omega⟩) ?_
      refine WL.mv rfl rfl ?_
      refine WL.nil ?_
      refine W.drop 0 rfl (by repeat' first | exact FL.nil | apply FL.cons) ?_
      refine W.sub ?_ (next (i + 1) ⟨by omega, ?_⟩ (by omega))
      · exact ⟨rfl, rfl, rfl, rfl, trivial⟩
      · intro t ht
        rcases (by omega : t < i ∨ t = i) with h | rfl
        · exact hb t h
        · exact hfit
    | true =>
      have hk : kindS us 16 0 = some i := kindS_is hlt hfit hb
      have e : nextS us = (wordS us i, min us.length (cntS i)) := by unfold nextS; rw [hk]
      rw [e]
      obtain ⟨l, hl'⟩ : ∃ l, l = us.take (min us.length (cntS i)) := ⟨_, rfl⟩
      have htk : us.take (cntS i) = l := by
        rw [hl', List.take_eq_take_iff]; omega
      have hlen : (us.take (min us.length (cntS i))).length = l.length := by rw [hl']
      have hlc : l.length ≤ cntS i := by rw [hl']; simp; omega
      have hkf := kind_facts ⟨i, hlt⟩
      simp only [] at hkf
      have hl240 : l.length ≤ 240 := by omega
      have hfl : ∀ x ∈ l, x < 2 ^ bitS i := by rw [← htk]; exact fitsS_lt hfit
      have hmu : min us.length (cntS i) ≤ us.length := by omega
      refine WL.alF (T := Ty) rfl rfl (by repeat' first | exact FL.nil | apply FL.cons) (fun b0 => ?_)
      refine WL.as rfl rfl ?_
      refine WL.stAO (T := Ty) (j := 0) rfl rfl rfl rfl (by repeat' first | exact AO.nil | apply AO.cons (by first | rfl | exact SL.one (by assumption))) rfl rfl (by repeat' first | exact FL.nil | apply FL.cons) (by repeat' first | exact FL.nil | apply FL.cons) ?_
      refine WL.nil ?_
      refine W.seq ?_
      refine W.region ?_
      refine WL.ldAF (T := Ty) (j := 0) rfl rfl rfl rfl rfl rfl (by repeat' first | exact FL.nil | apply FL.cons) ?_
      refine WL.mv rfl rfl ?_
      refine WL.callV rfl rfl (fun x p d => sfits_t _ _ _ _ (by assumption) (by first | assumption | exact ROs.wide (by assumption) | exact ROs.mono (by assumption) (eqh_at 0 rfl p d) | exact ros_at 0 rfl p d | exact ros_at 1 rfl p d | exact ros_at 2 rfl p d | exact ros_at 3 rfl p d | exact ros_at 4 rfl p d) (by first | assumption | omega) (by first | assumption | omega) (by first | assumption | omega)) ?_
      refine WL.mv rfl rfl ?_
      refine WL.extL rfl rfl rfl ?_
      refine WL.extL rfl rfl rfl ?_
      refine WL.as rfl rfl ?_
      refine WL.as rfl rfl ?_
      refine WL.nil ?_
      refine W.seq ?_
      refine W.seq ?_
      refine W.region ?_
      refine WL.mv rfl rfl ?_
      refine WL.not rfl rfl ?_
      refine WL.nil ?_
      refine W.condF rfl ?_
      refine W.skip ?_
      refine W.seq ?_
      refine W.region ?_
      refine WL.mv rfl rfl ?_
      refine WL.cvK (T := Ty) rfl rfl rfl rfl (wrap_u64 ⟨by omega, by omega⟩) ?_
      refine WL.shlS (c := 1152921504606846976) rfl rfl rfl (by omega) (by decide) (wrap_u64 ⟨by omega, by omega⟩) ?_
      refine WL.as rfl rfl ?_
      refine WL.nil ?_
      refine W.seq ?_
      refine W.seq ?_
      refine W.region ?_
      refine WL.mv rfl rfl ?_
      refine WL.mv rfl rfl ?_
      refine WL.slTn (T := Ty) rfl rfl rfl rfl rfl (by first | assumption | exact ROs.wide (by assumption)) (by first | assumption | omega | (simp; omega)) (fun u1 hu1 ru1 => ?_)
      refine WL.len (T := Ty) rfl rfl (by assumption) rfl ?_
      refine WL.mv rfl rfl ?_
      refine WL.nil ?_
      refine W.block ?_
      rw [← hl'] at hu1 ru1
      rw [hlen]
      refine W.loopS (σ := Nat) (fun j => [(7, .pointer (some { block := b0, off := 0 })), (8, .int .i64 ((min us.length (cntS i) : Nat) : Int)), (10, .int .u64 ((i * 1152921504606846976 + packW (bitS i) (l.take j) : Nat) : Int)), (33, u1), (34, .int .i64 (l.length : Int)), (35, .int .i64 (j : Int))])
        (fun _ => [box b0 [.int .i64 (cntS i : Int), .int .i64 (bitS i : Int)] 114]) (fun j => j ≤ l.length) (fun j => l.length - j) 0 ⟨rfl, rfl, ?_, rfl, rfl, rfl, trivial⟩ rfl (Nat.zero_le _) ?_
      · have e0 : i * 1152921504606846976 + packW (bitS i) (l.take 0) = i * 1152921504606846976 := by simp [packW]
        rw [e0, Int.natCast_mul]
        rfl
      intro j hj next2
      by_cases hjl : j < l.length
      · obtain ⟨x, hx⟩ : ∃ x, l[j]? = some x := ⟨_, List.getElem?_eq_getElem hjl⟩
        have hx1 : (l.map ucell)[j]? = some (ucell x) := by rw [List.getElem?_map, hx]; rfl
        have hm := mul_le60 j hlt hjl hlc
        have hm0 : (0 : Int) ≤ (j : Int) * (bitS i : Int) := by rw [hm.1]; omega
        have hm1 : (j : Int) * (bitS i : Int) ≤ 60 := by rw [hm.1]; omega
        have htl : (l.take j).length = j := by simp; omega
        have hp := packW_lt (bitS i) (l.take j) (fun y hy => hfl y (List.mem_of_mem_take hy))
        rw [htl] at hp
        have hnx : l.take (j + 1) = l.take j ++ [x] := by rw [List.take_add_one, hx]; rfl
        have hp2 := packW_lt (bitS i) (l.take (j + 1)) (fun y hy => hfl y (List.mem_of_mem_take hy))
        rw [hnx, packW_snoc, htl] at hp2
        have hx60 : packW (bitS i) (l.take j) + 2 ^ (bitS i * j) * x < 2 ^ 60 := by
          refine Nat.lt_of_lt_of_le hp2 (Nat.pow_le_pow_right (by decide) ?_)
          rw [List.length_append, htl, List.length_singleton, Nat.mul_succ, Nat.mul_comm (bitS i) j]
          exact hm.2
        have hor := word_or i _ x (bitS i * j) hlt hp hx60
        refine W.seq ?_
        refine W.region ?_
        refine WL.lss rfl rfl rfl ?_
        refine WL.nil ?_
        refine W.seq ?_
        refine W.condpT rfl (by omega) ?_
        refine W.skip ?_
        refine W.seq ?_
        refine W.block ?_
        refine W.seq ?_
        refine W.region ?_
        refine WL.mv rfl rfl ?_
        refine WL.ix (T := Ty) rfl rfl rfl (by assumption) rfl rfl (by omega) (by first | omega | decide +kernel) ?_
        refine WL.ldKn (T := Ty) rfl rfl rfl rfl (by first | assumption | exact ROs.wide (by assumption)) (by assumption) ?_
        refine WL.as rfl rfl ?_
        refine WL.as rfl rfl ?_
        refine WL.nil ?_
        refine W.region ?_
        refine WL.mv rfl rfl ?_
        refine WL.mv rfl rfl ?_
        refine WL.mv rfl rfl ?_
        refine WL.faN (T := Ty) (off' := 1) rfl rfl rfl rfl rfl rfl rfl ?_
        refine WL.ldN (T := Ty) (j := 0) rfl rfl rfl rfl rfl rfl ?_
        refine WL.mulK rfl rfl rfl (wrap_i64 ⟨by omega, by omega⟩) ?_
        refine WL.shlS rfl rfl rfl (by omega) rfl rfl ?_
        refine WL.or rfl rfl rfl ?_
        refine WL.as rfl rfl ?_
        refine WL.nil ?_
        refine W.inBlock ?_
        refine W.region ?_
        refine WL.addK rfl rfl rfl (wrap_i64 ⟨by omega, by omega⟩) ?_
        refine WL.mv rfl rfl ?_
        refine WL.nil ?_
        refine W.sub ?_ (next2 (j + 1) (by omega) (by omega))
        refine ⟨rfl, rfl, ?_, rfl, rfl, rfl, trivial⟩
        have e1 : min ((j : Int) * (bitS i : Int)).toNat IntKind.u64.bits = bitS i * j := by
          rw [hm.1, Int.toNat_natCast, Nat.mul_comm (bitS i) j]
          exact Nat.min_eq_left (by show _ ≤ 64; omega)
        show some (Value.int .u64 (bits .or .u64 ((i * 1152921504606846976 + packW (bitS i) (l.take j) : Nat) : Int) (IntKind.u64.wrap ((x : Int) * 2 ^ min ((j : Int) * (bitS i : Int)).toNat IntKind.u64.bits)))) = _
        rw [e1, hnx, packW_snoc, htl]
        exact congrArg (fun q => some (Value.int .u64 q)) hor
      · refine W.seq ?_
        refine W.region ?_
        refine WL.lss rfl rfl rfl ?_
        refine WL.nil ?_
        refine W.seq ?_
        refine W.condpF rfl (by omega) ?_
        refine W.exit rfl ?_
        refine W.seq ?_
        refine W.region ?_
        refine WL.mv rfl rfl ?_
        refine WL.mv rfl rfl ?_
        refine WL.as rfl rfl ?_
        refine WL.as rfl rfl ?_
        refine WL.nil ?_
        refine W.drop 0 rfl (by repeat' first | exact FL.nil | apply FL.cons) ?_
        refine W.ret2 rfl rfl rfl (fun h p => ⟨?_, p⟩)
        rw [List.take_of_length_le (by omega)]
        unfold wordS
        rw [htk]
  · have hno : kindS us 16 0 = none := by
      cases h : kindS us 16 0 with
      | none => rfl
      | some j =>
        have := kindS_some h
        have := hb j (by omega)
        simp_all
    have e : nextS us = (0, 0) := by unfold nextS; rw [hno]
    rw [e]
    refine W.seq ?_
    refine W.region ?_
    refine WL.lss rfl rfl rfl ?_
    refine WL.nil ?_
    refine W.seq ?_
    refine W.condpF rfl (by omega) ?_
    refine W.exit rfl ?_
    refine W.seq ?_
    refine W.region ?_
    refine WL.as rfl rfl ?_
    refine WL.as rfl rfl ?_
    refine WL.nil ?_
    exact W.ret2 rfl rfl rfl (fun h p => ⟨rfl, p⟩)
theorem sword_e (ρ : Hp) (a v : Value) (us : List Nat) {w n : Nat} (e : nextS us = (w, n)) (ha : ROs ρ 2 a kCells) (hv : ROs ρ 1 v (us.map ucell)) (hw : ∀ x ∈ us, x < 18446744073709551616) (hl : us.length ≤ 17592186044416) :
    Fn Try.prog 61 #[a, v] ρ [] (Just (.tuple #[.int .u64 (w : Int), .int .i64 (n : Int)])) := by
  have := sword_c ρ a v us ha hv hw hl
  rw [e] at this
  exact this
-- CALL 30 refine WL.callF rfl rfl (fun x p d => senc_s _ _ _ (by assumption) $RO (by first | assumption | omega) (by first | assumption | omega)) (fun r => ?_) ;; refine WL.ex (fun u$N => ?_) ;; refine WL.pure (fun er => ?_) ;; subst er ;; refine WL.fact (i := 0) rfl (fun h hb => Buf.slm hb) (fun hsl$N => ?_)
-- CALL 30 refine WL.callF rfl rfl (fun x p d => senc_n _ _ _ (by assumption) $RO (by first | assumption | omega) (by first | assumption | omega)) (fun r => ?_) ;; refine WL.ex (fun u$N => ?_) ;; refine WL.pure (fun er => ?_) ;; subst er ;; refine WL.fact (i := 0) rfl (fun h hb => Buf.slm hb) (fun hsl$N => ?_)
-- CALL 30 refine WL.callF rfl rfl (fun x p d => senc_c _ _ _ $RO (by first | assumption | omega) (by first | assumption | omega)) (fun r => ?_) ;; refine WL.ex (fun u$N => ?_) ;; refine WL.pure (fun er => ?_) ;; subst er ;; refine WL.fact (i := 0) rfl (fun h hb => Buf.slm hb) (fun hsl$N => ?_)
theorem senc_c (ρ : Hp) (v : Value) (us : List Nat) (hv : ROs ρ 1 v (us.map ucell)) (hw : ∀ x ∈ us, x < 18446744073709551616) (hl : us.length ≤ 17592186044416) :
    Fn Try.prog 30 #[v] ρ [] (RowR (encS us)) := by
  refine in30 rfl rfl ?_
  have hs := hv.slm
  refine W.seq ?_
  refine W.region ?_
  refine WL.as rfl rfl ?_
  refine WL.as rfl rfl ?_
  refine WL.nil ?_
  refine W.seq ?_
  refine W.region ?_
  refine WL.callF rfl rfl (fun x p d => kinds_c _) (fun u0 => ?_)
  refine WL.fact (i := 0) rfl (fun h hb => hb.sl (n := 16) rfl (by omega)) (fun hsl0 => ?_)
  refine WL.as rfl rfl ?_
  refine WL.nil ?_
  refine W.seq ?_
  refine W.region ?_
  refine WL.as rfl rfl ?_
  refine WL.nil ?_
  refine W.seq ?_
  refine W.block ?_
  refine W.nb (sz := 1) ?_
  refine W.loopS (σ := List Nat × Value × Value × List Nat) (fun s => [(0, s.2.1), (4, u0), (5, s.2.2.1)]) (fun s => [Buf 1 s.2.2.1 (s.2.2.2.map ucell), Buf 2 u0 kCells])
    (fun s => ROs ρ 1 s.2.1 (s.1.map ucell) ∧ (encS s.1).map (s.2.2.2 ++ ·) = encS us ∧ s.1.length + s.2.2.2.length ≤ us.length ∧ ∀ x ∈ s.1, x < 18446744073709551616) (fun s => s.1.length) (us, v, .slice none 0 0, []) ⟨rfl, rfl, rfl, trivial⟩ rfl ⟨hv, by simp, by simp, hw⟩ ?_
  rintro ⟨ws, w, o, os⟩ ⟨h1, h2, h3, h4⟩ next
  simp only [] at h1 h2 h3 h4 next ⊢
  have hsw := h1.slm
  refine W.fact (i := 0) rfl (fun h hb => Buf.slm hb) (fun hso => ?_)
  cases ws with
  | nil =>
    rw [encS_nil] at h2
    refine W.seq ?_
    refine W.seq ?_
    refine W.region ?_
    refine WL.mv rfl rfl ?_
    refine WL.len (T := Ty) rfl rfl (by assumption) rfl ?_
    refine WL.gtr rfl rfl rfl ?_
    refine WL.nil ?_
    refine W.condF rfl ?_
    refine W.exit rfl ?_
    refine W.seq ?_
    refine W.region ?_
    refine WL.mv rfl rfl ?_
    refine WL.as rfl rfl ?_
    refine WL.as rfl rfl ?_
    refine WL.nil ?_
    refine W.drop 1 rfl (by repeat' first | exact FL.nil | apply FL.cons) ?_
    exact W.ret2 rfl rfl rfl (fun h p => rowSome (by rw [← h2]; simp) p)
  | cons x l =>
    have hlen : (x :: l).length = l.length + 1 := rfl
    rw [encS_cons] at h2
    cases hk : kindS (x :: l) 16 0 with
    | none =>
      have e : nextS (x :: l) = (0, 0) := by unfold nextS; rw [hk]
      rw [hk] at h2
      refine W.seq ?_
      refine W.seq ?_
      refine W.region ?_
      refine WL.mv rfl rfl ?_
      refine WL.len (T := Ty) rfl rfl (by assumption) rfl ?_
      refine WL.gtr rfl rfl rfl ?_
      refine WL.nil ?_
      refine W.condpT rfl (by omega) ?_
      refine W.skip ?_
      refine W.block ?_
      refine W.seq ?_
      refine W.region ?_
      refine WL.mv rfl rfl ?_
      refine WL.mv rfl rfl ?_
      refine WL.callV rfl rfl (fun x p d => sword_e _ _ _ _ (by assumption) (by first | assumption | exact ROs.wide (by assumption) | exact ROs.mono (by assumption) (eqh_at 0 rfl p d) | exact ros_at 0 rfl p d | exact ros_at 1 rfl p d | exact ros_at 2 rfl p d | exact ros_at 3 rfl p d | exact ros_at 4 rfl p d) (by first | assumption | exact ROs.wide (by assumption) | exact ROs.mono (by assumption) (eqh_at 0 rfl p d) | exact ros_at 0 rfl p d | exact ros_at 1 rfl p d | exact ros_at 2 rfl p d | exact ros_at 3 rfl p d | exact ros_at 4 rfl p d) (by first | assumption | omega) (by first | assumption | omega)) ?_
      refine WL.mv rfl rfl ?_
      refine WL.extL rfl rfl rfl ?_
      refine WL.extL rfl rfl rfl ?_
      refine WL.as rfl rfl ?_
      refine WL.as rfl rfl ?_
      refine WL.nil ?_
      refine W.seq ?_
      refine W.seq ?_
      refine W.region ?_
      refine WL.mv rfl rfl ?_
      refine WL.eql rfl rfl rfl ?_
      refine WL.nil ?_
      refine W.condT rfl ?_
      refine W.seq ?_
      refine W.region ?_
      refine WL.as rfl rfl ?_
      refine WL.as rfl rfl ?_
      refine WL.nil ?_
      refine W.drop 0 rfl (by repeat' first | exact FL.nil | apply FL.cons) ?_
      refine W.drop 0 rfl (by repeat' first | exact FL.nil | apply FL.cons) ?_
      refine W.nb (sz := 1) ?_
      exact W.ret2 rfl rfl rfl (fun h p => rowNone (by rw [← h2]; rfl) p)
    | some i =>
      have hi := kindS_some hk
      have hkf := kind_facts ⟨i, by omega⟩
      simp only [] at hkf
      obtain ⟨n, hn⟩ : ∃ n, n = min (x :: l).length (cntS i) := ⟨_, rfl⟩
      have e : nextS (x :: l) = (wordS (x :: l) i, n) := by unfold nextS; rw [hk, hn]
      have hn1 : 0 < n := by omega
      have hn2 : n ≤ (x :: l).length := by omega
      have hdr : (x :: l).drop n = (x :: l).drop (cntS i) := by
        rw [List.drop_eq_drop_iff]; omega
      rw [hk] at h2
      simp only [Option.map_map] at h2
      refine W.seq ?_
      refine W.seq ?_
      refine W.region ?_
      refine WL.mv rfl rfl ?_
      refine WL.len (T := Ty) rfl rfl (by assumption) rfl ?_
      refine WL.gtr rfl rfl rfl ?_
      refine WL.nil ?_
      refine W.condpT rfl (by omega) ?_
      refine W.skip ?_
      refine W.block ?_
      refine W.seq ?_
      refine W.region ?_
      refine WL.mv rfl rfl ?_
      refine WL.mv rfl rfl ?_
      refine WL.callV rfl rfl (fun x p d => sword_e _ _ _ _ (by assumption) (by first | assumption | exact ROs.wide (by assumption) | exact ROs.mono (by assumption) (eqh_at 0 rfl p d) | exact ros_at 0 rfl p d | exact ros_at 1 rfl p d | exact ros_at 2 rfl p d | exact ros_at 3 rfl p d | exact ros_at 4 rfl p d) (by first | assumption | exact ROs.wide (by assumption) | exact ROs.mono (by assumption) (eqh_at 0 rfl p d) | exact ros_at 0 rfl p d | exact ros_at 1 rfl p d | exact ros_at 2 rfl p d | exact ros_at 3 rfl p d | exact ros_at 4 rfl p d) (by first | assumption | omega) (by first | assumption | omega)) ?_
      refine WL.mv rfl rfl ?_
      refine WL.extL rfl rfl rfl ?_
      refine WL.extL rfl rfl rfl ?_
      refine WL.as rfl rfl ?_
      refine WL.as rfl rfl ?_
      refine WL.nil ?_
      refine W.seq ?_
      refine W.seq ?_
      refine W.region ?_
      refine WL.mv rfl rfl ?_
      refine WL.eql rfl rfl rfl ?_
      refine WL.nil ?_
      refine W.condpF rfl (by omega) ?_
      refine W.skip ?_
      refine W.seq ?_
      refine W.region ?_
      refine WL.mv rfl rfl ?_
      refine WL.mv rfl rfl ?_
      refine WL.bsC (T := Ty) rfl rfl rfl rfl rfl rfl rfl (by repeat' first | exact CO.nil | apply CO.one (by first | rfl | exact SL.one (by assumption)) | apply CO.agg) rfl (by repeat' first | exact FL.nil | apply FL.cons) (fun u1 hu1 => ?_)
      refine WL.ap1 (T := Ty) (i := 0) rfl rfl rfl rfl rfl rfl rfl rfl (by assumption) (by first | rfl | assumption) (by first | omega | (simp; omega)) (by first | omega | (simp; omega)) (fun v' => (by repeat' first | exact FL.nil | apply FL.cons)) (fun u2 hu2 => ?_)
      refine WL.as rfl rfl ?_
      refine WL.nil ?_
      refine W.region ?_
      refine WL.mv rfl rfl ?_
      refine WL.mv rfl rfl ?_
      refine WL.slDn (T := Ty) rfl rfl rfl rfl rfl (by first | assumption | exact ROs.wide (by assumption)) (by first | assumption | omega | (simp; omega)) (fun u3 hu3 ru3 => ?_)
      refine WL.as rfl rfl ?_
      refine WL.nil ?_
      refine W.inBlock ?_
      refine W.sub ?_ (W.hs (fun h p => ?_) (next ⟨(x :: l).drop n, u3, u2, os ++ [wordS (x :: l) i]⟩ ⟨by assumption, ?_, ?_, fun y hy => h4 y (List.mem_of_mem_drop hy)⟩ (by simp; omega)))
      · exact ⟨rfl, rfl, rfl, trivial⟩
      · rw [List.map_append]
        exact p
      · rw [← h2, hdr]
        simp only []
        congr 1
        funext q
        simp
      · simp at h3 ⊢
        omega
end Go.Proofs.Ytlmhjkbbooghfaa
