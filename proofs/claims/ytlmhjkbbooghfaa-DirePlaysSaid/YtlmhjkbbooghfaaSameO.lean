/- Samples, open lists, slots that are the same. -/
import Derived.Test.YtlmhjkbbooghfaaStc
import Derived.Test.YtlmhjkbbooghfaaNum
import Derived.Test.YtlmhjkbbooghfaaTab
import Derived.Test.YtlmhjkbbooghfaaDireC
import Derived.Test.YtlmhjkbbooghfaaRow2
import Derived.Test.YtlmhjkbbooghfaaEqA
set_option linter.unusedSimpArgs false
set_option linter.unusedVariables false
set_option maxRecDepth 20000
set_option maxHeartbeats 4000000
namespace Go.Proofs.Ytlmhjkbbooghfaa
open Go
/-- a sample, a part -/
abbrev smC : Int × Int → List Value := twoC .i64 .u64
structure Prt where
  blob : Int
  tag : Int
  count : Int
  lo : Int
  hi : Int
def paC (q : Prt) : List Value := [.int .i64 q.blob, .int .i64 q.tag, .int .i64 q.count, .int .i64 q.lo, .int .i64 q.hi]
theorem pa_len (q : Prt) : (paC q).length = 5 := rfl
theorem sm_len (q : Int × Int) : (smC q).length = 2 := rfl
theorem sm_one (l : List (Int × Int)) : ∀ q ∈ l.flatMap smC, q.oneCell' = true := by
  intro q hq
  obtain ⟨x, _, hx⟩ := List.mem_flatMap.1 hq
  simp [smC, twoC] at hx
  rcases hx with rfl | rfl <;> rfl
theorem pa_one (l : List Prt) : ∀ q ∈ l.flatMap paC, q.oneCell' = true := by
  intro q hq
  obtain ⟨x, _, hx⟩ := List.mem_flatMap.1 hq
  simp [paC] at hx
  rcases hx with rfl | rfl | rfl | rfl | rfl <;> rfl
theorem sm_row {l : List (Int × Int)} {i : Nat} {q : Int × Int} (h : l[i]? = some q) : ((l.flatMap smC).drop (((i : Nat) : Int).toNat * 2)).take 2 = smC q := flat_row sm_len h
theorem pa_row {l : List Prt} {i : Nat} {q : Prt} (h : l[i]? = some q) : ((l.flatMap paC).drop (((i : Nat) : Int).toNat * 5)).take 5 = paC q := flat_row pa_len h
attribute [local irreducible] W WL Fn Buf ROs SL eptr box Rd Src bndOK WD RB Reads In
-- CALL 78 refine WL.callV rfl rfl (fun x p d => same10_c _ _ _ _ $RO $RO (by first | assumption | omega)) ?_
theorem same10_c (ρ : Hp) (a b : Value) (l : List (Int × Int)) (ha : ROs ρ 2 a (l.flatMap smC)) (hb : ROs ρ 2 b (l.flatMap smC)) (hl : l.length ≤ 8796093022208) :
    Fn Try.prog 78 #[a, b] ρ [] (Just (.bool true)) := by
  have sa : SL a l.length := ha.sl (flat_len sm_len l) (by omega)
  have sb : SL b l.length := hb.sl (flat_len sm_len l) (by omega)
  refine in78 rfl rfl ?_
  refine W.seq ?_
  refine W.region ?_
  refine WL.as rfl rfl ?_
  refine WL.nil ?_
  refine W.seq ?_
  refine W.seq ?_
  refine W.region ?_
  refine WL.mv rfl rfl ?_
  refine WL.len (T := Ty) rfl rfl (by assumption) rfl ?_
  refine WL.mv rfl rfl ?_
  refine WL.len (T := Ty) rfl rfl (by assumption) rfl ?_
  refine WL.neq rfl rfl rfl ?_
  refine WL.nil ?_
  refine W.condpF rfl (by omega) ?_
  refine W.skip ?_
  refine W.seq ?_
  refine W.seq ?_
  refine W.region ?_
  refine WL.as rfl rfl ?_
  refine WL.nil ?_
  refine W.block ?_
  refine W.loopS (σ := Nat) (fun i => [(0, a), (1, b), (5, .int .i64 (i : Int))]) (fun _ => []) (fun i => i ≤ l.length) (fun i => l.length - i) 0 ⟨rfl, rfl, rfl, trivial⟩ rfl (Nat.zero_le _) ?_
  intro i hi next
  by_cases hlt : i < l.length
  · obtain ⟨q, hq⟩ : ∃ q, l[i]? = some q := ⟨_, List.getElem?_eq_getElem hlt⟩
    have hr := sm_row hq
    refine W.seq ?_
    refine W.seq ?_
    refine W.region ?_
    refine WL.mv rfl rfl ?_
    refine WL.mv rfl rfl ?_
    refine WL.len (T := Ty) rfl rfl (by assumption) rfl ?_
    refine WL.lss rfl rfl rfl ?_
    refine WL.nil ?_
    refine W.condpT rfl (by omega) ?_
    refine W.skip ?_
    refine W.seq ?_
    refine W.block ?_
    refine W.seq ?_
    refine W.drawA 9 rfl (fun σ0 hσ0 dσ0 => ?_)
    refine WD.takeL 0 rfl (by decide +kernel) ?_
    refine WL.mv rfl rfl ?_
    refine WL.nilT ?_
    refine WD.takeL 1 rfl (by decide +kernel) ?_
    refine WL.mv rfl rfl ?_
    refine WL.nilT ?_
    refine WD.takeL 2 rfl (by decide +kernel) ?_
    refine WL.ix (T := Ty) rfl rfl rfl (by assumption) rfl rfl (by omega) (by first | omega | decide +kernel) ?_
    refine WL.nilT ?_
    refine WD.takeL 3 rfl (by decide +kernel) ?_
    refine WL.ldAR (T := Ty) rfl rfl rfl rfl (by first | assumption | exact ROs.wide (by assumption)) (by assumption) rfl ?_
    refine WL.nilT ?_
    refine WD.takeL 4 rfl (by decide +kernel) ?_
    refine WL.mv rfl rfl ?_
    refine WL.nilT ?_
    refine WD.takeL 5 rfl (by decide +kernel) ?_
    refine WL.mv rfl rfl ?_
    refine WL.nilT ?_
    refine WD.takeL 6 rfl (by decide +kernel) ?_
    refine WL.ix (T := Ty) rfl rfl rfl (by assumption) rfl rfl (by omega) (by first | omega | decide +kernel) ?_
    refine WL.nilT ?_
    refine WD.takeL 7 rfl (by decide +kernel) ?_
    refine WL.ldAR (T := Ty) rfl rfl rfl rfl (by first | assumption | exact ROs.wide (by assumption)) (by assumption) rfl ?_
    refine WL.nilT ?_
    refine WD.takeL 8 rfl (by decide +kernel) ?_
    refine WL.neAS (T := Ty) rfl rfl rfl rfl (by repeat' first | exact FI.nil | refine FI.cons (by decide) rfl rfl rfl ?_) (by kernel_rfl) (by kernel_rfl) ?_
    refine WL.nilT ?_
    refine WD.doneF hσ0 (by decide +kernel) (by repeat' first | exact FL.nil | apply FL.cons) ?_
    refine W.condF rfl ?_
    refine W.skip ?_
    refine W.inBlock ?_
    refine W.region ?_
    refine WL.mv rfl rfl ?_
    refine WL.addK rfl rfl rfl (wrap_i64 ⟨by omega, by omega⟩) ?_
    refine WL.as rfl rfl ?_
    refine WL.nil ?_
    refine W.sub ?_ (next (i + 1) (by omega) (by omega))
    exact ⟨rfl, rfl, rfl, trivial⟩
  · refine W.seq ?_
    refine W.seq ?_
    refine W.region ?_
    refine WL.mv rfl rfl ?_
    refine WL.mv rfl rfl ?_
    refine WL.len (T := Ty) rfl rfl (by assumption) rfl ?_
    refine WL.lss rfl rfl rfl ?_
    refine WL.nil ?_
    refine W.condpF rfl (by omega) ?_
    refine W.exit rfl ?_
    refine W.seq ?_
    refine W.region ?_
    refine WL.as rfl rfl ?_
    refine WL.nil ?_
    exact W.ret1 rfl rfl (fun h p => ⟨rfl, p⟩)
-- CALL 53 refine WL.callV rfl rfl (fun x p d => sameO_c _ _ _ _ _ _ $RO $RO (by first | assumption | omega)) ?_
theorem sameO_c (ρ : Hp) (any : Bool) (last : Int) (a b : Value) (l : List (Int × Int)) (ha : ROs ρ 2 a (l.flatMap smC)) (hb : ROs ρ 2 b (l.flatMap smC)) (hl : l.length ≤ 8796093022208) :
    Fn Try.prog 53 #[.agg #[.bool any, .int .i64 last, a], .agg #[.bool any, .int .i64 last, b]] ρ [] (Just (.bool true)) := by
  refine in53 rfl rfl ?_
  refine W.seq ?_
  refine W.region ?_
  refine WL.bxF rfl rfl (by repeat' first | exact FL.nil | apply FL.cons) (fun b0 => ?_)
  refine WL.bxF rfl rfl (by repeat' first | exact FL.nil | apply FL.cons) (fun b1 => ?_)
  refine WL.as rfl rfl ?_
  refine WL.nil ?_
  refine W.seq ?_
  refine W.region ?_
  refine WL.faN (T := Ty) (off' := 0) rfl rfl rfl rfl rfl rfl rfl ?_
  refine WL.ldN (T := Ty) (j := 1) rfl rfl rfl rfl rfl rfl ?_
  refine WL.faN (T := Ty) (off' := 0) rfl rfl rfl rfl rfl rfl rfl ?_
  refine WL.ldN (T := Ty) (j := 0) rfl rfl rfl rfl rfl rfl ?_
  refine WL.eqB (T := Ty) rfl rfl rfl rfl ?_
  refine WL.mv rfl rfl ?_
  simp only [beq_self_eq_true]
  refine WL.gY rfl rfl ?_
  refine WL.faN (T := Ty) (off' := 1) rfl rfl rfl rfl rfl rfl rfl ?_
  refine WL.gY rfl rfl ?_
  refine WL.ldN (T := Ty) (j := 1) rfl rfl rfl rfl rfl rfl ?_
  refine WL.gY rfl rfl ?_
  refine WL.faN (T := Ty) (off' := 1) rfl rfl rfl rfl rfl rfl rfl ?_
  refine WL.gY rfl rfl ?_
  refine WL.ldN (T := Ty) (j := 0) rfl rfl rfl rfl rfl rfl ?_
  refine WL.gY rfl rfl ?_
  refine WL.eql rfl rfl rfl ?_
  refine WL.pickT rfl rfl rfl ?_
  refine WL.mv rfl rfl ?_
  refine WL.gT rfl rfl (by omega) ?_
  refine WL.faN (T := Ty) (off' := 2) rfl rfl rfl rfl rfl rfl rfl ?_
  refine WL.gT rfl rfl (by omega) ?_
  refine WL.ldN (T := Ty) (j := 1) rfl rfl rfl rfl rfl rfl ?_
  refine WL.gT rfl rfl (by omega) ?_
  refine WL.faN (T := Ty) (off' := 2) rfl rfl rfl rfl rfl rfl rfl ?_
  refine WL.gT rfl rfl (by omega) ?_
  refine WL.ldN (T := Ty) (j := 0) rfl rfl rfl rfl rfl rfl ?_
  refine WL.gT rfl rfl (by omega) ?_
  refine WL.callV rfl rfl (fun x p d => same10_c _ _ _ _ (by first | assumption | exact ROs.wide (by assumption) | exact ROs.mono (by assumption) (eqh_at 0 rfl p d) | exact ros_at 0 rfl p d | exact ros_at 1 rfl p d | exact ros_at 2 rfl p d | exact ros_at 3 rfl p d | exact ros_at 4 rfl p d) (by first | assumption | exact ROs.wide (by assumption) | exact ROs.mono (by assumption) (eqh_at 0 rfl p d) | exact ros_at 0 rfl p d | exact ros_at 1 rfl p d | exact ros_at 2 rfl p d | exact ros_at 3 rfl p d | exact ros_at 4 rfl p d) (by first | assumption | omega)) ?_
  refine WL.pickTp rfl rfl (by omega) rfl ?_
  refine WL.as rfl rfl ?_
  refine WL.nil ?_
  refine W.drop 0 rfl (by repeat' first | exact FL.nil | apply FL.cons) ?_
  refine W.drop 0 rfl (by repeat' first | exact FL.nil | apply FL.cons) ?_
  exact W.ret1 rfl rfl (fun h p => ⟨rfl, p⟩)
-- CALL 20 refine WL.callV rfl rfl (fun x p d => sameS_c _ _ _ _ _ _ $RO $RO $RO $RO (by first | assumption | omega | exact Nat.zero_le _) (by first | assumption | omega | exact Nat.zero_le _)) ?_
theorem sameS_c (ρ : Hp) (s : Slo) (a c : Value) (l : List (Int × Int)) (ps : List Prt) (h1 : ROs ρ 2 s.lv (l.flatMap smC)) (h2 : ROs ρ 2 a (l.flatMap smC)) (h3 : ROs ρ 5 s.cv (ps.flatMap paC)) (h4 : ROs ρ 5 c (ps.flatMap paC)) (hl : l.length ≤ 8796093022208) (hp : ps.length ≤ 140737488355) :
    Fn Try.prog 20 #[.agg (sloC s).toArray, .agg (sloC { s with lv := a, cv := c }).toArray] ρ [] (Just (.bool true)) := by
  have sa : SL s.cv ps.length := h3.sl (flat_len pa_len ps) (by omega)
  have sb : SL c ps.length := h4.sl (flat_len pa_len ps) (by omega)
  refine in20 rfl rfl ?_
  refine W.seq ?_
  refine W.region ?_
  refine WL.bxF rfl rfl (by repeat' first | exact FL.nil | apply FL.cons) (fun b0 => ?_)
  refine WL.bxF rfl rfl (by repeat' first | exact FL.nil | apply FL.cons) (fun b1 => ?_)
  refine WL.as rfl rfl ?_
  refine WL.nil ?_
  refine W.seq ?_
  refine W.seq ?_
  refine W.region ?_
  refine WL.faN (T := Ty) (off' := 0) rfl rfl rfl rfl rfl rfl rfl ?_
  refine WL.ldN (T := Ty) (j := 1) rfl rfl rfl rfl rfl rfl ?_
  refine WL.faN (T := Ty) (off' := 0) rfl rfl rfl rfl rfl rfl rfl ?_
  refine WL.ldN (T := Ty) (j := 0) rfl rfl rfl rfl rfl rfl ?_
  refine WL.neB (T := Ty) rfl rfl rfl rfl ?_
  refine WL.mv rfl rfl ?_
  simp only [beq_self_eq_true, Bool.not_true]
  refine WL.gY rfl rfl ?_
  refine WL.faN (T := Ty) (off' := 1) rfl rfl rfl rfl rfl rfl rfl ?_
  refine WL.gY rfl rfl ?_
  refine WL.ldN (T := Ty) (j := 1) rfl rfl rfl rfl rfl rfl ?_
  refine WL.gY rfl rfl ?_
  refine WL.faN (T := Ty) (off' := 1) rfl rfl rfl rfl rfl rfl rfl ?_
  refine WL.gY rfl rfl ?_
  refine WL.ldN (T := Ty) (j := 0) rfl rfl rfl rfl rfl rfl ?_
  refine WL.gY rfl rfl ?_
  refine WL.neB (T := Ty) rfl rfl rfl rfl ?_
  refine WL.pickF rfl rfl rfl ?_
  refine WL.mv rfl rfl ?_
  simp only [beq_self_eq_true, Bool.not_true]
  refine WL.gY rfl rfl ?_
  refine WL.faN (T := Ty) (off' := 2) rfl rfl rfl rfl rfl rfl rfl ?_
  refine WL.gY rfl rfl ?_
  refine WL.ldN (T := Ty) (j := 1) rfl rfl rfl rfl rfl rfl ?_
  refine WL.gY rfl rfl ?_
  refine WL.faN (T := Ty) (off' := 2) rfl rfl rfl rfl rfl rfl rfl ?_
  refine WL.gY rfl rfl ?_
  refine WL.ldN (T := Ty) (j := 0) rfl rfl rfl rfl rfl rfl ?_
  refine WL.gY rfl rfl ?_
  refine WL.neq rfl rfl rfl ?_
  refine WL.pickF rfl rfl rfl ?_
  refine WL.mv rfl rfl ?_
  refine WL.gF rfl rfl (by omega) ?_
  refine WL.faN (T := Ty) (off' := 3) rfl rfl rfl rfl rfl rfl rfl ?_
  refine WL.gF rfl rfl (by omega) ?_
  refine WL.ldN (T := Ty) (j := 1) rfl rfl rfl rfl rfl rfl ?_
  refine WL.gF rfl rfl (by omega) ?_
  refine WL.faN (T := Ty) (off' := 3) rfl rfl rfl rfl rfl rfl rfl ?_
  refine WL.gF rfl rfl (by omega) ?_
  refine WL.ldN (T := Ty) (j := 0) rfl rfl rfl rfl rfl rfl ?_
  refine WL.gF rfl rfl (by omega) ?_
  refine WL.neq rfl rfl rfl ?_
  refine WL.pickFp rfl rfl (by omega) rfl ?_
  refine WL.mv rfl rfl ?_
  refine WL.gF rfl rfl (by omega) ?_
  refine WL.faN (T := Ty) (off' := 4) rfl rfl rfl rfl rfl rfl rfl ?_
  refine WL.gF rfl rfl (by omega) ?_
  refine WL.ldAF (T := Ty) (j := 1) rfl rfl rfl rfl rfl rfl (by repeat' first | exact FL.nil | apply FL.cons) ?_
  refine WL.gF rfl rfl (by omega) ?_
  refine WL.faN (T := Ty) (off' := 4) rfl rfl rfl rfl rfl rfl rfl ?_
  refine WL.gF rfl rfl (by omega) ?_
  refine WL.ldAF (T := Ty) (j := 0) rfl rfl rfl rfl rfl rfl (by repeat' first | exact FL.nil | apply FL.cons) ?_
  refine WL.gF rfl rfl (by omega) ?_
  refine WL.callV rfl rfl (fun x p d => sameO_c _ _ _ _ _ _ (by first | assumption | exact ROs.wide (by assumption) | exact ROs.mono (by assumption) (eqh_at 0 rfl p d) | exact ros_at 0 rfl p d | exact ros_at 1 rfl p d | exact ros_at 2 rfl p d | exact ros_at 3 rfl p d | exact ros_at 4 rfl p d) (by first | assumption | exact ROs.wide (by assumption) | exact ROs.mono (by assumption) (eqh_at 0 rfl p d) | exact ros_at 0 rfl p d | exact ros_at 1 rfl p d | exact ros_at 2 rfl p d | exact ros_at 3 rfl p d | exact ros_at 4 rfl p d) (by first | assumption | omega)) ?_
  refine WL.gF rfl rfl (by omega) ?_
  refine WL.not rfl rfl ?_
  refine WL.pickFp rfl rfl (by omega) rfl ?_
  refine WL.mv rfl rfl ?_
  refine WL.gY rfl rfl ?_
  refine WL.faN (T := Ty) (off' := 7) rfl rfl rfl rfl rfl rfl rfl ?_
  refine WL.gY rfl rfl ?_
  refine WL.ldN (T := Ty) (j := 1) rfl rfl rfl rfl rfl rfl ?_
  refine WL.gY rfl rfl ?_
  refine WL.len (T := Ty) rfl rfl (by assumption) rfl ?_
  refine WL.gY rfl rfl ?_
  refine WL.faN (T := Ty) (off' := 7) rfl rfl rfl rfl rfl rfl rfl ?_
  refine WL.gY rfl rfl ?_
  refine WL.ldN (T := Ty) (j := 0) rfl rfl rfl rfl rfl rfl ?_
  refine WL.gY rfl rfl ?_
  refine WL.len (T := Ty) rfl rfl (by assumption) rfl ?_
  refine WL.gY rfl rfl ?_
  refine WL.neq rfl rfl rfl ?_
  refine WL.pickF rfl rfl rfl ?_
  refine WL.nil ?_
  refine W.condpF rfl (by omega) ?_
  refine W.skip ?_
  refine W.seq ?_
  refine W.seq ?_
  refine W.region ?_
  refine WL.faN (T := Ty) (off' := 7) rfl rfl rfl rfl rfl rfl rfl ?_
  refine WL.ldN (T := Ty) (j := 1) rfl rfl rfl rfl rfl rfl ?_
  refine WL.len (T := Ty) rfl rfl (by assumption) rfl ?_
  refine WL.mv rfl rfl ?_
  refine WL.nil ?_
  refine W.block ?_
  refine W.loopS (σ := Nat) (fun i => [(2, pt b0 0), (3, pt b1 0), (51, .int .i64 (ps.length : Int)), (52, .int .i64 (i : Int))])
    (fun _ => [box b1 [.bool s.there, .bool s.sealed, .int .i64 s.life, .int .i64 s.ver, .bool s.any, .int .i64 s.last, a, c] 32, box b0 [.bool s.there, .bool s.sealed, .int .i64 s.life, .int .i64 s.ver, .bool s.any, .int .i64 s.last, s.lv, s.cv] 32])
    (fun i => i ≤ ps.length) (fun i => ps.length - i) 0 ⟨rfl, rfl, rfl, rfl, trivial⟩ rfl (Nat.zero_le _) ?_
  intro i hi next
  by_cases hlt : i < ps.length
  · obtain ⟨q, hq⟩ : ∃ q, ps[i]? = some q := ⟨_, List.getElem?_eq_getElem hlt⟩
    have hr := pa_row hq
    refine W.seq ?_
    refine W.region ?_
    refine WL.lss rfl rfl rfl ?_
    refine WL.nil ?_
    refine W.seq ?_
    refine W.condpT rfl (by omega) ?_
    refine W.skip ?_
    refine W.seq ?_
    refine W.block ?_
    refine W.seq ?_
    refine W.region ?_
    refine WL.mv rfl rfl ?_
    refine WL.as rfl rfl ?_
    refine WL.nil ?_
    refine W.seq ?_
    refine W.drawA 11 rfl (fun σ0 hσ0 dσ0 => ?_)
    have fσ0_0 := rb_at 0 rfl hσ0 dσ0
    have fσ0_1 := rb_at 1 rfl hσ0 dσ0
    refine WD.takeL 0 rfl (by decide +kernel) ?_
    refine WL.faN (T := Ty) (off' := 7) rfl rfl rfl rfl rfl rfl rfl ?_
    refine WL.nilT ?_
    refine WD.takeL 1 rfl (by decide +kernel) ?_
    refine WL.ldBN (T := Ty) rfl rfl rfl rfl (by first | assumption | exact RB.wide (by assumption) | exact In.rb (by assumption)) rfl ?_
    refine WL.nilT ?_
    refine WD.takeL 2 rfl (by decide +kernel) ?_
    refine WL.mv rfl rfl ?_
    refine WL.nilT ?_
    refine WD.takeL 3 rfl (by decide +kernel) ?_
    refine WL.ix (T := Ty) rfl rfl rfl (by assumption) rfl rfl (by omega) (by first | omega | decide +kernel) ?_
    refine WL.nilT ?_
    refine WD.takeL 4 rfl (by decide +kernel) ?_
    refine WL.ldAR (T := Ty) rfl rfl rfl rfl (by first | assumption | exact ROs.wide (by assumption)) (by assumption) rfl ?_
    refine WL.nilT ?_
    refine WD.takeL 5 rfl (by decide +kernel) ?_
    refine WL.faN (T := Ty) (off' := 7) rfl rfl rfl rfl rfl rfl rfl ?_
    refine WL.nilT ?_
    refine WD.takeL 6 rfl (by decide +kernel) ?_
    refine WL.ldBN (T := Ty) rfl rfl rfl rfl (by first | assumption | exact RB.wide (by assumption) | exact In.rb (by assumption)) rfl ?_
    refine WL.nilT ?_
    refine WD.takeL 7 rfl (by decide +kernel) ?_
    refine WL.mv rfl rfl ?_
    refine WL.nilT ?_
    refine WD.takeL 8 rfl (by decide +kernel) ?_
    refine WL.ix (T := Ty) rfl rfl rfl (by assumption) rfl rfl (by omega) (by first | omega | decide +kernel) ?_
    refine WL.nilT ?_
    refine WD.takeL 9 rfl (by decide +kernel) ?_
    refine WL.ldAR (T := Ty) rfl rfl rfl rfl (by first | assumption | exact ROs.wide (by assumption)) (by assumption) rfl ?_
    refine WL.nilT ?_
    refine WD.takeL 10 rfl (by decide +kernel) ?_
    refine WL.neAS (T := Ty) rfl rfl rfl rfl (by repeat' first | exact FI.nil | refine FI.cons (by decide) rfl rfl rfl ?_) (by kernel_rfl) (by kernel_rfl) ?_
    refine WL.nilT ?_
    refine WD.doneF hσ0 (by decide +kernel) (by repeat' first | exact FL.nil | apply FL.cons) ?_
    refine W.condF rfl ?_
    refine W.skip ?_
    refine W.inBlock ?_
    refine W.region ?_
    refine WL.addK rfl rfl rfl (wrap_i64 ⟨by omega, by omega⟩) ?_
    refine WL.mv rfl rfl ?_
    refine WL.nil ?_
    refine W.sub ?_ (next (i + 1) (by omega) (by omega))
    exact ⟨rfl, rfl, rfl, rfl, trivial⟩
  · refine W.seq ?_
    refine W.region ?_
    refine WL.lss rfl rfl rfl ?_
    refine WL.nil ?_
    refine W.seq ?_
    refine W.condpF rfl (by omega) ?_
    refine W.exit rfl ?_
    refine W.seq ?_
    refine W.region ?_
    refine WL.as rfl rfl ?_
    refine WL.nil ?_
    refine W.drop 0 rfl (by repeat' first | exact FL.nil | apply FL.cons) ?_
    refine W.drop 0 rfl (by repeat' first | exact FL.nil | apply FL.cons) ?_
    exact W.ret1 rfl rfl (fun h p => ⟨rfl, p⟩)
end Go.Proofs.Ytlmhjkbbooghfaa
