/- XorvCost. -/
import Derived.Test.YtjibmfkhhljhcaaDoorStc
import Derived.Test.YtjibmfkhhljhcaaDoorNum
import Derived.Test.YtjibmfkhhljhcaaDoorTab
import Derived.Test.YtjibmfkhhljhcaaDoorXorvAwake
import Derived.Test.YtjibmfkhhljhcaaDoorValsG
set_option linter.unusedSimpArgs false
set_option linter.unusedVariables false
set_option maxRecDepth 20000
set_option maxHeartbeats 4000000
namespace Go.Proofs.YtjibmfkhhljhcaaDoor
open Go
attribute [local irreducible] W WL Fn Buf ROs SL eptr box Rd Src bndOK WD RB Reads In encX decX encG decXF

theorem XorvCost_fn (ρ : Hp) (hT : TabG ρ) (v0 : Value) (z0 : List Int) (r0 : ROs ρ 1 v0 (z0.map (Value.int .u64))) (m0 : ∀ n ∈ z0, (Lit.int .u64 n).wf = true) (y0 : z0.length * 8 ≤ 140737488351232) (a1 : Int) (w1 : (Lit.int .i64 a1).wf = true) :
    Fn Tryd.prog 3 #[v0, .int .i64 a1] ρ [] (fun r _ => r = .bool true) := by
  obtain ⟨l, hl, hll, hlw⟩ := words_of m0
  rw [hl] at r0
  refine in3 rfl rfl ?_
  refine W.seq ?_
  refine W.region ?_
  refine WL.as rfl rfl ?_
  refine WL.nil ?_
  refine W.seq ?_
  refine W.region ?_
  refine WL.mv rfl rfl ?_
  refine WL.mv rfl rfl ?_
  refine WL.callF rfl rfl (fun x p d => vals_c _ _ _ _ (by first | assumption | exact ROs.wide (by assumption) | exact ROs.mono (by assumption) (eqh_at 0 rfl p d) | exact ros_at 0 rfl p d | exact ros_at 1 rfl p d | exact ros_at 2 rfl p d | exact ros_at 3 rfl p d | exact ros_at 4 rfl p d) (by first | assumption | omega | decide) (by first | assumption | omega | decide)) (fun u0 => ?_)
  refine WL.ex (fun vs => ?_)
  refine WL.pure (fun hvs => ?_)
  refine WL.fact (i := 0) rfl (fun h hb => Buf.slm hb) (fun hsl0 => ?_)
  refine WL.as rfl rfl ?_
  refine WL.nil ?_
  refine W.seq ?_
  refine W.region ?_
  refine WL.as rfl rfl ?_
  refine WL.nil ?_
  refine W.seq ?_
  refine W.seq ?_
  refine W.region ?_
  refine WL.mv rfl rfl ?_
  refine WL.len (T := Ty) rfl rfl (by assumption) rfl ?_
  refine WL.mv rfl rfl ?_
  refine WL.nil ?_
  refine W.block ?_
  obtain ⟨hv1, hv2⟩ := hvs
  refine W.freezeAll (fun ρ1 le1 hin => ?_)
  have r1 := (hin 0 _ rfl).ros
  have s1 := r1.slm
  replace hT := hT.mono le1
  refine W.loopS (σ := Nat) (fun i => [(5, u0), (6, .int .i64 (((encX (vs.take i)).length : Nat) : Int)), (14, .int .i64 (vs.length : Int)), (15, .int .i64 (i : Int))]) (fun _ => [])
    (fun i => i ≤ vs.length) (fun i => vs.length - i) 0 ⟨rfl, by rw [List.take_zero, encX_nil]; rfl, rfl, rfl, trivial⟩ rfl (Nat.zero_le _) ?_
  intro i hi next
  by_cases hlt : i < vs.length
  · have htw : ∀ x ∈ vs.take (i + 1), x < 18446744073709551616 := fun x hx => hv2 x (List.mem_of_mem_take hx)
    have htl : (vs.take (i + 1)).length ≤ 70000 := by simp; omega
    have hel := encX_len (vs.take i) (fun x hx => hv2 x (List.mem_of_mem_take hx))
    have hel2 := encX_len (vs.take (i + 1)) htw
    rw [List.length_take, Nat.min_eq_left (by omega)] at hel hel2
    obtain ⟨y, hy⟩ : ∃ y, vs[i]? = some y := ⟨_, List.getElem?_eq_getElem hlt⟩
    have hy1 : (vs.map ucell)[i]? = some (ucell y) := by rw [List.getElem?_map, hy]; rfl
    have hne : ([] ++ encX (vs.take (i + 1))).length = (encX (vs.take (i + 1))).length := by rw [List.nil_append]
    by_cases h0 : i = 0
    · subst h0
      have e0 : (encX (vs.take 0)).length = 0 := by rw [List.take_zero, encX_nil]; rfl
      have e1 : (encX (vs.take (0 + 1))).length = 64 := by
        cases vs with
        | nil => cases hy
        | cons z l => rw [Nat.zero_add, List.take_succ_cons, List.take_zero, encX_one, bitsOf_len]
      refine W.seq ?_
      refine W.region ?_
      refine WL.lss rfl rfl rfl ?_
      refine WL.nil ?_
      refine W.seq ?_
      refine W.condpT rfl (by omega) ?_
      refine W.skip ?_
      refine W.seq ?_
      refine W.block ?_
      refine W.seq ?_
      refine W.region ?_
      refine WL.mv rfl rfl ?_
      refine WL.as rfl rfl ?_
      refine WL.nil ?_
      refine W.seq ?_
      refine W.region ?_
      refine WL.callF rfl rfl (fun x p d => newWriter_c _) (fun r => ?_)
      refine WL.ex (fun b1 => ?_)
      refine WL.pure (fun er => ?_)
      subst er
      refine WL.as rfl rfl ?_
      refine WL.nil ?_
      refine W.seq ?_
      refine W.seq ?_
      refine W.region ?_
      refine WL.mv rfl rfl ?_
      refine WL.eqP (T := Ty) rfl rfl rfl ?_
      refine WL.nil ?_
      refine W.condF rfl ?_
      refine W.skip ?_
      refine W.seq ?_
      refine W.region ?_
      refine WL.mv rfl rfl ?_
      refine WL.mv rfl rfl ?_
      refine WL.mv rfl rfl ?_
      refine WL.addK rfl rfl rfl (wrap_i64 ⟨by omega, by omega⟩) ?_
      refine WL.slTn (T := Ty) rfl rfl rfl rfl rfl (by first | assumption | exact ROs.wide (by assumption)) (by first | assumption | omega | (simp; omega)) (fun u2 hu2 ru2 => ?_)
      refine WL.callM 0 rfl rfl rfl (fun x p d => xenc_c _ _ _ _ _ (by first | assumption | exact ROs.wide (by assumption) | exact ROs.mono (by assumption) (eqh_at 0 rfl p d) | exact ros_at 0 rfl p d | exact ros_at 1 rfl p d | exact ros_at 2 rfl p d | exact ros_at 3 rfl p d | exact ros_at 4 rfl p d) (by first | assumption | exact bok_nil) (by first | assumption | omega | exact Nat.zero_le _ | decide) (by first | assumption | omega | decide) (by first | assumption | omega | decide) (TabG.wide (by assumption))) (by repeat' first | exact FL.nil | apply FL.cons) ?_
      refine WL.nil ?_
      refine W.seq ?_
      refine W.region ?_
      refine WL.mv rfl rfl ?_
      refine WL.callV rfl rfl (fun x p d => len_c _ _ _ (by first | assumption | exact In.wide (by assumption) | exact In.mono (by assumption) (eqh_at 0 rfl p d) | exact in_at 0 rfl p d | exact in_at 1 rfl p d | exact in_at 2 rfl p d | exact in_at 3 rfl p d | exact in_at 4 rfl p d)) ?_
      refine WL.mv rfl rfl ?_
      refine WL.sub' (K := .i64) rfl rfl rfl ?_
      refine WL.as rfl rfl ?_
      refine WL.nil ?_
      refine W.seq ?_
      refine W.seq ?_
      simp only [List.nil_append]
      rw [wrap_i64 ⟨by omega, by omega⟩]
      refine W.drawA 50 rfl (fun σ0 hσ0 dσ0 => ?_)
      have fσ0_0 := in_at 0 rfl hσ0 dσ0
      refine WD.takeL 0 rfl (by decide +kernel) ?_
      refine WL.mv rfl rfl ?_
      refine WL.nilT ?_
      refine WD.takeL 1 rfl (by decide +kernel) ?_
      refine WL.eql rfl rfl rfl ?_
      refine WL.nilT ?_
      refine WD.takeL 2 rfl (by decide +kernel) ?_
      refine WL.mv rfl rfl ?_
      refine WL.nilT ?_
      refine WD.takeL 3 rfl (by decide +kernel) ?_
      refine WL.gY rfl rfl ?_
      refine WL.mv rfl rfl ?_
      refine WL.nilT ?_
      refine WD.takeL 4 rfl (by decide +kernel) ?_
      refine WL.gY rfl rfl ?_
      refine WL.neq rfl rfl rfl ?_
      refine WL.nilT ?_
      refine WD.takeL 5 rfl (by decide +kernel) ?_
      refine WL.pickT rfl rfl rfl ?_
      refine WL.nilT ?_
      refine WD.takeL 6 rfl (by decide +kernel) ?_
      refine WL.mv rfl rfl ?_
      refine WL.nilT ?_
      refine WD.takeL 7 rfl (by decide +kernel) ?_
      refine WL.gF rfl rfl (by omega) ?_
      refine WL.mv rfl rfl ?_
      refine WL.nilT ?_
      refine WD.takeL 8 rfl (by decide +kernel) ?_
      refine WL.gF rfl rfl (by omega) ?_
      refine WL.gtr rfl rfl rfl ?_
      refine WL.nilT ?_
      refine WD.takeL 9 rfl (by decide +kernel) ?_
      refine WL.gF rfl rfl (by omega) ?_
      refine WL.mv rfl rfl ?_
      refine WL.nilT ?_
      refine WD.takeL 10 rfl (by decide +kernel) ?_
      refine WL.gdN rfl rfl rfl rfl rfl rfl ?_
      refine WL.nilT ?_
      refine WD.takeL 11 rfl (by decide +kernel) ?_
      refine WL.gdN rfl rfl rfl rfl rfl rfl ?_
      refine WL.nilT ?_
      refine WD.takeL 12 rfl (by decide +kernel) ?_
      refine WL.gdN rfl rfl rfl rfl rfl rfl ?_
      refine WL.nilT ?_
      refine WD.takeL 13 rfl (by decide +kernel) ?_
      refine WL.gdN rfl rfl rfl rfl rfl rfl ?_
      refine WL.nilT ?_
      refine WD.takeL 14 rfl (by decide +kernel) ?_
      refine WL.gdN rfl rfl rfl rfl rfl rfl ?_
      refine WL.nilT ?_
      refine WD.takeL 15 rfl (by decide +kernel) ?_
      refine WL.gdN rfl rfl rfl rfl rfl rfl ?_
      refine WL.nilT ?_
      refine WD.takeL 16 rfl (by decide +kernel) ?_
      refine WL.gdN rfl rfl rfl rfl rfl rfl ?_
      refine WL.nilT ?_
      refine WD.takeL 17 rfl (by decide +kernel) ?_
      refine WL.gdN rfl rfl rfl rfl rfl rfl ?_
      refine WL.nilT ?_
      refine WD.takeL 18 rfl (by decide +kernel) ?_
      refine WL.gdN rfl rfl rfl rfl rfl rfl ?_
      refine WL.nilT ?_
      refine WD.takeL 19 rfl (by decide +kernel) ?_
      refine WL.gdN rfl rfl rfl rfl rfl rfl ?_
      refine WL.nilT ?_
      refine WD.takeL 20 rfl (by decide +kernel) ?_
      refine WL.gF rfl rfl (by omega) ?_
      refine WL.pickF rfl rfl rfl ?_
      refine WL.nilT ?_
      refine WD.takeL 21 rfl (by decide +kernel) ?_
      refine WL.gF rfl rfl (by omega) ?_
      refine WL.mv rfl rfl ?_
      refine WL.nilT ?_
      refine WD.takeL 22 rfl (by decide +kernel) ?_
      refine WL.gdN rfl rfl rfl rfl rfl rfl ?_
      refine WL.nilT ?_
      refine WD.takeL 23 rfl (by decide +kernel) ?_
      refine WL.gdN rfl rfl rfl rfl rfl rfl ?_
      refine WL.nilT ?_
      refine WD.takeL 24 rfl (by decide +kernel) ?_
      refine WL.gF rfl rfl (by omega) ?_
      refine WL.pickF rfl rfl rfl ?_
      refine WL.nilT ?_
      refine WD.takeL 25 rfl (by decide +kernel) ?_
      refine WL.pickFp rfl rfl (by omega) rfl ?_
      refine WL.nilT ?_
      refine WD.takeL 26 rfl (by decide +kernel) ?_
      refine WL.mv rfl rfl ?_
      refine WL.nilT ?_
      refine WD.takeL 27 rfl (by decide +kernel) ?_
      refine WL.gY rfl rfl ?_
      refine WL.mv rfl rfl ?_
      refine WL.nilT ?_
      refine WD.takeL 28 rfl (by decide +kernel) ?_
      refine WL.gY rfl rfl ?_
      refine WL.gtr rfl rfl rfl ?_
      refine WL.nilT ?_
      refine WD.takeL 29 rfl (by decide +kernel) ?_
      refine WL.pickF rfl rfl rfl ?_
      refine WL.nilT ?_
      refine WD.takeL 30 rfl (by decide +kernel) ?_
      refine WL.mv rfl rfl ?_
      refine WL.nilT ?_
      refine WD.takeL 31 rfl (by decide +kernel) ?_
      refine WL.gF rfl rfl (by omega) ?_
      refine WL.mv rfl rfl ?_
      refine WL.nilT ?_
      refine WD.takeL 32 rfl (by decide +kernel) ?_
      refine WL.gF rfl rfl (by omega) ?_
      refine WL.gtr rfl rfl rfl ?_
      refine WL.nilT ?_
      refine WD.takeL 33 rfl (by decide +kernel) ?_
      refine WL.gF rfl rfl (by omega) ?_
      refine WL.mv rfl rfl ?_
      refine WL.nilT ?_
      refine WD.takeL 34 rfl (by decide +kernel) ?_
      refine WL.gdN rfl rfl rfl rfl rfl rfl ?_
      refine WL.nilT ?_
      refine WD.takeL 35 rfl (by decide +kernel) ?_
      refine WL.gdN rfl rfl rfl rfl rfl rfl ?_
      refine WL.nilT ?_
      refine WD.takeL 36 rfl (by decide +kernel) ?_
      refine WL.gdN rfl rfl rfl rfl rfl rfl ?_
      refine WL.nilT ?_
      refine WD.takeL 37 rfl (by decide +kernel) ?_
      refine WL.gdN rfl rfl rfl rfl rfl rfl ?_
      refine WL.nilT ?_
      refine WD.takeL 38 rfl (by decide +kernel) ?_
      refine WL.gdN rfl rfl rfl rfl rfl rfl ?_
      refine WL.nilT ?_
      refine WD.takeL 39 rfl (by decide +kernel) ?_
      refine WL.gdN rfl rfl rfl rfl rfl rfl ?_
      refine WL.nilT ?_
      refine WD.takeL 40 rfl (by decide +kernel) ?_
      refine WL.gdN rfl rfl rfl rfl rfl rfl ?_
      refine WL.nilT ?_
      refine WD.takeL 41 rfl (by decide +kernel) ?_
      refine WL.gdN rfl rfl rfl rfl rfl rfl ?_
      refine WL.nilT ?_
      refine WD.takeL 42 rfl (by decide +kernel) ?_
      refine WL.gdN rfl rfl rfl rfl rfl rfl ?_
      refine WL.nilT ?_
      refine WD.takeL 43 rfl (by decide +kernel) ?_
      refine WL.gdN rfl rfl rfl rfl rfl rfl ?_
      refine WL.nilT ?_
      refine WD.takeL 44 rfl (by decide +kernel) ?_
      refine WL.gF rfl rfl (by omega) ?_
      refine WL.pickF rfl rfl rfl ?_
      refine WL.nilT ?_
      refine WD.takeL 45 rfl (by decide +kernel) ?_
      refine WL.gF rfl rfl (by omega) ?_
      refine WL.mv rfl rfl ?_
      refine WL.nilT ?_
      refine WD.takeL 46 rfl (by decide +kernel) ?_
      refine WL.gdN rfl rfl rfl rfl rfl rfl ?_
      refine WL.nilT ?_
      refine WD.takeL 47 rfl (by decide +kernel) ?_
      refine WL.gdN rfl rfl rfl rfl rfl rfl ?_
      refine WL.nilT ?_
      refine WD.takeL 48 rfl (by decide +kernel) ?_
      refine WL.gF rfl rfl (by omega) ?_
      refine WL.pickF rfl rfl rfl ?_
      refine WL.nilT ?_
      refine WD.takeL 49 rfl (by decide +kernel) ?_
      refine WL.pickFp rfl rfl (by omega) rfl ?_
      refine WL.nilT ?_
      refine WD.doneF hσ0 (by decide +kernel) (by repeat' first | exact FL.nil | apply FL.cons) ?_
      refine W.condF rfl ?_
      refine W.skip ?_
      refine W.region ?_
      refine WL.mv rfl rfl ?_
      refine WL.callV rfl rfl (fun x p d => len_c _ _ _ (by first | assumption | exact In.wide (by assumption) | exact In.mono (by assumption) (eqh_at 0 rfl p d) | exact in_at 0 rfl p d | exact in_at 1 rfl p d | exact in_at 2 rfl p d | exact in_at 3 rfl p d | exact in_at 4 rfl p d)) ?_
      refine WL.as rfl rfl ?_
      refine WL.nil ?_
      refine W.inBlock ?_
      refine W.region ?_
      refine WL.addK rfl rfl rfl (wrap_i64 ⟨by omega, by omega⟩) ?_
      refine WL.mv rfl rfl ?_
      refine WL.nil ?_
      refine W.drop 0 rfl (by repeat' first | exact FL.nil | apply FL.cons) ?_
      refine W.sub ?_ (next (0 + 1) (by omega) (by omega))
      exact ⟨rfl, rfl, rfl, rfl, trivial⟩
    · obtain ⟨x, hx⟩ : ∃ x, vs[i - 1]? = some x := ⟨_, List.getElem?_eq_getElem (by omega)⟩
      have hx1 : (vs.map ucell)[i - 1]? = some (ucell x) := by rw [List.getElem?_map, hx]; rfl
      obtain ⟨j, rfl⟩ : ∃ j, i = j + 1 := ⟨i - 1, by omega⟩
      have hsn := encX_snoc hv2 (i := j) (x := x) (y := y) (by simpa using hx) hy
      by_cases hxy : x = y
      · have e1 : (encX (vs.take (j + 1 + 1))).length = (encX (vs.take (j + 1))).length + 1 := hsn.1 hxy
        refine W.seq ?_
        refine W.region ?_
        refine WL.lss rfl rfl rfl ?_
        refine WL.nil ?_
        refine W.seq ?_
        refine W.condpT rfl (by omega) ?_
        refine W.skip ?_
        refine W.seq ?_
        refine W.block ?_
        refine W.seq ?_
        refine W.region ?_
        refine WL.mv rfl rfl ?_
        refine WL.as rfl rfl ?_
        refine WL.nil ?_
        refine W.seq ?_
        refine W.region ?_
        refine WL.callF rfl rfl (fun x p d => newWriter_c _) (fun r => ?_)
        refine WL.ex (fun b1 => ?_)
        refine WL.pure (fun er => ?_)
        subst er
        refine WL.as rfl rfl ?_
        refine WL.nil ?_
        refine W.seq ?_
        refine W.seq ?_
        refine W.region ?_
        refine WL.mv rfl rfl ?_
        refine WL.eqP (T := Ty) rfl rfl rfl ?_
        refine WL.nil ?_
        refine W.condF rfl ?_
        refine W.skip ?_
        refine W.seq ?_
        refine W.region ?_
        refine WL.mv rfl rfl ?_
        refine WL.mv rfl rfl ?_
        refine WL.mv rfl rfl ?_
        refine WL.addK rfl rfl rfl (wrap_i64 ⟨by omega, by omega⟩) ?_
        refine WL.slTn (T := Ty) rfl rfl rfl rfl rfl (by first | assumption | exact ROs.wide (by assumption)) (by first | assumption | omega | (simp; omega)) (fun u2 hu2 ru2 => ?_)
        refine WL.callM 0 rfl rfl rfl (fun x p d => xenc_c _ _ _ _ _ (by first | assumption | exact ROs.wide (by assumption) | exact ROs.mono (by assumption) (eqh_at 0 rfl p d) | exact ros_at 0 rfl p d | exact ros_at 1 rfl p d | exact ros_at 2 rfl p d | exact ros_at 3 rfl p d | exact ros_at 4 rfl p d) (by first | assumption | exact bok_nil) (by first | assumption | omega | exact Nat.zero_le _ | decide) (by first | assumption | omega | decide) (by first | assumption | omega | decide) (TabG.wide (by assumption))) (by repeat' first | exact FL.nil | apply FL.cons) ?_
        refine WL.nil ?_
        refine W.seq ?_
        refine W.region ?_
        refine WL.mv rfl rfl ?_
        refine WL.callV rfl rfl (fun x p d => len_c _ _ _ (by first | assumption | exact In.wide (by assumption) | exact In.mono (by assumption) (eqh_at 0 rfl p d) | exact in_at 0 rfl p d | exact in_at 1 rfl p d | exact in_at 2 rfl p d | exact in_at 3 rfl p d | exact in_at 4 rfl p d)) ?_
        refine WL.mv rfl rfl ?_
        refine WL.sub' (K := .i64) rfl rfl rfl ?_
        refine WL.as rfl rfl ?_
        refine WL.nil ?_
        refine W.seq ?_
        refine W.seq ?_
        simp only [List.nil_append]
        rw [wrap_i64 ⟨by omega, by omega⟩]
        refine W.drawA 50 rfl (fun σ0 hσ0 dσ0 => ?_)
        have fσ0_0 := in_at 0 rfl hσ0 dσ0
        refine WD.takeL 0 rfl (by decide +kernel) ?_
        refine WL.mv rfl rfl ?_
        refine WL.nilT ?_
        refine WD.takeL 1 rfl (by decide +kernel) ?_
        refine WL.eql rfl rfl rfl ?_
        refine WL.nilT ?_
        refine WD.takeL 2 rfl (by decide +kernel) ?_
        refine WL.mv rfl rfl ?_
        refine WL.nilT ?_
        refine WD.takeL 3 rfl (by decide +kernel) ?_
        refine WL.gdN rfl rfl rfl rfl rfl rfl ?_
        refine WL.nilT ?_
        refine WD.takeL 4 rfl (by decide +kernel) ?_
        refine WL.gdN rfl rfl rfl rfl rfl rfl ?_
        refine WL.nilT ?_
        refine WD.takeL 5 rfl (by decide +kernel) ?_
        refine WL.pickF rfl rfl rfl ?_
        refine WL.nilT ?_
        refine WD.takeL 6 rfl (by decide +kernel) ?_
        refine WL.mv rfl rfl ?_
        refine WL.nilT ?_
        refine WD.takeL 7 rfl (by decide +kernel) ?_
        refine WL.gY rfl rfl ?_
        refine WL.mv rfl rfl ?_
        refine WL.nilT ?_
        refine WD.takeL 8 rfl (by decide +kernel) ?_
        refine WL.gY rfl rfl ?_
        refine WL.gtr rfl rfl rfl ?_
        refine WL.nilT ?_
        refine WD.takeL 9 rfl (by decide +kernel) ?_
        refine WL.gY rfl rfl ?_
        refine WL.mv rfl rfl ?_
        refine WL.nilT ?_
        refine WD.takeL 10 rfl (by decide +kernel) ?_
        refine WL.gT rfl rfl (by omega) ?_
        refine WL.mv rfl rfl ?_
        refine WL.nilT ?_
        refine WD.takeL 11 rfl (by decide +kernel) ?_
        refine WL.gT rfl rfl (by omega) ?_
        refine WL.mv rfl rfl ?_
        refine WL.nilT ?_
        refine WD.takeL 12 rfl (by decide +kernel) ?_
        refine WL.gT rfl rfl (by omega) ?_
        refine WL.ix (T := Ty) rfl rfl rfl (by assumption) rfl rfl (by omega) (by first | omega | decide +kernel) ?_
        refine WL.nilT ?_
        refine WD.takeL 13 rfl (by decide +kernel) ?_
        refine WL.gT rfl rfl (by omega) ?_
        refine WL.ldKn (T := Ty) rfl rfl rfl rfl (by first | assumption | exact ROs.wide (by assumption)) (by assumption) ?_
        refine WL.nilT ?_
        refine WD.takeL 14 rfl (by decide +kernel) ?_
        refine WL.gT rfl rfl (by omega) ?_
        refine WL.mv rfl rfl ?_
        refine WL.nilT ?_
        refine WD.takeL 15 rfl (by decide +kernel) ?_
        refine WL.gT rfl rfl (by omega) ?_
        refine WL.mv rfl rfl ?_
        refine WL.nilT ?_
        refine WD.takeL 16 rfl (by decide +kernel) ?_
        refine WL.gT rfl rfl (by omega) ?_
        refine WL.subK rfl rfl rfl (wrap_i64 ⟨by omega, by omega⟩) ?_
        refine WL.nilT ?_
        refine WD.takeL 17 rfl (by decide +kernel) ?_
        refine WL.gT rfl rfl (by omega) ?_
        refine WL.ix (T := Ty) rfl rfl rfl (by assumption) rfl rfl (by omega) (by first | omega | decide +kernel) ?_
        refine WL.nilT ?_
        refine WD.takeL 18 rfl (by decide +kernel) ?_
        refine WL.gT rfl rfl (by omega) ?_
        refine WL.ldK (T := Ty) rfl rfl rfl rfl (by first | assumption | exact ROs.wide (by assumption)) (by assumption) (by omega) ?_
        refine WL.nilT ?_
        refine WD.takeL 19 rfl (by decide +kernel) ?_
        refine WL.gT rfl rfl (by omega) ?_
        refine WL.eql rfl rfl rfl ?_
        refine WL.nilT ?_
        refine WD.takeL 20 rfl (by decide +kernel) ?_
        refine WL.gY rfl rfl ?_
        refine WL.pickTp rfl rfl (by omega) rfl ?_
        refine WL.nilT ?_
        refine WD.takeL 21 rfl (by decide +kernel) ?_
        refine WL.gY rfl rfl ?_
        refine WL.mv rfl rfl ?_
        refine WL.nilT ?_
        refine WD.takeL 22 rfl (by decide +kernel) ?_
        refine WL.gT rfl rfl (by omega) ?_
        refine WL.mv rfl rfl ?_
        refine WL.nilT ?_
        refine WD.takeL 23 rfl (by decide +kernel) ?_
        refine WL.gT rfl rfl (by omega) ?_
        refine WL.neq rfl rfl rfl ?_
        refine WL.nilT ?_
        refine WD.takeL 24 rfl (by decide +kernel) ?_
        refine WL.gY rfl rfl ?_
        refine WL.pickTp rfl rfl (by omega) rfl ?_
        refine WL.nilT ?_
        refine WD.takeL 25 rfl (by decide +kernel) ?_
        refine WL.pickF rfl rfl rfl ?_
        refine WL.nilT ?_
        refine WD.takeL 26 rfl (by decide +kernel) ?_
        refine WL.mv rfl rfl ?_
        refine WL.nilT ?_
        refine WD.takeL 27 rfl (by decide +kernel) ?_
        refine WL.gF rfl rfl (by omega) ?_
        refine WL.mv rfl rfl ?_
        refine WL.nilT ?_
        refine WD.takeL 28 rfl (by decide +kernel) ?_
        refine WL.gF rfl rfl (by omega) ?_
        refine WL.gtr rfl rfl rfl ?_
        refine WL.nilT ?_
        refine WD.takeL 29 rfl (by decide +kernel) ?_
        refine WL.pickFp rfl rfl (by omega) rfl ?_
        refine WL.nilT ?_
        refine WD.takeL 30 rfl (by decide +kernel) ?_
        refine WL.mv rfl rfl ?_
        refine WL.nilT ?_
        refine WD.takeL 31 rfl (by decide +kernel) ?_
        refine WL.gF rfl rfl (by omega) ?_
        refine WL.mv rfl rfl ?_
        refine WL.nilT ?_
        refine WD.takeL 32 rfl (by decide +kernel) ?_
        refine WL.gF rfl rfl (by omega) ?_
        refine WL.gtr rfl rfl rfl ?_
        refine WL.nilT ?_
        refine WD.takeL 33 rfl (by decide +kernel) ?_
        refine WL.gF rfl rfl (by omega) ?_
        refine WL.mv rfl rfl ?_
        refine WL.nilT ?_
        refine WD.takeL 34 rfl (by decide +kernel) ?_
        refine WL.gT rfl rfl (by omega) ?_
        refine WL.mv rfl rfl ?_
        refine WL.nilT ?_
        refine WD.takeL 35 rfl (by decide +kernel) ?_
        refine WL.gT rfl rfl (by omega) ?_
        refine WL.mv rfl rfl ?_
        refine WL.nilT ?_
        refine WD.takeL 36 rfl (by decide +kernel) ?_
        refine WL.gT rfl rfl (by omega) ?_
        refine WL.ix (T := Ty) rfl rfl rfl (by assumption) rfl rfl (by omega) (by first | omega | decide +kernel) ?_
        refine WL.nilT ?_
        refine WD.takeL 37 rfl (by decide +kernel) ?_
        refine WL.gT rfl rfl (by omega) ?_
        refine WL.ldKn (T := Ty) rfl rfl rfl rfl (by first | assumption | exact ROs.wide (by assumption)) (by assumption) ?_
        refine WL.nilT ?_
        refine WD.takeL 38 rfl (by decide +kernel) ?_
        refine WL.gT rfl rfl (by omega) ?_
        refine WL.mv rfl rfl ?_
        refine WL.nilT ?_
        refine WD.takeL 39 rfl (by decide +kernel) ?_
        refine WL.gT rfl rfl (by omega) ?_
        refine WL.mv rfl rfl ?_
        refine WL.nilT ?_
        refine WD.takeL 40 rfl (by decide +kernel) ?_
        refine WL.gT rfl rfl (by omega) ?_
        refine WL.subK rfl rfl rfl (wrap_i64 ⟨by omega, by omega⟩) ?_
        refine WL.nilT ?_
        refine WD.takeL 41 rfl (by decide +kernel) ?_
        refine WL.gT rfl rfl (by omega) ?_
        refine WL.ix (T := Ty) rfl rfl rfl (by assumption) rfl rfl (by omega) (by first | omega | decide +kernel) ?_
        refine WL.nilT ?_
        refine WD.takeL 42 rfl (by decide +kernel) ?_
        refine WL.gT rfl rfl (by omega) ?_
        refine WL.ldK (T := Ty) rfl rfl rfl rfl (by first | assumption | exact ROs.wide (by assumption)) (by assumption) (by omega) ?_
        refine WL.nilT ?_
        refine WD.takeL 43 rfl (by decide +kernel) ?_
        refine WL.gT rfl rfl (by omega) ?_
        refine WL.neq rfl rfl rfl ?_
        refine WL.nilT ?_
        refine WD.takeL 44 rfl (by decide +kernel) ?_
        refine WL.gF rfl rfl (by omega) ?_
        refine WL.pickTp rfl rfl (by omega) rfl ?_
        refine WL.nilT ?_
        refine WD.takeL 45 rfl (by decide +kernel) ?_
        refine WL.gF rfl rfl (by omega) ?_
        refine WL.mv rfl rfl ?_
        refine WL.nilT ?_
        refine WD.takeL 46 rfl (by decide +kernel) ?_
        refine WL.gdTn rfl rfl rfl rfl rfl (by omega) ?_
        refine WL.nilT ?_
        refine WD.takeL 47 rfl (by decide +kernel) ?_
        refine WL.gdTn rfl rfl rfl rfl rfl (by omega) ?_
        refine WL.nilT ?_
        refine WD.takeL 48 rfl (by decide +kernel) ?_
        refine WL.gF rfl rfl (by omega) ?_
        refine WL.pickFp rfl rfl (by omega) rfl ?_
        refine WL.nilT ?_
        refine WD.takeL 49 rfl (by decide +kernel) ?_
        refine WL.pickFp rfl rfl (by omega) rfl ?_
        refine WL.nilT ?_
        refine WD.doneF hσ0 (by decide +kernel) (by repeat' first | exact FL.nil | apply FL.cons) ?_
        refine W.condF rfl ?_
        refine W.skip ?_
        refine W.region ?_
        refine WL.mv rfl rfl ?_
        refine WL.callV rfl rfl (fun x p d => len_c _ _ _ (by first | assumption | exact In.wide (by assumption) | exact In.mono (by assumption) (eqh_at 0 rfl p d) | exact in_at 0 rfl p d | exact in_at 1 rfl p d | exact in_at 2 rfl p d | exact in_at 3 rfl p d | exact in_at 4 rfl p d)) ?_
        refine WL.as rfl rfl ?_
        refine WL.nil ?_
        refine W.inBlock ?_
        refine W.region ?_
        refine WL.addK rfl rfl rfl (wrap_i64 ⟨by omega, by omega⟩) ?_
        refine WL.mv rfl rfl ?_
        refine WL.nil ?_
        refine W.drop 0 rfl (by repeat' first | exact FL.nil | apply FL.cons) ?_
        refine W.sub ?_ (next (j + 1 + 1) (by omega) (by omega))
        exact ⟨rfl, rfl, rfl, rfl, trivial⟩
      · have e1 : (encX (vs.take (j + 1))).length + 3 ≤ (encX (vs.take (j + 1 + 1))).length := hsn.2.1 hxy
        have e2 : (encX (vs.take (j + 1 + 1))).length ≤ (encX (vs.take (j + 1))).length + 77 := hsn.2.2
        refine W.seq ?_
        refine W.region ?_
        refine WL.lss rfl rfl rfl ?_
        refine WL.nil ?_
        refine W.seq ?_
        refine W.condpT rfl (by omega) ?_
        refine W.skip ?_
        refine W.seq ?_
        refine W.block ?_
        refine W.seq ?_
        refine W.region ?_
        refine WL.mv rfl rfl ?_
        refine WL.as rfl rfl ?_
        refine WL.nil ?_
        refine W.seq ?_
        refine W.region ?_
        refine WL.callF rfl rfl (fun x p d => newWriter_c _) (fun r => ?_)
        refine WL.ex (fun b1 => ?_)
        refine WL.pure (fun er => ?_)
        subst er
        refine WL.as rfl rfl ?_
        refine WL.nil ?_
        refine W.seq ?_
        refine W.seq ?_
        refine W.region ?_
        refine WL.mv rfl rfl ?_
        refine WL.eqP (T := Ty) rfl rfl rfl ?_
        refine WL.nil ?_
        refine W.condF rfl ?_
        refine W.skip ?_
        refine W.seq ?_
        refine W.region ?_
        refine WL.mv rfl rfl ?_
        refine WL.mv rfl rfl ?_
        refine WL.mv rfl rfl ?_
        refine WL.addK rfl rfl rfl (wrap_i64 ⟨by omega, by omega⟩) ?_
        refine WL.slTn (T := Ty) rfl rfl rfl rfl rfl (by first | assumption | exact ROs.wide (by assumption)) (by first | assumption | omega | (simp; omega)) (fun u2 hu2 ru2 => ?_)
        refine WL.callM 0 rfl rfl rfl (fun x p d => xenc_c _ _ _ _ _ (by first | assumption | exact ROs.wide (by assumption) | exact ROs.mono (by assumption) (eqh_at 0 rfl p d) | exact ros_at 0 rfl p d | exact ros_at 1 rfl p d | exact ros_at 2 rfl p d | exact ros_at 3 rfl p d | exact ros_at 4 rfl p d) (by first | assumption | exact bok_nil) (by first | assumption | omega | exact Nat.zero_le _ | decide) (by first | assumption | omega | decide) (by first | assumption | omega | decide) (TabG.wide (by assumption))) (by repeat' first | exact FL.nil | apply FL.cons) ?_
        refine WL.nil ?_
        refine W.seq ?_
        refine W.region ?_
        refine WL.mv rfl rfl ?_
        refine WL.callV rfl rfl (fun x p d => len_c _ _ _ (by first | assumption | exact In.wide (by assumption) | exact In.mono (by assumption) (eqh_at 0 rfl p d) | exact in_at 0 rfl p d | exact in_at 1 rfl p d | exact in_at 2 rfl p d | exact in_at 3 rfl p d | exact in_at 4 rfl p d)) ?_
        refine WL.mv rfl rfl ?_
        refine WL.sub' (K := .i64) rfl rfl rfl ?_
        refine WL.as rfl rfl ?_
        refine WL.nil ?_
        refine W.seq ?_
        refine W.seq ?_
        simp only [List.nil_append]
        rw [wrap_i64 ⟨by omega, by omega⟩]
        refine W.drawA 50 rfl (fun σ0 hσ0 dσ0 => ?_)
        have fσ0_0 := in_at 0 rfl hσ0 dσ0
        refine WD.takeL 0 rfl (by decide +kernel) ?_
        refine WL.mv rfl rfl ?_
        refine WL.nilT ?_
        refine WD.takeL 1 rfl (by decide +kernel) ?_
        refine WL.eql rfl rfl rfl ?_
        refine WL.nilT ?_
        refine WD.takeL 2 rfl (by decide +kernel) ?_
        refine WL.mv rfl rfl ?_
        refine WL.nilT ?_
        refine WD.takeL 3 rfl (by decide +kernel) ?_
        refine WL.gdN rfl rfl rfl rfl rfl rfl ?_
        refine WL.nilT ?_
        refine WD.takeL 4 rfl (by decide +kernel) ?_
        refine WL.gdN rfl rfl rfl rfl rfl rfl ?_
        refine WL.nilT ?_
        refine WD.takeL 5 rfl (by decide +kernel) ?_
        refine WL.pickF rfl rfl rfl ?_
        refine WL.nilT ?_
        refine WD.takeL 6 rfl (by decide +kernel) ?_
        refine WL.mv rfl rfl ?_
        refine WL.nilT ?_
        refine WD.takeL 7 rfl (by decide +kernel) ?_
        refine WL.gY rfl rfl ?_
        refine WL.mv rfl rfl ?_
        refine WL.nilT ?_
        refine WD.takeL 8 rfl (by decide +kernel) ?_
        refine WL.gY rfl rfl ?_
        refine WL.gtr rfl rfl rfl ?_
        refine WL.nilT ?_
        refine WD.takeL 9 rfl (by decide +kernel) ?_
        refine WL.gY rfl rfl ?_
        refine WL.mv rfl rfl ?_
        refine WL.nilT ?_
        refine WD.takeL 10 rfl (by decide +kernel) ?_
        refine WL.gT rfl rfl (by omega) ?_
        refine WL.mv rfl rfl ?_
        refine WL.nilT ?_
        refine WD.takeL 11 rfl (by decide +kernel) ?_
        refine WL.gT rfl rfl (by omega) ?_
        refine WL.mv rfl rfl ?_
        refine WL.nilT ?_
        refine WD.takeL 12 rfl (by decide +kernel) ?_
        refine WL.gT rfl rfl (by omega) ?_
        refine WL.ix (T := Ty) rfl rfl rfl (by assumption) rfl rfl (by omega) (by first | omega | decide +kernel) ?_
        refine WL.nilT ?_
        refine WD.takeL 13 rfl (by decide +kernel) ?_
        refine WL.gT rfl rfl (by omega) ?_
        refine WL.ldKn (T := Ty) rfl rfl rfl rfl (by first | assumption | exact ROs.wide (by assumption)) (by assumption) ?_
        refine WL.nilT ?_
        refine WD.takeL 14 rfl (by decide +kernel) ?_
        refine WL.gT rfl rfl (by omega) ?_
        refine WL.mv rfl rfl ?_
        refine WL.nilT ?_
        refine WD.takeL 15 rfl (by decide +kernel) ?_
        refine WL.gT rfl rfl (by omega) ?_
        refine WL.mv rfl rfl ?_
        refine WL.nilT ?_
        refine WD.takeL 16 rfl (by decide +kernel) ?_
        refine WL.gT rfl rfl (by omega) ?_
        refine WL.subK rfl rfl rfl (wrap_i64 ⟨by omega, by omega⟩) ?_
        refine WL.nilT ?_
        refine WD.takeL 17 rfl (by decide +kernel) ?_
        refine WL.gT rfl rfl (by omega) ?_
        refine WL.ix (T := Ty) rfl rfl rfl (by assumption) rfl rfl (by omega) (by first | omega | decide +kernel) ?_
        refine WL.nilT ?_
        refine WD.takeL 18 rfl (by decide +kernel) ?_
        refine WL.gT rfl rfl (by omega) ?_
        refine WL.ldK (T := Ty) rfl rfl rfl rfl (by first | assumption | exact ROs.wide (by assumption)) (by assumption) (by omega) ?_
        refine WL.nilT ?_
        refine WD.takeL 19 rfl (by decide +kernel) ?_
        refine WL.gT rfl rfl (by omega) ?_
        refine WL.eql rfl rfl rfl ?_
        refine WL.nilT ?_
        refine WD.takeL 20 rfl (by decide +kernel) ?_
        refine WL.gY rfl rfl ?_
        refine WL.pickTp rfl rfl (by omega) rfl ?_
        refine WL.nilT ?_
        refine WD.takeL 21 rfl (by decide +kernel) ?_
        refine WL.gY rfl rfl ?_
        refine WL.mv rfl rfl ?_
        refine WL.nilT ?_
        refine WD.takeL 22 rfl (by decide +kernel) ?_
        refine WL.gdTn rfl rfl rfl rfl rfl (by omega) ?_
        refine WL.nilT ?_
        refine WD.takeL 23 rfl (by decide +kernel) ?_
        refine WL.gdTn rfl rfl rfl rfl rfl (by omega) ?_
        refine WL.nilT ?_
        refine WD.takeL 24 rfl (by decide +kernel) ?_
        refine WL.gY rfl rfl ?_
        refine WL.pickFp rfl rfl (by omega) rfl ?_
        refine WL.nilT ?_
        refine WD.takeL 25 rfl (by decide +kernel) ?_
        refine WL.pickF rfl rfl rfl ?_
        refine WL.nilT ?_
        refine WD.takeL 26 rfl (by decide +kernel) ?_
        refine WL.mv rfl rfl ?_
        refine WL.nilT ?_
        refine WD.takeL 27 rfl (by decide +kernel) ?_
        refine WL.gY rfl rfl ?_
        refine WL.mv rfl rfl ?_
        refine WL.nilT ?_
        refine WD.takeL 28 rfl (by decide +kernel) ?_
        refine WL.gY rfl rfl ?_
        refine WL.gtr rfl rfl rfl ?_
        refine WL.nilT ?_
        refine WD.takeL 29 rfl (by decide +kernel) ?_
        refine WL.pickF rfl rfl rfl ?_
        refine WL.nilT ?_
        refine WD.takeL 30 rfl (by decide +kernel) ?_
        refine WL.mv rfl rfl ?_
        refine WL.nilT ?_
        refine WD.takeL 31 rfl (by decide +kernel) ?_
        refine WL.gF rfl rfl (by omega) ?_
        refine WL.mv rfl rfl ?_
        refine WL.nilT ?_
        refine WD.takeL 32 rfl (by decide +kernel) ?_
        refine WL.gF rfl rfl (by omega) ?_
        refine WL.gtr rfl rfl rfl ?_
        refine WL.nilT ?_
        refine WD.takeL 33 rfl (by decide +kernel) ?_
        refine WL.gF rfl rfl (by omega) ?_
        refine WL.mv rfl rfl ?_
        refine WL.nilT ?_
        refine WD.takeL 34 rfl (by decide +kernel) ?_
        refine WL.gT rfl rfl (by omega) ?_
        refine WL.mv rfl rfl ?_
        refine WL.nilT ?_
        refine WD.takeL 35 rfl (by decide +kernel) ?_
        refine WL.gT rfl rfl (by omega) ?_
        refine WL.mv rfl rfl ?_
        refine WL.nilT ?_
        refine WD.takeL 36 rfl (by decide +kernel) ?_
        refine WL.gT rfl rfl (by omega) ?_
        refine WL.ix (T := Ty) rfl rfl rfl (by assumption) rfl rfl (by omega) (by first | omega | decide +kernel) ?_
        refine WL.nilT ?_
        refine WD.takeL 37 rfl (by decide +kernel) ?_
        refine WL.gT rfl rfl (by omega) ?_
        refine WL.ldKn (T := Ty) rfl rfl rfl rfl (by first | assumption | exact ROs.wide (by assumption)) (by assumption) ?_
        refine WL.nilT ?_
        refine WD.takeL 38 rfl (by decide +kernel) ?_
        refine WL.gT rfl rfl (by omega) ?_
        refine WL.mv rfl rfl ?_
        refine WL.nilT ?_
        refine WD.takeL 39 rfl (by decide +kernel) ?_
        refine WL.gT rfl rfl (by omega) ?_
        refine WL.mv rfl rfl ?_
        refine WL.nilT ?_
        refine WD.takeL 40 rfl (by decide +kernel) ?_
        refine WL.gT rfl rfl (by omega) ?_
        refine WL.subK rfl rfl rfl (wrap_i64 ⟨by omega, by omega⟩) ?_
        refine WL.nilT ?_
        refine WD.takeL 41 rfl (by decide +kernel) ?_
        refine WL.gT rfl rfl (by omega) ?_
        refine WL.ix (T := Ty) rfl rfl rfl (by assumption) rfl rfl (by omega) (by first | omega | decide +kernel) ?_
        refine WL.nilT ?_
        refine WD.takeL 42 rfl (by decide +kernel) ?_
        refine WL.gT rfl rfl (by omega) ?_
        refine WL.ldK (T := Ty) rfl rfl rfl rfl (by first | assumption | exact ROs.wide (by assumption)) (by assumption) (by omega) ?_
        refine WL.nilT ?_
        refine WD.takeL 43 rfl (by decide +kernel) ?_
        refine WL.gT rfl rfl (by omega) ?_
        refine WL.neq rfl rfl rfl ?_
        refine WL.nilT ?_
        refine WD.takeL 44 rfl (by decide +kernel) ?_
        refine WL.gF rfl rfl (by omega) ?_
        refine WL.pickTp rfl rfl (by omega) rfl ?_
        refine WL.nilT ?_
        refine WD.takeL 45 rfl (by decide +kernel) ?_
        refine WL.gF rfl rfl (by omega) ?_
        refine WL.mv rfl rfl ?_
        refine WL.nilT ?_
        refine WD.takeL 46 rfl (by decide +kernel) ?_
        refine WL.gT rfl rfl (by omega) ?_
        refine WL.mv rfl rfl ?_
        refine WL.nilT ?_
        refine WD.takeL 47 rfl (by decide +kernel) ?_
        refine WL.gT rfl rfl (by omega) ?_
        refine WL.lss rfl rfl rfl ?_
        refine WL.nilT ?_
        refine WD.takeL 48 rfl (by decide +kernel) ?_
        refine WL.gF rfl rfl (by omega) ?_
        refine WL.pickTp rfl rfl (by omega) rfl ?_
        refine WL.nilT ?_
        refine WD.takeL 49 rfl (by decide +kernel) ?_
        refine WL.pickFp rfl rfl (by omega) rfl ?_
        refine WL.nilT ?_
        refine WD.doneF hσ0 (by decide +kernel) (by repeat' first | exact FL.nil | apply FL.cons) ?_
        refine W.condpF rfl (by omega) ?_
        refine W.skip ?_
        refine W.region ?_
        refine WL.mv rfl rfl ?_
        refine WL.callV rfl rfl (fun x p d => len_c _ _ _ (by first | assumption | exact In.wide (by assumption) | exact In.mono (by assumption) (eqh_at 0 rfl p d) | exact in_at 0 rfl p d | exact in_at 1 rfl p d | exact in_at 2 rfl p d | exact in_at 3 rfl p d | exact in_at 4 rfl p d)) ?_
        refine WL.as rfl rfl ?_
        refine WL.nil ?_
        refine W.inBlock ?_
        refine W.region ?_
        refine WL.addK rfl rfl rfl (wrap_i64 ⟨by omega, by omega⟩) ?_
        refine WL.mv rfl rfl ?_
        refine WL.nil ?_
        refine W.drop 0 rfl (by repeat' first | exact FL.nil | apply FL.cons) ?_
        refine W.sub ?_ (next (j + 1 + 1) (by omega) (by omega))
        exact ⟨rfl, rfl, rfl, rfl, trivial⟩
  · have hie : i = vs.length := by omega
    refine W.seq ?_
    refine W.region ?_
    refine WL.lss rfl rfl rfl ?_
    refine WL.nil ?_
    refine W.seq ?_
    refine W.condpF rfl (by omega) ?_
    refine W.exit rfl ?_
    refine W.seq ?_
    refine W.region ?_
    refine WL.callT rfl rfl (fun x p d => awake5_c _ (TabG.wide (by assumption))) ?_
    refine WL.as rfl rfl ?_
    refine WL.nil ?_
    exact W.ret1 rfl rfl (fun h p => rfl)
end Go.Proofs.YtjibmfkhhljhcaaDoor
