/- DirePlays. -/
import Derived.Test.YtlmhjkbbooghfaaStc
import Derived.Test.YtlmhjkbbooghfaaNum
import Derived.Test.YtlmhjkbbooghfaaTab
import Derived.Test.YtlmhjkbbooghfaaDireAwake
import Derived.Test.YtlmhjkbbooghfaaDirePin
set_option linter.unusedSimpArgs false
set_option linter.unusedVariables false
set_option maxRecDepth 20000
set_option maxHeartbeats 4000000
namespace Go.Proofs.Ytlmhjkbbooghfaa
open Go
attribute [local irreducible] W WL Fn Buf ROs SL eptr box Rd Src bndOK WD RB Reads In Mp dirC dirZ kget kset kdel
theorem DirePlays_fn (ρ : Hp) (v0 : Value) (z0 : List Int) (r0 : ROs ρ 1 v0 (z0.map (Value.int .i64))) (m0 : ∀ n ∈ z0, (Lit.int .i64 n).wf = true) (y0 : z0.length * 8 ≤ 140737488351232) (v1 : Value) (z1 : List (Value × List (Int × Int))) (r1 : ROs ρ 1 v1 (z1.map (·.1))) (m1 : ∀ y ∈ z1, ROs ρ 2 y.1 (y.2.flatMap (twoC .i64 .u64)) ∧ (∀ q ∈ y.2, (Lit.int .i64 q.1).wf = true ∧ (Lit.int .u64 q.2).wf = true) ∧ y.2.length * 16 ≤ 140737488351232) (y1 : z1.length * 24 ≤ 140737488351232) :
    Fn Try.prog 6 #[v0, v1] ρ [] (fun r _ => r = .bool true) := by
  have s0 := r0.slm
  have s1 := r1.slm
  refine in6 rfl rfl ?_
  refine W.seq ?_
  refine W.region ?_
  refine WL.as rfl rfl ?_
  refine WL.nil ?_
  refine W.seq ?_
  refine W.region ?_
  refine WL.callF rfl rfl (fun x p d => new_z _) (fun r => ?_)
  refine WL.ex (fun b0 => ?_)
  refine WL.pure (fun er => ?_)
  subst er
  refine WL.as rfl rfl ?_
  refine WL.nil ?_
  refine W.seq ?_
  refine W.seq ?_
  refine W.region ?_
  refine WL.mv rfl rfl ?_
  refine WL.eqP (T := Ty) rfl rfl rfl ?_
  refine WL.nil ?_
  refine W.condF rfl ?_
  refine W.skip ?_
  refine W.seq ?_
  refine W.region ?_
  refine WL.alF (T := Ty) rfl rfl (by repeat' first | exact FL.nil | apply FL.cons) (fun b1 => ?_)
  refine WL.nil ?_
  refine W.seq ?_
  refine W.region ?_
  refine WL.mkMap .i64 rfl (fun b2 => ?_)
  refine WL.as rfl rfl ?_
  refine WL.nil ?_
  refine W.seq ?_
  refine W.seq ?_
  refine W.region ?_
  refine WL.as rfl rfl ?_
  refine WL.nil ?_
  refine W.block ?_
  rw [dirZ_new]
  refine W.cutG2 (τ := Nat) (fun _ => [(4, .bool false)]) (fun _ => []) (fun _ _ => True) ?_ (fun cut0 => ?_)
  · intro _ ρ' le' _
    refine W.seq ?_
    refine W.region ?_
    refine WL.callT rfl rfl (fun x p d => awake18_c _) ?_
    refine WL.as rfl rfl ?_
    refine WL.nil ?_
    exact W.ret1 rfl rfl (fun h p => rfl)
  refine W.loopR (σ := Nat × List Plc × List Slo × List (Int × Value)) (fun s => [(0, v0), (1, v1), (4, .bool false), (5, pt b0 0), (6, pt b1 0), (7, .map (some b2)), (8, .int .i64 (s.1 : Int))])
    (fun s => [Mp .i64 b2 s.2.2.2, box b1 (s.2.2.1.flatMap sloC) 51, box b0 (dirC s.2.1) TD]) (fun s ρ' => s.1 ≤ 100 ∧ PInv s.1 s.2.1 s.2.2.1 s.2.2.2 ρ') (fun s => 100 - s.1)
    (0, List.replicate 16 (Pz.up zeroP), List.replicate 16 (Pz.up zeroP).s, []) ⟨rfl, rfl, rfl, rfl, rfl, rfl, rfl, trivial⟩ rfl ⟨Nat.zero_le _, rfl, rfl, List.nodup_nil, fun q _ => by unfold kget; rfl, fun j p s hp hs => by
      rw [List.eq_of_mem_replicate (List.mem_of_getElem? hp), List.eq_of_mem_replicate (List.mem_of_getElem? hs)]
      exact ⟨⟨⟨rfl, rfl, rfl, rfl, rfl, rfl⟩, [], [], ros_nil _ _, ros_nil _ _, ros_nil _ _, ros_nil _ _, by decide, by decide⟩, by decide, by decide, (fun h => by cases h), (fun _ => ⟨by decide, by unfold kget; rfl⟩)⟩⟩ ?_
  rintro ⟨i, L, S, kvs⟩ ρ1 le1 ⟨hi, hI⟩ next
  simp only [] at hi hI next ⊢
  replace r0 := r0.mono le1
  replace r1 := r1.mono le1
  by_cases hc : i < z0.length ∧ i < 100
  · obtain ⟨hlt, h100⟩ := hc
    obtain ⟨x, hx⟩ : ∃ x, z0[i]? = some x := ⟨_, List.getElem?_eq_getElem hlt⟩
    have hx1 : (z0.map (Value.int .i64))[i]? = some (.int .i64 x) := by rw [List.getElem?_map, hx]; rfl
    have hxw := wf_i64 (m0 x (List.mem_of_getElem? hx))
    refine W.seq ?_
    refine W.seq ?_
    refine W.region ?_
    refine WL.mv rfl rfl ?_
    refine WL.mv rfl rfl ?_
    refine WL.len (T := Ty) rfl rfl (by assumption) rfl ?_
    refine WL.lss rfl rfl rfl ?_
    refine WL.mv rfl rfl ?_
    refine WL.gT rfl rfl (by omega) ?_
    refine WL.mv rfl rfl ?_
    refine WL.gT rfl rfl (by omega) ?_
    refine WL.lss rfl rfl rfl ?_
    refine WL.pickTp rfl rfl (by omega) rfl ?_
    refine WL.nil ?_
    refine W.condpT rfl (by omega) ?_
    refine W.skip ?_
    refine W.seq ?_
    refine W.block ?_
    refine W.seq ?_
    refine W.region ?_
    refine WL.mv rfl rfl ?_
    refine WL.mv rfl rfl ?_
    refine WL.ix (T := Ty) rfl rfl rfl (by assumption) rfl rfl (by omega) (by first | omega | decide +kernel) ?_
    refine WL.ldKn (T := Ty) rfl rfl rfl rfl (by first | assumption | exact ROs.wide (by assumption)) (by assumption) ?_
    refine WL.shrS (c := 4) rfl rfl rfl (by omega) (by decide) ?_
    refine WL.andI rfl rfl rfl (by decide) ?_
    refine WL.subK rfl rfl rfl (wrap_i64 ⟨by omega, by omega⟩) ?_
    refine WL.as rfl rfl ?_
    refine WL.nil ?_
    refine W.seq ?_
    refine W.seq ?_
    refine W.region ?_
    refine WL.mv rfl rfl ?_
    refine WL.mv rfl rfl ?_
    refine WL.ix (T := Ty) rfl rfl rfl (by assumption) rfl rfl (by omega) (by first | omega | decide +kernel) ?_
    refine WL.ldKn (T := Ty) rfl rfl rfl rfl (by first | assumption | exact ROs.wide (by assumption)) (by assumption) ?_
    refine WL.and rfl rfl rfl ?_
    refine WL.gtr rfl rfl rfl ?_
    refine WL.nil ?_
    refine W.cut (τ := Int) (fun id => [(0, v0), (1, v1), (4, .bool false), (5, pt b0 0), (6, pt b1 0), (7, .map (some b2)), (8, .int .i64 (i : Int)), (9, .int .i64 id)]) (fun _ => [Mp .i64 b2 kvs, box b1 (S.flatMap sloC) 51, box b0 (dirC L) TD]) (fun _ => True) ?_ (fun cut => ?_)
    · intro id _
      by_cases hin : 0 ≤ id ∧ id < 16
      · obtain ⟨j, rfl⟩ : ∃ j : Nat, id = (j : Int) := ⟨id.toNat, by omega⟩
        have hj : j < 16 := by omega
        obtain ⟨p, hp⟩ : ∃ p, L[j]? = some p := ⟨_, List.getElem?_eq_getElem (by have := hI.1; omega)⟩
        obtain ⟨s, hs⟩ : ∃ s, S[j]? = some s := ⟨_, List.getElem?_eq_getElem (by have := hI.2.1; omega)⟩
        obtain ⟨hA, g0, g1, gT, gF⟩ := hI.2.2.2.2 j p s hp hs
        have h16 := hI.1
        have hS16 := hI.2.1
        cases hk0 : p.taken with
        | true =>
          have hk := (gT hk0).2
          have hev := (gT hk0).1
          refine W.seq ?_
          refine W.region ?_
          refine WL.mv rfl rfl ?_
          refine WL.mv rfl rfl ?_
          refine WL.ix (T := Ty) rfl rfl rfl (by assumption) rfl rfl (by omega) (by first | omega | decide +kernel) ?_
          refine WL.ldKn (T := Ty) rfl rfl rfl rfl (by first | assumption | exact ROs.wide (by assumption)) (by assumption) ?_
          refine WL.shrS (c := 128) rfl rfl rfl (by omega) (by decide) ?_
          refine WL.andI rfl rfl rfl (by decide) ?_
          refine WL.as rfl rfl ?_
          refine WL.nil ?_
          refine W.seq ?_
          refine W.region ?_
          refine WL.mv rfl rfl ?_
          refine WL.geq rfl rfl rfl ?_
          refine WL.mv rfl rfl ?_
          refine WL.gY rfl rfl ?_
          refine WL.mv rfl rfl ?_
          refine WL.gY rfl rfl ?_
          refine WL.lss rfl rfl rfl ?_
          refine WL.pickT rfl rfl rfl ?_
          refine WL.as rfl rfl ?_
          refine WL.nil ?_
          refine W.seq ?_
          refine W.region ?_
          refine WL.mv rfl rfl ?_
          refine WL.mv rfl rfl ?_
          refine WL.luO (T := Ty) (j := 0) rfl rfl rfl rfl rfl rfl rfl rfl (by first | rw [‹kget _ _ = some _›] | rw [‹kget _ _ = none›]) ?_
          refine WL.mv rfl rfl ?_
          refine WL.extL rfl rfl rfl ?_
          refine WL.extL rfl rfl rfl ?_
          refine WL.as rfl rfl ?_
          refine WL.as rfl rfl ?_
          refine WL.nil ?_
          refine W.seq ?_
          refine W.seq ?_
          refine W.region ?_
          refine WL.mv rfl rfl ?_
          refine WL.mv rfl rfl ?_
          refine WL.ix (T := Ty) rfl rfl rfl (by assumption) rfl rfl (by omega) (by first | omega | decide +kernel) ?_
          refine WL.ldKn (T := Ty) rfl rfl rfl rfl (by first | assumption | exact ROs.wide (by assumption)) (by assumption) ?_
          refine WL.andI rfl rfl rfl (by decide) ?_
          refine WL.nil ?_
          refine W.block ?_
          refine W.seq ?_
          refine W.seq ?_
          refine W.region ?_
          refine WL.eql rfl rfl rfl ?_
          refine WL.as rfl rfl ?_
          refine WL.nil ?_
          refine W.cutG3 (τ := List Plc × List Slo × List (Int × Value)) (fun s => [(0, v0), (1, v1), (4, .bool false), (5, pt b0 0), (6, pt b1 0), (7, .map (some b2)), (8, .int .i64 (i : Int)), (9, .int .i64 (j : Int)), (11, .bool (decide ((j : Int) < 16)))]) (fun s => [Mp .i64 b2 s.2.2, box b1 (s.2.1.flatMap sloC) 51, box b0 (dirC s.1) TD]) (fun s ρ' => PInv (i + 1) s.1 s.2.1 s.2.2 ρ') ?_ (fun cut => ?_)
          · rintro ⟨L, S, kvs⟩ ρ2 le2 hI
            simp only [] at hI ⊢
            have n2 : ROs ρ2 2 nilV (([] : List (Int × Int)).flatMap smC) := ros_nil _ _
            have n5 : ROs ρ2 5 nilV (([] : List Prt).flatMap paC) := ros_nil _ _

            obtain ⟨p, hp⟩ : ∃ p, L[j]? = some p := ⟨_, List.getElem?_eq_getElem (by have := hI.1; omega)⟩
            obtain ⟨s, hs⟩ : ∃ s, S[j]? = some s := ⟨_, List.getElem?_eq_getElem (by have := hI.2.1; omega)⟩
            obtain ⟨hA, g0, g1, gT, gF⟩ := hI.2.2.2.2 j p s hp hs
            have h16 := hI.1
            cases hk0 : p.taken with
            | true =>
              have hk := (gT hk0).2
              have hev := (gT hk0).1
              refine W.seq ?_
              refine W.region ?_
              refine WL.mv rfl rfl ?_
              refine WL.mv rfl rfl ?_
              refine WL.luO (T := Ty) (j := 0) rfl rfl rfl rfl rfl rfl rfl rfl (by first | rw [‹kget _ _ = some _›] | rw [‹kget _ _ = none›]) ?_
              refine WL.mv rfl rfl ?_
              refine WL.extL rfl rfl rfl ?_
              refine WL.extL rfl rfl rfl ?_
              refine WL.as rfl rfl ?_
              refine WL.as rfl rfl ?_
              refine WL.nil ?_
              refine W.seq ?_
              refine W.region ?_
              refine WL.mv rfl rfl ?_
              refine WL.mv rfl rfl ?_
              refine WL.callV rfl rfl (fun x p d => look_no _ _ _ _ _ (by first | assumption | exact RB.wide (by assumption) | exact In.rb (by assumption) | exact rb_at 0 rfl p d | exact rb_at 1 rfl p d | exact rb_at 2 rfl p d | exact rb_at 3 rfl p d | exact rb_at 4 rfl p d | exact rb_at 5 rfl p d) (by first | assumption | rfl) (by first | assumption | omega | decide) (by first | assumption | omega | decide) (by first | assumption | omega | decide)) ?_
              refine WL.mv rfl rfl ?_
              refine WL.extL rfl rfl rfl ?_
              refine WL.extL rfl rfl rfl ?_
              refine WL.alF (T := Ty) rfl rfl (by repeat' first | exact FL.nil | apply FL.cons) (fun b3 => ?_)
              refine WL.stAO (T := Ty) (j := 0) rfl rfl rfl rfl (by repeat' first | exact AO.nil | apply AO.cons (by first | rfl | exact SL.one (by assumption))) rfl rfl (by repeat' first | exact FL.nil | apply FL.cons) (by repeat' first | exact FL.nil | apply FL.cons) ?_
              refine WL.as rfl rfl ?_
              refine WL.nil ?_
              refine W.seq ?_
              refine W.region ?_
              refine WL.mv rfl rfl ?_
              refine WL.mv rfl rfl ?_
              refine WL.callV rfl rfl (fun x p d => flag_in _ _ _ _ _ (by first | assumption | exact RB.wide (by assumption) | exact In.rb (by assumption) | exact rb_at 0 rfl p d | exact rb_at 1 rfl p d | exact rb_at 2 rfl p d | exact rb_at 3 rfl p d | exact rb_at 4 rfl p d | exact rb_at 5 rfl p d) (by first | assumption | rfl) (by first | assumption | omega | decide) (by first | assumption | rfl)) ?_
              refine WL.mv rfl rfl ?_
              refine WL.extL rfl rfl rfl ?_
              refine WL.extL rfl rfl rfl ?_
              refine WL.as rfl rfl ?_
              refine WL.as rfl rfl ?_
              refine WL.nil ?_
              refine W.seq ?_
              refine W.drawA 41 rfl (fun σ0 hσ0 dσ0 => ?_)
              have fσ0_0 := rb_at 0 rfl hσ0 dσ0
              have fσ0_1 := in_at 1 rfl hσ0 dσ0
              have fσ0_2 := rb_at 2 rfl hσ0 dσ0
              have fσ0_3 := rb_at 3 rfl hσ0 dσ0
              refine WD.takeL 0 rfl (by decide +kernel) ?_
              refine WL.mv rfl rfl ?_
              refine WL.nilT ?_
              refine WD.takeL 1 rfl (by decide +kernel) ?_
              refine WL.mv rfl rfl ?_
              refine WL.nilT ?_
              refine WD.takeL 2 rfl (by decide +kernel) ?_
              refine WL.mv rfl rfl ?_
              refine WL.nilT ?_
              refine WD.takeL 3 rfl (by decide +kernel) ?_
              refine WL.gT rfl rfl (by omega) ?_
              refine WL.mv rfl rfl ?_
              refine WL.nilT ?_
              refine WD.takeL 4 rfl (by decide +kernel) ?_
              refine WL.gT rfl rfl (by omega) ?_
              refine WL.not rfl rfl ?_
              refine WL.nilT ?_
              refine WD.takeL 5 rfl (by decide +kernel) ?_
              refine WL.pickTp rfl rfl (by omega) rfl ?_
              refine WL.nilT ?_
              refine WD.takeL 6 rfl (by decide +kernel) ?_
              refine WL.neB (T := Ty) rfl rfl rfl rfl ?_
              refine WL.nilT ?_
              refine WD.takeL 7 rfl (by decide +kernel) ?_
              refine WL.mv rfl rfl ?_
              refine WL.nilT ?_
              refine WD.takeL 8 rfl (by decide +kernel) ?_
              refine WL.gY rfl rfl ?_
              refine WL.mv rfl rfl ?_
              refine WL.nilT ?_
              refine WD.takeL 9 rfl (by decide +kernel) ?_
              refine WL.gY rfl rfl ?_
              refine WL.mv rfl rfl ?_
              refine WL.nilT ?_
              refine WD.takeL 10 rfl (by decide +kernel) ?_
              refine WL.gdN rfl rfl rfl rfl rfl rfl ?_
              refine WL.nilT ?_
              refine WD.takeL 11 rfl (by decide +kernel) ?_
              refine WL.gdN rfl rfl rfl rfl rfl rfl ?_
              refine WL.nilT ?_
              refine WD.takeL 12 rfl (by decide +kernel) ?_
              refine WL.gdN rfl rfl rfl rfl rfl rfl ?_
              refine WL.nilT ?_
              refine WD.takeL 13 rfl (by decide +kernel) ?_
              refine WL.gdN rfl rfl rfl rfl rfl rfl ?_
              refine WL.nilT ?_
              refine WD.takeL 14 rfl (by decide +kernel) ?_
              refine WL.gdN rfl rfl rfl rfl rfl rfl ?_
              refine WL.nilT ?_
              refine WD.takeL 15 rfl (by decide +kernel) ?_
              refine WL.gdN rfl rfl rfl rfl rfl rfl ?_
              refine WL.nilT ?_
              refine WD.takeL 16 rfl (by decide +kernel) ?_
              refine WL.gY rfl rfl ?_
              refine WL.pickF rfl rfl rfl ?_
              refine WL.nilT ?_
              refine WD.takeL 17 rfl (by decide +kernel) ?_
              refine WL.pickF rfl rfl rfl ?_
              refine WL.nilT ?_
              refine WD.takeL 18 rfl (by decide +kernel) ?_
              refine WL.mv rfl rfl ?_
              refine WL.nilT ?_
              refine WD.takeL 19 rfl (by decide +kernel) ?_
              refine WL.gY rfl rfl ?_
              refine WL.mv rfl rfl ?_
              refine WL.nilT ?_
              refine WD.takeL 20 rfl (by decide +kernel) ?_
              refine WL.gY rfl rfl ?_
              refine WL.not rfl rfl ?_
              refine WL.nilT ?_
              refine WD.takeL 21 rfl (by decide +kernel) ?_
              refine WL.gY rfl rfl ?_
              refine WL.mv rfl rfl ?_
              refine WL.nilT ?_
              refine WD.takeL 22 rfl (by decide +kernel) ?_
              refine WL.gY rfl rfl ?_
              refine WL.ldABF (T := Ty) rfl rfl rfl rfl (by first | assumption | exact RB.wide (by assumption) | exact In.rb (by assumption)) rfl (by repeat' first | exact FL.nil | apply FL.cons) ?_
              refine WL.nilT ?_
              refine WD.takeL 23 rfl (by decide +kernel) ?_
              refine WL.gY rfl rfl ?_
              refine WL.bdC (T := Ty) rfl rfl rfl rfl (by repeat' first | exact CO.nil | apply CO.one (by first | rfl | exact SL.one (by assumption)) | apply CO.agg) rfl (by repeat' first | exact FL.nil | apply FL.cons) ?_
              refine WL.nilT ?_
              refine WD.oneL 24 rfl (by decide +kernel) ?_
              refine WL.gY rfl rfl ?_
              refine WL.callV rfl rfl (fun x p d => sameS_c _ _ _ _ _ _ (by first | assumption | exact ROs.wide (by assumption) | exact ROs.mono (by assumption) (eqh_at 0 rfl p d) | exact ros_at 0 rfl p d | exact ros_at 1 rfl p d | exact ros_at 2 rfl p d | exact ros_at 3 rfl p d | exact ros_at 4 rfl p d) (by first | assumption | exact ROs.wide (by assumption) | exact ROs.mono (by assumption) (eqh_at 0 rfl p d) | exact ros_at 0 rfl p d | exact ros_at 1 rfl p d | exact ros_at 2 rfl p d | exact ros_at 3 rfl p d | exact ros_at 4 rfl p d) (by first | assumption | exact ROs.wide (by assumption) | exact ROs.mono (by assumption) (eqh_at 0 rfl p d) | exact ros_at 0 rfl p d | exact ros_at 1 rfl p d | exact ros_at 2 rfl p d | exact ros_at 3 rfl p d | exact ros_at 4 rfl p d) (by first | assumption | exact ROs.wide (by assumption) | exact ROs.mono (by assumption) (eqh_at 0 rfl p d) | exact ros_at 0 rfl p d | exact ros_at 1 rfl p d | exact ros_at 2 rfl p d | exact ros_at 3 rfl p d | exact ros_at 4 rfl p d) (by first | assumption | omega | exact Nat.zero_le _) (by first | assumption | omega | exact Nat.zero_le _)) ?_
              refine WL.nilE ?_
              refine WD.takeL 25 rfl (by decide +kernel) ?_
              refine WL.gY rfl rfl ?_
              refine WL.not rfl rfl ?_
              refine WL.nilT ?_
              refine WD.takeL 26 rfl (by decide +kernel) ?_
              refine WL.gY rfl rfl ?_
              refine WL.pickT rfl rfl rfl ?_
              refine WL.nilT ?_
              refine WD.takeL 27 rfl (by decide +kernel) ?_
              refine WL.pickF rfl rfl rfl ?_
              refine WL.nilT ?_
              refine WD.takeL 28 rfl (by decide +kernel) ?_
              refine WL.mv rfl rfl ?_
              refine WL.nilT ?_
              refine WD.takeL 29 rfl (by decide +kernel) ?_
              refine WL.gY rfl rfl ?_
              refine WL.mv rfl rfl ?_
              refine WL.nilT ?_
              refine WD.takeL 30 rfl (by decide +kernel) ?_
              refine WL.gY rfl rfl ?_
              refine WL.mv rfl rfl ?_
              refine WL.nilT ?_
              refine WD.takeL 31 rfl (by decide +kernel) ?_
              refine WL.gY rfl rfl ?_
              refine WL.neB (T := Ty) rfl rfl rfl rfl ?_
              refine WL.nilT ?_
              refine WD.takeL 32 rfl (by decide +kernel) ?_
              refine WL.pickF rfl rfl rfl ?_
              refine WL.nilT ?_
              refine WD.takeL 33 rfl (by decide +kernel) ?_
              refine WL.mv rfl rfl ?_
              refine WL.nilT ?_
              refine WD.takeL 34 rfl (by decide +kernel) ?_
              refine WL.gY rfl rfl ?_
              refine WL.mv rfl rfl ?_
              refine WL.nilT ?_
              refine WD.takeL 35 rfl (by decide +kernel) ?_
              refine WL.gY rfl rfl ?_
              refine WL.mv rfl rfl ?_
              refine WL.nilT ?_
              refine WD.takeL 36 rfl (by decide +kernel) ?_
              refine WL.gY rfl rfl ?_
              refine WL.mv rfl rfl ?_
              refine WL.nilT ?_
              refine WD.takeL 37 rfl (by decide +kernel) ?_
              refine WL.gY rfl rfl ?_
              refine WL.mv rfl rfl ?_
              refine WL.nilT ?_
              refine WD.takeL 38 rfl (by decide +kernel) ?_
              refine WL.gY rfl rfl ?_
              refine WL.neq rfl rfl rfl ?_
              refine WL.nilT ?_
              refine WD.takeL 39 rfl (by decide +kernel) ?_
              refine WL.gY rfl rfl ?_
              refine WL.pickT rfl rfl rfl ?_
              refine WL.nilT ?_
              refine WD.takeL 40 rfl (by decide +kernel) ?_
              refine WL.pickF rfl rfl rfl ?_
              refine WL.nilT ?_
              refine WD.doneF hσ0 (by decide +kernel) (by repeat' first | exact FL.nil | apply FL.cons) ?_
              refine W.condpF rfl (by omega) ?_
              refine W.skip ?_
              refine W.inBlock ?_
              refine W.region ?_
              refine WL.mv rfl rfl ?_
              refine WL.addK rfl rfl rfl (wrap_i64 ⟨by omega, by omega⟩) ?_
              refine WL.as rfl rfl ?_
              refine WL.nil ?_
              refine W.drop 0 rfl (by repeat' first | exact FL.nil | apply FL.cons) ?_
              refine W.sub ?_ (next ⟨i + 1, L, S, kvs⟩ _ le2 ⟨by simp only []; omega, hI⟩ (by simp only []; omega))
              exact ⟨rfl, rfl, rfl, rfl, rfl, rfl, rfl, trivial⟩
            | false =>
              have hk := (gF hk0).2
              have hev := (gF hk0).1
              have hz := slo_row hs
              have hz2 : 0 + ((j : Nat) : Int).toNat * 8 + 8 ≤ (S.flatMap sloC).length := by rw [slo_in hI.2.1]; omega
              obtain ⟨st, se, li, ve, an, la, lv', cv'⟩ := s
              obtain ⟨⟨rfl, rfl, rfl, rfl, rfl, rfl⟩, l, ps, q1, q2, q3, q4, q5, q6⟩ := hA
              simp only [] at q2 q4 hz
              refine W.seq ?_
              refine W.region ?_
              refine WL.mv rfl rfl ?_
              refine WL.mv rfl rfl ?_
              refine WL.luO (T := Ty) (j := 0) rfl rfl rfl rfl rfl rfl rfl rfl (by first | rw [‹kget _ _ = some _›] | rw [‹kget _ _ = none›]) ?_
              refine WL.mv rfl rfl ?_
              refine WL.extL rfl rfl rfl ?_
              refine WL.extL rfl rfl rfl ?_
              refine WL.as rfl rfl ?_
              refine WL.as rfl rfl ?_
              refine WL.nil ?_
              refine W.seq ?_
              refine W.region ?_
              refine WL.mv rfl rfl ?_
              refine WL.mv rfl rfl ?_
              refine WL.callF rfl rfl (fun x p d => look_l _ _ _ _ _ _ _ (by first | assumption | exact RB.wide (by assumption) | exact In.rb (by assumption) | exact rb_at 0 rfl p d | exact rb_at 1 rfl p d | exact rb_at 2 rfl p d | exact rb_at 3 rfl p d | exact rb_at 4 rfl p d | exact rb_at 5 rfl p d) (by first | assumption | rfl) (by first | assumption | rfl) (by first | assumption | omega | decide) (by first | assumption | omega | decide) (by first | assumption | omega | decide) (by first | assumption | exact ROs.wide (by assumption) | exact ROs.mono (by assumption) (eqh_at 0 rfl p d) | exact ros_at 0 rfl p d | exact ros_at 1 rfl p d | exact ros_at 2 rfl p d | exact ros_at 3 rfl p d | exact ros_at 4 rfl p d) (by first | assumption | exact ROs.wide (by assumption) | exact ROs.mono (by assumption) (eqh_at 0 rfl p d) | exact ros_at 0 rfl p d | exact ros_at 1 rfl p d | exact ros_at 2 rfl p d | exact ros_at 3 rfl p d | exact ros_at 4 rfl p d) (by first | assumption | omega | decide) (by first | assumption | omega | decide)) (fun r => ?_)
              refine WL.ex (fun u3 => ?_)
              refine WL.ex (fun t3 => ?_)
              refine WL.pure (fun er => ?_)
              subst er
              refine WL.open ?_
              refine WL.fact (i := 0) rfl (fun h hb => hb.sl (flat_len sm_len _) (by omega)) (fun hsl3 => ?_)
              refine WL.fact (i := 1) rfl (fun h hb => hb.sl (flat_len pa_len _) (by omega)) (fun hst3 => ?_)
              refine WL.mv rfl rfl ?_
              refine WL.extL rfl rfl rfl ?_
              refine WL.extL rfl rfl rfl ?_
              refine WL.alF (T := Ty) rfl rfl (by repeat' first | exact FL.nil | apply FL.cons) (fun b4 => ?_)
              refine WL.stAO (T := Ty) (j := 0) rfl rfl rfl rfl (by repeat' first | exact AO.nil | apply AO.cons (by first | rfl | exact SL.one (by assumption))) rfl rfl (by repeat' first | exact FL.nil | apply FL.cons) (by repeat' first | exact FL.nil | apply FL.cons) ?_
              refine WL.as rfl rfl ?_
              refine WL.nil ?_
              refine W.seq ?_
              refine W.region ?_
              refine WL.mv rfl rfl ?_
              refine WL.mv rfl rfl ?_
              refine WL.callV rfl rfl (fun x p d => flag_no _ _ _ _ _ (by first | assumption | exact RB.wide (by assumption) | exact In.rb (by assumption) | exact rb_at 0 rfl p d | exact rb_at 1 rfl p d | exact rb_at 2 rfl p d | exact rb_at 3 rfl p d | exact rb_at 4 rfl p d | exact rb_at 5 rfl p d) (by first | assumption | rfl) (by first | assumption | omega | decide) (by first | assumption | rfl)) ?_
              refine WL.mv rfl rfl ?_
              refine WL.extL rfl rfl rfl ?_
              refine WL.extL rfl rfl rfl ?_
              refine WL.as rfl rfl ?_
              refine WL.as rfl rfl ?_
              refine WL.nil ?_
              refine W.seq ?_
              refine W.drawA 41 rfl (fun σ0 hσ0 dσ0 => ?_)
              have fσ0_0 := rb_at 0 rfl hσ0 dσ0
              have fσ0_1 := ros_at 1 rfl hσ0 dσ0
              have fσ0_2 := ros_at 2 rfl hσ0 dσ0
              have fσ0_3 := in_at 3 rfl hσ0 dσ0
              have fσ0_4 := rb_at 4 rfl hσ0 dσ0
              have fσ0_5 := rb_at 5 rfl hσ0 dσ0
              refine WD.takeL 0 rfl (by decide +kernel) ?_
              refine WL.mv rfl rfl ?_
              refine WL.nilT ?_
              refine WD.takeL 1 rfl (by decide +kernel) ?_
              refine WL.mv rfl rfl ?_
              refine WL.nilT ?_
              refine WD.takeL 2 rfl (by decide +kernel) ?_
              refine WL.mv rfl rfl ?_
              refine WL.nilT ?_
              refine WD.takeL 3 rfl (by decide +kernel) ?_
              refine WL.gT rfl rfl (by omega) ?_
              refine WL.mv rfl rfl ?_
              refine WL.nilT ?_
              refine WD.takeL 4 rfl (by decide +kernel) ?_
              refine WL.gT rfl rfl (by omega) ?_
              refine WL.not rfl rfl ?_
              refine WL.nilT ?_
              refine WD.takeL 5 rfl (by decide +kernel) ?_
              refine WL.pickTp rfl rfl (by omega) rfl ?_
              refine WL.nilT ?_
              refine WD.takeL 6 rfl (by decide +kernel) ?_
              refine WL.neB (T := Ty) rfl rfl rfl rfl ?_
              refine WL.nilT ?_
              refine WD.takeL 7 rfl (by decide +kernel) ?_
              refine WL.mv rfl rfl ?_
              refine WL.nilT ?_
              refine WD.takeL 8 rfl (by decide +kernel) ?_
              refine WL.gY rfl rfl ?_
              refine WL.mv rfl rfl ?_
              refine WL.nilT ?_
              refine WD.takeL 9 rfl (by decide +kernel) ?_
              refine WL.gY rfl rfl ?_
              refine WL.mv rfl rfl ?_
              refine WL.nilT ?_
              refine WD.takeL 10 rfl (by decide +kernel) ?_
              refine WL.gY rfl rfl ?_
              refine WL.ldABF (T := Ty) rfl rfl rfl rfl (by first | assumption | exact RB.wide (by assumption) | exact In.rb (by assumption)) rfl (by repeat' first | exact FL.nil | apply FL.cons) ?_
              refine WL.nilT ?_
              refine WD.takeL 11 rfl (by decide +kernel) ?_
              refine WL.gY rfl rfl ?_
              refine WL.mv rfl rfl ?_
              refine WL.nilT ?_
              refine WD.takeL 12 rfl (by decide +kernel) ?_
              refine WL.gY rfl rfl ?_
              refine WL.ixA (T := Ty) rfl rfl rfl rfl rfl (by omega) (by first | omega | decide +kernel) ?_
              refine WL.nilT ?_
              refine WD.takeL 13 rfl (by decide +kernel) ?_
              refine WL.gY rfl rfl ?_
              refine WL.ldAB (T := Ty) rfl rfl rfl rfl (by first | assumption | exact RB.wide (by assumption) | exact In.rb (by assumption)) (by assumption) (by first | assumption | omega) ?_
              refine WL.nilT ?_
              refine WD.oneL 14 rfl (by decide +kernel) ?_
              refine WL.gY rfl rfl ?_
              refine WL.callV rfl rfl (fun x p d => sameS_c _ _ _ _ _ _ (by first | assumption | exact ROs.wide (by assumption) | exact ROs.mono (by assumption) (eqh_at 0 rfl p d) | exact ros_at 0 rfl p d | exact ros_at 1 rfl p d | exact ros_at 2 rfl p d | exact ros_at 3 rfl p d | exact ros_at 4 rfl p d) (by first | assumption | exact ROs.wide (by assumption) | exact ROs.mono (by assumption) (eqh_at 0 rfl p d) | exact ros_at 0 rfl p d | exact ros_at 1 rfl p d | exact ros_at 2 rfl p d | exact ros_at 3 rfl p d | exact ros_at 4 rfl p d) (by first | assumption | exact ROs.wide (by assumption) | exact ROs.mono (by assumption) (eqh_at 0 rfl p d) | exact ros_at 0 rfl p d | exact ros_at 1 rfl p d | exact ros_at 2 rfl p d | exact ros_at 3 rfl p d | exact ros_at 4 rfl p d) (by first | assumption | exact ROs.wide (by assumption) | exact ROs.mono (by assumption) (eqh_at 0 rfl p d) | exact ros_at 0 rfl p d | exact ros_at 1 rfl p d | exact ros_at 2 rfl p d | exact ros_at 3 rfl p d | exact ros_at 4 rfl p d) (by first | assumption | omega | exact Nat.zero_le _) (by first | assumption | omega | exact Nat.zero_le _)) ?_
              refine WL.nilE ?_
              refine WD.takeL 15 rfl (by decide +kernel) ?_
              refine WL.gY rfl rfl ?_
              refine WL.not rfl rfl ?_
              refine WL.nilT ?_
              refine WD.takeL 16 rfl (by decide +kernel) ?_
              refine WL.gY rfl rfl ?_
              refine WL.pickT rfl rfl rfl ?_
              refine WL.nilT ?_
              refine WD.takeL 17 rfl (by decide +kernel) ?_
              refine WL.pickF rfl rfl rfl ?_
              refine WL.nilT ?_
              refine WD.takeL 18 rfl (by decide +kernel) ?_
              refine WL.mv rfl rfl ?_
              refine WL.nilT ?_
              refine WD.takeL 19 rfl (by decide +kernel) ?_
              refine WL.gY rfl rfl ?_
              refine WL.mv rfl rfl ?_
              refine WL.nilT ?_
              refine WD.takeL 20 rfl (by decide +kernel) ?_
              refine WL.gY rfl rfl ?_
              refine WL.not rfl rfl ?_
              refine WL.nilT ?_
              refine WD.takeL 21 rfl (by decide +kernel) ?_
              refine WL.gY rfl rfl ?_
              refine WL.mv rfl rfl ?_
              refine WL.nilT ?_
              refine WD.takeL 22 rfl (by decide +kernel) ?_
              refine WL.gdN rfl rfl rfl rfl rfl rfl ?_
              refine WL.nilT ?_
              refine WD.takeL 23 rfl (by decide +kernel) ?_
              refine WL.gdN rfl rfl rfl rfl rfl rfl ?_
              refine WL.nilT ?_
              refine WD.takeL 24 rfl (by decide +kernel) ?_
              refine WL.gdN rfl rfl rfl rfl rfl rfl ?_
              refine WL.nilT ?_
              refine WD.takeL 25 rfl (by decide +kernel) ?_
              refine WL.gdN rfl rfl rfl rfl rfl rfl ?_
              refine WL.nilT ?_
              refine WD.takeL 26 rfl (by decide +kernel) ?_
              refine WL.gY rfl rfl ?_
              refine WL.pickF rfl rfl rfl ?_
              refine WL.nilT ?_
              refine WD.takeL 27 rfl (by decide +kernel) ?_
              refine WL.pickF rfl rfl rfl ?_
              refine WL.nilT ?_
              refine WD.takeL 28 rfl (by decide +kernel) ?_
              refine WL.mv rfl rfl ?_
              refine WL.nilT ?_
              refine WD.takeL 29 rfl (by decide +kernel) ?_
              refine WL.gY rfl rfl ?_
              refine WL.mv rfl rfl ?_
              refine WL.nilT ?_
              refine WD.takeL 30 rfl (by decide +kernel) ?_
              refine WL.gY rfl rfl ?_
              refine WL.mv rfl rfl ?_
              refine WL.nilT ?_
              refine WD.takeL 31 rfl (by decide +kernel) ?_
              refine WL.gY rfl rfl ?_
              refine WL.neB (T := Ty) rfl rfl rfl rfl ?_
              refine WL.nilT ?_
              refine WD.takeL 32 rfl (by decide +kernel) ?_
              refine WL.pickF rfl rfl rfl ?_
              refine WL.nilT ?_
              refine WD.takeL 33 rfl (by decide +kernel) ?_
              refine WL.mv rfl rfl ?_
              refine WL.nilT ?_
              refine WD.takeL 34 rfl (by decide +kernel) ?_
              refine WL.gY rfl rfl ?_
              refine WL.mv rfl rfl ?_
              refine WL.nilT ?_
              refine WD.takeL 35 rfl (by decide +kernel) ?_
              refine WL.gY rfl rfl ?_
              refine WL.mv rfl rfl ?_
              refine WL.nilT ?_
              refine WD.takeL 36 rfl (by decide +kernel) ?_
              refine WL.gdN rfl rfl rfl rfl rfl rfl ?_
              refine WL.nilT ?_
              refine WD.takeL 37 rfl (by decide +kernel) ?_
              refine WL.gdN rfl rfl rfl rfl rfl rfl ?_
              refine WL.nilT ?_
              refine WD.takeL 38 rfl (by decide +kernel) ?_
              refine WL.gdN rfl rfl rfl rfl rfl rfl ?_
              refine WL.nilT ?_
              refine WD.takeL 39 rfl (by decide +kernel) ?_
              refine WL.gY rfl rfl ?_
              refine WL.pickF rfl rfl rfl ?_
              refine WL.nilT ?_
              refine WD.takeL 40 rfl (by decide +kernel) ?_
              refine WL.pickF rfl rfl rfl ?_
              refine WL.nilT ?_
              refine WD.doneF hσ0 (by decide +kernel) (by repeat' first | exact FL.nil | apply FL.cons) ?_
              refine W.condF rfl ?_
              refine W.skip ?_
              refine W.inBlock ?_
              refine W.region ?_
              refine WL.mv rfl rfl ?_
              refine WL.addK rfl rfl rfl (wrap_i64 ⟨by omega, by omega⟩) ?_
              refine WL.as rfl rfl ?_
              refine WL.nil ?_
              refine W.drop 0 rfl (by repeat' first | exact FL.nil | apply FL.cons) ?_
              refine W.drop 0 rfl (by repeat' first | exact FL.nil | apply FL.cons) ?_
              refine W.drop 0 rfl (by repeat' first | exact FL.nil | apply FL.cons) ?_
              refine W.sub ?_ (next ⟨i + 1, L, S, kvs⟩ _ le2 ⟨by simp only []; omega, hI⟩ (by simp only []; omega))
              exact ⟨rfl, rfl, rfl, rfl, rfl, rfl, rfl, trivial⟩
          · rcases (by omega : x % (3 + 1) = 0 ∨ x % (3 + 1) = 1 ∨ x % (3 + 1) = 2 ∨ x % (3 + 1) = 3) with hx4 | hx4 | hx4 | hx4
            · refine W.condpT rfl (by omega) ?_
              refine W.skip ?_
              refine W.condpT rfl (by omega) ?_
              refine W.seq ?_
              refine W.region ?_
              refine WL.mv rfl rfl ?_
              refine WL.mv rfl rfl ?_
              refine WL.gT rfl rfl (by omega) ?_
              refine WL.mv rfl rfl ?_
              refine WL.gT rfl rfl (by omega) ?_
              refine WL.not rfl rfl ?_
              refine WL.pickTp rfl rfl (by omega) rfl ?_
              refine WL.as rfl rfl ?_
              refine WL.nil ?_
              refine W.seq ?_
              refine W.seq ?_
              refine W.region ?_
              refine WL.mv rfl rfl ?_
              refine WL.mv rfl rfl ?_
              refine WL.mv rfl rfl ?_
              refine WL.callV rfl rfl (fun x p d => take_no _ _ _ _ _ _ (by first | assumption | exact RB.wide (by assumption) | exact In.rb (by assumption) | exact rb_at 0 rfl p d | exact rb_at 1 rfl p d | exact rb_at 2 rfl p d | exact rb_at 3 rfl p d | exact rb_at 4 rfl p d | exact rb_at 5 rfl p d) (by first | assumption | rfl) (by first | assumption | omega | decide) (by first | assumption | rfl)) ?_
              refine WL.mv rfl rfl ?_
              refine WL.neB (T := Ty) rfl rfl rfl rfl ?_
              refine WL.nil ?_
              refine W.condF rfl ?_
              refine W.skip ?_
              refine W.seq ?_
              refine W.region ?_
              refine WL.mv rfl rfl ?_
              refine WL.nil ?_
              refine W.condF rfl ?_
              refine W.skip ?_
              refine W.inBlock ?_
              refine W.sub ?_ (cut ⟨L, S, kvs⟩ ρ1 (Le.refl _) (hI.mono (by omega) (Le.refl _)))
              exact ⟨rfl, rfl, rfl, rfl, rfl, rfl, rfl, rfl, rfl, trivial⟩
            · refine W.condpF rfl (by omega) ?_
              refine W.region ?_
              refine WL.eql rfl rfl rfl ?_
              refine WL.as rfl rfl ?_
              refine WL.nil ?_
              refine W.condpT rfl (by omega) ?_
              refine W.seq ?_
              refine W.region ?_
              refine WL.mv rfl rfl ?_
              refine WL.mv rfl rfl ?_
              refine WL.gT rfl rfl (by omega) ?_
              refine WL.mv rfl rfl ?_
              refine WL.gT rfl rfl (by omega) ?_
              refine WL.not rfl rfl ?_
              refine WL.pickTp rfl rfl (by omega) rfl ?_
              refine WL.as rfl rfl ?_
              refine WL.nil ?_
              refine W.seq ?_
              refine W.seq ?_
              refine W.region ?_
              refine WL.mv rfl rfl ?_
              refine WL.mv rfl rfl ?_
              refine WL.mv rfl rfl ?_
              refine WL.callV rfl rfl (fun x p d => take_no _ _ _ _ _ _ (by first | assumption | exact RB.wide (by assumption) | exact In.rb (by assumption) | exact rb_at 0 rfl p d | exact rb_at 1 rfl p d | exact rb_at 2 rfl p d | exact rb_at 3 rfl p d | exact rb_at 4 rfl p d | exact rb_at 5 rfl p d) (by first | assumption | rfl) (by first | assumption | omega | decide) (by first | assumption | rfl)) ?_
              refine WL.mv rfl rfl ?_
              refine WL.neB (T := Ty) rfl rfl rfl rfl ?_
              refine WL.nil ?_
              refine W.condF rfl ?_
              refine W.skip ?_
              refine W.seq ?_
              refine W.region ?_
              refine WL.mv rfl rfl ?_
              refine WL.nil ?_
              refine W.condF rfl ?_
              refine W.skip ?_
              refine W.inBlock ?_
              refine W.sub ?_ (cut ⟨L, S, kvs⟩ ρ1 (Le.refl _) (hI.mono (by omega) (Le.refl _)))
              exact ⟨rfl, rfl, rfl, rfl, rfl, rfl, rfl, rfl, rfl, trivial⟩
            · by_cases hw : p.who = x / 128 % (3 + 1)
              · refine W.condpF rfl (by omega) ?_
                refine W.region ?_
                refine WL.eql rfl rfl rfl ?_
                refine WL.as rfl rfl ?_
                refine WL.nil ?_
                refine W.condpF rfl (by omega) ?_
                refine W.seq ?_
                refine W.region ?_
                refine WL.eql rfl rfl rfl ?_
                refine WL.as rfl rfl ?_
                refine WL.nil ?_
                refine W.condpT rfl (by omega) ?_
                refine W.seq ?_
                refine W.cut (τ := Nat × Value) (fun s => [(0, v0), (1, v1), (4, .bool false), (5, pt b0 0), (6, pt b1 0), (7, .map (some b2)), (8, .int .i64 (i : Int)), (9, .int .i64 (j : Int)), (10, .int .i64 (x / 128 % (3 + 1))), (11, .bool (decide ((j : Int) < 16))), (12, .int .i64 p.who), (13, .bool true), (15, pt s.1 0)]) (fun s => [box s.1 [.bool (decide (x / 512 % (1 + 1) = 1)), .bool (decide (x / 1024 % (1 + 1) = 1)), .int .i64 (x / 2048 % (3 + 1)), .int .i64 x, .bool false, .int .i64 0, nilV, s.2] 32, Buf 5 s.2 (([⟨i, 0, 0, 0, 0⟩] : List Prt).flatMap paC), Mp .i64 b2 kvs, box b1 (S.flatMap sloC) 51, box b0 (dirC L) TD]) (fun _ => True) ?_ (fun cutA => ?_)
                · rintro ⟨b3, u⟩ _
                  simp only []
                  generalize decide (x / 512 % (1 + 1) = 1) = th
                  generalize decide (x / 1024 % (1 + 1) = 1) = se
                  generalize x / 2048 % (3 + 1) = li
                  refine W.freeze 1 rfl (by repeat' first | exact FL.nil | apply FL.cons) (fun ρ2 le2 hin => ?_)
                  have hu := hin.ros
                  have su : SL u 1 := hu.sl (n := 1) rfl (by omega)
                  replace r0 := r0.mono le2
                  replace r1 := r1.mono le2
                  replace hI := hI.mono (Nat.le_refl _) le2
                  have n2 : ROs ρ2 2 nilV (([] : List (Int × Int)).flatMap smC) := ros_nil _ _
                  have hp1 : ([⟨i, 0, 0, 0, 0⟩] : List Prt).length ≤ 140737488355 := by show 1 ≤ _; decide
                  refine W.seq ?_
                  refine W.seq ?_
                  refine W.region ?_
                  refine WL.mv rfl rfl ?_
                  refine WL.len (T := Ty) rfl rfl (by assumption) rfl ?_
                  refine WL.gtr rfl rfl rfl ?_
                  refine WL.nil ?_
                  refine W.cut (τ := Value × List (Int × Int)) (fun s => [(0, v0), (1, v1), (4, .bool false), (5, pt b0 0), (6, pt b1 0), (7, .map (some b2)), (8, .int .i64 (i : Int)), (9, .int .i64 (j : Int)), (10, .int .i64 (x / 128 % (3 + 1))), (11, .bool (decide ((j : Int) < 16))), (12, .int .i64 p.who), (13, .bool true), (15, pt b3 0)]) (fun s => [box b3 [.bool th, .bool se, .int .i64 li, .int .i64 x, .bool false, .int .i64 0, s.1, u] 32, Mp .i64 b2 kvs, box b1 (S.flatMap sloC) 51, box b0 (dirC L) TD]) (fun s => ROs ρ2 2 s.1 (s.2.flatMap smC) ∧ s.2.length ≤ 8796093022208) ?_ (fun cutB => ?_)
                  · rintro ⟨lv, l⟩ ⟨hlv, hll⟩
                    simp only [] at hlv hll ⊢
                    have gv : (S.flatMap sloC)[0 + ((j : Nat) : Int).toNat * 8 + 3]? = some (.int .i64 s.ver) := slo_get hs 3 rfl
                    have sl : SL lv l.length := hlv.sl (flat_len sm_len l) (by omega)
                    obtain ⟨kvs1, hks⟩ : ∃ kvs1, kdel kvs (j : Int) = kvs1 := ⟨_, rfl⟩
                    obtain ⟨⟨e1, e2, e3, e4, e5, e6⟩, _⟩ := hA
                    refine W.seq ?_
                    refine W.region ?_
                    refine WL.mv rfl rfl ?_
                    refine WL.mv rfl rfl ?_
                    refine WL.gT rfl rfl (by omega) ?_
                    refine WL.mv rfl rfl ?_
                    refine WL.pickTp rfl rfl (by omega) rfl ?_
                    refine WL.mv rfl rfl ?_
                    refine WL.gY rfl rfl ?_
                    refine WL.mv rfl rfl ?_
                    refine WL.gY rfl rfl ?_
                    refine WL.mv rfl rfl ?_
                    refine WL.gY rfl rfl ?_
                    refine WL.eql rfl rfl rfl ?_
                    refine WL.pickT rfl rfl rfl ?_
                    refine WL.as rfl rfl ?_
                    refine WL.nil ?_
                    refine W.seq ?_
                    refine W.seq ?_
                    refine W.region ?_
                    refine WL.mv rfl rfl ?_
                    refine WL.mv rfl rfl ?_
                    refine WL.mv rfl rfl ?_
                    refine WL.ldAF (T := Ty) (j := 0) rfl rfl rfl rfl rfl rfl (by repeat' first | exact FL.nil | apply FL.cons) ?_
                    refine WL.callP 3 rfl rfl rfl (fun x p d => leave_l _ _ _ _ _ _ ⟨_, _, _, _, _, _, _, _⟩ _ _ (by first | assumption | rfl) (by first | assumption | rfl) (by first | assumption | omega | decide) (by first | assumption | rfl) (by first | assumption | rfl) (by first | assumption | omega | decide) (by first | assumption | omega | decide) (by first | assumption | exact ROs.wide (by assumption) | exact ROs.mono (by assumption) (eqh_at 0 rfl p d) | exact ros_at 0 rfl p d | exact ros_at 1 rfl p d | exact ros_at 2 rfl p d | exact ros_at 3 rfl p d | exact ros_at 4 rfl p d) (by first | assumption | exact ROs.wide (by assumption) | exact ROs.mono (by assumption) (eqh_at 0 rfl p d) | exact ros_at 0 rfl p d | exact ros_at 1 rfl p d | exact ros_at 2 rfl p d | exact ros_at 3 rfl p d | exact ros_at 4 rfl p d) (by first | assumption | omega | decide) (by first | assumption | omega | decide)) (by repeat' first | exact FL.nil | apply FL.cons) (fun r => ?_)
                    refine WL.ex (fun u4 => ?_)
                    refine WL.ex (fun t4 => ?_)
                    refine WL.pure (fun er => ?_)
                    subst er
                    refine WL.open ?_
                    refine WL.mv rfl rfl ?_
                    refine WL.neB (T := Ty) rfl rfl rfl rfl ?_
                    refine WL.nil ?_
                    rw [decide_eq_true hw]
                    refine W.condF rfl ?_
                    refine W.skip ?_
                    refine W.seq ?_
                    refine W.region ?_
                    refine WL.mv rfl rfl ?_
                    refine WL.nil ?_
                    refine W.condT rfl ?_
                    refine W.seq ?_
                    refine W.region ?_
                    refine WL.mv rfl rfl ?_
                    refine WL.ixA (T := Ty) rfl rfl rfl rfl rfl (by omega) (by first | omega | decide +kernel) ?_
                    refine WL.faN (T := Ty) rfl rfl rfl rfl rfl rfl rfl ?_
                    refine WL.ld (T := Ty) (j := 5) rfl rfl rfl rfl rfl (by assumption) ?_
                    refine WL.addK rfl rfl rfl (wrap_i64 ⟨by omega, by omega⟩) ?_
                    refine WL.faN (T := Ty) (off' := 3) rfl rfl rfl rfl rfl rfl rfl ?_
                    refine WL.stF (T := Ty) (j := 3) rfl rfl rfl rfl rfl rfl rfl (by repeat' first | exact FL.nil | apply FL.cons) (by repeat' first | exact FL.nil | apply FL.cons) ?_
                    refine WL.nil ?_
                    refine W.seq ?_
                    refine W.region ?_
                    refine WL.mv rfl rfl ?_
                    refine WL.ldAF (T := Ty) (j := 3) rfl rfl rfl rfl rfl rfl (by repeat' first | exact FL.nil | apply FL.cons) ?_
                    refine WL.ixA (T := Ty) rfl rfl rfl rfl rfl (by omega) (by first | omega | decide +kernel) ?_
                    have hSl := slo_in hS16
                    refine WL.stA (T := Ty) (j := 5) (cs := sloC ⟨th, se, li, s.ver + 1, false, 0, lv, u⟩) (c' := (S.set j ⟨th, se, li, s.ver + 1, false, 0, lv, u⟩).flatMap sloC) rfl rfl rfl rfl (AO.all (by repeat' first | exact AO.nil | apply AO.cons (by first | rfl | exact SL.one (by assumption)))) rfl (by rw [hSl]; show 0 + ((j : Nat) : Int).toNat * 8 + 8 ≤ 128; omega) (by rw [slo_put _ (by omega)]; exact FL.rfl _) (by repeat' first | exact FL.nil | apply FL.cons) ?_
                    refine WL.nil ?_
                    refine W.region ?_
                    refine WL.mv rfl rfl ?_
                    refine WL.mv rfl rfl ?_
                    refine WL.delO (T := Ty) (j := 4) rfl rfl rfl rfl rfl rfl (by assumption) (by repeat' first | exact FL.nil | apply FL.cons) ?_
                    refine WL.nil ?_
                    refine W.inBlock ?_
                    refine W.freeze 1 rfl (by repeat' first | exact FL.nil | apply FL.cons) (fun ρ3 le3 hin3 => ?_)
                    refine W.freeze 1 rfl (by repeat' first | exact FL.nil | apply FL.cons) (fun ρ4 le4 hin4 => ?_)
                    refine W.drop 1 rfl (by repeat' first | exact FL.nil | apply FL.cons) ?_
                    have f3 := (hin3.mono le4).ros
                    have f4 := hin4.ros
                    have le24 : Le ρ2 ρ4 := fun n o h => le4 n o (le3 n o h)
                    refine W.perm (List.perm_append_comm (l₁ := [_]) (l₂ := [_, _])) (W.sub ?_ (cut ⟨_, S.set j ⟨th, se, li, s.ver + 1, false, 0, lv, u⟩, kvs1⟩ ρ4 (fun n o h => le24 n o (le2 n o h)) ?_))
                    · exact ⟨rfl, rfl, rfl, rfl, rfl, rfl, rfl, rfl, rfl, trivial⟩
                    · refine hI.set le24 hj ⟨⟨rfl, rfl, rfl, by simp only []; omega, rfl, rfl⟩, l, [⟨i, 0, 0, 0, 0⟩], f3, hlv.mono le24, f4, hu.mono le24, hll, hp1⟩ (by simp only []; omega) (by simp only []; omega) ?_ ?_ (fun h => by cases h) (fun _ => ⟨by simp only []; omega, ?_⟩)
                      · rw [← hks]; exact kdel_nodup _ _ hI.2.2.1
                      · intro y hy; rw [← hks]; exact kget_del_other hy _
                      · rw [← hks]; exact kget_del_same _ _ hI.2.2.1
                  · refine W.condp rfl (fun hc => ?_) (fun hc => ?_)
                    · have hpos : 0 < z1.length := by omega
                      obtain ⟨k, hk1, hk2⟩ : ∃ k : Nat, (i : Int) % (z1.length : Int) = (k : Int) ∧ k < z1.length := ⟨i % z1.length, (Int.natCast_emod _ _).symm, Nat.mod_lt _ hpos⟩
                      obtain ⟨y, hy⟩ : ∃ y, z1[k]? = some y := ⟨_, List.getElem?_eq_getElem hk2⟩
                      have hy1 : (z1.map (·.1))[k]? = some y.1 := by rw [List.getElem?_map, hy]; rfl
                      obtain ⟨w1, _, w2⟩ := m1 y (List.mem_of_getElem? hy)
                      have w3 : ROs ρ2 2 y.1 (y.2.flatMap smC) := (w1.mono le1).mono le2
                      have sy : SL y.1 y.2.length := w3.sl (flat_len sm_len _) (by omega)
                      refine W.region ?_
                      refine WL.mv rfl rfl ?_
                      refine WL.mv rfl rfl ?_
                      refine WL.mv rfl rfl ?_
                      refine WL.len (T := Ty) rfl rfl (by assumption) rfl ?_
                      refine WL.remI rfl rfl rfl (by omega) (by omega) ?_
                      refine WL.ix (T := Ty) rfl rfl rfl (by assumption) rfl rfl (by omega) (by first | omega | decide +kernel) ?_
                      refine WL.ldK (T := Ty) rfl rfl rfl rfl (by first | assumption | exact ROs.wide (by assumption)) (by assumption) (by omega) ?_
                      refine WL.faN (T := Ty) (off' := 4) rfl rfl rfl rfl rfl rfl rfl ?_
                      refine WL.faN (T := Ty) (off' := 6) rfl rfl rfl rfl rfl rfl rfl ?_
                      refine WL.stF (T := Ty) (j := 0) rfl rfl rfl rfl (SL.one (by assumption)) rfl rfl (by repeat' first | exact FL.nil | apply FL.cons) (by repeat' first | exact FL.nil | apply FL.cons) ?_
                      refine WL.nil ?_
                      rw [hk1]
                      skip
                      refine W.sub ?_ (cutB ⟨y.1, y.2⟩ ⟨w3, by simp only []; omega⟩)
                      exact ⟨rfl, rfl, rfl, rfl, rfl, rfl, rfl, rfl, rfl, rfl, rfl, rfl, rfl, trivial⟩
                    · refine W.skip ?_
                      refine W.sub ?_ (cutB ⟨nilV, []⟩ ⟨n2, Nat.zero_le _⟩)
                      exact ⟨rfl, rfl, rfl, rfl, rfl, rfl, rfl, rfl, rfl, rfl, rfl, rfl, rfl, trivial⟩
                · refine W.drawA 29 rfl (fun σ0 hσ0 dσ0 => ?_)
                  have fσ0_0 := in_at 0 rfl hσ0 dσ0
                  have fσ0_1 := rb_at 1 rfl hσ0 dσ0
                  have fσ0_2 := rb_at 2 rfl hσ0 dσ0
                  refine WD.takeL 0 rfl (by decide +kernel) ?_
                  refine WL.mv rfl rfl ?_
                  refine WL.nilT ?_
                  refine WD.takeL 1 rfl (by decide +kernel) ?_
                  refine WL.mv rfl rfl ?_
                  refine WL.nilT ?_
                  refine WD.takeL 2 rfl (by decide +kernel) ?_
                  refine WL.ix (T := Ty) rfl rfl rfl (by assumption) rfl rfl (by omega) (by first | omega | decide +kernel) ?_
                  refine WL.nilT ?_
                  refine WD.takeL 3 rfl (by decide +kernel) ?_
                  refine WL.ldKn (T := Ty) rfl rfl rfl rfl (by first | assumption | exact ROs.wide (by assumption)) (by assumption) ?_
                  refine WL.nilT ?_
                  refine WD.takeL 4 rfl (by decide +kernel) ?_
                  refine WL.shrS (c := 512) rfl rfl rfl (by omega) (by decide) ?_
                  refine WL.nilT ?_
                  refine WD.takeL 5 rfl (by decide +kernel) ?_
                  refine WL.andI rfl rfl rfl (by decide) ?_
                  refine WL.nilT ?_
                  refine WD.takeL 6 rfl (by decide +kernel) ?_
                  refine WL.eql rfl rfl rfl ?_
                  refine WL.nilT ?_
                  refine WD.takeL 7 rfl (by decide +kernel) ?_
                  refine WL.mv rfl rfl ?_
                  refine WL.nilT ?_
                  refine WD.takeL 8 rfl (by decide +kernel) ?_
                  refine WL.mv rfl rfl ?_
                  refine WL.nilT ?_
                  refine WD.takeL 9 rfl (by decide +kernel) ?_
                  refine WL.ix (T := Ty) rfl rfl rfl (by assumption) rfl rfl (by omega) (by first | omega | decide +kernel) ?_
                  refine WL.nilT ?_
                  refine WD.takeL 10 rfl (by decide +kernel) ?_
                  refine WL.ldKn (T := Ty) rfl rfl rfl rfl (by first | assumption | exact ROs.wide (by assumption)) (by assumption) ?_
                  refine WL.nilT ?_
                  refine WD.takeL 11 rfl (by decide +kernel) ?_
                  refine WL.shrS (c := 1024) rfl rfl rfl (by omega) (by decide) ?_
                  refine WL.nilT ?_
                  refine WD.takeL 12 rfl (by decide +kernel) ?_
                  refine WL.andI rfl rfl rfl (by decide) ?_
                  refine WL.nilT ?_
                  refine WD.takeL 13 rfl (by decide +kernel) ?_
                  refine WL.eql rfl rfl rfl ?_
                  refine WL.nilT ?_
                  refine WD.takeL 14 rfl (by decide +kernel) ?_
                  refine WL.mv rfl rfl ?_
                  refine WL.nilT ?_
                  refine WD.takeL 15 rfl (by decide +kernel) ?_
                  refine WL.mv rfl rfl ?_
                  refine WL.nilT ?_
                  refine WD.takeL 16 rfl (by decide +kernel) ?_
                  refine WL.ix (T := Ty) rfl rfl rfl (by assumption) rfl rfl (by omega) (by first | omega | decide +kernel) ?_
                  refine WL.nilT ?_
                  refine WD.takeL 17 rfl (by decide +kernel) ?_
                  refine WL.ldKn (T := Ty) rfl rfl rfl rfl (by first | assumption | exact ROs.wide (by assumption)) (by assumption) ?_
                  refine WL.nilT ?_
                  refine WD.takeL 18 rfl (by decide +kernel) ?_
                  refine WL.shrS (c := 2048) rfl rfl rfl (by omega) (by decide) ?_
                  refine WL.nilT ?_
                  refine WD.takeL 19 rfl (by decide +kernel) ?_
                  refine WL.andI rfl rfl rfl (by decide) ?_
                  refine WL.nilT ?_
                  refine WD.takeL 20 rfl (by decide +kernel) ?_
                  refine WL.mv rfl rfl ?_
                  refine WL.nilT ?_
                  refine WD.takeL 21 rfl (by decide +kernel) ?_
                  refine WL.mv rfl rfl ?_
                  refine WL.nilT ?_
                  refine WD.takeL 22 rfl (by decide +kernel) ?_
                  refine WL.ix (T := Ty) rfl rfl rfl (by assumption) rfl rfl (by omega) (by first | omega | decide +kernel) ?_
                  refine WL.nilT ?_
                  refine WD.takeL 23 rfl (by decide +kernel) ?_
                  refine WL.ldKn (T := Ty) rfl rfl rfl rfl (by first | assumption | exact ROs.wide (by assumption)) (by assumption) ?_
                  refine WL.nilT ?_
                  refine WD.takeL 24 rfl (by decide +kernel) ?_
                  refine WL.mv rfl rfl ?_
                  refine WL.nilT ?_
                  refine WD.takeL 25 rfl (by decide +kernel) ?_
                  refine WL.bdC (T := Ty) rfl rfl rfl rfl (by repeat' first | exact CO.nil | apply CO.one (by first | rfl | exact SL.one (by assumption)) | apply CO.agg) rfl (by repeat' first | exact FL.nil | apply FL.cons) ?_
                  refine WL.nilT ?_
                  refine WD.twoL 26 28 rfl rfl (by decide +kernel) ?_ ?_
                  · refine WL.bsC (T := Ty) rfl rfl rfl rfl rfl rfl rfl (by repeat' first | exact CO.nil | apply CO.one (by first | rfl | exact SL.one (by assumption)) | apply CO.agg) rfl (by repeat' first | exact FL.nil | apply FL.cons) (fun u3 hu3 => ?_)
                    refine WL.nilH hσ0 (fun σ1 hσ1 dσ1 mσ1 => ?_)
                    have fσ0_0 := fσ0_0.mono mσ1
                    have fσ0_1 := fσ0_1.mono mσ1
                    have fσ0_2 := fσ0_2.mono mσ1
                    have fσ1_0 := ros_at 0 rfl hσ1 dσ1
                    refine WD.takeL 27 rfl (by decide +kernel) ?_
                    refine WL.bdC (T := Ty) rfl rfl rfl rfl (by repeat' first | exact CO.nil | apply CO.one (by first | rfl | exact SL.one (by assumption)) | apply CO.agg) rfl (by repeat' first | exact FL.nil | apply FL.cons) ?_
                    refine WL.nilT ?_
                    refine WD.oneL 28 rfl (by decide +kernel) ?_
                    refine WL.alF (T := Ty) rfl rfl (by repeat' first | exact FL.nil | apply FL.cons) (fun b4 => ?_)
                    refine WL.nilH hσ1 (fun σ2 hσ2 dσ2 mσ2 => ?_)
                    have fσ0_0 := fσ0_0.mono mσ2
                    have fσ0_1 := fσ0_1.mono mσ2
                    have fσ0_2 := fσ0_2.mono mσ2
                    have fσ1_0 := fσ1_0.mono mσ2
                    have fσ2_0 := rb_at 0 rfl hσ2 dσ2
                    refine WD.lastG hσ2 (by decide +kernel) (by repeat' first | exact FL.nil | apply FL.cons) rfl (by repeat' first | exact FL.nil | apply FL.cons) ?_
                    refine WL.stAO (T := Ty) (j := 0) rfl rfl rfl rfl (by repeat' first | exact AO.nil | apply AO.cons (by first | rfl | exact SL.one (by assumption))) rfl rfl (by repeat' first | exact FL.nil | apply FL.cons) (by repeat' first | exact FL.nil | apply FL.cons) ?_
                    refine WL.nil ?_
                    first | refine W.sub ?_ (cutA ⟨_, _⟩ trivial) | refine W.perm (List.Perm.swap _ _ _) (W.sub ?_ (cutA ⟨_, _⟩ trivial))
                    exact ⟨rfl, rfl, rfl, rfl, rfl, rfl, rfl, rfl, rfl, rfl, rfl, rfl, rfl, trivial⟩
                  · refine WL.alF (T := Ty) rfl rfl (by repeat' first | exact FL.nil | apply FL.cons) (fun b3 => ?_)
                    refine WL.nilH hσ0 (fun σ1 hσ1 dσ1 mσ1 => ?_)
                    have fσ0_0 := fσ0_0.mono mσ1
                    have fσ0_1 := fσ0_1.mono mσ1
                    have fσ0_2 := fσ0_2.mono mσ1
                    have fσ1_0 := rb_at 0 rfl hσ1 dσ1
                    refine WD.oneL 26 rfl (by decide +kernel) ?_
                    refine WL.bsC (T := Ty) rfl rfl rfl rfl rfl rfl rfl (by repeat' first | exact CO.nil | apply CO.one (by first | rfl | exact SL.one (by assumption)) | apply CO.agg) rfl (by repeat' first | exact FL.nil | apply FL.cons) (fun u4 hu4 => ?_)
                    refine WL.nilH hσ1 (fun σ2 hσ2 dσ2 mσ2 => ?_)
                    have fσ0_0 := fσ0_0.mono mσ2
                    have fσ0_1 := fσ0_1.mono mσ2
                    have fσ0_2 := fσ0_2.mono mσ2
                    have fσ1_0 := fσ1_0.mono mσ2
                    have fσ2_0 := ros_at 0 rfl hσ2 dσ2
                    refine WD.takeL 27 rfl (by decide +kernel) ?_
                    refine WL.bdC (T := Ty) rfl rfl rfl rfl (by repeat' first | exact CO.nil | apply CO.one (by first | rfl | exact SL.one (by assumption)) | apply CO.agg) rfl (by repeat' first | exact FL.nil | apply FL.cons) ?_
                    refine WL.nilT ?_
                    refine WD.lastG hσ2 (by decide +kernel) (by repeat' first | exact FL.nil | apply FL.cons) rfl (by repeat' first | exact FL.nil | apply FL.cons) ?_
                    refine WL.stAO (T := Ty) (j := 1) rfl rfl rfl rfl (by repeat' first | exact AO.nil | apply AO.cons (by first | rfl | exact SL.one (by assumption))) rfl rfl (by repeat' first | exact FL.nil | apply FL.cons) (by repeat' first | exact FL.nil | apply FL.cons) ?_
                    refine WL.nil ?_
                    first | refine W.sub ?_ (cutA ⟨_, _⟩ trivial) | refine W.perm (List.Perm.swap _ _ _) (W.sub ?_ (cutA ⟨_, _⟩ trivial))
                    exact ⟨rfl, rfl, rfl, rfl, rfl, rfl, rfl, rfl, rfl, rfl, rfl, rfl, rfl, trivial⟩
              · refine W.condpF rfl (by omega) ?_
                refine W.region ?_
                refine WL.eql rfl rfl rfl ?_
                refine WL.as rfl rfl ?_
                refine WL.nil ?_
                refine W.condpF rfl (by omega) ?_
                refine W.seq ?_
                refine W.region ?_
                refine WL.eql rfl rfl rfl ?_
                refine WL.as rfl rfl ?_
                refine WL.nil ?_
                refine W.condpT rfl (by omega) ?_
                refine W.seq ?_
                refine W.cut (τ := Nat × Value) (fun s => [(0, v0), (1, v1), (4, .bool false), (5, pt b0 0), (6, pt b1 0), (7, .map (some b2)), (8, .int .i64 (i : Int)), (9, .int .i64 (j : Int)), (10, .int .i64 (x / 128 % (3 + 1))), (11, .bool (decide ((j : Int) < 16))), (12, .int .i64 p.who), (13, .bool true), (15, pt s.1 0)]) (fun s => [box s.1 [.bool (decide (x / 512 % (1 + 1) = 1)), .bool (decide (x / 1024 % (1 + 1) = 1)), .int .i64 (x / 2048 % (3 + 1)), .int .i64 x, .bool false, .int .i64 0, nilV, s.2] 32, Buf 5 s.2 (([⟨i, 0, 0, 0, 0⟩] : List Prt).flatMap paC), Mp .i64 b2 kvs, box b1 (S.flatMap sloC) 51, box b0 (dirC L) TD]) (fun _ => True) ?_ (fun cutA => ?_)
                · rintro ⟨b3, u⟩ _
                  simp only []
                  generalize decide (x / 512 % (1 + 1) = 1) = th
                  generalize decide (x / 1024 % (1 + 1) = 1) = se
                  generalize x / 2048 % (3 + 1) = li
                  refine W.freeze 1 rfl (by repeat' first | exact FL.nil | apply FL.cons) (fun ρ2 le2 hin => ?_)
                  have hu := hin.ros
                  have su : SL u 1 := hu.sl (n := 1) rfl (by omega)
                  replace r0 := r0.mono le2
                  replace r1 := r1.mono le2
                  replace hI := hI.mono (Nat.le_refl _) le2
                  have n2 : ROs ρ2 2 nilV (([] : List (Int × Int)).flatMap smC) := ros_nil _ _
                  have hp1 : ([⟨i, 0, 0, 0, 0⟩] : List Prt).length ≤ 140737488355 := by show 1 ≤ _; decide
                  refine W.seq ?_
                  refine W.seq ?_
                  refine W.region ?_
                  refine WL.mv rfl rfl ?_
                  refine WL.len (T := Ty) rfl rfl (by assumption) rfl ?_
                  refine WL.gtr rfl rfl rfl ?_
                  refine WL.nil ?_
                  refine W.cut (τ := Value × List (Int × Int)) (fun s => [(0, v0), (1, v1), (4, .bool false), (5, pt b0 0), (6, pt b1 0), (7, .map (some b2)), (8, .int .i64 (i : Int)), (9, .int .i64 (j : Int)), (10, .int .i64 (x / 128 % (3 + 1))), (11, .bool (decide ((j : Int) < 16))), (12, .int .i64 p.who), (13, .bool true), (15, pt b3 0)]) (fun s => [box b3 [.bool th, .bool se, .int .i64 li, .int .i64 x, .bool false, .int .i64 0, s.1, u] 32, Mp .i64 b2 kvs, box b1 (S.flatMap sloC) 51, box b0 (dirC L) TD]) (fun s => ROs ρ2 2 s.1 (s.2.flatMap smC) ∧ s.2.length ≤ 8796093022208) ?_ (fun cutB => ?_)
                  · rintro ⟨lv, l⟩ ⟨hlv, hll⟩
                    simp only [] at hlv hll ⊢
                    refine W.seq ?_
                    refine W.region ?_
                    refine WL.mv rfl rfl ?_
                    refine WL.mv rfl rfl ?_
                    refine WL.gT rfl rfl (by omega) ?_
                    refine WL.mv rfl rfl ?_
                    refine WL.pickTp rfl rfl (by omega) rfl ?_
                    refine WL.mv rfl rfl ?_
                    refine WL.gY rfl rfl ?_
                    refine WL.mv rfl rfl ?_
                    refine WL.gY rfl rfl ?_
                    refine WL.mv rfl rfl ?_
                    refine WL.gY rfl rfl ?_
                    refine WL.eql rfl rfl rfl ?_
                    refine WL.pickT rfl rfl rfl ?_
                    refine WL.as rfl rfl ?_
                    refine WL.nil ?_
                    refine W.seq ?_
                    refine W.seq ?_
                    refine W.region ?_
                    refine WL.mv rfl rfl ?_
                    refine WL.mv rfl rfl ?_
                    refine WL.mv rfl rfl ?_
                    refine WL.ldAF (T := Ty) (j := 0) rfl rfl rfl rfl rfl rfl (by repeat' first | exact FL.nil | apply FL.cons) ?_
                    refine WL.callV rfl rfl (fun x p d => leave_no _ _ _ _ _ _ ⟨_, _, _, _, _, _, _, _⟩ (by first | assumption | exact RB.wide (by assumption) | exact In.rb (by assumption) | exact rb_at 0 rfl p d | exact rb_at 1 rfl p d | exact rb_at 2 rfl p d | exact rb_at 3 rfl p d | exact rb_at 4 rfl p d | exact rb_at 5 rfl p d) (by first | assumption | rfl) (by first | assumption | omega | decide) (by first | assumption | exact .inl (by assumption) | exact .inr (by first | omega | decide) | exact .inl rfl)) ?_
                    refine WL.mv rfl rfl ?_
                    refine WL.neB (T := Ty) rfl rfl rfl rfl ?_
                    refine WL.nil ?_
                    rw [decide_eq_false hw]
                    refine W.condF rfl ?_
                    refine W.skip ?_
                    refine W.seq ?_
                    refine W.region ?_
                    refine WL.mv rfl rfl ?_
                    refine WL.nil ?_
                    refine W.condF rfl ?_
                    refine W.skip ?_
                    refine W.inBlock ?_
                    refine W.drop 0 rfl (by repeat' first | exact FL.nil | apply FL.cons) ?_
                    refine W.sub ?_ (cut ⟨L, S, kvs⟩ ρ2 le2 (hI.mono (by omega) (Le.refl _)))
                    exact ⟨rfl, rfl, rfl, rfl, rfl, rfl, rfl, rfl, rfl, trivial⟩
                  · refine W.condp rfl (fun hc => ?_) (fun hc => ?_)
                    · have hpos : 0 < z1.length := by omega
                      obtain ⟨k, hk1, hk2⟩ : ∃ k : Nat, (i : Int) % (z1.length : Int) = (k : Int) ∧ k < z1.length := ⟨i % z1.length, (Int.natCast_emod _ _).symm, Nat.mod_lt _ hpos⟩
                      obtain ⟨y, hy⟩ : ∃ y, z1[k]? = some y := ⟨_, List.getElem?_eq_getElem hk2⟩
                      have hy1 : (z1.map (·.1))[k]? = some y.1 := by rw [List.getElem?_map, hy]; rfl
                      obtain ⟨w1, _, w2⟩ := m1 y (List.mem_of_getElem? hy)
                      have w3 : ROs ρ2 2 y.1 (y.2.flatMap smC) := (w1.mono le1).mono le2
                      have sy : SL y.1 y.2.length := w3.sl (flat_len sm_len _) (by omega)
                      refine W.region ?_
                      refine WL.mv rfl rfl ?_
                      refine WL.mv rfl rfl ?_
                      refine WL.mv rfl rfl ?_
                      refine WL.len (T := Ty) rfl rfl (by assumption) rfl ?_
                      refine WL.remI rfl rfl rfl (by omega) (by omega) ?_
                      refine WL.ix (T := Ty) rfl rfl rfl (by assumption) rfl rfl (by omega) (by first | omega | decide +kernel) ?_
                      refine WL.ldK (T := Ty) rfl rfl rfl rfl (by first | assumption | exact ROs.wide (by assumption)) (by assumption) (by omega) ?_
                      refine WL.faN (T := Ty) (off' := 4) rfl rfl rfl rfl rfl rfl rfl ?_
                      refine WL.faN (T := Ty) (off' := 6) rfl rfl rfl rfl rfl rfl rfl ?_
                      refine WL.stF (T := Ty) (j := 0) rfl rfl rfl rfl (SL.one (by assumption)) rfl rfl (by repeat' first | exact FL.nil | apply FL.cons) (by repeat' first | exact FL.nil | apply FL.cons) ?_
                      refine WL.nil ?_
                      rw [hk1]
                      skip
                      refine W.sub ?_ (cutB ⟨y.1, y.2⟩ ⟨w3, by simp only []; omega⟩)
                      exact ⟨rfl, rfl, rfl, rfl, rfl, rfl, rfl, rfl, rfl, rfl, rfl, rfl, rfl, trivial⟩
                    · refine W.skip ?_
                      refine W.sub ?_ (cutB ⟨nilV, []⟩ ⟨n2, Nat.zero_le _⟩)
                      exact ⟨rfl, rfl, rfl, rfl, rfl, rfl, rfl, rfl, rfl, rfl, rfl, rfl, rfl, trivial⟩
                · refine W.drawA 29 rfl (fun σ0 hσ0 dσ0 => ?_)
                  have fσ0_0 := in_at 0 rfl hσ0 dσ0
                  have fσ0_1 := rb_at 1 rfl hσ0 dσ0
                  have fσ0_2 := rb_at 2 rfl hσ0 dσ0
                  refine WD.takeL 0 rfl (by decide +kernel) ?_
                  refine WL.mv rfl rfl ?_
                  refine WL.nilT ?_
                  refine WD.takeL 1 rfl (by decide +kernel) ?_
                  refine WL.mv rfl rfl ?_
                  refine WL.nilT ?_
                  refine WD.takeL 2 rfl (by decide +kernel) ?_
                  refine WL.ix (T := Ty) rfl rfl rfl (by assumption) rfl rfl (by omega) (by first | omega | decide +kernel) ?_
                  refine WL.nilT ?_
                  refine WD.takeL 3 rfl (by decide +kernel) ?_
                  refine WL.ldKn (T := Ty) rfl rfl rfl rfl (by first | assumption | exact ROs.wide (by assumption)) (by assumption) ?_
                  refine WL.nilT ?_
                  refine WD.takeL 4 rfl (by decide +kernel) ?_
                  refine WL.shrS (c := 512) rfl rfl rfl (by omega) (by decide) ?_
                  refine WL.nilT ?_
                  refine WD.takeL 5 rfl (by decide +kernel) ?_
                  refine WL.andI rfl rfl rfl (by decide) ?_
                  refine WL.nilT ?_
                  refine WD.takeL 6 rfl (by decide +kernel) ?_
                  refine WL.eql rfl rfl rfl ?_
                  refine WL.nilT ?_
                  refine WD.takeL 7 rfl (by decide +kernel) ?_
                  refine WL.mv rfl rfl ?_
                  refine WL.nilT ?_
                  refine WD.takeL 8 rfl (by decide +kernel) ?_
                  refine WL.mv rfl rfl ?_
                  refine WL.nilT ?_
                  refine WD.takeL 9 rfl (by decide +kernel) ?_
                  refine WL.ix (T := Ty) rfl rfl rfl (by assumption) rfl rfl (by omega) (by first | omega | decide +kernel) ?_
                  refine WL.nilT ?_
                  refine WD.takeL 10 rfl (by decide +kernel) ?_
                  refine WL.ldKn (T := Ty) rfl rfl rfl rfl (by first | assumption | exact ROs.wide (by assumption)) (by assumption) ?_
                  refine WL.nilT ?_
                  refine WD.takeL 11 rfl (by decide +kernel) ?_
                  refine WL.shrS (c := 1024) rfl rfl rfl (by omega) (by decide) ?_
                  refine WL.nilT ?_
                  refine WD.takeL 12 rfl (by decide +kernel) ?_
                  refine WL.andI rfl rfl rfl (by decide) ?_
                  refine WL.nilT ?_
                  refine WD.takeL 13 rfl (by decide +kernel) ?_
                  refine WL.eql rfl rfl rfl ?_
                  refine WL.nilT ?_
                  refine WD.takeL 14 rfl (by decide +kernel) ?_
                  refine WL.mv rfl rfl ?_
                  refine WL.nilT ?_
                  refine WD.takeL 15 rfl (by decide +kernel) ?_
                  refine WL.mv rfl rfl ?_
                  refine WL.nilT ?_
                  refine WD.takeL 16 rfl (by decide +kernel) ?_
                  refine WL.ix (T := Ty) rfl rfl rfl (by assumption) rfl rfl (by omega) (by first | omega | decide +kernel) ?_
                  refine WL.nilT ?_
                  refine WD.takeL 17 rfl (by decide +kernel) ?_
                  refine WL.ldKn (T := Ty) rfl rfl rfl rfl (by first | assumption | exact ROs.wide (by assumption)) (by assumption) ?_
                  refine WL.nilT ?_
                  refine WD.takeL 18 rfl (by decide +kernel) ?_
                  refine WL.shrS (c := 2048) rfl rfl rfl (by omega) (by decide) ?_
                  refine WL.nilT ?_
                  refine WD.takeL 19 rfl (by decide +kernel) ?_
                  refine WL.andI rfl rfl rfl (by decide) ?_
                  refine WL.nilT ?_
                  refine WD.takeL 20 rfl (by decide +kernel) ?_
                  refine WL.mv rfl rfl ?_
                  refine WL.nilT ?_
                  refine WD.takeL 21 rfl (by decide +kernel) ?_
                  refine WL.mv rfl rfl ?_
                  refine WL.nilT ?_
                  refine WD.takeL 22 rfl (by decide +kernel) ?_
                  refine WL.ix (T := Ty) rfl rfl rfl (by assumption) rfl rfl (by omega) (by first | omega | decide +kernel) ?_
                  refine WL.nilT ?_
                  refine WD.takeL 23 rfl (by decide +kernel) ?_
                  refine WL.ldKn (T := Ty) rfl rfl rfl rfl (by first | assumption | exact ROs.wide (by assumption)) (by assumption) ?_
                  refine WL.nilT ?_
                  refine WD.takeL 24 rfl (by decide +kernel) ?_
                  refine WL.mv rfl rfl ?_
                  refine WL.nilT ?_
                  refine WD.takeL 25 rfl (by decide +kernel) ?_
                  refine WL.bdC (T := Ty) rfl rfl rfl rfl (by repeat' first | exact CO.nil | apply CO.one (by first | rfl | exact SL.one (by assumption)) | apply CO.agg) rfl (by repeat' first | exact FL.nil | apply FL.cons) ?_
                  refine WL.nilT ?_
                  refine WD.twoL 26 28 rfl rfl (by decide +kernel) ?_ ?_
                  · refine WL.bsC (T := Ty) rfl rfl rfl rfl rfl rfl rfl (by repeat' first | exact CO.nil | apply CO.one (by first | rfl | exact SL.one (by assumption)) | apply CO.agg) rfl (by repeat' first | exact FL.nil | apply FL.cons) (fun u3 hu3 => ?_)
                    refine WL.nilH hσ0 (fun σ1 hσ1 dσ1 mσ1 => ?_)
                    have fσ0_0 := fσ0_0.mono mσ1
                    have fσ0_1 := fσ0_1.mono mσ1
                    have fσ0_2 := fσ0_2.mono mσ1
                    have fσ1_0 := ros_at 0 rfl hσ1 dσ1
                    refine WD.takeL 27 rfl (by decide +kernel) ?_
                    refine WL.bdC (T := Ty) rfl rfl rfl rfl (by repeat' first | exact CO.nil | apply CO.one (by first | rfl | exact SL.one (by assumption)) | apply CO.agg) rfl (by repeat' first | exact FL.nil | apply FL.cons) ?_
                    refine WL.nilT ?_
                    refine WD.oneL 28 rfl (by decide +kernel) ?_
                    refine WL.alF (T := Ty) rfl rfl (by repeat' first | exact FL.nil | apply FL.cons) (fun b4 => ?_)
                    refine WL.nilH hσ1 (fun σ2 hσ2 dσ2 mσ2 => ?_)
                    have fσ0_0 := fσ0_0.mono mσ2
                    have fσ0_1 := fσ0_1.mono mσ2
                    have fσ0_2 := fσ0_2.mono mσ2
                    have fσ1_0 := fσ1_0.mono mσ2
                    have fσ2_0 := rb_at 0 rfl hσ2 dσ2
                    refine WD.lastG hσ2 (by decide +kernel) (by repeat' first | exact FL.nil | apply FL.cons) rfl (by repeat' first | exact FL.nil | apply FL.cons) ?_
                    refine WL.stAO (T := Ty) (j := 0) rfl rfl rfl rfl (by repeat' first | exact AO.nil | apply AO.cons (by first | rfl | exact SL.one (by assumption))) rfl rfl (by repeat' first | exact FL.nil | apply FL.cons) (by repeat' first | exact FL.nil | apply FL.cons) ?_
                    refine WL.nil ?_
                    first | refine W.sub ?_ (cutA ⟨_, _⟩ trivial) | refine W.perm (List.Perm.swap _ _ _) (W.sub ?_ (cutA ⟨_, _⟩ trivial))
                    exact ⟨rfl, rfl, rfl, rfl, rfl, rfl, rfl, rfl, rfl, rfl, rfl, rfl, rfl, trivial⟩
                  · refine WL.alF (T := Ty) rfl rfl (by repeat' first | exact FL.nil | apply FL.cons) (fun b3 => ?_)
                    refine WL.nilH hσ0 (fun σ1 hσ1 dσ1 mσ1 => ?_)
                    have fσ0_0 := fσ0_0.mono mσ1
                    have fσ0_1 := fσ0_1.mono mσ1
                    have fσ0_2 := fσ0_2.mono mσ1
                    have fσ1_0 := rb_at 0 rfl hσ1 dσ1
                    refine WD.oneL 26 rfl (by decide +kernel) ?_
                    refine WL.bsC (T := Ty) rfl rfl rfl rfl rfl rfl rfl (by repeat' first | exact CO.nil | apply CO.one (by first | rfl | exact SL.one (by assumption)) | apply CO.agg) rfl (by repeat' first | exact FL.nil | apply FL.cons) (fun u4 hu4 => ?_)
                    refine WL.nilH hσ1 (fun σ2 hσ2 dσ2 mσ2 => ?_)
                    have fσ0_0 := fσ0_0.mono mσ2
                    have fσ0_1 := fσ0_1.mono mσ2
                    have fσ0_2 := fσ0_2.mono mσ2
                    have fσ1_0 := fσ1_0.mono mσ2
                    have fσ2_0 := ros_at 0 rfl hσ2 dσ2
                    refine WD.takeL 27 rfl (by decide +kernel) ?_
                    refine WL.bdC (T := Ty) rfl rfl rfl rfl (by repeat' first | exact CO.nil | apply CO.one (by first | rfl | exact SL.one (by assumption)) | apply CO.agg) rfl (by repeat' first | exact FL.nil | apply FL.cons) ?_
                    refine WL.nilT ?_
                    refine WD.lastG hσ2 (by decide +kernel) (by repeat' first | exact FL.nil | apply FL.cons) rfl (by repeat' first | exact FL.nil | apply FL.cons) ?_
                    refine WL.stAO (T := Ty) (j := 1) rfl rfl rfl rfl (by repeat' first | exact AO.nil | apply AO.cons (by first | rfl | exact SL.one (by assumption))) rfl rfl (by repeat' first | exact FL.nil | apply FL.cons) (by repeat' first | exact FL.nil | apply FL.cons) ?_
                    refine WL.nil ?_
                    first | refine W.sub ?_ (cutA ⟨_, _⟩ trivial) | refine W.perm (List.Perm.swap _ _ _) (W.sub ?_ (cutA ⟨_, _⟩ trivial))
                    exact ⟨rfl, rfl, rfl, rfl, rfl, rfl, rfl, rfl, rfl, rfl, rfl, rfl, rfl, trivial⟩
            · refine W.condpF rfl (by omega) ?_
              refine W.region ?_
              refine WL.eql rfl rfl rfl ?_
              refine WL.as rfl rfl ?_
              refine WL.nil ?_
              refine W.condpF rfl (by omega) ?_
              refine W.seq ?_
              refine W.region ?_
              refine WL.eql rfl rfl rfl ?_
              refine WL.as rfl rfl ?_
              refine WL.nil ?_
              refine W.condpF rfl (by omega) ?_
              refine W.skip ?_
              refine W.inBlock ?_
              refine W.sub ?_ (cut ⟨L, S, kvs⟩ ρ1 (Le.refl _) (hI.mono (by omega) (Le.refl _)))
              exact ⟨rfl, rfl, rfl, rfl, rfl, rfl, rfl, rfl, rfl, trivial⟩
        | false =>
          have hk := (gF hk0).2
          have hev := (gF hk0).1
          refine W.seq ?_
          refine W.region ?_
          refine WL.mv rfl rfl ?_
          refine WL.mv rfl rfl ?_
          refine WL.ix (T := Ty) rfl rfl rfl (by assumption) rfl rfl (by omega) (by first | omega | decide +kernel) ?_
          refine WL.ldKn (T := Ty) rfl rfl rfl rfl (by first | assumption | exact ROs.wide (by assumption)) (by assumption) ?_
          refine WL.shrS (c := 128) rfl rfl rfl (by omega) (by decide) ?_
          refine WL.andI rfl rfl rfl (by decide) ?_
          refine WL.as rfl rfl ?_
          refine WL.nil ?_
          refine W.seq ?_
          refine W.region ?_
          refine WL.mv rfl rfl ?_
          refine WL.geq rfl rfl rfl ?_
          refine WL.mv rfl rfl ?_
          refine WL.gY rfl rfl ?_
          refine WL.mv rfl rfl ?_
          refine WL.gY rfl rfl ?_
          refine WL.lss rfl rfl rfl ?_
          refine WL.pickT rfl rfl rfl ?_
          refine WL.as rfl rfl ?_
          refine WL.nil ?_
          refine W.seq ?_
          refine W.region ?_
          refine WL.mv rfl rfl ?_
          refine WL.mv rfl rfl ?_
          refine WL.luO (T := Ty) (j := 0) rfl rfl rfl rfl rfl rfl rfl rfl (by first | rw [‹kget _ _ = some _›] | rw [‹kget _ _ = none›]) ?_
          refine WL.mv rfl rfl ?_
          refine WL.extL rfl rfl rfl ?_
          refine WL.extL rfl rfl rfl ?_
          refine WL.as rfl rfl ?_
          refine WL.as rfl rfl ?_
          refine WL.nil ?_
          refine W.seq ?_
          refine W.seq ?_
          refine W.region ?_
          refine WL.mv rfl rfl ?_
          refine WL.mv rfl rfl ?_
          refine WL.ix (T := Ty) rfl rfl rfl (by assumption) rfl rfl (by omega) (by first | omega | decide +kernel) ?_
          refine WL.ldKn (T := Ty) rfl rfl rfl rfl (by first | assumption | exact ROs.wide (by assumption)) (by assumption) ?_
          refine WL.andI rfl rfl rfl (by decide) ?_
          refine WL.nil ?_
          refine W.block ?_
          refine W.seq ?_
          refine W.seq ?_
          refine W.region ?_
          refine WL.eql rfl rfl rfl ?_
          refine WL.as rfl rfl ?_
          refine WL.nil ?_
          refine W.cutG3 (τ := List Plc × List Slo × List (Int × Value)) (fun s => [(0, v0), (1, v1), (4, .bool false), (5, pt b0 0), (6, pt b1 0), (7, .map (some b2)), (8, .int .i64 (i : Int)), (9, .int .i64 (j : Int)), (11, .bool (decide ((j : Int) < 16)))]) (fun s => [Mp .i64 b2 s.2.2, box b1 (s.2.1.flatMap sloC) 51, box b0 (dirC s.1) TD]) (fun s ρ' => PInv (i + 1) s.1 s.2.1 s.2.2 ρ') ?_ (fun cut => ?_)
          · rintro ⟨L, S, kvs⟩ ρ2 le2 hI
            simp only [] at hI ⊢
            have n2 : ROs ρ2 2 nilV (([] : List (Int × Int)).flatMap smC) := ros_nil _ _
            have n5 : ROs ρ2 5 nilV (([] : List Prt).flatMap paC) := ros_nil _ _

            obtain ⟨p, hp⟩ : ∃ p, L[j]? = some p := ⟨_, List.getElem?_eq_getElem (by have := hI.1; omega)⟩
            obtain ⟨s, hs⟩ : ∃ s, S[j]? = some s := ⟨_, List.getElem?_eq_getElem (by have := hI.2.1; omega)⟩
            obtain ⟨hA, g0, g1, gT, gF⟩ := hI.2.2.2.2 j p s hp hs
            have h16 := hI.1
            cases hk0 : p.taken with
            | true =>
              have hk := (gT hk0).2
              have hev := (gT hk0).1
              refine W.seq ?_
              refine W.region ?_
              refine WL.mv rfl rfl ?_
              refine WL.mv rfl rfl ?_
              refine WL.luO (T := Ty) (j := 0) rfl rfl rfl rfl rfl rfl rfl rfl (by first | rw [‹kget _ _ = some _›] | rw [‹kget _ _ = none›]) ?_
              refine WL.mv rfl rfl ?_
              refine WL.extL rfl rfl rfl ?_
              refine WL.extL rfl rfl rfl ?_
              refine WL.as rfl rfl ?_
              refine WL.as rfl rfl ?_
              refine WL.nil ?_
              refine W.seq ?_
              refine W.region ?_
              refine WL.mv rfl rfl ?_
              refine WL.mv rfl rfl ?_
              refine WL.callV rfl rfl (fun x p d => look_no _ _ _ _ _ (by first | assumption | exact RB.wide (by assumption) | exact In.rb (by assumption) | exact rb_at 0 rfl p d | exact rb_at 1 rfl p d | exact rb_at 2 rfl p d | exact rb_at 3 rfl p d | exact rb_at 4 rfl p d | exact rb_at 5 rfl p d) (by first | assumption | rfl) (by first | assumption | omega | decide) (by first | assumption | omega | decide) (by first | assumption | omega | decide)) ?_
              refine WL.mv rfl rfl ?_
              refine WL.extL rfl rfl rfl ?_
              refine WL.extL rfl rfl rfl ?_
              refine WL.alF (T := Ty) rfl rfl (by repeat' first | exact FL.nil | apply FL.cons) (fun b3 => ?_)
              refine WL.stAO (T := Ty) (j := 0) rfl rfl rfl rfl (by repeat' first | exact AO.nil | apply AO.cons (by first | rfl | exact SL.one (by assumption))) rfl rfl (by repeat' first | exact FL.nil | apply FL.cons) (by repeat' first | exact FL.nil | apply FL.cons) ?_
              refine WL.as rfl rfl ?_
              refine WL.nil ?_
              refine W.seq ?_
              refine W.region ?_
              refine WL.mv rfl rfl ?_
              refine WL.mv rfl rfl ?_
              refine WL.callV rfl rfl (fun x p d => flag_in _ _ _ _ _ (by first | assumption | exact RB.wide (by assumption) | exact In.rb (by assumption) | exact rb_at 0 rfl p d | exact rb_at 1 rfl p d | exact rb_at 2 rfl p d | exact rb_at 3 rfl p d | exact rb_at 4 rfl p d | exact rb_at 5 rfl p d) (by first | assumption | rfl) (by first | assumption | omega | decide) (by first | assumption | rfl)) ?_
              refine WL.mv rfl rfl ?_
              refine WL.extL rfl rfl rfl ?_
              refine WL.extL rfl rfl rfl ?_
              refine WL.as rfl rfl ?_
              refine WL.as rfl rfl ?_
              refine WL.nil ?_
              refine W.seq ?_
              refine W.drawA 41 rfl (fun σ0 hσ0 dσ0 => ?_)
              have fσ0_0 := rb_at 0 rfl hσ0 dσ0
              have fσ0_1 := in_at 1 rfl hσ0 dσ0
              have fσ0_2 := rb_at 2 rfl hσ0 dσ0
              have fσ0_3 := rb_at 3 rfl hσ0 dσ0
              refine WD.takeL 0 rfl (by decide +kernel) ?_
              refine WL.mv rfl rfl ?_
              refine WL.nilT ?_
              refine WD.takeL 1 rfl (by decide +kernel) ?_
              refine WL.mv rfl rfl ?_
              refine WL.nilT ?_
              refine WD.takeL 2 rfl (by decide +kernel) ?_
              refine WL.mv rfl rfl ?_
              refine WL.nilT ?_
              refine WD.takeL 3 rfl (by decide +kernel) ?_
              refine WL.gT rfl rfl (by omega) ?_
              refine WL.mv rfl rfl ?_
              refine WL.nilT ?_
              refine WD.takeL 4 rfl (by decide +kernel) ?_
              refine WL.gT rfl rfl (by omega) ?_
              refine WL.not rfl rfl ?_
              refine WL.nilT ?_
              refine WD.takeL 5 rfl (by decide +kernel) ?_
              refine WL.pickTp rfl rfl (by omega) rfl ?_
              refine WL.nilT ?_
              refine WD.takeL 6 rfl (by decide +kernel) ?_
              refine WL.neB (T := Ty) rfl rfl rfl rfl ?_
              refine WL.nilT ?_
              refine WD.takeL 7 rfl (by decide +kernel) ?_
              refine WL.mv rfl rfl ?_
              refine WL.nilT ?_
              refine WD.takeL 8 rfl (by decide +kernel) ?_
              refine WL.gY rfl rfl ?_
              refine WL.mv rfl rfl ?_
              refine WL.nilT ?_
              refine WD.takeL 9 rfl (by decide +kernel) ?_
              refine WL.gY rfl rfl ?_
              refine WL.mv rfl rfl ?_
              refine WL.nilT ?_
              refine WD.takeL 10 rfl (by decide +kernel) ?_
              refine WL.gdN rfl rfl rfl rfl rfl rfl ?_
              refine WL.nilT ?_
              refine WD.takeL 11 rfl (by decide +kernel) ?_
              refine WL.gdN rfl rfl rfl rfl rfl rfl ?_
              refine WL.nilT ?_
              refine WD.takeL 12 rfl (by decide +kernel) ?_
              refine WL.gdN rfl rfl rfl rfl rfl rfl ?_
              refine WL.nilT ?_
              refine WD.takeL 13 rfl (by decide +kernel) ?_
              refine WL.gdN rfl rfl rfl rfl rfl rfl ?_
              refine WL.nilT ?_
              refine WD.takeL 14 rfl (by decide +kernel) ?_
              refine WL.gdN rfl rfl rfl rfl rfl rfl ?_
              refine WL.nilT ?_
              refine WD.takeL 15 rfl (by decide +kernel) ?_
              refine WL.gdN rfl rfl rfl rfl rfl rfl ?_
              refine WL.nilT ?_
              refine WD.takeL 16 rfl (by decide +kernel) ?_
              refine WL.gY rfl rfl ?_
              refine WL.pickF rfl rfl rfl ?_
              refine WL.nilT ?_
              refine WD.takeL 17 rfl (by decide +kernel) ?_
              refine WL.pickF rfl rfl rfl ?_
              refine WL.nilT ?_
              refine WD.takeL 18 rfl (by decide +kernel) ?_
              refine WL.mv rfl rfl ?_
              refine WL.nilT ?_
              refine WD.takeL 19 rfl (by decide +kernel) ?_
              refine WL.gY rfl rfl ?_
              refine WL.mv rfl rfl ?_
              refine WL.nilT ?_
              refine WD.takeL 20 rfl (by decide +kernel) ?_
              refine WL.gY rfl rfl ?_
              refine WL.not rfl rfl ?_
              refine WL.nilT ?_
              refine WD.takeL 21 rfl (by decide +kernel) ?_
              refine WL.gY rfl rfl ?_
              refine WL.mv rfl rfl ?_
              refine WL.nilT ?_
              refine WD.takeL 22 rfl (by decide +kernel) ?_
              refine WL.gY rfl rfl ?_
              refine WL.ldABF (T := Ty) rfl rfl rfl rfl (by first | assumption | exact RB.wide (by assumption) | exact In.rb (by assumption)) rfl (by repeat' first | exact FL.nil | apply FL.cons) ?_
              refine WL.nilT ?_
              refine WD.takeL 23 rfl (by decide +kernel) ?_
              refine WL.gY rfl rfl ?_
              refine WL.bdC (T := Ty) rfl rfl rfl rfl (by repeat' first | exact CO.nil | apply CO.one (by first | rfl | exact SL.one (by assumption)) | apply CO.agg) rfl (by repeat' first | exact FL.nil | apply FL.cons) ?_
              refine WL.nilT ?_
              refine WD.oneL 24 rfl (by decide +kernel) ?_
              refine WL.gY rfl rfl ?_
              refine WL.callV rfl rfl (fun x p d => sameS_c _ _ _ _ _ _ (by first | assumption | exact ROs.wide (by assumption) | exact ROs.mono (by assumption) (eqh_at 0 rfl p d) | exact ros_at 0 rfl p d | exact ros_at 1 rfl p d | exact ros_at 2 rfl p d | exact ros_at 3 rfl p d | exact ros_at 4 rfl p d) (by first | assumption | exact ROs.wide (by assumption) | exact ROs.mono (by assumption) (eqh_at 0 rfl p d) | exact ros_at 0 rfl p d | exact ros_at 1 rfl p d | exact ros_at 2 rfl p d | exact ros_at 3 rfl p d | exact ros_at 4 rfl p d) (by first | assumption | exact ROs.wide (by assumption) | exact ROs.mono (by assumption) (eqh_at 0 rfl p d) | exact ros_at 0 rfl p d | exact ros_at 1 rfl p d | exact ros_at 2 rfl p d | exact ros_at 3 rfl p d | exact ros_at 4 rfl p d) (by first | assumption | exact ROs.wide (by assumption) | exact ROs.mono (by assumption) (eqh_at 0 rfl p d) | exact ros_at 0 rfl p d | exact ros_at 1 rfl p d | exact ros_at 2 rfl p d | exact ros_at 3 rfl p d | exact ros_at 4 rfl p d) (by first | assumption | omega | exact Nat.zero_le _) (by first | assumption | omega | exact Nat.zero_le _)) ?_
              refine WL.nilE ?_
              refine WD.takeL 25 rfl (by decide +kernel) ?_
              refine WL.gY rfl rfl ?_
              refine WL.not rfl rfl ?_
              refine WL.nilT ?_
              refine WD.takeL 26 rfl (by decide +kernel) ?_
              refine WL.gY rfl rfl ?_
              refine WL.pickT rfl rfl rfl ?_
              refine WL.nilT ?_
              refine WD.takeL 27 rfl (by decide +kernel) ?_
              refine WL.pickF rfl rfl rfl ?_
              refine WL.nilT ?_
              refine WD.takeL 28 rfl (by decide +kernel) ?_
              refine WL.mv rfl rfl ?_
              refine WL.nilT ?_
              refine WD.takeL 29 rfl (by decide +kernel) ?_
              refine WL.gY rfl rfl ?_
              refine WL.mv rfl rfl ?_
              refine WL.nilT ?_
              refine WD.takeL 30 rfl (by decide +kernel) ?_
              refine WL.gY rfl rfl ?_
              refine WL.mv rfl rfl ?_
              refine WL.nilT ?_
              refine WD.takeL 31 rfl (by decide +kernel) ?_
              refine WL.gY rfl rfl ?_
              refine WL.neB (T := Ty) rfl rfl rfl rfl ?_
              refine WL.nilT ?_
              refine WD.takeL 32 rfl (by decide +kernel) ?_
              refine WL.pickF rfl rfl rfl ?_
              refine WL.nilT ?_
              refine WD.takeL 33 rfl (by decide +kernel) ?_
              refine WL.mv rfl rfl ?_
              refine WL.nilT ?_
              refine WD.takeL 34 rfl (by decide +kernel) ?_
              refine WL.gY rfl rfl ?_
              refine WL.mv rfl rfl ?_
              refine WL.nilT ?_
              refine WD.takeL 35 rfl (by decide +kernel) ?_
              refine WL.gY rfl rfl ?_
              refine WL.mv rfl rfl ?_
              refine WL.nilT ?_
              refine WD.takeL 36 rfl (by decide +kernel) ?_
              refine WL.gY rfl rfl ?_
              refine WL.mv rfl rfl ?_
              refine WL.nilT ?_
              refine WD.takeL 37 rfl (by decide +kernel) ?_
              refine WL.gY rfl rfl ?_
              refine WL.mv rfl rfl ?_
              refine WL.nilT ?_
              refine WD.takeL 38 rfl (by decide +kernel) ?_
              refine WL.gY rfl rfl ?_
              refine WL.neq rfl rfl rfl ?_
              refine WL.nilT ?_
              refine WD.takeL 39 rfl (by decide +kernel) ?_
              refine WL.gY rfl rfl ?_
              refine WL.pickT rfl rfl rfl ?_
              refine WL.nilT ?_
              refine WD.takeL 40 rfl (by decide +kernel) ?_
              refine WL.pickF rfl rfl rfl ?_
              refine WL.nilT ?_
              refine WD.doneF hσ0 (by decide +kernel) (by repeat' first | exact FL.nil | apply FL.cons) ?_
              refine W.condpF rfl (by omega) ?_
              refine W.skip ?_
              refine W.inBlock ?_
              refine W.region ?_
              refine WL.mv rfl rfl ?_
              refine WL.addK rfl rfl rfl (wrap_i64 ⟨by omega, by omega⟩) ?_
              refine WL.as rfl rfl ?_
              refine WL.nil ?_
              refine W.drop 0 rfl (by repeat' first | exact FL.nil | apply FL.cons) ?_
              refine W.sub ?_ (next ⟨i + 1, L, S, kvs⟩ _ le2 ⟨by simp only []; omega, hI⟩ (by simp only []; omega))
              exact ⟨rfl, rfl, rfl, rfl, rfl, rfl, rfl, trivial⟩
            | false =>
              have hk := (gF hk0).2
              have hev := (gF hk0).1
              have hz := slo_row hs
              have hz2 : 0 + ((j : Nat) : Int).toNat * 8 + 8 ≤ (S.flatMap sloC).length := by rw [slo_in hI.2.1]; omega
              obtain ⟨st, se, li, ve, an, la, lv', cv'⟩ := s
              obtain ⟨⟨rfl, rfl, rfl, rfl, rfl, rfl⟩, l, ps, q1, q2, q3, q4, q5, q6⟩ := hA
              simp only [] at q2 q4 hz
              refine W.seq ?_
              refine W.region ?_
              refine WL.mv rfl rfl ?_
              refine WL.mv rfl rfl ?_
              refine WL.luO (T := Ty) (j := 0) rfl rfl rfl rfl rfl rfl rfl rfl (by first | rw [‹kget _ _ = some _›] | rw [‹kget _ _ = none›]) ?_
              refine WL.mv rfl rfl ?_
              refine WL.extL rfl rfl rfl ?_
              refine WL.extL rfl rfl rfl ?_
              refine WL.as rfl rfl ?_
              refine WL.as rfl rfl ?_
              refine WL.nil ?_
              refine W.seq ?_
              refine W.region ?_
              refine WL.mv rfl rfl ?_
              refine WL.mv rfl rfl ?_
              refine WL.callF rfl rfl (fun x p d => look_l _ _ _ _ _ _ _ (by first | assumption | exact RB.wide (by assumption) | exact In.rb (by assumption) | exact rb_at 0 rfl p d | exact rb_at 1 rfl p d | exact rb_at 2 rfl p d | exact rb_at 3 rfl p d | exact rb_at 4 rfl p d | exact rb_at 5 rfl p d) (by first | assumption | rfl) (by first | assumption | rfl) (by first | assumption | omega | decide) (by first | assumption | omega | decide) (by first | assumption | omega | decide) (by first | assumption | exact ROs.wide (by assumption) | exact ROs.mono (by assumption) (eqh_at 0 rfl p d) | exact ros_at 0 rfl p d | exact ros_at 1 rfl p d | exact ros_at 2 rfl p d | exact ros_at 3 rfl p d | exact ros_at 4 rfl p d) (by first | assumption | exact ROs.wide (by assumption) | exact ROs.mono (by assumption) (eqh_at 0 rfl p d) | exact ros_at 0 rfl p d | exact ros_at 1 rfl p d | exact ros_at 2 rfl p d | exact ros_at 3 rfl p d | exact ros_at 4 rfl p d) (by first | assumption | omega | decide) (by first | assumption | omega | decide)) (fun r => ?_)
              refine WL.ex (fun u3 => ?_)
              refine WL.ex (fun t3 => ?_)
              refine WL.pure (fun er => ?_)
              subst er
              refine WL.open ?_
              refine WL.fact (i := 0) rfl (fun h hb => hb.sl (flat_len sm_len _) (by omega)) (fun hsl3 => ?_)
              refine WL.fact (i := 1) rfl (fun h hb => hb.sl (flat_len pa_len _) (by omega)) (fun hst3 => ?_)
              refine WL.mv rfl rfl ?_
              refine WL.extL rfl rfl rfl ?_
              refine WL.extL rfl rfl rfl ?_
              refine WL.alF (T := Ty) rfl rfl (by repeat' first | exact FL.nil | apply FL.cons) (fun b4 => ?_)
              refine WL.stAO (T := Ty) (j := 0) rfl rfl rfl rfl (by repeat' first | exact AO.nil | apply AO.cons (by first | rfl | exact SL.one (by assumption))) rfl rfl (by repeat' first | exact FL.nil | apply FL.cons) (by repeat' first | exact FL.nil | apply FL.cons) ?_
              refine WL.as rfl rfl ?_
              refine WL.nil ?_
              refine W.seq ?_
              refine W.region ?_
              refine WL.mv rfl rfl ?_
              refine WL.mv rfl rfl ?_
              refine WL.callV rfl rfl (fun x p d => flag_no _ _ _ _ _ (by first | assumption | exact RB.wide (by assumption) | exact In.rb (by assumption) | exact rb_at 0 rfl p d | exact rb_at 1 rfl p d | exact rb_at 2 rfl p d | exact rb_at 3 rfl p d | exact rb_at 4 rfl p d | exact rb_at 5 rfl p d) (by first | assumption | rfl) (by first | assumption | omega | decide) (by first | assumption | rfl)) ?_
              refine WL.mv rfl rfl ?_
              refine WL.extL rfl rfl rfl ?_
              refine WL.extL rfl rfl rfl ?_
              refine WL.as rfl rfl ?_
              refine WL.as rfl rfl ?_
              refine WL.nil ?_
              refine W.seq ?_
              refine W.drawA 41 rfl (fun σ0 hσ0 dσ0 => ?_)
              have fσ0_0 := rb_at 0 rfl hσ0 dσ0
              have fσ0_1 := ros_at 1 rfl hσ0 dσ0
              have fσ0_2 := ros_at 2 rfl hσ0 dσ0
              have fσ0_3 := in_at 3 rfl hσ0 dσ0
              have fσ0_4 := rb_at 4 rfl hσ0 dσ0
              have fσ0_5 := rb_at 5 rfl hσ0 dσ0
              refine WD.takeL 0 rfl (by decide +kernel) ?_
              refine WL.mv rfl rfl ?_
              refine WL.nilT ?_
              refine WD.takeL 1 rfl (by decide +kernel) ?_
              refine WL.mv rfl rfl ?_
              refine WL.nilT ?_
              refine WD.takeL 2 rfl (by decide +kernel) ?_
              refine WL.mv rfl rfl ?_
              refine WL.nilT ?_
              refine WD.takeL 3 rfl (by decide +kernel) ?_
              refine WL.gT rfl rfl (by omega) ?_
              refine WL.mv rfl rfl ?_
              refine WL.nilT ?_
              refine WD.takeL 4 rfl (by decide +kernel) ?_
              refine WL.gT rfl rfl (by omega) ?_
              refine WL.not rfl rfl ?_
              refine WL.nilT ?_
              refine WD.takeL 5 rfl (by decide +kernel) ?_
              refine WL.pickTp rfl rfl (by omega) rfl ?_
              refine WL.nilT ?_
              refine WD.takeL 6 rfl (by decide +kernel) ?_
              refine WL.neB (T := Ty) rfl rfl rfl rfl ?_
              refine WL.nilT ?_
              refine WD.takeL 7 rfl (by decide +kernel) ?_
              refine WL.mv rfl rfl ?_
              refine WL.nilT ?_
              refine WD.takeL 8 rfl (by decide +kernel) ?_
              refine WL.gY rfl rfl ?_
              refine WL.mv rfl rfl ?_
              refine WL.nilT ?_
              refine WD.takeL 9 rfl (by decide +kernel) ?_
              refine WL.gY rfl rfl ?_
              refine WL.mv rfl rfl ?_
              refine WL.nilT ?_
              refine WD.takeL 10 rfl (by decide +kernel) ?_
              refine WL.gY rfl rfl ?_
              refine WL.ldABF (T := Ty) rfl rfl rfl rfl (by first | assumption | exact RB.wide (by assumption) | exact In.rb (by assumption)) rfl (by repeat' first | exact FL.nil | apply FL.cons) ?_
              refine WL.nilT ?_
              refine WD.takeL 11 rfl (by decide +kernel) ?_
              refine WL.gY rfl rfl ?_
              refine WL.mv rfl rfl ?_
              refine WL.nilT ?_
              refine WD.takeL 12 rfl (by decide +kernel) ?_
              refine WL.gY rfl rfl ?_
              refine WL.ixA (T := Ty) rfl rfl rfl rfl rfl (by omega) (by first | omega | decide +kernel) ?_
              refine WL.nilT ?_
              refine WD.takeL 13 rfl (by decide +kernel) ?_
              refine WL.gY rfl rfl ?_
              refine WL.ldAB (T := Ty) rfl rfl rfl rfl (by first | assumption | exact RB.wide (by assumption) | exact In.rb (by assumption)) (by assumption) (by first | assumption | omega) ?_
              refine WL.nilT ?_
              refine WD.oneL 14 rfl (by decide +kernel) ?_
              refine WL.gY rfl rfl ?_
              refine WL.callV rfl rfl (fun x p d => sameS_c _ _ _ _ _ _ (by first | assumption | exact ROs.wide (by assumption) | exact ROs.mono (by assumption) (eqh_at 0 rfl p d) | exact ros_at 0 rfl p d | exact ros_at 1 rfl p d | exact ros_at 2 rfl p d | exact ros_at 3 rfl p d | exact ros_at 4 rfl p d) (by first | assumption | exact ROs.wide (by assumption) | exact ROs.mono (by assumption) (eqh_at 0 rfl p d) | exact ros_at 0 rfl p d | exact ros_at 1 rfl p d | exact ros_at 2 rfl p d | exact ros_at 3 rfl p d | exact ros_at 4 rfl p d) (by first | assumption | exact ROs.wide (by assumption) | exact ROs.mono (by assumption) (eqh_at 0 rfl p d) | exact ros_at 0 rfl p d | exact ros_at 1 rfl p d | exact ros_at 2 rfl p d | exact ros_at 3 rfl p d | exact ros_at 4 rfl p d) (by first | assumption | exact ROs.wide (by assumption) | exact ROs.mono (by assumption) (eqh_at 0 rfl p d) | exact ros_at 0 rfl p d | exact ros_at 1 rfl p d | exact ros_at 2 rfl p d | exact ros_at 3 rfl p d | exact ros_at 4 rfl p d) (by first | assumption | omega | exact Nat.zero_le _) (by first | assumption | omega | exact Nat.zero_le _)) ?_
              refine WL.nilE ?_
              refine WD.takeL 15 rfl (by decide +kernel) ?_
              refine WL.gY rfl rfl ?_
              refine WL.not rfl rfl ?_
              refine WL.nilT ?_
              refine WD.takeL 16 rfl (by decide +kernel) ?_
              refine WL.gY rfl rfl ?_
              refine WL.pickT rfl rfl rfl ?_
              refine WL.nilT ?_
              refine WD.takeL 17 rfl (by decide +kernel) ?_
              refine WL.pickF rfl rfl rfl ?_
              refine WL.nilT ?_
              refine WD.takeL 18 rfl (by decide +kernel) ?_
              refine WL.mv rfl rfl ?_
              refine WL.nilT ?_
              refine WD.takeL 19 rfl (by decide +kernel) ?_
              refine WL.gY rfl rfl ?_
              refine WL.mv rfl rfl ?_
              refine WL.nilT ?_
              refine WD.takeL 20 rfl (by decide +kernel) ?_
              refine WL.gY rfl rfl ?_
              refine WL.not rfl rfl ?_
              refine WL.nilT ?_
              refine WD.takeL 21 rfl (by decide +kernel) ?_
              refine WL.gY rfl rfl ?_
              refine WL.mv rfl rfl ?_
              refine WL.nilT ?_
              refine WD.takeL 22 rfl (by decide +kernel) ?_
              refine WL.gdN rfl rfl rfl rfl rfl rfl ?_
              refine WL.nilT ?_
              refine WD.takeL 23 rfl (by decide +kernel) ?_
              refine WL.gdN rfl rfl rfl rfl rfl rfl ?_
              refine WL.nilT ?_
              refine WD.takeL 24 rfl (by decide +kernel) ?_
              refine WL.gdN rfl rfl rfl rfl rfl rfl ?_
              refine WL.nilT ?_
              refine WD.takeL 25 rfl (by decide +kernel) ?_
              refine WL.gdN rfl rfl rfl rfl rfl rfl ?_
              refine WL.nilT ?_
              refine WD.takeL 26 rfl (by decide +kernel) ?_
              refine WL.gY rfl rfl ?_
              refine WL.pickF rfl rfl rfl ?_
              refine WL.nilT ?_
              refine WD.takeL 27 rfl (by decide +kernel) ?_
              refine WL.pickF rfl rfl rfl ?_
              refine WL.nilT ?_
              refine WD.takeL 28 rfl (by decide +kernel) ?_
              refine WL.mv rfl rfl ?_
              refine WL.nilT ?_
              refine WD.takeL 29 rfl (by decide +kernel) ?_
              refine WL.gY rfl rfl ?_
              refine WL.mv rfl rfl ?_
              refine WL.nilT ?_
              refine WD.takeL 30 rfl (by decide +kernel) ?_
              refine WL.gY rfl rfl ?_
              refine WL.mv rfl rfl ?_
              refine WL.nilT ?_
              refine WD.takeL 31 rfl (by decide +kernel) ?_
              refine WL.gY rfl rfl ?_
              refine WL.neB (T := Ty) rfl rfl rfl rfl ?_
              refine WL.nilT ?_
              refine WD.takeL 32 rfl (by decide +kernel) ?_
              refine WL.pickF rfl rfl rfl ?_
              refine WL.nilT ?_
              refine WD.takeL 33 rfl (by decide +kernel) ?_
              refine WL.mv rfl rfl ?_
              refine WL.nilT ?_
              refine WD.takeL 34 rfl (by decide +kernel) ?_
              refine WL.gY rfl rfl ?_
              refine WL.mv rfl rfl ?_
              refine WL.nilT ?_
              refine WD.takeL 35 rfl (by decide +kernel) ?_
              refine WL.gY rfl rfl ?_
              refine WL.mv rfl rfl ?_
              refine WL.nilT ?_
              refine WD.takeL 36 rfl (by decide +kernel) ?_
              refine WL.gdN rfl rfl rfl rfl rfl rfl ?_
              refine WL.nilT ?_
              refine WD.takeL 37 rfl (by decide +kernel) ?_
              refine WL.gdN rfl rfl rfl rfl rfl rfl ?_
              refine WL.nilT ?_
              refine WD.takeL 38 rfl (by decide +kernel) ?_
              refine WL.gdN rfl rfl rfl rfl rfl rfl ?_
              refine WL.nilT ?_
              refine WD.takeL 39 rfl (by decide +kernel) ?_
              refine WL.gY rfl rfl ?_
              refine WL.pickF rfl rfl rfl ?_
              refine WL.nilT ?_
              refine WD.takeL 40 rfl (by decide +kernel) ?_
              refine WL.pickF rfl rfl rfl ?_
              refine WL.nilT ?_
              refine WD.doneF hσ0 (by decide +kernel) (by repeat' first | exact FL.nil | apply FL.cons) ?_
              refine W.condF rfl ?_
              refine W.skip ?_
              refine W.inBlock ?_
              refine W.region ?_
              refine WL.mv rfl rfl ?_
              refine WL.addK rfl rfl rfl (wrap_i64 ⟨by omega, by omega⟩) ?_
              refine WL.as rfl rfl ?_
              refine WL.nil ?_
              refine W.drop 0 rfl (by repeat' first | exact FL.nil | apply FL.cons) ?_
              refine W.drop 0 rfl (by repeat' first | exact FL.nil | apply FL.cons) ?_
              refine W.drop 0 rfl (by repeat' first | exact FL.nil | apply FL.cons) ?_
              refine W.sub ?_ (next ⟨i + 1, L, S, kvs⟩ _ le2 ⟨by simp only []; omega, hI⟩ (by simp only []; omega))
              exact ⟨rfl, rfl, rfl, rfl, rfl, rfl, rfl, trivial⟩
          · rcases (by omega : x % (3 + 1) = 0 ∨ x % (3 + 1) = 1 ∨ x % (3 + 1) = 2 ∨ x % (3 + 1) = 3) with hx4 | hx4 | hx4 | hx4
            · obtain ⟨kvs1, hks⟩ : ∃ kvs1, kset kvs (j : Int) (.int .i64 (x / 128 % (3 + 1))) = kvs1 := ⟨_, rfl⟩
              have gv : (S.flatMap sloC)[0 + ((j : Nat) : Int).toNat * 8 + 3]? = some (.int .i64 s.ver) := slo_get hs 3 rfl
              obtain ⟨⟨e1, e2, e3, e4, e5, e6⟩, l, ps, q1, q2, q3, q4, q5, q6⟩ := hA
              refine W.condpT rfl (by omega) ?_
              refine W.skip ?_
              refine W.condpT rfl (by omega) ?_
              refine W.seq ?_
              refine W.region ?_
              refine WL.mv rfl rfl ?_
              refine WL.mv rfl rfl ?_
              refine WL.gT rfl rfl (by omega) ?_
              refine WL.mv rfl rfl ?_
              refine WL.gT rfl rfl (by omega) ?_
              refine WL.not rfl rfl ?_
              refine WL.pickTp rfl rfl (by omega) rfl ?_
              refine WL.as rfl rfl ?_
              refine WL.nil ?_
              refine W.seq ?_
              refine W.seq ?_
              refine W.region ?_
              refine WL.mv rfl rfl ?_
              refine WL.mv rfl rfl ?_
              refine WL.mv rfl rfl ?_
              refine WL.callM 2 rfl rfl rfl (fun x p d => take_yes _ _ _ _ _ _ (by first | assumption | rfl) (by first | assumption | rfl) (by first | assumption | omega | decide) (by first | assumption | rfl) (by first | assumption | omega | decide) (by first | assumption | omega | decide)) (by repeat' first | exact FL.nil | apply FL.cons) ?_
              refine WL.mv rfl rfl ?_
              refine WL.neB (T := Ty) rfl rfl rfl rfl ?_
              refine WL.nil ?_
              refine W.condF rfl ?_
              refine W.skip ?_
              refine W.seq ?_
              refine W.region ?_
              refine WL.mv rfl rfl ?_
              refine WL.nil ?_
              refine W.condT rfl ?_
              refine W.seq ?_
              refine W.region ?_
              refine WL.mv rfl rfl ?_
              refine WL.mv rfl rfl ?_
              refine WL.mv rfl rfl ?_
              refine WL.muO (T := Ty) (j := 0) rfl rfl rfl rfl rfl rfl rfl (by assumption) (by repeat' first | exact FL.nil | apply FL.cons) ?_
              refine WL.nil ?_
              refine W.region ?_
              refine WL.mv rfl rfl ?_
              refine WL.ixA (T := Ty) rfl rfl rfl rfl rfl (by omega) (by first | omega | decide +kernel) ?_
              refine WL.faN (T := Ty) rfl rfl rfl rfl rfl rfl rfl ?_
              refine WL.ld (T := Ty) (j := 1) rfl rfl rfl rfl rfl (by assumption) ?_
              refine WL.addK rfl rfl rfl (wrap_i64 ⟨by omega, by omega⟩) ?_
              refine WL.ixA (T := Ty) rfl rfl rfl rfl rfl (by omega) (by first | omega | decide +kernel) ?_
              refine WL.faN (T := Ty) rfl rfl rfl rfl rfl rfl rfl ?_
              have hSl := slo_in hS16
              refine WL.stX (T := Ty) (j := 1) (c' := (S.set j { s with ver := s.ver + 1 }).flatMap sloC) rfl rfl rfl rfl rfl rfl (by rw [hSl]; show 0 + ((j : Nat) : Int).toNat * 8 + 3 < 128; omega) (slo_set hs 3 (by decide) rfl) (by repeat' first | exact FL.nil | apply FL.cons) ?_
              refine WL.nil ?_
              refine W.inBlock ?_
              refine W.sub ?_ (cut ⟨L.set j { s := { p.s with ver := p.s.ver + 1 }, taken := true, who := x / 128 % (3 + 1) }, S.set j { s with ver := s.ver + 1 }, kvs1⟩ ρ1 (Le.refl _) ?_)
              · exact ⟨rfl, rfl, rfl, rfl, rfl, rfl, rfl, rfl, rfl, trivial⟩
              · refine hI.set (Le.refl _) hj ⟨⟨e1, e2, e3, by simp only []; omega, e5, e6⟩, l, ps, q1, q2, q3, q4, q5, q6⟩ (by simp only []; omega) (by simp only []; omega) ?_ ?_ (fun _ => ⟨by simp only []; omega, ?_⟩) (fun h => by cases h)
                · rw [← hks]; exact kset_nodup _ _ _ hI.2.2.1
                · intro y hy; rw [← hks]; exact kget_set_other hy _ _
                · rw [← hks]; exact kget_set_same _ _ _
            · obtain ⟨kvs1, hks⟩ : ∃ kvs1, kset kvs (j : Int) (.int .i64 (x / 128 % (3 + 1))) = kvs1 := ⟨_, rfl⟩
              have gv : (S.flatMap sloC)[0 + ((j : Nat) : Int).toNat * 8 + 3]? = some (.int .i64 s.ver) := slo_get hs 3 rfl
              obtain ⟨⟨e1, e2, e3, e4, e5, e6⟩, l, ps, q1, q2, q3, q4, q5, q6⟩ := hA
              refine W.condpF rfl (by omega) ?_
              refine W.region ?_
              refine WL.eql rfl rfl rfl ?_
              refine WL.as rfl rfl ?_
              refine WL.nil ?_
              refine W.condpT rfl (by omega) ?_
              refine W.seq ?_
              refine W.region ?_
              refine WL.mv rfl rfl ?_
              refine WL.mv rfl rfl ?_
              refine WL.gT rfl rfl (by omega) ?_
              refine WL.mv rfl rfl ?_
              refine WL.gT rfl rfl (by omega) ?_
              refine WL.not rfl rfl ?_
              refine WL.pickTp rfl rfl (by omega) rfl ?_
              refine WL.as rfl rfl ?_
              refine WL.nil ?_
              refine W.seq ?_
              refine W.seq ?_
              refine W.region ?_
              refine WL.mv rfl rfl ?_
              refine WL.mv rfl rfl ?_
              refine WL.mv rfl rfl ?_
              refine WL.callM 2 rfl rfl rfl (fun x p d => take_yes _ _ _ _ _ _ (by first | assumption | rfl) (by first | assumption | rfl) (by first | assumption | omega | decide) (by first | assumption | rfl) (by first | assumption | omega | decide) (by first | assumption | omega | decide)) (by repeat' first | exact FL.nil | apply FL.cons) ?_
              refine WL.mv rfl rfl ?_
              refine WL.neB (T := Ty) rfl rfl rfl rfl ?_
              refine WL.nil ?_
              refine W.condF rfl ?_
              refine W.skip ?_
              refine W.seq ?_
              refine W.region ?_
              refine WL.mv rfl rfl ?_
              refine WL.nil ?_
              refine W.condT rfl ?_
              refine W.seq ?_
              refine W.region ?_
              refine WL.mv rfl rfl ?_
              refine WL.mv rfl rfl ?_
              refine WL.mv rfl rfl ?_
              refine WL.muO (T := Ty) (j := 0) rfl rfl rfl rfl rfl rfl rfl (by assumption) (by repeat' first | exact FL.nil | apply FL.cons) ?_
              refine WL.nil ?_
              refine W.region ?_
              refine WL.mv rfl rfl ?_
              refine WL.ixA (T := Ty) rfl rfl rfl rfl rfl (by omega) (by first | omega | decide +kernel) ?_
              refine WL.faN (T := Ty) rfl rfl rfl rfl rfl rfl rfl ?_
              refine WL.ld (T := Ty) (j := 1) rfl rfl rfl rfl rfl (by assumption) ?_
              refine WL.addK rfl rfl rfl (wrap_i64 ⟨by omega, by omega⟩) ?_
              refine WL.ixA (T := Ty) rfl rfl rfl rfl rfl (by omega) (by first | omega | decide +kernel) ?_
              refine WL.faN (T := Ty) rfl rfl rfl rfl rfl rfl rfl ?_
              have hSl := slo_in hS16
              refine WL.stX (T := Ty) (j := 1) (c' := (S.set j { s with ver := s.ver + 1 }).flatMap sloC) rfl rfl rfl rfl rfl rfl (by rw [hSl]; show 0 + ((j : Nat) : Int).toNat * 8 + 3 < 128; omega) (slo_set hs 3 (by decide) rfl) (by repeat' first | exact FL.nil | apply FL.cons) ?_
              refine WL.nil ?_
              refine W.inBlock ?_
              refine W.sub ?_ (cut ⟨L.set j { s := { p.s with ver := p.s.ver + 1 }, taken := true, who := x / 128 % (3 + 1) }, S.set j { s with ver := s.ver + 1 }, kvs1⟩ ρ1 (Le.refl _) ?_)
              · exact ⟨rfl, rfl, rfl, rfl, rfl, rfl, rfl, rfl, rfl, trivial⟩
              · refine hI.set (Le.refl _) hj ⟨⟨e1, e2, e3, by simp only []; omega, e5, e6⟩, l, ps, q1, q2, q3, q4, q5, q6⟩ (by simp only []; omega) (by simp only []; omega) ?_ ?_ (fun _ => ⟨by simp only []; omega, ?_⟩) (fun h => by cases h)
                · rw [← hks]; exact kset_nodup _ _ _ hI.2.2.1
                · intro y hy; rw [← hks]; exact kget_set_other hy _ _
                · rw [← hks]; exact kget_set_same _ _ _
            · refine W.condpF rfl (by omega) ?_
              refine W.region ?_
              refine WL.eql rfl rfl rfl ?_
              refine WL.as rfl rfl ?_
              refine WL.nil ?_
              refine W.condpF rfl (by omega) ?_
              refine W.seq ?_
              refine W.region ?_
              refine WL.eql rfl rfl rfl ?_
              refine WL.as rfl rfl ?_
              refine WL.nil ?_
              refine W.condpT rfl (by omega) ?_
              refine W.seq ?_
              refine W.cut (τ := Nat × Value) (fun s => [(0, v0), (1, v1), (4, .bool false), (5, pt b0 0), (6, pt b1 0), (7, .map (some b2)), (8, .int .i64 (i : Int)), (9, .int .i64 (j : Int)), (10, .int .i64 (x / 128 % (3 + 1))), (11, .bool (decide ((j : Int) < 16))), (12, .int .i64 0), (13, .bool false), (15, pt s.1 0)]) (fun s => [box s.1 [.bool (decide (x / 512 % (1 + 1) = 1)), .bool (decide (x / 1024 % (1 + 1) = 1)), .int .i64 (x / 2048 % (3 + 1)), .int .i64 x, .bool false, .int .i64 0, nilV, s.2] 32, Buf 5 s.2 (([⟨i, 0, 0, 0, 0⟩] : List Prt).flatMap paC), Mp .i64 b2 kvs, box b1 (S.flatMap sloC) 51, box b0 (dirC L) TD]) (fun _ => True) ?_ (fun cutA => ?_)
              · rintro ⟨b3, u⟩ _
                simp only []
                generalize decide (x / 512 % (1 + 1) = 1) = th
                generalize decide (x / 1024 % (1 + 1) = 1) = se
                generalize x / 2048 % (3 + 1) = li
                refine W.freeze 1 rfl (by repeat' first | exact FL.nil | apply FL.cons) (fun ρ2 le2 hin => ?_)
                have hu := hin.ros
                have su : SL u 1 := hu.sl (n := 1) rfl (by omega)
                replace r0 := r0.mono le2
                replace r1 := r1.mono le2
                replace hI := hI.mono (Nat.le_refl _) le2
                have n2 : ROs ρ2 2 nilV (([] : List (Int × Int)).flatMap smC) := ros_nil _ _
                have hp1 : ([⟨i, 0, 0, 0, 0⟩] : List Prt).length ≤ 140737488355 := by show 1 ≤ _; decide
                refine W.seq ?_
                refine W.seq ?_
                refine W.region ?_
                refine WL.mv rfl rfl ?_
                refine WL.len (T := Ty) rfl rfl (by assumption) rfl ?_
                refine WL.gtr rfl rfl rfl ?_
                refine WL.nil ?_
                refine W.cut (τ := Value × List (Int × Int)) (fun s => [(0, v0), (1, v1), (4, .bool false), (5, pt b0 0), (6, pt b1 0), (7, .map (some b2)), (8, .int .i64 (i : Int)), (9, .int .i64 (j : Int)), (10, .int .i64 (x / 128 % (3 + 1))), (11, .bool (decide ((j : Int) < 16))), (12, .int .i64 0), (13, .bool false), (15, pt b3 0)]) (fun s => [box b3 [.bool th, .bool se, .int .i64 li, .int .i64 x, .bool false, .int .i64 0, s.1, u] 32, Mp .i64 b2 kvs, box b1 (S.flatMap sloC) 51, box b0 (dirC L) TD]) (fun s => ROs ρ2 2 s.1 (s.2.flatMap smC) ∧ s.2.length ≤ 8796093022208) ?_ (fun cutB => ?_)
                · rintro ⟨lv, l⟩ ⟨hlv, hll⟩
                  simp only [] at hlv hll ⊢
                  refine W.seq ?_
                  refine W.region ?_
                  refine WL.mv rfl rfl ?_
                  refine WL.mv rfl rfl ?_
                  refine WL.gT rfl rfl (by omega) ?_
                  refine WL.mv rfl rfl ?_
                  refine WL.pickTp rfl rfl (by omega) rfl ?_
                  refine WL.mv rfl rfl ?_
                  refine WL.gdN rfl rfl rfl rfl rfl rfl ?_
                  refine WL.gdN rfl rfl rfl rfl rfl rfl ?_
                  refine WL.gdN rfl rfl rfl rfl rfl rfl ?_
                  refine WL.pickF rfl rfl rfl ?_
                  refine WL.as rfl rfl ?_
                  refine WL.nil ?_
                  refine W.seq ?_
                  refine W.seq ?_
                  refine W.region ?_
                  refine WL.mv rfl rfl ?_
                  refine WL.mv rfl rfl ?_
                  refine WL.mv rfl rfl ?_
                  refine WL.ldAF (T := Ty) (j := 0) rfl rfl rfl rfl rfl rfl (by repeat' first | exact FL.nil | apply FL.cons) ?_
                  refine WL.callV rfl rfl (fun x p d => leave_no _ _ _ _ _ _ ⟨_, _, _, _, _, _, _, _⟩ (by first | assumption | exact RB.wide (by assumption) | exact In.rb (by assumption) | exact rb_at 0 rfl p d | exact rb_at 1 rfl p d | exact rb_at 2 rfl p d | exact rb_at 3 rfl p d | exact rb_at 4 rfl p d | exact rb_at 5 rfl p d) (by first | assumption | rfl) (by first | assumption | omega | decide) (by first | assumption | exact .inl (by assumption) | exact .inr (by first | omega | decide) | exact .inl rfl)) ?_
                  refine WL.mv rfl rfl ?_
                  refine WL.neB (T := Ty) rfl rfl rfl rfl ?_
                  refine WL.nil ?_
                  refine W.condF rfl ?_
                  refine W.skip ?_
                  refine W.seq ?_
                  refine W.region ?_
                  refine WL.mv rfl rfl ?_
                  refine WL.nil ?_
                  refine W.condF rfl ?_
                  refine W.skip ?_
                  refine W.inBlock ?_
                  refine W.drop 0 rfl (by repeat' first | exact FL.nil | apply FL.cons) ?_
                  refine W.sub ?_ (cut ⟨L, S, kvs⟩ ρ2 le2 (hI.mono (by omega) (Le.refl _)))
                  exact ⟨rfl, rfl, rfl, rfl, rfl, rfl, rfl, rfl, rfl, trivial⟩
                · refine W.condp rfl (fun hc => ?_) (fun hc => ?_)
                  · have hpos : 0 < z1.length := by omega
                    obtain ⟨k, hk1, hk2⟩ : ∃ k : Nat, (i : Int) % (z1.length : Int) = (k : Int) ∧ k < z1.length := ⟨i % z1.length, (Int.natCast_emod _ _).symm, Nat.mod_lt _ hpos⟩
                    obtain ⟨y, hy⟩ : ∃ y, z1[k]? = some y := ⟨_, List.getElem?_eq_getElem hk2⟩
                    have hy1 : (z1.map (·.1))[k]? = some y.1 := by rw [List.getElem?_map, hy]; rfl
                    obtain ⟨w1, _, w2⟩ := m1 y (List.mem_of_getElem? hy)
                    have w3 : ROs ρ2 2 y.1 (y.2.flatMap smC) := (w1.mono le1).mono le2
                    have sy : SL y.1 y.2.length := w3.sl (flat_len sm_len _) (by omega)
                    refine W.region ?_
                    refine WL.mv rfl rfl ?_
                    refine WL.mv rfl rfl ?_
                    refine WL.mv rfl rfl ?_
                    refine WL.len (T := Ty) rfl rfl (by assumption) rfl ?_
                    refine WL.remI rfl rfl rfl (by omega) (by omega) ?_
                    refine WL.ix (T := Ty) rfl rfl rfl (by assumption) rfl rfl (by omega) (by first | omega | decide +kernel) ?_
                    refine WL.ldK (T := Ty) rfl rfl rfl rfl (by first | assumption | exact ROs.wide (by assumption)) (by assumption) (by omega) ?_
                    refine WL.faN (T := Ty) (off' := 4) rfl rfl rfl rfl rfl rfl rfl ?_
                    refine WL.faN (T := Ty) (off' := 6) rfl rfl rfl rfl rfl rfl rfl ?_
                    refine WL.stF (T := Ty) (j := 0) rfl rfl rfl rfl (SL.one (by assumption)) rfl rfl (by repeat' first | exact FL.nil | apply FL.cons) (by repeat' first | exact FL.nil | apply FL.cons) ?_
                    refine WL.nil ?_
                    rw [hk1]
                    skip
                    refine W.sub ?_ (cutB ⟨y.1, y.2⟩ ⟨w3, by simp only []; omega⟩)
                    exact ⟨rfl, rfl, rfl, rfl, rfl, rfl, rfl, rfl, rfl, rfl, rfl, rfl, rfl, trivial⟩
                  · refine W.skip ?_
                    refine W.sub ?_ (cutB ⟨nilV, []⟩ ⟨n2, Nat.zero_le _⟩)
                    exact ⟨rfl, rfl, rfl, rfl, rfl, rfl, rfl, rfl, rfl, rfl, rfl, rfl, rfl, trivial⟩
              · refine W.drawA 29 rfl (fun σ0 hσ0 dσ0 => ?_)
                have fσ0_0 := in_at 0 rfl hσ0 dσ0
                have fσ0_1 := rb_at 1 rfl hσ0 dσ0
                have fσ0_2 := rb_at 2 rfl hσ0 dσ0
                refine WD.takeL 0 rfl (by decide +kernel) ?_
                refine WL.mv rfl rfl ?_
                refine WL.nilT ?_
                refine WD.takeL 1 rfl (by decide +kernel) ?_
                refine WL.mv rfl rfl ?_
                refine WL.nilT ?_
                refine WD.takeL 2 rfl (by decide +kernel) ?_
                refine WL.ix (T := Ty) rfl rfl rfl (by assumption) rfl rfl (by omega) (by first | omega | decide +kernel) ?_
                refine WL.nilT ?_
                refine WD.takeL 3 rfl (by decide +kernel) ?_
                refine WL.ldKn (T := Ty) rfl rfl rfl rfl (by first | assumption | exact ROs.wide (by assumption)) (by assumption) ?_
                refine WL.nilT ?_
                refine WD.takeL 4 rfl (by decide +kernel) ?_
                refine WL.shrS (c := 512) rfl rfl rfl (by omega) (by decide) ?_
                refine WL.nilT ?_
                refine WD.takeL 5 rfl (by decide +kernel) ?_
                refine WL.andI rfl rfl rfl (by decide) ?_
                refine WL.nilT ?_
                refine WD.takeL 6 rfl (by decide +kernel) ?_
                refine WL.eql rfl rfl rfl ?_
                refine WL.nilT ?_
                refine WD.takeL 7 rfl (by decide +kernel) ?_
                refine WL.mv rfl rfl ?_
                refine WL.nilT ?_
                refine WD.takeL 8 rfl (by decide +kernel) ?_
                refine WL.mv rfl rfl ?_
                refine WL.nilT ?_
                refine WD.takeL 9 rfl (by decide +kernel) ?_
                refine WL.ix (T := Ty) rfl rfl rfl (by assumption) rfl rfl (by omega) (by first | omega | decide +kernel) ?_
                refine WL.nilT ?_
                refine WD.takeL 10 rfl (by decide +kernel) ?_
                refine WL.ldKn (T := Ty) rfl rfl rfl rfl (by first | assumption | exact ROs.wide (by assumption)) (by assumption) ?_
                refine WL.nilT ?_
                refine WD.takeL 11 rfl (by decide +kernel) ?_
                refine WL.shrS (c := 1024) rfl rfl rfl (by omega) (by decide) ?_
                refine WL.nilT ?_
                refine WD.takeL 12 rfl (by decide +kernel) ?_
                refine WL.andI rfl rfl rfl (by decide) ?_
                refine WL.nilT ?_
                refine WD.takeL 13 rfl (by decide +kernel) ?_
                refine WL.eql rfl rfl rfl ?_
                refine WL.nilT ?_
                refine WD.takeL 14 rfl (by decide +kernel) ?_
                refine WL.mv rfl rfl ?_
                refine WL.nilT ?_
                refine WD.takeL 15 rfl (by decide +kernel) ?_
                refine WL.mv rfl rfl ?_
                refine WL.nilT ?_
                refine WD.takeL 16 rfl (by decide +kernel) ?_
                refine WL.ix (T := Ty) rfl rfl rfl (by assumption) rfl rfl (by omega) (by first | omega | decide +kernel) ?_
                refine WL.nilT ?_
                refine WD.takeL 17 rfl (by decide +kernel) ?_
                refine WL.ldKn (T := Ty) rfl rfl rfl rfl (by first | assumption | exact ROs.wide (by assumption)) (by assumption) ?_
                refine WL.nilT ?_
                refine WD.takeL 18 rfl (by decide +kernel) ?_
                refine WL.shrS (c := 2048) rfl rfl rfl (by omega) (by decide) ?_
                refine WL.nilT ?_
                refine WD.takeL 19 rfl (by decide +kernel) ?_
                refine WL.andI rfl rfl rfl (by decide) ?_
                refine WL.nilT ?_
                refine WD.takeL 20 rfl (by decide +kernel) ?_
                refine WL.mv rfl rfl ?_
                refine WL.nilT ?_
                refine WD.takeL 21 rfl (by decide +kernel) ?_
                refine WL.mv rfl rfl ?_
                refine WL.nilT ?_
                refine WD.takeL 22 rfl (by decide +kernel) ?_
                refine WL.ix (T := Ty) rfl rfl rfl (by assumption) rfl rfl (by omega) (by first | omega | decide +kernel) ?_
                refine WL.nilT ?_
                refine WD.takeL 23 rfl (by decide +kernel) ?_
                refine WL.ldKn (T := Ty) rfl rfl rfl rfl (by first | assumption | exact ROs.wide (by assumption)) (by assumption) ?_
                refine WL.nilT ?_
                refine WD.takeL 24 rfl (by decide +kernel) ?_
                refine WL.mv rfl rfl ?_
                refine WL.nilT ?_
                refine WD.takeL 25 rfl (by decide +kernel) ?_
                refine WL.bdC (T := Ty) rfl rfl rfl rfl (by repeat' first | exact CO.nil | apply CO.one (by first | rfl | exact SL.one (by assumption)) | apply CO.agg) rfl (by repeat' first | exact FL.nil | apply FL.cons) ?_
                refine WL.nilT ?_
                refine WD.twoL 26 28 rfl rfl (by decide +kernel) ?_ ?_
                · refine WL.bsC (T := Ty) rfl rfl rfl rfl rfl rfl rfl (by repeat' first | exact CO.nil | apply CO.one (by first | rfl | exact SL.one (by assumption)) | apply CO.agg) rfl (by repeat' first | exact FL.nil | apply FL.cons) (fun u3 hu3 => ?_)
                  refine WL.nilH hσ0 (fun σ1 hσ1 dσ1 mσ1 => ?_)
                  have fσ0_0 := fσ0_0.mono mσ1
                  have fσ0_1 := fσ0_1.mono mσ1
                  have fσ0_2 := fσ0_2.mono mσ1
                  have fσ1_0 := ros_at 0 rfl hσ1 dσ1
                  refine WD.takeL 27 rfl (by decide +kernel) ?_
                  refine WL.bdC (T := Ty) rfl rfl rfl rfl (by repeat' first | exact CO.nil | apply CO.one (by first | rfl | exact SL.one (by assumption)) | apply CO.agg) rfl (by repeat' first | exact FL.nil | apply FL.cons) ?_
                  refine WL.nilT ?_
                  refine WD.oneL 28 rfl (by decide +kernel) ?_
                  refine WL.alF (T := Ty) rfl rfl (by repeat' first | exact FL.nil | apply FL.cons) (fun b4 => ?_)
                  refine WL.nilH hσ1 (fun σ2 hσ2 dσ2 mσ2 => ?_)
                  have fσ0_0 := fσ0_0.mono mσ2
                  have fσ0_1 := fσ0_1.mono mσ2
                  have fσ0_2 := fσ0_2.mono mσ2
                  have fσ1_0 := fσ1_0.mono mσ2
                  have fσ2_0 := rb_at 0 rfl hσ2 dσ2
                  refine WD.lastG hσ2 (by decide +kernel) (by repeat' first | exact FL.nil | apply FL.cons) rfl (by repeat' first | exact FL.nil | apply FL.cons) ?_
                  refine WL.stAO (T := Ty) (j := 0) rfl rfl rfl rfl (by repeat' first | exact AO.nil | apply AO.cons (by first | rfl | exact SL.one (by assumption))) rfl rfl (by repeat' first | exact FL.nil | apply FL.cons) (by repeat' first | exact FL.nil | apply FL.cons) ?_
                  refine WL.nil ?_
                  first | refine W.sub ?_ (cutA ⟨_, _⟩ trivial) | refine W.perm (List.Perm.swap _ _ _) (W.sub ?_ (cutA ⟨_, _⟩ trivial))
                  exact ⟨rfl, rfl, rfl, rfl, rfl, rfl, rfl, rfl, rfl, rfl, rfl, rfl, rfl, trivial⟩
                · refine WL.alF (T := Ty) rfl rfl (by repeat' first | exact FL.nil | apply FL.cons) (fun b3 => ?_)
                  refine WL.nilH hσ0 (fun σ1 hσ1 dσ1 mσ1 => ?_)
                  have fσ0_0 := fσ0_0.mono mσ1
                  have fσ0_1 := fσ0_1.mono mσ1
                  have fσ0_2 := fσ0_2.mono mσ1
                  have fσ1_0 := rb_at 0 rfl hσ1 dσ1
                  refine WD.oneL 26 rfl (by decide +kernel) ?_
                  refine WL.bsC (T := Ty) rfl rfl rfl rfl rfl rfl rfl (by repeat' first | exact CO.nil | apply CO.one (by first | rfl | exact SL.one (by assumption)) | apply CO.agg) rfl (by repeat' first | exact FL.nil | apply FL.cons) (fun u4 hu4 => ?_)
                  refine WL.nilH hσ1 (fun σ2 hσ2 dσ2 mσ2 => ?_)
                  have fσ0_0 := fσ0_0.mono mσ2
                  have fσ0_1 := fσ0_1.mono mσ2
                  have fσ0_2 := fσ0_2.mono mσ2
                  have fσ1_0 := fσ1_0.mono mσ2
                  have fσ2_0 := ros_at 0 rfl hσ2 dσ2
                  refine WD.takeL 27 rfl (by decide +kernel) ?_
                  refine WL.bdC (T := Ty) rfl rfl rfl rfl (by repeat' first | exact CO.nil | apply CO.one (by first | rfl | exact SL.one (by assumption)) | apply CO.agg) rfl (by repeat' first | exact FL.nil | apply FL.cons) ?_
                  refine WL.nilT ?_
                  refine WD.lastG hσ2 (by decide +kernel) (by repeat' first | exact FL.nil | apply FL.cons) rfl (by repeat' first | exact FL.nil | apply FL.cons) ?_
                  refine WL.stAO (T := Ty) (j := 1) rfl rfl rfl rfl (by repeat' first | exact AO.nil | apply AO.cons (by first | rfl | exact SL.one (by assumption))) rfl rfl (by repeat' first | exact FL.nil | apply FL.cons) (by repeat' first | exact FL.nil | apply FL.cons) ?_
                  refine WL.nil ?_
                  first | refine W.sub ?_ (cutA ⟨_, _⟩ trivial) | refine W.perm (List.Perm.swap _ _ _) (W.sub ?_ (cutA ⟨_, _⟩ trivial))
                  exact ⟨rfl, rfl, rfl, rfl, rfl, rfl, rfl, rfl, rfl, rfl, rfl, rfl, rfl, trivial⟩
            · refine W.condpF rfl (by omega) ?_
              refine W.region ?_
              refine WL.eql rfl rfl rfl ?_
              refine WL.as rfl rfl ?_
              refine WL.nil ?_
              refine W.condpF rfl (by omega) ?_
              refine W.seq ?_
              refine W.region ?_
              refine WL.eql rfl rfl rfl ?_
              refine WL.as rfl rfl ?_
              refine WL.nil ?_
              refine W.condpF rfl (by omega) ?_
              refine W.skip ?_
              refine W.inBlock ?_
              refine W.sub ?_ (cut ⟨L, S, kvs⟩ ρ1 (Le.refl _) (hI.mono (by omega) (Le.refl _)))
              exact ⟨rfl, rfl, rfl, rfl, rfl, rfl, rfl, rfl, rfl, trivial⟩
      · have hk : kget kvs id = none := hI.2.2.2.1 id (by omega)
        rcases (by omega : id < 0 ∨ 16 ≤ id) with ho | ho
        · refine W.seq ?_
          refine W.region ?_
          refine WL.mv rfl rfl ?_
          refine WL.mv rfl rfl ?_
          refine WL.ix (T := Ty) rfl rfl rfl (by assumption) rfl rfl (by omega) (by first | omega | decide +kernel) ?_
          refine WL.ldKn (T := Ty) rfl rfl rfl rfl (by first | assumption | exact ROs.wide (by assumption)) (by assumption) ?_
          refine WL.shrS (c := 128) rfl rfl rfl (by omega) (by decide) ?_
          refine WL.andI rfl rfl rfl (by decide) ?_
          refine WL.as rfl rfl ?_
          refine WL.nil ?_
          refine W.seq ?_
          refine W.region ?_
          refine WL.mv rfl rfl ?_
          refine WL.geq rfl rfl rfl ?_
          refine WL.mv rfl rfl ?_
          refine WL.gdTn rfl rfl rfl rfl rfl (by omega) ?_
          refine WL.gdTn rfl rfl rfl rfl rfl (by omega) ?_
          refine WL.pickFp rfl rfl (by omega) rfl ?_
          refine WL.as rfl rfl ?_
          refine WL.nil ?_
          refine W.seq ?_
          refine W.region ?_
          refine WL.mv rfl rfl ?_
          refine WL.mv rfl rfl ?_
          refine WL.luO (T := Ty) (j := 0) rfl rfl rfl rfl rfl rfl rfl rfl (by first | rw [‹kget _ _ = some _›] | rw [‹kget _ _ = none›]) ?_
          refine WL.mv rfl rfl ?_
          refine WL.extL rfl rfl rfl ?_
          refine WL.extL rfl rfl rfl ?_
          refine WL.as rfl rfl ?_
          refine WL.as rfl rfl ?_
          refine WL.nil ?_
          refine W.seq ?_
          refine W.seq ?_
          refine W.region ?_
          refine WL.mv rfl rfl ?_
          refine WL.mv rfl rfl ?_
          refine WL.ix (T := Ty) rfl rfl rfl (by assumption) rfl rfl (by omega) (by first | omega | decide +kernel) ?_
          refine WL.ldKn (T := Ty) rfl rfl rfl rfl (by first | assumption | exact ROs.wide (by assumption)) (by assumption) ?_
          refine WL.andI rfl rfl rfl (by decide) ?_
          refine WL.nil ?_
          refine W.block ?_
          refine W.seq ?_
          refine W.seq ?_
          refine W.region ?_
          refine WL.eql rfl rfl rfl ?_
          refine WL.as rfl rfl ?_
          refine WL.nil ?_
          refine W.cutG3 (τ := List Plc × List Slo × List (Int × Value)) (fun s => [(0, v0), (1, v1), (4, .bool false), (5, pt b0 0), (6, pt b1 0), (7, .map (some b2)), (8, .int .i64 (i : Int)), (9, .int .i64 id), (11, .bool false)]) (fun s => [Mp .i64 b2 s.2.2, box b1 (s.2.1.flatMap sloC) 51, box b0 (dirC s.1) TD]) (fun s ρ' => PInv (i + 1) s.1 s.2.1 s.2.2 ρ') ?_ (fun cut => ?_)
          · rintro ⟨L, S, kvs⟩ ρ2 le2 hI
            simp only [] at hI ⊢
            have n2 : ROs ρ2 2 nilV (([] : List (Int × Int)).flatMap smC) := ros_nil _ _
            have n5 : ROs ρ2 5 nilV (([] : List Prt).flatMap paC) := ros_nil _ _

            have hk : kget kvs id = none := hI.2.2.2.1 id (by omega)
            refine W.seq ?_
            refine W.region ?_
            refine WL.mv rfl rfl ?_
            refine WL.mv rfl rfl ?_
            refine WL.luO (T := Ty) (j := 0) rfl rfl rfl rfl rfl rfl rfl rfl (by first | rw [‹kget _ _ = some _›] | rw [‹kget _ _ = none›]) ?_
            refine WL.mv rfl rfl ?_
            refine WL.extL rfl rfl rfl ?_
            refine WL.extL rfl rfl rfl ?_
            refine WL.as rfl rfl ?_
            refine WL.as rfl rfl ?_
            refine WL.nil ?_
            refine W.seq ?_
            refine W.region ?_
            refine WL.mv rfl rfl ?_
            refine WL.mv rfl rfl ?_
            refine WL.callV rfl rfl (fun x p d => look_out _ _ _ (by first | assumption | omega | decide)) ?_
            refine WL.mv rfl rfl ?_
            refine WL.extL rfl rfl rfl ?_
            refine WL.extL rfl rfl rfl ?_
            refine WL.alF (T := Ty) rfl rfl (by repeat' first | exact FL.nil | apply FL.cons) (fun b3 => ?_)
            refine WL.stAO (T := Ty) (j := 0) rfl rfl rfl rfl (by repeat' first | exact AO.nil | apply AO.cons (by first | rfl | exact SL.one (by assumption))) rfl rfl (by repeat' first | exact FL.nil | apply FL.cons) (by repeat' first | exact FL.nil | apply FL.cons) ?_
            refine WL.as rfl rfl ?_
            refine WL.nil ?_
            refine W.seq ?_
            refine W.region ?_
            refine WL.mv rfl rfl ?_
            refine WL.mv rfl rfl ?_
            refine WL.callV rfl rfl (fun x p d => flag_out _ _ _ (by first | assumption | omega | decide)) ?_
            refine WL.mv rfl rfl ?_
            refine WL.extL rfl rfl rfl ?_
            refine WL.extL rfl rfl rfl ?_
            refine WL.as rfl rfl ?_
            refine WL.as rfl rfl ?_
            refine WL.nil ?_
            refine W.seq ?_
            refine W.drawA 41 rfl (fun σ0 hσ0 dσ0 => ?_)
            have fσ0_0 := rb_at 0 rfl hσ0 dσ0
            have fσ0_1 := in_at 1 rfl hσ0 dσ0
            have fσ0_2 := rb_at 2 rfl hσ0 dσ0
            have fσ0_3 := rb_at 3 rfl hσ0 dσ0
            refine WD.takeL 0 rfl (by decide +kernel) ?_
            refine WL.mv rfl rfl ?_
            refine WL.nilT ?_
            refine WD.takeL 1 rfl (by decide +kernel) ?_
            refine WL.mv rfl rfl ?_
            refine WL.nilT ?_
            refine WD.takeL 2 rfl (by decide +kernel) ?_
            refine WL.mv rfl rfl ?_
            refine WL.nilT ?_
            refine WD.takeL 3 rfl (by decide +kernel) ?_
            refine WL.gdN rfl rfl rfl rfl rfl rfl ?_
            refine WL.nilT ?_
            refine WD.takeL 4 rfl (by decide +kernel) ?_
            refine WL.gdN rfl rfl rfl rfl rfl rfl ?_
            refine WL.nilT ?_
            refine WD.takeL 5 rfl (by decide +kernel) ?_
            refine WL.pickF rfl rfl rfl ?_
            refine WL.nilT ?_
            refine WD.takeL 6 rfl (by decide +kernel) ?_
            refine WL.neB (T := Ty) rfl rfl rfl rfl ?_
            refine WL.nilT ?_
            refine WD.takeL 7 rfl (by decide +kernel) ?_
            refine WL.mv rfl rfl ?_
            refine WL.nilT ?_
            refine WD.takeL 8 rfl (by decide +kernel) ?_
            refine WL.gY rfl rfl ?_
            refine WL.mv rfl rfl ?_
            refine WL.nilT ?_
            refine WD.takeL 9 rfl (by decide +kernel) ?_
            refine WL.gY rfl rfl ?_
            refine WL.mv rfl rfl ?_
            refine WL.nilT ?_
            refine WD.takeL 10 rfl (by decide +kernel) ?_
            refine WL.gdN rfl rfl rfl rfl rfl rfl ?_
            refine WL.nilT ?_
            refine WD.takeL 11 rfl (by decide +kernel) ?_
            refine WL.gdN rfl rfl rfl rfl rfl rfl ?_
            refine WL.nilT ?_
            refine WD.takeL 12 rfl (by decide +kernel) ?_
            refine WL.gdN rfl rfl rfl rfl rfl rfl ?_
            refine WL.nilT ?_
            refine WD.takeL 13 rfl (by decide +kernel) ?_
            refine WL.gdN rfl rfl rfl rfl rfl rfl ?_
            refine WL.nilT ?_
            refine WD.takeL 14 rfl (by decide +kernel) ?_
            refine WL.gdN rfl rfl rfl rfl rfl rfl ?_
            refine WL.nilT ?_
            refine WD.takeL 15 rfl (by decide +kernel) ?_
            refine WL.gdN rfl rfl rfl rfl rfl rfl ?_
            refine WL.nilT ?_
            refine WD.takeL 16 rfl (by decide +kernel) ?_
            refine WL.gY rfl rfl ?_
            refine WL.pickF rfl rfl rfl ?_
            refine WL.nilT ?_
            refine WD.takeL 17 rfl (by decide +kernel) ?_
            refine WL.pickF rfl rfl rfl ?_
            refine WL.nilT ?_
            refine WD.takeL 18 rfl (by decide +kernel) ?_
            refine WL.mv rfl rfl ?_
            refine WL.nilT ?_
            refine WD.takeL 19 rfl (by decide +kernel) ?_
            refine WL.gY rfl rfl ?_
            refine WL.mv rfl rfl ?_
            refine WL.nilT ?_
            refine WD.takeL 20 rfl (by decide +kernel) ?_
            refine WL.gY rfl rfl ?_
            refine WL.not rfl rfl ?_
            refine WL.nilT ?_
            refine WD.takeL 21 rfl (by decide +kernel) ?_
            refine WL.gY rfl rfl ?_
            refine WL.mv rfl rfl ?_
            refine WL.nilT ?_
            refine WD.takeL 22 rfl (by decide +kernel) ?_
            refine WL.gY rfl rfl ?_
            refine WL.ldABF (T := Ty) rfl rfl rfl rfl (by first | assumption | exact RB.wide (by assumption) | exact In.rb (by assumption)) rfl (by repeat' first | exact FL.nil | apply FL.cons) ?_
            refine WL.nilT ?_
            refine WD.takeL 23 rfl (by decide +kernel) ?_
            refine WL.gY rfl rfl ?_
            refine WL.bdC (T := Ty) rfl rfl rfl rfl (by repeat' first | exact CO.nil | apply CO.one (by first | rfl | exact SL.one (by assumption)) | apply CO.agg) rfl (by repeat' first | exact FL.nil | apply FL.cons) ?_
            refine WL.nilT ?_
            refine WD.oneL 24 rfl (by decide +kernel) ?_
            refine WL.gY rfl rfl ?_
            refine WL.callV rfl rfl (fun x p d => sameS_c _ _ _ _ _ _ (by first | assumption | exact ROs.wide (by assumption) | exact ROs.mono (by assumption) (eqh_at 0 rfl p d) | exact ros_at 0 rfl p d | exact ros_at 1 rfl p d | exact ros_at 2 rfl p d | exact ros_at 3 rfl p d | exact ros_at 4 rfl p d) (by first | assumption | exact ROs.wide (by assumption) | exact ROs.mono (by assumption) (eqh_at 0 rfl p d) | exact ros_at 0 rfl p d | exact ros_at 1 rfl p d | exact ros_at 2 rfl p d | exact ros_at 3 rfl p d | exact ros_at 4 rfl p d) (by first | assumption | exact ROs.wide (by assumption) | exact ROs.mono (by assumption) (eqh_at 0 rfl p d) | exact ros_at 0 rfl p d | exact ros_at 1 rfl p d | exact ros_at 2 rfl p d | exact ros_at 3 rfl p d | exact ros_at 4 rfl p d) (by first | assumption | exact ROs.wide (by assumption) | exact ROs.mono (by assumption) (eqh_at 0 rfl p d) | exact ros_at 0 rfl p d | exact ros_at 1 rfl p d | exact ros_at 2 rfl p d | exact ros_at 3 rfl p d | exact ros_at 4 rfl p d) (by first | assumption | omega | exact Nat.zero_le _) (by first | assumption | omega | exact Nat.zero_le _)) ?_
            refine WL.nilE ?_
            refine WD.takeL 25 rfl (by decide +kernel) ?_
            refine WL.gY rfl rfl ?_
            refine WL.not rfl rfl ?_
            refine WL.nilT ?_
            refine WD.takeL 26 rfl (by decide +kernel) ?_
            refine WL.gY rfl rfl ?_
            refine WL.pickT rfl rfl rfl ?_
            refine WL.nilT ?_
            refine WD.takeL 27 rfl (by decide +kernel) ?_
            refine WL.pickF rfl rfl rfl ?_
            refine WL.nilT ?_
            refine WD.takeL 28 rfl (by decide +kernel) ?_
            refine WL.mv rfl rfl ?_
            refine WL.nilT ?_
            refine WD.takeL 29 rfl (by decide +kernel) ?_
            refine WL.gY rfl rfl ?_
            refine WL.mv rfl rfl ?_
            refine WL.nilT ?_
            refine WD.takeL 30 rfl (by decide +kernel) ?_
            refine WL.gY rfl rfl ?_
            refine WL.mv rfl rfl ?_
            refine WL.nilT ?_
            refine WD.takeL 31 rfl (by decide +kernel) ?_
            refine WL.gY rfl rfl ?_
            refine WL.neB (T := Ty) rfl rfl rfl rfl ?_
            refine WL.nilT ?_
            refine WD.takeL 32 rfl (by decide +kernel) ?_
            refine WL.pickF rfl rfl rfl ?_
            refine WL.nilT ?_
            refine WD.takeL 33 rfl (by decide +kernel) ?_
            refine WL.mv rfl rfl ?_
            refine WL.nilT ?_
            refine WD.takeL 34 rfl (by decide +kernel) ?_
            refine WL.gY rfl rfl ?_
            refine WL.mv rfl rfl ?_
            refine WL.nilT ?_
            refine WD.takeL 35 rfl (by decide +kernel) ?_
            refine WL.gY rfl rfl ?_
            refine WL.mv rfl rfl ?_
            refine WL.nilT ?_
            refine WD.takeL 36 rfl (by decide +kernel) ?_
            refine WL.gdN rfl rfl rfl rfl rfl rfl ?_
            refine WL.nilT ?_
            refine WD.takeL 37 rfl (by decide +kernel) ?_
            refine WL.gdN rfl rfl rfl rfl rfl rfl ?_
            refine WL.nilT ?_
            refine WD.takeL 38 rfl (by decide +kernel) ?_
            refine WL.gdN rfl rfl rfl rfl rfl rfl ?_
            refine WL.nilT ?_
            refine WD.takeL 39 rfl (by decide +kernel) ?_
            refine WL.gY rfl rfl ?_
            refine WL.pickF rfl rfl rfl ?_
            refine WL.nilT ?_
            refine WD.takeL 40 rfl (by decide +kernel) ?_
            refine WL.pickF rfl rfl rfl ?_
            refine WL.nilT ?_
            refine WD.doneF hσ0 (by decide +kernel) (by repeat' first | exact FL.nil | apply FL.cons) ?_
            refine W.condF rfl ?_
            refine W.skip ?_
            refine W.inBlock ?_
            refine W.region ?_
            refine WL.mv rfl rfl ?_
            refine WL.addK rfl rfl rfl (wrap_i64 ⟨by omega, by omega⟩) ?_
            refine WL.as rfl rfl ?_
            refine WL.nil ?_
            refine W.drop 0 rfl (by repeat' first | exact FL.nil | apply FL.cons) ?_
            refine W.sub ?_ (next ⟨i + 1, L, S, kvs⟩ _ le2 ⟨by simp only []; omega, hI⟩ (by simp only []; omega))
            exact ⟨rfl, rfl, rfl, rfl, rfl, rfl, rfl, trivial⟩
          · rcases (by omega : x % (3 + 1) = 0 ∨ x % (3 + 1) = 1 ∨ x % (3 + 1) = 2 ∨ x % (3 + 1) = 3) with hx4 | hx4 | hx4 | hx4
            · refine W.condpT rfl (by omega) ?_
              refine W.skip ?_
              refine W.condpT rfl (by omega) ?_
              refine W.seq ?_
              refine W.region ?_
              refine WL.mv rfl rfl ?_
              refine WL.mv rfl rfl ?_
              refine WL.gdN rfl rfl rfl rfl rfl rfl ?_
              refine WL.gdN rfl rfl rfl rfl rfl rfl ?_
              refine WL.pickF rfl rfl rfl ?_
              refine WL.as rfl rfl ?_
              refine WL.nil ?_
              refine W.seq ?_
              refine W.seq ?_
              refine W.region ?_
              refine WL.mv rfl rfl ?_
              refine WL.mv rfl rfl ?_
              refine WL.mv rfl rfl ?_
              refine WL.callV rfl rfl (fun x p d => take_out _ _ _ _ (by first | assumption | omega | decide)) ?_
              refine WL.mv rfl rfl ?_
              refine WL.neB (T := Ty) rfl rfl rfl rfl ?_
              refine WL.nil ?_
              refine W.condF rfl ?_
              refine W.skip ?_
              refine W.seq ?_
              refine W.region ?_
              refine WL.mv rfl rfl ?_
              refine WL.nil ?_
              refine W.condF rfl ?_
              refine W.skip ?_
              refine W.inBlock ?_
              refine W.sub ?_ (cut ⟨L, S, kvs⟩ ρ1 (Le.refl _) (hI.mono (by omega) (Le.refl _)))
              exact ⟨rfl, rfl, rfl, rfl, rfl, rfl, rfl, rfl, rfl, trivial⟩
            · refine W.condpF rfl (by omega) ?_
              refine W.region ?_
              refine WL.eql rfl rfl rfl ?_
              refine WL.as rfl rfl ?_
              refine WL.nil ?_
              refine W.condpT rfl (by omega) ?_
              refine W.seq ?_
              refine W.region ?_
              refine WL.mv rfl rfl ?_
              refine WL.mv rfl rfl ?_
              refine WL.gdN rfl rfl rfl rfl rfl rfl ?_
              refine WL.gdN rfl rfl rfl rfl rfl rfl ?_
              refine WL.pickF rfl rfl rfl ?_
              refine WL.as rfl rfl ?_
              refine WL.nil ?_
              refine W.seq ?_
              refine W.seq ?_
              refine W.region ?_
              refine WL.mv rfl rfl ?_
              refine WL.mv rfl rfl ?_
              refine WL.mv rfl rfl ?_
              refine WL.callV rfl rfl (fun x p d => take_out _ _ _ _ (by first | assumption | omega | decide)) ?_
              refine WL.mv rfl rfl ?_
              refine WL.neB (T := Ty) rfl rfl rfl rfl ?_
              refine WL.nil ?_
              refine W.condF rfl ?_
              refine W.skip ?_
              refine W.seq ?_
              refine W.region ?_
              refine WL.mv rfl rfl ?_
              refine WL.nil ?_
              refine W.condF rfl ?_
              refine W.skip ?_
              refine W.inBlock ?_
              refine W.sub ?_ (cut ⟨L, S, kvs⟩ ρ1 (Le.refl _) (hI.mono (by omega) (Le.refl _)))
              exact ⟨rfl, rfl, rfl, rfl, rfl, rfl, rfl, rfl, rfl, trivial⟩
            · refine W.condpF rfl (by omega) ?_
              refine W.region ?_
              refine WL.eql rfl rfl rfl ?_
              refine WL.as rfl rfl ?_
              refine WL.nil ?_
              refine W.condpF rfl (by omega) ?_
              refine W.seq ?_
              refine W.region ?_
              refine WL.eql rfl rfl rfl ?_
              refine WL.as rfl rfl ?_
              refine WL.nil ?_
              refine W.condpT rfl (by omega) ?_
              refine W.seq ?_
              refine W.cut (τ := Nat × Value) (fun s => [(0, v0), (1, v1), (4, .bool false), (5, pt b0 0), (6, pt b1 0), (7, .map (some b2)), (8, .int .i64 (i : Int)), (9, .int .i64 id), (10, .int .i64 (x / 128 % (3 + 1))), (11, .bool false), (12, .int .i64 0), (13, .bool false), (15, pt s.1 0)]) (fun s => [box s.1 [.bool (decide (x / 512 % (1 + 1) = 1)), .bool (decide (x / 1024 % (1 + 1) = 1)), .int .i64 (x / 2048 % (3 + 1)), .int .i64 x, .bool false, .int .i64 0, nilV, s.2] 32, Buf 5 s.2 (([⟨i, 0, 0, 0, 0⟩] : List Prt).flatMap paC), Mp .i64 b2 kvs, box b1 (S.flatMap sloC) 51, box b0 (dirC L) TD]) (fun _ => True) ?_ (fun cutA => ?_)
              · rintro ⟨b3, u⟩ _
                simp only []
                generalize decide (x / 512 % (1 + 1) = 1) = th
                generalize decide (x / 1024 % (1 + 1) = 1) = se
                generalize x / 2048 % (3 + 1) = li
                refine W.freeze 1 rfl (by repeat' first | exact FL.nil | apply FL.cons) (fun ρ2 le2 hin => ?_)
                have hu := hin.ros
                have su : SL u 1 := hu.sl (n := 1) rfl (by omega)
                replace r0 := r0.mono le2
                replace r1 := r1.mono le2
                replace hI := hI.mono (Nat.le_refl _) le2
                have n2 : ROs ρ2 2 nilV (([] : List (Int × Int)).flatMap smC) := ros_nil _ _
                have hp1 : ([⟨i, 0, 0, 0, 0⟩] : List Prt).length ≤ 140737488355 := by show 1 ≤ _; decide
                refine W.seq ?_
                refine W.seq ?_
                refine W.region ?_
                refine WL.mv rfl rfl ?_
                refine WL.len (T := Ty) rfl rfl (by assumption) rfl ?_
                refine WL.gtr rfl rfl rfl ?_
                refine WL.nil ?_
                refine W.cut (τ := Value × List (Int × Int)) (fun s => [(0, v0), (1, v1), (4, .bool false), (5, pt b0 0), (6, pt b1 0), (7, .map (some b2)), (8, .int .i64 (i : Int)), (9, .int .i64 id), (10, .int .i64 (x / 128 % (3 + 1))), (11, .bool false), (12, .int .i64 0), (13, .bool false), (15, pt b3 0)]) (fun s => [box b3 [.bool th, .bool se, .int .i64 li, .int .i64 x, .bool false, .int .i64 0, s.1, u] 32, Mp .i64 b2 kvs, box b1 (S.flatMap sloC) 51, box b0 (dirC L) TD]) (fun s => ROs ρ2 2 s.1 (s.2.flatMap smC) ∧ s.2.length ≤ 8796093022208) ?_ (fun cutB => ?_)
                · rintro ⟨lv, l⟩ ⟨hlv, hll⟩
                  simp only [] at hlv hll ⊢
                  refine W.seq ?_
                  refine W.region ?_
                  refine WL.mv rfl rfl ?_
                  refine WL.mv rfl rfl ?_
                  refine WL.gdN rfl rfl rfl rfl rfl rfl ?_
                  refine WL.pickF rfl rfl rfl ?_
                  refine WL.mv rfl rfl ?_
                  refine WL.gdN rfl rfl rfl rfl rfl rfl ?_
                  refine WL.gdN rfl rfl rfl rfl rfl rfl ?_
                  refine WL.gdN rfl rfl rfl rfl rfl rfl ?_
                  refine WL.pickF rfl rfl rfl ?_
                  refine WL.as rfl rfl ?_
                  refine WL.nil ?_
                  refine W.seq ?_
                  refine W.seq ?_
                  refine W.region ?_
                  refine WL.mv rfl rfl ?_
                  refine WL.mv rfl rfl ?_
                  refine WL.mv rfl rfl ?_
                  refine WL.ldAF (T := Ty) (j := 0) rfl rfl rfl rfl rfl rfl (by repeat' first | exact FL.nil | apply FL.cons) ?_
                  refine WL.callV rfl rfl (fun x p d => leave_out _ _ _ _ ⟨_, _, _, _, _, _, _, _⟩ (by first | assumption | omega | decide)) ?_
                  refine WL.mv rfl rfl ?_
                  refine WL.neB (T := Ty) rfl rfl rfl rfl ?_
                  refine WL.nil ?_
                  refine W.condF rfl ?_
                  refine W.skip ?_
                  refine W.seq ?_
                  refine W.region ?_
                  refine WL.mv rfl rfl ?_
                  refine WL.nil ?_
                  refine W.condF rfl ?_
                  refine W.skip ?_
                  refine W.inBlock ?_
                  refine W.drop 0 rfl (by repeat' first | exact FL.nil | apply FL.cons) ?_
                  refine W.sub ?_ (cut ⟨L, S, kvs⟩ ρ2 le2 (hI.mono (by omega) (Le.refl _)))
                  exact ⟨rfl, rfl, rfl, rfl, rfl, rfl, rfl, rfl, rfl, trivial⟩
                · refine W.condp rfl (fun hc => ?_) (fun hc => ?_)
                  · have hpos : 0 < z1.length := by omega
                    obtain ⟨k, hk1, hk2⟩ : ∃ k : Nat, (i : Int) % (z1.length : Int) = (k : Int) ∧ k < z1.length := ⟨i % z1.length, (Int.natCast_emod _ _).symm, Nat.mod_lt _ hpos⟩
                    obtain ⟨y, hy⟩ : ∃ y, z1[k]? = some y := ⟨_, List.getElem?_eq_getElem hk2⟩
                    have hy1 : (z1.map (·.1))[k]? = some y.1 := by rw [List.getElem?_map, hy]; rfl
                    obtain ⟨w1, _, w2⟩ := m1 y (List.mem_of_getElem? hy)
                    have w3 : ROs ρ2 2 y.1 (y.2.flatMap smC) := (w1.mono le1).mono le2
                    have sy : SL y.1 y.2.length := w3.sl (flat_len sm_len _) (by omega)
                    refine W.region ?_
                    refine WL.mv rfl rfl ?_
                    refine WL.mv rfl rfl ?_
                    refine WL.mv rfl rfl ?_
                    refine WL.len (T := Ty) rfl rfl (by assumption) rfl ?_
                    refine WL.remI rfl rfl rfl (by omega) (by omega) ?_
                    refine WL.ix (T := Ty) rfl rfl rfl (by assumption) rfl rfl (by omega) (by first | omega | decide +kernel) ?_
                    refine WL.ldK (T := Ty) rfl rfl rfl rfl (by first | assumption | exact ROs.wide (by assumption)) (by assumption) (by omega) ?_
                    refine WL.faN (T := Ty) (off' := 4) rfl rfl rfl rfl rfl rfl rfl ?_
                    refine WL.faN (T := Ty) (off' := 6) rfl rfl rfl rfl rfl rfl rfl ?_
                    refine WL.stF (T := Ty) (j := 0) rfl rfl rfl rfl (SL.one (by assumption)) rfl rfl (by repeat' first | exact FL.nil | apply FL.cons) (by repeat' first | exact FL.nil | apply FL.cons) ?_
                    refine WL.nil ?_
                    rw [hk1]
                    skip
                    refine W.sub ?_ (cutB ⟨y.1, y.2⟩ ⟨w3, by simp only []; omega⟩)
                    exact ⟨rfl, rfl, rfl, rfl, rfl, rfl, rfl, rfl, rfl, rfl, rfl, rfl, rfl, trivial⟩
                  · refine W.skip ?_
                    refine W.sub ?_ (cutB ⟨nilV, []⟩ ⟨n2, Nat.zero_le _⟩)
                    exact ⟨rfl, rfl, rfl, rfl, rfl, rfl, rfl, rfl, rfl, rfl, rfl, rfl, rfl, trivial⟩
              · refine W.drawA 29 rfl (fun σ0 hσ0 dσ0 => ?_)
                have fσ0_0 := in_at 0 rfl hσ0 dσ0
                have fσ0_1 := rb_at 1 rfl hσ0 dσ0
                have fσ0_2 := rb_at 2 rfl hσ0 dσ0
                refine WD.takeL 0 rfl (by decide +kernel) ?_
                refine WL.mv rfl rfl ?_
                refine WL.nilT ?_
                refine WD.takeL 1 rfl (by decide +kernel) ?_
                refine WL.mv rfl rfl ?_
                refine WL.nilT ?_
                refine WD.takeL 2 rfl (by decide +kernel) ?_
                refine WL.ix (T := Ty) rfl rfl rfl (by assumption) rfl rfl (by omega) (by first | omega | decide +kernel) ?_
                refine WL.nilT ?_
                refine WD.takeL 3 rfl (by decide +kernel) ?_
                refine WL.ldKn (T := Ty) rfl rfl rfl rfl (by first | assumption | exact ROs.wide (by assumption)) (by assumption) ?_
                refine WL.nilT ?_
                refine WD.takeL 4 rfl (by decide +kernel) ?_
                refine WL.shrS (c := 512) rfl rfl rfl (by omega) (by decide) ?_
                refine WL.nilT ?_
                refine WD.takeL 5 rfl (by decide +kernel) ?_
                refine WL.andI rfl rfl rfl (by decide) ?_
                refine WL.nilT ?_
                refine WD.takeL 6 rfl (by decide +kernel) ?_
                refine WL.eql rfl rfl rfl ?_
                refine WL.nilT ?_
                refine WD.takeL 7 rfl (by decide +kernel) ?_
                refine WL.mv rfl rfl ?_
                refine WL.nilT ?_
                refine WD.takeL 8 rfl (by decide +kernel) ?_
                refine WL.mv rfl rfl ?_
                refine WL.nilT ?_
                refine WD.takeL 9 rfl (by decide +kernel) ?_
                refine WL.ix (T := Ty) rfl rfl rfl (by assumption) rfl rfl (by omega) (by first | omega | decide +kernel) ?_
                refine WL.nilT ?_
                refine WD.takeL 10 rfl (by decide +kernel) ?_
                refine WL.ldKn (T := Ty) rfl rfl rfl rfl (by first | assumption | exact ROs.wide (by assumption)) (by assumption) ?_
                refine WL.nilT ?_
                refine WD.takeL 11 rfl (by decide +kernel) ?_
                refine WL.shrS (c := 1024) rfl rfl rfl (by omega) (by decide) ?_
                refine WL.nilT ?_
                refine WD.takeL 12 rfl (by decide +kernel) ?_
                refine WL.andI rfl rfl rfl (by decide) ?_
                refine WL.nilT ?_
                refine WD.takeL 13 rfl (by decide +kernel) ?_
                refine WL.eql rfl rfl rfl ?_
                refine WL.nilT ?_
                refine WD.takeL 14 rfl (by decide +kernel) ?_
                refine WL.mv rfl rfl ?_
                refine WL.nilT ?_
                refine WD.takeL 15 rfl (by decide +kernel) ?_
                refine WL.mv rfl rfl ?_
                refine WL.nilT ?_
                refine WD.takeL 16 rfl (by decide +kernel) ?_
                refine WL.ix (T := Ty) rfl rfl rfl (by assumption) rfl rfl (by omega) (by first | omega | decide +kernel) ?_
                refine WL.nilT ?_
                refine WD.takeL 17 rfl (by decide +kernel) ?_
                refine WL.ldKn (T := Ty) rfl rfl rfl rfl (by first | assumption | exact ROs.wide (by assumption)) (by assumption) ?_
                refine WL.nilT ?_
                refine WD.takeL 18 rfl (by decide +kernel) ?_
                refine WL.shrS (c := 2048) rfl rfl rfl (by omega) (by decide) ?_
                refine WL.nilT ?_
                refine WD.takeL 19 rfl (by decide +kernel) ?_
                refine WL.andI rfl rfl rfl (by decide) ?_
                refine WL.nilT ?_
                refine WD.takeL 20 rfl (by decide +kernel) ?_
                refine WL.mv rfl rfl ?_
                refine WL.nilT ?_
                refine WD.takeL 21 rfl (by decide +kernel) ?_
                refine WL.mv rfl rfl ?_
                refine WL.nilT ?_
                refine WD.takeL 22 rfl (by decide +kernel) ?_
                refine WL.ix (T := Ty) rfl rfl rfl (by assumption) rfl rfl (by omega) (by first | omega | decide +kernel) ?_
                refine WL.nilT ?_
                refine WD.takeL 23 rfl (by decide +kernel) ?_
                refine WL.ldKn (T := Ty) rfl rfl rfl rfl (by first | assumption | exact ROs.wide (by assumption)) (by assumption) ?_
                refine WL.nilT ?_
                refine WD.takeL 24 rfl (by decide +kernel) ?_
                refine WL.mv rfl rfl ?_
                refine WL.nilT ?_
                refine WD.takeL 25 rfl (by decide +kernel) ?_
                refine WL.bdC (T := Ty) rfl rfl rfl rfl (by repeat' first | exact CO.nil | apply CO.one (by first | rfl | exact SL.one (by assumption)) | apply CO.agg) rfl (by repeat' first | exact FL.nil | apply FL.cons) ?_
                refine WL.nilT ?_
                refine WD.twoL 26 28 rfl rfl (by decide +kernel) ?_ ?_
                · refine WL.bsC (T := Ty) rfl rfl rfl rfl rfl rfl rfl (by repeat' first | exact CO.nil | apply CO.one (by first | rfl | exact SL.one (by assumption)) | apply CO.agg) rfl (by repeat' first | exact FL.nil | apply FL.cons) (fun u3 hu3 => ?_)
                  refine WL.nilH hσ0 (fun σ1 hσ1 dσ1 mσ1 => ?_)
                  have fσ0_0 := fσ0_0.mono mσ1
                  have fσ0_1 := fσ0_1.mono mσ1
                  have fσ0_2 := fσ0_2.mono mσ1
                  have fσ1_0 := ros_at 0 rfl hσ1 dσ1
                  refine WD.takeL 27 rfl (by decide +kernel) ?_
                  refine WL.bdC (T := Ty) rfl rfl rfl rfl (by repeat' first | exact CO.nil | apply CO.one (by first | rfl | exact SL.one (by assumption)) | apply CO.agg) rfl (by repeat' first | exact FL.nil | apply FL.cons) ?_
                  refine WL.nilT ?_
                  refine WD.oneL 28 rfl (by decide +kernel) ?_
                  refine WL.alF (T := Ty) rfl rfl (by repeat' first | exact FL.nil | apply FL.cons) (fun b4 => ?_)
                  refine WL.nilH hσ1 (fun σ2 hσ2 dσ2 mσ2 => ?_)
                  have fσ0_0 := fσ0_0.mono mσ2
                  have fσ0_1 := fσ0_1.mono mσ2
                  have fσ0_2 := fσ0_2.mono mσ2
                  have fσ1_0 := fσ1_0.mono mσ2
                  have fσ2_0 := rb_at 0 rfl hσ2 dσ2
                  refine WD.lastG hσ2 (by decide +kernel) (by repeat' first | exact FL.nil | apply FL.cons) rfl (by repeat' first | exact FL.nil | apply FL.cons) ?_
                  refine WL.stAO (T := Ty) (j := 0) rfl rfl rfl rfl (by repeat' first | exact AO.nil | apply AO.cons (by first | rfl | exact SL.one (by assumption))) rfl rfl (by repeat' first | exact FL.nil | apply FL.cons) (by repeat' first | exact FL.nil | apply FL.cons) ?_
                  refine WL.nil ?_
                  first | refine W.sub ?_ (cutA ⟨_, _⟩ trivial) | refine W.perm (List.Perm.swap _ _ _) (W.sub ?_ (cutA ⟨_, _⟩ trivial))
                  exact ⟨rfl, rfl, rfl, rfl, rfl, rfl, rfl, rfl, rfl, rfl, rfl, rfl, rfl, trivial⟩
                · refine WL.alF (T := Ty) rfl rfl (by repeat' first | exact FL.nil | apply FL.cons) (fun b3 => ?_)
                  refine WL.nilH hσ0 (fun σ1 hσ1 dσ1 mσ1 => ?_)
                  have fσ0_0 := fσ0_0.mono mσ1
                  have fσ0_1 := fσ0_1.mono mσ1
                  have fσ0_2 := fσ0_2.mono mσ1
                  have fσ1_0 := rb_at 0 rfl hσ1 dσ1
                  refine WD.oneL 26 rfl (by decide +kernel) ?_
                  refine WL.bsC (T := Ty) rfl rfl rfl rfl rfl rfl rfl (by repeat' first | exact CO.nil | apply CO.one (by first | rfl | exact SL.one (by assumption)) | apply CO.agg) rfl (by repeat' first | exact FL.nil | apply FL.cons) (fun u4 hu4 => ?_)
                  refine WL.nilH hσ1 (fun σ2 hσ2 dσ2 mσ2 => ?_)
                  have fσ0_0 := fσ0_0.mono mσ2
                  have fσ0_1 := fσ0_1.mono mσ2
                  have fσ0_2 := fσ0_2.mono mσ2
                  have fσ1_0 := fσ1_0.mono mσ2
                  have fσ2_0 := ros_at 0 rfl hσ2 dσ2
                  refine WD.takeL 27 rfl (by decide +kernel) ?_
                  refine WL.bdC (T := Ty) rfl rfl rfl rfl (by repeat' first | exact CO.nil | apply CO.one (by first | rfl | exact SL.one (by assumption)) | apply CO.agg) rfl (by repeat' first | exact FL.nil | apply FL.cons) ?_
                  refine WL.nilT ?_
                  refine WD.lastG hσ2 (by decide +kernel) (by repeat' first | exact FL.nil | apply FL.cons) rfl (by repeat' first | exact FL.nil | apply FL.cons) ?_
                  refine WL.stAO (T := Ty) (j := 1) rfl rfl rfl rfl (by repeat' first | exact AO.nil | apply AO.cons (by first | rfl | exact SL.one (by assumption))) rfl rfl (by repeat' first | exact FL.nil | apply FL.cons) (by repeat' first | exact FL.nil | apply FL.cons) ?_
                  refine WL.nil ?_
                  first | refine W.sub ?_ (cutA ⟨_, _⟩ trivial) | refine W.perm (List.Perm.swap _ _ _) (W.sub ?_ (cutA ⟨_, _⟩ trivial))
                  exact ⟨rfl, rfl, rfl, rfl, rfl, rfl, rfl, rfl, rfl, rfl, rfl, rfl, rfl, trivial⟩
            · refine W.condpF rfl (by omega) ?_
              refine W.region ?_
              refine WL.eql rfl rfl rfl ?_
              refine WL.as rfl rfl ?_
              refine WL.nil ?_
              refine W.condpF rfl (by omega) ?_
              refine W.seq ?_
              refine W.region ?_
              refine WL.eql rfl rfl rfl ?_
              refine WL.as rfl rfl ?_
              refine WL.nil ?_
              refine W.condpF rfl (by omega) ?_
              refine W.skip ?_
              refine W.inBlock ?_
              refine W.sub ?_ (cut ⟨L, S, kvs⟩ ρ1 (Le.refl _) (hI.mono (by omega) (Le.refl _)))
              exact ⟨rfl, rfl, rfl, rfl, rfl, rfl, rfl, rfl, rfl, trivial⟩
        · refine W.seq ?_
          refine W.region ?_
          refine WL.mv rfl rfl ?_
          refine WL.mv rfl rfl ?_
          refine WL.ix (T := Ty) rfl rfl rfl (by assumption) rfl rfl (by omega) (by first | omega | decide +kernel) ?_
          refine WL.ldKn (T := Ty) rfl rfl rfl rfl (by first | assumption | exact ROs.wide (by assumption)) (by assumption) ?_
          refine WL.shrS (c := 128) rfl rfl rfl (by omega) (by decide) ?_
          refine WL.andI rfl rfl rfl (by decide) ?_
          refine WL.as rfl rfl ?_
          refine WL.nil ?_
          refine W.seq ?_
          refine W.region ?_
          refine WL.mv rfl rfl ?_
          refine WL.geq rfl rfl rfl ?_
          refine WL.mv rfl rfl ?_
          refine WL.gT rfl rfl (by omega) ?_
          refine WL.mv rfl rfl ?_
          refine WL.gT rfl rfl (by omega) ?_
          refine WL.lss rfl rfl rfl ?_
          refine WL.pickTp rfl rfl (by omega) rfl ?_
          refine WL.as rfl rfl ?_
          refine WL.nil ?_
          refine W.seq ?_
          refine W.region ?_
          refine WL.mv rfl rfl ?_
          refine WL.mv rfl rfl ?_
          refine WL.luO (T := Ty) (j := 0) rfl rfl rfl rfl rfl rfl rfl rfl (by first | rw [‹kget _ _ = some _›] | rw [‹kget _ _ = none›]) ?_
          refine WL.mv rfl rfl ?_
          refine WL.extL rfl rfl rfl ?_
          refine WL.extL rfl rfl rfl ?_
          refine WL.as rfl rfl ?_
          refine WL.as rfl rfl ?_
          refine WL.nil ?_
          refine W.seq ?_
          refine W.seq ?_
          refine W.region ?_
          refine WL.mv rfl rfl ?_
          refine WL.mv rfl rfl ?_
          refine WL.ix (T := Ty) rfl rfl rfl (by assumption) rfl rfl (by omega) (by first | omega | decide +kernel) ?_
          refine WL.ldKn (T := Ty) rfl rfl rfl rfl (by first | assumption | exact ROs.wide (by assumption)) (by assumption) ?_
          refine WL.andI rfl rfl rfl (by decide) ?_
          refine WL.nil ?_
          refine W.block ?_
          refine W.seq ?_
          refine W.seq ?_
          refine W.region ?_
          refine WL.eql rfl rfl rfl ?_
          refine WL.as rfl rfl ?_
          refine WL.nil ?_
          refine W.cutG3 (τ := List Plc × List Slo × List (Int × Value)) (fun s => [(0, v0), (1, v1), (4, .bool false), (5, pt b0 0), (6, pt b1 0), (7, .map (some b2)), (8, .int .i64 (i : Int)), (9, .int .i64 id), (11, .bool (decide (id < 16)))]) (fun s => [Mp .i64 b2 s.2.2, box b1 (s.2.1.flatMap sloC) 51, box b0 (dirC s.1) TD]) (fun s ρ' => PInv (i + 1) s.1 s.2.1 s.2.2 ρ') ?_ (fun cut => ?_)
          · rintro ⟨L, S, kvs⟩ ρ2 le2 hI
            simp only [] at hI ⊢
            have n2 : ROs ρ2 2 nilV (([] : List (Int × Int)).flatMap smC) := ros_nil _ _
            have n5 : ROs ρ2 5 nilV (([] : List Prt).flatMap paC) := ros_nil _ _

            have hk : kget kvs id = none := hI.2.2.2.1 id (by omega)
            refine W.seq ?_
            refine W.region ?_
            refine WL.mv rfl rfl ?_
            refine WL.mv rfl rfl ?_
            refine WL.luO (T := Ty) (j := 0) rfl rfl rfl rfl rfl rfl rfl rfl (by first | rw [‹kget _ _ = some _›] | rw [‹kget _ _ = none›]) ?_
            refine WL.mv rfl rfl ?_
            refine WL.extL rfl rfl rfl ?_
            refine WL.extL rfl rfl rfl ?_
            refine WL.as rfl rfl ?_
            refine WL.as rfl rfl ?_
            refine WL.nil ?_
            refine W.seq ?_
            refine W.region ?_
            refine WL.mv rfl rfl ?_
            refine WL.mv rfl rfl ?_
            refine WL.callV rfl rfl (fun x p d => look_out _ _ _ (by first | assumption | omega | decide)) ?_
            refine WL.mv rfl rfl ?_
            refine WL.extL rfl rfl rfl ?_
            refine WL.extL rfl rfl rfl ?_
            refine WL.alF (T := Ty) rfl rfl (by repeat' first | exact FL.nil | apply FL.cons) (fun b3 => ?_)
            refine WL.stAO (T := Ty) (j := 0) rfl rfl rfl rfl (by repeat' first | exact AO.nil | apply AO.cons (by first | rfl | exact SL.one (by assumption))) rfl rfl (by repeat' first | exact FL.nil | apply FL.cons) (by repeat' first | exact FL.nil | apply FL.cons) ?_
            refine WL.as rfl rfl ?_
            refine WL.nil ?_
            refine W.seq ?_
            refine W.region ?_
            refine WL.mv rfl rfl ?_
            refine WL.mv rfl rfl ?_
            refine WL.callV rfl rfl (fun x p d => flag_out _ _ _ (by first | assumption | omega | decide)) ?_
            refine WL.mv rfl rfl ?_
            refine WL.extL rfl rfl rfl ?_
            refine WL.extL rfl rfl rfl ?_
            refine WL.as rfl rfl ?_
            refine WL.as rfl rfl ?_
            refine WL.nil ?_
            refine W.seq ?_
            refine W.drawA 41 rfl (fun σ0 hσ0 dσ0 => ?_)
            have fσ0_0 := rb_at 0 rfl hσ0 dσ0
            have fσ0_1 := in_at 1 rfl hσ0 dσ0
            have fσ0_2 := rb_at 2 rfl hσ0 dσ0
            have fσ0_3 := rb_at 3 rfl hσ0 dσ0
            refine WD.takeL 0 rfl (by decide +kernel) ?_
            refine WL.mv rfl rfl ?_
            refine WL.nilT ?_
            refine WD.takeL 1 rfl (by decide +kernel) ?_
            refine WL.mv rfl rfl ?_
            refine WL.nilT ?_
            refine WD.takeL 2 rfl (by decide +kernel) ?_
            refine WL.mv rfl rfl ?_
            refine WL.nilT ?_
            refine WD.takeL 3 rfl (by decide +kernel) ?_
            refine WL.gdTn rfl rfl rfl rfl rfl (by omega) ?_
            refine WL.nilT ?_
            refine WD.takeL 4 rfl (by decide +kernel) ?_
            refine WL.gdTn rfl rfl rfl rfl rfl (by omega) ?_
            refine WL.nilT ?_
            refine WD.takeL 5 rfl (by decide +kernel) ?_
            refine WL.pickFp rfl rfl (by omega) rfl ?_
            refine WL.nilT ?_
            refine WD.takeL 6 rfl (by decide +kernel) ?_
            refine WL.neB (T := Ty) rfl rfl rfl rfl ?_
            refine WL.nilT ?_
            refine WD.takeL 7 rfl (by decide +kernel) ?_
            refine WL.mv rfl rfl ?_
            refine WL.nilT ?_
            refine WD.takeL 8 rfl (by decide +kernel) ?_
            refine WL.gY rfl rfl ?_
            refine WL.mv rfl rfl ?_
            refine WL.nilT ?_
            refine WD.takeL 9 rfl (by decide +kernel) ?_
            refine WL.gY rfl rfl ?_
            refine WL.mv rfl rfl ?_
            refine WL.nilT ?_
            refine WD.takeL 10 rfl (by decide +kernel) ?_
            refine WL.gdN rfl rfl rfl rfl rfl rfl ?_
            refine WL.nilT ?_
            refine WD.takeL 11 rfl (by decide +kernel) ?_
            refine WL.gdN rfl rfl rfl rfl rfl rfl ?_
            refine WL.nilT ?_
            refine WD.takeL 12 rfl (by decide +kernel) ?_
            refine WL.gdN rfl rfl rfl rfl rfl rfl ?_
            refine WL.nilT ?_
            refine WD.takeL 13 rfl (by decide +kernel) ?_
            refine WL.gdN rfl rfl rfl rfl rfl rfl ?_
            refine WL.nilT ?_
            refine WD.takeL 14 rfl (by decide +kernel) ?_
            refine WL.gdN rfl rfl rfl rfl rfl rfl ?_
            refine WL.nilT ?_
            refine WD.takeL 15 rfl (by decide +kernel) ?_
            refine WL.gdN rfl rfl rfl rfl rfl rfl ?_
            refine WL.nilT ?_
            refine WD.takeL 16 rfl (by decide +kernel) ?_
            refine WL.gY rfl rfl ?_
            refine WL.pickF rfl rfl rfl ?_
            refine WL.nilT ?_
            refine WD.takeL 17 rfl (by decide +kernel) ?_
            refine WL.pickF rfl rfl rfl ?_
            refine WL.nilT ?_
            refine WD.takeL 18 rfl (by decide +kernel) ?_
            refine WL.mv rfl rfl ?_
            refine WL.nilT ?_
            refine WD.takeL 19 rfl (by decide +kernel) ?_
            refine WL.gY rfl rfl ?_
            refine WL.mv rfl rfl ?_
            refine WL.nilT ?_
            refine WD.takeL 20 rfl (by decide +kernel) ?_
            refine WL.gY rfl rfl ?_
            refine WL.not rfl rfl ?_
            refine WL.nilT ?_
            refine WD.takeL 21 rfl (by decide +kernel) ?_
            refine WL.gY rfl rfl ?_
            refine WL.mv rfl rfl ?_
            refine WL.nilT ?_
            refine WD.takeL 22 rfl (by decide +kernel) ?_
            refine WL.gY rfl rfl ?_
            refine WL.ldABF (T := Ty) rfl rfl rfl rfl (by first | assumption | exact RB.wide (by assumption) | exact In.rb (by assumption)) rfl (by repeat' first | exact FL.nil | apply FL.cons) ?_
            refine WL.nilT ?_
            refine WD.takeL 23 rfl (by decide +kernel) ?_
            refine WL.gY rfl rfl ?_
            refine WL.bdC (T := Ty) rfl rfl rfl rfl (by repeat' first | exact CO.nil | apply CO.one (by first | rfl | exact SL.one (by assumption)) | apply CO.agg) rfl (by repeat' first | exact FL.nil | apply FL.cons) ?_
            refine WL.nilT ?_
            refine WD.oneL 24 rfl (by decide +kernel) ?_
            refine WL.gY rfl rfl ?_
            refine WL.callV rfl rfl (fun x p d => sameS_c _ _ _ _ _ _ (by first | assumption | exact ROs.wide (by assumption) | exact ROs.mono (by assumption) (eqh_at 0 rfl p d) | exact ros_at 0 rfl p d | exact ros_at 1 rfl p d | exact ros_at 2 rfl p d | exact ros_at 3 rfl p d | exact ros_at 4 rfl p d) (by first | assumption | exact ROs.wide (by assumption) | exact ROs.mono (by assumption) (eqh_at 0 rfl p d) | exact ros_at 0 rfl p d | exact ros_at 1 rfl p d | exact ros_at 2 rfl p d | exact ros_at 3 rfl p d | exact ros_at 4 rfl p d) (by first | assumption | exact ROs.wide (by assumption) | exact ROs.mono (by assumption) (eqh_at 0 rfl p d) | exact ros_at 0 rfl p d | exact ros_at 1 rfl p d | exact ros_at 2 rfl p d | exact ros_at 3 rfl p d | exact ros_at 4 rfl p d) (by first | assumption | exact ROs.wide (by assumption) | exact ROs.mono (by assumption) (eqh_at 0 rfl p d) | exact ros_at 0 rfl p d | exact ros_at 1 rfl p d | exact ros_at 2 rfl p d | exact ros_at 3 rfl p d | exact ros_at 4 rfl p d) (by first | assumption | omega | exact Nat.zero_le _) (by first | assumption | omega | exact Nat.zero_le _)) ?_
            refine WL.nilE ?_
            refine WD.takeL 25 rfl (by decide +kernel) ?_
            refine WL.gY rfl rfl ?_
            refine WL.not rfl rfl ?_
            refine WL.nilT ?_
            refine WD.takeL 26 rfl (by decide +kernel) ?_
            refine WL.gY rfl rfl ?_
            refine WL.pickT rfl rfl rfl ?_
            refine WL.nilT ?_
            refine WD.takeL 27 rfl (by decide +kernel) ?_
            refine WL.pickF rfl rfl rfl ?_
            refine WL.nilT ?_
            refine WD.takeL 28 rfl (by decide +kernel) ?_
            refine WL.mv rfl rfl ?_
            refine WL.nilT ?_
            refine WD.takeL 29 rfl (by decide +kernel) ?_
            refine WL.gY rfl rfl ?_
            refine WL.mv rfl rfl ?_
            refine WL.nilT ?_
            refine WD.takeL 30 rfl (by decide +kernel) ?_
            refine WL.gY rfl rfl ?_
            refine WL.mv rfl rfl ?_
            refine WL.nilT ?_
            refine WD.takeL 31 rfl (by decide +kernel) ?_
            refine WL.gY rfl rfl ?_
            refine WL.neB (T := Ty) rfl rfl rfl rfl ?_
            refine WL.nilT ?_
            refine WD.takeL 32 rfl (by decide +kernel) ?_
            refine WL.pickF rfl rfl rfl ?_
            refine WL.nilT ?_
            refine WD.takeL 33 rfl (by decide +kernel) ?_
            refine WL.mv rfl rfl ?_
            refine WL.nilT ?_
            refine WD.takeL 34 rfl (by decide +kernel) ?_
            refine WL.gY rfl rfl ?_
            refine WL.mv rfl rfl ?_
            refine WL.nilT ?_
            refine WD.takeL 35 rfl (by decide +kernel) ?_
            refine WL.gY rfl rfl ?_
            refine WL.mv rfl rfl ?_
            refine WL.nilT ?_
            refine WD.takeL 36 rfl (by decide +kernel) ?_
            refine WL.gdN rfl rfl rfl rfl rfl rfl ?_
            refine WL.nilT ?_
            refine WD.takeL 37 rfl (by decide +kernel) ?_
            refine WL.gdN rfl rfl rfl rfl rfl rfl ?_
            refine WL.nilT ?_
            refine WD.takeL 38 rfl (by decide +kernel) ?_
            refine WL.gdN rfl rfl rfl rfl rfl rfl ?_
            refine WL.nilT ?_
            refine WD.takeL 39 rfl (by decide +kernel) ?_
            refine WL.gY rfl rfl ?_
            refine WL.pickF rfl rfl rfl ?_
            refine WL.nilT ?_
            refine WD.takeL 40 rfl (by decide +kernel) ?_
            refine WL.pickF rfl rfl rfl ?_
            refine WL.nilT ?_
            refine WD.doneF hσ0 (by decide +kernel) (by repeat' first | exact FL.nil | apply FL.cons) ?_
            refine W.condF rfl ?_
            refine W.skip ?_
            refine W.inBlock ?_
            refine W.region ?_
            refine WL.mv rfl rfl ?_
            refine WL.addK rfl rfl rfl (wrap_i64 ⟨by omega, by omega⟩) ?_
            refine WL.as rfl rfl ?_
            refine WL.nil ?_
            refine W.drop 0 rfl (by repeat' first | exact FL.nil | apply FL.cons) ?_
            refine W.sub ?_ (next ⟨i + 1, L, S, kvs⟩ _ le2 ⟨by simp only []; omega, hI⟩ (by simp only []; omega))
            exact ⟨rfl, rfl, rfl, rfl, rfl, rfl, rfl, trivial⟩
          · rcases (by omega : x % (3 + 1) = 0 ∨ x % (3 + 1) = 1 ∨ x % (3 + 1) = 2 ∨ x % (3 + 1) = 3) with hx4 | hx4 | hx4 | hx4
            · refine W.condpT rfl (by omega) ?_
              refine W.skip ?_
              refine W.condpT rfl (by omega) ?_
              refine W.seq ?_
              refine W.region ?_
              refine WL.mv rfl rfl ?_
              refine WL.mv rfl rfl ?_
              refine WL.gdTn rfl rfl rfl rfl rfl (by omega) ?_
              refine WL.gdTn rfl rfl rfl rfl rfl (by omega) ?_
              refine WL.pickFp rfl rfl (by omega) rfl ?_
              refine WL.as rfl rfl ?_
              refine WL.nil ?_
              refine W.seq ?_
              refine W.seq ?_
              refine W.region ?_
              refine WL.mv rfl rfl ?_
              refine WL.mv rfl rfl ?_
              refine WL.mv rfl rfl ?_
              refine WL.callV rfl rfl (fun x p d => take_out _ _ _ _ (by first | assumption | omega | decide)) ?_
              refine WL.mv rfl rfl ?_
              refine WL.neB (T := Ty) rfl rfl rfl rfl ?_
              refine WL.nil ?_
              refine W.condF rfl ?_
              refine W.skip ?_
              refine W.seq ?_
              refine W.region ?_
              refine WL.mv rfl rfl ?_
              refine WL.nil ?_
              refine W.condF rfl ?_
              refine W.skip ?_
              refine W.inBlock ?_
              refine W.sub ?_ (cut ⟨L, S, kvs⟩ ρ1 (Le.refl _) (hI.mono (by omega) (Le.refl _)))
              exact ⟨rfl, rfl, rfl, rfl, rfl, rfl, rfl, rfl, rfl, trivial⟩
            · refine W.condpF rfl (by omega) ?_
              refine W.region ?_
              refine WL.eql rfl rfl rfl ?_
              refine WL.as rfl rfl ?_
              refine WL.nil ?_
              refine W.condpT rfl (by omega) ?_
              refine W.seq ?_
              refine W.region ?_
              refine WL.mv rfl rfl ?_
              refine WL.mv rfl rfl ?_
              refine WL.gdTn rfl rfl rfl rfl rfl (by omega) ?_
              refine WL.gdTn rfl rfl rfl rfl rfl (by omega) ?_
              refine WL.pickFp rfl rfl (by omega) rfl ?_
              refine WL.as rfl rfl ?_
              refine WL.nil ?_
              refine W.seq ?_
              refine W.seq ?_
              refine W.region ?_
              refine WL.mv rfl rfl ?_
              refine WL.mv rfl rfl ?_
              refine WL.mv rfl rfl ?_
              refine WL.callV rfl rfl (fun x p d => take_out _ _ _ _ (by first | assumption | omega | decide)) ?_
              refine WL.mv rfl rfl ?_
              refine WL.neB (T := Ty) rfl rfl rfl rfl ?_
              refine WL.nil ?_
              refine W.condF rfl ?_
              refine W.skip ?_
              refine W.seq ?_
              refine W.region ?_
              refine WL.mv rfl rfl ?_
              refine WL.nil ?_
              refine W.condF rfl ?_
              refine W.skip ?_
              refine W.inBlock ?_
              refine W.sub ?_ (cut ⟨L, S, kvs⟩ ρ1 (Le.refl _) (hI.mono (by omega) (Le.refl _)))
              exact ⟨rfl, rfl, rfl, rfl, rfl, rfl, rfl, rfl, rfl, trivial⟩
            · refine W.condpF rfl (by omega) ?_
              refine W.region ?_
              refine WL.eql rfl rfl rfl ?_
              refine WL.as rfl rfl ?_
              refine WL.nil ?_
              refine W.condpF rfl (by omega) ?_
              refine W.seq ?_
              refine W.region ?_
              refine WL.eql rfl rfl rfl ?_
              refine WL.as rfl rfl ?_
              refine WL.nil ?_
              refine W.condpT rfl (by omega) ?_
              refine W.seq ?_
              refine W.cut (τ := Nat × Value) (fun s => [(0, v0), (1, v1), (4, .bool false), (5, pt b0 0), (6, pt b1 0), (7, .map (some b2)), (8, .int .i64 (i : Int)), (9, .int .i64 id), (10, .int .i64 (x / 128 % (3 + 1))), (11, .bool (decide (id < 16))), (12, .int .i64 0), (13, .bool false), (15, pt s.1 0)]) (fun s => [box s.1 [.bool (decide (x / 512 % (1 + 1) = 1)), .bool (decide (x / 1024 % (1 + 1) = 1)), .int .i64 (x / 2048 % (3 + 1)), .int .i64 x, .bool false, .int .i64 0, nilV, s.2] 32, Buf 5 s.2 (([⟨i, 0, 0, 0, 0⟩] : List Prt).flatMap paC), Mp .i64 b2 kvs, box b1 (S.flatMap sloC) 51, box b0 (dirC L) TD]) (fun _ => True) ?_ (fun cutA => ?_)
              · rintro ⟨b3, u⟩ _
                simp only []
                generalize decide (x / 512 % (1 + 1) = 1) = th
                generalize decide (x / 1024 % (1 + 1) = 1) = se
                generalize x / 2048 % (3 + 1) = li
                refine W.freeze 1 rfl (by repeat' first | exact FL.nil | apply FL.cons) (fun ρ2 le2 hin => ?_)
                have hu := hin.ros
                have su : SL u 1 := hu.sl (n := 1) rfl (by omega)
                replace r0 := r0.mono le2
                replace r1 := r1.mono le2
                replace hI := hI.mono (Nat.le_refl _) le2
                have n2 : ROs ρ2 2 nilV (([] : List (Int × Int)).flatMap smC) := ros_nil _ _
                have hp1 : ([⟨i, 0, 0, 0, 0⟩] : List Prt).length ≤ 140737488355 := by show 1 ≤ _; decide
                refine W.seq ?_
                refine W.seq ?_
                refine W.region ?_
                refine WL.mv rfl rfl ?_
                refine WL.len (T := Ty) rfl rfl (by assumption) rfl ?_
                refine WL.gtr rfl rfl rfl ?_
                refine WL.nil ?_
                refine W.cut (τ := Value × List (Int × Int)) (fun s => [(0, v0), (1, v1), (4, .bool false), (5, pt b0 0), (6, pt b1 0), (7, .map (some b2)), (8, .int .i64 (i : Int)), (9, .int .i64 id), (10, .int .i64 (x / 128 % (3 + 1))), (11, .bool (decide (id < 16))), (12, .int .i64 0), (13, .bool false), (15, pt b3 0)]) (fun s => [box b3 [.bool th, .bool se, .int .i64 li, .int .i64 x, .bool false, .int .i64 0, s.1, u] 32, Mp .i64 b2 kvs, box b1 (S.flatMap sloC) 51, box b0 (dirC L) TD]) (fun s => ROs ρ2 2 s.1 (s.2.flatMap smC) ∧ s.2.length ≤ 8796093022208) ?_ (fun cutB => ?_)
                · rintro ⟨lv, l⟩ ⟨hlv, hll⟩
                  simp only [] at hlv hll ⊢
                  refine W.seq ?_
                  refine W.region ?_
                  refine WL.mv rfl rfl ?_
                  refine WL.mv rfl rfl ?_
                  refine WL.gdTn rfl rfl rfl rfl rfl (by omega) ?_
                  refine WL.pickFp rfl rfl (by omega) rfl ?_
                  refine WL.mv rfl rfl ?_
                  refine WL.gdN rfl rfl rfl rfl rfl rfl ?_
                  refine WL.gdN rfl rfl rfl rfl rfl rfl ?_
                  refine WL.gdN rfl rfl rfl rfl rfl rfl ?_
                  refine WL.pickF rfl rfl rfl ?_
                  refine WL.as rfl rfl ?_
                  refine WL.nil ?_
                  refine W.seq ?_
                  refine W.seq ?_
                  refine W.region ?_
                  refine WL.mv rfl rfl ?_
                  refine WL.mv rfl rfl ?_
                  refine WL.mv rfl rfl ?_
                  refine WL.ldAF (T := Ty) (j := 0) rfl rfl rfl rfl rfl rfl (by repeat' first | exact FL.nil | apply FL.cons) ?_
                  refine WL.callV rfl rfl (fun x p d => leave_out _ _ _ _ ⟨_, _, _, _, _, _, _, _⟩ (by first | assumption | omega | decide)) ?_
                  refine WL.mv rfl rfl ?_
                  refine WL.neB (T := Ty) rfl rfl rfl rfl ?_
                  refine WL.nil ?_
                  refine W.condF rfl ?_
                  refine W.skip ?_
                  refine W.seq ?_
                  refine W.region ?_
                  refine WL.mv rfl rfl ?_
                  refine WL.nil ?_
                  refine W.condF rfl ?_
                  refine W.skip ?_
                  refine W.inBlock ?_
                  refine W.drop 0 rfl (by repeat' first | exact FL.nil | apply FL.cons) ?_
                  refine W.sub ?_ (cut ⟨L, S, kvs⟩ ρ2 le2 (hI.mono (by omega) (Le.refl _)))
                  exact ⟨rfl, rfl, rfl, rfl, rfl, rfl, rfl, rfl, rfl, trivial⟩
                · refine W.condp rfl (fun hc => ?_) (fun hc => ?_)
                  · have hpos : 0 < z1.length := by omega
                    obtain ⟨k, hk1, hk2⟩ : ∃ k : Nat, (i : Int) % (z1.length : Int) = (k : Int) ∧ k < z1.length := ⟨i % z1.length, (Int.natCast_emod _ _).symm, Nat.mod_lt _ hpos⟩
                    obtain ⟨y, hy⟩ : ∃ y, z1[k]? = some y := ⟨_, List.getElem?_eq_getElem hk2⟩
                    have hy1 : (z1.map (·.1))[k]? = some y.1 := by rw [List.getElem?_map, hy]; rfl
                    obtain ⟨w1, _, w2⟩ := m1 y (List.mem_of_getElem? hy)
                    have w3 : ROs ρ2 2 y.1 (y.2.flatMap smC) := (w1.mono le1).mono le2
                    have sy : SL y.1 y.2.length := w3.sl (flat_len sm_len _) (by omega)
                    refine W.region ?_
                    refine WL.mv rfl rfl ?_
                    refine WL.mv rfl rfl ?_
                    refine WL.mv rfl rfl ?_
                    refine WL.len (T := Ty) rfl rfl (by assumption) rfl ?_
                    refine WL.remI rfl rfl rfl (by omega) (by omega) ?_
                    refine WL.ix (T := Ty) rfl rfl rfl (by assumption) rfl rfl (by omega) (by first | omega | decide +kernel) ?_
                    refine WL.ldK (T := Ty) rfl rfl rfl rfl (by first | assumption | exact ROs.wide (by assumption)) (by assumption) (by omega) ?_
                    refine WL.faN (T := Ty) (off' := 4) rfl rfl rfl rfl rfl rfl rfl ?_
                    refine WL.faN (T := Ty) (off' := 6) rfl rfl rfl rfl rfl rfl rfl ?_
                    refine WL.stF (T := Ty) (j := 0) rfl rfl rfl rfl (SL.one (by assumption)) rfl rfl (by repeat' first | exact FL.nil | apply FL.cons) (by repeat' first | exact FL.nil | apply FL.cons) ?_
                    refine WL.nil ?_
                    rw [hk1]
                    skip
                    refine W.sub ?_ (cutB ⟨y.1, y.2⟩ ⟨w3, by simp only []; omega⟩)
                    exact ⟨rfl, rfl, rfl, rfl, rfl, rfl, rfl, rfl, rfl, rfl, rfl, rfl, rfl, trivial⟩
                  · refine W.skip ?_
                    refine W.sub ?_ (cutB ⟨nilV, []⟩ ⟨n2, Nat.zero_le _⟩)
                    exact ⟨rfl, rfl, rfl, rfl, rfl, rfl, rfl, rfl, rfl, rfl, rfl, rfl, rfl, trivial⟩
              · refine W.drawA 29 rfl (fun σ0 hσ0 dσ0 => ?_)
                have fσ0_0 := in_at 0 rfl hσ0 dσ0
                have fσ0_1 := rb_at 1 rfl hσ0 dσ0
                have fσ0_2 := rb_at 2 rfl hσ0 dσ0
                refine WD.takeL 0 rfl (by decide +kernel) ?_
                refine WL.mv rfl rfl ?_
                refine WL.nilT ?_
                refine WD.takeL 1 rfl (by decide +kernel) ?_
                refine WL.mv rfl rfl ?_
                refine WL.nilT ?_
                refine WD.takeL 2 rfl (by decide +kernel) ?_
                refine WL.ix (T := Ty) rfl rfl rfl (by assumption) rfl rfl (by omega) (by first | omega | decide +kernel) ?_
                refine WL.nilT ?_
                refine WD.takeL 3 rfl (by decide +kernel) ?_
                refine WL.ldKn (T := Ty) rfl rfl rfl rfl (by first | assumption | exact ROs.wide (by assumption)) (by assumption) ?_
                refine WL.nilT ?_
                refine WD.takeL 4 rfl (by decide +kernel) ?_
                refine WL.shrS (c := 512) rfl rfl rfl (by omega) (by decide) ?_
                refine WL.nilT ?_
                refine WD.takeL 5 rfl (by decide +kernel) ?_
                refine WL.andI rfl rfl rfl (by decide) ?_
                refine WL.nilT ?_
                refine WD.takeL 6 rfl (by decide +kernel) ?_
                refine WL.eql rfl rfl rfl ?_
                refine WL.nilT ?_
                refine WD.takeL 7 rfl (by decide +kernel) ?_
                refine WL.mv rfl rfl ?_
                refine WL.nilT ?_
                refine WD.takeL 8 rfl (by decide +kernel) ?_
                refine WL.mv rfl rfl ?_
                refine WL.nilT ?_
                refine WD.takeL 9 rfl (by decide +kernel) ?_
                refine WL.ix (T := Ty) rfl rfl rfl (by assumption) rfl rfl (by omega) (by first | omega | decide +kernel) ?_
                refine WL.nilT ?_
                refine WD.takeL 10 rfl (by decide +kernel) ?_
                refine WL.ldKn (T := Ty) rfl rfl rfl rfl (by first | assumption | exact ROs.wide (by assumption)) (by assumption) ?_
                refine WL.nilT ?_
                refine WD.takeL 11 rfl (by decide +kernel) ?_
                refine WL.shrS (c := 1024) rfl rfl rfl (by omega) (by decide) ?_
                refine WL.nilT ?_
                refine WD.takeL 12 rfl (by decide +kernel) ?_
                refine WL.andI rfl rfl rfl (by decide) ?_
                refine WL.nilT ?_
                refine WD.takeL 13 rfl (by decide +kernel) ?_
                refine WL.eql rfl rfl rfl ?_
                refine WL.nilT ?_
                refine WD.takeL 14 rfl (by decide +kernel) ?_
                refine WL.mv rfl rfl ?_
                refine WL.nilT ?_
                refine WD.takeL 15 rfl (by decide +kernel) ?_
                refine WL.mv rfl rfl ?_
                refine WL.nilT ?_
                refine WD.takeL 16 rfl (by decide +kernel) ?_
                refine WL.ix (T := Ty) rfl rfl rfl (by assumption) rfl rfl (by omega) (by first | omega | decide +kernel) ?_
                refine WL.nilT ?_
                refine WD.takeL 17 rfl (by decide +kernel) ?_
                refine WL.ldKn (T := Ty) rfl rfl rfl rfl (by first | assumption | exact ROs.wide (by assumption)) (by assumption) ?_
                refine WL.nilT ?_
                refine WD.takeL 18 rfl (by decide +kernel) ?_
                refine WL.shrS (c := 2048) rfl rfl rfl (by omega) (by decide) ?_
                refine WL.nilT ?_
                refine WD.takeL 19 rfl (by decide +kernel) ?_
                refine WL.andI rfl rfl rfl (by decide) ?_
                refine WL.nilT ?_
                refine WD.takeL 20 rfl (by decide +kernel) ?_
                refine WL.mv rfl rfl ?_
                refine WL.nilT ?_
                refine WD.takeL 21 rfl (by decide +kernel) ?_
                refine WL.mv rfl rfl ?_
                refine WL.nilT ?_
                refine WD.takeL 22 rfl (by decide +kernel) ?_
                refine WL.ix (T := Ty) rfl rfl rfl (by assumption) rfl rfl (by omega) (by first | omega | decide +kernel) ?_
                refine WL.nilT ?_
                refine WD.takeL 23 rfl (by decide +kernel) ?_
                refine WL.ldKn (T := Ty) rfl rfl rfl rfl (by first | assumption | exact ROs.wide (by assumption)) (by assumption) ?_
                refine WL.nilT ?_
                refine WD.takeL 24 rfl (by decide +kernel) ?_
                refine WL.mv rfl rfl ?_
                refine WL.nilT ?_
                refine WD.takeL 25 rfl (by decide +kernel) ?_
                refine WL.bdC (T := Ty) rfl rfl rfl rfl (by repeat' first | exact CO.nil | apply CO.one (by first | rfl | exact SL.one (by assumption)) | apply CO.agg) rfl (by repeat' first | exact FL.nil | apply FL.cons) ?_
                refine WL.nilT ?_
                refine WD.twoL 26 28 rfl rfl (by decide +kernel) ?_ ?_
                · refine WL.bsC (T := Ty) rfl rfl rfl rfl rfl rfl rfl (by repeat' first | exact CO.nil | apply CO.one (by first | rfl | exact SL.one (by assumption)) | apply CO.agg) rfl (by repeat' first | exact FL.nil | apply FL.cons) (fun u3 hu3 => ?_)
                  refine WL.nilH hσ0 (fun σ1 hσ1 dσ1 mσ1 => ?_)
                  have fσ0_0 := fσ0_0.mono mσ1
                  have fσ0_1 := fσ0_1.mono mσ1
                  have fσ0_2 := fσ0_2.mono mσ1
                  have fσ1_0 := ros_at 0 rfl hσ1 dσ1
                  refine WD.takeL 27 rfl (by decide +kernel) ?_
                  refine WL.bdC (T := Ty) rfl rfl rfl rfl (by repeat' first | exact CO.nil | apply CO.one (by first | rfl | exact SL.one (by assumption)) | apply CO.agg) rfl (by repeat' first | exact FL.nil | apply FL.cons) ?_
                  refine WL.nilT ?_
                  refine WD.oneL 28 rfl (by decide +kernel) ?_
                  refine WL.alF (T := Ty) rfl rfl (by repeat' first | exact FL.nil | apply FL.cons) (fun b4 => ?_)
                  refine WL.nilH hσ1 (fun σ2 hσ2 dσ2 mσ2 => ?_)
                  have fσ0_0 := fσ0_0.mono mσ2
                  have fσ0_1 := fσ0_1.mono mσ2
                  have fσ0_2 := fσ0_2.mono mσ2
                  have fσ1_0 := fσ1_0.mono mσ2
                  have fσ2_0 := rb_at 0 rfl hσ2 dσ2
                  refine WD.lastG hσ2 (by decide +kernel) (by repeat' first | exact FL.nil | apply FL.cons) rfl (by repeat' first | exact FL.nil | apply FL.cons) ?_
                  refine WL.stAO (T := Ty) (j := 0) rfl rfl rfl rfl (by repeat' first | exact AO.nil | apply AO.cons (by first | rfl | exact SL.one (by assumption))) rfl rfl (by repeat' first | exact FL.nil | apply FL.cons) (by repeat' first | exact FL.nil | apply FL.cons) ?_
                  refine WL.nil ?_
                  first | refine W.sub ?_ (cutA ⟨_, _⟩ trivial) | refine W.perm (List.Perm.swap _ _ _) (W.sub ?_ (cutA ⟨_, _⟩ trivial))
                  exact ⟨rfl, rfl, rfl, rfl, rfl, rfl, rfl, rfl, rfl, rfl, rfl, rfl, rfl, trivial⟩
                · refine WL.alF (T := Ty) rfl rfl (by repeat' first | exact FL.nil | apply FL.cons) (fun b3 => ?_)
                  refine WL.nilH hσ0 (fun σ1 hσ1 dσ1 mσ1 => ?_)
                  have fσ0_0 := fσ0_0.mono mσ1
                  have fσ0_1 := fσ0_1.mono mσ1
                  have fσ0_2 := fσ0_2.mono mσ1
                  have fσ1_0 := rb_at 0 rfl hσ1 dσ1
                  refine WD.oneL 26 rfl (by decide +kernel) ?_
                  refine WL.bsC (T := Ty) rfl rfl rfl rfl rfl rfl rfl (by repeat' first | exact CO.nil | apply CO.one (by first | rfl | exact SL.one (by assumption)) | apply CO.agg) rfl (by repeat' first | exact FL.nil | apply FL.cons) (fun u4 hu4 => ?_)
                  refine WL.nilH hσ1 (fun σ2 hσ2 dσ2 mσ2 => ?_)
                  have fσ0_0 := fσ0_0.mono mσ2
                  have fσ0_1 := fσ0_1.mono mσ2
                  have fσ0_2 := fσ0_2.mono mσ2
                  have fσ1_0 := fσ1_0.mono mσ2
                  have fσ2_0 := ros_at 0 rfl hσ2 dσ2
                  refine WD.takeL 27 rfl (by decide +kernel) ?_
                  refine WL.bdC (T := Ty) rfl rfl rfl rfl (by repeat' first | exact CO.nil | apply CO.one (by first | rfl | exact SL.one (by assumption)) | apply CO.agg) rfl (by repeat' first | exact FL.nil | apply FL.cons) ?_
                  refine WL.nilT ?_
                  refine WD.lastG hσ2 (by decide +kernel) (by repeat' first | exact FL.nil | apply FL.cons) rfl (by repeat' first | exact FL.nil | apply FL.cons) ?_
                  refine WL.stAO (T := Ty) (j := 1) rfl rfl rfl rfl (by repeat' first | exact AO.nil | apply AO.cons (by first | rfl | exact SL.one (by assumption))) rfl rfl (by repeat' first | exact FL.nil | apply FL.cons) (by repeat' first | exact FL.nil | apply FL.cons) ?_
                  refine WL.nil ?_
                  first | refine W.sub ?_ (cutA ⟨_, _⟩ trivial) | refine W.perm (List.Perm.swap _ _ _) (W.sub ?_ (cutA ⟨_, _⟩ trivial))
                  exact ⟨rfl, rfl, rfl, rfl, rfl, rfl, rfl, rfl, rfl, rfl, rfl, rfl, rfl, trivial⟩
            · refine W.condpF rfl (by omega) ?_
              refine W.region ?_
              refine WL.eql rfl rfl rfl ?_
              refine WL.as rfl rfl ?_
              refine WL.nil ?_
              refine W.condpF rfl (by omega) ?_
              refine W.seq ?_
              refine W.region ?_
              refine WL.eql rfl rfl rfl ?_
              refine WL.as rfl rfl ?_
              refine WL.nil ?_
              refine W.condpF rfl (by omega) ?_
              refine W.skip ?_
              refine W.inBlock ?_
              refine W.sub ?_ (cut ⟨L, S, kvs⟩ ρ1 (Le.refl _) (hI.mono (by omega) (Le.refl _)))
              exact ⟨rfl, rfl, rfl, rfl, rfl, rfl, rfl, rfl, rfl, trivial⟩
    · refine W.condp rfl (fun hc => ?_) (fun hc => ?_)
      · refine W.region ?_
        refine WL.mv rfl rfl ?_
        refine WL.andI rfl rfl rfl (by decide) ?_
        refine WL.as rfl rfl ?_
        refine WL.nil ?_
        refine W.sub ?_ (cut ((x / 4 % (31 + 1) - 8) % (3 + 1)) trivial)
        exact ⟨rfl, rfl, rfl, rfl, rfl, rfl, rfl, rfl, trivial⟩
      · refine W.skip ?_
        refine W.sub ?_ (cut (x / 4 % (31 + 1) - 8) trivial)
        exact ⟨rfl, rfl, rfl, rfl, rfl, rfl, rfl, rfl, trivial⟩
  · rcases (by omega : ¬ i < z0.length ∨ (i < z0.length ∧ ¬ i < 100)) with hlt | ⟨hlt, h100⟩
    · refine W.seq ?_
      refine W.seq ?_
      refine W.region ?_
      refine WL.mv rfl rfl ?_
      refine WL.mv rfl rfl ?_
      refine WL.len (T := Ty) rfl rfl (by assumption) rfl ?_
      refine WL.lss rfl rfl rfl ?_
      refine WL.mv rfl rfl ?_
      refine WL.gdTn rfl rfl rfl rfl rfl (by omega) ?_
      refine WL.gdTn rfl rfl rfl rfl rfl (by omega) ?_
      refine WL.pickFp rfl rfl (by omega) rfl ?_
      refine WL.nil ?_
      refine W.condF rfl ?_
      refine W.exit rfl ?_
      refine W.drop 0 rfl (by repeat' first | exact FL.nil | apply FL.cons) ?_
      refine W.drop 0 rfl (by repeat' first | exact FL.nil | apply FL.cons) ?_
      refine W.drop 0 rfl (by repeat' first | exact FL.nil | apply FL.cons) ?_
      refine W.sub ?_ (cut0 0 ρ1 le1 trivial)
      exact ⟨rfl, trivial⟩
    · refine W.seq ?_
      refine W.seq ?_
      refine W.region ?_
      refine WL.mv rfl rfl ?_
      refine WL.mv rfl rfl ?_
      refine WL.len (T := Ty) rfl rfl (by assumption) rfl ?_
      refine WL.lss rfl rfl rfl ?_
      refine WL.mv rfl rfl ?_
      refine WL.gT rfl rfl (by omega) ?_
      refine WL.mv rfl rfl ?_
      refine WL.gT rfl rfl (by omega) ?_
      refine WL.lss rfl rfl rfl ?_
      refine WL.pickTp rfl rfl (by omega) rfl ?_
      refine WL.nil ?_
      refine W.condpF rfl (by omega) ?_
      refine W.exit rfl ?_
      refine W.drop 0 rfl (by repeat' first | exact FL.nil | apply FL.cons) ?_
      refine W.drop 0 rfl (by repeat' first | exact FL.nil | apply FL.cons) ?_
      refine W.drop 0 rfl (by repeat' first | exact FL.nil | apply FL.cons) ?_
      refine W.sub ?_ (cut0 0 ρ1 le1 trivial)
      exact ⟨rfl, trivial⟩
end Go.Proofs.Ytlmhjkbbooghfaa
