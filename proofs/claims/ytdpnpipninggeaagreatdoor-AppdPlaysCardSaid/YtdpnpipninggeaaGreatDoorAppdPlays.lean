/- AppdPlays. -/
import Derived.Test.YtdpnpipninggeaaGreatDoorStc
import Derived.Test.YtdpnpipninggeaaGreatDoorNum
import Derived.Test.YtdpnpipninggeaaGreatDoorTab
import Derived.Test.YtdpnpipninggeaaGreatDoorAppR
import Derived.Test.YtdpnpipninggeaaGreatDoorRwx
set_option linter.unusedSimpArgs false
set_option linter.unusedVariables false
set_option maxRecDepth 20000
set_option maxHeartbeats 4000000
namespace Go.Proofs.YtdpnpipninggeaaGreatDoor
open Go
theorem addO_O {o : Opn} {s : Smp} (h : ¬ (o.any = true ∧ s.1 ≤ o.last)) : addO o s = (⟨true, s.1, o.list ++ [s]⟩, 0) := by unfold addO; rw [if_neg h]
attribute [local irreducible] W WL Fn Buf ROs SL eptr box Rd Src bndOK WD RB Reads In Own mkC chk encTs encX pack vputF vgetF decTs decX risB sumR tms vls vlI sB tB xB frsT lstT na n1 n2 n3 zigF sameL OpI
theorem AppdPlays_fn (ρ : Hp) (hT : TabG ρ) (v0 : Value) (z0 : List (Int × Int)) (r0 : ROs ρ 2 v0 (z0.flatMap (twoC .i64 .u64))) (m0 : ∀ q ∈ z0, (Lit.int .i64 q.1).wf = true ∧ (Lit.int .u64 q.2).wf = true) (y0 : z0.length * 16 ≤ 140737488351232) (v1 : Value) (z1 : List Int) (r1 : ROs ρ 1 v1 (z1.map (Value.int .i64))) (m1 : ∀ n ∈ z1, (Lit.int .i64 n).wf = true) (y1 : z1.length * 8 ≤ 140737488351232) (a2 : Bool) :
    Fn Tryz.prog 3 #[v0, v1, .bool a2] ρ [] (fun r _ => r = .bool true) := by
  replace r0 : ROs ρ 2 v0 ((z0 : List Smp).flatMap smC) := r0
  have l2 := sms_cells (z0 : List Smp)
  have s0 : SL v0 z0.length := r0.sl l2 (by omega)
  have s1 : SL v1 z1.length := r1.slm
  refine in3 rfl rfl ?_
  refine W.seq (W.region (WL.as rfl rfl (WL.nil (W.seq (W.region ?_)))))
  refine WL.alF (T := Ty) rfl rfl (by repeat' constructor) (fun b0 => ?_)
  refine WL.alF (T := Ty) rfl rfl (by repeat' constructor) (fun b1 => ?_)
  refine WL.nil (W.seq (W.seq (W.region (WL.as rfl rfl (WL.nil (W.block (W.nb (sz := 2) (W.nb (sz := 2) ?_))))))))
  refine W.loopR (σ := Nat × Opn × Value × Value) (fun s => [(0, v0), (1, v1), (2, .bool a2), (7, .pointer (some ⟨b0, 0, none⟩)), (8, .pointer (some ⟨b1, 0, none⟩)), (9, .int .i64 (s.1 : Int))])
    (fun s => [Buf 2 s.2.2.1 (s.2.1.list.flatMap smC), Buf 2 s.2.2.2 (s.2.1.list.flatMap smC), box b1 [.bool s.2.1.any, .int .i64 s.2.1.last, s.2.2.2] 25, box b0 [.bool s.2.1.any, .int .i64 s.2.1.last, s.2.2.1] 25])
    (fun s ρ' => s.1 ≤ 60 ∧ OpI s.2.1 ∧ s.2.1.list.length ≤ s.1 ∧ SL s.2.2.1 s.2.1.list.length ∧ SL s.2.2.2 s.2.1.list.length) (fun s => 60 - s.1)
    (0, ⟨false, 0, []⟩, nilV, nilV) ⟨rfl, rfl, rfl, rfl, rfl, rfl, trivial⟩ rfl ⟨Nat.zero_le _, OpI.zero, Nat.le_refl _, slZ, slZ⟩ ?_
  rintro ⟨i, o, lv, lw⟩ ρ3 le3 ⟨hi, hI, hln, sl, sw⟩ next
  dsimp only at hi hI hln sl sw next ⊢
  replace r0 := r0.mono le3
  replace r1 := r1.mono le3
  replace hT := hT.mono le3
  by_cases hc : i < z0.length
  · by_cases hc1 : i < z1.length
    · by_cases hc2 : i < 60
      · obtain ⟨q, hq⟩ : ∃ q, (z0 : List Smp)[i]? = some q := ⟨_, List.getElem?_eq_getElem hc⟩
        obtain ⟨x, hx⟩ : ∃ x, z1[i]? = some x := ⟨_, List.getElem?_eq_getElem hc1⟩
        have hqm := m0 q (List.mem_of_getElem? hq)
        have hq1 := wf_i64 hqm.1
        have hq2 := wf_u64 hqm.2
        have hr1 : (((z0 : List Smp).flatMap smC).drop (((i : Nat) : Int).toNat * 2)).take 2 = smC q := flat_row sm_len hq
        have hx1 : z1.getD i 0 = x := by rw [List.getD_eq_getElem?_getD, hx]; rfl
        refine W.seq (W.seq (W.region (WL.mv rfl rfl (WL.mv rfl rfl ?_))))
        refine WL.len (T := Ty) rfl rfl (by assumption) rfl ?_
        refine WL.lss rfl rfl rfl (WL.mv rfl rfl (WL.gT rfl rfl (by omega) (WL.mv rfl rfl (WL.gT rfl rfl (by omega) (WL.mv rfl rfl (WL.gT rfl rfl (by omega) ?_))))))
        refine WL.len (T := Ty) rfl rfl (by assumption) rfl ?_
        refine WL.gT rfl rfl (by omega) (WL.lss rfl rfl rfl (WL.pickTp rfl rfl (by omega) rfl (WL.mv rfl rfl (WL.gT rfl rfl (by omega) (WL.mv rfl rfl (WL.gT rfl rfl (by omega) (WL.lss rfl rfl rfl (WL.pickTp rfl rfl (by omega) rfl (WL.nil (W.condpT rfl (by omega) (W.skip (W.seq (W.block ?_)))))))))))))
        refine W.seq (W.region (WL.mv rfl rfl (WL.mv rfl rfl ?_)))
        refine WL.ix (T := Ty) rfl rfl rfl (by assumption) rfl rfl (by omega) (by first | omega | decide +kernel) ?_
        refine WL.ldAR (T := Ty) rfl rfl rfl rfl (by first | assumption | exact ROs.wide (by assumption)) (by assumption) rfl ?_
        refine WL.alF (T := Ty) rfl rfl (by repeat' constructor) (fun b2 => ?_)
        refine WL.stAO (T := Ty) (j := 0) rfl rfl rfl rfl (by repeat' first | exact AO.nil | apply AO.cons (by first | rfl | exact SL.one (by assumption))) rfl rfl (by repeat' constructor) (by repeat' constructor) ?_
        refine WL.nil (W.seq (W.seq (W.region (WL.mv rfl rfl (WL.nil ?_)))))
        refine W.cutG (τ := Int) (fun s => [(0, v0), (1, v1), (2, .bool a2), (7, .pointer (some ⟨b0, 0, none⟩)), (8, .pointer (some ⟨b1, 0, none⟩)), (9, .int .i64 (i : Int)), (10, .pointer (some ⟨b2, 0, none⟩))])
          (fun s => [box b2 [.int .i64 s, .int .u64 q.2] 28, Buf 2 lv (o.list.flatMap smC), Buf 2 lw (o.list.flatMap smC), box b1 [.bool o.any, .int .i64 o.last, lw] 25, box b0 [.bool o.any, .int .i64 o.last, lv] 25]) (fun s ρ' => ρ3 = ρ' ∧ i64ok s) ?_ (fun cut => ?_)
        · rintro s ρs - ⟨es, hs⟩
          subst es
          have hs3 : i64ok s ∧ 0 ≤ q.2 ∧ q.2 < 18446744073709551616 := ⟨hs, hq2⟩
          have hoo := hI
          unfold OpI at hoo
          obtain ⟨ho1, ho2, ho3, ho4, ho5⟩ := hoo
          refine W.seq (W.seq (W.region (WL.mv rfl rfl (WL.mv rfl rfl ?_))))
          refine WL.ix (T := Ty) rfl rfl rfl (by assumption) rfl rfl (by omega) (by first | omega | decide +kernel) ?_
          refine WL.ldRz (T := Ty) rfl rfl rfl rfl (by first | assumption | exact ROs.wide (by assumption)) (by first | omega | decide +kernel) ?_
          refine WL.andI rfl rfl rfl (by decide) (WL.eql rfl rfl rfl (WL.nil ?_))
          refine W.cutG (τ := Opn × Value × Value) (fun s => [(0, v0), (1, v1), (2, .bool a2), (7, .pointer (some ⟨b0, 0, none⟩)), (8, .pointer (some ⟨b1, 0, none⟩)), (9, .int .i64 (i : Int))])
            (fun s => [Buf 2 s.2.1 (s.1.list.flatMap smC), Buf 2 s.2.2 (s.1.list.flatMap smC), box b1 [.bool s.1.any, .int .i64 s.1.last, s.2.2] 25, box b0 [.bool s.1.any, .int .i64 s.1.last, s.2.1] 25]) (fun s ρ' => Le ρ3 ρ' ∧ OpI s.1 ∧ s.1.list.length ≤ i + 1 ∧ SL s.2.1 s.1.list.length ∧ SL s.2.2 s.1.list.length) ?_ (fun cut => ?_)
          · rintro ⟨o', lv', lw'⟩ ρ4 _ ⟨le4, hI', hln', sl', sw'⟩
            dsimp only at hI' hln' sl' sw' ⊢
            replace hT := hT.mono le4
            refine W.seq ?_
            refine W.drawA 22 rfl (fun σ0 hσ0 dσ0 => ?_)
            have fσ0_0 := ros_at 0 rfl hσ0 dσ0
            have fσ0_1 := ros_at 1 rfl hσ0 dσ0
            have fσ0_2 := rb_at 2 rfl hσ0 dσ0
            have fσ0_3 := rb_at 3 rfl hσ0 dσ0
            refine WD.takeL 0 rfl (by decide +kernel) ?_
            refine WL.ldABF (T := Ty) rfl rfl rfl rfl (by first | assumption | exact RB.wide (by assumption) | exact In.rb (by assumption)) rfl (by repeat' constructor) ?_
            refine WL.nilT (WD.takeL 1 rfl (by decide +kernel) ?_)
            refine WL.ldABF (T := Ty) rfl rfl rfl rfl (by first | assumption | exact RB.wide (by assumption) | exact In.rb (by assumption)) rfl (by repeat' constructor) ?_
            refine WL.nilT (WD.oneL 2 rfl (by decide +kernel) ?_)
            refine WL.callV rfl rfl (fun x p d => rsame13_c _ _ _ _ _ _ (by first | assumption | exact ROs.wide (by assumption) | exact ROs.mono (by assumption) (eqh_at 0 rfl p d) | exact ros_at 0 rfl p d | exact ros_at 1 rfl p d | exact ros_at 2 rfl p d | exact ros_at 3 rfl p d | exact ros_at 4 rfl p d) (by first | assumption | exact ROs.wide (by assumption) | exact ROs.mono (by assumption) (eqh_at 0 rfl p d) | exact ros_at 0 rfl p d | exact ros_at 1 rfl p d | exact ros_at 2 rfl p d | exact ros_at 3 rfl p d | exact ros_at 4 rfl p d) (by first | assumption | omega)) ?_
            refine WL.nilE (WD.takeL 3 rfl (by decide +kernel) (WL.not rfl rfl (WL.nilT (WD.takeL 4 rfl (by decide +kernel) (WL.mv rfl rfl (WL.nilT (WD.takeL 5 rfl (by decide +kernel) (WL.gY rfl rfl ?_))))))))
            refine WL.ldABF (T := Ty) rfl rfl rfl rfl (by first | assumption | exact RB.wide (by assumption) | exact In.rb (by assumption)) rfl (by repeat' constructor) ?_
            refine WL.nilT (WD.takeL 7 rfl (by decide +kernel) (WL.gY rfl rfl (WL.faN (T := Ty) (off' := 2) rfl rfl rfl rfl rfl rfl rfl (WL.nilT (WD.takeL 8 rfl (by decide +kernel) (WL.gY rfl rfl ?_))))))
            refine WL.ldBN (T := Ty) rfl rfl rfl rfl (by first | assumption | exact RB.wide (by assumption) | exact In.rb (by assumption)) rfl ?_
            refine WL.nilT (WD.takeL 9 rfl (by decide +kernel) (WL.gY rfl rfl ?_))
            refine WL.len (T := Ty) rfl rfl (by assumption) rfl ?_
            refine WL.nilT (WD.takeL 10 rfl (by decide +kernel) (WL.gY rfl rfl (WL.geq rfl rfl rfl (WL.nilT (WD.oneL 6 rfl (by decide +kernel) (WL.gY rfl rfl ?_))))))
            refine WL.callV rfl rfl (fun x p d => full13_c _ _ _ _ _ (by assumption)) ?_
            refine WL.nilE (WD.takeL 11 rfl (by decide +kernel) (WL.gY rfl rfl (WL.neB (T := Ty) rfl rfl rfl rfl (WL.nilT (WD.takeL 12 rfl (by decide +kernel) (WL.pickF rfl rfl rfl (WL.nilT (WD.takeL 13 rfl (by decide +kernel) (WL.mv rfl rfl (WL.nilT (WD.takeL 16 rfl (by decide +kernel) ?_)))))))))))
            rw [show (!(decide ((8 : Int) ≤ ((o'.list.length : Nat) : Int)) == decide ((8 : Int) ≤ ((o'.list.length : Nat) : Int)))) = false by simp]
            refine WL.gY rfl rfl (WL.faN (T := Ty) (off' := 2) rfl rfl rfl rfl rfl rfl rfl (WL.nilT (WD.takeL 14 rfl (by decide +kernel) (WL.gY rfl rfl ?_))))
            refine WL.ldABF (T := Ty) rfl rfl rfl rfl (by first | assumption | exact RB.wide (by assumption) | exact In.rb (by assumption)) rfl (by repeat' constructor) ?_
            refine WL.nilT (WD.takeL 17 rfl (by decide +kernel) (WL.gY rfl rfl ?_))
            refine WL.ldBN (T := Ty) rfl rfl rfl rfl (by first | assumption | exact RB.wide (by assumption) | exact In.rb (by assumption)) rfl ?_
            refine WL.nilT (WD.takeL 18 rfl (by decide +kernel) (WL.gY rfl rfl ?_))
            refine WL.len (T := Ty) rfl rfl (by assumption) rfl ?_
            refine WL.nilT (WD.takeL 19 rfl (by decide +kernel) (WL.gY rfl rfl (WL.mulK rfl rfl rfl (wrap_i64 ⟨by omega, by omega⟩) (WL.nilT (WD.oneL 15 rfl (by decide +kernel) (WL.gY rfl rfl ?_))))))
            refine WL.callV rfl rfl (fun x p d => size13_c _ _ _ _ _ (by assumption) (by first | assumption | omega)) ?_
            refine WL.nilE (WD.takeL 20 rfl (by decide +kernel) (WL.gY rfl rfl (WL.neq rfl rfl rfl (WL.nilT (WD.takeL 21 rfl (by decide +kernel) (WL.pickF rfl rfl rfl (WL.nilT ?_)))))))
            refine WD.doneF hσ0 (by decide +kernel) (by repeat' constructor) ?_
            refine W.condpF rfl (by omega) (W.skip (W.inBlock (W.region (WL.mv rfl rfl (WL.addK rfl rfl rfl (wrap_i64 ⟨by omega, by omega⟩) (WL.as rfl rfl (WL.nil ?_)))))))
            refine W.fit (by (repeat' first | exact Sel.nil | apply Sel.k | exact Pick.h | apply Pick.t)) (W.sub ?_ (next ⟨i + 1, o', lv', lw'⟩ ρ4 le4 ⟨by dsimp only; omega, hI', by dsimp only; omega, sl', sw'⟩ (by dsimp only; omega)))
            exact ⟨rfl, rfl, rfl, rfl, rfl, rfl, trivial⟩
          · by_cases h8 : z1.getD i 0 % (7 + 1) = 0
            · refine W.condpT rfl h8 ?_
              refine W.seq (W.region ?_)
              refine WL.ldAF (T := Ty) (j := 4) rfl rfl rfl rfl rfl rfl (by repeat' constructor) ?_
              refine WL.callF rfl rfl (fun x p d => close13_c _ _ _ _ _ (by first | assumption | exact ROs.wide (by assumption) | exact ROs.mono (by assumption) (eqh_at 0 rfl p d) | exact ros_at 0 rfl p d | exact ros_at 1 rfl p d | exact ros_at 2 rfl p d | exact ros_at 3 rfl p d | exact ros_at 4 rfl p d) (by assumption) (by first | assumption | omega) (TabG.wide (by assumption))) (fun r3 => ?_)
              refine WL.opens (α := Value) (φ := fun v => r3 = .tuple #[v, .agg #[.bool _, .int .i64 _, nilV]] ∧ SL v _) (ps := fun v => [Buf 1 v _]) 0 rfl (fun h q => q) (by repeat' constructor) ?_
              rintro u3 ⟨es3, su3⟩
              subst es3
              dsimp only [List.cons_append, List.nil_append] at su3 ⊢
              refine WL.mv rfl rfl (WL.extL rfl rfl rfl (WL.extL rfl rfl rfl ?_))
              refine WL.alF (T := Ty) rfl rfl (by repeat' constructor) (fun b4 => ?_)
              refine WL.as rfl rfl ?_
              refine WL.stAO (T := Ty) (j := 0) rfl rfl rfl rfl (by repeat' first | exact AO.nil | apply AO.cons (by first | rfl | exact SL.one (by assumption))) rfl rfl (by repeat' constructor) (by repeat' constructor) ?_
              refine WL.nil (W.seq (W.region ?_))
              refine WL.ldAF (T := Ty) (j := 5) rfl rfl rfl rfl rfl rfl (by repeat' constructor) ?_
              refine WL.callF rfl rfl (fun x p d => rclose13_c _ _ _ _ _ (by first | assumption | exact ROs.wide (by assumption) | exact ROs.mono (by assumption) (eqh_at 0 rfl p d) | exact ros_at 0 rfl p d | exact ros_at 1 rfl p d | exact ros_at 2 rfl p d | exact ros_at 3 rfl p d | exact ros_at 4 rfl p d) (by assumption) (by first | assumption | omega) (by assumption) (TabG.wide (by assumption))) (fun r5 => ?_)
              refine WL.opens (α := Value) (φ := fun v => r5 = .tuple #[v, .agg #[.bool _, .int .i64 _, nilV]] ∧ SL v _) (ps := fun v => [Buf 1 v _]) 0 rfl (fun h q => q) (by repeat' constructor) ?_
              rintro u5 ⟨es5, su5⟩
              subst es5
              dsimp only [List.cons_append, List.nil_append] at su5 ⊢
              refine WL.mv rfl rfl (WL.extL rfl rfl rfl (WL.extL rfl rfl rfl ?_))
              refine WL.alF (T := Ty) rfl rfl (by repeat' constructor) (fun b6 => ?_)
              refine WL.as rfl rfl ?_
              refine WL.stAO (T := Ty) (j := 0) rfl rfl rfl rfl (by repeat' first | exact AO.nil | apply AO.cons (by first | rfl | exact SL.one (by assumption))) rfl rfl (by repeat' constructor) (by repeat' constructor) ?_
              refine WL.nil (W.seq (W.seq (W.region (WL.mv rfl rfl (WL.b2sN (T := Ty) rfl rfl rfl rfl rfl rfl rfl (.own 3 rfl) (WL.mv rfl rfl (WL.b2sN (T := Ty) rfl rfl rfl rfl rfl rfl rfl (.own 1 rfl) ?_)))))))
              refine WL.neST rfl rfl rfl (by first | with_reducible rfl | assumption) ?_
              refine WL.nil (W.condF rfl (W.skip (W.nb (sz := 2) (W.nb (sz := 2) ?_))))
              refine W.fit (Hs' := [Buf 2 nilV [], Buf 2 nilV [], box b6 _ _, box b4 _ _, box b1 _ _, box b0 _ _]) (by (repeat' first | exact Sel.nil | apply Sel.k | exact Pick.h | apply Pick.t)) ?_
              refine W.drawP 3 [false, false, false, false, false, true] rfl (by repeat' constructor) (by repeat' constructor) (fun σ0 hσ0 dσ0 => ?_)
              have fσ0_0 := ros_at 0 rfl hσ0 dσ0
              have fσ0_1 := ros_at 1 rfl hσ0 dσ0
              have fσ0_2 := rb_at 2 rfl hσ0 dσ0
              have fσ0_3 := rb_at 3 rfl hσ0 dσ0
              have fσ0_4 := rb_at 4 rfl hσ0 dσ0
              refine WD.takeL 0 rfl (by decide +kernel) ?_
              refine WL.ldABF (T := Ty) rfl rfl rfl rfl (by first | assumption | exact RB.wide (by assumption) | exact In.rb (by assumption)) rfl (by repeat' constructor) ?_
              refine WL.nilT (WD.takeL 1 rfl (by decide +kernel) ?_)
              refine WL.ldABF (T := Ty) rfl rfl rfl rfl (by first | assumption | exact RB.wide (by assumption) | exact In.rb (by assumption)) rfl (by repeat' constructor) ?_
              refine WL.nilT (WD.oneL 2 rfl (by decide +kernel) ?_)
              refine WL.stAO (T := Ty) (j := 1) rfl rfl rfl rfl (by repeat' first | exact AO.nil | apply AO.cons (by first | rfl | exact SL.one (by assumption))) rfl rfl (by repeat' constructor) (by repeat' constructor) ?_
              refine WL.nilE ?_
              refine WD.lastG hσ0 (by decide +kernel) (by repeat' constructor) rfl (by repeat' constructor) ?_
              refine WL.stAO (T := Ty) (j := 4) rfl rfl rfl rfl (by repeat' first | exact AO.nil | apply AO.cons (by first | rfl | exact SL.one (by assumption))) rfl rfl (by repeat' constructor) (by repeat' constructor) ?_
              refine WL.nil ?_
              refine W.fit (Hs' := [Buf 2 nilV [], Buf 2 nilV [], box b1 _ _, box b0 _ _]) (by (repeat' first | exact Sel.nil | apply Sel.k | exact Pick.h | apply Pick.t)) (W.sub ?_ (cut (clsO o, nilV, nilV) _ (Le.refl _) ⟨Le.refl _, hI.cls, Nat.zero_le _, slZ, slZ⟩))
              exact ⟨rfl, rfl, rfl, rfl, rfl, rfl, trivial⟩
            · by_cases he : o.any = true ∧ s ≤ o.last
              · obtain ⟨he1, he2⟩ := he
                refine W.condpF rfl h8 (W.seq (W.region ?_))
                refine WL.ldAF (T := Ty) (j := 4) rfl rfl rfl rfl rfl rfl (by repeat' constructor) ?_
                refine WL.ldAF (T := Ty) (j := 0) rfl rfl rfl rfl rfl rfl (by repeat' constructor) ?_
                refine WL.callF rfl rfl (fun x p d => addE_c _ _ _ _ _ _ _ (by first | assumption | exact ROs.wide (by assumption) | exact ROs.mono (by assumption) (eqh_at 0 rfl p d) | exact ros_at 0 rfl p d | exact ros_at 1 rfl p d | exact ros_at 2 rfl p d | exact ros_at 3 rfl p d | exact ros_at 4 rfl p d) (by first | assumption | omega) (by first | rfl | assumption) (by first | assumption | omega)) (fun r3 => ?_)
                refine WL.opens (α := Value) (φ := fun v => r3 = .tuple #[.agg #[.bool _, .int .i64 _, v], .int .i64 1] ∧ SL v _) (ps := fun v => [Buf 2 v _]) 0 rfl (fun h q => q) (by repeat' constructor) ?_
                rintro u3 ⟨es3, su3⟩
                subst es3
                dsimp only [List.cons_append, List.nil_append] at su3 ⊢
                refine WL.mv rfl rfl (WL.extL rfl rfl rfl (WL.extL rfl rfl rfl ?_))
                refine WL.alF (T := Ty) rfl rfl (by repeat' constructor) (fun b4 => ?_)
                refine WL.stAO (T := Ty) (j := 0) rfl rfl rfl rfl (by repeat' first | exact AO.nil | apply AO.cons (by first | rfl | exact SL.one (by assumption))) rfl rfl (by repeat' constructor) (by repeat' constructor) ?_
                refine WL.as rfl rfl (WL.nil (W.seq (W.region ?_)))
                refine WL.ldAF (T := Ty) (j := 5) rfl rfl rfl rfl rfl rfl (by repeat' constructor) ?_
                refine WL.ldAF (T := Ty) (j := 2) rfl rfl rfl rfl rfl rfl (by repeat' constructor) ?_
                refine WL.callF rfl rfl (fun x p d => raddE_c _ _ _ _ _ _ _ (by first | assumption | exact ROs.wide (by assumption) | exact ROs.mono (by assumption) (eqh_at 0 rfl p d) | exact ros_at 0 rfl p d | exact ros_at 1 rfl p d | exact ros_at 2 rfl p d | exact ros_at 3 rfl p d | exact ros_at 4 rfl p d) (by first | assumption | omega) (by first | rfl | assumption) (by first | assumption | omega)) (fun r5 => ?_)
                refine WL.opens (α := Value) (φ := fun v => r5 = .tuple #[.agg #[.bool _, .int .i64 _, v], .int .i64 1] ∧ SL v _) (ps := fun v => [Buf 2 v _]) 0 rfl (fun h q => q) (by repeat' constructor) ?_
                rintro u5 ⟨es5, su5⟩
                subst es5
                dsimp only [List.cons_append, List.nil_append] at su5 ⊢
                refine WL.mv rfl rfl (WL.extL rfl rfl rfl (WL.extL rfl rfl rfl ?_))
                refine WL.alF (T := Ty) rfl rfl (by repeat' constructor) (fun b6 => ?_)
                refine WL.stAO (T := Ty) (j := 0) rfl rfl rfl rfl (by repeat' first | exact AO.nil | apply AO.cons (by first | rfl | exact SL.one (by assumption))) rfl rfl (by repeat' constructor) (by repeat' constructor) ?_
                refine WL.as rfl rfl (WL.nil (W.seq (W.seq (W.region (WL.mv rfl rfl (WL.mv rfl rfl (WL.neq rfl rfl rfl (WL.nil (W.condF rfl (W.skip ?_))))))))))
                refine W.fit (Hs' := [Buf 2 u3 _, Buf 2 u5 _, box b6 _ _, box b4 _ _, box b1 _ _, box b0 _ _]) (by (repeat' first | exact Sel.nil | apply Sel.k | exact Pick.h | apply Pick.t)) ?_
                refine W.drawP 3 [false, false, false, false, false, true] rfl (by repeat' constructor) (by repeat' constructor) (fun σ0 hσ0 dσ0 => ?_)
                have fσ0_0 := ros_at 0 rfl hσ0 dσ0
                have fσ0_1 := ros_at 1 rfl hσ0 dσ0
                have fσ0_2 := rb_at 2 rfl hσ0 dσ0
                have fσ0_3 := rb_at 3 rfl hσ0 dσ0
                have fσ0_4 := rb_at 4 rfl hσ0 dσ0
                refine WD.takeL 0 rfl (by decide +kernel) ?_
                refine WL.ldABF (T := Ty) rfl rfl rfl rfl (by first | assumption | exact RB.wide (by assumption) | exact In.rb (by assumption)) rfl (by repeat' constructor) ?_
                refine WL.nilT (WD.takeL 1 rfl (by decide +kernel) ?_)
                refine WL.ldABF (T := Ty) rfl rfl rfl rfl (by first | assumption | exact RB.wide (by assumption) | exact In.rb (by assumption)) rfl (by repeat' constructor) ?_
                refine WL.nilT (WD.oneL 2 rfl (by decide +kernel) ?_)
                refine WL.stAO (T := Ty) (j := 1) rfl rfl rfl rfl (by repeat' first | exact AO.nil | apply AO.cons (by first | rfl | exact SL.one (by assumption))) rfl rfl (by repeat' constructor) (by repeat' constructor) ?_
                refine WL.nilE ?_
                refine WD.lastG hσ0 (by decide +kernel) (by repeat' constructor) rfl (by repeat' constructor) ?_
                refine WL.stAO (T := Ty) (j := 4) rfl rfl rfl rfl (by repeat' first | exact AO.nil | apply AO.cons (by first | rfl | exact SL.one (by assumption))) rfl rfl (by repeat' constructor) (by repeat' constructor) ?_
                refine WL.nil ?_
                refine W.fit (Hs' := [Buf 2 u3 _, Buf 2 u5 _, box b1 _ _, box b0 _ _]) (by (repeat' first | exact Sel.nil | apply Sel.k | exact Pick.h | apply Pick.t)) (W.sub ?_ (cut (o, u3, u5) _ (Le.refl _) ⟨Le.refl _, hI, by dsimp only; omega, by dsimp only; assumption, by dsimp only; assumption⟩))
                exact ⟨rfl, rfl, rfl, rfl, rfl, rfl, trivial⟩
              · have hadd : o.any = false ∨ o.last < s := by
                  cases hany : o.any with
                  | false => exact .inl rfl
                  | true => exact .inr (by have : ¬ s ≤ o.last := fun hh => he ⟨hany, hh⟩; omega)
                refine W.condpF rfl h8 ?_
                have hI2 := hI.add (s := (s, q.2)) hs3
                rw [addO_O (o := o) (s := (s, q.2)) he] at hI2
                have hln2 : (o.list ++ [((s, q.2) : Smp)]).length = o.list.length + 1 := by simp
                refine W.seq (W.region ?_)
                refine WL.ldAF (T := Ty) (j := 4) rfl rfl rfl rfl rfl rfl (by repeat' constructor) ?_
                refine WL.ldAF (T := Ty) (j := 0) rfl rfl rfl rfl rfl rfl (by repeat' constructor) ?_
                refine WL.callF rfl rfl (fun x p d => addO_c _ _ _ _ _ _ _ (by first | assumption | exact ROs.wide (by assumption) | exact ROs.mono (by assumption) (eqh_at 0 rfl p d) | exact ros_at 0 rfl p d | exact ros_at 1 rfl p d | exact ros_at 2 rfl p d | exact ros_at 3 rfl p d | exact ros_at 4 rfl p d) (by first | assumption | omega) (by first | exact .inl rfl | assumption | exact .inr (by omega))) (fun r3 => ?_)
                refine WL.opens (α := Value) (φ := fun v => r3 = .tuple #[.agg #[.bool true, .int .i64 _, v], .int .i64 0] ∧ SL v _) (ps := fun v => [Buf 2 v _]) 0 rfl (fun h q => q) (by repeat' constructor) ?_
                rintro u3 ⟨es3, su3⟩
                subst es3
                dsimp only [List.cons_append, List.nil_append] at su3 ⊢
                refine WL.mv rfl rfl (WL.extL rfl rfl rfl (WL.extL rfl rfl rfl ?_))
                refine WL.alF (T := Ty) rfl rfl (by repeat' constructor) (fun b4 => ?_)
                refine WL.stAO (T := Ty) (j := 0) rfl rfl rfl rfl (by repeat' first | exact AO.nil | apply AO.cons (by first | rfl | exact SL.one (by assumption))) rfl rfl (by repeat' constructor) (by repeat' constructor) ?_
                refine WL.as rfl rfl (WL.nil (W.seq (W.region ?_)))
                refine WL.ldAF (T := Ty) (j := 5) rfl rfl rfl rfl rfl rfl (by repeat' constructor) ?_
                refine WL.ldAF (T := Ty) (j := 2) rfl rfl rfl rfl rfl rfl (by repeat' constructor) ?_
                refine WL.callF rfl rfl (fun x p d => raddO_c _ _ _ _ _ _ _ (by first | assumption | exact ROs.wide (by assumption) | exact ROs.mono (by assumption) (eqh_at 0 rfl p d) | exact ros_at 0 rfl p d | exact ros_at 1 rfl p d | exact ros_at 2 rfl p d | exact ros_at 3 rfl p d | exact ros_at 4 rfl p d) (by first | assumption | omega) (by first | exact .inl rfl | assumption | exact .inr (by omega))) (fun r5 => ?_)
                refine WL.opens (α := Value) (φ := fun v => r5 = .tuple #[.agg #[.bool true, .int .i64 _, v], .int .i64 0] ∧ SL v _) (ps := fun v => [Buf 2 v _]) 0 rfl (fun h q => q) (by repeat' constructor) ?_
                rintro u5 ⟨es5, su5⟩
                subst es5
                dsimp only [List.cons_append, List.nil_append] at su5 ⊢
                refine WL.mv rfl rfl (WL.extL rfl rfl rfl (WL.extL rfl rfl rfl ?_))
                refine WL.alF (T := Ty) rfl rfl (by repeat' constructor) (fun b6 => ?_)
                refine WL.stAO (T := Ty) (j := 0) rfl rfl rfl rfl (by repeat' first | exact AO.nil | apply AO.cons (by first | rfl | exact SL.one (by assumption))) rfl rfl (by repeat' constructor) (by repeat' constructor) ?_
                refine WL.as rfl rfl (WL.nil (W.seq (W.seq (W.region (WL.mv rfl rfl (WL.mv rfl rfl (WL.neq rfl rfl rfl (WL.nil (W.condF rfl (W.skip ?_))))))))))
                refine W.fit (Hs' := [Buf 2 u3 _, Buf 2 u5 _, box b6 _ _, box b4 _ _, box b1 _ _, box b0 _ _]) (by (repeat' first | exact Sel.nil | apply Sel.k | exact Pick.h | apply Pick.t)) ?_
                refine W.drawP 3 [false, false, false, false, false, true] rfl (by repeat' constructor) (by repeat' constructor) (fun σ0 hσ0 dσ0 => ?_)
                have fσ0_0 := ros_at 0 rfl hσ0 dσ0
                have fσ0_1 := ros_at 1 rfl hσ0 dσ0
                have fσ0_2 := rb_at 2 rfl hσ0 dσ0
                have fσ0_3 := rb_at 3 rfl hσ0 dσ0
                have fσ0_4 := rb_at 4 rfl hσ0 dσ0
                refine WD.takeL 0 rfl (by decide +kernel) ?_
                refine WL.ldABF (T := Ty) rfl rfl rfl rfl (by first | assumption | exact RB.wide (by assumption) | exact In.rb (by assumption)) rfl (by repeat' constructor) ?_
                refine WL.nilT (WD.takeL 1 rfl (by decide +kernel) ?_)
                refine WL.ldABF (T := Ty) rfl rfl rfl rfl (by first | assumption | exact RB.wide (by assumption) | exact In.rb (by assumption)) rfl (by repeat' constructor) ?_
                refine WL.nilT (WD.oneL 2 rfl (by decide +kernel) ?_)
                refine WL.stAO (T := Ty) (j := 1) rfl rfl rfl rfl (by repeat' first | exact AO.nil | apply AO.cons (by first | rfl | exact SL.one (by assumption))) rfl rfl (by repeat' constructor) (by repeat' constructor) ?_
                refine WL.nilE ?_
                refine WD.lastG hσ0 (by decide +kernel) (by repeat' constructor) rfl (by repeat' constructor) ?_
                refine WL.stAO (T := Ty) (j := 4) rfl rfl rfl rfl (by repeat' first | exact AO.nil | apply AO.cons (by first | rfl | exact SL.one (by assumption))) rfl rfl (by repeat' constructor) (by repeat' constructor) ?_
                refine WL.nil ?_
                refine W.fit (Hs' := [Buf 2 u3 _, Buf 2 u5 _, box b1 _ _, box b0 _ _]) (by (repeat' first | exact Sel.nil | apply Sel.k | exact Pick.h | apply Pick.t)) (W.sub ?_ (cut (⟨true, s, o.list ++ [((s, q.2) : Smp)]⟩, u3, u5) _ (Le.refl _) ⟨Le.refl _, hI2, by dsimp only; omega, by dsimp only; rw [hln2]; assumption, by dsimp only; rw [hln2]; assumption⟩))
                exact ⟨rfl, rfl, rfl, rfl, rfl, rfl, trivial⟩
        · cases a2 with
          | false =>
            refine W.condF rfl (W.skip ?_)
            refine W.sub ?_ (cut q.1 _ (Le.refl _) ⟨rfl, hq1⟩)
            exact ⟨rfl, rfl, rfl, rfl, rfl, rfl, rfl, trivial⟩
          | true =>
            refine W.condT rfl (W.region (WL.faN (T := Ty) (off' := 0) rfl rfl rfl rfl rfl rfl rfl (WL.ldN (T := Ty) (j := 0) rfl rfl rfl rfl rfl rfl (WL.andI rfl rfl rfl (by decide) (WL.faN (T := Ty) (off' := 0) rfl rfl rfl rfl rfl rfl rfl ?_)))))
            refine WL.stF (T := Ty) (j := 0) rfl rfl rfl rfl rfl rfl rfl (by repeat' constructor) (by repeat' constructor) ?_
            refine WL.nil ?_
            refine W.sub ?_ (cut (q.1 % (31 + 1)) _ (Le.refl _) ⟨rfl, by unfold i64ok at hq1 ⊢; omega⟩)
            exact ⟨rfl, rfl, rfl, rfl, rfl, rfl, rfl, trivial⟩
      · clear next
        refine W.seq (W.seq (W.region (WL.mv rfl rfl (WL.mv rfl rfl ?_))))
        refine WL.len (T := Ty) rfl rfl (by assumption) rfl ?_
        refine WL.lss rfl rfl rfl (WL.mv rfl rfl (WL.gT rfl rfl (by omega) (WL.mv rfl rfl (WL.gT rfl rfl (by omega) (WL.mv rfl rfl (WL.gT rfl rfl (by omega) ?_))))))
        refine WL.len (T := Ty) rfl rfl (by assumption) rfl ?_
        refine WL.gT rfl rfl (by omega) (WL.lss rfl rfl rfl (WL.pickTp rfl rfl (by omega) rfl (WL.mv rfl rfl (WL.gT rfl rfl (by omega) (WL.mv rfl rfl (WL.gT rfl rfl (by omega) (WL.lss rfl rfl rfl (WL.pickTp rfl rfl (by omega) rfl (WL.nil (W.condpF rfl (by omega) (W.exit rfl (W.seq (W.region ?_)))))))))))))
        refine WL.callT rfl rfl (fun x p d => awake13_c _ (TabG.wide (by assumption))) ?_
        refine WL.as rfl rfl (WL.nil ?_)
        exact W.fit (Hs' := []) (by (repeat' first | exact Sel.nil | apply Sel.k | exact Pick.h | apply Pick.t)) (W.ret1 rfl rfl (fun h q => rfl))
    · clear next
      refine W.seq (W.seq (W.region (WL.mv rfl rfl (WL.mv rfl rfl ?_))))
      refine WL.len (T := Ty) rfl rfl (by assumption) rfl ?_
      refine WL.lss rfl rfl rfl (WL.mv rfl rfl (WL.gT rfl rfl (by omega) (WL.mv rfl rfl (WL.gT rfl rfl (by omega) (WL.mv rfl rfl (WL.gT rfl rfl (by omega) ?_))))))
      refine WL.len (T := Ty) rfl rfl (by assumption) rfl ?_
      refine WL.gT rfl rfl (by omega) (WL.lss rfl rfl rfl (WL.pickTp rfl rfl (by omega) rfl (WL.mv rfl rfl (WL.gdTn rfl rfl rfl rfl rfl (by omega) (WL.gdTn rfl rfl rfl rfl rfl (by omega) (WL.pickFp rfl rfl (by omega) rfl (WL.nil (W.condF rfl (W.exit rfl (W.seq (W.region ?_)))))))))))
      refine WL.callT rfl rfl (fun x p d => awake13_c _ (TabG.wide (by assumption))) ?_
      refine WL.as rfl rfl (WL.nil ?_)
      exact W.fit (Hs' := []) (by (repeat' first | exact Sel.nil | apply Sel.k | exact Pick.h | apply Pick.t)) (W.ret1 rfl rfl (fun h q => rfl))
  · clear next
    refine W.seq (W.seq (W.region (WL.mv rfl rfl (WL.mv rfl rfl ?_))))
    refine WL.len (T := Ty) rfl rfl (by assumption) rfl ?_
    refine WL.lss rfl rfl rfl (WL.mv rfl rfl (WL.gdTn rfl rfl rfl rfl rfl (by omega) (WL.gdTn rfl rfl rfl rfl rfl (by omega) (WL.gdTn rfl rfl rfl rfl rfl (by omega) (WL.gdTn rfl rfl rfl rfl rfl (by omega) (WL.pickFp rfl rfl (by omega) rfl (WL.mv rfl rfl (WL.gdN rfl rfl rfl rfl rfl rfl (WL.gdN rfl rfl rfl rfl rfl rfl (WL.pickF rfl rfl rfl (WL.nil (W.condF rfl (W.exit rfl ?_)))))))))))))
    refine W.seq (W.region ?_)
    refine WL.callT rfl rfl (fun x p d => awake13_c _ (TabG.wide (by assumption))) ?_
    refine WL.as rfl rfl (WL.nil ?_)
    exact W.fit (Hs' := []) (by (repeat' first | exact Sel.nil | apply Sel.k | exact Pick.h | apply Pick.t)) (W.ret1 rfl rfl (fun h q => rfl))
end Go.Proofs.YtdpnpipninggeaaGreatDoor
