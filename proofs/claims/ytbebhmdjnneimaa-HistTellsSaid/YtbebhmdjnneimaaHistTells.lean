/- HistTells. -/
import Derived.Test.YtbebhmdjnneimaaStc
import Derived.Test.YtbebhmdjnneimaaNum
import Derived.Test.YtbebhmdjnneimaaTab
import Derived.Test.YtbebhmdjnneimaaHistH
import Derived.Test.YtbebhmdjnneimaaMdlRx
import Derived.Test.YtbebhmdjnneimaaBsR
set_option linter.unusedSimpArgs false
set_option linter.unusedVariables false
set_option maxRecDepth 20000
set_option maxHeartbeats 4000000
namespace Go.Proofs.Ytbebhmdjnneimaa
open Go
theorem bnd_set {l : List Int} {i w : Nat} {v : Int} (h : ∀ x ∈ l, 0 ≤ x ∧ x ≤ (i : Int)) (h0 : 0 ≤ v) (h1 : v ≤ ((i + 1 : Nat) : Int)) : ∀ x ∈ l.set w v, 0 ≤ x ∧ x ≤ ((i + 1 : Nat) : Int) := by
 intro x hx
 rcases mem_set_of hx with rfl | hx
 ·exact ⟨h0, h1⟩
 ·have := h x hx; omega
theorem rpl_lenj (l : List (Evt × Value)) (o : List PK) : ∀ j, ∀ x ∈ (rpl l o j).2, x.list.length ≤ j
 | 0, x, hx => by cases hx
 | j + 1, x, hx => by
  have ih := rpl_lenj l o j
  have hI := rpl_inv l o j
  unfold rpl at hx
  split at hx
  ·exact Nat.le_succ_of_le (ih x hx)
  ·split at hx
   ·rcases List.mem_append.1 hx with h | h
    ·exact Nat.le_succ_of_le (ih x h)
    ·rw [List.mem_singleton.1 h]; simp
   ·rcases List.mem_append.1 hx with h | h
    ·exact Nat.le_succ_of_le (ih x h)
    ·rw [List.mem_singleton.1 h]
     exact Nat.le_succ_of_le (rst_len hI _)
attribute [local irreducible] W WL Fn Buf ROs SL eptr box Rd Src bndOK WD RB Reads In Own Pm doM rpl chkH chkR
theorem HistTells_fn (ρ : Hp) (v0 : Value) (z0 : List Int) (r0 : ROs ρ 1 v0 (z0.map (Value.int .i64))) (m0 : ∀ n ∈ z0, (Lit.int .i64 n).wf = true) (y0 : z0.length * 8 ≤ 140737488351232) (v1 : Value) (z1 : List Int) (r1 : ROs ρ 1 v1 (z1.map (Value.int .i64))) (m1 : ∀ n ∈ z1, (Lit.int .i64 n).wf = true) (y1 : z1.length * 8 ≤ 140737488351232) :
    Fn Try.prog 9 #[v0, v1] ρ [] (fun r _ => r = .bool true) := by
  have s0 := r0.slm
  have s1 := r1.slm
  obtain ⟨f, hopf⟩ : ∃ f : Int → Int → MOp, ∀ (ρ : Hp) n a, Fn Try.prog 19 #[.int .i64 n, .int .i64 a] ρ [] (Just (.agg #[.int .i64 (f n a).kind, .int .i64 (f n a).series, .int .i64 (f n a).iter, .int .i64 (f n a).t, .int .u64 (f n a).v, .int .i64 (f n a).lo, .int .i64 (f n a).hi, .int .i64 (f n a).n])) :=
    ⟨fun n a => Classical.choose (op_ex n a), fun ρ n a => Classical.choose_spec (op_ex n a) ρ⟩
  refine in9 rfl rfl ?_
  refine W.seq (W.region (WL.as rfl rfl (WL.nil (W.seq (W.region (WL.as rfl rfl (WL.nil (W.seq (W.region (WL.as rfl rfl (WL.nil (W.seq (W.region ?_)))))))))))))
  refine WL.bdAC (T := Ty) rfl rfl rfl rfl (by repeat' first | exact CO.nil | apply CO.one (by first | rfl | exact SL.one (by assumption)) | apply CO.agg) rfl (by repeat' constructor) ?_
  refine WL.alF (T := Ty) rfl rfl (by repeat' constructor) (fun b0 => ?_)
  refine WL.stAO (T := Ty) (j := 0) rfl rfl rfl rfl (by repeat' first | exact AO.nil | apply AO.cons (by first | rfl | exact SL.one (by assumption))) rfl rfl (by repeat' constructor) (by repeat' constructor) ?_
  refine WL.nil (W.seq (W.region ?_))
  refine WL.alF (T := Ty) rfl rfl (by repeat' constructor) (fun b1 => ?_)
  refine WL.nil (W.seq (W.seq (W.region (WL.as rfl rfl (WL.nil (W.block (W.nb (sz := 2) (W.nb (sz := 14) ?_))))))))
  refine W.cutG2 (τ := List (Evt × Value) × List PK × Value × Value) (fun s => [(1, v1), (5, s.2.2.1), (6, s.2.2.2)])
    (fun s => [Buf 14 s.2.2.1 (s.1.flatMap evC), Buf 2 s.2.2.2 (s.2.1.flatMap (twoC .i64 .i64))]) (fun s ρ' => s.1.length ≤ 40 ∧ s.2.1.length ≤ 40 ∧ okL ρ' s.1 ∧ SL s.2.2.1 s.1.length ∧ SL s.2.2.2 s.2.1.length) ?_ (fun cut0 => ?_)
  · rintro ⟨L, o, ve, vo⟩ ρ1 le1 ⟨hL, ho, hok, t1, t2⟩
    dsimp only at hL ho hok t1 t2 ⊢
    replace r1 := r1.mono le1
    clear r0 m0 y0 s0
    have l1 := evs_cells L
    have l2 := two_len (k0 := .i64) (k1 := .i64) o
    have htw : ∀ q ∈ o.flatMap (twoC .i64 .i64), q.oneCell' = true := by
      intro q hq
      obtain ⟨x, _, hx⟩ := List.mem_flatMap.1 hq
      simp only [twoC, List.mem_cons, List.mem_nil_iff, or_false] at hx
      rcases hx with rfl | rfl <;> rfl
    have hS : ∀ p ∈ L, SL p.2 p.1.res.list.length := fun p hp => (hok p hp).1.sl (flat_len sm_len _) (by omega)
    refine W.freeze 0 rfl (by repeat' constructor) (fun ρ2 le2 in2 => ?_)
    refine W.freeze 0 rfl (by repeat' constructor) (fun ρ3 le3 in3 => ?_)
    have r2 := (in2.mono le3).ros
    have r3 := in3.ros
    replace r1 := (r1.mono le2).mono le3
    replace hok := (hok.mono le2).mono le3
    clear in2 in3
    refine W.seq (W.region (WL.as rfl rfl (WL.nil (W.seq (W.seq (W.region (WL.as rfl rfl (WL.nil (W.block (W.nb (sz := 2) ?_))))))))))
    refine W.cutG2 (τ := List PK × Value) (fun s => [(1, v1), (5, ve), (6, vo), (14, s.2)]) (fun s => [Buf 2 s.2 (s.1.flatMap (twoC .i64 .i64))]) (fun s ρ' => s.1.length ≤ 20 ∧ SL s.2 s.1.length) ?_ (fun cut1 => ?_)
    · rintro ⟨oo, vt⟩ ρ4 le4 ⟨hoo, t3⟩
      dsimp only at hoo t3 ⊢
      refine W.freeze 0 rfl (by repeat' constructor) (fun ρ5 le5 in5 => ?_)
      have r4 := in5.ros
      replace r1 := (r1.mono le4).mono le5
      replace r2 := (r2.mono le4).mono le5
      replace r3 := (r3.mono le4).mono le5
      replace hok := (hok.mono le4).mono le5
      clear in5
      have htwh := PLift.up htw
      clear htw
      refine W.seq (W.region ?_)
      refine WL.bsC (T := Ty) rfl rfl rfl rfl rfl rfl rfl (by repeat' first | exact CO.nil | apply CO.one (by first | rfl | exact SL.one (by assumption)) | apply CO.agg) rfl (by repeat' constructor) (fun u2 hu2 => ?_)
      refine WL.mv rfl rfl ?_
      have htw := htwh.down
      refine WL.ap (T := Ty) (i := 0) (n := 0) rfl rfl rfl rfl rfl rfl rfl rfl (by first | exact .ro (by assumption) | exact .ro (ROs.wide (by assumption)) | exact .eqJ 0 rfl (by assumption) | exact .own 0 rfl | exact .own 1 rfl | exact .own 2 rfl | exact .own 3 rfl | exact .own 4 rfl | exact .own 5 rfl) (by first | assumption | exact ROs.slm (by assumption)) rfl (by assumption) (by assumption) (by first | omega | (simp; omega) | (simp only [List.length_drop, List.length_take]; omega)) (by unfold maxLen; first | omega | (simp only [List.length_drop, List.length_take]; omega)) (fun v' => (by repeat' constructor)) (fun u3 hu3 => ?_)
      refine WL.as rfl rfl (WL.nil ?_)
      rw [List.nil_append]
      refine W.seq ?_
      refine W.cutG (τ := List PK × Value) (fun s => [(5, ve), (6, vo), (14, vt), (16, s.2)]) (fun s => [Buf 2 s.2 (s.1.flatMap (twoC .i64 .i64))]) (fun s ρ' => s.1.length ≤ 40 ∧ SL s.2 s.1.length) ?_ (fun cut2 => ?_)
      · rintro ⟨o3, vs⟩ ρ6 le6 ⟨ho3, t4⟩
        dsimp only at ho3 t4 ⊢
        refine W.freeze 0 rfl (by repeat' constructor) (fun ρ7 le7 in7 => ?_)
        have r5 := in7.ros
        replace r2 := (r2.mono le6).mono le7
        replace r3 := (r3.mono le6).mono le7
        replace r4 := (r4.mono le6).mono le7
        replace hok := (hok.mono le6).mono le7
        clear in7 r1
        refine W.seq (W.seq (W.region (WL.mv rfl rfl (WL.mv rfl rfl (WL.mv rfl rfl (WL.mv rfl rfl (WL.mv rfl rfl ?_)))))))
        refine WL.len (T := Ty) rfl rfl (by assumption) rfl ?_
        refine WL.quoI rfl rfl rfl (by omega) (by omega) (by omega) ?_
        refine WL.slTf (T := Ty) rfl rfl rfl rfl rfl rfl (by first | assumption | exact ROs.wide (by assumption)) (by intro a; rfl) (by first | assumption | omega | (simp; omega)) (fun u4 hu4 ru4 => ?_)
        refine WL.bsC (T := Ty) rfl rfl rfl rfl rfl rfl rfl (by repeat' first | exact CO.nil | apply CO.one (by first | rfl | exact SL.one (by assumption)) | apply CO.agg) rfl (by repeat' constructor) (fun u5 hu5 => ?_)
        refine WL.len (T := Ty) rfl rfl (by assumption) rfl ?_
        refine WL.mv rfl rfl (WL.nil (W.block ?_))
        rw [show (o.length : Int) / 2 = ((o.length / 2 : Nat) : Int) by omega]
        skip
        have ru4 : ROs ρ7 2 u4 ((o.take (o.length / 2)).flatMap (twoC .i64 .i64)) := by assumption
        refine W.freeze 0 rfl (by repeat' constructor) (fun ρ8 le8 in8 => ?_)
        have r6 := in8.ros
        replace r2 := r2.mono le8
        replace r3 := r3.mono le8
        replace r4 := r4.mono le8
        replace r5 := r5.mono le8
        replace ru4 := ru4.mono le8
        replace hok := hok.mono le8
        clear in8
        have key : ∀ j, j < 4 → ∃ (vj : Value) (oj : List PK), ([vo, vt, vs, u4] : List Value)[((j : Nat) : Int).toNat * 1]? = some vj ∧ ROs ρ8 2 vj (oj.flatMap (twoC .i64 .i64)) ∧ oj.length ≤ 1000 := by
          intro j hj
          match j, hj with
          | 0, _ => exact ⟨vo, o, rfl, r3, by omega⟩
          | 1, _ => exact ⟨vt, oo, rfl, r4, by omega⟩
          | 2, _ => exact ⟨vs, o3, rfl, r5, by omega⟩
          | 3, _ => exact ⟨u4, o.take (o.length / 2), rfl, ru4, by rw [List.length_take]; omega⟩
        have s6 : SL u5 4 := by assumption
        have sve : SL ve L.length := t1
        refine W.loopR (σ := Nat) (fun j => [(5, ve), (202, u5), (203, .int .i64 ((4 : Nat) : Int)), (204, .int .i64 (j : Int))]) (fun s => []) (fun j ρ' => j ≤ 4) (fun j => 4 - j)
          0 ⟨rfl, rfl, rfl, rfl, trivial⟩ rfl (Nat.zero_le _) ?_
        clear r3 r4 r5 ru4
        rintro j ρ9 le9 hj next
        by_cases hj4 : j < 4
        · obtain ⟨vj, oj, hvj, rj, hoj⟩ := key j hj4
          replace rj := rj.mono le9
          replace r2 := r2.mono le9
          replace r6 := r6.mono le9
          replace hok := hok.mono le9
          have lj := two_len (k0 := .i64) (k1 := .i64) oj
          have sj : SL vj oj.length := rj.sl lj (by omega)
          have hI := rpl_inv L oj oj.length
          have hsm := sameMdl_refl (rpl L oj oj.length).1
          obtain ⟨c, hc1⟩ : ∃ c, chkH L oj = c := ⟨_, rfl⟩
          have hc2 : chkR L oj = c := by rw [← chk_same]; exact hc1
          refine W.seq (W.region (WL.lss rfl rfl rfl (WL.nil (W.seq (W.condpT rfl (by omega) (W.skip (W.seq (W.block (W.seq (W.region ?_))))))))))
          refine WL.ix (T := Ty) rfl rfl rfl (by assumption) rfl rfl (by omega) (by first | omega | decide +kernel) ?_
          refine WL.ldR (T := Ty) rfl rfl rfl rfl (by first | assumption | exact ROs.wide (by assumption)) (by assumption) ?_
          refine WL.as rfl rfl (WL.nil (W.seq (W.region (WL.mv rfl rfl (WL.mv rfl rfl ?_)))))
          refine WL.callF rfl rfl (fun x p d => replay_c _ _ _ _ _ (by first | assumption | exact ROs.wide (by assumption) | exact ROs.mono (by assumption) (eqh_at 0 rfl p d) | exact ros_at 0 rfl p d | exact ros_at 1 rfl p d | exact ros_at 2 rfl p d | exact ros_at 3 rfl p d | exact ros_at 4 rfl p d) (by assumption) (by first | assumption | omega) (by first | assumption | exact ROs.wide (by assumption) | exact ROs.mono (by assumption) (eqh_at 0 rfl p d) | exact ros_at 0 rfl p d | exact ros_at 1 rfl p d | exact ros_at 2 rfl p d | exact ros_at 3 rfl p d | exact ros_at 4 rfl p d) (by first | assumption | omega)) (fun r6 => ?_)
          refine WL.opens (α := (Value × Value × Value × List (Rst × Value))) (φ := fun x => r6 = .tuple #[.agg #[x.1, x.2.1, .int .i64 _], x.2.2.1] ∧ x.2.2.2.map Prod.fst = _ ∧ SL x.1 _ ∧ SL x.2.1 _ ∧ SL x.2.2.1 x.2.2.2.length ∧ (∀ p ∈ x.2.2.2, SL p.2 p.1.list.length)) (ps := fun x => [OMdl (.agg #[x.1, x.2.1, .int .i64 _]) _, Buf 3 x.2.2.1 (x.2.2.2.flatMap rstC), Own owRst x.2.2.2]) 0 rfl (fun h q => RepR.open q) (by repeat' constructor) ?_
          rintro ⟨sv6, iv6, u6, R6⟩ ⟨es6, er6, sa6, sb6, sc6, sd6⟩
          subst es6
          dsimp only [List.cons_append, List.nil_append] at er6 sa6 sb6 sc6 ⊢
          refine WL.mv rfl rfl (WL.extL rfl rfl rfl (WL.extL rfl rfl rfl ?_))
          refine WL.alF (T := Ty) rfl rfl (by repeat' constructor) (fun b7 => ?_)
          refine WL.stAO (T := Ty) (j := 0) rfl rfl rfl rfl (by repeat' first | exact AO.nil | apply AO.cons (by first | rfl | exact SL.one (by assumption))) rfl rfl (by repeat' constructor) (by repeat' constructor) ?_
          refine WL.as rfl rfl (WL.nil (W.seq (W.region (WL.mv rfl rfl (WL.mv rfl rfl ?_)))))
          refine WL.callF rfl rfl (fun x p d => rreplay_c _ _ _ _ _ (by first | assumption | exact ROs.wide (by assumption) | exact ROs.mono (by assumption) (eqh_at 0 rfl p d) | exact ros_at 0 rfl p d | exact ros_at 1 rfl p d | exact ros_at 2 rfl p d | exact ros_at 3 rfl p d | exact ros_at 4 rfl p d) (by assumption) (by first | assumption | omega) (by first | assumption | exact ROs.wide (by assumption) | exact ROs.mono (by assumption) (eqh_at 0 rfl p d) | exact ros_at 0 rfl p d | exact ros_at 1 rfl p d | exact ros_at 2 rfl p d | exact ros_at 3 rfl p d | exact ros_at 4 rfl p d) (by first | assumption | omega)) (fun r8 => ?_)
          refine WL.opens (α := (Value × Value × Value × List (Rst × Value))) (φ := fun x => r8 = .tuple #[.agg #[x.1, x.2.1, .int .i64 _], x.2.2.1] ∧ x.2.2.2.map Prod.fst = _ ∧ SL x.1 _ ∧ SL x.2.1 _ ∧ SL x.2.2.1 x.2.2.2.length ∧ (∀ p ∈ x.2.2.2, SL p.2 p.1.list.length)) (ps := fun x => [OMdl (.agg #[x.1, x.2.1, .int .i64 _]) _, Buf 3 x.2.2.1 (x.2.2.2.flatMap rstC), Own owRst x.2.2.2]) 0 rfl (fun h q => RepR.open q) (by repeat' constructor) ?_
          rintro ⟨sv8, iv8, u8, R8⟩ ⟨es8, er8, sa8, sb8, sc8, sd8⟩
          subst es8
          dsimp only [List.cons_append, List.nil_append] at er8 sa8 sb8 sc8 ⊢
          refine WL.mv rfl rfl (WL.extL rfl rfl rfl (WL.extL rfl rfl rfl ?_))
          refine WL.alF (T := Ty) rfl rfl (by repeat' constructor) (fun b9 => ?_)
          refine WL.stAO (T := Ty) (j := 0) rfl rfl rfl rfl (by repeat' first | exact AO.nil | apply AO.cons (by first | rfl | exact SL.one (by assumption))) rfl rfl (by repeat' constructor) (by repeat' constructor) ?_
          refine WL.as rfl rfl (WL.nil (W.seq (W.seq (W.region ?_))))
          refine WL.ldAF (T := Ty) (j := 4) rfl rfl rfl rfl rfl rfl (by repeat' constructor) ?_
          refine WL.ldAF (T := Ty) (j := 0) rfl rfl rfl rfl rfl rfl (by repeat' constructor) ?_
          refine WL.callV rfl rfl (fun x p d => rsame_e _ _ _ _ _ _ _ (by first | assumption | exact RMdl.wide (by assumption) | exact RMdl.mono (by assumption) (eqh_at 0 rfl p d) | exact RMdl.mono (In.rmdl (by assumption)) (eqh_at 0 rfl p d) | exact (in_at 0 rfl p d).rmdl | exact (in_at 1 rfl p d).rmdl | exact (in_at 2 rfl p d).rmdl | exact (in_at 3 rfl p d).rmdl | exact (in_at 4 rfl p d).rmdl | exact (in_at 5 rfl p d).rmdl | exact (in_at 6 rfl p d).rmdl | exact (in_at 7 rfl p d).rmdl | exact (in_at 8 rfl p d).rmdl | exact (in_at 9 rfl p d).rmdl | exact (in_at 10 rfl p d).rmdl | exact (in_at 11 rfl p d).rmdl | exact (in_at 12 rfl p d).rmdl | exact (in_at 13 rfl p d).rmdl | exact (in_at 14 rfl p d).rmdl | exact (in_at 15 rfl p d).rmdl | exact (in_at 16 rfl p d).rmdl | exact (in_at 17 rfl p d).rmdl | exact (in_at 18 rfl p d).rmdl | exact (in_at 19 rfl p d).rmdl | exact (in_at 20 rfl p d).rmdl | exact (in_at 21 rfl p d).rmdl | exact (in_at 22 rfl p d).rmdl | exact (in_at 23 rfl p d).rmdl | exact (in_at 24 rfl p d).rmdl | exact (in_at 25 rfl p d).rmdl | exact (in_at 26 rfl p d).rmdl | exact (in_at 27 rfl p d).rmdl | exact (in_at 28 rfl p d).rmdl | exact (in_at 29 rfl p d).rmdl) (by first | assumption | exact RMdl.wide (by assumption) | exact RMdl.mono (by assumption) (eqh_at 0 rfl p d) | exact RMdl.mono (In.rmdl (by assumption)) (eqh_at 0 rfl p d) | exact (in_at 0 rfl p d).rmdl | exact (in_at 1 rfl p d).rmdl | exact (in_at 2 rfl p d).rmdl | exact (in_at 3 rfl p d).rmdl | exact (in_at 4 rfl p d).rmdl | exact (in_at 5 rfl p d).rmdl | exact (in_at 6 rfl p d).rmdl | exact (in_at 7 rfl p d).rmdl | exact (in_at 8 rfl p d).rmdl | exact (in_at 9 rfl p d).rmdl | exact (in_at 10 rfl p d).rmdl | exact (in_at 11 rfl p d).rmdl | exact (in_at 12 rfl p d).rmdl | exact (in_at 13 rfl p d).rmdl | exact (in_at 14 rfl p d).rmdl | exact (in_at 15 rfl p d).rmdl | exact (in_at 16 rfl p d).rmdl | exact (in_at 17 rfl p d).rmdl | exact (in_at 18 rfl p d).rmdl | exact (in_at 19 rfl p d).rmdl | exact (in_at 20 rfl p d).rmdl | exact (in_at 21 rfl p d).rmdl | exact (in_at 22 rfl p d).rmdl | exact (in_at 23 rfl p d).rmdl | exact (in_at 24 rfl p d).rmdl | exact (in_at 25 rfl p d).rmdl | exact (in_at 26 rfl p d).rmdl | exact (in_at 27 rfl p d).rmdl | exact (in_at 28 rfl p d).rmdl | exact (in_at 29 rfl p d).rmdl) (by assumption) (by first | assumption | omega) (by assumption)) ?_
          refine WL.not rfl rfl (WL.mv rfl rfl (WL.gY rfl rfl (WL.mv rfl rfl (WL.gY rfl rfl ?_))))
          refine WL.len (T := Ty) rfl rfl (by assumption) rfl ?_
          refine WL.gY rfl rfl (WL.mv rfl rfl (WL.gY rfl rfl ?_))
          refine WL.len (T := Ty) rfl rfl (by assumption) rfl ?_
          refine WL.gY rfl rfl (WL.neq rfl rfl rfl (WL.pickF rfl rfl rfl (WL.mv rfl rfl ?_)))
          have hl6 : R6.length = oj.length := by have := congrArg List.length er6; rw [List.length_map, rpl_len _ _ _ (Nat.le_refl _)] at this; exact this
          have hl8 : R8.length = oj.length := by have := congrArg List.length er8; rw [List.length_map, rpl_len _ _ _ (Nat.le_refl _)] at this; exact this
          refine WL.gF rfl rfl (by omega) (WL.mv rfl rfl (WL.gF rfl rfl (by omega) (WL.mv rfl rfl (WL.gF rfl rfl (by omega) ?_))))
          refine WL.callV rfl rfl (fun x p d => check_e _ _ _ _ _ _ _ _ (by first | assumption | exact ROs.wide (by assumption) | exact ROs.mono (by assumption) (eqh_at 0 rfl p d) | exact ros_at 0 rfl p d | exact ros_at 1 rfl p d | exact ros_at 2 rfl p d | exact ros_at 3 rfl p d | exact ros_at 4 rfl p d) (by first | rfl | assumption) (by first | assumption | exact okL.wide (by assumption)) (by first | assumption | omega) (by first | assumption | exact ROs.wide (by assumption) | exact ROs.mono (by assumption) (eqh_at 0 rfl p d) | exact ros_at 0 rfl p d | exact ros_at 1 rfl p d | exact ros_at 2 rfl p d | exact ros_at 3 rfl p d | exact ros_at 4 rfl p d) (by first | rfl | assumption) (by first | assumption | omega) (by assumption)) ?_
          refine WL.gF rfl rfl (by omega) (WL.mv rfl rfl (WL.gF rfl rfl (by omega) (WL.mv rfl rfl (WL.gF rfl rfl (by omega) ?_))))
          refine WL.callV rfl rfl (fun x p d => rcheck_e _ _ _ _ _ _ (by first | assumption | exact ROs.wide (by assumption) | exact ROs.mono (by assumption) (eqh_at 0 rfl p d) | exact ros_at 0 rfl p d | exact ros_at 1 rfl p d | exact ros_at 2 rfl p d | exact ros_at 3 rfl p d | exact ros_at 4 rfl p d) (by first | assumption | exact okL.wide (by assumption)) (by first | assumption | omega) (by first | assumption | exact ROs.wide (by assumption) | exact ROs.mono (by assumption) (eqh_at 0 rfl p d) | exact ros_at 0 rfl p d | exact ros_at 1 rfl p d | exact ros_at 2 rfl p d | exact ros_at 3 rfl p d | exact ros_at 4 rfl p d) (by first | assumption | omega) (by assumption)) ?_
          refine WL.gF rfl rfl (by omega) (WL.neB (T := Ty) rfl rfl rfl rfl (WL.pickFp rfl rfl (by omega) rfl (WL.nil ?_)))
          refine W.condF (by rw [show (!(c == c)) = false by simp]; rfl) (W.skip ?_)
          refine W.fit (Hs' := [Buf 3 u6 _, Own owRst R6, Buf 3 u8 _, Own owRst R8]) (by (repeat' first | exact Sel.nil | apply Sel.k | exact Pick.h | apply Pick.t)) ?_
          refine W.freeze 0 rfl (by repeat' constructor) (fun ρa lea ina => ?_)
          refine W.freeze 0 rfl (by repeat' constructor) (fun ρb leb inb => ?_)
          refine W.freeze 0 rfl (by repeat' constructor) (fun ρc lec inc => ?_)
          refine W.freeze 0 rfl (by repeat' constructor) (fun ρd led ind => ?_)
          have rr6 := (((ina.mono leb).mono lec).mono led).ros
          have rR6 := own_rst ((inb.mono lec).mono led)
          have rr8 := (inc.mono led).ros
          have rR8 := own_rst ind
          have hlj := rpl_lenj L oj oj.length
          clear ina inb inc ind r2 r6 rj
          have m6 := rst_cells R6
          have m8 := rst_cells R8
          refine W.seq (W.region (WL.mv rfl rfl ?_))
          refine WL.len (T := Ty) rfl rfl (by assumption) rfl ?_
          refine WL.mv rfl rfl (WL.nil (W.block ?_))
          refine W.loopR (σ := Nat) (fun i => [(5, ve), (202, u5), (203, .int .i64 ((4 : Nat) : Int)), (204, .int .i64 (j : Int)), (21, u6), (23, u8), (241, .int .i64 (R6.length : Int)), (242, .int .i64 (i : Int))]) (fun s => []) (fun i ρ' => i ≤ oj.length) (fun i => oj.length - i)
            0 ⟨rfl, rfl, rfl, rfl, rfl, rfl, rfl, rfl, trivial⟩ rfl (Nat.zero_le _) ?_
          rintro i ρe lee hi next2
          replace rr6 := rr6.mono lee
          replace rr8 := rr8.mono lee
          by_cases hio : i < oj.length
          · obtain ⟨⟨x6, y6⟩, hx6⟩ : ∃ x, R6[i]? = some x := ⟨_, List.getElem?_eq_getElem (by omega)⟩
            obtain ⟨⟨x8, y8⟩, hx8⟩ : ∃ x, R8[i]? = some x := ⟨_, List.getElem?_eq_getElem (by omega)⟩
            have hxe : x6 = x8 := by
              have e1 : (R6.map Prod.fst)[i]? = some x6 := by rw [List.getElem?_map, hx6]; rfl
              have e2 : (R8.map Prod.fst)[i]? = some x8 := by rw [List.getElem?_map, hx8]; rfl
              rw [er6] at e1
              rw [er8, e1] at e2
              exact Option.some.inj e2
            subst hxe
            have hxl : x6.list.length ≤ 100000000 := Nat.le_trans (hlj x6 (by rw [← er6]; exact List.mem_map.2 ⟨_, List.mem_of_getElem? hx6, rfl⟩)) (by omega)
            have hrow6 : ((R6.flatMap rstC).drop (((i : Nat) : Int).toNat * 3)).take 3 = rstC (x6, y6) := flat_row (k := 3) (f := rstC) (fun _ => rfl) hx6
            have hrow8 : ((R8.flatMap rstC).drop (((i : Nat) : Int).toNat * 3)).take 3 = rstC (x6, y8) := flat_row (k := 3) (f := rstC) (fun _ => rfl) hx8
            unfold rstC at hrow6 hrow8
            dsimp only at hrow6 hrow8
            have z6 := rR6 _ (List.mem_of_getElem? hx6)
            have z8 := rR8 _ (List.mem_of_getElem? hx8)
            have hq6 : RRst ρe (.agg #[.int .i64 x6.err, .int .i64 x6.iter, y6]) x6 := ⟨y6, rfl, z6.mono lee⟩
            have hq8 : RRst ρe (.agg #[.int .i64 x6.err, .int .i64 x6.iter, y8]) x6 := ⟨y8, rfl, z8.mono lee⟩
            have sy6 : SL y6 x6.list.length := z6.sl (flat_len sm_len _) (by omega)
            have sy8 : SL y8 x6.list.length := z8.sl (flat_len sm_len _) (by omega)
            have hsr := sameRst_refl x6
            refine W.seq (W.region (WL.lss rfl rfl rfl (WL.nil (W.seq (W.condpT rfl (by omega) (W.skip (W.seq (W.block (W.seq (W.region (WL.mv rfl rfl (WL.as rfl rfl (WL.nil ?_)))))))))))))
            refine W.seq ?_
            refine W.drawA 10 rfl (fun σ0 hσ0 dσ0 => ?_)
            refine WD.takeL 0 rfl (by decide +kernel) (WL.mv rfl rfl (WL.nilT (WD.takeL 1 rfl (by decide +kernel) (WL.mv rfl rfl (WL.nilT (WD.takeL 2 rfl (by decide +kernel) ?_))))))
            refine WL.ix (T := Ty) rfl rfl rfl (by assumption) rfl rfl (by omega) (by first | omega | decide +kernel) ?_
            refine WL.nilT (WD.takeL 3 rfl (by decide +kernel) ?_)
            refine WL.ldAR (T := Ty) rfl rfl rfl rfl (by first | assumption | exact ROs.wide (by assumption)) (by assumption) rfl ?_
            refine WL.nilT (WD.takeL 4 rfl (by decide +kernel) (WL.mv rfl rfl (WL.nilT (WD.takeL 5 rfl (by decide +kernel) (WL.mv rfl rfl (WL.nilT (WD.takeL 6 rfl (by decide +kernel) ?_)))))))
            refine WL.ix (T := Ty) rfl rfl rfl (by assumption) rfl rfl (by omega) (by first | omega | decide +kernel) ?_
            refine WL.nilT (WD.takeL 7 rfl (by decide +kernel) ?_)
            refine WL.ldAR (T := Ty) rfl rfl rfl rfl (by first | assumption | exact ROs.wide (by assumption)) (by assumption) rfl ?_
            refine WL.nilT (WD.oneL 8 rfl (by decide +kernel) ?_)
            refine WL.callV rfl rfl (fun x p d => rsameR_e _ _ _ _ _ _ (by first | assumption | exact RRst.wide (by assumption) | exact RRst.mono (by assumption) (eqh_at 0 rfl p d) | exact RRst.mono (In.rrst (by assumption)) (eqh_at 0 rfl p d) | exact (in_at 0 rfl p d).rrst | exact (in_at 1 rfl p d).rrst | exact (in_at 2 rfl p d).rrst | exact (in_at 3 rfl p d).rrst | exact (in_at 4 rfl p d).rrst | exact (in_at 5 rfl p d).rrst | exact (in_at 6 rfl p d).rrst | exact (in_at 7 rfl p d).rrst | exact (in_at 8 rfl p d).rrst | exact (in_at 9 rfl p d).rrst | exact (in_at 10 rfl p d).rrst | exact (in_at 11 rfl p d).rrst | exact (in_at 12 rfl p d).rrst | exact (in_at 13 rfl p d).rrst | exact (in_at 14 rfl p d).rrst | exact (in_at 15 rfl p d).rrst | exact (in_at 16 rfl p d).rrst | exact (in_at 17 rfl p d).rrst | exact (in_at 18 rfl p d).rrst | exact (in_at 19 rfl p d).rrst | exact (in_at 20 rfl p d).rrst | exact (in_at 21 rfl p d).rrst | exact (in_at 22 rfl p d).rrst | exact (in_at 23 rfl p d).rrst | exact (in_at 24 rfl p d).rrst | exact (in_at 25 rfl p d).rrst | exact (in_at 26 rfl p d).rrst | exact (in_at 27 rfl p d).rrst | exact (in_at 28 rfl p d).rrst | exact (in_at 29 rfl p d).rrst) (by first | assumption | exact RRst.wide (by assumption) | exact RRst.mono (by assumption) (eqh_at 0 rfl p d) | exact RRst.mono (In.rrst (by assumption)) (eqh_at 0 rfl p d) | exact (in_at 0 rfl p d).rrst | exact (in_at 1 rfl p d).rrst | exact (in_at 2 rfl p d).rrst | exact (in_at 3 rfl p d).rrst | exact (in_at 4 rfl p d).rrst | exact (in_at 5 rfl p d).rrst | exact (in_at 6 rfl p d).rrst | exact (in_at 7 rfl p d).rrst | exact (in_at 8 rfl p d).rrst | exact (in_at 9 rfl p d).rrst | exact (in_at 10 rfl p d).rrst | exact (in_at 11 rfl p d).rrst | exact (in_at 12 rfl p d).rrst | exact (in_at 13 rfl p d).rrst | exact (in_at 14 rfl p d).rrst | exact (in_at 15 rfl p d).rrst | exact (in_at 16 rfl p d).rrst | exact (in_at 17 rfl p d).rrst | exact (in_at 18 rfl p d).rrst | exact (in_at 19 rfl p d).rrst | exact (in_at 20 rfl p d).rrst | exact (in_at 21 rfl p d).rrst | exact (in_at 22 rfl p d).rrst | exact (in_at 23 rfl p d).rrst | exact (in_at 24 rfl p d).rrst | exact (in_at 25 rfl p d).rrst | exact (in_at 26 rfl p d).rrst | exact (in_at 27 rfl p d).rrst | exact (in_at 28 rfl p d).rrst | exact (in_at 29 rfl p d).rrst) (by first | assumption | omega | decide) (by assumption)) ?_
            refine WL.nilE (WD.takeL 9 rfl (by decide +kernel) (WL.not rfl rfl (WL.nilT ?_)))
            refine WD.doneF hσ0 (by decide +kernel) (by repeat' constructor) ?_
            refine W.condF rfl (W.skip (W.inBlock (W.region (WL.addK rfl rfl rfl (wrap_i64 ⟨by omega, by omega⟩) (WL.mv rfl rfl (WL.nil ?_))))))
            refine W.fit (Hs' := []) (by (repeat' first | exact Sel.nil | apply Sel.k | exact Pick.h | apply Pick.t)) ?_
            refine W.sub ?_ (next2 (i + 1) ρe (Le.refl _) hio (by omega))
            exact ⟨rfl, rfl, rfl, rfl, rfl, rfl, rfl, rfl, trivial⟩
          · have hi0 : i = oj.length := by omega
            subst hi0
            refine W.seq (W.region (WL.lss rfl rfl rfl (WL.nil (W.seq (W.condpF rfl (by omega) (W.exit rfl (W.inBlock (W.region (WL.addK rfl rfl rfl (wrap_i64 ⟨by omega, by omega⟩) (WL.mv rfl rfl (WL.nil ?_)))))))))))
            refine W.fit (Hs' := []) (by (repeat' first | exact Sel.nil | apply Sel.k | exact Pick.h | apply Pick.t)) (W.sub ?_ (next (j + 1) ρe (fun b o h => lee b o (led b o (lec b o (leb b o (lea b o h))))) hj4 (by omega)))
            exact ⟨rfl, rfl, rfl, rfl, trivial⟩
        · have hj0 : j = 4 := by omega
          subst hj0
          refine W.seq (W.region (WL.lss rfl rfl rfl (WL.nil (W.seq (W.condF rfl (W.exit rfl (W.seq (W.region ?_))))))))
          refine WL.callV rfl rfl (fun x p d => awake25_c _) ?_
          refine WL.as rfl rfl (WL.nil ?_)
          exact W.fit (Hs' := []) (by (repeat' first | exact Sel.nil | apply Sel.k | exact Pick.h | apply Pick.t)) (W.ret1 rfl rfl (fun h q => rfl))
      · have hu3' : SL u3 o.length := by simpa using hu3
        by_cases h1 : 1 < o.length
        · by_cases h2 : 0 < z1.length
          · obtain ⟨k, hk⟩ : ∃ k : Nat, z1.getD 0 0 % (255 + 1) % ((o.length : Int) - 1) = (k : Int) := ⟨(z1.getD 0 0 % (255 + 1) % ((o.length : Int) - 1)).toNat, (Int.toNat_of_nonneg (Int.emod_nonneg _ (by omega))).symm⟩
            have hkn : k + 1 < o.length := by have := Int.emod_lt_of_pos (z1.getD 0 0 % (255 + 1)) (show (0 : Int) < (o.length : Int) - 1 by omega); omega
            obtain ⟨p, hp⟩ : ∃ p, o[k]? = some p := ⟨_, List.getElem?_eq_getElem (by omega)⟩
            obtain ⟨q, hq⟩ : ∃ p, o[k + 1]? = some p := ⟨_, List.getElem?_eq_getElem (by omega)⟩
            have hrow0 : ((o.flatMap (twoC .i64 .i64)).drop (((k : Nat) : Int).toNat * 2)).take 2 = twoC .i64 .i64 p := flat_row (k := 2) (fun _ => rfl) hp
            have hrow1 : ((o.flatMap (twoC .i64 .i64)).drop ((((k : Nat) : Int) + 1).toNat * 2)).take 2 = twoC .i64 .i64 q := by
              rw [show (((k : Nat) : Int) + 1).toNat = k + 1 by omega]
              exact flat_row (k := 2) (fun _ => rfl) hq
            unfold twoC at hrow0 hrow1
            have hu3h := PLift.up hu3'
            clear hu3' hu3
            refine W.seq (W.region (WL.mv rfl rfl ?_))
            refine WL.len (T := Ty) rfl rfl (by assumption) rfl ?_
            refine WL.gtr rfl rfl rfl (WL.mv rfl rfl (WL.gT rfl rfl (by omega) (WL.mv rfl rfl (WL.gT rfl rfl (by omega) ?_))))
            refine WL.len (T := Ty) rfl rfl (by assumption) rfl ?_
            refine WL.gT rfl rfl (by omega) (WL.gtr rfl rfl rfl (WL.pickTp rfl rfl (by omega) rfl (WL.nil (W.condpT rfl (by omega) (W.seq (W.region (WL.mv rfl rfl ?_)))))))
            refine WL.ix (T := Ty) rfl rfl rfl (by assumption) rfl rfl (by omega) (by first | omega | decide +kernel) ?_
            refine WL.ldRz (T := Ty) rfl rfl rfl rfl (by first | assumption | exact ROs.wide (by assumption)) (by first | omega | decide +kernel) ?_
            refine WL.andI rfl rfl rfl (by decide) (WL.mv rfl rfl ?_)
            refine WL.len (T := Ty) rfl rfl (by assumption) rfl ?_
            refine WL.subK rfl rfl rfl (wrap_i64 ⟨by omega, by omega⟩) (WL.remI rfl rfl rfl (by omega) (by omega) (WL.as rfl rfl (WL.nil ?_)))
            refine W.drawP 16 [true] rfl (by repeat' constructor) (by repeat' constructor) (fun σ0 hσ0 dσ0 => ?_)
            refine WD.takeL 0 rfl (by decide +kernel) (WL.mv rfl rfl (WL.nilT (WD.takeL 1 rfl (by decide +kernel) (WL.mv rfl rfl (WL.nilT (WD.takeL 2 rfl (by decide +kernel) (WL.mv rfl rfl (WL.nilT (WD.takeL 3 rfl (by decide +kernel) (WL.mv rfl rfl (WL.nilT (WD.takeL 4 rfl (by decide +kernel) (WL.add (K := .i64) rfl rfl rfl ?_)))))))))))))
            refine WL.nilT (WD.takeL 5 rfl (by decide +kernel) (WL.mv rfl rfl (WL.nilT (WD.takeL 6 rfl (by decide +kernel) (WL.mv rfl rfl (WL.nilT (WD.takeL 7 rfl (by decide +kernel) (WL.add (K := .i64) rfl rfl rfl (WL.nilT (WD.takeL 8 rfl (by decide +kernel) ?_))))))))))
            rw [hk, wrap_i64 (n := (k : Int) + 1) ⟨by omega, by omega⟩]
            have hu3' := hu3h.down
            clear hu3h
            refine WL.ix (T := Ty) rfl rfl rfl (by assumption) rfl rfl (by omega) (by first | omega | decide +kernel) ?_
            refine WL.nilT (WD.takeL 10 rfl (by decide +kernel) (WL.mv rfl rfl (WL.nilT (WD.takeL 11 rfl (by decide +kernel) (WL.mv rfl rfl (WL.nilT (WD.takeL 12 rfl (by decide +kernel) ?_)))))))
            refine WL.ix (T := Ty) rfl rfl rfl (by assumption) rfl rfl (by omega) (by first | omega | decide +kernel) ?_
            refine WL.nilT ?_
            have hC1 : ((o.flatMap (twoC .i64 .i64)).take (((k : Nat) : Int).toNat * 2) ++ [Value.int .i64 q.1, Value.int .i64 q.2] ++ (o.flatMap (twoC .i64 .i64)).drop (((k : Nat) : Int).toNat * 2 + ([Value.int .i64 q.1, Value.int .i64 q.2] : List Value).length)) = (o.set k q).flatMap (twoC .i64 .i64) := flat_put (f := twoC .i64 .i64) (k := 2) (b := q) (i := k) (fun _ => rfl) (by omega)
            have hls : (o.set k q).length = o.length := List.length_set
            have hle : (((k : Nat) : Int) + 1).toNat * 2 + ([Value.int .i64 p.1, Value.int .i64 p.2] : List Value).length ≤ ((o.flatMap (twoC .i64 .i64)).take (((k : Nat) : Int).toNat * 2) ++ [Value.int .i64 q.1, Value.int .i64 q.2] ++ (o.flatMap (twoC .i64 .i64)).drop (((k : Nat) : Int).toNat * 2 + ([Value.int .i64 q.1, Value.int .i64 q.2] : List Value).length)).length := by
              rw [hC1, two_len, hls]
              simp only [List.length_cons, List.length_nil]
              omega
            have hC2 : ((o.set k q).flatMap (twoC .i64 .i64)).take ((((k : Nat) : Int) + 1).toNat * 2) ++ [Value.int .i64 p.1, Value.int .i64 p.2] ++ ((o.set k q).flatMap (twoC .i64 .i64)).drop ((((k : Nat) : Int) + 1).toNat * 2 + ([Value.int .i64 p.1, Value.int .i64 p.2] : List Value).length) = ((o.set k q).set (k + 1) p).flatMap (twoC .i64 .i64) := by
              rw [show (((k : Nat) : Int) + 1).toNat = k + 1 by omega]
              exact flat_put (f := twoC .i64 .i64) (k := 2) (b := p) (i := k + 1) (fun _ => rfl) (by omega)
            refine WD.twoL 9 13 rfl rfl (by decide +kernel) ?_ ?_
            · refine WL.ldAE (T := Ty) (j := 1) rfl rfl rfl rfl rfl (by assumption) rfl ?_
              refine WL.nilE (WD.oneL 13 rfl (by decide +kernel) ?_)
              refine WL.ldAE (T := Ty) (j := 1) rfl rfl rfl rfl rfl (by assumption) rfl ?_
              refine WL.nilE (WD.takeL 14 rfl (by decide +kernel) ?_)
              refine WL.ix (T := Ty) rfl rfl rfl (by assumption) rfl rfl (by omega) (by first | omega | decide +kernel) ?_
              refine WL.nilT (WD.oneL 15 rfl (by decide +kernel) ?_)
              refine WL.stAE (T := Ty) (j := 1) rfl rfl rfl rfl (AO.all (by repeat' first | exact AO.nil | apply AO.cons (by first | rfl | exact SL.one (by assumption)))) rfl (by first | assumption | omega | (simp only [List.length_cons, List.length_nil]; omega)) (Nat.zero_lt_succ _) (by repeat' constructor) ?_
              refine WL.nilE ?_
              refine WD.lastG hσ0 (by decide +kernel) (by repeat' constructor) rfl (by repeat' constructor) ?_
              refine WL.ix (T := Ty) rfl rfl rfl (by assumption) rfl rfl (by omega) (by first | omega | decide +kernel) ?_
              refine WL.stAE (T := Ty) (j := 0) rfl rfl rfl rfl (AO.all (by repeat' first | exact AO.nil | apply AO.cons (by first | rfl | exact SL.one (by assumption)))) rfl (by first | assumption | omega | (simp only [List.length_cons, List.length_nil]; omega)) (Nat.zero_lt_succ _) (by repeat' constructor) ?_
              refine WL.nil ?_
              rw [hC1, hC2]
              refine W.fit (by (repeat' first | exact Sel.nil | apply Sel.k | exact Pick.h | apply Pick.t)) (W.sub ?_ (cut2 ⟨(o.set k q).set (k + 1) p, u3⟩ ρ5 (Le.refl _) ⟨by dsimp only; rw [List.length_set, List.length_set]; exact ho, by dsimp only; rw [List.length_set, List.length_set]; exact hu3'⟩))
              exact ⟨rfl, rfl, rfl, rfl, trivial⟩
            · refine WL.ldAE (T := Ty) (j := 1) rfl rfl rfl rfl rfl (by assumption) rfl ?_
              refine WL.nilE (WD.oneL 9 rfl (by decide +kernel) ?_)
              refine WL.ldAE (T := Ty) (j := 1) rfl rfl rfl rfl rfl (by assumption) rfl ?_
              refine WL.nilE (WD.takeL 14 rfl (by decide +kernel) ?_)
              refine WL.ix (T := Ty) rfl rfl rfl (by assumption) rfl rfl (by omega) (by first | omega | decide +kernel) ?_
              refine WL.nilT (WD.oneL 15 rfl (by decide +kernel) ?_)
              refine WL.stAE (T := Ty) (j := 1) rfl rfl rfl rfl (AO.all (by repeat' first | exact AO.nil | apply AO.cons (by first | rfl | exact SL.one (by assumption)))) rfl (by first | assumption | omega | (simp only [List.length_cons, List.length_nil]; omega)) (Nat.zero_lt_succ _) (by repeat' constructor) ?_
              refine WL.nilE ?_
              refine WD.lastG hσ0 (by decide +kernel) (by repeat' constructor) rfl (by repeat' constructor) ?_
              refine WL.ix (T := Ty) rfl rfl rfl (by assumption) rfl rfl (by omega) (by first | omega | decide +kernel) ?_
              refine WL.stAE (T := Ty) (j := 0) rfl rfl rfl rfl (AO.all (by repeat' first | exact AO.nil | apply AO.cons (by first | rfl | exact SL.one (by assumption)))) rfl (by first | assumption | omega | (simp only [List.length_cons, List.length_nil]; omega)) (Nat.zero_lt_succ _) (by repeat' constructor) ?_
              refine WL.nil ?_
              rw [hC1, hC2]
              refine W.fit (by (repeat' first | exact Sel.nil | apply Sel.k | exact Pick.h | apply Pick.t)) (W.sub ?_ (cut2 ⟨(o.set k q).set (k + 1) p, u3⟩ ρ5 (Le.refl _) ⟨by dsimp only; rw [List.length_set, List.length_set]; exact ho, by dsimp only; rw [List.length_set, List.length_set]; exact hu3'⟩))
              exact ⟨rfl, rfl, rfl, rfl, trivial⟩
          · refine W.seq ?_
            refine W.region (WL.mv rfl rfl ?_)
            refine WL.len (T := Ty) rfl rfl (by assumption) rfl ?_
            refine WL.gtr rfl rfl rfl (WL.mv rfl rfl (WL.gT rfl rfl (by omega) (WL.mv rfl rfl (WL.gT rfl rfl (by omega) ?_))))
            refine WL.len (T := Ty) rfl rfl (by assumption) rfl ?_
            refine WL.gT rfl rfl (by omega) (WL.gtr rfl rfl rfl (WL.pickTp rfl rfl (by omega) rfl (WL.nil ?_)))
            refine W.condpF rfl (by omega) (W.skip ?_)
            refine W.fit (by (repeat' first | exact Sel.nil | apply Sel.k | exact Pick.h | apply Pick.t)) (W.sub ?_ (cut2 ⟨o, u3⟩ ρ5 (Le.refl _) ⟨ho, hu3'⟩))
            exact ⟨rfl, rfl, rfl, rfl, trivial⟩
        · refine W.seq ?_
          refine W.region (WL.mv rfl rfl ?_)
          refine WL.len (T := Ty) rfl rfl (by assumption) rfl ?_
          refine WL.gtr rfl rfl rfl (WL.mv rfl rfl (WL.gdTn rfl rfl rfl rfl rfl (by omega) (WL.gdTn rfl rfl rfl rfl rfl (by omega) (WL.gdTn rfl rfl rfl rfl rfl (by omega) (WL.pickFp rfl rfl (by omega) rfl (WL.nil ?_))))))
          refine W.condF rfl (W.skip ?_)
          refine W.fit (by (repeat' first | exact Sel.nil | apply Sel.k | exact Pick.h | apply Pick.t)) (W.sub ?_ (cut2 ⟨o, u3⟩ ρ5 (Le.refl _) ⟨ho, hu3'⟩))
          exact ⟨rfl, rfl, rfl, rfl, trivial⟩
    · refine W.loopR (σ := Nat × List PK × Value) (fun s => [(1, v1), (5, ve), (6, vo), (14, s.2.2), (15, .int .i64 (s.1 : Int))]) (fun s => [Buf 2 s.2.2 (s.2.1.flatMap (twoC .i64 .i64))]) (fun s ρ' => s.1 ≤ 20 ∧ s.1 ≤ z1.length ∧ s.2.1.length = s.1 ∧ SL s.2.2 s.2.1.length) (fun s => 20 - s.1)
        (0, [], nilV) ⟨rfl, rfl, rfl, rfl, rfl, trivial⟩ rfl ⟨Nat.zero_le _, Nat.zero_le _, rfl, slZ⟩ ?_
      rintro ⟨i, oo, vt⟩ ρ4 le4 ⟨hi, hiz, hoo, t3⟩ next
      dsimp only at hi hiz hoo t3 next ⊢
      replace r1 := r1.mono le4
      have l3 := two_len (k0 := .i64) (k1 := .i64) oo
      by_cases hc1 : i < z1.length
      · obtain ⟨x, hx⟩ : ∃ x, z1[i]? = some x := ⟨_, List.getElem?_eq_getElem hc1⟩
        have hx1 : (z1.map (Value.int .i64))[i]? = some (.int .i64 x) := by rw [List.getElem?_map, hx]; rfl
        by_cases hc2 : i < 20
        · have hf2 : oo.flatMap (twoC .i64 .i64) ++ [.int .i64 (x % (3 + 1)), .int .i64 (x / 4 % (3 + 1))] = (oo ++ [(x % (3 + 1), x / 4 % (3 + 1))]).flatMap (twoC .i64 .i64) := by rw [List.flatMap_append]; rfl
          refine W.seq (W.seq (W.region (WL.mv rfl rfl (WL.mv rfl rfl ?_))))
          refine WL.len (T := Ty) rfl rfl (by assumption) rfl ?_
          refine WL.lss rfl rfl rfl (WL.mv rfl rfl (WL.gT rfl rfl (by omega) (WL.mv rfl rfl (WL.gT rfl rfl (by omega) (WL.lss rfl rfl rfl (WL.pickTp rfl rfl (by omega) rfl (WL.nil (W.condpT rfl (by omega) (W.skip (W.seq (W.block ?_)))))))))))
          refine W.drawP 15 [true] rfl (by repeat' constructor) (by repeat' constructor) (fun σ0 hσ0 dσ0 => ?_)
          refine WD.takeL 0 rfl (by decide +kernel) (WL.mv rfl rfl (WL.nilT (WD.takeL 1 rfl (by decide +kernel) (WL.mv rfl rfl (WL.nilT (WD.takeL 2 rfl (by decide +kernel) (WL.mv rfl rfl (WL.nilT (WD.takeL 3 rfl (by decide +kernel) ?_)))))))))
          refine WL.ix (T := Ty) rfl rfl rfl (by assumption) rfl rfl (by omega) (by first | omega | decide +kernel) ?_
          refine WL.nilT (WD.takeL 4 rfl (by decide +kernel) ?_)
          refine WL.ldKn (T := Ty) rfl rfl rfl rfl (by first | assumption | exact ROs.wide (by assumption)) (by assumption) ?_
          refine WL.nilT (WD.takeL 5 rfl (by decide +kernel) (WL.andI rfl rfl rfl (by decide) (WL.nilT (WD.takeL 6 rfl (by decide +kernel) (WL.mv rfl rfl (WL.nilT (WD.takeL 7 rfl (by decide +kernel) (WL.mv rfl rfl (WL.nilT (WD.takeL 8 rfl (by decide +kernel) ?_))))))))))
          refine WL.ix (T := Ty) rfl rfl rfl (by assumption) rfl rfl (by omega) (by first | omega | decide +kernel) ?_
          refine WL.nilT (WD.takeL 9 rfl (by decide +kernel) ?_)
          refine WL.ldKn (T := Ty) rfl rfl rfl rfl (by first | assumption | exact ROs.wide (by assumption)) (by assumption) ?_
          refine WL.nilT (WD.takeL 10 rfl (by decide +kernel) (WL.shrS (c := 4) rfl rfl rfl (by omega) (by decide) (WL.nilT (WD.takeL 11 rfl (by decide +kernel) (WL.andI rfl rfl rfl (by decide) (WL.nilT (WD.takeL 12 rfl (by decide +kernel) ?_)))))))
          refine WL.bdC (T := Ty) rfl rfl rfl rfl (by repeat' first | exact CO.nil | apply CO.one (by first | rfl | exact SL.one (by assumption)) | apply CO.agg) rfl (by repeat' constructor) ?_
          refine WL.nilT (WD.oneL 13 rfl (by decide +kernel) ?_)
          refine WL.bsC (T := Ty) rfl rfl rfl rfl rfl rfl rfl (by repeat' first | exact CO.nil | apply CO.one (by first | rfl | exact SL.one (by assumption)) | apply CO.agg) rfl (by repeat' constructor) (fun u2 hu2 => ?_)
          refine WL.nilH hσ0 (fun σ1 hσ1 dσ1 mσ1 => ?_)
          have fσ1_0 := ros_at 0 rfl hσ1 dσ1
          refine WD.oneL 14 rfl (by decide +kernel) ?_
          refine WL.ap (T := Ty) (i := 1) (m := 1) rfl rfl rfl rfl rfl rfl rfl rfl (by first | exact .ro (by assumption) | exact .ro (ROs.wide (by assumption)) | exact .eqJ 0 rfl (by assumption) | exact .own 0 rfl | exact .own 1 rfl | exact .own 2 rfl | exact .own 3 rfl | exact .own 4 rfl | exact .own 5 rfl) (by first | assumption | exact ROs.slm (by assumption)) (by assumption) (by rfl) (AO.all (by repeat' first | exact AO.nil | apply AO.cons (by first | rfl | exact SL.one (by assumption)))) (by first | omega | (simp; omega) | (simp only [List.length_drop, List.length_take]; omega)) (by unfold maxLen; first | omega | (simp only [List.length_drop, List.length_take]; omega)) (fun v' => (by repeat' constructor)) (fun u3 hu3 => ?_)
          refine WL.nilE ?_
          refine WD.lastG hσ1 (by decide +kernel) (by repeat' constructor) rfl (by repeat' constructor) ?_
          refine WL.as rfl rfl (WL.nil (W.inBlock (W.region (WL.mv rfl rfl (WL.addK rfl rfl rfl (wrap_i64 ⟨by omega, by omega⟩) (WL.as rfl rfl (WL.nil ?_)))))))
          rw [hf2]
          refine W.fit (Hs' := [Buf 2 _ (List.flatMap (twoC .i64 .i64) _)]) (by (repeat' first | exact Sel.nil | apply Sel.k | exact Pick.h | apply Pick.t)) ?_
          refine W.sub ?_ (next ⟨i + 1, _, _⟩ ρ4 (Le.refl _) ⟨by dsimp only; omega, by dsimp only; omega, by dsimp only; rw [List.length_append, hoo]; rfl, by dsimp only; rw [List.length_append]; assumption⟩ (by dsimp only; omega))
          exact ⟨rfl, rfl, rfl, rfl, rfl, trivial⟩
        · refine W.seq ?_
          refine W.seq (W.region (WL.mv rfl rfl (WL.mv rfl rfl ?_)))
          refine WL.len (T := Ty) rfl rfl (by assumption) rfl ?_
          refine WL.lss rfl rfl rfl (WL.mv rfl rfl (WL.gT rfl rfl (by omega) (WL.mv rfl rfl (WL.gT rfl rfl (by omega) (WL.lss rfl rfl rfl (WL.pickTp rfl rfl (by omega) rfl (WL.nil (W.condpF rfl (by omega) (W.exit rfl ?_)))))))))
          refine W.fit (by (repeat' first | exact Sel.nil | apply Sel.k | exact Pick.h | apply Pick.t)) (W.sub ?_ (cut1 ⟨oo, vt⟩ ρ4 le4 ⟨by dsimp only; omega, t3⟩))
          exact ⟨rfl, rfl, rfl, rfl, trivial⟩
      · refine W.seq ?_
        refine W.seq (W.region (WL.mv rfl rfl (WL.mv rfl rfl ?_)))
        refine WL.len (T := Ty) rfl rfl (by assumption) rfl ?_
        refine WL.lss rfl rfl rfl (WL.mv rfl rfl (WL.gdTn rfl rfl rfl rfl rfl (by omega) (WL.gdTn rfl rfl rfl rfl rfl (by omega) (WL.pickFp rfl rfl (by omega) rfl (WL.nil (W.condF rfl (W.exit rfl ?_)))))))
        refine W.fit (by (repeat' first | exact Sel.nil | apply Sel.k | exact Pick.h | apply Pick.t)) (W.sub ?_ (cut1 ⟨oo, vt⟩ ρ4 le4 ⟨by dsimp only; omega, t3⟩))
        exact ⟨rfl, rfl, rfl, rfl, trivial⟩
  · refine W.loopR (σ := Nat × List (Evt × Value) × List PK × Value × Value × List Int × List Int) (fun s => [(0, v0), (1, v1), (5, s.2.2.2.1), (6, s.2.2.2.2.1), (7, pt b0 0), (8, pt b1 0), (9, .int .i64 (s.1 : Int))])
      (fun s => [Buf 14 s.2.2.2.1 (s.2.1.flatMap evC), Buf 2 s.2.2.2.2.1 (s.2.2.1.flatMap (twoC .i64 .i64)), box b1 (s.2.2.2.2.2.2.map (Value.int .i64)) 67, box b0 (s.2.2.2.2.2.1.map (Value.int .i64)) 67]) (fun s ρ' => s.1 ≤ 40 ∧ s.1 ≤ z0.length ∧ s.2.1.length ≤ s.1 ∧ s.2.2.1.length ≤ s.1 ∧ okL ρ' s.2.1 ∧ SL s.2.2.2.1 s.2.1.length ∧ SL s.2.2.2.2.1 s.2.2.1.length ∧ s.2.2.2.2.2.1.length = 4 ∧ s.2.2.2.2.2.2.length = 4 ∧ (∀ x ∈ s.2.2.2.2.2.1, 0 ≤ x ∧ x ≤ s.1) ∧ (∀ x ∈ s.2.2.2.2.2.2, 0 ≤ x ∧ x ≤ s.1)) (fun s => 40 - s.1)
      (0, [], [], nilV, nilV, [0, 0, 0, 0], [0, 0, 0, 0]) ⟨rfl, rfl, rfl, rfl, rfl, rfl, rfl, trivial⟩ rfl ⟨Nat.zero_le _, Nat.zero_le _, Nat.zero_le _, Nat.zero_le _, okL.nil, slZ, slZ, rfl, rfl, by decide, by decide⟩ ?_
    rintro ⟨i, L, o, ve, vo, na, da⟩ ρ1 le1 ⟨hi, hiz, hL, ho, hok, t1, t2, hna, hda, bna, bda⟩ next
    dsimp only at hi hiz hL ho hok t1 t2 hna hda bna bda next ⊢
    replace r0 := r0.mono le1
    have l1 := evs_cells L
    have l2 := two_len (k0 := .i64) (k1 := .i64) o
    by_cases hc1 : i < z0.length
    · obtain ⟨x, hx⟩ : ∃ x, z0[i]? = some x := ⟨_, List.getElem?_eq_getElem hc1⟩
      have hx1 : (z0.map (Value.int .i64))[i]? = some (.int .i64 x) := by rw [List.getElem?_map, hx]; rfl
      by_cases hc2 : i < 40
      · refine W.seq ?_
        refine W.seq (W.region (WL.mv rfl rfl (WL.mv rfl rfl ?_)))
        refine WL.len (T := Ty) rfl rfl (by assumption) rfl ?_
        refine WL.lss rfl rfl rfl (WL.mv rfl rfl (WL.gT rfl rfl (by omega) (WL.mv rfl rfl (WL.gT rfl rfl (by omega) (WL.lss rfl rfl rfl (WL.pickTp rfl rfl (by omega) rfl (WL.nil (W.condpT rfl (by omega) (W.skip (W.seq (W.block (W.seq (W.region ?_)))))))))))))
        refine WL.mv rfl rfl (WL.mv rfl rfl ?_)
        refine WL.ix (T := Ty) rfl rfl rfl (by assumption) rfl rfl (by omega) (by first | omega | decide +kernel) ?_
        refine WL.ldKn (T := Ty) rfl rfl rfl rfl (by first | assumption | exact ROs.wide (by assumption)) (by assumption) ?_
        refine WL.shrS (c := 67108864) rfl rfl rfl (by omega) (by decide) (WL.andI rfl rfl rfl (by decide) (WL.as rfl rfl (WL.nil (W.seq ?_))))
        obtain ⟨w, hw⟩ : ∃ w : Nat, x / 67108864 % (3 + 1) = (w : Int) := ⟨(x / 67108864 % (3 + 1)).toNat, by omega⟩
        have hw4 : w < 4 := by omega
        rw [hw]
        obtain ⟨nv, hnv⟩ : ∃ v, na[w]? = some v := ⟨_, List.getElem?_eq_getElem (by omega)⟩
        obtain ⟨dv, hdv⟩ : ∃ v, da[w]? = some v := ⟨_, List.getElem?_eq_getElem (by omega)⟩
        have gn : (na.map (Value.int .i64))[0 + ((w : Nat) : Int).toNat * 1]? = some (.int .i64 nv) := by rw [show 0 + ((w : Nat) : Int).toNat * 1 = w by omega, List.getElem?_map, hnv]; rfl
        have gd : (da.map (Value.int .i64))[0 + ((w : Nat) : Int).toNat * 1]? = some (.int .i64 dv) := by rw [show 0 + ((w : Nat) : Int).toNat * 1 = w by omega, List.getElem?_map, hdv]; rfl
        have bn := bna nv (List.mem_of_getElem? hnv)
        have bd := bda dv (List.mem_of_getElem? hdv)
        refine W.cutG (τ := Bool) (fun s => [(0, v0), (1, v1), (5, ve), (6, vo), (7, pt b0 0), (8, pt b1 0), (9, .int .i64 (i : Int)), (10, .int .i64 (w : Int)), (57, .bool s)])
          (fun s => [Buf 14 ve (L.flatMap evC), Buf 2 vo (o.flatMap (twoC .i64 .i64)), box b1 (da.map (Value.int .i64)) 67, box b0 (na.map (Value.int .i64)) 67]) (fun s ρ' => ρ' = ρ1) ?_ (fun cut => ?_)
        · rintro c _ - rfl
          cases c with
          | true =>
            have hf1 : L.flatMap evC ++ [.int .i64 1, .int .i64 (w : Int), .int .i64 nv, .int .i64 (f x ((i : Int) / 2)).kind, .int .i64 (f x ((i : Int) / 2)).series, .int .i64 (f x ((i : Int) / 2)).iter, .int .i64 (f x ((i : Int) / 2)).t, .int .u64 (f x ((i : Int) / 2)).v, .int .i64 (f x ((i : Int) / 2)).lo, .int .i64 (f x ((i : Int) / 2)).hi, .int .i64 (f x ((i : Int) / 2)).n, .int .i64 0, .int .i64 0, .slice none 0 0] = (L ++ [((⟨1, (w : Int), nv, f x ((i : Int) / 2), ⟨0, 0, []⟩⟩ : Evt), (.slice none 0 0 : Value))]).flatMap evC := by rw [List.flatMap_append]; rfl
            have hst : (na.map (Value.int .i64)).set (0 + ((w : Nat) : Int).toNat * 1) (.int .i64 (nv + 1)) = (na.set w (nv + 1)).map (Value.int .i64) := by rw [show 0 + ((w : Nat) : Int).toNat * 1 = w by omega, List.map_set]
            refine W.condT rfl (W.seq ?_)
            refine W.drawP 15 [true, false, false, false] rfl (by repeat' constructor) (by repeat' constructor) (fun σ0 hσ0 dσ0 => ?_)
            have fσ0_0 := ros_at 0 rfl hσ0 dσ0
            have fσ0_1 := rb_at 1 rfl hσ0 dσ0
            have fσ0_2 := rb_at 2 rfl hσ0 dσ0
            refine WD.takeL 0 rfl (by decide +kernel) (WL.mv rfl rfl (WL.nilT (WD.takeL 1 rfl (by decide +kernel) (WL.mv rfl rfl (WL.nilT (WD.takeL 2 rfl (by decide +kernel) (WL.mv rfl rfl (WL.nilT (WD.takeL 3 rfl (by decide +kernel) ?_)))))))))
            refine WL.ixA (T := Ty) rfl rfl rfl rfl rfl (by omega) (by first | omega | decide +kernel) ?_
            refine WL.nilT (WD.takeL 4 rfl (by decide +kernel) ?_)
            refine WL.ldB (T := Ty) rfl rfl rfl rfl (by first | assumption | exact RB.wide (by assumption) | exact In.rb (by assumption)) (by assumption) ?_
            refine WL.nilT (WD.takeL 5 rfl (by decide +kernel) (WL.mv rfl rfl (WL.nilT (WD.takeL 6 rfl (by decide +kernel) (WL.mv rfl rfl (WL.nilT (WD.takeL 7 rfl (by decide +kernel) ?_)))))))
            refine WL.ix (T := Ty) rfl rfl rfl (by assumption) rfl rfl (by omega) (by first | omega | decide +kernel) ?_
            refine WL.nilT (WD.takeL 8 rfl (by decide +kernel) ?_)
            refine WL.ldKn (T := Ty) rfl rfl rfl rfl (by first | assumption | exact ROs.wide (by assumption)) (by assumption) ?_
            refine WL.nilT (WD.takeL 9 rfl (by decide +kernel) (WL.mv rfl rfl (WL.nilT (WD.takeL 10 rfl (by decide +kernel) (WL.quoI rfl rfl rfl (by omega) (by omega) (by omega) (WL.nilT (WD.oneL 11 rfl (by decide +kernel) ?_)))))))
            refine WL.callV rfl rfl (fun x p d => hopf _ _ _) ?_
            refine WL.nilE (WD.takeL 12 rfl (by decide +kernel) ?_)
            refine WL.bdC (T := Ty) rfl rfl rfl rfl (by repeat' first | exact CO.nil | apply CO.one (by first | rfl | exact SL.one (by assumption)) | apply CO.agg) rfl (by repeat' constructor) ?_
            refine WL.nilT (WD.oneL 13 rfl (by decide +kernel) ?_)
            refine WL.bsC (T := Ty) rfl rfl rfl rfl rfl rfl rfl (by repeat' first | exact CO.nil | apply CO.one (by first | rfl | exact SL.one (by assumption)) | apply CO.agg) rfl (by repeat' constructor) (fun u2 hu2 => ?_)
            refine WL.nilH hσ0 (fun σ1 hσ1 dσ1 mσ1 => ?_)
            have fσ0_0 := fσ0_0.mono mσ1
            have fσ0_1 := fσ0_1.mono mσ1
            have fσ0_2 := fσ0_2.mono mσ1
            have fσ1_0 := ros_at 0 rfl hσ1 dσ1
            refine WD.oneL 14 rfl (by decide +kernel) ?_
            refine WL.ap (T := Ty) (i := 1) (m := 1) rfl rfl rfl rfl rfl rfl rfl rfl (by first | exact .ro (by assumption) | exact .ro (ROs.wide (by assumption)) | exact .eqJ 0 rfl (by assumption) | exact .own 0 rfl | exact .own 1 rfl | exact .own 2 rfl | exact .own 3 rfl | exact .own 4 rfl | exact .own 5 rfl) (by first | assumption | exact ROs.slm (by assumption)) (by assumption) (by rfl) (AO.all (by repeat' first | exact AO.nil | apply AO.cons (by first | rfl | exact SL.one (by assumption)))) (by first | omega | (simp; omega) | (simp only [List.length_drop, List.length_take]; omega)) (by unfold maxLen; first | omega | (simp only [List.length_drop, List.length_take]; omega)) (fun v' => (by repeat' constructor)) (fun u3 hu3 => ?_)
            refine WL.nilE ?_
            refine WD.lastG hσ1 (by decide +kernel) (by repeat' constructor) rfl (by repeat' constructor) ?_
            refine WL.as rfl rfl (WL.nil (W.region (WL.mv rfl rfl ?_)))
            refine WL.ixA (T := Ty) rfl rfl rfl rfl rfl (by omega) (by first | omega | decide +kernel) ?_
            refine WL.ld (T := Ty) (j := 3) rfl rfl rfl rfl rfl (by assumption) ?_
            refine WL.addK rfl rfl rfl (wrap_i64 ⟨by omega, by omega⟩) ?_
            refine WL.ixA (T := Ty) rfl rfl rfl rfl rfl (by omega) (by first | omega | decide +kernel) ?_
            refine WL.stX (T := Ty) (j := 3) rfl rfl rfl rfl rfl rfl (by first | assumption | (simp; omega)) rfl (by repeat' constructor) ?_
            refine WL.nil (W.inBlock (W.region (WL.mv rfl rfl (WL.addK rfl rfl rfl (wrap_i64 ⟨by omega, by omega⟩) (WL.as rfl rfl (WL.nil ?_))))))
            rw [hf1, hst]
            refine W.fit (Hs' := [Buf 14 _ (List.flatMap evC _), Buf 2 vo _, box b1 _ _, box b0 _ _]) (by (repeat' first | exact Sel.nil | apply Sel.k | exact Pick.h | apply Pick.t)) ?_
            refine W.sub ?_ (next ⟨i + 1, _, o, _, vo, na.set w (nv + 1), da⟩ _ (Le.refl _) ⟨by dsimp only; omega, by dsimp only; omega, by dsimp only; rw [List.length_append]; simp; omega, by dsimp only; omega, okL.app hok (okL.z rfl okL.nil), by dsimp only; rw [List.length_append]; assumption, t2, by dsimp only; rw [List.length_set]; exact hna, hda, bnd_set bna (by omega) (by omega), fun y hy => ⟨(bda y hy).1, by have := (bda y hy).2; dsimp only; omega⟩⟩ (by dsimp only; omega))
            exact ⟨rfl, rfl, rfl, rfl, rfl, rfl, rfl, trivial⟩
          | false =>
            have hf2 : o.flatMap (twoC .i64 .i64) ++ [.int .i64 (w : Int), .int .i64 dv] = (o ++ [((w : Int), dv)]).flatMap (twoC .i64 .i64) := by rw [List.flatMap_append]; rfl
            have hS : ∀ p ∈ L, SL p.2 p.1.res.list.length := fun p hp => (hok p hp).1.sl (flat_len sm_len _) (by omega)
            have ho' : (o ++ [((w : Int), dv)]).length = o.length + 1 := by rw [List.length_append]; rfl
            refine W.condF rfl (W.seq (W.region (WL.mv rfl rfl (WL.mv rfl rfl (WL.mv rfl rfl ?_)))))
            refine WL.ixA (T := Ty) rfl rfl rfl rfl rfl (by omega) (by first | omega | decide +kernel) ?_
            refine WL.ld (T := Ty) (j := 2) rfl rfl rfl rfl rfl (by assumption) ?_
            refine WL.bdC (T := Ty) rfl rfl rfl rfl (by repeat' first | exact CO.nil | apply CO.one (by first | rfl | exact SL.one (by assumption)) | apply CO.agg) rfl (by repeat' constructor) ?_
            refine WL.bsC (T := Ty) rfl rfl rfl rfl rfl rfl rfl (by repeat' first | exact CO.nil | apply CO.one (by first | rfl | exact SL.one (by assumption)) | apply CO.agg) rfl (by repeat' constructor) (fun u2 hu2 => ?_)
            refine WL.apS (T := Ty) (i := 1) rfl rfl rfl rfl rfl rfl rfl rfl rfl (by first | rfl | assumption) rfl (by assumption) (by repeat' first | exact AO.nil | apply AO.cons (by first | rfl | exact SL.one (by assumption))) (by first | omega | (simp; omega) | (simp only [List.length_drop, List.length_take]; omega)) (by first | omega | (simp; omega) | (simp only [List.length_drop, List.length_take]; omega)) (fun v' => (by repeat' constructor)) (fun u3 hu3 => ?_)
            refine WL.as rfl rfl (WL.nil (W.seq (W.region (WL.mv rfl rfl (WL.mv rfl rfl ?_)))))
            rw [hf2]
            refine WL.callF rfl rfl (fun x p d => rreplay_c _ _ _ _ _ (by first | assumption | exact ROs.wide (by assumption) | exact ROs.mono (by assumption) (eqh_at 0 rfl p d) | exact ros_at 0 rfl p d | exact ros_at 1 rfl p d | exact ros_at 2 rfl p d | exact ros_at 3 rfl p d | exact ros_at 4 rfl p d) (by assumption) (by first | assumption | omega) (by first | assumption | exact ROs.wide (by assumption) | exact ROs.mono (by assumption) (eqh_at 0 rfl p d) | exact ros_at 0 rfl p d | exact ros_at 1 rfl p d | exact ros_at 2 rfl p d | exact ros_at 3 rfl p d | exact ros_at 4 rfl p d) (by first | assumption | omega)) (fun r4 => ?_)
            refine WL.opens (α := (Value × Value × Value × List (Rst × Value))) (φ := fun x => r4 = .tuple #[.agg #[x.1, x.2.1, .int .i64 _], x.2.2.1] ∧ x.2.2.2.map Prod.fst = _ ∧ SL x.1 _ ∧ SL x.2.1 _ ∧ SL x.2.2.1 x.2.2.2.length ∧ (∀ p ∈ x.2.2.2, SL p.2 p.1.list.length)) (ps := fun x => [OMdl (.agg #[x.1, x.2.1, .int .i64 _]) _, Buf 3 x.2.2.1 (x.2.2.2.flatMap rstC), Own owRst x.2.2.2]) 0 rfl (fun h q => RepR.open q) (by repeat' constructor) ?_
            rintro ⟨sv4, iv4, u4, R4⟩ ⟨es4, er4, sa4, sb4, sc4, sd4⟩
            subst es4
            dsimp only [List.cons_append, List.nil_append] at er4 sa4 sb4 sc4 ⊢
            refine WL.mv rfl rfl (WL.extL rfl rfl rfl (WL.extL rfl rfl rfl ?_))
            refine WL.alF (T := Ty) rfl rfl (by repeat' constructor) (fun b5 => ?_)
            refine WL.stAO (T := Ty) (j := 0) rfl rfl rfl rfl (by repeat' first | exact AO.nil | apply AO.cons (by first | rfl | exact SL.one (by assumption))) rfl rfl (by repeat' constructor) (by repeat' constructor) ?_
            refine WL.as rfl rfl (WL.nil ?_)
            have hRl : R4.length = o.length + 1 := by have := congrArg List.length er4; rw [List.length_map, rpl_len _ _ _ (Nat.le_refl _), ho'] at this; exact this
            have hlj := rpl_lenj L (o ++ [((w : Int), dv)]) (o ++ [((w : Int), dv)]).length
            refine W.fit (Hs' := [Buf 3 u4 _, Own owRst R4, Buf 14 ve _, Buf 2 u3 _, box b1 _ _, box b0 _ _]) (by (repeat' first | exact Sel.nil | apply Sel.k | exact Pick.h | apply Pick.t)) ?_
            refine W.freeze 0 rfl (by repeat' constructor) (fun ρ2 le2 in2 => ?_)
            refine W.freeze 0 rfl (by repeat' constructor) (fun ρ3 le3 in3 => ?_)
            have rr := (in2.mono le3).ros
            have rR := own_rst in3
            replace r0 := (r0.mono le2).mono le3
            replace hok := (hok.mono le2).mono le3
            obtain ⟨⟨y, ly⟩, hy⟩ : ∃ q, R4[o.length]? = some q := ⟨_, List.getElem?_eq_getElem (by omega)⟩
            have hyr := rR _ (List.mem_of_getElem? hy)
            have hyl : y.list.length ≤ 1000 := Nat.le_trans (hlj y (by rw [← er4]; exact List.mem_map.2 ⟨_, List.mem_of_getElem? hy, rfl⟩)) (by omega)
            have hys : SL ly y.list.length := hyr.sl (flat_len sm_len _) (by omega)
            have l3 := rst_cells R4
            have hrow : ((R4.flatMap rstC).drop (((R4.length : Int) - 1).toNat * 3)).take 3 = rstC (y, ly) := by
              rw [show ((R4.length : Int) - 1).toNat = o.length by omega]
              exact flat_row (k := 3) (f := rstC) (fun _ => rfl) hy
            unfold rstC at hrow
            dsimp only at hrow
            clear in2 in3 er4 sa4 sb4 hlj
            refine W.seq (W.region (WL.mv rfl rfl (WL.mv rfl rfl ?_)))
            refine WL.len (T := Ty) rfl rfl (by assumption) rfl ?_
            refine WL.subK rfl rfl rfl (wrap_i64 ⟨by omega, by omega⟩) ?_
            refine WL.ix (T := Ty) rfl rfl rfl (by assumption) rfl rfl (by omega) (by first | omega | decide +kernel) ?_
            refine WL.ldAR (T := Ty) rfl rfl rfl rfl (by first | assumption | exact ROs.wide (by assumption)) (by assumption) rfl ?_
            refine WL.alF (T := Ty) rfl rfl (by repeat' constructor) (fun b6 => ?_)
            refine WL.stAO (T := Ty) (j := 0) rfl rfl rfl rfl (by repeat' first | exact AO.nil | apply AO.cons (by first | rfl | exact SL.one (by assumption))) rfl rfl (by repeat' constructor) (by repeat' constructor) ?_
            refine WL.nil (W.seq (W.seq (W.region (WL.mv rfl rfl (WL.mv rfl rfl ?_)))))
            refine WL.ix (T := Ty) rfl rfl rfl (by assumption) rfl rfl (by omega) (by first | omega | decide +kernel) ?_
            refine WL.ldKn (T := Ty) rfl rfl rfl rfl (by first | assumption | exact ROs.wide (by assumption)) (by assumption) ?_
            refine WL.andI rfl rfl rfl (by decide) (WL.nil (W.block (W.seq (W.region (WL.eql rfl rfl rfl (WL.as rfl rfl (WL.nil ?_)))))))
            refine W.cutG2 (τ := Value × List PK × Int × Int × Value × List Smp) (fun s => [(0, v0), (1, v1), (5, ve), (6, s.1), (7, pt b0 0), (8, pt b1 0), (9, .int .i64 (i : Int)), (10, .int .i64 (w : Int)), (13, pt b6 0)])
              (fun s => [Buf 14 ve (L.flatMap evC), Buf 2 s.1 (s.2.1.flatMap (twoC .i64 .i64)), box b1 (da.map (Value.int .i64)) 67, box b0 (na.map (Value.int .i64)) 67, box b6 [.int .i64 s.2.2.1, .int .i64 s.2.2.2.1, s.2.2.2.2.1] 34]) (fun s ρ' => s.2.1.length ≤ i + 1 ∧ SL s.1 s.2.1.length ∧ ROs ρ' 2 s.2.2.2.2.1 (s.2.2.2.2.2.flatMap smC) ∧ s.2.2.2.2.2.length ≤ 1000) ?_ (fun cut1 => ?_)
            · rintro ⟨vp, o', e1, e2, lp, rl⟩ ρ4 le4 ⟨k1, k2, k3, k4⟩
              dsimp only at k1 k2 k3 k4 ⊢
              replace r0 := r0.mono le4
              replace hok := hok.mono le4
              have k5 : SL lp rl.length := k3.sl (flat_len sm_len _) (by omega)
              have hf1 : L.flatMap evC ++ [.int .i64 2, .int .i64 (w : Int), .int .i64 dv, .int .i64 0, .int .i64 0, .int .i64 0, .int .i64 0, .int .u64 0, .int .i64 0, .int .i64 0, .int .i64 0, .int .i64 e1, .int .i64 e2, lp] = (L ++ [((⟨2, (w : Int), dv, ⟨0, 0, 0, 0, 0, 0, 0, 0⟩, ⟨e1, e2, rl⟩⟩ : Evt), lp)]).flatMap evC := by rw [List.flatMap_append]; rfl
              have hst : (da.map (Value.int .i64)).set (0 + ((w : Nat) : Int).toNat * 1) (.int .i64 (dv + 1)) = (da.set w (dv + 1)).map (Value.int .i64) := by rw [show 0 + ((w : Nat) : Int).toNat * 1 = w by omega, List.map_set]
              refine W.seq ?_
              refine W.drawP 9 [true, false, false, false, false] rfl (by repeat' constructor) (by repeat' constructor) (fun σ0 hσ0 dσ0 => ?_)
              have fσ0_0 := ros_at 0 rfl hσ0 dσ0
              have fσ0_1 := rb_at 1 rfl hσ0 dσ0
              have fσ0_2 := rb_at 2 rfl hσ0 dσ0
              have fσ0_3 := rb_at 3 rfl hσ0 dσ0
              refine WD.takeL 0 rfl (by decide +kernel) (WL.mv rfl rfl (WL.nilT (WD.takeL 1 rfl (by decide +kernel) (WL.mv rfl rfl (WL.nilT (WD.takeL 2 rfl (by decide +kernel) (WL.mv rfl rfl (WL.nilT (WD.takeL 3 rfl (by decide +kernel) ?_)))))))))
              refine WL.ixA (T := Ty) rfl rfl rfl rfl rfl (by omega) (by first | omega | decide +kernel) ?_
              refine WL.nilT (WD.takeL 4 rfl (by decide +kernel) ?_)
              refine WL.ldB (T := Ty) rfl rfl rfl rfl (by first | assumption | exact RB.wide (by assumption) | exact In.rb (by assumption)) (by assumption) ?_
              refine WL.nilT (WD.takeL 5 rfl (by decide +kernel) ?_)
              refine WL.ldABF (T := Ty) rfl rfl rfl rfl (by first | assumption | exact RB.wide (by assumption) | exact In.rb (by assumption)) rfl (by repeat' constructor) ?_
              refine WL.nilT (WD.takeL 6 rfl (by decide +kernel) ?_)
              refine WL.bdC (T := Ty) rfl rfl rfl rfl (by repeat' first | exact CO.nil | apply CO.one (by first | rfl | exact SL.one (by assumption)) | apply CO.agg) rfl (by repeat' constructor) ?_
              refine WL.nilT (WD.oneL 7 rfl (by decide +kernel) ?_)
              refine WL.bsC (T := Ty) rfl rfl rfl rfl rfl rfl rfl (by repeat' first | exact CO.nil | apply CO.one (by first | rfl | exact SL.one (by assumption)) | apply CO.agg) rfl (by repeat' constructor) (fun u7 hu7 => ?_)
              refine WL.nilH hσ0 (fun σ1 hσ1 dσ1 mσ1 => ?_)
              have fσ0_0 := fσ0_0.mono mσ1
              have fσ0_1 := fσ0_1.mono mσ1
              have fσ0_2 := fσ0_2.mono mσ1
              have fσ0_3 := fσ0_3.mono mσ1
              have fσ1_0 := ros_at 0 rfl hσ1 dσ1
              refine WD.oneL 8 rfl (by decide +kernel) ?_
              refine WL.ap (T := Ty) (i := 1) (m := 1) rfl rfl rfl rfl rfl rfl rfl rfl (by first | exact .ro (by assumption) | exact .ro (ROs.wide (by assumption)) | exact .eqJ 0 rfl (by assumption) | exact .own 0 rfl | exact .own 1 rfl | exact .own 2 rfl | exact .own 3 rfl | exact .own 4 rfl | exact .own 5 rfl) (by first | assumption | exact ROs.slm (by assumption)) (by assumption) (by rfl) (AO.all (by repeat' first | exact AO.nil | apply AO.cons (by first | rfl | exact SL.one (by assumption)))) (by first | omega | (simp; omega) | (simp only [List.length_drop, List.length_take]; omega)) (by unfold maxLen; first | omega | (simp only [List.length_drop, List.length_take]; omega)) (fun v' => (by repeat' constructor)) (fun u8 hu8 => ?_)
              refine WL.nilE ?_
              refine WD.lastG hσ1 (by decide +kernel) (by repeat' constructor) rfl (by repeat' constructor) ?_
              refine WL.as rfl rfl (WL.nil (W.region (WL.mv rfl rfl ?_)))
              refine WL.ixA (T := Ty) rfl rfl rfl rfl rfl (by omega) (by first | omega | decide +kernel) ?_
              refine WL.ld (T := Ty) (j := 2) rfl rfl rfl rfl rfl (by assumption) ?_
              refine WL.addK rfl rfl rfl (wrap_i64 ⟨by omega, by omega⟩) ?_
              refine WL.ixA (T := Ty) rfl rfl rfl rfl rfl (by omega) (by first | omega | decide +kernel) ?_
              refine WL.stX (T := Ty) (j := 2) rfl rfl rfl rfl rfl rfl (by first | assumption | (simp; omega)) rfl (by repeat' constructor) ?_
              refine WL.nil (W.inBlock (W.region (WL.mv rfl rfl (WL.addK rfl rfl rfl (wrap_i64 ⟨by omega, by omega⟩) (WL.as rfl rfl (WL.nil ?_))))))
              rw [hf1, hst]
              refine W.fit (Hs' := [Buf 14 _ (List.flatMap evC _), Buf 2 vp _, box b1 _ _, box b0 _ _]) (by (repeat' first | exact Sel.nil | apply Sel.k | exact Pick.h | apply Pick.t)) ?_
              refine W.sub ?_ (next ⟨i + 1, _, o', _, vp, na, da.set w (dv + 1)⟩ ρ4 (fun b o h => le4 b o (le3 b o (le2 b o h))) ⟨by dsimp only; omega, by dsimp only; omega, by dsimp only; rw [List.length_append]; simp; omega, by dsimp only; omega, okL.app hok (okL.c k3 (by dsimp only; omega) okL.nil), by dsimp only; rw [List.length_append]; assumption, k2, hna, by dsimp only; rw [List.length_set]; exact hda, fun y hy => ⟨(bna y hy).1, by have := (bna y hy).2; dsimp only; omega⟩, bnd_set bda (by omega) (by omega)⟩ (by dsimp only; omega))
              exact ⟨rfl, rfl, rfl, rfl, rfl, rfl, rfl, trivial⟩
            · have hu3' : SL u3 (o ++ [((w : Int), dv)]).length := by rw [ho']; assumption
              have htk : ((o ++ [((w : Int), dv)]).flatMap (twoC .i64 .i64)).take (o.length * 2) = o.flatMap (twoC .i64 .i64) := by rw [flat_take (k := 2) (fun _ => rfl), List.take_left]
              by_cases q0 : x % (15 + 1) = 0
              · refine W.condpT rfl q0 ?_
                refine W.region (WL.faN (T := Ty) (off' := 0) rfl rfl rfl rfl rfl rfl rfl ?_)
                refine WL.stF (T := Ty) (j := 0) rfl rfl rfl rfl rfl rfl rfl (by repeat' constructor) (by repeat' constructor) ?_
                refine WL.nil (W.inBlock ?_)
                refine W.fit (Hs' := [Buf 14 ve _, Buf 2 u3 _, box b1 _ _, box b0 _ _, box b6 _ _]) (by (repeat' first | exact Sel.nil | apply Sel.k | exact Pick.h | apply Pick.t)) (W.sub ?_ (cut1 ⟨u3, o ++ [((w : Int), dv)], _, _, ly, y.list⟩ ρ3 (Le.refl _) ⟨by dsimp only; omega, hu3', hyr, hyl⟩))
                exact ⟨rfl, rfl, rfl, rfl, rfl, rfl, rfl, rfl, rfl, trivial⟩
              · refine W.condpF rfl q0 ?_
                refine W.seq (W.region (WL.eql rfl rfl rfl (WL.as rfl rfl (WL.nil ?_))))
                by_cases q1 : x % (15 + 1) = 1
                · refine W.condpT rfl q1 ?_
                  refine W.region (WL.faN (T := Ty) (off' := 1) rfl rfl rfl rfl rfl rfl rfl (WL.ldN (T := Ty) (j := 0) rfl rfl rfl rfl rfl rfl (WL.add (K := .i64) rfl rfl rfl (WL.faN (T := Ty) (off' := 1) rfl rfl rfl rfl rfl rfl rfl ?_))))
                  refine WL.stF (T := Ty) (j := 0) rfl rfl rfl rfl rfl rfl rfl (by repeat' constructor) (by repeat' constructor) ?_
                  refine WL.nil (W.inBlock ?_)
                  refine W.fit (Hs' := [Buf 14 ve _, Buf 2 u3 _, box b1 _ _, box b0 _ _, box b6 _ _]) (by (repeat' first | exact Sel.nil | apply Sel.k | exact Pick.h | apply Pick.t)) (W.sub ?_ (cut1 ⟨u3, o ++ [((w : Int), dv)], _, _, ly, y.list⟩ ρ3 (Le.refl _) ⟨by dsimp only; omega, hu3', hyr, hyl⟩))
                  exact ⟨rfl, rfl, rfl, rfl, rfl, rfl, rfl, rfl, rfl, trivial⟩
                · refine W.condpF rfl q1 ?_
                  refine W.seq (W.region (WL.eql rfl rfl rfl (WL.as rfl rfl (WL.nil ?_))))
                  by_cases q2 : x % (15 + 1) = 2
                  · refine W.condpT rfl q2 ?_
                    refine W.seq (W.region (WL.mv rfl rfl (WL.mv rfl rfl ?_)))
                    refine WL.len (T := Ty) rfl rfl (by assumption) rfl ?_
                    refine WL.subK rfl rfl rfl (wrap_i64 ⟨by omega, by omega⟩) ?_
                    rw [show (((o ++ [((w : Int), dv)]).length : Int)) - 1 = ((o.length : Nat) : Int) by omega]
                    refine WL.slPre (T := Ty) (j := 2) rfl rfl rfl rfl rfl rfl rfl (two_len (k0 := .i64) (k1 := .i64) (o ++ [((w : Int), dv)])) (by omega) (by omega) (fun u => (by repeat' constructor)) (fun u9 hu9 => ?_)
                    refine WL.as rfl rfl (WL.nil ?_)
                    rw [htk]
                    refine W.region ?_
                    refine WL.bdC (T := Ty) rfl rfl rfl rfl (by repeat' first | exact CO.nil | apply CO.one (by first | rfl | exact SL.one (by assumption)) | apply CO.agg) rfl (by repeat' constructor) ?_
                    refine WL.stAO (T := Ty) (j := 1) rfl rfl rfl rfl (by repeat' first | exact AO.nil | apply AO.cons (by first | rfl | exact SL.one (by assumption))) rfl rfl (by repeat' constructor) (by repeat' constructor) ?_
                    refine WL.nil (W.inBlock ?_)
                    refine W.fit (Hs' := [Buf 14 ve _, Buf 2 u9 _, box b1 _ _, box b0 _ _, box b6 _ _]) (by (repeat' first | exact Sel.nil | apply Sel.k | exact Pick.h | apply Pick.t)) (W.sub ?_ (cut1 ⟨u9, o, _, _, nilV, []⟩ ρ3 (Le.refl _) ⟨by dsimp only; omega, hu9, ros_nil2 _, Nat.zero_le _⟩))
                    exact ⟨rfl, rfl, rfl, rfl, rfl, rfl, rfl, rfl, rfl, trivial⟩
                  · refine W.condpF rfl q2 (W.skip ?_)
                    refine W.inBlock ?_
                    refine W.fit (Hs' := [Buf 14 ve _, Buf 2 u3 _, box b1 _ _, box b0 _ _, box b6 _ _]) (by (repeat' first | exact Sel.nil | apply Sel.k | exact Pick.h | apply Pick.t)) (W.sub ?_ (cut1 ⟨u3, o ++ [((w : Int), dv)], _, _, ly, y.list⟩ ρ3 (Le.refl _) ⟨by dsimp only; omega, hu3', hyr, hyl⟩))
                    exact ⟨rfl, rfl, rfl, rfl, rfl, rfl, rfl, rfl, rfl, trivial⟩
        · by_cases hnd : nv = dv
          · refine W.drawA 16 rfl (fun σ0 hσ0 dσ0 => ?_)
            have fσ0_0 := ros_at 0 rfl hσ0 dσ0
            have fσ0_1 := ros_at 1 rfl hσ0 dσ0
            have fσ0_2 := rb_at 2 rfl hσ0 dσ0
            have fσ0_3 := rb_at 3 rfl hσ0 dσ0
            refine WD.takeL 0 rfl (by decide +kernel) (WL.mv rfl rfl (WL.nilT (WD.takeL 1 rfl (by decide +kernel) ?_)))
            refine WL.ixA (T := Ty) rfl rfl rfl rfl rfl (by omega) (by first | omega | decide +kernel) ?_
            refine WL.nilT (WD.takeL 2 rfl (by decide +kernel) ?_)
            refine WL.ldB (T := Ty) rfl rfl rfl rfl (by first | assumption | exact RB.wide (by assumption) | exact In.rb (by assumption)) (by assumption) ?_
            refine WL.nilT (WD.takeL 3 rfl (by decide +kernel) (WL.mv rfl rfl (WL.nilT (WD.takeL 4 rfl (by decide +kernel) ?_))))
            refine WL.ixA (T := Ty) rfl rfl rfl rfl rfl (by omega) (by first | omega | decide +kernel) ?_
            refine WL.nilT (WD.takeL 5 rfl (by decide +kernel) ?_)
            refine WL.ldB (T := Ty) rfl rfl rfl rfl (by first | assumption | exact RB.wide (by assumption) | exact In.rb (by assumption)) (by assumption) ?_
            refine WL.nilT (WD.takeL 6 rfl (by decide +kernel) (WL.eql rfl rfl rfl (WL.nilT (WD.takeL 7 rfl (by decide +kernel) (WL.mv rfl rfl (WL.nilT (WD.takeL 8 rfl (by decide +kernel) (WL.gdFn rfl rfl rfl rfl rfl (by omega) (WL.nilT (WD.takeL 9 rfl (by decide +kernel) (WL.gdFn rfl rfl rfl rfl rfl (by omega) (WL.nilT (WD.takeL 10 rfl (by decide +kernel) ?_)))))))))))))
            refine WL.gdFn rfl rfl rfl rfl rfl (by omega) (WL.nilT (WD.takeL 11 rfl (by decide +kernel) (WL.gdFn rfl rfl rfl rfl rfl (by omega) (WL.nilT (WD.takeL 12 rfl (by decide +kernel) (WL.gdFn rfl rfl rfl rfl rfl (by omega) (WL.nilT (WD.takeL 13 rfl (by decide +kernel) (WL.gdFn rfl rfl rfl rfl rfl (by omega) (WL.nilT (WD.takeL 14 rfl (by decide +kernel) (WL.gdFn rfl rfl rfl rfl rfl (by omega) (WL.nilT ?_)))))))))))))
            refine WD.takeL 15 rfl (by decide +kernel) (WL.pickTp rfl rfl (by omega) rfl (WL.nilT ?_))
            refine WD.doneF hσ0 (by decide +kernel) (by repeat' constructor) ?_
            refine W.fit (Hs' := [Buf 14 ve _, Buf 2 vo _, box b1 _ _, box b0 _ _]) (by (repeat' first | exact Sel.nil | apply Sel.k | exact Pick.h | apply Pick.t)) ?_
            refine W.sub ?_ (cut true ρ1 (Le.refl _) rfl)
            exact ⟨rfl, rfl, rfl, rfl, rfl, rfl, rfl, rfl, by rw [decide_eq_true hnd]; rfl, trivial⟩
          · refine W.drawA 16 rfl (fun σ0 hσ0 dσ0 => ?_)
            have fσ0_0 := ros_at 0 rfl hσ0 dσ0
            have fσ0_1 := ros_at 1 rfl hσ0 dσ0
            have fσ0_2 := rb_at 2 rfl hσ0 dσ0
            have fσ0_3 := rb_at 3 rfl hσ0 dσ0
            refine WD.takeL 0 rfl (by decide +kernel) (WL.mv rfl rfl (WL.nilT (WD.takeL 1 rfl (by decide +kernel) ?_)))
            refine WL.ixA (T := Ty) rfl rfl rfl rfl rfl (by omega) (by first | omega | decide +kernel) ?_
            refine WL.nilT (WD.takeL 2 rfl (by decide +kernel) ?_)
            refine WL.ldB (T := Ty) rfl rfl rfl rfl (by first | assumption | exact RB.wide (by assumption) | exact In.rb (by assumption)) (by assumption) ?_
            refine WL.nilT (WD.takeL 3 rfl (by decide +kernel) (WL.mv rfl rfl (WL.nilT (WD.takeL 4 rfl (by decide +kernel) ?_))))
            refine WL.ixA (T := Ty) rfl rfl rfl rfl rfl (by omega) (by first | omega | decide +kernel) ?_
            refine WL.nilT (WD.takeL 5 rfl (by decide +kernel) ?_)
            refine WL.ldB (T := Ty) rfl rfl rfl rfl (by first | assumption | exact RB.wide (by assumption) | exact In.rb (by assumption)) (by assumption) ?_
            refine WL.nilT (WD.takeL 6 rfl (by decide +kernel) (WL.eql rfl rfl rfl (WL.nilT (WD.takeL 7 rfl (by decide +kernel) (WL.mv rfl rfl (WL.nilT (WD.takeL 8 rfl (by decide +kernel) (WL.gF rfl rfl (by omega) (WL.mv rfl rfl (WL.nilT (WD.takeL 9 rfl (by decide +kernel) (WL.gF rfl rfl (by omega) (WL.mv rfl rfl ?_)))))))))))))
            refine WL.nilT (WD.takeL 10 rfl (by decide +kernel) (WL.gF rfl rfl (by omega) ?_))
            refine WL.ix (T := Ty) rfl rfl rfl (by assumption) rfl rfl (by omega) (by first | omega | decide +kernel) ?_
            refine WL.nilT (WD.takeL 11 rfl (by decide +kernel) (WL.gF rfl rfl (by omega) ?_))
            refine WL.ldKn (T := Ty) rfl rfl rfl rfl (by first | assumption | exact ROs.wide (by assumption)) (by assumption) ?_
            refine WL.nilT (WD.takeL 12 rfl (by decide +kernel) (WL.gF rfl rfl (by omega) (WL.shrS (c := 16777216) rfl rfl rfl (by omega) (by decide) (WL.nilT (WD.takeL 13 rfl (by decide +kernel) (WL.gF rfl rfl (by omega) (WL.andI rfl rfl rfl (by decide) (WL.nilT (WD.takeL 14 rfl (by decide +kernel) (WL.gF rfl rfl (by omega) (WL.eql rfl rfl rfl (WL.nilT (WD.takeL 15 rfl (by decide +kernel) ?_)))))))))))))
            refine WL.pickFp rfl rfl (by omega) rfl (WL.nilT ?_)
            refine WD.doneF hσ0 (by decide +kernel) (by repeat' constructor) ?_
            refine W.fit (Hs' := [Buf 14 ve _, Buf 2 vo _, box b1 _ _, box b0 _ _]) (by (repeat' first | exact Sel.nil | apply Sel.k | exact Pick.h | apply Pick.t)) ?_
            refine W.sub ?_ (cut (decide (x / 16777216 % (15 + 1) = 0)) ρ1 (Le.refl _) rfl)
            exact ⟨rfl, rfl, rfl, rfl, rfl, rfl, rfl, rfl, rfl, trivial⟩
      · refine W.seq ?_
        refine W.seq (W.region (WL.mv rfl rfl (WL.mv rfl rfl ?_)))
        refine WL.len (T := Ty) rfl rfl (by assumption) rfl ?_
        refine WL.lss rfl rfl rfl (WL.mv rfl rfl (WL.gT rfl rfl (by omega) (WL.mv rfl rfl (WL.gT rfl rfl (by omega) (WL.lss rfl rfl rfl (WL.pickTp rfl rfl (by omega) rfl (WL.nil (W.condpF rfl (by omega) (W.exit rfl ?_)))))))))
        refine W.fit (Hs' := [Buf 14 ve _, Buf 2 vo _]) (by (repeat' first | exact Sel.nil | apply Sel.k | exact Pick.h | apply Pick.t)) (W.sub ?_ (cut0 ⟨L, o, ve, vo⟩ ρ1 le1 ⟨by dsimp only; omega, by dsimp only; omega, hok, t1, t2⟩))
        exact ⟨rfl, rfl, rfl, trivial⟩
    · refine W.seq ?_
      refine W.seq (W.region (WL.mv rfl rfl (WL.mv rfl rfl ?_)))
      refine WL.len (T := Ty) rfl rfl (by assumption) rfl ?_
      refine WL.lss rfl rfl rfl (WL.mv rfl rfl (WL.gdTn rfl rfl rfl rfl rfl (by omega) (WL.gdTn rfl rfl rfl rfl rfl (by omega) (WL.pickFp rfl rfl (by omega) rfl (WL.nil (W.condF rfl (W.exit rfl ?_)))))))
      refine W.fit (Hs' := [Buf 14 ve _, Buf 2 vo _]) (by (repeat' first | exact Sel.nil | apply Sel.k | exact Pick.h | apply Pick.t)) (W.sub ?_ (cut0 ⟨L, o, ve, vo⟩ ρ1 le1 ⟨by dsimp only; omega, by dsimp only; omega, hok, t1, t2⟩))
      exact ⟨rfl, rfl, rfl, trivial⟩
end Go.Proofs.Ytbebhmdjnneimaa
