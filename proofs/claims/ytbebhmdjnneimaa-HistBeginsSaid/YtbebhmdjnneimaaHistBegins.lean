/- HistBegins. -/
import Derived.Test.YtbebhmdjnneimaaStc
import Derived.Test.YtbebhmdjnneimaaNum
import Derived.Test.YtbebhmdjnneimaaTab
import Derived.Test.YtbebhmdjnneimaaHistAw
import Derived.Test.YtbebhmdjnneimaaHistLw3
import Derived.Test.YtbebhmdjnneimaaMdlSm
set_option linter.unusedSimpArgs false
set_option linter.unusedVariables false
set_option maxRecDepth 20000
set_option maxHeartbeats 4000000
namespace Go.Proofs.Ytbebhmdjnneimaa
open Go
attribute [local irreducible] W WL Fn Buf ROs SL eptr box Rd Src bndOK WD RB Reads In Own Pm doM mr rpl
theorem HistBegins_fn (ρ : Hp) (v0 : Value) (z0 : List Int) (r0 : ROs ρ 1 v0 (z0.map (Value.int .i64))) (m0 : ∀ n ∈ z0, (Lit.int .i64 n).wf = true) (y0 : z0.length * 8 ≤ 140737488351232) (a1 : Int) (w1 : (Lit.int .i64 a1).wf = true) :
    Fn Try.prog 8 #[v0, .int .i64 a1] ρ [] (fun r _ => r = .bool true) := by
  have s0 := r0.slm
  obtain ⟨f, hopf⟩ : ∃ f : Int → Int → MOp, ∀ (ρ : Hp) n a, Fn Try.prog 19 #[.int .i64 n, .int .i64 a] ρ [] (Just (.agg #[.int .i64 (f n a).kind, .int .i64 (f n a).series, .int .i64 (f n a).iter, .int .i64 (f n a).t, .int .u64 (f n a).v, .int .i64 (f n a).lo, .int .i64 (f n a).hi, .int .i64 (f n a).n])) :=
    ⟨fun n a => Classical.choose (op_ex n a), fun ρ n a => Classical.choose_spec (op_ex n a) ρ⟩
  obtain ⟨g, hg⟩ : ∃ g : Nat → MOp, ∀ i x, z0[i]? = some x → g i = f x (i : Int) := ⟨fun i => f (z0.getD i 0) i, fun i x h => by simp [List.getD, h]⟩
  obtain ⟨wh, hw⟩ : ∃ wh : Nat → Int, ∀ i x, z0[i]? = some x → wh i = x % (7 + 1) := ⟨fun i => z0.getD i 0 % (7 + 1), fun i x h => by simp [List.getD, h]⟩
  refine in8 rfl rfl ?_
  refine W.seq (W.region (WL.as rfl rfl (WL.nil (W.seq (W.region (WL.as rfl rfl (WL.nil (W.seq (W.region (WL.as rfl rfl (WL.nil (W.seq (W.seq ?_)))))))))))))
  refine W.region (WL.as rfl rfl (WL.nil (W.block (W.nb (sz := 2) (W.nb (sz := 14) ?_)))))
  refine W.cutG2 (τ := Nat × List (Evt × Value) × List PK × Value × Value) (fun s => [(1, .int .i64 a1), (5, s.2.2.2.1), (6, s.2.2.2.2)])
    (fun s => [Buf 14 s.2.2.2.1 (s.2.1.flatMap evC), Buf 2 s.2.2.2.2 (s.2.2.1.flatMap (twoC .i64 .i64))]) (fun s ρ' => s.1 ≤ 40 ∧ Beg g wh s.1 s.2.1 s.2.2.1 ∧ SL s.2.2.2.1 s.2.1.length ∧ SL s.2.2.2.2 s.2.2.1.length) ?_ (fun cut0 => ?_)
  · rintro ⟨n, L, o, ve, vo⟩ ρ1 le1 ⟨hn, hB, t1, t2⟩
    dsimp only at hn hB t1 t2 ⊢
    have lL := hB.lL
    have lo := hB.lo
    refine W.freeze 0 rfl (by repeat' first | exact FL.nil | apply FL.cons) (fun ρ2 le2 in2 => ?_)
    refine W.freeze 0 rfl (by repeat' first | exact FL.nil | apply FL.cons) (fun ρ3 le3 in3 => ?_)
    have r1 := (in2.mono le3).ros
    have r2 := in3.ros
    have hS : ∀ p ∈ L, SL p.2 p.1.res.list.length := by
      intro p hp
      obtain ⟨j, hj⟩ := List.mem_iff_getElem?.1 hp
      have hjl := (List.getElem?_eq_some_iff.1 hj).1
      rw [hB.ca j (by omega)] at hj
      rw [← Option.some.inj hj]
      exact slZ
    obtain ⟨k, hk⟩ : ∃ k : Nat, a1 % (255 + 1) % ((o.length : Int) + 1) = (k : Int) := ⟨(a1 % (255 + 1) % ((o.length : Int) + 1)).toNat, (Int.toNat_of_nonneg (Int.emod_nonneg _ (by omega))).symm⟩
    have hkn : k ≤ n := by have := Int.emod_lt_of_pos (a1 % (255 + 1)) (show (0 : Int) < (o.length : Int) + 1 by omega); omega
    have hlk : (o.take k).length = k := by rw [List.length_take, lo]; omega
    have hr1 := hB.rpl hkn
    have hr2 := hB.rpl (Nat.le_refl n)
    rw [List.take_of_length_le (show o.length ≤ n by omega)] at hr2
    refine W.seq (W.region (WL.mv rfl rfl (WL.andI rfl rfl rfl (by decide) (WL.mv rfl rfl ?_))))
    refine WL.len (T := Ty) rfl rfl (by assumption) rfl ?_
    refine WL.addK rfl rfl rfl (wrap_i64 ⟨by omega, by omega⟩) (WL.remI rfl rfl rfl (by omega) (by omega) (WL.as rfl rfl (WL.nil (W.seq (W.region (WL.mv rfl rfl (WL.mv rfl rfl (WL.mv rfl rfl ?_))))))))
    rw [hk]
    refine WL.slTf (T := Ty) rfl rfl rfl rfl rfl rfl (by first | assumption | exact ROs.wide (by assumption)) (by intro a; rfl) (by first | assumption | omega | (simp; omega)) (fun u0 hu0 ru0 => ?_)
    refine WL.callF rfl rfl (fun x p d => replay_c _ _ _ _ _ (by first | assumption | exact ROs.wide (by assumption) | exact ROs.mono (by assumption) (eqh_at 0 rfl p d) | exact ros_at 0 rfl p d | exact ros_at 1 rfl p d | exact ros_at 2 rfl p d | exact ros_at 3 rfl p d | exact ros_at 4 rfl p d) (by assumption) (by first | assumption | omega) (by first | assumption | exact ROs.wide (by assumption) | exact ROs.mono (by assumption) (eqh_at 0 rfl p d) | exact ros_at 0 rfl p d | exact ros_at 1 rfl p d | exact ros_at 2 rfl p d | exact ros_at 3 rfl p d | exact ros_at 4 rfl p d) (by first | assumption | omega)) (fun r1 => ?_)
    refine WL.opens (α := (Value × Value × Value × List (Rst × Value))) (φ := fun x => r1 = .tuple #[.agg #[x.1, x.2.1, .int .i64 _], x.2.2.1] ∧ x.2.2.2.map Prod.fst = _ ∧ SL x.1 _ ∧ SL x.2.1 _ ∧ SL x.2.2.1 x.2.2.2.length ∧ (∀ p ∈ x.2.2.2, SL p.2 p.1.list.length)) (ps := fun x => [OMdl (.agg #[x.1, x.2.1, .int .i64 _]) _, Buf 3 x.2.2.1 (x.2.2.2.flatMap rstC), Own owRst x.2.2.2]) 0 rfl (fun h q => RepR.open q) (by repeat' first | exact FL.nil | apply FL.cons) ?_
    rintro ⟨sv1, iv1, u1, R1⟩ ⟨es1, er1, sa1, sb1, sc1, sd1⟩
    subst es1
    dsimp only [List.cons_append, List.nil_append] at er1 sa1 sb1 sc1 ⊢
    refine WL.mv rfl rfl (WL.extL rfl rfl rfl (WL.extL rfl rfl rfl ?_))
    refine WL.alF (T := Ty) rfl rfl (by repeat' first | exact FL.nil | apply FL.cons) (fun b2 => ?_)
    refine WL.stAO (T := Ty) (j := 0) rfl rfl rfl rfl (by repeat' first | exact AO.nil | apply AO.cons (by first | rfl | exact SL.one (by assumption))) rfl rfl (by repeat' first | exact FL.nil | apply FL.cons) (by repeat' first | exact FL.nil | apply FL.cons) ?_
    refine WL.as rfl rfl (WL.nil (W.seq (W.region (WL.mv rfl rfl (WL.mv rfl rfl ?_)))))
    refine WL.callF rfl rfl (fun x p d => replay_c _ _ _ _ _ (by first | assumption | exact ROs.wide (by assumption) | exact ROs.mono (by assumption) (eqh_at 0 rfl p d) | exact ros_at 0 rfl p d | exact ros_at 1 rfl p d | exact ros_at 2 rfl p d | exact ros_at 3 rfl p d | exact ros_at 4 rfl p d) (by assumption) (by first | assumption | omega) (by first | assumption | exact ROs.wide (by assumption) | exact ROs.mono (by assumption) (eqh_at 0 rfl p d) | exact ros_at 0 rfl p d | exact ros_at 1 rfl p d | exact ros_at 2 rfl p d | exact ros_at 3 rfl p d | exact ros_at 4 rfl p d) (by first | assumption | omega)) (fun r3 => ?_)
    refine WL.opens (α := (Value × Value × Value × List (Rst × Value))) (φ := fun x => r3 = .tuple #[.agg #[x.1, x.2.1, .int .i64 _], x.2.2.1] ∧ x.2.2.2.map Prod.fst = _ ∧ SL x.1 _ ∧ SL x.2.1 _ ∧ SL x.2.2.1 x.2.2.2.length ∧ (∀ p ∈ x.2.2.2, SL p.2 p.1.list.length)) (ps := fun x => [OMdl (.agg #[x.1, x.2.1, .int .i64 _]) _, Buf 3 x.2.2.1 (x.2.2.2.flatMap rstC), Own owRst x.2.2.2]) 0 rfl (fun h q => RepR.open q) (by repeat' first | exact FL.nil | apply FL.cons) ?_
    rintro ⟨sv3, iv3, u3, R3⟩ ⟨es3, er3, sa3, sb3, sc3, sd3⟩
    subst es3
    dsimp only [List.cons_append, List.nil_append] at er3 sa3 sb3 sc3 ⊢
    refine WL.mv rfl rfl (WL.extL rfl rfl rfl (WL.extL rfl rfl rfl ?_))
    refine WL.alF (T := Ty) rfl rfl (by repeat' first | exact FL.nil | apply FL.cons) (fun b4 => ?_)
    refine WL.stAO (T := Ty) (j := 0) rfl rfl rfl rfl (by repeat' first | exact AO.nil | apply AO.cons (by first | rfl | exact SL.one (by assumption))) rfl rfl (by repeat' first | exact FL.nil | apply FL.cons) (by repeat' first | exact FL.nil | apply FL.cons) ?_
    refine WL.as rfl rfl (WL.nil (W.seq (W.seq (W.region (WL.mv rfl rfl ?_)))))
    refine WL.len (T := Ty) rfl rfl (by assumption) rfl ?_
    refine WL.mv rfl rfl (WL.neq rfl rfl rfl (WL.mv rfl rfl ?_))
    simp only [hr1, hr2] at er1 er3 sa1 sb1 sa3 sb3 ⊢
    have hl1 : R1.length = k := by have := congrArg List.length er1; rwa [List.length_map, mr_len] at this
    have hl3 : R3.length = n := by have := congrArg List.length er3; rwa [List.length_map, mr_len] at this
    refine WL.gF rfl rfl (by omega) (WL.mv rfl rfl (WL.gF rfl rfl (by omega) ?_))
    refine WL.len (T := Ty) rfl rfl (by assumption) rfl ?_
    refine WL.gF rfl rfl (by omega) (WL.mv rfl rfl (WL.gF rfl rfl (by omega) ?_))
    refine WL.len (T := Ty) rfl rfl (by assumption) rfl ?_
    refine WL.gF rfl rfl (by omega) (WL.neq rfl rfl rfl (WL.pickFp rfl rfl (by omega) rfl (WL.nil (W.condpF rfl (by omega) (W.skip (W.seq (W.seq (W.region (WL.mv rfl rfl ?_)))))))))
    refine WL.len (T := Ty) rfl rfl (by assumption) rfl ?_
    refine WL.mv rfl rfl (WL.nil (W.block ?_))
    refine W.fit (Hs' := [OMdl (.agg #[sv3, iv3, _]) _, OMdl (.agg #[sv1, iv1, _]) _, Buf 3 u3 _, Own owRst R3, Buf 3 u1 _, Own owRst R1, box b2 _ _, box b4 _ _]) (by (repeat' first | exact Sel.nil | refine Sel.cons 0 rfl ?_ | refine Sel.cons 1 rfl ?_ | refine Sel.cons 2 rfl ?_ | refine Sel.cons 3 rfl ?_ | refine Sel.cons 4 rfl ?_ | refine Sel.cons 5 rfl ?_ | refine Sel.cons 6 rfl ?_ | refine Sel.cons 7 rfl ?_ | refine Sel.cons 8 rfl ?_ | refine Sel.cons 9 rfl ?_ | refine Sel.cons 10 rfl ?_ | refine Sel.cons 11 rfl ?_ | refine Sel.cons 12 rfl ?_ | refine Sel.cons 13 rfl ?_ | refine Sel.cons 14 rfl ?_ | refine Sel.cons 15 rfl ?_ | refine Sel.cons 16 rfl ?_ | refine Sel.cons 17 rfl ?_)) ?_
    refine W.freeze 0 rfl (by repeat' first | exact FL.nil | apply FL.cons) (fun ρ4 le4 in4 => ?_)
    refine W.freeze 0 rfl (by repeat' first | exact FL.nil | apply FL.cons) (fun ρ5 le5 in5 => ?_)
    refine W.freeze 0 rfl (by repeat' first | exact FL.nil | apply FL.cons) (fun ρ6 le6 in6 => ?_)
    refine W.freeze 0 rfl (by repeat' first | exact FL.nil | apply FL.cons) (fun ρ7 le7 in7 => ?_)
    refine W.freeze 0 rfl (by repeat' first | exact FL.nil | apply FL.cons) (fun ρ8 le8 in8 => ?_)
    refine W.freeze 0 rfl (by repeat' first | exact FL.nil | apply FL.cons) (fun ρ9 le9 in9 => ?_)
    have hMn := (((((in4.mono le5).mono le6).mono le7).mono le8).mono le9).rmdl
    have hMk := ((((in5.mono le6).mono le7).mono le8).mono le9).rmdl
    have rr3 := (((in6.mono le7).mono le8).mono le9).ros
    have rR3 := own_rst ((in7.mono le8).mono le9)
    have rr1 := (in8.mono le9).ros
    have rR1 := own_rst in9
    replace r1 := (((((r1.mono le4).mono le5).mono le6).mono le7).mono le8).mono le9
    clear in2 in3 in4 in5 in6 in7 in8 in9 r0 r2
    have l0 := evs_cells L
    have l1 := rst_cells R1
    have l3 := rst_cells R3
    have sve : SL ve L.length := t1
    refine W.loopR (σ := Nat × Value × Value) (fun s => [(5, ve), (8, .int .i64 (k : Int)), (9, pt b2 0), (10, u1), (11, pt b4 0), (12, u3), (84, .int .i64 (R3.length : Int)), (85, .int .i64 (s.1 : Int))])
      (fun s => [box b2 [s.2.1, s.2.2, .int .i64 (mr g (max k s.1)).1.next] 31, box b4 [sv3, iv3, .int .i64 (mr g n).1.next] 31]) (fun s ρ' => s.1 ≤ n ∧ RMdl ρ' (.agg #[s.2.1, s.2.2, .int .i64 (mr g (max k s.1)).1.next]) (mr g (max k s.1)).1 ∧ SL s.2.1 (mr g (max k s.1)).1.ser.length ∧ SL s.2.2 (mr g (max k s.1)).1.its.length) (fun s => n - s.1)
      (0, sv1, iv1) ⟨rfl, rfl, rfl, rfl, rfl, rfl, rfl, rfl, trivial⟩ (by rw [show max k (0, sv1, iv1).1 = k from Nat.max_eq_left (Nat.zero_le _)]) (by rw [show max k (0, sv1, iv1).1 = k from Nat.max_eq_left (Nat.zero_le _)]; exact ⟨Nat.zero_le _, hMk, sa1, sb1⟩) ?_
    clear hMk
    rintro ⟨i, sv, iv⟩ ρa lea ⟨hi, hM, q1, q2⟩ next
    dsimp only at hi hM q1 q2 next ⊢
    replace hMn := hMn.mono lea
    replace rr3 := rr3.mono lea
    replace rr1 := rr1.mono lea
    replace r1 := r1.mono lea
    by_cases hc : i < n
    · obtain ⟨⟨x3, l3'⟩, hx3⟩ : ∃ x, R3[i]? = some x := ⟨_, List.getElem?_eq_getElem (by omega)⟩
      have hv3 := mr_get g n i hc
      rw [← er3, List.getElem?_map, hx3] at hv3
      have hv3 : x3 = (doM (mr g i).1 (g i)).2 := Option.some.inj hv3
      have hrow3 : ((R3.flatMap rstC).drop (((i : Nat) : Int).toNat * 3)).take 3 = rstC (x3, l3') := flat_row (k := 3) (f := rstC) (fun _ => rfl) hx3
      unfold rstC at hrow3
      dsimp only at hrow3
      have hxl3 : x3.list.length ≤ 100000000 := by rw [hv3]; exact Nat.le_trans (rst_len (mr_inv g i) _) (by omega)
      have hq3 : RRst ρa (.agg #[.int .i64 x3.err, .int .i64 x3.iter, l3']) x3 := ⟨l3', rfl, (rR3 _ (List.mem_of_getElem? hx3)).mono lea⟩
      have sx3 : SL l3' x3.list.length := (rR3 _ (List.mem_of_getElem? hx3)).sl (flat_len sm_len _) (by omega)
      by_cases hik : i < k
      · have e1 : max k i = k := by omega
        have e2 : max k (i + 1) = k := by omega
        have nx := next ⟨i + 1, sv, iv⟩ ρa (Le.refl _)
        dsimp only at nx
        rw [e2] at nx
        rw [e1] at hM q1 q2 ⊢
        obtain ⟨⟨x1, l1'⟩, hx1⟩ : ∃ x, R1[i]? = some x := ⟨_, List.getElem?_eq_getElem (by omega)⟩
        have hv1 := mr_get g k i hik
        rw [← er1, List.getElem?_map, hx1] at hv1
        have hv1 : x1 = (doM (mr g i).1 (g i)).2 := Option.some.inj hv1
        have hx13 : x1 = x3 := by rw [hv1, hv3]
        subst hx13
        have hrow1 : ((R1.flatMap rstC).drop (((i : Nat) : Int).toNat * 3)).take 3 = rstC (x1, l1') := flat_row (k := 3) (f := rstC) (fun _ => rfl) hx1
        unfold rstC at hrow1
        dsimp only at hrow1
        have hq1 : RRst ρa (.agg #[.int .i64 x1.err, .int .i64 x1.iter, l1']) x1 := ⟨l1', rfl, (rR1 _ (List.mem_of_getElem? hx1)).mono lea⟩
        have sx1 : SL l1' x1.list.length := (rR1 _ (List.mem_of_getElem? hx1)).sl (flat_len sm_len _) (by omega)
        have hsm := sameRst_refl x1
        refine W.seq (W.region (WL.lss rfl rfl rfl (WL.nil (W.seq (W.condpT rfl (by omega) (W.skip (W.seq (W.block (W.seq (W.region (WL.mv rfl rfl (WL.as rfl rfl (WL.nil ?_)))))))))))))
        refine W.seq (W.seq (W.region (WL.mv rfl rfl (WL.mv rfl rfl (WL.lss rfl rfl rfl (WL.nil (W.condpT rfl (by omega) (W.seq (W.seq ?_)))))))))
        refine W.drawA 10 rfl (fun σ0 hσ0 dσ0 => ?_)
        have fσ0_0 := rb_at 0 rfl hσ0 dσ0
        have fσ0_1 := rb_at 1 rfl hσ0 dσ0
        refine WD.takeL 0 rfl (by decide +kernel) (WL.mv rfl rfl (WL.nilT (WD.takeL 1 rfl (by decide +kernel) (WL.mv rfl rfl (WL.nilT (WD.takeL 2 rfl (by decide +kernel) ?_))))))
        refine WL.ix (T := Ty) rfl rfl rfl (by assumption) rfl rfl (by omega) (by first | omega | decide +kernel) ?_
        refine WL.nilT (WD.takeL 3 rfl (by decide +kernel) ?_)
        refine WL.ldAR (T := Ty) rfl rfl rfl rfl (by first | assumption | exact ROs.wide (by assumption)) (by assumption) rfl ?_
        refine WL.nilT (WD.takeL 4 rfl (by decide +kernel) (WL.mv rfl rfl (WL.nilT (WD.takeL 5 rfl (by decide +kernel) (WL.mv rfl rfl (WL.nilT (WD.takeL 6 rfl (by decide +kernel) ?_)))))))
        refine WL.ix (T := Ty) rfl rfl rfl (by assumption) rfl rfl (by omega) (by first | omega | decide +kernel) ?_
        refine WL.nilT (WD.takeL 7 rfl (by decide +kernel) ?_)
        refine WL.ldAR (T := Ty) rfl rfl rfl rfl (by first | assumption | exact ROs.wide (by assumption)) (by assumption) rfl ?_
        refine WL.nilT (WD.oneL 8 rfl (by decide +kernel) ?_)
        refine WL.callV rfl rfl (fun x p d => rsameR_e _ _ _ _ _ _ (by first | assumption | exact RRst.wide (by assumption) | exact RRst.mono (by assumption) (eqh_at 0 rfl p d) | exact RRst.mono (In.rrst (by assumption)) (eqh_at 0 rfl p d) | exact (in_at 0 rfl p d).rrst | exact (in_at 1 rfl p d).rrst | exact (in_at 2 rfl p d).rrst | exact (in_at 3 rfl p d).rrst | exact (in_at 4 rfl p d).rrst | exact (in_at 5 rfl p d).rrst | exact (in_at 6 rfl p d).rrst | exact (in_at 7 rfl p d).rrst | exact (in_at 8 rfl p d).rrst | exact (in_at 9 rfl p d).rrst | exact (in_at 10 rfl p d).rrst | exact (in_at 11 rfl p d).rrst | exact (in_at 12 rfl p d).rrst | exact (in_at 13 rfl p d).rrst | exact (in_at 14 rfl p d).rrst | exact (in_at 15 rfl p d).rrst | exact (in_at 16 rfl p d).rrst | exact (in_at 17 rfl p d).rrst | exact (in_at 18 rfl p d).rrst | exact (in_at 19 rfl p d).rrst | exact (in_at 20 rfl p d).rrst | exact (in_at 21 rfl p d).rrst | exact (in_at 22 rfl p d).rrst | exact (in_at 23 rfl p d).rrst | exact (in_at 24 rfl p d).rrst | exact (in_at 25 rfl p d).rrst | exact (in_at 26 rfl p d).rrst | exact (in_at 27 rfl p d).rrst | exact (in_at 28 rfl p d).rrst | exact (in_at 29 rfl p d).rrst) (by first | assumption | exact RRst.wide (by assumption) | exact RRst.mono (by assumption) (eqh_at 0 rfl p d) | exact RRst.mono (In.rrst (by assumption)) (eqh_at 0 rfl p d) | exact (in_at 0 rfl p d).rrst | exact (in_at 1 rfl p d).rrst | exact (in_at 2 rfl p d).rrst | exact (in_at 3 rfl p d).rrst | exact (in_at 4 rfl p d).rrst | exact (in_at 5 rfl p d).rrst | exact (in_at 6 rfl p d).rrst | exact (in_at 7 rfl p d).rrst | exact (in_at 8 rfl p d).rrst | exact (in_at 9 rfl p d).rrst | exact (in_at 10 rfl p d).rrst | exact (in_at 11 rfl p d).rrst | exact (in_at 12 rfl p d).rrst | exact (in_at 13 rfl p d).rrst | exact (in_at 14 rfl p d).rrst | exact (in_at 15 rfl p d).rrst | exact (in_at 16 rfl p d).rrst | exact (in_at 17 rfl p d).rrst | exact (in_at 18 rfl p d).rrst | exact (in_at 19 rfl p d).rrst | exact (in_at 20 rfl p d).rrst | exact (in_at 21 rfl p d).rrst | exact (in_at 22 rfl p d).rrst | exact (in_at 23 rfl p d).rrst | exact (in_at 24 rfl p d).rrst | exact (in_at 25 rfl p d).rrst | exact (in_at 26 rfl p d).rrst | exact (in_at 27 rfl p d).rrst | exact (in_at 28 rfl p d).rrst | exact (in_at 29 rfl p d).rrst) (by first | assumption | omega | decide) (by assumption)) ?_
        refine WL.nilE (WD.takeL 9 rfl (by decide +kernel) (WL.not rfl rfl (WL.nilT ?_)))
        refine WD.doneF hσ0 (by decide +kernel) (by repeat' first | exact FL.nil | apply FL.cons) ?_
        refine W.condF rfl (W.skip (W.exit rfl (W.region (WL.addK rfl rfl rfl (wrap_i64 ⟨by omega, by omega⟩) (WL.mv rfl rfl (WL.nil ?_))))))
        refine W.fit (Hs' := [box b2 _ _, box b4 _ _]) (by (repeat' first | exact Sel.nil | refine Sel.cons 0 rfl ?_ | refine Sel.cons 1 rfl ?_ | refine Sel.cons 2 rfl ?_ | refine Sel.cons 3 rfl ?_ | refine Sel.cons 4 rfl ?_ | refine Sel.cons 5 rfl ?_ | refine Sel.cons 6 rfl ?_ | refine Sel.cons 7 rfl ?_ | refine Sel.cons 8 rfl ?_ | refine Sel.cons 9 rfl ?_ | refine Sel.cons 10 rfl ?_ | refine Sel.cons 11 rfl ?_ | refine Sel.cons 12 rfl ?_ | refine Sel.cons 13 rfl ?_ | refine Sel.cons 14 rfl ?_ | refine Sel.cons 15 rfl ?_ | refine Sel.cons 16 rfl ?_ | refine Sel.cons 17 rfl ?_)) ?_
        refine W.sub ?_ (nx ⟨hc, hM, q1, q2⟩ (by omega))
        exact ⟨rfl, rfl, rfl, rfl, rfl, rfl, rfl, rfl, trivial⟩
      · have e1 : max k i = i := by omega
        have e2 : max k (i + 1) = i + 1 := by omega
        have nx := fun (sv' iv' : Value) (ρb : Hp) => next ⟨i + 1, sv', iv'⟩ ρb
        dsimp only at nx
        simp only [e2, mr_succ] at nx
        rw [e1] at hM q1 q2 ⊢
        have hop : ((L.flatMap evC).drop (((i : Nat) : Int).toNat * 14 + 3)).take 8 = opC (g i) := by
          have h := flat_row ev_len (hB.ca i hc)
          have h2 := congrArg (fun l => (l.drop 3).take 8) h
          simp only [List.drop_take, List.take_take, List.drop_drop] at h2
          exact h2
        unfold opC at hop
        have hI := mr_inv g i
        rw [hv3] at hq3 hrow3 sx3 hxl3
        clear hv3
        refine W.seq (W.region (WL.lss rfl rfl rfl (WL.nil (W.seq (W.condpT rfl (by omega) (W.skip (W.seq (W.block (W.seq (W.region (WL.mv rfl rfl (WL.as rfl rfl (WL.nil ?_)))))))))))))
        refine W.seq (W.seq (W.region (WL.mv rfl rfl (WL.mv rfl rfl (WL.lss rfl rfl rfl (WL.nil (W.condpF rfl (by omega) (W.skip (W.seq ?_)))))))))
        refine W.cutG (τ := Nat × Nat × Value × Value × Value) (fun s => [(5, ve), (8, .int .i64 (k : Int)), (9, pt b2 0), (10, u1), (11, pt b4 0), (12, u3), (84, .int .i64 (R3.length : Int)), (85, .int .i64 (i : Int)), (13, .int .i64 (i : Int)), (14, pt s.1 0), (15, pt s.2.1 0)])
          (fun s => [OMdl (.agg #[s.2.2.1, s.2.2.2.1, .int .i64 (doM (mr g i).1 (g i)).1.next]) (doM (mr g i).1 (g i)).1, ORst (.agg #[.int .i64 (doM (mr g i).1 (g i)).2.err, .int .i64 (doM (mr g i).1 (g i)).2.iter, s.2.2.2.2]) (doM (mr g i).1 (g i)).2, box b2 [sv, iv, .int .i64 (mr g i).1.next] 31, box b4 [sv3, iv3, .int .i64 (mr g n).1.next] 31, box s.1 [s.2.2.1, s.2.2.2.1, .int .i64 (doM (mr g i).1 (g i)).1.next] 31, box s.2.1 [.int .i64 (doM (mr g i).1 (g i)).2.err, .int .i64 (doM (mr g i).1 (g i)).2.iter, s.2.2.2.2] 34])
          (fun s ρ' => SL s.2.2.1 (doM (mr g i).1 (g i)).1.ser.length ∧ SL s.2.2.2.1 (doM (mr g i).1 (g i)).1.its.length ∧ SL s.2.2.2.2 (doM (mr g i).1 (g i)).2.list.length) ?_ (fun cut1 => ?_)
        · rintro ⟨bm, br, sv', iv', lv'⟩ ρb leb ⟨p1, p2, p3⟩
          dsimp only at p1 p2 p3 ⊢
          refine W.freeze 0 rfl (by repeat' first | exact FL.nil | apply FL.cons) (fun ρc lec inc => ?_)
          refine W.freeze 0 rfl (by repeat' first | exact FL.nil | apply FL.cons) (fun ρd led ind => ?_)
          have hM2 := (inc.mono led).rmdl
          have hq2 := ind.rrst
          replace hq3 := ((hq3.mono leb).mono lec).mono led
          replace rr3 := ((rr3.mono leb).mono lec).mono led
          have hsm := sameRst_refl (doM (mr g i).1 (g i)).2
          refine W.seq (W.seq ?_)
          refine W.drawA 7 rfl (fun σ0 hσ0 dσ0 => ?_)
          have fσ0_0 := rb_at 0 rfl hσ0 dσ0
          have fσ0_1 := rb_at 1 rfl hσ0 dσ0
          have fσ0_2 := rb_at 2 rfl hσ0 dσ0
          have fσ0_3 := rb_at 3 rfl hσ0 dσ0
          refine WD.takeL 0 rfl (by decide +kernel) ?_
          refine WL.ldABF (T := Ty) rfl rfl rfl rfl (by first | assumption | exact RB.wide (by assumption) | exact In.rb (by assumption)) rfl (by repeat' first | exact FL.nil | apply FL.cons) ?_
          refine WL.nilT (WD.takeL 1 rfl (by decide +kernel) (WL.mv rfl rfl (WL.nilT (WD.takeL 2 rfl (by decide +kernel) (WL.mv rfl rfl (WL.nilT (WD.takeL 3 rfl (by decide +kernel) ?_)))))))
          refine WL.ix (T := Ty) rfl rfl rfl (by assumption) rfl rfl (by omega) (by first | omega | decide +kernel) ?_
          refine WL.nilT (WD.takeL 4 rfl (by decide +kernel) ?_)
          refine WL.ldAR (T := Ty) rfl rfl rfl rfl (by first | assumption | exact ROs.wide (by assumption)) (by assumption) rfl ?_
          refine WL.nilT (WD.oneL 5 rfl (by decide +kernel) ?_)
          refine WL.callV rfl rfl (fun x p d => rsameR_e _ _ _ _ _ _ (by first | assumption | exact RRst.wide (by assumption) | exact RRst.mono (by assumption) (eqh_at 0 rfl p d) | exact RRst.mono (In.rrst (by assumption)) (eqh_at 0 rfl p d) | exact (in_at 0 rfl p d).rrst | exact (in_at 1 rfl p d).rrst | exact (in_at 2 rfl p d).rrst | exact (in_at 3 rfl p d).rrst | exact (in_at 4 rfl p d).rrst | exact (in_at 5 rfl p d).rrst | exact (in_at 6 rfl p d).rrst | exact (in_at 7 rfl p d).rrst | exact (in_at 8 rfl p d).rrst | exact (in_at 9 rfl p d).rrst | exact (in_at 10 rfl p d).rrst | exact (in_at 11 rfl p d).rrst | exact (in_at 12 rfl p d).rrst | exact (in_at 13 rfl p d).rrst | exact (in_at 14 rfl p d).rrst | exact (in_at 15 rfl p d).rrst | exact (in_at 16 rfl p d).rrst | exact (in_at 17 rfl p d).rrst | exact (in_at 18 rfl p d).rrst | exact (in_at 19 rfl p d).rrst | exact (in_at 20 rfl p d).rrst | exact (in_at 21 rfl p d).rrst | exact (in_at 22 rfl p d).rrst | exact (in_at 23 rfl p d).rrst | exact (in_at 24 rfl p d).rrst | exact (in_at 25 rfl p d).rrst | exact (in_at 26 rfl p d).rrst | exact (in_at 27 rfl p d).rrst | exact (in_at 28 rfl p d).rrst | exact (in_at 29 rfl p d).rrst) (by first | assumption | exact RRst.wide (by assumption) | exact RRst.mono (by assumption) (eqh_at 0 rfl p d) | exact RRst.mono (In.rrst (by assumption)) (eqh_at 0 rfl p d) | exact (in_at 0 rfl p d).rrst | exact (in_at 1 rfl p d).rrst | exact (in_at 2 rfl p d).rrst | exact (in_at 3 rfl p d).rrst | exact (in_at 4 rfl p d).rrst | exact (in_at 5 rfl p d).rrst | exact (in_at 6 rfl p d).rrst | exact (in_at 7 rfl p d).rrst | exact (in_at 8 rfl p d).rrst | exact (in_at 9 rfl p d).rrst | exact (in_at 10 rfl p d).rrst | exact (in_at 11 rfl p d).rrst | exact (in_at 12 rfl p d).rrst | exact (in_at 13 rfl p d).rrst | exact (in_at 14 rfl p d).rrst | exact (in_at 15 rfl p d).rrst | exact (in_at 16 rfl p d).rrst | exact (in_at 17 rfl p d).rrst | exact (in_at 18 rfl p d).rrst | exact (in_at 19 rfl p d).rrst | exact (in_at 20 rfl p d).rrst | exact (in_at 21 rfl p d).rrst | exact (in_at 22 rfl p d).rrst | exact (in_at 23 rfl p d).rrst | exact (in_at 24 rfl p d).rrst | exact (in_at 25 rfl p d).rrst | exact (in_at 26 rfl p d).rrst | exact (in_at 27 rfl p d).rrst | exact (in_at 28 rfl p d).rrst | exact (in_at 29 rfl p d).rrst) (by first | assumption | omega | decide) (by assumption)) ?_
          refine WL.nilE (WD.takeL 6 rfl (by decide +kernel) (WL.not rfl rfl (WL.nilT ?_)))
          refine WD.doneF hσ0 (by decide +kernel) (by repeat' first | exact FL.nil | apply FL.cons) ?_
          refine W.condF rfl (W.skip (W.region ?_))
          refine WL.ldAF (T := Ty) (j := 2) rfl rfl rfl rfl rfl rfl (by repeat' first | exact FL.nil | apply FL.cons) ?_
          refine WL.stAO (T := Ty) (j := 0) rfl rfl rfl rfl (by repeat' first | exact AO.nil | apply AO.cons (by first | rfl | exact SL.one (by assumption))) rfl rfl (by repeat' first | exact FL.nil | apply FL.cons) (by repeat' first | exact FL.nil | apply FL.cons) ?_
          refine WL.nil (W.inBlock (W.region (WL.addK rfl rfl rfl (wrap_i64 ⟨by omega, by omega⟩) (WL.mv rfl rfl (WL.nil ?_)))))
          refine W.fit (Hs' := [box b2 _ _, box b4 _ _]) (by (repeat' first | exact Sel.nil | refine Sel.cons 0 rfl ?_ | refine Sel.cons 1 rfl ?_ | refine Sel.cons 2 rfl ?_ | refine Sel.cons 3 rfl ?_ | refine Sel.cons 4 rfl ?_ | refine Sel.cons 5 rfl ?_ | refine Sel.cons 6 rfl ?_ | refine Sel.cons 7 rfl ?_ | refine Sel.cons 8 rfl ?_ | refine Sel.cons 9 rfl ?_ | refine Sel.cons 10 rfl ?_ | refine Sel.cons 11 rfl ?_ | refine Sel.cons 12 rfl ?_ | refine Sel.cons 13 rfl ?_ | refine Sel.cons 14 rfl ?_ | refine Sel.cons 15 rfl ?_ | refine Sel.cons 16 rfl ?_ | refine Sel.cons 17 rfl ?_)) ?_
          refine W.sub ?_ (nx sv' iv' ρd (fun b o h => led b o (lec b o (leb b o h))) ⟨hc, hM2, p1, p2⟩ (by omega))
          exact ⟨rfl, rfl, rfl, rfl, rfl, rfl, rfl, rfl, trivial⟩
        · refine W.drawA 13 rfl (fun σ0 hσ0 dσ0 => ?_)
          have fσ0_0 := rb_at 0 rfl hσ0 dσ0
          have fσ0_1 := rb_at 1 rfl hσ0 dσ0
          refine WD.takeL 0 rfl (by decide +kernel) ?_
          refine WL.ldABF (T := Ty) rfl rfl rfl rfl (by first | assumption | exact RB.wide (by assumption) | exact In.rb (by assumption)) rfl (by repeat' first | exact FL.nil | apply FL.cons) ?_
          refine WL.nilT (WD.takeL 1 rfl (by decide +kernel) (WL.mv rfl rfl (WL.nilT (WD.takeL 2 rfl (by decide +kernel) (WL.mv rfl rfl (WL.nilT (WD.takeL 3 rfl (by decide +kernel) ?_)))))))
          refine WL.ix (T := Ty) rfl rfl rfl (by assumption) rfl rfl (by omega) (by first | omega | decide +kernel) ?_
          refine WL.nilT (WD.takeL 4 rfl (by decide +kernel) (WL.faEN (T := Ty) (off' := 3) rfl rfl rfl rfl rfl rfl rfl (WL.nilT (WD.takeL 5 rfl (by decide +kernel) ?_))))
          refine WL.ldAR (T := Ty) rfl rfl rfl rfl (by first | assumption | exact ROs.wide (by assumption)) (by assumption) rfl ?_
          refine WL.nilT ?_
          refine WD.threeL 6 10 11 rfl rfl rfl (by decide +kernel) ?_ ?_ ?_
          · refine WL.callF rfl rfl (fun x p d => doRX_c _ _ _ _ _ _ _ _ _ _ _ _ (by first | assumption | exact RMdl.wide (by assumption) | exact RMdl.mono (by assumption) (eqh_at 0 rfl p d) | exact RMdl.mono (In.rmdl (by assumption)) (eqh_at 0 rfl p d) | exact (in_at 0 rfl p d).rmdl | exact (in_at 1 rfl p d).rmdl | exact (in_at 2 rfl p d).rmdl | exact (in_at 3 rfl p d).rmdl | exact (in_at 4 rfl p d).rmdl | exact (in_at 5 rfl p d).rmdl | exact (in_at 6 rfl p d).rmdl | exact (in_at 7 rfl p d).rmdl | exact (in_at 8 rfl p d).rmdl | exact (in_at 9 rfl p d).rmdl | exact (in_at 10 rfl p d).rmdl | exact (in_at 11 rfl p d).rmdl | exact (in_at 12 rfl p d).rmdl | exact (in_at 13 rfl p d).rmdl | exact (in_at 14 rfl p d).rmdl | exact (in_at 15 rfl p d).rmdl | exact (in_at 16 rfl p d).rmdl | exact (in_at 17 rfl p d).rmdl | exact (in_at 18 rfl p d).rmdl | exact (in_at 19 rfl p d).rmdl | exact (in_at 20 rfl p d).rmdl | exact (in_at 21 rfl p d).rmdl | exact (in_at 22 rfl p d).rmdl | exact (in_at 23 rfl p d).rmdl | exact (in_at 24 rfl p d).rmdl | exact (in_at 25 rfl p d).rmdl | exact (in_at 26 rfl p d).rmdl | exact (in_at 27 rfl p d).rmdl | exact (in_at 28 rfl p d).rmdl | exact (in_at 29 rfl p d).rmdl) (by assumption) (by first | assumption | omega)) (fun r5 => ?_)
            refine WL.opens (α := (Value × Value × Value)) (φ := fun x => r5 = .tuple #[.agg #[x.1, x.2.1, .int .i64 _], .agg #[.int .i64 _, .int .i64 _, x.2.2]] ∧ SL x.1 _ ∧ SL x.2.1 _ ∧ SL x.2.2 _) (ps := fun x => [OMdl (.agg #[x.1, x.2.1, .int .i64 _]) _, ORst (.agg #[.int .i64 _, .int .i64 _, x.2.2]) _]) 0 rfl (fun h q => DoR.open q) (by repeat' first | exact FL.nil | apply FL.cons) ?_
            rintro ⟨sv5, iv5, u5⟩ ⟨es5, sa5, sb5, sc5⟩
            subst es5
            dsimp only [List.cons_append, List.nil_append] at sa5 sb5 sc5 ⊢
            refine WL.nilSS (WD.takeL 7 rfl (by decide +kernel) (WL.mv rfl rfl (WL.nilT (WD.takeL 8 rfl (by decide +kernel) (WL.extL rfl rfl rfl (WL.nilT (WD.takeL 9 rfl (by decide +kernel) (WL.extL rfl rfl rfl (WL.nilT ?_)))))))))
            refine WD.twoL 10 11 rfl rfl (by decide +kernel) ?_ ?_
            · refine WL.alF (T := Ty) rfl rfl (by repeat' first | exact FL.nil | apply FL.cons) (fun b6 => ?_)
              refine WL.nilS (WD.oneL 11 rfl (by decide +kernel) ?_)
              refine WL.alF (T := Ty) rfl rfl (by repeat' first | exact FL.nil | apply FL.cons) (fun b7 => ?_)
              refine WL.nilS (WD.oneL 12 rfl (by decide +kernel) ?_)
              refine WL.stAO (T := Ty) (j := 2) rfl rfl rfl rfl (by repeat' first | exact AO.nil | apply AO.cons (by first | rfl | exact SL.one (by assumption))) rfl rfl (by repeat' first | exact FL.nil | apply FL.cons) (by repeat' first | exact FL.nil | apply FL.cons) ?_
              refine WL.nilE ?_
              refine WD.lastG hσ0 (by decide +kernel) (by repeat' first | exact FL.nil | apply FL.cons) rfl (by repeat' first | exact FL.nil | apply FL.cons) ?_
              refine WL.stAO (T := Ty) (j := 2) rfl rfl rfl rfl (by repeat' first | exact AO.nil | apply AO.cons (by first | rfl | exact SL.one (by assumption))) rfl rfl (by repeat' first | exact FL.nil | apply FL.cons) (by repeat' first | exact FL.nil | apply FL.cons) ?_
              refine WL.nil ?_
              refine W.fit (Hs' := [box b2 _ _, box b4 _ _, OMdl _ _, ORst _ _, box _ _ 31, box _ _ 34]) (by (repeat' first | exact Sel.nil | refine Sel.cons 0 rfl ?_ | refine Sel.cons 1 rfl ?_ | refine Sel.cons 2 rfl ?_ | refine Sel.cons 3 rfl ?_ | refine Sel.cons 4 rfl ?_ | refine Sel.cons 5 rfl ?_ | refine Sel.cons 6 rfl ?_ | refine Sel.cons 7 rfl ?_ | refine Sel.cons 8 rfl ?_ | refine Sel.cons 9 rfl ?_ | refine Sel.cons 10 rfl ?_ | refine Sel.cons 11 rfl ?_ | refine Sel.cons 12 rfl ?_ | refine Sel.cons 13 rfl ?_ | refine Sel.cons 14 rfl ?_ | refine Sel.cons 15 rfl ?_ | refine Sel.cons 16 rfl ?_ | refine Sel.cons 17 rfl ?_)) ?_
              refine W.fit (Hs' := [OMdl _ _, ORst _ _, box b2 _ _, box b4 _ _, box _ _ 31, box _ _ 34]) (by (repeat' first | exact Sel.nil | refine Sel.cons 0 rfl ?_ | refine Sel.cons 1 rfl ?_ | refine Sel.cons 2 rfl ?_ | refine Sel.cons 3 rfl ?_ | refine Sel.cons 4 rfl ?_ | refine Sel.cons 5 rfl ?_ | refine Sel.cons 6 rfl ?_ | refine Sel.cons 7 rfl ?_ | refine Sel.cons 8 rfl ?_ | refine Sel.cons 9 rfl ?_ | refine Sel.cons 10 rfl ?_ | refine Sel.cons 11 rfl ?_ | refine Sel.cons 12 rfl ?_ | refine Sel.cons 13 rfl ?_ | refine Sel.cons 14 rfl ?_ | refine Sel.cons 15 rfl ?_ | refine Sel.cons 16 rfl ?_ | refine Sel.cons 17 rfl ?_)) ?_
              refine W.sub ?_ (cut1 ⟨_, _, _, _, _⟩ ρa (Le.refl _) ⟨by assumption, by assumption, by assumption⟩)
              exact ⟨rfl, rfl, rfl, rfl, rfl, rfl, rfl, rfl, rfl, rfl, rfl, trivial⟩
            · refine WL.alF (T := Ty) rfl rfl (by repeat' first | exact FL.nil | apply FL.cons) (fun b6 => ?_)
              refine WL.nilS (WD.oneL 10 rfl (by decide +kernel) ?_)
              refine WL.alF (T := Ty) rfl rfl (by repeat' first | exact FL.nil | apply FL.cons) (fun b7 => ?_)
              refine WL.nilS (WD.oneL 12 rfl (by decide +kernel) ?_)
              refine WL.stAO (T := Ty) (j := 1) rfl rfl rfl rfl (by repeat' first | exact AO.nil | apply AO.cons (by first | rfl | exact SL.one (by assumption))) rfl rfl (by repeat' first | exact FL.nil | apply FL.cons) (by repeat' first | exact FL.nil | apply FL.cons) ?_
              refine WL.nilE ?_
              refine WD.lastG hσ0 (by decide +kernel) (by repeat' first | exact FL.nil | apply FL.cons) rfl (by repeat' first | exact FL.nil | apply FL.cons) ?_
              refine WL.stAO (T := Ty) (j := 3) rfl rfl rfl rfl (by repeat' first | exact AO.nil | apply AO.cons (by first | rfl | exact SL.one (by assumption))) rfl rfl (by repeat' first | exact FL.nil | apply FL.cons) (by repeat' first | exact FL.nil | apply FL.cons) ?_
              refine WL.nil ?_
              refine W.fit (Hs' := [box b2 _ _, box b4 _ _, OMdl _ _, ORst _ _, box _ _ 31, box _ _ 34]) (by (repeat' first | exact Sel.nil | refine Sel.cons 0 rfl ?_ | refine Sel.cons 1 rfl ?_ | refine Sel.cons 2 rfl ?_ | refine Sel.cons 3 rfl ?_ | refine Sel.cons 4 rfl ?_ | refine Sel.cons 5 rfl ?_ | refine Sel.cons 6 rfl ?_ | refine Sel.cons 7 rfl ?_ | refine Sel.cons 8 rfl ?_ | refine Sel.cons 9 rfl ?_ | refine Sel.cons 10 rfl ?_ | refine Sel.cons 11 rfl ?_ | refine Sel.cons 12 rfl ?_ | refine Sel.cons 13 rfl ?_ | refine Sel.cons 14 rfl ?_ | refine Sel.cons 15 rfl ?_ | refine Sel.cons 16 rfl ?_ | refine Sel.cons 17 rfl ?_)) ?_
              refine W.fit (Hs' := [OMdl _ _, ORst _ _, box b2 _ _, box b4 _ _, box _ _ 31, box _ _ 34]) (by (repeat' first | exact Sel.nil | refine Sel.cons 0 rfl ?_ | refine Sel.cons 1 rfl ?_ | refine Sel.cons 2 rfl ?_ | refine Sel.cons 3 rfl ?_ | refine Sel.cons 4 rfl ?_ | refine Sel.cons 5 rfl ?_ | refine Sel.cons 6 rfl ?_ | refine Sel.cons 7 rfl ?_ | refine Sel.cons 8 rfl ?_ | refine Sel.cons 9 rfl ?_ | refine Sel.cons 10 rfl ?_ | refine Sel.cons 11 rfl ?_ | refine Sel.cons 12 rfl ?_ | refine Sel.cons 13 rfl ?_ | refine Sel.cons 14 rfl ?_ | refine Sel.cons 15 rfl ?_ | refine Sel.cons 16 rfl ?_ | refine Sel.cons 17 rfl ?_)) ?_
              refine W.sub ?_ (cut1 ⟨_, _, _, _, _⟩ ρa (Le.refl _) ⟨by assumption, by assumption, by assumption⟩)
              exact ⟨rfl, rfl, rfl, rfl, rfl, rfl, rfl, rfl, rfl, rfl, rfl, trivial⟩
          · refine WL.alF (T := Ty) rfl rfl (by repeat' first | exact FL.nil | apply FL.cons) (fun b5 => ?_)
            refine WL.nilS ?_
            refine WD.twoL 6 11 rfl rfl (by decide +kernel) ?_ ?_
            · refine WL.callF rfl rfl (fun x p d => doRX_c _ _ _ _ _ _ _ _ _ _ _ _ (by first | assumption | exact RMdl.wide (by assumption) | exact RMdl.mono (by assumption) (eqh_at 0 rfl p d) | exact RMdl.mono (In.rmdl (by assumption)) (eqh_at 0 rfl p d) | exact (in_at 0 rfl p d).rmdl | exact (in_at 1 rfl p d).rmdl | exact (in_at 2 rfl p d).rmdl | exact (in_at 3 rfl p d).rmdl | exact (in_at 4 rfl p d).rmdl | exact (in_at 5 rfl p d).rmdl | exact (in_at 6 rfl p d).rmdl | exact (in_at 7 rfl p d).rmdl | exact (in_at 8 rfl p d).rmdl | exact (in_at 9 rfl p d).rmdl | exact (in_at 10 rfl p d).rmdl | exact (in_at 11 rfl p d).rmdl | exact (in_at 12 rfl p d).rmdl | exact (in_at 13 rfl p d).rmdl | exact (in_at 14 rfl p d).rmdl | exact (in_at 15 rfl p d).rmdl | exact (in_at 16 rfl p d).rmdl | exact (in_at 17 rfl p d).rmdl | exact (in_at 18 rfl p d).rmdl | exact (in_at 19 rfl p d).rmdl | exact (in_at 20 rfl p d).rmdl | exact (in_at 21 rfl p d).rmdl | exact (in_at 22 rfl p d).rmdl | exact (in_at 23 rfl p d).rmdl | exact (in_at 24 rfl p d).rmdl | exact (in_at 25 rfl p d).rmdl | exact (in_at 26 rfl p d).rmdl | exact (in_at 27 rfl p d).rmdl | exact (in_at 28 rfl p d).rmdl | exact (in_at 29 rfl p d).rmdl) (by assumption) (by first | assumption | omega)) (fun r6 => ?_)
              refine WL.opens (α := (Value × Value × Value)) (φ := fun x => r6 = .tuple #[.agg #[x.1, x.2.1, .int .i64 _], .agg #[.int .i64 _, .int .i64 _, x.2.2]] ∧ SL x.1 _ ∧ SL x.2.1 _ ∧ SL x.2.2 _) (ps := fun x => [OMdl (.agg #[x.1, x.2.1, .int .i64 _]) _, ORst (.agg #[.int .i64 _, .int .i64 _, x.2.2]) _]) 0 rfl (fun h q => DoR.open q) (by repeat' first | exact FL.nil | apply FL.cons) ?_
              rintro ⟨sv6, iv6, u6⟩ ⟨es6, sa6, sb6, sc6⟩
              subst es6
              dsimp only [List.cons_append, List.nil_append] at sa6 sb6 sc6 ⊢
              refine WL.nilSS (WD.takeL 7 rfl (by decide +kernel) (WL.mv rfl rfl (WL.nilT (WD.takeL 8 rfl (by decide +kernel) (WL.extL rfl rfl rfl (WL.nilT (WD.takeL 9 rfl (by decide +kernel) (WL.extL rfl rfl rfl (WL.nilT (WD.oneL 11 rfl (by decide +kernel) ?_))))))))))
              refine WL.alF (T := Ty) rfl rfl (by repeat' first | exact FL.nil | apply FL.cons) (fun b7 => ?_)
              refine WL.nilS (WD.oneL 12 rfl (by decide +kernel) ?_)
              refine WL.stAO (T := Ty) (j := 4) rfl rfl rfl rfl (by repeat' first | exact AO.nil | apply AO.cons (by first | rfl | exact SL.one (by assumption))) rfl rfl (by repeat' first | exact FL.nil | apply FL.cons) (by repeat' first | exact FL.nil | apply FL.cons) ?_
              refine WL.nilE ?_
              refine WD.lastG hσ0 (by decide +kernel) (by repeat' first | exact FL.nil | apply FL.cons) rfl (by repeat' first | exact FL.nil | apply FL.cons) ?_
              refine WL.stAO (T := Ty) (j := 2) rfl rfl rfl rfl (by repeat' first | exact AO.nil | apply AO.cons (by first | rfl | exact SL.one (by assumption))) rfl rfl (by repeat' first | exact FL.nil | apply FL.cons) (by repeat' first | exact FL.nil | apply FL.cons) ?_
              refine WL.nil ?_
              refine W.fit (Hs' := [box b2 _ _, box b4 _ _, OMdl _ _, ORst _ _, box _ _ 31, box _ _ 34]) (by (repeat' first | exact Sel.nil | refine Sel.cons 0 rfl ?_ | refine Sel.cons 1 rfl ?_ | refine Sel.cons 2 rfl ?_ | refine Sel.cons 3 rfl ?_ | refine Sel.cons 4 rfl ?_ | refine Sel.cons 5 rfl ?_ | refine Sel.cons 6 rfl ?_ | refine Sel.cons 7 rfl ?_ | refine Sel.cons 8 rfl ?_ | refine Sel.cons 9 rfl ?_ | refine Sel.cons 10 rfl ?_ | refine Sel.cons 11 rfl ?_ | refine Sel.cons 12 rfl ?_ | refine Sel.cons 13 rfl ?_ | refine Sel.cons 14 rfl ?_ | refine Sel.cons 15 rfl ?_ | refine Sel.cons 16 rfl ?_ | refine Sel.cons 17 rfl ?_)) ?_
              refine W.fit (Hs' := [OMdl _ _, ORst _ _, box b2 _ _, box b4 _ _, box _ _ 31, box _ _ 34]) (by (repeat' first | exact Sel.nil | refine Sel.cons 0 rfl ?_ | refine Sel.cons 1 rfl ?_ | refine Sel.cons 2 rfl ?_ | refine Sel.cons 3 rfl ?_ | refine Sel.cons 4 rfl ?_ | refine Sel.cons 5 rfl ?_ | refine Sel.cons 6 rfl ?_ | refine Sel.cons 7 rfl ?_ | refine Sel.cons 8 rfl ?_ | refine Sel.cons 9 rfl ?_ | refine Sel.cons 10 rfl ?_ | refine Sel.cons 11 rfl ?_ | refine Sel.cons 12 rfl ?_ | refine Sel.cons 13 rfl ?_ | refine Sel.cons 14 rfl ?_ | refine Sel.cons 15 rfl ?_ | refine Sel.cons 16 rfl ?_ | refine Sel.cons 17 rfl ?_)) ?_
              refine W.sub ?_ (cut1 ⟨_, _, _, _, _⟩ ρa (Le.refl _) ⟨by assumption, by assumption, by assumption⟩)
              exact ⟨rfl, rfl, rfl, rfl, rfl, rfl, rfl, rfl, rfl, rfl, rfl, trivial⟩
            · refine WL.alF (T := Ty) rfl rfl (by repeat' first | exact FL.nil | apply FL.cons) (fun b6 => ?_)
              refine WL.nilS (WD.oneL 6 rfl (by decide +kernel) ?_)
              refine WL.callF rfl rfl (fun x p d => doRX_c _ _ _ _ _ _ _ _ _ _ _ _ (by first | assumption | exact RMdl.wide (by assumption) | exact RMdl.mono (by assumption) (eqh_at 0 rfl p d) | exact RMdl.mono (In.rmdl (by assumption)) (eqh_at 0 rfl p d) | exact (in_at 0 rfl p d).rmdl | exact (in_at 1 rfl p d).rmdl | exact (in_at 2 rfl p d).rmdl | exact (in_at 3 rfl p d).rmdl | exact (in_at 4 rfl p d).rmdl | exact (in_at 5 rfl p d).rmdl | exact (in_at 6 rfl p d).rmdl | exact (in_at 7 rfl p d).rmdl | exact (in_at 8 rfl p d).rmdl | exact (in_at 9 rfl p d).rmdl | exact (in_at 10 rfl p d).rmdl | exact (in_at 11 rfl p d).rmdl | exact (in_at 12 rfl p d).rmdl | exact (in_at 13 rfl p d).rmdl | exact (in_at 14 rfl p d).rmdl | exact (in_at 15 rfl p d).rmdl | exact (in_at 16 rfl p d).rmdl | exact (in_at 17 rfl p d).rmdl | exact (in_at 18 rfl p d).rmdl | exact (in_at 19 rfl p d).rmdl | exact (in_at 20 rfl p d).rmdl | exact (in_at 21 rfl p d).rmdl | exact (in_at 22 rfl p d).rmdl | exact (in_at 23 rfl p d).rmdl | exact (in_at 24 rfl p d).rmdl | exact (in_at 25 rfl p d).rmdl | exact (in_at 26 rfl p d).rmdl | exact (in_at 27 rfl p d).rmdl | exact (in_at 28 rfl p d).rmdl | exact (in_at 29 rfl p d).rmdl) (by assumption) (by first | assumption | omega)) (fun r7 => ?_)
              refine WL.opens (α := (Value × Value × Value)) (φ := fun x => r7 = .tuple #[.agg #[x.1, x.2.1, .int .i64 _], .agg #[.int .i64 _, .int .i64 _, x.2.2]] ∧ SL x.1 _ ∧ SL x.2.1 _ ∧ SL x.2.2 _) (ps := fun x => [OMdl (.agg #[x.1, x.2.1, .int .i64 _]) _, ORst (.agg #[.int .i64 _, .int .i64 _, x.2.2]) _]) 0 rfl (fun h q => DoR.open q) (by repeat' first | exact FL.nil | apply FL.cons) ?_
              rintro ⟨sv7, iv7, u7⟩ ⟨es7, sa7, sb7, sc7⟩
              subst es7
              dsimp only [List.cons_append, List.nil_append] at sa7 sb7 sc7 ⊢
              refine WL.nilSS (WD.takeL 7 rfl (by decide +kernel) (WL.mv rfl rfl (WL.nilT (WD.takeL 8 rfl (by decide +kernel) (WL.extL rfl rfl rfl (WL.nilT (WD.takeL 9 rfl (by decide +kernel) (WL.extL rfl rfl rfl (WL.nilT (WD.oneL 12 rfl (by decide +kernel) ?_))))))))))
              refine WL.stAO (T := Ty) (j := 4) rfl rfl rfl rfl (by repeat' first | exact AO.nil | apply AO.cons (by first | rfl | exact SL.one (by assumption))) rfl rfl (by repeat' first | exact FL.nil | apply FL.cons) (by repeat' first | exact FL.nil | apply FL.cons) ?_
              refine WL.nilE ?_
              refine WD.lastG hσ0 (by decide +kernel) (by repeat' first | exact FL.nil | apply FL.cons) rfl (by repeat' first | exact FL.nil | apply FL.cons) ?_
              refine WL.stAO (T := Ty) (j := 4) rfl rfl rfl rfl (by repeat' first | exact AO.nil | apply AO.cons (by first | rfl | exact SL.one (by assumption))) rfl rfl (by repeat' first | exact FL.nil | apply FL.cons) (by repeat' first | exact FL.nil | apply FL.cons) ?_
              refine WL.nil ?_
              refine W.fit (Hs' := [box b2 _ _, box b4 _ _, OMdl _ _, ORst _ _, box _ _ 31, box _ _ 34]) (by (repeat' first | exact Sel.nil | refine Sel.cons 0 rfl ?_ | refine Sel.cons 1 rfl ?_ | refine Sel.cons 2 rfl ?_ | refine Sel.cons 3 rfl ?_ | refine Sel.cons 4 rfl ?_ | refine Sel.cons 5 rfl ?_ | refine Sel.cons 6 rfl ?_ | refine Sel.cons 7 rfl ?_ | refine Sel.cons 8 rfl ?_ | refine Sel.cons 9 rfl ?_ | refine Sel.cons 10 rfl ?_ | refine Sel.cons 11 rfl ?_ | refine Sel.cons 12 rfl ?_ | refine Sel.cons 13 rfl ?_ | refine Sel.cons 14 rfl ?_ | refine Sel.cons 15 rfl ?_ | refine Sel.cons 16 rfl ?_ | refine Sel.cons 17 rfl ?_)) ?_
              refine W.fit (Hs' := [OMdl _ _, ORst _ _, box b2 _ _, box b4 _ _, box _ _ 31, box _ _ 34]) (by (repeat' first | exact Sel.nil | refine Sel.cons 0 rfl ?_ | refine Sel.cons 1 rfl ?_ | refine Sel.cons 2 rfl ?_ | refine Sel.cons 3 rfl ?_ | refine Sel.cons 4 rfl ?_ | refine Sel.cons 5 rfl ?_ | refine Sel.cons 6 rfl ?_ | refine Sel.cons 7 rfl ?_ | refine Sel.cons 8 rfl ?_ | refine Sel.cons 9 rfl ?_ | refine Sel.cons 10 rfl ?_ | refine Sel.cons 11 rfl ?_ | refine Sel.cons 12 rfl ?_ | refine Sel.cons 13 rfl ?_ | refine Sel.cons 14 rfl ?_ | refine Sel.cons 15 rfl ?_ | refine Sel.cons 16 rfl ?_ | refine Sel.cons 17 rfl ?_)) ?_
              refine W.sub ?_ (cut1 ⟨_, _, _, _, _⟩ ρa (Le.refl _) ⟨by assumption, by assumption, by assumption⟩)
              exact ⟨rfl, rfl, rfl, rfl, rfl, rfl, rfl, rfl, rfl, rfl, rfl, trivial⟩
          · refine WL.alF (T := Ty) rfl rfl (by repeat' first | exact FL.nil | apply FL.cons) (fun b5 => ?_)
            refine WL.nilS ?_
            refine WD.twoL 6 10 rfl rfl (by decide +kernel) ?_ ?_
            · refine WL.callF rfl rfl (fun x p d => doRX_c _ _ _ _ _ _ _ _ _ _ _ _ (by first | assumption | exact RMdl.wide (by assumption) | exact RMdl.mono (by assumption) (eqh_at 0 rfl p d) | exact RMdl.mono (In.rmdl (by assumption)) (eqh_at 0 rfl p d) | exact (in_at 0 rfl p d).rmdl | exact (in_at 1 rfl p d).rmdl | exact (in_at 2 rfl p d).rmdl | exact (in_at 3 rfl p d).rmdl | exact (in_at 4 rfl p d).rmdl | exact (in_at 5 rfl p d).rmdl | exact (in_at 6 rfl p d).rmdl | exact (in_at 7 rfl p d).rmdl | exact (in_at 8 rfl p d).rmdl | exact (in_at 9 rfl p d).rmdl | exact (in_at 10 rfl p d).rmdl | exact (in_at 11 rfl p d).rmdl | exact (in_at 12 rfl p d).rmdl | exact (in_at 13 rfl p d).rmdl | exact (in_at 14 rfl p d).rmdl | exact (in_at 15 rfl p d).rmdl | exact (in_at 16 rfl p d).rmdl | exact (in_at 17 rfl p d).rmdl | exact (in_at 18 rfl p d).rmdl | exact (in_at 19 rfl p d).rmdl | exact (in_at 20 rfl p d).rmdl | exact (in_at 21 rfl p d).rmdl | exact (in_at 22 rfl p d).rmdl | exact (in_at 23 rfl p d).rmdl | exact (in_at 24 rfl p d).rmdl | exact (in_at 25 rfl p d).rmdl | exact (in_at 26 rfl p d).rmdl | exact (in_at 27 rfl p d).rmdl | exact (in_at 28 rfl p d).rmdl | exact (in_at 29 rfl p d).rmdl) (by assumption) (by first | assumption | omega)) (fun r6 => ?_)
              refine WL.opens (α := (Value × Value × Value)) (φ := fun x => r6 = .tuple #[.agg #[x.1, x.2.1, .int .i64 _], .agg #[.int .i64 _, .int .i64 _, x.2.2]] ∧ SL x.1 _ ∧ SL x.2.1 _ ∧ SL x.2.2 _) (ps := fun x => [OMdl (.agg #[x.1, x.2.1, .int .i64 _]) _, ORst (.agg #[.int .i64 _, .int .i64 _, x.2.2]) _]) 0 rfl (fun h q => DoR.open q) (by repeat' first | exact FL.nil | apply FL.cons) ?_
              rintro ⟨sv6, iv6, u6⟩ ⟨es6, sa6, sb6, sc6⟩
              subst es6
              dsimp only [List.cons_append, List.nil_append] at sa6 sb6 sc6 ⊢
              refine WL.nilSS (WD.takeL 7 rfl (by decide +kernel) (WL.mv rfl rfl (WL.nilT (WD.takeL 8 rfl (by decide +kernel) (WL.extL rfl rfl rfl (WL.nilT (WD.takeL 9 rfl (by decide +kernel) (WL.extL rfl rfl rfl (WL.nilT (WD.oneL 10 rfl (by decide +kernel) ?_))))))))))
              refine WL.alF (T := Ty) rfl rfl (by repeat' first | exact FL.nil | apply FL.cons) (fun b7 => ?_)
              refine WL.nilS (WD.oneL 12 rfl (by decide +kernel) ?_)
              refine WL.stAO (T := Ty) (j := 1) rfl rfl rfl rfl (by repeat' first | exact AO.nil | apply AO.cons (by first | rfl | exact SL.one (by assumption))) rfl rfl (by repeat' first | exact FL.nil | apply FL.cons) (by repeat' first | exact FL.nil | apply FL.cons) ?_
              refine WL.nilE ?_
              refine WD.lastG hσ0 (by decide +kernel) (by repeat' first | exact FL.nil | apply FL.cons) rfl (by repeat' first | exact FL.nil | apply FL.cons) ?_
              refine WL.stAO (T := Ty) (j := 5) rfl rfl rfl rfl (by repeat' first | exact AO.nil | apply AO.cons (by first | rfl | exact SL.one (by assumption))) rfl rfl (by repeat' first | exact FL.nil | apply FL.cons) (by repeat' first | exact FL.nil | apply FL.cons) ?_
              refine WL.nil ?_
              refine W.fit (Hs' := [box b2 _ _, box b4 _ _, OMdl _ _, ORst _ _, box _ _ 31, box _ _ 34]) (by (repeat' first | exact Sel.nil | refine Sel.cons 0 rfl ?_ | refine Sel.cons 1 rfl ?_ | refine Sel.cons 2 rfl ?_ | refine Sel.cons 3 rfl ?_ | refine Sel.cons 4 rfl ?_ | refine Sel.cons 5 rfl ?_ | refine Sel.cons 6 rfl ?_ | refine Sel.cons 7 rfl ?_ | refine Sel.cons 8 rfl ?_ | refine Sel.cons 9 rfl ?_ | refine Sel.cons 10 rfl ?_ | refine Sel.cons 11 rfl ?_ | refine Sel.cons 12 rfl ?_ | refine Sel.cons 13 rfl ?_ | refine Sel.cons 14 rfl ?_ | refine Sel.cons 15 rfl ?_ | refine Sel.cons 16 rfl ?_ | refine Sel.cons 17 rfl ?_)) ?_
              refine W.fit (Hs' := [OMdl _ _, ORst _ _, box b2 _ _, box b4 _ _, box _ _ 31, box _ _ 34]) (by (repeat' first | exact Sel.nil | refine Sel.cons 0 rfl ?_ | refine Sel.cons 1 rfl ?_ | refine Sel.cons 2 rfl ?_ | refine Sel.cons 3 rfl ?_ | refine Sel.cons 4 rfl ?_ | refine Sel.cons 5 rfl ?_ | refine Sel.cons 6 rfl ?_ | refine Sel.cons 7 rfl ?_ | refine Sel.cons 8 rfl ?_ | refine Sel.cons 9 rfl ?_ | refine Sel.cons 10 rfl ?_ | refine Sel.cons 11 rfl ?_ | refine Sel.cons 12 rfl ?_ | refine Sel.cons 13 rfl ?_ | refine Sel.cons 14 rfl ?_ | refine Sel.cons 15 rfl ?_ | refine Sel.cons 16 rfl ?_ | refine Sel.cons 17 rfl ?_)) ?_
              refine W.sub ?_ (cut1 ⟨_, _, _, _, _⟩ ρa (Le.refl _) ⟨by assumption, by assumption, by assumption⟩)
              exact ⟨rfl, rfl, rfl, rfl, rfl, rfl, rfl, rfl, rfl, rfl, rfl, trivial⟩
            · refine WL.alF (T := Ty) rfl rfl (by repeat' first | exact FL.nil | apply FL.cons) (fun b6 => ?_)
              refine WL.nilS (WD.oneL 6 rfl (by decide +kernel) ?_)
              refine WL.callF rfl rfl (fun x p d => doRX_c _ _ _ _ _ _ _ _ _ _ _ _ (by first | assumption | exact RMdl.wide (by assumption) | exact RMdl.mono (by assumption) (eqh_at 0 rfl p d) | exact RMdl.mono (In.rmdl (by assumption)) (eqh_at 0 rfl p d) | exact (in_at 0 rfl p d).rmdl | exact (in_at 1 rfl p d).rmdl | exact (in_at 2 rfl p d).rmdl | exact (in_at 3 rfl p d).rmdl | exact (in_at 4 rfl p d).rmdl | exact (in_at 5 rfl p d).rmdl | exact (in_at 6 rfl p d).rmdl | exact (in_at 7 rfl p d).rmdl | exact (in_at 8 rfl p d).rmdl | exact (in_at 9 rfl p d).rmdl | exact (in_at 10 rfl p d).rmdl | exact (in_at 11 rfl p d).rmdl | exact (in_at 12 rfl p d).rmdl | exact (in_at 13 rfl p d).rmdl | exact (in_at 14 rfl p d).rmdl | exact (in_at 15 rfl p d).rmdl | exact (in_at 16 rfl p d).rmdl | exact (in_at 17 rfl p d).rmdl | exact (in_at 18 rfl p d).rmdl | exact (in_at 19 rfl p d).rmdl | exact (in_at 20 rfl p d).rmdl | exact (in_at 21 rfl p d).rmdl | exact (in_at 22 rfl p d).rmdl | exact (in_at 23 rfl p d).rmdl | exact (in_at 24 rfl p d).rmdl | exact (in_at 25 rfl p d).rmdl | exact (in_at 26 rfl p d).rmdl | exact (in_at 27 rfl p d).rmdl | exact (in_at 28 rfl p d).rmdl | exact (in_at 29 rfl p d).rmdl) (by assumption) (by first | assumption | omega)) (fun r7 => ?_)
              refine WL.opens (α := (Value × Value × Value)) (φ := fun x => r7 = .tuple #[.agg #[x.1, x.2.1, .int .i64 _], .agg #[.int .i64 _, .int .i64 _, x.2.2]] ∧ SL x.1 _ ∧ SL x.2.1 _ ∧ SL x.2.2 _) (ps := fun x => [OMdl (.agg #[x.1, x.2.1, .int .i64 _]) _, ORst (.agg #[.int .i64 _, .int .i64 _, x.2.2]) _]) 0 rfl (fun h q => DoR.open q) (by repeat' first | exact FL.nil | apply FL.cons) ?_
              rintro ⟨sv7, iv7, u7⟩ ⟨es7, sa7, sb7, sc7⟩
              subst es7
              dsimp only [List.cons_append, List.nil_append] at sa7 sb7 sc7 ⊢
              refine WL.nilSS (WD.takeL 7 rfl (by decide +kernel) (WL.mv rfl rfl (WL.nilT (WD.takeL 8 rfl (by decide +kernel) (WL.extL rfl rfl rfl (WL.nilT (WD.takeL 9 rfl (by decide +kernel) (WL.extL rfl rfl rfl (WL.nilT (WD.oneL 12 rfl (by decide +kernel) ?_))))))))))
              refine WL.stAO (T := Ty) (j := 3) rfl rfl rfl rfl (by repeat' first | exact AO.nil | apply AO.cons (by first | rfl | exact SL.one (by assumption))) rfl rfl (by repeat' first | exact FL.nil | apply FL.cons) (by repeat' first | exact FL.nil | apply FL.cons) ?_
              refine WL.nilE ?_
              refine WD.lastG hσ0 (by decide +kernel) (by repeat' first | exact FL.nil | apply FL.cons) rfl (by repeat' first | exact FL.nil | apply FL.cons) ?_
              refine WL.stAO (T := Ty) (j := 5) rfl rfl rfl rfl (by repeat' first | exact AO.nil | apply AO.cons (by first | rfl | exact SL.one (by assumption))) rfl rfl (by repeat' first | exact FL.nil | apply FL.cons) (by repeat' first | exact FL.nil | apply FL.cons) ?_
              refine WL.nil ?_
              refine W.fit (Hs' := [box b2 _ _, box b4 _ _, OMdl _ _, ORst _ _, box _ _ 31, box _ _ 34]) (by (repeat' first | exact Sel.nil | refine Sel.cons 0 rfl ?_ | refine Sel.cons 1 rfl ?_ | refine Sel.cons 2 rfl ?_ | refine Sel.cons 3 rfl ?_ | refine Sel.cons 4 rfl ?_ | refine Sel.cons 5 rfl ?_ | refine Sel.cons 6 rfl ?_ | refine Sel.cons 7 rfl ?_ | refine Sel.cons 8 rfl ?_ | refine Sel.cons 9 rfl ?_ | refine Sel.cons 10 rfl ?_ | refine Sel.cons 11 rfl ?_ | refine Sel.cons 12 rfl ?_ | refine Sel.cons 13 rfl ?_ | refine Sel.cons 14 rfl ?_ | refine Sel.cons 15 rfl ?_ | refine Sel.cons 16 rfl ?_ | refine Sel.cons 17 rfl ?_)) ?_
              refine W.fit (Hs' := [OMdl _ _, ORst _ _, box b2 _ _, box b4 _ _, box _ _ 31, box _ _ 34]) (by (repeat' first | exact Sel.nil | refine Sel.cons 0 rfl ?_ | refine Sel.cons 1 rfl ?_ | refine Sel.cons 2 rfl ?_ | refine Sel.cons 3 rfl ?_ | refine Sel.cons 4 rfl ?_ | refine Sel.cons 5 rfl ?_ | refine Sel.cons 6 rfl ?_ | refine Sel.cons 7 rfl ?_ | refine Sel.cons 8 rfl ?_ | refine Sel.cons 9 rfl ?_ | refine Sel.cons 10 rfl ?_ | refine Sel.cons 11 rfl ?_ | refine Sel.cons 12 rfl ?_ | refine Sel.cons 13 rfl ?_ | refine Sel.cons 14 rfl ?_ | refine Sel.cons 15 rfl ?_ | refine Sel.cons 16 rfl ?_ | refine Sel.cons 17 rfl ?_)) ?_
              refine W.sub ?_ (cut1 ⟨_, _, _, _, _⟩ ρa (Le.refl _) ⟨by assumption, by assumption, by assumption⟩)
              exact ⟨rfl, rfl, rfl, rfl, rfl, rfl, rfl, rfl, rfl, rfl, rfl, trivial⟩
    · have e0 : i = n := by omega
      subst e0
      have e1 : max k i = i := by omega
      rw [e1] at hM q1 q2 ⊢
      have hsm := sameMdl_refl (mr g i).1
      have hI := mr_inv g i
      refine W.seq (W.region (WL.lss rfl rfl rfl (WL.nil (W.seq (W.condpF rfl (by omega) (W.exit rfl (W.seq (W.region ?_))))))))
      refine WL.ldAF (T := Ty) (j := 0) rfl rfl rfl rfl rfl rfl (by repeat' first | exact FL.nil | apply FL.cons) ?_
      refine WL.ldAF (T := Ty) (j := 1) rfl rfl rfl rfl rfl rfl (by repeat' first | exact FL.nil | apply FL.cons) ?_
      refine WL.callV rfl rfl (fun x p d => rsame_e _ _ _ _ _ _ _ (by first | assumption | exact RMdl.wide (by assumption) | exact RMdl.mono (by assumption) (eqh_at 0 rfl p d) | exact RMdl.mono (In.rmdl (by assumption)) (eqh_at 0 rfl p d) | exact (in_at 0 rfl p d).rmdl | exact (in_at 1 rfl p d).rmdl | exact (in_at 2 rfl p d).rmdl | exact (in_at 3 rfl p d).rmdl | exact (in_at 4 rfl p d).rmdl | exact (in_at 5 rfl p d).rmdl | exact (in_at 6 rfl p d).rmdl | exact (in_at 7 rfl p d).rmdl | exact (in_at 8 rfl p d).rmdl | exact (in_at 9 rfl p d).rmdl | exact (in_at 10 rfl p d).rmdl | exact (in_at 11 rfl p d).rmdl | exact (in_at 12 rfl p d).rmdl | exact (in_at 13 rfl p d).rmdl | exact (in_at 14 rfl p d).rmdl | exact (in_at 15 rfl p d).rmdl | exact (in_at 16 rfl p d).rmdl | exact (in_at 17 rfl p d).rmdl | exact (in_at 18 rfl p d).rmdl | exact (in_at 19 rfl p d).rmdl | exact (in_at 20 rfl p d).rmdl | exact (in_at 21 rfl p d).rmdl | exact (in_at 22 rfl p d).rmdl | exact (in_at 23 rfl p d).rmdl | exact (in_at 24 rfl p d).rmdl | exact (in_at 25 rfl p d).rmdl | exact (in_at 26 rfl p d).rmdl | exact (in_at 27 rfl p d).rmdl | exact (in_at 28 rfl p d).rmdl | exact (in_at 29 rfl p d).rmdl) (by first | assumption | exact RMdl.wide (by assumption) | exact RMdl.mono (by assumption) (eqh_at 0 rfl p d) | exact RMdl.mono (In.rmdl (by assumption)) (eqh_at 0 rfl p d) | exact (in_at 0 rfl p d).rmdl | exact (in_at 1 rfl p d).rmdl | exact (in_at 2 rfl p d).rmdl | exact (in_at 3 rfl p d).rmdl | exact (in_at 4 rfl p d).rmdl | exact (in_at 5 rfl p d).rmdl | exact (in_at 6 rfl p d).rmdl | exact (in_at 7 rfl p d).rmdl | exact (in_at 8 rfl p d).rmdl | exact (in_at 9 rfl p d).rmdl | exact (in_at 10 rfl p d).rmdl | exact (in_at 11 rfl p d).rmdl | exact (in_at 12 rfl p d).rmdl | exact (in_at 13 rfl p d).rmdl | exact (in_at 14 rfl p d).rmdl | exact (in_at 15 rfl p d).rmdl | exact (in_at 16 rfl p d).rmdl | exact (in_at 17 rfl p d).rmdl | exact (in_at 18 rfl p d).rmdl | exact (in_at 19 rfl p d).rmdl | exact (in_at 20 rfl p d).rmdl | exact (in_at 21 rfl p d).rmdl | exact (in_at 22 rfl p d).rmdl | exact (in_at 23 rfl p d).rmdl | exact (in_at 24 rfl p d).rmdl | exact (in_at 25 rfl p d).rmdl | exact (in_at 26 rfl p d).rmdl | exact (in_at 27 rfl p d).rmdl | exact (in_at 28 rfl p d).rmdl | exact (in_at 29 rfl p d).rmdl) (by assumption) (by first | assumption | omega) (by assumption)) ?_
      refine WL.mv rfl rfl (WL.gY rfl rfl ?_)
      refine WL.callV rfl rfl (fun x p d => awake25_c _) ?_
      refine WL.pickT rfl rfl rfl (WL.as rfl rfl (WL.nil ?_))
      exact W.fit (Hs' := []) (by (repeat' first | exact Sel.nil | refine Sel.cons 0 rfl ?_ | refine Sel.cons 1 rfl ?_ | refine Sel.cons 2 rfl ?_ | refine Sel.cons 3 rfl ?_ | refine Sel.cons 4 rfl ?_ | refine Sel.cons 5 rfl ?_ | refine Sel.cons 6 rfl ?_ | refine Sel.cons 7 rfl ?_ | refine Sel.cons 8 rfl ?_ | refine Sel.cons 9 rfl ?_ | refine Sel.cons 10 rfl ?_ | refine Sel.cons 11 rfl ?_ | refine Sel.cons 12 rfl ?_ | refine Sel.cons 13 rfl ?_ | refine Sel.cons 14 rfl ?_ | refine Sel.cons 15 rfl ?_ | refine Sel.cons 16 rfl ?_ | refine Sel.cons 17 rfl ?_)) (W.ret1 rfl rfl (fun h q => rfl))
  · refine W.loopR (σ := Nat × List (Evt × Value) × List PK × Value × Value) (fun s => [(0, v0), (1, .int .i64 a1), (5, s.2.2.2.1), (6, s.2.2.2.2), (7, .int .i64 (s.1 : Int))])
      (fun s => [Buf 14 s.2.2.2.1 (s.2.1.flatMap evC), Buf 2 s.2.2.2.2 (s.2.2.1.flatMap (twoC .i64 .i64))]) (fun s ρ' => s.1 ≤ 40 ∧ s.1 ≤ z0.length ∧ Beg g wh s.1 s.2.1 s.2.2.1 ∧ SL s.2.2.2.1 s.2.1.length ∧ SL s.2.2.2.2 s.2.2.1.length) (fun s => 40 - s.1)
      (0, [], [], nilV, nilV) ⟨rfl, rfl, rfl, rfl, rfl, trivial⟩ rfl ⟨Nat.zero_le _, Nat.zero_le _, Beg.nil g wh, slZ, slZ⟩ ?_
    rintro ⟨i, L, o, ve, vo⟩ ρ1 le1 ⟨hi, hiz, hB, t1, t2⟩ next
    dsimp only at hi hiz hB t1 t2 next ⊢
    replace r0 := r0.mono le1
    have lL := hB.lL
    have lo := hB.lo
    have l1 := evs_cells L
    have l2 := two_len (k0 := .i64) (k1 := .i64) o
    by_cases hc1 : i < z0.length
    · obtain ⟨x, hx⟩ : ∃ x, z0[i]? = some x := ⟨_, List.getElem?_eq_getElem hc1⟩
      have hx1 : (z0.map (Value.int .i64))[i]? = some (.int .i64 x) := by rw [List.getElem?_map, hx]; rfl
      by_cases hc2 : i < 40
      · have hsn := hB.snoc
        rw [hg i x hx, hw i x hx] at hsn
        have hf1 : L.flatMap evC ++ [.int .i64 1, .int .i64 (x % (7 + 1)), .int .i64 (i : Int), .int .i64 (f x (i : Int)).kind, .int .i64 (f x (i : Int)).series, .int .i64 (f x (i : Int)).iter, .int .i64 (f x (i : Int)).t, .int .u64 (f x (i : Int)).v, .int .i64 (f x (i : Int)).lo, .int .i64 (f x (i : Int)).hi, .int .i64 (f x (i : Int)).n, .int .i64 0, .int .i64 0, .slice none 0 0] = (L ++ [((⟨1, x % (7 + 1), (i : Int), f x (i : Int), ⟨0, 0, []⟩⟩ : Evt), (.slice none 0 0 : Value))]).flatMap evC := by rw [List.flatMap_append]; rfl
        have hf2 : o.flatMap (twoC .i64 .i64) ++ [.int .i64 (x % (7 + 1)), .int .i64 (i : Int)] = (o ++ [(x % (7 + 1), (i : Int))]).flatMap (twoC .i64 .i64) := by rw [List.flatMap_append]; rfl
        refine W.seq (W.seq (W.region (WL.mv rfl rfl (WL.mv rfl rfl ?_))))
        refine WL.len (T := Ty) rfl rfl (by assumption) rfl ?_
        refine WL.lss rfl rfl rfl (WL.mv rfl rfl (WL.gT rfl rfl (by omega) (WL.mv rfl rfl (WL.gT rfl rfl (by omega) (WL.lss rfl rfl rfl (WL.pickTp rfl rfl (by omega) rfl (WL.nil (W.condpT rfl (by omega) (W.skip (W.seq (W.block (W.seq ?_))))))))))))
        refine W.drawP 16 [true, false] rfl (by repeat' first | exact FL.nil | apply FL.cons) (by repeat' first | exact FL.nil | apply FL.cons) (fun σ0 hσ0 dσ0 => ?_)
        have fσ0_0 := ros_at 0 rfl hσ0 dσ0
        refine WD.takeL 0 rfl (by decide +kernel) (WL.mv rfl rfl (WL.nilT (WD.takeL 1 rfl (by decide +kernel) (WL.mv rfl rfl (WL.nilT (WD.takeL 2 rfl (by decide +kernel) (WL.mv rfl rfl (WL.nilT (WD.takeL 3 rfl (by decide +kernel) ?_)))))))))
        refine WL.ix (T := Ty) rfl rfl rfl (by assumption) rfl rfl (by omega) (by first | omega | decide +kernel) ?_
        refine WL.nilT (WD.takeL 4 rfl (by decide +kernel) ?_)
        refine WL.ldKn (T := Ty) rfl rfl rfl rfl (by first | assumption | exact ROs.wide (by assumption)) (by assumption) ?_
        refine WL.nilT (WD.takeL 5 rfl (by decide +kernel) (WL.andI rfl rfl rfl (by decide) (WL.nilT (WD.takeL 6 rfl (by decide +kernel) (WL.mv rfl rfl (WL.nilT (WD.takeL 7 rfl (by decide +kernel) (WL.mv rfl rfl (WL.nilT (WD.takeL 8 rfl (by decide +kernel) (WL.mv rfl rfl (WL.nilT (WD.takeL 9 rfl (by decide +kernel) ?_)))))))))))))
        refine WL.ix (T := Ty) rfl rfl rfl (by assumption) rfl rfl (by omega) (by first | omega | decide +kernel) ?_
        refine WL.nilT (WD.takeL 10 rfl (by decide +kernel) ?_)
        refine WL.ldKn (T := Ty) rfl rfl rfl rfl (by first | assumption | exact ROs.wide (by assumption)) (by assumption) ?_
        refine WL.nilT (WD.takeL 11 rfl (by decide +kernel) (WL.mv rfl rfl (WL.nilT (WD.oneL 12 rfl (by decide +kernel) ?_))))
        refine WL.callV rfl rfl (fun x p d => hopf _ _ _) ?_
        refine WL.nilE (WD.takeL 13 rfl (by decide +kernel) ?_)
        refine WL.bdC (T := Ty) rfl rfl rfl rfl (by repeat' first | exact CO.nil | apply CO.one (by first | rfl | exact SL.one (by assumption)) | apply CO.agg) rfl (by repeat' first | exact FL.nil | apply FL.cons) ?_
        refine WL.nilT (WD.oneL 14 rfl (by decide +kernel) ?_)
        refine WL.bsC (T := Ty) rfl rfl rfl rfl rfl rfl rfl (by repeat' first | exact CO.nil | apply CO.one (by first | rfl | exact SL.one (by assumption)) | apply CO.agg) rfl (by repeat' first | exact FL.nil | apply FL.cons) (fun u0 hu0 => ?_)
        refine WL.nilH hσ0 (fun σ1 hσ1 dσ1 mσ1 => ?_)
        have fσ0_0 := fσ0_0.mono mσ1
        have fσ1_0 := ros_at 0 rfl hσ1 dσ1
        refine WD.oneL 15 rfl (by decide +kernel) ?_
        refine WL.ap (T := Ty) (i := 1) (m := 1) rfl rfl rfl rfl rfl rfl rfl rfl (by first | exact .ro (by assumption) | exact .ro (ROs.wide (by assumption)) | exact .eqJ 0 rfl (by assumption) | exact .own 0 rfl | exact .own 1 rfl | exact .own 2 rfl | exact .own 3 rfl | exact .own 4 rfl | exact .own 5 rfl) (by first | assumption | exact ROs.slm (by assumption)) (by assumption) (by rfl) (AO.all (by repeat' first | exact AO.nil | apply AO.cons (by first | rfl | exact SL.one (by assumption)))) (by first | omega | (simp; omega) | (simp only [List.length_drop, List.length_take]; omega)) (by unfold maxLen; first | omega | (simp only [List.length_drop, List.length_take]; omega)) (fun v' => (by repeat' first | exact FL.nil | apply FL.cons)) (fun u1 hu1 => ?_)
        refine WL.nilE ?_
        refine WD.lastG hσ1 (by decide +kernel) (by repeat' first | exact FL.nil | apply FL.cons) rfl (by repeat' first | exact FL.nil | apply FL.cons) ?_
        refine WL.as rfl rfl (WL.nil (W.region (WL.mv rfl rfl (WL.mv rfl rfl (WL.mv rfl rfl ?_)))))
        refine WL.ix (T := Ty) rfl rfl rfl (by assumption) rfl rfl (by omega) (by first | omega | decide +kernel) ?_
        refine WL.ldKn (T := Ty) rfl rfl rfl rfl (by first | assumption | exact ROs.wide (by assumption)) (by assumption) ?_
        refine WL.andI rfl rfl rfl (by decide) (WL.mv rfl rfl ?_)
        refine WL.bdC (T := Ty) rfl rfl rfl rfl (by repeat' first | exact CO.nil | apply CO.one (by first | rfl | exact SL.one (by assumption)) | apply CO.agg) rfl (by repeat' first | exact FL.nil | apply FL.cons) ?_
        refine WL.bsC (T := Ty) rfl rfl rfl rfl rfl rfl rfl (by repeat' first | exact CO.nil | apply CO.one (by first | rfl | exact SL.one (by assumption)) | apply CO.agg) rfl (by repeat' first | exact FL.nil | apply FL.cons) (fun u2 hu2 => ?_)
        refine WL.apS (T := Ty) (i := 1) rfl rfl rfl rfl rfl rfl rfl rfl rfl (by first | rfl | assumption) rfl (by assumption) (by repeat' first | exact AO.nil | apply AO.cons (by first | rfl | exact SL.one (by assumption))) (by first | omega | (simp; omega) | (simp only [List.length_drop, List.length_take]; omega)) (by first | omega | (simp; omega) | (simp only [List.length_drop, List.length_take]; omega)) (fun v' => (by repeat' first | exact FL.nil | apply FL.cons)) (fun u3 hu3 => ?_)
        refine WL.as rfl rfl (WL.nil (W.inBlock (W.region (WL.mv rfl rfl (WL.addK rfl rfl rfl (wrap_i64 ⟨by omega, by omega⟩) (WL.as rfl rfl (WL.nil ?_)))))))
        rw [hf1, hf2]
        refine W.fit (Hs' := [Buf 14 _ (List.flatMap evC _), Buf 2 _ (List.flatMap (twoC .i64 .i64) _)]) (by (repeat' first | exact Sel.nil | refine Sel.cons 0 rfl ?_ | refine Sel.cons 1 rfl ?_ | refine Sel.cons 2 rfl ?_ | refine Sel.cons 3 rfl ?_ | refine Sel.cons 4 rfl ?_ | refine Sel.cons 5 rfl ?_ | refine Sel.cons 6 rfl ?_ | refine Sel.cons 7 rfl ?_ | refine Sel.cons 8 rfl ?_ | refine Sel.cons 9 rfl ?_ | refine Sel.cons 10 rfl ?_ | refine Sel.cons 11 rfl ?_ | refine Sel.cons 12 rfl ?_ | refine Sel.cons 13 rfl ?_ | refine Sel.cons 14 rfl ?_ | refine Sel.cons 15 rfl ?_ | refine Sel.cons 16 rfl ?_ | refine Sel.cons 17 rfl ?_)) ?_
        refine W.sub ?_ (next ⟨i + 1, _, _, _, _⟩ ρ1 (Le.refl _) ⟨by dsimp only; omega, by dsimp only; omega, hsn, by dsimp only; rw [List.length_append]; assumption, by dsimp only; rw [List.length_append]; assumption⟩ (by dsimp only; omega))
        exact ⟨rfl, rfl, rfl, rfl, rfl, trivial⟩
      · refine W.seq ?_
        refine W.seq (W.region (WL.mv rfl rfl (WL.mv rfl rfl ?_)))
        refine WL.len (T := Ty) rfl rfl (by assumption) rfl ?_
        refine WL.lss rfl rfl rfl (WL.mv rfl rfl (WL.gT rfl rfl (by omega) (WL.mv rfl rfl (WL.gT rfl rfl (by omega) (WL.lss rfl rfl rfl (WL.pickTp rfl rfl (by omega) rfl (WL.nil (W.condpF rfl (by omega) (W.exit rfl ?_)))))))))
        refine W.fit (by (repeat' first | exact Sel.nil | refine Sel.cons 0 rfl ?_ | refine Sel.cons 1 rfl ?_ | refine Sel.cons 2 rfl ?_ | refine Sel.cons 3 rfl ?_ | refine Sel.cons 4 rfl ?_ | refine Sel.cons 5 rfl ?_ | refine Sel.cons 6 rfl ?_ | refine Sel.cons 7 rfl ?_ | refine Sel.cons 8 rfl ?_ | refine Sel.cons 9 rfl ?_ | refine Sel.cons 10 rfl ?_ | refine Sel.cons 11 rfl ?_ | refine Sel.cons 12 rfl ?_ | refine Sel.cons 13 rfl ?_ | refine Sel.cons 14 rfl ?_ | refine Sel.cons 15 rfl ?_ | refine Sel.cons 16 rfl ?_ | refine Sel.cons 17 rfl ?_)) (W.sub ?_ (cut0 ⟨i, L, o, ve, vo⟩ ρ1 le1 ⟨hi, hB, t1, t2⟩))
        exact ⟨rfl, rfl, rfl, trivial⟩
    · refine W.seq ?_
      refine W.seq (W.region (WL.mv rfl rfl (WL.mv rfl rfl ?_)))
      refine WL.len (T := Ty) rfl rfl (by assumption) rfl ?_
      refine WL.lss rfl rfl rfl (WL.mv rfl rfl (WL.gdTn rfl rfl rfl rfl rfl (by omega) (WL.gdTn rfl rfl rfl rfl rfl (by omega) (WL.pickFp rfl rfl (by omega) rfl (WL.nil (W.condF rfl (W.exit rfl ?_)))))))
      refine W.fit (by (repeat' first | exact Sel.nil | refine Sel.cons 0 rfl ?_ | refine Sel.cons 1 rfl ?_ | refine Sel.cons 2 rfl ?_ | refine Sel.cons 3 rfl ?_ | refine Sel.cons 4 rfl ?_ | refine Sel.cons 5 rfl ?_ | refine Sel.cons 6 rfl ?_ | refine Sel.cons 7 rfl ?_ | refine Sel.cons 8 rfl ?_ | refine Sel.cons 9 rfl ?_ | refine Sel.cons 10 rfl ?_ | refine Sel.cons 11 rfl ?_ | refine Sel.cons 12 rfl ?_ | refine Sel.cons 13 rfl ?_ | refine Sel.cons 14 rfl ?_ | refine Sel.cons 15 rfl ?_ | refine Sel.cons 16 rfl ?_ | refine Sel.cons 17 rfl ?_)) (W.sub ?_ (cut0 ⟨i, L, o, ve, vo⟩ ρ1 le1 ⟨hi, hB, t1, t2⟩))
      exact ⟨rfl, rfl, rfl, trivial⟩
end Go.Proofs.Ytbebhmdjnneimaa
