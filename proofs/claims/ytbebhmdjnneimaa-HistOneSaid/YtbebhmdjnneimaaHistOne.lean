/- HistOne. -/
import Derived.Test.YtbebhmdjnneimaaStc
import Derived.Test.YtbebhmdjnneimaaNum
import Derived.Test.YtbebhmdjnneimaaTab
import Derived.Test.YtbebhmdjnneimaaHistI
import Derived.Test.YtbebhmdjnneimaaMdlSm
import Derived.Test.YtbebhmdjnneimaaBsR
set_option linter.unusedSimpArgs false
set_option linter.unusedVariables false
set_option maxRecDepth 20000
set_option maxHeartbeats 1000000
namespace Go.Proofs.Ytbebhmdjnneimaa
open Go
theorem evs_one {L : List (Evt × Value)} (h : ∀ p ∈ L, SL p.2 p.1.res.list.length) : ∀ q ∈ L.flatMap evC, q.oneCell' = true := by
  intro q hq
  obtain ⟨p, hp, hm⟩ := List.mem_flatMap.1 hq
  unfold evC at hm
  simp only [List.mem_cons, List.not_mem_nil, or_false] at hm
  rcases hm with rfl | rfl | rfl | rfl | rfl | rfl | rfl | rfl | rfl | rfl | rfl | rfl | rfl | rfl
  all_goals first | rfl | exact SL.one (h p hp)
theorem two_one (l : List PK) : ∀ q ∈ l.flatMap (twoC .i64 .i64), q.oneCell' = true := by
  intro q hq
  obtain ⟨x, _, hx⟩ := List.mem_flatMap.1 hq
  simp only [twoC, List.mem_cons, List.mem_nil_iff, or_false] at hx
  rcases hx with rfl | rfl <;> rfl
theorem wrap_ne (x : Int) : IntKind.i64.wrap (x + 1) ≠ x := by
  intro h
  unfold IntKind.wrap at h
  simp [IntKind.bits, IntKind.signed] at h
  split at h <;> omega
attribute [local irreducible] W WL Fn Buf ROs SL eptr box Rd Src bndOK WD RB Reads In Own Pm doM mr rpl chkH
theorem HistOne_fn (ρ : Hp) (v0 : Value) (z0 : List Int) (r0 : ROs ρ 1 v0 (z0.map (Value.int .i64))) (m0 : ∀ n ∈ z0, (Lit.int .i64 n).wf = true) (y0 : z0.length * 8 ≤ 140737488351232) (a1 : Int) (w1 : (Lit.int .i64 a1).wf = true) :
    Fn Try.prog 10 #[v0, .int .i64 a1] ρ [] (fun r _ => r = .bool true) := by
  have s0 := r0.slm
  obtain ⟨f, hopf⟩ : ∃ f : Int → Int → MOp, ∀ (ρ : Hp) n a, Fn Try.prog 19 #[.int .i64 n, .int .i64 a] ρ [] (Just (.agg #[.int .i64 (f n a).kind, .int .i64 (f n a).series, .int .i64 (f n a).iter, .int .i64 (f n a).t, .int .u64 (f n a).v, .int .i64 (f n a).lo, .int .i64 (f n a).hi, .int .i64 (f n a).n])) :=
    ⟨fun n a => Classical.choose (op_ex n a), fun ρ n a => Classical.choose_spec (op_ex n a) ρ⟩
  obtain ⟨g, hg⟩ : ∃ g : Nat → MOp, ∀ i x, z0[i]? = some x → g i = f x (i : Int) := ⟨fun i => f (z0.getD i 0) i, fun i x h => by simp [List.getD, h]⟩
  obtain ⟨rs, hrs⟩ : ∃ rs : Nat → Rst, ∀ i, rs i = (doM (mr g i).1 (g i)).2 := ⟨_, fun i => rfl⟩
  refine in10 rfl rfl ?_
  refine W.seq (W.region (WL.as rfl rfl (WL.nil (W.seq (W.region (WL.as rfl rfl (WL.nil (W.seq (W.region (WL.as rfl rfl (WL.nil (W.seq (W.region ?_)))))))))))))
  refine WL.alF (T := Ty) rfl rfl (by repeat' first | exact FL.nil | apply FL.cons) (fun b0 => ?_)
  refine WL.nil (W.seq (W.seq (W.region (WL.as rfl rfl (WL.nil (W.block (W.nb (sz := 2) (W.nb (sz := 14) ?_))))))))
  refine W.cutG2 (τ := Nat × List (Evt × Value) × List PK × Value × Value) (fun s => [(1, .int .i64 a1), (5, s.2.2.2.1), (6, s.2.2.2.2)])
    (fun s => [Buf 14 s.2.2.2.1 (s.2.1.flatMap evC), Buf 2 s.2.2.2.2 (s.2.2.1.flatMap (twoC .i64 .i64))]) (fun s ρ' => s.1 ≤ 40 ∧ One g rs s.1 s.2.1 s.2.2.1 ∧ okL ρ' s.2.1 ∧ SL s.2.2.2.1 s.2.1.length ∧ SL s.2.2.2.2 s.2.2.1.length) ?_ (fun cut0 => ?_)
  · rintro ⟨n, L, o, ve, vo⟩ ρ1 le1 ⟨hn, hO, hok, t1, t2⟩
    dsimp only at hn hO hok t1 t2 ⊢
    have lL := hO.lL
    have lo := hO.lo
    refine W.freeze 0 rfl (by repeat' first | exact FL.nil | apply FL.cons) (fun ρ2 le2 in2 => ?_)
    refine W.freeze 0 rfl (by repeat' first | exact FL.nil | apply FL.cons) (fun ρ3 le3 in3 => ?_)
    have r1 := (in2.mono le3).ros
    have r2 := in3.ros
    replace hok := (hok.mono le2).mono le3
    have l1 := evs_cells L
    have l2 := two_len (k0 := .i64) (k1 := .i64) o
    have hchk : chkH L o = true := hO.yes (fun i _ => by rw [hrs]; exact sameRst_refl _)
    by_cases hn0 : n = 0
    · refine W.seq ?_
      refine W.seq (W.region (WL.mv rfl rfl (WL.mv rfl rfl ?_)))
      refine WL.callV rfl rfl (fun x p d => check_e _ _ _ _ _ _ _ _ (by first | assumption | exact ROs.wide (by assumption) | exact ROs.mono (by assumption) (eqh_at 0 rfl p d) | exact ros_at 0 rfl p d | exact ros_at 1 rfl p d | exact ros_at 2 rfl p d | exact ros_at 3 rfl p d | exact ros_at 4 rfl p d) (by first | rfl | assumption) (by first | assumption | exact okL.wide (by assumption)) (by first | assumption | omega) (by first | assumption | exact ROs.wide (by assumption) | exact ROs.mono (by assumption) (eqh_at 0 rfl p d) | exact ros_at 0 rfl p d | exact ros_at 1 rfl p d | exact ros_at 2 rfl p d | exact ros_at 3 rfl p d | exact ros_at 4 rfl p d) (by first | rfl | assumption) (by first | assumption | omega) (by assumption)) ?_
      refine WL.not rfl rfl (WL.nil (W.condF rfl (W.skip (W.seq (W.seq (W.region (WL.mv rfl rfl ?_)))))))
      refine WL.len (T := Ty) rfl rfl (by assumption) rfl ?_
      refine WL.eql rfl rfl rfl (WL.nil (W.condpT rfl (by omega) (W.seq (W.region ?_))))
      refine WL.callV rfl rfl (fun x p d => awake25_c _) ?_
      refine WL.as rfl rfl (WL.nil ?_)
      exact W.fit (Hs' := []) (by (repeat' first | exact Sel.nil | refine Sel.cons 0 rfl ?_ | refine Sel.cons 1 rfl ?_ | refine Sel.cons 2 rfl ?_ | refine Sel.cons 3 rfl ?_ | refine Sel.cons 4 rfl ?_ | refine Sel.cons 5 rfl ?_ | refine Sel.cons 6 rfl ?_ | refine Sel.cons 7 rfl ?_ | refine Sel.cons 8 rfl ?_ | refine Sel.cons 9 rfl ?_ | refine Sel.cons 10 rfl ?_ | refine Sel.cons 11 rfl ?_ | refine Sel.cons 12 rfl ?_ | refine Sel.cons 13 rfl ?_ | refine Sel.cons 14 rfl ?_ | refine Sel.cons 15 rfl ?_ | refine Sel.cons 16 rfl ?_ | refine Sel.cons 17 rfl ?_)) (W.ret1 rfl rfl (fun h q => rfl))
    · have h3 : ∀ q ∈ L.flatMap evC, q.oneCell' = true := evs_one (fun p hp => (hok p hp).1.sl (flat_len sm_len _) (by have := (hok p hp).2; omega))
      obtain ⟨k, hk⟩ : ∃ k : Nat, a1 % (255 + 1) % (o.length : Int) = (k : Int) := ⟨(a1 % (255 + 1) % (o.length : Int)).toNat, (Int.toNat_of_nonneg (Int.emod_nonneg _ (by omega))).symm⟩
      have hkn : k < n := by have := Int.emod_lt_of_pos (a1 % (255 + 1)) (show (0 : Int) < (o.length : Int) by omega); omega
      obtain ⟨wk, hwk⟩ := hO.re k hkn
      have hg1 : (L.flatMap evC)[(2 * (k : Int) + 1).toNat * 14 + 11 + 1]? = some (.int .i64 (rs k).iter) := by
        rw [show (2 * (k : Int) + 1).toNat = 2 * k + 1 by omega]
        exact flat_get (f := evC) (k := 14) (L := L) (i := 2 * k + 1) (j := 12) ev_len hwk rfl
      refine W.seq (W.seq (W.region (WL.mv rfl rfl (WL.mv rfl rfl ?_))))
      refine WL.callV rfl rfl (fun x p d => check_e _ _ _ _ _ _ _ _ (by first | assumption | exact ROs.wide (by assumption) | exact ROs.mono (by assumption) (eqh_at 0 rfl p d) | exact ros_at 0 rfl p d | exact ros_at 1 rfl p d | exact ros_at 2 rfl p d | exact ros_at 3 rfl p d | exact ros_at 4 rfl p d) (by first | rfl | assumption) (by first | assumption | exact okL.wide (by assumption)) (by first | assumption | omega) (by first | assumption | exact ROs.wide (by assumption) | exact ROs.mono (by assumption) (eqh_at 0 rfl p d) | exact ros_at 0 rfl p d | exact ros_at 1 rfl p d | exact ros_at 2 rfl p d | exact ros_at 3 rfl p d | exact ros_at 4 rfl p d) (by first | rfl | assumption) (by first | assumption | omega) (by assumption)) ?_
      refine WL.not rfl rfl (WL.nil (W.condF rfl (W.skip (W.seq (W.seq (W.region (WL.mv rfl rfl ?_)))))))
      refine WL.len (T := Ty) rfl rfl (by assumption) rfl ?_
      refine WL.eql rfl rfl rfl (WL.nil (W.condpF rfl (by omega) (W.skip (W.seq (W.region (WL.mv rfl rfl (WL.andI rfl rfl rfl (by decide) (WL.mv rfl rfl ?_))))))))
      refine WL.len (T := Ty) rfl rfl (by assumption) rfl ?_
      refine WL.remI rfl rfl rfl (by omega) (by omega) (WL.as rfl rfl (WL.nil (W.seq (W.region ?_))))
      refine WL.bsC (T := Ty) rfl rfl rfl rfl rfl rfl rfl (by repeat' first | exact CO.nil | apply CO.one (by first | rfl | exact SL.one (by assumption)) | apply CO.agg) rfl (by repeat' first | exact FL.nil | apply FL.cons) (fun u1 hu1 => ?_)
      refine WL.mv rfl rfl ?_
      refine WL.ap (T := Ty) (i := 0) (n := 0) rfl rfl rfl rfl rfl rfl rfl rfl (by first | exact .ro (by assumption) | exact .ro (ROs.wide (by assumption)) | exact .eqJ 0 rfl (by assumption) | exact .own 0 rfl | exact .own 1 rfl | exact .own 2 rfl | exact .own 3 rfl | exact .own 4 rfl | exact .own 5 rfl) (by first | assumption | exact ROs.slm (by assumption)) rfl (by assumption) (by assumption) (by first | omega | (simp; omega) | (simp only [List.length_drop, List.length_take]; omega)) (by unfold maxLen; first | omega | (simp only [List.length_drop, List.length_take]; omega)) (fun v' => (by repeat' first | exact FL.nil | apply FL.cons)) (fun u2 hu2 => ?_)
      refine WL.as rfl rfl (WL.nil (W.seq (W.region (WL.mv rfl rfl (WL.mv rfl rfl (WL.mulK rfl rfl rfl (wrap_i64 ⟨by omega, by omega⟩) (WL.addK rfl rfl rfl (wrap_i64 ⟨by omega, by omega⟩) (WL.mv rfl rfl (WL.mv rfl rfl (WL.mulK rfl rfl rfl (wrap_i64 ⟨by omega, by omega⟩) (WL.addK rfl rfl rfl (wrap_i64 ⟨by omega, by omega⟩) ?_)))))))))))
      refine WL.ix (T := Ty) rfl rfl rfl (by assumption) rfl rfl (by omega) (by first | omega | decide +kernel) ?_
      refine WL.faEN (T := Ty) (off' := 11) rfl rfl rfl rfl rfl rfl rfl (WL.faEN (T := Ty) (off' := 1) rfl rfl rfl rfl rfl rfl rfl ?_)
      rw [hk]
      refine WL.ldE (T := Ty) (j := 0) rfl rfl rfl rfl rfl (by assumption) ?_
      refine WL.add (K := .i64) rfl rfl rfl ?_
      refine WL.ix (T := Ty) rfl rfl rfl (by assumption) rfl rfl (by omega) (by first | omega | decide +kernel) ?_
      refine WL.faEN (T := Ty) (off' := 11) rfl rfl rfl rfl rfl rfl rfl (WL.faEN (T := Ty) (off' := 1) rfl rfl rfl rfl rfl rfl rfl ?_)
      rw [List.nil_append]
      have hset : (L.flatMap evC).set ((2 * (k : Int) + 1).toNat * 14 + 11 + 1) (.int .i64 (IntKind.i64.wrap ((rs k).iter + 1))) = (L.set (2 * k + 1) ((⟨2, 0, (k : Int), ⟨0, 0, 0, 0, 0, 0, 0, 0⟩, ⟨(rs k).err, IntKind.i64.wrap ((rs k).iter + 1), (rs k).list⟩⟩ : Evt), wk)).flatMap evC := by
        rw [show (2 * (k : Int) + 1).toNat = 2 * k + 1 by omega]
        exact flat_set (f := evC) (k := 14) (L := L) (i := 2 * k + 1) (j := 12) (a := (⟨2, 0, (k : Int), ⟨0, 0, 0, 0, 0, 0, 0, 0⟩, rs k⟩, wk)) (b := ((⟨2, 0, (k : Int), ⟨0, 0, 0, 0, 0, 0, 0, 0⟩, ⟨(rs k).err, IntKind.i64.wrap ((rs k).iter + 1), (rs k).list⟩⟩ : Evt), wk)) ev_len hwk (by decide) rfl
      refine WL.stEF (T := Ty) (j := 0) rfl rfl rfl rfl rfl rfl (by first | assumption | omega | (simp only [List.length_set]; omega) | (simp; omega)) rfl (by repeat' first | exact FL.nil | apply FL.cons) ?_
      refine WL.nil (W.seq ?_)
      rw [hset]
      refine W.freeze 0 rfl (by repeat' first | exact FL.nil | apply FL.cons) (fun ρ4 le4 in4 => ?_)
      have r4 := in4.ros
      replace r1 := r1.mono le4
      replace r2 := r2.mono le4
      replace hok := hok.mono le4
      clear in4 hset hg1
      have hb1 : chkH (L.set (2 * k + 1) ((⟨2, 0, (k : Int), ⟨0, 0, 0, 0, 0, 0, 0, 0⟩, ⟨(rs k).err, IntKind.i64.wrap ((rs k).iter + 1), (rs k).list⟩⟩ : Evt), wk)) o = false := by
        refine (hO.turn hkn _ wk).no hkn ?_
        rw [if_pos rfl, ← hrs]
        unfold sameRst
        rw [decide_eq_false (fun h => wrap_ne _ h), Bool.and_false, Bool.false_and]
      have hokb : okL ρ4 (L.set (2 * k + 1) ((⟨2, 0, (k : Int), ⟨0, 0, 0, 0, 0, 0, 0, 0⟩, ⟨(rs k).err, IntKind.i64.wrap ((rs k).iter + 1), (rs k).list⟩⟩ : Evt), wk)) := by
        intro p hp
        rcases mem_set_of hp with rfl | hp
        · have q := hok _ (List.mem_of_getElem? hwk)
          exact ⟨q.1, q.2⟩
        · exact hok p hp
      have hlb : (L.set (2 * k + 1) ((⟨2, 0, (k : Int), ⟨0, 0, 0, 0, 0, 0, 0, 0⟩, ⟨(rs k).err, IntKind.i64.wrap ((rs k).iter + 1), (rs k).list⟩⟩ : Evt), wk)).length ≤ 1000 := by rw [List.length_set]; omega
      generalize (L.set (2 * k + 1) ((⟨2, 0, (k : Int), ⟨0, 0, 0, 0, 0, 0, 0, 0⟩, ⟨(rs k).err, IntKind.i64.wrap ((rs k).iter + 1), (rs k).list⟩⟩ : Evt), wk)) = Lb at r4 hb1 hokb hlb
      have hb2 := hO.dup hkn
      have hb3 : chkH (L.take (2 * k)) (o.take k) = true := (hO.take (Nat.le_of_lt hkn)).yes (fun i _ => by rw [hrs]; exact sameRst_refl _)
      have hok3 : okL ρ4 (L.take (2 * k)) := hok.sub (fun p hp => List.mem_of_mem_take hp)
      have hl3 : (L.take (2 * k)).length ≤ 1000 := by rw [List.length_take]; omega
      have hl4 : (o.take k).length ≤ 1000 := by rw [List.length_take]; omega
      have hl5 : (o ++ [((0 : Int), (k : Int))]).length ≤ 1000 := by rw [List.length_append]; simp; omega
      have hap : o.flatMap (twoC .i64 .i64) ++ [.int .i64 0, .int .i64 (k : Int)] = (o ++ [((0 : Int), (k : Int))]).flatMap (twoC .i64 .i64) := by rw [List.flatMap_append]; rfl
      have hrow : ((o.flatMap (twoC .i64 .i64)).drop (((k : Nat) : Int).toNat * 2)).take 2 = twoC .i64 .i64 ((0 : Int), (k : Int)) := flat_row (k := 2) (fun _ => rfl) (hO.pt k hkn)
      unfold twoC at hrow
      have htw : ∀ q ∈ o.flatMap (twoC .i64 .i64), q.oneCell' = true := two_one o
      refine W.drawA 31 rfl (fun σ0 hσ0 dσ0 => ?_)
      refine WD.takeL 0 rfl (by decide +kernel) (WL.mv rfl rfl (WL.nilT (WD.takeL 1 rfl (by decide +kernel) (WL.mv rfl rfl (WL.nilT (WD.oneL 2 rfl (by decide +kernel) ?_))))))
      refine WL.callV rfl rfl (fun x p d => check_e _ _ _ _ _ _ _ _ (by first | assumption | exact ROs.wide (by assumption) | exact ROs.mono (by assumption) (eqh_at 0 rfl p d) | exact ros_at 0 rfl p d | exact ros_at 1 rfl p d | exact ros_at 2 rfl p d | exact ros_at 3 rfl p d | exact ros_at 4 rfl p d) (by first | rfl | assumption) (by first | assumption | exact okL.wide (by assumption)) (by first | assumption | omega) (by first | assumption | exact ROs.wide (by assumption) | exact ROs.mono (by assumption) (eqh_at 0 rfl p d) | exact ros_at 0 rfl p d | exact ros_at 1 rfl p d | exact ros_at 2 rfl p d | exact ros_at 3 rfl p d | exact ros_at 4 rfl p d) (by first | rfl | assumption) (by first | assumption | omega) (by assumption)) ?_
      refine WL.nilE (WD.takeL 3 rfl (by decide +kernel) (WL.not rfl rfl (WL.nilT (WD.takeL 4 rfl (by decide +kernel) (WL.mv rfl rfl (WL.nilT (WD.takeL 5 rfl (by decide +kernel) (WL.gY rfl rfl (WL.mv rfl rfl (WL.nilT (WD.takeL 7 rfl (by decide +kernel) (WL.gY rfl rfl (WL.mv rfl rfl ?_)))))))))))))
      refine WL.nilT (WD.takeL 9 rfl (by decide +kernel) (WL.gY rfl rfl (WL.mv rfl rfl (WL.nilT (WD.takeL 10 rfl (by decide +kernel) (WL.gY rfl rfl (WL.mv rfl rfl (WL.nilT (WD.takeL 11 rfl (by decide +kernel) (WL.gY rfl rfl ?_))))))))))
      refine WL.ix (T := Ty) rfl rfl rfl (by assumption) rfl rfl (by omega) (by first | omega | decide +kernel) ?_
      refine WL.nilT (WD.takeL 12 rfl (by decide +kernel) (WL.gY rfl rfl ?_))
      refine WL.ldAR (T := Ty) rfl rfl rfl rfl (by first | assumption | exact ROs.wide (by assumption)) (by assumption) rfl ?_
      refine WL.nilT ?_
      refine WD.twoL 6 13 rfl rfl (by decide +kernel) ?_ ?_
      · refine WL.gY rfl rfl ?_
        refine WL.bsC (T := Ty) rfl rfl rfl rfl rfl rfl rfl (by repeat' first | exact CO.nil | apply CO.one (by first | rfl | exact SL.one (by assumption)) | apply CO.agg) rfl (by repeat' first | exact FL.nil | apply FL.cons) (fun u3 hu3 => ?_)
        refine WL.nilS ?_
        refine WD.twoL 8 13 rfl rfl (by decide +kernel) ?_ ?_
        · refine WL.gY rfl rfl ?_
          refine WL.ap (T := Ty) (i := 1) (n := 0) rfl rfl rfl rfl rfl rfl rfl rfl (by first | exact .ro (by assumption) | exact .ro (ROs.wide (by assumption)) | exact .eqJ 0 rfl (by assumption) | exact .own 0 rfl | exact .own 1 rfl | exact .own 2 rfl | exact .own 3 rfl | exact .own 4 rfl | exact .own 5 rfl) (by first | assumption | exact ROs.slm (by assumption)) rfl (by assumption) (by assumption) (by first | omega | (simp; omega) | (simp only [List.length_drop, List.length_take]; omega)) (by unfold maxLen; first | omega | (simp only [List.length_drop, List.length_take]; omega)) (fun v' => (by repeat' first | exact FL.nil | apply FL.cons)) (fun u4 hu4 => ?_)
          refine WL.nilE (WD.oneL 13 rfl (by decide +kernel) (WL.gY rfl rfl ?_))
          refine WL.bsC (T := Ty) rfl rfl rfl rfl rfl rfl rfl (by repeat' first | exact CO.nil | apply CO.one (by first | rfl | exact SL.one (by assumption)) | apply CO.agg) rfl (by repeat' first | exact FL.nil | apply FL.cons) (fun u5 hu5 => ?_)
          refine WL.nilH hσ0 (fun σ1 hσ1 dσ1 mσ1 => ?_)
          have fσ1_0 := ros_at 0 rfl hσ1 dσ1
          refine WD.oneL 14 rfl (by decide +kernel) (WL.gY rfl rfl ?_)
          refine WL.ap (T := Ty) (i := 1) (m := 1) rfl rfl rfl rfl rfl rfl rfl rfl (by first | exact .ro (by assumption) | exact .ro (ROs.wide (by assumption)) | exact .eqJ 0 rfl (by assumption) | exact .own 0 rfl | exact .own 1 rfl | exact .own 2 rfl | exact .own 3 rfl | exact .own 4 rfl | exact .own 5 rfl) (by first | assumption | exact ROs.slm (by assumption)) (by assumption) (by rfl) (AO.all (by repeat' first | exact AO.nil | apply AO.cons (by first | rfl | exact SL.one (by assumption)))) (by first | omega | (simp; omega) | (simp only [List.length_drop, List.length_take]; omega)) (by unfold maxLen; first | omega | (simp only [List.length_drop, List.length_take]; omega)) (fun v' => (by repeat' first | exact FL.nil | apply FL.cons)) (fun u6 hu6 => ?_)
          refine WL.nilE (WD.oneL 15 rfl (by decide +kernel) (WL.gY rfl rfl ?_))
          refine WL.callV rfl rfl (fun x p d => check_e _ _ _ _ _ _ _ _ (by first | assumption | exact ROs.wide (by assumption) | exact ROs.mono (by assumption) (eqh_at 0 rfl p d) | exact ros_at 0 rfl p d | exact ros_at 1 rfl p d | exact ros_at 2 rfl p d | exact ros_at 3 rfl p d | exact ros_at 4 rfl p d) (by first | rfl | assumption) (by first | assumption | exact okL.wide (by assumption)) (by first | assumption | omega) (by first | assumption | exact ROs.wide (by assumption) | exact ROs.mono (by assumption) (eqh_at 0 rfl p d) | exact ros_at 0 rfl p d | exact ros_at 1 rfl p d | exact ros_at 2 rfl p d | exact ros_at 3 rfl p d | exact ros_at 4 rfl p d) (by first | rfl | assumption) (by first | assumption | omega) (by assumption)) ?_
          refine WL.nilE (WD.takeL 16 rfl (by decide +kernel) (WL.gY rfl rfl (WL.not rfl rfl (WL.nilT (WD.takeL 17 rfl (by decide +kernel) (WL.pickT rfl rfl rfl (WL.nilT (WD.takeL 18 rfl (by decide +kernel) (WL.mv rfl rfl (WL.nilT (WD.takeL 19 rfl (by decide +kernel) (WL.gY rfl rfl (WL.mv rfl rfl ?_)))))))))))))
          refine WL.nilT (WD.takeL 20 rfl (by decide +kernel) (WL.gY rfl rfl (WL.mv rfl rfl (WL.nilT (WD.takeL 21 rfl (by decide +kernel) (WL.gY rfl rfl (WL.mulK rfl rfl rfl (wrap_i64 ⟨by omega, by omega⟩) (WL.nilT (WD.takeL 22 rfl (by decide +kernel) (WL.gY rfl rfl ?_))))))))))
          refine WL.slTf (T := Ty) rfl rfl rfl rfl rfl rfl (by first | assumption | exact ROs.wide (by assumption)) (by intro a; rfl) (by first | assumption | omega | (simp; omega)) (fun u7 hu7 ru7 => ?_)
          refine WL.nilT (WD.takeL 23 rfl (by decide +kernel) (WL.gY rfl rfl (WL.mv rfl rfl (WL.nilT (WD.takeL 24 rfl (by decide +kernel) (WL.gY rfl rfl (WL.mv rfl rfl (WL.nilT (WD.takeL 25 rfl (by decide +kernel) (WL.gY rfl rfl ?_))))))))))
          refine WL.slTf (T := Ty) rfl rfl rfl rfl rfl rfl (by first | assumption | exact ROs.wide (by assumption)) (by intro a; rfl) (by first | assumption | omega | (simp; omega)) (fun u8 hu8 ru8 => ?_)
          refine WL.nilT (WD.oneL 26 rfl (by decide +kernel) (WL.gY rfl rfl ?_))
          refine WL.callV rfl rfl (fun x p d => check_e _ _ _ _ _ _ _ _ (by first | assumption | exact ROs.wide (by assumption) | exact ROs.mono (by assumption) (eqh_at 0 rfl p d) | exact ros_at 0 rfl p d | exact ros_at 1 rfl p d | exact ros_at 2 rfl p d | exact ros_at 3 rfl p d | exact ros_at 4 rfl p d) (by first | rfl | assumption) (by first | assumption | exact okL.wide (by assumption)) (by first | assumption | omega) (by first | assumption | exact ROs.wide (by assumption) | exact ROs.mono (by assumption) (eqh_at 0 rfl p d) | exact ros_at 0 rfl p d | exact ros_at 1 rfl p d | exact ros_at 2 rfl p d | exact ros_at 3 rfl p d | exact ros_at 4 rfl p d) (by first | rfl | assumption) (by first | assumption | omega) (by assumption)) ?_
          refine WL.nilE (WD.takeL 27 rfl (by decide +kernel) (WL.pickT rfl rfl rfl (WL.nilT (WD.takeL 28 rfl (by decide +kernel) (WL.mv rfl rfl (WL.nilT (WD.oneL 29 rfl (by decide +kernel) (WL.gY rfl rfl ?_))))))))
          refine WL.callV rfl rfl (fun x p d => awake25_c _) ?_
          refine WL.nilE (WD.takeL 30 rfl (by decide +kernel) (WL.pickT rfl rfl rfl (WL.nilT ?_)))
          refine WD.lastG hσ1 (by decide +kernel) (by repeat' first | exact FL.nil | apply FL.cons) rfl (by repeat' first | exact FL.nil | apply FL.cons) ?_
          refine WL.as rfl rfl (WL.nil ?_)
          exact W.fit (Hs' := []) (by (repeat' first | exact Sel.nil | refine Sel.cons 0 rfl ?_ | refine Sel.cons 1 rfl ?_ | refine Sel.cons 2 rfl ?_ | refine Sel.cons 3 rfl ?_ | refine Sel.cons 4 rfl ?_ | refine Sel.cons 5 rfl ?_ | refine Sel.cons 6 rfl ?_ | refine Sel.cons 7 rfl ?_ | refine Sel.cons 8 rfl ?_ | refine Sel.cons 9 rfl ?_ | refine Sel.cons 10 rfl ?_ | refine Sel.cons 11 rfl ?_ | refine Sel.cons 12 rfl ?_ | refine Sel.cons 13 rfl ?_ | refine Sel.cons 14 rfl ?_ | refine Sel.cons 15 rfl ?_ | refine Sel.cons 16 rfl ?_ | refine Sel.cons 17 rfl ?_)) (W.ret1 rfl rfl (fun h q => rfl))
        · refine WL.gY rfl rfl ?_
          refine WL.bsC (T := Ty) rfl rfl rfl rfl rfl rfl rfl (by repeat' first | exact CO.nil | apply CO.one (by first | rfl | exact SL.one (by assumption)) | apply CO.agg) rfl (by repeat' first | exact FL.nil | apply FL.cons) (fun u4 hu4 => ?_)
          refine WL.nilH hσ0 (fun σ1 hσ1 dσ1 mσ1 => ?_)
          have fσ1_0 := ros_at 0 rfl hσ1 dσ1
          refine WD.oneL 8 rfl (by decide +kernel) (WL.gY rfl rfl ?_)
          refine WL.ap (T := Ty) (i := 1) (n := 0) rfl rfl rfl rfl rfl rfl rfl rfl (by first | exact .ro (by assumption) | exact .ro (ROs.wide (by assumption)) | exact .eqJ 0 rfl (by assumption) | exact .own 0 rfl | exact .own 1 rfl | exact .own 2 rfl | exact .own 3 rfl | exact .own 4 rfl | exact .own 5 rfl) (by first | assumption | exact ROs.slm (by assumption)) rfl (by assumption) (by assumption) (by first | omega | (simp; omega) | (simp only [List.length_drop, List.length_take]; omega)) (by unfold maxLen; first | omega | (simp only [List.length_drop, List.length_take]; omega)) (fun v' => (by repeat' first | exact FL.nil | apply FL.cons)) (fun u5 hu5 => ?_)
          refine WL.nilE (WD.oneL 14 rfl (by decide +kernel) (WL.gY rfl rfl ?_))
          refine WL.ap (T := Ty) (i := 1) (m := 1) rfl rfl rfl rfl rfl rfl rfl rfl (by first | exact .ro (by assumption) | exact .ro (ROs.wide (by assumption)) | exact .eqJ 0 rfl (by assumption) | exact .own 0 rfl | exact .own 1 rfl | exact .own 2 rfl | exact .own 3 rfl | exact .own 4 rfl | exact .own 5 rfl) (by first | assumption | exact ROs.slm (by assumption)) (by assumption) (by rfl) (AO.all (by repeat' first | exact AO.nil | apply AO.cons (by first | rfl | exact SL.one (by assumption)))) (by first | omega | (simp; omega) | (simp only [List.length_drop, List.length_take]; omega)) (by unfold maxLen; first | omega | (simp only [List.length_drop, List.length_take]; omega)) (fun v' => (by repeat' first | exact FL.nil | apply FL.cons)) (fun u6 hu6 => ?_)
          refine WL.nilE (WD.oneL 15 rfl (by decide +kernel) (WL.gY rfl rfl ?_))
          refine WL.callV rfl rfl (fun x p d => check_e _ _ _ _ _ _ _ _ (by first | assumption | exact ROs.wide (by assumption) | exact ROs.mono (by assumption) (eqh_at 0 rfl p d) | exact ros_at 0 rfl p d | exact ros_at 1 rfl p d | exact ros_at 2 rfl p d | exact ros_at 3 rfl p d | exact ros_at 4 rfl p d) (by first | rfl | assumption) (by first | assumption | exact okL.wide (by assumption)) (by first | assumption | omega) (by first | assumption | exact ROs.wide (by assumption) | exact ROs.mono (by assumption) (eqh_at 0 rfl p d) | exact ros_at 0 rfl p d | exact ros_at 1 rfl p d | exact ros_at 2 rfl p d | exact ros_at 3 rfl p d | exact ros_at 4 rfl p d) (by first | rfl | assumption) (by first | assumption | omega) (by assumption)) ?_
          refine WL.nilE (WD.takeL 16 rfl (by decide +kernel) (WL.gY rfl rfl (WL.not rfl rfl (WL.nilT (WD.takeL 17 rfl (by decide +kernel) (WL.pickT rfl rfl rfl (WL.nilT (WD.takeL 18 rfl (by decide +kernel) (WL.mv rfl rfl (WL.nilT (WD.takeL 19 rfl (by decide +kernel) (WL.gY rfl rfl (WL.mv rfl rfl ?_)))))))))))))
          refine WL.nilT (WD.takeL 20 rfl (by decide +kernel) (WL.gY rfl rfl (WL.mv rfl rfl (WL.nilT (WD.takeL 21 rfl (by decide +kernel) (WL.gY rfl rfl (WL.mulK rfl rfl rfl (wrap_i64 ⟨by omega, by omega⟩) (WL.nilT (WD.takeL 22 rfl (by decide +kernel) (WL.gY rfl rfl ?_))))))))))
          refine WL.slTf (T := Ty) rfl rfl rfl rfl rfl rfl (by first | assumption | exact ROs.wide (by assumption)) (by intro a; rfl) (by first | assumption | omega | (simp; omega)) (fun u7 hu7 ru7 => ?_)
          refine WL.nilT (WD.takeL 23 rfl (by decide +kernel) (WL.gY rfl rfl (WL.mv rfl rfl (WL.nilT (WD.takeL 24 rfl (by decide +kernel) (WL.gY rfl rfl (WL.mv rfl rfl (WL.nilT (WD.takeL 25 rfl (by decide +kernel) (WL.gY rfl rfl ?_))))))))))
          refine WL.slTf (T := Ty) rfl rfl rfl rfl rfl rfl (by first | assumption | exact ROs.wide (by assumption)) (by intro a; rfl) (by first | assumption | omega | (simp; omega)) (fun u8 hu8 ru8 => ?_)
          refine WL.nilT (WD.oneL 26 rfl (by decide +kernel) (WL.gY rfl rfl ?_))
          refine WL.callV rfl rfl (fun x p d => check_e _ _ _ _ _ _ _ _ (by first | assumption | exact ROs.wide (by assumption) | exact ROs.mono (by assumption) (eqh_at 0 rfl p d) | exact ros_at 0 rfl p d | exact ros_at 1 rfl p d | exact ros_at 2 rfl p d | exact ros_at 3 rfl p d | exact ros_at 4 rfl p d) (by first | rfl | assumption) (by first | assumption | exact okL.wide (by assumption)) (by first | assumption | omega) (by first | assumption | exact ROs.wide (by assumption) | exact ROs.mono (by assumption) (eqh_at 0 rfl p d) | exact ros_at 0 rfl p d | exact ros_at 1 rfl p d | exact ros_at 2 rfl p d | exact ros_at 3 rfl p d | exact ros_at 4 rfl p d) (by first | rfl | assumption) (by first | assumption | omega) (by assumption)) ?_
          refine WL.nilE (WD.takeL 27 rfl (by decide +kernel) (WL.pickT rfl rfl rfl (WL.nilT (WD.takeL 28 rfl (by decide +kernel) (WL.mv rfl rfl (WL.nilT (WD.oneL 29 rfl (by decide +kernel) (WL.gY rfl rfl ?_))))))))
          refine WL.callV rfl rfl (fun x p d => awake25_c _) ?_
          refine WL.nilE (WD.takeL 30 rfl (by decide +kernel) (WL.pickT rfl rfl rfl (WL.nilT ?_)))
          refine WD.lastG hσ1 (by decide +kernel) (by repeat' first | exact FL.nil | apply FL.cons) rfl (by repeat' first | exact FL.nil | apply FL.cons) ?_
          refine WL.as rfl rfl (WL.nil ?_)
          exact W.fit (Hs' := []) (by (repeat' first | exact Sel.nil | refine Sel.cons 0 rfl ?_ | refine Sel.cons 1 rfl ?_ | refine Sel.cons 2 rfl ?_ | refine Sel.cons 3 rfl ?_ | refine Sel.cons 4 rfl ?_ | refine Sel.cons 5 rfl ?_ | refine Sel.cons 6 rfl ?_ | refine Sel.cons 7 rfl ?_ | refine Sel.cons 8 rfl ?_ | refine Sel.cons 9 rfl ?_ | refine Sel.cons 10 rfl ?_ | refine Sel.cons 11 rfl ?_ | refine Sel.cons 12 rfl ?_ | refine Sel.cons 13 rfl ?_ | refine Sel.cons 14 rfl ?_ | refine Sel.cons 15 rfl ?_ | refine Sel.cons 16 rfl ?_ | refine Sel.cons 17 rfl ?_)) (W.ret1 rfl rfl (fun h q => rfl))
      · refine WL.gY rfl rfl ?_
        refine WL.bsC (T := Ty) rfl rfl rfl rfl rfl rfl rfl (by repeat' first | exact CO.nil | apply CO.one (by first | rfl | exact SL.one (by assumption)) | apply CO.agg) rfl (by repeat' first | exact FL.nil | apply FL.cons) (fun u3 hu3 => ?_)
        refine WL.nilH hσ0 (fun σ1 hσ1 dσ1 mσ1 => ?_)
        have fσ1_0 := ros_at 0 rfl hσ1 dσ1
        refine WD.oneL 6 rfl (by decide +kernel) (WL.gY rfl rfl ?_)
        refine WL.bsC (T := Ty) rfl rfl rfl rfl rfl rfl rfl (by repeat' first | exact CO.nil | apply CO.one (by first | rfl | exact SL.one (by assumption)) | apply CO.agg) rfl (by repeat' first | exact FL.nil | apply FL.cons) (fun u4 hu4 => ?_)
        refine WL.nilS (WD.oneL 8 rfl (by decide +kernel) (WL.gY rfl rfl ?_))
        refine WL.ap (T := Ty) (i := 1) (n := 0) rfl rfl rfl rfl rfl rfl rfl rfl (by first | exact .ro (by assumption) | exact .ro (ROs.wide (by assumption)) | exact .eqJ 0 rfl (by assumption) | exact .own 0 rfl | exact .own 1 rfl | exact .own 2 rfl | exact .own 3 rfl | exact .own 4 rfl | exact .own 5 rfl) (by first | assumption | exact ROs.slm (by assumption)) rfl (by assumption) (by assumption) (by first | omega | (simp; omega) | (simp only [List.length_drop, List.length_take]; omega)) (by unfold maxLen; first | omega | (simp only [List.length_drop, List.length_take]; omega)) (fun v' => (by repeat' first | exact FL.nil | apply FL.cons)) (fun u5 hu5 => ?_)
        refine WL.nilE (WD.oneL 14 rfl (by decide +kernel) (WL.gY rfl rfl ?_))
        refine WL.ap (T := Ty) (i := 1) (m := 1) rfl rfl rfl rfl rfl rfl rfl rfl (by first | exact .ro (by assumption) | exact .ro (ROs.wide (by assumption)) | exact .eqJ 0 rfl (by assumption) | exact .own 0 rfl | exact .own 1 rfl | exact .own 2 rfl | exact .own 3 rfl | exact .own 4 rfl | exact .own 5 rfl) (by first | assumption | exact ROs.slm (by assumption)) (by assumption) (by rfl) (AO.all (by repeat' first | exact AO.nil | apply AO.cons (by first | rfl | exact SL.one (by assumption)))) (by first | omega | (simp; omega) | (simp only [List.length_drop, List.length_take]; omega)) (by unfold maxLen; first | omega | (simp only [List.length_drop, List.length_take]; omega)) (fun v' => (by repeat' first | exact FL.nil | apply FL.cons)) (fun u6 hu6 => ?_)
        refine WL.nilE (WD.oneL 15 rfl (by decide +kernel) (WL.gY rfl rfl ?_))
        refine WL.callV rfl rfl (fun x p d => check_e _ _ _ _ _ _ _ _ (by first | assumption | exact ROs.wide (by assumption) | exact ROs.mono (by assumption) (eqh_at 0 rfl p d) | exact ros_at 0 rfl p d | exact ros_at 1 rfl p d | exact ros_at 2 rfl p d | exact ros_at 3 rfl p d | exact ros_at 4 rfl p d) (by first | rfl | assumption) (by first | assumption | exact okL.wide (by assumption)) (by first | assumption | omega) (by first | assumption | exact ROs.wide (by assumption) | exact ROs.mono (by assumption) (eqh_at 0 rfl p d) | exact ros_at 0 rfl p d | exact ros_at 1 rfl p d | exact ros_at 2 rfl p d | exact ros_at 3 rfl p d | exact ros_at 4 rfl p d) (by first | rfl | assumption) (by first | assumption | omega) (by assumption)) ?_
        refine WL.nilE (WD.takeL 16 rfl (by decide +kernel) (WL.gY rfl rfl (WL.not rfl rfl (WL.nilT (WD.takeL 17 rfl (by decide +kernel) (WL.pickT rfl rfl rfl (WL.nilT (WD.takeL 18 rfl (by decide +kernel) (WL.mv rfl rfl (WL.nilT (WD.takeL 19 rfl (by decide +kernel) (WL.gY rfl rfl (WL.mv rfl rfl ?_)))))))))))))
        refine WL.nilT (WD.takeL 20 rfl (by decide +kernel) (WL.gY rfl rfl (WL.mv rfl rfl (WL.nilT (WD.takeL 21 rfl (by decide +kernel) (WL.gY rfl rfl (WL.mulK rfl rfl rfl (wrap_i64 ⟨by omega, by omega⟩) (WL.nilT (WD.takeL 22 rfl (by decide +kernel) (WL.gY rfl rfl ?_))))))))))
        refine WL.slTf (T := Ty) rfl rfl rfl rfl rfl rfl (by first | assumption | exact ROs.wide (by assumption)) (by intro a; rfl) (by first | assumption | omega | (simp; omega)) (fun u7 hu7 ru7 => ?_)
        refine WL.nilT (WD.takeL 23 rfl (by decide +kernel) (WL.gY rfl rfl (WL.mv rfl rfl (WL.nilT (WD.takeL 24 rfl (by decide +kernel) (WL.gY rfl rfl (WL.mv rfl rfl (WL.nilT (WD.takeL 25 rfl (by decide +kernel) (WL.gY rfl rfl ?_))))))))))
        refine WL.slTf (T := Ty) rfl rfl rfl rfl rfl rfl (by first | assumption | exact ROs.wide (by assumption)) (by intro a; rfl) (by first | assumption | omega | (simp; omega)) (fun u8 hu8 ru8 => ?_)
        refine WL.nilT (WD.oneL 26 rfl (by decide +kernel) (WL.gY rfl rfl ?_))
        refine WL.callV rfl rfl (fun x p d => check_e _ _ _ _ _ _ _ _ (by first | assumption | exact ROs.wide (by assumption) | exact ROs.mono (by assumption) (eqh_at 0 rfl p d) | exact ros_at 0 rfl p d | exact ros_at 1 rfl p d | exact ros_at 2 rfl p d | exact ros_at 3 rfl p d | exact ros_at 4 rfl p d) (by first | rfl | assumption) (by first | assumption | exact okL.wide (by assumption)) (by first | assumption | omega) (by first | assumption | exact ROs.wide (by assumption) | exact ROs.mono (by assumption) (eqh_at 0 rfl p d) | exact ros_at 0 rfl p d | exact ros_at 1 rfl p d | exact ros_at 2 rfl p d | exact ros_at 3 rfl p d | exact ros_at 4 rfl p d) (by first | rfl | assumption) (by first | assumption | omega) (by assumption)) ?_
        refine WL.nilE (WD.takeL 27 rfl (by decide +kernel) (WL.pickT rfl rfl rfl (WL.nilT (WD.takeL 28 rfl (by decide +kernel) (WL.mv rfl rfl (WL.nilT (WD.oneL 29 rfl (by decide +kernel) (WL.gY rfl rfl ?_))))))))
        refine WL.callV rfl rfl (fun x p d => awake25_c _) ?_
        refine WL.nilE (WD.takeL 30 rfl (by decide +kernel) (WL.pickT rfl rfl rfl (WL.nilT ?_)))
        refine WD.lastG hσ1 (by decide +kernel) (by repeat' first | exact FL.nil | apply FL.cons) rfl (by repeat' first | exact FL.nil | apply FL.cons) ?_
        refine WL.as rfl rfl (WL.nil ?_)
        exact W.fit (Hs' := []) (by (repeat' first | exact Sel.nil | refine Sel.cons 0 rfl ?_ | refine Sel.cons 1 rfl ?_ | refine Sel.cons 2 rfl ?_ | refine Sel.cons 3 rfl ?_ | refine Sel.cons 4 rfl ?_ | refine Sel.cons 5 rfl ?_ | refine Sel.cons 6 rfl ?_ | refine Sel.cons 7 rfl ?_ | refine Sel.cons 8 rfl ?_ | refine Sel.cons 9 rfl ?_ | refine Sel.cons 10 rfl ?_ | refine Sel.cons 11 rfl ?_ | refine Sel.cons 12 rfl ?_ | refine Sel.cons 13 rfl ?_ | refine Sel.cons 14 rfl ?_ | refine Sel.cons 15 rfl ?_ | refine Sel.cons 16 rfl ?_ | refine Sel.cons 17 rfl ?_)) (W.ret1 rfl rfl (fun h q => rfl))
  · refine W.loopR (σ := Nat × List (Evt × Value) × List PK × Value × Value × Value × Value) (fun s => [(0, v0), (1, .int .i64 a1), (5, s.2.2.2.1), (6, s.2.2.2.2.1), (7, pt b0 0), (8, .int .i64 (s.1 : Int))])
      (fun s => [Buf 14 s.2.2.2.1 (s.2.1.flatMap evC), Buf 2 s.2.2.2.2.1 (s.2.2.1.flatMap (twoC .i64 .i64)), box b0 [s.2.2.2.2.2.1, s.2.2.2.2.2.2, .int .i64 (mr g s.1).1.next] 31]) (fun s ρ' => s.1 ≤ 40 ∧ s.1 ≤ z0.length ∧ One g rs s.1 s.2.1 s.2.2.1 ∧ okL ρ' s.2.1 ∧ SL s.2.2.2.1 s.2.1.length ∧ SL s.2.2.2.2.1 s.2.2.1.length ∧ RMdl ρ' (.agg #[s.2.2.2.2.2.1, s.2.2.2.2.2.2, .int .i64 (mr g s.1).1.next]) (mr g s.1).1 ∧ SL s.2.2.2.2.2.1 (mr g s.1).1.ser.length ∧ SL s.2.2.2.2.2.2 (mr g s.1).1.its.length) (fun s => 40 - s.1)
      (0, [], [], nilV, nilV, nilV, nilV) ⟨rfl, rfl, rfl, rfl, rfl, rfl, trivial⟩ (by rw [mr_zero]; rfl) ⟨Nat.zero_le _, Nat.zero_le _, One.nil g rs, okL.nil, slZ, slZ, by rw [mr_zero]; exact rmdl_zero ρ, by rw [mr_zero]; exact slZ, by rw [mr_zero]; exact slZ⟩ ?_
    rintro ⟨i, L, o, ve, vo, sv, iv⟩ ρ1 le1 ⟨hi, hiz, hO, hok, t1, t2, hM, t3, t4⟩ next
    dsimp only at hi hiz hO hok t1 t2 hM t3 t4 next ⊢
    replace r0 := r0.mono le1
    have lL := hO.lL
    have lo := hO.lo
    have l1 := evs_cells L
    have l2 := two_len (k0 := .i64) (k1 := .i64) o
    by_cases hc1 : i < z0.length
    · obtain ⟨x, hx⟩ : ∃ x, z0[i]? = some x := ⟨_, List.getElem?_eq_getElem hc1⟩
      have hx1 : (z0.map (Value.int .i64))[i]? = some (.int .i64 x) := by rw [List.getElem?_map, hx]; rfl
      by_cases hc2 : i < 40
      · have hI := mr_inv g i
        have hgx := hg i x hx
        have hri := hrs i
        rw [hgx] at hri
        have nx := fun (L' : List (Evt × Value)) (o' : List PK) (ve' vo' sv' iv' : Value) (ρ' : Hp) => next ⟨i + 1, L', o', ve', vo', sv', iv'⟩ ρ'
        dsimp only at nx
        simp only [mr_succ, hgx] at nx
        have hMh := PLift.up hM
        clear hM
        refine W.seq (W.seq (W.region (WL.mv rfl rfl (WL.mv rfl rfl ?_))))
        refine WL.len (T := Ty) rfl rfl (by assumption) rfl ?_
        refine WL.lss rfl rfl rfl (WL.mv rfl rfl (WL.gT rfl rfl (by omega) (WL.mv rfl rfl (WL.gT rfl rfl (by omega) (WL.lss rfl rfl rfl (WL.pickTp rfl rfl (by omega) rfl (WL.nil (W.condpT rfl (by omega) (W.skip (W.seq (W.block (W.seq (W.region ?_)))))))))))))
        refine WL.mv rfl rfl (WL.mv rfl rfl ?_)
        refine WL.ix (T := Ty) rfl rfl rfl (by assumption) rfl rfl (by omega) (by first | omega | decide +kernel) ?_
        refine WL.ldKn (T := Ty) rfl rfl rfl rfl (by first | assumption | exact ROs.wide (by assumption)) (by assumption) ?_
        refine WL.mv rfl rfl ?_
        refine WL.callV rfl rfl (fun x p d => hopf _ _ _) ?_
        refine WL.alF (T := Ty) rfl rfl (by repeat' first | exact FL.nil | apply FL.cons) (fun b1 => ?_)
        refine WL.stAO (T := Ty) (j := 0) rfl rfl rfl rfl (by repeat' first | exact AO.nil | apply AO.cons (by first | rfl | exact SL.one (by assumption))) rfl rfl (by repeat' first | exact FL.nil | apply FL.cons) (by repeat' first | exact FL.nil | apply FL.cons) ?_
        refine WL.nil (W.seq (W.region ?_))
        refine WL.ldAF (T := Ty) (j := 3) rfl rfl rfl rfl rfl rfl (by repeat' first | exact FL.nil | apply FL.cons) ?_
        refine WL.ldAF (T := Ty) (j := 0) rfl rfl rfl rfl rfl rfl (by repeat' first | exact FL.nil | apply FL.cons) ?_
        have hM := hMh.down
        refine WL.callF rfl rfl (fun x p d => doRX_c _ _ _ _ _ _ _ _ _ _ _ _ (by first | assumption | exact RMdl.wide (by assumption) | exact RMdl.mono (by assumption) (eqh_at 0 rfl p d) | exact RMdl.mono (In.rmdl (by assumption)) (eqh_at 0 rfl p d) | exact (in_at 0 rfl p d).rmdl | exact (in_at 1 rfl p d).rmdl | exact (in_at 2 rfl p d).rmdl | exact (in_at 3 rfl p d).rmdl | exact (in_at 4 rfl p d).rmdl | exact (in_at 5 rfl p d).rmdl | exact (in_at 6 rfl p d).rmdl | exact (in_at 7 rfl p d).rmdl | exact (in_at 8 rfl p d).rmdl | exact (in_at 9 rfl p d).rmdl | exact (in_at 10 rfl p d).rmdl | exact (in_at 11 rfl p d).rmdl | exact (in_at 12 rfl p d).rmdl | exact (in_at 13 rfl p d).rmdl | exact (in_at 14 rfl p d).rmdl | exact (in_at 15 rfl p d).rmdl | exact (in_at 16 rfl p d).rmdl | exact (in_at 17 rfl p d).rmdl | exact (in_at 18 rfl p d).rmdl | exact (in_at 19 rfl p d).rmdl | exact (in_at 20 rfl p d).rmdl | exact (in_at 21 rfl p d).rmdl | exact (in_at 22 rfl p d).rmdl | exact (in_at 23 rfl p d).rmdl | exact (in_at 24 rfl p d).rmdl | exact (in_at 25 rfl p d).rmdl | exact (in_at 26 rfl p d).rmdl | exact (in_at 27 rfl p d).rmdl | exact (in_at 28 rfl p d).rmdl | exact (in_at 29 rfl p d).rmdl) (by assumption) (by first | assumption | omega)) (fun r2 => ?_)
        refine WL.opens (α := (Value × Value × Value)) (φ := fun x => r2 = .tuple #[.agg #[x.1, x.2.1, .int .i64 _], .agg #[.int .i64 _, .int .i64 _, x.2.2]] ∧ SL x.1 _ ∧ SL x.2.1 _ ∧ SL x.2.2 _) (ps := fun x => [OMdl (.agg #[x.1, x.2.1, .int .i64 _]) _, ORst (.agg #[.int .i64 _, .int .i64 _, x.2.2]) _]) 0 rfl (fun h q => DoR.open q) (by repeat' first | exact FL.nil | apply FL.cons) ?_
        rintro ⟨sv2, iv2, u2⟩ ⟨es2, sa2, sb2, sc2⟩
        subst es2
        dsimp only [List.cons_append, List.nil_append] at sa2 sb2 sc2 ⊢
        refine WL.mv rfl rfl (WL.extL rfl rfl rfl (WL.extL rfl rfl rfl ?_))
        refine WL.alF (T := Ty) rfl rfl (by repeat' first | exact FL.nil | apply FL.cons) (fun b3 => ?_)
        refine WL.alF (T := Ty) rfl rfl (by repeat' first | exact FL.nil | apply FL.cons) (fun b4 => ?_)
        refine WL.stAO (T := Ty) (j := 1) rfl rfl rfl rfl (by repeat' first | exact AO.nil | apply AO.cons (by first | rfl | exact SL.one (by assumption))) rfl rfl (by repeat' first | exact FL.nil | apply FL.cons) (by repeat' first | exact FL.nil | apply FL.cons) ?_
        refine WL.stAO (T := Ty) (j := 0) rfl rfl rfl rfl (by repeat' first | exact AO.nil | apply AO.cons (by first | rfl | exact SL.one (by assumption))) rfl rfl (by repeat' first | exact FL.nil | apply FL.cons) (by repeat' first | exact FL.nil | apply FL.cons) ?_
        refine WL.nil ?_
        have hRl : (doM (mr g i).1 (f x (i : Int))).2.list.length ≤ 40 := Nat.le_trans (rst_len hI _) hi
        generalize hD : doM (mr g i).1 (f x (i : Int)) = D at hri nx hRl sa2 sb2 sc2 ⊢
        obtain ⟨M', R'⟩ := D
        dsimp only at hri nx hRl sa2 sb2 sc2 ⊢
        refine W.fit (Hs' := [OMdl _ _, ORst _ _, box b4 _ _, box b3 _ _, box b1 _ _, Buf 14 ve _, Buf 2 vo _, box b0 _ _]) (by (repeat' first | exact Sel.nil | refine Sel.cons 0 rfl ?_ | refine Sel.cons 1 rfl ?_ | refine Sel.cons 2 rfl ?_ | refine Sel.cons 3 rfl ?_ | refine Sel.cons 4 rfl ?_ | refine Sel.cons 5 rfl ?_ | refine Sel.cons 6 rfl ?_ | refine Sel.cons 7 rfl ?_ | refine Sel.cons 8 rfl ?_ | refine Sel.cons 9 rfl ?_ | refine Sel.cons 10 rfl ?_ | refine Sel.cons 11 rfl ?_ | refine Sel.cons 12 rfl ?_ | refine Sel.cons 13 rfl ?_ | refine Sel.cons 14 rfl ?_ | refine Sel.cons 15 rfl ?_ | refine Sel.cons 16 rfl ?_ | refine Sel.cons 17 rfl ?_)) ?_
        refine W.freeze 0 rfl (by repeat' first | exact FL.nil | apply FL.cons) (fun ρ2 le2 in2 => ?_)
        refine W.freeze 0 rfl (by repeat' first | exact FL.nil | apply FL.cons) (fun ρ3 le3 in3 => ?_)
        have hM2 := (in2.mono le3).rmdl
        have hq2 := rrst_ros in3.rrst
        replace hok := (hok.mono le2).mono le3
        clear in2 in3 hM hMh r0
        have hf1 : L.flatMap evC ++ [.int .i64 1, .int .i64 0, .int .i64 (i : Int), .int .i64 (f x (i : Int)).kind, .int .i64 (f x (i : Int)).series, .int .i64 (f x (i : Int)).iter, .int .i64 (f x (i : Int)).t, .int .u64 (f x (i : Int)).v, .int .i64 (f x (i : Int)).lo, .int .i64 (f x (i : Int)).hi, .int .i64 (f x (i : Int)).n, .int .i64 0, .int .i64 0, .slice none 0 0, .int .i64 2, .int .i64 0, .int .i64 (i : Int), .int .i64 0, .int .i64 0, .int .i64 0, .int .i64 0, .int .u64 0, .int .i64 0, .int .i64 0, .int .i64 0, .int .i64 R'.err, .int .i64 R'.iter, u2] = (L ++ [((⟨1, 0, (i : Int), f x (i : Int), ⟨0, 0, []⟩⟩ : Evt), (.slice none 0 0 : Value)), (⟨2, 0, (i : Int), ⟨0, 0, 0, 0, 0, 0, 0, 0⟩, R'⟩, u2)]).flatMap evC := by rw [List.flatMap_append]; rfl
        have hf2 : o.flatMap (twoC .i64 .i64) ++ [.int .i64 0, .int .i64 (i : Int)] = (o ++ [((0 : Int), (i : Int))]).flatMap (twoC .i64 .i64) := by rw [List.flatMap_append]; rfl
        have hsn := hO.snoc (.slice none 0 0) u2
        rw [hgx, hri] at hsn
        refine W.seq (W.region ?_)
        refine WL.ldAF (T := Ty) (j := 1) rfl rfl rfl rfl rfl rfl (by repeat' first | exact FL.nil | apply FL.cons) ?_
        refine WL.stAO (T := Ty) (j := 5) rfl rfl rfl rfl (by repeat' first | exact AO.nil | apply AO.cons (by first | rfl | exact SL.one (by assumption))) rfl rfl (by repeat' first | exact FL.nil | apply FL.cons) (by repeat' first | exact FL.nil | apply FL.cons) ?_
        refine WL.nil (W.seq (W.region (WL.mv rfl rfl (WL.mv rfl rfl ?_))))
        refine WL.ldAF (T := Ty) (j := 2) rfl rfl rfl rfl rfl rfl (by repeat' first | exact FL.nil | apply FL.cons) ?_
        refine WL.bdC (T := Ty) rfl rfl rfl rfl (by repeat' first | exact CO.nil | apply CO.one (by first | rfl | exact SL.one (by assumption)) | apply CO.agg) rfl (by repeat' first | exact FL.nil | apply FL.cons) ?_
        refine WL.mv rfl rfl ?_
        refine WL.ldAF (T := Ty) (j := 0) rfl rfl rfl rfl rfl rfl (by repeat' first | exact FL.nil | apply FL.cons) ?_
        refine WL.bdC (T := Ty) rfl rfl rfl rfl (by repeat' first | exact CO.nil | apply CO.one (by first | rfl | exact SL.one (by assumption)) | apply CO.agg) rfl (by repeat' first | exact FL.nil | apply FL.cons) ?_
        refine WL.bs2 (T := Ty) rfl rfl rfl rfl rfl rfl rfl rfl rfl (by repeat' first | exact FL.nil | apply FL.cons) (fun u5 hu5 => ?_)
        refine WL.apS2 (T := Ty) (i := 3) rfl rfl rfl rfl rfl rfl rfl rfl rfl (by assumption) rfl (by assumption) (by repeat' first | exact AO.nil | apply AO.cons (by first | rfl | exact SL.one (by assumption))) (by omega) (by omega) (fun v' => (by repeat' first | exact FL.nil | apply FL.cons)) (fun u6 hu6 => ?_)
        refine WL.as rfl rfl (WL.nil (W.region (WL.mv rfl rfl (WL.mv rfl rfl ?_))))
        refine WL.bdC (T := Ty) rfl rfl rfl rfl (by repeat' first | exact CO.nil | apply CO.one (by first | rfl | exact SL.one (by assumption)) | apply CO.agg) rfl (by repeat' first | exact FL.nil | apply FL.cons) ?_
        refine WL.bsC (T := Ty) rfl rfl rfl rfl rfl rfl rfl (by repeat' first | exact CO.nil | apply CO.one (by first | rfl | exact SL.one (by assumption)) | apply CO.agg) rfl (by repeat' first | exact FL.nil | apply FL.cons) (fun u7 hu7 => ?_)
        refine WL.apS (T := Ty) (i := 4) rfl rfl rfl rfl rfl rfl rfl rfl rfl (by first | rfl | assumption) rfl (by assumption) (by repeat' first | exact AO.nil | apply AO.cons (by first | rfl | exact SL.one (by assumption))) (by first | omega | (simp; omega) | (simp only [List.length_drop, List.length_take]; omega)) (by first | omega | (simp; omega) | (simp only [List.length_drop, List.length_take]; omega)) (fun v' => (by repeat' first | exact FL.nil | apply FL.cons)) (fun u8 hu8 => ?_)
        refine WL.as rfl rfl (WL.nil (W.inBlock (W.region (WL.mv rfl rfl (WL.addK rfl rfl rfl (wrap_i64 ⟨by omega, by omega⟩) (WL.as rfl rfl (WL.nil ?_)))))))
        rw [hf1, hf2]
        refine W.fit (Hs' := [Buf 14 u6 _, Buf 2 u8 _, box b0 _ _]) (by (repeat' first | exact Sel.nil | refine Sel.cons 0 rfl ?_ | refine Sel.cons 1 rfl ?_ | refine Sel.cons 2 rfl ?_ | refine Sel.cons 3 rfl ?_ | refine Sel.cons 4 rfl ?_ | refine Sel.cons 5 rfl ?_ | refine Sel.cons 6 rfl ?_ | refine Sel.cons 7 rfl ?_ | refine Sel.cons 8 rfl ?_ | refine Sel.cons 9 rfl ?_ | refine Sel.cons 10 rfl ?_ | refine Sel.cons 11 rfl ?_ | refine Sel.cons 12 rfl ?_ | refine Sel.cons 13 rfl ?_ | refine Sel.cons 14 rfl ?_ | refine Sel.cons 15 rfl ?_ | refine Sel.cons 16 rfl ?_ | refine Sel.cons 17 rfl ?_)) ?_
        refine W.sub ?_ (nx _ _ u6 u8 sv2 iv2 ρ3 (fun b o h => le3 b o (le2 b o h)) ⟨by omega, by omega, hsn, okL.app hok (okL.z rfl (okL.c hq2 (by dsimp only; omega) okL.nil)), by rw [List.length_append]; exact hu6, by rw [List.length_append]; exact hu8, hM2, sa2, sb2⟩ (by omega))
        exact ⟨rfl, rfl, rfl, rfl, rfl, rfl, trivial⟩
      · refine W.seq ?_
        refine W.seq (W.region (WL.mv rfl rfl (WL.mv rfl rfl ?_)))
        refine WL.len (T := Ty) rfl rfl (by assumption) rfl ?_
        refine WL.lss rfl rfl rfl (WL.mv rfl rfl (WL.gT rfl rfl (by omega) (WL.mv rfl rfl (WL.gT rfl rfl (by omega) (WL.lss rfl rfl rfl (WL.pickTp rfl rfl (by omega) rfl (WL.nil (W.condpF rfl (by omega) (W.exit rfl ?_)))))))))
        refine W.fit (by (repeat' first | exact Sel.nil | refine Sel.cons 0 rfl ?_ | refine Sel.cons 1 rfl ?_ | refine Sel.cons 2 rfl ?_ | refine Sel.cons 3 rfl ?_ | refine Sel.cons 4 rfl ?_ | refine Sel.cons 5 rfl ?_ | refine Sel.cons 6 rfl ?_ | refine Sel.cons 7 rfl ?_ | refine Sel.cons 8 rfl ?_ | refine Sel.cons 9 rfl ?_ | refine Sel.cons 10 rfl ?_ | refine Sel.cons 11 rfl ?_ | refine Sel.cons 12 rfl ?_ | refine Sel.cons 13 rfl ?_ | refine Sel.cons 14 rfl ?_ | refine Sel.cons 15 rfl ?_ | refine Sel.cons 16 rfl ?_ | refine Sel.cons 17 rfl ?_)) (W.sub ?_ (cut0 ⟨i, L, o, ve, vo⟩ ρ1 le1 ⟨hi, hO, hok, t1, t2⟩))
        exact ⟨rfl, rfl, rfl, trivial⟩
    · refine W.seq ?_
      refine W.seq (W.region (WL.mv rfl rfl (WL.mv rfl rfl ?_)))
      refine WL.len (T := Ty) rfl rfl (by assumption) rfl ?_
      refine WL.lss rfl rfl rfl (WL.mv rfl rfl (WL.gdTn rfl rfl rfl rfl rfl (by omega) (WL.gdTn rfl rfl rfl rfl rfl (by omega) (WL.pickFp rfl rfl (by omega) rfl (WL.nil (W.condF rfl (W.exit rfl ?_)))))))
      refine W.fit (by (repeat' first | exact Sel.nil | refine Sel.cons 0 rfl ?_ | refine Sel.cons 1 rfl ?_ | refine Sel.cons 2 rfl ?_ | refine Sel.cons 3 rfl ?_ | refine Sel.cons 4 rfl ?_ | refine Sel.cons 5 rfl ?_ | refine Sel.cons 6 rfl ?_ | refine Sel.cons 7 rfl ?_ | refine Sel.cons 8 rfl ?_ | refine Sel.cons 9 rfl ?_ | refine Sel.cons 10 rfl ?_ | refine Sel.cons 11 rfl ?_ | refine Sel.cons 12 rfl ?_ | refine Sel.cons 13 rfl ?_ | refine Sel.cons 14 rfl ?_ | refine Sel.cons 15 rfl ?_ | refine Sel.cons 16 rfl ?_ | refine Sel.cons 17 rfl ?_)) (W.sub ?_ (cut0 ⟨i, L, o, ve, vo⟩ ρ1 le1 ⟨hi, hO, hok, t1, t2⟩))
      exact ⟨rfl, rfl, rfl, trivial⟩
end Go.Proofs.Ytbebhmdjnneimaa
