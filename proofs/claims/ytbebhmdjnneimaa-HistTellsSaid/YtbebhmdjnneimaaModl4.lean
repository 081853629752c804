/- modl: what is asked of a series. -/
import Derived.Test.YtbebhmdjnneimaaStc
import Derived.Test.YtbebhmdjnneimaaNum
import Derived.Test.YtbebhmdjnneimaaTab
import Derived.Test.YtbebhmdjnneimaaModl3
import Derived.Test.YtbebhmdjnneimaaDel
set_option linter.unusedSimpArgs false
set_option linter.unusedVariables false
set_option maxRecDepth 20000
set_option maxHeartbeats 4000000
namespace Go.Proofs.Ytbebhmdjnneimaa
open Go
attribute [local irreducible] W WL Fn Buf ROs SL eptr box Rd Src bndOK WD RB Reads In Own UseX doA doS
theorem doA_list (m : Mdl) (o : MOp) : (doA m o).2.list = [] ∧ (doA m o).2.iter = 0 := by
 unfold doA
 split
 ·exact ⟨rfl, rfl⟩
 ·split
  ·exact ⟨rfl, rfl⟩
  ·split <;> exact ⟨rfl, rfl⟩
theorem series_c (ρ : Hp) (b n : Nat) (m : Mdl) (o : MOp) (hI : MInv n m) (hn : n ≤ 1000000) (hk : 1 ≤ o.kind ∧ o.kind ≤ 5) :
  Fn Try.prog 48 #[pt b 0, .agg (opC o).toArray] ρ [PMdl b 31 m] (fun r => sepl [PMdl b 31 (doSA m o).1, ORst r (doSA m o).2]) := by
 refine in48 rfl rfl ?_
 refine W.ex (fun sv => W.ex (fun iv => W.ex (fun L => W.ex (fun K => W.pure (fun e1 => W.pure (fun e2 => W.open ?_))))))
 simp only [List.cons_append, List.nil_append]
 have l1 := ser_cells L
 have l2 := itr_cells K
 have lL : L.length ≤ n := by have := hI.sers; rw [← e1] at this; simpa using this
 have lK : K.length ≤ 8 := by have := hI.its; rw [← e2] at this; simpa using this
 refine W.fact (i := 3) rfl (fun h hb => ser_one (owSer_rd hb)) (fun o1 => ?_)
 refine W.fact (i := 4) rfl (fun h hb => itr_one (owItr_rd hb)) (fun o2 => ?_)
 refine W.fact (i := 1) rfl (fun h hb => hb.sl l1 (by omega)) (fun s1 => ?_)
 refine W.fact (i := 2) rfl (fun h hb => hb.sl l2 (by omega)) (fun s2 => ?_)
 by_cases h1 : o.kind = 1
 ·rw [show doSA m o = doA m o from if_pos h1]
  refine W.seq (W.region ?_)
  refine WL.bxF rfl rfl (by repeat' constructor) (fun b0 => ?_)
  refine WL.alF (T := Ty) rfl rfl (by repeat' constructor) (fun b1 => ?_)
  refine WL.nil (W.seq ?_)
  refine W.drawA 11 rfl (fun σ0 hσ0 dσ0 => ?_)
  have fσ0_0 := rb_at 0 rfl hσ0 dσ0
  have fσ0_1 := rb_at 1 rfl hσ0 dσ0
  have fσ0_2 := rb_at 2 rfl hσ0 dσ0
  have fσ0_3 := ros_at 3 rfl hσ0 dσ0
  have fσ0_4 := ros_at 4 rfl hσ0 dσ0
  have fσ0_5 := in_at 5 rfl hσ0 dσ0
  have fσ0_6 := in_at 6 rfl hσ0 dσ0
  refine WD.takeL 0 rfl (by decide +kernel) (WL.mv rfl rfl (WL.nilT (WD.takeL 1 rfl (by decide +kernel) (WL.nc rfl rfl (WL.nilT (WD.takeL 2 rfl (by decide +kernel) (WL.faN (T := Ty) (off' := 0) rfl rfl rfl rfl rfl rfl rfl (WL.nilT (WD.takeL 3 rfl (by decide +kernel) ?_)))))))))
  refine WL.ldBN (T := Ty) rfl rfl rfl rfl (by first | assumption | exact RB.wide (by assumption) | exact In.rb (by assumption)) rfl ?_
  refine WL.nilT (WD.takeL 4 rfl (by decide +kernel) (WL.faN (T := Ty) (off' := 1) rfl rfl rfl rfl rfl rfl rfl (WL.nilT (WD.takeL 5 rfl (by decide +kernel) ?_))))
  refine WL.ldBN (T := Ty) rfl rfl rfl rfl (by first | assumption | exact RB.wide (by assumption) | exact In.rb (by assumption)) rfl ?_
  refine WL.nilT (WD.oneL 6 rfl (by decide +kernel) ?_)
  refine WL.callV rfl rfl (fun x p d => find_c _ _ _ _ (by first | assumption | exact ROs.wide (by assumption) | exact ROs.mono (by assumption) (eqh_at 0 rfl p d) | exact ros_at 0 rfl p d | exact ros_at 1 rfl p d | exact ros_at 2 rfl p d | exact ros_at 3 rfl p d | exact ros_at 4 rfl p d) (by first | assumption | omega)) ?_
  refine WL.nilE (WD.takeL 7 rfl (by decide +kernel) (WL.mv rfl rfl (WL.nilT (WD.takeL 8 rfl (by decide +kernel) (WL.extL rfl rfl rfl (WL.nilT (WD.takeL 9 rfl (by decide +kernel) (WL.extL rfl rfl rfl (WL.nilT (WD.takeL 10 rfl (by decide +kernel) (WL.as rfl rfl (WL.nilT ?_))))))))))))
  refine WD.lastG hσ0 (by decide +kernel) (by repeat' constructor) rfl (by repeat' constructor) ?_
  refine WL.as rfl rfl (WL.nil (W.seq (W.seq (W.region (WL.faN (T := Ty) (off' := 0) rfl rfl rfl rfl rfl rfl rfl (WL.ldN (T := Ty) (j := 1) rfl rfl rfl rfl rfl rfl (WL.eql rfl rfl rfl (WL.nil (W.condpT rfl (by omega) (W.seq (W.region (WL.mv rfl rfl (WL.mv rfl rfl ?_)))))))))))))
  refine WL.mv rfl rfl ?_
  refine WL.ldAF (T := Ty) (j := 1) rfl rfl rfl rfl rfl rfl (by repeat' constructor) ?_
  refine WL.group (Take.cons 2 rfl (Take.cons 2 rfl (Take.cons 2 rfl (Take.cons 2 rfl (Take.cons 2 rfl Take.nil))))) (fun h q => pmdl_of (T := 31) e1 e2 q) (by repeat' constructor) ?_
  rw [e1]
  refine WL.callM 0 rfl rfl rfl (fun x p d => add_c _ _ _ _ _ (by assumption) (by assumption)) (by repeat' constructor) ?_
  refine WL.bdC (T := Ty) rfl rfl rfl rfl (by repeat' first | exact CO.nil | apply CO.one (by first | rfl | exact SL.one (by assumption)) | apply CO.agg) rfl (by repeat' constructor) ?_
  refine WL.stAO (T := Ty) (j := 1) rfl rfl rfl rfl (by repeat' first | exact AO.nil | apply AO.cons (by first | rfl | exact SL.one (by assumption))) rfl rfl (by repeat' constructor) (by repeat' constructor) ?_
  refine WL.nil ?_
  have hl0 : (doA m o).2.list = [] ∧ (doA m o).2.iter = 0 := doA_list m o
  refine W.nb (sz := 2) ?_
  refine W.fit (Hs' := [box b1 _ _, Buf 2 nilV [], PMdl b 31 (doA m o).1]) (by (repeat' first | exact Sel.nil | refine Sel.cons 0 rfl ?_ | refine Sel.cons 1 rfl ?_ | refine Sel.cons 2 rfl ?_ | refine Sel.cons 3 rfl ?_ | refine Sel.cons 4 rfl ?_ | refine Sel.cons 5 rfl ?_ | refine Sel.cons 6 rfl ?_ | refine Sel.cons 7 rfl ?_ | refine Sel.cons 8 rfl ?_)) ?_
  refine W.retC (T := Ty) (j := 0) rfl rfl rfl rfl rfl rfl (fun h q => ?_)
  obtain ⟨x, y, hx, hy, d, rfl⟩ := q
  refine ⟨y, x, sepl_one.1 hy, sepl_one.2 ⟨nilV, ?_, ?_⟩, d.symm, join_comm d⟩
  ·rw [rstV, hl0.2]
  ·rw [hl0.1]; exact hx
 ·rw [show doSA m o = doS m o from if_neg h1]
  obtain ⟨M', R', hA⟩ : ∃ M' R', doS m o = (M', R') := ⟨_, _, rfl⟩
  rw [hA]
  unfold doS at hA
  cases hh : serHas m.ser o.series with
  | none =>
   rw [hh] at hA
   injection hA with hA1 hA2
   subst hA1 hA2
   refine W.seq (W.region ?_)
   refine WL.bxF rfl rfl (by repeat' constructor) (fun b0 => ?_)
   refine WL.alF (T := Ty) rfl rfl (by repeat' constructor) (fun b1 => ?_)
   refine WL.nil (W.seq ?_)
   refine W.drawA 11 rfl (fun σ0 hσ0 dσ0 => ?_)
   have fσ0_0 := rb_at 0 rfl hσ0 dσ0
   have fσ0_1 := rb_at 1 rfl hσ0 dσ0
   have fσ0_2 := rb_at 2 rfl hσ0 dσ0
   have fσ0_3 := ros_at 3 rfl hσ0 dσ0
   have fσ0_4 := ros_at 4 rfl hσ0 dσ0
   have fσ0_5 := in_at 5 rfl hσ0 dσ0
   have fσ0_6 := in_at 6 rfl hσ0 dσ0
   refine WD.takeL 0 rfl (by decide +kernel) (WL.mv rfl rfl (WL.nilT (WD.takeL 1 rfl (by decide +kernel) (WL.nc rfl rfl (WL.nilT (WD.takeL 2 rfl (by decide +kernel) (WL.faN (T := Ty) (off' := 0) rfl rfl rfl rfl rfl rfl rfl (WL.nilT (WD.takeL 3 rfl (by decide +kernel) ?_)))))))))
   refine WL.ldBN (T := Ty) rfl rfl rfl rfl (by first | assumption | exact RB.wide (by assumption) | exact In.rb (by assumption)) rfl ?_
   refine WL.nilT (WD.takeL 4 rfl (by decide +kernel) (WL.faN (T := Ty) (off' := 1) rfl rfl rfl rfl rfl rfl rfl (WL.nilT (WD.takeL 5 rfl (by decide +kernel) ?_))))
   refine WL.ldBN (T := Ty) rfl rfl rfl rfl (by first | assumption | exact RB.wide (by assumption) | exact In.rb (by assumption)) rfl ?_
   refine WL.nilT (WD.oneL 6 rfl (by decide +kernel) ?_)
   refine WL.callV rfl rfl (fun x p d => find_c _ _ _ _ (by first | assumption | exact ROs.wide (by assumption) | exact ROs.mono (by assumption) (eqh_at 0 rfl p d) | exact ros_at 0 rfl p d | exact ros_at 1 rfl p d | exact ros_at 2 rfl p d | exact ros_at 3 rfl p d | exact ros_at 4 rfl p d) (by first | assumption | omega)) ?_
   refine WL.nilE (WD.takeL 7 rfl (by decide +kernel) (WL.mv rfl rfl (WL.nilT (WD.takeL 8 rfl (by decide +kernel) (WL.extL rfl rfl rfl (WL.nilT (WD.takeL 9 rfl (by decide +kernel) (WL.extL rfl rfl rfl (WL.nilT (WD.takeL 10 rfl (by decide +kernel) (WL.as rfl rfl (WL.nilT ?_))))))))))))
   refine WD.lastG hσ0 (by decide +kernel) (by repeat' constructor) rfl (by repeat' constructor) ?_
   refine WL.as rfl rfl (WL.nil (W.seq (W.seq (W.region (WL.faN (T := Ty) (off' := 0) rfl rfl rfl rfl rfl rfl rfl (WL.ldN (T := Ty) (j := 1) rfl rfl rfl rfl rfl rfl (WL.eql rfl rfl rfl (WL.nil (W.condpF rfl (by omega) (W.skip (W.seq (W.seq (W.region ?_)))))))))))))
   refine WL.mv rfl rfl (WL.not rfl rfl (WL.nil ?_))
   rw [e1, hh]
   refine W.condT rfl (W.seq (W.region ?_))
   refine WL.bdC (T := Ty) rfl rfl rfl rfl (by repeat' first | exact CO.nil | apply CO.one (by first | rfl | exact SL.one (by assumption)) | apply CO.agg) rfl (by repeat' constructor) ?_
   refine WL.stAO (T := Ty) (j := 0) rfl rfl rfl rfl (by repeat' first | exact AO.nil | apply AO.cons (by first | rfl | exact SL.one (by assumption))) rfl rfl (by repeat' constructor) (by repeat' constructor) ?_
   refine WL.nil (W.nb (sz := 2) ?_)
   refine W.fit (Hs' := [box b1 _ _, Buf 2 nilV [], box b [sv, iv, .int .i64 m.next] 31, Buf 5 sv (L.flatMap serC), Buf 2 iv (K.flatMap itrC), Own owSer L, Own owItr K]) (by (repeat' first | exact Sel.nil | refine Sel.cons 0 rfl ?_ | refine Sel.cons 1 rfl ?_ | refine Sel.cons 2 rfl ?_ | refine Sel.cons 3 rfl ?_ | refine Sel.cons 4 rfl ?_ | refine Sel.cons 5 rfl ?_ | refine Sel.cons 6 rfl ?_ | refine Sel.cons 7 rfl ?_ | refine Sel.cons 8 rfl ?_)) ?_
   exact W.retC (T := Ty) (j := 0) rfl rfl rfl rfl rfl rfl (fun h q => ret_pm (r := ⟨3, 0, []⟩) e1 e2 q)
  | some s =>
   rw [hh] at hA
   obtain ⟨hg, hid⟩ := serHas_some hh
   have hm := hI.lens s (List.mem_of_getElem? hg)
   generalize hi : serIx m.ser o.series = i at hg hA
   have hi' : serIx (L.map Prod.fst) o.series = i := by rw [e1]; exact hi
   have hh' : serHas (L.map Prod.fst) o.series = some s := by rw [e1]; exact hh
   rw [← e1, List.getElem?_map] at hg
   obtain ⟨⟨s', lv⟩, hp, hx⟩ := Option.map_eq_some_iff.1 hg
   simp only [] at hx
   subst hx
   dsimp only at hA
   have hil := (List.getElem?_eq_some_iff.1 hp).1
   have c1 : (L.flatMap serC)[((i : Nat) : Int).toNat * 5 + 1]? = some (.bool s'.shut) := flat_get ser_len hp rfl
   have c4 : (L.flatMap serC)[((i : Nat) : Int).toNat * 5 + 4]? = some lv := flat_get ser_len hp rfl
   rcases (by omega : o.kind = 2 ∨ o.kind = 3 ∨ o.kind = 4 ∨ o.kind = 5) with hk2 | hk2 | hk2 | hk2
   ·rw [if_pos hk2] at hA
    injection hA with hA1 hA2
    subst hA1 hA2
    refine W.seq (W.region ?_)
    refine WL.bxF rfl rfl (by repeat' constructor) (fun b0 => ?_)
    refine WL.alF (T := Ty) rfl rfl (by repeat' constructor) (fun b1 => ?_)
    refine WL.nil (W.seq ?_)
    refine W.drawA 11 rfl (fun σ0 hσ0 dσ0 => ?_)
    have fσ0_0 := rb_at 0 rfl hσ0 dσ0
    have fσ0_1 := rb_at 1 rfl hσ0 dσ0
    have fσ0_2 := rb_at 2 rfl hσ0 dσ0
    have fσ0_3 := ros_at 3 rfl hσ0 dσ0
    have fσ0_4 := ros_at 4 rfl hσ0 dσ0
    have fσ0_5 := in_at 5 rfl hσ0 dσ0
    have fσ0_6 := in_at 6 rfl hσ0 dσ0
    refine WD.takeL 0 rfl (by decide +kernel) (WL.mv rfl rfl (WL.nilT (WD.takeL 1 rfl (by decide +kernel) (WL.nc rfl rfl (WL.nilT (WD.takeL 2 rfl (by decide +kernel) (WL.faN (T := Ty) (off' := 0) rfl rfl rfl rfl rfl rfl rfl (WL.nilT (WD.takeL 3 rfl (by decide +kernel) ?_)))))))))
    refine WL.ldBN (T := Ty) rfl rfl rfl rfl (by first | assumption | exact RB.wide (by assumption) | exact In.rb (by assumption)) rfl ?_
    refine WL.nilT (WD.takeL 4 rfl (by decide +kernel) (WL.faN (T := Ty) (off' := 1) rfl rfl rfl rfl rfl rfl rfl (WL.nilT (WD.takeL 5 rfl (by decide +kernel) ?_))))
    refine WL.ldBN (T := Ty) rfl rfl rfl rfl (by first | assumption | exact RB.wide (by assumption) | exact In.rb (by assumption)) rfl ?_
    refine WL.nilT (WD.oneL 6 rfl (by decide +kernel) ?_)
    refine WL.callV rfl rfl (fun x p d => find_c _ _ _ _ (by first | assumption | exact ROs.wide (by assumption) | exact ROs.mono (by assumption) (eqh_at 0 rfl p d) | exact ros_at 0 rfl p d | exact ros_at 1 rfl p d | exact ros_at 2 rfl p d | exact ros_at 3 rfl p d | exact ros_at 4 rfl p d) (by first | assumption | omega)) ?_
    refine WL.nilE (WD.takeL 7 rfl (by decide +kernel) (WL.mv rfl rfl (WL.nilT (WD.takeL 8 rfl (by decide +kernel) (WL.extL rfl rfl rfl (WL.nilT (WD.takeL 9 rfl (by decide +kernel) (WL.extL rfl rfl rfl (WL.nilT (WD.takeL 10 rfl (by decide +kernel) (WL.as rfl rfl (WL.nilT ?_))))))))))))
    refine WD.lastG hσ0 (by decide +kernel) (by repeat' constructor) rfl (by repeat' constructor) ?_
    refine WL.as rfl rfl (WL.nil (W.seq (W.seq (W.region (WL.faN (T := Ty) (off' := 0) rfl rfl rfl rfl rfl rfl rfl (WL.ldN (T := Ty) (j := 1) rfl rfl rfl rfl rfl rfl (WL.eql rfl rfl rfl (WL.nil (W.condpF rfl (by omega) (W.skip (W.seq (W.seq (W.region ?_)))))))))))))
    refine WL.mv rfl rfl (WL.not rfl rfl (WL.nil ?_))
    rw [hi', hh']
    refine W.condF rfl (W.skip (W.seq (W.region (WL.mv rfl rfl (WL.nc rfl rfl (WL.faN (T := Ty) (off' := 0) rfl rfl rfl rfl rfl rfl rfl (WL.ldN (T := Ty) (j := 2) rfl rfl rfl rfl rfl rfl (WL.mv rfl rfl ?_))))))))
    refine WL.ix (T := Ty) rfl rfl rfl (by assumption) rfl rfl (by omega) (by first | omega | decide +kernel) ?_
    refine WL.as rfl rfl (WL.nil (W.seq (W.seq (W.region (WL.faN (T := Ty) (off' := 0) rfl rfl rfl rfl rfl rfl rfl (WL.ldN (T := Ty) (j := 1) rfl rfl rfl rfl rfl rfl (WL.nil (W.block (W.seq (W.region (WL.eql rfl rfl rfl (WL.as rfl rfl (WL.nil ?_)))))))))))))
    refine W.condpT rfl (by omega) (W.seq ?_)
    refine W.drawA 10 rfl (fun σ1 hσ1 dσ1 => ?_)
    have fσ1_0 := rb_at 0 rfl hσ1 dσ1
    have fσ1_1 := rb_at 1 rfl hσ1 dσ1
    have fσ1_2 := rb_at 2 rfl hσ1 dσ1
    have fσ1_3 := ros_at 3 rfl hσ1 dσ1
    have fσ1_4 := ros_at 4 rfl hσ1 dσ1
    have fσ1_5 := in_at 5 rfl hσ1 dσ1
    have fσ1_6 := in_at 6 rfl hσ1 dσ1
    refine WD.takeL 0 rfl (by decide +kernel) (WL.mv rfl rfl (WL.nilT (WD.takeL 1 rfl (by decide +kernel) (WL.ncE rfl rfl (WL.nilT (WD.takeL 2 rfl (by decide +kernel) (WL.faEN (T := Ty) (off' := 4) rfl rfl rfl rfl rfl rfl rfl (WL.nilT (WD.takeL 3 rfl (by decide +kernel) ?_)))))))))
    refine WL.ldR (T := Ty) rfl rfl rfl rfl (by first | assumption | exact ROs.wide (by assumption)) (by assumption) ?_
    refine WL.nilT (WD.takeL 4 rfl (by decide +kernel) (WL.faN (T := Ty) (off' := 5) rfl rfl rfl rfl rfl rfl rfl (WL.nilT (WD.takeL 5 rfl (by decide +kernel) ?_))))
    refine WL.ldBN (T := Ty) rfl rfl rfl rfl (by first | assumption | exact RB.wide (by assumption) | exact In.rb (by assumption)) rfl ?_
    refine WL.nilT (WD.takeL 6 rfl (by decide +kernel) (WL.faN (T := Ty) (off' := 6) rfl rfl rfl rfl rfl rfl rfl (WL.nilT (WD.takeL 7 rfl (by decide +kernel) ?_))))
    refine WL.ldBN (T := Ty) rfl rfl rfl rfl (by first | assumption | exact RB.wide (by assumption) | exact In.rb (by assumption)) rfl ?_
    refine WL.nilT (WD.oneL 8 rfl (by decide +kernel) ?_)
    have hr := (‹In (join ρ σ1) (Own owSer L)›).rsers _ (List.mem_of_getElem? hp)
    unfold rdSer at hr
    dsimp only at hr
    refine WL.callF rfl rfl (fun x p d => within_c _ _ _ _ _ (by first | assumption | exact ROs.wide (by assumption) | exact ROs.mono (by assumption) (eqh_at 0 rfl p d) | exact ros_at 0 rfl p d | exact ros_at 1 rfl p d | exact ros_at 2 rfl p d | exact ros_at 3 rfl p d | exact ros_at 4 rfl p d) (by first | assumption | omega)) (fun u2 => ?_)
    refine WL.fact (i := 0) rfl (fun h hb => hb.sl (sms_cells _) (by omega)) (fun hsl2 => ?_)
    refine WL.nilH hσ1 (fun σ2 hσ2 dσ2 mσ2 => ?_)
    have fσ1_0 := fσ1_0.mono mσ2
    have fσ1_1 := fσ1_1.mono mσ2
    have fσ1_2 := fσ1_2.mono mσ2
    have fσ1_3 := fσ1_3.mono mσ2
    have fσ1_4 := fσ1_4.mono mσ2
    have fσ1_5 := fσ1_5.mono mσ2
    have fσ1_6 := fσ1_6.mono mσ2
    have hr := hr.mono mσ2
    have fσ2_0 := ros_at 0 rfl hσ2 dσ2
    refine WD.takeL 9 rfl (by decide +kernel) ?_
    refine WL.bdC (T := Ty) rfl rfl rfl rfl (by repeat' first | exact CO.nil | apply CO.one (by first | rfl | exact SL.one (by assumption)) | apply CO.agg) rfl (by repeat' constructor) ?_
    refine WL.nilT ?_
    refine WD.lastG hσ2 (by decide +kernel) (by repeat' constructor) rfl (by repeat' constructor) ?_
    refine WL.stAO (T := Ty) (j := 1) rfl rfl rfl rfl (by repeat' first | exact AO.nil | apply AO.cons (by first | rfl | exact SL.one (by assumption))) rfl rfl (by repeat' constructor) (by repeat' constructor) ?_
    refine WL.nil ?_
    refine W.fit (Hs' := [box b1 _ _, Buf 2 _ ((within _ _ _).flatMap smC), box b [sv, iv, .int .i64 m.next] 31, Buf 5 sv (L.flatMap serC), Buf 2 iv (K.flatMap itrC), Own owSer L, Own owItr K]) (by (repeat' first | exact Sel.nil | refine Sel.cons 0 rfl ?_ | refine Sel.cons 1 rfl ?_ | refine Sel.cons 2 rfl ?_ | refine Sel.cons 3 rfl ?_ | refine Sel.cons 4 rfl ?_ | refine Sel.cons 5 rfl ?_ | refine Sel.cons 6 rfl ?_ | refine Sel.cons 7 rfl ?_ | refine Sel.cons 8 rfl ?_)) ?_
    exact W.retC (T := Ty) (j := 0) rfl rfl rfl rfl rfl rfl (fun h q => ret_pm (r := ⟨0, 0, within s'.list o.lo o.hi⟩) e1 e2 q)
   ·rw [if_neg (by omega), if_pos hk2] at hA
    cases hsh : s'.shut with
    | true =>
     rw [if_pos hsh] at hA
     rw [hsh] at c1
     injection hA with hA1 hA2
     subst hA1 hA2
     refine W.seq (W.region ?_)
     refine WL.bxF rfl rfl (by repeat' constructor) (fun b0 => ?_)
     refine WL.alF (T := Ty) rfl rfl (by repeat' constructor) (fun b1 => ?_)
     refine WL.nil (W.seq ?_)
     refine W.drawA 11 rfl (fun σ0 hσ0 dσ0 => ?_)
     have fσ0_0 := rb_at 0 rfl hσ0 dσ0
     have fσ0_1 := rb_at 1 rfl hσ0 dσ0
     have fσ0_2 := rb_at 2 rfl hσ0 dσ0
     have fσ0_3 := ros_at 3 rfl hσ0 dσ0
     have fσ0_4 := ros_at 4 rfl hσ0 dσ0
     have fσ0_5 := in_at 5 rfl hσ0 dσ0
     have fσ0_6 := in_at 6 rfl hσ0 dσ0
     refine WD.takeL 0 rfl (by decide +kernel) (WL.mv rfl rfl (WL.nilT (WD.takeL 1 rfl (by decide +kernel) (WL.nc rfl rfl (WL.nilT (WD.takeL 2 rfl (by decide +kernel) (WL.faN (T := Ty) (off' := 0) rfl rfl rfl rfl rfl rfl rfl (WL.nilT (WD.takeL 3 rfl (by decide +kernel) ?_)))))))))
     refine WL.ldBN (T := Ty) rfl rfl rfl rfl (by first | assumption | exact RB.wide (by assumption) | exact In.rb (by assumption)) rfl ?_
     refine WL.nilT (WD.takeL 4 rfl (by decide +kernel) (WL.faN (T := Ty) (off' := 1) rfl rfl rfl rfl rfl rfl rfl (WL.nilT (WD.takeL 5 rfl (by decide +kernel) ?_))))
     refine WL.ldBN (T := Ty) rfl rfl rfl rfl (by first | assumption | exact RB.wide (by assumption) | exact In.rb (by assumption)) rfl ?_
     refine WL.nilT (WD.oneL 6 rfl (by decide +kernel) ?_)
     refine WL.callV rfl rfl (fun x p d => find_c _ _ _ _ (by first | assumption | exact ROs.wide (by assumption) | exact ROs.mono (by assumption) (eqh_at 0 rfl p d) | exact ros_at 0 rfl p d | exact ros_at 1 rfl p d | exact ros_at 2 rfl p d | exact ros_at 3 rfl p d | exact ros_at 4 rfl p d) (by first | assumption | omega)) ?_
     refine WL.nilE (WD.takeL 7 rfl (by decide +kernel) (WL.mv rfl rfl (WL.nilT (WD.takeL 8 rfl (by decide +kernel) (WL.extL rfl rfl rfl (WL.nilT (WD.takeL 9 rfl (by decide +kernel) (WL.extL rfl rfl rfl (WL.nilT (WD.takeL 10 rfl (by decide +kernel) (WL.as rfl rfl (WL.nilT ?_))))))))))))
     refine WD.lastG hσ0 (by decide +kernel) (by repeat' constructor) rfl (by repeat' constructor) ?_
     refine WL.as rfl rfl (WL.nil (W.seq (W.seq (W.region (WL.faN (T := Ty) (off' := 0) rfl rfl rfl rfl rfl rfl rfl (WL.ldN (T := Ty) (j := 1) rfl rfl rfl rfl rfl rfl (WL.eql rfl rfl rfl (WL.nil (W.condpF rfl (by omega) (W.skip (W.seq (W.seq (W.region ?_)))))))))))))
     refine WL.mv rfl rfl (WL.not rfl rfl (WL.nil ?_))
     rw [hi', hh']
     refine W.condF rfl (W.skip (W.seq (W.region (WL.mv rfl rfl (WL.nc rfl rfl (WL.faN (T := Ty) (off' := 0) rfl rfl rfl rfl rfl rfl rfl (WL.ldN (T := Ty) (j := 2) rfl rfl rfl rfl rfl rfl (WL.mv rfl rfl ?_))))))))
     refine WL.ix (T := Ty) rfl rfl rfl (by assumption) rfl rfl (by omega) (by first | omega | decide +kernel) ?_
     refine WL.as rfl rfl (WL.nil (W.seq (W.seq (W.region (WL.faN (T := Ty) (off' := 0) rfl rfl rfl rfl rfl rfl rfl (WL.ldN (T := Ty) (j := 1) rfl rfl rfl rfl rfl rfl (WL.nil (W.block (W.seq (W.region (WL.eql rfl rfl rfl (WL.as rfl rfl (WL.nil ?_)))))))))))))
     refine W.condpF rfl (by omega) (W.seq (W.region (WL.eql rfl rfl rfl (WL.as rfl rfl (WL.nil (W.condpT rfl (by omega) (W.seq (W.seq (W.region (WL.mv rfl rfl (WL.ncE rfl rfl (WL.faEN (T := Ty) (off' := 1) rfl rfl rfl rfl rfl rfl rfl ?_))))))))))))
     refine WL.ldE (T := Ty) (j := 3) rfl rfl rfl rfl rfl (by assumption) ?_
     refine WL.nil (W.condT rfl (W.seq (W.region ?_)))
     refine WL.bdC (T := Ty) rfl rfl rfl rfl (by repeat' first | exact CO.nil | apply CO.one (by first | rfl | exact SL.one (by assumption)) | apply CO.agg) rfl (by repeat' constructor) ?_
     refine WL.stAO (T := Ty) (j := 0) rfl rfl rfl rfl (by repeat' first | exact AO.nil | apply AO.cons (by first | rfl | exact SL.one (by assumption))) rfl rfl (by repeat' constructor) (by repeat' constructor) ?_
     refine WL.nil (W.nb (sz := 2) ?_)
     refine W.fit (Hs' := [box b1 _ _, Buf 2 nilV [], box b [sv, iv, .int .i64 m.next] 31, Buf 5 sv (L.flatMap serC), Buf 2 iv (K.flatMap itrC), Own owSer L, Own owItr K]) (by (repeat' first | exact Sel.nil | refine Sel.cons 0 rfl ?_ | refine Sel.cons 1 rfl ?_ | refine Sel.cons 2 rfl ?_ | refine Sel.cons 3 rfl ?_ | refine Sel.cons 4 rfl ?_ | refine Sel.cons 5 rfl ?_ | refine Sel.cons 6 rfl ?_ | refine Sel.cons 7 rfl ?_ | refine Sel.cons 8 rfl ?_)) ?_
     exact W.retC (T := Ty) (j := 0) rfl rfl rfl rfl rfl rfl (fun h q => ret_pm (r := ⟨2, 0, []⟩) e1 e2 q)
    | false =>
     rw [if_neg (by rw [hsh]; decide)] at hA
     rw [hsh] at c1
     injection hA with hA1 hA2
     subst hA1 hA2
     refine W.seq (W.region ?_)
     refine WL.bxF rfl rfl (by repeat' constructor) (fun b0 => ?_)
     refine WL.alF (T := Ty) rfl rfl (by repeat' constructor) (fun b1 => ?_)
     refine WL.nil (W.seq ?_)
     refine W.drawA 11 rfl (fun σ0 hσ0 dσ0 => ?_)
     have fσ0_0 := rb_at 0 rfl hσ0 dσ0
     have fσ0_1 := rb_at 1 rfl hσ0 dσ0
     have fσ0_2 := rb_at 2 rfl hσ0 dσ0
     have fσ0_3 := ros_at 3 rfl hσ0 dσ0
     have fσ0_4 := ros_at 4 rfl hσ0 dσ0
     have fσ0_5 := in_at 5 rfl hσ0 dσ0
     have fσ0_6 := in_at 6 rfl hσ0 dσ0
     refine WD.takeL 0 rfl (by decide +kernel) (WL.mv rfl rfl (WL.nilT (WD.takeL 1 rfl (by decide +kernel) (WL.nc rfl rfl (WL.nilT (WD.takeL 2 rfl (by decide +kernel) (WL.faN (T := Ty) (off' := 0) rfl rfl rfl rfl rfl rfl rfl (WL.nilT (WD.takeL 3 rfl (by decide +kernel) ?_)))))))))
     refine WL.ldBN (T := Ty) rfl rfl rfl rfl (by first | assumption | exact RB.wide (by assumption) | exact In.rb (by assumption)) rfl ?_
     refine WL.nilT (WD.takeL 4 rfl (by decide +kernel) (WL.faN (T := Ty) (off' := 1) rfl rfl rfl rfl rfl rfl rfl (WL.nilT (WD.takeL 5 rfl (by decide +kernel) ?_))))
     refine WL.ldBN (T := Ty) rfl rfl rfl rfl (by first | assumption | exact RB.wide (by assumption) | exact In.rb (by assumption)) rfl ?_
     refine WL.nilT (WD.oneL 6 rfl (by decide +kernel) ?_)
     refine WL.callV rfl rfl (fun x p d => find_c _ _ _ _ (by first | assumption | exact ROs.wide (by assumption) | exact ROs.mono (by assumption) (eqh_at 0 rfl p d) | exact ros_at 0 rfl p d | exact ros_at 1 rfl p d | exact ros_at 2 rfl p d | exact ros_at 3 rfl p d | exact ros_at 4 rfl p d) (by first | assumption | omega)) ?_
     refine WL.nilE (WD.takeL 7 rfl (by decide +kernel) (WL.mv rfl rfl (WL.nilT (WD.takeL 8 rfl (by decide +kernel) (WL.extL rfl rfl rfl (WL.nilT (WD.takeL 9 rfl (by decide +kernel) (WL.extL rfl rfl rfl (WL.nilT (WD.takeL 10 rfl (by decide +kernel) (WL.as rfl rfl (WL.nilT ?_))))))))))))
     refine WD.lastG hσ0 (by decide +kernel) (by repeat' constructor) rfl (by repeat' constructor) ?_
     refine WL.as rfl rfl (WL.nil (W.seq (W.seq (W.region (WL.faN (T := Ty) (off' := 0) rfl rfl rfl rfl rfl rfl rfl (WL.ldN (T := Ty) (j := 1) rfl rfl rfl rfl rfl rfl (WL.eql rfl rfl rfl (WL.nil (W.condpF rfl (by omega) (W.skip (W.seq (W.seq (W.region ?_)))))))))))))
     refine WL.mv rfl rfl (WL.not rfl rfl (WL.nil ?_))
     rw [hi', hh']
     refine W.condF rfl (W.skip (W.seq (W.region (WL.mv rfl rfl (WL.nc rfl rfl (WL.faN (T := Ty) (off' := 0) rfl rfl rfl rfl rfl rfl rfl (WL.ldN (T := Ty) (j := 2) rfl rfl rfl rfl rfl rfl (WL.mv rfl rfl ?_))))))))
     refine WL.ix (T := Ty) rfl rfl rfl (by assumption) rfl rfl (by omega) (by first | omega | decide +kernel) ?_
     refine WL.as rfl rfl (WL.nil (W.seq (W.seq (W.region (WL.faN (T := Ty) (off' := 0) rfl rfl rfl rfl rfl rfl rfl (WL.ldN (T := Ty) (j := 1) rfl rfl rfl rfl rfl rfl (WL.nil (W.block (W.seq (W.region (WL.eql rfl rfl rfl (WL.as rfl rfl (WL.nil ?_)))))))))))))
     refine W.condpF rfl (by omega) (W.seq (W.region (WL.eql rfl rfl rfl (WL.as rfl rfl (WL.nil (W.condpT rfl (by omega) (W.seq (W.seq (W.region (WL.mv rfl rfl (WL.ncE rfl rfl (WL.faEN (T := Ty) (off' := 1) rfl rfl rfl rfl rfl rfl rfl ?_))))))))))))
     refine WL.ldE (T := Ty) (j := 3) rfl rfl rfl rfl rfl (by assumption) ?_
     refine WL.nil (W.condF rfl (W.skip (W.region (WL.mv rfl rfl (WL.ncE rfl rfl (WL.faEN (T := Ty) (off' := 1) rfl rfl rfl rfl rfl rfl rfl ?_))))))
     refine WL.stEF (T := Ty) (j := 3) rfl rfl rfl rfl rfl rfl (by first | assumption | omega | (simp only [List.length_set]; omega) | (simp; omega)) rfl (by repeat' constructor) ?_
     refine WL.nil (W.inBlock (W.seq (W.region ?_)))
     refine WL.bdC (T := Ty) rfl rfl rfl rfl (by repeat' first | exact CO.nil | apply CO.one (by first | rfl | exact SL.one (by assumption)) | apply CO.agg) rfl (by repeat' constructor) ?_
     refine WL.stAO (T := Ty) (j := 0) rfl rfl rfl rfl (by repeat' first | exact AO.nil | apply AO.cons (by first | rfl | exact SL.one (by assumption))) rfl rfl (by repeat' constructor) (by repeat' constructor) ?_
     refine WL.nil ?_
     rw [show (L.flatMap serC).set (((i : Nat) : Int).toNat * 5 + 1) (.bool true) = (L.set i ({ s' with shut := true }, lv)).flatMap serC from flat_set ser_len hp (by omega) rfl]
     refine W.group (p := Own owSer (L.set i ({ s' with shut := true }, lv))) (Take.cons 5 rfl Take.nil) (fun h q => own_upd (a := ({ s' with shut := true }, lv)) hp rfl (sepl_one.1 q)) (by repeat' constructor) ?_
     refine W.nb (sz := 2) ?_
     refine W.fit (Hs' := [box b1 _ _, Buf 2 nilV [], box b [sv, iv, .int .i64 m.next] 31, Buf 5 sv ((L.set i ({ s' with shut := true }, lv)).flatMap serC), Buf 2 iv (K.flatMap itrC), Own owSer (L.set i ({ s' with shut := true }, lv)), Own owItr K]) (by (repeat' first | exact Sel.nil | refine Sel.cons 0 rfl ?_ | refine Sel.cons 1 rfl ?_ | refine Sel.cons 2 rfl ?_ | refine Sel.cons 3 rfl ?_ | refine Sel.cons 4 rfl ?_ | refine Sel.cons 5 rfl ?_ | refine Sel.cons 6 rfl ?_ | refine Sel.cons 7 rfl ?_ | refine Sel.cons 8 rfl ?_)) ?_
     exact W.retC (T := Ty) (j := 0) rfl rfl rfl rfl rfl rfl (fun h q => ret_pm (m := ⟨m.ser.set i { s' with shut := true }, m.its, m.next⟩) (r := ⟨0, 0, []⟩) (by rw [List.map_set, e1]) e2 q)
   ·rw [if_neg (by omega), if_neg (by omega), if_pos hk2] at hA
    injection hA with hA1 hA2
    subst hA1 hA2
    refine W.seq (W.region ?_)
    refine WL.bxF rfl rfl (by repeat' constructor) (fun b0 => ?_)
    refine WL.alF (T := Ty) rfl rfl (by repeat' constructor) (fun b1 => ?_)
    refine WL.nil (W.seq ?_)
    refine W.drawA 11 rfl (fun σ0 hσ0 dσ0 => ?_)
    have fσ0_0 := rb_at 0 rfl hσ0 dσ0
    have fσ0_1 := rb_at 1 rfl hσ0 dσ0
    have fσ0_2 := rb_at 2 rfl hσ0 dσ0
    have fσ0_3 := ros_at 3 rfl hσ0 dσ0
    have fσ0_4 := ros_at 4 rfl hσ0 dσ0
    have fσ0_5 := in_at 5 rfl hσ0 dσ0
    have fσ0_6 := in_at 6 rfl hσ0 dσ0
    refine WD.takeL 0 rfl (by decide +kernel) (WL.mv rfl rfl (WL.nilT (WD.takeL 1 rfl (by decide +kernel) (WL.nc rfl rfl (WL.nilT (WD.takeL 2 rfl (by decide +kernel) (WL.faN (T := Ty) (off' := 0) rfl rfl rfl rfl rfl rfl rfl (WL.nilT (WD.takeL 3 rfl (by decide +kernel) ?_)))))))))
    refine WL.ldBN (T := Ty) rfl rfl rfl rfl (by first | assumption | exact RB.wide (by assumption) | exact In.rb (by assumption)) rfl ?_
    refine WL.nilT (WD.takeL 4 rfl (by decide +kernel) (WL.faN (T := Ty) (off' := 1) rfl rfl rfl rfl rfl rfl rfl (WL.nilT (WD.takeL 5 rfl (by decide +kernel) ?_))))
    refine WL.ldBN (T := Ty) rfl rfl rfl rfl (by first | assumption | exact RB.wide (by assumption) | exact In.rb (by assumption)) rfl ?_
    refine WL.nilT (WD.oneL 6 rfl (by decide +kernel) ?_)
    refine WL.callV rfl rfl (fun x p d => find_c _ _ _ _ (by first | assumption | exact ROs.wide (by assumption) | exact ROs.mono (by assumption) (eqh_at 0 rfl p d) | exact ros_at 0 rfl p d | exact ros_at 1 rfl p d | exact ros_at 2 rfl p d | exact ros_at 3 rfl p d | exact ros_at 4 rfl p d) (by first | assumption | omega)) ?_
    refine WL.nilE (WD.takeL 7 rfl (by decide +kernel) (WL.mv rfl rfl (WL.nilT (WD.takeL 8 rfl (by decide +kernel) (WL.extL rfl rfl rfl (WL.nilT (WD.takeL 9 rfl (by decide +kernel) (WL.extL rfl rfl rfl (WL.nilT (WD.takeL 10 rfl (by decide +kernel) (WL.as rfl rfl (WL.nilT ?_))))))))))))
    refine WD.lastG hσ0 (by decide +kernel) (by repeat' constructor) rfl (by repeat' constructor) ?_
    refine WL.as rfl rfl (WL.nil (W.seq (W.seq (W.region (WL.faN (T := Ty) (off' := 0) rfl rfl rfl rfl rfl rfl rfl (WL.ldN (T := Ty) (j := 1) rfl rfl rfl rfl rfl rfl (WL.eql rfl rfl rfl (WL.nil (W.condpF rfl (by omega) (W.skip (W.seq (W.seq (W.region ?_)))))))))))))
    refine WL.mv rfl rfl (WL.not rfl rfl (WL.nil ?_))
    rw [hi', hh']
    refine W.condF rfl (W.skip (W.seq (W.region (WL.mv rfl rfl (WL.nc rfl rfl (WL.faN (T := Ty) (off' := 0) rfl rfl rfl rfl rfl rfl rfl (WL.ldN (T := Ty) (j := 2) rfl rfl rfl rfl rfl rfl (WL.mv rfl rfl ?_))))))))
    refine WL.ix (T := Ty) rfl rfl rfl (by assumption) rfl rfl (by omega) (by first | omega | decide +kernel) ?_
    refine WL.as rfl rfl (WL.nil (W.seq (W.seq (W.region (WL.faN (T := Ty) (off' := 0) rfl rfl rfl rfl rfl rfl rfl (WL.ldN (T := Ty) (j := 1) rfl rfl rfl rfl rfl rfl (WL.nil (W.block (W.seq (W.region (WL.eql rfl rfl rfl (WL.as rfl rfl (WL.nil ?_)))))))))))))
    refine W.condpF rfl (by omega) (W.seq (W.region (WL.eql rfl rfl rfl (WL.as rfl rfl (WL.nil (W.condpF rfl (by omega) (W.seq (W.region (WL.eql rfl rfl rfl (WL.as rfl rfl (WL.nil (W.condpT rfl (by omega) (W.region ?_)))))))))))))
    refine WL.mv rfl rfl (WL.mv rfl rfl (WL.nc rfl rfl (WL.faN (T := Ty) (off' := 0) rfl rfl rfl rfl rfl rfl rfl (WL.ldN (T := Ty) (j := 2) rfl rfl rfl rfl rfl rfl (WL.mv rfl rfl (WL.mv rfl rfl (WL.addK rfl rfl rfl (wrap_i64 ⟨by omega, by omega⟩) ?_)))))))
    rw [show ((i : Nat) : Int) + 1 = ((i + 1 : Nat) : Int) by omega]
    refine WL.callP 3 rfl rfl rfl (fun x p d => delS_c _ _ _ _ _ _ (by assumption) (by first | assumption | omega) (by first | assumption | omega) (by assumption) (by first | assumption | omega)) (by repeat' constructor) (fun u2 => ?_)
    refine WL.fact (i := 0) rfl (fun h hb => hb.sl (del_cells (by assumption) (by first | assumption | omega) (by first | assumption | omega)) (by omega)) (fun hsl2 => ?_)
    refine WL.nc rfl rfl (WL.faN (T := Ty) (off' := 0) rfl rfl rfl rfl rfl rfl rfl ?_)
    refine WL.stF (T := Ty) (j := 3) rfl rfl rfl rfl (SL.one (by assumption)) rfl rfl (by repeat' constructor) (by repeat' constructor) ?_
    refine WL.nil (W.inBlock (W.seq (W.region ?_)))
    refine WL.bdC (T := Ty) rfl rfl rfl rfl (by repeat' first | exact CO.nil | apply CO.one (by first | rfl | exact SL.one (by assumption)) | apply CO.agg) rfl (by repeat' constructor) ?_
    refine WL.stAO (T := Ty) (j := 1) rfl rfl rfl rfl (by repeat' first | exact AO.nil | apply AO.cons (by first | rfl | exact SL.one (by assumption))) rfl rfl (by repeat' constructor) (by repeat' constructor) ?_
    refine WL.nil ?_
    rw [flat_del ser_len]
    refine W.parts (ps := [owSer (s', lv), Own owSer (L.take i ++ L.drop (i + 1))]) 5 rfl (fun h q => own_del hp q) (by repeat' constructor) ?_
    refine W.nb (sz := 2) ?_
    refine W.fit (Hs' := [box b1 _ _, Buf 2 nilV [], box b [_, iv, .int .i64 m.next] 31, Buf 5 _ ((L.take i ++ L.drop (i + 1)).flatMap serC), Buf 2 iv (K.flatMap itrC), Own owSer (L.take i ++ L.drop (i + 1)), Own owItr K]) (by (repeat' first | exact Sel.nil | refine Sel.cons 0 rfl ?_ | refine Sel.cons 1 rfl ?_ | refine Sel.cons 2 rfl ?_ | refine Sel.cons 3 rfl ?_ | refine Sel.cons 4 rfl ?_ | refine Sel.cons 5 rfl ?_ | refine Sel.cons 6 rfl ?_ | refine Sel.cons 7 rfl ?_ | refine Sel.cons 8 rfl ?_)) ?_
    exact W.retC (T := Ty) (j := 0) rfl rfl rfl rfl rfl rfl (fun h q => ret_pm (m := ⟨m.ser.take i ++ m.ser.drop (i + 1), m.its, m.next⟩) (r := ⟨0, 0, []⟩) (by rw [List.map_append, List.map_take, List.map_drop, e1]) e2 q)
   ·rw [if_neg (by omega), if_neg (by omega), if_neg (by omega)] at hA
    by_cases h8 : 8 ≤ m.its.length
    ·rw [if_pos h8] at hA
     injection hA with hA1 hA2
     subst hA1 hA2
     have h8' : 8 ≤ K.length := by rw [← e2, List.length_map] at h8; exact h8
     refine W.seq (W.region ?_)
     refine WL.bxF rfl rfl (by repeat' constructor) (fun b0 => ?_)
     refine WL.alF (T := Ty) rfl rfl (by repeat' constructor) (fun b1 => ?_)
     refine WL.nil (W.seq ?_)
     refine W.drawA 11 rfl (fun σ0 hσ0 dσ0 => ?_)
     have fσ0_0 := rb_at 0 rfl hσ0 dσ0
     have fσ0_1 := rb_at 1 rfl hσ0 dσ0
     have fσ0_2 := rb_at 2 rfl hσ0 dσ0
     have fσ0_3 := ros_at 3 rfl hσ0 dσ0
     have fσ0_4 := ros_at 4 rfl hσ0 dσ0
     have fσ0_5 := in_at 5 rfl hσ0 dσ0
     have fσ0_6 := in_at 6 rfl hσ0 dσ0
     refine WD.takeL 0 rfl (by decide +kernel) (WL.mv rfl rfl (WL.nilT (WD.takeL 1 rfl (by decide +kernel) (WL.nc rfl rfl (WL.nilT (WD.takeL 2 rfl (by decide +kernel) (WL.faN (T := Ty) (off' := 0) rfl rfl rfl rfl rfl rfl rfl (WL.nilT (WD.takeL 3 rfl (by decide +kernel) ?_)))))))))
     refine WL.ldBN (T := Ty) rfl rfl rfl rfl (by first | assumption | exact RB.wide (by assumption) | exact In.rb (by assumption)) rfl ?_
     refine WL.nilT (WD.takeL 4 rfl (by decide +kernel) (WL.faN (T := Ty) (off' := 1) rfl rfl rfl rfl rfl rfl rfl (WL.nilT (WD.takeL 5 rfl (by decide +kernel) ?_))))
     refine WL.ldBN (T := Ty) rfl rfl rfl rfl (by first | assumption | exact RB.wide (by assumption) | exact In.rb (by assumption)) rfl ?_
     refine WL.nilT (WD.oneL 6 rfl (by decide +kernel) ?_)
     refine WL.callV rfl rfl (fun x p d => find_c _ _ _ _ (by first | assumption | exact ROs.wide (by assumption) | exact ROs.mono (by assumption) (eqh_at 0 rfl p d) | exact ros_at 0 rfl p d | exact ros_at 1 rfl p d | exact ros_at 2 rfl p d | exact ros_at 3 rfl p d | exact ros_at 4 rfl p d) (by first | assumption | omega)) ?_
     refine WL.nilE (WD.takeL 7 rfl (by decide +kernel) (WL.mv rfl rfl (WL.nilT (WD.takeL 8 rfl (by decide +kernel) (WL.extL rfl rfl rfl (WL.nilT (WD.takeL 9 rfl (by decide +kernel) (WL.extL rfl rfl rfl (WL.nilT (WD.takeL 10 rfl (by decide +kernel) (WL.as rfl rfl (WL.nilT ?_))))))))))))
     refine WD.lastG hσ0 (by decide +kernel) (by repeat' constructor) rfl (by repeat' constructor) ?_
     refine WL.as rfl rfl (WL.nil (W.seq (W.seq (W.region (WL.faN (T := Ty) (off' := 0) rfl rfl rfl rfl rfl rfl rfl (WL.ldN (T := Ty) (j := 1) rfl rfl rfl rfl rfl rfl (WL.eql rfl rfl rfl (WL.nil (W.condpF rfl (by omega) (W.skip (W.seq (W.seq (W.region ?_)))))))))))))
     refine WL.mv rfl rfl (WL.not rfl rfl (WL.nil ?_))
     rw [hi', hh']
     refine W.condF rfl (W.skip (W.seq (W.region (WL.mv rfl rfl (WL.nc rfl rfl (WL.faN (T := Ty) (off' := 0) rfl rfl rfl rfl rfl rfl rfl (WL.ldN (T := Ty) (j := 2) rfl rfl rfl rfl rfl rfl (WL.mv rfl rfl ?_))))))))
     refine WL.ix (T := Ty) rfl rfl rfl (by assumption) rfl rfl (by omega) (by first | omega | decide +kernel) ?_
     refine WL.as rfl rfl (WL.nil (W.seq (W.seq (W.region (WL.faN (T := Ty) (off' := 0) rfl rfl rfl rfl rfl rfl rfl (WL.ldN (T := Ty) (j := 1) rfl rfl rfl rfl rfl rfl (WL.nil (W.block (W.seq (W.region (WL.eql rfl rfl rfl (WL.as rfl rfl (WL.nil ?_)))))))))))))
     refine W.condpF rfl (by omega) (W.seq (W.region (WL.eql rfl rfl rfl (WL.as rfl rfl (WL.nil (W.condpF rfl (by omega) (W.seq (W.region (WL.eql rfl rfl rfl (WL.as rfl rfl (WL.nil (W.condpF rfl (by omega) (W.seq ?_)))))))))))))
     refine W.region (WL.eql rfl rfl rfl (WL.as rfl rfl (WL.nil (W.condpT rfl (by omega) (W.seq (W.seq (W.region (WL.mv rfl rfl (WL.nc rfl rfl (WL.faN (T := Ty) (off' := 1) rfl rfl rfl rfl rfl rfl rfl (WL.ldN (T := Ty) (j := 2) rfl rfl rfl rfl rfl rfl ?_)))))))))))
     refine WL.len (T := Ty) rfl rfl (by assumption) rfl ?_
     refine WL.geq rfl rfl rfl (WL.nil (W.condpT rfl (by omega) (W.seq (W.region ?_))))
     refine WL.bdC (T := Ty) rfl rfl rfl rfl (by repeat' first | exact CO.nil | apply CO.one (by first | rfl | exact SL.one (by assumption)) | apply CO.agg) rfl (by repeat' constructor) ?_
     refine WL.stAO (T := Ty) (j := 0) rfl rfl rfl rfl (by repeat' first | exact AO.nil | apply AO.cons (by first | rfl | exact SL.one (by assumption))) rfl rfl (by repeat' constructor) (by repeat' constructor) ?_
     refine WL.nil (W.nb (sz := 2) ?_)
     refine W.fit (Hs' := [box b1 _ _, Buf 2 nilV [], box b [sv, iv, .int .i64 m.next] 31, Buf 5 sv (L.flatMap serC), Buf 2 iv (K.flatMap itrC), Own owSer L, Own owItr K]) (by (repeat' first | exact Sel.nil | refine Sel.cons 0 rfl ?_ | refine Sel.cons 1 rfl ?_ | refine Sel.cons 2 rfl ?_ | refine Sel.cons 3 rfl ?_ | refine Sel.cons 4 rfl ?_ | refine Sel.cons 5 rfl ?_ | refine Sel.cons 6 rfl ?_ | refine Sel.cons 7 rfl ?_ | refine Sel.cons 8 rfl ?_)) ?_
     exact W.retC (T := Ty) (j := 0) rfl rfl rfl rfl rfl rfl (fun h q => ret_pm (r := ⟨5, 0, []⟩) e1 e2 q)
    ·rw [if_neg h8] at hA
     injection hA with hA1 hA2
     subst hA1 hA2
     have h8' : ¬ 8 ≤ K.length := by rw [← e2, List.length_map] at h8; exact h8
     have hnx := hI.next
     refine W.seq (W.region ?_)
     refine WL.bxF rfl rfl (by repeat' constructor) (fun b0 => ?_)
     refine WL.alF (T := Ty) rfl rfl (by repeat' constructor) (fun b1 => ?_)
     refine WL.nil (W.seq ?_)
     refine W.drawA 11 rfl (fun σ0 hσ0 dσ0 => ?_)
     have fσ0_0 := rb_at 0 rfl hσ0 dσ0
     have fσ0_1 := rb_at 1 rfl hσ0 dσ0
     have fσ0_2 := rb_at 2 rfl hσ0 dσ0
     have fσ0_3 := ros_at 3 rfl hσ0 dσ0
     have fσ0_4 := ros_at 4 rfl hσ0 dσ0
     have fσ0_5 := in_at 5 rfl hσ0 dσ0
     have fσ0_6 := in_at 6 rfl hσ0 dσ0
     refine WD.takeL 0 rfl (by decide +kernel) (WL.mv rfl rfl (WL.nilT (WD.takeL 1 rfl (by decide +kernel) (WL.nc rfl rfl (WL.nilT (WD.takeL 2 rfl (by decide +kernel) (WL.faN (T := Ty) (off' := 0) rfl rfl rfl rfl rfl rfl rfl (WL.nilT (WD.takeL 3 rfl (by decide +kernel) ?_)))))))))
     refine WL.ldBN (T := Ty) rfl rfl rfl rfl (by first | assumption | exact RB.wide (by assumption) | exact In.rb (by assumption)) rfl ?_
     refine WL.nilT (WD.takeL 4 rfl (by decide +kernel) (WL.faN (T := Ty) (off' := 1) rfl rfl rfl rfl rfl rfl rfl (WL.nilT (WD.takeL 5 rfl (by decide +kernel) ?_))))
     refine WL.ldBN (T := Ty) rfl rfl rfl rfl (by first | assumption | exact RB.wide (by assumption) | exact In.rb (by assumption)) rfl ?_
     refine WL.nilT (WD.oneL 6 rfl (by decide +kernel) ?_)
     refine WL.callV rfl rfl (fun x p d => find_c _ _ _ _ (by first | assumption | exact ROs.wide (by assumption) | exact ROs.mono (by assumption) (eqh_at 0 rfl p d) | exact ros_at 0 rfl p d | exact ros_at 1 rfl p d | exact ros_at 2 rfl p d | exact ros_at 3 rfl p d | exact ros_at 4 rfl p d) (by first | assumption | omega)) ?_
     refine WL.nilE (WD.takeL 7 rfl (by decide +kernel) (WL.mv rfl rfl (WL.nilT (WD.takeL 8 rfl (by decide +kernel) (WL.extL rfl rfl rfl (WL.nilT (WD.takeL 9 rfl (by decide +kernel) (WL.extL rfl rfl rfl (WL.nilT (WD.takeL 10 rfl (by decide +kernel) (WL.as rfl rfl (WL.nilT ?_))))))))))))
     refine WD.lastG hσ0 (by decide +kernel) (by repeat' constructor) rfl (by repeat' constructor) ?_
     refine WL.as rfl rfl (WL.nil (W.seq (W.seq (W.region (WL.faN (T := Ty) (off' := 0) rfl rfl rfl rfl rfl rfl rfl (WL.ldN (T := Ty) (j := 1) rfl rfl rfl rfl rfl rfl (WL.eql rfl rfl rfl (WL.nil (W.condpF rfl (by omega) (W.skip (W.seq (W.seq (W.region ?_)))))))))))))
     refine WL.mv rfl rfl (WL.not rfl rfl (WL.nil ?_))
     rw [hi', hh']
     refine W.condF rfl (W.skip (W.seq (W.region (WL.mv rfl rfl (WL.nc rfl rfl (WL.faN (T := Ty) (off' := 0) rfl rfl rfl rfl rfl rfl rfl (WL.ldN (T := Ty) (j := 2) rfl rfl rfl rfl rfl rfl (WL.mv rfl rfl ?_))))))))
     refine WL.ix (T := Ty) rfl rfl rfl (by assumption) rfl rfl (by omega) (by first | omega | decide +kernel) ?_
     refine WL.as rfl rfl (WL.nil (W.seq (W.seq (W.region (WL.faN (T := Ty) (off' := 0) rfl rfl rfl rfl rfl rfl rfl (WL.ldN (T := Ty) (j := 1) rfl rfl rfl rfl rfl rfl (WL.nil (W.block (W.seq (W.region (WL.eql rfl rfl rfl (WL.as rfl rfl (WL.nil ?_)))))))))))))
     refine W.condpF rfl (by omega) (W.seq (W.region (WL.eql rfl rfl rfl (WL.as rfl rfl (WL.nil (W.condpF rfl (by omega) (W.seq (W.region (WL.eql rfl rfl rfl (WL.as rfl rfl (WL.nil (W.condpF rfl (by omega) (W.seq ?_)))))))))))))
     refine W.region (WL.eql rfl rfl rfl (WL.as rfl rfl (WL.nil (W.condpT rfl (by omega) (W.seq (W.seq (W.region (WL.mv rfl rfl (WL.nc rfl rfl (WL.faN (T := Ty) (off' := 1) rfl rfl rfl rfl rfl rfl rfl (WL.ldN (T := Ty) (j := 2) rfl rfl rfl rfl rfl rfl ?_)))))))))))
     refine WL.len (T := Ty) rfl rfl (by assumption) rfl ?_
     refine WL.geq rfl rfl rfl (WL.nil (W.condpF rfl (by omega) (W.skip (W.seq (W.region (WL.mv rfl rfl (WL.nc rfl rfl (WL.faN (T := Ty) (off' := 2) rfl rfl rfl rfl rfl rfl rfl (WL.ldN (T := Ty) (j := 2) rfl rfl rfl rfl rfl rfl (WL.addK rfl rfl rfl (wrap_i64 ⟨by omega, by omega⟩) (WL.nc rfl rfl (WL.faN (T := Ty) (off' := 2) rfl rfl rfl rfl rfl rfl rfl ?_))))))))))))
     refine WL.stF (T := Ty) (j := 2) rfl rfl rfl rfl rfl rfl rfl (by repeat' constructor) (by repeat' constructor) ?_
     refine WL.nil (W.seq ?_)
     refine W.drawP 21 [false, false, false, true, true, false, false] rfl (by repeat' constructor) (by repeat' constructor) (fun σ1 hσ1 dσ1 => ?_)
     have fσ1_0 := rb_at 0 rfl hσ1 dσ1
     have fσ1_1 := rb_at 1 rfl hσ1 dσ1
     have fσ1_2 := rb_at 2 rfl hσ1 dσ1
     have fσ1_3 := in_at 3 rfl hσ1 dσ1
     have fσ1_4 := in_at 4 rfl hσ1 dσ1
     refine WD.takeL 0 rfl (by decide +kernel) (WL.mv rfl rfl (WL.nilT (WD.takeL 1 rfl (by decide +kernel) (WL.mv rfl rfl (WL.nilT (WD.takeL 2 rfl (by decide +kernel) (WL.nc rfl rfl (WL.nilT (WD.takeL 3 rfl (by decide +kernel) (WL.faN (T := Ty) (off' := 1) rfl rfl rfl rfl rfl rfl rfl (WL.nilT (WD.takeL 4 rfl (by decide +kernel) ?_))))))))))))
     refine WL.ldBN (T := Ty) rfl rfl rfl rfl (by first | assumption | exact RB.wide (by assumption) | exact In.rb (by assumption)) rfl ?_
     refine WL.nilT (WD.takeL 5 rfl (by decide +kernel) (WL.mv rfl rfl (WL.nilT (WD.takeL 6 rfl (by decide +kernel) (WL.nc rfl rfl (WL.nilT (WD.takeL 7 rfl (by decide +kernel) (WL.faN (T := Ty) (off' := 2) rfl rfl rfl rfl rfl rfl rfl (WL.nilT (WD.takeL 8 rfl (by decide +kernel) ?_))))))))))
     refine WL.ldBN (T := Ty) rfl rfl rfl rfl (by first | assumption | exact RB.wide (by assumption) | exact In.rb (by assumption)) rfl ?_
     refine WL.nilT (WD.takeL 9 rfl (by decide +kernel) (WL.mv rfl rfl (WL.nilT (WD.takeL 10 rfl (by decide +kernel) (WL.ncE rfl rfl (WL.nilT (WD.takeL 11 rfl (by decide +kernel) (WL.faEN (T := Ty) (off' := 4) rfl rfl rfl rfl rfl rfl rfl (WL.nilT (WD.takeL 13 rfl (by decide +kernel) (WL.faN (T := Ty) (off' := 5) rfl rfl rfl rfl rfl rfl rfl (WL.nilT (WD.takeL 14 rfl (by decide +kernel) ?_)))))))))))))
     refine WL.ldBN (T := Ty) rfl rfl rfl rfl (by first | assumption | exact RB.wide (by assumption) | exact In.rb (by assumption)) rfl ?_
     refine WL.nilT (WD.takeL 15 rfl (by decide +kernel) (WL.faN (T := Ty) (off' := 6) rfl rfl rfl rfl rfl rfl rfl (WL.nilT (WD.takeL 16 rfl (by decide +kernel) ?_))))
     refine WL.ldBN (T := Ty) rfl rfl rfl rfl (by first | assumption | exact RB.wide (by assumption) | exact In.rb (by assumption)) rfl ?_
     refine WL.nilT (WD.oneL 12 rfl (by decide +kernel) ?_)
     refine WL.ldE (T := Ty) (j := 1) rfl rfl rfl rfl rfl (by assumption) ?_
     refine WL.nilE (WD.oneL 17 rfl (by decide +kernel) ?_)
     have hr := (‹In (join ρ σ1) (Own owSer L)›).rsers _ (List.mem_of_getElem? hp)
     unfold rdSer at hr
     dsimp only at hr
     have hap : ∀ u, K.flatMap itrC ++ [.int .i64 (m.next + 1), u] = (K ++ [((⟨m.next + 1, within s'.list o.lo o.hi⟩ : Itr), u)]).flatMap itrC := fun u => by rw [List.flatMap_append]; rfl
     refine WL.callF rfl rfl (fun x p d => within_c _ _ _ _ _ (by first | assumption | exact ROs.wide (by assumption) | exact ROs.mono (by assumption) (eqh_at 0 rfl p d) | exact ros_at 0 rfl p d | exact ros_at 1 rfl p d | exact ros_at 2 rfl p d | exact ros_at 3 rfl p d | exact ros_at 4 rfl p d) (by first | assumption | omega)) (fun u2 => ?_)
     refine WL.fact (i := 0) rfl (fun h hb => hb.sl (sms_cells _) (by omega)) (fun hsl2 => ?_)
     refine WL.nilH hσ1 (fun σ2 hσ2 dσ2 mσ2 => ?_)
     have fσ1_0 := fσ1_0.mono mσ2
     have fσ1_1 := fσ1_1.mono mσ2
     have fσ1_2 := fσ1_2.mono mσ2
     have fσ1_3 := fσ1_3.mono mσ2
     have fσ1_4 := fσ1_4.mono mσ2
     have hr := hr.mono mσ2
     have fσ2_0 := ros_at 0 rfl hσ2 dσ2
     refine WD.takeL 18 rfl (by decide +kernel) ?_
     refine WL.bdC (T := Ty) rfl rfl rfl rfl (by repeat' first | exact CO.nil | apply CO.one (by first | rfl | exact SL.one (by assumption)) | apply CO.agg) rfl (by repeat' constructor) ?_
     refine WL.nilT (WD.oneL 19 rfl (by decide +kernel) ?_)
     refine WL.bsC (T := Ty) rfl rfl rfl rfl rfl rfl rfl (by repeat' first | exact CO.nil | apply CO.one (by first | rfl | exact SL.one (by assumption)) | apply CO.agg) rfl (by repeat' constructor) (fun u3 hu3 => ?_)
     refine WL.nilH hσ2 (fun σ3 hσ3 dσ3 mσ3 => ?_)
     have fσ1_0 := fσ1_0.mono mσ3
     have fσ1_1 := fσ1_1.mono mσ3
     have fσ1_2 := fσ1_2.mono mσ3
     have fσ1_3 := fσ1_3.mono mσ3
     have fσ1_4 := fσ1_4.mono mσ3
     have hr := hr.mono mσ3
     have fσ2_0 := fσ2_0.mono mσ3
     have fσ3_0 := ros_at 0 rfl hσ3 dσ3
     refine WD.oneL 20 rfl (by decide +kernel) ?_
     refine WL.ap (T := Ty) (i := 2) (m := 1) rfl rfl rfl rfl rfl rfl rfl rfl (by first | exact .ro (by assumption) | exact .ro (ROs.wide (by assumption)) | exact .eqJ 0 rfl (by assumption) | exact .own 0 rfl | exact .own 1 rfl | exact .own 2 rfl | exact .own 3 rfl | exact .own 4 rfl | exact .own 5 rfl) (by first | assumption | exact ROs.slm (by assumption)) (by assumption) (by rfl) (AO.all (by repeat' first | exact AO.nil | apply AO.cons (by first | rfl | exact SL.one (by assumption)))) (by first | omega | (simp; omega)) (by unfold maxLen; omega) (fun v' => (by repeat' constructor)) (fun u4 hu4 => ?_)
     refine WL.nilE ?_
     refine WD.lastG hσ3 (by decide +kernel) (by repeat' constructor) rfl (by repeat' constructor) ?_
     refine WL.nc rfl rfl (WL.faN (T := Ty) (off' := 1) rfl rfl rfl rfl rfl rfl rfl ?_)
     refine WL.stF (T := Ty) (j := 4) rfl rfl rfl rfl (SL.one (by assumption)) rfl rfl (by repeat' constructor) (by repeat' constructor) ?_
     refine WL.nil (W.seq (W.region (WL.mv rfl rfl (WL.nc rfl rfl (WL.faN (T := Ty) (off' := 2) rfl rfl rfl rfl rfl rfl rfl (WL.ldN (T := Ty) (j := 4) rfl rfl rfl rfl rfl rfl ?_))))))
     refine WL.bdC (T := Ty) rfl rfl rfl rfl (by repeat' first | exact CO.nil | apply CO.one (by first | rfl | exact SL.one (by assumption)) | apply CO.agg) rfl (by repeat' constructor) ?_
     refine WL.stAO (T := Ty) (j := 2) rfl rfl rfl rfl (by repeat' first | exact AO.nil | apply AO.cons (by first | rfl | exact SL.one (by assumption))) rfl rfl (by repeat' constructor) (by repeat' constructor) ?_
     refine WL.nil ?_
     rw [hap]
     refine W.fit (Hs' := [Buf 2 _ ((within _ _ _).flatMap smC), Own owItr K, box b1 _ _, box b _ _, Buf 5 sv _, Buf 2 _ ((K ++ _).flatMap itrC), Own owSer L]) (by (repeat' first | exact Sel.nil | refine Sel.cons 0 rfl ?_ | refine Sel.cons 1 rfl ?_ | refine Sel.cons 2 rfl ?_ | refine Sel.cons 3 rfl ?_ | refine Sel.cons 4 rfl ?_ | refine Sel.cons 5 rfl ?_ | refine Sel.cons 6 rfl ?_ | refine Sel.cons 7 rfl ?_ | refine Sel.cons 8 rfl ?_)) ?_
     refine W.two (r := Own owItr (K ++ [((⟨m.next + 1, within s'.list o.lo o.hi⟩ : Itr), _)])) _ _ rfl (fun h q => own_snoc (f := owItr) (a := ((⟨m.next + 1, within s'.list o.lo o.hi⟩ : Itr), _)) q) ?_
     refine W.nb (sz := 2) ?_
     refine W.fit (Hs' := [box b1 _ _, Buf 2 nilV [], box b _ _, Buf 5 sv _, Buf 2 _ ((K ++ _).flatMap itrC), Own owSer L, Own owItr (K ++ _)]) (by (repeat' first | exact Sel.nil | refine Sel.cons 0 rfl ?_ | refine Sel.cons 1 rfl ?_ | refine Sel.cons 2 rfl ?_ | refine Sel.cons 3 rfl ?_ | refine Sel.cons 4 rfl ?_ | refine Sel.cons 5 rfl ?_ | refine Sel.cons 6 rfl ?_ | refine Sel.cons 7 rfl ?_ | refine Sel.cons 8 rfl ?_)) ?_
     exact W.retC (T := Ty) (j := 0) rfl rfl rfl rfl rfl rfl (fun h q => ret_pm (m := ⟨m.ser, m.its ++ [⟨m.next + 1, within s'.list o.lo o.hi⟩], m.next + 1⟩) (r := ⟨0, m.next + 1, []⟩) e1 (by rw [List.map_append, e2]; rfl) q)
end Go.Proofs.Ytbebhmdjnneimaa
