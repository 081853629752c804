/- modl: what is asked of an iterator. -/
import Derived.Test.YtbebhmdjnneimaaStc
import Derived.Test.YtbebhmdjnneimaaNum
import Derived.Test.YtbebhmdjnneimaaTab
import Derived.Test.YtbebhmdjnneimaaModl4
set_option linter.unusedSimpArgs false
set_option linter.unusedVariables false
set_option maxRecDepth 20000
set_option maxHeartbeats 4000000
namespace Go.Proofs.Ytbebhmdjnneimaa
open Go
attribute [local irreducible] W WL Fn Buf ROs SL eptr box Rd Src bndOK WD RB Reads In Own UseX
theorem iters_c (ρ : Hp) (b n : Nat) (m : Mdl) (o : MOp) (hI : MInv n m) (hn : n ≤ 1000000) (hk : o.kind = 6 ∨ o.kind = 7) :
  Fn Try.prog 47 #[pt b 0, .agg (opC o).toArray] ρ [PMdl b 31 m] (fun r => sepl [PMdl b 31 (doI m o).1, ORst r (doI m o).2]) := by
 refine in47 rfl rfl ?_
 refine W.ex (fun sv => W.ex (fun iv => W.ex (fun L => W.ex (fun K => W.pure (fun e1 => W.pure (fun e2 => W.open ?_))))))
 simp only [List.cons_append, List.nil_append]
 have l1 := ser_cells L
 have l2 := itr_cells K
 have lL : L.length ≤ n := by have := hI.sers; rw [← e1] at this; simpa using this
 have lK : K.length ≤ 8 := by have := hI.its; rw [← e2] at this; simpa using this
 refine W.fact (i := 4) rfl (fun h hb => itr_one (owItr_rd hb)) (fun o2 => ?_)
 refine W.fact (i := 1) rfl (fun h hb => hb.sl l1 (by omega)) (fun s1 => ?_)
 refine W.fact (i := 2) rfl (fun h hb => hb.sl l2 (by omega)) (fun s2 => ?_)
 obtain ⟨M', R', hA⟩ : ∃ M' R', doI m o = (M', R') := ⟨_, _, rfl⟩
 rw [hA]
 unfold doI at hA
 have hix := itrIx_map K o.iter
 rw [e2] at hix
 generalize hi : itrIx m.its o.iter = i at hA hix
 by_cases hil : i < K.length
 ·have hx : idxF (fun y : Itr × Value => decide (y.1.id = o.iter)) K = (i : Int) := by
   unfold idxF
   rw [← hix, if_pos hil]
  obtain ⟨⟨s, lv⟩, hp⟩ : ∃ p, K[i]? = some p := ⟨_, List.getElem?_eq_getElem hil⟩
  have hp' : m.its[i]? = some s := by rw [← e2, List.getElem?_map, hp]; rfl
  rw [hp'] at hA
  dsimp only at hA
  have hm := hI.rests s (List.mem_of_getElem? hp')
  have c1 : (K.flatMap itrC)[((i : Nat) : Int).toNat * 2 + 1]? = some lv := flat_get itr_len hp rfl
  rcases hk with hk | hk
  ·rw [if_neg (by omega)] at hA
   injection hA with hA1 hA2
   subst hA1 hA2
   have hN : min (min (max o.n 0) 1000) (s.rest.length : Int) = (nextN o s : Nat) := by unfold nextN; omega
   have hN2 : nextN o s ≤ s.rest.length := by unfold nextN; omega
   generalize nextN o s = q at hN hN2
   refine W.parts (ps := [Buf 2 lv (s.rest.flatMap smC), Own owItr (K.eraseIdx i)]) 4 rfl (fun h q => own_out hp q) (by repeat' constructor) ?_
   refine W.freeze 0 rfl (by repeat' constructor) (fun ρ' le hin => ?_)
   have hr := hin.ros
   have hsr : SL lv s.rest.length := hr.sl (sms_cells _) (by omega)
   refine W.seq (W.region ?_)
   refine WL.bxF rfl rfl (by repeat' constructor) (fun b0 => ?_)
   refine WL.alF (T := Ty) rfl rfl (by repeat' constructor) (fun b1 => ?_)
   refine WL.nil (W.seq (W.region (WL.mv rfl rfl (WL.nc rfl rfl (WL.faN (T := Ty) (off' := 1) rfl rfl rfl rfl rfl rfl rfl (WL.ldN (T := Ty) (j := 3) rfl rfl rfl rfl rfl rfl (WL.mkF rfl rfl ?_)))))))
   skip
   refine WL.callV rfl rfl (fun x p d => idxI_c _ iv itrC itr_len K (fun y => decide (y.1.id = o.iter)) _ [pt b0 0] (in_at 5 rfl p d).ros (fun y hy => iters1_c _ y b0 o (in_at 1 rfl p d).rb) (by omega)) ?_
   rw [hx]
   refine WL.as rfl rfl (WL.nil (W.seq (W.seq (W.region (WL.mv rfl rfl (WL.lss rfl rfl rfl (WL.nil (W.condF rfl (W.skip (W.seq (W.seq (W.region (WL.faN (T := Ty) (off' := 0) rfl rfl rfl rfl rfl rfl rfl ?_)))))))))))))
   refine WL.ldN (T := Ty) (j := 1) rfl rfl rfl rfl rfl rfl (WL.eql rfl rfl rfl (WL.nil (W.condpF rfl (by omega) (W.skip (W.seq (W.region (WL.mv rfl rfl (WL.nc rfl rfl (WL.faN (T := Ty) (off' := 1) rfl rfl rfl rfl rfl rfl rfl (WL.ldN (T := Ty) (j := 3) rfl rfl rfl rfl rfl rfl (WL.mv rfl rfl ?_)))))))))))
   refine WL.ix (T := Ty) rfl rfl rfl (by assumption) rfl rfl (by omega) (by first | omega | decide +kernel) ?_
   refine WL.as rfl rfl (WL.nil (W.seq ?_))
   refine W.drawA 9 rfl (fun σ0 hσ0 dσ0 => ?_)
   have fσ0_0 := rb_at 0 rfl hσ0 dσ0
   have fσ0_1 := rb_at 1 rfl hσ0 dσ0
   have fσ0_2 := in_at 2 rfl hσ0 dσ0
   have fσ0_3 := rb_at 3 rfl hσ0 dσ0
   have fσ0_4 := ros_at 4 rfl hσ0 dσ0
   have fσ0_5 := ros_at 5 rfl hσ0 dσ0
   have fσ0_6 := in_at 6 rfl hσ0 dσ0
   refine WD.takeL 0 rfl (by decide +kernel) (WL.faN (T := Ty) (off' := 7) rfl rfl rfl rfl rfl rfl rfl (WL.nilT (WD.takeL 1 rfl (by decide +kernel) ?_)))
   refine WL.ldBN (T := Ty) rfl rfl rfl rfl (by first | assumption | exact RB.wide (by assumption) | exact In.rb (by assumption)) rfl ?_
   refine WL.nilT (WD.takeL 2 rfl (by decide +kernel) (WL.mx rfl rfl rfl (WL.nilT (WD.takeL 3 rfl (by decide +kernel) (WL.mv rfl rfl (WL.nilT (WD.takeL 4 rfl (by decide +kernel) (WL.ncE rfl rfl (WL.nilT (WD.takeL 5 rfl (by decide +kernel) (WL.faEN (T := Ty) (off' := 1) rfl rfl rfl rfl rfl rfl rfl (WL.nilT (WD.takeL 6 rfl (by decide +kernel) ?_)))))))))))))
   refine WL.ldR (T := Ty) rfl rfl rfl rfl (by first | assumption | exact ROs.wide (by assumption)) (by assumption) ?_
   refine WL.nilT (WD.takeL 7 rfl (by decide +kernel) ?_)
   refine WL.len (T := Ty) rfl rfl (by assumption) rfl ?_
   refine WL.nilT (WD.takeL 8 rfl (by decide +kernel) (WL.mn3 rfl rfl rfl rfl (WL.nilT ?_)))
   refine WD.lastG hσ0 (by decide +kernel) (by repeat' constructor) rfl (by repeat' constructor) ?_
   refine WL.as rfl rfl (WL.nil (W.seq (W.region (WL.mv rfl rfl (WL.ncE rfl rfl (WL.faEN (T := Ty) (off' := 1) rfl rfl rfl rfl rfl rfl rfl ?_))))))
   refine WL.ldE (T := Ty) (j := 5) rfl rfl rfl rfl rfl (by assumption) ?_
   refine WL.mv rfl rfl ?_
   rw [hN]
   have hd1 := sms_cells (s.rest.take q)
   have hd2 := sms_cells (s.rest.drop q)
   have hd3 : (s.rest.take q).length ≤ n := by rw [List.length_take]; omega
   have hd4 : (s.rest.drop q).length ≤ n := by rw [List.length_drop]; omega
   have hd5 := sm_one (s.rest.take q)
   have hd6 := sm_one (s.rest.drop q)
   refine WL.slTf (T := Ty) rfl rfl rfl rfl rfl rfl (by first | assumption | exact ROs.wide (by assumption)) (by intro a; rfl) (by first | assumption | omega | (simp; omega)) (fun u2 hu2 ru2 => ?_)
   refine WL.callF rfl rfl (fun x p d => cloneM_c _ _ _ _ (by first | assumption | exact ROs.wide (by assumption) | exact ROs.mono (by assumption) (eqh_at 0 rfl p d) | exact ros_at 0 rfl p d | exact ros_at 1 rfl p d | exact ros_at 2 rfl p d | exact ros_at 3 rfl p d | exact ros_at 4 rfl p d) (by assumption) (by assumption) (by first | assumption | omega)) (fun u3 => ?_)
   refine WL.fact (i := 0) rfl (fun h hb => hb.sl (by assumption) (by omega)) (fun hsl3 => ?_)
   refine WL.as rfl rfl (WL.nil (W.seq (W.region (WL.mv rfl rfl (WL.mv rfl rfl (WL.ncE rfl rfl (WL.faEN (T := Ty) (off' := 1) rfl rfl rfl rfl rfl rfl rfl ?_)))))))
   refine WL.ldE (T := Ty) (j := 6) rfl rfl rfl rfl rfl (by assumption) ?_
   refine WL.mv rfl rfl ?_
   refine WL.slDf (T := Ty) rfl rfl rfl rfl rfl rfl (by first | assumption | exact ROs.wide (by assumption)) (by intro a; rfl) (by first | assumption | omega | (simp; omega)) (fun u4 hu4 ru4 => ?_)
   refine WL.callF rfl rfl (fun x p d => cloneM_c _ _ _ _ (by first | assumption | exact ROs.wide (by assumption) | exact ROs.mono (by assumption) (eqh_at 0 rfl p d) | exact ros_at 0 rfl p d | exact ros_at 1 rfl p d | exact ros_at 2 rfl p d | exact ros_at 3 rfl p d | exact ros_at 4 rfl p d) (by assumption) (by assumption) (by first | assumption | omega)) (fun u5 => ?_)
   refine WL.fact (i := 0) rfl (fun h hb => hb.sl (by assumption) (by omega)) (fun hsl5 => ?_)
   refine WL.ncE rfl rfl (WL.faEN (T := Ty) (off' := 1) rfl rfl rfl rfl rfl rfl rfl ?_)
   refine WL.stEF (T := Ty) (j := 7) rfl rfl rfl rfl (SL.one (by assumption)) rfl (by first | assumption | omega | (simp only [List.length_set]; omega) | (simp; omega)) rfl (by repeat' constructor) ?_
   refine WL.nil (W.seq (W.region (WL.mv rfl rfl ?_)))
   refine WL.bdC (T := Ty) rfl rfl rfl rfl (by repeat' first | exact CO.nil | apply CO.one (by first | rfl | exact SL.one (by assumption)) | apply CO.agg) rfl (by repeat' constructor) ?_
   refine WL.stAO (T := Ty) (j := 2) rfl rfl rfl rfl (by repeat' first | exact AO.nil | apply AO.cons (by first | rfl | exact SL.one (by assumption))) rfl rfl (by repeat' constructor) (by repeat' constructor) ?_
   refine WL.nil ?_
   have hset : ∀ u, (K.flatMap itrC).set (((i : Nat) : Int).toNat * 2 + 1) u = (K.set i ({ s with rest := s.rest.drop q }, u)).flatMap itrC := fun u => flat_set itr_len hp (by omega) rfl
   rw [hset]
   refine W.fit (Hs' := [Buf 2 _ ((s.rest.drop q).flatMap smC), Own owItr (K.eraseIdx i), box b1 _ _, Buf 2 _ ((s.rest.take q).flatMap smC), box b _ _, Buf 5 sv _, Buf 2 iv _, Own owSer L]) (by (repeat' first | exact Sel.nil | refine Sel.cons 0 rfl ?_ | refine Sel.cons 1 rfl ?_ | refine Sel.cons 2 rfl ?_ | refine Sel.cons 3 rfl ?_ | refine Sel.cons 4 rfl ?_ | refine Sel.cons 5 rfl ?_ | refine Sel.cons 6 rfl ?_ | refine Sel.cons 7 rfl ?_ | refine Sel.cons 8 rfl ?_)) ?_
   refine W.two (r := Own owItr (K.set i ({ s with rest := s.rest.drop q }, _))) _ _ rfl (fun h q' => own_in (f := owItr) (a := ({ s with rest := s.rest.drop q }, _)) hp q') ?_
   refine W.fit (Hs' := [box b1 _ _, Buf 2 _ ((s.rest.take q).flatMap smC), box b _ _, Buf 5 sv _, Buf 2 iv _, Own owSer L, Own owItr (K.set i _)]) (by (repeat' first | exact Sel.nil | refine Sel.cons 0 rfl ?_ | refine Sel.cons 1 rfl ?_ | refine Sel.cons 2 rfl ?_ | refine Sel.cons 3 rfl ?_ | refine Sel.cons 4 rfl ?_ | refine Sel.cons 5 rfl ?_ | refine Sel.cons 6 rfl ?_ | refine Sel.cons 7 rfl ?_ | refine Sel.cons 8 rfl ?_)) ?_
   exact W.retC (T := Ty) (j := 0) rfl rfl rfl rfl rfl rfl (fun h q' => ret_pm (m := ⟨m.ser, m.its.set i { s with rest := s.rest.drop q }, m.next⟩) (r := ⟨0, 0, s.rest.take q⟩) e1 (by rw [List.map_set, e2]) q')
  ·rw [if_pos (by omega)] at hA
   injection hA with hA1 hA2
   subst hA1 hA2
   refine W.seq (W.region ?_)
   refine WL.bxF rfl rfl (by repeat' constructor) (fun b0 => ?_)
   refine WL.alF (T := Ty) rfl rfl (by repeat' constructor) (fun b1 => ?_)
   refine WL.nil (W.seq (W.region (WL.mv rfl rfl (WL.nc rfl rfl (WL.faN (T := Ty) (off' := 1) rfl rfl rfl rfl rfl rfl rfl (WL.ldN (T := Ty) (j := 2) rfl rfl rfl rfl rfl rfl (WL.mkF rfl rfl ?_)))))))
   skip
   refine WL.callV rfl rfl (fun x p d => idxI_c _ iv itrC itr_len K (fun y => decide (y.1.id = o.iter)) _ [pt b0 0] (in_at 4 rfl p d).ros (fun y hy => iters1_c _ y b0 o (in_at 1 rfl p d).rb) (by omega)) ?_
   rw [hx]
   refine WL.as rfl rfl (WL.nil (W.seq (W.seq (W.region (WL.mv rfl rfl (WL.lss rfl rfl rfl (WL.nil (W.condF rfl (W.skip (W.seq (W.seq (W.region (WL.faN (T := Ty) (off' := 0) rfl rfl rfl rfl rfl rfl rfl ?_)))))))))))))
   refine WL.ldN (T := Ty) (j := 1) rfl rfl rfl rfl rfl rfl (WL.eql rfl rfl rfl (WL.nil (W.condpT rfl (by omega) (W.seq (W.region (WL.mv rfl rfl (WL.mv rfl rfl (WL.nc rfl rfl (WL.faN (T := Ty) (off' := 1) rfl rfl rfl rfl rfl rfl rfl (WL.ldN (T := Ty) (j := 2) rfl rfl rfl rfl rfl rfl (WL.mv rfl rfl (WL.mv rfl rfl (WL.addK rfl rfl rfl (wrap_i64 ⟨by omega, by omega⟩) ?_)))))))))))))
   rw [show ((i : Nat) : Int) + 1 = ((i + 1 : Nat) : Int) by omega]
   refine WL.callP 4 rfl rfl rfl (fun x p d => delI_c _ _ _ _ _ _ (by assumption) (by first | assumption | omega) (by first | assumption | omega) (by assumption) (by first | assumption | omega)) (by repeat' constructor) (fun u2 => ?_)
   refine WL.fact (i := 0) rfl (fun h hb => hb.sl (del_cells (by assumption) (by first | assumption | omega) (by first | assumption | omega)) (by omega)) (fun hsl2 => ?_)
   refine WL.nc rfl rfl (WL.faN (T := Ty) (off' := 1) rfl rfl rfl rfl rfl rfl rfl ?_)
   refine WL.stF (T := Ty) (j := 3) rfl rfl rfl rfl (SL.one (by assumption)) rfl rfl (by repeat' constructor) (by repeat' constructor) ?_
   refine WL.nil (W.seq (W.region ?_))
   refine WL.bdC (T := Ty) rfl rfl rfl rfl (by repeat' first | exact CO.nil | apply CO.one (by first | rfl | exact SL.one (by assumption)) | apply CO.agg) rfl (by repeat' constructor) ?_
   refine WL.stAO (T := Ty) (j := 1) rfl rfl rfl rfl (by repeat' first | exact AO.nil | apply AO.cons (by first | rfl | exact SL.one (by assumption))) rfl rfl (by repeat' constructor) (by repeat' constructor) ?_
   refine WL.nil ?_
   rw [flat_del itr_len]
   refine W.parts (ps := [owItr (s, lv), Own owItr (K.take i ++ K.drop (i + 1))]) 6 rfl (fun h q => own_del hp q) (by repeat' constructor) ?_
   refine W.nb (sz := 2) ?_
   refine W.fit (Hs' := [box b1 _ _, Buf 2 nilV [], box b [sv, _, .int .i64 m.next] 31, Buf 5 sv (L.flatMap serC), Buf 2 _ ((K.take i ++ K.drop (i + 1)).flatMap itrC), Own owSer L, Own owItr (K.take i ++ K.drop (i + 1))]) (by (repeat' first | exact Sel.nil | refine Sel.cons 0 rfl ?_ | refine Sel.cons 1 rfl ?_ | refine Sel.cons 2 rfl ?_ | refine Sel.cons 3 rfl ?_ | refine Sel.cons 4 rfl ?_ | refine Sel.cons 5 rfl ?_ | refine Sel.cons 6 rfl ?_ | refine Sel.cons 7 rfl ?_ | refine Sel.cons 8 rfl ?_)) ?_
   exact W.retC (T := Ty) (j := 0) rfl rfl rfl rfl rfl rfl (fun h q => ret_pm (m := ⟨m.ser, m.its.take i ++ m.its.drop (i + 1), m.next⟩) (r := ⟨0, 0, []⟩) e1 (by rw [List.map_append, List.map_take, List.map_drop, e2]) q)
 ·have hx : idxF (fun y : Itr × Value => decide (y.1.id = o.iter)) K = -1 := by
   unfold idxF
   rw [← hix, if_neg hil]
  have hp' : m.its[i]? = none := by rw [← e2, List.getElem?_eq_none]; rw [List.length_map]; omega
  rw [hp'] at hA
  dsimp only at hA
  injection hA with hA1 hA2
  subst hA1 hA2
  refine W.seq (W.region ?_)
  refine WL.bxF rfl rfl (by repeat' constructor) (fun b0 => ?_)
  refine WL.alF (T := Ty) rfl rfl (by repeat' constructor) (fun b1 => ?_)
  refine WL.nil (W.seq (W.region (WL.mv rfl rfl (WL.nc rfl rfl (WL.faN (T := Ty) (off' := 1) rfl rfl rfl rfl rfl rfl rfl (WL.ldN (T := Ty) (j := 2) rfl rfl rfl rfl rfl rfl (WL.mkF rfl rfl ?_)))))))
  skip
  refine WL.callV rfl rfl (fun x p d => idxI_c _ iv itrC itr_len K (fun y => decide (y.1.id = o.iter)) _ [pt b0 0] (in_at 4 rfl p d).ros (fun y hy => iters1_c _ y b0 o (in_at 1 rfl p d).rb) (by omega)) ?_
  rw [hx]
  refine WL.as rfl rfl (WL.nil (W.seq (W.seq (W.region (WL.mv rfl rfl (WL.lss rfl rfl rfl (WL.nil (W.condT rfl (W.seq (W.region ?_))))))))))
  refine WL.bdC (T := Ty) rfl rfl rfl rfl (by repeat' first | exact CO.nil | apply CO.one (by first | rfl | exact SL.one (by assumption)) | apply CO.agg) rfl (by repeat' constructor) ?_
  refine WL.stAO (T := Ty) (j := 0) rfl rfl rfl rfl (by repeat' first | exact AO.nil | apply AO.cons (by first | rfl | exact SL.one (by assumption))) rfl rfl (by repeat' constructor) (by repeat' constructor) ?_
  refine WL.nil (W.nb (sz := 2) ?_)
  refine W.fit (Hs' := [box b1 _ _, Buf 2 nilV [], box b [sv, iv, .int .i64 m.next] 31, Buf 5 sv (L.flatMap serC), Buf 2 iv (K.flatMap itrC), Own owSer L, Own owItr K]) (by (repeat' first | exact Sel.nil | refine Sel.cons 0 rfl ?_ | refine Sel.cons 1 rfl ?_ | refine Sel.cons 2 rfl ?_ | refine Sel.cons 3 rfl ?_ | refine Sel.cons 4 rfl ?_ | refine Sel.cons 5 rfl ?_ | refine Sel.cons 6 rfl ?_ | refine Sel.cons 7 rfl ?_ | refine Sel.cons 8 rfl ?_)) ?_
  exact W.retC (T := Ty) (j := 0) rfl rfl rfl rfl rfl rfl (fun h q => ret_pm (r := ⟨3, 0, []⟩) e1 e2 q)
end Go.Proofs.Ytbebhmdjnneimaa
