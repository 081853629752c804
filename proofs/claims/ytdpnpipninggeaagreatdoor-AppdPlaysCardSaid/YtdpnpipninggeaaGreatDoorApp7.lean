/- Samples that come: a chunk is read, as the document reads it. -/
import Derived.Test.YtdpnpipninggeaaGreatDoorStc
import Derived.Test.YtdpnpipninggeaaGreatDoorNum
import Derived.Test.YtdpnpipninggeaaGreatDoorTab
import Derived.Test.YtdpnpipninggeaaGreatDoorApp5
import Derived.Test.YtdpnpipninggeaaGreatDoorEqs
import Derived.Test.YtdpnpipninggeaaGreatDoorGrow
set_option linter.unusedSimpArgs false
set_option linter.unusedVariables false
set_option maxRecDepth 20000
set_option maxHeartbeats 4000000
namespace Go.Proofs.YtdpnpipninggeaaGreatDoor
open Go
theorem bcells (bs : List Nat) (a n : Nat) : ((bs.map bcell).drop a).take n = ((bs.drop a).take n).map bcell := by rw [← List.map_drop, ← List.map_take]
attribute [local irreducible] W WL Fn Buf ROs SL eptr box Rd Src bndOK WD RB Reads In Own mkC chk encTs encX pack vputF vgetF decTs decX risB sumR tms vls vlI sB tB xB frsT lstT na n1 n2 n3
theorem rread_c (ρ : Hp) (v : Value) (l : List Smp) (r0 : ROs ρ 1 v ((xB l).map bcell)) (ho : SmOK l) (hl : l.length ≤ 65535) :
    Fn Tryz.prog 47 #[.int .i64 1, v, .int .i64 (l.length : Int)] ρ [] (fun r h => ∃ v, (r = .tuple #[v, .bool true] ∧ SL v (vls l).length) ∧ sepl [Buf 1 v ((vls l).map ucell)] h) := by
  have s0 : SL v (xB l).length := r0.slm
  have hx := dec_x ho hl
  have hxl := xB_len ho
  have hxb := xB_lt l
  refine in47 rfl rfl ?_
  refine W.seq (W.region (WL.as rfl rfl (WL.as rfl rfl (WL.nil (W.seq (W.seq (W.region (WL.mv rfl rfl (WL.nil (W.block (W.seq (W.region (WL.eql rfl rfl rfl ?_)))))))))))))
  refine WL.as rfl rfl (WL.nil (W.condT rfl (W.seq (W.region (WL.mv rfl rfl ?_)))))
  refine WL.bdC (T := Ty) rfl rfl rfl rfl (by repeat' first | exact CO.nil | apply CO.one (by first | rfl | exact SL.one (by assumption)) | apply CO.agg) rfl (by repeat' constructor) ?_
  refine WL.bxF rfl rfl (by repeat' constructor) (fun b0 => ?_)
  refine WL.mv rfl rfl ?_
  refine WL.callP 0 rfl rfl rfl (fun x p d => rgetx_s _ _ _ _ _ _ (by first | assumption | exact ROs.wide (by assumption) | exact ROs.mono (by assumption) (eqh_at 0 rfl p d) | exact ros_at 0 rfl p d | exact ros_at 1 rfl p d | exact ros_at 2 rfl p d | exact ros_at 3 rfl p d | exact ros_at 4 rfl p d) (by assumption) (by first | assumption | exact Nat.zero_le _) (by first | assumption | omega | decide) (by assumption)) (by repeat' constructor) (fun r => ?_)
  refine WL.ex (fun u1 => ?_)
  refine WL.pure (fun er => ?_)
  subst er
  refine WL.open ?_
  refine WL.fact (i := 0) rfl (fun h hb => Buf.slm hb) (fun hsl1 => ?_)
  refine WL.extL rfl rfl rfl (WL.extL rfl rfl rfl (WL.as rfl rfl (WL.as rfl rfl (WL.nil ?_))))
  exact W.fit (Hs' := [Buf 1 _ ((vls l).map ucell)]) (by (repeat' first | exact Sel.nil | apply Sel.k | exact Pick.h | apply Pick.t)) (W.ret2 rfl rfl rfl (fun h q => ⟨_, ⟨rfl, by assumption⟩, q⟩))
theorem rdec_c (ρ : Hp) (v : Value) (l : List Smp) (r0 : ROs ρ 1 v ((sB l).map bcell)) (ho : SmOK l) (hl : l.length ≤ 65535) (hr : risB l = true) (hT : TabG ρ) :
    Fn Tryz.prog 30 #[.int .i64 1, v, .int .i64 (l.length : Int)] ρ [] (fun r h => ∃ v, (r = .tuple #[v, .bool true] ∧ SL v l.length) ∧ sepl [Buf 2 v (l.flatMap smC)] h) := by
  have s0 : SL v (sB l).length := r0.slm
  have hg := sB_get hl
  have hsl := sB_len ho
  have hsb := sB_lt hl
  have hs2 := sB_len' l
  have hna := na_bnd l
  have htl := tms_len l
  have hvl := vls_len l
  have htb := tB_len l
  have htt := tB_lt l
  have hdt := dec_t ho hl
  have hsum : (((na l : Nat) : Int) + (((tB l).length : Nat) : Int)) = ((na l + (tB l).length : Nat) : Int) := by push_cast; rfl
  refine in30 rfl rfl ?_
  refine W.seq (W.region (WL.as rfl rfl (WL.as rfl rfl (WL.nil (W.seq (W.region (WL.mv rfl rfl ?_)))))))
  refine WL.callV rfl rfl (fun x p d => rget_e _ _ _ (by first | assumption | exact ROs.wide (by assumption) | exact ROs.mono (by assumption) (eqh_at 0 rfl p d) | exact ros_at 0 rfl p d | exact ros_at 1 rfl p d | exact ros_at 2 rfl p d | exact ros_at 3 rfl p d | exact ros_at 4 rfl p d) (by assumption) (by first | assumption) (by first | assumption | omega)) ?_
  refine WL.mv rfl rfl (WL.extL rfl rfl rfl (WL.extL rfl rfl rfl (WL.as rfl rfl (WL.as rfl rfl (WL.nil (W.seq (W.seq (W.region (WL.mv rfl rfl (WL.lss rfl rfl rfl (WL.mv rfl rfl (WL.gY rfl rfl (WL.mv rfl rfl ?_)))))))))))))
  refine WL.gY rfl rfl (WL.gtr rfl rfl rfl (WL.pickF rfl rfl rfl (WL.mv rfl rfl (WL.gF rfl rfl (by omega) (WL.mv rfl rfl (WL.gF rfl rfl (by omega) (WL.eql rfl rfl rfl (WL.pickFp rfl rfl (by omega) rfl (WL.mv rfl rfl (WL.gF rfl rfl (by omega) (WL.mv rfl rfl (WL.gF rfl rfl (by omega) (WL.mv rfl rfl ?_)))))))))))))
  refine WL.gF rfl rfl (by omega) ?_
  refine WL.len (T := Ty) rfl rfl (by assumption) rfl ?_
  refine WL.gF rfl rfl (by omega) (WL.mv rfl rfl (WL.gF rfl rfl (by omega) (WL.subK rfl rfl rfl (wrap_i64 ⟨by omega, by omega⟩) (WL.gF rfl rfl (by omega) (WL.cvK (T := Ty) rfl rfl rfl rfl (wrap_u64 ⟨by omega, by omega⟩) (WL.gF rfl rfl (by omega) (WL.gtr rfl rfl rfl (WL.pickFp rfl rfl (by omega) rfl (WL.nil (W.condpF rfl (by omega) (W.skip (W.seq (W.region ?_)))))))))))))
  refine WL.mv rfl rfl (WL.mv rfl rfl (WL.mv rfl rfl (WL.mv rfl rfl (WL.cvK (T := Ty) rfl rfl rfl rfl (wrap_i64 ⟨by omega, by omega⟩) (WL.addK rfl rfl rfl (wrap_i64 ⟨by omega, by omega⟩) ?_)))))
  rw [hsum]
  refine WL.slR (T := Ty) (n := (sB l).length) (lo := na l) (hi := na l + (tB l).length) rfl rfl (.atN rfl) (.atN rfl) rfl rfl rfl r0 (by simp) (by omega) (by omega) (fun xa hxa roxa => ?_)
  rw [Nat.mul_one, Nat.mul_one, Nat.add_sub_cancel_left, bcells, sB_t] at roxa
  rw [Nat.add_sub_cancel_left] at hxa
  refine WL.bdC (T := Ty) rfl rfl rfl rfl (by repeat' first | exact CO.nil | apply CO.one (by first | rfl | exact SL.one (by assumption)) | apply CO.agg) rfl (by repeat' constructor) ?_
  refine WL.bxF rfl rfl (by repeat' constructor) (fun b0 => ?_)
  refine WL.mv rfl rfl ?_
  refine WL.intoRRe 0 rfl (by repeat' constructor) ?_
  refine WL.callP 0 rfl rfl rfl (fun x p d => rtget_s _ _ _ _ _ _ (by first | assumption | exact ROs.wide (by assumption) | exact ROs.mono (by assumption) (eqh_at 0 rfl p d) | exact ros_at 0 rfl p d | exact ros_at 1 rfl p d | exact ros_at 2 rfl p d | exact ros_at 3 rfl p d | exact ros_at 4 rfl p d) (by assumption) (by first | assumption | exact Nat.zero_le _) (by first | assumption | omega | decide) (by assumption)) (by repeat' constructor) (fun r => ?_)
  refine WL.ex (fun u1 => ?_)
  refine WL.pure (fun er => ?_)
  subst er
  refine WL.open ?_
  refine WL.fact (i := 0) rfl (fun h hb => Buf.slm hb) (fun hsl1 => ?_)
  refine WL.mv rfl rfl (WL.extL rfl rfl rfl (WL.extL rfl rfl rfl (WL.as rfl rfl (WL.as rfl rfl (WL.nil (W.seq (W.region (WL.mv rfl rfl (WL.mv rfl rfl (WL.mv rfl rfl (WL.mv rfl rfl (WL.cvK (T := Ty) rfl rfl rfl rfl (wrap_i64 ⟨by omega, by omega⟩) (WL.addK rfl rfl rfl (wrap_i64 ⟨by omega, by omega⟩) ?_)))))))))))))
  refine WL.slDn (T := Ty) rfl rfl rfl rfl rfl (by first | assumption | exact ROs.wide (by assumption)) (by first | assumption | omega | (simp; omega)) (fun u2 hu2 ru2 => ?_)
  refine WL.mv rfl rfl ?_
  rw [sB_x] at ru2 hu2
  refine WL.callF rfl rfl (fun x p d => rread_c _ _ _ (by first | assumption | exact ROs.wide (by assumption) | exact ROs.mono (by assumption) (eqh_at 0 rfl p d) | exact ros_at 0 rfl p d | exact ros_at 1 rfl p d | exact ros_at 2 rfl p d | exact ros_at 3 rfl p d | exact ros_at 4 rfl p d) (by assumption) (by first | assumption | omega)) (fun r3 => ?_)
  refine WL.opens (α := Value) (φ := fun v => r3 = .tuple #[v, .bool true] ∧ SL v _) (ps := fun v => [Buf 1 v _]) 0 rfl (fun h q => q) (by repeat' constructor) ?_
  rintro u3 ⟨es3, su3⟩
  subst es3
  dsimp only [List.cons_append, List.nil_append] at su3 ⊢
  refine WL.mv rfl rfl (WL.extL rfl rfl rfl (WL.extL rfl rfl rfl (WL.as rfl rfl (WL.as rfl rfl (WL.nil (W.seq (W.seq (W.region (WL.mv rfl rfl (WL.not rfl rfl (WL.mv rfl rfl (WL.gY rfl rfl (WL.mv rfl rfl ?_)))))))))))))
  refine WL.gY rfl rfl (WL.not rfl rfl (WL.pickF rfl rfl rfl (WL.mv rfl rfl (WL.gY rfl rfl (WL.mv rfl rfl (WL.gY rfl rfl ?_))))))
  refine WL.len (T := Ty) rfl rfl (by assumption) rfl ?_
  refine WL.gY rfl rfl (WL.mv rfl rfl (WL.gY rfl rfl (WL.neq rfl rfl rfl (WL.pickF rfl rfl rfl (WL.mv rfl rfl (WL.gF rfl rfl (by omega) (WL.mv rfl rfl (WL.gF rfl rfl (by omega) ?_))))))))
  refine WL.len (T := Ty) rfl rfl (by assumption) rfl ?_
  refine WL.gF rfl rfl (by omega) (WL.mv rfl rfl (WL.gF rfl rfl (by omega) (WL.neq rfl rfl rfl (WL.pickFp rfl rfl (by omega) rfl (WL.nil (W.condpF rfl (by omega) (W.skip (W.seq (W.region (WL.as rfl rfl (WL.nil (W.seq (W.seq ?_)))))))))))))
  refine W.region (WL.as rfl rfl (WL.nil (W.block (W.nb (sz := 2) ?_))))
  refine W.loopR (σ := Nat × Value) (fun s => [(0, .int .i64 1), (1, v), (2, .int .i64 (l.length : Int)), (10, u1), (12, u3), (14, s.2), (15, .int .i64 (s.1 : Int))])
    (fun s => [Buf 2 s.2 ((l.take s.1).flatMap smC), Buf 1 u3 ((vls l).map ucell), Buf 1 u1 ((tms l).map (Value.int .i64)), RRe b0 xa ⟨(encTs (tms l)).length, false⟩]) (fun s ρ' => s.1 ≤ l.length ∧ SL s.2 (l.take s.1).length) (fun s => l.length - s.1)
    (0, nilV) ⟨rfl, rfl, rfl, rfl, rfl, rfl, rfl, trivial⟩ rfl ⟨Nat.zero_le _, slZ⟩ ?_
  rintro ⟨i, u⟩ ρ1 le1 ⟨hi, su⟩ next
  dsimp only at hi su next ⊢
  replace r0 := r0.mono le1
  replace hT := hT.mono le1
  have lt1 : (l.take i).length = i := by rw [List.length_take]; omega
  have lc1 := sms_cells (l.take i)
  by_cases hc : i < l.length
  · obtain ⟨q, hq⟩ : ∃ q, l[i]? = some q := ⟨_, List.getElem?_eq_getElem hc⟩
    have ht1 : (tms l).getD i 0 = q.1 := by unfold tms; rw [List.getD_eq_getElem?_getD, List.getElem?_map, hq]; rfl
    have hv1 : ucell ((vls l).getD i 0) = Value.int .u64 q.2 := by
      have := ho q (List.mem_of_getElem? hq)
      unfold vls ucell
      rw [List.getD_eq_getElem?_getD, List.getElem?_map, hq]
      show Value.int .u64 ((q.2.toNat : Nat) : Int) = _
      rw [show ((q.2.toNat : Nat) : Int) = q.2 by omega]
    have hst : (l.take i).flatMap smC ++ [Value.int .i64 q.1, Value.int .u64 q.2] = (l.take (i + 1)).flatMap smC := by rw [← take_snoc hq, List.flatMap_append]; rfl
    have e4 : (l.take (i + 1)).length = i + 1 := by rw [List.length_take]; omega
    refine W.seq (W.seq (W.region (WL.mv rfl rfl (WL.mv rfl rfl (WL.lss rfl rfl rfl (WL.nil (W.condpT rfl (by omega) (W.skip (W.seq (W.block ?_))))))))))
    refine W.drawP 12 [true, false, false, false] rfl (by repeat' constructor) (by repeat' constructor) (fun σ0 hσ0 dσ0 => ?_)
    have fσ0_0 := ros_at 0 rfl hσ0 dσ0
    have fσ0_1 := ros_at 1 rfl hσ0 dσ0
    have fσ0_2 := in_at 2 rfl hσ0 dσ0
    refine WD.takeL 0 rfl (by decide +kernel) (WL.mv rfl rfl (WL.nilT (WD.takeL 1 rfl (by decide +kernel) (WL.mv rfl rfl (WL.nilT (WD.takeL 2 rfl (by decide +kernel) (WL.mv rfl rfl (WL.nilT (WD.takeL 3 rfl (by decide +kernel) ?_)))))))))
    refine WL.ix (T := Ty) rfl rfl rfl (by assumption) rfl rfl (by omega) (by first | omega | decide +kernel) ?_
    refine WL.nilT (WD.takeL 4 rfl (by decide +kernel) ?_)
    refine WL.ldRz (T := Ty) rfl rfl rfl rfl (by first | assumption | exact ROs.wide (by assumption)) (by first | omega | decide +kernel) ?_
    refine WL.nilT (WD.takeL 5 rfl (by decide +kernel) (WL.mv rfl rfl (WL.nilT (WD.takeL 6 rfl (by decide +kernel) (WL.mv rfl rfl (WL.nilT (WD.takeL 7 rfl (by decide +kernel) ?_)))))))
    refine WL.ix (T := Ty) rfl rfl rfl (by assumption) rfl rfl (by omega) (by first | omega | decide +kernel) ?_
    refine WL.nilT (WD.takeL 8 rfl (by decide +kernel) ?_)
    refine WL.ldRn (T := Ty) rfl rfl rfl rfl (by first | assumption | exact ROs.wide (by assumption)) (by first | omega | decide +kernel) ?_
    refine WL.nilT (WD.takeL 9 rfl (by decide +kernel) ?_)
    refine WL.bdC (T := Ty) rfl rfl rfl rfl (by repeat' first | exact CO.nil | apply CO.one (by first | rfl | exact SL.one (by assumption)) | apply CO.agg) rfl (by repeat' constructor) ?_
    refine WL.nilT (WD.oneL 10 rfl (by decide +kernel) ?_)
    refine WL.bsC (T := Ty) rfl rfl rfl rfl rfl rfl rfl (by repeat' first | exact CO.nil | apply CO.one (by first | rfl | exact SL.one (by assumption)) | apply CO.agg) rfl (by repeat' constructor) (fun u4 hu4 => ?_)
    refine WL.nilH hσ0 (fun σ1 hσ1 dσ1 mσ1 => ?_)
    have fσ0_0 := fσ0_0.mono mσ1
    have fσ0_1 := fσ0_1.mono mσ1
    have fσ0_2 := fσ0_2.mono mσ1
    have fσ1_0 := ros_at 0 rfl hσ1 dσ1
    refine WD.oneL 11 rfl (by decide +kernel) ?_
    refine WL.ap (T := Ty) (i := 1) (m := 1) rfl rfl rfl rfl rfl rfl rfl rfl (by first | exact .ro (by assumption) | exact .ro (ROs.wide (by assumption)) | exact .eqJ 0 rfl (by assumption) | exact .own 0 rfl | exact .own 1 rfl | exact .own 2 rfl | exact .own 3 rfl | exact .own 4 rfl | exact .own 5 rfl) (by first | assumption | exact ROs.slm (by assumption)) (by assumption) (by rfl) (AO.all (by repeat' first | exact AO.nil | apply AO.cons (by first | rfl | exact SL.one (by assumption)))) (by first | omega | (simp; omega) | (simp only [List.length_drop, List.length_take]; omega)) (by unfold maxLen; first | omega | (simp only [List.length_drop, List.length_take]; omega)) (fun v' => (by repeat' constructor)) (fun u5 hu5 => ?_)
    refine WL.nilE ?_
    refine WD.lastG hσ1 (by decide +kernel) (by repeat' constructor) rfl (by repeat' constructor) ?_
    refine WL.as rfl rfl (WL.nil (W.inBlock (W.region (WL.mv rfl rfl (WL.addK rfl rfl rfl (wrap_i64 ⟨by omega, by omega⟩) (WL.as rfl rfl (WL.nil ?_)))))))
    rw [ht1, hv1, hst]
    refine W.fit (by (repeat' first | exact Sel.nil | apply Sel.k | exact Pick.h | apply Pick.t)) (W.sub ?_ (next ⟨i + 1, _⟩ ρ1 (Le.refl _) ⟨by dsimp only; omega, by dsimp only; rw [e4]; rw [lt1] at *; assumption⟩ (by dsimp only; omega)))
    exact ⟨rfl, rfl, rfl, rfl, rfl, rfl, rfl, trivial⟩
  · have hci : i = l.length := by omega
    subst hci
    rw [List.take_length]
    refine W.seq (W.seq (W.region (WL.mv rfl rfl (WL.mv rfl rfl (WL.lss rfl rfl rfl (WL.nil (W.condpF rfl (by omega) (W.exit rfl (W.seq (W.region (WL.mv rfl rfl (WL.mv rfl rfl ?_))))))))))))
    refine WL.callF rfl rfl (fun x p d => renc_t _ _ _ (by first | assumption | exact ROs.wide (by assumption) | exact ROs.mono (by assumption) (eqh_at 0 rfl p d) | exact ros_at 0 rfl p d | exact ros_at 1 rfl p d | exact ros_at 2 rfl p d | exact ros_at 3 rfl p d | exact ros_at 4 rfl p d) (by assumption) (by first | assumption | omega) (by assumption) (TabG.wide (by assumption))) (fun r4 => ?_)
    refine WL.opens (α := Value) (φ := fun v => r4 = .tuple #[v, .bool true] ∧ SL v _) (ps := fun v => [Buf 1 v _]) 0 rfl (fun h q => q) (by repeat' constructor) ?_
    rintro u4 ⟨es4, su4⟩
    subst es4
    dsimp only [List.cons_append, List.nil_append] at su4 ⊢
    refine WL.mv rfl rfl (WL.extL rfl rfl rfl (WL.extL rfl rfl rfl (WL.as rfl rfl (WL.as rfl rfl (WL.nil (W.seq (W.seq (W.region (WL.mv rfl rfl (WL.not rfl rfl (WL.mv rfl rfl (WL.gY rfl rfl (WL.mv rfl rfl ?_)))))))))))))
    refine WL.gY rfl rfl (WL.b2sN (T := Ty) rfl rfl rfl rfl rfl rfl rfl (.own 0 rfl) (WL.gY rfl rfl (WL.mv rfl rfl (WL.gY rfl rfl ?_))))
    refine WL.b2sRN (T := Ty) rfl rfl rfl rfl rfl rfl rfl (by assumption) ?_
    refine WL.gY rfl rfl ?_
    refine WL.neST rfl rfl rfl (by first | with_reducible rfl | assumption) ?_
    refine WL.pickF rfl rfl rfl (WL.nil (W.condF rfl (W.skip (W.seq (W.region (WL.mv rfl rfl (WL.as rfl rfl (WL.as rfl rfl (WL.nil ?_)))))))))
    exact W.fit (Hs' := [Buf 2 u (l.flatMap smC)]) (by (repeat' first | exact Sel.nil | apply Sel.k | exact Pick.h | apply Pick.t)) (W.ret2 rfl rfl rfl (fun h q => ⟨_, ⟨rfl, by rw [List.take_length] at su; exact su⟩, q⟩))
end Go.Proofs.YtdpnpipninggeaaGreatDoor
/- Samples that come: a chunk is opened, as the document opens it. -/
set_option linter.unusedSimpArgs false
set_option linter.unusedVariables false
set_option maxRecDepth 20000
set_option maxHeartbeats 4000000
namespace Go.Proofs.YtdpnpipninggeaaGreatDoor
open Go
attribute [local irreducible] W WL Fn Buf ROs SL eptr box Rd Src bndOK WD RB Reads In Own mkC chk encTs encX pack vputF vgetF decTs decX risB sumR tms vls vlI sB tB xB frsT lstT na n1 n2 n3 zigF
theorem rhead_c (ρ : Hp) (v : Value) (l : List Smp) (r0 : ROs ρ 1 v ((chk l).map bcell)) (ho : SmOK l) (hl : l.length ≤ 65535) (hp : 0 < l.length) (hr : risB l = true) :
    Fn Tryz.prog 29 #[v] ρ [] (Just (.tuple #[.agg #[.int .i64 1, .int .i64 (l.length : Int), .int .i64 (frsT l), .int .i64 (lstT l)], .int .i64 (((1 + n1 l + n2 l + n3 l : Nat)) : Int), .bool true])) := by
  have s0 : SL v (chk l).length := r0.slm
  have hcl := chk_len' l
  have hcn := chk_len ho
  have hcb := chk_lt ho hl
  have hb0 : (chk l).getD ((0 : Int).toNat * 1) default = 1 := by rw [List.getD_eq_getElem?_getD]; show ((chk l)[0]?).getD default = 1; rw [chk_get0]; rfl
  have g1 := chk_g1 hl
  have g2 := chk_g2 ho
  have g3 := chk_g3 ho
  have nb := n_bnd l
  have o0 := frs_ok ho
  have o1 := lst_ok ho
  have hfl := frs_le_lst hr
  have hd1 : ∀ x ∈ (chk l).drop 1, x < 256 := fun x hx => hcb x (List.mem_of_mem_drop hx)
  have hd2 : ∀ x ∈ (chk l).drop (1 + n1 l), x < 256 := fun x hx => hcb x (List.mem_of_mem_drop hx)
  have hd3 : ∀ x ∈ (chk l).drop (1 + n1 l + n2 l), x < 256 := fun x hx => hcb x (List.mem_of_mem_drop hx)
  have hl1 : ((chk l).drop 1).length ≤ 140737488355328 := by rw [List.length_drop]; omega
  have hl2 : ((chk l).drop (1 + n1 l)).length ≤ 140737488355328 := by rw [List.length_drop]; omega
  have hl3 : ((chk l).drop (1 + n1 l + n2 l)).length ≤ 140737488355328 := by rw [List.length_drop]; omega
  have hmin : min ((l.length : Nat) : Int) 65536 = ((l.length : Nat) : Int) := by omega
  have hsum : (1 : Int) + ((n1 l : Nat) : Int) + ((n2 l : Nat) : Int) + ((n3 l : Nat) : Int) = ((1 + n1 l + n2 l + n3 l : Nat) : Int) := by push_cast; rfl
  refine in29 rfl rfl ?_
  refine W.seq (W.region ?_)
  refine WL.alF (T := Ty) rfl rfl (by repeat' constructor) (fun b0 => ?_)
  refine WL.as rfl rfl (WL.as rfl rfl (WL.nil (W.seq (W.seq (W.region (WL.mv rfl rfl ?_))))))
  refine WL.len (T := Ty) rfl rfl (by assumption) rfl ?_
  refine WL.eql rfl rfl rfl (WL.mv rfl rfl (WL.gF rfl rfl (by omega) (WL.mv rfl rfl (WL.gF rfl rfl (by omega) ?_))))
  refine WL.ix (T := Ty) rfl rfl rfl (by assumption) rfl rfl (by omega) (by first | omega | decide +kernel) ?_
  refine WL.gF rfl rfl (by omega) ?_
  refine WL.ldRM (T := Ty) rfl rfl rfl rfl (by first | assumption | exact ROs.wide (by assumption)) (by first | omega | decide +kernel) ?_
  refine WL.gF rfl rfl (by omega) (WL.lss rfl rfl rfl (WL.pickFp rfl rfl (by omega) rfl (WL.mv rfl rfl (WL.gF rfl rfl (by omega) (WL.mv rfl rfl (WL.gF rfl rfl (by omega) ?_))))))
  refine WL.ix (T := Ty) rfl rfl rfl (by assumption) rfl rfl (by omega) (by first | omega | decide +kernel) ?_
  refine WL.gF rfl rfl (by omega) ?_
  refine WL.ldRM (T := Ty) rfl rfl rfl rfl (by first | assumption | exact ROs.wide (by assumption)) (by first | omega | decide +kernel) ?_
  refine WL.gF rfl rfl (by omega) (WL.gtr rfl rfl rfl (WL.pickFp rfl rfl (by omega) rfl (WL.nil (W.condpF rfl (by omega) (W.skip (W.seq (W.region (WL.mv rfl rfl ?_))))))))
  refine WL.slDn (T := Ty) rfl rfl rfl rfl rfl (by first | assumption | exact ROs.wide (by assumption)) (by first | assumption | omega | (simp; omega)) (fun u1 hu1 ru1 => ?_)
  refine WL.callV rfl rfl (fun x p d => rget_e _ _ _ (by first | assumption | exact ROs.wide (by assumption) | exact ROs.mono (by assumption) (eqh_at 0 rfl p d) | exact ros_at 0 rfl p d | exact ros_at 1 rfl p d | exact ros_at 2 rfl p d | exact ros_at 3 rfl p d | exact ros_at 4 rfl p d) (by assumption) (by first | assumption) (by first | assumption | omega)) ?_
  refine WL.mv rfl rfl (WL.extL rfl rfl rfl (WL.extL rfl rfl rfl (WL.as rfl rfl (WL.as rfl rfl (WL.nil (W.seq (W.region (WL.mv rfl rfl (WL.mv rfl rfl (WL.addK rfl rfl rfl (wrap_i64 ⟨by omega, by omega⟩) ?_))))))))))
  refine WL.slDn (T := Ty) rfl rfl rfl rfl rfl (by first | assumption | exact ROs.wide (by assumption)) (by first | assumption | omega | (simp; omega)) (fun u2 hu2 ru2 => ?_)
  refine WL.callV rfl rfl (fun x p d => rget_e _ _ _ (by first | assumption | exact ROs.wide (by assumption) | exact ROs.mono (by assumption) (eqh_at 0 rfl p d) | exact ros_at 0 rfl p d | exact ros_at 1 rfl p d | exact ros_at 2 rfl p d | exact ros_at 3 rfl p d | exact ros_at 4 rfl p d) (by assumption) (by first | assumption) (by first | assumption | omega)) ?_
  refine WL.mv rfl rfl (WL.extL rfl rfl rfl (WL.extL rfl rfl rfl (WL.as rfl rfl (WL.as rfl rfl (WL.nil (W.seq (W.region (WL.mv rfl rfl (WL.mv rfl rfl (WL.addK rfl rfl rfl (wrap_i64 ⟨by omega, by omega⟩) (WL.mv rfl rfl (WL.addK rfl rfl rfl (wrap_i64 ⟨by omega, by omega⟩) ?_))))))))))))
  refine WL.slDn (T := Ty) rfl rfl rfl rfl rfl (by first | assumption | exact ROs.wide (by assumption)) (by first | assumption | omega | (simp; omega)) (fun u3 hu3 ru3 => ?_)
  refine WL.callV rfl rfl (fun x p d => rget_e _ _ _ (by first | assumption | exact ROs.wide (by assumption) | exact ROs.mono (by assumption) (eqh_at 0 rfl p d) | exact ros_at 0 rfl p d | exact ros_at 1 rfl p d | exact ros_at 2 rfl p d | exact ros_at 3 rfl p d | exact ros_at 4 rfl p d) (by assumption) (by first | assumption) (by first | assumption | omega)) ?_
  refine WL.mv rfl rfl (WL.extL rfl rfl rfl (WL.extL rfl rfl rfl (WL.as rfl rfl (WL.as rfl rfl (WL.nil (W.seq ?_))))))
  refine W.drawA 13 rfl (fun σ0 hσ0 dσ0 => ?_)
  have fσ0_0 := rb_at 0 rfl hσ0 dσ0
  refine WD.takeL 0 rfl (by decide +kernel) (WL.mv rfl rfl (WL.nilT (WD.takeL 1 rfl (by decide +kernel) ?_)))
  refine WL.ix (T := Ty) rfl rfl rfl (by assumption) rfl rfl (by omega) (by first | omega | decide +kernel) ?_
  refine WL.nilT (WD.takeL 2 rfl (by decide +kernel) ?_)
  refine WL.ldRM (T := Ty) rfl rfl rfl rfl (by first | assumption | exact ROs.wide (by assumption)) (by first | omega | decide +kernel) ?_
  refine WL.nilT (WD.takeL 3 rfl (by decide +kernel) (WL.cvK (T := Ty) rfl rfl rfl rfl (wrap_i64 ⟨by omega, by omega⟩) (WL.nilT (WD.takeL 4 rfl (by decide +kernel) (WL.mv rfl rfl (WL.nilT (WD.takeL 5 rfl (by decide +kernel) (WL.mn rfl rfl rfl (WL.nilT (WD.takeL 6 rfl (by decide +kernel) (WL.cvK (T := Ty) rfl rfl rfl rfl (wrap_i64 ⟨by omega, by omega⟩) (WL.nilT (WD.takeL 7 rfl (by decide +kernel) ?_)))))))))))))
  refine WL.mv rfl rfl (WL.nilT (WD.takeL 9 rfl (by decide +kernel) (WL.mv rfl rfl (WL.nilT ?_))))
  refine WD.twoL 8 12 rfl rfl (by decide +kernel) ?_ ?_
  · refine WL.callV rfl rfl (fun x p d => rzag_z _ _ (by assumption)) ?_
    refine WL.nilE ?_
    refine WD.twoL 10 12 rfl rfl (by decide +kernel) ?_ ?_
    · refine WL.callV rfl rfl (fun x p d => rzag_z _ _ (by assumption)) ?_
      refine WL.nilE (WD.takeL 11 rfl (by decide +kernel) ?_)
      refine WL.bdC (T := Ty) rfl rfl rfl rfl (by repeat' first | exact CO.nil | apply CO.one (by first | rfl | exact SL.one (by assumption)) | apply CO.agg) rfl (by repeat' constructor) ?_
      refine WL.nilT (WD.oneL 12 rfl (by decide +kernel) ?_)
      refine WL.alF (T := Ty) rfl rfl (by repeat' constructor) (fun b4 => ?_)
      refine WL.nilS ?_
      refine WD.lastG hσ0 (by decide +kernel) (by repeat' constructor) rfl (by repeat' constructor) ?_
      refine WL.stAO (T := Ty) (j := 1) rfl rfl rfl rfl (by repeat' first | exact AO.nil | apply AO.cons (by first | rfl | exact SL.one (by assumption))) rfl rfl (by repeat' constructor) (by repeat' constructor) ?_
      refine WL.nil (W.seq (W.seq (W.region (WL.mv rfl rfl (WL.eql rfl rfl rfl (WL.mv rfl rfl (WL.gF rfl rfl (by omega) (WL.mv rfl rfl (WL.gF rfl rfl (by omega) (WL.eql rfl rfl rfl (WL.pickFp rfl rfl (by omega) rfl (WL.mv rfl rfl (WL.gF rfl rfl (by omega) ?_)))))))))))))
      refine WL.mv rfl rfl (WL.gF rfl rfl (by omega) (WL.eql rfl rfl rfl (WL.pickFp rfl rfl (by omega) rfl (WL.mv rfl rfl (WL.gF rfl rfl (by omega) (WL.mv rfl rfl (WL.gF rfl rfl (by omega) (WL.lss rfl rfl rfl (WL.pickFp rfl rfl (by omega) rfl (WL.mv rfl rfl (WL.gF rfl rfl (by omega) (WL.mv rfl rfl (WL.gF rfl rfl (by omega) ?_)))))))))))))
      refine WL.gtr rfl rfl rfl (WL.pickFp rfl rfl (by omega) rfl (WL.mv rfl rfl (WL.gF rfl rfl (by omega) (WL.faN (T := Ty) (off' := 2) rfl rfl rfl rfl rfl rfl rfl (WL.gF rfl rfl (by omega) (WL.ldN (T := Ty) (j := 1) rfl rfl rfl rfl rfl rfl (WL.gF rfl rfl (by omega) (WL.faN (T := Ty) (off' := 3) rfl rfl rfl rfl rfl rfl rfl (WL.gF rfl rfl (by omega) (WL.ldN (T := Ty) (j := 1) rfl rfl rfl rfl rfl rfl (WL.gF rfl rfl (by omega) (WL.gtr rfl rfl rfl (WL.pickFp rfl rfl (by omega) rfl ?_)))))))))))))
      refine WL.nil (W.condpF rfl (by omega) (W.skip (W.seq (W.region ?_))))
      refine WL.ldAF (T := Ty) (j := 1) rfl rfl rfl rfl rfl rfl (by repeat' constructor) ?_
      refine WL.mv rfl rfl (WL.addK rfl rfl rfl (wrap_i64 ⟨by omega, by omega⟩) (WL.mv rfl rfl (WL.addK rfl rfl rfl (wrap_i64 ⟨by omega, by omega⟩) (WL.mv rfl rfl (WL.addK rfl rfl rfl (wrap_i64 ⟨by omega, by omega⟩) ?_)))))
      refine WL.stAO (T := Ty) (j := 0) rfl rfl rfl rfl (by repeat' first | exact AO.nil | apply AO.cons (by first | rfl | exact SL.one (by assumption))) rfl rfl (by repeat' constructor) (by repeat' constructor) ?_
      refine WL.as rfl rfl (WL.as rfl rfl (WL.nil ?_))
      rw [hb0, hmin, hsum]
      exact W.fit (Hs' := [box b0 _ _]) (by (repeat' first | exact Sel.nil | apply Sel.k | exact Pick.h | apply Pick.t)) (W.retC3 (T := Ty) (j := 0) rfl rfl rfl rfl rfl rfl rfl rfl (fun h q => ⟨rfl, q⟩))
    · refine WL.alF (T := Ty) rfl rfl (by repeat' constructor) (fun b4 => ?_)
      refine WL.nilS (WD.oneL 10 rfl (by decide +kernel) ?_)
      refine WL.callV rfl rfl (fun x p d => rzag_z _ _ (by assumption)) ?_
      refine WL.nilE (WD.takeL 11 rfl (by decide +kernel) ?_)
      refine WL.bdC (T := Ty) rfl rfl rfl rfl (by repeat' first | exact CO.nil | apply CO.one (by first | rfl | exact SL.one (by assumption)) | apply CO.agg) rfl (by repeat' constructor) ?_
      refine WL.nilT ?_
      refine WD.lastG hσ0 (by decide +kernel) (by repeat' constructor) rfl (by repeat' constructor) ?_
      refine WL.stAO (T := Ty) (j := 1) rfl rfl rfl rfl (by repeat' first | exact AO.nil | apply AO.cons (by first | rfl | exact SL.one (by assumption))) rfl rfl (by repeat' constructor) (by repeat' constructor) ?_
      refine WL.nil (W.seq (W.seq (W.region (WL.mv rfl rfl (WL.eql rfl rfl rfl (WL.mv rfl rfl (WL.gF rfl rfl (by omega) (WL.mv rfl rfl (WL.gF rfl rfl (by omega) (WL.eql rfl rfl rfl (WL.pickFp rfl rfl (by omega) rfl (WL.mv rfl rfl (WL.gF rfl rfl (by omega) ?_)))))))))))))
      refine WL.mv rfl rfl (WL.gF rfl rfl (by omega) (WL.eql rfl rfl rfl (WL.pickFp rfl rfl (by omega) rfl (WL.mv rfl rfl (WL.gF rfl rfl (by omega) (WL.mv rfl rfl (WL.gF rfl rfl (by omega) (WL.lss rfl rfl rfl (WL.pickFp rfl rfl (by omega) rfl (WL.mv rfl rfl (WL.gF rfl rfl (by omega) (WL.mv rfl rfl (WL.gF rfl rfl (by omega) ?_)))))))))))))
      refine WL.gtr rfl rfl rfl (WL.pickFp rfl rfl (by omega) rfl (WL.mv rfl rfl (WL.gF rfl rfl (by omega) (WL.faN (T := Ty) (off' := 2) rfl rfl rfl rfl rfl rfl rfl (WL.gF rfl rfl (by omega) (WL.ldN (T := Ty) (j := 1) rfl rfl rfl rfl rfl rfl (WL.gF rfl rfl (by omega) (WL.faN (T := Ty) (off' := 3) rfl rfl rfl rfl rfl rfl rfl (WL.gF rfl rfl (by omega) (WL.ldN (T := Ty) (j := 1) rfl rfl rfl rfl rfl rfl (WL.gF rfl rfl (by omega) (WL.gtr rfl rfl rfl (WL.pickFp rfl rfl (by omega) rfl ?_)))))))))))))
      refine WL.nil (W.condpF rfl (by omega) (W.skip (W.seq (W.region ?_))))
      refine WL.ldAF (T := Ty) (j := 1) rfl rfl rfl rfl rfl rfl (by repeat' constructor) ?_
      refine WL.mv rfl rfl (WL.addK rfl rfl rfl (wrap_i64 ⟨by omega, by omega⟩) (WL.mv rfl rfl (WL.addK rfl rfl rfl (wrap_i64 ⟨by omega, by omega⟩) (WL.mv rfl rfl (WL.addK rfl rfl rfl (wrap_i64 ⟨by omega, by omega⟩) ?_)))))
      refine WL.stAO (T := Ty) (j := 0) rfl rfl rfl rfl (by repeat' first | exact AO.nil | apply AO.cons (by first | rfl | exact SL.one (by assumption))) rfl rfl (by repeat' constructor) (by repeat' constructor) ?_
      refine WL.as rfl rfl (WL.as rfl rfl (WL.nil ?_))
      rw [hb0, hmin, hsum]
      exact W.fit (Hs' := [box b0 _ _]) (by (repeat' first | exact Sel.nil | apply Sel.k | exact Pick.h | apply Pick.t)) (W.retC3 (T := Ty) (j := 0) rfl rfl rfl rfl rfl rfl rfl rfl (fun h q => ⟨rfl, q⟩))
  · refine WL.alF (T := Ty) rfl rfl (by repeat' constructor) (fun b4 => ?_)
    refine WL.nilS (WD.oneL 8 rfl (by decide +kernel) ?_)
    refine WL.callV rfl rfl (fun x p d => rzag_z _ _ (by assumption)) ?_
    refine WL.nilE (WD.oneL 10 rfl (by decide +kernel) ?_)
    refine WL.callV rfl rfl (fun x p d => rzag_z _ _ (by assumption)) ?_
    refine WL.nilE (WD.takeL 11 rfl (by decide +kernel) ?_)
    refine WL.bdC (T := Ty) rfl rfl rfl rfl (by repeat' first | exact CO.nil | apply CO.one (by first | rfl | exact SL.one (by assumption)) | apply CO.agg) rfl (by repeat' constructor) ?_
    refine WL.nilT ?_
    refine WD.lastG hσ0 (by decide +kernel) (by repeat' constructor) rfl (by repeat' constructor) ?_
    refine WL.stAO (T := Ty) (j := 1) rfl rfl rfl rfl (by repeat' first | exact AO.nil | apply AO.cons (by first | rfl | exact SL.one (by assumption))) rfl rfl (by repeat' constructor) (by repeat' constructor) ?_
    refine WL.nil (W.seq (W.seq (W.region (WL.mv rfl rfl (WL.eql rfl rfl rfl (WL.mv rfl rfl (WL.gF rfl rfl (by omega) (WL.mv rfl rfl (WL.gF rfl rfl (by omega) (WL.eql rfl rfl rfl (WL.pickFp rfl rfl (by omega) rfl (WL.mv rfl rfl (WL.gF rfl rfl (by omega) ?_)))))))))))))
    refine WL.mv rfl rfl (WL.gF rfl rfl (by omega) (WL.eql rfl rfl rfl (WL.pickFp rfl rfl (by omega) rfl (WL.mv rfl rfl (WL.gF rfl rfl (by omega) (WL.mv rfl rfl (WL.gF rfl rfl (by omega) (WL.lss rfl rfl rfl (WL.pickFp rfl rfl (by omega) rfl (WL.mv rfl rfl (WL.gF rfl rfl (by omega) (WL.mv rfl rfl (WL.gF rfl rfl (by omega) ?_)))))))))))))
    refine WL.gtr rfl rfl rfl (WL.pickFp rfl rfl (by omega) rfl (WL.mv rfl rfl (WL.gF rfl rfl (by omega) (WL.faN (T := Ty) (off' := 2) rfl rfl rfl rfl rfl rfl rfl (WL.gF rfl rfl (by omega) (WL.ldN (T := Ty) (j := 1) rfl rfl rfl rfl rfl rfl (WL.gF rfl rfl (by omega) (WL.faN (T := Ty) (off' := 3) rfl rfl rfl rfl rfl rfl rfl (WL.gF rfl rfl (by omega) (WL.ldN (T := Ty) (j := 1) rfl rfl rfl rfl rfl rfl (WL.gF rfl rfl (by omega) (WL.gtr rfl rfl rfl (WL.pickFp rfl rfl (by omega) rfl ?_)))))))))))))
    refine WL.nil (W.condpF rfl (by omega) (W.skip (W.seq (W.region ?_))))
    refine WL.ldAF (T := Ty) (j := 1) rfl rfl rfl rfl rfl rfl (by repeat' constructor) ?_
    refine WL.mv rfl rfl (WL.addK rfl rfl rfl (wrap_i64 ⟨by omega, by omega⟩) (WL.mv rfl rfl (WL.addK rfl rfl rfl (wrap_i64 ⟨by omega, by omega⟩) (WL.mv rfl rfl (WL.addK rfl rfl rfl (wrap_i64 ⟨by omega, by omega⟩) ?_)))))
    refine WL.stAO (T := Ty) (j := 0) rfl rfl rfl rfl (by repeat' first | exact AO.nil | apply AO.cons (by first | rfl | exact SL.one (by assumption))) rfl rfl (by repeat' constructor) (by repeat' constructor) ?_
    refine WL.as rfl rfl (WL.as rfl rfl (WL.nil ?_))
    rw [hb0, hmin, hsum]
    exact W.fit (Hs' := [box b0 _ _]) (by (repeat' first | exact Sel.nil | apply Sel.k | exact Pick.h | apply Pick.t)) (W.retC3 (T := Ty) (j := 0) rfl rfl rfl rfl rfl rfl rfl rfl (fun h q => ⟨rfl, q⟩))
theorem ropen_c (ρ : Hp) (v : Value) (l : List Smp) (r0 : ROs ρ 1 v ((chk l).map bcell)) (ho : SmOK l) (hl : l.length ≤ 65535) (hp : 0 < l.length) (hr : risB l = true) (hT : TabG ρ) :
    Fn Tryz.prog 17 #[v] ρ [] (fun r h => ∃ v, (r = .tuple #[v, .int .i64 1, .bool true] ∧ SL v l.length) ∧ sepl [Buf 2 v (l.flatMap smC)] h) := by
  have s0 : SL v (chk l).length := r0.slm
  have hcl := chk_len' l
  have hcn := chk_len ho
  have hcb := chk_lt ho hl
  have nb := n_bnd l
  have hmk : mkOK l = true := by
    unfold mkOK
    rw [hr]
    simp
    intro h
    rw [h] at hp
    simp at hp
  have hmc : mkC l = chk l := by unfold mkC; rw [if_pos hmk]
  have hsub : (((chk l).length : Nat) : Int) - 4 = (((chk l).length - 4 : Nat) : Int) := by omega
  have hmid := chk_mid l
  have hlen : (chk l).length - 4 - (1 + n1 l + n2 l + n3 l) = (sB l).length := by omega
  refine in17 rfl rfl ?_
  refine W.seq (W.region (WL.as rfl rfl (WL.as rfl rfl (WL.as rfl rfl (WL.nil (W.seq (W.region (WL.mv rfl rfl ?_))))))))
  refine WL.callV rfl rfl (fun x p d => rhead_c _ _ _ (by first | assumption | exact ROs.wide (by assumption) | exact ROs.mono (by assumption) (eqh_at 0 rfl p d) | exact ros_at 0 rfl p d | exact ros_at 1 rfl p d | exact ros_at 2 rfl p d | exact ros_at 3 rfl p d | exact ros_at 4 rfl p d) (by assumption) (by first | assumption | omega) (by first | assumption | omega) (by assumption)) ?_
  refine WL.mv rfl rfl (WL.extL rfl rfl rfl (WL.extL rfl rfl rfl (WL.extL rfl rfl rfl ?_)))
  refine WL.alF (T := Ty) rfl rfl (by repeat' constructor) (fun b0 => ?_)
  refine WL.stAO (T := Ty) (j := 0) rfl rfl rfl rfl (by repeat' first | exact AO.nil | apply AO.cons (by first | rfl | exact SL.one (by assumption))) rfl rfl (by repeat' constructor) (by repeat' constructor) ?_
  refine WL.as rfl rfl (WL.as rfl rfl (WL.nil (W.seq (W.seq (W.region (WL.mv rfl rfl (WL.not rfl rfl (WL.mv rfl rfl (WL.gY rfl rfl (WL.mv rfl rfl (WL.gY rfl rfl ?_)))))))))))
  refine WL.len (T := Ty) rfl rfl (by assumption) rfl ?_
  refine WL.gY rfl rfl (WL.mv rfl rfl (WL.gY rfl rfl (WL.addK rfl rfl rfl (wrap_i64 ⟨by omega, by omega⟩) (WL.gY rfl rfl (WL.lss rfl rfl rfl (WL.pickF rfl rfl rfl (WL.nil (W.condpF rfl (by omega) (W.skip (W.seq ?_))))))))))
  refine W.drawA 15 rfl (fun σ0 hσ0 dσ0 => ?_)
  have fσ0_0 := rb_at 0 rfl hσ0 dσ0
  refine WD.takeL 0 rfl (by decide +kernel) (WL.faN (T := Ty) (off' := 0) rfl rfl rfl rfl rfl rfl rfl (WL.nilT (WD.takeL 1 rfl (by decide +kernel) ?_)))
  refine WL.ldBN (T := Ty) rfl rfl rfl rfl (by first | assumption | exact RB.wide (by assumption) | exact In.rb (by assumption)) rfl ?_
  refine WL.nilT (WD.takeL 2 rfl (by decide +kernel) (WL.mv rfl rfl (WL.nilT (WD.takeL 3 rfl (by decide +kernel) (WL.mv rfl rfl (WL.nilT (WD.takeL 4 rfl (by decide +kernel) (WL.mv rfl rfl (WL.nilT (WD.takeL 5 rfl (by decide +kernel) ?_))))))))))
  refine WL.len (T := Ty) rfl rfl (by assumption) rfl ?_
  refine WL.nilT (WD.takeL 6 rfl (by decide +kernel) (WL.subK rfl rfl rfl (wrap_i64 ⟨by omega, by omega⟩) (WL.nilT (WD.takeL 7 rfl (by decide +kernel) ?_))))
  rw [hsub]
  refine WL.slR (T := Ty) (n := (chk l).length) (lo := 1 + n1 l + n2 l + n3 l) (hi := (chk l).length - 4) rfl rfl (.atN rfl) (.atN rfl) rfl rfl rfl (by first | exact r0 | exact r0.wide) (by simp) (by omega) (by omega) (fun xa hxa roxa => ?_)
  rw [Nat.mul_one, Nat.mul_one, bcells, hlen, hmid] at roxa
  rw [hlen] at hxa
  refine WL.nilT (WD.takeL 8 rfl (by decide +kernel) (WL.faN (T := Ty) (off' := 1) rfl rfl rfl rfl rfl rfl rfl (WL.nilT (WD.takeL 9 rfl (by decide +kernel) ?_))))
  refine WL.ldBN (T := Ty) rfl rfl rfl rfl (by first | assumption | exact RB.wide (by assumption) | exact In.rb (by assumption)) rfl ?_
  refine WL.nilT (WD.oneL 10 rfl (by decide +kernel) ?_)
  refine WL.callF rfl rfl (fun x p d => rdec_c _ _ _ (by first | assumption | exact ROs.wide (by assumption) | exact ROs.mono (by assumption) (eqh_at 0 rfl p d) | exact ros_at 0 rfl p d | exact ros_at 1 rfl p d | exact ros_at 2 rfl p d | exact ros_at 3 rfl p d | exact ros_at 4 rfl p d) (by assumption) (by first | assumption | omega) (by assumption) (by first | exact TabG.wide (by assumption) | exact TabG.wide (TabG.wide (by assumption)))) (fun r1 => ?_)
  refine WL.opens (α := Value) (φ := fun v => r1 = .tuple #[v, .bool true] ∧ SL v _) (ps := fun v => [Buf 2 v _]) 0 rfl (fun h q => q) (by repeat' constructor) ?_
  rintro u1 ⟨es1, su1⟩
  subst es1
  dsimp only [List.cons_append, List.nil_append] at su1 ⊢
  refine WL.nilH hσ0 (fun σ1 hσ1 dσ1 mσ1 => ?_)
  have fσ0_0 := fσ0_0.mono mσ1
  have roxa := roxa.mono mσ1
  have fσ1_0 := ros_at 0 rfl hσ1 dσ1
  refine WD.takeL 11 rfl (by decide +kernel) (WL.mv rfl rfl (WL.nilT (WD.takeL 12 rfl (by decide +kernel) (WL.extL rfl rfl rfl (WL.nilT (WD.takeL 13 rfl (by decide +kernel) (WL.extL rfl rfl rfl (WL.nilT (WD.takeL 14 rfl (by decide +kernel) (WL.as rfl rfl (WL.nilT ?_)))))))))))
  refine WD.lastG hσ1 (by decide +kernel) (by repeat' constructor) rfl (by repeat' constructor) ?_
  refine WL.as rfl rfl (WL.nil (W.seq (W.seq (W.region (WL.mv rfl rfl (WL.not rfl rfl (WL.nil (W.condF rfl (W.skip (W.seq (W.region (WL.faN (T := Ty) (off' := 0) rfl rfl rfl rfl rfl rfl rfl (WL.ldN (T := Ty) (j := 1) rfl rfl rfl rfl rfl rfl ?_)))))))))))))
  refine WL.mv rfl rfl ?_
  refine WL.callF rfl rfl (fun x p d => rmk_c _ _ _ (by first | assumption | exact ROs.wide (by assumption) | exact ROs.mono (by assumption) (eqh_at 0 rfl p d) | exact ros_at 0 rfl p d | exact ros_at 1 rfl p d | exact ros_at 2 rfl p d | exact ros_at 3 rfl p d | exact ros_at 4 rfl p d) (by assumption) (by first | assumption | omega) (by assumption) (TabG.wide (by assumption))) (fun r2 => ?_)
  refine WL.opens (α := Value) (φ := fun v => r2 = .tuple #[v, .bool _] ∧ SL v _) (ps := fun v => [Buf 1 v _]) 0 rfl (fun h q => q) (by repeat' constructor) ?_
  rintro u2 ⟨es2, su2⟩
  subst es2
  dsimp only [List.cons_append, List.nil_append] at su2 ⊢
  refine WL.mv rfl rfl (WL.extL rfl rfl rfl (WL.extL rfl rfl rfl (WL.as rfl rfl (WL.as rfl rfl (WL.nil (W.seq (W.seq (W.region (WL.mv rfl rfl (WL.not rfl rfl (WL.mv rfl rfl ?_)))))))))))
  rw [hmc, hmk] at *
  refine WL.gY rfl rfl (WL.mv rfl rfl (WL.gY rfl rfl (WL.b2sN (T := Ty) rfl rfl rfl rfl rfl rfl rfl (.own 0 rfl) (WL.gY rfl rfl (WL.mv rfl rfl (WL.gY rfl rfl ?_))))))
  refine WL.b2sRN (T := Ty) rfl rfl rfl rfl rfl rfl rfl (by assumption) ?_
  refine WL.gY rfl rfl ?_
  refine WL.neST rfl rfl rfl (by first | with_reducible rfl | assumption) ?_
  refine WL.pickF rfl rfl rfl (WL.nil (W.condF rfl (W.skip (W.seq ?_))))
  refine W.drawA 4 rfl (fun σ2 hσ2 dσ2 => ?_)
  have fσ2_0 := ros_at 0 rfl hσ2 dσ2
  have fσ2_1 := ros_at 1 rfl hσ2 dσ2
  have fσ2_2 := rb_at 2 rfl hσ2 dσ2
  refine WD.takeL 0 rfl (by decide +kernel) (WL.mv rfl rfl (WL.nilT (WD.takeL 1 rfl (by decide +kernel) (WL.faN (T := Ty) (off' := 0) rfl rfl rfl rfl rfl rfl rfl (WL.nilT (WD.takeL 2 rfl (by decide +kernel) ?_))))))
  refine WL.ldBN (T := Ty) rfl rfl rfl rfl (by first | assumption | exact RB.wide (by assumption) | exact In.rb (by assumption)) rfl ?_
  refine WL.nilT (WD.takeL 3 rfl (by decide +kernel) (WL.as rfl rfl (WL.nilT ?_)))
  refine WD.lastG hσ2 (by decide +kernel) (by repeat' constructor) rfl (by repeat' constructor) ?_
  refine WL.as rfl rfl (WL.as rfl rfl (WL.nil ?_))
  exact W.fit (Hs' := [Buf 2 _ (l.flatMap smC)]) (by (repeat' first | exact Sel.nil | apply Sel.k | exact Pick.h | apply Pick.t)) (W.ret3 rfl rfl rfl rfl (fun h q => ⟨_, ⟨rfl, by assumption⟩, q⟩))
end Go.Proofs.YtdpnpipninggeaaGreatDoor
