/- Samples that come: a chunk, as the program makes it, and what closing an open list gives. -/
import Derived.Test.YtdpnpipninggeaaGreatDoorStc
import Derived.Test.YtdpnpipninggeaaGreatDoorNum
import Derived.Test.YtdpnpipninggeaaGreatDoorTab
import Derived.Test.YtdpnpipninggeaaGreatDoorApp3
set_option linter.unusedSimpArgs false
set_option linter.unusedVariables false
set_option maxRecDepth 20000
set_option maxHeartbeats 4000000
namespace Go.Proofs.YtdpnpipninggeaaGreatDoor
open Go
attribute [local irreducible] W WL Fn Buf ROs SL eptr box Rd Src bndOK WD RB Reads In Own mkC chk encTs encX pack vputF risB tblL sumR AG tms vls vlI sB frsT lstT
theorem mk_t (ρ : Hp) (v : Value) (l : List Smp) (r0 : ROs ρ 2 v (l.flatMap smC)) (ho : SmOK l) (hl : l.length ≤ 65535) (hr : risB l = true) (hn : l ≠ []) (hT : TabG ρ) :
    Fn Tryz.prog 12 #[.int .i64 1, v] ρ [] (fun r h => ∃ v, (r = .tuple #[v, .bool true] ∧ SL v (chk l).length) ∧ sepl [Buf 1 v ((chk l).map bcell)] h) := by
  have l1 := sms_cells l
  have s0 : SL v l.length := r0.sl l1 (by omega)
  have hp : 0 < l.length := List.length_pos_iff.2 hn
  have c0 := frs_cell hn
  have c1 := lst_cell hn
  have o0 := frs_ok ho
  have o1 := lst_ok ho
  have z0 := zig_lt _ o0
  have z1 := zig_lt _ o1
  have hw : IntKind.u64.wrap ((l.length : Nat) : Int) = ((l.length : Nat) : Int) := wrap_u64 ⟨by omega, by omega⟩
  have hsl := sB_len ho
  have hbl := hB_lt ho hl
  have hb2 := hB_len ho
  have hv1 : ([1] : List Nat).length = 1 := rfl
  have hv2 : ([1] : List Nat).length + 10 ≤ 140737488355328 := by decide
  have p1 := vput9_len l.length
  have p2 := vput9_len (zigF (frsT l))
  have p3 := vput9_len (zigF (lstT l))
  refine in12 rfl rfl ?_
  refine W.seq (W.region (WL.as rfl rfl (WL.as rfl rfl (WL.nil (W.seq (W.region (WL.mv rfl rfl (WL.mv rfl rfl ?_))))))))
  refine WL.callF rfl rfl (fun x p d => senc_t _ _ _ (by first | assumption | exact ROs.wide (by assumption) | exact ROs.mono (by assumption) (eqh_at 0 rfl p d) | exact ros_at 0 rfl p d | exact ros_at 1 rfl p d | exact ros_at 2 rfl p d | exact ros_at 3 rfl p d | exact ros_at 4 rfl p d) (by assumption) (by first | assumption | omega) (by assumption) (TabG.wide (by assumption))) (fun r0 => ?_)
  refine WL.opens (α := Value) (φ := fun v => r0 = .tuple #[v, .bool true] ∧ SL v _) (ps := fun v => [Buf 1 v _]) 0 rfl (fun h q => q) (by repeat' constructor) ?_
  rintro u0 ⟨es0, su0⟩
  subst es0
  dsimp only [List.cons_append, List.nil_append] at su0 ⊢
  refine WL.mv rfl rfl (WL.extL rfl rfl rfl (WL.extL rfl rfl rfl (WL.as rfl rfl (WL.as rfl rfl (WL.nil (W.seq (W.seq (W.region (WL.mv rfl rfl (WL.not rfl rfl (WL.mv rfl rfl (WL.gY rfl rfl (WL.mv rfl rfl ?_)))))))))))))
  refine WL.gY rfl rfl ?_
  refine WL.len (T := Ty) rfl rfl (by assumption) rfl ?_
  refine WL.gY rfl rfl (WL.eql rfl rfl rfl (WL.pickF rfl rfl rfl (WL.nil (W.condpF rfl (by omega) (W.skip (W.seq (W.region (WL.mv rfl rfl (WL.cvK (T := Ty) rfl rfl rfl rfl (wrap_u8 ⟨by omega, by omega⟩) ?_)))))))))
  refine WL.bsC (T := Ty) rfl rfl rfl rfl rfl rfl rfl (by repeat' first | exact CO.nil | apply CO.one (by first | rfl | exact SL.one (by assumption)) | apply CO.agg) rfl (by repeat' constructor) (fun u1 hu1 => ?_)
  refine WL.mv rfl rfl ?_
  refine WL.len (T := Ty) rfl rfl (by assumption) rfl ?_
  refine WL.cvK (T := Ty) rfl rfl rfl rfl (wrap_u64 ⟨by omega, by omega⟩) (WL.reC bcell [1] rfl ?_)
  refine WL.callF rfl rfl (fun x p d => vput_c _ _ _ _ (by first | assumption | exact ROs.wide (by assumption) | exact ROs.mono (by assumption) (eqh_at 0 rfl p d) | exact ros_at 0 rfl p d | exact ros_at 1 rfl p d | exact ros_at 2 rfl p d | exact ros_at 3 rfl p d | exact ros_at 4 rfl p d) (by first | assumption | omega) (by first | assumption | omega | (simp only [List.length_append]; omega))) (fun u2 => ?_)
  refine WL.fact (i := 0) rfl (fun h hb => Buf.slm hb) (fun hsl2 => ?_)
  refine WL.as rfl rfl (WL.nil (W.seq ?_))
  refine W.drawA 16 rfl (fun σ0 hσ0 dσ0 => ?_)
  have fσ0_0 := ros_at 0 rfl hσ0 dσ0
  have fσ0_1 := ros_at 1 rfl hσ0 dσ0
  have fσ0_2 := ros_at 2 rfl hσ0 dσ0
  refine WD.takeL 0 rfl (by decide +kernel) (WL.mv rfl rfl (WL.nilT (WD.takeL 1 rfl (by decide +kernel) (WL.mv rfl rfl (WL.nilT (WD.takeL 2 rfl (by decide +kernel) ?_))))))
  refine WL.ix (T := Ty) rfl rfl rfl (by assumption) rfl rfl (by omega) (by first | omega | decide +kernel) ?_
  refine WL.nilT (WD.takeL 3 rfl (by decide +kernel) (WL.faEN (T := Ty) (off' := 0) rfl rfl rfl rfl rfl rfl rfl (WL.nilT (WD.takeL 4 rfl (by decide +kernel) ?_))))
  refine WL.ldR (T := Ty) rfl rfl rfl rfl (by first | assumption | exact ROs.wide (by assumption)) (by assumption) ?_
  refine WL.nilT (WD.takeL 7 rfl (by decide +kernel) (WL.mv rfl rfl (WL.nilT (WD.takeL 8 rfl (by decide +kernel) (WL.mv rfl rfl (WL.nilT (WD.takeL 9 rfl (by decide +kernel) ?_)))))))
  refine WL.len (T := Ty) rfl rfl (by assumption) rfl ?_
  refine WL.nilT (WD.takeL 10 rfl (by decide +kernel) (WL.subK rfl rfl rfl (wrap_i64 ⟨by omega, by omega⟩) (WL.nilT (WD.takeL 11 rfl (by decide +kernel) ?_))))
  refine WL.ix (T := Ty) rfl rfl rfl (by assumption) rfl rfl (by omega) (by first | omega | decide +kernel) ?_
  refine WL.nilT (WD.takeL 12 rfl (by decide +kernel) (WL.faEN (T := Ty) (off' := 0) rfl rfl rfl rfl rfl rfl rfl (WL.nilT (WD.takeL 13 rfl (by decide +kernel) ?_))))
  refine WL.ldR (T := Ty) rfl rfl rfl rfl (by first | assumption | exact ROs.wide (by assumption)) (by assumption) ?_
  refine WL.nilT (WD.oneL 5 rfl (by decide +kernel) ?_)
  refine WL.callV rfl rfl (fun x p d => zig_v _ _ (by assumption)) ?_
  refine WL.nilE (WD.oneL 6 rfl (by decide +kernel) ?_)
  refine WL.callF rfl rfl (fun x p d => vput_c _ _ _ _ (by first | assumption | exact ROs.wide (by assumption) | exact ROs.mono (by assumption) (eqh_at 0 rfl p d) | exact ros_at 0 rfl p d | exact ros_at 1 rfl p d | exact ros_at 2 rfl p d | exact ros_at 3 rfl p d | exact ros_at 4 rfl p d) (by first | assumption | omega) (by first | assumption | omega | (simp only [List.length_append]; omega))) (fun u3 => ?_)
  refine WL.fact (i := 0) rfl (fun h hb => Buf.slm hb) (fun hsl3 => ?_)
  refine WL.nilH hσ0 (fun σ1 hσ1 dσ1 mσ1 => ?_)
  have fσ0_0 := fσ0_0.mono mσ1
  have fσ0_1 := fσ0_1.mono mσ1
  have fσ0_2 := fσ0_2.mono mσ1
  have fσ1_0 := ros_at 0 rfl hσ1 dσ1
  refine WD.oneL 14 rfl (by decide +kernel) ?_
  refine WL.callV rfl rfl (fun x p d => zig_v _ _ (by assumption)) ?_
  refine WL.nilE (WD.oneL 15 rfl (by decide +kernel) ?_)
  refine WL.callF rfl rfl (fun x p d => vput_c _ _ _ _ (by first | assumption | exact ROs.wide (by assumption) | exact ROs.mono (by assumption) (eqh_at 0 rfl p d) | exact ros_at 0 rfl p d | exact ros_at 1 rfl p d | exact ros_at 2 rfl p d | exact ros_at 3 rfl p d | exact ros_at 4 rfl p d) (by first | assumption | omega) (by first | assumption | omega | (simp only [List.length_append]; omega))) (fun u4 => ?_)
  refine WL.fact (i := 0) rfl (fun h hb => Buf.slm hb) (fun hsl4 => ?_)
  refine WL.nilH hσ1 (fun σ2 hσ2 dσ2 mσ2 => ?_)
  have fσ0_0 := fσ0_0.mono mσ2
  have fσ0_1 := fσ0_1.mono mσ2
  have fσ0_2 := fσ0_2.mono mσ2
  have fσ1_0 := fσ1_0.mono mσ2
  have fσ2_0 := ros_at 0 rfl hσ2 dσ2
  refine WD.lastG hσ2 (by decide +kernel) (by repeat' constructor) rfl (by repeat' constructor) ?_
  refine WL.as rfl rfl (WL.nil (W.seq (W.region (WL.mv rfl rfl (WL.mv rfl rfl ?_)))))
  refine WL.apMM (T := Ty) (i := 0) rfl rfl rfl rfl rfl rfl rfl (by first | exact .ro (by assumption) | exact .ro (ROs.wide (by assumption)) | exact .eqJ 0 rfl (by assumption) | exact .own 0 rfl | exact .own 1 rfl | exact .own 2 rfl | exact .own 3 rfl | exact .own 4 rfl | exact .own 5 rfl) (by first | assumption | exact ROs.slm (by assumption)) (fun _ => rfl) (by first | omega | (simp; omega) | (simp only [List.length_drop, List.length_take]; omega)) (by first | omega | (simp; omega) | (simp only [List.length_drop, List.length_take]; omega)) (fun v' => (by repeat' constructor)) (fun u5 hu5 => ?_)
  refine WL.as rfl rfl (WL.nil (W.seq (W.region ?_)))
  refine WL.callT (v := AG tblL) rfl rfl (fun x p d => table_c _) ?_
  refine WL.mv rfl rfl ?_
  rw [show [1] ++ vputF 9 l.length ++ vputF 9 (zigF (frsT l)) ++ vputF 9 (zigF (lstT l)) ++ sB l = hB l from rfl]
  refine WL.callT (v := .int .u32 ((sumR _ : Nat) : Int)) rfl rfl (fun x p d => sumA_c _ _ _ (by first | assumption | exact ROs.wide (by assumption) | exact ROs.mono (by assumption) (eqh_at 0 rfl p d) | exact ros_at 0 rfl p d | exact ros_at 1 rfl p d | exact ros_at 2 rfl p d | exact ros_at 3 rfl p d | exact ros_at 4 rfl p d) (by assumption) (by first | assumption | omega)) ?_
  refine WL.as rfl rfl (WL.nil (W.seq (W.region (WL.mv rfl rfl (WL.mv rfl rfl (WL.shrS (c := 16777216) rfl rfl rfl (by omega) (by decide) (WL.cv (T := Ty) rfl rfl rfl rfl (WL.mv rfl rfl (WL.shrS (c := 65536) rfl rfl rfl (by omega) (by decide) (WL.cv (T := Ty) rfl rfl rfl rfl (WL.mv rfl rfl (WL.shrS (c := 256) rfl rfl rfl (by omega) (by decide) (WL.cv (T := Ty) rfl rfl rfl rfl ?_)))))))))))))
  refine WL.mv rfl rfl (WL.cv (T := Ty) rfl rfl rfl rfl ?_)
  refine WL.bsC (T := Ty) rfl rfl rfl rfl rfl rfl rfl (by repeat' first | exact CO.nil | apply CO.one (by first | rfl | exact SL.one (by assumption)) | apply CO.agg) rfl (by repeat' constructor) (fun u6 hu6 => ?_)
  rw [be4_cells]
  have su6 : SL u6 (be4 (sumR (hB l))).length := hu6
  have hb4 : (be4 (sumR (hB l))).length = 4 := rfl
  refine WL.apMM (T := Ty) (i := 1) rfl rfl rfl rfl rfl rfl rfl (by first | exact .ro (by assumption) | exact .ro (ROs.wide (by assumption)) | exact .eqJ 0 rfl (by assumption) | exact .own 0 rfl | exact .own 1 rfl | exact .own 2 rfl | exact .own 3 rfl | exact .own 4 rfl | exact .own 5 rfl) (by first | assumption | exact ROs.slm (by assumption)) (fun _ => rfl) (by first | omega | (simp; omega) | (simp only [List.length_drop, List.length_take]; omega)) (by first | omega | (simp; omega) | (simp only [List.length_drop, List.length_take]; omega)) (fun v' => (by repeat' constructor)) (fun u7 hu7 => ?_)
  refine WL.as rfl rfl (WL.as rfl rfl (WL.nil ?_))
  rw [chk_eq] at hu7 ⊢
  exact W.fit (Hs' := [Buf 1 _ ((chk l).map bcell)]) (by (repeat' first | exact Sel.nil | apply Sel.k | exact Pick.h | apply Pick.t)) (W.ret2 rfl rfl rfl (fun h q => ⟨_, ⟨rfl, by assumption⟩, q⟩))
theorem mk_f (ρ : Hp) (v : Value) (l : List Smp) (r0 : ROs ρ 2 v (l.flatMap smC)) (ho : SmOK l) (hl : l.length ≤ 65535) (hr : mkOK l = false) (hT : TabG ρ) :
    Fn Tryz.prog 12 #[.int .i64 1, v] ρ [] (fun r h => ∃ v, (r = .tuple #[v, .bool false] ∧ SL v ([] : List Nat).length) ∧ sepl [Buf 1 v (([] : List Nat).map bcell)] h) := by
  have l1 := sms_cells l
  have s0 : SL v l.length := r0.sl l1 (by omega)
  refine in12 rfl rfl ?_
  cases hz : risB l with
  | false =>
    refine W.seq (W.region (WL.as rfl rfl (WL.as rfl rfl (WL.nil (W.seq (W.region (WL.mv rfl rfl (WL.mv rfl rfl ?_))))))))
    refine WL.callV rfl rfl (fun x p d => senc_f _ _ _ (by first | assumption | exact ROs.wide (by assumption) | exact ROs.mono (by assumption) (eqh_at 0 rfl p d) | exact ros_at 0 rfl p d | exact ros_at 1 rfl p d | exact ros_at 2 rfl p d | exact ros_at 3 rfl p d | exact ros_at 4 rfl p d) (by first | assumption | omega) (by assumption)) ?_
    refine WL.mv rfl rfl (WL.extL rfl rfl rfl (WL.extL rfl rfl rfl (WL.as rfl rfl (WL.as rfl rfl (WL.nil (W.seq (W.seq (W.region (WL.mv rfl rfl (WL.not rfl rfl (WL.mv rfl rfl (WL.gdN rfl rfl rfl rfl rfl rfl (WL.gdN rfl rfl rfl rfl rfl rfl ?_)))))))))))))
    refine WL.gdN rfl rfl rfl rfl rfl rfl (WL.pickT rfl rfl rfl (WL.nil (W.condT rfl (W.seq (W.region (WL.as rfl rfl (WL.as rfl rfl (WL.nil (W.nb (sz := 1) ?_)))))))))
    exact W.fit (Hs' := [Buf 1 nilV []]) (by (repeat' first | exact Sel.nil | apply Sel.k | exact Pick.h | apply Pick.t)) (W.ret2 rfl rfl rfl (fun h q => ⟨nilV, ⟨rfl, slZ⟩, q⟩))
  | true =>
    have hp : l.length = 0 := by
      unfold mkOK at hr
      rw [hz] at hr
      simp at hr
      rw [hr]; rfl
    refine W.seq (W.region (WL.as rfl rfl (WL.as rfl rfl (WL.nil (W.seq (W.region (WL.mv rfl rfl (WL.mv rfl rfl ?_))))))))
    refine WL.callF rfl rfl (fun x p d => senc_t _ _ _ (by first | assumption | exact ROs.wide (by assumption) | exact ROs.mono (by assumption) (eqh_at 0 rfl p d) | exact ros_at 0 rfl p d | exact ros_at 1 rfl p d | exact ros_at 2 rfl p d | exact ros_at 3 rfl p d | exact ros_at 4 rfl p d) (by assumption) (by first | assumption | omega) (by assumption) (TabG.wide (by assumption))) (fun r0 => ?_)
    refine WL.opens (α := Value) (φ := fun v => r0 = .tuple #[v, .bool true] ∧ SL v _) (ps := fun v => [Buf 1 v _]) 0 rfl (fun h q => q) (by repeat' constructor) ?_
    rintro u0 ⟨es0, su0⟩
    subst es0
    dsimp only [List.cons_append, List.nil_append] at su0 ⊢
    refine WL.mv rfl rfl (WL.extL rfl rfl rfl (WL.extL rfl rfl rfl (WL.as rfl rfl (WL.as rfl rfl (WL.nil (W.seq (W.seq (W.region (WL.mv rfl rfl (WL.not rfl rfl (WL.mv rfl rfl (WL.gY rfl rfl (WL.mv rfl rfl ?_)))))))))))))
    refine WL.gY rfl rfl ?_
    refine WL.len (T := Ty) rfl rfl (by assumption) rfl ?_
    refine WL.gY rfl rfl (WL.eql rfl rfl rfl (WL.pickF rfl rfl rfl (WL.nil (W.condpT rfl (by omega) (W.seq (W.region (WL.as rfl rfl (WL.as rfl rfl (WL.nil (W.nb (sz := 1) ?_))))))))))
    exact W.fit (Hs' := [Buf 1 nilV []]) (by (repeat' first | exact Sel.nil | apply Sel.k | exact Pick.h | apply Pick.t)) (W.ret2 rfl rfl rfl (fun h q => ⟨nilV, ⟨rfl, slZ⟩, q⟩))
/-- a chunk, if there is one -/
theorem mk_c (ρ : Hp) (v : Value) (l : List Smp) (r0 : ROs ρ 2 v (l.flatMap smC)) (ho : SmOK l) (hl : l.length ≤ 65535) (hT : TabG ρ) :
    Fn Tryz.prog 12 #[.int .i64 1, v] ρ [] (fun r h => ∃ v, (r = .tuple #[v, .bool (mkOK l)] ∧ SL v (mkC l).length) ∧ sepl [Buf 1 v ((mkC l).map bcell)] h) := by
  cases hm : mkOK l with
  | true =>
    have e : mkC l = chk l := by unfold mkC; rw [if_pos hm]
    have hh : risB l = true ∧ l ≠ [] := by unfold mkOK at hm; simpa using hm
    rw [e]
    exact mk_t ρ v l r0 ho hl hh.1 hh.2 hT
  | false =>
    have e : mkC l = [] := by unfold mkC; rw [hm]; rfl
    rw [e]
    exact mk_f ρ v l r0 ho hl hm hT
theorem close13_c (ρ : Hp) (a : Bool) (t : Int) (v : Value) (l : List Smp) (r0 : ROs ρ 2 v (l.flatMap smC)) (ho : SmOK l) (hl : l.length ≤ 65535) (hT : TabG ρ) :
    Fn Tryz.prog 4 #[.agg #[.bool a, .int .i64 t, v]] ρ [] (fun r h => ∃ v, (r = .tuple #[v, .agg #[.bool a, .int .i64 t, nilV]] ∧ SL v (mkC l).length) ∧ sepl [Buf 1 v ((mkC l).map bcell)] h) := by
  have l1 := sms_cells l
  have s0 : SL v l.length := r0.sl l1 (by omega)
  refine in4 rfl rfl ?_
  refine W.seq (W.region ?_)
  refine WL.bxF rfl rfl (by repeat' constructor) (fun b0 => ?_)
  refine WL.as rfl rfl ?_
  refine WL.alF (T := Ty) rfl rfl (by repeat' constructor) (fun b1 => ?_)
  refine WL.nil (W.seq (W.region (WL.faN (T := Ty) (off' := 2) rfl rfl rfl rfl rfl rfl rfl (WL.ldN (T := Ty) (j := 1) rfl rfl rfl rfl rfl rfl ?_))))
  refine WL.callF rfl rfl (fun x p d => mk_c _ _ _ (by first | assumption | exact ROs.wide (by assumption) | exact ROs.mono (by assumption) (eqh_at 0 rfl p d) | exact ros_at 0 rfl p d | exact ros_at 1 rfl p d | exact ros_at 2 rfl p d | exact ros_at 3 rfl p d | exact ros_at 4 rfl p d) (by assumption) (by first | assumption | omega) (TabG.wide (by assumption))) (fun r2 => ?_)
  refine WL.opens (α := Value) (φ := fun v => r2 = .tuple #[v, .bool _] ∧ SL v _) (ps := fun v => [Buf 1 v _]) 0 rfl (fun h q => q) (by repeat' constructor) ?_
  rintro u2 ⟨es2, su2⟩
  subst es2
  dsimp only [List.cons_append, List.nil_append] at su2 ⊢
  refine WL.mv rfl rfl (WL.extL rfl rfl rfl (WL.extL rfl rfl rfl (WL.as rfl rfl (WL.as rfl rfl (WL.nil (W.seq (W.region (WL.faN (T := Ty) (off' := 2) rfl rfl rfl rfl rfl rfl rfl ?_))))))))
  refine WL.stF (T := Ty) (j := 2) rfl rfl rfl rfl rfl rfl rfl (by repeat' constructor) (by repeat' constructor) ?_
  refine WL.nil (W.seq ?_)
  refine W.drawA 3 rfl (fun σ0 hσ0 dσ0 => ?_)
  have fσ0_0 := ros_at 0 rfl hσ0 dσ0
  have fσ0_1 := rb_at 1 rfl hσ0 dσ0
  have fσ0_2 := rb_at 2 rfl hσ0 dσ0
  refine WD.takeL 0 rfl (by decide +kernel) (WL.mv rfl rfl (WL.nilT (WD.takeL 1 rfl (by decide +kernel) ?_)))
  refine WL.ldABF (T := Ty) rfl rfl rfl rfl (by first | assumption | exact RB.wide (by assumption) | exact In.rb (by assumption)) rfl (by repeat' constructor) ?_
  refine WL.nilT (WD.takeL 2 rfl (by decide +kernel) (WL.as rfl rfl (WL.nilT ?_)))
  refine WD.lastG hσ0 (by decide +kernel) (by repeat' constructor) rfl (by repeat' constructor) ?_
  refine WL.stAO (T := Ty) (j := 1) rfl rfl rfl rfl (by repeat' first | exact AO.nil | apply AO.cons (by first | rfl | exact SL.one (by assumption))) rfl rfl (by repeat' constructor) (by repeat' constructor) ?_
  refine WL.nil ?_
  exact W.fit (Hs' := [box b1 _ _, Buf 1 _ _]) (by (repeat' first | exact Sel.nil | apply Sel.k | exact Pick.h | apply Pick.t)) (W.retTC (T := Ty) (j := 0) rfl rfl rfl rfl rfl rfl rfl (fun h q => ⟨_, ⟨rfl, by assumption⟩, q⟩))
end Go.Proofs.YtdpnpipninggeaaGreatDoor
