/- Samples that come: a row's bytes, as the program makes them. -/
import Derived.Test.YtdpnpipninggeaaGreatDoorStc
import Derived.Test.YtdpnpipninggeaaGreatDoorNum
import Derived.Test.YtdpnpipninggeaaGreatDoorTab
import Derived.Test.YtdpnpipninggeaaGreatDoorApp2
set_option linter.unusedSimpArgs false
set_option linter.unusedVariables false
set_option maxRecDepth 20000
set_option maxHeartbeats 4000000
namespace Go.Proofs.YtdpnpipninggeaaGreatDoor
open Go
theorem vput_z (ρ : Hp) (u : Nat) (hu : u < 18446744073709551616) : Fn Tryz.prog 19 #[nilV, .int .u64 (u : Int)] ρ [] (fun r => Buf 1 r ((vputF 9 u).map bcell)) := vput_c ρ nilV [] u (.inl ⟨rfl, rfl⟩) hu (by decide)
attribute [local irreducible] W WL Fn Buf ROs SL eptr box Rd Src bndOK WD RB Reads In Own mkC chk encTs encX pack vputF risB tblL sumR AG tms vls vlI
theorem senc_f (ρ : Hp) (v : Value) (l : List Smp) (r0 : ROs ρ 2 v (l.flatMap smC)) (hl : l.length ≤ 65535) (hr : risB l = false) :
    Fn Tryz.prog 18 #[.int .i64 1, v] ρ [] (Just (.tuple #[nilV, .bool false])) := by
  have l1 := sms_cells l
  have s0 : SL v l.length := r0.sl l1 (by omega)
  refine in18 rfl rfl ?_
  refine W.seq (W.region (WL.as rfl rfl (WL.as rfl rfl (WL.nil (W.seq (W.seq (W.region (WL.mv rfl rfl ?_))))))))
  refine WL.callV rfl rfl (fun x p d => srise_e _ _ _ _ (by first | assumption | exact ROs.wide (by assumption) | exact ROs.mono (by assumption) (eqh_at 0 rfl p d) | exact ros_at 0 rfl p d | exact ros_at 1 rfl p d | exact ros_at 2 rfl p d | exact ros_at 3 rfl p d | exact ros_at 4 rfl p d) (by first | assumption | omega) (by assumption)) ?_
  refine WL.not rfl rfl (WL.nil (W.condT rfl (W.seq (W.region (WL.as rfl rfl (WL.as rfl rfl (WL.nil ?_)))))))
  exact W.fit (Hs' := []) (by (repeat' first | exact Sel.nil | apply Sel.k | exact Pick.h | apply Pick.t)) (W.ret2 rfl rfl rfl (fun h q => ⟨rfl, q⟩))
theorem senc_t (ρ : Hp) (v : Value) (l : List Smp) (r0 : ROs ρ 2 v (l.flatMap smC)) (ho : SmOK l) (hl : l.length ≤ 65535) (hr : risB l = true) (hT : TabG ρ) :
    Fn Tryz.prog 18 #[.int .i64 1, v] ρ [] (fun r h => ∃ v, (r = .tuple #[v, .bool true] ∧ SL v (sB l).length) ∧ sepl [Buf 1 v ((sB l).map bcell)] h) := by
  have l1 := sms_cells l
  have s0 : SL v l.length := r0.sl l1 (by omega)
  have htl := tms_len l
  have hvl := vls_len l
  have hvv := ho.v
  have hel := encTs_len (tms l)
  have hxl := encX_len (vls l) hvv
  have htb := tB_len l
  have hp9 := vput9_len (tB l).length
  have hxb := xB_len ho
  have hw : IntKind.u64.wrap (((pack ([] ++ encTs (tms l))).length : Nat) : Int) = (((tB l).length : Nat) : Int) := by
    rw [List.nil_append]
    exact wrap_u64 ⟨by omega, by show (((tB l).length : Nat) : Int) < _; omega⟩
  refine in18 rfl rfl ?_
  refine W.seq (W.region (WL.as rfl rfl (WL.as rfl rfl (WL.nil (W.seq (W.seq (W.region (WL.mv rfl rfl ?_))))))))
  refine WL.callV rfl rfl (fun x p d => srise_e _ _ _ _ (by first | assumption | exact ROs.wide (by assumption) | exact ROs.mono (by assumption) (eqh_at 0 rfl p d) | exact ros_at 0 rfl p d | exact ros_at 1 rfl p d | exact ros_at 2 rfl p d | exact ros_at 3 rfl p d | exact ros_at 4 rfl p d) (by first | assumption | omega) (by assumption)) ?_
  refine WL.not rfl rfl (WL.nil (W.condF rfl (W.skip (W.seq (W.region (WL.as rfl rfl (WL.nil (W.seq (W.region (WL.as rfl rfl (WL.nil (W.seq (W.seq ?_)))))))))))))
  refine W.region (WL.mv rfl rfl ?_)
  refine WL.len (T := Ty) rfl rfl (by assumption) rfl ?_
  refine WL.mv rfl rfl (WL.nil (W.block (W.nb (sz := 1) (W.nb (sz := 1) ?_))))
  refine W.loopR (σ := Nat × Value × Value) (fun s => [(0, .int .i64 1), (4, nilV), (5, .bool false), (17, v), (18, .int .i64 (l.length : Int)), (6, s.2.1), (7, s.2.2), (19, .int .i64 (s.1 : Int))])
    (fun s => [Buf 1 s.2.1 ((tms (l.take s.1)).map (Value.int .i64)), Buf 1 s.2.2 ((vlI (l.take s.1)).map (Value.int .u64))]) (fun s ρ' => s.1 ≤ l.length ∧ SL s.2.1 (tms (l.take s.1)).length ∧ SL s.2.2 (vlI (l.take s.1)).length) (fun s => l.length - s.1)
    (0, nilV, nilV) ⟨rfl, rfl, rfl, rfl, rfl, rfl, rfl, rfl, trivial⟩ (by unfold tms vlI; rfl) ⟨Nat.zero_le _, by unfold tms; exact slZ, by unfold vlI; exact slZ⟩ ?_
  rintro ⟨i, tv, vv⟩ ρ1 le1 ⟨hi, st, sv⟩ next
  dsimp only at hi st sv next ⊢
  replace r0 := r0.mono le1
  replace hT := hT.mono le1
  have lt1 : (tms (l.take i)).length = i := by rw [tms_len, List.length_take]; omega
  have lv1 : (vlI (l.take i)).length = i := by rw [vlI_len, List.length_take]; omega
  by_cases hc : i < l.length
  · obtain ⟨q, hq⟩ : ∃ q, l[i]? = some q := ⟨_, List.getElem?_eq_getElem hc⟩
    have hr : ((l.flatMap smC).drop (((i : Nat) : Int).toNat * 2)).take 2 = smC q := flat_row sm_len hq
    have hsa := ho _ (List.mem_of_getElem? hq)
    have e1 := tms_row hq
    have e2 := vlI_row hq
    refine W.seq (W.region (WL.lss rfl rfl rfl (WL.nil (W.seq (W.condpT rfl (by omega) (W.skip (W.seq (W.block (W.seq (W.region ?_))))))))))
    refine WL.ix (T := Ty) rfl rfl rfl (by assumption) rfl rfl (by omega) (by first | omega | decide +kernel) ?_
    refine WL.ldAR (T := Ty) rfl rfl rfl rfl (by first | assumption | exact ROs.wide (by assumption)) (by assumption) rfl ?_
    refine WL.alF (T := Ty) rfl rfl (by repeat' constructor) (fun b0 => ?_)
    refine WL.stAO (T := Ty) (j := 0) rfl rfl rfl rfl (by repeat' first | exact AO.nil | apply AO.cons (by first | rfl | exact SL.one (by assumption))) rfl rfl (by repeat' constructor) (by repeat' constructor) ?_
    refine WL.nil ?_
    refine W.drawP 11 [false, true, true] rfl (by repeat' constructor) (by repeat' constructor) (fun σ0 hσ0 dσ0 => ?_)
    have fσ0_0 := rb_at 0 rfl hσ0 dσ0
    refine WD.takeL 0 rfl (by decide +kernel) (WL.mv rfl rfl (WL.nilT (WD.takeL 1 rfl (by decide +kernel) (WL.faN (T := Ty) (off' := 0) rfl rfl rfl rfl rfl rfl rfl (WL.nilT (WD.takeL 2 rfl (by decide +kernel) ?_))))))
    refine WL.ldBN (T := Ty) rfl rfl rfl rfl (by first | assumption | exact RB.wide (by assumption) | exact In.rb (by assumption)) rfl ?_
    refine WL.nilT (WD.takeL 5 rfl (by decide +kernel) (WL.mv rfl rfl (WL.nilT (WD.takeL 6 rfl (by decide +kernel) (WL.faN (T := Ty) (off' := 1) rfl rfl rfl rfl rfl rfl rfl (WL.nilT (WD.takeL 7 rfl (by decide +kernel) ?_)))))))
    refine WL.ldBN (T := Ty) rfl rfl rfl rfl (by first | assumption | exact RB.wide (by assumption) | exact In.rb (by assumption)) rfl ?_
    refine WL.nilT ?_
    refine WD.twoL 3 8 rfl rfl (by decide +kernel) ?_ ?_
    · refine WL.bsC (T := Ty) rfl rfl rfl rfl rfl rfl rfl (by repeat' first | exact CO.nil | apply CO.one (by first | rfl | exact SL.one (by assumption)) | apply CO.agg) rfl (by repeat' constructor) (fun u1 hu1 => ?_)
      refine WL.nilH hσ0 (fun σ1 hσ1 dσ1 mσ1 => ?_)
      have fσ0_0 := fσ0_0.mono mσ1
      have fσ1_0 := ros_at 0 rfl hσ1 dσ1
      refine WD.twoL 4 8 rfl rfl (by decide +kernel) ?_ ?_
      · refine WL.apQ (T := Ty) (i := 1) rfl rfl rfl rfl rfl rfl rfl (by first | exact .ro (by assumption) | exact .ro (ROs.wide (by assumption)) | exact .eqJ 0 rfl (by assumption) | exact .own 0 rfl | exact .own 1 rfl | exact .own 2 rfl | exact .own 3 rfl | exact .own 4 rfl | exact .own 5 rfl) (by first | assumption | exact ROs.slm (by assumption)) (fun _ => rfl) (by first | omega | (simp; omega) | (simp only [List.length_drop, List.length_take]; omega)) (by first | omega | (simp; omega) | (simp only [List.length_drop, List.length_take]; omega)) (fun v' => (by repeat' constructor)) (fun u2 hu2 => ?_)
        refine WL.nilE (WD.oneL 8 rfl (by decide +kernel) ?_)
        refine WL.bsC (T := Ty) rfl rfl rfl rfl rfl rfl rfl (by repeat' first | exact CO.nil | apply CO.one (by first | rfl | exact SL.one (by assumption)) | apply CO.agg) rfl (by repeat' constructor) (fun u3 hu3 => ?_)
        refine WL.nilH hσ1 (fun σ2 hσ2 dσ2 mσ2 => ?_)
        have fσ0_0 := fσ0_0.mono mσ2
        have fσ1_0 := fσ1_0.mono mσ2
        have fσ2_0 := ros_at 0 rfl hσ2 dσ2
        refine WD.oneL 9 rfl (by decide +kernel) ?_
        refine WL.apQ (T := Ty) (i := 2) rfl rfl rfl rfl rfl rfl rfl (by first | exact .ro (by assumption) | exact .ro (ROs.wide (by assumption)) | exact .eqJ 0 rfl (by assumption) | exact .own 0 rfl | exact .own 1 rfl | exact .own 2 rfl | exact .own 3 rfl | exact .own 4 rfl | exact .own 5 rfl) (by first | assumption | exact ROs.slm (by assumption)) (fun _ => rfl) (by first | omega | (simp; omega) | (simp only [List.length_drop, List.length_take]; omega)) (by first | omega | (simp; omega) | (simp only [List.length_drop, List.length_take]; omega)) (fun v' => (by repeat' constructor)) (fun u4 hu4 => ?_)
        refine WL.nilE (WD.takeL 10 rfl (by decide +kernel) (WL.as rfl rfl (WL.nilT ?_)))
        refine WD.lastG hσ2 (by decide +kernel) (by repeat' constructor) rfl (by repeat' constructor) ?_
        refine WL.as rfl rfl (WL.nil (W.inBlock (W.region (WL.addK rfl rfl rfl (wrap_i64 ⟨by omega, by omega⟩) (WL.mv rfl rfl (WL.nil ?_))))))
        rw [e1, e2]
        refine W.fit (by (repeat' first | exact Sel.nil | apply Sel.k | exact Pick.h | apply Pick.t)) (W.sub ?_ (next ⟨i + 1, _, _⟩ ρ1 (Le.refl _) ⟨by dsimp only; omega, by dsimp only; rw [← e1]; assumption, by dsimp only; rw [← e2]; assumption⟩ (by dsimp only; omega)))
        exact ⟨rfl, rfl, rfl, rfl, rfl, rfl, rfl, rfl, trivial⟩
      · refine WL.bsC (T := Ty) rfl rfl rfl rfl rfl rfl rfl (by repeat' first | exact CO.nil | apply CO.one (by first | rfl | exact SL.one (by assumption)) | apply CO.agg) rfl (by repeat' constructor) (fun u2 hu2 => ?_)
        refine WL.nilH hσ1 (fun σ2 hσ2 dσ2 mσ2 => ?_)
        have fσ0_0 := fσ0_0.mono mσ2
        have fσ1_0 := fσ1_0.mono mσ2
        have fσ2_0 := ros_at 0 rfl hσ2 dσ2
        refine WD.oneL 4 rfl (by decide +kernel) ?_
        refine WL.apQ (T := Ty) (i := 1) rfl rfl rfl rfl rfl rfl rfl (by first | exact .ro (by assumption) | exact .ro (ROs.wide (by assumption)) | exact .eqJ 0 rfl (by assumption) | exact .own 0 rfl | exact .own 1 rfl | exact .own 2 rfl | exact .own 3 rfl | exact .own 4 rfl | exact .own 5 rfl) (by first | assumption | exact ROs.slm (by assumption)) (fun _ => rfl) (by first | omega | (simp; omega) | (simp only [List.length_drop, List.length_take]; omega)) (by first | omega | (simp; omega) | (simp only [List.length_drop, List.length_take]; omega)) (fun v' => (by repeat' constructor)) (fun u3 hu3 => ?_)
        refine WL.nilE (WD.oneL 9 rfl (by decide +kernel) ?_)
        refine WL.apQ (T := Ty) (i := 2) rfl rfl rfl rfl rfl rfl rfl (by first | exact .ro (by assumption) | exact .ro (ROs.wide (by assumption)) | exact .eqJ 0 rfl (by assumption) | exact .own 0 rfl | exact .own 1 rfl | exact .own 2 rfl | exact .own 3 rfl | exact .own 4 rfl | exact .own 5 rfl) (by first | assumption | exact ROs.slm (by assumption)) (fun _ => rfl) (by first | omega | (simp; omega) | (simp only [List.length_drop, List.length_take]; omega)) (by first | omega | (simp; omega) | (simp only [List.length_drop, List.length_take]; omega)) (fun v' => (by repeat' constructor)) (fun u4 hu4 => ?_)
        refine WL.nilE (WD.takeL 10 rfl (by decide +kernel) (WL.as rfl rfl (WL.nilT ?_)))
        refine WD.lastG hσ2 (by decide +kernel) (by repeat' constructor) rfl (by repeat' constructor) ?_
        refine WL.as rfl rfl (WL.nil (W.inBlock (W.region (WL.addK rfl rfl rfl (wrap_i64 ⟨by omega, by omega⟩) (WL.mv rfl rfl (WL.nil ?_))))))
        rw [e1, e2]
        refine W.fit (by (repeat' first | exact Sel.nil | apply Sel.k | exact Pick.h | apply Pick.t)) (W.sub ?_ (next ⟨i + 1, _, _⟩ ρ1 (Le.refl _) ⟨by dsimp only; omega, by dsimp only; rw [← e1]; assumption, by dsimp only; rw [← e2]; assumption⟩ (by dsimp only; omega)))
        exact ⟨rfl, rfl, rfl, rfl, rfl, rfl, rfl, rfl, trivial⟩
    · refine WL.bsC (T := Ty) rfl rfl rfl rfl rfl rfl rfl (by repeat' first | exact CO.nil | apply CO.one (by first | rfl | exact SL.one (by assumption)) | apply CO.agg) rfl (by repeat' constructor) (fun u1 hu1 => ?_)
      refine WL.nilH hσ0 (fun σ1 hσ1 dσ1 mσ1 => ?_)
      have fσ0_0 := fσ0_0.mono mσ1
      have fσ1_0 := ros_at 0 rfl hσ1 dσ1
      refine WD.oneL 3 rfl (by decide +kernel) ?_
      refine WL.bsC (T := Ty) rfl rfl rfl rfl rfl rfl rfl (by repeat' first | exact CO.nil | apply CO.one (by first | rfl | exact SL.one (by assumption)) | apply CO.agg) rfl (by repeat' constructor) (fun u2 hu2 => ?_)
      refine WL.nilH hσ1 (fun σ2 hσ2 dσ2 mσ2 => ?_)
      have fσ0_0 := fσ0_0.mono mσ2
      have fσ1_0 := fσ1_0.mono mσ2
      have fσ2_0 := ros_at 0 rfl hσ2 dσ2
      refine WD.oneL 4 rfl (by decide +kernel) ?_
      refine WL.apQ (T := Ty) (i := 1) rfl rfl rfl rfl rfl rfl rfl (by first | exact .ro (by assumption) | exact .ro (ROs.wide (by assumption)) | exact .eqJ 0 rfl (by assumption) | exact .own 0 rfl | exact .own 1 rfl | exact .own 2 rfl | exact .own 3 rfl | exact .own 4 rfl | exact .own 5 rfl) (by first | assumption | exact ROs.slm (by assumption)) (fun _ => rfl) (by first | omega | (simp; omega) | (simp only [List.length_drop, List.length_take]; omega)) (by first | omega | (simp; omega) | (simp only [List.length_drop, List.length_take]; omega)) (fun v' => (by repeat' constructor)) (fun u3 hu3 => ?_)
      refine WL.nilE (WD.oneL 9 rfl (by decide +kernel) ?_)
      refine WL.apQ (T := Ty) (i := 2) rfl rfl rfl rfl rfl rfl rfl (by first | exact .ro (by assumption) | exact .ro (ROs.wide (by assumption)) | exact .eqJ 0 rfl (by assumption) | exact .own 0 rfl | exact .own 1 rfl | exact .own 2 rfl | exact .own 3 rfl | exact .own 4 rfl | exact .own 5 rfl) (by first | assumption | exact ROs.slm (by assumption)) (fun _ => rfl) (by first | omega | (simp; omega) | (simp only [List.length_drop, List.length_take]; omega)) (by first | omega | (simp; omega) | (simp only [List.length_drop, List.length_take]; omega)) (fun v' => (by repeat' constructor)) (fun u4 hu4 => ?_)
      refine WL.nilE (WD.takeL 10 rfl (by decide +kernel) (WL.as rfl rfl (WL.nilT ?_)))
      refine WD.lastG hσ2 (by decide +kernel) (by repeat' constructor) rfl (by repeat' constructor) ?_
      refine WL.as rfl rfl (WL.nil (W.inBlock (W.region (WL.addK rfl rfl rfl (wrap_i64 ⟨by omega, by omega⟩) (WL.mv rfl rfl (WL.nil ?_))))))
      rw [e1, e2]
      refine W.fit (by (repeat' first | exact Sel.nil | apply Sel.k | exact Pick.h | apply Pick.t)) (W.sub ?_ (next ⟨i + 1, _, _⟩ ρ1 (Le.refl _) ⟨by dsimp only; omega, by dsimp only; rw [← e1]; assumption, by dsimp only; rw [← e2]; assumption⟩ (by dsimp only; omega)))
      exact ⟨rfl, rfl, rfl, rfl, rfl, rfl, rfl, rfl, trivial⟩
  · have hci : i = l.length := by omega
    subst hci
    rw [List.take_length] at lt1 lv1 st sv ⊢
    rw [vlI_cells ho]
    refine W.seq (W.region (WL.lss rfl rfl rfl (WL.nil (W.seq (W.condpF rfl (by omega) (W.exit rfl (W.seq (W.region (WL.mv rfl rfl (WL.mv rfl rfl ?_))))))))))
    refine WL.callF rfl rfl (fun x p d => svals_c _ _ _ (by first | assumption | exact ROs.wide (by assumption) | exact ROs.mono (by assumption) (eqh_at 0 rfl p d) | exact ros_at 0 rfl p d | exact ros_at 1 rfl p d | exact ros_at 2 rfl p d | exact ros_at 3 rfl p d | exact ros_at 4 rfl p d) (by assumption) (by first | assumption | omega | (simp only [List.length_map]; omega)) (TabG.wide (by assumption))) (fun r0 => ?_)
    refine WL.opens (α := Value) (φ := fun v => r0 = .tuple #[v, .bool true] ∧ SL v _) (ps := fun v => [Buf 1 v _]) 0 rfl (fun h q => q) (by repeat' constructor) ?_
    rintro u0 ⟨es0, su0⟩
    subst es0
    dsimp only [List.cons_append, List.nil_append] at su0 ⊢
    refine WL.mv rfl rfl (WL.extL rfl rfl rfl (WL.extL rfl rfl rfl (WL.as rfl rfl (WL.as rfl rfl (WL.nil (W.seq (W.seq (W.region (WL.mv rfl rfl (WL.not rfl rfl (WL.nil (W.condF rfl (W.skip ?_)))))))))))))
    refine W.seq (W.region ?_)
    refine WL.callF rfl rfl (fun x p d => newWriter_c _) (fun r => ?_)
    refine WL.ex (fun b1 => ?_)
    refine WL.pure (fun er => ?_)
    subst er
    refine WL.as rfl rfl (WL.nil (W.seq (W.region (WL.mv rfl rfl (WL.mv rfl rfl ?_)))))
    refine WL.callM 0 rfl rfl rfl (fun x p d => tenc_c _ _ _ _ _ (by first | assumption | exact ROs.wide (by assumption) | exact ROs.mono (by assumption) (eqh_at 0 rfl p d) | exact ros_at 0 rfl p d | exact ros_at 1 rfl p d | exact ros_at 2 rfl p d | exact ros_at 3 rfl p d | exact ros_at 4 rfl p d) (by first | assumption | exact bok_nil) (by first | assumption | omega | exact Nat.zero_le _ | decide) (by first | assumption | omega | decide)) (by repeat' constructor) ?_
    refine WL.nil (W.seq (W.region (WL.mv rfl rfl ?_)))
    refine WL.callF rfl rfl (fun x p d => bytes_c _ _ _ (by first | assumption | exact In.wide (by assumption) | exact In.mono (by assumption) (eqh_at 0 rfl p d) | exact in_at 0 rfl p d | exact in_at 1 rfl p d | exact in_at 2 rfl p d | exact in_at 3 rfl p d | exact in_at 4 rfl p d) (by first | assumption | omega | (simp only [List.length_append, bitsOf_len, List.length_nil, heldF]; omega))) (fun u2 => ?_)
    refine WL.fact (i := 0) rfl (fun h hb => Buf.slm hb) (fun hsl2 => ?_)
    refine WL.as rfl rfl (WL.nil (W.seq (W.region (WL.mv rfl rfl ?_))))
    refine WL.len (T := Ty) rfl rfl (by assumption) rfl ?_
    refine WL.cv (T := Ty) rfl rfl rfl rfl ?_
    rw [hw, List.nil_append, show pack (encTs (tms l)) = tB l from rfl, show pack (encX (vls l)) = xB l from rfl]
    refine WL.callF rfl rfl (fun x p d => vput_z _ _ (by first | assumption | omega)) (fun u3 => ?_)
    refine WL.fact (i := 0) rfl (fun h hb => Buf.slm hb) (fun hsl3 => ?_)
    refine WL.mv rfl rfl ?_
    refine WL.apMM (T := Ty) (i := 0) rfl rfl rfl rfl rfl rfl rfl (by first | exact .ro (by assumption) | exact .ro (ROs.wide (by assumption)) | exact .eqJ 0 rfl (by assumption) | exact .own 0 rfl | exact .own 1 rfl | exact .own 2 rfl | exact .own 3 rfl | exact .own 4 rfl | exact .own 5 rfl) (by first | assumption | exact ROs.slm (by assumption)) (fun _ => rfl) (by first | omega | (simp; omega) | (simp only [List.length_drop, List.length_take]; omega)) (by first | omega | (simp; omega) | (simp only [List.length_drop, List.length_take]; omega)) (fun v' => (by repeat' constructor)) (fun u4 hu4 => ?_)
    refine WL.mv rfl rfl ?_
    refine WL.apMM (T := Ty) (i := 0) rfl rfl rfl rfl rfl rfl rfl (by first | exact .ro (by assumption) | exact .ro (ROs.wide (by assumption)) | exact .eqJ 0 rfl (by assumption) | exact .own 0 rfl | exact .own 1 rfl | exact .own 2 rfl | exact .own 3 rfl | exact .own 4 rfl | exact .own 5 rfl) (by first | assumption | exact ROs.slm (by assumption)) (fun _ => rfl) (by first | omega | (simp; omega) | (simp only [List.length_drop, List.length_take]; omega)) (by first | omega | (simp; omega) | (simp only [List.length_drop, List.length_take]; omega)) (fun v' => (by repeat' constructor)) (fun u5 hu5 => ?_)
    refine WL.as rfl rfl (WL.as rfl rfl (WL.nil ?_))
    exact W.fit (Hs' := [Buf 1 _ ((sB l).map bcell)]) (by (repeat' first | exact Sel.nil | apply Sel.k | exact Pick.h | apply Pick.t)) (W.ret2 rfl rfl rfl (fun h q => ⟨_, ⟨rfl, by assumption⟩, q⟩))
end Go.Proofs.YtdpnpipninggeaaGreatDoor
