/- Samples that come: an open list, and what is added to it. -/
import Derived.Test.YtdpnpipninggeaaGreatDoorStc
import Derived.Test.YtdpnpipninggeaaGreatDoorNum
import Derived.Test.YtdpnpipninggeaaGreatDoorTab
import Derived.Test.YtdpnpipninggeaaGreatDoorGrow
import Derived.Test.YtdpnpipninggeaaGreatDoorApz
import Derived.Test.YtdpnpipninggeaaGreatDoorAppLaw
set_option linter.unusedSimpArgs false
set_option linter.unusedVariables false
set_option maxRecDepth 20000
set_option maxHeartbeats 4000000
namespace Go.Proofs.YtdpnpipninggeaaGreatDoor
open Go
section
variable {P : Program} {T : Tab P} {fn : Func} {ρ : Hp} {Q : Value → HP} {env : Env} {Hs : List HP} {k : List Item}
/-- a result, and behind it one that stands in a variable of its own, which goes -/
theorem W.retTC {t u : Tmp} {rt : TypeId} {b j : Nat} {c : List Value} {v : Value} {Ty : TypeId} {ti : TyI} (hr : fn.results = #[.tmp u, .cell t rt]) (hv : look env t = some (.pointer (some ⟨b, 0, none⟩))) (hu : look env u = some v) (ht : T.tt rt = some ti) (h1 : oneCellT ti.desc = false)
    (hH : nthH Hs j = some (box b c Ty)) (hl : Nat.beq c.length ti.size = true) (h : ∀ h, sepl (Hs.eraseIdx j) h → Q (.tuple #[v, .agg c.toArray]) h) : W P fn ρ Q (.code .ret :: k) env Hs := by
  intro _ _ w hh a s p e
  obtain ⟨hld, z, hz, sz⟩ := cell_ret s p ht h1 hH hl
  refine .ret e.defers (v := .tuple #[v, .agg c.toArray]) ?_ ⟨_, _, rfl, sz, h _ hz⟩
  have g1 := e.at' t _ hv
  have g2 := e.at' u _ hu
  simp [results, hr, g1, g2, asAddr, hld]
end
theorem vlI_cells {l : List Smp} (h : SmOK l) : (vlI l).map (Value.int .u64) = (vls l).map ucell := by
  unfold vlI vls
  rw [List.map_map, List.map_map]
  refine List.map_congr_left fun s hs => ?_
  have := h s hs
  show Value.int .u64 s.2 = Value.int .u64 ((s.2.toNat : Nat) : Int)
  rw [show ((s.2.toNat : Nat) : Int) = s.2 by omega]
theorem frs_cell {l : List Smp} (h : l ≠ []) : (l.flatMap smC)[(0 : Int).toNat * 2 + 0]? = some (.int .i64 (frsT l)) := by
  cases l with
  | nil => exact absurd rfl h
  | cons s l => rfl
theorem lst_cell {l : List Smp} (h : l ≠ []) : (l.flatMap smC)[((l.length : Int) - 1).toNat * 2 + 0]? = some (.int .i64 (lstT l)) := by
  have hp : 0 < l.length := List.length_pos_iff.2 h
  obtain ⟨s, hs⟩ : ∃ s, l[l.length - 1]? = some s := ⟨_, List.getElem?_eq_getElem (by omega)⟩
  rw [show ((l.length : Int) - 1).toNat = l.length - 1 by omega]
  have e : lstT l = s.1 := by unfold lstT; rw [List.getD_eq_getElem?_getD, hs]; rfl
  rw [e]
  exact flat_get sm_len hs rfl
theorem be4_cells (c : Nat) : [Value.int .u8 (IntKind.u8.wrap ((c : Int) / 16777216)), Value.int .u8 (IntKind.u8.wrap ((c : Int) / 65536)), Value.int .u8 (IntKind.u8.wrap ((c : Int) / 256)), Value.int .u8 (IntKind.u8.wrap (c : Int))] = (be4 c).map bcell := by
  rw [show (c : Int) / 16777216 = ((c / 16777216 : Nat) : Int) by omega, show (c : Int) / 65536 = ((c / 65536 : Nat) : Int) by omega, show (c : Int) / 256 = ((c / 256 : Nat) : Int) by omega, wrapU8, wrapU8, wrapU8, wrapU8]
  rfl
theorem chk_eq (l : List Smp) : hB l ++ be4 (sumR (hB l)) = chk l := rfl
theorem rosN2 (ρ : Hp) : ROs ρ 2 nilV (([] : List Smp).flatMap smC) := .inl ⟨rfl, rfl⟩
attribute [local irreducible] W WL Fn Buf ROs SL eptr box Rd Src bndOK WD RB Reads In Own mkC chk sB
theorem still13_c (ρ : Hp) (a : Bool) (t : Int) (v : Value) (l : List Smp) (r0 : ROs ρ 2 v (l.flatMap smC)) (hl : l.length ≤ 1000000) :
    Fn Tryz.prog 14 #[.agg #[.bool a, .int .i64 t, v]] ρ [] (fun r h => ∃ v, (r = .agg #[.bool a, .int .i64 t, v] ∧ SL v l.length) ∧ sepl [Buf 2 v (l.flatMap smC)] h) := by
  have l1 := sms_cells l
  have o1 := sm_one l
  have s0 : SL v l.length := r0.sl l1 (by omega)
  refine in14 rfl rfl ?_
  refine W.seq (W.region ?_)
  refine WL.bxF rfl rfl (by repeat' constructor) (fun b0 => ?_)
  refine WL.alF (T := Ty) rfl rfl (by repeat' constructor) (fun b1 => ?_)
  refine WL.nil (W.seq (W.region (WL.faN (T := Ty) (off' := 2) rfl rfl rfl rfl rfl rfl rfl (WL.ldN (T := Ty) (j := 1) rfl rfl rfl rfl rfl rfl ?_))))
  refine WL.callF rfl rfl (fun x p d => cloneM_c _ _ _ _ (by first | assumption | exact ROs.wide (by assumption) | exact ROs.mono (by assumption) (eqh_at 0 rfl p d) | exact ros_at 0 rfl p d | exact ros_at 1 rfl p d | exact ros_at 2 rfl p d | exact ros_at 3 rfl p d | exact ros_at 4 rfl p d) (by assumption) (by assumption) (by first | assumption | omega)) (fun u2 => ?_)
  refine WL.fact (i := 0) rfl (fun h hb => hb.sl (by assumption) (by omega)) (fun hsl2 => ?_)
  refine WL.callP 0 rfl rfl rfl (fun x p d => clipM_c _ _ _ _ (by assumption)) (by repeat' constructor) (fun u3 => ?_)
  refine WL.fact (i := 0) rfl (fun h hb => hb.sl (by assumption) (by omega)) (fun hsl3 => ?_)
  refine WL.faN (T := Ty) (off' := 2) rfl rfl rfl rfl rfl rfl rfl ?_
  refine WL.stF (T := Ty) (j := 2) rfl rfl rfl rfl (SL.one (by assumption)) rfl rfl (by repeat' constructor) (by repeat' constructor) ?_
  refine WL.nil (W.seq (W.region ?_))
  refine WL.ldAF (T := Ty) (j := 2) rfl rfl rfl rfl rfl rfl (by repeat' constructor) ?_
  refine WL.stAO (T := Ty) (j := 1) rfl rfl rfl rfl (by repeat' first | exact AO.nil | apply AO.cons (by first | rfl | exact SL.one (by assumption))) rfl rfl (by repeat' constructor) (by repeat' constructor) ?_
  refine WL.nil ?_
  exact W.fit (Hs' := [box b1 _ _, Buf 2 _ _]) (by (repeat' first | exact Sel.nil | apply Sel.k | exact Pick.h | apply Pick.t)) (W.retC (T := Ty) (j := 0) rfl rfl rfl rfl rfl rfl (fun h q => ⟨_, ⟨rfl, by assumption⟩, q⟩))
theorem size13_c (ρ : Hp) (a : Bool) (t : Int) (v : Value) (n : Nat) (s0 : SL v n) (hl : n ≤ 1000000) :
    Fn Tryz.prog 10 #[.agg #[.bool a, .int .i64 t, v]] ρ [] (Just (.int .i64 (16 * (n : Int)))) := by
  refine in10 rfl rfl ?_
  refine W.seq (W.region ?_)
  refine WL.bxF rfl rfl (by repeat' constructor) (fun b0 => ?_)
  refine WL.as rfl rfl (WL.nil (W.seq (W.region (WL.faN (T := Ty) (off' := 2) rfl rfl rfl rfl rfl rfl rfl (WL.ldN (T := Ty) (j := 0) rfl rfl rfl rfl rfl rfl ?_)))))
  refine WL.len (T := Ty) rfl rfl (by assumption) rfl ?_
  refine WL.mulK rfl rfl rfl (wrap_i64 ⟨by omega, by omega⟩) (WL.as rfl rfl (WL.nil ?_))
  exact W.fit (Hs' := []) (by (repeat' first | exact Sel.nil | apply Sel.k | exact Pick.h | apply Pick.t)) (W.ret1 rfl rfl (fun h q => ⟨rfl, q⟩))
theorem full13_c (ρ : Hp) (a : Bool) (t : Int) (v : Value) (n : Nat) (s0 : SL v n) :
    Fn Tryz.prog 9 #[.agg #[.bool a, .int .i64 t, v]] ρ [] (Just (.bool (decide ((8 : Int) ≤ (n : Int))))) := by
  refine in9 rfl rfl ?_
  refine W.seq (W.region ?_)
  refine WL.bxF rfl rfl (by repeat' constructor) (fun b0 => ?_)
  refine WL.as rfl rfl (WL.nil (W.seq (W.region (WL.faN (T := Ty) (off' := 2) rfl rfl rfl rfl rfl rfl rfl (WL.ldN (T := Ty) (j := 0) rfl rfl rfl rfl rfl rfl ?_)))))
  refine WL.len (T := Ty) rfl rfl (by assumption) rfl ?_
  refine WL.geq rfl rfl rfl (WL.as rfl rfl (WL.nil ?_))
  exact W.fit (Hs' := []) (by (repeat' first | exact Sel.nil | apply Sel.k | exact Pick.h | apply Pick.t)) (W.ret1 rfl rfl (fun h q => ⟨rfl, q⟩))
theorem addE_c (ρ : Hp) (a : Bool) (t : Int) (v : Value) (l : List Smp) (x y : Int) (r0 : ROs ρ 2 v (l.flatMap smC)) (hl : l.length ≤ 1000000) (ha : a = true) (hx : x ≤ t) :
    Fn Tryz.prog 6 #[.agg #[.bool a, .int .i64 t, v], .agg #[.int .i64 x, .int .u64 y]] ρ [] (fun r h => ∃ v, (r = .tuple #[.agg #[.bool a, .int .i64 t, v], .int .i64 1] ∧ SL v l.length) ∧ sepl [Buf 2 v (l.flatMap smC)] h) := by
  subst ha
  have l1 := sms_cells l
  have o1 := sm_one l
  have s0 : SL v l.length := r0.sl l1 (by omega)
  refine in6 rfl rfl ?_
  refine W.seq (W.region ?_)
  refine WL.bxF rfl rfl (by repeat' constructor) (fun b0 => ?_)
  refine WL.bxF rfl rfl (by repeat' constructor) (fun b1 => ?_)
  refine WL.alF (T := Ty) rfl rfl (by repeat' constructor) (fun b2 => ?_)
  refine WL.as rfl rfl (WL.nil (W.seq (W.seq (W.region (WL.faN (T := Ty) (off' := 0) rfl rfl rfl rfl rfl rfl rfl (WL.ldN (T := Ty) (j := 2) rfl rfl rfl rfl rfl rfl (WL.mv rfl rfl (WL.gY rfl rfl (WL.faN (T := Ty) (off' := 0) rfl rfl rfl rfl rfl rfl rfl (WL.gY rfl rfl (WL.ldN (T := Ty) (j := 1) rfl rfl rfl rfl rfl rfl (WL.gY rfl rfl (WL.faN (T := Ty) (off' := 1) rfl rfl rfl rfl rfl rfl rfl ?_)))))))))))))
  refine WL.gY rfl rfl (WL.ldN (T := Ty) (j := 2) rfl rfl rfl rfl rfl rfl (WL.gY rfl rfl (WL.leq rfl rfl rfl (WL.pickT rfl rfl rfl (WL.nil (W.condpT rfl (by omega) (W.seq (W.region ?_))))))))
  refine WL.ldAF (T := Ty) (j := 2) rfl rfl rfl rfl rfl rfl (by repeat' constructor) ?_
  refine WL.callF rfl rfl (fun x p d => still13_c _ _ _ _ _ (by first | assumption | exact ROs.wide (by assumption) | exact ROs.mono (by assumption) (eqh_at 0 rfl p d) | exact ros_at 0 rfl p d | exact ros_at 1 rfl p d | exact ros_at 2 rfl p d | exact ros_at 3 rfl p d | exact ros_at 4 rfl p d) (by first | assumption | omega)) (fun r3 => ?_)
  refine WL.opens (α := Value) (φ := fun v => r3 = .agg #[.bool _, .int .i64 _, v] ∧ SL v _) (ps := fun v => [Buf 2 v _]) 0 rfl (fun h q => q) (by repeat' constructor) ?_
  rintro u3 ⟨es3, su3⟩
  subst es3
  dsimp only [List.cons_append, List.nil_append] at su3 ⊢
  refine WL.stAO (T := Ty) (j := 1) rfl rfl rfl rfl (by repeat' first | exact AO.nil | apply AO.cons (by first | rfl | exact SL.one (by assumption))) rfl rfl (by repeat' constructor) (by repeat' constructor) ?_
  refine WL.as rfl rfl (WL.nil ?_)
  exact W.fit (Hs' := [box b2 _ _, Buf 2 _ _]) (by (repeat' first | exact Sel.nil | apply Sel.k | exact Pick.h | apply Pick.t)) (W.retC2 (T := Ty) (j := 0) rfl rfl rfl rfl rfl rfl rfl (fun h q => ⟨_, ⟨rfl, by assumption⟩, q⟩))
theorem addO_c (ρ : Hp) (a : Bool) (t : Int) (v : Value) (l : List Smp) (x y : Int) (r0 : ROs ρ 2 v (l.flatMap smC)) (hl : l.length ≤ 1000000) (ha : a = false ∨ t < x) :
    Fn Tryz.prog 6 #[.agg #[.bool a, .int .i64 t, v], .agg #[.int .i64 x, .int .u64 y]] ρ [] (fun r h => ∃ v, (r = .tuple #[.agg #[.bool true, .int .i64 x, v], .int .i64 0] ∧ SL v (l.length + 1)) ∧ sepl [Buf 2 v ((l ++ [(x, y)]).flatMap smC)] h) := by
  have l1 := sms_cells l
  have o1 := sm_one l
  have s0 : SL v l.length := r0.sl l1 (by omega)
  have hst : l.flatMap smC ++ [.int .i64 x, .int .u64 y] = (l ++ [(x, y)]).flatMap smC := by rw [List.flatMap_append]; rfl
  refine in6 rfl rfl ?_
  cases a with
  | false =>
    refine W.seq (W.region ?_)
    refine WL.bxF rfl rfl (by repeat' constructor) (fun b0 => ?_)
    refine WL.bxF rfl rfl (by repeat' constructor) (fun b1 => ?_)
    refine WL.alF (T := Ty) rfl rfl (by repeat' constructor) (fun b2 => ?_)
    refine WL.as rfl rfl (WL.nil (W.seq (W.seq (W.region (WL.faN (T := Ty) (off' := 0) rfl rfl rfl rfl rfl rfl rfl (WL.ldN (T := Ty) (j := 2) rfl rfl rfl rfl rfl rfl (WL.mv rfl rfl (WL.gdN rfl rfl rfl rfl rfl rfl (WL.gdN rfl rfl rfl rfl rfl rfl (WL.gdN rfl rfl rfl rfl rfl rfl (WL.gdN rfl rfl rfl rfl rfl rfl (WL.gdN rfl rfl rfl rfl rfl rfl (WL.pickF rfl rfl rfl ?_)))))))))))))
    refine WL.nil (W.condF rfl (W.skip (W.seq (W.region ?_))))
    refine WL.ldAF (T := Ty) (j := 2) rfl rfl rfl rfl rfl rfl (by repeat' constructor) ?_
    refine WL.callF rfl rfl (fun x p d => still13_c _ _ _ _ _ (by first | assumption | exact ROs.wide (by assumption) | exact ROs.mono (by assumption) (eqh_at 0 rfl p d) | exact ros_at 0 rfl p d | exact ros_at 1 rfl p d | exact ros_at 2 rfl p d | exact ros_at 3 rfl p d | exact ros_at 4 rfl p d) (by first | assumption | omega)) (fun r3 => ?_)
    refine WL.opens (α := Value) (φ := fun v => r3 = .agg #[.bool _, .int .i64 _, v] ∧ SL v _) (ps := fun v => [Buf 2 v _]) 0 rfl (fun h q => q) (by repeat' constructor) ?_
    rintro u3 ⟨es3, su3⟩
    subst es3
    dsimp only [List.cons_append, List.nil_append] at su3 ⊢
    refine WL.stAO (T := Ty) (j := 3) rfl rfl rfl rfl (by repeat' first | exact AO.nil | apply AO.cons (by first | rfl | exact SL.one (by assumption))) rfl rfl (by repeat' constructor) (by repeat' constructor) ?_
    refine WL.nil (W.seq ?_)
    refine W.drawP 8 [true, false, false, false] rfl (by repeat' constructor) (by repeat' constructor) (fun σ0 hσ0 dσ0 => ?_)
    have fσ0_0 := rb_at 0 rfl hσ0 dσ0
    have fσ0_1 := rb_at 1 rfl hσ0 dσ0
    have fσ0_2 := rb_at 2 rfl hσ0 dσ0
    refine WD.takeL 0 rfl (by decide +kernel) (WL.faN (T := Ty) (off' := 0) rfl rfl rfl rfl rfl rfl rfl (WL.nilT (WD.takeL 1 rfl (by decide +kernel) ?_)))
    refine WL.ldBN (T := Ty) rfl rfl rfl rfl (by first | assumption | exact RB.wide (by assumption) | exact In.rb (by assumption)) rfl ?_
    refine WL.nilT (WD.takeL 2 rfl (by decide +kernel) (WL.faN (T := Ty) (off' := 2) rfl rfl rfl rfl rfl rfl rfl (WL.nilT (WD.takeL 3 rfl (by decide +kernel) ?_))))
    refine WL.ldBN (T := Ty) rfl rfl rfl rfl (by first | assumption | exact RB.wide (by assumption) | exact In.rb (by assumption)) rfl ?_
    refine WL.nilT (WD.takeL 4 rfl (by decide +kernel) ?_)
    refine WL.ldABF (T := Ty) rfl rfl rfl rfl (by first | assumption | exact RB.wide (by assumption) | exact In.rb (by assumption)) rfl (by repeat' constructor) ?_
    refine WL.nilT (WD.oneL 5 rfl (by decide +kernel) ?_)
    refine WL.bsC (T := Ty) rfl rfl rfl rfl rfl rfl rfl (by repeat' first | exact CO.nil | apply CO.one (by first | rfl | exact SL.one (by assumption)) | apply CO.agg) rfl (by repeat' constructor) (fun u4 hu4 => ?_)
    refine WL.nilH hσ0 (fun σ1 hσ1 dσ1 mσ1 => ?_)
    have fσ0_0 := fσ0_0.mono mσ1
    have fσ0_1 := fσ0_1.mono mσ1
    have fσ0_2 := fσ0_2.mono mσ1
    have fσ1_0 := ros_at 0 rfl hσ1 dσ1
    refine WD.oneL 6 rfl (by decide +kernel) ?_
    refine WL.ap (T := Ty) (i := 1) (m := 1) rfl rfl rfl rfl rfl rfl rfl rfl (by first | exact .ro (by assumption) | exact .ro (ROs.wide (by assumption)) | exact .eqJ 0 rfl (by assumption) | exact .own 0 rfl | exact .own 1 rfl | exact .own 2 rfl | exact .own 3 rfl | exact .own 4 rfl | exact .own 5 rfl) (by first | assumption | exact ROs.slm (by assumption)) (by assumption) (by rfl) (AO.all (by repeat' first | exact AO.nil | apply AO.cons (by first | rfl | exact SL.one (by assumption)))) (by first | omega | (simp; omega) | (simp only [List.length_drop, List.length_take]; omega)) (by unfold maxLen; first | omega | (simp only [List.length_drop, List.length_take]; omega)) (fun v' => (by repeat' constructor)) (fun u5 hu5 => ?_)
    refine WL.nilE (WD.takeL 7 rfl (by decide +kernel) ?_)
    refine WL.bdC (T := Ty) rfl rfl rfl rfl (by repeat' first | exact CO.nil | apply CO.one (by first | rfl | exact SL.one (by assumption)) | apply CO.agg) rfl (by repeat' constructor) ?_
    refine WL.nilT ?_
    refine WD.lastG hσ1 (by decide +kernel) (by repeat' constructor) rfl (by repeat' constructor) ?_
    refine WL.stAO (T := Ty) (j := 1) rfl rfl rfl rfl (by repeat' first | exact AO.nil | apply AO.cons (by first | rfl | exact SL.one (by assumption))) rfl rfl (by repeat' constructor) (by repeat' constructor) ?_
    refine WL.as rfl rfl (WL.nil ?_)
    rw [hst]
    exact W.fit (Hs' := [box b2 _ _, Buf 2 _ ((l ++ [(x, y)]).flatMap smC)]) (by (repeat' first | exact Sel.nil | apply Sel.k | exact Pick.h | apply Pick.t)) (W.retC2 (T := Ty) (j := 0) rfl rfl rfl rfl rfl rfl rfl (fun h q => ⟨_, ⟨rfl, by assumption⟩, q⟩))
  | true =>
    have hx : ¬ x ≤ t := by simp at ha; omega
    refine W.seq (W.region ?_)
    refine WL.bxF rfl rfl (by repeat' constructor) (fun b0 => ?_)
    refine WL.bxF rfl rfl (by repeat' constructor) (fun b1 => ?_)
    refine WL.alF (T := Ty) rfl rfl (by repeat' constructor) (fun b2 => ?_)
    refine WL.as rfl rfl (WL.nil (W.seq (W.seq (W.region (WL.faN (T := Ty) (off' := 0) rfl rfl rfl rfl rfl rfl rfl (WL.ldN (T := Ty) (j := 2) rfl rfl rfl rfl rfl rfl (WL.mv rfl rfl (WL.gY rfl rfl (WL.faN (T := Ty) (off' := 0) rfl rfl rfl rfl rfl rfl rfl (WL.gY rfl rfl (WL.ldN (T := Ty) (j := 1) rfl rfl rfl rfl rfl rfl (WL.gY rfl rfl (WL.faN (T := Ty) (off' := 1) rfl rfl rfl rfl rfl rfl rfl ?_)))))))))))))
    refine WL.gY rfl rfl (WL.ldN (T := Ty) (j := 2) rfl rfl rfl rfl rfl rfl (WL.gY rfl rfl (WL.leq rfl rfl rfl (WL.pickT rfl rfl rfl (WL.nil (W.condpF rfl (by omega) (W.skip (W.seq (W.region ?_)))))))))
    refine WL.ldAF (T := Ty) (j := 2) rfl rfl rfl rfl rfl rfl (by repeat' constructor) ?_
    refine WL.callF rfl rfl (fun x p d => still13_c _ _ _ _ _ (by first | assumption | exact ROs.wide (by assumption) | exact ROs.mono (by assumption) (eqh_at 0 rfl p d) | exact ros_at 0 rfl p d | exact ros_at 1 rfl p d | exact ros_at 2 rfl p d | exact ros_at 3 rfl p d | exact ros_at 4 rfl p d) (by first | assumption | omega)) (fun r3 => ?_)
    refine WL.opens (α := Value) (φ := fun v => r3 = .agg #[.bool _, .int .i64 _, v] ∧ SL v _) (ps := fun v => [Buf 2 v _]) 0 rfl (fun h q => q) (by repeat' constructor) ?_
    rintro u3 ⟨es3, su3⟩
    subst es3
    dsimp only [List.cons_append, List.nil_append] at su3 ⊢
    refine WL.stAO (T := Ty) (j := 3) rfl rfl rfl rfl (by repeat' first | exact AO.nil | apply AO.cons (by first | rfl | exact SL.one (by assumption))) rfl rfl (by repeat' constructor) (by repeat' constructor) ?_
    refine WL.nil (W.seq ?_)
    refine W.drawP 8 [true, false, false, false] rfl (by repeat' constructor) (by repeat' constructor) (fun σ0 hσ0 dσ0 => ?_)
    have fσ0_0 := rb_at 0 rfl hσ0 dσ0
    have fσ0_1 := rb_at 1 rfl hσ0 dσ0
    have fσ0_2 := rb_at 2 rfl hσ0 dσ0
    refine WD.takeL 0 rfl (by decide +kernel) (WL.faN (T := Ty) (off' := 0) rfl rfl rfl rfl rfl rfl rfl (WL.nilT (WD.takeL 1 rfl (by decide +kernel) ?_)))
    refine WL.ldBN (T := Ty) rfl rfl rfl rfl (by first | assumption | exact RB.wide (by assumption) | exact In.rb (by assumption)) rfl ?_
    refine WL.nilT (WD.takeL 2 rfl (by decide +kernel) (WL.faN (T := Ty) (off' := 2) rfl rfl rfl rfl rfl rfl rfl (WL.nilT (WD.takeL 3 rfl (by decide +kernel) ?_))))
    refine WL.ldBN (T := Ty) rfl rfl rfl rfl (by first | assumption | exact RB.wide (by assumption) | exact In.rb (by assumption)) rfl ?_
    refine WL.nilT (WD.takeL 4 rfl (by decide +kernel) ?_)
    refine WL.ldABF (T := Ty) rfl rfl rfl rfl (by first | assumption | exact RB.wide (by assumption) | exact In.rb (by assumption)) rfl (by repeat' constructor) ?_
    refine WL.nilT (WD.oneL 5 rfl (by decide +kernel) ?_)
    refine WL.bsC (T := Ty) rfl rfl rfl rfl rfl rfl rfl (by repeat' first | exact CO.nil | apply CO.one (by first | rfl | exact SL.one (by assumption)) | apply CO.agg) rfl (by repeat' constructor) (fun u4 hu4 => ?_)
    refine WL.nilH hσ0 (fun σ1 hσ1 dσ1 mσ1 => ?_)
    have fσ0_0 := fσ0_0.mono mσ1
    have fσ0_1 := fσ0_1.mono mσ1
    have fσ0_2 := fσ0_2.mono mσ1
    have fσ1_0 := ros_at 0 rfl hσ1 dσ1
    refine WD.oneL 6 rfl (by decide +kernel) ?_
    refine WL.ap (T := Ty) (i := 1) (m := 1) rfl rfl rfl rfl rfl rfl rfl rfl (by first | exact .ro (by assumption) | exact .ro (ROs.wide (by assumption)) | exact .eqJ 0 rfl (by assumption) | exact .own 0 rfl | exact .own 1 rfl | exact .own 2 rfl | exact .own 3 rfl | exact .own 4 rfl | exact .own 5 rfl) (by first | assumption | exact ROs.slm (by assumption)) (by assumption) (by rfl) (AO.all (by repeat' first | exact AO.nil | apply AO.cons (by first | rfl | exact SL.one (by assumption)))) (by first | omega | (simp; omega) | (simp only [List.length_drop, List.length_take]; omega)) (by unfold maxLen; first | omega | (simp only [List.length_drop, List.length_take]; omega)) (fun v' => (by repeat' constructor)) (fun u5 hu5 => ?_)
    refine WL.nilE (WD.takeL 7 rfl (by decide +kernel) ?_)
    refine WL.bdC (T := Ty) rfl rfl rfl rfl (by repeat' first | exact CO.nil | apply CO.one (by first | rfl | exact SL.one (by assumption)) | apply CO.agg) rfl (by repeat' constructor) ?_
    refine WL.nilT ?_
    refine WD.lastG hσ1 (by decide +kernel) (by repeat' constructor) rfl (by repeat' constructor) ?_
    refine WL.stAO (T := Ty) (j := 1) rfl rfl rfl rfl (by repeat' first | exact AO.nil | apply AO.cons (by first | rfl | exact SL.one (by assumption))) rfl rfl (by repeat' constructor) (by repeat' constructor) ?_
    refine WL.as rfl rfl (WL.nil ?_)
    rw [hst]
    exact W.fit (Hs' := [box b2 _ _, Buf 2 _ ((l ++ [(x, y)]).flatMap smC)]) (by (repeat' first | exact Sel.nil | apply Sel.k | exact Pick.h | apply Pick.t)) (W.retC2 (T := Ty) (j := 0) rfl rfl rfl rfl rfl rfl rfl (fun h q => ⟨_, ⟨rfl, by assumption⟩, q⟩))
theorem addE_z (ρ : Hp) (a : Bool) (t : Int) (x y : Int) (ha : a = true) (hx : x ≤ t) :
    Fn Tryz.prog 6 #[.agg #[.bool a, .int .i64 t, nilV], .agg #[.int .i64 x, .int .u64 y]] ρ [] (fun r h => ∃ v, (r = .tuple #[.agg #[.bool a, .int .i64 t, v], .int .i64 1] ∧ SL v ([] : List Smp).length) ∧ sepl [Buf 2 v (([] : List Smp).flatMap smC)] h) :=
  addE_c ρ a t nilV [] x y (rosN2 ρ) (by decide) ha hx
theorem addO_z (ρ : Hp) (a : Bool) (t : Int) (x y : Int) (ha : a = false ∨ t < x) :
    Fn Tryz.prog 6 #[.agg #[.bool a, .int .i64 t, nilV], .agg #[.int .i64 x, .int .u64 y]] ρ [] (fun r h => ∃ v, (r = .tuple #[.agg #[.bool true, .int .i64 x, v], .int .i64 0] ∧ SL v ([(x, y)] : List Smp).length) ∧ sepl [Buf 2 v (([(x, y)] : List Smp).flatMap smC)] h) :=
  addO_c ρ a t nilV [] x y (rosN2 ρ) (by decide) ha
end Go.Proofs.YtdpnpipninggeaaGreatDoor
