/- CachOwn. -/
import Derived.Test.YtdpnpipninggeaaStc
import Derived.Test.YtdpnpipninggeaaNum
import Derived.Test.YtdpnpipninggeaaTab
import Derived.Test.YtdpnpipninggeaaCachAw
import Derived.Test.YtdpnpipninggeaaCachLaw
import Derived.Test.YtdpnpipninggeaaBrg
set_option linter.unusedSimpArgs false
set_option linter.unusedVariables false
set_option maxRecDepth 20000
set_option maxHeartbeats 4000000
namespace Go.Proofs.Ytdpnpipninggeaa
open Go
theorem rosR0o (ρ : Hp) (m : Int) : ROs ρ 7 nilV ((ring0 m).pages.flatMap pgC) := .inl ⟨rfl, rfl⟩
def ringT (m : Int) (k : Ky) : Clk := ⟨m, 1, [⟨k, 2, true, true, 0⟩], 0, 0, 0⟩
theorem touch_one (m : Int) (k : Ky) : touchP (ring1 m k 0) k = (ringT m k, true) := by
 rw [touch_at (fnd_one m k 0) (show (ring1 m k 0).pages[0]? = some ⟨k, 2, false, true, 0⟩ from rfl)]
 rfl
theorem fnd_t (m : Int) (k : Ky) : fndK (ringT m k).pages k = ((0 : Nat) : Int) := by
 unfold ringT fndK idxF
 simp [List.findIdx_cons]
theorem touch_t (m : Int) (k : Ky) : touchP (ringT m k) k = (ringT m k, true) := by
 rw [touch_at (fnd_t m k) (show (ringT m k).pages[0]? = some ⟨k, 2, true, true, 0⟩ from rfl)]
 rfl
theorem ringTB {m : Int} (h1 : 1 ≤ m) (h2 : m ≤ 8) (k : Ky) : Bnd (ringT m k) := by
 have := (ring1B h1 h2 k).touch k
 rw [touch_one] at this
 exact this
theorem ringT_len (m : Int) (k : Ky) : (ringT m k).pages.length = 1 := rfl
theorem qget_one (k : Ky) (v : Value) : qget [(k, v)] k = some v := by simp [qget]
theorem sameL_reflC (L : List Smp) : sameL L L = true := by unfold sameL; simp
attribute [local irreducible] W WL Fn Buf ROs SL eptr box Rd Src bndOK WD RB Reads In Own fndK touchP pinP dropP admitP Qm qget qset qdel delsQ newP ring0 ring1 ringT rowP sameL
theorem CachOwn_fn (ρ : Hp) (v0 : Value) (z0 : List (Int × Int)) (r0 : ROs ρ 2 v0 (z0.flatMap (twoC .i64 .u64))) (m0 : ∀ q ∈ z0, (Lit.int .i64 q.1).wf = true ∧ (Lit.int .u64 q.2).wf = true) (y0 : z0.length * 16 ≤ 140737488351232) :
    Fn Try.prog 3 #[v0] ρ [] (fun r _ => r = .bool true) := by
  replace r0 : ROs ρ 2 v0 ((z0 : List Smp).flatMap smC) := r0
  have l2 := sms_cells (z0 : List Smp)
  have o2 := sm_one (z0 : List Smp)
  have s0 : SL v0 z0.length := r0.sl l2 (by omega)
  refine in3 rfl rfl ?_
  by_cases hz : 50 < z0.length
  · refine W.seq ?_
    refine W.region (WL.as rfl rfl (WL.nil (W.seq (W.seq (W.region (WL.mv rfl rfl ?_))))))
    refine WL.len (T := Ty) rfl rfl (by assumption) rfl ?_
    refine WL.gtr rfl rfl rfl (WL.nil (W.condpT rfl (by omega) (W.seq (W.region ?_))))
    refine WL.callV rfl rfl (fun x p d => awake16_c _) ?_
    refine WL.as rfl rfl (WL.nil ?_)
    exact W.fit (Hs' := []) (by (repeat' first | exact Sel.nil | apply Sel.k | exact Pick.h | apply Pick.t)) (W.ret1 rfl rfl (fun h q => rfl))
  · have hm1 : (1 : Int) ≤ 2 := by decide
    have hm2 : (2 : Int) ≤ 8 := by decide
    have hL : (z0 : List Smp).length ≤ 1000 := by show z0.length ≤ 1000; omega
    obtain ⟨k, hk⟩ : ∃ k : Ky, k = ⟨0, 0, 1⟩ := ⟨_, rfl⟩
    have d0 := admit_new hm1 k
    have t1 := touch_one 2 k
    have t2 := touch_t 2 k
    have f1 := fnd_t 2 k
    obtain ⟨q1, g1, hq1⟩ : ∃ p : Pg, (ringT 2 k).pages[0]? = some p ∧ p.pins ≤ 0 := ⟨⟨k, 2, true, true, 0⟩, by unfold ringT; rfl, by show (0 : Int) ≤ 0; decide⟩
    have B0 := (ring0B hm1 hm2).B
    have R0 := (ring0B hm1 hm2).R
    have B1 := (ring1B hm1 hm2 k).B
    have BT := (ringTB hm1 hm2 k).B
    have lT : (ringT 2 k).pages.length ≤ 1000000 := by rw [ringT_len]; decide
    have l0 : (ring0 2).pages.length ≤ 10000 := by unfold ring0; exact Nat.zero_le _
    have hn6 : (1000000 : Nat) ≤ 1000000 := Nat.le_refl _
    have hzz := sameL_reflC z0
    have rr := rosR0o ρ 2
    subst hk
    refine W.seq (W.region (WL.as rfl rfl (WL.nil (W.seq (W.seq (W.region (WL.mv rfl rfl ?_)))))))
    refine WL.len (T := Ty) rfl rfl (by assumption) rfl ?_
    refine WL.gtr rfl rfl rfl (WL.nil (W.condpF rfl (by omega) (W.skip (W.seq (W.region ?_)))))
    refine WL.callF rfl rfl (fun x p d => newc_c _ _) (fun r0 => ?_)
    refine WL.opens (α := Nat × Nat) (φ := fun x => r0 = pt x.1 0) (ps := fun x => [box x.1 _ 55, Qm .i64 x.2 _]) 0 rfl (fun h q => q) (by repeat' constructor) ?_
    rintro ⟨b0, m0⟩ es0
    subst es0
    dsimp only [List.cons_append, List.nil_append] at *
    refine WL.as rfl rfl (WL.nil (W.seq (W.seq (W.region (WL.mv rfl rfl (WL.eqP (T := Ty) rfl rfl rfl (WL.nil (W.condF rfl (W.skip (W.seq (W.region ?_)))))))))))
    refine WL.bsC (T := Ty) rfl rfl rfl rfl rfl rfl rfl (by repeat' first | exact CO.nil | apply CO.one (by first | rfl | exact SL.one (by assumption)) | apply CO.agg) rfl (by repeat' constructor) (fun u1 hu1 => ?_)
    refine WL.mv rfl rfl ?_
    refine WL.ap (T := Ty) (i := 0) (n := 0) rfl rfl rfl rfl rfl rfl rfl rfl (by first | exact .ro (by assumption) | exact .ro (ROs.wide (by assumption)) | exact .eqJ 0 rfl (by assumption) | exact .own 0 rfl | exact .own 1 rfl | exact .own 2 rfl | exact .own 3 rfl | exact .own 4 rfl | exact .own 5 rfl) (by first | assumption | exact ROs.slm (by assumption)) rfl (by assumption) (by assumption) (by first | omega | (simp; omega) | (simp only [List.length_drop, List.length_take]; omega)) (by unfold maxLen; first | omega | (simp only [List.length_drop, List.length_take]; omega)) (fun v' => (by repeat' constructor)) (fun u2 hu2 => ?_)
    refine WL.as rfl rfl (WL.nil (W.seq (W.seq (W.region (WL.mv rfl rfl ?_)))))
    refine WL.bdC (T := Ty) rfl rfl rfl rfl (by repeat' first | exact CO.nil | apply CO.one (by first | rfl | exact SL.one (by assumption)) | apply CO.agg) rfl (by repeat' constructor) ?_
    refine WL.mv rfl rfl ?_
    rw [newP_ring hm1 hm2]
    refine WL.callTk (Take.cons 1 rfl (Take.cons 1 rfl Take.nil)) rfl rfl (fun x p d => putYX_c _ _ _ _ _ _ _ _ _ _ _ _ _ _ (by assumption) (by first | assumption | exact ROs.wide (by assumption) | exact ROs.mono (by assumption) (eqh_at 0 rfl p d) | exact ros_at 0 rfl p d | exact ros_at 1 rfl p d | exact ros_at 2 rfl p d | exact ros_at 3 rfl p d | exact ros_at 4 rfl p d) (by assumption) (by first | assumption | omega | decide) (by assumption) (by first | assumption | decide) (by first | assumption | omega | decide) (by first | assumption | exact ROs.wide (by assumption) | exact ROs.mono (by assumption) (eqh_at 0 rfl p d) | exact ros_at 0 rfl p d | exact ros_at 1 rfl p d | exact ros_at 2 rfl p d | exact ros_at 3 rfl p d | exact ros_at 4 rfl p d) (by first | assumption | omega | decide)) (by repeat' constructor) (fun r3 => ?_)
    refine WL.opens (α := Value × Value) (φ := fun x => r3 = .bool true ∧ SL x.1 _ ∧ SL x.2 _) (ps := fun x => [_, Buf 7 x.1 _, Qm .i64 _ _, Buf 2 x.2 _]) 0 rfl (fun h q => q) (by repeat' constructor) ?_
    rintro ⟨u3, kv3⟩ ⟨es3, su3, sk3⟩
    subst es3
    dsimp only [List.cons_append, List.nil_append] at su3 sk3 ⊢
    refine WL.not rfl rfl (WL.nil (W.condF rfl (W.skip (W.seq (W.seq (W.region (WL.mv rfl rfl ?_)))))))
    refine WL.len (T := Ty) rfl rfl (by assumption) rfl ?_
    refine WL.mv rfl rfl (WL.nil (W.block ?_))
    rw [qset_one]
    refine W.freeze 3 rfl (by repeat' constructor) (fun ρ1 le1 in1 => ?_)
    refine W.freeze 1 rfl (by repeat' constructor) (fun ρ2 le2 in2 => ?_)
    have rz := (in1.mono le2).ros
    have rp := in2.ros
    clear in1 in2
    have g0 := qget_one (⟨0, 0, 1⟩ : Ky) kv3
    rw [Nat.zero_add] at hu2
    have e0 : (0 + z0.length : Nat) = z0.length := Nat.zero_add _
    rw [e0]
    refine W.loopR (σ := Nat × List Smp) (fun s => [(0, v0), (2, .bool false), (3, pt b0 0), (4, u2), (29, .int .i64 (z0.length : Int)), (30, .int .i64 (s.1 : Int))])
      (fun s => [box b0 [.int .i64 (ring1 2 ⟨0, 0, 1⟩ 0).most, .int .i64 (ring1 2 ⟨0, 0, 1⟩ 0).target, u3, .int .i64 ((ring1 2 ⟨0, 0, 1⟩ 0).hot : Int), .int .i64 ((ring1 2 ⟨0, 0, 1⟩ 0).cold : Int), .int .i64 ((ring1 2 ⟨0, 0, 1⟩ 0).test : Int), .map (some m0)] 55, Qm .i64 m0 [(⟨0, 0, 1⟩, kv3)], Buf 2 u2 (s.2.flatMap smC)])
      (fun s ρ' => s.1 ≤ z0.length ∧ s.2.length = z0.length) (fun s => z0.length - s.1)
      (0, z0) ⟨rfl, rfl, rfl, rfl, rfl, rfl, trivial⟩ rfl ⟨Nat.zero_le _, rfl⟩ ?_
    rintro ⟨i, L⟩ ρ3 le3 ⟨hi, hL⟩ next
    dsimp only at hi hL next ⊢
    replace r0 := ((r0.mono le1).mono le2).mono le3
    replace rz := rz.mono le3
    replace rp := rp.mono le3
    have l4 := sms_cells L
    by_cases hc : i < z0.length
    · obtain ⟨⟨a, v⟩, ha⟩ : ∃ p, L[i]? = some p := ⟨_, List.getElem?_eq_getElem (by omega)⟩
      have d4 : (L.flatMap smC)[((i : Nat) : Int).toNat * 2 + 1]? = some (.int .u64 v) := flat_get sm_len ha rfl
      have hset4 : (L.flatMap smC).set (((i : Nat) : Int).toNat * 2 + 1) (.int .u64 (IntKind.u64.wrap (v + 1))) = (L.set i (a, IntKind.u64.wrap (v + 1))).flatMap smC := flat_set (b := (a, IntKind.u64.wrap (v + 1))) (j := 1) sm_len ha (by omega) rfl
      rw [← hL] at hu2
      refine W.seq (W.region (WL.lss rfl rfl rfl (WL.nil (W.seq (W.condpT rfl (by omega) (W.skip (W.seq (W.block (W.seq (W.region (WL.mv rfl rfl (WL.as rfl rfl (WL.nil ?_)))))))))))))
      refine W.region (WL.mv rfl rfl (WL.mv rfl rfl ?_))
      refine WL.ix (T := Ty) rfl rfl rfl (by assumption) rfl rfl (by omega) (by first | omega | decide +kernel) ?_
      refine WL.faEN (T := Ty) (off' := 1) rfl rfl rfl rfl rfl rfl rfl ?_
      refine WL.ldE (T := Ty) (j := 2) rfl rfl rfl rfl rfl (by assumption) ?_
      refine WL.add (K := .u64) rfl rfl rfl ?_
      refine WL.ix (T := Ty) rfl rfl rfl (by assumption) rfl rfl (by omega) (by first | omega | decide +kernel) ?_
      refine WL.faEN (T := Ty) (off' := 1) rfl rfl rfl rfl rfl rfl rfl ?_
      refine WL.stEF (T := Ty) (j := 2) rfl rfl rfl rfl rfl rfl (by first | assumption | omega | (simp only [List.length_set]; omega) | (simp; omega)) rfl (by repeat' constructor) ?_
      refine WL.nil (W.inBlock (W.region (WL.addK rfl rfl rfl (wrap_i64 ⟨by omega, by omega⟩) (WL.mv rfl rfl (WL.nil ?_)))))
      rw [hset4]
      refine W.sub ?_ (next ⟨i + 1, L.set i (a, IntKind.u64.wrap (v + 1))⟩ ρ3 (Le.refl _) ⟨by dsimp only; omega, by dsimp only; rw [List.length_set]; exact hL⟩ (by dsimp only; omega))
      exact ⟨rfl, rfl, rfl, rfl, rfl, rfl, trivial⟩
    · clear next
      refine W.seq (W.region (WL.lss rfl rfl rfl (WL.nil (W.seq (W.condpF rfl (by omega) (W.exit rfl (W.seq (W.region (WL.mv rfl rfl ?_)))))))))
      refine WL.bdC (T := Ty) rfl rfl rfl rfl (by repeat' first | exact CO.nil | apply CO.one (by first | rfl | exact SL.one (by assumption)) | apply CO.agg) rfl (by repeat' constructor) ?_
      refine WL.callTk (Take.cons 0 rfl (Take.cons 0 rfl Take.nil)) rfl rfl (fun x p d => getYX_c _ _ _ _ _ _ _ _ _ _ _ _ (by assumption) (by first | assumption | exact ROs.wide (by assumption) | exact ROs.mono (by assumption) (eqh_at 0 rfl p d) | exact ros_at 0 rfl p d | exact ros_at 1 rfl p d | exact ros_at 2 rfl p d | exact ros_at 3 rfl p d | exact ros_at 4 rfl p d) (by assumption) (by assumption) (by first | assumption | exact ROs.wide (by assumption) | exact ROs.mono (by assumption) (eqh_at 0 rfl p d) | exact ros_at 0 rfl p d | exact ros_at 1 rfl p d | exact ros_at 2 rfl p d | exact ros_at 3 rfl p d | exact ros_at 4 rfl p d) (by first | assumption | omega | decide)) (by repeat' constructor) (fun r4 => ?_)
      refine WL.opens (α := Value × Value) (φ := fun x => r4 = .tuple #[x.2, .bool true] ∧ SL x.1 _ ∧ SL x.2 _) (ps := fun x => [_, Buf 7 x.1 _, Qm .i64 _ _, Buf 2 x.2 _]) 0 rfl (fun h q => q) (by repeat' constructor) ?_
      rintro ⟨u4, kv4⟩ ⟨es4, su4, sk4⟩
      subst es4
      dsimp only [List.cons_append, List.nil_append] at su4 sk4 ⊢
      refine WL.mv rfl rfl (WL.extL rfl rfl rfl (WL.extL rfl rfl rfl (WL.as rfl rfl (WL.as rfl rfl (WL.nil (W.seq (W.seq (W.region (WL.mv rfl rfl ?_)))))))))
      refine WL.len (T := Ty) rfl rfl (by assumption) rfl ?_
      refine WL.mv rfl rfl (WL.nil (W.block ?_))
      refine W.fit (Hs' := [Buf 7 u4 _, box b0 _ _, Qm _ m0 _, Buf 2 kv4 _]) (by (repeat' first | exact Sel.nil | apply Sel.k | exact Pick.h | apply Pick.t)) ?_
      refine W.freeze 0 rfl (by repeat' constructor) (fun ρ4 le4 in4 => ?_)
      have rp4 := in4.ros
      clear in4
      refine W.loopR (σ := Nat × List Smp) (fun s => [(0, v0), (2, .bool false), (3, pt b0 0), (6, kv4), (7, .bool true), (49, .int .i64 (z0.length : Int)), (50, .int .i64 (s.1 : Int))])
        (fun s => [box b0 [.int .i64 (ringT 2 ⟨0, 0, 1⟩).most, .int .i64 (ringT 2 ⟨0, 0, 1⟩).target, u4, .int .i64 ((ringT 2 ⟨0, 0, 1⟩).hot : Int), .int .i64 ((ringT 2 ⟨0, 0, 1⟩).cold : Int), .int .i64 ((ringT 2 ⟨0, 0, 1⟩).test : Int), .map (some m0)] 55, Qm .i64 m0 [(⟨0, 0, 1⟩, kv3)], Buf 2 kv4 (s.2.flatMap smC)])
        (fun s ρ' => s.1 ≤ z0.length ∧ s.2.length = z0.length) (fun s => z0.length - s.1)
        (0, z0) ⟨rfl, rfl, rfl, rfl, rfl, rfl, rfl, trivial⟩ rfl ⟨Nat.zero_le _, rfl⟩ ?_
      clear hc hi hL l4 i L
      rintro ⟨i, L⟩ ρ5 le5 ⟨hi, hL⟩ next
      dsimp only at hi hL next ⊢
      replace r0 := (r0.mono le4).mono le5
      replace rz := (rz.mono le4).mono le5
      replace rp4 := rp4.mono le5
      have l4 := sms_cells L
      by_cases hc : i < z0.length
      · obtain ⟨⟨a, v⟩, ha⟩ : ∃ p, L[i]? = some p := ⟨_, List.getElem?_eq_getElem (by omega)⟩
        have d4 : (L.flatMap smC)[((i : Nat) : Int).toNat * 2]? = some (.int .i64 a) := flat_get (j := 0) sm_len ha rfl
        have hset4 : (L.flatMap smC).set (((i : Nat) : Int).toNat * 2 + 0) (.int .i64 (IntKind.i64.wrap (a + 1))) = (L.set i (IntKind.i64.wrap (a + 1), v)).flatMap smC := flat_set (b := (IntKind.i64.wrap (a + 1), v)) (j := 0) sm_len ha (by omega) rfl
        rw [← hL] at sk4
        refine W.seq (W.region (WL.lss rfl rfl rfl (WL.nil (W.seq (W.condpT rfl (by omega) (W.skip (W.seq (W.block (W.seq (W.region (WL.mv rfl rfl (WL.as rfl rfl (WL.nil ?_)))))))))))))
        refine W.region (WL.mv rfl rfl (WL.mv rfl rfl ?_))
        refine WL.ix (T := Ty) rfl rfl rfl (by assumption) rfl rfl (by omega) (by first | omega | decide +kernel) ?_
        refine WL.faEN (T := Ty) (off' := 0) rfl rfl rfl rfl rfl rfl rfl ?_
        refine WL.ldE (T := Ty) (j := 2) rfl rfl rfl rfl rfl (by assumption) ?_
        refine WL.add (K := .i64) rfl rfl rfl ?_
        refine WL.ix (T := Ty) rfl rfl rfl (by assumption) rfl rfl (by omega) (by first | omega | decide +kernel) ?_
        refine WL.faEN (T := Ty) (off' := 0) rfl rfl rfl rfl rfl rfl rfl ?_
        refine WL.stEF (T := Ty) (j := 2) rfl rfl rfl rfl rfl rfl (by first | assumption | omega | (simp only [List.length_set]; omega) | (simp; omega)) rfl (by repeat' constructor) ?_
        refine WL.nil (W.inBlock (W.region (WL.addK rfl rfl rfl (wrap_i64 ⟨by omega, by omega⟩) (WL.mv rfl rfl (WL.nil ?_)))))
        rw [hset4]
        refine W.sub ?_ (next ⟨i + 1, L.set i (IntKind.i64.wrap (a + 1), v)⟩ ρ5 (Le.refl _) ⟨by dsimp only; omega, by dsimp only; rw [List.length_set]; exact hL⟩ (by dsimp only; omega))
        exact ⟨rfl, rfl, rfl, rfl, rfl, rfl, rfl, trivial⟩
      · clear next
        refine W.seq (W.region (WL.lss rfl rfl rfl (WL.nil (W.seq (W.condpF rfl (by omega) (W.exit rfl (W.seq (W.region (WL.mv rfl rfl ?_)))))))))
        refine WL.callF rfl rfl (fun x p d => clockc_c _ _ _ _ _ (by first | assumption | exact RB.wide (by assumption) | exact In.rb (by assumption) | exact RB.mono (by assumption) (eqh_at 0 rfl p d) | exact (in_at 0 rfl p d).rb | exact (in_at 1 rfl p d).rb | exact (in_at 2 rfl p d).rb | exact (in_at 3 rfl p d).rb | exact (in_at 4 rfl p d).rb | exact (in_at 5 rfl p d).rb | exact (in_at 6 rfl p d).rb | exact (in_at 7 rfl p d).rb) (by first | assumption | exact ROs.wide (by assumption) | exact ROs.mono (by assumption) (eqh_at 0 rfl p d) | exact ros_at 0 rfl p d | exact ros_at 1 rfl p d | exact ros_at 2 rfl p d | exact ros_at 3 rfl p d | exact ros_at 4 rfl p d) (by first | assumption | omega | decide)) (fun r5 => ?_)
        refine WL.opens (α := Value) (φ := fun v => r5 = .agg #[.int .i64 _, .int .i64 _, v, .int .i64 _, .int .i64 _, .int .i64 _] ∧ SL v _) (ps := fun v => [Buf 7 v _]) 0 rfl (fun h q => q) (by repeat' constructor) ?_
        rintro u5 ⟨es5, su5⟩
        subst es5
        dsimp only [List.cons_append, List.nil_append] at su5 ⊢
        refine WL.fd (T := Ty) rfl rfl rfl rfl rfl rfl rfl (WL.as rfl rfl (WL.nil (W.seq (W.seq (W.region (WL.mv rfl rfl ?_))))))
        refine WL.len (T := Ty) rfl rfl (by assumption) rfl ?_
        refine WL.mv rfl rfl (WL.nil (W.block ?_))
        rw [ringT_len] at su5 ⊢
        obtain ⟨G, hG⟩ : ∃ G, G = (ringT 2 ⟨0, 0, 1⟩).pages := ⟨_, rfl⟩
        have hG1 : G.length = 1 := by rw [hG]; exact ringT_len _ _
        refine W.fit (Hs' := [box b0 _ _, Qm _ m0 _, Buf 7 u5 _]) (by (repeat' first | exact Sel.nil | apply Sel.k | exact Pick.h | apply Pick.t)) ?_
        refine W.loopR (σ := Nat × List Pg) (fun s => [(0, v0), (2, .bool false), (3, pt b0 0), (7, .bool true), (9, u5), (66, .int .i64 ((1 : Nat) : Int)), (67, .int .i64 (s.1 : Int))])
          (fun s => [box b0 [.int .i64 (ringT 2 ⟨0, 0, 1⟩).most, .int .i64 (ringT 2 ⟨0, 0, 1⟩).target, u4, .int .i64 ((ringT 2 ⟨0, 0, 1⟩).hot : Int), .int .i64 ((ringT 2 ⟨0, 0, 1⟩).cold : Int), .int .i64 ((ringT 2 ⟨0, 0, 1⟩).test : Int), .map (some m0)] 55, Qm .i64 m0 [(⟨0, 0, 1⟩, kv3)], Buf 7 u5 (s.2.flatMap pgC)])
          (fun s ρ' => s.1 ≤ 1 ∧ s.2.length = 1) (fun s => 1 - s.1)
          (0, (ringT 2 ⟨0, 0, 1⟩).pages) ⟨rfl, rfl, rfl, rfl, rfl, rfl, rfl, trivial⟩ rfl ⟨Nat.zero_le _, ringT_len _ _⟩ ?_
        clear hc hi hL l4 i L hG1 hG G
        rintro ⟨i, L⟩ ρ6 le6 ⟨hi, hL⟩ next
        dsimp only at hi hL next ⊢
        replace r0 := r0.mono le6
        replace rz := rz.mono le6
        replace rp4 := rp4.mono le6
        have l4 := pgs_cells L
        by_cases hc : i < 1
        · obtain ⟨q, hq⟩ : ∃ q, L[i]? = some q := ⟨_, List.getElem?_eq_getElem (by omega)⟩
          have hset0 : (L.flatMap pgC).set (((i : Nat) : Int).toNat * 7 + 6) (.int .i64 9) = (L.set i { q with pins := 9 }).flatMap pgC := flat_set (j := 6) pg_len hq (by decide) rfl
          rw [← hL] at su5
          refine W.seq (W.region (WL.lss rfl rfl rfl (WL.nil (W.seq (W.condpT rfl (by omega) (W.skip (W.seq (W.block (W.seq (W.region (WL.mv rfl rfl (WL.as rfl rfl (WL.nil ?_)))))))))))))
          refine W.region (WL.mv rfl rfl (WL.mv rfl rfl ?_))
          refine WL.ix (T := Ty) rfl rfl rfl (by assumption) rfl rfl (by omega) (by first | omega | decide +kernel) ?_
          refine WL.faEN (T := Ty) (off' := 6) rfl rfl rfl rfl rfl rfl rfl ?_
          refine WL.stEF (T := Ty) (j := 2) rfl rfl rfl rfl rfl rfl (by first | assumption | omega | (simp only [List.length_set]; omega) | (simp; omega)) rfl (by repeat' constructor) ?_
          refine WL.nil (W.inBlock (W.region (WL.addK rfl rfl rfl (wrap_i64 ⟨by omega, by omega⟩) (WL.mv rfl rfl (WL.nil ?_)))))
          rw [hset0]
          refine W.sub ?_ (next ⟨i + 1, L.set i { q with pins := 9 }⟩ ρ6 (Le.refl _) ⟨by dsimp only; omega, by dsimp only; rw [List.length_set]; exact hL⟩ (by dsimp only; omega))
          exact ⟨rfl, rfl, rfl, rfl, rfl, rfl, rfl, trivial⟩
        · clear next
          refine W.seq (W.region (WL.lss rfl rfl rfl (WL.nil (W.seq (W.condpF rfl (by omega) (W.exit rfl (W.seq (W.region (WL.mv rfl rfl ?_)))))))))
          refine WL.bdC (T := Ty) rfl rfl rfl rfl (by repeat' first | exact CO.nil | apply CO.one (by first | rfl | exact SL.one (by assumption)) | apply CO.agg) rfl (by repeat' constructor) ?_
          refine WL.callTk (Take.cons 0 rfl (Take.cons 0 rfl Take.nil)) rfl rfl (fun x p d => getYX_c _ _ _ _ _ _ _ _ _ _ _ _ (by assumption) (by first | assumption | exact ROs.wide (by assumption) | exact ROs.mono (by assumption) (eqh_at 0 rfl p d) | exact ros_at 0 rfl p d | exact ros_at 1 rfl p d | exact ros_at 2 rfl p d | exact ros_at 3 rfl p d | exact ros_at 4 rfl p d) (by assumption) (by assumption) (by first | assumption | exact ROs.wide (by assumption) | exact ROs.mono (by assumption) (eqh_at 0 rfl p d) | exact ros_at 0 rfl p d | exact ros_at 1 rfl p d | exact ros_at 2 rfl p d | exact ros_at 3 rfl p d | exact ros_at 4 rfl p d) (by first | assumption | omega | decide)) (by repeat' constructor) (fun r6 => ?_)
          refine WL.opens (α := Value × Value) (φ := fun x => r6 = .tuple #[x.2, .bool true] ∧ SL x.1 _ ∧ SL x.2 _) (ps := fun x => [_, Buf 7 x.1 _, Qm .i64 _ _, Buf 2 x.2 _]) 0 rfl (fun h q => q) (by repeat' constructor) ?_
          rintro ⟨u6, kv6⟩ ⟨es6, su6, sk6⟩
          subst es6
          dsimp only [List.cons_append, List.nil_append] at su6 sk6 ⊢
          refine WL.mv rfl rfl (WL.extL rfl rfl rfl (WL.extL rfl rfl rfl (WL.as rfl rfl (WL.as rfl rfl (WL.nil (W.seq (W.region (WL.mv rfl rfl (WL.mv rfl rfl (WL.gY rfl rfl (WL.mv rfl rfl (WL.pickT rfl rfl rfl (WL.mv rfl rfl ?_)))))))))))))
          refine WL.gY rfl rfl (WL.mv rfl rfl (WL.gY rfl rfl (WL.mv rfl rfl (WL.gY rfl rfl ?_))))
          refine WL.callV rfl rfl (fun x p d => refM_e _ _ _ _ _ _ (by first | assumption | exact ROs.wide (by assumption) | exact ROs.mono (by assumption) (eqh_at 0 rfl p d) | exact ros_at 0 rfl p d | exact ros_at 1 rfl p d | exact ros_at 2 rfl p d | exact ros_at 3 rfl p d | exact ros_at 4 rfl p d) (by first | assumption | exact ROs.wide (by assumption) | exact ROs.mono (by assumption) (eqh_at 0 rfl p d) | exact ros_at 0 rfl p d | exact ros_at 1 rfl p d | exact ros_at 2 rfl p d | exact ros_at 3 rfl p d | exact ros_at 4 rfl p d) (by first | assumption | omega) (by assumption)) ?_
          refine WL.pickT rfl rfl rfl (WL.mv rfl rfl (WL.gY rfl rfl (WL.mv rfl rfl (WL.gY rfl rfl ?_))))
          refine WL.bdC (T := Ty) rfl rfl rfl rfl (by repeat' first | exact CO.nil | apply CO.one (by first | rfl | exact SL.one (by assumption)) | apply CO.agg) rfl (by repeat' constructor) ?_
          refine WL.gY rfl rfl ?_
          refine WL.callTk (Take.cons 0 rfl (Take.cons 1 rfl Take.nil)) rfl rfl (fun x p d => UnBX_c _ _ _ _ _ _ _ _ _ _ _ (by assumption) (by first | assumption | exact ROs.wide (by assumption) | exact ROs.mono (by assumption) (eqh_at 0 rfl p d) | exact ros_at 0 rfl p d | exact ros_at 1 rfl p d | exact ros_at 2 rfl p d | exact ros_at 3 rfl p d | exact ros_at 4 rfl p d) (by assumption) (by assumption) (by first | assumption | omega | decide)) (by repeat' constructor) (fun r7 => ?_)
          refine WL.opens (α := Unit) (φ := fun _ => r7 = .bool false) (ps := fun _ => [_, Qm .i64 _ _]) 0 rfl (fun h q => ⟨(), q⟩) (by repeat' constructor) ?_
          rintro _ es7
          subst es7
          dsimp only [List.cons_append, List.nil_append]
          refine WL.gY rfl rfl (WL.not rfl rfl (WL.pickT rfl rfl rfl (WL.mv rfl rfl (WL.gY rfl rfl ?_))))
          refine WL.callV rfl rfl (fun x p d => awake16_c _) ?_
          refine WL.pickT rfl rfl rfl (WL.as rfl rfl (WL.nil ?_))
          exact W.fit (Hs' := []) (by (repeat' first | exact Sel.nil | apply Sel.k | exact Pick.h | apply Pick.t)) (W.ret1 rfl rfl (fun h q => rfl))
end Go.Proofs.Ytdpnpipninggeaa
