/- Samples that come: a row's bytes, as the document makes them. -/
import Derived.Test.YtdpnpipninggeaaGreatDoorStc
import Derived.Test.YtdpnpipninggeaaGreatDoorNum
import Derived.Test.YtdpnpipninggeaaGreatDoorTab
import Derived.Test.YtdpnpipninggeaaGreatDoorApp1
import Derived.Test.YtdpnpipninggeaaGreatDoorVintRf
import Derived.Test.YtdpnpipninggeaaGreatDoorTimeRef
import Derived.Test.YtdpnpipninggeaaGreatDoorXorvRef
import Derived.Test.YtdpnpipninggeaaGreatDoorCrcc
import Derived.Test.YtdpnpipninggeaaGreatDoorGrow
set_option linter.unusedSimpArgs false
set_option linter.unusedVariables false
set_option maxRecDepth 20000
set_option maxHeartbeats 4000000
namespace Go.Proofs.YtdpnpipninggeaaGreatDoor
open Go
theorem rput_z (ρ : Hp) (u : Nat) (hu : u < 18446744073709551616) : Fn Tryz.prog 24 #[nilV, .int .u64 (u : Int)] ρ [] (fun r => Buf 1 r ((vputF 9 u).map bcell)) := rput_c ρ nilV [] u (.inl ⟨rfl, rfl⟩) hu (by decide)
attribute [local irreducible] W WL Fn Buf ROs SL eptr box Rd Src bndOK WD RB Reads In Own mkC chk encTs encX pack vputF risB sumR tms vls vlI
theorem rrise_c (ρ : Hp) (v : Value) (l : List Smp) (r0 : ROs ρ 2 v (l.flatMap smC)) (hl : l.length ≤ 65535) :
    Fn Tryz.prog 40 #[v] ρ [] (Just (.bool (risB l))) := by
  have l1 := sms_cells l
  have s0 : SL v l.length := r0.sl l1 (by omega)
  refine in40 rfl rfl ?_
  refine W.seq (W.region (WL.as rfl rfl (WL.nil (W.seq (W.seq (W.region (WL.as rfl rfl (WL.nil (W.block ?_)))))))))
  refine W.loopS (σ := Nat) (fun i => [(0, v), (3, .int .i64 (i : Int))]) (fun i => [])
    (fun i => 1 ≤ i ∧ (i ≤ l.length ∨ i = 1) ∧ ∀ (j : Nat) (a b : Smp), j + 1 < i → l[j]? = some a → l[j + 1]? = some b → a.1 < b.1) (fun i => l.length - i) 1 ⟨rfl, rfl, trivial⟩ rfl ⟨Nat.le_refl _, .inr rfl, fun j a b h => absurd h (by omega)⟩ ?_
  rintro i ⟨h1, h2, h3⟩ next
  by_cases hi : i < l.length
  · obtain ⟨a, ha⟩ : ∃ a, l[i - 1]? = some a := ⟨_, List.getElem?_eq_getElem (by omega)⟩
    obtain ⟨b, hb⟩ : ∃ b, l[i]? = some b := ⟨_, List.getElem?_eq_getElem hi⟩
    have ca : (l.flatMap smC)[((i : Int) - 1).toNat * 2 + 0]? = some (.int .i64 a.1) := by rw [show ((i : Int) - 1).toNat = i - 1 by omega]; exact flat_get sm_len ha rfl
    have cb : (l.flatMap smC)[((i : Nat) : Int).toNat * 2 + 0]? = some (.int .i64 b.1) := flat_get sm_len hb rfl
    by_cases hc : b.1 ≤ a.1
    · have hz : risB l = false := ris_not ha hb (by omega) hc
      rw [hz]
      refine W.seq (W.seq (W.region (WL.mv rfl rfl (WL.mv rfl rfl ?_))))
      refine WL.len (T := Ty) rfl rfl (by assumption) rfl ?_
      refine WL.lss rfl rfl rfl (WL.nil (W.condpT rfl (by omega) (W.skip (W.seq (W.block (W.seq ?_))))))
      refine W.drawA 12 rfl (fun σ0 hσ0 dσ0 => ?_)
      refine WD.takeL 0 rfl (by decide +kernel) (WL.mv rfl rfl (WL.nilT (WD.takeL 1 rfl (by decide +kernel) (WL.mv rfl rfl (WL.nilT (WD.takeL 2 rfl (by decide +kernel) ?_))))))
      refine WL.ix (T := Ty) rfl rfl rfl (by assumption) rfl rfl (by omega) (by first | omega | decide +kernel) ?_
      refine WL.nilT (WD.takeL 3 rfl (by decide +kernel) (WL.faEN (T := Ty) (off' := 0) rfl rfl rfl rfl rfl rfl rfl (WL.nilT (WD.takeL 4 rfl (by decide +kernel) ?_))))
      refine WL.ldR (T := Ty) rfl rfl rfl rfl (by first | assumption | exact ROs.wide (by assumption)) (by assumption) ?_
      refine WL.nilT (WD.takeL 5 rfl (by decide +kernel) (WL.mv rfl rfl (WL.nilT (WD.takeL 6 rfl (by decide +kernel) (WL.mv rfl rfl (WL.nilT (WD.takeL 7 rfl (by decide +kernel) (WL.subK rfl rfl rfl (wrap_i64 ⟨by omega, by omega⟩) (WL.nilT (WD.takeL 8 rfl (by decide +kernel) ?_))))))))))
      refine WL.ix (T := Ty) rfl rfl rfl (by assumption) rfl rfl (by omega) (by first | omega | decide +kernel) ?_
      refine WL.nilT (WD.takeL 9 rfl (by decide +kernel) (WL.faEN (T := Ty) (off' := 0) rfl rfl rfl rfl rfl rfl rfl (WL.nilT (WD.takeL 10 rfl (by decide +kernel) ?_))))
      refine WL.ldR (T := Ty) rfl rfl rfl rfl (by first | assumption | exact ROs.wide (by assumption)) (by assumption) ?_
      refine WL.nilT (WD.takeL 11 rfl (by decide +kernel) (WL.leq rfl rfl rfl (WL.nilT ?_)))
      refine WD.doneF hσ0 (by decide +kernel) (by repeat' constructor) ?_
      refine W.condpT rfl (by omega) (W.seq (W.region (WL.as rfl rfl (WL.nil ?_))))
      exact W.fit (Hs' := []) (by (repeat' first | exact Sel.nil | apply Sel.k | exact Pick.h | apply Pick.t)) (W.ret1 rfl rfl (fun h q => ⟨rfl, q⟩))
    · refine W.seq ?_
      refine W.seq (W.region (WL.mv rfl rfl (WL.mv rfl rfl ?_)))
      refine WL.len (T := Ty) rfl rfl (by assumption) rfl ?_
      refine WL.lss rfl rfl rfl (WL.nil (W.condpT rfl (by omega) (W.skip (W.seq (W.block (W.seq ?_))))))
      refine W.drawA 12 rfl (fun σ0 hσ0 dσ0 => ?_)
      refine WD.takeL 0 rfl (by decide +kernel) (WL.mv rfl rfl (WL.nilT (WD.takeL 1 rfl (by decide +kernel) (WL.mv rfl rfl (WL.nilT (WD.takeL 2 rfl (by decide +kernel) ?_))))))
      refine WL.ix (T := Ty) rfl rfl rfl (by assumption) rfl rfl (by omega) (by first | omega | decide +kernel) ?_
      refine WL.nilT (WD.takeL 3 rfl (by decide +kernel) (WL.faEN (T := Ty) (off' := 0) rfl rfl rfl rfl rfl rfl rfl (WL.nilT (WD.takeL 4 rfl (by decide +kernel) ?_))))
      refine WL.ldR (T := Ty) rfl rfl rfl rfl (by first | assumption | exact ROs.wide (by assumption)) (by assumption) ?_
      refine WL.nilT (WD.takeL 5 rfl (by decide +kernel) (WL.mv rfl rfl (WL.nilT (WD.takeL 6 rfl (by decide +kernel) (WL.mv rfl rfl (WL.nilT (WD.takeL 7 rfl (by decide +kernel) (WL.subK rfl rfl rfl (wrap_i64 ⟨by omega, by omega⟩) (WL.nilT (WD.takeL 8 rfl (by decide +kernel) ?_))))))))))
      refine WL.ix (T := Ty) rfl rfl rfl (by assumption) rfl rfl (by omega) (by first | omega | decide +kernel) ?_
      refine WL.nilT (WD.takeL 9 rfl (by decide +kernel) (WL.faEN (T := Ty) (off' := 0) rfl rfl rfl rfl rfl rfl rfl (WL.nilT (WD.takeL 10 rfl (by decide +kernel) ?_))))
      refine WL.ldR (T := Ty) rfl rfl rfl rfl (by first | assumption | exact ROs.wide (by assumption)) (by assumption) ?_
      refine WL.nilT (WD.takeL 11 rfl (by decide +kernel) (WL.leq rfl rfl rfl (WL.nilT ?_)))
      refine WD.doneF hσ0 (by decide +kernel) (by repeat' constructor) ?_
      refine W.condpF rfl (by omega) (W.skip (W.inBlock (W.region (WL.mv rfl rfl (WL.addK rfl rfl rfl (wrap_i64 ⟨by omega, by omega⟩) (WL.as rfl rfl (WL.nil ?_)))))))
      refine W.sub ?_ (next (i + 1) ⟨by omega, by omega, fun j x y hj hx hy => ?_⟩ (by omega))
      · exact ⟨rfl, rfl, trivial⟩
      · by_cases hji : j + 1 < i
        · exact h3 j x y hji hx hy
        · have e1 : j = i - 1 := by omega
          subst e1
          rw [show i - 1 + 1 = i by omega, hb] at hy
          rw [ha] at hx
          cases hx
          cases hy
          omega
  · have hz : risB l = true := ris_of (fun j x y hx hy => h3 j x y (by have := (List.getElem?_eq_some_iff.1 hy).1; omega) hx hy)
    rw [hz]
    refine W.seq (W.seq (W.region (WL.mv rfl rfl (WL.mv rfl rfl ?_))))
    refine WL.len (T := Ty) rfl rfl (by assumption) rfl ?_
    refine WL.lss rfl rfl rfl (WL.nil (W.condpF rfl (by omega) (W.exit rfl (W.seq (W.region (WL.mv rfl rfl ?_))))))
    refine WL.len (T := Ty) rfl rfl (by assumption) rfl ?_
    refine WL.leq rfl rfl rfl (WL.as rfl rfl (WL.nil ?_))
    exact W.fit (Hs' := []) (by (repeat' first | exact Sel.nil | apply Sel.k | exact Pick.h | apply Pick.t)) (W.ret1 rfl rfl (fun h q => ⟨by rw [decide_eq_true (by omega)], q⟩))
theorem rrise_e (ρ : Hp) (v : Value) (l : List Smp) (z : Bool) (r0 : ROs ρ 2 v (l.flatMap smC)) (hl : l.length ≤ 65535) (hz : risB l = z) :
    Fn Tryz.prog 40 #[v] ρ [] (Just (.bool z)) := Fn.val (congrArg Value.bool hz) (rrise_c ρ v l r0 hl)
theorem rvals_c (ρ : Hp) (v : Value) (l : List Smp) (r0 : ROs ρ 2 v (l.flatMap smC)) (ho : SmOK l) (hl : l.length ≤ 65535) :
    Fn Tryz.prog 39 #[v] ρ [] (fun r => Buf 1 r ((vls l).map ucell)) := by
  have l1 := sms_cells l
  have s0 : SL v l.length := r0.sl l1 (by omega)
  rw [← vlI_cells ho]
  refine in39 rfl rfl ?_
  refine W.seq (W.region (WL.as rfl rfl (WL.nil (W.seq (W.region (WL.as rfl rfl (WL.nil (W.seq (W.seq (W.region (WL.as rfl rfl (WL.nil (W.block ?_)))))))))))))
  refine W.nb (sz := 1) ?_
  refine W.loopS (σ := Nat × Value) (fun s => [(0, v), (3, s.2), (4, .int .i64 (s.1 : Int))]) (fun s => [Buf 1 s.2 ((vlI (l.take s.1)).map (Value.int .u64))])
    (fun s => s.1 ≤ l.length ∧ SL s.2 (vlI (l.take s.1)).length) (fun s => l.length - s.1) (0, nilV) ⟨rfl, rfl, rfl, trivial⟩ (by unfold vlI; rfl) ⟨Nat.zero_le _, by unfold vlI; exact slZ⟩ ?_
  rintro ⟨i, u⟩ ⟨hi, su⟩ next
  dsimp only at hi su next ⊢
  have lv1 : (vlI (l.take i)).length = i := by rw [vlI_len, List.length_take]; omega
  by_cases hc : i < l.length
  · obtain ⟨q, hq⟩ : ∃ q, l[i]? = some q := ⟨_, List.getElem?_eq_getElem hc⟩
    have cb : (l.flatMap smC)[((i : Nat) : Int).toNat * 2 + 1]? = some (.int .u64 q.2) := flat_get sm_len hq rfl
    have e2 := vlI_row hq
    have e3 : (vlI (l.take i)).map (Value.int .u64) ++ [Value.int .u64 q.2] = (vlI (l.take (i + 1))).map (Value.int .u64) := by rw [← e2, List.map_append]; rfl
    have e4 : (vlI (l.take (i + 1))).length = i + 1 := by rw [← e2, List.length_append, lv1]; rfl
    refine W.seq (W.seq (W.region (WL.mv rfl rfl (WL.mv rfl rfl ?_))))
    refine WL.len (T := Ty) rfl rfl (by assumption) rfl ?_
    refine WL.lss rfl rfl rfl (WL.nil (W.condpT rfl (by omega) (W.skip (W.seq (W.block (W.region (WL.mv rfl rfl (WL.mv rfl rfl (WL.mv rfl rfl ?_)))))))))
    refine WL.ix (T := Ty) rfl rfl rfl (by assumption) rfl rfl (by omega) (by first | omega | decide +kernel) ?_
    refine WL.faEN (T := Ty) (off' := 1) rfl rfl rfl rfl rfl rfl rfl ?_
    refine WL.ldR (T := Ty) rfl rfl rfl rfl (by first | assumption | exact ROs.wide (by assumption)) (by assumption) ?_
    refine WL.bsC (T := Ty) rfl rfl rfl rfl rfl rfl rfl (by repeat' first | exact CO.nil | apply CO.one (by first | rfl | exact SL.one (by assumption)) | apply CO.agg) rfl (by repeat' constructor) (fun u0 hu0 => ?_)
    refine WL.ap1 (T := Ty) (i := 0) rfl rfl rfl rfl rfl rfl rfl rfl (by assumption) (by first | rfl | assumption) (by first | omega | (simp; omega) | (simp only [List.length_drop, List.length_take]; omega)) (by first | omega | (simp; omega) | (simp only [List.length_drop, List.length_take]; omega)) (fun v' => (by repeat' constructor)) (fun u1 hu1 => ?_)
    refine WL.as rfl rfl (WL.nil (W.inBlock (W.region (WL.mv rfl rfl (WL.addK rfl rfl rfl (wrap_i64 ⟨by omega, by omega⟩) (WL.as rfl rfl (WL.nil ?_)))))))
    rw [e3]
    refine W.fit (by (repeat' first | exact Sel.nil | apply Sel.k | exact Pick.h | apply Pick.t)) (W.sub ?_ (next ⟨i + 1, _⟩ ⟨by dsimp only; omega, by dsimp only; rw [e4]; rw [List.length_map, lv1] at *; assumption⟩ (by dsimp only; omega)))
    exact ⟨rfl, rfl, rfl, trivial⟩
  · have hci : i = l.length := by omega
    subst hci
    rw [List.take_length]
    refine W.seq (W.seq (W.region (WL.mv rfl rfl (WL.mv rfl rfl ?_))))
    refine WL.len (T := Ty) rfl rfl (by assumption) rfl ?_
    refine WL.lss rfl rfl rfl (WL.nil (W.condpF rfl (by omega) (W.exit rfl (W.seq (W.region (WL.mv rfl rfl (WL.as rfl rfl (WL.nil ?_))))))))
    exact W.fit (Hs' := [Buf 1 u _]) (by (repeat' first | exact Sel.nil | apply Sel.k | exact Pick.h | apply Pick.t)) (W.ret1 rfl rfl (fun h q => sepl_one.1 q))
theorem rtold_c (ρ : Hp) (v : Value) (vs : List Nat) (r0 : ROs ρ 1 v (vs.map ucell)) (hw : ∀ x ∈ vs, x < 18446744073709551616) (hl : vs.length ≤ 65535) (hT : TabG ρ) :
    Fn Tryz.prog 38 #[.int .i64 1, v] ρ [] (fun r h => ∃ v, (r = .tuple #[v, .bool true] ∧ SL v (pack (encX vs)).length) ∧ sepl [Buf 1 v ((pack (encX vs)).map bcell)] h) := by
  have hxl := encX_len vs hw
  have hxb := encX_bit vs
  refine in38 rfl rfl ?_
  refine W.seq (W.region (WL.as rfl rfl (WL.as rfl rfl (WL.nil (W.seq (W.seq (W.region (WL.mv rfl rfl (WL.nil (W.block (W.seq (W.region (WL.eql rfl rfl rfl ?_)))))))))))))
  refine WL.as rfl rfl (WL.nil (W.condT rfl (W.seq (W.region ?_))))
  refine WL.bdC (T := Ty) rfl rfl rfl rfl (by repeat' first | exact CO.nil | apply CO.one (by first | rfl | exact SL.one (by assumption)) | apply CO.agg) rfl (by repeat' constructor) ?_
  refine WL.bxF rfl rfl (by repeat' constructor) (fun b0 => ?_)
  refine WL.as rfl rfl (WL.nil (W.seq (W.region (WL.mv rfl rfl (WL.mv rfl rfl (WL.intoRWr rfl ?_))))))
  refine WL.callM 0 rfl rfl rfl (fun x p d => rvalues_c _ _ _ _ _ (by first | assumption | exact ROs.wide (by assumption) | exact ROs.mono (by assumption) (eqh_at 0 rfl p d) | exact ros_at 0 rfl p d | exact ros_at 1 rfl p d | exact ros_at 2 rfl p d | exact ros_at 3 rfl p d | exact ros_at 4 rfl p d) (by first | assumption | omega | exact Nat.zero_le _ | decide) (by first | assumption | omega | decide) (by first | assumption | omega | decide)) (by repeat' constructor) ?_
  refine WL.nil (W.seq (W.region (WL.mv rfl rfl ?_)))
  refine WL.callF rfl rfl (fun x p d => rwbytes_c _ _ _ (by repeat' first | assumption | exact bok_nil | exact bitsOf_bit _ _ | apply bok_app) (by first | assumption | exact In.wide (by assumption) | exact In.mono (by assumption) (eqh_at 0 rfl p d) | exact in_at 0 rfl p d | exact in_at 1 rfl p d | exact in_at 2 rfl p d | exact in_at 3 rfl p d | exact in_at 4 rfl p d) (by first | omega | (simp only [List.length_append, bitsOf_len, List.length_nil, heldF]; omega))) (fun u1 => ?_)
  refine WL.fact (i := 0) rfl (fun h hb => Buf.slm hb) (fun hsl1 => ?_)
  refine WL.as rfl rfl (WL.as rfl rfl (WL.nil ?_))
  rw [List.nil_append] at *
  exact W.fit (Hs' := [Buf 1 _ ((pack (encX vs)).map bcell)]) (by (repeat' first | exact Sel.nil | apply Sel.k | exact Pick.h | apply Pick.t)) (W.ret2 rfl rfl rfl (fun h q => ⟨_, ⟨rfl, by assumption⟩, q⟩))
theorem renc_t (ρ : Hp) (v : Value) (l : List Smp) (r0 : ROs ρ 2 v (l.flatMap smC)) (ho : SmOK l) (hl : l.length ≤ 65535) (hr : risB l = true) (hT : TabG ρ) :
    Fn Tryz.prog 23 #[.int .i64 1, v] ρ [] (fun r h => ∃ v, (r = .tuple #[v, .bool true] ∧ SL v (sB l).length) ∧ sepl [Buf 1 v ((sB l).map bcell)] h) := by
  have l1 := sms_cells l
  have s0 : SL v l.length := r0.sl l1 (by omega)
  have htl := tms_len l
  have hvl := vls_len l
  have hvv := ho.v
  have hel := encTs_len (tms l)
  have heb := encTs_bit (tms l)
  have hxl := encX_len (vls l) hvv
  have htb := tB_len l
  have hp9 := vput9_len (tB l).length
  have hxb := xB_len ho
  have hw : IntKind.u64.wrap (((tB l).length : Nat) : Int) = (((tB l).length : Nat) : Int) := wrap_u64 ⟨by omega, by omega⟩
  refine in23 rfl rfl ?_
  refine W.seq (W.region (WL.as rfl rfl (WL.as rfl rfl (WL.nil (W.seq (W.region (WL.mv rfl rfl (WL.mv rfl rfl ?_))))))))
  refine WL.callF rfl rfl (fun x p d => rvals_c _ _ _ (by first | assumption | exact ROs.wide (by assumption) | exact ROs.mono (by assumption) (eqh_at 0 rfl p d) | exact ros_at 0 rfl p d | exact ros_at 1 rfl p d | exact ros_at 2 rfl p d | exact ros_at 3 rfl p d | exact ros_at 4 rfl p d) (by assumption) (by first | assumption | omega)) (fun u0 => ?_)
  refine WL.fact (i := 0) rfl (fun h hb => Buf.slm hb) (fun hsl0 => ?_)
  refine WL.callF rfl rfl (fun x p d => rtold_c _ _ _ (by first | assumption | exact ROs.wide (by assumption) | exact ROs.mono (by assumption) (eqh_at 0 rfl p d) | exact ros_at 0 rfl p d | exact ros_at 1 rfl p d | exact ros_at 2 rfl p d | exact ros_at 3 rfl p d | exact ros_at 4 rfl p d) (by assumption) (by first | assumption | omega) (TabG.wide (by assumption))) (fun r1 => ?_)
  refine WL.opens (α := Value) (φ := fun v => r1 = .tuple #[v, .bool true] ∧ SL v _) (ps := fun v => [Buf 1 v _]) 0 rfl (fun h q => q) (by repeat' constructor) ?_
  rintro u1 ⟨es1, su1⟩
  subst es1
  dsimp only [List.cons_append, List.nil_append] at su1 ⊢
  refine WL.mv rfl rfl (WL.extL rfl rfl rfl (WL.extL rfl rfl rfl (WL.as rfl rfl (WL.as rfl rfl (WL.nil (W.seq (W.seq (W.region (WL.mv rfl rfl (WL.not rfl rfl (WL.mv rfl rfl (WL.gY rfl rfl (WL.mv rfl rfl ?_)))))))))))))
  refine WL.gY rfl rfl ?_
  refine WL.callV rfl rfl (fun x p d => rrise_e _ _ _ _ (by first | assumption | exact ROs.wide (by assumption) | exact ROs.mono (by assumption) (eqh_at 0 rfl p d) | exact ros_at 0 rfl p d | exact ros_at 1 rfl p d | exact ros_at 2 rfl p d | exact ros_at 3 rfl p d | exact ros_at 4 rfl p d) (by first | assumption | omega) (by assumption)) ?_
  refine WL.gY rfl rfl (WL.not rfl rfl (WL.pickF rfl rfl rfl (WL.nil (W.condF rfl (W.skip (W.seq (W.region ?_)))))))
  refine WL.bdC (T := Ty) rfl rfl rfl rfl (by repeat' first | exact CO.nil | apply CO.one (by first | rfl | exact SL.one (by assumption)) | apply CO.agg) rfl (by repeat' constructor) ?_
  refine WL.bxF rfl rfl (by repeat' constructor) (fun b2 => ?_)
  refine WL.as rfl rfl (WL.nil (W.seq (W.region (WL.as rfl rfl (WL.nil (W.seq (W.seq (W.region (WL.as rfl rfl (WL.nil (W.block (W.nb (sz := 1) ?_))))))))))))
  refine W.loopS (σ := Nat × Value) (fun s => [(1, v), (6, u1), (8, .pointer (some ⟨b2, 0, none⟩)), (9, s.2), (10, .int .i64 (s.1 : Int))]) (fun s => [Buf 1 s.2 ((tms (l.take s.1)).map (Value.int .i64)), box b2 [nilV] 73, Buf 1 u1 ((pack (encX (vls l))).map bcell), Buf 1 u0 ((vls l).map ucell)])
    (fun s => s.1 ≤ l.length ∧ SL s.2 (tms (l.take s.1)).length) (fun s => l.length - s.1) (0, nilV) ⟨rfl, rfl, rfl, rfl, rfl, trivial⟩ (by unfold tms; rfl) ⟨Nat.zero_le _, by unfold tms; exact slZ⟩ ?_
  rintro ⟨i, u⟩ ⟨hi, su⟩ next
  dsimp only at hi su next ⊢
  have lv1 : (tms (l.take i)).length = i := by rw [tms_len, List.length_take]; omega
  by_cases hc : i < l.length
  · obtain ⟨q, hq⟩ : ∃ q, l[i]? = some q := ⟨_, List.getElem?_eq_getElem hc⟩
    have cb : (l.flatMap smC)[((i : Nat) : Int).toNat * 2 + 0]? = some (.int .i64 q.1) := flat_get sm_len hq rfl
    have e2 := tms_row hq
    have e3 : (tms (l.take i)).map (Value.int .i64) ++ [Value.int .i64 q.1] = (tms (l.take (i + 1))).map (Value.int .i64) := by rw [← e2, List.map_append]; rfl
    have e4 : (tms (l.take (i + 1))).length = i + 1 := by rw [← e2, List.length_append, lv1]; rfl
    refine W.seq (W.seq (W.region (WL.mv rfl rfl (WL.mv rfl rfl ?_))))
    refine WL.len (T := Ty) rfl rfl (by assumption) rfl ?_
    refine WL.lss rfl rfl rfl (WL.nil (W.condpT rfl (by omega) (W.skip (W.seq (W.block (W.region (WL.mv rfl rfl (WL.mv rfl rfl (WL.mv rfl rfl ?_)))))))))
    refine WL.ix (T := Ty) rfl rfl rfl (by assumption) rfl rfl (by omega) (by first | omega | decide +kernel) ?_
    refine WL.faEN (T := Ty) (off' := 0) rfl rfl rfl rfl rfl rfl rfl ?_
    refine WL.ldR (T := Ty) rfl rfl rfl rfl (by first | assumption | exact ROs.wide (by assumption)) (by assumption) ?_
    refine WL.bsC (T := Ty) rfl rfl rfl rfl rfl rfl rfl (by repeat' first | exact CO.nil | apply CO.one (by first | rfl | exact SL.one (by assumption)) | apply CO.agg) rfl (by repeat' constructor) (fun u3 hu3 => ?_)
    refine WL.ap1 (T := Ty) (i := 0) rfl rfl rfl rfl rfl rfl rfl rfl (by assumption) (by first | rfl | assumption) (by first | omega | (simp; omega) | (simp only [List.length_drop, List.length_take]; omega)) (by first | omega | (simp; omega) | (simp only [List.length_drop, List.length_take]; omega)) (fun v' => (by repeat' constructor)) (fun u4 hu4 => ?_)
    refine WL.as rfl rfl (WL.nil (W.inBlock (W.region (WL.mv rfl rfl (WL.addK rfl rfl rfl (wrap_i64 ⟨by omega, by omega⟩) (WL.as rfl rfl (WL.nil ?_)))))))
    rw [e3]
    refine W.fit (by (repeat' first | exact Sel.nil | apply Sel.k | exact Pick.h | apply Pick.t)) (W.sub ?_ (next ⟨i + 1, _⟩ ⟨by dsimp only; omega, by dsimp only; rw [e4]; rw [List.length_map, lv1] at *; assumption⟩ (by dsimp only; omega)))
    exact ⟨rfl, rfl, rfl, rfl, rfl, trivial⟩
  · have hci : i = l.length := by omega
    subst hci
    rw [List.take_length]
    refine W.seq (W.seq (W.region (WL.mv rfl rfl (WL.mv rfl rfl ?_))))
    refine WL.len (T := Ty) rfl rfl (by assumption) rfl ?_
    refine WL.lss rfl rfl rfl (WL.nil (W.condpF rfl (by omega) (W.exit rfl (W.seq (W.region (WL.mv rfl rfl (WL.mv rfl rfl ?_)))))))
    refine WL.bring 1 rfl (by repeat' constructor) ?_
    refine WL.intoRWr rfl ?_
    refine WL.callM 0 rfl rfl rfl (fun x p d => rtenc_c _ _ _ _ _ (by first | assumption | exact ROs.wide (by assumption) | exact ROs.mono (by assumption) (eqh_at 0 rfl p d) | exact ros_at 0 rfl p d | exact ros_at 1 rfl p d | exact ros_at 2 rfl p d | exact ros_at 3 rfl p d | exact ros_at 4 rfl p d) (by first | assumption | omega | exact Nat.zero_le _ | decide) (by first | assumption | omega | decide)) (by repeat' constructor) ?_
    refine WL.nil (W.seq (W.region (WL.mv rfl rfl ?_)))
    refine WL.callF rfl rfl (fun x p d => rwbytes_c _ _ _ (by repeat' first | assumption | exact bok_nil | exact bitsOf_bit _ _ | apply bok_app) (by first | assumption | exact In.wide (by assumption) | exact In.mono (by assumption) (eqh_at 0 rfl p d) | exact in_at 0 rfl p d | exact in_at 1 rfl p d | exact in_at 2 rfl p d | exact in_at 3 rfl p d | exact in_at 4 rfl p d) (by first | omega | (simp only [List.length_append, bitsOf_len, List.length_nil, heldF]; omega))) (fun u3 => ?_)
    refine WL.fact (i := 0) rfl (fun h hb => Buf.slm hb) (fun hsl3 => ?_)
    refine WL.as rfl rfl (WL.nil (W.seq (W.region (WL.mv rfl rfl ?_))))
    refine WL.len (T := Ty) rfl rfl (by assumption) rfl ?_
    refine WL.cv (T := Ty) rfl rfl rfl rfl ?_
    rw [List.nil_append, show pack (encTs (tms l)) = tB l from rfl, show pack (encX (vls l)) = xB l from rfl, hw]
    refine WL.callF rfl rfl (fun x p d => rput_z _ _ (by first | assumption | omega)) (fun u4 => ?_)
    refine WL.fact (i := 0) rfl (fun h hb => Buf.slm hb) (fun hsl4 => ?_)
    refine WL.mv rfl rfl ?_
    refine WL.apMM (T := Ty) (i := 0) rfl rfl rfl rfl rfl rfl rfl (by first | exact .ro (by assumption) | exact .ro (ROs.wide (by assumption)) | exact .eqJ 0 rfl (by assumption) | exact .own 0 rfl | exact .own 1 rfl | exact .own 2 rfl | exact .own 3 rfl | exact .own 4 rfl | exact .own 5 rfl) (by first | assumption | exact ROs.slm (by assumption)) (fun _ => rfl) (by first | omega | (simp; omega) | (simp only [List.length_drop, List.length_take]; omega)) (by first | omega | (simp; omega) | (simp only [List.length_drop, List.length_take]; omega)) (fun v' => (by repeat' constructor)) (fun u5 hu5 => ?_)
    refine WL.mv rfl rfl ?_
    refine WL.apMM (T := Ty) (i := 0) rfl rfl rfl rfl rfl rfl rfl (by first | exact .ro (by assumption) | exact .ro (ROs.wide (by assumption)) | exact .eqJ 0 rfl (by assumption) | exact .own 0 rfl | exact .own 1 rfl | exact .own 2 rfl | exact .own 3 rfl | exact .own 4 rfl | exact .own 5 rfl) (by first | assumption | exact ROs.slm (by assumption)) (fun _ => rfl) (by first | omega | (simp; omega) | (simp only [List.length_drop, List.length_take]; omega)) (by first | omega | (simp; omega) | (simp only [List.length_drop, List.length_take]; omega)) (fun v' => (by repeat' constructor)) (fun u6 hu6 => ?_)
    refine WL.as rfl rfl (WL.as rfl rfl (WL.nil ?_))
    exact W.fit (Hs' := [Buf 1 _ ((sB l).map bcell)]) (by (repeat' first | exact Sel.nil | apply Sel.k | exact Pick.h | apply Pick.t)) (W.ret2 rfl rfl rfl (fun h q => ⟨_, ⟨rfl, by assumption⟩, q⟩))
end Go.Proofs.YtdpnpipninggeaaGreatDoor
/- Samples that come: a chunk, as the document makes it. -/
set_option linter.unusedSimpArgs false
set_option linter.unusedVariables false
set_option maxRecDepth 20000
set_option maxHeartbeats 4000000
namespace Go.Proofs.YtdpnpipninggeaaGreatDoor
open Go
attribute [local irreducible] W WL Fn Buf ROs SL eptr box Rd Src bndOK WD RB Reads In Own mkC chk encTs encX pack vputF risB tblL sumR AG tms vls vlI sB frsT lstT
theorem rmk_t (ρ : Hp) (v : Value) (l : List Smp) (r0 : ROs ρ 2 v (l.flatMap smC)) (ho : SmOK l) (hl : l.length ≤ 65535) (hr : risB l = true) (hn : l ≠ []) (hT : TabG ρ) :
    Fn Tryz.prog 13 #[.int .i64 1, v] ρ [] (fun r h => ∃ v, (r = .tuple #[v, .bool true] ∧ SL v (chk l).length) ∧ sepl [Buf 1 v ((chk l).map bcell)] h) := by
  have l1 := sms_cells l
  have s0 : SL v l.length := r0.sl l1 (by omega)
  have hp : 0 < l.length := List.length_pos_iff.2 hn
  have c0 := frs_cell hn
  have c1 := lst_cell hn
  have o0 := frs_ok ho
  have o1 := lst_ok ho
  have z0 := zig_lt _ o0
  have z1 := zig_lt _ o1
  have hw : IntKind.u64.wrap ((l.length : Nat) : Int) = ((l.length : Nat) : Int) := wrap_u64 ⟨by omega, by omega⟩
  have hsl := sB_len ho
  have hbl := hB_lt ho hl
  have hb2 := hB_len ho
  have hv1 : ([1] : List Nat).length = 1 := rfl
  have hv2 : ([1] : List Nat).length + 10 ≤ 140737488355328 := by decide
  have p1 := vput9_len l.length
  have p2 := vput9_len (zigF (frsT l))
  have p3 := vput9_len (zigF (lstT l))
  refine in13 rfl rfl ?_
  refine W.seq (W.region (WL.as rfl rfl (WL.as rfl rfl (WL.nil (W.seq (W.region (WL.mv rfl rfl (WL.mv rfl rfl ?_))))))))
  refine WL.callF rfl rfl (fun x p d => renc_t _ _ _ (by first | assumption | exact ROs.wide (by assumption) | exact ROs.mono (by assumption) (eqh_at 0 rfl p d) | exact ros_at 0 rfl p d | exact ros_at 1 rfl p d | exact ros_at 2 rfl p d | exact ros_at 3 rfl p d | exact ros_at 4 rfl p d) (by assumption) (by first | assumption | omega) (by assumption) (TabG.wide (by assumption))) (fun r0 => ?_)
  refine WL.opens (α := Value) (φ := fun v => r0 = .tuple #[v, .bool true] ∧ SL v _) (ps := fun v => [Buf 1 v _]) 0 rfl (fun h q => q) (by repeat' constructor) ?_
  rintro u0 ⟨es0, su0⟩
  subst es0
  dsimp only [List.cons_append, List.nil_append] at su0 ⊢
  refine WL.mv rfl rfl (WL.extL rfl rfl rfl (WL.extL rfl rfl rfl (WL.as rfl rfl (WL.as rfl rfl (WL.nil (W.seq (W.seq (W.region (WL.mv rfl rfl (WL.not rfl rfl (WL.mv rfl rfl (WL.gY rfl rfl (WL.mv rfl rfl ?_)))))))))))))
  refine WL.gY rfl rfl ?_
  refine WL.len (T := Ty) rfl rfl (by assumption) rfl ?_
  refine WL.gY rfl rfl (WL.eql rfl rfl rfl (WL.pickF rfl rfl rfl (WL.nil (W.condpF rfl (by omega) (W.skip (W.seq (W.region (WL.mv rfl rfl (WL.cvK (T := Ty) rfl rfl rfl rfl (wrap_u8 ⟨by omega, by omega⟩) ?_)))))))))
  refine WL.bsC (T := Ty) rfl rfl rfl rfl rfl rfl rfl (by repeat' first | exact CO.nil | apply CO.one (by first | rfl | exact SL.one (by assumption)) | apply CO.agg) rfl (by repeat' constructor) (fun u1 hu1 => ?_)
  refine WL.mv rfl rfl ?_
  refine WL.len (T := Ty) rfl rfl (by assumption) rfl ?_
  refine WL.cvK (T := Ty) rfl rfl rfl rfl (wrap_u64 ⟨by omega, by omega⟩) (WL.reC bcell [1] rfl ?_)
  refine WL.callF rfl rfl (fun x p d => rput_c _ _ _ _ (by first | assumption | exact ROs.wide (by assumption) | exact ROs.mono (by assumption) (eqh_at 0 rfl p d) | exact ros_at 0 rfl p d | exact ros_at 1 rfl p d | exact ros_at 2 rfl p d | exact ros_at 3 rfl p d | exact ros_at 4 rfl p d) (by first | assumption | omega) (by first | assumption | omega | (simp only [List.length_append]; omega))) (fun u2 => ?_)
  refine WL.fact (i := 0) rfl (fun h hb => Buf.slm hb) (fun hsl2 => ?_)
  refine WL.as rfl rfl (WL.nil (W.seq ?_))
  refine W.drawA 16 rfl (fun σ0 hσ0 dσ0 => ?_)
  have fσ0_0 := ros_at 0 rfl hσ0 dσ0
  have fσ0_1 := ros_at 1 rfl hσ0 dσ0
  have fσ0_2 := ros_at 2 rfl hσ0 dσ0
  refine WD.takeL 0 rfl (by decide +kernel) (WL.mv rfl rfl (WL.nilT (WD.takeL 1 rfl (by decide +kernel) (WL.mv rfl rfl (WL.nilT (WD.takeL 2 rfl (by decide +kernel) ?_))))))
  refine WL.ix (T := Ty) rfl rfl rfl (by assumption) rfl rfl (by omega) (by first | omega | decide +kernel) ?_
  refine WL.nilT (WD.takeL 3 rfl (by decide +kernel) (WL.faEN (T := Ty) (off' := 0) rfl rfl rfl rfl rfl rfl rfl (WL.nilT (WD.takeL 4 rfl (by decide +kernel) ?_))))
  refine WL.ldR (T := Ty) rfl rfl rfl rfl (by first | assumption | exact ROs.wide (by assumption)) (by assumption) ?_
  refine WL.nilT (WD.takeL 7 rfl (by decide +kernel) (WL.mv rfl rfl (WL.nilT (WD.takeL 8 rfl (by decide +kernel) (WL.mv rfl rfl (WL.nilT (WD.takeL 9 rfl (by decide +kernel) ?_)))))))
  refine WL.len (T := Ty) rfl rfl (by assumption) rfl ?_
  refine WL.nilT (WD.takeL 10 rfl (by decide +kernel) (WL.subK rfl rfl rfl (wrap_i64 ⟨by omega, by omega⟩) (WL.nilT (WD.takeL 11 rfl (by decide +kernel) ?_))))
  refine WL.ix (T := Ty) rfl rfl rfl (by assumption) rfl rfl (by omega) (by first | omega | decide +kernel) ?_
  refine WL.nilT (WD.takeL 12 rfl (by decide +kernel) (WL.faEN (T := Ty) (off' := 0) rfl rfl rfl rfl rfl rfl rfl (WL.nilT (WD.takeL 13 rfl (by decide +kernel) ?_))))
  refine WL.ldR (T := Ty) rfl rfl rfl rfl (by first | assumption | exact ROs.wide (by assumption)) (by assumption) ?_
  refine WL.nilT (WD.oneL 5 rfl (by decide +kernel) ?_)
  refine WL.callV rfl rfl (fun x p d => rzig_v _ _ (by assumption)) ?_
  refine WL.nilE (WD.oneL 6 rfl (by decide +kernel) ?_)
  refine WL.callF rfl rfl (fun x p d => rput_c _ _ _ _ (by first | assumption | exact ROs.wide (by assumption) | exact ROs.mono (by assumption) (eqh_at 0 rfl p d) | exact ros_at 0 rfl p d | exact ros_at 1 rfl p d | exact ros_at 2 rfl p d | exact ros_at 3 rfl p d | exact ros_at 4 rfl p d) (by first | assumption | omega) (by first | assumption | omega | (simp only [List.length_append]; omega))) (fun u3 => ?_)
  refine WL.fact (i := 0) rfl (fun h hb => Buf.slm hb) (fun hsl3 => ?_)
  refine WL.nilH hσ0 (fun σ1 hσ1 dσ1 mσ1 => ?_)
  have fσ0_0 := fσ0_0.mono mσ1
  have fσ0_1 := fσ0_1.mono mσ1
  have fσ0_2 := fσ0_2.mono mσ1
  have fσ1_0 := ros_at 0 rfl hσ1 dσ1
  refine WD.oneL 14 rfl (by decide +kernel) ?_
  refine WL.callV rfl rfl (fun x p d => rzig_v _ _ (by assumption)) ?_
  refine WL.nilE (WD.oneL 15 rfl (by decide +kernel) ?_)
  refine WL.callF rfl rfl (fun x p d => rput_c _ _ _ _ (by first | assumption | exact ROs.wide (by assumption) | exact ROs.mono (by assumption) (eqh_at 0 rfl p d) | exact ros_at 0 rfl p d | exact ros_at 1 rfl p d | exact ros_at 2 rfl p d | exact ros_at 3 rfl p d | exact ros_at 4 rfl p d) (by first | assumption | omega) (by first | assumption | omega | (simp only [List.length_append]; omega))) (fun u4 => ?_)
  refine WL.fact (i := 0) rfl (fun h hb => Buf.slm hb) (fun hsl4 => ?_)
  refine WL.nilH hσ1 (fun σ2 hσ2 dσ2 mσ2 => ?_)
  have fσ0_0 := fσ0_0.mono mσ2
  have fσ0_1 := fσ0_1.mono mσ2
  have fσ0_2 := fσ0_2.mono mσ2
  have fσ1_0 := fσ1_0.mono mσ2
  have fσ2_0 := ros_at 0 rfl hσ2 dσ2
  refine WD.lastG hσ2 (by decide +kernel) (by repeat' constructor) rfl (by repeat' constructor) ?_
  refine WL.as rfl rfl (WL.nil (W.seq (W.region (WL.mv rfl rfl (WL.mv rfl rfl ?_)))))
  refine WL.apMM (T := Ty) (i := 0) rfl rfl rfl rfl rfl rfl rfl (by first | exact .ro (by assumption) | exact .ro (ROs.wide (by assumption)) | exact .eqJ 0 rfl (by assumption) | exact .own 0 rfl | exact .own 1 rfl | exact .own 2 rfl | exact .own 3 rfl | exact .own 4 rfl | exact .own 5 rfl) (by first | assumption | exact ROs.slm (by assumption)) (fun _ => rfl) (by first | omega | (simp; omega) | (simp only [List.length_drop, List.length_take]; omega)) (by first | omega | (simp; omega) | (simp only [List.length_drop, List.length_take]; omega)) (fun v' => (by repeat' constructor)) (fun u5 hu5 => ?_)
  refine WL.as rfl rfl (WL.nil (W.seq (W.region (WL.mv rfl rfl ?_))))
  rw [show [1] ++ vputF 9 l.length ++ vputF 9 (zigF (frsT l)) ++ vputF 9 (zigF (lstT l)) ++ sB l = hB l from rfl]
  refine WL.callV rfl rfl (fun x p d => rsum_c _ _ _ (by first | assumption | exact ROs.wide (by assumption) | exact ROs.mono (by assumption) (eqh_at 0 rfl p d) | exact ros_at 0 rfl p d | exact ros_at 1 rfl p d | exact ros_at 2 rfl p d | exact ros_at 3 rfl p d | exact ros_at 4 rfl p d) (by assumption) (by first | assumption | omega)) ?_
  refine WL.as rfl rfl (WL.nil (W.seq (W.region (WL.mv rfl rfl (WL.mv rfl rfl (WL.shrS (c := 16777216) rfl rfl rfl (by omega) (by decide) (WL.cv (T := Ty) rfl rfl rfl rfl (WL.mv rfl rfl (WL.shrS (c := 65536) rfl rfl rfl (by omega) (by decide) (WL.cv (T := Ty) rfl rfl rfl rfl (WL.mv rfl rfl (WL.shrS (c := 256) rfl rfl rfl (by omega) (by decide) (WL.cv (T := Ty) rfl rfl rfl rfl ?_)))))))))))))
  refine WL.mv rfl rfl (WL.cv (T := Ty) rfl rfl rfl rfl ?_)
  refine WL.bsC (T := Ty) rfl rfl rfl rfl rfl rfl rfl (by repeat' first | exact CO.nil | apply CO.one (by first | rfl | exact SL.one (by assumption)) | apply CO.agg) rfl (by repeat' constructor) (fun u6 hu6 => ?_)
  rw [be4_cells]
  have su6 : SL u6 (be4 (sumR (hB l))).length := hu6
  have hb4 : (be4 (sumR (hB l))).length = 4 := rfl
  refine WL.apMM (T := Ty) (i := 1) rfl rfl rfl rfl rfl rfl rfl (by first | exact .ro (by assumption) | exact .ro (ROs.wide (by assumption)) | exact .eqJ 0 rfl (by assumption) | exact .own 0 rfl | exact .own 1 rfl | exact .own 2 rfl | exact .own 3 rfl | exact .own 4 rfl | exact .own 5 rfl) (by first | assumption | exact ROs.slm (by assumption)) (fun _ => rfl) (by first | omega | (simp; omega) | (simp only [List.length_drop, List.length_take]; omega)) (by first | omega | (simp; omega) | (simp only [List.length_drop, List.length_take]; omega)) (fun v' => (by repeat' constructor)) (fun u7 hu7 => ?_)
  refine WL.as rfl rfl (WL.as rfl rfl (WL.nil ?_))
  rw [chk_eq] at hu7 ⊢
  exact W.fit (Hs' := [Buf 1 _ ((chk l).map bcell)]) (by (repeat' first | exact Sel.nil | apply Sel.k | exact Pick.h | apply Pick.t)) (W.ret2 rfl rfl rfl (fun h q => ⟨_, ⟨rfl, by assumption⟩, q⟩))
theorem rmk_0 (ρ : Hp) (v : Value) (l : List Smp) (r0 : ROs ρ 2 v (l.flatMap smC)) (ho : SmOK l) (hl : l.length ≤ 65535) (hr : risB l = true) (hn : l = []) (hT : TabG ρ) :
    Fn Tryz.prog 13 #[.int .i64 1, v] ρ [] (fun r h => ∃ v, (r = .tuple #[v, .bool false] ∧ SL v ([] : List Nat).length) ∧ sepl [Buf 1 v (([] : List Nat).map bcell)] h) := by
  have l1 := sms_cells l
  have s0 : SL v l.length := r0.sl l1 (by omega)
  have hp : l.length = 0 := by rw [hn]; rfl
  refine in13 rfl rfl ?_
  refine W.seq (W.region (WL.as rfl rfl (WL.as rfl rfl (WL.nil (W.seq (W.region (WL.mv rfl rfl (WL.mv rfl rfl ?_))))))))
  refine WL.callF rfl rfl (fun x p d => renc_t _ _ _ (by first | assumption | exact ROs.wide (by assumption) | exact ROs.mono (by assumption) (eqh_at 0 rfl p d) | exact ros_at 0 rfl p d | exact ros_at 1 rfl p d | exact ros_at 2 rfl p d | exact ros_at 3 rfl p d | exact ros_at 4 rfl p d) (by assumption) (by first | assumption | omega) (by assumption) (TabG.wide (by assumption))) (fun r0 => ?_)
  refine WL.opens (α := Value) (φ := fun v => r0 = .tuple #[v, .bool true] ∧ SL v _) (ps := fun v => [Buf 1 v _]) 0 rfl (fun h q => q) (by repeat' constructor) ?_
  rintro u0 ⟨es0, su0⟩
  subst es0
  dsimp only [List.cons_append, List.nil_append] at su0 ⊢
  refine WL.mv rfl rfl (WL.extL rfl rfl rfl (WL.extL rfl rfl rfl (WL.as rfl rfl (WL.as rfl rfl (WL.nil (W.seq (W.seq (W.region (WL.mv rfl rfl (WL.not rfl rfl (WL.mv rfl rfl (WL.gY rfl rfl (WL.mv rfl rfl ?_)))))))))))))
  refine WL.gY rfl rfl ?_
  refine WL.len (T := Ty) rfl rfl (by assumption) rfl ?_
  refine WL.gY rfl rfl (WL.eql rfl rfl rfl (WL.pickF rfl rfl rfl (WL.nil (W.condpT rfl (by omega) (W.seq (W.region (WL.as rfl rfl (WL.as rfl rfl (WL.nil (W.nb (sz := 1) ?_))))))))))
  exact W.fit (Hs' := [Buf 1 nilV []]) (by (repeat' first | exact Sel.nil | apply Sel.k | exact Pick.h | apply Pick.t)) (W.ret2 rfl rfl rfl (fun h q => ⟨nilV, ⟨rfl, slZ⟩, q⟩))
/-- a chunk, if there is one, of a row that rises -/
theorem rmk_c (ρ : Hp) (v : Value) (l : List Smp) (r0 : ROs ρ 2 v (l.flatMap smC)) (ho : SmOK l) (hl : l.length ≤ 65535) (hr : risB l = true) (hT : TabG ρ) :
    Fn Tryz.prog 13 #[.int .i64 1, v] ρ [] (fun r h => ∃ v, (r = .tuple #[v, .bool (mkOK l)] ∧ SL v (mkC l).length) ∧ sepl [Buf 1 v ((mkC l).map bcell)] h) := by
  by_cases hn : l = []
  · have e1 : mkOK l = false := by unfold mkOK; rw [hr]; simp [hn]
    have e2 : mkC l = [] := by unfold mkC; rw [e1]; rfl
    rw [e1, e2]
    exact rmk_0 ρ v l r0 ho hl hr hn hT
  · have e1 : mkOK l = true := by unfold mkOK; rw [hr]; simp [hn]
    have e2 : mkC l = chk l := by unfold mkC; rw [if_pos e1]
    rw [e1, e2]
    exact rmk_t ρ v l r0 ho hl hr hn hT
end Go.Proofs.YtdpnpipninggeaaGreatDoor
