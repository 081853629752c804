/- CachKeeps. -/
import Derived.Test.YtdpnpipninggeaaStc
import Derived.Test.YtdpnpipninggeaaNum
import Derived.Test.YtdpnpipninggeaaTab
import Derived.Test.YtdpnpipninggeaaCachAw
import Derived.Test.YtdpnpipninggeaaCachLaw
import Derived.Test.YtdpnpipninggeaaBrg
import Derived.Test.YtdpnpipninggeaaMaps
import Derived.Test.YtdpnpipninggeaaClk0
set_option linter.unusedSimpArgs false
set_option linter.unusedVariables false
set_option maxRecDepth 20000
set_option maxHeartbeats 4000000
namespace Go.Proofs.Ytdpnpipninggeaa
open Go
theorem rosR0k (ρ : Hp) (m : Int) : ROs ρ 7 nilV ((ring0 m).pages.flatMap pgC) := .inl ⟨rfl, rfl⟩
theorem sameL_reflK (L : List Smp) : sameL L L = true := by unfold sameL; simp
/-- what the map holds is what was told last -/
def KeepM (ρ : Hp) (kvs ls : List (Ky × Value)) : Prop := ∀ x v, qget kvs x = some v → ∃ n : Int, qget ls x = some (.int .i64 n) ∧ ROs ρ 2 v ((rowP n).flatMap smC)
theorem KeepM.mono {ρ ρ' : Hp} {kvs ls : List (Ky × Value)} (h : KeepM ρ kvs ls) (le : Le ρ ρ') : KeepM ρ' kvs ls := fun x v e => by
 obtain ⟨n, a, b⟩ := h x v e
 exact ⟨n, a, b.mono le⟩
theorem KeepM.get {ρ : Hp} {kvs ls : List (Ky × Value)} (h : KeepM ρ kvs ls) {x : Ky} {v : Value} (e : qget kvs x = some v) : ∃ n : Int, qget ls x = some (.int .i64 n) ∧ ROs ρ 2 v ((rowP n).flatMap smC) := h x v e
theorem KeepM.put {ρ : Hp} {kvs ls : List (Ky × Value)} (h : KeepM ρ kvs ls) (hn : (kvs.map (·.1)).Nodup) {x : Ky} {v : Value} {n : Int} {out : List Ky} (hv : ROs ρ 2 v ((rowP n).flatMap smC)) :
  KeepM ρ (qset (delsQ kvs out) x v) (qset ls x (.int .i64 n)) := by
 intro y w e
 by_cases hy : y = x
 ·subst hy
  rw [qget_set_same] at e
  cases e
  exact ⟨n, qget_set_same _ _ _, hv⟩
 ·rw [qget_set_other hy] at e
  rw [qget_set_other hy]
  by_cases ho : y ∈ out
  ·rw [qget_mem (fun a => ((dels_mem out kvs y hn).1 a).2 ho)] at e
   cases e
  ·rw [dels_get out kvs y ho] at e
   exact h y w e
theorem keepM_one {ρ : Hp} (k : Ky) {v : Value} {n : Int} (hv : ROs ρ 2 v ((rowP n).flatMap smC)) : KeepM ρ [(k, v)] [(k, .int .i64 n)] := by
 intro y w e
 by_cases hy : y = k
 ·subst hy
  simp [qget] at e
  subst e
  exact ⟨n, by simp [qget], hv⟩
 ·have : qget [(k, v)] y = none := by unfold qget; rw [if_neg (show ¬ (y = (k, v).1) from hy)]; rfl
  rw [this] at e
  cases e
theorem qset_nil (k : Ky) (v : Value) : qset [] k v = [(k, v)] := rfl
theorem cmap_one {m : Int} (h1 : 1 ≤ m) (h2 : m ≤ 8) (k : Ky) (v : Value) : CMap (ring1 m k 1) [(k, v)] := by
 have := (CMap.put (v := v) (CMap.new h1 h2) (admit_new h1 k)).pin k 1
 rw [pin_up] at this
 exact this
attribute [local irreducible] W WL Fn Buf ROs SL eptr box Rd Src bndOK WD RB Reads In Own fndK touchP pinP dropP admitP Qm qget qset qdel delsQ newP ring0 ring1 rowP sameL keyP KeepM
theorem CachKeeps_fn (ρ : Hp) (a0 : Int) (w0 : (Lit.int .i64 a0).wf = true) (v1 : Value) (z1 : List Int) (r1 : ROs ρ 1 v1 (z1.map (Value.int .i64))) (m1 : ∀ n ∈ z1, (Lit.int .i64 n).wf = true) (y1 : z1.length * 8 ≤ 140737488351232) (a2 : Int) (w2 : (Lit.int .i64 a2).wf = true) :
    Fn Try.prog 6 #[.int .i64 a0, v1, .int .i64 a2] ρ [] (fun r _ => r = .bool true) := by
  obtain ⟨f0, f1, f2, hqk⟩ := qkT
  have s1 := r1.slm
  have hm1 : 1 ≤ a0 % (7 + 1) + 1 := by omega
  have hm2 : a0 % (7 + 1) + 1 ≤ 8 := by omega
  obtain ⟨m, hm⟩ : ∃ m : Int, m = a0 % (7 + 1) + 1 := ⟨_, rfl⟩
  rw [← hm] at hm1 hm2
  refine in6 rfl rfl ?_
  have hn6 : (1000000 : Nat) ≤ 1000000 := Nat.le_refl _
  refine W.seq (W.region (WL.as rfl rfl (WL.nil (W.seq (W.region (WL.mv rfl rfl (WL.andI rfl rfl rfl (by decide) (WL.addK rfl rfl rfl (wrap_i64 ⟨by omega, by omega⟩) (WL.as rfl rfl (WL.nil (W.seq (W.region (WL.mv rfl rfl ?_)))))))))))))
  refine WL.callF rfl rfl (fun x p d => newc_c _ _) (fun r0 => ?_)
  refine WL.opens (α := Nat × Nat) (φ := fun x => r0 = pt x.1 0) (ps := fun x => [box x.1 _ 55, Qm .i64 x.2 _]) 0 rfl (fun h q => q) (by repeat' constructor) ?_
  rintro ⟨b0, m0⟩ es0
  subst es0
  dsimp only [List.cons_append, List.nil_append] at *
  refine WL.as rfl rfl (WL.nil (W.seq (W.seq (W.region (WL.mv rfl rfl (WL.eqP (T := Ty) rfl rfl rfl (WL.nil (W.condF rfl (W.skip (W.seq (W.region (WL.mv rfl rfl ?_))))))))))))
  refine WL.callV rfl rfl (fun x p d => key15_c _ _) ?_
  refine WL.alF (T := Ty) rfl rfl (by repeat' constructor) (fun b1 => ?_)
  refine WL.stAO (T := Ty) (j := 0) rfl rfl rfl rfl (by repeat' first | exact AO.nil | apply AO.cons (by first | rfl | exact SL.one (by assumption))) rfl rfl (by repeat' constructor) (by repeat' constructor) ?_
  refine WL.nil (W.seq (W.seq ?_))
  rw [← hm, newP_ring hm1 hm2]
  generalize hk : keyP a2 = k
  clear hk
  have d0 := admit_new hm1 k
  have p0 := pin_up m k
  have B0 := (ring0B hm1 hm2).B
  have R0 := (ring0B hm1 hm2).R
  have B1 := (ring1B hm1 hm2 k).B
  have l0 : (ring0 m).pages.length ≤ 10000 := by unfold ring0; exact Nat.zero_le _
  have rr := rosR0k ρ m
  have hrl := rowP_len 7
  refine W.cutG (τ := Value × Value) (fun s => [(0, .int .i64 m), (1, v1), (7, pt b0 0), (8, pt b1 0), (35, .bool false)])
    (fun s => [box b1 [.int .i64 k.a, .int .i64 k.b, .int .i64 k.c] 28, box b0 [.int .i64 (ring1 m k 1).most, .int .i64 (ring1 m k 1).target, s.1, .int .i64 ((ring1 m k 1).hot : Int), .int .i64 ((ring1 m k 1).cold : Int), .int .i64 ((ring1 m k 1).test : Int), .map (some m0)] 55, Qm .i64 m0 [(k, s.2)], Buf 2 s.2 ((rowP 7).flatMap smC), Buf 7 s.1 ((ring1 m k 1).pages.flatMap pgC)]) (fun s ρ' => True) ?_ (fun cut0 => ?_)
  · rintro ⟨v, kv⟩ ρ1 le1 _
    dsimp only
    refine W.condF rfl (W.skip (W.seq (W.region ?_)))
    refine WL.mkQm .i64 rfl (fun m3 => ?_)
    refine WL.ldAF (T := Ty) (j := 1) rfl rfl rfl rfl rfl rfl (by repeat' constructor) ?_
    refine WL.inQO (T := Ty) (j := 0) rfl rfl rfl rfl (by assumption) rfl (by first | assumption | rfl) (by repeat' constructor) ?_
    refine WL.mv rfl rfl (WL.as rfl rfl (WL.nil (W.seq (W.seq (W.region (WL.as rfl rfl (WL.nil (W.block ?_))))))))
    rw [qset_nil]
    refine W.freeze 5 rfl (by repeat' constructor) (fun ρ2 le2 in2 => ?_)
    refine W.freeze 4 rfl (by repeat' constructor) (fun ρ3 le3 in3 => ?_)
    have rp := (in2.mono le3).ros
    have rk := in3.ros
    clear in2 in3
    refine W.fit (Hs' := [box b1 _ _, box b0 _ _, Qm _ m0 _, Qm _ m3 _]) (by (repeat' first | exact Sel.nil | apply Sel.k | exact Pick.h | apply Pick.t)) ?_
    refine W.loopR (σ := Nat × Clk × Value × List (Ky × Value) × List (Ky × Value)) (fun s => [(0, .int .i64 m), (1, v1), (7, pt b0 0), (8, pt b1 0), (9, .map (some m3)), (10, .int .i64 (s.1 : Int))])
      (fun s => [box b1 [.int .i64 k.a, .int .i64 k.b, .int .i64 k.c] 28, box b0 [.int .i64 s.2.1.most, .int .i64 s.2.1.target, s.2.2.1, .int .i64 (s.2.1.hot : Int), .int .i64 (s.2.1.cold : Int), .int .i64 (s.2.1.test : Int), .map (some m0)] 55, Qm .i64 m0 s.2.2.2.1, Qm .i64 m3 s.2.2.2.2])
      (fun s ρ' => s.1 ≤ 100 ∧ KeepI m k s.2.1 ∧ CMap s.2.1 s.2.2.2.1 ∧ KeepM ρ' s.2.2.2.1 s.2.2.2.2 ∧ ROs ρ' 7 s.2.2.1 (s.2.1.pages.flatMap pgC)) (fun s => 100 - s.1)
      (0, ring1 m k 1, v, [(k, kv)], [(k, .int .i64 7)]) ⟨rfl, rfl, rfl, rfl, rfl, rfl, trivial⟩ rfl ⟨Nat.zero_le _, KeepI.one hm1 hm2 k, cmap_one hm1 hm2 k kv, keepM_one k rk, rp⟩ ?_
    rintro ⟨i, c, v, kvs, ls⟩ ρ4 le4 ⟨hi, hI, hC, hM, rc⟩ next
    dsimp only at hi hI hC hM rc next ⊢
    replace r1 := (((r1.mono le1).mono le2).mono le3).mono le4
    clear rk rp d0 p0 B0 R0 B1 l0 rr hrl
    have hB := hI.b.B
    have hR := hI.b.R
    have hl4 : c.pages.length ≤ 10000 := by have := hI.b.len; omega
    by_cases hc : i < z1.length ∧ i < 100
    · obtain ⟨hc1, hc2⟩ := hc
      refine W.seq (W.seq (W.region (WL.mv rfl rfl (WL.mv rfl rfl ?_))))
      refine WL.len (T := Ty) rfl rfl (by assumption) rfl ?_
      refine WL.lss rfl rfl rfl (WL.mv rfl rfl (WL.gT rfl rfl (by omega) (WL.mv rfl rfl (WL.gT rfl rfl (by omega) (WL.lss rfl rfl rfl (WL.pickTp rfl rfl (by omega) rfl (WL.nil (W.condpT rfl (by omega) (W.skip (W.seq (W.block (W.seq (W.region ?_)))))))))))))
      refine WL.mv rfl rfl (WL.mv rfl rfl ?_)
      refine WL.ix (T := Ty) rfl rfl rfl (by assumption) rfl rfl (by omega) (by first | omega | decide +kernel) ?_
      refine WL.ldRz (T := Ty) rfl rfl rfl rfl (by first | assumption | exact ROs.wide (by assumption)) (by first | omega | decide +kernel) ?_
      refine WL.shrS (c := 8) rfl rfl rfl (by omega) (by decide) ?_
      refine WL.callV rfl rfl (fun x p d => key15_c _ _) ?_
      refine WL.alF (T := Ty) rfl rfl (by repeat' constructor) (fun b2 => ?_)
      refine WL.stAO (T := Ty) (j := 0) rfl rfl rfl rfl (by repeat' first | exact AO.nil | apply AO.cons (by first | rfl | exact SL.one (by assumption))) rfl rfl (by repeat' constructor) (by repeat' constructor) ?_
      refine WL.nil (W.seq (W.seq (W.region (WL.mv rfl rfl (WL.mv rfl rfl ?_)))))
      refine WL.ix (T := Ty) rfl rfl rfl (by assumption) rfl rfl (by omega) (by first | omega | decide +kernel) ?_
      refine WL.ldRz (T := Ty) rfl rfl rfl rfl (by first | assumption | exact ROs.wide (by assumption)) (by first | omega | decide +kernel) ?_
      refine WL.andI rfl rfl rfl (by decide) (WL.eql rfl rfl rfl (WL.nil ?_))
      generalize hx : keyP (z1.getD i 0 / 8) = x
      clear hx
      refine W.cutG (τ := Clk × Value × List (Ky × Value) × List (Ky × Value)) (fun s => [(0, .int .i64 m), (1, v1), (7, pt b0 0), (8, pt b1 0), (9, .map (some m3)), (10, .int .i64 (i : Int))])
        (fun s => [box b1 [.int .i64 k.a, .int .i64 k.b, .int .i64 k.c] 28, box b0 [.int .i64 s.1.most, .int .i64 s.1.target, s.2.1, .int .i64 (s.1.hot : Int), .int .i64 (s.1.cold : Int), .int .i64 (s.1.test : Int), .map (some m0)] 55, Qm .i64 m0 s.2.2.1, Qm .i64 m3 s.2.2.2])
        (fun s ρ' => KeepI m k s.1 ∧ CMap s.1 s.2.2.1 ∧ KeepM ρ' s.2.2.1 s.2.2.2 ∧ ROs ρ' 7 s.2.1 (s.1.pages.flatMap pgC)) ?_ (fun cut1 => ?_)
      · clear hI hC hM rc hB hR hl4 kvs ls v c
        rintro ⟨c, v, kvs, ls⟩ ρ5 le5 ⟨hI, hC, hM, rc⟩
        dsimp only at hI hC hM rc ⊢
        have hB := hI.b.B
        have hR := hI.b.R
        have hl4 : c.pages.length ≤ 10000 := by have := hI.b.len; omega
        have ht : touchP c k = ((touchP c k).1, true) := by rw [← (touch_ok hI.b k).2 hI.kr]
        have hI2 := hI.touch k
        have hC2 := hC.touch k
        obtain ⟨w, hw⟩ := qget_in ((hC.m k).2 hI.kr)
        obtain ⟨n, hn, rw'⟩ := hM.get hw
        have hzz := sameL_reflK (rowP n)
        have hrl := rowP_len n
        have hfr := hC.len
        obtain ⟨hf1, hf2⟩ := hI.res
        have hf3 : 1 ≤ kvs.length := by omega
        have hf4 : (kvs.length : Int) ≤ m := by omega
        generalize (touchP c k).1 = d at ht hI2 hC2
        refine W.seq (W.region (WL.mv rfl rfl ?_))
        refine WL.ldAF (T := Ty) (j := 0) rfl rfl rfl rfl rfl rfl (by repeat' constructor) ?_
        refine WL.callTk (Take.cons 1 rfl (Take.cons 1 rfl Take.nil)) rfl rfl (fun x p d => getYX_c _ _ _ _ _ _ _ _ _ _ _ _ (by assumption) (by first | assumption | exact ROs.wide (by assumption) | exact ROs.mono (by assumption) (eqh_at 0 rfl p d) | exact ros_at 0 rfl p d | exact ros_at 1 rfl p d | exact ros_at 2 rfl p d | exact ros_at 3 rfl p d | exact ros_at 4 rfl p d) (by assumption) (by assumption) (by first | assumption | exact ROs.wide (by assumption) | exact ROs.mono (by assumption) (eqh_at 0 rfl p d) | exact ros_at 0 rfl p d | exact ros_at 1 rfl p d | exact ros_at 2 rfl p d | exact ros_at 3 rfl p d | exact ros_at 4 rfl p d) (by first | assumption | omega | decide)) (by repeat' constructor) (fun r3 => ?_)
        refine WL.opens (α := Value × Value) (φ := fun x => r3 = .tuple #[x.2, .bool true] ∧ SL x.1 _ ∧ SL x.2 _) (ps := fun x => [_, Buf 7 x.1 _, Qm .i64 _ _, Buf 2 x.2 _]) 0 rfl (fun h q => q) (by repeat' constructor) ?_
        rintro ⟨u3, kv3⟩ ⟨es3, su3, sk3⟩
        subst es3
        dsimp only [List.cons_append, List.nil_append] at su3 sk3 ⊢
        refine WL.mv rfl rfl (WL.extL rfl rfl rfl (WL.extL rfl rfl rfl (WL.as rfl rfl (WL.as rfl rfl (WL.nil (W.seq (W.region (WL.mv rfl rfl (WL.not rfl rfl (WL.mv rfl rfl (WL.gY rfl rfl (WL.mv rfl rfl (WL.gY rfl rfl ?_)))))))))))))
        refine WL.mv rfl rfl (WL.gY rfl rfl ?_)
        refine WL.ldAF (T := Ty) (j := 4) rfl rfl rfl rfl rfl rfl (by repeat' constructor) ?_
        refine WL.gY rfl rfl ?_
        refine WL.luQO (T := Ty) (j := 5) rfl rfl rfl rfl (by assumption) rfl rfl (by first | rw [‹qget _ _ = some _›] | rw [‹qget _ _ = none›]) ?_
        refine WL.gY rfl rfl ?_
        refine WL.callF rfl rfl (fun x p d => row16_c _ _) (fun u4 => ?_)
        refine WL.fact (i := 0) rfl (fun h hb => hb.sl (sms_cells _) (by omega)) (fun hsl4 => ?_)
        refine WL.gY rfl rfl ?_
        refine WL.callV rfl rfl (fun x p d => refM_e _ _ _ _ _ _ (by first | assumption | exact ROs.wide (by assumption) | exact ROs.mono (by assumption) (eqh_at 0 rfl p d) | exact ros_at 0 rfl p d | exact ros_at 1 rfl p d | exact ros_at 2 rfl p d | exact ros_at 3 rfl p d | exact ros_at 4 rfl p d) (by first | assumption | exact ROs.wide (by assumption) | exact ROs.mono (by assumption) (eqh_at 0 rfl p d) | exact ros_at 0 rfl p d | exact ros_at 1 rfl p d | exact ros_at 2 rfl p d | exact ros_at 3 rfl p d | exact ros_at 4 rfl p d) (by first | assumption | omega) (by assumption)) ?_
        refine WL.gY rfl rfl (WL.not rfl rfl (WL.pickF rfl rfl rfl (WL.mv rfl rfl (WL.gY rfl rfl (WL.mv rfl rfl (WL.gY rfl rfl ?_))))))
        refine WL.callTk (Take.cons 1 rfl (Take.cons 2 rfl Take.nil)) rfl rfl (fun x p d => frames_e _ _ _ _ _ _ _ (by first | assumption | exact hFr _)) (by repeat' constructor) (fun r5 => ?_)
        refine WL.opens (α := Unit) (φ := fun _ => r5 = .int .i64 _) (ps := fun _ => [_, Qm .i64 _ _]) 0 rfl (fun h q => ⟨(), q⟩) (by repeat' constructor) ?_
        rintro _ es5
        subst es5
        dsimp only [List.cons_append, List.nil_append]
        refine WL.gY rfl rfl (WL.mv rfl rfl (WL.gY rfl rfl (WL.gtr rfl rfl rfl (WL.pickF rfl rfl rfl (WL.mv rfl rfl (WL.gF rfl rfl (by omega) (WL.mv rfl rfl (WL.gF rfl rfl (by omega) ?_))))))))
        refine WL.callTk (Take.cons 0 rfl (Take.cons 0 rfl Take.nil)) rfl rfl (fun x p d => frames_e _ _ _ _ _ _ _ (by first | assumption | exact hFr _)) (by repeat' constructor) (fun r5 => ?_)
        refine WL.opens (α := Unit) (φ := fun _ => r5 = .int .i64 _) (ps := fun _ => [_, Qm .i64 _ _]) 0 rfl (fun h q => ⟨(), q⟩) (by repeat' constructor) ?_
        rintro _ es5
        subst es5
        dsimp only [List.cons_append, List.nil_append]
        refine WL.gF rfl rfl (by omega) (WL.lss rfl rfl rfl (WL.pickFp rfl rfl (by omega) rfl (WL.nil (W.condpF rfl (by omega) (W.skip (W.inBlock (W.region (WL.mv rfl rfl (WL.addK rfl rfl rfl (wrap_i64 ⟨by omega, by omega⟩) (WL.as rfl rfl (WL.nil ?_)))))))))))
        refine W.fit (Hs' := [Buf 7 _ (d.pages.flatMap pgC), box b1 _ _, box b0 _ _, Qm _ m0 _, Qm _ m3 _]) (by (repeat' first | exact Sel.nil | apply Sel.k | exact Pick.h | apply Pick.t)) ?_
        refine W.freeze 0 rfl (by repeat' constructor) (fun ρ6 le6 in6 => ?_)
        refine W.sub ?_ (next ⟨i + 1, d, _, kvs, ls⟩ ρ6 (le5.trans le6) ⟨hc2, hI2, hC2, hM.mono le6, in6.ros⟩ (by dsimp only; omega))
        exact ⟨rfl, rfl, rfl, rfl, rfl, rfl, trivial⟩
      · by_cases he : z1.getD i 0 % (1 + 1) = 0
        · have hrl := rowP_len (z1.getD i 0)
          obtain ⟨⟨d, out, ok⟩, hd⟩ := admit_ex x hI.b.I
          refine W.condT (decide_eq_true he ▸ rfl) (W.seq ?_)
          cases ok
          · obtain ⟨e1, hm3⟩ := hI.no hd
            refine W.cutG (τ := Unit) (fun s => [(0, .int .i64 m), (1, v1), (7, pt b0 0), (8, pt b1 0), (9, .map (some m3)), (10, .int .i64 (i : Int)), (68, .bool false)]) (fun s => [box b1 [.int .i64 k.a, .int .i64 k.b, .int .i64 k.c] 28, box b0 [.int .i64 c.most, .int .i64 c.target, v, .int .i64 (c.hot : Int), .int .i64 (c.cold : Int), .int .i64 (c.test : Int), .map (some m0)] 55, Qm .i64 m0 kvs, Qm .i64 m3 ls]) (fun s ρ' => True) ?_ (fun cut2 => ?_)
            · rintro _ ρ5 le5 _
              refine W.condF rfl (W.seq (W.region (WL.mv rfl rfl (WL.gtr rfl rfl rfl (WL.nil (W.condpF rfl (by omega) (W.skip ?_)))))))
              refine W.sub ?_ (cut1 ⟨c, v, kvs, ls⟩ ρ5 le5 ⟨hI, hC, hM.mono le5, rc.mono le5⟩)
              exact ⟨rfl, rfl, rfl, rfl, rfl, rfl, trivial⟩
            · refine W.drawP 8 [true, true, true, true, true] rfl (by repeat' constructor) (by repeat' constructor) (fun σ0 hσ0 dσ0 => ?_)
              refine WD.takeL 0 rfl (by decide +kernel) (WL.mv rfl rfl (WL.nilT (WD.takeL 2 rfl (by decide +kernel) (WL.mv rfl rfl (WL.nilT (WD.takeL 3 rfl (by decide +kernel) (WL.mv rfl rfl (WL.nilT (WD.takeL 4 rfl (by decide +kernel) ?_)))))))))
              refine WL.ix (T := Ty) rfl rfl rfl (by assumption) rfl rfl (by omega) (by first | omega | decide +kernel) ?_
              refine WL.nilT (WD.takeL 5 rfl (by decide +kernel) ?_)
              refine WL.ldRz (T := Ty) rfl rfl rfl rfl (by first | assumption | exact ROs.wide (by assumption)) (by first | omega | decide +kernel) ?_
              refine WL.nilT ?_
              refine WD.twoL 1 6 rfl rfl (by decide +kernel) ?_ ?_
              · refine WL.ldAF (T := Ty) (j := 1) rfl rfl rfl rfl rfl rfl (by repeat' constructor) ?_
                refine WL.nilE (WD.oneL 6 rfl (by decide +kernel) ?_)
                refine WL.callF rfl rfl (fun x p d => row16_c _ _) (fun u3 => ?_)
                refine WL.fact (i := 0) rfl (fun h hb => hb.sl (sms_cells _) (by omega)) (fun hsl3 => ?_)
                refine WL.nilH hσ0 (fun σ1 hσ1 dσ1 mσ1 => ?_)
                have fσ1_0 := ros_at 0 rfl hσ1 dσ1
                refine WD.oneL 7 rfl (by decide +kernel) ?_
                refine WL.callTk (Take.cons 3 rfl (Take.cons 3 rfl Take.nil)) rfl rfl (fun x p d => putNX_c _ _ _ _ _ _ _ _ _ _ _ _ _ (by assumption) (by first | assumption | exact ROs.wide (by assumption) | exact ROs.mono (by assumption) (eqh_at 0 rfl p d) | exact ros_at 0 rfl p d | exact ros_at 1 rfl p d | exact ros_at 2 rfl p d | exact ros_at 3 rfl p d | exact ros_at 4 rfl p d) (by assumption) (by first | assumption | omega | decide) (by assumption) (by first | assumption | decide)) (by repeat' constructor) (fun r4 => ?_)
                refine WL.opens (α := Unit) (φ := fun _ => r4 = .bool false) (ps := fun _ => [_, Qm .i64 _ _]) 0 rfl (fun h q => ⟨(), q⟩) (by repeat' constructor) ?_
                rintro _ es4
                subst es4
                dsimp only [List.cons_append, List.nil_append]
                refine WL.nilSS ?_
                refine WD.doneF hσ1 (by decide +kernel) (by repeat' constructor) ?_
                refine W.fit (Hs' := [box b1 _ _, box b0 _ _, Qm _ m0 _, Qm _ m3 _]) (by (repeat' first | exact Sel.nil | apply Sel.k | exact Pick.h | apply Pick.t)) (W.sub ?_ (cut2 () _ (Le.refl _) trivial))
                exact ⟨rfl, rfl, rfl, rfl, rfl, rfl, rfl, trivial⟩
              · refine WL.callF rfl rfl (fun x p d => row16_c _ _) (fun u3 => ?_)
                refine WL.fact (i := 0) rfl (fun h hb => hb.sl (sms_cells _) (by omega)) (fun hsl3 => ?_)
                refine WL.nilH hσ0 (fun σ1 hσ1 dσ1 mσ1 => ?_)
                have fσ1_0 := ros_at 0 rfl hσ1 dσ1
                refine WD.oneL 1 rfl (by decide +kernel) ?_
                refine WL.ldAF (T := Ty) (j := 1) rfl rfl rfl rfl rfl rfl (by repeat' constructor) ?_
                refine WL.nilE (WD.oneL 7 rfl (by decide +kernel) ?_)
                refine WL.callTk (Take.cons 3 rfl (Take.cons 3 rfl Take.nil)) rfl rfl (fun x p d => putNX_c _ _ _ _ _ _ _ _ _ _ _ _ _ (by assumption) (by first | assumption | exact ROs.wide (by assumption) | exact ROs.mono (by assumption) (eqh_at 0 rfl p d) | exact ros_at 0 rfl p d | exact ros_at 1 rfl p d | exact ros_at 2 rfl p d | exact ros_at 3 rfl p d | exact ros_at 4 rfl p d) (by assumption) (by first | assumption | omega | decide) (by assumption) (by first | assumption | decide)) (by repeat' constructor) (fun r4 => ?_)
                refine WL.opens (α := Unit) (φ := fun _ => r4 = .bool false) (ps := fun _ => [_, Qm .i64 _ _]) 0 rfl (fun h q => ⟨(), q⟩) (by repeat' constructor) ?_
                rintro _ es4
                subst es4
                dsimp only [List.cons_append, List.nil_append]
                refine WL.nilSS ?_
                refine WD.doneF hσ1 (by decide +kernel) (by repeat' constructor) ?_
                refine W.fit (Hs' := [box b1 _ _, box b0 _ _, Qm _ m0 _, Qm _ m3 _]) (by (repeat' first | exact Sel.nil | apply Sel.k | exact Pick.h | apply Pick.t)) (W.sub ?_ (cut2 () _ (Le.refl _) trivial))
                exact ⟨rfl, rfl, rfl, rfl, rfl, rfl, rfl, trivial⟩
          · have hol : out.length ≤ 1000000 := admit_outK hn6 hd
            obtain ⟨hI2, hko⟩ := hI.put hd
            have hC2 := fun v' => hC.put hd v'
            refine W.cutG (τ := Value × Value) (fun s => [(0, .int .i64 m), (1, v1), (7, pt b0 0), (8, pt b1 0), (9, .map (some m3)), (10, .int .i64 (i : Int)), (11, pt b2 0), (68, .bool true)]) (fun s => [box b2 [.int .i64 x.a, .int .i64 x.b, .int .i64 x.c] 28, box b1 [.int .i64 k.a, .int .i64 k.b, .int .i64 k.c] 28, box b0 [.int .i64 d.most, .int .i64 d.target, s.1, .int .i64 (d.hot : Int), .int .i64 (d.cold : Int), .int .i64 (d.test : Int), .map (some m0)] 55, Qm .i64 m0 (qset (delsQ kvs out) x s.2), Qm .i64 m3 ls, Buf 7 s.1 (d.pages.flatMap pgC), Buf 2 s.2 ((rowP (z1.getD i 0)).flatMap smC)]) (fun s ρ' => True) ?_ (fun cut2 => ?_)
            · rintro ⟨u, kv⟩ ρ5 le5 _
              dsimp only
              refine W.freeze 5 rfl (by repeat' constructor) (fun ρ6 le6 in6 => ?_)
              refine W.freeze 5 rfl (by repeat' constructor) (fun ρ7 le7 in7 => ?_)
              have rp := (in6.mono le7).ros
              have rk := in7.ros
              replace r1 := ((r1.mono le5).mono le6).mono le7
              clear in6 in7
              refine W.condT rfl ?_
              refine W.drawA 6 rfl (fun σ0 hσ0 dσ0 => ?_)
              have fσ0_0 := rb_at 0 rfl hσ0 dσ0
              have fσ0_1 := rb_at 1 rfl hσ0 dσ0
              have fσ0_2 := rb_at 2 rfl hσ0 dσ0
              have fσ0_3 := in_at 3 rfl hσ0 dσ0
              have fσ0_4 := in_at 4 rfl hσ0 dσ0
              refine WD.takeL 0 rfl (by decide +kernel) (WL.mv rfl rfl (WL.nilT (WD.takeL 1 rfl (by decide +kernel) ?_)))
              refine WL.ldABF (T := Ty) rfl rfl rfl rfl (by first | assumption | exact RB.wide (by assumption) | exact In.rb (by assumption)) rfl (by repeat' constructor) ?_
              refine WL.nilT (WD.takeL 2 rfl (by decide +kernel) (WL.mv rfl rfl (WL.nilT (WD.takeL 3 rfl (by decide +kernel) (WL.mv rfl rfl (WL.nilT (WD.takeL 4 rfl (by decide +kernel) ?_)))))))
              refine WL.ix (T := Ty) rfl rfl rfl (by assumption) rfl rfl (by omega) (by first | omega | decide +kernel) ?_
              refine WL.nilT (WD.takeL 5 rfl (by decide +kernel) ?_)
              refine WL.ldRz (T := Ty) rfl rfl rfl rfl (by first | assumption | exact ROs.wide (by assumption)) (by first | omega | decide +kernel) ?_
              refine WL.nilT ?_
              refine WD.lastG hσ0 (by decide +kernel) (by repeat' constructor) rfl (by repeat' constructor) ?_
              refine WL.muQO (T := Ty) (j := 4) rfl rfl rfl rfl (by assumption) rfl (by first | assumption | rfl) (by repeat' constructor) ?_
              refine WL.nil ?_
              refine W.fit (Hs' := [box b1 _ _, box b0 _ _, Qm _ m0 _, Qm _ m3 _]) (by (repeat' first | exact Sel.nil | apply Sel.k | exact Pick.h | apply Pick.t)) (W.sub ?_ (cut1 ⟨d, _, _, _⟩ ρ7 ((le5.trans le6).trans le7) ⟨hI2, hC2 _, (((hM.mono le5).mono le6).mono le7).put hC.nd rk, rp⟩))
              exact ⟨rfl, rfl, rfl, rfl, rfl, rfl, trivial⟩
            · refine W.drawP 8 [true, true, true, true, true] rfl (by repeat' constructor) (by repeat' constructor) (fun σ0 hσ0 dσ0 => ?_)
              refine WD.takeL 0 rfl (by decide +kernel) (WL.mv rfl rfl (WL.nilT (WD.takeL 2 rfl (by decide +kernel) (WL.mv rfl rfl (WL.nilT (WD.takeL 3 rfl (by decide +kernel) (WL.mv rfl rfl (WL.nilT (WD.takeL 4 rfl (by decide +kernel) ?_)))))))))
              refine WL.ix (T := Ty) rfl rfl rfl (by assumption) rfl rfl (by omega) (by first | omega | decide +kernel) ?_
              refine WL.nilT (WD.takeL 5 rfl (by decide +kernel) ?_)
              refine WL.ldRz (T := Ty) rfl rfl rfl rfl (by first | assumption | exact ROs.wide (by assumption)) (by first | omega | decide +kernel) ?_
              refine WL.nilT ?_
              refine WD.twoL 1 6 rfl rfl (by decide +kernel) ?_ ?_
              · refine WL.ldAF (T := Ty) (j := 1) rfl rfl rfl rfl rfl rfl (by repeat' constructor) ?_
                refine WL.nilE (WD.oneL 6 rfl (by decide +kernel) ?_)
                refine WL.callF rfl rfl (fun x p d => row16_c _ _) (fun u3 => ?_)
                refine WL.fact (i := 0) rfl (fun h hb => hb.sl (sms_cells _) (by omega)) (fun hsl3 => ?_)
                refine WL.nilH hσ0 (fun σ1 hσ1 dσ1 mσ1 => ?_)
                have fσ1_0 := ros_at 0 rfl hσ1 dσ1
                refine WD.oneL 7 rfl (by decide +kernel) ?_
                refine WL.callTk (Take.cons 3 rfl (Take.cons 3 rfl Take.nil)) rfl rfl (fun x p d => putYX_c _ _ _ _ _ _ _ _ _ _ _ _ _ _ (by assumption) (by first | assumption | exact ROs.wide (by assumption) | exact ROs.mono (by assumption) (eqh_at 0 rfl p d) | exact ros_at 0 rfl p d | exact ros_at 1 rfl p d | exact ros_at 2 rfl p d | exact ros_at 3 rfl p d | exact ros_at 4 rfl p d) (by assumption) (by first | assumption | omega | decide) (by assumption) (by first | assumption | decide) (by first | assumption | omega | decide) (by first | assumption | exact ROs.wide (by assumption) | exact ROs.mono (by assumption) (eqh_at 0 rfl p d) | exact ros_at 0 rfl p d | exact ros_at 1 rfl p d | exact ros_at 2 rfl p d | exact ros_at 3 rfl p d | exact ros_at 4 rfl p d) (by first | assumption | omega | decide)) (by repeat' constructor) (fun r4 => ?_)
                refine WL.opens (α := Value × Value) (φ := fun x => r4 = .bool true ∧ SL x.1 _ ∧ SL x.2 _) (ps := fun x => [_, Buf 7 x.1 _, Qm .i64 _ _, Buf 2 x.2 _]) 0 rfl (fun h q => q) (by repeat' constructor) ?_
                rintro ⟨u4, kv4⟩ ⟨es4, su4, sk4⟩
                subst es4
                dsimp only [List.cons_append, List.nil_append] at su4 sk4 ⊢
                refine WL.bring 4 rfl (by repeat' constructor) ?_
                refine WL.nilE ?_
                refine WD.doneF hσ1 (by decide +kernel) (by repeat' constructor) ?_
                refine W.fit (Hs' := [box b2 _ _, box b1 _ _, box b0 _ _, Qm _ m0 _, Qm _ m3 _, Buf 7 _ (d.pages.flatMap pgC), Buf 2 _ ((rowP (z1.getD i 0)).flatMap smC)]) (by (repeat' first | exact Sel.nil | apply Sel.k | exact Pick.h | apply Pick.t)) (W.sub ?_ (cut2 ⟨_, _⟩ _ (Le.refl _) trivial))
                exact ⟨rfl, rfl, rfl, rfl, rfl, rfl, rfl, rfl, trivial⟩
              · refine WL.callF rfl rfl (fun x p d => row16_c _ _) (fun u3 => ?_)
                refine WL.fact (i := 0) rfl (fun h hb => hb.sl (sms_cells _) (by omega)) (fun hsl3 => ?_)
                refine WL.nilH hσ0 (fun σ1 hσ1 dσ1 mσ1 => ?_)
                have fσ1_0 := ros_at 0 rfl hσ1 dσ1
                refine WD.oneL 1 rfl (by decide +kernel) ?_
                refine WL.ldAF (T := Ty) (j := 1) rfl rfl rfl rfl rfl rfl (by repeat' constructor) ?_
                refine WL.nilE (WD.oneL 7 rfl (by decide +kernel) ?_)
                refine WL.callTk (Take.cons 3 rfl (Take.cons 3 rfl Take.nil)) rfl rfl (fun x p d => putYX_c _ _ _ _ _ _ _ _ _ _ _ _ _ _ (by assumption) (by first | assumption | exact ROs.wide (by assumption) | exact ROs.mono (by assumption) (eqh_at 0 rfl p d) | exact ros_at 0 rfl p d | exact ros_at 1 rfl p d | exact ros_at 2 rfl p d | exact ros_at 3 rfl p d | exact ros_at 4 rfl p d) (by assumption) (by first | assumption | omega | decide) (by assumption) (by first | assumption | decide) (by first | assumption | omega | decide) (by first | assumption | exact ROs.wide (by assumption) | exact ROs.mono (by assumption) (eqh_at 0 rfl p d) | exact ros_at 0 rfl p d | exact ros_at 1 rfl p d | exact ros_at 2 rfl p d | exact ros_at 3 rfl p d | exact ros_at 4 rfl p d) (by first | assumption | omega | decide)) (by repeat' constructor) (fun r4 => ?_)
                refine WL.opens (α := Value × Value) (φ := fun x => r4 = .bool true ∧ SL x.1 _ ∧ SL x.2 _) (ps := fun x => [_, Buf 7 x.1 _, Qm .i64 _ _, Buf 2 x.2 _]) 0 rfl (fun h q => q) (by repeat' constructor) ?_
                rintro ⟨u4, kv4⟩ ⟨es4, su4, sk4⟩
                subst es4
                dsimp only [List.cons_append, List.nil_append] at su4 sk4 ⊢
                refine WL.bring 4 rfl (by repeat' constructor) ?_
                refine WL.nilE ?_
                refine WD.doneF hσ1 (by decide +kernel) (by repeat' constructor) ?_
                refine W.fit (Hs' := [box b2 _ _, box b1 _ _, box b0 _ _, Qm _ m0 _, Qm _ m3 _, Buf 7 _ (d.pages.flatMap pgC), Buf 2 _ ((rowP (z1.getD i 0)).flatMap smC)]) (by (repeat' first | exact Sel.nil | apply Sel.k | exact Pick.h | apply Pick.t)) (W.sub ?_ (cut2 ⟨_, _⟩ _ (Le.refl _) trivial))
                exact ⟨rfl, rfl, rfl, rfl, rfl, rfl, rfl, rfl, trivial⟩
        · refine W.condF (decide_eq_false he ▸ rfl) ?_
          cases ht : (touchP c x).2
          · have ht2 : touchP c x = ((touchP c x).1, false) := by rw [← ht]
            refine W.seq (W.region (WL.mv rfl rfl ?_))
            refine WL.ldAF (T := Ty) (j := 0) rfl rfl rfl rfl rfl rfl (by repeat' constructor) ?_
            refine WL.callTk (Take.cons 2 rfl (Take.cons 2 rfl Take.nil)) rfl rfl (fun x p d => getNX_c _ _ _ _ _ _ _ _ _ _ (by assumption) (by first | assumption | exact ROs.wide (by assumption) | exact ROs.mono (by assumption) (eqh_at 0 rfl p d) | exact ros_at 0 rfl p d | exact ros_at 1 rfl p d | exact ros_at 2 rfl p d | exact ros_at 3 rfl p d | exact ros_at 4 rfl p d) (by assumption)) (by repeat' constructor) (fun r3 => ?_)
            refine WL.opens (α := Unit) (φ := fun _ => r3 = .tuple #[nilV, .bool false]) (ps := fun _ => [_, Qm .i64 _ _]) 0 rfl (fun h q => ⟨(), q⟩) (by repeat' constructor) ?_
            rintro _ es3
            subst es3
            dsimp only [List.cons_append, List.nil_append]
            refine WL.mv rfl rfl (WL.extL rfl rfl rfl (WL.extL rfl rfl rfl (WL.as rfl rfl (WL.as rfl rfl (WL.nil (W.seq (W.region (WL.mv rfl rfl (WL.mv rfl rfl (WL.gdN rfl rfl rfl rfl rfl rfl (WL.gdN rfl rfl rfl rfl rfl rfl (WL.gdN rfl rfl rfl rfl rfl rfl (WL.gdN rfl rfl rfl rfl rfl rfl ?_)))))))))))))
            refine WL.gdN rfl rfl rfl rfl rfl rfl (WL.gdN rfl rfl rfl rfl rfl rfl (WL.gdN rfl rfl rfl rfl rfl rfl (WL.pickF rfl rfl rfl (WL.nil (W.condF rfl (W.skip ?_))))))
            refine W.fit (Hs' := [box b1 _ _, box b0 _ _, Qm _ m0 _, Qm _ m3 _]) (by (repeat' first | exact Sel.nil | apply Sel.k | exact Pick.h | apply Pick.t)) (W.sub ?_ (cut1 ⟨c, v, kvs, ls⟩ ρ4 (Le.refl _) ⟨hI, hC, hM, rc⟩))
            exact ⟨rfl, rfl, rfl, rfl, rfl, rfl, trivial⟩
          · have ht2 : touchP c x = ((touchP c x).1, true) := by rw [← ht]
            have hI2 := hI.touch x
            have hC2 := hC.touch x
            obtain ⟨w, hw⟩ := qget_in ((hC.m x).2 ((touch_ok hI.b x).1 ht))
            obtain ⟨n, hn, rw'⟩ := hM.get hw
            have hzz := sameL_reflK (rowP n)
            have hrl := rowP_len n
            generalize (touchP c x).1 = d at ht2 hI2 hC2
            refine W.seq (W.region (WL.mv rfl rfl ?_))
            refine WL.ldAF (T := Ty) (j := 0) rfl rfl rfl rfl rfl rfl (by repeat' constructor) ?_
            refine WL.callTk (Take.cons 2 rfl (Take.cons 2 rfl Take.nil)) rfl rfl (fun x p d => getYX_c _ _ _ _ _ _ _ _ _ _ _ _ (by assumption) (by first | assumption | exact ROs.wide (by assumption) | exact ROs.mono (by assumption) (eqh_at 0 rfl p d) | exact ros_at 0 rfl p d | exact ros_at 1 rfl p d | exact ros_at 2 rfl p d | exact ros_at 3 rfl p d | exact ros_at 4 rfl p d) (by assumption) (by assumption) (by first | assumption | exact ROs.wide (by assumption) | exact ROs.mono (by assumption) (eqh_at 0 rfl p d) | exact ros_at 0 rfl p d | exact ros_at 1 rfl p d | exact ros_at 2 rfl p d | exact ros_at 3 rfl p d | exact ros_at 4 rfl p d) (by first | assumption | omega | decide)) (by repeat' constructor) (fun r3 => ?_)
            refine WL.opens (α := Value × Value) (φ := fun x => r3 = .tuple #[x.2, .bool true] ∧ SL x.1 _ ∧ SL x.2 _) (ps := fun x => [_, Buf 7 x.1 _, Qm .i64 _ _, Buf 2 x.2 _]) 0 rfl (fun h q => q) (by repeat' constructor) ?_
            rintro ⟨u3, kv3⟩ ⟨es3, su3, sk3⟩
            subst es3
            dsimp only [List.cons_append, List.nil_append] at su3 sk3 ⊢
            refine WL.mv rfl rfl (WL.extL rfl rfl rfl (WL.extL rfl rfl rfl (WL.as rfl rfl (WL.as rfl rfl (WL.nil (W.seq (W.region (WL.mv rfl rfl (WL.mv rfl rfl (WL.gY rfl rfl (WL.mv rfl rfl (WL.gY rfl rfl (WL.mv rfl rfl ?_)))))))))))))
            refine WL.gY rfl rfl ?_
            refine WL.ldAF (T := Ty) (j := 4) rfl rfl rfl rfl rfl rfl (by repeat' constructor) ?_
            refine WL.gY rfl rfl ?_
            refine WL.luQO (T := Ty) (j := 6) rfl rfl rfl rfl (by assumption) rfl rfl (by first | rw [‹qget _ _ = some _›] | rw [‹qget _ _ = none›]) ?_
            refine WL.gY rfl rfl ?_
            refine WL.callF rfl rfl (fun x p d => row16_c _ _) (fun u4 => ?_)
            refine WL.fact (i := 0) rfl (fun h hb => hb.sl (sms_cells _) (by omega)) (fun hsl4 => ?_)
            refine WL.gY rfl rfl ?_
            refine WL.callV rfl rfl (fun x p d => refM_e _ _ _ _ _ _ (by first | assumption | exact ROs.wide (by assumption) | exact ROs.mono (by assumption) (eqh_at 0 rfl p d) | exact ros_at 0 rfl p d | exact ros_at 1 rfl p d | exact ros_at 2 rfl p d | exact ros_at 3 rfl p d | exact ros_at 4 rfl p d) (by first | assumption | exact ROs.wide (by assumption) | exact ROs.mono (by assumption) (eqh_at 0 rfl p d) | exact ros_at 0 rfl p d | exact ros_at 1 rfl p d | exact ros_at 2 rfl p d | exact ros_at 3 rfl p d | exact ros_at 4 rfl p d) (by first | assumption | omega) (by assumption)) ?_
            refine WL.gY rfl rfl (WL.not rfl rfl (WL.pickT rfl rfl rfl (WL.nil (W.condF rfl (W.skip ?_)))))
            refine W.fit (Hs' := [Buf 7 _ (d.pages.flatMap pgC), box b1 _ _, box b0 _ _, Qm _ m0 _, Qm _ m3 _]) (by (repeat' first | exact Sel.nil | apply Sel.k | exact Pick.h | apply Pick.t)) ?_
            refine W.freeze 0 rfl (by repeat' constructor) (fun ρ6 le6 in6 => ?_)
            refine W.sub ?_ (cut1 ⟨d, _, kvs, ls⟩ ρ6 le6 ⟨hI2, hC2, hM.mono le6, in6.ros⟩)
            exact ⟨rfl, rfl, rfl, rfl, rfl, rfl, trivial⟩
    · by_cases hc1 : i < z1.length
      · obtain ⟨j, p, d, q, e, g1, g2, g3, g4, g5, g6, g7, g8, g9⟩ := hI.fin
        have hp3 : 0 < p.pins := by omega
        have hq3 : q.pins ≤ 0 := by omega
        have hBd := g5.B
        refine W.seq (W.seq (W.region (WL.mv rfl rfl (WL.mv rfl rfl ?_))))
        refine WL.len (T := Ty) rfl rfl (by assumption) rfl ?_
        refine WL.lss rfl rfl rfl (WL.mv rfl rfl (WL.gT rfl rfl (by omega) (WL.mv rfl rfl (WL.gT rfl rfl (by omega) (WL.lss rfl rfl rfl (WL.pickTp rfl rfl (by omega) rfl (WL.nil (W.condpF rfl (by omega) (W.exit rfl (W.seq (W.region (WL.mv rfl rfl ?_))))))))))))
        refine WL.ldAF (T := Ty) (j := 0) rfl rfl rfl rfl rfl rfl (by repeat' constructor) ?_
        refine WL.callTk (Take.cons 1 rfl (Take.cons 1 rfl Take.nil)) rfl rfl (fun x p d => UnCX_c _ _ _ _ _ _ _ _ _ _ _ _ (by assumption) (by first | assumption | exact ROs.wide (by assumption) | exact ROs.mono (by assumption) (eqh_at 0 rfl p d) | exact ros_at 0 rfl p d | exact ros_at 1 rfl p d | exact ros_at 2 rfl p d | exact ros_at 3 rfl p d | exact ros_at 4 rfl p d) (by assumption) (by assumption) (by first | assumption | omega | decide) (by assumption)) (by repeat' constructor) (fun r2 => ?_)
        refine WL.opens (α := Value) (φ := fun x => r2 = .bool true ∧ SL x _) (ps := fun x => [_, Buf 7 x _, Qm .i64 _ _]) 0 rfl (fun h q => q) (by repeat' constructor) ?_
        rintro u2 ⟨es2, su2⟩
        subst es2
        dsimp only [List.cons_append, List.nil_append] at su2 ⊢
        refine WL.mv rfl rfl (WL.gY rfl rfl (WL.mv rfl rfl (WL.gY rfl rfl ?_)))
        refine WL.ldAF (T := Ty) (j := 3) rfl rfl rfl rfl rfl rfl (by repeat' constructor) ?_
        refine WL.gY rfl rfl ?_
        refine WL.callTk (Take.cons 0 rfl (Take.cons 1 rfl Take.nil)) rfl rfl (fun x p d => DrCX_c _ _ _ _ _ _ _ _ _ _ _ _ (by assumption) (by first | assumption | exact ROs.wide (by assumption) | exact ROs.mono (by assumption) (eqh_at 0 rfl p d) | exact ros_at 0 rfl p d | exact ros_at 1 rfl p d | exact ros_at 2 rfl p d | exact ros_at 3 rfl p d | exact ros_at 4 rfl p d) (by assumption) (by assumption) (by first | assumption | omega | decide) (by assumption)) (by repeat' constructor) (fun r3 => ?_)
        refine WL.opens (α := Value) (φ := fun x => r3 = .bool true ∧ SL x _) (ps := fun x => [_, Buf 7 x _, Qm .i64 _ _]) 0 rfl (fun h q => q) (by repeat' constructor) ?_
        rintro u3 ⟨es3, su3⟩
        subst es3
        dsimp only [List.cons_append, List.nil_append] at su3 ⊢
        refine WL.pickT rfl rfl rfl (WL.mv rfl rfl (WL.gY rfl rfl ?_))
        refine WL.callV rfl rfl (fun x p d => awake16_c _) ?_
        refine WL.pickT rfl rfl rfl (WL.as rfl rfl (WL.nil ?_))
        exact W.fit (Hs' := []) (by (repeat' first | exact Sel.nil | apply Sel.k | exact Pick.h | apply Pick.t)) (W.ret1 rfl rfl (fun h q => rfl))
      · obtain ⟨j, p, d, q, e, g1, g2, g3, g4, g5, g6, g7, g8, g9⟩ := hI.fin
        have hp3 : 0 < p.pins := by omega
        have hq3 : q.pins ≤ 0 := by omega
        have hBd := g5.B
        refine W.seq (W.seq (W.region (WL.mv rfl rfl (WL.mv rfl rfl ?_))))
        refine WL.len (T := Ty) rfl rfl (by assumption) rfl ?_
        refine WL.lss rfl rfl rfl (WL.mv rfl rfl (WL.gdTn rfl rfl rfl rfl rfl (by omega) (WL.gdTn rfl rfl rfl rfl rfl (by omega) (WL.pickFp rfl rfl (by omega) rfl (WL.nil (W.condF rfl (W.exit rfl (W.seq (W.region (WL.mv rfl rfl ?_))))))))))
        refine WL.ldAF (T := Ty) (j := 0) rfl rfl rfl rfl rfl rfl (by repeat' constructor) ?_
        refine WL.callTk (Take.cons 1 rfl (Take.cons 1 rfl Take.nil)) rfl rfl (fun x p d => UnCX_c _ _ _ _ _ _ _ _ _ _ _ _ (by assumption) (by first | assumption | exact ROs.wide (by assumption) | exact ROs.mono (by assumption) (eqh_at 0 rfl p d) | exact ros_at 0 rfl p d | exact ros_at 1 rfl p d | exact ros_at 2 rfl p d | exact ros_at 3 rfl p d | exact ros_at 4 rfl p d) (by assumption) (by assumption) (by first | assumption | omega | decide) (by assumption)) (by repeat' constructor) (fun r2 => ?_)
        refine WL.opens (α := Value) (φ := fun x => r2 = .bool true ∧ SL x _) (ps := fun x => [_, Buf 7 x _, Qm .i64 _ _]) 0 rfl (fun h q => q) (by repeat' constructor) ?_
        rintro u2 ⟨es2, su2⟩
        subst es2
        dsimp only [List.cons_append, List.nil_append] at su2 ⊢
        refine WL.mv rfl rfl (WL.gY rfl rfl (WL.mv rfl rfl (WL.gY rfl rfl ?_)))
        refine WL.ldAF (T := Ty) (j := 3) rfl rfl rfl rfl rfl rfl (by repeat' constructor) ?_
        refine WL.gY rfl rfl ?_
        refine WL.callTk (Take.cons 0 rfl (Take.cons 1 rfl Take.nil)) rfl rfl (fun x p d => DrCX_c _ _ _ _ _ _ _ _ _ _ _ _ (by assumption) (by first | assumption | exact ROs.wide (by assumption) | exact ROs.mono (by assumption) (eqh_at 0 rfl p d) | exact ros_at 0 rfl p d | exact ros_at 1 rfl p d | exact ros_at 2 rfl p d | exact ros_at 3 rfl p d | exact ros_at 4 rfl p d) (by assumption) (by assumption) (by first | assumption | omega | decide) (by assumption)) (by repeat' constructor) (fun r3 => ?_)
        refine WL.opens (α := Value) (φ := fun x => r3 = .bool true ∧ SL x _) (ps := fun x => [_, Buf 7 x _, Qm .i64 _ _]) 0 rfl (fun h q => q) (by repeat' constructor) ?_
        rintro u3 ⟨es3, su3⟩
        subst es3
        dsimp only [List.cons_append, List.nil_append] at su3 ⊢
        refine WL.pickT rfl rfl rfl (WL.mv rfl rfl (WL.gY rfl rfl ?_))
        refine WL.callV rfl rfl (fun x p d => awake16_c _) ?_
        refine WL.pickT rfl rfl rfl (WL.as rfl rfl (WL.nil ?_))
        exact W.fit (Hs' := []) (by (repeat' first | exact Sel.nil | apply Sel.k | exact Pick.h | apply Pick.t)) (W.ret1 rfl rfl (fun h q => rfl))
  · refine W.drawP 11 [true, true, true] rfl (by repeat' constructor) (by repeat' constructor) (fun σ0 hσ0 dσ0 => ?_)
    refine WD.takeL 0 rfl (by decide +kernel) (WL.mv rfl rfl (WL.nilT ?_))
    refine WD.twoL 1 2 rfl rfl (by decide +kernel) ?_ ?_
    · refine WL.ldAF (T := Ty) (j := 1) rfl rfl rfl rfl rfl rfl (by repeat' constructor) ?_
      refine WL.nilE (WD.oneL 2 rfl (by decide +kernel) ?_)
      refine WL.callF rfl rfl (fun x p d => row16_c _ _) (fun u2 => ?_)
      refine WL.fact (i := 0) rfl (fun h hb => hb.sl (sms_cells _) (by omega)) (fun hsl2 => ?_)
      refine WL.nilH hσ0 (fun σ1 hσ1 dσ1 mσ1 => ?_)
      have fσ1_0 := ros_at 0 rfl hσ1 dσ1
      refine WD.oneL 3 rfl (by decide +kernel) ?_
      refine WL.callTk (Take.cons 2 rfl (Take.cons 2 rfl Take.nil)) rfl rfl (fun x p d => putYX_c _ _ _ _ _ _ _ _ _ _ _ _ _ _ (by assumption) (by first | assumption | exact ROs.wide (by assumption) | exact ROs.mono (by assumption) (eqh_at 0 rfl p d) | exact ros_at 0 rfl p d | exact ros_at 1 rfl p d | exact ros_at 2 rfl p d | exact ros_at 3 rfl p d | exact ros_at 4 rfl p d) (by assumption) (by first | assumption | omega | decide) (by assumption) (by first | assumption | decide) (by first | assumption | omega | decide) (by first | assumption | exact ROs.wide (by assumption) | exact ROs.mono (by assumption) (eqh_at 0 rfl p d) | exact ros_at 0 rfl p d | exact ros_at 1 rfl p d | exact ros_at 2 rfl p d | exact ros_at 3 rfl p d | exact ros_at 4 rfl p d) (by first | assumption | omega | decide)) (by repeat' constructor) (fun r3 => ?_)
      refine WL.opens (α := Value × Value) (φ := fun x => r3 = .bool true ∧ SL x.1 _ ∧ SL x.2 _) (ps := fun x => [_, Buf 7 x.1 _, Qm .i64 _ _, Buf 2 x.2 _]) 0 rfl (fun h q => q) (by repeat' constructor) ?_
      rintro ⟨u3, kv3⟩ ⟨es3, su3, sk3⟩
      subst es3
      dsimp only [List.cons_append, List.nil_append] at su3 sk3 ⊢
      refine WL.bring 4 rfl (by repeat' constructor) ?_
      refine WL.nilE (WD.takeL 4 rfl (by decide +kernel) (WL.not rfl rfl (WL.nilT (WD.takeL 5 rfl (by decide +kernel) (WL.mv rfl rfl (WL.nilT (WD.takeL 6 rfl (by decide +kernel) (WL.gY rfl rfl (WL.mv rfl rfl (WL.nilT (WD.oneL 7 rfl (by decide +kernel) (WL.gY rfl rfl ?_))))))))))))
      refine WL.ldAF (T := Ty) (j := 5) rfl rfl rfl rfl rfl rfl (by repeat' constructor) ?_
      refine WL.nilE (WD.oneL 8 rfl (by decide +kernel) (WL.gY rfl rfl ?_))
      refine WL.callTk (Take.cons 1 rfl (Take.cons 2 rfl Take.nil)) rfl rfl (fun x p d => PinYX_c _ _ _ _ _ _ _ _ _ _ (by assumption) (by first | assumption | exact ROs.wide (by assumption) | exact ROs.mono (by assumption) (eqh_at 0 rfl p d) | exact ros_at 0 rfl p d | exact ros_at 1 rfl p d | exact ros_at 2 rfl p d | exact ros_at 3 rfl p d | exact ros_at 4 rfl p d) (by assumption)) (by repeat' constructor) (fun r4 => ?_)
      refine WL.opens (α := Value) (φ := fun x => r4 = .bool true ∧ SL x _) (ps := fun x => [_, Buf 7 x _, Qm .i64 _ _]) 0 rfl (fun h q => q) (by repeat' constructor) ?_
      rintro u4 ⟨es4, su4⟩
      subst es4
      dsimp only [List.cons_append, List.nil_append] at su4 ⊢
      refine WL.bring 3 rfl (by repeat' constructor) ?_
      refine WL.nilE (WD.takeL 9 rfl (by decide +kernel) (WL.gY rfl rfl (WL.not rfl rfl (WL.nilT (WD.takeL 10 rfl (by decide +kernel) (WL.pickF rfl rfl rfl (WL.nilT ?_)))))))
      refine WD.doneF hσ1 (by decide +kernel) (by repeat' constructor) ?_
      rw [qset_one]
      refine W.fit (Hs' := [box b1 _ _, box b0 _ _, Qm _ m0 _, Buf 2 _ ((rowP 7).flatMap smC), Buf 7 _ ((ring1 m k 1).pages.flatMap pgC)]) (by (repeat' first | exact Sel.nil | apply Sel.k | exact Pick.h | apply Pick.t)) (W.sub ?_ (cut0 ⟨_, _⟩ _ (Le.refl _) trivial))
      exact ⟨rfl, rfl, rfl, rfl, rfl, trivial⟩
    · refine WL.callF rfl rfl (fun x p d => row16_c _ _) (fun u2 => ?_)
      refine WL.fact (i := 0) rfl (fun h hb => hb.sl (sms_cells _) (by omega)) (fun hsl2 => ?_)
      refine WL.nilH hσ0 (fun σ1 hσ1 dσ1 mσ1 => ?_)
      have fσ1_0 := ros_at 0 rfl hσ1 dσ1
      refine WD.oneL 1 rfl (by decide +kernel) ?_
      refine WL.ldAF (T := Ty) (j := 1) rfl rfl rfl rfl rfl rfl (by repeat' constructor) ?_
      refine WL.nilE (WD.oneL 3 rfl (by decide +kernel) ?_)
      refine WL.callTk (Take.cons 2 rfl (Take.cons 2 rfl Take.nil)) rfl rfl (fun x p d => putYX_c _ _ _ _ _ _ _ _ _ _ _ _ _ _ (by assumption) (by first | assumption | exact ROs.wide (by assumption) | exact ROs.mono (by assumption) (eqh_at 0 rfl p d) | exact ros_at 0 rfl p d | exact ros_at 1 rfl p d | exact ros_at 2 rfl p d | exact ros_at 3 rfl p d | exact ros_at 4 rfl p d) (by assumption) (by first | assumption | omega | decide) (by assumption) (by first | assumption | decide) (by first | assumption | omega | decide) (by first | assumption | exact ROs.wide (by assumption) | exact ROs.mono (by assumption) (eqh_at 0 rfl p d) | exact ros_at 0 rfl p d | exact ros_at 1 rfl p d | exact ros_at 2 rfl p d | exact ros_at 3 rfl p d | exact ros_at 4 rfl p d) (by first | assumption | omega | decide)) (by repeat' constructor) (fun r3 => ?_)
      refine WL.opens (α := Value × Value) (φ := fun x => r3 = .bool true ∧ SL x.1 _ ∧ SL x.2 _) (ps := fun x => [_, Buf 7 x.1 _, Qm .i64 _ _, Buf 2 x.2 _]) 0 rfl (fun h q => q) (by repeat' constructor) ?_
      rintro ⟨u3, kv3⟩ ⟨es3, su3, sk3⟩
      subst es3
      dsimp only [List.cons_append, List.nil_append] at su3 sk3 ⊢
      refine WL.bring 4 rfl (by repeat' constructor) ?_
      refine WL.nilE (WD.takeL 4 rfl (by decide +kernel) (WL.not rfl rfl (WL.nilT (WD.takeL 5 rfl (by decide +kernel) (WL.mv rfl rfl (WL.nilT (WD.takeL 6 rfl (by decide +kernel) (WL.gY rfl rfl (WL.mv rfl rfl (WL.nilT (WD.oneL 7 rfl (by decide +kernel) (WL.gY rfl rfl ?_))))))))))))
      refine WL.ldAF (T := Ty) (j := 5) rfl rfl rfl rfl rfl rfl (by repeat' constructor) ?_
      refine WL.nilE (WD.oneL 8 rfl (by decide +kernel) (WL.gY rfl rfl ?_))
      refine WL.callTk (Take.cons 1 rfl (Take.cons 2 rfl Take.nil)) rfl rfl (fun x p d => PinYX_c _ _ _ _ _ _ _ _ _ _ (by assumption) (by first | assumption | exact ROs.wide (by assumption) | exact ROs.mono (by assumption) (eqh_at 0 rfl p d) | exact ros_at 0 rfl p d | exact ros_at 1 rfl p d | exact ros_at 2 rfl p d | exact ros_at 3 rfl p d | exact ros_at 4 rfl p d) (by assumption)) (by repeat' constructor) (fun r4 => ?_)
      refine WL.opens (α := Value) (φ := fun x => r4 = .bool true ∧ SL x _) (ps := fun x => [_, Buf 7 x _, Qm .i64 _ _]) 0 rfl (fun h q => q) (by repeat' constructor) ?_
      rintro u4 ⟨es4, su4⟩
      subst es4
      dsimp only [List.cons_append, List.nil_append] at su4 ⊢
      refine WL.bring 3 rfl (by repeat' constructor) ?_
      refine WL.nilE (WD.takeL 9 rfl (by decide +kernel) (WL.gY rfl rfl (WL.not rfl rfl (WL.nilT (WD.takeL 10 rfl (by decide +kernel) (WL.pickF rfl rfl rfl (WL.nilT ?_)))))))
      refine WD.doneF hσ1 (by decide +kernel) (by repeat' constructor) ?_
      rw [qset_one]
      refine W.fit (Hs' := [box b1 _ _, box b0 _ _, Qm _ m0 _, Buf 2 _ ((rowP 7).flatMap smC), Buf 7 _ ((ring1 m k 1).pages.flatMap pgC)]) (by (repeat' first | exact Sel.nil | apply Sel.k | exact Pick.h | apply Pick.t)) (W.sub ?_ (cut0 ⟨_, _⟩ _ (Le.refl _) trivial))
      exact ⟨rfl, rfl, rfl, rfl, rfl, trivial⟩
end Go.Proofs.Ytdpnpipninggeaa
