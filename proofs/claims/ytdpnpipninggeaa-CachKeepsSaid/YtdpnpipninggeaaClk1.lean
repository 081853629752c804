/- Pages: what they are, how many there are; the hands, the target. -/
import Derived.Test.YtdpnpipninggeaaStc
import Derived.Test.YtdpnpipninggeaaNum
import Derived.Test.YtdpnpipninggeaaTab
import Derived.Test.YtdpnpipninggeaaClkLaw
import Derived.Test.YtdpnpipninggeaaClos
import Derived.Test.YtdpnpipninggeaaDel
import Derived.Test.YtdpnpipninggeaaClE
set_option linter.unusedSimpArgs false
set_option linter.unusedVariables false
set_option maxRecDepth 20000
set_option maxHeartbeats 4000000
namespace Go.Proofs.Ytdpnpipninggeaa
open Go
attribute [local irreducible] W WL Fn Buf ROs SL eptr box Rd Src bndOK WD RB Reads In Own
def pgV (p : Pg) : Value := .agg #[.int .i64 p.key.a, .int .i64 p.key.b, .int .i64 p.key.c, .int .i64 p.kind, .bool p.ref, .bool p.trial, .int .i64 p.pins]
theorem hot_c (ρ : Hp) (p : Pg) : Fn Try.prog 48 #[pgV p] ρ [] (Just (.bool (isHot p))) := by
 refine in48 rfl rfl ?_
 unfold pgV
 refine W.seq (W.region ?_)
 refine WL.bxF rfl rfl (by repeat' constructor) (fun b0 => ?_)
 refine WL.as rfl rfl (WL.nil (W.seq (W.region (WL.faN (T := Ty) (off' := 3) rfl rfl rfl rfl rfl rfl rfl (WL.ldN (T := Ty) (j := 0) rfl rfl rfl rfl rfl rfl (WL.eql rfl rfl rfl (WL.as rfl rfl (WL.nil ?_))))))))
 exact W.fit (Hs' := []) (by (repeat' first | exact Sel.nil | apply Sel.k | exact Pick.h | apply Pick.t)) (W.ret1 rfl rfl (fun h q => ⟨rfl, q⟩))
theorem test_c (ρ : Hp) (p : Pg) : Fn Try.prog 49 #[pgV p] ρ [] (Just (.bool (isTest p))) := by
 refine in49 rfl rfl ?_
 unfold pgV
 refine W.seq (W.region ?_)
 refine WL.bxF rfl rfl (by repeat' constructor) (fun b0 => ?_)
 refine WL.as rfl rfl (WL.nil (W.seq (W.region (WL.faN (T := Ty) (off' := 3) rfl rfl rfl rfl rfl rfl rfl (WL.ldN (T := Ty) (j := 0) rfl rfl rfl rfl rfl rfl (WL.eql rfl rfl rfl (WL.as rfl rfl (WL.nil ?_))))))))
 exact W.fit (Hs' := []) (by (repeat' first | exact Sel.nil | apply Sel.k | exact Pick.h | apply Pick.t)) (W.ret1 rfl rfl (fun h q => ⟨rfl, q⟩))
theorem resident_c (ρ : Hp) (p : Pg) : Fn Try.prog 28 #[pgV p] ρ [] (Just (.bool (isRes p))) := by
 refine in28 rfl rfl ?_
 unfold pgV
 by_cases h1 : p.kind = 1
 ·refine W.seq ?_
  refine W.region ?_
  refine WL.bxF rfl rfl (by repeat' constructor) (fun b0 => ?_)
  refine WL.as rfl rfl (WL.nil (W.seq (W.region (WL.faN (T := Ty) (off' := 3) rfl rfl rfl rfl rfl rfl rfl (WL.ldN (T := Ty) (j := 0) rfl rfl rfl rfl rfl rfl (WL.eql rfl rfl rfl (WL.mv rfl rfl (WL.gdFn rfl rfl rfl rfl rfl (by omega) (WL.gdFn rfl rfl rfl rfl rfl (by omega) (WL.gdFn rfl rfl rfl rfl rfl (by omega) (WL.pickTp rfl rfl (by omega) rfl (WL.as rfl rfl (WL.nil ?_)))))))))))))
  exact W.fit (Hs' := []) (by (repeat' first | exact Sel.nil | apply Sel.k | exact Pick.h | apply Pick.t)) (W.ret1 rfl rfl (fun h q => ⟨by unfold isRes; rw [decide_eq_true h1]; rfl, q⟩))
 ·refine W.seq ?_
  refine W.region ?_
  refine WL.bxF rfl rfl (by repeat' constructor) (fun b0 => ?_)
  refine WL.as rfl rfl (WL.nil (W.seq (W.region (WL.faN (T := Ty) (off' := 3) rfl rfl rfl rfl rfl rfl rfl (WL.ldN (T := Ty) (j := 0) rfl rfl rfl rfl rfl rfl (WL.eql rfl rfl rfl (WL.mv rfl rfl (WL.gF rfl rfl (by omega) (WL.faN (T := Ty) (off' := 3) rfl rfl rfl rfl rfl rfl rfl (WL.gF rfl rfl (by omega) (WL.ldN (T := Ty) (j := 0) rfl rfl rfl rfl rfl rfl (WL.gF rfl rfl (by omega) (WL.eql rfl rfl rfl ?_)))))))))))))
  refine WL.pickFp rfl rfl (by omega) rfl (WL.as rfl rfl (WL.nil ?_))
  exact W.fit (Hs' := []) (by (repeat' first | exact Sel.nil | apply Sel.k | exact Pick.h | apply Pick.t)) (W.ret1 rfl rfl (fun h q => ⟨by unfold isRes; rw [decide_eq_false h1]; rfl, q⟩))
theorem residentX_c (ρ : Hp) (a b c k : Int) (r t : Bool) (n : Int) : Fn Try.prog 28 #[.agg #[.int .i64 a, .int .i64 b, .int .i64 c, .int .i64 k, .bool r, .bool t, .int .i64 n]] ρ [] (Just (.bool (decide (k = 1) || decide (k = 2)))) :=
 resident_c ρ ⟨⟨a, b, c⟩, k, r, t, n⟩
theorem coldFree_c (ρ : Hp) (p : Pg) : Fn Try.prog 43 #[pgV p] ρ [] (Just (.bool (isCold p))) := by
 refine in43 rfl rfl ?_
 unfold pgV
 by_cases h1 : p.kind = 2
 ·refine W.seq ?_
  refine W.region ?_
  refine WL.bxF rfl rfl (by repeat' constructor) (fun b0 => ?_)
  refine WL.as rfl rfl (WL.nil (W.seq (W.region (WL.faN (T := Ty) (off' := 3) rfl rfl rfl rfl rfl rfl rfl (WL.ldN (T := Ty) (j := 0) rfl rfl rfl rfl rfl rfl (WL.eql rfl rfl rfl (WL.mv rfl rfl (WL.gT rfl rfl (by omega) (WL.faN (T := Ty) (off' := 6) rfl rfl rfl rfl rfl rfl rfl (WL.gT rfl rfl (by omega) (WL.ldN (T := Ty) (j := 0) rfl rfl rfl rfl rfl rfl (WL.gT rfl rfl (by omega) (WL.eql rfl rfl rfl ?_)))))))))))))
  refine WL.pickTp rfl rfl (by omega) rfl (WL.as rfl rfl (WL.nil ?_))
  exact W.fit (Hs' := []) (by (repeat' first | exact Sel.nil | apply Sel.k | exact Pick.h | apply Pick.t)) (W.ret1 rfl rfl (fun h q => ⟨by unfold isCold; rw [decide_eq_true h1]; rfl, q⟩))
 ·refine W.seq ?_
  refine W.region ?_
  refine WL.bxF rfl rfl (by repeat' constructor) (fun b0 => ?_)
  refine WL.as rfl rfl (WL.nil (W.seq (W.region (WL.faN (T := Ty) (off' := 3) rfl rfl rfl rfl rfl rfl rfl (WL.ldN (T := Ty) (j := 0) rfl rfl rfl rfl rfl rfl (WL.eql rfl rfl rfl (WL.mv rfl rfl (WL.gdTn rfl rfl rfl rfl rfl (by omega) (WL.gdTn rfl rfl rfl rfl rfl (by omega) (WL.gdTn rfl rfl rfl rfl rfl (by omega) (WL.pickFp rfl rfl (by omega) rfl (WL.as rfl rfl (WL.nil ?_)))))))))))))
  exact W.fit (Hs' := []) (by (repeat' first | exact Sel.nil | apply Sel.k | exact Pick.h | apply Pick.t)) (W.ret1 rfl rfl (fun h q => ⟨by unfold isCold; rw [decide_eq_false h1]; rfl, q⟩))
theorem coldFreeX_c (ρ : Hp) (a b c k : Int) (r t : Bool) (n : Int) : Fn Try.prog 43 #[.agg #[.int .i64 a, .int .i64 b, .int .i64 c, .int .i64 k, .bool r, .bool t, .int .i64 n]] ρ [] (Just (.bool (decide (k = 2) && decide (n = 0)))) :=
 coldFree_c ρ ⟨⟨a, b, c⟩, k, r, t, n⟩
theorem free_c (ρ : Hp) (p : Pg) : Fn Try.prog 29 #[pgV p] ρ [] (Just (.bool (isFree p))) := by
 refine in29 rfl rfl ?_
 unfold pgV
 cases h1 : (decide (p.kind = 1) || decide (p.kind = 2)) with
 | true =>
  refine W.seq (W.region ?_)
  refine WL.bxF rfl rfl (by repeat' constructor) (fun b0 => ?_)
  refine WL.as rfl rfl (WL.nil (W.seq (W.region ?_)))
  refine WL.ldAF (T := Ty) (j := 0) rfl rfl rfl rfl rfl rfl (by repeat' constructor) ?_
  refine WL.callV rfl rfl (fun x p d => residentX_c _ _ _ _ _ _ _ _) ?_
  refine WL.mv rfl rfl ?_
  rw [h1]
  refine WL.gY rfl rfl (WL.faN (T := Ty) (off' := 6) rfl rfl rfl rfl rfl rfl rfl (WL.gY rfl rfl (WL.ldN (T := Ty) (j := 0) rfl rfl rfl rfl rfl rfl (WL.gY rfl rfl (WL.eql rfl rfl rfl (WL.pickT rfl rfl rfl (WL.as rfl rfl (WL.nil ?_))))))))
  exact W.fit (Hs' := []) (by (repeat' first | exact Sel.nil | apply Sel.k | exact Pick.h | apply Pick.t)) (W.ret1 rfl rfl (fun h q => ⟨by unfold isFree isRes; rw [h1]; rfl, q⟩))
 | false =>
  refine W.seq (W.region ?_)
  refine WL.bxF rfl rfl (by repeat' constructor) (fun b0 => ?_)
  refine WL.as rfl rfl (WL.nil (W.seq (W.region ?_)))
  refine WL.ldAF (T := Ty) (j := 0) rfl rfl rfl rfl rfl rfl (by repeat' constructor) ?_
  refine WL.callV rfl rfl (fun x p d => residentX_c _ _ _ _ _ _ _ _) ?_
  refine WL.mv rfl rfl ?_
  rw [h1]
  refine WL.gdN rfl rfl rfl rfl rfl rfl (WL.gdN rfl rfl rfl rfl rfl rfl (WL.gdN rfl rfl rfl rfl rfl rfl (WL.pickF rfl rfl rfl (WL.as rfl rfl (WL.nil ?_)))))
  exact W.fit (Hs' := []) (by (repeat' first | exact Sel.nil | apply Sel.k | exact Pick.h | apply Pick.t)) (W.ret1 rfl rfl (fun h q => ⟨by unfold isFree isRes; rw [h1]; rfl, q⟩))
theorem count_c (ρ : Hp) (so : Pg → Bool) (g : FuncId) (hg : ∀ p ρ, Fn Try.prog g #[pgV p] ρ [] (Just (.bool (so p)))) (mo ta : Int) (v : Value) (L : List Pg) (h1 h2 h3 : Int) (r0 : ROs ρ 7 v (L.flatMap pgC)) (hl : L.length ≤ 1000000) :
    Fn Try.prog 27 #[.agg #[.int .i64 mo, .int .i64 ta, v, .int .i64 h1, .int .i64 h2, .int .i64 h3], .func (.func g) #[] #[]] ρ [] (Just (.int .i64 (cnt so L : Nat))) := by
  have s0 : SL v L.length := r0.sl (pgs_cells L) (by omega)
  refine in27 rfl rfl ?_
  refine W.seq (W.region ?_)
  refine WL.bxF rfl rfl (by repeat' constructor) (fun b0 => ?_)
  refine WL.as rfl rfl (WL.nil (W.seq (W.region (WL.as rfl rfl (WL.nil (W.seq (W.seq (W.region (WL.faN (T := Ty) (off' := 2) rfl rfl rfl rfl rfl rfl rfl (WL.ldN (T := Ty) (j := 0) rfl rfl rfl rfl rfl rfl ?_))))))))))
  refine WL.len (T := Ty) rfl rfl (by assumption) rfl ?_
  refine WL.mv rfl rfl (WL.nil (W.block ?_))
  refine W.fit (Hs' := []) (by (repeat' first | exact Sel.nil | apply Sel.k | exact Pick.h | apply Pick.t)) ?_
  refine W.loopR (σ := Nat) (fun i => [(1, .func (.func g) #[] #[]), (5, .int .i64 ((cnt so (L.take i) : Nat) : Int)), (9, v), (10, .int .i64 (L.length : Int)), (11, .int .i64 (i : Int))]) (fun i => []) (fun i ρ' => i ≤ L.length) (fun i => L.length - i)
    0 ⟨rfl, rfl, rfl, rfl, rfl, trivial⟩ rfl (Nat.zero_le _) ?_
  intro i ρ1 le1 hi next
  replace r0 := r0.mono le1
  by_cases hc : i < L.length
  · obtain ⟨p, hp⟩ : ∃ p, L[i]? = some p := ⟨_, List.getElem?_eq_getElem hc⟩
    have l1 := pgs_cells L
    have hrow : ((L.flatMap pgC).drop (((i : Nat) : Int).toNat * 7)).take 7 = pgC p := flat_row pg_len hp
    have hst : cnt so (L.take (i + 1)) = if so p = true then cnt so (L.take i) + 1 else cnt so (L.take i) := by
      unfold cnt
      rw [List.take_add_one, hp, Option.toList_some, List.countP_append, List.countP_singleton]
      split <;> rfl
    have hlt : cnt so (L.take i) ≤ 1000000 := by
      have := List.countP_le_length (p := so) (l := L.take i)
      rw [List.length_take] at this
      unfold cnt
      omega
    unfold pgC at hrow
    refine W.seq (W.region (WL.lss rfl rfl rfl (WL.nil (W.seq (W.condpT rfl (by omega) (W.skip (W.seq (W.block (W.seq (W.region ?_))))))))))
    refine WL.ix (T := Ty) rfl rfl rfl (by assumption) rfl rfl (by omega) (by first | omega | decide +kernel) ?_
    refine WL.ldAR (T := Ty) rfl rfl rfl rfl (by first | assumption | exact ROs.wide (by assumption)) (by assumption) rfl ?_
    refine WL.alF (T := Ty) rfl rfl (by repeat' constructor) (fun b1 => ?_)
    refine WL.stAO (T := Ty) (j := 0) rfl rfl rfl rfl (by repeat' first | exact AO.nil | apply AO.cons (by first | rfl | exact SL.one (by assumption))) rfl rfl (by repeat' constructor) (by repeat' constructor) ?_
    refine WL.nil (W.seq (W.region (WL.mv rfl rfl ?_)))
    refine WL.ldAF (T := Ty) (j := 0) rfl rfl rfl rfl rfl rfl (by repeat' constructor) ?_
    refine WL.callC (cs := []) rfl rfl rfl (hg p _) ?_
    cases hs : so p with
    | true =>
      rw [hs] at hst
      refine WL.nil (W.condT rfl (W.region (WL.mv rfl rfl (WL.addK rfl rfl rfl (wrap_i64 ⟨by omega, by omega⟩) (WL.as rfl rfl (WL.nil (W.inBlock (W.region (WL.addK rfl rfl rfl (wrap_i64 ⟨by omega, by omega⟩) (WL.mv rfl rfl (WL.nil ?_)))))))))))
      refine W.fit (Hs' := []) (by (repeat' first | exact Sel.nil | apply Sel.k | exact Pick.h | apply Pick.t)) (W.sub ?_ (next (i + 1) ρ1 (Le.refl _) hc (by omega)))
      exact ⟨rfl, by rw [hst]; rfl, rfl, rfl, rfl, trivial⟩
    | false =>
      rw [hs] at hst
      refine WL.nil (W.condF rfl (W.skip (W.inBlock (W.region (WL.addK rfl rfl rfl (wrap_i64 ⟨by omega, by omega⟩) (WL.mv rfl rfl (WL.nil ?_)))))))
      refine W.fit (Hs' := []) (by (repeat' first | exact Sel.nil | apply Sel.k | exact Pick.h | apply Pick.t)) (W.sub ?_ (next (i + 1) ρ1 (Le.refl _) hc (by omega)))
      exact ⟨rfl, by rw [hst]; rfl, rfl, rfl, rfl, trivial⟩
  · have hiL : i = L.length := by omega
    subst hiL
    refine W.seq (W.region (WL.lss rfl rfl rfl (WL.nil (W.seq (W.condpF rfl (by omega) (W.exit rfl (W.seq (W.region (WL.mv rfl rfl (WL.as rfl rfl (WL.nil ?_)))))))))))
    exact W.ret1 rfl rfl (fun h q => ⟨by rw [List.take_length], q⟩)
def PClkO (b : Nat) (c : Clk) (v : Value) : List HP := [box b [.int .i64 c.most, .int .i64 c.target, v, .int .i64 (c.hot : Int), .int .i64 (c.cold : Int), .int .i64 (c.test : Int)] 36, Buf 7 v (c.pages.flatMap pgC)]
/-- what comes back of a call that turns a clock -/
def CkR (b : Nat) (c : Clk) (r : Value) : HP := fun h => ∃ v, (r = .tuple #[] ∧ SL v c.pages.length) ∧ sepl (PClkO b c v) h
theorem aim_c (ρ : Hp) (b : Nat) (mo ta : Int) (v : Value) (h1 h2 h3 d : Int) (m1 : -1000 ≤ mo) (m2 : mo ≤ 1000) (t1 : -1000 ≤ ta ∧ ta ≤ 1000) (d1 : -1000 ≤ d) (d2 : d ≤ 1000) :
  Fn Try.prog 33 #[pt b 0, .int .i64 d] ρ [box b [.int .i64 mo, .int .i64 ta, v, .int .i64 h1, .int .i64 h2, .int .i64 h3] 36] (fun r h => r = .tuple #[] ∧ box b [.int .i64 mo, .int .i64 (min (max (ta + d) 1) mo), v, .int .i64 h1, .int .i64 h2, .int .i64 h3] 36 h) := by
 obtain ⟨t1, t2⟩ := t1
 refine in33 rfl rfl ?_
 refine W.drawA 13 rfl (fun σ0 hσ0 dσ0 => ?_)
 have fσ0_0 := rb_at 0 rfl hσ0 dσ0
 refine WD.takeL 0 rfl (by decide +kernel) (WL.mv rfl rfl (WL.nilT (WD.takeL 1 rfl (by decide +kernel) (WL.mv rfl rfl (WL.nilT (WD.takeL 2 rfl (by decide +kernel) (WL.nc rfl rfl (WL.nilT (WD.takeL 3 rfl (by decide +kernel) (WL.faN (T := Ty) (off' := 1) rfl rfl rfl rfl rfl rfl rfl (WL.nilT (WD.takeL 4 rfl (by decide +kernel) ?_))))))))))))
 refine WL.ldBN (T := Ty) rfl rfl rfl rfl (by first | assumption | exact RB.wide (by assumption) | exact In.rb (by assumption)) rfl ?_
 refine WL.nilT (WD.takeL 5 rfl (by decide +kernel) (WL.mv rfl rfl (WL.nilT (WD.takeL 6 rfl (by decide +kernel) (WL.addK rfl rfl rfl (wrap_i64 ⟨by omega, by omega⟩) (WL.nilT (WD.takeL 7 rfl (by decide +kernel) (WL.mx rfl rfl rfl (WL.nilT (WD.takeL 8 rfl (by decide +kernel) (WL.mv rfl rfl (WL.nilT (WD.takeL 9 rfl (by decide +kernel) ?_)))))))))))))
 refine WL.nc rfl rfl (WL.nilT (WD.takeL 10 rfl (by decide +kernel) (WL.faN (T := Ty) (off' := 0) rfl rfl rfl rfl rfl rfl rfl (WL.nilT (WD.takeL 11 rfl (by decide +kernel) ?_)))))
 refine WL.ldBN (T := Ty) rfl rfl rfl rfl (by first | assumption | exact RB.wide (by assumption) | exact In.rb (by assumption)) rfl ?_
 refine WL.nilT (WD.takeL 12 rfl (by decide +kernel) (WL.mn rfl rfl rfl (WL.nilT ?_)))
 refine WD.lastG hσ0 (by decide +kernel) (by repeat' constructor) rfl (by repeat' constructor) ?_
 refine WL.nc rfl rfl (WL.faN (T := Ty) (off' := 1) rfl rfl rfl rfl rfl rfl rfl ?_)
 refine WL.stF (T := Ty) (j := 0) rfl rfl rfl rfl rfl rfl rfl (by repeat' constructor) (by repeat' constructor) ?_
 refine WL.nil ?_
 exact W.stop0 rfl (fun h q => ⟨rfl, sepl_one.1 q⟩)
theorem hands_c (ρ : Hp) (b : Nat) : Fn Try.prog 42 #[pt b 0] ρ [] (fun r => Buf 1 r [pt b 3, pt b 4, pt b 5]) := by
 refine in42 rfl rfl ?_
 refine W.seq (W.region (WL.as rfl rfl (WL.nil (W.seq ?_))))
 refine W.drawA 10 rfl (fun σ0 hσ0 dσ0 => ?_)
 refine WD.takeL 0 rfl (by decide +kernel) (WL.mv rfl rfl (WL.nilT (WD.takeL 1 rfl (by decide +kernel) (WL.nc rfl rfl (WL.nilT (WD.takeL 2 rfl (by decide +kernel) (WL.faN (T := Ty) (off' := 3) rfl rfl rfl rfl rfl rfl rfl (WL.nilT (WD.takeL 3 rfl (by decide +kernel) (WL.mv rfl rfl (WL.nilT (WD.takeL 4 rfl (by decide +kernel) (WL.nc rfl rfl ?_)))))))))))))
 refine WL.nilT (WD.takeL 5 rfl (by decide +kernel) (WL.faN (T := Ty) (off' := 4) rfl rfl rfl rfl rfl rfl rfl (WL.nilT (WD.takeL 6 rfl (by decide +kernel) (WL.mv rfl rfl (WL.nilT (WD.takeL 7 rfl (by decide +kernel) (WL.nc rfl rfl (WL.nilT (WD.takeL 8 rfl (by decide +kernel) (WL.faN (T := Ty) (off' := 5) rfl rfl rfl rfl rfl rfl rfl (WL.nilT (WD.oneL 9 rfl (by decide +kernel) ?_)))))))))))))
 refine WL.bsC (T := Ty) rfl rfl rfl rfl rfl rfl rfl (by repeat' first | exact CO.nil | apply CO.one (by first | rfl | exact SL.one (by assumption)) | apply CO.agg) rfl (by repeat' constructor) (fun u0 hu0 => ?_)
 refine WL.nilH hσ0 (fun σ1 hσ1 dσ1 mσ1 => ?_)
 have fσ1_0 := ros_at 0 rfl hσ1 dσ1
 refine WD.lastG hσ1 (by decide +kernel) (by repeat' constructor) rfl (by repeat' constructor) ?_
 refine WL.as rfl rfl (WL.nil ?_)
 exact W.ret1 rfl rfl (fun h q => sepl_one.1 q)
theorem on1_c (ρ : Hp) (b : Nat) (mo ta : Int) (v : Value) (h1 h2 h3 n : Nat) (hv : SL v n) (hn : 0 < n) (hm : n ≤ 1000000) (hh : h1 ≤ 1000000) :
  Fn Try.prog 45 #[pt b 0, pt b 3] ρ [box b [.int .i64 mo, .int .i64 ta, v, .int .i64 (h1 : Int), .int .i64 (h2 : Int), .int .i64 (h3 : Int)] 36] (fun r h => r = .tuple #[] ∧ box b [.int .i64 mo, .int .i64 ta, v, .int .i64 (((h1 + 1) % n : Nat) : Int), .int .i64 (h2 : Int), .int .i64 (h3 : Int)] 36 h) := by
 refine in45 rfl rfl ?_
 have e : ((h1 : Int) + 1) % (n : Int) = (((h1 + 1) % n : Nat) : Int) := by push_cast; rfl
 refine W.drawA 11 rfl (fun σ0 hσ0 dσ0 => ?_)
 have fσ0_0 := rb_at 0 rfl hσ0 dσ0
 refine WD.takeL 0 rfl (by decide +kernel) (WL.mv rfl rfl (WL.nilT (WD.takeL 1 rfl (by decide +kernel) (WL.mv rfl rfl (WL.nilT (WD.takeL 2 rfl (by decide +kernel) (WL.nc rfl rfl (WL.nilT (WD.takeL 3 rfl (by decide +kernel) ?_)))))))))
 refine WL.ldBN (T := Ty) rfl rfl rfl rfl (by first | assumption | exact RB.wide (by assumption) | exact In.rb (by assumption)) rfl ?_
 refine WL.nilT (WD.takeL 4 rfl (by decide +kernel) (WL.addK rfl rfl rfl (wrap_i64 ⟨by omega, by omega⟩) (WL.nilT (WD.takeL 5 rfl (by decide +kernel) (WL.mv rfl rfl (WL.nilT (WD.takeL 6 rfl (by decide +kernel) (WL.nc rfl rfl (WL.nilT (WD.takeL 7 rfl (by decide +kernel) (WL.faN (T := Ty) (off' := 2) rfl rfl rfl rfl rfl rfl rfl (WL.nilT (WD.takeL 8 rfl (by decide +kernel) ?_)))))))))))))
 refine WL.ldBN (T := Ty) rfl rfl rfl rfl (by first | assumption | exact RB.wide (by assumption) | exact In.rb (by assumption)) rfl ?_
 refine WL.nilT (WD.takeL 9 rfl (by decide +kernel) ?_)
 refine WL.len (T := Ty) rfl rfl (by assumption) rfl ?_
 refine WL.nilT (WD.takeL 10 rfl (by decide +kernel) (WL.remI rfl rfl rfl (by omega) (by omega) (WL.nilT ?_)))
 refine WD.lastG hσ0 (by decide +kernel) (by repeat' constructor) rfl (by repeat' constructor) ?_
 refine WL.nc rfl rfl ?_
 refine WL.stF (T := Ty) (j := 0) rfl rfl rfl rfl rfl rfl rfl (by repeat' constructor) (by repeat' constructor) ?_
 refine WL.nil ?_
 rw [e]
 exact W.stop0 rfl (fun h q => ⟨rfl, sepl_one.1 q⟩)
theorem on2_c (ρ : Hp) (b : Nat) (mo ta : Int) (v : Value) (h1 h2 h3 n : Nat) (hv : SL v n) (hn : 0 < n) (hm : n ≤ 1000000) (hh : h2 ≤ 1000000) :
  Fn Try.prog 45 #[pt b 0, pt b 4] ρ [box b [.int .i64 mo, .int .i64 ta, v, .int .i64 (h1 : Int), .int .i64 (h2 : Int), .int .i64 (h3 : Int)] 36] (fun r h => r = .tuple #[] ∧ box b [.int .i64 mo, .int .i64 ta, v, .int .i64 (h1 : Int), .int .i64 (((h2 + 1) % n : Nat) : Int), .int .i64 (h3 : Int)] 36 h) := by
 refine in45 rfl rfl ?_
 have e : ((h2 : Int) + 1) % (n : Int) = (((h2 + 1) % n : Nat) : Int) := by push_cast; rfl
 refine W.drawA 11 rfl (fun σ0 hσ0 dσ0 => ?_)
 have fσ0_0 := rb_at 0 rfl hσ0 dσ0
 refine WD.takeL 0 rfl (by decide +kernel) (WL.mv rfl rfl (WL.nilT (WD.takeL 1 rfl (by decide +kernel) (WL.mv rfl rfl (WL.nilT (WD.takeL 2 rfl (by decide +kernel) (WL.nc rfl rfl (WL.nilT (WD.takeL 3 rfl (by decide +kernel) ?_)))))))))
 refine WL.ldBN (T := Ty) rfl rfl rfl rfl (by first | assumption | exact RB.wide (by assumption) | exact In.rb (by assumption)) rfl ?_
 refine WL.nilT (WD.takeL 4 rfl (by decide +kernel) (WL.addK rfl rfl rfl (wrap_i64 ⟨by omega, by omega⟩) (WL.nilT (WD.takeL 5 rfl (by decide +kernel) (WL.mv rfl rfl (WL.nilT (WD.takeL 6 rfl (by decide +kernel) (WL.nc rfl rfl (WL.nilT (WD.takeL 7 rfl (by decide +kernel) (WL.faN (T := Ty) (off' := 2) rfl rfl rfl rfl rfl rfl rfl (WL.nilT (WD.takeL 8 rfl (by decide +kernel) ?_)))))))))))))
 refine WL.ldBN (T := Ty) rfl rfl rfl rfl (by first | assumption | exact RB.wide (by assumption) | exact In.rb (by assumption)) rfl ?_
 refine WL.nilT (WD.takeL 9 rfl (by decide +kernel) ?_)
 refine WL.len (T := Ty) rfl rfl (by assumption) rfl ?_
 refine WL.nilT (WD.takeL 10 rfl (by decide +kernel) (WL.remI rfl rfl rfl (by omega) (by omega) (WL.nilT ?_)))
 refine WD.lastG hσ0 (by decide +kernel) (by repeat' constructor) rfl (by repeat' constructor) ?_
 refine WL.nc rfl rfl ?_
 refine WL.stF (T := Ty) (j := 0) rfl rfl rfl rfl rfl rfl rfl (by repeat' constructor) (by repeat' constructor) ?_
 refine WL.nil ?_
 rw [e]
 exact W.stop0 rfl (fun h q => ⟨rfl, sepl_one.1 q⟩)
theorem on3_c (ρ : Hp) (b : Nat) (mo ta : Int) (v : Value) (h1 h2 h3 n : Nat) (hv : SL v n) (hn : 0 < n) (hm : n ≤ 1000000) (hh : h3 ≤ 1000000) :
  Fn Try.prog 45 #[pt b 0, pt b 5] ρ [box b [.int .i64 mo, .int .i64 ta, v, .int .i64 (h1 : Int), .int .i64 (h2 : Int), .int .i64 (h3 : Int)] 36] (fun r h => r = .tuple #[] ∧ box b [.int .i64 mo, .int .i64 ta, v, .int .i64 (h1 : Int), .int .i64 (h2 : Int), .int .i64 (((h3 + 1) % n : Nat) : Int)] 36 h) := by
 refine in45 rfl rfl ?_
 have e : ((h3 : Int) + 1) % (n : Int) = (((h3 + 1) % n : Nat) : Int) := by push_cast; rfl
 refine W.drawA 11 rfl (fun σ0 hσ0 dσ0 => ?_)
 have fσ0_0 := rb_at 0 rfl hσ0 dσ0
 refine WD.takeL 0 rfl (by decide +kernel) (WL.mv rfl rfl (WL.nilT (WD.takeL 1 rfl (by decide +kernel) (WL.mv rfl rfl (WL.nilT (WD.takeL 2 rfl (by decide +kernel) (WL.nc rfl rfl (WL.nilT (WD.takeL 3 rfl (by decide +kernel) ?_)))))))))
 refine WL.ldBN (T := Ty) rfl rfl rfl rfl (by first | assumption | exact RB.wide (by assumption) | exact In.rb (by assumption)) rfl ?_
 refine WL.nilT (WD.takeL 4 rfl (by decide +kernel) (WL.addK rfl rfl rfl (wrap_i64 ⟨by omega, by omega⟩) (WL.nilT (WD.takeL 5 rfl (by decide +kernel) (WL.mv rfl rfl (WL.nilT (WD.takeL 6 rfl (by decide +kernel) (WL.nc rfl rfl (WL.nilT (WD.takeL 7 rfl (by decide +kernel) (WL.faN (T := Ty) (off' := 2) rfl rfl rfl rfl rfl rfl rfl (WL.nilT (WD.takeL 8 rfl (by decide +kernel) ?_)))))))))))))
 refine WL.ldBN (T := Ty) rfl rfl rfl rfl (by first | assumption | exact RB.wide (by assumption) | exact In.rb (by assumption)) rfl ?_
 refine WL.nilT (WD.takeL 9 rfl (by decide +kernel) ?_)
 refine WL.len (T := Ty) rfl rfl (by assumption) rfl ?_
 refine WL.nilT (WD.takeL 10 rfl (by decide +kernel) (WL.remI rfl rfl rfl (by omega) (by omega) (WL.nilT ?_)))
 refine WD.lastG hσ0 (by decide +kernel) (by repeat' constructor) rfl (by repeat' constructor) ?_
 refine WL.nc rfl rfl ?_
 refine WL.stF (T := Ty) (j := 0) rfl rfl rfl rfl rfl rfl rfl (by repeat' constructor) (by repeat' constructor) ?_
 refine WL.nil ?_
 rw [e]
 exact W.stop0 rfl (fun h q => ⟨rfl, sepl_one.1 q⟩)
end Go.Proofs.Ytdpnpipninggeaa
