/- A page comes, and what it puts out. -/
import Derived.Test.YtdpnpipninggeaaStc
import Derived.Test.YtdpnpipninggeaaNum
import Derived.Test.YtdpnpipninggeaaTab
import Derived.Test.YtdpnpipninggeaaClk9
import Derived.Test.YtdpnpipninggeaaClkLw4
import Derived.Test.YtdpnpipninggeaaRetC
set_option linter.unusedSimpArgs false
set_option linter.unusedVariables false
set_option maxRecDepth 20000
set_option maxHeartbeats 4000000
namespace Go.Proofs.Ytdpnpipninggeaa
open Go
def newPg (k : Ky) (f : Int) : Pg := ⟨k, if 0 ≤ f then 1 else 2, false, if 0 ≤ f then false else true, 0⟩
def goneP (c : Clk) (f : Int) : Clk := if 0 ≤ f then aimP (goesP c f.toNat) 1 else c
def admitP (n : Nat) (c : Clk) (k : Ky) : Option (Clk × List Ky × Bool) :=
 if (touchP c k).2 = true then some ((touchP c k).1, [], true)
 else if c.most ≤ (cnt isRes c.pages : Int) ∧ cnt isFree c.pages = 0 then some (c, [], false)
 else (outL n (goneP c (fndK c.pages k)) []).bind fun r => (coolL n (comesP r.1 (newPg k (fndK c.pages k)))).map fun c' => (c', r.2, true)
theorem ky_cells (L : List Ky) : (L.flatMap kyC).length = L.length * 3 := flat_len (k := 3) (f := kyC) (fun _ => rfl) L
/-- a clock that is one's own, keys, and whether -/
def OAd (d : Clk × List Ky × Bool) (r : Value) : HP := fun h => ∃ x : Value × Value, (r = .tuple #[.agg #[.int .i64 d.1.most, .int .i64 d.1.target, x.1, .int .i64 (d.1.hot : Int), .int .i64 (d.1.cold : Int), .int .i64 (d.1.test : Int)], x.2, .bool d.2.2] ∧ SL x.1 d.1.pages.length ∧ SL x.2 d.2.1.length) ∧ sepl [Buf 7 x.1 (d.1.pages.flatMap pgC), Buf 3 x.2 (d.2.1.flatMap kyC)] h
attribute [local irreducible] W WL Fn Buf ROs SL eptr box Rd Src bndOK WD RB Reads In Own handG handC cnt goesP comesP fndK touchP pinP dropP outL coolL coldL
theorem admit_c (ρ : Hp) (c : Clk) (v : Value) (k : Ky) (n : Nat) (d : Clk × List Ky × Bool) (hB : ClkB c) (hR : ClkR c) (hl : c.pages.length ≤ 10000) (hn : n ≤ 1000000) (r0 : ROs ρ 7 v (c.pages.flatMap pgC)) (hd : admitP n c k = some d) :
    Fn Try.prog 20 #[.agg #[.int .i64 c.most, .int .i64 c.target, v, .int .i64 (c.hot : Int), .int .i64 (c.cold : Int), .int .i64 (c.test : Int)], .agg #[.int .i64 k.a, .int .i64 k.b, .int .i64 k.c]] ρ [] (OAd d) := by
  have hln := hB.ln
  have l1 := pgs_cells c.pages
  have s0 : SL v c.pages.length := r0.sl l1 (by omega)
  have hk : (⟨k.a, k.b, k.c⟩ : Ky) = k := rfl
  have hx1 := hB.h1
  have hx2 := hB.h2
  have hx3 := hB.h3
  have hq1 := cnt_le isRes c.pages
  have hq2 := cnt_le isFree c.pages
  unfold admitP at hd
  refine in20 rfl rfl ?_
  refine W.seq (W.region ?_)
  refine WL.bxF rfl rfl (by repeat' constructor) (fun b0 => ?_)
  refine WL.bxF rfl rfl (by repeat' constructor) (fun b1 => ?_)
  refine WL.alF (T := Ty) rfl rfl (by repeat' constructor) (fun b2 => ?_)
  refine WL.as rfl rfl (WL.as rfl rfl (WL.nil (W.seq (W.seq (W.region ?_)))))
  refine WL.ldAF (T := Ty) (j := 2) rfl rfl rfl rfl rfl rfl (by repeat' constructor) ?_
  refine WL.ldAF (T := Ty) (j := 1) rfl rfl rfl rfl rfl rfl (by repeat' constructor) ?_
  refine WL.callF rfl rfl (fun x p d => touch_c _ _ _ _ (by assumption) (by first | assumption | exact ROs.wide (by assumption) | exact ROs.mono (by assumption) (eqh_at 0 rfl p d) | exact ros_at 0 rfl p d | exact ros_at 1 rfl p d | exact ros_at 2 rfl p d | exact ros_at 3 rfl p d | exact ros_at 4 rfl p d)) (fun r3 => ?_)
  refine WL.opens (α := Value) (φ := fun v => r3 = .tuple #[.agg #[.int .i64 _, .int .i64 _, v, .int .i64 _, .int .i64 _, .int .i64 _], .bool _] ∧ SL v _) (ps := fun v => [Buf 7 v _]) 0 rfl (fun h q => q) (by repeat' constructor) ?_
  rintro u3 ⟨es3, su3⟩
  subst es3
  dsimp only [List.cons_append, List.nil_append] at su3 ⊢
  refine WL.mv rfl rfl (WL.extL rfl rfl rfl (WL.extL rfl rfl rfl ?_))
  refine WL.alF (T := Ty) rfl rfl (by repeat' constructor) (fun b4 => ?_)
  refine WL.stAO (T := Ty) (j := 0) rfl rfl rfl rfl (by repeat' first | exact AO.nil | apply AO.cons (by first | rfl | exact SL.one (by assumption))) rfl rfl (by repeat' constructor) (by repeat' constructor) ?_
  refine WL.as rfl rfl (WL.nil (W.seq (W.region (WL.mv rfl rfl (WL.nil ?_)))))
  generalize hT : touchP c k = T at hd su3 ⊢
  obtain ⟨t, ok⟩ := T
  dsimp only at hd su3 ⊢
  cases ok with
  | true =>
    rw [if_pos rfl] at hd
    cases hd
    refine W.condT rfl (W.seq (W.region ?_))
    refine WL.ldAF (T := Ty) (j := 0) rfl rfl rfl rfl rfl rfl (by repeat' constructor) ?_
    refine WL.stAO (T := Ty) (j := 2) rfl rfl rfl rfl (by repeat' first | exact AO.nil | apply AO.cons (by first | rfl | exact SL.one (by assumption))) rfl rfl (by repeat' constructor) (by repeat' constructor) ?_
    refine WL.as rfl rfl (WL.as rfl rfl (WL.nil (W.nb (sz := 3) ?_)))
    exact W.fit (Hs' := [box b2 _ _, Buf 7 u3 _, Buf 3 nilV []]) (by (repeat' first | exact Sel.nil | apply Sel.k | exact Pick.h | apply Pick.t)) (W.retC3 (T := Ty) (j := 0) rfl rfl rfl rfl rfl rfl rfl rfl (fun h q => ⟨(u3, nilV), ⟨rfl, by assumption, slZ⟩, q⟩))
  | false =>
    rw [if_neg (by decide)] at hd
    refine W.condF rfl (W.skip (W.seq (W.seq ?_)))
    refine W.cutG (τ := Unit) (fun s => [(2, pt b0 0), (3, pt b1 0), (4, pt b2 0), (29, .bool (decide (c.most ≤ (cnt isRes c.pages : Int) ∧ cnt isFree c.pages = 0)))]) (fun s => [box b0 [.int .i64 c.most, .int .i64 c.target, v, .int .i64 (c.hot : Int), .int .i64 (c.cold : Int), .int .i64 (c.test : Int)] 36, box b1 [.int .i64 k.a, .int .i64 k.b, .int .i64 k.c] 28, box b2 [.int .i64 0, .int .i64 0, nilV, .int .i64 0, .int .i64 0, .int .i64 0] 36]) (fun s ρ' => True) ?_ (fun cut => ?_)
    · rintro _ ρ1 le1 -
      replace r0 := r0.mono le1
      have ho := pgs_one c.pages
      clear hT su3
      by_cases hfull : c.most ≤ (cnt isRes c.pages : Int) ∧ cnt isFree c.pages = 0
      · rw [if_pos hfull] at hd
        cases hd
        refine W.condpT rfl (by omega) (W.seq (W.region ?_))
        refine WL.ldAF (T := Ty) (j := 0) rfl rfl rfl rfl rfl rfl (by repeat' constructor) ?_
        refine WL.callF rfl rfl (fun x p d => still15_c _ _ _ _ _ _ _ _ (by first | assumption | exact ROs.wide (by assumption) | exact ROs.mono (by assumption) (eqh_at 0 rfl p d) | exact ros_at 0 rfl p d | exact ros_at 1 rfl p d | exact ros_at 2 rfl p d | exact ros_at 3 rfl p d | exact ros_at 4 rfl p d) (by first | assumption | omega)) (fun r5 => ?_)
        refine WL.opens (α := Value) (φ := fun v => r5 = .agg #[.int .i64 _, .int .i64 _, v, .int .i64 _, .int .i64 _, .int .i64 _] ∧ SL v _) (ps := fun v => [Buf 7 v _]) 0 rfl (fun h q => q) (by repeat' constructor) ?_
        rintro u5 ⟨es5, su5⟩
        subst es5
        dsimp only [List.cons_append, List.nil_append] at su5 ⊢
        refine WL.stAO (T := Ty) (j := 3) rfl rfl rfl rfl (by repeat' first | exact AO.nil | apply AO.cons (by first | rfl | exact SL.one (by assumption))) rfl rfl (by repeat' constructor) (by repeat' constructor) ?_
        refine WL.as rfl rfl (WL.as rfl rfl (WL.nil (W.nb (sz := 3) ?_)))
        exact W.fit (Hs' := [box b2 _ _, Buf 7 u5 _, Buf 3 nilV []]) (by (repeat' first | exact Sel.nil | apply Sel.k | exact Pick.h | apply Pick.t)) (W.retC3 (T := Ty) (j := 0) rfl rfl rfl rfl rfl rfl rfl rfl (fun h q => ⟨(u5, nilV), ⟨rfl, by assumption, slZ⟩, q⟩))
      · rw [if_neg hfull] at hd
        refine W.condpF rfl (by omega) (W.skip (W.seq (W.region ?_)))
        refine WL.ldAF (T := Ty) (j := 0) rfl rfl rfl rfl rfl rfl (by repeat' constructor) ?_
        refine WL.callF rfl rfl (fun x p d => still15_c _ _ _ _ _ _ _ _ (by first | assumption | exact ROs.wide (by assumption) | exact ROs.mono (by assumption) (eqh_at 0 rfl p d) | exact ros_at 0 rfl p d | exact ros_at 1 rfl p d | exact ros_at 2 rfl p d | exact ros_at 3 rfl p d | exact ros_at 4 rfl p d) (by first | assumption | omega)) (fun r5 => ?_)
        refine WL.opens (α := Value) (φ := fun v => r5 = .agg #[.int .i64 _, .int .i64 _, v, .int .i64 _, .int .i64 _, .int .i64 _] ∧ SL v _) (ps := fun v => [Buf 7 v _]) 0 rfl (fun h q => q) (by repeat' constructor) ?_
        rintro u5 ⟨es5, su5⟩
        subst es5
        dsimp only [List.cons_append, List.nil_append] at su5 ⊢
        refine WL.stAO (T := Ty) (j := 1) rfl rfl rfl rfl (by repeat' first | exact AO.nil | apply AO.cons (by first | rfl | exact SL.one (by assumption))) rfl rfl (by repeat' constructor) (by repeat' constructor) ?_
        refine WL.nil (W.seq (W.region ?_))
        refine WL.ldAF (T := Ty) (j := 1) rfl rfl rfl rfl rfl rfl (by repeat' constructor) ?_
        refine WL.ldAF (T := Ty) (j := 2) rfl rfl rfl rfl rfl rfl (by repeat' constructor) ?_
        refine WL.callV rfl rfl (fun x p d => find15_c _ _ _ _ _ _ _ _ _ _ _ (by first | assumption | exact ROs.wide (by assumption) | exact ROs.mono (by assumption) (eqh_at 0 rfl p d) | exact ros_at 0 rfl p d | exact ros_at 1 rfl p d | exact ros_at 2 rfl p d | exact ros_at 3 rfl p d | exact ros_at 4 rfl p d) (by first | assumption | omega)) ?_
        refine WL.as rfl rfl (WL.nil (W.seq (W.seq (W.region (WL.mv rfl rfl (WL.geq rfl rfl rfl (WL.nil ?_)))))))
        rw [hk]
        have su5 : SL u5 c.pages.length := by assumption
        refine W.cutG (τ := Clk × Value) (fun s => [(2, pt b0 0), (3, pt b1 0), (4, pt b2 0), (9, .int .i64 (fndK c.pages k))]) (fun s => [box b0 [.int .i64 s.1.most, .int .i64 s.1.target, s.2, .int .i64 (s.1.hot : Int), .int .i64 (s.1.cold : Int), .int .i64 (s.1.test : Int)] 36, box b1 [.int .i64 k.a, .int .i64 k.b, .int .i64 k.c] 28, box b2 [.int .i64 0, .int .i64 0, nilV, .int .i64 0, .int .i64 0, .int .i64 0] 36, Buf 7 s.2 (s.1.pages.flatMap pgC)]) (fun s ρ' => s.1 = goneP c (fndK c.pages k) ∧ ClkB s.1 ∧ ClkR s.1 ∧ SL s.2 s.1.pages.length ∧ s.1.pages.length ≤ 10000) ?_ (fun cut1 => ?_)
        · generalize hf : fndK c.pages k = fk at hd ⊢
          rintro ⟨c1, v1⟩ ρ2 le2 ⟨hg, hB1, hR1, sv1, hl1⟩
          dsimp only at hg hB1 hR1 sv1 hl1 ⊢
          rw [← hg] at hd
          clear hg hB hR hl r0 l1 s0 hx1 hx2 hx3 hq1 hq2 ho hfull hln hf su5
          cases hx : outL n c1 [] with
          | none => rw [hx] at hd; cases hd
          | some r =>
            rw [hx] at hd
            simp only [Option.bind_some] at hd
            obtain ⟨c', hy, he⟩ := Option.map_eq_some_iff.1 hd
            subst he
            clear hd
            refine W.seq (W.region (WL.as rfl rfl (WL.nil (W.seq (W.block (W.nb (sz := 3) ?_))))))
            refine W.cutG2 (τ := Clk × Value × List Ky × Value) (fun s => [(2, pt b0 0), (3, pt b1 0), (4, pt b2 0), (9, .int .i64 fk), (10, s.2.2.2)]) (fun s => [Buf 3 s.2.2.2 (s.2.2.1.flatMap kyC), box b0 [.int .i64 s.1.most, .int .i64 s.1.target, s.2.1, .int .i64 (s.1.hot : Int), .int .i64 (s.1.cold : Int), .int .i64 (s.1.test : Int)] 36, box b1 [.int .i64 k.a, .int .i64 k.b, .int .i64 k.c] 28, box b2 [.int .i64 0, .int .i64 0, nilV, .int .i64 0, .int .i64 0, .int .i64 0] 36, Buf 7 s.2.1 (s.1.pages.flatMap pgC)])
              (fun s ρ' => r = (s.1, s.2.2.1) ∧ ClkB s.1 ∧ ClkR s.1 ∧ SL s.2.1 s.1.pages.length ∧ SL s.2.2.2 s.2.2.1.length ∧ s.1.pages.length ≤ 10000) ?_ (fun cut2 => ?_)
            · clear hx hB1 hR1 sv1 hl1 c1 v1
              rintro ⟨c, v, out, ko⟩ ρ3 le3 ⟨hr, hB, hR, sv, sk, hl⟩
              subst hr
              dsimp only at hy hB hR sv sk hl ⊢
              have hh1 := hR.h1
              have hh2 := hR.h2
              have hh3 := hR.h3
              by_cases hfk : 0 ≤ fk
              · skip
                have hnp : newPg k fk = ⟨k, 1, false, false, 0⟩ := by unfold newPg; rw [if_pos hfk, if_pos hfk]
                rw [hnp] at hy
                have hBc := comes_B hB (by omega) (by omega) (by omega) (by omega) ⟨k, 1, false, false, 0⟩
                obtain ⟨hBd, hmd⟩ := coolL_B n _ c' hBc hy
                refine W.seq (W.region ?_)
                refine WL.ldAF (T := Ty) (j := 2) rfl rfl rfl rfl rfl rfl (by repeat' constructor) ?_
                refine WL.bdC (T := Ty) rfl rfl rfl rfl (by repeat' first | exact CO.nil | apply CO.one (by first | rfl | exact SL.one (by assumption)) | apply CO.agg) rfl (by repeat' constructor) ?_
                refine WL.alF (T := Ty) rfl rfl (by repeat' constructor) (fun b6 => ?_)
                refine WL.stAO (T := Ty) (j := 0) rfl rfl rfl rfl (by repeat' first | exact AO.nil | apply AO.cons (by first | rfl | exact SL.one (by assumption))) rfl rfl (by repeat' constructor) (by repeat' constructor) ?_
                refine WL.nil (W.seq (W.seq (W.region (WL.mv rfl rfl (WL.geq rfl rfl rfl (WL.nil (W.condpT rfl (by omega) (W.region (WL.faN (T := Ty) (off' := 3) rfl rfl rfl rfl rfl rfl rfl ?_)))))))))
                refine WL.stF (T := Ty) (j := 0) rfl rfl rfl rfl rfl rfl rfl (by repeat' constructor) (by repeat' constructor) ?_
                refine WL.faN (T := Ty) (off' := 5) rfl rfl rfl rfl rfl rfl rfl ?_
                refine WL.stF (T := Ty) (j := 0) rfl rfl rfl rfl rfl rfl rfl (by repeat' constructor) (by repeat' constructor) ?_
                refine WL.nil (W.seq (W.region ?_))
                refine WL.ldAF (T := Ty) (j := 0) rfl rfl rfl rfl rfl rfl (by repeat' constructor) ?_
                refine WL.callTk (Take.cons 2 rfl (Take.cons 4 rfl Take.nil)) rfl rfl (fun x p d => comes_c _ b0 c.most c.target v c.pages c.hot c.cold c.test ⟨k, 1, false, false, 0⟩ (by omega) (by omega) sv (by omega) (by omega) (by omega)) (by repeat' constructor) (fun r9 => ?_)
                refine WL.opens (α := Value) (φ := fun v => r9 = .tuple #[] ∧ SL v _) (ps := fun v => PClkO _ _ v) 0 rfl (fun h q => q) (by repeat' constructor) ?_
                rintro u9 ⟨es9, su9⟩
                subst es9
                dsimp only [PClkO, List.cons_append, List.nil_append] at su9 ⊢
                refine WL.nil (W.seq (W.region ?_))
                refine WL.callTk (Take.cons 0 rfl (Take.cons 0 rfl Take.nil)) rfl rfl (fun x p d => coolL_c _ _ _ _ _ _ (by assumption) (by assumption) (by assumption)) (by repeat' constructor) (fun r10 => ?_)
                refine WL.opens (α := Value) (φ := fun v => r10 = .tuple #[] ∧ SL v _) (ps := fun v => PClkO _ _ v) 0 rfl (fun h q => q) (by repeat' constructor) ?_
                rintro u10 ⟨es10, su10⟩
                subst es10
                dsimp only [PClkO, List.cons_append, List.nil_append] at su10 ⊢
                refine WL.nil (W.seq (W.region ?_))
                refine WL.ldAF (T := Ty) (j := 0) rfl rfl rfl rfl rfl rfl (by repeat' constructor) ?_
                refine WL.mv rfl rfl ?_
                refine WL.stAO (T := Ty) (j := 5) rfl rfl rfl rfl (by repeat' first | exact AO.nil | apply AO.cons (by first | rfl | exact SL.one (by assumption))) rfl rfl (by repeat' constructor) (by repeat' constructor) ?_
                refine WL.as rfl rfl (WL.as rfl rfl (WL.nil ?_))
                exact W.fit (Hs' := [box b2 _ _, Buf 7 u10 _, Buf 3 ko _]) (by (repeat' first | exact Sel.nil | apply Sel.k | exact Pick.h | apply Pick.t)) (W.retC3 (T := Ty) (j := 0) rfl rfl rfl rfl rfl rfl rfl rfl (fun h q => ⟨(u10, ko), ⟨rfl, by assumption, sk⟩, q⟩))
              · skip
                have hnp : newPg k fk = ⟨k, 2, false, true, 0⟩ := by unfold newPg; rw [if_neg hfk, if_neg hfk]
                rw [hnp] at hy
                have hBc := comes_B hB (by omega) (by omega) (by omega) (by omega) ⟨k, 2, false, true, 0⟩
                obtain ⟨hBd, hmd⟩ := coolL_B n _ c' hBc hy
                refine W.seq (W.region ?_)
                refine WL.ldAF (T := Ty) (j := 2) rfl rfl rfl rfl rfl rfl (by repeat' constructor) ?_
                refine WL.bdC (T := Ty) rfl rfl rfl rfl (by repeat' first | exact CO.nil | apply CO.one (by first | rfl | exact SL.one (by assumption)) | apply CO.agg) rfl (by repeat' constructor) ?_
                refine WL.alF (T := Ty) rfl rfl (by repeat' constructor) (fun b6 => ?_)
                refine WL.stAO (T := Ty) (j := 0) rfl rfl rfl rfl (by repeat' first | exact AO.nil | apply AO.cons (by first | rfl | exact SL.one (by assumption))) rfl rfl (by repeat' constructor) (by repeat' constructor) ?_
                refine WL.nil (W.seq (W.seq (W.region (WL.mv rfl rfl (WL.geq rfl rfl rfl (WL.nil (W.condpF rfl (by omega) (W.skip (W.seq (W.region ?_))))))))))
                refine WL.ldAF (T := Ty) (j := 0) rfl rfl rfl rfl rfl rfl (by repeat' constructor) ?_
                refine WL.callTk (Take.cons 2 rfl (Take.cons 4 rfl Take.nil)) rfl rfl (fun x p d => comes_c _ b0 c.most c.target v c.pages c.hot c.cold c.test ⟨k, 2, false, true, 0⟩ (by omega) (by omega) sv (by omega) (by omega) (by omega)) (by repeat' constructor) (fun r9 => ?_)
                refine WL.opens (α := Value) (φ := fun v => r9 = .tuple #[] ∧ SL v _) (ps := fun v => PClkO _ _ v) 0 rfl (fun h q => q) (by repeat' constructor) ?_
                rintro u9 ⟨es9, su9⟩
                subst es9
                dsimp only [PClkO, List.cons_append, List.nil_append] at su9 ⊢
                refine WL.nil (W.seq (W.region ?_))
                refine WL.callTk (Take.cons 0 rfl (Take.cons 0 rfl Take.nil)) rfl rfl (fun x p d => coolL_c _ _ _ _ _ _ (by assumption) (by assumption) (by assumption)) (by repeat' constructor) (fun r10 => ?_)
                refine WL.opens (α := Value) (φ := fun v => r10 = .tuple #[] ∧ SL v _) (ps := fun v => PClkO _ _ v) 0 rfl (fun h q => q) (by repeat' constructor) ?_
                rintro u10 ⟨es10, su10⟩
                subst es10
                dsimp only [PClkO, List.cons_append, List.nil_append] at su10 ⊢
                refine WL.nil (W.seq (W.region ?_))
                refine WL.ldAF (T := Ty) (j := 0) rfl rfl rfl rfl rfl rfl (by repeat' constructor) ?_
                refine WL.mv rfl rfl ?_
                refine WL.stAO (T := Ty) (j := 5) rfl rfl rfl rfl (by repeat' first | exact AO.nil | apply AO.cons (by first | rfl | exact SL.one (by assumption))) rfl rfl (by repeat' constructor) (by repeat' constructor) ?_
                refine WL.as rfl rfl (WL.as rfl rfl (WL.nil ?_))
                exact W.fit (Hs' := [box b2 _ _, Buf 7 u10 _, Buf 3 ko _]) (by (repeat' first | exact Sel.nil | apply Sel.k | exact Pick.h | apply Pick.t)) (W.retC3 (T := Ty) (j := 0) rfl rfl rfl rfl rfl rfl rfl rfl (fun h q => ⟨(u10, ko), ⟨rfl, by assumption, sk⟩, q⟩))
            refine W.loopR (σ := Nat × Clk × Value × List Ky × Value) (fun s => [(2, pt b0 0), (3, pt b1 0), (4, pt b2 0), (9, .int .i64 fk), (10, s.2.2.2.2)])
              (fun s => [Buf 3 s.2.2.2.2 (s.2.2.2.1.flatMap kyC), box b0 [.int .i64 s.2.1.most, .int .i64 s.2.1.target, s.2.2.1, .int .i64 (s.2.1.hot : Int), .int .i64 (s.2.1.cold : Int), .int .i64 (s.2.1.test : Int)] 36, box b1 [.int .i64 k.a, .int .i64 k.b, .int .i64 k.c] 28, box b2 [.int .i64 0, .int .i64 0, nilV, .int .i64 0, .int .i64 0, .int .i64 0] 36, Buf 7 s.2.2.1 (s.2.1.pages.flatMap pgC)])
              (fun s ρ' => outL s.1 s.2.1 s.2.2.2.1 = some r ∧ ClkB s.2.1 ∧ ClkR s.2.1 ∧ SL s.2.2.1 s.2.1.pages.length ∧ SL s.2.2.2.2 s.2.2.2.1.length ∧ s.2.2.2.1.length + s.1 ≤ 1000000 ∧ s.2.1.pages.length ≤ 10000) (fun s => s.1)
              (n, c1, v1, [], nilV) ⟨rfl, rfl, rfl, rfl, rfl, trivial⟩ rfl ⟨hx, hB1, hR1, sv1, slZ, by simpa using hn, hl1⟩ ?_
            clear hx hB1 hR1 sv1 hl1 c1 v1
            rintro ⟨m, c, v, out, ko⟩ ρ3 le3 ⟨hx, hB, hR, sv, sk, hn1, hl⟩ next
            dsimp only at hx hB hR sv sk hn1 hl next ⊢
            cases m with
            | zero => unfold outL at hx; cases hx
            | succ m =>
              rw [outL_s] at hx
              have hln := hB.ln
              have l1 := pgs_cells c.pages
              have hc1 := cnt_le isRes c.pages
              have l3 := ky_cells out
              by_cases hgt : c.most ≤ (cnt isRes c.pages : Int)
              · rw [if_pos hgt] at hx
                cases hz : coldL m c with
                | none => rw [hz] at hx; cases hx
                | some y =>
                  rw [hz] at hx
                  simp only [Option.bind_some] at hx
                  obtain ⟨hB', hm⟩ := coldL_B m c y hB hz
                  have hR' := coldL_I cloR m c y hR hz
                  have hl' := coldL_I (cloLen 10000) m c y hl hz
                  obtain ⟨yc, yk⟩ := y
                  dsimp only at hx hB' hR' hl'
                  have hfl : out.flatMap kyC ++ [.int .i64 yk.a, .int .i64 yk.b, .int .i64 yk.c] = (out ++ [yk]).flatMap kyC := by rw [List.flatMap_append]; rfl
                  refine W.seq (W.seq ?_)
                  refine W.drawA 5 rfl (fun σ0 hσ0 dσ0 => ?_)
                  have fσ0_0 := ros_at 0 rfl hσ0 dσ0
                  have fσ0_1 := rb_at 1 rfl hσ0 dσ0
                  have fσ0_2 := rb_at 2 rfl hσ0 dσ0
                  have fσ0_3 := rb_at 3 rfl hσ0 dσ0
                  have fσ0_4 := ros_at 4 rfl hσ0 dσ0
                  refine WD.takeL 0 rfl (by decide +kernel) ?_
                  refine WL.ldABF (T := Ty) rfl rfl rfl rfl (by first | assumption | exact RB.wide (by assumption) | exact In.rb (by assumption)) rfl (by repeat' constructor) ?_
                  refine WL.nilT (WD.takeL 2 rfl (by decide +kernel) (WL.faN (T := Ty) (off' := 0) rfl rfl rfl rfl rfl rfl rfl (WL.nilT (WD.takeL 3 rfl (by decide +kernel) ?_))))
                  refine WL.ldBN (T := Ty) rfl rfl rfl rfl (by first | assumption | exact RB.wide (by assumption) | exact In.rb (by assumption)) rfl ?_
                  refine WL.nilT (WD.oneL 1 rfl (by decide +kernel) ?_)
                  refine WL.callV rfl rfl (fun x p d => count_c _ isRes 28 (fun p ρ => resident_c ρ p) _ _ _ _ _ _ _ (by first | assumption | exact ROs.wide (by assumption) | exact ROs.mono (by assumption) (eqh_at 0 rfl p d) | exact ros_at 0 rfl p d | exact ros_at 1 rfl p d | exact ros_at 2 rfl p d | exact ros_at 3 rfl p d | exact ros_at 4 rfl p d) (by first | assumption | omega)) ?_
                  refine WL.nilE (WD.takeL 4 rfl (by decide +kernel) (WL.geq rfl rfl rfl (WL.nilT ?_)))
                  refine WD.doneF hσ0 (by decide +kernel) (by repeat' constructor) ?_
                  refine W.condpT rfl (by omega) (W.skip (W.block (W.region (WL.mv rfl rfl ?_))))
                  refine WL.callTk (Take.cons 1 rfl (Take.cons 3 rfl Take.nil)) rfl rfl (fun x p d => coldL_c _ _ _ _ _ _ _ (by assumption) (by assumption) (by assumption)) (by repeat' constructor) (fun r6 => ?_)
                  refine WL.opens (α := Value) (φ := fun v => r6 = .agg #[.int .i64 _, .int .i64 _, .int .i64 _] ∧ SL v _) (ps := fun v => PClkO _ _ v) 0 rfl (fun h q => q) (by repeat' constructor) ?_
                  rintro u6 ⟨es6, su6⟩
                  subst es6
                  dsimp only [PClkO, List.cons_append, List.nil_append] at su6 ⊢
                  refine WL.bsC (T := Ty) rfl rfl rfl rfl rfl rfl rfl (by repeat' first | exact CO.nil | apply CO.one (by first | rfl | exact SL.one (by assumption)) | apply CO.agg) rfl (by repeat' constructor) (fun u7 hu7 => ?_)
                  refine WL.apS (T := Ty) (i := 2) rfl rfl rfl rfl rfl rfl rfl rfl rfl (by first | rfl | assumption) rfl (by assumption) (by repeat' first | exact AO.nil | apply AO.cons (by first | rfl | exact SL.one (by assumption))) (by first | omega | (simp; omega) | (simp only [List.length_drop, List.length_take]; omega)) (by first | omega | (simp; omega) | (simp only [List.length_drop, List.length_take]; omega)) (fun v' => (by repeat' constructor)) (fun u8 hu8 => ?_)
                  refine WL.as rfl rfl (WL.nil (W.inBlock ?_))
                  rw [hfl]
                  refine W.fit (Hs' := [Buf 3 _ ((out ++ [yk]).flatMap kyC), box b0 _ _, box b1 _ _, box b2 _ _, Buf 7 _ _]) (by (repeat' first | exact Sel.nil | apply Sel.k | exact Pick.h | apply Pick.t)) (W.sub ?_ (next ⟨m, yc, _, out ++ [yk], _⟩ ρ3 (Le.refl _) ⟨hx, hB', hR', by assumption, by dsimp only; rw [List.length_append]; assumption, by dsimp only; rw [List.length_append]; simp; omega, hl'⟩ (by dsimp only; omega)))
                  exact ⟨rfl, rfl, rfl, rfl, rfl, trivial⟩
              · rw [if_neg hgt] at hx
                have ex := Option.some.inj hx
                subst ex
                dsimp only at hy ⊢
                refine W.seq (W.seq ?_)
                refine W.drawA 5 rfl (fun σ0 hσ0 dσ0 => ?_)
                have fσ0_0 := ros_at 0 rfl hσ0 dσ0
                have fσ0_1 := rb_at 1 rfl hσ0 dσ0
                have fσ0_2 := rb_at 2 rfl hσ0 dσ0
                have fσ0_3 := rb_at 3 rfl hσ0 dσ0
                have fσ0_4 := ros_at 4 rfl hσ0 dσ0
                refine WD.takeL 0 rfl (by decide +kernel) ?_
                refine WL.ldABF (T := Ty) rfl rfl rfl rfl (by first | assumption | exact RB.wide (by assumption) | exact In.rb (by assumption)) rfl (by repeat' constructor) ?_
                refine WL.nilT (WD.takeL 2 rfl (by decide +kernel) (WL.faN (T := Ty) (off' := 0) rfl rfl rfl rfl rfl rfl rfl (WL.nilT (WD.takeL 3 rfl (by decide +kernel) ?_))))
                refine WL.ldBN (T := Ty) rfl rfl rfl rfl (by first | assumption | exact RB.wide (by assumption) | exact In.rb (by assumption)) rfl ?_
                refine WL.nilT (WD.oneL 1 rfl (by decide +kernel) ?_)
                refine WL.callV rfl rfl (fun x p d => count_c _ isRes 28 (fun p ρ => resident_c ρ p) _ _ _ _ _ _ _ (by first | assumption | exact ROs.wide (by assumption) | exact ROs.mono (by assumption) (eqh_at 0 rfl p d) | exact ros_at 0 rfl p d | exact ros_at 1 rfl p d | exact ros_at 2 rfl p d | exact ros_at 3 rfl p d | exact ros_at 4 rfl p d) (by first | assumption | omega)) ?_
                refine WL.nilE (WD.takeL 4 rfl (by decide +kernel) (WL.geq rfl rfl rfl (WL.nilT ?_)))
                refine WD.doneF hσ0 (by decide +kernel) (by repeat' constructor) ?_
                refine W.condpF rfl (by omega) (W.exit rfl ?_)
                refine W.fit (Hs' := [Buf 3 ko _, box b0 _ _, box b1 _ _, box b2 _ _, Buf 7 v _]) (by (repeat' first | exact Sel.nil | apply Sel.k | exact Pick.h | apply Pick.t)) (W.sub ?_ (cut2 ⟨c, v, out, ko⟩ ρ3 le3 ⟨rfl, hB, hR, sv, sk, hl⟩))
                exact ⟨rfl, rfl, rfl, rfl, rfl, trivial⟩
        · rcases fnd_lt c.pages k with hf | ⟨i, p, hf, hp, hpk⟩
          · rw [hf]
            refine W.condpF rfl (by omega) (W.skip ?_)
            refine W.fit (Hs' := [box b0 _ _, box b1 _ _, box b2 _ _, Buf 7 u5 _]) (by (repeat' first | exact Sel.nil | apply Sel.k | exact Pick.h | apply Pick.t)) (W.sub ?_ (cut1 ⟨c, u5⟩ ρ1 (Le.refl _) ⟨by rw [hf]; unfold goneP; rw [if_neg (by omega)], hB, hR, su5, hl⟩))
            exact ⟨rfl, rfl, rfl, by rw [hf]; rfl, trivial⟩
          · rw [hf]
            have hpl := (List.getElem?_eq_some_iff.1 hp).1
            have hG := hB.goes i
            refine W.condpT rfl (by omega) (W.seq (W.region (WL.mv rfl rfl ?_)))
            refine WL.callTk (Take.cons 1 rfl (Take.cons 0 rfl Take.nil)) rfl rfl (fun x p d => goes_c _ _ _ _ _ _ _ _ _ _ (by first | assumption | omega) (by first | assumption | omega) (by assumption) (by first | assumption | omega) (by first | assumption | omega) (by first | assumption | omega)) (by repeat' constructor) (fun r6 => ?_)
            refine WL.opens (α := Value) (φ := fun v => r6 = .tuple #[] ∧ SL v _) (ps := fun v => PClkO _ _ v) 0 rfl (fun h q => q) (by repeat' constructor) ?_
            rintro u6 ⟨es6, su6⟩
            subst es6
            dsimp only [PClkO, List.cons_append, List.nil_append] at su6 ⊢
            refine WL.nil ?_
            have hm1 := hG.m1
            have hm2 := hG.m2
            have ht12 : -1000 ≤ (goesP c i).target ∧ (goesP c i).target ≤ 1000 := ⟨hG.t1, hG.t2⟩
            have hcc : (⟨c.most, c.target, c.pages, c.hot, c.cold, c.test⟩ : Clk) = c := rfl
            rw [hcc] at su6 ⊢
            refine W.region ?_
            refine WL.callM 0 rfl rfl rfl (fun x p d => aim_c _ _ _ _ _ _ _ _ _ (by first | assumption | omega) (by first | assumption | omega) (by first | assumption | omega) (by first | assumption | omega) (by first | assumption | omega)) (by repeat' constructor) ?_
            refine WL.nil ?_
            refine W.fit (Hs' := [box b0 _ _, box b1 _ _, box b2 _ _, Buf 7 u6 _]) (by (repeat' first | exact Sel.nil | apply Sel.k | exact Pick.h | apply Pick.t)) (W.sub ?_ (cut1 ⟨aimP (goesP c i) 1, u6⟩ ρ1 (Le.refl _) ⟨by rw [hf]; unfold goneP; rw [if_pos (by omega), Int.toNat_natCast], hG.aim _, cloR.aim _ _ (hR.goes hpl), su6, by show (goesP c i).pages.length ≤ 10000; rw [goes_len hpl]; omega⟩))
            exact ⟨rfl, rfl, rfl, by rw [hf]; rfl, trivial⟩
    · by_cases f1 : c.most ≤ (cnt isRes c.pages : Int)
      · have hv1 : decide (c.most ≤ (cnt isRes c.pages : Int) ∧ cnt isFree c.pages = 0) = decide (((cnt isFree c.pages : Nat) : Int) = 0) := by
          rw [decide_eq_decide]
          exact ⟨fun h => by omega, fun h => ⟨f1, by omega⟩⟩
        refine W.drawA 10 rfl (fun σ0 hσ0 dσ0 => ?_)
        have fσ0_0 := rb_at 0 rfl hσ0 dσ0
        have fσ0_1 := ros_at 1 rfl hσ0 dσ0
        have fσ0_2 := rb_at 2 rfl hσ0 dσ0
        have fσ0_3 := rb_at 3 rfl hσ0 dσ0
        have fσ0_4 := rb_at 4 rfl hσ0 dσ0
        refine WD.takeL 0 rfl (by decide +kernel) ?_
        refine WL.ldABF (T := Ty) rfl rfl rfl rfl (by first | assumption | exact RB.wide (by assumption) | exact In.rb (by assumption)) rfl (by repeat' constructor) ?_
        refine WL.nilT (WD.takeL 2 rfl (by decide +kernel) (WL.faN (T := Ty) (off' := 0) rfl rfl rfl rfl rfl rfl rfl (WL.nilT (WD.takeL 3 rfl (by decide +kernel) ?_))))
        refine WL.ldBN (T := Ty) rfl rfl rfl rfl (by first | assumption | exact RB.wide (by assumption) | exact In.rb (by assumption)) rfl ?_
        refine WL.nilT (WD.oneL 1 rfl (by decide +kernel) ?_)
        refine WL.callV rfl rfl (fun x p d => count_c _ isRes 28 (fun p ρ => resident_c ρ p) _ _ _ _ _ _ _ (by first | assumption | exact ROs.wide (by assumption) | exact ROs.mono (by assumption) (eqh_at 0 rfl p d) | exact ros_at 0 rfl p d | exact ros_at 1 rfl p d | exact ros_at 2 rfl p d | exact ros_at 3 rfl p d | exact ros_at 4 rfl p d) (by first | assumption | omega)) ?_
        refine WL.nilE (WD.takeL 4 rfl (by decide +kernel) (WL.geq rfl rfl rfl (WL.nilT (WD.takeL 5 rfl (by decide +kernel) (WL.mv rfl rfl (WL.nilT (WD.takeL 6 rfl (by decide +kernel) (WL.gT rfl rfl (by omega) ?_))))))))
        refine WL.ldABF (T := Ty) rfl rfl rfl rfl (by first | assumption | exact RB.wide (by assumption) | exact In.rb (by assumption)) rfl (by repeat' constructor) ?_
        refine WL.nilT (WD.oneL 7 rfl (by decide +kernel) (WL.gT rfl rfl (by omega) ?_))
        refine WL.callV rfl rfl (fun x p d => count_c _ isFree 29 (fun p ρ => free_c ρ p) _ _ _ _ _ _ _ (by first | assumption | exact ROs.wide (by assumption) | exact ROs.mono (by assumption) (eqh_at 0 rfl p d) | exact ros_at 0 rfl p d | exact ros_at 1 rfl p d | exact ros_at 2 rfl p d | exact ros_at 3 rfl p d | exact ros_at 4 rfl p d) (by first | assumption | omega)) ?_
        refine WL.nilE (WD.takeL 8 rfl (by decide +kernel) (WL.gT rfl rfl (by omega) (WL.eql rfl rfl rfl (WL.nilT (WD.takeL 9 rfl (by decide +kernel) (WL.pickTp rfl rfl (by omega) rfl (WL.nilT ?_)))))))
        refine WD.doneF hσ0 (by decide +kernel) (by repeat' constructor) ?_
        refine W.fit (Hs' := [box b0 _ _, box b1 _ _, box b2 _ _]) (by (repeat' first | exact Sel.nil | apply Sel.k | exact Pick.h | apply Pick.t)) (W.sub ?_ (cut () ρ (Le.refl _) trivial))
        exact ⟨rfl, rfl, rfl, by rw [hv1]; rfl, trivial⟩
      · have hv1 : decide (c.most ≤ (cnt isRes c.pages : Int) ∧ cnt isFree c.pages = 0) = false := decide_eq_false (fun h => f1 h.1)
        refine W.drawA 10 rfl (fun σ0 hσ0 dσ0 => ?_)
        have fσ0_0 := rb_at 0 rfl hσ0 dσ0
        have fσ0_1 := ros_at 1 rfl hσ0 dσ0
        have fσ0_2 := rb_at 2 rfl hσ0 dσ0
        have fσ0_3 := rb_at 3 rfl hσ0 dσ0
        have fσ0_4 := rb_at 4 rfl hσ0 dσ0
        refine WD.takeL 0 rfl (by decide +kernel) ?_
        refine WL.ldABF (T := Ty) rfl rfl rfl rfl (by first | assumption | exact RB.wide (by assumption) | exact In.rb (by assumption)) rfl (by repeat' constructor) ?_
        refine WL.nilT (WD.takeL 2 rfl (by decide +kernel) (WL.faN (T := Ty) (off' := 0) rfl rfl rfl rfl rfl rfl rfl (WL.nilT (WD.takeL 3 rfl (by decide +kernel) ?_))))
        refine WL.ldBN (T := Ty) rfl rfl rfl rfl (by first | assumption | exact RB.wide (by assumption) | exact In.rb (by assumption)) rfl ?_
        refine WL.nilT (WD.oneL 1 rfl (by decide +kernel) ?_)
        refine WL.callV rfl rfl (fun x p d => count_c _ isRes 28 (fun p ρ => resident_c ρ p) _ _ _ _ _ _ _ (by first | assumption | exact ROs.wide (by assumption) | exact ROs.mono (by assumption) (eqh_at 0 rfl p d) | exact ros_at 0 rfl p d | exact ros_at 1 rfl p d | exact ros_at 2 rfl p d | exact ros_at 3 rfl p d | exact ros_at 4 rfl p d) (by first | assumption | omega)) ?_
        refine WL.nilE (WD.takeL 4 rfl (by decide +kernel) (WL.geq rfl rfl rfl (WL.nilT (WD.takeL 5 rfl (by decide +kernel) (WL.mv rfl rfl (WL.nilT (WD.takeL 6 rfl (by decide +kernel) (WL.gdTn rfl rfl rfl rfl rfl (by omega) (WL.nilT (WD.takeL 7 rfl (by decide +kernel) (WL.gdTn rfl rfl rfl rfl rfl (by omega) (WL.nilT (WD.takeL 8 rfl (by decide +kernel) ?_)))))))))))))
        refine WL.gdTn rfl rfl rfl rfl rfl (by omega) (WL.nilT (WD.takeL 9 rfl (by decide +kernel) (WL.pickFp rfl rfl (by omega) rfl (WL.nilT ?_))))
        refine WD.doneF hσ0 (by decide +kernel) (by repeat' constructor) ?_
        refine W.fit (Hs' := [box b0 _ _, box b1 _ _, box b2 _ _]) (by (repeat' first | exact Sel.nil | apply Sel.k | exact Pick.h | apply Pick.t)) (W.sub ?_ (cut () ρ (Le.refl _) trivial))
        exact ⟨rfl, rfl, rfl, by rw [hv1]; rfl, trivial⟩
end Go.Proofs.Ytdpnpipninggeaa
