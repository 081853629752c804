/- ClokBounds. -/
import Derived.Test.YtbebhmdjnneimaaStc
import Derived.Test.YtbebhmdjnneimaaNum
import Derived.Test.YtbebhmdjnneimaaTab
import Derived.Test.YtbebhmdjnneimaaClkAw
import Derived.Test.YtbebhmdjnneimaaClkKey
import Derived.Test.YtbebhmdjnneimaaClkInv
import Derived.Test.YtbebhmdjnneimaaClk0
import Derived.Test.YtbebhmdjnneimaaClkSt
set_option linter.unusedSimpArgs false
set_option linter.unusedVariables false
set_option maxRecDepth 20000
set_option maxHeartbeats 4000000
namespace Go.Proofs.Ytbebhmdjnneimaa
open Go
theorem newP_bnd {m : Int} (h1 : 1 ≤ m) (h2 : m ≤ 8) : newP m = ⟨m, 1, [], 0, 0, 0⟩ := by unfold newP; rw [show min (max m 1) 1000 = m by omega]
theorem mod8_lt {x : Int} (h : x % (7 + 1) < 4) : x % (7 + 1) = 0 ∨ x % (7 + 1) = 1 ∨ x % (7 + 1) = 2 ∨ x % (7 + 1) = 3 := by omega
theorem touch_most (c : Clk) (k : Ky) : (touchP c k).1.most = c.most := by
 rcases fnd_lt c.pages k with hf | ⟨i, p, hf, hp, hpk⟩
 ·rw [touch_no hf]
 ·rw [touch_at hf hp]; split <;> rfl
theorem pin_most (c : Clk) (k : Ky) (n : Int) : (pinP c k n).1.most = c.most := by
 rcases fnd_lt c.pages k with hf | ⟨i, p, hf, hp, hpk⟩
 ·rw [pin_no hf]
 ·rw [pin_at hf hp]; split <;> rfl
theorem rosKZ (ρ : Hp) : ROs ρ 3 nilV (([] : List Ky).flatMap kyC) := .inl ⟨rfl, rfl⟩
theorem admit_out {n : Nat} {c : Clk} {k : Ky} {d : Clk × List Ky × Bool} (hn : n ≤ 1000000) (e : admitP n c k = some d) : d.2.1.length ≤ 1000000 := by
 unfold admitP at e
 split at e
 ·cases e; exact Nat.zero_le _
 ·split at e
  ·cases e; exact Nat.zero_le _
  ·cases hx : outL n (goneP c (fndK c.pages k)) [] with
   | none => rw [hx] at e; cases e
   | some r =>
    rw [hx] at e
    simp only [Option.bind_some] at e
    obtain ⟨c', hy, he⟩ := Option.map_eq_some_iff.1 e
    subst he
    have := outL_n n _ [] r hx
    simp at this
    show r.2.length ≤ 1000000
    omega
/-- what is known of a step -/
structure StepB (x : Int) (c : Clk) (k : Ky) (M : Int) (d : Clk) (out : List Ky) (ok : Bool) : Prop where
 t : ok = true → Bnd d ∧ d.most = M ∧ (∀ x ∈ out, ∀ q ∈ d.pages, q.key = x → q.kind = 3) ∧ Stay c k d
 f : ok = false → x % (7 + 1) < 4 → ∀ p ∈ c.pages, p.kind = 3 ∨ 0 < p.pins
attribute [local irreducible] W WL Fn Buf ROs SL eptr box Rd Src bndOK WD RB Reads In Own admitP pinP touchP dropP fndK sameC newP keyP
theorem ClokBounds_fn (ρ : Hp) (a0 : Int) (w0 : (Lit.int .i64 a0).wf = true) (v1 : Value) (z1 : List Int) (r1 : ROs ρ 1 v1 (z1.map (Value.int .i64))) (m1 : ∀ n ∈ z1, (Lit.int .i64 n).wf = true) (y1 : z1.length * 8 ≤ 140737488351232) :
    Fn Try.prog 12 #[.int .i64 a0, v1] ρ [] (fun r _ => r = .bool true) := by
  have s1 := r1.slm
  have hM1 : 1 ≤ a0 % (7 + 1) + 1 := by omega
  have hM2 : a0 % (7 + 1) + 1 ≤ 8 := by omega
  refine in12 rfl rfl ?_
  refine W.seq (W.region (WL.as rfl rfl (WL.nil (W.seq (W.region (WL.mv rfl rfl (WL.andI rfl rfl rfl (by decide) (WL.addK rfl rfl rfl (wrap_i64 ⟨by omega, by omega⟩) (WL.as rfl rfl (WL.nil (W.seq (W.region (WL.mv rfl rfl ?_)))))))))))))
  refine WL.callV rfl rfl (fun x p d => new15q_c _ _) ?_
  refine WL.alF (T := Ty) rfl rfl (by repeat' constructor) (fun b0 => ?_)
  refine WL.stAO (T := Ty) (j := 0) rfl rfl rfl rfl (by repeat' first | exact AO.nil | apply AO.cons (by first | rfl | exact SL.one (by assumption))) rfl rfl (by repeat' constructor) (by repeat' constructor) ?_
  refine WL.nil (W.seq (W.seq (W.region (WL.as rfl rfl (WL.nil (W.block ?_))))))
  generalize a0 % (7 + 1) + 1 = M at hM1 hM2 ⊢
  have hnb := Bnd.new M hM1 hM2
  rw [← newP_bnd hM1 hM2] at hnb
  have hnm : (newP M).most = M := by rw [newP_bnd hM1 hM2]
  refine W.loopR (σ := Nat × Clk × Value) (fun s => [(0, .int .i64 M), (1, v1), (5, pt b0 0), (6, .int .i64 (s.1 : Int))])
    (fun s => [box b0 [.int .i64 s.2.1.most, .int .i64 s.2.1.target, s.2.2, .int .i64 (s.2.1.hot : Int), .int .i64 (s.2.1.cold : Int), .int .i64 (s.2.1.test : Int)] 73]) (fun s ρ' => s.1 ≤ 150 ∧ Bnd s.2.1 ∧ s.2.1.most = M ∧ ROs ρ' 7 s.2.2 (s.2.1.pages.flatMap pgC)) (fun s => 150 - s.1)
    (0, newP M, nilV) ⟨rfl, rfl, rfl, rfl, trivial⟩ rfl ⟨Nat.zero_le _, hnb, hnm, rosNew ρ M⟩ ?_
  clear hnb hnm
  rintro ⟨i, c, v⟩ ρ1 le1 ⟨hi, hb, hm, rv⟩ next
  dsimp only at hi hb hm rv next ⊢
  replace r1 := r1.mono le1
  have hB := hb.B
  have hR := hb.R
  have hlen := hb.len
  have l1 := pgs_cells c.pages
  have sv : SL v c.pages.length := rv.sl l1 (by omega)
  have hl4 : c.pages.length ≤ 10000 := by omega
  by_cases hc1 : i < z1.length
  · obtain ⟨x, hx⟩ : ∃ x, z1[i]? = some x := ⟨_, List.getElem?_eq_getElem hc1⟩
    have hx1 : (z1.map (Value.int .i64))[i]? = some (.int .i64 x) := by rw [List.getElem?_map, hx]; rfl
    by_cases hc2 : i < 150
    · refine W.seq ?_
      refine W.seq (W.region (WL.mv rfl rfl (WL.mv rfl rfl ?_)))
      refine WL.len (T := Ty) rfl rfl (by assumption) rfl ?_
      refine WL.lss rfl rfl rfl (WL.mv rfl rfl (WL.gT rfl rfl (by omega) (WL.mv rfl rfl (WL.gT rfl rfl (by omega) (WL.lss rfl rfl rfl (WL.pickTp rfl rfl (by omega) rfl (WL.nil (W.condpT rfl (by omega) (W.skip (W.seq (W.block (W.seq (W.region ?_)))))))))))))
      refine WL.mv rfl rfl (WL.mv rfl rfl ?_)
      refine WL.ix (T := Ty) rfl rfl rfl (by assumption) rfl rfl (by omega) (by first | omega | decide +kernel) ?_
      refine WL.ldKn (T := Ty) rfl rfl rfl rfl (by first | assumption | exact ROs.wide (by assumption)) (by assumption) ?_
      refine WL.shrS (c := 8) rfl rfl rfl (by omega) (by decide) ?_
      refine WL.callV rfl rfl (fun x p d => key15_c _ _) ?_
      refine WL.alF (T := Ty) rfl rfl (by repeat' constructor) (fun b1 => ?_)
      refine WL.stAO (T := Ty) (j := 0) rfl rfl rfl rfl (by repeat' first | exact AO.nil | apply AO.cons (by first | rfl | exact SL.one (by assumption))) rfl rfl (by repeat' constructor) (by repeat' constructor) ?_
      refine WL.nil (W.seq (W.region ?_))
      refine WL.ldAF (T := Ty) (j := 1) rfl rfl rfl rfl rfl rfl (by repeat' constructor) ?_
      refine WL.alF (T := Ty) rfl rfl (by repeat' constructor) (fun b2 => ?_)
      refine WL.stAO (T := Ty) (j := 0) rfl rfl rfl rfl (by repeat' first | exact AO.nil | apply AO.cons (by first | rfl | exact SL.one (by assumption))) rfl rfl (by repeat' constructor) (by repeat' constructor) ?_
      refine WL.nil (W.seq (W.region (WL.as rfl rfl (WL.nil (W.seq (W.region (WL.as rfl rfl (WL.nil (W.seq (W.region ?_))))))))))
      refine WL.ldAF (T := Ty) (j := 2) rfl rfl rfl rfl rfl rfl (by repeat' constructor) ?_
      refine WL.alF (T := Ty) rfl rfl (by repeat' constructor) (fun b3 => ?_)
      refine WL.stAO (T := Ty) (j := 0) rfl rfl rfl rfl (by repeat' first | exact AO.nil | apply AO.cons (by first | rfl | exact SL.one (by assumption))) rfl rfl (by repeat' constructor) (by repeat' constructor) ?_
      refine WL.nil (W.seq (W.seq (W.region (WL.mv rfl rfl (WL.mv rfl rfl ?_)))))
      refine WL.ix (T := Ty) rfl rfl rfl (by assumption) rfl rfl (by omega) (by first | omega | decide +kernel) ?_
      refine WL.ldKn (T := Ty) rfl rfl rfl rfl (by first | assumption | exact ROs.wide (by assumption)) (by assumption) ?_
      refine WL.andI rfl rfl rfl (by decide) (WL.nil ?_)
      have hkk : keyP (x / 8) = keyP (x / 8) := rfl
      generalize hk0 : keyP (x / 8) = k
      refine W.cutG (τ := Clk × List Ky × Bool × Value × Value) (fun s => [(0, .int .i64 M), (1, v1), (5, pt b0 0), (6, .int .i64 (i : Int)), (7, pt b1 0), (8, pt b2 0), (9, s.2.2.2.2), (10, .bool s.2.2.1), (11, pt b3 0)])
        (fun s => [box b0 [.int .i64 c.most, .int .i64 c.target, v, .int .i64 (c.hot : Int), .int .i64 (c.cold : Int), .int .i64 (c.test : Int)] 73, box b1 [.int .i64 k.a, .int .i64 k.b, .int .i64 k.c] 76, box b2 [.int .i64 c.most, .int .i64 c.target, v, .int .i64 (c.hot : Int), .int .i64 (c.cold : Int), .int .i64 (c.test : Int)] 73, box b3 [.int .i64 s.1.most, .int .i64 s.1.target, s.2.2.2.1, .int .i64 (s.1.hot : Int), .int .i64 (s.1.cold : Int), .int .i64 (s.1.test : Int)] 73])
        (fun s ρ' => StepB x c k M s.1 s.2.1 s.2.2.1 ∧ ROs ρ' 7 s.2.2.2.1 (s.1.pages.flatMap pgC) ∧ ROs ρ' 3 s.2.2.2.2 (s.2.1.flatMap kyC) ∧ s.2.1.length ≤ 1000000) ?_ (fun cut0 => ?_)
      · rintro ⟨d, out, ok, u, kv⟩ ρ2 le2 ⟨hS, rD, rO, hol⟩
        dsimp only at hS rD rO hol ⊢
        replace r1 := r1.mono le2
        replace rv := rv.mono le2
        have nx := fun s ρ' (h : Le ρ2 ρ') => next s ρ' (fun b o q => h b o (le2 b o q))
        cases ok with
        | false =>
          have hf := hS.f rfl
          refine W.seq (W.seq (W.region (WL.mv rfl rfl (WL.not rfl rfl (WL.nil (W.condT rfl (W.seq (W.region (WL.as rfl rfl (WL.nil (W.seq (W.seq (W.region ?_)))))))))))))
          refine WL.faN (T := Ty) (off' := 2) rfl rfl rfl rfl rfl rfl rfl (WL.ldN (T := Ty) (j := 2) rfl rfl rfl rfl rfl rfl ?_)
          refine WL.len (T := Ty) rfl rfl (by assumption) rfl ?_
          refine WL.mv rfl rfl (WL.nil (W.block ?_))
          refine W.fit (Hs' := [box b0 _ _]) (by (repeat' first | exact Sel.nil | apply Sel.k | exact Pick.h | apply Pick.t)) ?_
          refine W.loopR (σ := Nat × Bool) (fun s => [(0, .int .i64 M), (1, v1), (5, pt b0 0), (6, .int .i64 (i : Int)), (12, .bool s.2), (120, v), (121, .int .i64 (c.pages.length : Int)), (122, .int .i64 (s.1 : Int))])
            (fun s => [box b0 [.int .i64 c.most, .int .i64 c.target, v, .int .i64 (c.hot : Int), .int .i64 (c.cold : Int), .int .i64 (c.test : Int)] 73]) (fun s ρ' => s.1 ≤ c.pages.length ∧ (x % (7 + 1) < 4 → s.2 = true)) (fun s => c.pages.length - s.1)
            (0, true) ⟨rfl, rfl, rfl, rfl, rfl, rfl, rfl, rfl, trivial⟩ rfl ⟨Nat.zero_le _, fun _ => rfl⟩ ?_
          rintro ⟨j, b⟩ ρ3 le3 ⟨hj, hb4⟩ next2
          dsimp only at hj hb4 next2 ⊢
          replace r1 := r1.mono le3
          replace rv := rv.mono le3
          by_cases hc3 : j < c.pages.length
          · obtain ⟨p, hp⟩ : ∃ p, c.pages[j]? = some p := ⟨_, List.getElem?_eq_getElem hc3⟩
            have hrow : ((c.pages.flatMap pgC).drop (((j : Nat) : Int).toNat * 7)).take 7 = pgC p := flat_row pg_len hp
            unfold pgC at hrow
            have hfp := fun h => hf h p (List.mem_of_getElem? hp)
            cases b with
            | false =>
              refine W.seq (W.region (WL.lss rfl rfl rfl (WL.nil (W.seq (W.condpT rfl (by omega) (W.skip (W.seq (W.block (W.seq (W.region ?_))))))))))
              refine WL.ix (T := Ty) rfl rfl rfl (by assumption) rfl rfl (by omega) (by first | omega | decide +kernel) ?_
              refine WL.ldAR (T := Ty) rfl rfl rfl rfl (by first | assumption | exact ROs.wide (by assumption)) (by assumption) rfl ?_
              refine WL.alF (T := Ty) rfl rfl (by repeat' constructor) (fun b4 => ?_)
              refine WL.stAO (T := Ty) (j := 0) rfl rfl rfl rfl (by repeat' first | exact AO.nil | apply AO.cons (by first | rfl | exact SL.one (by assumption))) rfl rfl (by repeat' constructor) (by repeat' constructor) ?_
              refine WL.nil (W.region (WL.mv rfl rfl (WL.mv rfl rfl (WL.gdN rfl rfl rfl rfl rfl rfl (WL.gdN rfl rfl rfl rfl rfl rfl (WL.gdN rfl rfl rfl rfl rfl rfl (WL.gdN rfl rfl rfl rfl rfl rfl (WL.gdU rfl rfl rfl rfl rfl (WL.gdU rfl rfl rfl rfl rfl (WL.gdU rfl rfl rfl rfl rfl (WL.gdN rfl rfl rfl rfl rfl rfl (WL.pickF rfl rfl rfl (WL.as rfl rfl ?_)))))))))))))
              refine WL.nil (W.inBlock (W.region (WL.addK rfl rfl rfl (wrap_i64 ⟨by omega, by omega⟩) (WL.mv rfl rfl (WL.nil ?_)))))
              refine W.fit (Hs' := [box b0 _ _]) (by (repeat' first | exact Sel.nil | apply Sel.k | exact Pick.h | apply Pick.t)) (W.sub ?_ (next2 ⟨j + 1, false⟩ ρ3 (Le.refl _) ⟨hc3, hb4⟩ (by dsimp only; omega)))
              exact ⟨rfl, rfl, rfl, rfl, rfl, rfl, rfl, rfl, trivial⟩
            | true =>
              by_cases k3 : p.kind = 3
              · refine W.seq ?_
                refine W.region (WL.lss rfl rfl rfl (WL.nil (W.seq (W.condpT rfl (by omega) (W.skip (W.seq (W.block (W.seq (W.region ?_)))))))))
                refine WL.ix (T := Ty) rfl rfl rfl (by assumption) rfl rfl (by omega) (by first | omega | decide +kernel) ?_
                refine WL.ldAR (T := Ty) rfl rfl rfl rfl (by first | assumption | exact ROs.wide (by assumption)) (by assumption) rfl ?_
                refine WL.alF (T := Ty) rfl rfl (by repeat' constructor) (fun b4 => ?_)
                refine WL.stAO (T := Ty) (j := 0) rfl rfl rfl rfl (by repeat' first | exact AO.nil | apply AO.cons (by first | rfl | exact SL.one (by assumption))) rfl rfl (by repeat' constructor) (by repeat' constructor) ?_
                refine WL.nil (W.region (WL.mv rfl rfl (WL.mv rfl rfl (WL.gY rfl rfl (WL.faN (T := Ty) (off' := 3) rfl rfl rfl rfl rfl rfl rfl (WL.gY rfl rfl (WL.ldN (T := Ty) (j := 0) rfl rfl rfl rfl rfl rfl (WL.gY rfl rfl (WL.eql rfl rfl rfl (WL.gY rfl rfl (WL.mv rfl rfl (WL.gdFn rfl rfl rfl rfl rfl (by omega) (WL.gdFn rfl rfl rfl rfl rfl (by omega) ?_)))))))))))))
                refine WL.gdFn rfl rfl rfl rfl rfl (by omega) (WL.gY rfl rfl (WL.pickTp rfl rfl (by omega) rfl (WL.pickT rfl rfl rfl (WL.as rfl rfl (WL.nil (W.inBlock (W.region (WL.addK rfl rfl rfl (wrap_i64 ⟨by omega, by omega⟩) (WL.mv rfl rfl (WL.nil ?_))))))))))
                refine W.fit (Hs' := [box b0 _ _]) (by (repeat' first | exact Sel.nil | apply Sel.k | exact Pick.h | apply Pick.t)) (W.sub ?_ (next2 ⟨j + 1, true⟩ ρ3 (Le.refl _) ⟨hc3, fun _ => rfl⟩ (by dsimp only; omega)))
                exact ⟨rfl, rfl, rfl, rfl, rfl, rfl, rfl, rfl, trivial⟩
              · by_cases kp : 0 < p.pins
                · refine W.seq ?_
                  refine W.region (WL.lss rfl rfl rfl (WL.nil (W.seq (W.condpT rfl (by omega) (W.skip (W.seq (W.block (W.seq (W.region ?_)))))))))
                  refine WL.ix (T := Ty) rfl rfl rfl (by assumption) rfl rfl (by omega) (by first | omega | decide +kernel) ?_
                  refine WL.ldAR (T := Ty) rfl rfl rfl rfl (by first | assumption | exact ROs.wide (by assumption)) (by assumption) rfl ?_
                  refine WL.alF (T := Ty) rfl rfl (by repeat' constructor) (fun b4 => ?_)
                  refine WL.stAO (T := Ty) (j := 0) rfl rfl rfl rfl (by repeat' first | exact AO.nil | apply AO.cons (by first | rfl | exact SL.one (by assumption))) rfl rfl (by repeat' constructor) (by repeat' constructor) ?_
                  refine WL.nil (W.region (WL.mv rfl rfl (WL.mv rfl rfl (WL.gY rfl rfl (WL.faN (T := Ty) (off' := 3) rfl rfl rfl rfl rfl rfl rfl (WL.gY rfl rfl (WL.ldN (T := Ty) (j := 0) rfl rfl rfl rfl rfl rfl (WL.gY rfl rfl (WL.eql rfl rfl rfl (WL.gY rfl rfl (WL.mv rfl rfl (WL.gF rfl rfl (by omega) (WL.faN (T := Ty) (off' := 6) rfl rfl rfl rfl rfl rfl rfl ?_)))))))))))))
                  refine WL.gF rfl rfl (by omega) (WL.ldN (T := Ty) (j := 0) rfl rfl rfl rfl rfl rfl (WL.gF rfl rfl (by omega) (WL.gtr rfl rfl rfl (WL.gY rfl rfl (WL.pickFp rfl rfl (by omega) rfl (WL.pickT rfl rfl rfl (WL.as rfl rfl (WL.nil (W.inBlock (W.region (WL.addK rfl rfl rfl (wrap_i64 ⟨by omega, by omega⟩) (WL.mv rfl rfl (WL.nil ?_)))))))))))))
                  refine W.fit (Hs' := [box b0 _ _]) (by (repeat' first | exact Sel.nil | apply Sel.k | exact Pick.h | apply Pick.t)) (W.sub ?_ (next2 ⟨j + 1, true⟩ ρ3 (Le.refl _) ⟨hc3, fun _ => rfl⟩ (by dsimp only; omega)))
                  exact ⟨rfl, rfl, rfl, rfl, by simp only [decide_eq_true kp]; rfl, rfl, rfl, rfl, trivial⟩
                · refine W.seq ?_
                  refine W.region (WL.lss rfl rfl rfl (WL.nil (W.seq (W.condpT rfl (by omega) (W.skip (W.seq (W.block (W.seq (W.region ?_)))))))))
                  refine WL.ix (T := Ty) rfl rfl rfl (by assumption) rfl rfl (by omega) (by first | omega | decide +kernel) ?_
                  refine WL.ldAR (T := Ty) rfl rfl rfl rfl (by first | assumption | exact ROs.wide (by assumption)) (by assumption) rfl ?_
                  refine WL.alF (T := Ty) rfl rfl (by repeat' constructor) (fun b4 => ?_)
                  refine WL.stAO (T := Ty) (j := 0) rfl rfl rfl rfl (by repeat' first | exact AO.nil | apply AO.cons (by first | rfl | exact SL.one (by assumption))) rfl rfl (by repeat' constructor) (by repeat' constructor) ?_
                  refine WL.nil (W.region (WL.mv rfl rfl (WL.mv rfl rfl (WL.gY rfl rfl (WL.faN (T := Ty) (off' := 3) rfl rfl rfl rfl rfl rfl rfl (WL.gY rfl rfl (WL.ldN (T := Ty) (j := 0) rfl rfl rfl rfl rfl rfl (WL.gY rfl rfl (WL.eql rfl rfl rfl (WL.gY rfl rfl (WL.mv rfl rfl (WL.gF rfl rfl (by omega) (WL.faN (T := Ty) (off' := 6) rfl rfl rfl rfl rfl rfl rfl ?_)))))))))))))
                  refine WL.gF rfl rfl (by omega) (WL.ldN (T := Ty) (j := 0) rfl rfl rfl rfl rfl rfl (WL.gF rfl rfl (by omega) (WL.gtr rfl rfl rfl (WL.gY rfl rfl (WL.pickFp rfl rfl (by omega) rfl (WL.pickT rfl rfl rfl (WL.as rfl rfl (WL.nil (W.inBlock (W.region (WL.addK rfl rfl rfl (wrap_i64 ⟨by omega, by omega⟩) (WL.mv rfl rfl (WL.nil ?_)))))))))))))
                  refine W.fit (Hs' := [box b0 _ _]) (by (repeat' first | exact Sel.nil | apply Sel.k | exact Pick.h | apply Pick.t)) (W.sub ?_ (next2 ⟨j + 1, false⟩ ρ3 (Le.refl _) ⟨hc3, fun h => by rcases hfp h with h | h; exact absurd h k3; exact absurd h kp⟩ (by dsimp only; omega)))
                  exact ⟨rfl, rfl, rfl, rfl, by simp only [decide_eq_false kp]; rfl, rfl, rfl, rfl, trivial⟩
          · by_cases hx4 : x % (7 + 1) < 4
            · have hbt := hb4 hx4
              subst hbt
              refine W.seq (W.region (WL.lss rfl rfl rfl (WL.nil (W.seq (W.condpF rfl (by omega) (W.exit rfl (W.seq (W.seq (W.region (WL.mv rfl rfl (WL.mv rfl rfl ?_)))))))))))
              refine WL.ix (T := Ty) rfl rfl rfl (by assumption) rfl rfl (by omega) (by first | omega | decide +kernel) ?_
              refine WL.ldKn (T := Ty) rfl rfl rfl rfl (by first | assumption | exact ROs.wide (by assumption)) (by assumption) ?_
              refine WL.andI rfl rfl rfl (by decide) (WL.lss rfl rfl rfl (WL.mv rfl rfl (WL.gT rfl rfl (by omega) (WL.mv rfl rfl (WL.gT rfl rfl (by omega) (WL.not rfl rfl (WL.pickTp rfl rfl (by omega) rfl (WL.nil (W.condF rfl (W.skip (W.exit rfl (W.region (WL.mv rfl rfl ?_)))))))))))))
              refine WL.addK rfl rfl rfl (wrap_i64 ⟨by omega, by omega⟩) (WL.as rfl rfl (WL.nil ?_))
              refine W.fit (Hs' := [box b0 _ _]) (by (repeat' first | exact Sel.nil | apply Sel.k | exact Pick.h | apply Pick.t)) (W.sub ?_ (nx ⟨i + 1, c, v⟩ ρ3 le3 ⟨by dsimp only; omega, hb, hm, rv⟩ (by dsimp only; omega)))
              exact ⟨rfl, rfl, rfl, rfl, trivial⟩
            · refine W.seq ?_
              refine W.region (WL.lss rfl rfl rfl (WL.nil (W.seq (W.condpF rfl (by omega) (W.exit rfl (W.seq (W.seq (W.region (WL.mv rfl rfl (WL.mv rfl rfl ?_))))))))))
              refine WL.ix (T := Ty) rfl rfl rfl (by assumption) rfl rfl (by omega) (by first | omega | decide +kernel) ?_
              refine WL.ldKn (T := Ty) rfl rfl rfl rfl (by first | assumption | exact ROs.wide (by assumption)) (by assumption) ?_
              refine WL.andI rfl rfl rfl (by decide) (WL.lss rfl rfl rfl (WL.mv rfl rfl (WL.gdTn rfl rfl rfl rfl rfl (by omega) (WL.gdTn rfl rfl rfl rfl rfl (by omega) (WL.pickFp rfl rfl (by omega) rfl (WL.nil (W.condF rfl (W.skip (W.exit rfl (W.region (WL.mv rfl rfl (WL.addK rfl rfl rfl (wrap_i64 ⟨by omega, by omega⟩) (WL.as rfl rfl ?_)))))))))))))
              refine WL.nil ?_
              refine W.fit (Hs' := [box b0 _ _]) (by (repeat' first | exact Sel.nil | apply Sel.k | exact Pick.h | apply Pick.t)) (W.sub ?_ (nx ⟨i + 1, c, v⟩ ρ3 le3 ⟨by dsimp only; omega, hb, hm, rv⟩ (by dsimp only; omega)))
              exact ⟨rfl, rfl, rfl, rfl, trivial⟩
        | true =>
          obtain ⟨hbd, hdm, hdo, hds⟩ := hS.t rfl
          have hdB := hbd.B
          have hdR := hbd.R
          have hdG := hbd.G
          have hdl := hbd.len
          have l2 := pgs_cells d.pages
          have su : SL u d.pages.length := rD.sl l2 (by omega)
          have hd4 : d.pages.length ≤ 10000 := by omega
          have h4 := cnt_le isHot d.pages
          have h5 := cnt_le (isKd 2) d.pages
          have h6 := cnt_le isTest d.pages
          refine W.seq (W.seq (W.region (WL.mv rfl rfl (WL.not rfl rfl (WL.nil (W.condF rfl (W.skip (W.seq (W.region ?_)))))))))
          refine WL.ldAF (T := Ty) (j := 3) rfl rfl rfl rfl rfl rfl (by repeat' constructor) ?_
          refine WL.stAO (T := Ty) (j := 0) rfl rfl rfl rfl (by repeat' first | exact AO.nil | apply AO.cons (by first | rfl | exact SL.one (by assumption))) rfl rfl (by repeat' constructor) (by repeat' constructor) ?_
          refine WL.nil (W.seq (W.region (WL.as rfl rfl (WL.as rfl rfl (WL.as rfl rfl (WL.nil (W.seq (W.seq (W.region (WL.faN (T := Ty) (off' := 2) rfl rfl rfl rfl rfl rfl rfl (WL.ldN (T := Ty) (j := 0) rfl rfl rfl rfl rfl rfl ?_)))))))))))
          refine WL.len (T := Ty) rfl rfl (by assumption) rfl ?_
          refine WL.mv rfl rfl (WL.nil (W.block ?_))
          refine W.fit (Hs' := [box b0 _ _, box b1 _ _, box b2 _ _]) (by (repeat' first | exact Sel.nil | apply Sel.k | exact Pick.h | apply Pick.t)) ?_
          refine W.loopR (σ := Nat) (fun s => [(0, .int .i64 M), (1, v1), (5, pt b0 0), (6, .int .i64 (i : Int)), (7, pt b1 0), (8, pt b2 0), (9, kv), (15, .int .i64 ((cnt isHot (d.pages.take s) : Nat) : Int)), (16, .int .i64 ((cnt (isKd 2) (d.pages.take s) : Nat) : Int)), (17, .int .i64 ((cnt isTest (d.pages.take s) : Nat) : Int)), (150, u), (151, .int .i64 (d.pages.length : Int)), (152, .int .i64 (s : Int))])
            (fun s => [box b0 [.int .i64 d.most, .int .i64 d.target, u, .int .i64 (d.hot : Int), .int .i64 (d.cold : Int), .int .i64 (d.test : Int)] 73, box b1 [.int .i64 k.a, .int .i64 k.b, .int .i64 k.c] 76, box b2 [.int .i64 c.most, .int .i64 c.target, v, .int .i64 (c.hot : Int), .int .i64 (c.cold : Int), .int .i64 (c.test : Int)] 73]) (fun s ρ' => s ≤ d.pages.length) (fun s => d.pages.length - s)
            0 ⟨rfl, rfl, rfl, rfl, rfl, rfl, rfl, rfl, rfl, rfl, rfl, rfl, rfl, trivial⟩ rfl (Nat.zero_le _) ?_
          intro j ρ3 le3 hj next2
          replace r1 := r1.mono le3
          replace rv := rv.mono le3
          replace rD := rD.mono le3
          replace rO := rO.mono le3
          replace nx := fun s ρ' (h : Le ρ3 ρ') => nx s ρ' (fun b o q => h b o (le3 b o q))
          have g4 := cnt_take_le (so := isHot) d.pages j
          have g5 := cnt_take_le (so := isKd 2) d.pages j
          have g6 := cnt_take_le (so := isTest) d.pages j
          by_cases hc3 : j < d.pages.length
          · obtain ⟨q, hq⟩ : ∃ q, d.pages[j]? = some q := ⟨_, List.getElem?_eq_getElem hc3⟩
            have hrow : ((d.pages.flatMap pgC).drop (((j : Nat) : Int).toNat * 7)).take 7 = pgC q := flat_row pg_len hq
            unfold pgC at hrow
            have hfq : fndK d.pages q.key = (j : Int) := fnd_mem hbd.ky hq
            have hq0 := hdG.pins hq
            have hq3 := bad_of hbd.bt hq
            have t4 := cnt_take1 (so := isHot) hq
            have t5 := cnt_take1 (so := isKd 2) hq
            have t6 := cnt_take1 (so := isTest) hq
            rcases hdG.kind hq with k1 | k1 | k1
            · rw [show isHot q = true by unfold isHot; rw [k1]; rfl, if_pos rfl] at t4
              rw [show isKd 2 q = false by unfold isKd; rw [k1]; rfl, if_neg (by decide)] at t5
              rw [show isTest q = false by unfold isTest; rw [k1]; rfl, if_neg (by decide)] at t6
              rw [k1] at hrow
              refine W.seq (W.region (WL.lss rfl rfl rfl (WL.nil (W.seq (W.condpT rfl (by omega) (W.skip (W.seq (W.block (W.seq (W.region (WL.mv rfl rfl ?_)))))))))))
              refine WL.ix (T := Ty) rfl rfl rfl (by assumption) rfl rfl (by omega) (by first | omega | decide +kernel) ?_
              refine WL.ldAR (T := Ty) rfl rfl rfl rfl (by first | assumption | exact ROs.wide (by assumption)) (by assumption) rfl ?_
              refine WL.alF (T := Ty) rfl rfl (by repeat' constructor) (fun b4 => ?_)
              refine WL.as rfl rfl ?_
              refine WL.stAO (T := Ty) (j := 0) rfl rfl rfl rfl (by repeat' first | exact AO.nil | apply AO.cons (by first | rfl | exact SL.one (by assumption))) rfl rfl (by repeat' constructor) (by repeat' constructor) ?_
              refine WL.nil (W.seq (W.seq (W.region (WL.faN (T := Ty) (off' := 3) rfl rfl rfl rfl rfl rfl rfl (WL.ldN (T := Ty) (j := 0) rfl rfl rfl rfl rfl rfl (WL.nil (W.block (W.seq (W.region (WL.eql rfl rfl rfl (WL.as rfl rfl (WL.nil (W.condT rfl ?_)))))))))))))
              refine W.region (WL.mv rfl rfl (WL.addK rfl rfl rfl (wrap_i64 ⟨by omega, by omega⟩) (WL.as rfl rfl (WL.nil (W.inBlock (W.seq (W.region ?_)))))))
              refine WL.ldAF (T := Ty) (j := 1) rfl rfl rfl rfl rfl rfl (by repeat' constructor) ?_
              refine WL.faN (T := Ty) (off' := 0) rfl rfl rfl rfl rfl rfl rfl ?_
              refine WL.ldAF (T := Ty) (j := 0) rfl rfl rfl rfl rfl rfl (by repeat' constructor) ?_
              refine WL.callV rfl rfl (fun x p d => find15_e _ _ _ _ _ _ _ _ _ _ _ _ (by first | assumption | exact ROs.wide (by assumption) | exact ROs.mono (by assumption) (eqh_at 0 rfl p d) | exact ros_at 0 rfl p d | exact ros_at 1 rfl p d | exact ros_at 2 rfl p d | exact ros_at 3 rfl p d | exact ros_at 4 rfl p d) (by first | assumption | omega) (by assumption)) ?_
              refine WL.mv rfl rfl (WL.neq rfl rfl rfl (WL.mv rfl rfl (WL.gF rfl rfl (by omega) (WL.faN (T := Ty) (off' := 6) rfl rfl rfl rfl rfl rfl rfl (WL.gF rfl rfl (by omega) (WL.ldN (T := Ty) (j := 0) rfl rfl rfl rfl rfl rfl (WL.gF rfl rfl (by omega) (WL.lss rfl rfl rfl (WL.pickFp rfl rfl (by omega) rfl (WL.mv rfl rfl (WL.gF rfl rfl (by omega) (WL.faN (T := Ty) (off' := 3) rfl rfl rfl rfl rfl rfl rfl (WL.gF rfl rfl (by omega) ?_)))))))))))))
              refine WL.ldN (T := Ty) (j := 0) rfl rfl rfl rfl rfl rfl (WL.gF rfl rfl (by omega) (WL.eql rfl rfl rfl (WL.gF rfl rfl (by omega) (WL.mv rfl rfl (WL.gdN rfl rfl rfl rfl rfl rfl (WL.gdN rfl rfl rfl rfl rfl rfl (WL.gdN rfl rfl rfl rfl rfl rfl (WL.gF rfl rfl (by omega) (WL.pickF rfl rfl rfl (WL.pickFp rfl rfl (by omega) rfl (WL.nil (W.condF rfl (W.skip ?_)))))))))))))
              refine W.inBlock (W.region (WL.addK rfl rfl rfl (wrap_i64 ⟨by omega, by omega⟩) (WL.mv rfl rfl (WL.nil ?_))))
              refine W.fit (Hs' := [box b0 _ _, box b1 _ _, box b2 _ _]) (by (repeat' first | exact Sel.nil | apply Sel.k | exact Pick.h | apply Pick.t)) (W.sub ?_ (next2 (j + 1) ρ3 (Le.refl _) hc3 (by omega)))
              exact ⟨rfl, rfl, rfl, rfl, rfl, rfl, rfl, by rw [t4]; rfl, by rw [t5]; rfl, by rw [t6]; rfl, rfl, rfl, rfl, trivial⟩
            · rw [show isHot q = false by unfold isHot; rw [k1]; rfl, if_neg (by decide)] at t4
              rw [show isKd 2 q = true by unfold isKd; rw [k1]; rfl, if_pos rfl] at t5
              rw [show isTest q = false by unfold isTest; rw [k1]; rfl, if_neg (by decide)] at t6
              rw [k1] at hrow
              refine W.seq (W.region (WL.lss rfl rfl rfl (WL.nil (W.seq (W.condpT rfl (by omega) (W.skip (W.seq (W.block (W.seq (W.region (WL.mv rfl rfl ?_)))))))))))
              refine WL.ix (T := Ty) rfl rfl rfl (by assumption) rfl rfl (by omega) (by first | omega | decide +kernel) ?_
              refine WL.ldAR (T := Ty) rfl rfl rfl rfl (by first | assumption | exact ROs.wide (by assumption)) (by assumption) rfl ?_
              refine WL.alF (T := Ty) rfl rfl (by repeat' constructor) (fun b4 => ?_)
              refine WL.as rfl rfl ?_
              refine WL.stAO (T := Ty) (j := 0) rfl rfl rfl rfl (by repeat' first | exact AO.nil | apply AO.cons (by first | rfl | exact SL.one (by assumption))) rfl rfl (by repeat' constructor) (by repeat' constructor) ?_
              refine WL.nil (W.seq (W.seq (W.region (WL.faN (T := Ty) (off' := 3) rfl rfl rfl rfl rfl rfl rfl (WL.ldN (T := Ty) (j := 0) rfl rfl rfl rfl rfl rfl (WL.nil (W.block (W.seq (W.region (WL.eql rfl rfl rfl (WL.as rfl rfl (WL.nil (W.condF rfl ?_)))))))))))))
              refine W.seq (W.region (WL.eql rfl rfl rfl (WL.as rfl rfl (WL.nil (W.condT rfl (W.region (WL.mv rfl rfl (WL.addK rfl rfl rfl (wrap_i64 ⟨by omega, by omega⟩) (WL.as rfl rfl (WL.nil (W.inBlock (W.seq (W.region ?_)))))))))))))
              refine WL.ldAF (T := Ty) (j := 1) rfl rfl rfl rfl rfl rfl (by repeat' constructor) ?_
              refine WL.faN (T := Ty) (off' := 0) rfl rfl rfl rfl rfl rfl rfl ?_
              refine WL.ldAF (T := Ty) (j := 0) rfl rfl rfl rfl rfl rfl (by repeat' constructor) ?_
              refine WL.callV rfl rfl (fun x p d => find15_e _ _ _ _ _ _ _ _ _ _ _ _ (by first | assumption | exact ROs.wide (by assumption) | exact ROs.mono (by assumption) (eqh_at 0 rfl p d) | exact ros_at 0 rfl p d | exact ros_at 1 rfl p d | exact ros_at 2 rfl p d | exact ros_at 3 rfl p d | exact ros_at 4 rfl p d) (by first | assumption | omega) (by assumption)) ?_
              refine WL.mv rfl rfl (WL.neq rfl rfl rfl (WL.mv rfl rfl (WL.gF rfl rfl (by omega) (WL.faN (T := Ty) (off' := 6) rfl rfl rfl rfl rfl rfl rfl (WL.gF rfl rfl (by omega) (WL.ldN (T := Ty) (j := 0) rfl rfl rfl rfl rfl rfl (WL.gF rfl rfl (by omega) (WL.lss rfl rfl rfl (WL.pickFp rfl rfl (by omega) rfl (WL.mv rfl rfl (WL.gF rfl rfl (by omega) (WL.faN (T := Ty) (off' := 3) rfl rfl rfl rfl rfl rfl rfl (WL.gF rfl rfl (by omega) ?_)))))))))))))
              refine WL.ldN (T := Ty) (j := 0) rfl rfl rfl rfl rfl rfl (WL.gF rfl rfl (by omega) (WL.eql rfl rfl rfl (WL.gF rfl rfl (by omega) (WL.mv rfl rfl (WL.gdN rfl rfl rfl rfl rfl rfl (WL.gdN rfl rfl rfl rfl rfl rfl (WL.gdN rfl rfl rfl rfl rfl rfl (WL.gF rfl rfl (by omega) (WL.pickF rfl rfl rfl (WL.pickFp rfl rfl (by omega) rfl (WL.nil (W.condF rfl (W.skip ?_)))))))))))))
              refine W.inBlock (W.region (WL.addK rfl rfl rfl (wrap_i64 ⟨by omega, by omega⟩) (WL.mv rfl rfl (WL.nil ?_))))
              refine W.fit (Hs' := [box b0 _ _, box b1 _ _, box b2 _ _]) (by (repeat' first | exact Sel.nil | apply Sel.k | exact Pick.h | apply Pick.t)) (W.sub ?_ (next2 (j + 1) ρ3 (Le.refl _) hc3 (by omega)))
              exact ⟨rfl, rfl, rfl, rfl, rfl, rfl, rfl, by rw [t4]; rfl, by rw [t5]; rfl, by rw [t6]; rfl, rfl, rfl, rfl, trivial⟩
            · rw [show isHot q = false by unfold isHot; rw [k1]; rfl, if_neg (by decide)] at t4
              rw [show isKd 2 q = false by unfold isKd; rw [k1]; rfl, if_neg (by decide)] at t5
              rw [show isTest q = true by unfold isTest; rw [k1]; rfl, if_pos rfl] at t6
              rw [k1] at hrow
              have hp0 : q.pins = 0 := by simpa [badT, k1] using hq3
              refine W.seq (W.region (WL.lss rfl rfl rfl (WL.nil (W.seq (W.condpT rfl (by omega) (W.skip (W.seq (W.block (W.seq (W.region (WL.mv rfl rfl ?_)))))))))))
              refine WL.ix (T := Ty) rfl rfl rfl (by assumption) rfl rfl (by omega) (by first | omega | decide +kernel) ?_
              refine WL.ldAR (T := Ty) rfl rfl rfl rfl (by first | assumption | exact ROs.wide (by assumption)) (by assumption) rfl ?_
              refine WL.alF (T := Ty) rfl rfl (by repeat' constructor) (fun b4 => ?_)
              refine WL.as rfl rfl ?_
              refine WL.stAO (T := Ty) (j := 0) rfl rfl rfl rfl (by repeat' first | exact AO.nil | apply AO.cons (by first | rfl | exact SL.one (by assumption))) rfl rfl (by repeat' constructor) (by repeat' constructor) ?_
              refine WL.nil (W.seq (W.seq (W.region (WL.faN (T := Ty) (off' := 3) rfl rfl rfl rfl rfl rfl rfl (WL.ldN (T := Ty) (j := 0) rfl rfl rfl rfl rfl rfl (WL.nil (W.block (W.seq (W.region (WL.eql rfl rfl rfl (WL.as rfl rfl (WL.nil (W.condF rfl ?_)))))))))))))
              refine W.seq (W.region (WL.eql rfl rfl rfl (WL.as rfl rfl (WL.nil (W.condF rfl (W.seq (W.region (WL.eql rfl rfl rfl (WL.as rfl rfl (WL.nil (W.condT rfl (W.region (WL.mv rfl rfl ?_)))))))))))))
              refine WL.addK rfl rfl rfl (wrap_i64 ⟨by omega, by omega⟩) (WL.as rfl rfl (WL.nil (W.inBlock (W.seq (W.region ?_)))))
              refine WL.ldAF (T := Ty) (j := 1) rfl rfl rfl rfl rfl rfl (by repeat' constructor) ?_
              refine WL.faN (T := Ty) (off' := 0) rfl rfl rfl rfl rfl rfl rfl ?_
              refine WL.ldAF (T := Ty) (j := 0) rfl rfl rfl rfl rfl rfl (by repeat' constructor) ?_
              refine WL.callV rfl rfl (fun x p d => find15_e _ _ _ _ _ _ _ _ _ _ _ _ (by first | assumption | exact ROs.wide (by assumption) | exact ROs.mono (by assumption) (eqh_at 0 rfl p d) | exact ros_at 0 rfl p d | exact ros_at 1 rfl p d | exact ros_at 2 rfl p d | exact ros_at 3 rfl p d | exact ros_at 4 rfl p d) (by first | assumption | omega) (by assumption)) ?_
              refine WL.mv rfl rfl (WL.neq rfl rfl rfl (WL.mv rfl rfl (WL.gF rfl rfl (by omega) (WL.faN (T := Ty) (off' := 6) rfl rfl rfl rfl rfl rfl rfl (WL.gF rfl rfl (by omega) (WL.ldN (T := Ty) (j := 0) rfl rfl rfl rfl rfl rfl (WL.gF rfl rfl (by omega) (WL.lss rfl rfl rfl (WL.pickFp rfl rfl (by omega) rfl (WL.mv rfl rfl (WL.gF rfl rfl (by omega) (WL.faN (T := Ty) (off' := 3) rfl rfl rfl rfl rfl rfl rfl (WL.gF rfl rfl (by omega) ?_)))))))))))))
              refine WL.ldN (T := Ty) (j := 0) rfl rfl rfl rfl rfl rfl (WL.gF rfl rfl (by omega) (WL.eql rfl rfl rfl (WL.gF rfl rfl (by omega) (WL.mv rfl rfl (WL.gY rfl rfl (WL.faN (T := Ty) (off' := 6) rfl rfl rfl rfl rfl rfl rfl (WL.gY rfl rfl (WL.ldN (T := Ty) (j := 0) rfl rfl rfl rfl rfl rfl (WL.gY rfl rfl (WL.gtr rfl rfl rfl (WL.gF rfl rfl (by omega) (WL.pickT rfl rfl rfl (WL.pickFp rfl rfl (by omega) rfl ?_)))))))))))))
              refine WL.nil (W.condpF rfl (by omega) (W.skip (W.inBlock (W.region (WL.addK rfl rfl rfl (wrap_i64 ⟨by omega, by omega⟩) (WL.mv rfl rfl (WL.nil ?_)))))))
              refine W.fit (Hs' := [box b0 _ _, box b1 _ _, box b2 _ _]) (by (repeat' first | exact Sel.nil | apply Sel.k | exact Pick.h | apply Pick.t)) (W.sub ?_ (next2 (j + 1) ρ3 (Le.refl _) hc3 (by omega)))
              exact ⟨rfl, rfl, rfl, rfl, rfl, rfl, rfl, by rw [t4]; rfl, by rw [t5]; rfl, by rw [t6]; rfl, rfl, rfl, rfl, trivial⟩
          · have hjL : j = d.pages.length := by omega
            subst hjL
            rw [List.take_length]
            have a1 := hbd.rs
            have a2 := hbd.ts
            have a3 := hbd.ht
            have a4 := hbd.t1
            have a5 := hbd.tm
            rw [cnt_res] at a1
            have a6 := hdR.h1
            have a7 := hdR.h2
            have a8 := hdR.h3
            have a9 : cnt isHot d.pages = cnt (isKd 1) d.pages := rfl
            clear g4 g5 g6
            refine W.seq (W.region (WL.lss rfl rfl rfl (WL.nil (W.seq (W.condpF rfl (by omega) (W.exit rfl (W.seq (W.seq ?_))))))))
            refine W.cutG (τ := Unit) (fun s => [(0, .int .i64 M), (1, v1), (5, pt b0 0), (6, .int .i64 (i : Int)), (7, pt b1 0), (8, pt b2 0), (9, kv), (266, .bool false)])
              (fun s => [box b0 [.int .i64 d.most, .int .i64 d.target, u, .int .i64 (d.hot : Int), .int .i64 (d.cold : Int), .int .i64 (d.test : Int)] 73, box b1 [.int .i64 k.a, .int .i64 k.b, .int .i64 k.c] 76, box b2 [.int .i64 c.most, .int .i64 c.target, v, .int .i64 (c.hot : Int), .int .i64 (c.cold : Int), .int .i64 (c.test : Int)] 73]) (fun s ρ' => ρ' = ρ3) ?_ (fun cut2 => ?_)
            · rintro _ _ - rfl
              have l3 := ky_cells out
              have sk : SL kv out.length := rO.sl l3 (by omega)
              refine W.condF rfl (W.skip (W.seq (W.seq (W.region (WL.mv rfl rfl ?_)))))
              refine WL.len (T := Ty) rfl rfl (by assumption) rfl ?_
              refine WL.mv rfl rfl (WL.nil (W.block ?_))
              refine W.loopR (σ := Nat) (fun s => [(0, .int .i64 M), (1, v1), (5, pt b0 0), (6, .int .i64 (i : Int)), (7, pt b1 0), (8, pt b2 0), (267, kv), (268, .int .i64 (out.length : Int)), (269, .int .i64 (s : Int))])
                (fun s => [box b0 [.int .i64 d.most, .int .i64 d.target, u, .int .i64 (d.hot : Int), .int .i64 (d.cold : Int), .int .i64 (d.test : Int)] 73, box b1 [.int .i64 k.a, .int .i64 k.b, .int .i64 k.c] 76, box b2 [.int .i64 c.most, .int .i64 c.target, v, .int .i64 (c.hot : Int), .int .i64 (c.cold : Int), .int .i64 (c.test : Int)] 73]) (fun s ρ' => s ≤ out.length) (fun s => out.length - s)
                0 ⟨rfl, rfl, rfl, rfl, rfl, rfl, rfl, rfl, rfl, trivial⟩ rfl (Nat.zero_le _) ?_
              intro j ρ4 le4 hj next3
              replace r1 := r1.mono le4
              replace rv := rv.mono le4
              replace rD := rD.mono le4
              replace rO := rO.mono le4
              replace nx := fun s ρ' (h : Le ρ4 ρ') => nx s ρ' (fun b o q => h b o (le4 b o q))
              by_cases hc4 : j < out.length
              · obtain ⟨y, hy⟩ : ∃ y, out[j]? = some y := ⟨_, List.getElem?_eq_getElem hc4⟩
                have hrow : ((out.flatMap kyC).drop (((j : Nat) : Int).toNat * 3)).take 3 = kyC y := flat_row (k := 3) (f := kyC) (fun _ => rfl) hy
                unfold kyC at hrow
                rcases fnd_lt d.pages y with hf | ⟨jj, p, hf, hp, hpk⟩
                · refine W.seq ?_
                  refine W.region (WL.lss rfl rfl rfl (WL.nil (W.seq (W.condpT rfl (by omega) (W.skip (W.seq (W.block (W.seq (W.region ?_)))))))))
                  refine WL.ix (T := Ty) rfl rfl rfl (by assumption) rfl rfl (by omega) (by first | omega | decide +kernel) ?_
                  refine WL.ldAR (T := Ty) rfl rfl rfl rfl (by first | assumption | exact ROs.wide (by assumption)) (by assumption) rfl ?_
                  refine WL.alF (T := Ty) rfl rfl (by repeat' constructor) (fun b4 => ?_)
                  refine WL.stAO (T := Ty) (j := 0) rfl rfl rfl rfl (by repeat' first | exact AO.nil | apply AO.cons (by first | rfl | exact SL.one (by assumption))) rfl rfl (by repeat' constructor) (by repeat' constructor) ?_
                  refine WL.nil (W.seq (W.region ?_))
                  refine WL.ldAF (T := Ty) (j := 1) rfl rfl rfl rfl rfl rfl (by repeat' constructor) ?_
                  refine WL.ldAF (T := Ty) (j := 0) rfl rfl rfl rfl rfl rfl (by repeat' constructor) ?_
                  refine WL.callV rfl rfl (fun x p d => find15_e _ _ _ _ _ _ _ _ _ _ _ _ (by first | assumption | exact ROs.wide (by assumption) | exact ROs.mono (by assumption) (eqh_at 0 rfl p d) | exact ros_at 0 rfl p d | exact ros_at 1 rfl p d | exact ros_at 2 rfl p d | exact ros_at 3 rfl p d | exact ros_at 4 rfl p d) (by first | assumption | omega) (by assumption)) ?_
                  refine WL.as rfl rfl (WL.nil (W.seq (W.region (WL.mv rfl rfl (WL.geq rfl rfl rfl (WL.mv rfl rfl (WL.gdN rfl rfl rfl rfl rfl rfl (WL.gdN rfl rfl rfl rfl rfl rfl (WL.gdN rfl rfl rfl rfl rfl rfl (WL.gdN rfl rfl rfl rfl rfl rfl (WL.gdN rfl rfl rfl rfl rfl rfl (WL.gdN rfl rfl rfl rfl rfl rfl (WL.gdN rfl rfl rfl rfl rfl rfl ?_)))))))))))))
                  refine WL.pickF rfl rfl rfl (WL.nil (W.condF rfl (W.skip (W.inBlock (W.region (WL.addK rfl rfl rfl (wrap_i64 ⟨by omega, by omega⟩) (WL.mv rfl rfl (WL.nil ?_))))))))
                  refine W.fit (Hs' := [box b0 _ _, box b1 _ _, box b2 _ _]) (by (repeat' first | exact Sel.nil | apply Sel.k | exact Pick.h | apply Pick.t)) (W.sub ?_ (next3 (j + 1) ρ4 (Le.refl _) hc4 (by omega)))
                  exact ⟨rfl, rfl, rfl, rfl, rfl, rfl, rfl, rfl, rfl, trivial⟩
                · have k3 := hdo y (List.mem_of_getElem? hy) p (List.mem_of_getElem? hp) hpk
                  have hpl := (List.getElem?_eq_some_iff.1 hp).1
                  have g3 : (d.pages.flatMap pgC)[((jj : Nat) : Int).toNat * 7 + 3]? = some (.int .i64 p.kind) := flat_get pg_len hp rfl
                  refine W.seq (W.region (WL.lss rfl rfl rfl (WL.nil (W.seq (W.condpT rfl (by omega) (W.skip (W.seq (W.block (W.seq (W.region ?_))))))))))
                  refine WL.ix (T := Ty) rfl rfl rfl (by assumption) rfl rfl (by omega) (by first | omega | decide +kernel) ?_
                  refine WL.ldAR (T := Ty) rfl rfl rfl rfl (by first | assumption | exact ROs.wide (by assumption)) (by assumption) rfl ?_
                  refine WL.alF (T := Ty) rfl rfl (by repeat' constructor) (fun b4 => ?_)
                  refine WL.stAO (T := Ty) (j := 0) rfl rfl rfl rfl (by repeat' first | exact AO.nil | apply AO.cons (by first | rfl | exact SL.one (by assumption))) rfl rfl (by repeat' constructor) (by repeat' constructor) ?_
                  refine WL.nil (W.seq (W.region ?_))
                  refine WL.ldAF (T := Ty) (j := 1) rfl rfl rfl rfl rfl rfl (by repeat' constructor) ?_
                  refine WL.ldAF (T := Ty) (j := 0) rfl rfl rfl rfl rfl rfl (by repeat' constructor) ?_
                  refine WL.callV rfl rfl (fun x p d => find15_e _ _ _ _ _ _ _ _ _ _ _ _ (by first | assumption | exact ROs.wide (by assumption) | exact ROs.mono (by assumption) (eqh_at 0 rfl p d) | exact ros_at 0 rfl p d | exact ros_at 1 rfl p d | exact ros_at 2 rfl p d | exact ros_at 3 rfl p d | exact ros_at 4 rfl p d) (by first | assumption | omega) (by assumption)) ?_
                  refine WL.as rfl rfl (WL.nil (W.seq (W.region (WL.mv rfl rfl (WL.geq rfl rfl rfl (WL.mv rfl rfl (WL.gY rfl rfl (WL.faN (T := Ty) (off' := 2) rfl rfl rfl rfl rfl rfl rfl (WL.gY rfl rfl (WL.ldN (T := Ty) (j := 1) rfl rfl rfl rfl rfl rfl (WL.gY rfl rfl (WL.mv rfl rfl (WL.gY rfl rfl ?_)))))))))))))
                  refine WL.ix (T := Ty) rfl rfl rfl (by assumption) rfl rfl (by omega) (by first | omega | decide +kernel) ?_
                  refine WL.gY rfl rfl (WL.faEN (T := Ty) (off' := 3) rfl rfl rfl rfl rfl rfl rfl (WL.gY rfl rfl ?_))
                  refine WL.ldR (T := Ty) rfl rfl rfl rfl (by first | assumption | exact ROs.wide (by assumption)) (by assumption) ?_
                  refine WL.gY rfl rfl (WL.neq rfl rfl rfl (WL.pickT rfl rfl rfl (WL.nil (W.condpF rfl (by omega) (W.skip (W.inBlock (W.region (WL.addK rfl rfl rfl (wrap_i64 ⟨by omega, by omega⟩) (WL.mv rfl rfl (WL.nil ?_))))))))))
                  refine W.fit (Hs' := [box b0 _ _, box b1 _ _, box b2 _ _]) (by (repeat' first | exact Sel.nil | apply Sel.k | exact Pick.h | apply Pick.t)) (W.sub ?_ (next3 (j + 1) ρ4 (Le.refl _) hc4 (by omega)))
                  exact ⟨rfl, rfl, rfl, rfl, rfl, rfl, rfl, rfl, rfl, trivial⟩
              · refine W.seq ?_
                refine W.region (WL.lss rfl rfl rfl (WL.nil (W.seq (W.condpF rfl (by omega) (W.exit rfl (W.seq (W.region (WL.faN (T := Ty) (off' := 2) rfl rfl rfl rfl rfl rfl rfl (WL.ldN (T := Ty) (j := 2) rfl rfl rfl rfl rfl rfl ?_)))))))))
                refine WL.len (T := Ty) rfl rfl (by assumption) rfl ?_
                refine WL.mv rfl rfl (WL.nil (W.block ?_))
                refine W.loopR (σ := Nat) (fun s => [(0, .int .i64 M), (1, v1), (5, pt b0 0), (6, .int .i64 (i : Int)), (7, pt b1 0), (8, pt b2 0), (289, v), (290, .int .i64 (c.pages.length : Int)), (291, .int .i64 (s : Int))])
                  (fun s => [box b0 [.int .i64 d.most, .int .i64 d.target, u, .int .i64 (d.hot : Int), .int .i64 (d.cold : Int), .int .i64 (d.test : Int)] 73, box b1 [.int .i64 k.a, .int .i64 k.b, .int .i64 k.c] 76, box b2 [.int .i64 c.most, .int .i64 c.target, v, .int .i64 (c.hot : Int), .int .i64 (c.cold : Int), .int .i64 (c.test : Int)] 73]) (fun s ρ' => s ≤ c.pages.length) (fun s => c.pages.length - s)
                  0 ⟨rfl, rfl, rfl, rfl, rfl, rfl, rfl, rfl, rfl, trivial⟩ rfl (Nat.zero_le _) ?_
                intro j ρ5 le5 hj next4
                replace r1 := r1.mono le5
                replace rv := rv.mono le5
                replace rD := rD.mono le5
                replace nx := fun s ρ' (h : Le ρ5 ρ') => nx s ρ' (fun b o q => h b o (le5 b o q))
                by_cases hc5 : j < c.pages.length
                · obtain ⟨p, hp⟩ : ∃ p, c.pages[j]? = some p := ⟨_, List.getElem?_eq_getElem hc5⟩
                  have hrow : ((c.pages.flatMap pgC).drop (((j : Nat) : Int).toNat * 7)).take 7 = pgC p := flat_row pg_len hp
                  unfold pgC at hrow
                  have hky := ky_dec p.key k
                  by_cases kp : 0 < p.pins
                  · by_cases hkk2 : p.key = k
                    · rw [decide_eq_true hkk2] at hky
                      refine W.seq (W.region (WL.lss rfl rfl rfl (WL.nil (W.seq (W.condpT rfl (by omega) (W.skip (W.seq (W.block (W.seq (W.region ?_))))))))))
                      refine WL.ix (T := Ty) rfl rfl rfl (by assumption) rfl rfl (by omega) (by first | omega | decide +kernel) ?_
                      refine WL.ldAR (T := Ty) rfl rfl rfl rfl (by first | assumption | exact ROs.wide (by assumption)) (by assumption) rfl ?_
                      refine WL.alF (T := Ty) rfl rfl (by repeat' constructor) (fun b4 => ?_)
                      refine WL.stAO (T := Ty) (j := 0) rfl rfl rfl rfl (by repeat' first | exact AO.nil | apply AO.cons (by first | rfl | exact SL.one (by assumption))) rfl rfl (by repeat' constructor) (by repeat' constructor) ?_
                      refine WL.nil (W.seq ?_)
                      refine W.drawA 30 rfl (fun σ0 hσ0 dσ0 => ?_)
                      have fσ0_0 := rb_at 0 rfl hσ0 dσ0
                      have fσ0_1 := rb_at 1 rfl hσ0 dσ0
                      have fσ0_2 := rb_at 2 rfl hσ0 dσ0
                      have fσ0_3 := rb_at 3 rfl hσ0 dσ0
                      refine WD.takeL 0 rfl (by decide +kernel) (WL.faN (T := Ty) (off' := 6) rfl rfl rfl rfl rfl rfl rfl (WL.nilT (WD.takeL 1 rfl (by decide +kernel) ?_)))
                      refine WL.ldBN (T := Ty) rfl rfl rfl rfl (by first | assumption | exact RB.wide (by assumption) | exact In.rb (by assumption)) rfl ?_
                      refine WL.nilT (WD.takeL 2 rfl (by decide +kernel) (WL.gtr rfl rfl rfl (WL.nilT (WD.takeL 3 rfl (by decide +kernel) (WL.mv rfl rfl (WL.nilT (WD.takeL 4 rfl (by decide +kernel) (WL.gT rfl rfl (by omega) (WL.faN (T := Ty) (off' := 0) rfl rfl rfl rfl rfl rfl rfl (WL.nilT (WD.takeL 5 rfl (by decide +kernel) (WL.gT rfl rfl (by omega) ?_))))))))))))
                      refine WL.ldABF (T := Ty) rfl rfl rfl rfl (by first | assumption | exact RB.wide (by assumption) | exact In.rb (by assumption)) rfl (by repeat' constructor) ?_
                      refine WL.nilT (WD.takeL 6 rfl (by decide +kernel) (WL.gT rfl rfl (by omega) ?_))
                      refine WL.ldABF (T := Ty) rfl rfl rfl rfl (by first | assumption | exact RB.wide (by assumption) | exact In.rb (by assumption)) rfl (by repeat' constructor) ?_
                      refine WL.nilT (WD.takeL 7 rfl (by decide +kernel) (WL.gT rfl rfl (by omega) ?_))
                      refine WL.neFe (T := Ty) rfl rfl rfl rfl (by repeat' first | exact FE.nil | apply FE.int (by decide) rfl rfl rfl rfl | apply FE.bool (by decide) rfl rfl rfl rfl | apply FE.sub (by decide) rfl (by kernel_rfl) rfl rfl) (by kernel_rfl) (by kernel_rfl) (by assumption) ?_
                      refine WL.nilT (WD.takeL 8 rfl (by decide +kernel) (WL.pickTp rfl rfl (by omega) rfl (WL.nilT (WD.takeL 9 rfl (by decide +kernel) (WL.mv rfl rfl (WL.nilT (WD.takeL 10 rfl (by decide +kernel) (WL.gdN rfl rfl rfl rfl rfl rfl (WL.nilT (WD.takeL 11 rfl (by decide +kernel) (WL.gdN rfl rfl rfl rfl rfl rfl (WL.nilT (WD.takeL 12 rfl (by decide +kernel) ?_)))))))))))))
                      refine WL.gdN rfl rfl rfl rfl rfl rfl (WL.nilT (WD.takeL 13 rfl (by decide +kernel) (WL.gdN rfl rfl rfl rfl rfl rfl (WL.nilT (WD.takeL 14 rfl (by decide +kernel) (WL.gdN rfl rfl rfl rfl rfl rfl (WL.nilT (WD.takeL 15 rfl (by decide +kernel) (WL.gdN rfl rfl rfl rfl rfl rfl (WL.nilT (WD.takeL 16 rfl (by decide +kernel) (WL.gdU rfl rfl rfl rfl rfl (WL.nilT ?_)))))))))))))
                      refine WD.takeL 17 rfl (by decide +kernel) (WL.gdU rfl rfl rfl rfl rfl (WL.nilT (WD.takeL 18 rfl (by decide +kernel) (WL.gdU rfl rfl rfl rfl rfl (WL.nilT (WD.takeL 19 rfl (by decide +kernel) (WL.gdU rfl rfl rfl rfl rfl (WL.nilT (WD.takeL 20 rfl (by decide +kernel) (WL.gdU rfl rfl rfl rfl rfl (WL.nilT (WD.takeL 25 rfl (by decide +kernel) (WL.gdU rfl rfl rfl rfl rfl ?_)))))))))))))
                      refine WL.nilT (WD.takeL 26 rfl (by decide +kernel) (WL.gdU rfl rfl rfl rfl rfl (WL.nilT (WD.takeL 21 rfl (by decide +kernel) (WL.gdU rfl rfl rfl rfl rfl (WL.nilT (WD.takeL 22 rfl (by decide +kernel) (WL.gdU rfl rfl rfl rfl rfl (WL.nilT (WD.takeL 23 rfl (by decide +kernel) (WL.gdU rfl rfl rfl rfl rfl (WL.nilT (WD.takeL 24 rfl (by decide +kernel) ?_)))))))))))))
                      refine WL.gdU rfl rfl rfl rfl rfl (WL.nilT (WD.takeL 27 rfl (by decide +kernel) (WL.gdU rfl rfl rfl rfl rfl (WL.nilT (WD.takeL 28 rfl (by decide +kernel) (WL.gdN rfl rfl rfl rfl rfl rfl (WL.nilT (WD.takeL 29 rfl (by decide +kernel) (WL.pickF rfl rfl rfl (WL.nilT ?_))))))))))
                      refine WD.doneF hσ0 (by decide +kernel) (by repeat' constructor) ?_
                      refine W.condF rfl (W.skip (W.inBlock (W.region (WL.addK rfl rfl rfl (wrap_i64 ⟨by omega, by omega⟩) (WL.mv rfl rfl (WL.nil ?_))))))
                      refine W.fit (Hs' := [box b0 _ _, box b1 _ _, box b2 _ _]) (by (repeat' first | exact Sel.nil | apply Sel.k | exact Pick.h | apply Pick.t)) (W.sub ?_ (next4 (j + 1) ρ5 (Le.refl _) hc5 (by omega)))
                      exact ⟨rfl, rfl, rfl, rfl, rfl, rfl, rfl, rfl, rfl, trivial⟩
                    · rw [decide_eq_false hkk2] at hky
                      obtain ⟨q, hq, hqk, hqp⟩ := hds p (List.mem_of_getElem? hp) kp hkk2
                      obtain ⟨jj, hjj⟩ := List.mem_iff_getElem?.1 hq
                      have hf : fndK d.pages p.key = (jj : Int) := by rw [← hqk]; exact fnd_mem hbd.ky hjj
                      have hpl := (List.getElem?_eq_some_iff.1 hjj).1
                      have g6 : (d.pages.flatMap pgC)[((jj : Nat) : Int).toNat * 7 + 6]? = some (.int .i64 q.pins) := flat_get pg_len hjj rfl
                      refine W.seq (W.region (WL.lss rfl rfl rfl (WL.nil (W.seq (W.condpT rfl (by omega) (W.skip (W.seq (W.block (W.seq (W.region ?_))))))))))
                      refine WL.ix (T := Ty) rfl rfl rfl (by assumption) rfl rfl (by omega) (by first | omega | decide +kernel) ?_
                      refine WL.ldAR (T := Ty) rfl rfl rfl rfl (by first | assumption | exact ROs.wide (by assumption)) (by assumption) rfl ?_
                      refine WL.alF (T := Ty) rfl rfl (by repeat' constructor) (fun b4 => ?_)
                      refine WL.stAO (T := Ty) (j := 0) rfl rfl rfl rfl (by repeat' first | exact AO.nil | apply AO.cons (by first | rfl | exact SL.one (by assumption))) rfl rfl (by repeat' constructor) (by repeat' constructor) ?_
                      refine WL.nil (W.seq ?_)
                      refine W.drawA 30 rfl (fun σ0 hσ0 dσ0 => ?_)
                      have fσ0_0 := rb_at 0 rfl hσ0 dσ0
                      have fσ0_1 := rb_at 1 rfl hσ0 dσ0
                      have fσ0_2 := rb_at 2 rfl hσ0 dσ0
                      have fσ0_3 := rb_at 3 rfl hσ0 dσ0
                      refine WD.takeL 0 rfl (by decide +kernel) (WL.faN (T := Ty) (off' := 6) rfl rfl rfl rfl rfl rfl rfl (WL.nilT (WD.takeL 1 rfl (by decide +kernel) ?_)))
                      refine WL.ldBN (T := Ty) rfl rfl rfl rfl (by first | assumption | exact RB.wide (by assumption) | exact In.rb (by assumption)) rfl ?_
                      refine WL.nilT (WD.takeL 2 rfl (by decide +kernel) (WL.gtr rfl rfl rfl (WL.nilT (WD.takeL 3 rfl (by decide +kernel) (WL.mv rfl rfl (WL.nilT (WD.takeL 4 rfl (by decide +kernel) (WL.gT rfl rfl (by omega) (WL.faN (T := Ty) (off' := 0) rfl rfl rfl rfl rfl rfl rfl (WL.nilT (WD.takeL 5 rfl (by decide +kernel) (WL.gT rfl rfl (by omega) ?_))))))))))))
                      refine WL.ldABF (T := Ty) rfl rfl rfl rfl (by first | assumption | exact RB.wide (by assumption) | exact In.rb (by assumption)) rfl (by repeat' constructor) ?_
                      refine WL.nilT (WD.takeL 6 rfl (by decide +kernel) (WL.gT rfl rfl (by omega) ?_))
                      refine WL.ldABF (T := Ty) rfl rfl rfl rfl (by first | assumption | exact RB.wide (by assumption) | exact In.rb (by assumption)) rfl (by repeat' constructor) ?_
                      refine WL.nilT (WD.takeL 7 rfl (by decide +kernel) (WL.gT rfl rfl (by omega) ?_))
                      refine WL.neFe (T := Ty) rfl rfl rfl rfl (by repeat' first | exact FE.nil | apply FE.int (by decide) rfl rfl rfl rfl | apply FE.bool (by decide) rfl rfl rfl rfl | apply FE.sub (by decide) rfl (by kernel_rfl) rfl rfl) (by kernel_rfl) (by kernel_rfl) (by assumption) ?_
                      refine WL.nilT (WD.takeL 8 rfl (by decide +kernel) (WL.pickTp rfl rfl (by omega) rfl (WL.nilT (WD.takeL 9 rfl (by decide +kernel) (WL.mv rfl rfl (WL.nilT (WD.takeL 10 rfl (by decide +kernel) (WL.gY rfl rfl ?_))))))))
                      refine WL.ldABF (T := Ty) rfl rfl rfl rfl (by first | assumption | exact RB.wide (by assumption) | exact In.rb (by assumption)) rfl (by repeat' constructor) ?_
                      refine WL.nilT (WD.takeL 11 rfl (by decide +kernel) (WL.gY rfl rfl (WL.faN (T := Ty) (off' := 0) rfl rfl rfl rfl rfl rfl rfl (WL.nilT (WD.takeL 12 rfl (by decide +kernel) (WL.gY rfl rfl ?_))))))
                      refine WL.ldABF (T := Ty) rfl rfl rfl rfl (by first | assumption | exact RB.wide (by assumption) | exact In.rb (by assumption)) rfl (by repeat' constructor) ?_
                      refine WL.nilT (WD.oneL 13 rfl (by decide +kernel) (WL.gY rfl rfl ?_))
                      refine WL.callV rfl rfl (fun x p d => find15_e _ _ _ _ _ _ _ _ _ _ _ _ (by first | assumption | exact ROs.wide (by assumption) | exact ROs.mono (by assumption) (eqh_at 0 rfl p d) | exact ros_at 0 rfl p d | exact ros_at 1 rfl p d | exact ros_at 2 rfl p d | exact ros_at 3 rfl p d | exact ros_at 4 rfl p d) (by first | assumption | omega) (by assumption)) ?_
                      refine WL.nilE (WD.takeL 14 rfl (by decide +kernel) (WL.gY rfl rfl (WL.lss rfl rfl rfl (WL.nilT (WD.takeL 15 rfl (by decide +kernel) (WL.gY rfl rfl (WL.mv rfl rfl (WL.nilT (WD.takeL 16 rfl (by decide +kernel) (WL.gY rfl rfl (WL.faN (T := Ty) (off' := 2) rfl rfl rfl rfl rfl rfl rfl (WL.nilT (WD.takeL 17 rfl (by decide +kernel) ?_)))))))))))))
                      refine WL.gY rfl rfl ?_
                      refine WL.ldBN (T := Ty) rfl rfl rfl rfl (by first | assumption | exact RB.wide (by assumption) | exact In.rb (by assumption)) rfl ?_
                      refine WL.nilT (WD.takeL 18 rfl (by decide +kernel) (WL.gY rfl rfl ?_))
                      refine WL.ldABF (T := Ty) rfl rfl rfl rfl (by first | assumption | exact RB.wide (by assumption) | exact In.rb (by assumption)) rfl (by repeat' constructor) ?_
                      refine WL.nilT (WD.takeL 19 rfl (by decide +kernel) (WL.gY rfl rfl (WL.faN (T := Ty) (off' := 0) rfl rfl rfl rfl rfl rfl rfl (WL.nilT (WD.takeL 20 rfl (by decide +kernel) (WL.gY rfl rfl ?_))))))
                      refine WL.ldABF (T := Ty) rfl rfl rfl rfl (by first | assumption | exact RB.wide (by assumption) | exact In.rb (by assumption)) rfl (by repeat' constructor) ?_
                      refine WL.nilT (WD.takeL 25 rfl (by decide +kernel) (WL.gY rfl rfl (WL.faN (T := Ty) (off' := 6) rfl rfl rfl rfl rfl rfl rfl (WL.nilT (WD.takeL 26 rfl (by decide +kernel) (WL.gY rfl rfl ?_))))))
                      refine WL.ldBN (T := Ty) rfl rfl rfl rfl (by first | assumption | exact RB.wide (by assumption) | exact In.rb (by assumption)) rfl ?_
                      refine WL.nilT (WD.oneL 21 rfl (by decide +kernel) (WL.gY rfl rfl ?_))
                      refine WL.callV rfl rfl (fun x p d => find15_e _ _ _ _ _ _ _ _ _ _ _ _ (by first | assumption | exact ROs.wide (by assumption) | exact ROs.mono (by assumption) (eqh_at 0 rfl p d) | exact ros_at 0 rfl p d | exact ros_at 1 rfl p d | exact ros_at 2 rfl p d | exact ros_at 3 rfl p d | exact ros_at 4 rfl p d) (by first | assumption | omega) (by assumption)) ?_
                      refine WL.nilE (WD.takeL 22 rfl (by decide +kernel) (WL.gY rfl rfl ?_))
                      refine WL.ix (T := Ty) rfl rfl rfl (by assumption) rfl rfl (by omega) (by first | omega | decide +kernel) ?_
                      refine WL.nilT (WD.takeL 23 rfl (by decide +kernel) (WL.gY rfl rfl (WL.faEN (T := Ty) (off' := 6) rfl rfl rfl rfl rfl rfl rfl (WL.nilT (WD.takeL 24 rfl (by decide +kernel) (WL.gY rfl rfl ?_))))))
                      refine WL.ldR (T := Ty) rfl rfl rfl rfl (by first | assumption | exact ROs.wide (by assumption)) (by assumption) ?_
                      refine WL.nilT (WD.takeL 27 rfl (by decide +kernel) (WL.gY rfl rfl (WL.neq rfl rfl rfl (WL.nilT (WD.takeL 28 rfl (by decide +kernel) (WL.gY rfl rfl (WL.pickF rfl rfl rfl (WL.nilT (WD.takeL 29 rfl (by decide +kernel) (WL.pickT rfl rfl rfl (WL.nilT ?_)))))))))))
                      refine WD.doneF hσ0 (by decide +kernel) (by repeat' constructor) ?_
                      refine W.condpF rfl (by omega) (W.skip (W.inBlock (W.region (WL.addK rfl rfl rfl (wrap_i64 ⟨by omega, by omega⟩) (WL.mv rfl rfl (WL.nil ?_))))))
                      refine W.fit (Hs' := [box b0 _ _, box b1 _ _, box b2 _ _]) (by (repeat' first | exact Sel.nil | apply Sel.k | exact Pick.h | apply Pick.t)) (W.sub ?_ (next4 (j + 1) ρ5 (Le.refl _) hc5 (by omega)))
                      exact ⟨rfl, rfl, rfl, rfl, rfl, rfl, rfl, rfl, rfl, trivial⟩
                  · refine W.seq ?_
                    refine W.region (WL.lss rfl rfl rfl (WL.nil (W.seq (W.condpT rfl (by omega) (W.skip (W.seq (W.block (W.seq (W.region ?_)))))))))
                    refine WL.ix (T := Ty) rfl rfl rfl (by assumption) rfl rfl (by omega) (by first | omega | decide +kernel) ?_
                    refine WL.ldAR (T := Ty) rfl rfl rfl rfl (by first | assumption | exact ROs.wide (by assumption)) (by assumption) rfl ?_
                    refine WL.alF (T := Ty) rfl rfl (by repeat' constructor) (fun b4 => ?_)
                    refine WL.stAO (T := Ty) (j := 0) rfl rfl rfl rfl (by repeat' first | exact AO.nil | apply AO.cons (by first | rfl | exact SL.one (by assumption))) rfl rfl (by repeat' constructor) (by repeat' constructor) ?_
                    refine WL.nil (W.seq ?_)
                    refine W.drawA 30 rfl (fun σ0 hσ0 dσ0 => ?_)
                    have fσ0_0 := rb_at 0 rfl hσ0 dσ0
                    have fσ0_1 := rb_at 1 rfl hσ0 dσ0
                    have fσ0_2 := rb_at 2 rfl hσ0 dσ0
                    have fσ0_3 := rb_at 3 rfl hσ0 dσ0
                    refine WD.takeL 0 rfl (by decide +kernel) (WL.faN (T := Ty) (off' := 6) rfl rfl rfl rfl rfl rfl rfl (WL.nilT (WD.takeL 1 rfl (by decide +kernel) ?_)))
                    refine WL.ldBN (T := Ty) rfl rfl rfl rfl (by first | assumption | exact RB.wide (by assumption) | exact In.rb (by assumption)) rfl ?_
                    refine WL.nilT (WD.takeL 2 rfl (by decide +kernel) (WL.gtr rfl rfl rfl (WL.nilT (WD.takeL 3 rfl (by decide +kernel) (WL.mv rfl rfl (WL.nilT (WD.takeL 4 rfl (by decide +kernel) (WL.gdTn rfl rfl rfl rfl rfl (by omega) (WL.nilT (WD.takeL 5 rfl (by decide +kernel) (WL.gdTn rfl rfl rfl rfl rfl (by omega) (WL.nilT (WD.takeL 6 rfl (by decide +kernel) ?_)))))))))))))
                    refine WL.gdTn rfl rfl rfl rfl rfl (by omega) (WL.nilT (WD.takeL 7 rfl (by decide +kernel) (WL.gdTn rfl rfl rfl rfl rfl (by omega) (WL.nilT (WD.takeL 8 rfl (by decide +kernel) (WL.pickFp rfl rfl (by omega) rfl (WL.nilT (WD.takeL 9 rfl (by decide +kernel) (WL.mv rfl rfl (WL.nilT (WD.takeL 10 rfl (by decide +kernel) (WL.gdN rfl rfl rfl rfl rfl rfl (WL.nilT ?_)))))))))))))
                    refine WD.takeL 11 rfl (by decide +kernel) (WL.gdN rfl rfl rfl rfl rfl rfl (WL.nilT (WD.takeL 12 rfl (by decide +kernel) (WL.gdN rfl rfl rfl rfl rfl rfl (WL.nilT (WD.takeL 13 rfl (by decide +kernel) (WL.gdN rfl rfl rfl rfl rfl rfl (WL.nilT (WD.takeL 14 rfl (by decide +kernel) (WL.gdN rfl rfl rfl rfl rfl rfl (WL.nilT (WD.takeL 15 rfl (by decide +kernel) (WL.gdN rfl rfl rfl rfl rfl rfl ?_)))))))))))))
                    refine WL.nilT (WD.takeL 16 rfl (by decide +kernel) (WL.gdU rfl rfl rfl rfl rfl (WL.nilT (WD.takeL 17 rfl (by decide +kernel) (WL.gdU rfl rfl rfl rfl rfl (WL.nilT (WD.takeL 18 rfl (by decide +kernel) (WL.gdU rfl rfl rfl rfl rfl (WL.nilT (WD.takeL 19 rfl (by decide +kernel) (WL.gdU rfl rfl rfl rfl rfl (WL.nilT (WD.takeL 20 rfl (by decide +kernel) ?_)))))))))))))
                    refine WL.gdU rfl rfl rfl rfl rfl (WL.nilT (WD.takeL 25 rfl (by decide +kernel) (WL.gdU rfl rfl rfl rfl rfl (WL.nilT (WD.takeL 26 rfl (by decide +kernel) (WL.gdU rfl rfl rfl rfl rfl (WL.nilT (WD.takeL 21 rfl (by decide +kernel) (WL.gdU rfl rfl rfl rfl rfl (WL.nilT (WD.takeL 22 rfl (by decide +kernel) (WL.gdU rfl rfl rfl rfl rfl (WL.nilT ?_)))))))))))))
                    refine WD.takeL 23 rfl (by decide +kernel) (WL.gdU rfl rfl rfl rfl rfl (WL.nilT (WD.takeL 24 rfl (by decide +kernel) (WL.gdU rfl rfl rfl rfl rfl (WL.nilT (WD.takeL 27 rfl (by decide +kernel) (WL.gdU rfl rfl rfl rfl rfl (WL.nilT (WD.takeL 28 rfl (by decide +kernel) (WL.gdN rfl rfl rfl rfl rfl rfl (WL.nilT (WD.takeL 29 rfl (by decide +kernel) (WL.pickF rfl rfl rfl ?_)))))))))))))
                    refine WL.nilT ?_
                    refine WD.doneF hσ0 (by decide +kernel) (by repeat' constructor) ?_
                    refine W.condF rfl (W.skip (W.inBlock (W.region (WL.addK rfl rfl rfl (wrap_i64 ⟨by omega, by omega⟩) (WL.mv rfl rfl (WL.nil ?_))))))
                    refine W.fit (Hs' := [box b0 _ _, box b1 _ _, box b2 _ _]) (by (repeat' first | exact Sel.nil | apply Sel.k | exact Pick.h | apply Pick.t)) (W.sub ?_ (next4 (j + 1) ρ5 (Le.refl _) hc5 (by omega)))
                    exact ⟨rfl, rfl, rfl, rfl, rfl, rfl, rfl, rfl, rfl, trivial⟩
                · refine W.seq ?_
                  refine W.region (WL.lss rfl rfl rfl (WL.nil (W.seq (W.condpF rfl (by omega) (W.exit rfl (W.inBlock (W.region (WL.mv rfl rfl (WL.addK rfl rfl rfl (wrap_i64 ⟨by omega, by omega⟩) (WL.as rfl rfl (WL.nil ?_)))))))))))
                  refine W.fit (Hs' := [box b0 _ _]) (by (repeat' first | exact Sel.nil | apply Sel.k | exact Pick.h | apply Pick.t)) (W.sub ?_ (nx ⟨i + 1, d, u⟩ ρ5 (Le.refl _) ⟨by dsimp only; omega, hbd, hdm, rD⟩ (by dsimp only; omega)))
                  exact ⟨rfl, rfl, rfl, rfl, trivial⟩
            · rcases Nat.eq_zero_or_pos d.pages.length with h0 | h0
              · refine W.regionL (by repeat' constructor) ?_
                refine W.region (WL.mv rfl rfl (WL.mv rfl rfl (WL.addK rfl rfl rfl (wrap_i64 ⟨by omega, by omega⟩) (WL.mv rfl rfl (WL.gtr rfl rfl rfl (WL.mv rfl rfl (WL.gF rfl rfl (by omega) (WL.mv rfl rfl (WL.gF rfl rfl (by omega) (WL.mv rfl rfl (WL.gF rfl rfl (by omega) (WL.gtr rfl rfl rfl (WL.pickFp rfl rfl (by omega) rfl ?_)))))))))))))
                refine WL.mv rfl rfl (WL.gF rfl rfl (by omega) (WL.mv rfl rfl (WL.gF rfl rfl (by omega) (WL.mv rfl rfl (WL.gF rfl rfl (by omega) (WL.faN (T := Ty) (off' := 1) rfl rfl rfl rfl rfl rfl rfl (WL.gF rfl rfl (by omega) (WL.ldN (T := Ty) (j := 0) rfl rfl rfl rfl rfl rfl (WL.gF rfl rfl (by omega) (WL.subK rfl rfl rfl (wrap_i64 ⟨by omega, by omega⟩) (WL.gF rfl rfl (by omega) (WL.gtr rfl rfl rfl (WL.pickFp rfl rfl (by omega) rfl ?_)))))))))))))
                refine WL.mv rfl rfl (WL.gF rfl rfl (by omega) (WL.faN (T := Ty) (off' := 1) rfl rfl rfl rfl rfl rfl rfl (WL.gF rfl rfl (by omega) (WL.ldN (T := Ty) (j := 0) rfl rfl rfl rfl rfl rfl (WL.gF rfl rfl (by omega) (WL.lss rfl rfl rfl (WL.pickFp rfl rfl (by omega) rfl (WL.mv rfl rfl (WL.gF rfl rfl (by omega) (WL.faN (T := Ty) (off' := 1) rfl rfl rfl rfl rfl rfl rfl (WL.gF rfl rfl (by omega) (WL.ldN (T := Ty) (j := 0) rfl rfl rfl rfl rfl rfl (WL.gF rfl rfl (by omega) ?_)))))))))))))
                refine WL.mv rfl rfl (WL.gF rfl rfl (by omega) (WL.gtr rfl rfl rfl (WL.pickFp rfl rfl (by omega) rfl (WL.mv rfl rfl (WL.gF rfl rfl (by omega) (WL.faN (T := Ty) (off' := 2) rfl rfl rfl rfl rfl rfl rfl (WL.gF rfl rfl (by omega) (WL.ldN (T := Ty) (j := 0) rfl rfl rfl rfl rfl rfl (WL.gF rfl rfl (by omega) ?_)))))))))
                refine WL.len (T := Ty) rfl rfl (by assumption) rfl ?_
                refine WL.gF rfl rfl (by omega) (WL.gtr rfl rfl rfl (WL.gF rfl rfl (by omega) (WL.mv rfl rfl (WL.gdTn rfl rfl rfl rfl rfl (by omega) (WL.gdTn rfl rfl rfl rfl rfl (by omega) (WL.gdTn rfl rfl rfl rfl rfl (by omega) (WL.gdTn rfl rfl rfl rfl rfl (by omega) (WL.gdU rfl rfl rfl rfl rfl (WL.gdU rfl rfl rfl rfl rfl (WL.gdU rfl rfl rfl rfl rfl (WL.gdU rfl rfl rfl rfl rfl (WL.gdU rfl rfl rfl rfl rfl (WL.gdU rfl rfl rfl rfl rfl ?_)))))))))))))
                refine WL.gdTn rfl rfl rfl rfl rfl (by omega) (WL.gdTn rfl rfl rfl rfl rfl (by omega) (WL.gdU rfl rfl rfl rfl rfl (WL.gdU rfl rfl rfl rfl rfl (WL.gdU rfl rfl rfl rfl rfl (WL.gdTn rfl rfl rfl rfl rfl (by omega) (WL.gdTn rfl rfl rfl rfl rfl (by omega) (WL.gdU rfl rfl rfl rfl rfl (WL.gdU rfl rfl rfl rfl rfl (WL.gdU rfl rfl rfl rfl rfl (WL.gdU rfl rfl rfl rfl rfl (WL.gdU rfl rfl rfl rfl rfl (WL.gdU rfl rfl rfl rfl rfl (WL.gdTn rfl rfl rfl rfl rfl (by omega) ?_)))))))))))))
                refine WL.gdTn rfl rfl rfl rfl rfl (by omega) (WL.gdU rfl rfl rfl rfl rfl (WL.gdU rfl rfl rfl rfl rfl (WL.gdU rfl rfl rfl rfl rfl (WL.gdTn rfl rfl rfl rfl rfl (by omega) (WL.gdTn rfl rfl rfl rfl rfl (by omega) (WL.gdU rfl rfl rfl rfl rfl (WL.gdU rfl rfl rfl rfl rfl (WL.gdU rfl rfl rfl rfl rfl (WL.gdU rfl rfl rfl rfl rfl (WL.gdU rfl rfl rfl rfl rfl (WL.gdU rfl rfl rfl rfl rfl (WL.gdTn rfl rfl rfl rfl rfl (by omega) (WL.gF rfl rfl (by omega) ?_)))))))))))))
                refine WL.pickFp rfl rfl (by omega) rfl (WL.pickFp rfl rfl (by omega) rfl (WL.nil ?_))
                refine W.sub ?_ (cut2 () _ (Le.refl _) rfl)
                exact ⟨rfl, rfl, rfl, rfl, rfl, rfl, rfl, rfl, trivial⟩
              · refine W.regionL (by repeat' constructor) ?_
                refine W.region (WL.mv rfl rfl (WL.mv rfl rfl (WL.addK rfl rfl rfl (wrap_i64 ⟨by omega, by omega⟩) (WL.mv rfl rfl (WL.gtr rfl rfl rfl (WL.mv rfl rfl (WL.gF rfl rfl (by omega) (WL.mv rfl rfl (WL.gF rfl rfl (by omega) (WL.mv rfl rfl (WL.gF rfl rfl (by omega) (WL.gtr rfl rfl rfl (WL.pickFp rfl rfl (by omega) rfl ?_)))))))))))))
                refine WL.mv rfl rfl (WL.gF rfl rfl (by omega) (WL.mv rfl rfl (WL.gF rfl rfl (by omega) (WL.mv rfl rfl (WL.gF rfl rfl (by omega) (WL.faN (T := Ty) (off' := 1) rfl rfl rfl rfl rfl rfl rfl (WL.gF rfl rfl (by omega) (WL.ldN (T := Ty) (j := 0) rfl rfl rfl rfl rfl rfl (WL.gF rfl rfl (by omega) (WL.subK rfl rfl rfl (wrap_i64 ⟨by omega, by omega⟩) (WL.gF rfl rfl (by omega) (WL.gtr rfl rfl rfl (WL.pickFp rfl rfl (by omega) rfl ?_)))))))))))))
                refine WL.mv rfl rfl (WL.gF rfl rfl (by omega) (WL.faN (T := Ty) (off' := 1) rfl rfl rfl rfl rfl rfl rfl (WL.gF rfl rfl (by omega) (WL.ldN (T := Ty) (j := 0) rfl rfl rfl rfl rfl rfl (WL.gF rfl rfl (by omega) (WL.lss rfl rfl rfl (WL.pickFp rfl rfl (by omega) rfl (WL.mv rfl rfl (WL.gF rfl rfl (by omega) (WL.faN (T := Ty) (off' := 1) rfl rfl rfl rfl rfl rfl rfl (WL.gF rfl rfl (by omega) (WL.ldN (T := Ty) (j := 0) rfl rfl rfl rfl rfl rfl (WL.gF rfl rfl (by omega) ?_)))))))))))))
                refine WL.mv rfl rfl (WL.gF rfl rfl (by omega) (WL.gtr rfl rfl rfl (WL.pickFp rfl rfl (by omega) rfl (WL.mv rfl rfl (WL.gF rfl rfl (by omega) (WL.faN (T := Ty) (off' := 2) rfl rfl rfl rfl rfl rfl rfl (WL.gF rfl rfl (by omega) (WL.ldN (T := Ty) (j := 0) rfl rfl rfl rfl rfl rfl (WL.gF rfl rfl (by omega) ?_)))))))))
                refine WL.len (T := Ty) rfl rfl (by assumption) rfl ?_
                refine WL.gF rfl rfl (by omega) (WL.gtr rfl rfl rfl (WL.gF rfl rfl (by omega) (WL.mv rfl rfl (WL.gT rfl rfl (by omega) (WL.faN (T := Ty) (off' := 3) rfl rfl rfl rfl rfl rfl rfl (WL.gT rfl rfl (by omega) (WL.ldN (T := Ty) (j := 0) rfl rfl rfl rfl rfl rfl (WL.gT rfl rfl (by omega) (WL.lss rfl rfl rfl (WL.gT rfl rfl (by omega) (WL.mv rfl rfl (WL.gY rfl rfl (WL.faN (T := Ty) (off' := 3) rfl rfl rfl rfl rfl rfl rfl ?_)))))))))))))
                refine WL.gY rfl rfl (WL.ldN (T := Ty) (j := 0) rfl rfl rfl rfl rfl rfl (WL.gY rfl rfl (WL.faN (T := Ty) (off' := 2) rfl rfl rfl rfl rfl rfl rfl (WL.gY rfl rfl (WL.ldN (T := Ty) (j := 0) rfl rfl rfl rfl rfl rfl (WL.gY rfl rfl ?_))))))
                refine WL.len (T := Ty) rfl rfl (by assumption) rfl ?_
                refine WL.gY rfl rfl (WL.geq rfl rfl rfl (WL.gT rfl rfl (by omega) (WL.pickF rfl rfl rfl (WL.gT rfl rfl (by omega) (WL.mv rfl rfl (WL.gF rfl rfl (by omega) (WL.faN (T := Ty) (off' := 4) rfl rfl rfl rfl rfl rfl rfl (WL.gF rfl rfl (by omega) (WL.ldN (T := Ty) (j := 0) rfl rfl rfl rfl rfl rfl (WL.gF rfl rfl (by omega) (WL.lss rfl rfl rfl (WL.gT rfl rfl (by omega) (WL.pickFp rfl rfl (by omega) rfl ?_)))))))))))))
                refine WL.gT rfl rfl (by omega) (WL.mv rfl rfl (WL.gY rfl rfl (WL.faN (T := Ty) (off' := 4) rfl rfl rfl rfl rfl rfl rfl (WL.gY rfl rfl (WL.ldN (T := Ty) (j := 0) rfl rfl rfl rfl rfl rfl (WL.gY rfl rfl (WL.faN (T := Ty) (off' := 2) rfl rfl rfl rfl rfl rfl rfl (WL.gY rfl rfl (WL.ldN (T := Ty) (j := 0) rfl rfl rfl rfl rfl rfl (WL.gY rfl rfl ?_))))))))))
                refine WL.len (T := Ty) rfl rfl (by assumption) rfl ?_
                refine WL.gY rfl rfl (WL.geq rfl rfl rfl (WL.gT rfl rfl (by omega) (WL.pickF rfl rfl rfl (WL.gT rfl rfl (by omega) (WL.mv rfl rfl (WL.gF rfl rfl (by omega) (WL.faN (T := Ty) (off' := 5) rfl rfl rfl rfl rfl rfl rfl (WL.gF rfl rfl (by omega) (WL.ldN (T := Ty) (j := 0) rfl rfl rfl rfl rfl rfl (WL.gF rfl rfl (by omega) (WL.lss rfl rfl rfl (WL.gT rfl rfl (by omega) (WL.pickFp rfl rfl (by omega) rfl ?_)))))))))))))
                refine WL.gT rfl rfl (by omega) (WL.mv rfl rfl (WL.gY rfl rfl (WL.faN (T := Ty) (off' := 5) rfl rfl rfl rfl rfl rfl rfl (WL.gY rfl rfl (WL.ldN (T := Ty) (j := 0) rfl rfl rfl rfl rfl rfl (WL.gY rfl rfl (WL.faN (T := Ty) (off' := 2) rfl rfl rfl rfl rfl rfl rfl (WL.gY rfl rfl (WL.ldN (T := Ty) (j := 0) rfl rfl rfl rfl rfl rfl (WL.gY rfl rfl ?_))))))))))
                refine WL.len (T := Ty) rfl rfl (by assumption) rfl ?_
                refine WL.gY rfl rfl (WL.geq rfl rfl rfl (WL.gT rfl rfl (by omega) (WL.pickF rfl rfl rfl (WL.gF rfl rfl (by omega) (WL.pickTp rfl rfl (by omega) rfl (WL.pickFp rfl rfl (by omega) rfl (WL.nil ?_)))))))
                refine W.sub ?_ (cut2 () _ (Le.refl _) rfl)
                exact ⟨rfl, rfl, rfl, rfl, rfl, rfl, rfl, by rw [decide_eq_false (show ¬ ((d.pages.length : Nat) : Int) ≤ (d.test : Int) by omega)]; rfl, trivial⟩
      · by_cases hx4 : x % (7 + 1) < 4
        · obtain ⟨d, hd⟩ := admit_ex k hb.I
          have hA := hb.admits (by decide) hd
          have hn6 : (1000000 : Nat) ≤ 1000000 := Nat.le_refl _
          refine W.block (W.seq ?_)
          refine W.cutG (τ := Unit) (fun s => [(0, .int .i64 M), (1, v1), (5, pt b0 0), (6, .int .i64 (i : Int)), (7, pt b1 0), (8, pt b2 0), (9, .slice none 0 0), (10, .bool false), (11, pt b3 0), (53, .bool true)])
            (fun s => [box b0 [.int .i64 c.most, .int .i64 c.target, v, .int .i64 (c.hot : Int), .int .i64 (c.cold : Int), .int .i64 (c.test : Int)] 73, box b1 [.int .i64 k.a, .int .i64 k.b, .int .i64 k.c] 76, box b2 [.int .i64 c.most, .int .i64 c.target, v, .int .i64 (c.hot : Int), .int .i64 (c.cold : Int), .int .i64 (c.test : Int)] 73, box b3 [.int .i64 c.most, .int .i64 c.target, v, .int .i64 (c.hot : Int), .int .i64 (c.cold : Int), .int .i64 (c.test : Int)] 73]) (fun s ρ' => ρ' = ρ1) ?_ (fun cut1 => ?_)
          · rintro _ ρ2 - rfl
            refine W.condT rfl (W.seq (W.region ?_))
            refine WL.ldAF (T := Ty) (j := 0) rfl rfl rfl rfl rfl rfl (by repeat' constructor) ?_
            refine WL.ldAF (T := Ty) (j := 1) rfl rfl rfl rfl rfl rfl (by repeat' constructor) ?_
            refine WL.callF rfl rfl (fun x p d => admit_c _ _ _ _ _ _ (by assumption) (by assumption) (by first | assumption | omega) (by first | assumption | omega) (by first | assumption | exact ROs.wide (by assumption) | exact ROs.mono (by assumption) (eqh_at 0 rfl p d) | exact ros_at 0 rfl p d | exact ros_at 1 rfl p d | exact ros_at 2 rfl p d | exact ros_at 3 rfl p d | exact ros_at 4 rfl p d) (by assumption)) (fun r4 => ?_)
            refine WL.opens (α := Value × Value) (φ := fun x => r4 = .tuple #[.agg #[.int .i64 _, .int .i64 _, x.1, .int .i64 _, .int .i64 _, .int .i64 _], x.2, .bool _] ∧ SL x.1 _ ∧ SL x.2 _) (ps := fun x => [Buf 7 x.1 _, Buf 3 x.2 _]) 0 rfl (fun h q => q) (by repeat' constructor) ?_
            rintro ⟨u4, kv4⟩ ⟨es4, su4, sk4⟩
            subst es4
            dsimp only [List.cons_append, List.nil_append] at su4 sk4 ⊢
            refine WL.mv rfl rfl (WL.extL rfl rfl rfl (WL.extL rfl rfl rfl (WL.extL rfl rfl rfl ?_)))
            refine WL.stAO (T := Ty) (j := 5) rfl rfl rfl rfl (by repeat' first | exact AO.nil | apply AO.cons (by first | rfl | exact SL.one (by assumption))) rfl rfl (by repeat' constructor) (by repeat' constructor) ?_
            refine WL.as rfl rfl (WL.as rfl rfl (WL.nil (W.seq ?_)))
            refine W.freeze 0 rfl (by repeat' constructor) (fun ρ3 le3 in3 => ?_)
            refine W.freeze 0 rfl (by repeat' constructor) (fun ρ4 le4 in4 => ?_)
            have rD := (in3.mono le4).ros
            have rO := in4.ros
            have hol := admit_out hn6 hd
            clear in3 in4 hd
            obtain ⟨d, out, ok⟩ := d
            dsimp only at hA rD rO hol ⊢
            have hs : StepB x c k M d out ok := ⟨fun _ => ⟨hA.b, hA.m.trans hm, hA.out, hA.st⟩, fun hf _ => (hA.no hf).2⟩
            have hdl : d.pages.length ≤ 16 := hA.b.len
            have hkd : (⟨k.a, k.b, k.c⟩ : Ky) = k := rfl
            have sD : SL u4 d.pages.length := rD.sl (pgs_cells d.pages) (by omega)
            cases ok with
            | false =>
              refine W.drawA 27 rfl (fun σ0 hσ0 dσ0 => ?_)
              have fσ0_0 := rb_at 0 rfl hσ0 dσ0
              have fσ0_1 := rb_at 1 rfl hσ0 dσ0
              have fσ0_2 := rb_at 2 rfl hσ0 dσ0
              have fσ0_3 := rb_at 3 rfl hσ0 dσ0
              refine WD.takeL 0 rfl (by decide +kernel) (WL.mv rfl rfl (WL.nilT (WD.takeL 1 rfl (by decide +kernel) (WL.mv rfl rfl (WL.nilT (WD.takeL 2 rfl (by decide +kernel) (WL.gdN rfl rfl rfl rfl rfl rfl (WL.nilT (WD.takeL 3 rfl (by decide +kernel) (WL.gdN rfl rfl rfl rfl rfl rfl (WL.nilT (WD.takeL 4 rfl (by decide +kernel) (WL.gdN rfl rfl rfl rfl rfl rfl ?_)))))))))))))
              refine WL.nilT (WD.takeL 5 rfl (by decide +kernel) (WL.gdN rfl rfl rfl rfl rfl rfl (WL.nilT (WD.takeL 6 rfl (by decide +kernel) (WL.gdN rfl rfl rfl rfl rfl rfl (WL.nilT (WD.takeL 7 rfl (by decide +kernel) (WL.gdU rfl rfl rfl rfl rfl (WL.nilT (WD.takeL 8 rfl (by decide +kernel) (WL.gdU rfl rfl rfl rfl rfl (WL.nilT (WD.takeL 10 rfl (by decide +kernel) ?_)))))))))))))
              refine WL.gdU rfl rfl rfl rfl rfl (WL.nilT (WD.takeL 11 rfl (by decide +kernel) (WL.gdU rfl rfl rfl rfl rfl (WL.nilT (WD.takeL 12 rfl (by decide +kernel) (WL.gdU rfl rfl rfl rfl rfl (WL.nilT (WD.takeL 9 rfl (by decide +kernel) (WL.gdU rfl rfl rfl rfl rfl (WL.nilT (WD.takeL 13 rfl (by decide +kernel) (WL.gdU rfl rfl rfl rfl rfl (WL.nilT ?_)))))))))))))
              refine WD.takeL 14 rfl (by decide +kernel) (WL.gdN rfl rfl rfl rfl rfl rfl (WL.nilT (WD.takeL 15 rfl (by decide +kernel) (WL.gdN rfl rfl rfl rfl rfl rfl (WL.nilT (WD.takeL 16 rfl (by decide +kernel) (WL.gdU rfl rfl rfl rfl rfl (WL.nilT (WD.takeL 17 rfl (by decide +kernel) (WL.gdU rfl rfl rfl rfl rfl (WL.nilT (WD.takeL 18 rfl (by decide +kernel) (WL.gdU rfl rfl rfl rfl rfl ?_)))))))))))))
              refine WL.nilT (WD.takeL 19 rfl (by decide +kernel) (WL.gdU rfl rfl rfl rfl rfl (WL.nilT (WD.takeL 20 rfl (by decide +kernel) (WL.gdU rfl rfl rfl rfl rfl (WL.nilT (WD.takeL 21 rfl (by decide +kernel) (WL.gdU rfl rfl rfl rfl rfl (WL.nilT (WD.takeL 22 rfl (by decide +kernel) (WL.gdU rfl rfl rfl rfl rfl (WL.nilT (WD.takeL 23 rfl (by decide +kernel) ?_)))))))))))))
              refine WL.gdU rfl rfl rfl rfl rfl (WL.nilT (WD.takeL 24 rfl (by decide +kernel) (WL.gdU rfl rfl rfl rfl rfl (WL.nilT (WD.takeL 25 rfl (by decide +kernel) (WL.gdN rfl rfl rfl rfl rfl rfl (WL.nilT (WD.takeL 26 rfl (by decide +kernel) (WL.pickF rfl rfl rfl (WL.nilT ?_))))))))))
              refine WD.doneF hσ0 (by decide +kernel) (by repeat' constructor) ?_
              refine W.condF rfl (W.skip (W.inBlock ?_))
              refine W.fit (Hs' := [box b0 _ _, box b1 _ _, box b2 _ _, box b3 _ _]) (by (repeat' first | exact Sel.nil | apply Sel.k | exact Pick.h | apply Pick.t)) (W.sub ?_ (cut0 ⟨d, out, false, _, _⟩ ρ4 (fun b o h => le4 b o (le3 b o h)) ⟨hs, rD, rO, hol⟩))
              exact ⟨rfl, rfl, rfl, rfl, rfl, rfl, rfl, rfl, rfl, trivial⟩
            | true =>
              obtain ⟨q, hq, hqk, hq3⟩ := hA.is rfl
              obtain ⟨j, hj⟩ := List.mem_iff_getElem?.1 hq
              have hf : fndK d.pages k = (j : Int) := by rw [← hqk]; exact fnd_mem hA.b.ky hj
              have hjl := (List.getElem?_eq_some_iff.1 hj).1
              have g3 : (d.pages.flatMap pgC)[((j : Nat) : Int).toNat * 7 + 3]? = some (.int .i64 q.kind) := flat_get pg_len hj rfl
              refine W.drawA 27 rfl (fun σ0 hσ0 dσ0 => ?_)
              have fσ0_0 := rb_at 0 rfl hσ0 dσ0
              have fσ0_1 := rb_at 1 rfl hσ0 dσ0
              have fσ0_2 := rb_at 2 rfl hσ0 dσ0
              have fσ0_3 := rb_at 3 rfl hσ0 dσ0
              refine WD.takeL 0 rfl (by decide +kernel) (WL.mv rfl rfl (WL.nilT (WD.takeL 1 rfl (by decide +kernel) (WL.mv rfl rfl (WL.nilT (WD.takeL 2 rfl (by decide +kernel) (WL.gY rfl rfl ?_)))))))
              refine WL.ldABF (T := Ty) rfl rfl rfl rfl (by first | assumption | exact RB.wide (by assumption) | exact In.rb (by assumption)) rfl (by repeat' constructor) ?_
              refine WL.nilT (WD.takeL 3 rfl (by decide +kernel) (WL.gY rfl rfl ?_))
              refine WL.ldABF (T := Ty) rfl rfl rfl rfl (by first | assumption | exact RB.wide (by assumption) | exact In.rb (by assumption)) rfl (by repeat' constructor) ?_
              refine WL.nilT (WD.oneL 4 rfl (by decide +kernel) (WL.gY rfl rfl ?_))
              refine WL.callV rfl rfl (fun x p d => find15_e _ _ _ _ _ _ _ _ _ _ _ _ (by first | assumption | exact ROs.wide (by assumption) | exact ROs.mono (by assumption) (eqh_at 0 rfl p d) | exact ros_at 0 rfl p d | exact ros_at 1 rfl p d | exact ros_at 2 rfl p d | exact ros_at 3 rfl p d | exact ros_at 4 rfl p d) (by first | assumption | omega) (by assumption)) ?_
              refine WL.nilE (WD.takeL 5 rfl (by decide +kernel) (WL.gY rfl rfl (WL.lss rfl rfl rfl (WL.nilT (WD.takeL 6 rfl (by decide +kernel) (WL.gY rfl rfl (WL.mv rfl rfl (WL.nilT (WD.takeL 7 rfl (by decide +kernel) (WL.gY rfl rfl ?_))))))))))
              refine WL.ldABF (T := Ty) rfl rfl rfl rfl (by first | assumption | exact RB.wide (by assumption) | exact In.rb (by assumption)) rfl (by repeat' constructor) ?_
              refine WL.nilT (WD.takeL 8 rfl (by decide +kernel) (WL.gY rfl rfl ?_))
              refine WL.ldABF (T := Ty) rfl rfl rfl rfl (by first | assumption | exact RB.wide (by assumption) | exact In.rb (by assumption)) rfl (by repeat' constructor) ?_
              refine WL.nilT (WD.takeL 10 rfl (by decide +kernel) (WL.gY rfl rfl (WL.faN (T := Ty) (off' := 2) rfl rfl rfl rfl rfl rfl rfl (WL.nilT (WD.takeL 11 rfl (by decide +kernel) (WL.gY rfl rfl ?_))))))
              refine WL.ldBN (T := Ty) rfl rfl rfl rfl (by first | assumption | exact RB.wide (by assumption) | exact In.rb (by assumption)) rfl ?_
              refine WL.nilT (WD.takeL 12 rfl (by decide +kernel) (WL.gY rfl rfl ?_))
              refine WL.len (T := Ty) rfl rfl (by assumption) rfl ?_
              refine WL.nilT (WD.oneL 9 rfl (by decide +kernel) (WL.gY rfl rfl ?_))
              refine WL.callV rfl rfl (fun x p d => find15_e _ _ _ _ _ _ _ _ _ _ _ _ (by first | assumption | exact ROs.wide (by assumption) | exact ROs.mono (by assumption) (eqh_at 0 rfl p d) | exact ros_at 0 rfl p d | exact ros_at 1 rfl p d | exact ros_at 2 rfl p d | exact ros_at 3 rfl p d | exact ros_at 4 rfl p d) (by first | assumption | omega) (by assumption)) ?_
              refine WL.nilE (WD.takeL 13 rfl (by decide +kernel) (WL.gY rfl rfl (WL.geq rfl rfl rfl (WL.nilT (WD.takeL 14 rfl (by decide +kernel) (WL.gY rfl rfl (WL.pickF rfl rfl rfl (WL.nilT (WD.takeL 15 rfl (by decide +kernel) (WL.gY rfl rfl (WL.mv rfl rfl (WL.nilT (WD.takeL 16 rfl (by decide +kernel) ?_)))))))))))))
              refine WL.gF rfl rfl (by omega) (WL.faN (T := Ty) (off' := 2) rfl rfl rfl rfl rfl rfl rfl (WL.nilT (WD.takeL 17 rfl (by decide +kernel) (WL.gF rfl rfl (by omega) ?_))))
              refine WL.ldBN (T := Ty) rfl rfl rfl rfl (by first | assumption | exact RB.wide (by assumption) | exact In.rb (by assumption)) rfl ?_
              refine WL.nilT (WD.takeL 18 rfl (by decide +kernel) (WL.gF rfl rfl (by omega) ?_))
              refine WL.ldABF (T := Ty) rfl rfl rfl rfl (by first | assumption | exact RB.wide (by assumption) | exact In.rb (by assumption)) rfl (by repeat' constructor) ?_
              refine WL.nilT (WD.takeL 19 rfl (by decide +kernel) (WL.gF rfl rfl (by omega) ?_))
              refine WL.ldABF (T := Ty) rfl rfl rfl rfl (by first | assumption | exact RB.wide (by assumption) | exact In.rb (by assumption)) rfl (by repeat' constructor) ?_
              refine WL.nilT (WD.oneL 20 rfl (by decide +kernel) (WL.gF rfl rfl (by omega) ?_))
              refine WL.callV rfl rfl (fun x p d => find15_e _ _ _ _ _ _ _ _ _ _ _ _ (by first | assumption | exact ROs.wide (by assumption) | exact ROs.mono (by assumption) (eqh_at 0 rfl p d) | exact ros_at 0 rfl p d | exact ros_at 1 rfl p d | exact ros_at 2 rfl p d | exact ros_at 3 rfl p d | exact ros_at 4 rfl p d) (by first | assumption | omega) (by assumption)) ?_
              refine WL.nilE (WD.takeL 21 rfl (by decide +kernel) (WL.gF rfl rfl (by omega) ?_))
              refine WL.ix (T := Ty) rfl rfl rfl (by assumption) rfl rfl (by omega) (by first | omega | decide +kernel) ?_
              refine WL.nilT (WD.takeL 22 rfl (by decide +kernel) (WL.gF rfl rfl (by omega) (WL.faEN (T := Ty) (off' := 3) rfl rfl rfl rfl rfl rfl rfl (WL.nilT (WD.takeL 23 rfl (by decide +kernel) (WL.gF rfl rfl (by omega) ?_))))))
              refine WL.ldR (T := Ty) rfl rfl rfl rfl (by first | assumption | exact ROs.wide (by assumption)) (by assumption) ?_
              refine WL.nilT (WD.takeL 24 rfl (by decide +kernel) (WL.gF rfl rfl (by omega) (WL.eql rfl rfl rfl (WL.nilT (WD.takeL 25 rfl (by decide +kernel) (WL.gY rfl rfl (WL.pickFp rfl rfl (by omega) rfl (WL.nilT (WD.takeL 26 rfl (by decide +kernel) (WL.pickT rfl rfl rfl (WL.nilT ?_)))))))))))
              refine WD.doneF hσ0 (by decide +kernel) (by repeat' constructor) ?_
              refine W.condpF rfl (by omega) (W.skip (W.inBlock ?_))
              refine W.fit (Hs' := [box b0 _ _, box b1 _ _, box b2 _ _, box b3 _ _]) (by (repeat' first | exact Sel.nil | apply Sel.k | exact Pick.h | apply Pick.t)) (W.sub ?_ (cut0 ⟨d, out, true, _, _⟩ ρ4 (fun b o h => le4 b o (le3 b o h)) ⟨hs, rD, rO, hol⟩))
              exact ⟨rfl, rfl, rfl, rfl, rfl, rfl, rfl, rfl, rfl, trivial⟩
          · rcases mod8_lt hx4 with h | h | h | h
            · rw [h]
              refine W.seq (W.region (WL.eql rfl rfl rfl (WL.as rfl rfl (WL.nil (W.condT rfl (W.skip ?_))))))
              refine W.fit (Hs' := [box b0 _ _, box b1 _ _, box b2 _ _, box b3 _ _]) (by (repeat' first | exact Sel.nil | apply Sel.k | exact Pick.h | apply Pick.t)) (W.sub ?_ (cut1 () _ (Le.refl _) rfl))
              exact ⟨rfl, rfl, rfl, rfl, rfl, rfl, rfl, rfl, rfl, rfl, trivial⟩
            · rw [h]
              refine W.seq (W.region (WL.eql rfl rfl rfl (WL.as rfl rfl (WL.nil (W.condF rfl (W.seq (W.region (WL.eql rfl rfl rfl (WL.as rfl rfl (WL.nil (W.condT rfl (W.skip ?_))))))))))))
              refine W.fit (Hs' := [box b0 _ _, box b1 _ _, box b2 _ _, box b3 _ _]) (by (repeat' first | exact Sel.nil | apply Sel.k | exact Pick.h | apply Pick.t)) (W.sub ?_ (cut1 () _ (Le.refl _) rfl))
              exact ⟨rfl, rfl, rfl, rfl, rfl, rfl, rfl, rfl, rfl, rfl, trivial⟩
            · rw [h]
              refine W.seq (W.region (WL.eql rfl rfl rfl (WL.as rfl rfl (WL.nil (W.condF rfl (W.seq (W.region (WL.eql rfl rfl rfl (WL.as rfl rfl (WL.nil (W.condF rfl (W.seq (W.region ?_)))))))))))))
              refine WL.eql rfl rfl rfl (WL.as rfl rfl (WL.nil (W.condT rfl (W.skip ?_))))
              refine W.fit (Hs' := [box b0 _ _, box b1 _ _, box b2 _ _, box b3 _ _]) (by (repeat' first | exact Sel.nil | apply Sel.k | exact Pick.h | apply Pick.t)) (W.sub ?_ (cut1 () _ (Le.refl _) rfl))
              exact ⟨rfl, rfl, rfl, rfl, rfl, rfl, rfl, rfl, rfl, rfl, trivial⟩
            · rw [h]
              refine W.seq (W.region (WL.eql rfl rfl rfl (WL.as rfl rfl (WL.nil (W.condF rfl (W.seq (W.region (WL.eql rfl rfl rfl (WL.as rfl rfl (WL.nil (W.condF rfl (W.seq (W.region ?_)))))))))))))
              refine WL.eql rfl rfl rfl (WL.as rfl rfl (WL.nil (W.condF rfl (W.region (WL.eql rfl rfl rfl (WL.as rfl rfl (WL.nil ?_)))))))
              refine W.fit (Hs' := [box b0 _ _, box b1 _ _, box b2 _ _, box b3 _ _]) (by (repeat' first | exact Sel.nil | apply Sel.k | exact Pick.h | apply Pick.t)) (W.sub ?_ (cut1 () _ (Le.refl _) rfl))
              exact ⟨rfl, rfl, rfl, rfl, rfl, rfl, rfl, rfl, rfl, rfl, trivial⟩
        · by_cases hx5 : x % (7 + 1) = 4
          · rw [hx5]
            have hsB : StepB x c k M (touchP c k).1 [] (touchP c k).2 := ⟨fun _ => ⟨hb.touch k, (touch_most c k).trans hm, (fun x hx => by cases hx), Stay.touch c k⟩, fun _ h => absurd h hx4⟩
            refine W.block (W.seq (W.seq (W.region (WL.eql rfl rfl rfl (WL.as rfl rfl (WL.nil (W.condF rfl (W.seq (W.region (WL.eql rfl rfl rfl (WL.as rfl rfl (WL.nil (W.condF rfl ?_)))))))))))))
            refine W.seq (W.region (WL.eql rfl rfl rfl (WL.as rfl rfl (WL.nil (W.condF rfl (W.region (WL.eql rfl rfl rfl (WL.as rfl rfl (WL.nil (W.condF rfl (W.seq (W.region (WL.eql rfl rfl rfl ?_)))))))))))))
            refine WL.as rfl rfl (WL.nil (W.condT rfl (W.region ?_)))
            refine WL.ldAF (T := Ty) (j := 3) rfl rfl rfl rfl rfl rfl (by repeat' constructor) ?_
            refine WL.ldAF (T := Ty) (j := 2) rfl rfl rfl rfl rfl rfl (by repeat' constructor) ?_
            refine WL.callF rfl rfl (fun x p d => touch_c _ _ _ _ (by assumption) (by first | assumption | exact ROs.wide (by assumption) | exact ROs.mono (by assumption) (eqh_at 0 rfl p d) | exact ros_at 0 rfl p d | exact ros_at 1 rfl p d | exact ros_at 2 rfl p d | exact ros_at 3 rfl p d | exact ros_at 4 rfl p d)) (fun r4 => ?_)
            refine WL.opens (α := Value) (φ := fun v => r4 = .tuple #[.agg #[.int .i64 _, .int .i64 _, v, .int .i64 _, .int .i64 _, .int .i64 _], .bool _] ∧ SL v _) (ps := fun v => [Buf 7 v _]) 0 rfl (fun h q => q) (by repeat' constructor) ?_
            rintro u4 ⟨es4, su4⟩
            subst es4
            dsimp only [List.cons_append, List.nil_append] at su4 ⊢
            refine WL.mv rfl rfl (WL.extL rfl rfl rfl (WL.extL rfl rfl rfl ?_))
            refine WL.stAO (T := Ty) (j := 1) rfl rfl rfl rfl (by repeat' first | exact AO.nil | apply AO.cons (by first | rfl | exact SL.one (by assumption))) rfl rfl (by repeat' constructor) (by repeat' constructor) ?_
            refine WL.as rfl rfl (WL.nil (W.inBlock ?_))
            refine W.freeze 0 rfl (by repeat' constructor) (fun ρ2 le2 in2 => ?_)
            refine W.fit (Hs' := [box b0 _ _, box b1 _ _, box b2 _ _, box b3 _ _]) (by (repeat' first | exact Sel.nil | apply Sel.k | exact Pick.h | apply Pick.t)) (W.sub ?_ (cut0 ⟨_, _, _, _, _⟩ ρ2 le2 ⟨hsB, in2.ros, rosKZ ρ2, Nat.zero_le _⟩))
            exact ⟨rfl, rfl, rfl, rfl, rfl, rfl, rfl, rfl, rfl, trivial⟩
          · by_cases hx6 : x % (7 + 1) = 7
            · rw [hx6]
              refine W.block (W.seq (W.seq (W.region (WL.eql rfl rfl rfl (WL.as rfl rfl (WL.nil (W.condF rfl (W.seq (W.region (WL.eql rfl rfl rfl (WL.as rfl rfl (WL.nil (W.condF rfl ?_)))))))))))))
              refine W.seq (W.region (WL.eql rfl rfl rfl (WL.as rfl rfl (WL.nil (W.condF rfl (W.region (WL.eql rfl rfl rfl (WL.as rfl rfl (WL.nil (W.condF rfl (W.seq (W.region (WL.eql rfl rfl rfl ?_)))))))))))))
              refine WL.as rfl rfl (WL.nil (W.condF rfl (W.seq (W.seq (W.region (WL.eql rfl rfl rfl (WL.as rfl rfl (WL.nil (W.condF rfl (W.region (WL.eql rfl rfl rfl (WL.as rfl rfl (WL.nil ?_)))))))))))))
              refine W.condF rfl (W.exit rfl (W.region (WL.mv rfl rfl (WL.addK rfl rfl rfl (wrap_i64 ⟨by omega, by omega⟩) (WL.as rfl rfl (WL.nil ?_))))))
              refine W.fit (Hs' := [box b0 _ _]) (by (repeat' first | exact Sel.nil | apply Sel.k | exact Pick.h | apply Pick.t)) (W.sub ?_ (next ⟨i + 1, c, v⟩ ρ1 (Le.refl _) ⟨by dsimp only; omega, hb, hm, rv⟩ (by dsimp only; omega)))
              exact ⟨rfl, rfl, rfl, rfl, trivial⟩
            · have hsB : ∀ n, StepB x c k M (pinP c k n).1 [] (pinP c k n).2 := fun n => ⟨fun _ => ⟨hb.pin k n, (pin_most c k n).trans hm, (fun x hx => by cases hx), Stay.pin c k n⟩, fun _ h => absurd h hx4⟩
              have hx56 : x % (7 + 1) = 5 ∨ x % (7 + 1) = 6 := by omega
              rcases hx56 with h | h
              all_goals rw [h]
              · refine W.block ?_
                refine W.seq (W.seq (W.region (WL.eql rfl rfl rfl (WL.as rfl rfl (WL.nil (W.condF rfl (W.seq (W.region (WL.eql rfl rfl rfl (WL.as rfl rfl (WL.nil (W.condF rfl (W.seq ?_)))))))))))))
                refine W.region (WL.eql rfl rfl rfl (WL.as rfl rfl (WL.nil (W.condF rfl (W.region (WL.eql rfl rfl rfl (WL.as rfl rfl (WL.nil (W.condF rfl (W.seq (W.region (WL.eql rfl rfl rfl (WL.as rfl rfl ?_)))))))))))))
                refine WL.nil (W.condF rfl (W.seq (W.seq (W.region (WL.eql rfl rfl rfl (WL.as rfl rfl (WL.nil (W.condT rfl (W.skip (W.condT rfl ?_))))))))))
                refine W.drawP 15 [true, false, false, false] rfl (by repeat' constructor) (by repeat' constructor) (fun σ0 hσ0 dσ0 => ?_)
                have fσ0_0 := rb_at 0 rfl hσ0 dσ0
                have fσ0_1 := rb_at 1 rfl hσ0 dσ0
                have fσ0_2 := rb_at 2 rfl hσ0 dσ0
                refine WD.takeL 0 rfl (by decide +kernel) ?_
                refine WL.ldABF (T := Ty) rfl rfl rfl rfl (by first | assumption | exact RB.wide (by assumption) | exact In.rb (by assumption)) rfl (by repeat' constructor) ?_
                refine WL.nilT (WD.takeL 1 rfl (by decide +kernel) ?_)
                refine WL.ldABF (T := Ty) rfl rfl rfl rfl (by first | assumption | exact RB.wide (by assumption) | exact In.rb (by assumption)) rfl (by repeat' constructor) ?_
                refine WL.nilT (WD.takeL 2 rfl (by decide +kernel) (WL.mv rfl rfl (WL.nilT (WD.takeL 3 rfl (by decide +kernel) (WL.mv rfl rfl (WL.nilT (WD.takeL 4 rfl (by decide +kernel) ?_)))))))
                refine WL.ix (T := Ty) rfl rfl rfl (by assumption) rfl rfl (by omega) (by first | omega | decide +kernel) ?_
                refine WL.nilT (WD.takeL 5 rfl (by decide +kernel) ?_)
                refine WL.ldKn (T := Ty) rfl rfl rfl rfl (by first | assumption | exact ROs.wide (by assumption)) (by assumption) ?_
                refine WL.nilT (WD.takeL 6 rfl (by decide +kernel) (WL.shrS (c := 256) rfl rfl rfl (by omega) (by decide) (WL.nilT (WD.takeL 7 rfl (by decide +kernel) (WL.andI rfl rfl rfl (by decide) (WL.nilT (WD.takeL 8 rfl (by decide +kernel) (WL.mulK rfl rfl rfl (wrap_i64 ⟨by omega, by omega⟩) (WL.nilT (WD.takeL 9 rfl (by decide +kernel) (WL.subK rfl rfl rfl (wrap_i64 ⟨by omega, by omega⟩) (WL.nilT (WD.oneL 10 rfl (by decide +kernel) ?_)))))))))))))
                refine WL.callF rfl rfl (fun x p d => pin_c _ _ _ _ _ (by assumption) (by first | assumption | exact ROs.wide (by assumption) | exact ROs.mono (by assumption) (eqh_at 0 rfl p d) | exact ros_at 0 rfl p d | exact ros_at 1 rfl p d | exact ros_at 2 rfl p d | exact ros_at 3 rfl p d | exact ros_at 4 rfl p d)) (fun r4 => ?_)
                refine WL.opens (α := Value) (φ := fun v => r4 = .tuple #[.agg #[.int .i64 _, .int .i64 _, v, .int .i64 _, .int .i64 _, .int .i64 _], .bool _] ∧ SL v _) (ps := fun v => [Buf 7 v _]) 0 rfl (fun h q => q) (by repeat' constructor) ?_
                rintro u4 ⟨es4, su4⟩
                subst es4
                dsimp only [List.cons_append, List.nil_append] at su4 ⊢
                refine WL.nilH hσ0 (fun σ1 hσ1 dσ1 mσ1 => ?_)
                have fσ0_0 := fσ0_0.mono mσ1
                have fσ0_1 := fσ0_1.mono mσ1
                have fσ0_2 := fσ0_2.mono mσ1
                have fσ1_0 := ros_at 0 rfl hσ1 dσ1
                refine WD.takeL 11 rfl (by decide +kernel) (WL.mv rfl rfl (WL.nilT (WD.takeL 12 rfl (by decide +kernel) (WL.extL rfl rfl rfl (WL.nilT (WD.takeL 13 rfl (by decide +kernel) (WL.extL rfl rfl rfl (WL.nilT (WD.oneL 14 rfl (by decide +kernel) ?_)))))))))
                refine WL.stAO (T := Ty) (j := 1) rfl rfl rfl rfl (by repeat' first | exact AO.nil | apply AO.cons (by first | rfl | exact SL.one (by assumption))) rfl rfl (by repeat' constructor) (by repeat' constructor) ?_
                refine WL.nilE ?_
                refine WD.lastG hσ1 (by decide +kernel) (by repeat' constructor) rfl (by repeat' constructor) ?_
                refine WL.as rfl rfl (WL.nil (W.inBlock ?_))
                refine W.freeze 0 rfl (by repeat' constructor) (fun ρ2 le2 in2 => ?_)
                refine W.fit (Hs' := [box b0 _ _, box b1 _ _, box b2 _ _, box b3 _ _]) (by (repeat' first | exact Sel.nil | apply Sel.k | exact Pick.h | apply Pick.t)) (W.sub ?_ (cut0 ⟨_, _, _, _, _⟩ ρ2 le2 ⟨hsB _, in2.ros, rosKZ ρ2, Nat.zero_le _⟩))
                exact ⟨rfl, rfl, rfl, rfl, rfl, rfl, rfl, rfl, rfl, trivial⟩
              · refine W.block ?_
                refine W.seq (W.seq (W.region (WL.eql rfl rfl rfl (WL.as rfl rfl (WL.nil (W.condF rfl (W.seq (W.region (WL.eql rfl rfl rfl (WL.as rfl rfl (WL.nil (W.condF rfl (W.seq ?_)))))))))))))
                refine W.region (WL.eql rfl rfl rfl (WL.as rfl rfl (WL.nil (W.condF rfl (W.region (WL.eql rfl rfl rfl (WL.as rfl rfl (WL.nil (W.condF rfl (W.seq (W.region (WL.eql rfl rfl rfl (WL.as rfl rfl ?_)))))))))))))
                refine WL.nil (W.condF rfl (W.seq (W.seq (W.region (WL.eql rfl rfl rfl (WL.as rfl rfl (WL.nil (W.condF rfl (W.region (WL.eql rfl rfl rfl (WL.as rfl rfl (WL.nil (W.condT rfl ?_)))))))))))))
                refine W.drawP 15 [true, false, false, false] rfl (by repeat' constructor) (by repeat' constructor) (fun σ0 hσ0 dσ0 => ?_)
                have fσ0_0 := rb_at 0 rfl hσ0 dσ0
                have fσ0_1 := rb_at 1 rfl hσ0 dσ0
                have fσ0_2 := rb_at 2 rfl hσ0 dσ0
                refine WD.takeL 0 rfl (by decide +kernel) ?_
                refine WL.ldABF (T := Ty) rfl rfl rfl rfl (by first | assumption | exact RB.wide (by assumption) | exact In.rb (by assumption)) rfl (by repeat' constructor) ?_
                refine WL.nilT (WD.takeL 1 rfl (by decide +kernel) ?_)
                refine WL.ldABF (T := Ty) rfl rfl rfl rfl (by first | assumption | exact RB.wide (by assumption) | exact In.rb (by assumption)) rfl (by repeat' constructor) ?_
                refine WL.nilT (WD.takeL 2 rfl (by decide +kernel) (WL.mv rfl rfl (WL.nilT (WD.takeL 3 rfl (by decide +kernel) (WL.mv rfl rfl (WL.nilT (WD.takeL 4 rfl (by decide +kernel) ?_)))))))
                refine WL.ix (T := Ty) rfl rfl rfl (by assumption) rfl rfl (by omega) (by first | omega | decide +kernel) ?_
                refine WL.nilT (WD.takeL 5 rfl (by decide +kernel) ?_)
                refine WL.ldKn (T := Ty) rfl rfl rfl rfl (by first | assumption | exact ROs.wide (by assumption)) (by assumption) ?_
                refine WL.nilT (WD.takeL 6 rfl (by decide +kernel) (WL.shrS (c := 256) rfl rfl rfl (by omega) (by decide) (WL.nilT (WD.takeL 7 rfl (by decide +kernel) (WL.andI rfl rfl rfl (by decide) (WL.nilT (WD.takeL 8 rfl (by decide +kernel) (WL.mulK rfl rfl rfl (wrap_i64 ⟨by omega, by omega⟩) (WL.nilT (WD.takeL 9 rfl (by decide +kernel) (WL.subK rfl rfl rfl (wrap_i64 ⟨by omega, by omega⟩) (WL.nilT (WD.oneL 10 rfl (by decide +kernel) ?_)))))))))))))
                refine WL.callF rfl rfl (fun x p d => pin_c _ _ _ _ _ (by assumption) (by first | assumption | exact ROs.wide (by assumption) | exact ROs.mono (by assumption) (eqh_at 0 rfl p d) | exact ros_at 0 rfl p d | exact ros_at 1 rfl p d | exact ros_at 2 rfl p d | exact ros_at 3 rfl p d | exact ros_at 4 rfl p d)) (fun r4 => ?_)
                refine WL.opens (α := Value) (φ := fun v => r4 = .tuple #[.agg #[.int .i64 _, .int .i64 _, v, .int .i64 _, .int .i64 _, .int .i64 _], .bool _] ∧ SL v _) (ps := fun v => [Buf 7 v _]) 0 rfl (fun h q => q) (by repeat' constructor) ?_
                rintro u4 ⟨es4, su4⟩
                subst es4
                dsimp only [List.cons_append, List.nil_append] at su4 ⊢
                refine WL.nilH hσ0 (fun σ1 hσ1 dσ1 mσ1 => ?_)
                have fσ0_0 := fσ0_0.mono mσ1
                have fσ0_1 := fσ0_1.mono mσ1
                have fσ0_2 := fσ0_2.mono mσ1
                have fσ1_0 := ros_at 0 rfl hσ1 dσ1
                refine WD.takeL 11 rfl (by decide +kernel) (WL.mv rfl rfl (WL.nilT (WD.takeL 12 rfl (by decide +kernel) (WL.extL rfl rfl rfl (WL.nilT (WD.takeL 13 rfl (by decide +kernel) (WL.extL rfl rfl rfl (WL.nilT (WD.oneL 14 rfl (by decide +kernel) ?_)))))))))
                refine WL.stAO (T := Ty) (j := 1) rfl rfl rfl rfl (by repeat' first | exact AO.nil | apply AO.cons (by first | rfl | exact SL.one (by assumption))) rfl rfl (by repeat' constructor) (by repeat' constructor) ?_
                refine WL.nilE ?_
                refine WD.lastG hσ1 (by decide +kernel) (by repeat' constructor) rfl (by repeat' constructor) ?_
                refine WL.as rfl rfl (WL.nil (W.inBlock ?_))
                refine W.freeze 0 rfl (by repeat' constructor) (fun ρ2 le2 in2 => ?_)
                refine W.fit (Hs' := [box b0 _ _, box b1 _ _, box b2 _ _, box b3 _ _]) (by (repeat' first | exact Sel.nil | apply Sel.k | exact Pick.h | apply Pick.t)) (W.sub ?_ (cut0 ⟨_, _, _, _, _⟩ ρ2 le2 ⟨hsB _, in2.ros, rosKZ ρ2, Nat.zero_le _⟩))
                exact ⟨rfl, rfl, rfl, rfl, rfl, rfl, rfl, rfl, rfl, trivial⟩
    · refine W.seq ?_
      refine W.seq (W.region (WL.mv rfl rfl (WL.mv rfl rfl ?_)))
      refine WL.len (T := Ty) rfl rfl (by assumption) rfl ?_
      refine WL.lss rfl rfl rfl (WL.mv rfl rfl (WL.gT rfl rfl (by omega) (WL.mv rfl rfl (WL.gT rfl rfl (by omega) (WL.lss rfl rfl rfl (WL.pickTp rfl rfl (by omega) rfl (WL.nil (W.condpF rfl (by omega) (W.exit rfl (W.seq (W.region ?_)))))))))))
      refine WL.callV rfl rfl (fun x p d => awake15_c _) ?_
      refine WL.as rfl rfl (WL.nil ?_)
      exact W.fit (Hs' := []) (by (repeat' first | exact Sel.nil | apply Sel.k | exact Pick.h | apply Pick.t)) (W.ret1 rfl rfl (fun h q => rfl))
  · refine W.seq ?_
    refine W.seq (W.region (WL.mv rfl rfl (WL.mv rfl rfl ?_)))
    refine WL.len (T := Ty) rfl rfl (by assumption) rfl ?_
    refine WL.lss rfl rfl rfl (WL.mv rfl rfl (WL.gdTn rfl rfl rfl rfl rfl (by omega) (WL.gdTn rfl rfl rfl rfl rfl (by omega) (WL.pickFp rfl rfl (by omega) rfl (WL.nil (W.condF rfl (W.exit rfl (W.seq (W.region ?_)))))))))
    refine WL.callV rfl rfl (fun x p d => awake15_c _) ?_
    refine WL.as rfl rfl (WL.nil ?_)
    exact W.fit (Hs' := []) (by (repeat' first | exact Sel.nil | apply Sel.k | exact Pick.h | apply Pick.t)) (W.ret1 rfl rfl (fun h q => rfl))
end Go.Proofs.Ytbebhmdjnneimaa
