/- ClokOwn. -/
import Derived.Test.YtbebhmdjnneimaaStc
import Derived.Test.YtbebhmdjnneimaaNum
import Derived.Test.YtbebhmdjnneimaaTab
import Derived.Test.YtbebhmdjnneimaaClkAw
import Derived.Test.YtbebhmdjnneimaaClkW
import Derived.Test.YtbebhmdjnneimaaOwn
set_option linter.unusedSimpArgs false
set_option linter.unusedVariables false
set_option maxRecDepth 20000
set_option maxHeartbeats 4000000
namespace Go.Proofs.Ytbebhmdjnneimaa
open Go
theorem sameC_reflO (c : Clk) : sameC c c = true := by unfold sameC samePs; simp
theorem flat_sameO {α : Type} {f : α → List Value} {L : List α} {i : Nat} {a b : α} (h : L[i]? = some a) (e : f b = f a) : (L.set i b).flatMap f = L.flatMap f := by
 rw [List.flatMap_def, List.flatMap_def, List.map_set, e]
 congr 1
 apply List.ext_getElem?
 intro j
 rw [List.getElem?_set]
 split
 ·rename_i hij
  subst hij
  have hi := (List.getElem?_eq_some_iff.1 h).1
  rw [if_pos (by rw [List.length_map]; exact hi), List.getElem?_map, h]
  rfl
 ·rfl
def owPg (p : Clk × Value) : HP := Buf 7 p.2 (p.1.pages.flatMap pgC)
def ckR (p : Clk × Value) : List Value := [.int .i64 p.1.most, .int .i64 p.1.target, p.2, .int .i64 (p.1.hot : Int), .int .i64 (p.1.cold : Int), .int .i64 (p.1.test : Int)]
theorem own4 {a b c d : Clk × Value} (h : Hp) (q : sepl [Buf 7 a.2 (a.1.pages.flatMap pgC), Buf 7 b.2 (b.1.pages.flatMap pgC), Buf 7 c.2 (c.1.pages.flatMap pgC), Buf 7 d.2 (d.1.pages.flatMap pgC)] h) : Own owPg [a, b, c, d] h := q
attribute [local irreducible] W WL Fn Buf ROs SL eptr box Rd Src bndOK WD RB Reads In Own admitP pinP touchP dropP fndK sameC newP keyP stepP clockP
theorem ClokOwn_fn (ρ : Hp) (a0 : Int) (w0 : (Lit.int .i64 a0).wf = true) (v1 : Value) (z1 : List Int) (r1 : ROs ρ 1 v1 (z1.map (Value.int .i64))) (m1 : ∀ n ∈ z1, (Lit.int .i64 n).wf = true) (y1 : z1.length * 8 ≤ 140737488351232) (a2 : Int) (w2 : (Lit.int .i64 a2).wf = true) :
    Fn Try.prog 13 #[.int .i64 a0, v1, .int .i64 a2] ρ [] (fun r _ => r = .bool true) := by
  have hcb := clock_B a0 (z1.take 80)
  refine in13 rfl rfl ?_
  generalize hcc : clockP a0 (z1.take 80) = c at hcb
  refine W.seq (W.region (WL.as rfl rfl (WL.nil (W.seq (W.region (WL.mv rfl rfl (WL.mv rfl rfl ?_)))))))
  refine WL.callF rfl rfl (fun x p d => clock15_c _ _ _ _ (by first | assumption | exact ROs.wide (by assumption) | exact ROs.mono (by assumption) (eqh_at 0 rfl p d) | exact ros_at 0 rfl p d | exact ros_at 1 rfl p d | exact ros_at 2 rfl p d | exact ros_at 3 rfl p d | exact ros_at 4 rfl p d) (by assumption)) (fun r0 => ?_)
  refine WL.opens (α := Value) (φ := fun v => r0 = .agg #[.int .i64 _, .int .i64 _, v, .int .i64 _, .int .i64 _, .int .i64 _] ∧ SL v _) (ps := fun v => [Buf 7 v _]) 0 rfl (fun h q => q) (by repeat' constructor) ?_
  rintro u0 ⟨es0, su0⟩
  subst es0
  dsimp only [List.cons_append, List.nil_append] at su0 ⊢
  refine WL.mv rfl rfl (WL.mv rfl rfl ?_)
  refine WL.callF rfl rfl (fun x p d => clock15_c _ _ _ _ (by first | assumption | exact ROs.wide (by assumption) | exact ROs.mono (by assumption) (eqh_at 0 rfl p d) | exact ros_at 0 rfl p d | exact ros_at 1 rfl p d | exact ros_at 2 rfl p d | exact ros_at 3 rfl p d | exact ros_at 4 rfl p d) (by assumption)) (fun r1 => ?_)
  refine WL.opens (α := Value) (φ := fun v => r1 = .agg #[.int .i64 _, .int .i64 _, v, .int .i64 _, .int .i64 _, .int .i64 _] ∧ SL v _) (ps := fun v => [Buf 7 v _]) 0 rfl (fun h q => q) (by repeat' constructor) ?_
  rintro u1 ⟨es1, su1⟩
  subst es1
  dsimp only [List.cons_append, List.nil_append] at su1 ⊢
  refine WL.alF (T := Ty) rfl rfl (by repeat' constructor) (fun b2 => ?_)
  refine WL.alF (T := Ty) rfl rfl (by repeat' constructor) (fun b3 => ?_)
  refine WL.stAO (T := Ty) (j := 1) rfl rfl rfl rfl (by repeat' first | exact AO.nil | apply AO.cons (by first | rfl | exact SL.one (by assumption))) rfl rfl (by repeat' constructor) (by repeat' constructor) ?_
  refine WL.stAO (T := Ty) (j := 0) rfl rfl rfl rfl (by repeat' first | exact AO.nil | apply AO.cons (by first | rfl | exact SL.one (by assumption))) rfl rfl (by repeat' constructor) (by repeat' constructor) ?_
  refine WL.nil (W.seq ?_)
  refine W.freeze 2 rfl (by repeat' constructor) (fun ρ1 le1 in1 => ?_)
  refine W.freeze 2 rfl (by repeat' constructor) (fun ρ2 le2 in2 => ?_)
  have rw' := (in1.mono le2).ros
  have rc := in2.ros
  clear in1 in2 r1
  rw [hcc] at su0 su1 rc rw' ⊢
  have hB := hcb.B
  have hR := hcb.R
  have hlen := hcb.len
  have l1 := pgs_cells c.pages
  have hl4 : c.pages.length ≤ 10000 := by omega
  have hn6 : (1000000 : Nat) ≤ 1000000 := Nat.le_refl _
  obtain ⟨⟨da, outa, oka⟩, hd⟩ := admit_ex (keyP a2) hcb.I
  have hA := hcb.admits (by decide) hd
  refine W.cutG (τ := Nat × Value) (fun s => [(2, .int .i64 a2), (7, pt b2 0), (8, pt b3 0), (9, pt s.1 0)]) (fun s => [Buf 7 s.2 (da.pages.flatMap pgC), box s.1 [.int .i64 da.most, .int .i64 da.target, s.2, .int .i64 (da.hot : Int), .int .i64 (da.cold : Int), .int .i64 (da.test : Int)] 73, box b3 [.int .i64 c.most, .int .i64 c.target, u1, .int .i64 (c.hot : Int), .int .i64 (c.cold : Int), .int .i64 (c.test : Int)] 73, box b2 [.int .i64 c.most, .int .i64 c.target, u0, .int .i64 (c.hot : Int), .int .i64 (c.cold : Int), .int .i64 (c.test : Int)] 73]) (fun s ρ' => SL s.2 da.pages.length) ?_ (fun cutA => ?_)
  · rintro ⟨bA, uA⟩ ρA leA sA
    dsimp only at sA ⊢
    replace rc := rc.mono leA
    replace rw' := rw'.mono leA
    refine W.seq ?_
    refine W.cutG (τ := Nat × Value) (fun s => [(2, .int .i64 a2), (7, pt b2 0), (8, pt b3 0), (9, pt bA 0), (12, pt s.1 0)]) (fun s => [Buf 7 s.2 ((touchP c (keyP a2)).1.pages.flatMap pgC), box s.1 [.int .i64 (touchP c (keyP a2)).1.most, .int .i64 (touchP c (keyP a2)).1.target, s.2, .int .i64 ((touchP c (keyP a2)).1.hot : Int), .int .i64 ((touchP c (keyP a2)).1.cold : Int), .int .i64 ((touchP c (keyP a2)).1.test : Int)] 73, Buf 7 uA (da.pages.flatMap pgC), box bA [.int .i64 da.most, .int .i64 da.target, uA, .int .i64 (da.hot : Int), .int .i64 (da.cold : Int), .int .i64 (da.test : Int)] 73, box b3 [.int .i64 c.most, .int .i64 c.target, u1, .int .i64 (c.hot : Int), .int .i64 (c.cold : Int), .int .i64 (c.test : Int)] 73, box b2 [.int .i64 c.most, .int .i64 c.target, u0, .int .i64 (c.hot : Int), .int .i64 (c.cold : Int), .int .i64 (c.test : Int)] 73]) (fun s ρ' => SL s.2 (touchP c (keyP a2)).1.pages.length) ?_ (fun cutB => ?_)
    · rintro ⟨bB, uB⟩ ρB leB sB
      dsimp only at sB ⊢
      replace rc := rc.mono leB
      replace rw' := rw'.mono leB
      refine W.seq ?_
      refine W.cutG (τ := Nat × Value) (fun s => [(2, .int .i64 a2), (7, pt b2 0), (8, pt b3 0), (9, pt bA 0), (12, pt bB 0), (14, pt s.1 0)]) (fun s => [Buf 7 s.2 ((pinP c (keyP a2) 3).1.pages.flatMap pgC), box s.1 [.int .i64 (pinP c (keyP a2) 3).1.most, .int .i64 (pinP c (keyP a2) 3).1.target, s.2, .int .i64 ((pinP c (keyP a2) 3).1.hot : Int), .int .i64 ((pinP c (keyP a2) 3).1.cold : Int), .int .i64 ((pinP c (keyP a2) 3).1.test : Int)] 73, Buf 7 uB ((touchP c (keyP a2)).1.pages.flatMap pgC), box bB [.int .i64 (touchP c (keyP a2)).1.most, .int .i64 (touchP c (keyP a2)).1.target, uB, .int .i64 ((touchP c (keyP a2)).1.hot : Int), .int .i64 ((touchP c (keyP a2)).1.cold : Int), .int .i64 ((touchP c (keyP a2)).1.test : Int)] 73, Buf 7 uA (da.pages.flatMap pgC), box bA [.int .i64 da.most, .int .i64 da.target, uA, .int .i64 (da.hot : Int), .int .i64 (da.cold : Int), .int .i64 (da.test : Int)] 73, box b3 [.int .i64 c.most, .int .i64 c.target, u1, .int .i64 (c.hot : Int), .int .i64 (c.cold : Int), .int .i64 (c.test : Int)] 73, box b2 [.int .i64 c.most, .int .i64 c.target, u0, .int .i64 (c.hot : Int), .int .i64 (c.cold : Int), .int .i64 (c.test : Int)] 73]) (fun s ρ' => SL s.2 (pinP c (keyP a2) 3).1.pages.length) ?_ (fun cutC => ?_)
      · rintro ⟨bC, uC⟩ ρC leC sC
        dsimp only at sC ⊢
        replace rc := rc.mono leC
        replace rw' := rw'.mono leC
        refine W.seq ?_
        refine W.cutG (τ := Nat × Value) (fun s => [(2, .int .i64 a2), (7, pt b2 0), (8, pt b3 0), (9, pt bA 0), (12, pt bB 0), (14, pt bC 0), (16, pt s.1 0)]) (fun s => [Buf 7 s.2 ((dropP c (keyP a2)).1.pages.flatMap pgC), box s.1 [.int .i64 (dropP c (keyP a2)).1.most, .int .i64 (dropP c (keyP a2)).1.target, s.2, .int .i64 ((dropP c (keyP a2)).1.hot : Int), .int .i64 ((dropP c (keyP a2)).1.cold : Int), .int .i64 ((dropP c (keyP a2)).1.test : Int)] 73, Buf 7 uC ((pinP c (keyP a2) 3).1.pages.flatMap pgC), box bC [.int .i64 (pinP c (keyP a2) 3).1.most, .int .i64 (pinP c (keyP a2) 3).1.target, uC, .int .i64 ((pinP c (keyP a2) 3).1.hot : Int), .int .i64 ((pinP c (keyP a2) 3).1.cold : Int), .int .i64 ((pinP c (keyP a2) 3).1.test : Int)] 73, Buf 7 uB ((touchP c (keyP a2)).1.pages.flatMap pgC), box bB [.int .i64 (touchP c (keyP a2)).1.most, .int .i64 (touchP c (keyP a2)).1.target, uB, .int .i64 ((touchP c (keyP a2)).1.hot : Int), .int .i64 ((touchP c (keyP a2)).1.cold : Int), .int .i64 ((touchP c (keyP a2)).1.test : Int)] 73, Buf 7 uA (da.pages.flatMap pgC), box bA [.int .i64 da.most, .int .i64 da.target, uA, .int .i64 (da.hot : Int), .int .i64 (da.cold : Int), .int .i64 (da.test : Int)] 73, box b3 [.int .i64 c.most, .int .i64 c.target, u1, .int .i64 (c.hot : Int), .int .i64 (c.cold : Int), .int .i64 (c.test : Int)] 73, box b2 [.int .i64 c.most, .int .i64 c.target, u0, .int .i64 (c.hot : Int), .int .i64 (c.cold : Int), .int .i64 (c.test : Int)] 73]) (fun s ρ' => SL s.2 (dropP c (keyP a2)).1.pages.length) ?_ (fun cutD => ?_)
        · rintro ⟨bD, uD⟩ ρD leD sD
          dsimp only at sD ⊢
          replace rc := rc.mono leD
          replace rw' := rw'.mono leD
          have hbb := hcb.touch (keyP a2)
          have hbc := hcb.pin (keyP a2) 3
          have hbd := hcb.drop (keyP a2)
          generalize (touchP c (keyP a2)).1 = db at sB hbb ⊢
          generalize (pinP c (keyP a2) 3).1 = dc at sC hbc ⊢
          generalize (dropP c (keyP a2)).1 = dd at sD hbd ⊢
          have hba := hA.b
          dsimp only at hba
          refine W.group (p := Own owPg [(da, uA), (db, uB), (dc, uC), (dd, uD)]) (Take.cons 6 rfl (Take.cons 4 rfl (Take.cons 2 rfl (Take.cons 0 rfl Take.nil)))) (own4 (a := (da, uA)) (b := (db, uB)) (c := (dc, uC)) (d := (dd, uD))) (by repeat' constructor) ?_
          refine W.seq (W.seq (W.region ?_))
          refine WL.ldAF (T := Ty) (j := 4) rfl rfl rfl rfl rfl rfl (by repeat' constructor) ?_
          refine WL.ldAF (T := Ty) (j := 3) rfl rfl rfl rfl rfl rfl (by repeat' constructor) ?_
          refine WL.ldAF (T := Ty) (j := 2) rfl rfl rfl rfl rfl rfl (by repeat' constructor) ?_
          refine WL.ldAF (T := Ty) (j := 1) rfl rfl rfl rfl rfl rfl (by repeat' constructor) ?_
          refine WL.bs4 (T := Ty) (c0 := ckR (da, uA)) (c1 := ckR (db, uB)) (c2 := ckR (dc, uC)) (c3 := ckR (dd, uD)) (out' := ([(da, uA), (db, uB), (dc, uC), (dd, uD)] : List (Clk × Value)).flatMap ckR) rfl rfl rfl rfl rfl rfl rfl rfl rfl rfl rfl rfl rfl (FL.rfl _) (fun u hu => ?_)
          have hK1 : ([(da, uA), (db, uB), (dc, uC), (dd, uD)] : List (Clk × Value)).length = 4 := rfl
          have hK2 : ∀ p ∈ ([(da, uA), (db, uB), (dc, uC), (dd, uD)] : List (Clk × Value)), p.1.pages.length ≤ 16 ∧ SL p.2 p.1.pages.length := by
            intro p hp
            simp only [List.mem_cons, List.not_mem_nil, or_false] at hp
            rcases hp with e | e | e | e <;> subst e
            · exact ⟨hba.len, sA⟩
            · exact ⟨hbb.len, sB⟩
            · exact ⟨hbc.len, sC⟩
            · exact ⟨hbd.len, sD⟩
          generalize ([(da, uA), (db, uB), (dc, uC), (dd, uD)] : List (Clk × Value)) = K at hK1 hK2 ⊢
          refine WL.len (T := Ty) rfl rfl (by assumption) rfl ?_
          refine WL.mv rfl rfl (WL.nil (W.block ?_))
          refine W.fit (Hs' := [Buf 6 u _, Own owPg _, box b3 _ _, box b2 _ _]) (by (repeat' first | exact Sel.nil | apply Sel.k | exact Pick.h | apply Pick.t)) ?_
          refine W.loopR (σ := Nat × List (Clk × Value)) (fun s => [(7, pt b2 0), (8, pt b3 0), (60, u), (61, .int .i64 ((4 : Nat) : Int)), (62, .int .i64 (s.1 : Int))])
            (fun s => [Buf 6 u (s.2.flatMap ckR), Own owPg s.2, box b3 [.int .i64 c.most, .int .i64 c.target, u1, .int .i64 (c.hot : Int), .int .i64 (c.cold : Int), .int .i64 (c.test : Int)] 73, box b2 [.int .i64 c.most, .int .i64 c.target, u0, .int .i64 (c.hot : Int), .int .i64 (c.cold : Int), .int .i64 (c.test : Int)] 73]) (fun s ρ' => s.1 ≤ 4 ∧ s.2.length = 4 ∧ ∀ p ∈ s.2, p.1.pages.length ≤ 16 ∧ SL p.2 p.1.pages.length) (fun s => 4 - s.1)
            (0, K) ⟨rfl, rfl, rfl, rfl, rfl, trivial⟩ rfl ⟨Nat.zero_le _, hK1, hK2⟩ ?_
          clear hK1 hK2 K
          rintro ⟨j, K⟩ ρ3 le3 ⟨hj, hK1, hK2⟩ next
          dsimp only at hj hK1 hK2 next ⊢
          replace rc := rc.mono le3
          replace rw' := rw'.mono le3
          have l3 : (K.flatMap ckR).length = K.length * 6 := flat_len (k := 6) (f := ckR) (fun _ => rfl) K
          by_cases hc : j < 4
          · obtain ⟨⟨x, xv⟩, hx⟩ : ∃ p, K[j]? = some p := ⟨_, List.getElem?_eq_getElem (by omega)⟩
            obtain ⟨hxl, hxs⟩ := hK2 _ (List.mem_of_getElem? hx)
            dsimp only at hxl hxs
            have hrow : ((K.flatMap ckR).drop (((j : Nat) : Int).toNat * 6)).take 6 = ckR (x, xv) := flat_row (k := 6) (f := ckR) (fun _ => rfl) hx
            unfold ckR at hrow
            dsimp only at hrow
            refine W.parts (ps := [Buf 7 xv (x.pages.flatMap pgC), Own owPg (K.eraseIdx j)]) 1 rfl (fun h q => own_out (f := owPg) hx q) (by repeat' constructor) ?_
            refine W.seq (W.region (WL.lss rfl rfl rfl (WL.nil (W.seq (W.condpT rfl (by omega) (W.skip (W.seq (W.block (W.seq (W.region ?_))))))))))
            refine WL.ix (T := Ty) rfl rfl rfl (by assumption) rfl rfl (by omega) (by first | omega | decide +kernel) ?_
            refine WL.ldAE (T := Ty) (j := 2) rfl rfl rfl rfl rfl (by assumption) rfl ?_
            refine WL.alF (T := Ty) rfl rfl (by repeat' constructor) (fun b4 => ?_)
            refine WL.stAO (T := Ty) (j := 0) rfl rfl rfl rfl (by repeat' first | exact AO.nil | apply AO.cons (by first | rfl | exact SL.one (by assumption))) rfl rfl (by repeat' constructor) (by repeat' constructor) ?_
            refine WL.nil (W.seq (W.region (WL.faN (T := Ty) (off' := 2) rfl rfl rfl rfl rfl rfl rfl (WL.ldN (T := Ty) (j := 0) rfl rfl rfl rfl rfl rfl ?_))))
            refine WL.len (T := Ty) rfl rfl (by assumption) rfl ?_
            refine WL.mv rfl rfl (WL.nil (W.block ?_))
            refine W.loopR (σ := Nat × List Pg) (fun s => [(7, pt b2 0), (8, pt b3 0), (60, u), (61, .int .i64 ((4 : Nat) : Int)), (62, .int .i64 (j : Int)), (19, pt b4 0), (68, .int .i64 (x.pages.length : Int)), (69, .int .i64 (s.1 : Int))])
              (fun s => [box b4 [.int .i64 x.most, .int .i64 x.target, xv, .int .i64 (x.hot : Int), .int .i64 (x.cold : Int), .int .i64 (x.test : Int)] 73, Buf 7 xv (s.2.flatMap pgC), Own owPg (K.eraseIdx j), Buf 6 u (K.flatMap ckR), box b3 [.int .i64 c.most, .int .i64 c.target, u1, .int .i64 (c.hot : Int), .int .i64 (c.cold : Int), .int .i64 (c.test : Int)] 73, box b2 [.int .i64 c.most, .int .i64 c.target, u0, .int .i64 (c.hot : Int), .int .i64 (c.cold : Int), .int .i64 (c.test : Int)] 73]) (fun s ρ' => s.1 ≤ x.pages.length ∧ s.2.length = x.pages.length) (fun s => x.pages.length - s.1)
              (0, x.pages) ⟨rfl, rfl, rfl, rfl, rfl, rfl, rfl, rfl, trivial⟩ rfl ⟨Nat.zero_le _, rfl⟩ ?_
            rintro ⟨i, L⟩ ρ4 le4 ⟨hi, hL⟩ next2
            dsimp only at hi hL next2 ⊢
            replace rc := rc.mono le4
            replace rw' := rw'.mono le4
            have l4 := pgs_cells L
            by_cases hc2 : i < x.pages.length
            · obtain ⟨q, hq⟩ : ∃ q, L[i]? = some q := ⟨_, List.getElem?_eq_getElem (by omega)⟩
              have hql := (List.getElem?_eq_some_iff.1 hq).1
              rw [← hL] at hxs
              have hset0 : (L.flatMap pgC).set (((i : Nat) : Int).toNat * 7 + 6) (.int .i64 77) = (L.set i { q with pins := 77 }).flatMap pgC := flat_set (j := 6) pg_len hq (by decide) rfl
              have hq2 : (L.set i { q with pins := 77 })[i]? = some { q with pins := 77 } := List.getElem?_set_self hql
              have g4 : ((L.set i { q with pins := 77 }).flatMap pgC)[((i : Nat) : Int).toNat * 7 + 4]? = some (.bool q.ref) := flat_get pg_len hq2 rfl
              have hset1 : ((L.set i { q with pins := 77 }).flatMap pgC).set (((i : Nat) : Int).toNat * 7 + 4) (.bool (!q.ref)) = (L.set i { q with pins := 77, ref := !q.ref }).flatMap pgC := by
                have := flat_set (j := 4) (b := { q with pins := 77, ref := !q.ref }) (v := .bool (!q.ref)) pg_len hq2 (by decide) rfl
                rw [List.set_set] at this
                exact this
              have l5 := pgs_cells (L.set i { q with pins := 77 })
              rw [List.length_set] at l5
              refine W.seq (W.region (WL.lss rfl rfl rfl (WL.nil (W.seq (W.condpT rfl (by omega) (W.skip (W.seq (W.block (W.seq (W.region (WL.mv rfl rfl (WL.as rfl rfl (WL.nil ?_)))))))))))))
              refine W.seq (W.region (WL.faN (T := Ty) (off' := 2) rfl rfl rfl rfl rfl rfl rfl (WL.ldN (T := Ty) (j := 0) rfl rfl rfl rfl rfl rfl (WL.mv rfl rfl ?_))))
              refine WL.ix (T := Ty) rfl rfl rfl (by assumption) rfl rfl (by omega) (by first | omega | decide +kernel) ?_
              refine WL.faEN (T := Ty) (off' := 6) rfl rfl rfl rfl rfl rfl rfl ?_
              refine WL.stEF (T := Ty) (j := 1) rfl rfl rfl rfl rfl rfl (by first | assumption | omega | (simp only [List.length_set]; omega) | (simp; omega)) rfl (by repeat' constructor) ?_
              refine WL.nil ?_
              rw [hset0]
              refine W.drawA 10 rfl (fun σ0 hσ0 dσ0 => ?_)
              have fσ0_0 := rb_at 0 rfl hσ0 dσ0
              have fσ0_1 := ros_at 1 rfl hσ0 dσ0
              have fσ0_2 := in_at 2 rfl hσ0 dσ0
              have fσ0_3 := ros_at 3 rfl hσ0 dσ0
              have fσ0_4 := rb_at 4 rfl hσ0 dσ0
              have fσ0_5 := rb_at 5 rfl hσ0 dσ0
              refine WD.takeL 0 rfl (by decide +kernel) (WL.faN (T := Ty) (off' := 2) rfl rfl rfl rfl rfl rfl rfl (WL.nilT (WD.takeL 1 rfl (by decide +kernel) ?_)))
              refine WL.ldBN (T := Ty) rfl rfl rfl rfl (by first | assumption | exact RB.wide (by assumption) | exact In.rb (by assumption)) rfl ?_
              refine WL.nilT (WD.takeL 2 rfl (by decide +kernel) (WL.mv rfl rfl (WL.nilT (WD.takeL 3 rfl (by decide +kernel) (WL.faN (T := Ty) (off' := 2) rfl rfl rfl rfl rfl rfl rfl (WL.nilT (WD.takeL 4 rfl (by decide +kernel) ?_)))))))
              refine WL.ldBN (T := Ty) rfl rfl rfl rfl (by first | assumption | exact RB.wide (by assumption) | exact In.rb (by assumption)) rfl ?_
              refine WL.nilT (WD.takeL 5 rfl (by decide +kernel) (WL.mv rfl rfl (WL.nilT (WD.takeL 6 rfl (by decide +kernel) ?_))))
              refine WL.ix (T := Ty) rfl rfl rfl (by assumption) rfl rfl (by omega) (by first | omega | decide +kernel) ?_
              refine WL.nilT (WD.takeL 7 rfl (by decide +kernel) (WL.faEN (T := Ty) (off' := 4) rfl rfl rfl rfl rfl rfl rfl (WL.nilT (WD.takeL 8 rfl (by decide +kernel) ?_))))
              refine WL.ldR (T := Ty) rfl rfl rfl rfl (by first | assumption | exact ROs.wide (by assumption)) (by assumption) ?_
              refine WL.nilT (WD.takeL 9 rfl (by decide +kernel) (WL.not rfl rfl (WL.nilT ?_)))
              refine WD.lastG hσ0 (by decide +kernel) (by repeat' constructor) rfl (by repeat' constructor) ?_
              refine WL.ix (T := Ty) rfl rfl rfl (by assumption) rfl rfl (by omega) (by first | omega | decide +kernel) ?_
              refine WL.faEN (T := Ty) (off' := 4) rfl rfl rfl rfl rfl rfl rfl ?_
              refine WL.stEF (T := Ty) (j := 1) rfl rfl rfl rfl rfl rfl (by first | assumption | omega | (simp only [List.length_set]; omega) | (simp; omega)) rfl (by repeat' constructor) ?_
              refine WL.nil (W.inBlock (W.region (WL.addK rfl rfl rfl (wrap_i64 ⟨by omega, by omega⟩) (WL.mv rfl rfl (WL.nil ?_)))))
              rw [hset1]
              refine W.fit (Hs' := [box b4 _ _, Buf 7 xv _, Own owPg _, Buf 6 u _, box b3 _ _, box b2 _ _]) (by (repeat' first | exact Sel.nil | apply Sel.k | exact Pick.h | apply Pick.t)) (W.sub ?_ (next2 ⟨i + 1, L.set i { q with pins := 77, ref := !q.ref }⟩ ρ4 (Le.refl _) ⟨hc2, by dsimp only; rw [List.length_set]; exact hL⟩ (by dsimp only; omega)))
              exact ⟨rfl, rfl, rfl, rfl, rfl, rfl, rfl, rfl, trivial⟩
            · refine W.seq ?_
              refine W.region (WL.lss rfl rfl rfl (WL.nil (W.seq (W.condpF rfl (by omega) (W.exit rfl (W.inBlock (W.region (WL.addK rfl rfl rfl (wrap_i64 ⟨by omega, by omega⟩) (WL.mv rfl rfl (WL.nil ?_))))))))))
              refine W.fit (Hs' := [Buf 7 xv _, Own owPg _, Buf 6 u _, box b3 _ _, box b2 _ _]) (by (repeat' first | exact Sel.nil | apply Sel.k | exact Pick.h | apply Pick.t)) ?_
              rw [← flat_sameO (f := ckR) (b := ({ x with pages := L }, xv)) hx rfl]
              refine W.two (r := Own owPg (K.set j ({ x with pages := L }, xv))) _ _ rfl (fun h q => own_in (f := owPg) (a := ({ x with pages := L }, xv)) hx q) ?_
              refine W.fit (Hs' := [Buf 6 u _, Own owPg _, box b3 _ _, box b2 _ _]) (by (repeat' first | exact Sel.nil | apply Sel.k | exact Pick.h | apply Pick.t)) (W.sub ?_ (next ⟨j + 1, K.set j ({ x with pages := L }, xv)⟩ ρ4 le4 ⟨hc, by dsimp only; rw [List.length_set]; exact hK1, ?_⟩ (by dsimp only; omega)))
              · exact ⟨rfl, rfl, rfl, rfl, rfl, trivial⟩
              · intro p hp
                rcases List.mem_or_eq_of_mem_set hp with hp | hp
                · exact hK2 p hp
                · subst hp
                  exact ⟨by dsimp only; omega, by dsimp only; rw [hL]; exact hxs⟩
          · have hz := sameC_reflO c
            refine W.seq (W.region (WL.lss rfl rfl rfl (WL.nil (W.seq (W.condpF rfl (by omega) (W.exit rfl (W.seq (W.region ?_))))))))
            refine WL.ldAF (T := Ty) (j := 3) rfl rfl rfl rfl rfl rfl (by repeat' constructor) ?_
            refine WL.ldAF (T := Ty) (j := 2) rfl rfl rfl rfl rfl rfl (by repeat' constructor) ?_
            refine WL.callV rfl rfl (fun x p d => samer15_e _ _ _ _ _ _ (by first | assumption | omega) (by first | assumption | omega) (by first | assumption | exact ROs.wide (by assumption) | exact ROs.mono (by assumption) (eqh_at 0 rfl p d) | exact ros_at 0 rfl p d | exact ros_at 1 rfl p d | exact ros_at 2 rfl p d | exact ros_at 3 rfl p d | exact ros_at 4 rfl p d) (by first | assumption | exact ROs.wide (by assumption) | exact ROs.mono (by assumption) (eqh_at 0 rfl p d) | exact ros_at 0 rfl p d | exact ros_at 1 rfl p d | exact ros_at 2 rfl p d | exact ros_at 3 rfl p d | exact ros_at 4 rfl p d) (by assumption)) ?_
            refine WL.mv rfl rfl (WL.gY rfl rfl ?_)
            refine WL.callV rfl rfl (fun x p d => awake15_c _) ?_
            refine WL.pickT rfl rfl rfl (WL.as rfl rfl (WL.nil ?_))
            exact W.fit (Hs' := []) (by (repeat' first | exact Sel.nil | apply Sel.k | exact Pick.h | apply Pick.t)) (W.ret1 rfl rfl (fun h q => rfl))
        · refine W.drawA 9 rfl (fun σ0 hσ0 dσ0 => ?_)
          have fσ0_0 := ros_at 0 rfl hσ0 dσ0
          have fσ0_1 := rb_at 1 rfl hσ0 dσ0
          have fσ0_2 := ros_at 2 rfl hσ0 dσ0
          have fσ0_3 := rb_at 3 rfl hσ0 dσ0
          have fσ0_4 := ros_at 4 rfl hσ0 dσ0
          have fσ0_5 := rb_at 5 rfl hσ0 dσ0
          have fσ0_6 := rb_at 6 rfl hσ0 dσ0
          have fσ0_7 := rb_at 7 rfl hσ0 dσ0
          refine WD.takeL 0 rfl (by decide +kernel) ?_
          refine WL.ldABF (T := Ty) rfl rfl rfl rfl (by first | assumption | exact RB.wide (by assumption) | exact In.rb (by assumption)) rfl (by repeat' constructor) ?_
          refine WL.nilT (WD.takeL 1 rfl (by decide +kernel) (WL.mv rfl rfl (WL.nilT ?_)))
          refine WD.twoL 2 7 rfl rfl (by decide +kernel) ?_ ?_
          · refine WL.callV rfl rfl (fun x p d => key15_c _ _) ?_
            refine WL.nilE ?_
            refine WD.twoL 3 7 rfl rfl (by decide +kernel) ?_ ?_
            · refine WL.callF rfl rfl (fun x p d => drop_c _ _ _ _ (by assumption) (by first | assumption | exact ROs.wide (by assumption) | exact ROs.mono (by assumption) (eqh_at 0 rfl p d) | exact ros_at 0 rfl p d | exact ros_at 1 rfl p d | exact ros_at 2 rfl p d | exact ros_at 3 rfl p d | exact ros_at 4 rfl p d)) (fun r4 => ?_)
              refine WL.opens (α := Value) (φ := fun v => r4 = .tuple #[.agg #[.int .i64 _, .int .i64 _, v, .int .i64 _, .int .i64 _, .int .i64 _], .bool _] ∧ SL v _) (ps := fun v => [Buf 7 v _]) 0 rfl (fun h q => q) (by repeat' constructor) ?_
              rintro u4 ⟨es4, su4⟩
              subst es4
              dsimp only [List.cons_append, List.nil_append] at su4 ⊢
              refine WL.nilH hσ0 (fun σ1 hσ1 dσ1 mσ1 => ?_)
              have fσ0_0 := fσ0_0.mono mσ1
              have fσ0_1 := fσ0_1.mono mσ1
              have fσ0_2 := fσ0_2.mono mσ1
              have fσ0_3 := fσ0_3.mono mσ1
              have fσ0_4 := fσ0_4.mono mσ1
              have fσ0_5 := fσ0_5.mono mσ1
              have fσ0_6 := fσ0_6.mono mσ1
              have fσ0_7 := fσ0_7.mono mσ1
              have fσ1_0 := ros_at 0 rfl hσ1 dσ1
              refine WD.takeL 4 rfl (by decide +kernel) (WL.mv rfl rfl (WL.nilT (WD.takeL 5 rfl (by decide +kernel) (WL.extL rfl rfl rfl (WL.nilT (WD.takeL 6 rfl (by decide +kernel) (WL.extL rfl rfl rfl (WL.nilT (WD.oneL 7 rfl (by decide +kernel) ?_)))))))))
              refine WL.alF (T := Ty) rfl rfl (by repeat' constructor) (fun b5 => ?_)
              refine WL.nilS (WD.oneL 8 rfl (by decide +kernel) ?_)
              refine WL.stAO (T := Ty) (j := 1) rfl rfl rfl rfl (by repeat' first | exact AO.nil | apply AO.cons (by first | rfl | exact SL.one (by assumption))) rfl rfl (by repeat' constructor) (by repeat' constructor) ?_
              refine WL.nilE ?_
              refine WD.lastG hσ1 (by decide +kernel) (by repeat' constructor) rfl (by repeat' constructor) ?_
              refine WL.as rfl rfl (WL.nil ?_)
              first | (refine W.fit (Hs' := [Buf 7 _ ((dropP c (keyP a2)).1.pages.flatMap pgC), box b4 _ _, Buf 7 uC _, box bC _ _, Buf 7 uB _, box bB _ _, Buf 7 uA _, box bA _ _, box b3 _ _, box b2 _ _]) (by (repeat' first | exact Sel.nil | apply Sel.k | exact Pick.h | apply Pick.t)) (W.sub ?_ (cutD ⟨b4, _⟩ _ (Le.refl _) (by assumption)))) | (refine W.fit (Hs' := [Buf 7 _ ((dropP c (keyP a2)).1.pages.flatMap pgC), box b5 _ _, Buf 7 uC _, box bC _ _, Buf 7 uB _, box bB _ _, Buf 7 uA _, box bA _ _, box b3 _ _, box b2 _ _]) (by (repeat' first | exact Sel.nil | apply Sel.k | exact Pick.h | apply Pick.t)) (W.sub ?_ (cutD ⟨b5, _⟩ _ (Le.refl _) (by assumption)))) | (refine W.fit (Hs' := [Buf 7 _ ((dropP c (keyP a2)).1.pages.flatMap pgC), box b6 _ _, Buf 7 uC _, box bC _ _, Buf 7 uB _, box bB _ _, Buf 7 uA _, box bA _ _, box b3 _ _, box b2 _ _]) (by (repeat' first | exact Sel.nil | apply Sel.k | exact Pick.h | apply Pick.t)) (W.sub ?_ (cutD ⟨b6, _⟩ _ (Le.refl _) (by assumption)))) | (refine W.fit (Hs' := [Buf 7 _ ((dropP c (keyP a2)).1.pages.flatMap pgC), box b7 _ _, Buf 7 uC _, box bC _ _, Buf 7 uB _, box bB _ _, Buf 7 uA _, box bA _ _, box b3 _ _, box b2 _ _]) (by (repeat' first | exact Sel.nil | apply Sel.k | exact Pick.h | apply Pick.t)) (W.sub ?_ (cutD ⟨b7, _⟩ _ (Le.refl _) (by assumption)))) | (refine W.fit (Hs' := [Buf 7 _ ((dropP c (keyP a2)).1.pages.flatMap pgC), box b8 _ _, Buf 7 uC _, box bC _ _, Buf 7 uB _, box bB _ _, Buf 7 uA _, box bA _ _, box b3 _ _, box b2 _ _]) (by (repeat' first | exact Sel.nil | apply Sel.k | exact Pick.h | apply Pick.t)) (W.sub ?_ (cutD ⟨b8, _⟩ _ (Le.refl _) (by assumption)))) | (refine W.fit (Hs' := [Buf 7 _ ((dropP c (keyP a2)).1.pages.flatMap pgC), box b9 _ _, Buf 7 uC _, box bC _ _, Buf 7 uB _, box bB _ _, Buf 7 uA _, box bA _ _, box b3 _ _, box b2 _ _]) (by (repeat' first | exact Sel.nil | apply Sel.k | exact Pick.h | apply Pick.t)) (W.sub ?_ (cutD ⟨b9, _⟩ _ (Le.refl _) (by assumption)))) | (refine W.fit (Hs' := [Buf 7 _ ((dropP c (keyP a2)).1.pages.flatMap pgC), box b10 _ _, Buf 7 uC _, box bC _ _, Buf 7 uB _, box bB _ _, Buf 7 uA _, box bA _ _, box b3 _ _, box b2 _ _]) (by (repeat' first | exact Sel.nil | apply Sel.k | exact Pick.h | apply Pick.t)) (W.sub ?_ (cutD ⟨b10, _⟩ _ (Le.refl _) (by assumption)))) | (refine W.fit (Hs' := [Buf 7 _ ((dropP c (keyP a2)).1.pages.flatMap pgC), box b11 _ _, Buf 7 uC _, box bC _ _, Buf 7 uB _, box bB _ _, Buf 7 uA _, box bA _ _, box b3 _ _, box b2 _ _]) (by (repeat' first | exact Sel.nil | apply Sel.k | exact Pick.h | apply Pick.t)) (W.sub ?_ (cutD ⟨b11, _⟩ _ (Le.refl _) (by assumption)))) | (refine W.fit (Hs' := [Buf 7 _ ((dropP c (keyP a2)).1.pages.flatMap pgC), box b12 _ _, Buf 7 uC _, box bC _ _, Buf 7 uB _, box bB _ _, Buf 7 uA _, box bA _ _, box b3 _ _, box b2 _ _]) (by (repeat' first | exact Sel.nil | apply Sel.k | exact Pick.h | apply Pick.t)) (W.sub ?_ (cutD ⟨b12, _⟩ _ (Le.refl _) (by assumption))))
              exact ⟨rfl, rfl, rfl, rfl, rfl, rfl, rfl, trivial⟩
            · refine WL.alF (T := Ty) rfl rfl (by repeat' constructor) (fun b4 => ?_)
              refine WL.nilS (WD.oneL 3 rfl (by decide +kernel) ?_)
              refine WL.callF rfl rfl (fun x p d => drop_c _ _ _ _ (by assumption) (by first | assumption | exact ROs.wide (by assumption) | exact ROs.mono (by assumption) (eqh_at 0 rfl p d) | exact ros_at 0 rfl p d | exact ros_at 1 rfl p d | exact ros_at 2 rfl p d | exact ros_at 3 rfl p d | exact ros_at 4 rfl p d)) (fun r5 => ?_)
              refine WL.opens (α := Value) (φ := fun v => r5 = .tuple #[.agg #[.int .i64 _, .int .i64 _, v, .int .i64 _, .int .i64 _, .int .i64 _], .bool _] ∧ SL v _) (ps := fun v => [Buf 7 v _]) 0 rfl (fun h q => q) (by repeat' constructor) ?_
              rintro u5 ⟨es5, su5⟩
              subst es5
              dsimp only [List.cons_append, List.nil_append] at su5 ⊢
              refine WL.nilH hσ0 (fun σ1 hσ1 dσ1 mσ1 => ?_)
              have fσ0_0 := fσ0_0.mono mσ1
              have fσ0_1 := fσ0_1.mono mσ1
              have fσ0_2 := fσ0_2.mono mσ1
              have fσ0_3 := fσ0_3.mono mσ1
              have fσ0_4 := fσ0_4.mono mσ1
              have fσ0_5 := fσ0_5.mono mσ1
              have fσ0_6 := fσ0_6.mono mσ1
              have fσ0_7 := fσ0_7.mono mσ1
              have fσ1_0 := ros_at 0 rfl hσ1 dσ1
              refine WD.takeL 4 rfl (by decide +kernel) (WL.mv rfl rfl (WL.nilT (WD.takeL 5 rfl (by decide +kernel) (WL.extL rfl rfl rfl (WL.nilT (WD.takeL 6 rfl (by decide +kernel) (WL.extL rfl rfl rfl (WL.nilT (WD.oneL 8 rfl (by decide +kernel) ?_)))))))))
              refine WL.stAO (T := Ty) (j := 1) rfl rfl rfl rfl (by repeat' first | exact AO.nil | apply AO.cons (by first | rfl | exact SL.one (by assumption))) rfl rfl (by repeat' constructor) (by repeat' constructor) ?_
              refine WL.nilE ?_
              refine WD.lastG hσ1 (by decide +kernel) (by repeat' constructor) rfl (by repeat' constructor) ?_
              refine WL.as rfl rfl (WL.nil ?_)
              first | (refine W.fit (Hs' := [Buf 7 _ ((dropP c (keyP a2)).1.pages.flatMap pgC), box b4 _ _, Buf 7 uC _, box bC _ _, Buf 7 uB _, box bB _ _, Buf 7 uA _, box bA _ _, box b3 _ _, box b2 _ _]) (by (repeat' first | exact Sel.nil | apply Sel.k | exact Pick.h | apply Pick.t)) (W.sub ?_ (cutD ⟨b4, _⟩ _ (Le.refl _) (by assumption)))) | (refine W.fit (Hs' := [Buf 7 _ ((dropP c (keyP a2)).1.pages.flatMap pgC), box b5 _ _, Buf 7 uC _, box bC _ _, Buf 7 uB _, box bB _ _, Buf 7 uA _, box bA _ _, box b3 _ _, box b2 _ _]) (by (repeat' first | exact Sel.nil | apply Sel.k | exact Pick.h | apply Pick.t)) (W.sub ?_ (cutD ⟨b5, _⟩ _ (Le.refl _) (by assumption)))) | (refine W.fit (Hs' := [Buf 7 _ ((dropP c (keyP a2)).1.pages.flatMap pgC), box b6 _ _, Buf 7 uC _, box bC _ _, Buf 7 uB _, box bB _ _, Buf 7 uA _, box bA _ _, box b3 _ _, box b2 _ _]) (by (repeat' first | exact Sel.nil | apply Sel.k | exact Pick.h | apply Pick.t)) (W.sub ?_ (cutD ⟨b6, _⟩ _ (Le.refl _) (by assumption)))) | (refine W.fit (Hs' := [Buf 7 _ ((dropP c (keyP a2)).1.pages.flatMap pgC), box b7 _ _, Buf 7 uC _, box bC _ _, Buf 7 uB _, box bB _ _, Buf 7 uA _, box bA _ _, box b3 _ _, box b2 _ _]) (by (repeat' first | exact Sel.nil | apply Sel.k | exact Pick.h | apply Pick.t)) (W.sub ?_ (cutD ⟨b7, _⟩ _ (Le.refl _) (by assumption)))) | (refine W.fit (Hs' := [Buf 7 _ ((dropP c (keyP a2)).1.pages.flatMap pgC), box b8 _ _, Buf 7 uC _, box bC _ _, Buf 7 uB _, box bB _ _, Buf 7 uA _, box bA _ _, box b3 _ _, box b2 _ _]) (by (repeat' first | exact Sel.nil | apply Sel.k | exact Pick.h | apply Pick.t)) (W.sub ?_ (cutD ⟨b8, _⟩ _ (Le.refl _) (by assumption)))) | (refine W.fit (Hs' := [Buf 7 _ ((dropP c (keyP a2)).1.pages.flatMap pgC), box b9 _ _, Buf 7 uC _, box bC _ _, Buf 7 uB _, box bB _ _, Buf 7 uA _, box bA _ _, box b3 _ _, box b2 _ _]) (by (repeat' first | exact Sel.nil | apply Sel.k | exact Pick.h | apply Pick.t)) (W.sub ?_ (cutD ⟨b9, _⟩ _ (Le.refl _) (by assumption)))) | (refine W.fit (Hs' := [Buf 7 _ ((dropP c (keyP a2)).1.pages.flatMap pgC), box b10 _ _, Buf 7 uC _, box bC _ _, Buf 7 uB _, box bB _ _, Buf 7 uA _, box bA _ _, box b3 _ _, box b2 _ _]) (by (repeat' first | exact Sel.nil | apply Sel.k | exact Pick.h | apply Pick.t)) (W.sub ?_ (cutD ⟨b10, _⟩ _ (Le.refl _) (by assumption)))) | (refine W.fit (Hs' := [Buf 7 _ ((dropP c (keyP a2)).1.pages.flatMap pgC), box b11 _ _, Buf 7 uC _, box bC _ _, Buf 7 uB _, box bB _ _, Buf 7 uA _, box bA _ _, box b3 _ _, box b2 _ _]) (by (repeat' first | exact Sel.nil | apply Sel.k | exact Pick.h | apply Pick.t)) (W.sub ?_ (cutD ⟨b11, _⟩ _ (Le.refl _) (by assumption)))) | (refine W.fit (Hs' := [Buf 7 _ ((dropP c (keyP a2)).1.pages.flatMap pgC), box b12 _ _, Buf 7 uC _, box bC _ _, Buf 7 uB _, box bB _ _, Buf 7 uA _, box bA _ _, box b3 _ _, box b2 _ _]) (by (repeat' first | exact Sel.nil | apply Sel.k | exact Pick.h | apply Pick.t)) (W.sub ?_ (cutD ⟨b12, _⟩ _ (Le.refl _) (by assumption))))
              exact ⟨rfl, rfl, rfl, rfl, rfl, rfl, rfl, trivial⟩
          · refine WL.alF (T := Ty) rfl rfl (by repeat' constructor) (fun b4 => ?_)
            refine WL.nilS (WD.oneL 2 rfl (by decide +kernel) ?_)
            refine WL.callV rfl rfl (fun x p d => key15_c _ _) ?_
            refine WL.nilE (WD.oneL 3 rfl (by decide +kernel) ?_)
            refine WL.callF rfl rfl (fun x p d => drop_c _ _ _ _ (by assumption) (by first | assumption | exact ROs.wide (by assumption) | exact ROs.mono (by assumption) (eqh_at 0 rfl p d) | exact ros_at 0 rfl p d | exact ros_at 1 rfl p d | exact ros_at 2 rfl p d | exact ros_at 3 rfl p d | exact ros_at 4 rfl p d)) (fun r5 => ?_)
            refine WL.opens (α := Value) (φ := fun v => r5 = .tuple #[.agg #[.int .i64 _, .int .i64 _, v, .int .i64 _, .int .i64 _, .int .i64 _], .bool _] ∧ SL v _) (ps := fun v => [Buf 7 v _]) 0 rfl (fun h q => q) (by repeat' constructor) ?_
            rintro u5 ⟨es5, su5⟩
            subst es5
            dsimp only [List.cons_append, List.nil_append] at su5 ⊢
            refine WL.nilH hσ0 (fun σ1 hσ1 dσ1 mσ1 => ?_)
            have fσ0_0 := fσ0_0.mono mσ1
            have fσ0_1 := fσ0_1.mono mσ1
            have fσ0_2 := fσ0_2.mono mσ1
            have fσ0_3 := fσ0_3.mono mσ1
            have fσ0_4 := fσ0_4.mono mσ1
            have fσ0_5 := fσ0_5.mono mσ1
            have fσ0_6 := fσ0_6.mono mσ1
            have fσ0_7 := fσ0_7.mono mσ1
            have fσ1_0 := ros_at 0 rfl hσ1 dσ1
            refine WD.takeL 4 rfl (by decide +kernel) (WL.mv rfl rfl (WL.nilT (WD.takeL 5 rfl (by decide +kernel) (WL.extL rfl rfl rfl (WL.nilT (WD.takeL 6 rfl (by decide +kernel) (WL.extL rfl rfl rfl (WL.nilT (WD.oneL 8 rfl (by decide +kernel) ?_)))))))))
            refine WL.stAO (T := Ty) (j := 1) rfl rfl rfl rfl (by repeat' first | exact AO.nil | apply AO.cons (by first | rfl | exact SL.one (by assumption))) rfl rfl (by repeat' constructor) (by repeat' constructor) ?_
            refine WL.nilE ?_
            refine WD.lastG hσ1 (by decide +kernel) (by repeat' constructor) rfl (by repeat' constructor) ?_
            refine WL.as rfl rfl (WL.nil ?_)
            first | (refine W.fit (Hs' := [Buf 7 _ ((dropP c (keyP a2)).1.pages.flatMap pgC), box b4 _ _, Buf 7 uC _, box bC _ _, Buf 7 uB _, box bB _ _, Buf 7 uA _, box bA _ _, box b3 _ _, box b2 _ _]) (by (repeat' first | exact Sel.nil | apply Sel.k | exact Pick.h | apply Pick.t)) (W.sub ?_ (cutD ⟨b4, _⟩ _ (Le.refl _) (by assumption)))) | (refine W.fit (Hs' := [Buf 7 _ ((dropP c (keyP a2)).1.pages.flatMap pgC), box b5 _ _, Buf 7 uC _, box bC _ _, Buf 7 uB _, box bB _ _, Buf 7 uA _, box bA _ _, box b3 _ _, box b2 _ _]) (by (repeat' first | exact Sel.nil | apply Sel.k | exact Pick.h | apply Pick.t)) (W.sub ?_ (cutD ⟨b5, _⟩ _ (Le.refl _) (by assumption)))) | (refine W.fit (Hs' := [Buf 7 _ ((dropP c (keyP a2)).1.pages.flatMap pgC), box b6 _ _, Buf 7 uC _, box bC _ _, Buf 7 uB _, box bB _ _, Buf 7 uA _, box bA _ _, box b3 _ _, box b2 _ _]) (by (repeat' first | exact Sel.nil | apply Sel.k | exact Pick.h | apply Pick.t)) (W.sub ?_ (cutD ⟨b6, _⟩ _ (Le.refl _) (by assumption)))) | (refine W.fit (Hs' := [Buf 7 _ ((dropP c (keyP a2)).1.pages.flatMap pgC), box b7 _ _, Buf 7 uC _, box bC _ _, Buf 7 uB _, box bB _ _, Buf 7 uA _, box bA _ _, box b3 _ _, box b2 _ _]) (by (repeat' first | exact Sel.nil | apply Sel.k | exact Pick.h | apply Pick.t)) (W.sub ?_ (cutD ⟨b7, _⟩ _ (Le.refl _) (by assumption)))) | (refine W.fit (Hs' := [Buf 7 _ ((dropP c (keyP a2)).1.pages.flatMap pgC), box b8 _ _, Buf 7 uC _, box bC _ _, Buf 7 uB _, box bB _ _, Buf 7 uA _, box bA _ _, box b3 _ _, box b2 _ _]) (by (repeat' first | exact Sel.nil | apply Sel.k | exact Pick.h | apply Pick.t)) (W.sub ?_ (cutD ⟨b8, _⟩ _ (Le.refl _) (by assumption)))) | (refine W.fit (Hs' := [Buf 7 _ ((dropP c (keyP a2)).1.pages.flatMap pgC), box b9 _ _, Buf 7 uC _, box bC _ _, Buf 7 uB _, box bB _ _, Buf 7 uA _, box bA _ _, box b3 _ _, box b2 _ _]) (by (repeat' first | exact Sel.nil | apply Sel.k | exact Pick.h | apply Pick.t)) (W.sub ?_ (cutD ⟨b9, _⟩ _ (Le.refl _) (by assumption)))) | (refine W.fit (Hs' := [Buf 7 _ ((dropP c (keyP a2)).1.pages.flatMap pgC), box b10 _ _, Buf 7 uC _, box bC _ _, Buf 7 uB _, box bB _ _, Buf 7 uA _, box bA _ _, box b3 _ _, box b2 _ _]) (by (repeat' first | exact Sel.nil | apply Sel.k | exact Pick.h | apply Pick.t)) (W.sub ?_ (cutD ⟨b10, _⟩ _ (Le.refl _) (by assumption)))) | (refine W.fit (Hs' := [Buf 7 _ ((dropP c (keyP a2)).1.pages.flatMap pgC), box b11 _ _, Buf 7 uC _, box bC _ _, Buf 7 uB _, box bB _ _, Buf 7 uA _, box bA _ _, box b3 _ _, box b2 _ _]) (by (repeat' first | exact Sel.nil | apply Sel.k | exact Pick.h | apply Pick.t)) (W.sub ?_ (cutD ⟨b11, _⟩ _ (Le.refl _) (by assumption)))) | (refine W.fit (Hs' := [Buf 7 _ ((dropP c (keyP a2)).1.pages.flatMap pgC), box b12 _ _, Buf 7 uC _, box bC _ _, Buf 7 uB _, box bB _ _, Buf 7 uA _, box bA _ _, box b3 _ _, box b2 _ _]) (by (repeat' first | exact Sel.nil | apply Sel.k | exact Pick.h | apply Pick.t)) (W.sub ?_ (cutD ⟨b12, _⟩ _ (Le.refl _) (by assumption))))
            exact ⟨rfl, rfl, rfl, rfl, rfl, rfl, rfl, trivial⟩
      · refine W.drawA 9 rfl (fun σ0 hσ0 dσ0 => ?_)
        have fσ0_0 := ros_at 0 rfl hσ0 dσ0
        have fσ0_1 := rb_at 1 rfl hσ0 dσ0
        have fσ0_2 := ros_at 2 rfl hσ0 dσ0
        have fσ0_3 := rb_at 3 rfl hσ0 dσ0
        have fσ0_4 := rb_at 4 rfl hσ0 dσ0
        have fσ0_5 := rb_at 5 rfl hσ0 dσ0
        refine WD.takeL 0 rfl (by decide +kernel) ?_
        refine WL.ldABF (T := Ty) rfl rfl rfl rfl (by first | assumption | exact RB.wide (by assumption) | exact In.rb (by assumption)) rfl (by repeat' constructor) ?_
        refine WL.nilT (WD.takeL 1 rfl (by decide +kernel) (WL.mv rfl rfl (WL.nilT ?_)))
        refine WD.twoL 2 7 rfl rfl (by decide +kernel) ?_ ?_
        · refine WL.callV rfl rfl (fun x p d => key15_c _ _) ?_
          refine WL.nilE ?_
          refine WD.twoL 3 7 rfl rfl (by decide +kernel) ?_ ?_
          · refine WL.callF rfl rfl (fun x p d => pin_c _ _ _ _ _ (by assumption) (by first | assumption | exact ROs.wide (by assumption) | exact ROs.mono (by assumption) (eqh_at 0 rfl p d) | exact ros_at 0 rfl p d | exact ros_at 1 rfl p d | exact ros_at 2 rfl p d | exact ros_at 3 rfl p d | exact ros_at 4 rfl p d)) (fun r4 => ?_)
            refine WL.opens (α := Value) (φ := fun v => r4 = .tuple #[.agg #[.int .i64 _, .int .i64 _, v, .int .i64 _, .int .i64 _, .int .i64 _], .bool _] ∧ SL v _) (ps := fun v => [Buf 7 v _]) 0 rfl (fun h q => q) (by repeat' constructor) ?_
            rintro u4 ⟨es4, su4⟩
            subst es4
            dsimp only [List.cons_append, List.nil_append] at su4 ⊢
            refine WL.nilH hσ0 (fun σ1 hσ1 dσ1 mσ1 => ?_)
            have fσ0_0 := fσ0_0.mono mσ1
            have fσ0_1 := fσ0_1.mono mσ1
            have fσ0_2 := fσ0_2.mono mσ1
            have fσ0_3 := fσ0_3.mono mσ1
            have fσ0_4 := fσ0_4.mono mσ1
            have fσ0_5 := fσ0_5.mono mσ1
            have fσ1_0 := ros_at 0 rfl hσ1 dσ1
            refine WD.takeL 4 rfl (by decide +kernel) (WL.mv rfl rfl (WL.nilT (WD.takeL 5 rfl (by decide +kernel) (WL.extL rfl rfl rfl (WL.nilT (WD.takeL 6 rfl (by decide +kernel) (WL.extL rfl rfl rfl (WL.nilT (WD.oneL 7 rfl (by decide +kernel) ?_)))))))))
            refine WL.alF (T := Ty) rfl rfl (by repeat' constructor) (fun b5 => ?_)
            refine WL.nilS (WD.oneL 8 rfl (by decide +kernel) ?_)
            refine WL.stAO (T := Ty) (j := 1) rfl rfl rfl rfl (by repeat' first | exact AO.nil | apply AO.cons (by first | rfl | exact SL.one (by assumption))) rfl rfl (by repeat' constructor) (by repeat' constructor) ?_
            refine WL.nilE ?_
            refine WD.lastG hσ1 (by decide +kernel) (by repeat' constructor) rfl (by repeat' constructor) ?_
            refine WL.as rfl rfl (WL.nil ?_)
            first | (refine W.fit (Hs' := [Buf 7 _ ((pinP c (keyP a2) 3).1.pages.flatMap pgC), box b4 _ _, Buf 7 uB _, box bB _ _, Buf 7 uA _, box bA _ _, box b3 _ _, box b2 _ _]) (by (repeat' first | exact Sel.nil | apply Sel.k | exact Pick.h | apply Pick.t)) (W.sub ?_ (cutC ⟨b4, _⟩ _ (Le.refl _) (by assumption)))) | (refine W.fit (Hs' := [Buf 7 _ ((pinP c (keyP a2) 3).1.pages.flatMap pgC), box b5 _ _, Buf 7 uB _, box bB _ _, Buf 7 uA _, box bA _ _, box b3 _ _, box b2 _ _]) (by (repeat' first | exact Sel.nil | apply Sel.k | exact Pick.h | apply Pick.t)) (W.sub ?_ (cutC ⟨b5, _⟩ _ (Le.refl _) (by assumption)))) | (refine W.fit (Hs' := [Buf 7 _ ((pinP c (keyP a2) 3).1.pages.flatMap pgC), box b6 _ _, Buf 7 uB _, box bB _ _, Buf 7 uA _, box bA _ _, box b3 _ _, box b2 _ _]) (by (repeat' first | exact Sel.nil | apply Sel.k | exact Pick.h | apply Pick.t)) (W.sub ?_ (cutC ⟨b6, _⟩ _ (Le.refl _) (by assumption)))) | (refine W.fit (Hs' := [Buf 7 _ ((pinP c (keyP a2) 3).1.pages.flatMap pgC), box b7 _ _, Buf 7 uB _, box bB _ _, Buf 7 uA _, box bA _ _, box b3 _ _, box b2 _ _]) (by (repeat' first | exact Sel.nil | apply Sel.k | exact Pick.h | apply Pick.t)) (W.sub ?_ (cutC ⟨b7, _⟩ _ (Le.refl _) (by assumption)))) | (refine W.fit (Hs' := [Buf 7 _ ((pinP c (keyP a2) 3).1.pages.flatMap pgC), box b8 _ _, Buf 7 uB _, box bB _ _, Buf 7 uA _, box bA _ _, box b3 _ _, box b2 _ _]) (by (repeat' first | exact Sel.nil | apply Sel.k | exact Pick.h | apply Pick.t)) (W.sub ?_ (cutC ⟨b8, _⟩ _ (Le.refl _) (by assumption)))) | (refine W.fit (Hs' := [Buf 7 _ ((pinP c (keyP a2) 3).1.pages.flatMap pgC), box b9 _ _, Buf 7 uB _, box bB _ _, Buf 7 uA _, box bA _ _, box b3 _ _, box b2 _ _]) (by (repeat' first | exact Sel.nil | apply Sel.k | exact Pick.h | apply Pick.t)) (W.sub ?_ (cutC ⟨b9, _⟩ _ (Le.refl _) (by assumption)))) | (refine W.fit (Hs' := [Buf 7 _ ((pinP c (keyP a2) 3).1.pages.flatMap pgC), box b10 _ _, Buf 7 uB _, box bB _ _, Buf 7 uA _, box bA _ _, box b3 _ _, box b2 _ _]) (by (repeat' first | exact Sel.nil | apply Sel.k | exact Pick.h | apply Pick.t)) (W.sub ?_ (cutC ⟨b10, _⟩ _ (Le.refl _) (by assumption)))) | (refine W.fit (Hs' := [Buf 7 _ ((pinP c (keyP a2) 3).1.pages.flatMap pgC), box b11 _ _, Buf 7 uB _, box bB _ _, Buf 7 uA _, box bA _ _, box b3 _ _, box b2 _ _]) (by (repeat' first | exact Sel.nil | apply Sel.k | exact Pick.h | apply Pick.t)) (W.sub ?_ (cutC ⟨b11, _⟩ _ (Le.refl _) (by assumption)))) | (refine W.fit (Hs' := [Buf 7 _ ((pinP c (keyP a2) 3).1.pages.flatMap pgC), box b12 _ _, Buf 7 uB _, box bB _ _, Buf 7 uA _, box bA _ _, box b3 _ _, box b2 _ _]) (by (repeat' first | exact Sel.nil | apply Sel.k | exact Pick.h | apply Pick.t)) (W.sub ?_ (cutC ⟨b12, _⟩ _ (Le.refl _) (by assumption))))
            exact ⟨rfl, rfl, rfl, rfl, rfl, rfl, trivial⟩
          · refine WL.alF (T := Ty) rfl rfl (by repeat' constructor) (fun b4 => ?_)
            refine WL.nilS (WD.oneL 3 rfl (by decide +kernel) ?_)
            refine WL.callF rfl rfl (fun x p d => pin_c _ _ _ _ _ (by assumption) (by first | assumption | exact ROs.wide (by assumption) | exact ROs.mono (by assumption) (eqh_at 0 rfl p d) | exact ros_at 0 rfl p d | exact ros_at 1 rfl p d | exact ros_at 2 rfl p d | exact ros_at 3 rfl p d | exact ros_at 4 rfl p d)) (fun r5 => ?_)
            refine WL.opens (α := Value) (φ := fun v => r5 = .tuple #[.agg #[.int .i64 _, .int .i64 _, v, .int .i64 _, .int .i64 _, .int .i64 _], .bool _] ∧ SL v _) (ps := fun v => [Buf 7 v _]) 0 rfl (fun h q => q) (by repeat' constructor) ?_
            rintro u5 ⟨es5, su5⟩
            subst es5
            dsimp only [List.cons_append, List.nil_append] at su5 ⊢
            refine WL.nilH hσ0 (fun σ1 hσ1 dσ1 mσ1 => ?_)
            have fσ0_0 := fσ0_0.mono mσ1
            have fσ0_1 := fσ0_1.mono mσ1
            have fσ0_2 := fσ0_2.mono mσ1
            have fσ0_3 := fσ0_3.mono mσ1
            have fσ0_4 := fσ0_4.mono mσ1
            have fσ0_5 := fσ0_5.mono mσ1
            have fσ1_0 := ros_at 0 rfl hσ1 dσ1
            refine WD.takeL 4 rfl (by decide +kernel) (WL.mv rfl rfl (WL.nilT (WD.takeL 5 rfl (by decide +kernel) (WL.extL rfl rfl rfl (WL.nilT (WD.takeL 6 rfl (by decide +kernel) (WL.extL rfl rfl rfl (WL.nilT (WD.oneL 8 rfl (by decide +kernel) ?_)))))))))
            refine WL.stAO (T := Ty) (j := 1) rfl rfl rfl rfl (by repeat' first | exact AO.nil | apply AO.cons (by first | rfl | exact SL.one (by assumption))) rfl rfl (by repeat' constructor) (by repeat' constructor) ?_
            refine WL.nilE ?_
            refine WD.lastG hσ1 (by decide +kernel) (by repeat' constructor) rfl (by repeat' constructor) ?_
            refine WL.as rfl rfl (WL.nil ?_)
            first | (refine W.fit (Hs' := [Buf 7 _ ((pinP c (keyP a2) 3).1.pages.flatMap pgC), box b4 _ _, Buf 7 uB _, box bB _ _, Buf 7 uA _, box bA _ _, box b3 _ _, box b2 _ _]) (by (repeat' first | exact Sel.nil | apply Sel.k | exact Pick.h | apply Pick.t)) (W.sub ?_ (cutC ⟨b4, _⟩ _ (Le.refl _) (by assumption)))) | (refine W.fit (Hs' := [Buf 7 _ ((pinP c (keyP a2) 3).1.pages.flatMap pgC), box b5 _ _, Buf 7 uB _, box bB _ _, Buf 7 uA _, box bA _ _, box b3 _ _, box b2 _ _]) (by (repeat' first | exact Sel.nil | apply Sel.k | exact Pick.h | apply Pick.t)) (W.sub ?_ (cutC ⟨b5, _⟩ _ (Le.refl _) (by assumption)))) | (refine W.fit (Hs' := [Buf 7 _ ((pinP c (keyP a2) 3).1.pages.flatMap pgC), box b6 _ _, Buf 7 uB _, box bB _ _, Buf 7 uA _, box bA _ _, box b3 _ _, box b2 _ _]) (by (repeat' first | exact Sel.nil | apply Sel.k | exact Pick.h | apply Pick.t)) (W.sub ?_ (cutC ⟨b6, _⟩ _ (Le.refl _) (by assumption)))) | (refine W.fit (Hs' := [Buf 7 _ ((pinP c (keyP a2) 3).1.pages.flatMap pgC), box b7 _ _, Buf 7 uB _, box bB _ _, Buf 7 uA _, box bA _ _, box b3 _ _, box b2 _ _]) (by (repeat' first | exact Sel.nil | apply Sel.k | exact Pick.h | apply Pick.t)) (W.sub ?_ (cutC ⟨b7, _⟩ _ (Le.refl _) (by assumption)))) | (refine W.fit (Hs' := [Buf 7 _ ((pinP c (keyP a2) 3).1.pages.flatMap pgC), box b8 _ _, Buf 7 uB _, box bB _ _, Buf 7 uA _, box bA _ _, box b3 _ _, box b2 _ _]) (by (repeat' first | exact Sel.nil | apply Sel.k | exact Pick.h | apply Pick.t)) (W.sub ?_ (cutC ⟨b8, _⟩ _ (Le.refl _) (by assumption)))) | (refine W.fit (Hs' := [Buf 7 _ ((pinP c (keyP a2) 3).1.pages.flatMap pgC), box b9 _ _, Buf 7 uB _, box bB _ _, Buf 7 uA _, box bA _ _, box b3 _ _, box b2 _ _]) (by (repeat' first | exact Sel.nil | apply Sel.k | exact Pick.h | apply Pick.t)) (W.sub ?_ (cutC ⟨b9, _⟩ _ (Le.refl _) (by assumption)))) | (refine W.fit (Hs' := [Buf 7 _ ((pinP c (keyP a2) 3).1.pages.flatMap pgC), box b10 _ _, Buf 7 uB _, box bB _ _, Buf 7 uA _, box bA _ _, box b3 _ _, box b2 _ _]) (by (repeat' first | exact Sel.nil | apply Sel.k | exact Pick.h | apply Pick.t)) (W.sub ?_ (cutC ⟨b10, _⟩ _ (Le.refl _) (by assumption)))) | (refine W.fit (Hs' := [Buf 7 _ ((pinP c (keyP a2) 3).1.pages.flatMap pgC), box b11 _ _, Buf 7 uB _, box bB _ _, Buf 7 uA _, box bA _ _, box b3 _ _, box b2 _ _]) (by (repeat' first | exact Sel.nil | apply Sel.k | exact Pick.h | apply Pick.t)) (W.sub ?_ (cutC ⟨b11, _⟩ _ (Le.refl _) (by assumption)))) | (refine W.fit (Hs' := [Buf 7 _ ((pinP c (keyP a2) 3).1.pages.flatMap pgC), box b12 _ _, Buf 7 uB _, box bB _ _, Buf 7 uA _, box bA _ _, box b3 _ _, box b2 _ _]) (by (repeat' first | exact Sel.nil | apply Sel.k | exact Pick.h | apply Pick.t)) (W.sub ?_ (cutC ⟨b12, _⟩ _ (Le.refl _) (by assumption))))
            exact ⟨rfl, rfl, rfl, rfl, rfl, rfl, trivial⟩
        · refine WL.alF (T := Ty) rfl rfl (by repeat' constructor) (fun b4 => ?_)
          refine WL.nilS (WD.oneL 2 rfl (by decide +kernel) ?_)
          refine WL.callV rfl rfl (fun x p d => key15_c _ _) ?_
          refine WL.nilE (WD.oneL 3 rfl (by decide +kernel) ?_)
          refine WL.callF rfl rfl (fun x p d => pin_c _ _ _ _ _ (by assumption) (by first | assumption | exact ROs.wide (by assumption) | exact ROs.mono (by assumption) (eqh_at 0 rfl p d) | exact ros_at 0 rfl p d | exact ros_at 1 rfl p d | exact ros_at 2 rfl p d | exact ros_at 3 rfl p d | exact ros_at 4 rfl p d)) (fun r5 => ?_)
          refine WL.opens (α := Value) (φ := fun v => r5 = .tuple #[.agg #[.int .i64 _, .int .i64 _, v, .int .i64 _, .int .i64 _, .int .i64 _], .bool _] ∧ SL v _) (ps := fun v => [Buf 7 v _]) 0 rfl (fun h q => q) (by repeat' constructor) ?_
          rintro u5 ⟨es5, su5⟩
          subst es5
          dsimp only [List.cons_append, List.nil_append] at su5 ⊢
          refine WL.nilH hσ0 (fun σ1 hσ1 dσ1 mσ1 => ?_)
          have fσ0_0 := fσ0_0.mono mσ1
          have fσ0_1 := fσ0_1.mono mσ1
          have fσ0_2 := fσ0_2.mono mσ1
          have fσ0_3 := fσ0_3.mono mσ1
          have fσ0_4 := fσ0_4.mono mσ1
          have fσ0_5 := fσ0_5.mono mσ1
          have fσ1_0 := ros_at 0 rfl hσ1 dσ1
          refine WD.takeL 4 rfl (by decide +kernel) (WL.mv rfl rfl (WL.nilT (WD.takeL 5 rfl (by decide +kernel) (WL.extL rfl rfl rfl (WL.nilT (WD.takeL 6 rfl (by decide +kernel) (WL.extL rfl rfl rfl (WL.nilT (WD.oneL 8 rfl (by decide +kernel) ?_)))))))))
          refine WL.stAO (T := Ty) (j := 1) rfl rfl rfl rfl (by repeat' first | exact AO.nil | apply AO.cons (by first | rfl | exact SL.one (by assumption))) rfl rfl (by repeat' constructor) (by repeat' constructor) ?_
          refine WL.nilE ?_
          refine WD.lastG hσ1 (by decide +kernel) (by repeat' constructor) rfl (by repeat' constructor) ?_
          refine WL.as rfl rfl (WL.nil ?_)
          first | (refine W.fit (Hs' := [Buf 7 _ ((pinP c (keyP a2) 3).1.pages.flatMap pgC), box b4 _ _, Buf 7 uB _, box bB _ _, Buf 7 uA _, box bA _ _, box b3 _ _, box b2 _ _]) (by (repeat' first | exact Sel.nil | apply Sel.k | exact Pick.h | apply Pick.t)) (W.sub ?_ (cutC ⟨b4, _⟩ _ (Le.refl _) (by assumption)))) | (refine W.fit (Hs' := [Buf 7 _ ((pinP c (keyP a2) 3).1.pages.flatMap pgC), box b5 _ _, Buf 7 uB _, box bB _ _, Buf 7 uA _, box bA _ _, box b3 _ _, box b2 _ _]) (by (repeat' first | exact Sel.nil | apply Sel.k | exact Pick.h | apply Pick.t)) (W.sub ?_ (cutC ⟨b5, _⟩ _ (Le.refl _) (by assumption)))) | (refine W.fit (Hs' := [Buf 7 _ ((pinP c (keyP a2) 3).1.pages.flatMap pgC), box b6 _ _, Buf 7 uB _, box bB _ _, Buf 7 uA _, box bA _ _, box b3 _ _, box b2 _ _]) (by (repeat' first | exact Sel.nil | apply Sel.k | exact Pick.h | apply Pick.t)) (W.sub ?_ (cutC ⟨b6, _⟩ _ (Le.refl _) (by assumption)))) | (refine W.fit (Hs' := [Buf 7 _ ((pinP c (keyP a2) 3).1.pages.flatMap pgC), box b7 _ _, Buf 7 uB _, box bB _ _, Buf 7 uA _, box bA _ _, box b3 _ _, box b2 _ _]) (by (repeat' first | exact Sel.nil | apply Sel.k | exact Pick.h | apply Pick.t)) (W.sub ?_ (cutC ⟨b7, _⟩ _ (Le.refl _) (by assumption)))) | (refine W.fit (Hs' := [Buf 7 _ ((pinP c (keyP a2) 3).1.pages.flatMap pgC), box b8 _ _, Buf 7 uB _, box bB _ _, Buf 7 uA _, box bA _ _, box b3 _ _, box b2 _ _]) (by (repeat' first | exact Sel.nil | apply Sel.k | exact Pick.h | apply Pick.t)) (W.sub ?_ (cutC ⟨b8, _⟩ _ (Le.refl _) (by assumption)))) | (refine W.fit (Hs' := [Buf 7 _ ((pinP c (keyP a2) 3).1.pages.flatMap pgC), box b9 _ _, Buf 7 uB _, box bB _ _, Buf 7 uA _, box bA _ _, box b3 _ _, box b2 _ _]) (by (repeat' first | exact Sel.nil | apply Sel.k | exact Pick.h | apply Pick.t)) (W.sub ?_ (cutC ⟨b9, _⟩ _ (Le.refl _) (by assumption)))) | (refine W.fit (Hs' := [Buf 7 _ ((pinP c (keyP a2) 3).1.pages.flatMap pgC), box b10 _ _, Buf 7 uB _, box bB _ _, Buf 7 uA _, box bA _ _, box b3 _ _, box b2 _ _]) (by (repeat' first | exact Sel.nil | apply Sel.k | exact Pick.h | apply Pick.t)) (W.sub ?_ (cutC ⟨b10, _⟩ _ (Le.refl _) (by assumption)))) | (refine W.fit (Hs' := [Buf 7 _ ((pinP c (keyP a2) 3).1.pages.flatMap pgC), box b11 _ _, Buf 7 uB _, box bB _ _, Buf 7 uA _, box bA _ _, box b3 _ _, box b2 _ _]) (by (repeat' first | exact Sel.nil | apply Sel.k | exact Pick.h | apply Pick.t)) (W.sub ?_ (cutC ⟨b11, _⟩ _ (Le.refl _) (by assumption)))) | (refine W.fit (Hs' := [Buf 7 _ ((pinP c (keyP a2) 3).1.pages.flatMap pgC), box b12 _ _, Buf 7 uB _, box bB _ _, Buf 7 uA _, box bA _ _, box b3 _ _, box b2 _ _]) (by (repeat' first | exact Sel.nil | apply Sel.k | exact Pick.h | apply Pick.t)) (W.sub ?_ (cutC ⟨b12, _⟩ _ (Le.refl _) (by assumption))))
          exact ⟨rfl, rfl, rfl, rfl, rfl, rfl, trivial⟩
    · refine W.drawA 9 rfl (fun σ0 hσ0 dσ0 => ?_)
      have fσ0_0 := ros_at 0 rfl hσ0 dσ0
      have fσ0_1 := rb_at 1 rfl hσ0 dσ0
      have fσ0_2 := rb_at 2 rfl hσ0 dσ0
      have fσ0_3 := rb_at 3 rfl hσ0 dσ0
      refine WD.takeL 0 rfl (by decide +kernel) ?_
      refine WL.ldABF (T := Ty) rfl rfl rfl rfl (by first | assumption | exact RB.wide (by assumption) | exact In.rb (by assumption)) rfl (by repeat' constructor) ?_
      refine WL.nilT (WD.takeL 1 rfl (by decide +kernel) (WL.mv rfl rfl (WL.nilT ?_)))
      refine WD.twoL 2 7 rfl rfl (by decide +kernel) ?_ ?_
      · refine WL.callV rfl rfl (fun x p d => key15_c _ _) ?_
        refine WL.nilE ?_
        refine WD.twoL 3 7 rfl rfl (by decide +kernel) ?_ ?_
        · refine WL.callF rfl rfl (fun x p d => touch_c _ _ _ _ (by assumption) (by first | assumption | exact ROs.wide (by assumption) | exact ROs.mono (by assumption) (eqh_at 0 rfl p d) | exact ros_at 0 rfl p d | exact ros_at 1 rfl p d | exact ros_at 2 rfl p d | exact ros_at 3 rfl p d | exact ros_at 4 rfl p d)) (fun r4 => ?_)
          refine WL.opens (α := Value) (φ := fun v => r4 = .tuple #[.agg #[.int .i64 _, .int .i64 _, v, .int .i64 _, .int .i64 _, .int .i64 _], .bool _] ∧ SL v _) (ps := fun v => [Buf 7 v _]) 0 rfl (fun h q => q) (by repeat' constructor) ?_
          rintro u4 ⟨es4, su4⟩
          subst es4
          dsimp only [List.cons_append, List.nil_append] at su4 ⊢
          refine WL.nilH hσ0 (fun σ1 hσ1 dσ1 mσ1 => ?_)
          have fσ0_0 := fσ0_0.mono mσ1
          have fσ0_1 := fσ0_1.mono mσ1
          have fσ0_2 := fσ0_2.mono mσ1
          have fσ0_3 := fσ0_3.mono mσ1
          have fσ1_0 := ros_at 0 rfl hσ1 dσ1
          refine WD.takeL 4 rfl (by decide +kernel) (WL.mv rfl rfl (WL.nilT (WD.takeL 5 rfl (by decide +kernel) (WL.extL rfl rfl rfl (WL.nilT (WD.takeL 6 rfl (by decide +kernel) (WL.extL rfl rfl rfl (WL.nilT (WD.oneL 7 rfl (by decide +kernel) ?_)))))))))
          refine WL.alF (T := Ty) rfl rfl (by repeat' constructor) (fun b5 => ?_)
          refine WL.nilS (WD.oneL 8 rfl (by decide +kernel) ?_)
          refine WL.stAO (T := Ty) (j := 1) rfl rfl rfl rfl (by repeat' first | exact AO.nil | apply AO.cons (by first | rfl | exact SL.one (by assumption))) rfl rfl (by repeat' constructor) (by repeat' constructor) ?_
          refine WL.nilE ?_
          refine WD.lastG hσ1 (by decide +kernel) (by repeat' constructor) rfl (by repeat' constructor) ?_
          refine WL.as rfl rfl (WL.nil ?_)
          first | (refine W.fit (Hs' := [Buf 7 _ ((touchP c (keyP a2)).1.pages.flatMap pgC), box b4 _ _, Buf 7 uA _, box bA _ _, box b3 _ _, box b2 _ _]) (by (repeat' first | exact Sel.nil | apply Sel.k | exact Pick.h | apply Pick.t)) (W.sub ?_ (cutB ⟨b4, _⟩ _ (Le.refl _) (by assumption)))) | (refine W.fit (Hs' := [Buf 7 _ ((touchP c (keyP a2)).1.pages.flatMap pgC), box b5 _ _, Buf 7 uA _, box bA _ _, box b3 _ _, box b2 _ _]) (by (repeat' first | exact Sel.nil | apply Sel.k | exact Pick.h | apply Pick.t)) (W.sub ?_ (cutB ⟨b5, _⟩ _ (Le.refl _) (by assumption)))) | (refine W.fit (Hs' := [Buf 7 _ ((touchP c (keyP a2)).1.pages.flatMap pgC), box b6 _ _, Buf 7 uA _, box bA _ _, box b3 _ _, box b2 _ _]) (by (repeat' first | exact Sel.nil | apply Sel.k | exact Pick.h | apply Pick.t)) (W.sub ?_ (cutB ⟨b6, _⟩ _ (Le.refl _) (by assumption)))) | (refine W.fit (Hs' := [Buf 7 _ ((touchP c (keyP a2)).1.pages.flatMap pgC), box b7 _ _, Buf 7 uA _, box bA _ _, box b3 _ _, box b2 _ _]) (by (repeat' first | exact Sel.nil | apply Sel.k | exact Pick.h | apply Pick.t)) (W.sub ?_ (cutB ⟨b7, _⟩ _ (Le.refl _) (by assumption)))) | (refine W.fit (Hs' := [Buf 7 _ ((touchP c (keyP a2)).1.pages.flatMap pgC), box b8 _ _, Buf 7 uA _, box bA _ _, box b3 _ _, box b2 _ _]) (by (repeat' first | exact Sel.nil | apply Sel.k | exact Pick.h | apply Pick.t)) (W.sub ?_ (cutB ⟨b8, _⟩ _ (Le.refl _) (by assumption)))) | (refine W.fit (Hs' := [Buf 7 _ ((touchP c (keyP a2)).1.pages.flatMap pgC), box b9 _ _, Buf 7 uA _, box bA _ _, box b3 _ _, box b2 _ _]) (by (repeat' first | exact Sel.nil | apply Sel.k | exact Pick.h | apply Pick.t)) (W.sub ?_ (cutB ⟨b9, _⟩ _ (Le.refl _) (by assumption)))) | (refine W.fit (Hs' := [Buf 7 _ ((touchP c (keyP a2)).1.pages.flatMap pgC), box b10 _ _, Buf 7 uA _, box bA _ _, box b3 _ _, box b2 _ _]) (by (repeat' first | exact Sel.nil | apply Sel.k | exact Pick.h | apply Pick.t)) (W.sub ?_ (cutB ⟨b10, _⟩ _ (Le.refl _) (by assumption)))) | (refine W.fit (Hs' := [Buf 7 _ ((touchP c (keyP a2)).1.pages.flatMap pgC), box b11 _ _, Buf 7 uA _, box bA _ _, box b3 _ _, box b2 _ _]) (by (repeat' first | exact Sel.nil | apply Sel.k | exact Pick.h | apply Pick.t)) (W.sub ?_ (cutB ⟨b11, _⟩ _ (Le.refl _) (by assumption)))) | (refine W.fit (Hs' := [Buf 7 _ ((touchP c (keyP a2)).1.pages.flatMap pgC), box b12 _ _, Buf 7 uA _, box bA _ _, box b3 _ _, box b2 _ _]) (by (repeat' first | exact Sel.nil | apply Sel.k | exact Pick.h | apply Pick.t)) (W.sub ?_ (cutB ⟨b12, _⟩ _ (Le.refl _) (by assumption))))
          exact ⟨rfl, rfl, rfl, rfl, rfl, trivial⟩
        · refine WL.alF (T := Ty) rfl rfl (by repeat' constructor) (fun b4 => ?_)
          refine WL.nilS (WD.oneL 3 rfl (by decide +kernel) ?_)
          refine WL.callF rfl rfl (fun x p d => touch_c _ _ _ _ (by assumption) (by first | assumption | exact ROs.wide (by assumption) | exact ROs.mono (by assumption) (eqh_at 0 rfl p d) | exact ros_at 0 rfl p d | exact ros_at 1 rfl p d | exact ros_at 2 rfl p d | exact ros_at 3 rfl p d | exact ros_at 4 rfl p d)) (fun r5 => ?_)
          refine WL.opens (α := Value) (φ := fun v => r5 = .tuple #[.agg #[.int .i64 _, .int .i64 _, v, .int .i64 _, .int .i64 _, .int .i64 _], .bool _] ∧ SL v _) (ps := fun v => [Buf 7 v _]) 0 rfl (fun h q => q) (by repeat' constructor) ?_
          rintro u5 ⟨es5, su5⟩
          subst es5
          dsimp only [List.cons_append, List.nil_append] at su5 ⊢
          refine WL.nilH hσ0 (fun σ1 hσ1 dσ1 mσ1 => ?_)
          have fσ0_0 := fσ0_0.mono mσ1
          have fσ0_1 := fσ0_1.mono mσ1
          have fσ0_2 := fσ0_2.mono mσ1
          have fσ0_3 := fσ0_3.mono mσ1
          have fσ1_0 := ros_at 0 rfl hσ1 dσ1
          refine WD.takeL 4 rfl (by decide +kernel) (WL.mv rfl rfl (WL.nilT (WD.takeL 5 rfl (by decide +kernel) (WL.extL rfl rfl rfl (WL.nilT (WD.takeL 6 rfl (by decide +kernel) (WL.extL rfl rfl rfl (WL.nilT (WD.oneL 8 rfl (by decide +kernel) ?_)))))))))
          refine WL.stAO (T := Ty) (j := 1) rfl rfl rfl rfl (by repeat' first | exact AO.nil | apply AO.cons (by first | rfl | exact SL.one (by assumption))) rfl rfl (by repeat' constructor) (by repeat' constructor) ?_
          refine WL.nilE ?_
          refine WD.lastG hσ1 (by decide +kernel) (by repeat' constructor) rfl (by repeat' constructor) ?_
          refine WL.as rfl rfl (WL.nil ?_)
          first | (refine W.fit (Hs' := [Buf 7 _ ((touchP c (keyP a2)).1.pages.flatMap pgC), box b4 _ _, Buf 7 uA _, box bA _ _, box b3 _ _, box b2 _ _]) (by (repeat' first | exact Sel.nil | apply Sel.k | exact Pick.h | apply Pick.t)) (W.sub ?_ (cutB ⟨b4, _⟩ _ (Le.refl _) (by assumption)))) | (refine W.fit (Hs' := [Buf 7 _ ((touchP c (keyP a2)).1.pages.flatMap pgC), box b5 _ _, Buf 7 uA _, box bA _ _, box b3 _ _, box b2 _ _]) (by (repeat' first | exact Sel.nil | apply Sel.k | exact Pick.h | apply Pick.t)) (W.sub ?_ (cutB ⟨b5, _⟩ _ (Le.refl _) (by assumption)))) | (refine W.fit (Hs' := [Buf 7 _ ((touchP c (keyP a2)).1.pages.flatMap pgC), box b6 _ _, Buf 7 uA _, box bA _ _, box b3 _ _, box b2 _ _]) (by (repeat' first | exact Sel.nil | apply Sel.k | exact Pick.h | apply Pick.t)) (W.sub ?_ (cutB ⟨b6, _⟩ _ (Le.refl _) (by assumption)))) | (refine W.fit (Hs' := [Buf 7 _ ((touchP c (keyP a2)).1.pages.flatMap pgC), box b7 _ _, Buf 7 uA _, box bA _ _, box b3 _ _, box b2 _ _]) (by (repeat' first | exact Sel.nil | apply Sel.k | exact Pick.h | apply Pick.t)) (W.sub ?_ (cutB ⟨b7, _⟩ _ (Le.refl _) (by assumption)))) | (refine W.fit (Hs' := [Buf 7 _ ((touchP c (keyP a2)).1.pages.flatMap pgC), box b8 _ _, Buf 7 uA _, box bA _ _, box b3 _ _, box b2 _ _]) (by (repeat' first | exact Sel.nil | apply Sel.k | exact Pick.h | apply Pick.t)) (W.sub ?_ (cutB ⟨b8, _⟩ _ (Le.refl _) (by assumption)))) | (refine W.fit (Hs' := [Buf 7 _ ((touchP c (keyP a2)).1.pages.flatMap pgC), box b9 _ _, Buf 7 uA _, box bA _ _, box b3 _ _, box b2 _ _]) (by (repeat' first | exact Sel.nil | apply Sel.k | exact Pick.h | apply Pick.t)) (W.sub ?_ (cutB ⟨b9, _⟩ _ (Le.refl _) (by assumption)))) | (refine W.fit (Hs' := [Buf 7 _ ((touchP c (keyP a2)).1.pages.flatMap pgC), box b10 _ _, Buf 7 uA _, box bA _ _, box b3 _ _, box b2 _ _]) (by (repeat' first | exact Sel.nil | apply Sel.k | exact Pick.h | apply Pick.t)) (W.sub ?_ (cutB ⟨b10, _⟩ _ (Le.refl _) (by assumption)))) | (refine W.fit (Hs' := [Buf 7 _ ((touchP c (keyP a2)).1.pages.flatMap pgC), box b11 _ _, Buf 7 uA _, box bA _ _, box b3 _ _, box b2 _ _]) (by (repeat' first | exact Sel.nil | apply Sel.k | exact Pick.h | apply Pick.t)) (W.sub ?_ (cutB ⟨b11, _⟩ _ (Le.refl _) (by assumption)))) | (refine W.fit (Hs' := [Buf 7 _ ((touchP c (keyP a2)).1.pages.flatMap pgC), box b12 _ _, Buf 7 uA _, box bA _ _, box b3 _ _, box b2 _ _]) (by (repeat' first | exact Sel.nil | apply Sel.k | exact Pick.h | apply Pick.t)) (W.sub ?_ (cutB ⟨b12, _⟩ _ (Le.refl _) (by assumption))))
          exact ⟨rfl, rfl, rfl, rfl, rfl, trivial⟩
      · refine WL.alF (T := Ty) rfl rfl (by repeat' constructor) (fun b4 => ?_)
        refine WL.nilS (WD.oneL 2 rfl (by decide +kernel) ?_)
        refine WL.callV rfl rfl (fun x p d => key15_c _ _) ?_
        refine WL.nilE (WD.oneL 3 rfl (by decide +kernel) ?_)
        refine WL.callF rfl rfl (fun x p d => touch_c _ _ _ _ (by assumption) (by first | assumption | exact ROs.wide (by assumption) | exact ROs.mono (by assumption) (eqh_at 0 rfl p d) | exact ros_at 0 rfl p d | exact ros_at 1 rfl p d | exact ros_at 2 rfl p d | exact ros_at 3 rfl p d | exact ros_at 4 rfl p d)) (fun r5 => ?_)
        refine WL.opens (α := Value) (φ := fun v => r5 = .tuple #[.agg #[.int .i64 _, .int .i64 _, v, .int .i64 _, .int .i64 _, .int .i64 _], .bool _] ∧ SL v _) (ps := fun v => [Buf 7 v _]) 0 rfl (fun h q => q) (by repeat' constructor) ?_
        rintro u5 ⟨es5, su5⟩
        subst es5
        dsimp only [List.cons_append, List.nil_append] at su5 ⊢
        refine WL.nilH hσ0 (fun σ1 hσ1 dσ1 mσ1 => ?_)
        have fσ0_0 := fσ0_0.mono mσ1
        have fσ0_1 := fσ0_1.mono mσ1
        have fσ0_2 := fσ0_2.mono mσ1
        have fσ0_3 := fσ0_3.mono mσ1
        have fσ1_0 := ros_at 0 rfl hσ1 dσ1
        refine WD.takeL 4 rfl (by decide +kernel) (WL.mv rfl rfl (WL.nilT (WD.takeL 5 rfl (by decide +kernel) (WL.extL rfl rfl rfl (WL.nilT (WD.takeL 6 rfl (by decide +kernel) (WL.extL rfl rfl rfl (WL.nilT (WD.oneL 8 rfl (by decide +kernel) ?_)))))))))
        refine WL.stAO (T := Ty) (j := 1) rfl rfl rfl rfl (by repeat' first | exact AO.nil | apply AO.cons (by first | rfl | exact SL.one (by assumption))) rfl rfl (by repeat' constructor) (by repeat' constructor) ?_
        refine WL.nilE ?_
        refine WD.lastG hσ1 (by decide +kernel) (by repeat' constructor) rfl (by repeat' constructor) ?_
        refine WL.as rfl rfl (WL.nil ?_)
        first | (refine W.fit (Hs' := [Buf 7 _ ((touchP c (keyP a2)).1.pages.flatMap pgC), box b4 _ _, Buf 7 uA _, box bA _ _, box b3 _ _, box b2 _ _]) (by (repeat' first | exact Sel.nil | apply Sel.k | exact Pick.h | apply Pick.t)) (W.sub ?_ (cutB ⟨b4, _⟩ _ (Le.refl _) (by assumption)))) | (refine W.fit (Hs' := [Buf 7 _ ((touchP c (keyP a2)).1.pages.flatMap pgC), box b5 _ _, Buf 7 uA _, box bA _ _, box b3 _ _, box b2 _ _]) (by (repeat' first | exact Sel.nil | apply Sel.k | exact Pick.h | apply Pick.t)) (W.sub ?_ (cutB ⟨b5, _⟩ _ (Le.refl _) (by assumption)))) | (refine W.fit (Hs' := [Buf 7 _ ((touchP c (keyP a2)).1.pages.flatMap pgC), box b6 _ _, Buf 7 uA _, box bA _ _, box b3 _ _, box b2 _ _]) (by (repeat' first | exact Sel.nil | apply Sel.k | exact Pick.h | apply Pick.t)) (W.sub ?_ (cutB ⟨b6, _⟩ _ (Le.refl _) (by assumption)))) | (refine W.fit (Hs' := [Buf 7 _ ((touchP c (keyP a2)).1.pages.flatMap pgC), box b7 _ _, Buf 7 uA _, box bA _ _, box b3 _ _, box b2 _ _]) (by (repeat' first | exact Sel.nil | apply Sel.k | exact Pick.h | apply Pick.t)) (W.sub ?_ (cutB ⟨b7, _⟩ _ (Le.refl _) (by assumption)))) | (refine W.fit (Hs' := [Buf 7 _ ((touchP c (keyP a2)).1.pages.flatMap pgC), box b8 _ _, Buf 7 uA _, box bA _ _, box b3 _ _, box b2 _ _]) (by (repeat' first | exact Sel.nil | apply Sel.k | exact Pick.h | apply Pick.t)) (W.sub ?_ (cutB ⟨b8, _⟩ _ (Le.refl _) (by assumption)))) | (refine W.fit (Hs' := [Buf 7 _ ((touchP c (keyP a2)).1.pages.flatMap pgC), box b9 _ _, Buf 7 uA _, box bA _ _, box b3 _ _, box b2 _ _]) (by (repeat' first | exact Sel.nil | apply Sel.k | exact Pick.h | apply Pick.t)) (W.sub ?_ (cutB ⟨b9, _⟩ _ (Le.refl _) (by assumption)))) | (refine W.fit (Hs' := [Buf 7 _ ((touchP c (keyP a2)).1.pages.flatMap pgC), box b10 _ _, Buf 7 uA _, box bA _ _, box b3 _ _, box b2 _ _]) (by (repeat' first | exact Sel.nil | apply Sel.k | exact Pick.h | apply Pick.t)) (W.sub ?_ (cutB ⟨b10, _⟩ _ (Le.refl _) (by assumption)))) | (refine W.fit (Hs' := [Buf 7 _ ((touchP c (keyP a2)).1.pages.flatMap pgC), box b11 _ _, Buf 7 uA _, box bA _ _, box b3 _ _, box b2 _ _]) (by (repeat' first | exact Sel.nil | apply Sel.k | exact Pick.h | apply Pick.t)) (W.sub ?_ (cutB ⟨b11, _⟩ _ (Le.refl _) (by assumption)))) | (refine W.fit (Hs' := [Buf 7 _ ((touchP c (keyP a2)).1.pages.flatMap pgC), box b12 _ _, Buf 7 uA _, box bA _ _, box b3 _ _, box b2 _ _]) (by (repeat' first | exact Sel.nil | apply Sel.k | exact Pick.h | apply Pick.t)) (W.sub ?_ (cutB ⟨b12, _⟩ _ (Le.refl _) (by assumption))))
        exact ⟨rfl, rfl, rfl, rfl, rfl, trivial⟩
  · refine W.drawA 11 rfl (fun σ0 hσ0 dσ0 => ?_)
    have fσ0_0 := rb_at 0 rfl hσ0 dσ0
    have fσ0_1 := rb_at 1 rfl hσ0 dσ0
    refine WD.takeL 0 rfl (by decide +kernel) ?_
    refine WL.ldABF (T := Ty) rfl rfl rfl rfl (by first | assumption | exact RB.wide (by assumption) | exact In.rb (by assumption)) rfl (by repeat' constructor) ?_
    refine WL.nilT (WD.takeL 1 rfl (by decide +kernel) (WL.mv rfl rfl (WL.nilT ?_)))
    refine WD.twoL 2 8 rfl rfl (by decide +kernel) ?_ ?_
    · refine WL.callV rfl rfl (fun x p d => key15_c _ _) ?_
      refine WL.nilE ?_
      refine WD.twoL 3 8 rfl rfl (by decide +kernel) ?_ ?_
      · refine WL.callF rfl rfl (fun x p d => admit_c _ _ _ _ _ _ (by assumption) (by assumption) (by first | assumption | omega) (by first | assumption | omega) (by first | assumption | exact ROs.wide (by assumption) | exact ROs.mono (by assumption) (eqh_at 0 rfl p d) | exact ros_at 0 rfl p d | exact ros_at 1 rfl p d | exact ros_at 2 rfl p d | exact ros_at 3 rfl p d | exact ros_at 4 rfl p d) (by assumption)) (fun r4 => ?_)
        refine WL.opens (α := Value × Value) (φ := fun x => r4 = .tuple #[.agg #[.int .i64 _, .int .i64 _, x.1, .int .i64 _, .int .i64 _, .int .i64 _], x.2, .bool _] ∧ SL x.1 _ ∧ SL x.2 _) (ps := fun x => [Buf 7 x.1 _, Buf 3 x.2 _]) 0 rfl (fun h q => q) (by repeat' constructor) ?_
        rintro ⟨u4, kv4⟩ ⟨es4, su4, sk4⟩
        subst es4
        dsimp only [List.cons_append, List.nil_append] at su4 sk4 ⊢
        refine WL.nilSS (WD.takeL 4 rfl (by decide +kernel) (WL.mv rfl rfl (WL.nilT (WD.takeL 5 rfl (by decide +kernel) (WL.extL rfl rfl rfl (WL.nilT (WD.takeL 6 rfl (by decide +kernel) (WL.extL rfl rfl rfl (WL.nilT (WD.takeL 7 rfl (by decide +kernel) (WL.extL rfl rfl rfl (WL.nilT (WD.oneL 8 rfl (by decide +kernel) ?_)))))))))))))
        refine WL.alF (T := Ty) rfl rfl (by repeat' constructor) (fun b5 => ?_)
        refine WL.nilS (WD.oneL 9 rfl (by decide +kernel) ?_)
        refine WL.stAO (T := Ty) (j := 1) rfl rfl rfl rfl (by repeat' first | exact AO.nil | apply AO.cons (by first | rfl | exact SL.one (by assumption))) rfl rfl (by repeat' constructor) (by repeat' constructor) ?_
        refine WL.nilE (WD.takeL 10 rfl (by decide +kernel) (WL.as rfl rfl (WL.nilT ?_)))
        refine WD.lastG hσ0 (by decide +kernel) (by repeat' constructor) rfl (by repeat' constructor) ?_
        refine WL.as rfl rfl (WL.nil ?_)
        first | (refine W.fit (Hs' := [Buf 7 _ (da.pages.flatMap pgC), box b4 _ _, box b3 _ _, box b2 _ _]) (by (repeat' first | exact Sel.nil | apply Sel.k | exact Pick.h | apply Pick.t)) (W.sub ?_ (cutA ⟨b4, _⟩ _ (Le.refl _) (by assumption)))) | (refine W.fit (Hs' := [Buf 7 _ (da.pages.flatMap pgC), box b5 _ _, box b3 _ _, box b2 _ _]) (by (repeat' first | exact Sel.nil | apply Sel.k | exact Pick.h | apply Pick.t)) (W.sub ?_ (cutA ⟨b5, _⟩ _ (Le.refl _) (by assumption)))) | (refine W.fit (Hs' := [Buf 7 _ (da.pages.flatMap pgC), box b6 _ _, box b3 _ _, box b2 _ _]) (by (repeat' first | exact Sel.nil | apply Sel.k | exact Pick.h | apply Pick.t)) (W.sub ?_ (cutA ⟨b6, _⟩ _ (Le.refl _) (by assumption)))) | (refine W.fit (Hs' := [Buf 7 _ (da.pages.flatMap pgC), box b7 _ _, box b3 _ _, box b2 _ _]) (by (repeat' first | exact Sel.nil | apply Sel.k | exact Pick.h | apply Pick.t)) (W.sub ?_ (cutA ⟨b7, _⟩ _ (Le.refl _) (by assumption)))) | (refine W.fit (Hs' := [Buf 7 _ (da.pages.flatMap pgC), box b8 _ _, box b3 _ _, box b2 _ _]) (by (repeat' first | exact Sel.nil | apply Sel.k | exact Pick.h | apply Pick.t)) (W.sub ?_ (cutA ⟨b8, _⟩ _ (Le.refl _) (by assumption)))) | (refine W.fit (Hs' := [Buf 7 _ (da.pages.flatMap pgC), box b9 _ _, box b3 _ _, box b2 _ _]) (by (repeat' first | exact Sel.nil | apply Sel.k | exact Pick.h | apply Pick.t)) (W.sub ?_ (cutA ⟨b9, _⟩ _ (Le.refl _) (by assumption)))) | (refine W.fit (Hs' := [Buf 7 _ (da.pages.flatMap pgC), box b10 _ _, box b3 _ _, box b2 _ _]) (by (repeat' first | exact Sel.nil | apply Sel.k | exact Pick.h | apply Pick.t)) (W.sub ?_ (cutA ⟨b10, _⟩ _ (Le.refl _) (by assumption)))) | (refine W.fit (Hs' := [Buf 7 _ (da.pages.flatMap pgC), box b11 _ _, box b3 _ _, box b2 _ _]) (by (repeat' first | exact Sel.nil | apply Sel.k | exact Pick.h | apply Pick.t)) (W.sub ?_ (cutA ⟨b11, _⟩ _ (Le.refl _) (by assumption)))) | (refine W.fit (Hs' := [Buf 7 _ (da.pages.flatMap pgC), box b12 _ _, box b3 _ _, box b2 _ _]) (by (repeat' first | exact Sel.nil | apply Sel.k | exact Pick.h | apply Pick.t)) (W.sub ?_ (cutA ⟨b12, _⟩ _ (Le.refl _) (by assumption))))
        exact ⟨rfl, rfl, rfl, rfl, trivial⟩
      · refine WL.alF (T := Ty) rfl rfl (by repeat' constructor) (fun b4 => ?_)
        refine WL.nilS (WD.oneL 3 rfl (by decide +kernel) ?_)
        refine WL.callF rfl rfl (fun x p d => admit_c _ _ _ _ _ _ (by assumption) (by assumption) (by first | assumption | omega) (by first | assumption | omega) (by first | assumption | exact ROs.wide (by assumption) | exact ROs.mono (by assumption) (eqh_at 0 rfl p d) | exact ros_at 0 rfl p d | exact ros_at 1 rfl p d | exact ros_at 2 rfl p d | exact ros_at 3 rfl p d | exact ros_at 4 rfl p d) (by assumption)) (fun r5 => ?_)
        refine WL.opens (α := Value × Value) (φ := fun x => r5 = .tuple #[.agg #[.int .i64 _, .int .i64 _, x.1, .int .i64 _, .int .i64 _, .int .i64 _], x.2, .bool _] ∧ SL x.1 _ ∧ SL x.2 _) (ps := fun x => [Buf 7 x.1 _, Buf 3 x.2 _]) 0 rfl (fun h q => q) (by repeat' constructor) ?_
        rintro ⟨u5, kv5⟩ ⟨es5, su5, sk5⟩
        subst es5
        dsimp only [List.cons_append, List.nil_append] at su5 sk5 ⊢
        refine WL.nilSS (WD.takeL 4 rfl (by decide +kernel) (WL.mv rfl rfl (WL.nilT (WD.takeL 5 rfl (by decide +kernel) (WL.extL rfl rfl rfl (WL.nilT (WD.takeL 6 rfl (by decide +kernel) (WL.extL rfl rfl rfl (WL.nilT (WD.takeL 7 rfl (by decide +kernel) (WL.extL rfl rfl rfl (WL.nilT (WD.oneL 9 rfl (by decide +kernel) ?_)))))))))))))
        refine WL.stAO (T := Ty) (j := 3) rfl rfl rfl rfl (by repeat' first | exact AO.nil | apply AO.cons (by first | rfl | exact SL.one (by assumption))) rfl rfl (by repeat' constructor) (by repeat' constructor) ?_
        refine WL.nilE (WD.takeL 10 rfl (by decide +kernel) (WL.as rfl rfl (WL.nilT ?_)))
        refine WD.lastG hσ0 (by decide +kernel) (by repeat' constructor) rfl (by repeat' constructor) ?_
        refine WL.as rfl rfl (WL.nil ?_)
        first | (refine W.fit (Hs' := [Buf 7 _ (da.pages.flatMap pgC), box b4 _ _, box b3 _ _, box b2 _ _]) (by (repeat' first | exact Sel.nil | apply Sel.k | exact Pick.h | apply Pick.t)) (W.sub ?_ (cutA ⟨b4, _⟩ _ (Le.refl _) (by assumption)))) | (refine W.fit (Hs' := [Buf 7 _ (da.pages.flatMap pgC), box b5 _ _, box b3 _ _, box b2 _ _]) (by (repeat' first | exact Sel.nil | apply Sel.k | exact Pick.h | apply Pick.t)) (W.sub ?_ (cutA ⟨b5, _⟩ _ (Le.refl _) (by assumption)))) | (refine W.fit (Hs' := [Buf 7 _ (da.pages.flatMap pgC), box b6 _ _, box b3 _ _, box b2 _ _]) (by (repeat' first | exact Sel.nil | apply Sel.k | exact Pick.h | apply Pick.t)) (W.sub ?_ (cutA ⟨b6, _⟩ _ (Le.refl _) (by assumption)))) | (refine W.fit (Hs' := [Buf 7 _ (da.pages.flatMap pgC), box b7 _ _, box b3 _ _, box b2 _ _]) (by (repeat' first | exact Sel.nil | apply Sel.k | exact Pick.h | apply Pick.t)) (W.sub ?_ (cutA ⟨b7, _⟩ _ (Le.refl _) (by assumption)))) | (refine W.fit (Hs' := [Buf 7 _ (da.pages.flatMap pgC), box b8 _ _, box b3 _ _, box b2 _ _]) (by (repeat' first | exact Sel.nil | apply Sel.k | exact Pick.h | apply Pick.t)) (W.sub ?_ (cutA ⟨b8, _⟩ _ (Le.refl _) (by assumption)))) | (refine W.fit (Hs' := [Buf 7 _ (da.pages.flatMap pgC), box b9 _ _, box b3 _ _, box b2 _ _]) (by (repeat' first | exact Sel.nil | apply Sel.k | exact Pick.h | apply Pick.t)) (W.sub ?_ (cutA ⟨b9, _⟩ _ (Le.refl _) (by assumption)))) | (refine W.fit (Hs' := [Buf 7 _ (da.pages.flatMap pgC), box b10 _ _, box b3 _ _, box b2 _ _]) (by (repeat' first | exact Sel.nil | apply Sel.k | exact Pick.h | apply Pick.t)) (W.sub ?_ (cutA ⟨b10, _⟩ _ (Le.refl _) (by assumption)))) | (refine W.fit (Hs' := [Buf 7 _ (da.pages.flatMap pgC), box b11 _ _, box b3 _ _, box b2 _ _]) (by (repeat' first | exact Sel.nil | apply Sel.k | exact Pick.h | apply Pick.t)) (W.sub ?_ (cutA ⟨b11, _⟩ _ (Le.refl _) (by assumption)))) | (refine W.fit (Hs' := [Buf 7 _ (da.pages.flatMap pgC), box b12 _ _, box b3 _ _, box b2 _ _]) (by (repeat' first | exact Sel.nil | apply Sel.k | exact Pick.h | apply Pick.t)) (W.sub ?_ (cutA ⟨b12, _⟩ _ (Le.refl _) (by assumption))))
        exact ⟨rfl, rfl, rfl, rfl, trivial⟩
    · refine WL.alF (T := Ty) rfl rfl (by repeat' constructor) (fun b4 => ?_)
      refine WL.nilS (WD.oneL 2 rfl (by decide +kernel) ?_)
      refine WL.callV rfl rfl (fun x p d => key15_c _ _) ?_
      refine WL.nilE (WD.oneL 3 rfl (by decide +kernel) ?_)
      refine WL.callF rfl rfl (fun x p d => admit_c _ _ _ _ _ _ (by assumption) (by assumption) (by first | assumption | omega) (by first | assumption | omega) (by first | assumption | exact ROs.wide (by assumption) | exact ROs.mono (by assumption) (eqh_at 0 rfl p d) | exact ros_at 0 rfl p d | exact ros_at 1 rfl p d | exact ros_at 2 rfl p d | exact ros_at 3 rfl p d | exact ros_at 4 rfl p d) (by assumption)) (fun r5 => ?_)
      refine WL.opens (α := Value × Value) (φ := fun x => r5 = .tuple #[.agg #[.int .i64 _, .int .i64 _, x.1, .int .i64 _, .int .i64 _, .int .i64 _], x.2, .bool _] ∧ SL x.1 _ ∧ SL x.2 _) (ps := fun x => [Buf 7 x.1 _, Buf 3 x.2 _]) 0 rfl (fun h q => q) (by repeat' constructor) ?_
      rintro ⟨u5, kv5⟩ ⟨es5, su5, sk5⟩
      subst es5
      dsimp only [List.cons_append, List.nil_append] at su5 sk5 ⊢
      refine WL.nilSS (WD.takeL 4 rfl (by decide +kernel) (WL.mv rfl rfl (WL.nilT (WD.takeL 5 rfl (by decide +kernel) (WL.extL rfl rfl rfl (WL.nilT (WD.takeL 6 rfl (by decide +kernel) (WL.extL rfl rfl rfl (WL.nilT (WD.takeL 7 rfl (by decide +kernel) (WL.extL rfl rfl rfl (WL.nilT (WD.oneL 9 rfl (by decide +kernel) ?_)))))))))))))
      refine WL.stAO (T := Ty) (j := 3) rfl rfl rfl rfl (by repeat' first | exact AO.nil | apply AO.cons (by first | rfl | exact SL.one (by assumption))) rfl rfl (by repeat' constructor) (by repeat' constructor) ?_
      refine WL.nilE (WD.takeL 10 rfl (by decide +kernel) (WL.as rfl rfl (WL.nilT ?_)))
      refine WD.lastG hσ0 (by decide +kernel) (by repeat' constructor) rfl (by repeat' constructor) ?_
      refine WL.as rfl rfl (WL.nil ?_)
      first | (refine W.fit (Hs' := [Buf 7 _ (da.pages.flatMap pgC), box b4 _ _, box b3 _ _, box b2 _ _]) (by (repeat' first | exact Sel.nil | apply Sel.k | exact Pick.h | apply Pick.t)) (W.sub ?_ (cutA ⟨b4, _⟩ _ (Le.refl _) (by assumption)))) | (refine W.fit (Hs' := [Buf 7 _ (da.pages.flatMap pgC), box b5 _ _, box b3 _ _, box b2 _ _]) (by (repeat' first | exact Sel.nil | apply Sel.k | exact Pick.h | apply Pick.t)) (W.sub ?_ (cutA ⟨b5, _⟩ _ (Le.refl _) (by assumption)))) | (refine W.fit (Hs' := [Buf 7 _ (da.pages.flatMap pgC), box b6 _ _, box b3 _ _, box b2 _ _]) (by (repeat' first | exact Sel.nil | apply Sel.k | exact Pick.h | apply Pick.t)) (W.sub ?_ (cutA ⟨b6, _⟩ _ (Le.refl _) (by assumption)))) | (refine W.fit (Hs' := [Buf 7 _ (da.pages.flatMap pgC), box b7 _ _, box b3 _ _, box b2 _ _]) (by (repeat' first | exact Sel.nil | apply Sel.k | exact Pick.h | apply Pick.t)) (W.sub ?_ (cutA ⟨b7, _⟩ _ (Le.refl _) (by assumption)))) | (refine W.fit (Hs' := [Buf 7 _ (da.pages.flatMap pgC), box b8 _ _, box b3 _ _, box b2 _ _]) (by (repeat' first | exact Sel.nil | apply Sel.k | exact Pick.h | apply Pick.t)) (W.sub ?_ (cutA ⟨b8, _⟩ _ (Le.refl _) (by assumption)))) | (refine W.fit (Hs' := [Buf 7 _ (da.pages.flatMap pgC), box b9 _ _, box b3 _ _, box b2 _ _]) (by (repeat' first | exact Sel.nil | apply Sel.k | exact Pick.h | apply Pick.t)) (W.sub ?_ (cutA ⟨b9, _⟩ _ (Le.refl _) (by assumption)))) | (refine W.fit (Hs' := [Buf 7 _ (da.pages.flatMap pgC), box b10 _ _, box b3 _ _, box b2 _ _]) (by (repeat' first | exact Sel.nil | apply Sel.k | exact Pick.h | apply Pick.t)) (W.sub ?_ (cutA ⟨b10, _⟩ _ (Le.refl _) (by assumption)))) | (refine W.fit (Hs' := [Buf 7 _ (da.pages.flatMap pgC), box b11 _ _, box b3 _ _, box b2 _ _]) (by (repeat' first | exact Sel.nil | apply Sel.k | exact Pick.h | apply Pick.t)) (W.sub ?_ (cutA ⟨b11, _⟩ _ (Le.refl _) (by assumption)))) | (refine W.fit (Hs' := [Buf 7 _ (da.pages.flatMap pgC), box b12 _ _, box b3 _ _, box b2 _ _]) (by (repeat' first | exact Sel.nil | apply Sel.k | exact Pick.h | apply Pick.t)) (W.sub ?_ (cutA ⟨b12, _⟩ _ (Le.refl _) (by assumption))))
      exact ⟨rfl, rfl, rfl, rfl, trivial⟩
end Go.Proofs.Ytbebhmdjnneimaa
