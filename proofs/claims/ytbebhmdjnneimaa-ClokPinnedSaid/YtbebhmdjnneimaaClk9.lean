/- A page is looked at, pinned, dropped. -/
import Derived.Test.YtbebhmdjnneimaaStc
import Derived.Test.YtbebhmdjnneimaaNum
import Derived.Test.YtbebhmdjnneimaaTab
import Derived.Test.YtbebhmdjnneimaaClk8
set_option linter.unusedSimpArgs false
set_option linter.unusedVariables false
set_option maxRecDepth 20000
set_option maxHeartbeats 4000000
namespace Go.Proofs.Ytbebhmdjnneimaa
open Go
def touchP (c : Clk) (k : Ky) : Clk × Bool := if 0 ≤ fndK c.pages k then (match c.pages[(fndK c.pages k).toNat]? with | some p => if isRes p = true then (setP c (fndK c.pages k).toNat { p with ref := true }, true) else (c, false) | none => (c, false)) else (c, false)
def pinP (c : Clk) (k : Ky) (n : Int) : Clk × Bool := if 0 ≤ fndK c.pages k then (match c.pages[(fndK c.pages k).toNat]? with | some p => if isRes p = true then (setP c (fndK c.pages k).toNat { p with pins := max (IntKind.i64.wrap (p.pins + n)) 0 }, true) else (c, false) | none => (c, false)) else (c, false)
def dropP (c : Clk) (k : Ky) : Clk × Bool := if 0 ≤ fndK c.pages k then (goesP c (fndK c.pages k).toNat, true) else (c, false)
/-- a clock that is one's own, and whether -/
def OCB (d : Clk × Bool) (r : Value) : HP := fun h => ∃ v, (r = .tuple #[.agg #[.int .i64 d.1.most, .int .i64 d.1.target, v, .int .i64 (d.1.hot : Int), .int .i64 (d.1.cold : Int), .int .i64 (d.1.test : Int)], .bool d.2] ∧ SL v d.1.pages.length) ∧ sepl [Buf 7 v (d.1.pages.flatMap pgC)] h
theorem touch_no {c : Clk} {k : Ky} (h : fndK c.pages k = -1) : touchP c k = (c, false) := by unfold touchP; rw [if_neg (by omega)]
theorem touch_at {c : Clk} {k : Ky} {i : Nat} {p : Pg} (h : fndK c.pages k = (i : Int)) (hp : c.pages[i]? = some p) : touchP c k = if isRes p = true then (setP c i { p with ref := true }, true) else (c, false) := by
 unfold touchP
 rw [h, if_pos (by omega), Int.toNat_natCast, hp]
theorem pin_no {c : Clk} {k : Ky} {n : Int} (h : fndK c.pages k = -1) : pinP c k n = (c, false) := by unfold pinP; rw [if_neg (by omega)]
theorem pin_at {c : Clk} {k : Ky} {n : Int} {i : Nat} {p : Pg} (h : fndK c.pages k = (i : Int)) (hp : c.pages[i]? = some p) : pinP c k n = if isRes p = true then (setP c i { p with pins := max (IntKind.i64.wrap (p.pins + n)) 0 }, true) else (c, false) := by
 unfold pinP
 rw [h, if_pos (by omega), Int.toNat_natCast, hp]
theorem drop_no {c : Clk} {k : Ky} (h : fndK c.pages k = -1) : dropP c k = (c, false) := by unfold dropP; rw [if_neg (by omega)]
theorem drop_at {c : Clk} {k : Ky} {i : Nat} (h : fndK c.pages k = (i : Int)) : dropP c k = (goesP c i, true) := by
 unfold dropP
 rw [h, if_pos (by omega), Int.toNat_natCast]
attribute [local irreducible] W WL Fn Buf ROs SL eptr box Rd Src bndOK WD RB Reads In Own handG handC cnt goesP fndK touchP pinP dropP
theorem touch_c (ρ : Hp) (c : Clk) (v : Value) (k : Ky) (hB : ClkB c) (r0 : ROs ρ 7 v (c.pages.flatMap pgC)) :
  Fn Try.prog 37 #[.agg #[.int .i64 c.most, .int .i64 c.target, v, .int .i64 (c.hot : Int), .int .i64 (c.cold : Int), .int .i64 (c.test : Int)], .agg #[.int .i64 k.a, .int .i64 k.b, .int .i64 k.c]] ρ [] (OCB (touchP c k)) := by
 have hln := hB.ln
 have l1 := pgs_cells c.pages
 have s0 : SL v c.pages.length := r0.sl l1 (by omega)
 refine in37 rfl rfl ?_
 have hk : (⟨k.a, k.b, k.c⟩ : Ky) = k := rfl
 rcases fnd_lt c.pages k with hf | ⟨i, p, hf, hp, hpk⟩
 ·rw [touch_no hf]
  refine W.seq (W.region ?_)
  refine WL.bxF rfl rfl (by repeat' constructor) (fun b0 => ?_)
  refine WL.bxF rfl rfl (by repeat' constructor) (fun b1 => ?_)
  refine WL.alF (T := Ty) rfl rfl (by repeat' constructor) (fun b2 => ?_)
  refine WL.as rfl rfl (WL.nil (W.seq (W.region ?_)))
  refine WL.ldAF (T := Ty) (j := 2) rfl rfl rfl rfl rfl rfl (by repeat' constructor) ?_
  refine WL.ldAF (T := Ty) (j := 1) rfl rfl rfl rfl rfl rfl (by repeat' constructor) ?_
  refine WL.callV rfl rfl (fun x p d => find15_c _ _ _ _ _ _ _ _ _ _ _ (by first | assumption | exact ROs.wide (by assumption) | exact ROs.mono (by assumption) (eqh_at 0 rfl p d) | exact ros_at 0 rfl p d | exact ros_at 1 rfl p d | exact ros_at 2 rfl p d | exact ros_at 3 rfl p d | exact ros_at 4 rfl p d) (by first | assumption | omega)) ?_
  refine WL.as rfl rfl (WL.nil (W.seq (W.seq (W.region (WL.mv rfl rfl (WL.lss rfl rfl rfl (WL.mv rfl rfl ?_)))))))
  rw [hk, hf]
  refine WL.gdN rfl rfl rfl rfl rfl rfl (WL.gdN rfl rfl rfl rfl rfl rfl (WL.gdN rfl rfl rfl rfl rfl rfl (WL.gdN rfl rfl rfl rfl rfl rfl (WL.gdN rfl rfl rfl rfl rfl rfl (WL.gdN rfl rfl rfl rfl rfl rfl (WL.gdN rfl rfl rfl rfl rfl rfl (WL.pickT rfl rfl rfl (WL.nil (W.condT rfl (W.seq (W.region ?_)))))))))))
  refine WL.ldAF (T := Ty) (j := 2) rfl rfl rfl rfl rfl rfl (by repeat' constructor) ?_
  refine WL.callF rfl rfl (fun x p d => still15_c _ _ _ _ _ _ _ _ (by first | assumption | exact ROs.wide (by assumption) | exact ROs.mono (by assumption) (eqh_at 0 rfl p d) | exact ros_at 0 rfl p d | exact ros_at 1 rfl p d | exact ros_at 2 rfl p d | exact ros_at 3 rfl p d | exact ros_at 4 rfl p d) (by first | assumption | omega)) (fun r3 => ?_)
  refine WL.opens (α := Value) (φ := fun v => r3 = .agg #[.int .i64 _, .int .i64 _, v, .int .i64 _, .int .i64 _, .int .i64 _] ∧ SL v _) (ps := fun v => [Buf 7 v _]) 0 rfl (fun h q => q) (by repeat' constructor) ?_
  rintro u3 ⟨es3, su3⟩
  subst es3
  dsimp only [List.cons_append, List.nil_append] at su3 ⊢
  refine WL.stAO (T := Ty) (j := 1) rfl rfl rfl rfl (by repeat' first | exact AO.nil | apply AO.cons (by first | rfl | exact SL.one (by assumption))) rfl rfl (by repeat' constructor) (by repeat' constructor) ?_
  refine WL.as rfl rfl (WL.nil ?_)
  exact W.fit (Hs' := [box b2 _ _, Buf 7 u3 _]) (by (repeat' first | exact Sel.nil | apply Sel.k | exact Pick.h | apply Pick.t)) (W.retC2 (T := Ty) (j := 0) rfl rfl rfl rfl rfl rfl rfl (fun h q => ⟨u3, ⟨rfl, by assumption⟩, q⟩))
 ·rw [touch_at hf hp]
  have hpl := (List.getElem?_eq_some_iff.1 hp).1
  have hrow : ((c.pages.flatMap pgC).drop (((i : Nat) : Int).toNat * 7)).take 7 = pgC p := flat_row pg_len hp
  unfold pgC at hrow
  have hset0 : (c.pages.flatMap pgC).set (((i : Nat) : Int).toNat * 7 + 4) (.bool true) = (c.pages.set i { p with ref := true }).flatMap pgC := flat_set (j := 4) pg_len hp (by decide) rfl
  cases hr : isRes p with
  | false =>
   have hr' : (decide (p.kind = 1) || decide (p.kind = 2)) = false := hr
   rw [if_neg (by decide)]
   refine W.seq (W.region ?_)
   refine WL.bxF rfl rfl (by repeat' constructor) (fun b0 => ?_)
   refine WL.bxF rfl rfl (by repeat' constructor) (fun b1 => ?_)
   refine WL.alF (T := Ty) rfl rfl (by repeat' constructor) (fun b2 => ?_)
   refine WL.as rfl rfl (WL.nil (W.seq (W.region ?_)))
   refine WL.ldAF (T := Ty) (j := 2) rfl rfl rfl rfl rfl rfl (by repeat' constructor) ?_
   refine WL.ldAF (T := Ty) (j := 1) rfl rfl rfl rfl rfl rfl (by repeat' constructor) ?_
   refine WL.callV rfl rfl (fun x p d => find15_c _ _ _ _ _ _ _ _ _ _ _ (by first | assumption | exact ROs.wide (by assumption) | exact ROs.mono (by assumption) (eqh_at 0 rfl p d) | exact ros_at 0 rfl p d | exact ros_at 1 rfl p d | exact ros_at 2 rfl p d | exact ros_at 3 rfl p d | exact ros_at 4 rfl p d) (by first | assumption | omega)) ?_
   refine WL.as rfl rfl (WL.nil (W.seq (W.seq (W.region (WL.mv rfl rfl (WL.lss rfl rfl rfl (WL.mv rfl rfl ?_)))))))
   rw [hk, hf]
   refine WL.gY rfl rfl (WL.faN (T := Ty) (off' := 2) rfl rfl rfl rfl rfl rfl rfl (WL.gY rfl rfl (WL.ldN (T := Ty) (j := 2) rfl rfl rfl rfl rfl rfl (WL.gY rfl rfl (WL.mv rfl rfl (WL.gY rfl rfl ?_))))))
   refine WL.ix (T := Ty) rfl rfl rfl (by assumption) rfl rfl (by omega) (by first | omega | decide +kernel) ?_
   refine WL.gY rfl rfl ?_
   refine WL.ldAR (T := Ty) rfl rfl rfl rfl (by first | assumption | exact ROs.wide (by assumption)) (by assumption) rfl ?_
   refine WL.gY rfl rfl ?_
   refine WL.callV rfl rfl (fun x p d => residentX_c _ _ _ _ _ _ _ _) ?_
   refine WL.gY rfl rfl (WL.not rfl rfl (WL.pickF rfl rfl rfl (WL.nil ?_)))
   rw [hr']
   refine W.condT rfl (W.seq (W.region ?_))
   refine WL.ldAF (T := Ty) (j := 2) rfl rfl rfl rfl rfl rfl (by repeat' constructor) ?_
   refine WL.callF rfl rfl (fun x p d => still15_c _ _ _ _ _ _ _ _ (by first | assumption | exact ROs.wide (by assumption) | exact ROs.mono (by assumption) (eqh_at 0 rfl p d) | exact ros_at 0 rfl p d | exact ros_at 1 rfl p d | exact ros_at 2 rfl p d | exact ros_at 3 rfl p d | exact ros_at 4 rfl p d) (by first | assumption | omega)) (fun r3 => ?_)
   refine WL.opens (α := Value) (φ := fun v => r3 = .agg #[.int .i64 _, .int .i64 _, v, .int .i64 _, .int .i64 _, .int .i64 _] ∧ SL v _) (ps := fun v => [Buf 7 v _]) 0 rfl (fun h q => q) (by repeat' constructor) ?_
   rintro u3 ⟨es3, su3⟩
   subst es3
   dsimp only [List.cons_append, List.nil_append] at su3 ⊢
   refine WL.stAO (T := Ty) (j := 1) rfl rfl rfl rfl (by repeat' first | exact AO.nil | apply AO.cons (by first | rfl | exact SL.one (by assumption))) rfl rfl (by repeat' constructor) (by repeat' constructor) ?_
   refine WL.as rfl rfl (WL.nil ?_)
   exact W.fit (Hs' := [box b2 _ _, Buf 7 u3 _]) (by (repeat' first | exact Sel.nil | apply Sel.k | exact Pick.h | apply Pick.t)) (W.retC2 (T := Ty) (j := 0) rfl rfl rfl rfl rfl rfl rfl (fun h q => ⟨u3, ⟨rfl, by assumption⟩, q⟩))
  | true =>
   have hr' : (decide (p.kind = 1) || decide (p.kind = 2)) = true := hr
   rw [if_pos rfl]
   refine W.seq (W.region ?_)
   refine WL.bxF rfl rfl (by repeat' constructor) (fun b0 => ?_)
   refine WL.bxF rfl rfl (by repeat' constructor) (fun b1 => ?_)
   refine WL.alF (T := Ty) rfl rfl (by repeat' constructor) (fun b2 => ?_)
   refine WL.as rfl rfl (WL.nil (W.seq (W.region ?_)))
   refine WL.ldAF (T := Ty) (j := 2) rfl rfl rfl rfl rfl rfl (by repeat' constructor) ?_
   refine WL.ldAF (T := Ty) (j := 1) rfl rfl rfl rfl rfl rfl (by repeat' constructor) ?_
   refine WL.callV rfl rfl (fun x p d => find15_c _ _ _ _ _ _ _ _ _ _ _ (by first | assumption | exact ROs.wide (by assumption) | exact ROs.mono (by assumption) (eqh_at 0 rfl p d) | exact ros_at 0 rfl p d | exact ros_at 1 rfl p d | exact ros_at 2 rfl p d | exact ros_at 3 rfl p d | exact ros_at 4 rfl p d) (by first | assumption | omega)) ?_
   refine WL.as rfl rfl (WL.nil (W.seq (W.seq (W.region (WL.mv rfl rfl (WL.lss rfl rfl rfl (WL.mv rfl rfl ?_)))))))
   rw [hk, hf]
   refine WL.gY rfl rfl (WL.faN (T := Ty) (off' := 2) rfl rfl rfl rfl rfl rfl rfl (WL.gY rfl rfl (WL.ldN (T := Ty) (j := 2) rfl rfl rfl rfl rfl rfl (WL.gY rfl rfl (WL.mv rfl rfl (WL.gY rfl rfl ?_))))))
   refine WL.ix (T := Ty) rfl rfl rfl (by assumption) rfl rfl (by omega) (by first | omega | decide +kernel) ?_
   refine WL.gY rfl rfl ?_
   refine WL.ldAR (T := Ty) rfl rfl rfl rfl (by first | assumption | exact ROs.wide (by assumption)) (by assumption) rfl ?_
   refine WL.gY rfl rfl ?_
   refine WL.callV rfl rfl (fun x p d => residentX_c _ _ _ _ _ _ _ _) ?_
   refine WL.gY rfl rfl (WL.not rfl rfl (WL.pickF rfl rfl rfl (WL.nil ?_)))
   rw [hr']
   refine W.condF rfl (W.skip (W.seq (W.region ?_)))
   refine WL.ldAF (T := Ty) (j := 2) rfl rfl rfl rfl rfl rfl (by repeat' constructor) ?_
   refine WL.callF rfl rfl (fun x p d => still15_c _ _ _ _ _ _ _ _ (by first | assumption | exact ROs.wide (by assumption) | exact ROs.mono (by assumption) (eqh_at 0 rfl p d) | exact ros_at 0 rfl p d | exact ros_at 1 rfl p d | exact ros_at 2 rfl p d | exact ros_at 3 rfl p d | exact ros_at 4 rfl p d) (by first | assumption | omega)) (fun r3 => ?_)
   refine WL.opens (α := Value) (φ := fun v => r3 = .agg #[.int .i64 _, .int .i64 _, v, .int .i64 _, .int .i64 _, .int .i64 _] ∧ SL v _) (ps := fun v => [Buf 7 v _]) 0 rfl (fun h q => q) (by repeat' constructor) ?_
   rintro u3 ⟨es3, su3⟩
   subst es3
   dsimp only [List.cons_append, List.nil_append] at su3 ⊢
   refine WL.stAO (T := Ty) (j := 3) rfl rfl rfl rfl (by repeat' first | exact AO.nil | apply AO.cons (by first | rfl | exact SL.one (by assumption))) rfl rfl (by repeat' constructor) (by repeat' constructor) ?_
   refine WL.nil (W.seq (W.region (WL.faN (T := Ty) (off' := 2) rfl rfl rfl rfl rfl rfl rfl (WL.ldN (T := Ty) (j := 3) rfl rfl rfl rfl rfl rfl (WL.mv rfl rfl ?_)))))
   refine WL.ix (T := Ty) rfl rfl rfl (by assumption) rfl rfl (by omega) (by first | omega | decide +kernel) ?_
   refine WL.faEN (T := Ty) (off' := 4) rfl rfl rfl rfl rfl rfl rfl ?_
   refine WL.stEF (T := Ty) (j := 0) rfl rfl rfl rfl rfl rfl (by first | assumption | omega | (simp only [List.length_set]; omega) | (simp; omega)) rfl (by repeat' constructor) ?_
   refine WL.nil (W.seq (W.region ?_))
   refine WL.ldAF (T := Ty) (j := 3) rfl rfl rfl rfl rfl rfl (by repeat' constructor) ?_
   refine WL.stAO (T := Ty) (j := 1) rfl rfl rfl rfl (by repeat' first | exact AO.nil | apply AO.cons (by first | rfl | exact SL.one (by assumption))) rfl rfl (by repeat' constructor) (by repeat' constructor) ?_
   refine WL.as rfl rfl (WL.nil ?_)
   rw [hset0]
   exact W.fit (Hs' := [box b2 _ _, Buf 7 u3 _]) (by (repeat' first | exact Sel.nil | apply Sel.k | exact Pick.h | apply Pick.t)) (W.retC2 (T := Ty) (j := 0) rfl rfl rfl rfl rfl rfl rfl (fun h q => ⟨u3, ⟨rfl, by unfold setP; dsimp only; rw [List.length_set]; assumption⟩, q⟩))
theorem pin_c (ρ : Hp) (c : Clk) (v : Value) (k : Ky) (m : Int) (hB : ClkB c) (r0 : ROs ρ 7 v (c.pages.flatMap pgC)) :
  Fn Try.prog 31 #[.agg #[.int .i64 c.most, .int .i64 c.target, v, .int .i64 (c.hot : Int), .int .i64 (c.cold : Int), .int .i64 (c.test : Int)], .agg #[.int .i64 k.a, .int .i64 k.b, .int .i64 k.c], .int .i64 m] ρ [] (OCB (pinP c k m)) := by
 have hln := hB.ln
 have l1 := pgs_cells c.pages
 have s0 : SL v c.pages.length := r0.sl l1 (by omega)
 refine in31 rfl rfl ?_
 have hk : (⟨k.a, k.b, k.c⟩ : Ky) = k := rfl
 rcases fnd_lt c.pages k with hf | ⟨i, p, hf, hp, hpk⟩
 ·rw [pin_no hf]
  refine W.seq (W.region ?_)
  refine WL.bxF rfl rfl (by repeat' constructor) (fun b0 => ?_)
  refine WL.bxF rfl rfl (by repeat' constructor) (fun b1 => ?_)
  refine WL.alF (T := Ty) rfl rfl (by repeat' constructor) (fun b2 => ?_)
  refine WL.as rfl rfl (WL.nil (W.seq (W.region ?_)))
  refine WL.ldAF (T := Ty) (j := 2) rfl rfl rfl rfl rfl rfl (by repeat' constructor) ?_
  refine WL.ldAF (T := Ty) (j := 1) rfl rfl rfl rfl rfl rfl (by repeat' constructor) ?_
  refine WL.callV rfl rfl (fun x p d => find15_c _ _ _ _ _ _ _ _ _ _ _ (by first | assumption | exact ROs.wide (by assumption) | exact ROs.mono (by assumption) (eqh_at 0 rfl p d) | exact ros_at 0 rfl p d | exact ros_at 1 rfl p d | exact ros_at 2 rfl p d | exact ros_at 3 rfl p d | exact ros_at 4 rfl p d) (by first | assumption | omega)) ?_
  refine WL.as rfl rfl (WL.nil (W.seq (W.seq (W.region (WL.mv rfl rfl (WL.lss rfl rfl rfl (WL.mv rfl rfl ?_)))))))
  rw [hk, hf]
  refine WL.gdN rfl rfl rfl rfl rfl rfl (WL.gdN rfl rfl rfl rfl rfl rfl (WL.gdN rfl rfl rfl rfl rfl rfl (WL.gdN rfl rfl rfl rfl rfl rfl (WL.gdN rfl rfl rfl rfl rfl rfl (WL.gdN rfl rfl rfl rfl rfl rfl (WL.gdN rfl rfl rfl rfl rfl rfl (WL.pickT rfl rfl rfl (WL.nil (W.condT rfl (W.seq (W.region ?_)))))))))))
  refine WL.ldAF (T := Ty) (j := 2) rfl rfl rfl rfl rfl rfl (by repeat' constructor) ?_
  refine WL.callF rfl rfl (fun x p d => still15_c _ _ _ _ _ _ _ _ (by first | assumption | exact ROs.wide (by assumption) | exact ROs.mono (by assumption) (eqh_at 0 rfl p d) | exact ros_at 0 rfl p d | exact ros_at 1 rfl p d | exact ros_at 2 rfl p d | exact ros_at 3 rfl p d | exact ros_at 4 rfl p d) (by first | assumption | omega)) (fun r3 => ?_)
  refine WL.opens (α := Value) (φ := fun v => r3 = .agg #[.int .i64 _, .int .i64 _, v, .int .i64 _, .int .i64 _, .int .i64 _] ∧ SL v _) (ps := fun v => [Buf 7 v _]) 0 rfl (fun h q => q) (by repeat' constructor) ?_
  rintro u3 ⟨es3, su3⟩
  subst es3
  dsimp only [List.cons_append, List.nil_append] at su3 ⊢
  refine WL.stAO (T := Ty) (j := 1) rfl rfl rfl rfl (by repeat' first | exact AO.nil | apply AO.cons (by first | rfl | exact SL.one (by assumption))) rfl rfl (by repeat' constructor) (by repeat' constructor) ?_
  refine WL.as rfl rfl (WL.nil ?_)
  exact W.fit (Hs' := [box b2 _ _, Buf 7 u3 _]) (by (repeat' first | exact Sel.nil | apply Sel.k | exact Pick.h | apply Pick.t)) (W.retC2 (T := Ty) (j := 0) rfl rfl rfl rfl rfl rfl rfl (fun h q => ⟨u3, ⟨rfl, by assumption⟩, q⟩))
 ·rw [pin_at hf hp]
  have hpl := (List.getElem?_eq_some_iff.1 hp).1
  have hrow : ((c.pages.flatMap pgC).drop (((i : Nat) : Int).toNat * 7)).take 7 = pgC p := flat_row pg_len hp
  have g6 : (c.pages.flatMap pgC)[((i : Nat) : Int).toNat * 7 + 6]? = some (.int .i64 p.pins) := flat_get pg_len hp rfl
  unfold pgC at hrow
  have hset0 : (c.pages.flatMap pgC).set (((i : Nat) : Int).toNat * 7 + 6) (.int .i64 (max (IntKind.i64.wrap (p.pins + m)) 0)) = (c.pages.set i { p with pins := max (IntKind.i64.wrap (p.pins + m)) 0 }).flatMap pgC := flat_set (j := 6) pg_len hp (by decide) rfl
  cases hr : isRes p with
  | false =>
   have hr' : (decide (p.kind = 1) || decide (p.kind = 2)) = false := hr
   rw [if_neg (by decide)]
   refine W.seq (W.region ?_)
   refine WL.bxF rfl rfl (by repeat' constructor) (fun b0 => ?_)
   refine WL.bxF rfl rfl (by repeat' constructor) (fun b1 => ?_)
   refine WL.alF (T := Ty) rfl rfl (by repeat' constructor) (fun b2 => ?_)
   refine WL.as rfl rfl (WL.nil (W.seq (W.region ?_)))
   refine WL.ldAF (T := Ty) (j := 2) rfl rfl rfl rfl rfl rfl (by repeat' constructor) ?_
   refine WL.ldAF (T := Ty) (j := 1) rfl rfl rfl rfl rfl rfl (by repeat' constructor) ?_
   refine WL.callV rfl rfl (fun x p d => find15_c _ _ _ _ _ _ _ _ _ _ _ (by first | assumption | exact ROs.wide (by assumption) | exact ROs.mono (by assumption) (eqh_at 0 rfl p d) | exact ros_at 0 rfl p d | exact ros_at 1 rfl p d | exact ros_at 2 rfl p d | exact ros_at 3 rfl p d | exact ros_at 4 rfl p d) (by first | assumption | omega)) ?_
   refine WL.as rfl rfl (WL.nil (W.seq (W.seq (W.region (WL.mv rfl rfl (WL.lss rfl rfl rfl (WL.mv rfl rfl ?_)))))))
   rw [hk, hf]
   refine WL.gY rfl rfl (WL.faN (T := Ty) (off' := 2) rfl rfl rfl rfl rfl rfl rfl (WL.gY rfl rfl (WL.ldN (T := Ty) (j := 2) rfl rfl rfl rfl rfl rfl (WL.gY rfl rfl (WL.mv rfl rfl (WL.gY rfl rfl ?_))))))
   refine WL.ix (T := Ty) rfl rfl rfl (by assumption) rfl rfl (by omega) (by first | omega | decide +kernel) ?_
   refine WL.gY rfl rfl ?_
   refine WL.ldAR (T := Ty) rfl rfl rfl rfl (by first | assumption | exact ROs.wide (by assumption)) (by assumption) rfl ?_
   refine WL.gY rfl rfl ?_
   refine WL.callV rfl rfl (fun x p d => residentX_c _ _ _ _ _ _ _ _) ?_
   refine WL.gY rfl rfl (WL.not rfl rfl (WL.pickF rfl rfl rfl (WL.nil ?_)))
   rw [hr']
   refine W.condT rfl (W.seq (W.region ?_))
   refine WL.ldAF (T := Ty) (j := 2) rfl rfl rfl rfl rfl rfl (by repeat' constructor) ?_
   refine WL.callF rfl rfl (fun x p d => still15_c _ _ _ _ _ _ _ _ (by first | assumption | exact ROs.wide (by assumption) | exact ROs.mono (by assumption) (eqh_at 0 rfl p d) | exact ros_at 0 rfl p d | exact ros_at 1 rfl p d | exact ros_at 2 rfl p d | exact ros_at 3 rfl p d | exact ros_at 4 rfl p d) (by first | assumption | omega)) (fun r3 => ?_)
   refine WL.opens (α := Value) (φ := fun v => r3 = .agg #[.int .i64 _, .int .i64 _, v, .int .i64 _, .int .i64 _, .int .i64 _] ∧ SL v _) (ps := fun v => [Buf 7 v _]) 0 rfl (fun h q => q) (by repeat' constructor) ?_
   rintro u3 ⟨es3, su3⟩
   subst es3
   dsimp only [List.cons_append, List.nil_append] at su3 ⊢
   refine WL.stAO (T := Ty) (j := 1) rfl rfl rfl rfl (by repeat' first | exact AO.nil | apply AO.cons (by first | rfl | exact SL.one (by assumption))) rfl rfl (by repeat' constructor) (by repeat' constructor) ?_
   refine WL.as rfl rfl (WL.nil ?_)
   exact W.fit (Hs' := [box b2 _ _, Buf 7 u3 _]) (by (repeat' first | exact Sel.nil | apply Sel.k | exact Pick.h | apply Pick.t)) (W.retC2 (T := Ty) (j := 0) rfl rfl rfl rfl rfl rfl rfl (fun h q => ⟨u3, ⟨rfl, by assumption⟩, q⟩))
  | true =>
   have hr' : (decide (p.kind = 1) || decide (p.kind = 2)) = true := hr
   rw [if_pos rfl]
   refine W.seq (W.region ?_)
   refine WL.bxF rfl rfl (by repeat' constructor) (fun b0 => ?_)
   refine WL.bxF rfl rfl (by repeat' constructor) (fun b1 => ?_)
   refine WL.alF (T := Ty) rfl rfl (by repeat' constructor) (fun b2 => ?_)
   refine WL.as rfl rfl (WL.nil (W.seq (W.region ?_)))
   refine WL.ldAF (T := Ty) (j := 2) rfl rfl rfl rfl rfl rfl (by repeat' constructor) ?_
   refine WL.ldAF (T := Ty) (j := 1) rfl rfl rfl rfl rfl rfl (by repeat' constructor) ?_
   refine WL.callV rfl rfl (fun x p d => find15_c _ _ _ _ _ _ _ _ _ _ _ (by first | assumption | exact ROs.wide (by assumption) | exact ROs.mono (by assumption) (eqh_at 0 rfl p d) | exact ros_at 0 rfl p d | exact ros_at 1 rfl p d | exact ros_at 2 rfl p d | exact ros_at 3 rfl p d | exact ros_at 4 rfl p d) (by first | assumption | omega)) ?_
   refine WL.as rfl rfl (WL.nil (W.seq (W.seq (W.region (WL.mv rfl rfl (WL.lss rfl rfl rfl (WL.mv rfl rfl ?_)))))))
   rw [hk, hf]
   refine WL.gY rfl rfl (WL.faN (T := Ty) (off' := 2) rfl rfl rfl rfl rfl rfl rfl (WL.gY rfl rfl (WL.ldN (T := Ty) (j := 2) rfl rfl rfl rfl rfl rfl (WL.gY rfl rfl (WL.mv rfl rfl (WL.gY rfl rfl ?_))))))
   refine WL.ix (T := Ty) rfl rfl rfl (by assumption) rfl rfl (by omega) (by first | omega | decide +kernel) ?_
   refine WL.gY rfl rfl ?_
   refine WL.ldAR (T := Ty) rfl rfl rfl rfl (by first | assumption | exact ROs.wide (by assumption)) (by assumption) rfl ?_
   refine WL.gY rfl rfl ?_
   refine WL.callV rfl rfl (fun x p d => residentX_c _ _ _ _ _ _ _ _) ?_
   refine WL.gY rfl rfl (WL.not rfl rfl (WL.pickF rfl rfl rfl (WL.nil ?_)))
   rw [hr']
   refine W.condF rfl (W.skip (W.seq (W.region ?_)))
   refine WL.ldAF (T := Ty) (j := 2) rfl rfl rfl rfl rfl rfl (by repeat' constructor) ?_
   refine WL.callF rfl rfl (fun x p d => still15_c _ _ _ _ _ _ _ _ (by first | assumption | exact ROs.wide (by assumption) | exact ROs.mono (by assumption) (eqh_at 0 rfl p d) | exact ros_at 0 rfl p d | exact ros_at 1 rfl p d | exact ros_at 2 rfl p d | exact ros_at 3 rfl p d | exact ros_at 4 rfl p d) (by first | assumption | omega)) (fun r3 => ?_)
   refine WL.opens (α := Value) (φ := fun v => r3 = .agg #[.int .i64 _, .int .i64 _, v, .int .i64 _, .int .i64 _, .int .i64 _] ∧ SL v _) (ps := fun v => [Buf 7 v _]) 0 rfl (fun h q => q) (by repeat' constructor) ?_
   rintro u3 ⟨es3, su3⟩
   subst es3
   dsimp only [List.cons_append, List.nil_append] at su3 ⊢
   refine WL.stAO (T := Ty) (j := 3) rfl rfl rfl rfl (by repeat' first | exact AO.nil | apply AO.cons (by first | rfl | exact SL.one (by assumption))) rfl rfl (by repeat' constructor) (by repeat' constructor) ?_
   refine WL.nil (W.seq ?_)
   refine W.drawA 12 rfl (fun σ0 hσ0 dσ0 => ?_)
   have fσ0_0 := ros_at 0 rfl hσ0 dσ0
   have fσ0_1 := rb_at 1 rfl hσ0 dσ0
   have fσ0_2 := rb_at 2 rfl hσ0 dσ0
   have fσ0_3 := rb_at 3 rfl hσ0 dσ0
   refine WD.takeL 0 rfl (by decide +kernel) (WL.faN (T := Ty) (off' := 2) rfl rfl rfl rfl rfl rfl rfl (WL.nilT (WD.takeL 1 rfl (by decide +kernel) ?_)))
   refine WL.ldBN (T := Ty) rfl rfl rfl rfl (by first | assumption | exact RB.wide (by assumption) | exact In.rb (by assumption)) rfl ?_
   refine WL.nilT (WD.takeL 2 rfl (by decide +kernel) (WL.mv rfl rfl (WL.nilT (WD.takeL 3 rfl (by decide +kernel) (WL.faN (T := Ty) (off' := 2) rfl rfl rfl rfl rfl rfl rfl (WL.nilT (WD.takeL 4 rfl (by decide +kernel) ?_)))))))
   refine WL.ldBN (T := Ty) rfl rfl rfl rfl (by first | assumption | exact RB.wide (by assumption) | exact In.rb (by assumption)) rfl ?_
   refine WL.nilT (WD.takeL 5 rfl (by decide +kernel) (WL.mv rfl rfl (WL.nilT (WD.takeL 6 rfl (by decide +kernel) ?_))))
   refine WL.ix (T := Ty) rfl rfl rfl (by assumption) rfl rfl (by omega) (by first | omega | decide +kernel) ?_
   refine WL.nilT (WD.takeL 7 rfl (by decide +kernel) (WL.faEN (T := Ty) (off' := 6) rfl rfl rfl rfl rfl rfl rfl (WL.nilT (WD.takeL 8 rfl (by decide +kernel) ?_))))
   refine WL.ldR (T := Ty) rfl rfl rfl rfl (by first | assumption | exact ROs.wide (by assumption)) (by assumption) ?_
   refine WL.nilT (WD.takeL 9 rfl (by decide +kernel) (WL.mv rfl rfl (WL.nilT (WD.takeL 10 rfl (by decide +kernel) (WL.add (K := .i64) rfl rfl rfl (WL.nilT (WD.takeL 11 rfl (by decide +kernel) (WL.mx rfl rfl rfl (WL.nilT ?_)))))))))
   refine WD.lastG hσ0 (by decide +kernel) (by repeat' constructor) rfl (by repeat' constructor) ?_
   refine WL.ix (T := Ty) rfl rfl rfl (by assumption) rfl rfl (by omega) (by first | omega | decide +kernel) ?_
   refine WL.faEN (T := Ty) (off' := 6) rfl rfl rfl rfl rfl rfl rfl ?_
   refine WL.stEF (T := Ty) (j := 0) rfl rfl rfl rfl rfl rfl (by first | assumption | omega | (simp only [List.length_set]; omega) | (simp; omega)) rfl (by repeat' constructor) ?_
   refine WL.nil (W.seq (W.region ?_))
   refine WL.ldAF (T := Ty) (j := 3) rfl rfl rfl rfl rfl rfl (by repeat' constructor) ?_
   refine WL.stAO (T := Ty) (j := 1) rfl rfl rfl rfl (by repeat' first | exact AO.nil | apply AO.cons (by first | rfl | exact SL.one (by assumption))) rfl rfl (by repeat' constructor) (by repeat' constructor) ?_
   refine WL.as rfl rfl (WL.nil ?_)
   rw [hset0]
   exact W.fit (Hs' := [box b2 _ _, Buf 7 u3 _]) (by (repeat' first | exact Sel.nil | apply Sel.k | exact Pick.h | apply Pick.t)) (W.retC2 (T := Ty) (j := 0) rfl rfl rfl rfl rfl rfl rfl (fun h q => ⟨u3, ⟨rfl, by unfold setP; dsimp only; rw [List.length_set]; assumption⟩, q⟩))
end Go.Proofs.Ytbebhmdjnneimaa
/- A pin, where its answer is known. -/
set_option linter.unusedSimpArgs false
set_option linter.unusedVariables false
set_option maxRecDepth 20000
set_option maxHeartbeats 4000000
namespace Go.Proofs.Ytbebhmdjnneimaa
open Go
attribute [local irreducible] W WL Fn Buf ROs SL eptr box Rd Src bndOK WD RB Reads In Own fndK pinP
theorem pin_e (ρ : Hp) (c : Clk) (v : Value) (k : Ky) (m : Int) (d : Clk) (ok : Bool) (hB : ClkB c) (r0 : ROs ρ 7 v (c.pages.flatMap pgC)) (hd : pinP c k m = (d, ok)) :
  Fn Try.prog 31 #[.agg #[.int .i64 c.most, .int .i64 c.target, v, .int .i64 (c.hot : Int), .int .i64 (c.cold : Int), .int .i64 (c.test : Int)], .agg #[.int .i64 k.a, .int .i64 k.b, .int .i64 k.c], .int .i64 m] ρ [] (fun r h => ∃ v, (r = .tuple #[.agg #[.int .i64 d.most, .int .i64 d.target, v, .int .i64 (d.hot : Int), .int .i64 (d.cold : Int), .int .i64 (d.test : Int)], .bool ok] ∧ SL v d.pages.length) ∧ sepl [Buf 7 v (d.pages.flatMap pgC)] h) := by
 have := pin_c ρ c v k m hB r0
 rw [hd] at this
 exact this
end Go.Proofs.Ytbebhmdjnneimaa
