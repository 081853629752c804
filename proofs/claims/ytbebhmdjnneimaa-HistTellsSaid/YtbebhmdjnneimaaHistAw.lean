/- What the document fixes of histories. -/
import Derived.Test.YtbebhmdjnneimaaStc
import Derived.Test.YtbebhmdjnneimaaNum
import Derived.Test.YtbebhmdjnneimaaTab
import Derived.Test.YtbebhmdjnneimaaHistK
set_option linter.unusedSimpArgs false
set_option linter.unusedVariables false
set_option maxRecDepth 20000
set_option maxHeartbeats 4000000
namespace Go.Proofs.Ytbebhmdjnneimaa
open Go
def oZ : MOp := ⟨0, 0, 0, 0, 0, 0, 0, 0⟩
def rZ : Rst := ⟨0, 0, []⟩
def eA : Evt := ⟨1, 1, 0, ⟨1, 1, 0, 1, 2, 0, 0, 0⟩, rZ⟩
def eB : Evt := ⟨2, 1, 0, oZ, rZ⟩
def eC : Evt := ⟨1, 2, 0, ⟨2, 1, 0, 0, 0, 0, 9, 0⟩, rZ⟩
def eD : Evt := ⟨2, 2, 0, oZ, ⟨0, 0, [(1, 2)]⟩⟩
def eE : Evt := ⟨2, 2, 0, oZ, ⟨3, 0, []⟩⟩
theorem aw_r (u w : Value) : rpl [(eA, u), (eC, w)] [(1, 0), (2, 0)] 2 = (⟨[⟨1, false, true, 1, [(1, 2)]⟩], [], 0⟩, [⟨0, 0, []⟩, ⟨0, 0, [(1, 2)]⟩]) := rfl
theorem aw_1 (u : Value) : chkH [(eA, nilV), (eB, nilV), (eC, nilV), (eD, u)] [(1, 0), (2, 0)] = true := by rfl
theorem aw_2 : chkH [(eA, nilV), (eB, nilV), (eC, nilV), (eE, nilV)] [(2, 0), (1, 0)] = false := by rfl
theorem aw_3 : chkH [(eA, nilV), (eC, nilV), (eB, nilV), (eE, nilV)] [(2, 0), (1, 0)] = true := by rfl
theorem aw_4 : chkH [(eA, nilV), (eB, nilV)] [] = false := by rfl
theorem aw_5 : chkH [] [] = true := by rfl
theorem map_two {α β : Type} {a b : α} {R : List (α × β)} (h : R.map Prod.fst = [a, b]) : ∃ u w, R = [(a, u), (b, w)] := by
 rcases R with _ | ⟨⟨x, u⟩, _ | ⟨⟨y, w⟩, _ | ⟨z, R⟩⟩⟩ <;> simp at h
 obtain ⟨rfl, rfl⟩ := h
 exact ⟨u, w, rfl⟩
def okL (ρ : Hp) (L : List (Evt × Value)) : Prop := ∀ p ∈ L, ROs ρ 2 p.2 (p.1.res.list.flatMap smC) ∧ p.1.res.list.length ≤ 100000
theorem okL.nil {ρ : Hp} : okL ρ [] := fun p h => by cases h
theorem okL.z {ρ : Hp} {e : Evt} {L : List (Evt × Value)} (h : e.res.list = []) (q : okL ρ L) : okL ρ ((e, nilV) :: L) := by
 intro p hp
 rcases List.mem_cons.1 hp with rfl | hp
 ·rw [h]; exact ⟨ros_nil2 ρ, by simp⟩
 ·exact q p hp
theorem okL.c {ρ : Hp} {e : Evt} {u : Value} {L : List (Evt × Value)} (h : ROs ρ 2 u (e.res.list.flatMap smC)) (h2 : e.res.list.length ≤ 100000) (q : okL ρ L) : okL ρ ((e, u) :: L) := by
 intro p hp
 rcases List.mem_cons.1 hp with rfl | hp
 ·exact ⟨h, h2⟩
 ·exact q p hp
theorem rosN (ρ : Hp) (sz : Nat) : ROs ρ sz nilV [] := .inl ⟨rfl, rfl⟩
attribute [local irreducible] W WL Fn Buf ROs SL eptr box Rd Src bndOK WD RB Reads In Own Pm doM chkH rpl
theorem awake25_c (ρ : Hp) : Fn Try.prog 26 #[] ρ [] (Just (.bool true)) := by
 refine in26 rfl rfl ?_
 refine W.seq (W.region (WL.as rfl rfl (WL.nil (W.seq (W.region ?_)))))
 refine WL.bdC (T := Ty) rfl rfl rfl rfl (by repeat' first | exact CO.nil | apply CO.one (by first | rfl | exact SL.one (by assumption)) | apply CO.agg) rfl (by repeat' constructor) ?_
 refine WL.bdC (T := Ty) rfl rfl rfl rfl (by repeat' first | exact CO.nil | apply CO.one (by first | rfl | exact SL.one (by assumption)) | apply CO.agg) rfl (by repeat' constructor) ?_
 refine WL.alF (T := Ty) rfl rfl (by repeat' constructor) (fun b0 => ?_)
 refine WL.stAO (T := Ty) (j := 0) rfl rfl rfl rfl (by repeat' first | exact AO.nil | apply AO.cons (by first | rfl | exact SL.one (by assumption))) rfl rfl (by repeat' constructor) (by repeat' constructor) ?_
 refine WL.nil (W.seq (W.region ?_))
 refine WL.bdC (T := Ty) rfl rfl rfl rfl (by repeat' first | exact CO.nil | apply CO.one (by first | rfl | exact SL.one (by assumption)) | apply CO.agg) rfl (by repeat' constructor) ?_
 refine WL.alF (T := Ty) rfl rfl (by repeat' constructor) (fun b1 => ?_)
 refine WL.stAO (T := Ty) (j := 0) rfl rfl rfl rfl (by repeat' first | exact AO.nil | apply AO.cons (by first | rfl | exact SL.one (by assumption))) rfl rfl (by repeat' constructor) (by repeat' constructor) ?_
 refine WL.nil (W.seq (W.region ?_))
 refine WL.bdC (T := Ty) rfl rfl rfl rfl (by repeat' first | exact CO.nil | apply CO.one (by first | rfl | exact SL.one (by assumption)) | apply CO.agg) rfl (by repeat' constructor) ?_
 refine WL.bdC (T := Ty) rfl rfl rfl rfl (by repeat' first | exact CO.nil | apply CO.one (by first | rfl | exact SL.one (by assumption)) | apply CO.agg) rfl (by repeat' constructor) ?_
 refine WL.alF (T := Ty) rfl rfl (by repeat' constructor) (fun b2 => ?_)
 refine WL.stAO (T := Ty) (j := 0) rfl rfl rfl rfl (by repeat' first | exact AO.nil | apply AO.cons (by first | rfl | exact SL.one (by assumption))) rfl rfl (by repeat' constructor) (by repeat' constructor) ?_
 refine WL.nil (W.seq (W.region ?_))
 refine WL.bdC (T := Ty) rfl rfl rfl rfl (by repeat' first | exact CO.nil | apply CO.one (by first | rfl | exact SL.one (by assumption)) | apply CO.agg) rfl (by repeat' constructor) ?_
 refine WL.bsC (T := Ty) rfl rfl rfl rfl rfl rfl rfl (by repeat' first | exact CO.nil | apply CO.one (by first | rfl | exact SL.one (by assumption)) | apply CO.agg) rfl (by repeat' constructor) (fun u3 hu3 => ?_)
 refine WL.bdC (T := Ty) rfl rfl rfl rfl (by repeat' first | exact CO.nil | apply CO.one (by first | rfl | exact SL.one (by assumption)) | apply CO.agg) rfl (by repeat' constructor) ?_
 refine WL.bdC (T := Ty) rfl rfl rfl rfl (by repeat' first | exact CO.nil | apply CO.one (by first | rfl | exact SL.one (by assumption)) | apply CO.agg) rfl (by repeat' constructor) ?_
 refine WL.alF (T := Ty) rfl rfl (by repeat' constructor) (fun b4 => ?_)
 refine WL.stAO (T := Ty) (j := 0) rfl rfl rfl rfl (by repeat' first | exact AO.nil | apply AO.cons (by first | rfl | exact SL.one (by assumption))) rfl rfl (by repeat' constructor) (by repeat' constructor) ?_
 refine WL.nil (W.seq (W.region ?_))
 refine WL.bdC (T := Ty) rfl rfl rfl rfl (by repeat' first | exact CO.nil | apply CO.one (by first | rfl | exact SL.one (by assumption)) | apply CO.agg) rfl (by repeat' constructor) ?_
 refine WL.bdC (T := Ty) rfl rfl rfl rfl (by repeat' first | exact CO.nil | apply CO.one (by first | rfl | exact SL.one (by assumption)) | apply CO.agg) rfl (by repeat' constructor) ?_
 refine WL.alF (T := Ty) rfl rfl (by repeat' constructor) (fun b5 => ?_)
 refine WL.stAO (T := Ty) (j := 0) rfl rfl rfl rfl (by repeat' first | exact AO.nil | apply AO.cons (by first | rfl | exact SL.one (by assumption))) rfl rfl (by repeat' constructor) (by repeat' constructor) ?_
 refine WL.nil (W.seq (W.region ?_))
 refine WL.bdC (T := Ty) rfl rfl rfl rfl (by repeat' first | exact CO.nil | apply CO.one (by first | rfl | exact SL.one (by assumption)) | apply CO.agg) rfl (by repeat' constructor) ?_
 refine WL.bdC (T := Ty) rfl rfl rfl rfl (by repeat' first | exact CO.nil | apply CO.one (by first | rfl | exact SL.one (by assumption)) | apply CO.agg) rfl (by repeat' constructor) ?_
 refine WL.alF (T := Ty) rfl rfl (by repeat' constructor) (fun b6 => ?_)
 refine WL.alF (T := Ty) rfl rfl (by repeat' constructor) (fun b7 => ?_)
 refine WL.stAO (T := Ty) (j := 1) rfl rfl rfl rfl (by repeat' first | exact AO.nil | apply AO.cons (by first | rfl | exact SL.one (by assumption))) rfl rfl (by repeat' constructor) (by repeat' constructor) ?_
 refine WL.stAO (T := Ty) (j := 0) rfl rfl rfl rfl (by repeat' first | exact AO.nil | apply AO.cons (by first | rfl | exact SL.one (by assumption))) rfl rfl (by repeat' constructor) (by repeat' constructor) ?_
 refine WL.nil (W.seq (W.region ?_))
 refine WL.ldAF (T := Ty) (j := 7) rfl rfl rfl rfl rfl rfl (by repeat' constructor) ?_
 refine WL.ldAF (T := Ty) (j := 5) rfl rfl rfl rfl rfl rfl (by repeat' constructor) ?_
 refine WL.bsC (T := Ty) rfl rfl rfl rfl rfl rfl rfl (by repeat' first | exact CO.nil | apply CO.one (by first | rfl | exact SL.one (by assumption)) | apply CO.agg) rfl (by repeat' constructor) (fun u8 hu8 => ?_)
 refine WL.ldAF (T := Ty) (j := 2) rfl rfl rfl rfl rfl rfl (by repeat' constructor) ?_
 refine WL.ldAF (T := Ty) (j := 1) rfl rfl rfl rfl rfl rfl (by repeat' constructor) ?_
 refine WL.bsC (T := Ty) rfl rfl rfl rfl rfl rfl rfl (by repeat' first | exact CO.nil | apply CO.one (by first | rfl | exact SL.one (by assumption)) | apply CO.agg) rfl (by repeat' constructor) (fun u9 hu9 => ?_)
 refine WL.callF rfl rfl (fun x p d => replay_c _ _ _ [(eA, nilV), (eC, nilV)] [(1, 0), (2, 0)] (ros_at 1 rfl p d) (fun q hq => by rcases List.mem_cons.1 hq with rfl | hq; exact slZ; rw [List.mem_singleton.1 hq]; exact slZ) (by decide) (ros_at 0 rfl p d) (by decide)) (fun r => ?_)
 refine WL.opens (α := (Value × Value × Value × List (Rst × Value))) (φ := fun x => r = .tuple #[.agg #[x.1, x.2.1, .int .i64 _], x.2.2.1] ∧ x.2.2.2.map Prod.fst = _ ∧ SL x.1 _ ∧ SL x.2.1 _ ∧ SL x.2.2.1 x.2.2.2.length ∧ (∀ p ∈ x.2.2.2, SL p.2 p.1.list.length)) (ps := fun x => [OMdl (.agg #[x.1, x.2.1, .int .i64 _]) _, Buf 3 x.2.2.1 (x.2.2.2.flatMap rstC), Own owRst x.2.2.2]) 0 rfl (fun h q => RepR.open q) (by repeat' constructor) ?_
 rintro ⟨sv, iv, rv, R⟩ ⟨es, er, sa, sb, sc, sd⟩
 subst es
 dsimp only [List.cons_append, List.nil_append] at er sa sb sc sd ⊢
 have hR : rpl [(eA, nilV), (eC, nilV)] [(1, 0), (2, 0)] ([((1 : Int), (0 : Int)), (2, 0)] : List PK).length = (⟨[⟨1, false, true, 1, [(1, 2)]⟩], [], 0⟩, [⟨0, 0, []⟩, ⟨0, 0, [(1, 2)]⟩]) := aw_r _ _
 simp only [hR] at er sa sb ⊢
 obtain ⟨ua, ub, rfl⟩ := map_two er
 have sub := sd _ (List.mem_cons_of_mem _ (List.mem_singleton.2 rfl))
 dsimp only at sub
 replace sc : SL rv 2 := sc
 replace sa : SL sv 1 := sa
 have g : (([((⟨0, 0, []⟩ : Rst), ua), (⟨0, 0, [(1, 2)]⟩, ub)] : List (Rst × Value)).flatMap rstC)[(1 : Int).toNat * 3 + 2]? = some ub := rfl
 refine WL.mv rfl rfl (WL.extL rfl rfl rfl (WL.extL rfl rfl rfl ?_))
 refine WL.alF (T := Ty) rfl rfl (by repeat' constructor) (fun b10 => ?_)
 refine WL.stAO (T := Ty) (j := 0) rfl rfl rfl rfl (by repeat' first | exact AO.nil | apply AO.cons (by first | rfl | exact SL.one (by assumption))) rfl rfl (by repeat' constructor) (by repeat' constructor) ?_
 refine WL.as rfl rfl (WL.nil (W.seq (W.region (WL.faN (T := Ty) (off' := 0) rfl rfl rfl rfl rfl rfl rfl (WL.ldN (T := Ty) (j := 0) rfl rfl rfl rfl rfl rfl ?_)))))
 refine WL.len (T := Ty) rfl rfl (by assumption) rfl ?_
 refine WL.eql rfl rfl rfl (WL.mv rfl rfl (WL.gY rfl rfl (WL.mv rfl rfl (WL.gY rfl rfl ?_))))
 refine WL.len (T := Ty) rfl rfl (by assumption) rfl ?_
 refine WL.gY rfl rfl (WL.eql rfl rfl rfl (WL.pickT rfl rfl rfl (WL.mv rfl rfl (WL.gY rfl rfl (WL.mv rfl rfl (WL.gY rfl rfl ?_))))))
 refine WL.ix (T := Ty) rfl rfl rfl (by assumption) rfl rfl (by omega) (by first | omega | decide +kernel) ?_
 refine WL.gY rfl rfl (WL.faEN (T := Ty) (off' := 2) rfl rfl rfl rfl rfl rfl rfl (WL.gY rfl rfl ?_))
 refine WL.ldE (T := Ty) (j := 2) rfl rfl rfl rfl rfl (by assumption) ?_
 refine WL.gY rfl rfl ?_
 refine WL.len (T := Ty) rfl rfl (by assumption) rfl ?_
 refine WL.gY rfl rfl (WL.eql rfl rfl rfl (WL.pickT rfl rfl rfl (WL.mv rfl rfl (WL.gY rfl rfl ?_))))
 refine WL.ldAF (T := Ty) (j := 13) rfl rfl rfl rfl rfl rfl (by repeat' constructor) ?_
 refine WL.gY rfl rfl ?_
 refine WL.ldAF (T := Ty) (j := 12) rfl rfl rfl rfl rfl rfl (by repeat' constructor) ?_
 refine WL.gY rfl rfl ?_
 refine WL.ldAF (T := Ty) (j := 11) rfl rfl rfl rfl rfl rfl (by repeat' constructor) ?_
 refine WL.gY rfl rfl ?_
 refine WL.ldAF (T := Ty) (j := 9) rfl rfl rfl rfl rfl rfl (by repeat' constructor) ?_
 refine WL.gY rfl rfl ?_
 refine WL.bsC (T := Ty) rfl rfl rfl rfl rfl rfl rfl (by repeat' first | exact CO.nil | apply CO.one (by first | rfl | exact SL.one (by assumption)) | apply CO.agg) rfl (by repeat' constructor) (fun u11 hu11 => ?_)
 refine WL.gY rfl rfl ?_
 refine WL.ldAF (T := Ty) (j := 8) rfl rfl rfl rfl rfl rfl (by repeat' constructor) ?_
 refine WL.gY rfl rfl ?_
 refine WL.ldAF (T := Ty) (j := 7) rfl rfl rfl rfl rfl rfl (by repeat' constructor) ?_
 refine WL.gY rfl rfl ?_
 refine WL.bsC (T := Ty) rfl rfl rfl rfl rfl rfl rfl (by repeat' first | exact CO.nil | apply CO.one (by first | rfl | exact SL.one (by assumption)) | apply CO.agg) rfl (by repeat' constructor) (fun u12 hu12 => ?_)
 refine WL.gY rfl rfl ?_
 refine WL.callV rfl rfl (fun x p d => Fn.val (congrArg Value.bool (aw_1 _)) (check_c _ _ _ [(eA, nilV), (eB, nilV), (eC, nilV), (eD, _)] [(1, 0), (2, 0)] (ros_at 1 rfl p d) (okL.z rfl (okL.z rfl (okL.z rfl (okL.c (by first | exact ros_at 0 rfl p d | exact ros_at 1 rfl p d | exact ros_at 2 rfl p d | exact ros_at 3 rfl p d | exact ros_at 4 rfl p d | exact ros_at 5 rfl p d | exact ros_at 6 rfl p d | exact ros_at 7 rfl p d | exact ros_at 8 rfl p d | exact ros_at 9 rfl p d | exact ros_at 10 rfl p d | exact ros_at 11 rfl p d | exact ros_at 12 rfl p d | exact ros_at 13 rfl p d | exact ros_at 14 rfl p d | exact ros_at 15 rfl p d) (by decide) okL.nil)))) (by simp) (ros_at 0 rfl p d) (by decide))) ?_
 refine WL.pickT rfl rfl rfl (WL.mv rfl rfl (WL.gY rfl rfl ?_))
 refine WL.ldAF (T := Ty) (j := 15) rfl rfl rfl rfl rfl rfl (by repeat' constructor) ?_
 refine WL.gY rfl rfl ?_
 refine WL.ldAF (T := Ty) (j := 14) rfl rfl rfl rfl rfl rfl (by repeat' constructor) ?_
 refine WL.gY rfl rfl ?_
 refine WL.ldAF (T := Ty) (j := 13) rfl rfl rfl rfl rfl rfl (by repeat' constructor) ?_
 refine WL.gY rfl rfl ?_
 refine WL.ldAF (T := Ty) (j := 10) rfl rfl rfl rfl rfl rfl (by repeat' constructor) ?_
 refine WL.gY rfl rfl ?_
 refine WL.bsC (T := Ty) rfl rfl rfl rfl rfl rfl rfl (by repeat' first | exact CO.nil | apply CO.one (by first | rfl | exact SL.one (by assumption)) | apply CO.agg) rfl (by repeat' constructor) (fun u13 hu13 => ?_)
 refine WL.gY rfl rfl ?_
 refine WL.ldAF (T := Ty) (j := 9) rfl rfl rfl rfl rfl rfl (by repeat' constructor) ?_
 refine WL.gY rfl rfl ?_
 refine WL.ldAF (T := Ty) (j := 10) rfl rfl rfl rfl rfl rfl (by repeat' constructor) ?_
 refine WL.gY rfl rfl ?_
 refine WL.bsC (T := Ty) rfl rfl rfl rfl rfl rfl rfl (by repeat' first | exact CO.nil | apply CO.one (by first | rfl | exact SL.one (by assumption)) | apply CO.agg) rfl (by repeat' constructor) (fun u14 hu14 => ?_)
 refine WL.gY rfl rfl ?_
 refine WL.callV rfl rfl (fun x p d => Fn.val (congrArg Value.bool (aw_2)) (check_c _ _ _ [(eA, nilV), (eB, nilV), (eC, nilV), (eE, nilV)] [(2, 0), (1, 0)] (ros_at 1 rfl p d) (okL.z rfl (okL.z rfl (okL.z rfl (okL.z rfl okL.nil)))) (by simp) (ros_at 0 rfl p d) (by decide))) ?_
 refine WL.gY rfl rfl (WL.not rfl rfl (WL.pickT rfl rfl rfl (WL.mv rfl rfl (WL.gY rfl rfl ?_))))
 refine WL.ldAF (T := Ty) (j := 17) rfl rfl rfl rfl rfl rfl (by repeat' constructor) ?_
 refine WL.gY rfl rfl ?_
 refine WL.ldAF (T := Ty) (j := 15) rfl rfl rfl rfl rfl rfl (by repeat' constructor) ?_
 refine WL.gY rfl rfl ?_
 refine WL.ldAF (T := Ty) (j := 16) rfl rfl rfl rfl rfl rfl (by repeat' constructor) ?_
 refine WL.gY rfl rfl ?_
 refine WL.ldAF (T := Ty) (j := 12) rfl rfl rfl rfl rfl rfl (by repeat' constructor) ?_
 refine WL.gY rfl rfl ?_
 refine WL.bsC (T := Ty) rfl rfl rfl rfl rfl rfl rfl (by repeat' first | exact CO.nil | apply CO.one (by first | rfl | exact SL.one (by assumption)) | apply CO.agg) rfl (by repeat' constructor) (fun u15 hu15 => ?_)
 refine WL.gY rfl rfl ?_
 refine WL.ldAF (T := Ty) (j := 11) rfl rfl rfl rfl rfl rfl (by repeat' constructor) ?_
 refine WL.gY rfl rfl ?_
 refine WL.ldAF (T := Ty) (j := 12) rfl rfl rfl rfl rfl rfl (by repeat' constructor) ?_
 refine WL.gY rfl rfl ?_
 refine WL.bsC (T := Ty) rfl rfl rfl rfl rfl rfl rfl (by repeat' first | exact CO.nil | apply CO.one (by first | rfl | exact SL.one (by assumption)) | apply CO.agg) rfl (by repeat' constructor) (fun u16 hu16 => ?_)
 refine WL.gY rfl rfl ?_
 refine WL.callV rfl rfl (fun x p d => Fn.val (congrArg Value.bool (aw_3)) (check_c _ _ _ [(eA, nilV), (eC, nilV), (eB, nilV), (eE, nilV)] [(2, 0), (1, 0)] (ros_at 1 rfl p d) (okL.z rfl (okL.z rfl (okL.z rfl (okL.z rfl okL.nil)))) (by simp) (ros_at 0 rfl p d) (by decide))) ?_
 refine WL.pickT rfl rfl rfl (WL.mv rfl rfl (WL.gY rfl rfl ?_))
 refine WL.ldAF (T := Ty) (j := 19) rfl rfl rfl rfl rfl rfl (by repeat' constructor) ?_
 refine WL.gY rfl rfl ?_
 refine WL.ldAF (T := Ty) (j := 18) rfl rfl rfl rfl rfl rfl (by repeat' constructor) ?_
 refine WL.gY rfl rfl ?_
 refine WL.bsC (T := Ty) rfl rfl rfl rfl rfl rfl rfl (by repeat' first | exact CO.nil | apply CO.one (by first | rfl | exact SL.one (by assumption)) | apply CO.agg) rfl (by repeat' constructor) (fun u17 hu17 => ?_)
 refine WL.gY rfl rfl ?_
 refine WL.callV rfl rfl (fun x p d => Fn.val (congrArg Value.bool (aw_4)) (check_c _ _ _ [(eA, nilV), (eB, nilV)] [] (ros_at 0 rfl p d) (okL.z rfl (okL.z rfl okL.nil)) (by decide) (rosN _ 2) (by decide))) ?_
 refine WL.gY rfl rfl (WL.not rfl rfl (WL.pickT rfl rfl rfl (WL.mv rfl rfl (WL.gY rfl rfl ?_))))
 refine WL.callV rfl rfl (fun x p d => Fn.val (congrArg Value.bool (aw_5)) (check_c _ _ _ [] [] (rosN _ 14) (okL.nil) (by decide) (rosN _ 2) (by decide))) ?_
 refine WL.pickT rfl rfl rfl (WL.as rfl rfl (WL.nil ?_))
 exact W.fit (Hs' := []) (by (repeat' first | exact Sel.nil | apply Sel.k | exact Pick.h | apply Pick.t)) (W.ret1 rfl rfl (fun h q => ⟨rfl, q⟩))
end Go.Proofs.Ytbebhmdjnneimaa
