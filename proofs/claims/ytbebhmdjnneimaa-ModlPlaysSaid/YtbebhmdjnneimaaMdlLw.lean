/- One hand alone: Do over ops that are written out; ops of numbers; what the document fixes. -/
import Derived.Test.YtbebhmdjnneimaaStc
import Derived.Test.YtbebhmdjnneimaaNum
import Derived.Test.YtbebhmdjnneimaaTab
import Derived.Test.YtbebhmdjnneimaaModl6
import Derived.Test.YtbebhmdjnneimaaMref4
set_option linter.unusedSimpArgs false
set_option linter.unusedVariables false
set_option maxRecDepth 20000
set_option maxHeartbeats 4000000
namespace Go.Proofs.Ytbebhmdjnneimaa
open Go
theorem aw1 : sameMdl (doM ⟨[], [], 0⟩ ⟨1, 3, 0, 5, 7, 0, 0, 0⟩).1 (doM (doM (doM ⟨[], [], 0⟩ ⟨1, 3, 0, 5, 7, 0, 0, 0⟩).1 ⟨5, 3, 0, 0, 0, 0, 9, 0⟩).1 ⟨4, 3, 0, 0, 0, 0, 0, 0⟩).1 = false := by decide
theorem aw2 : sameRst (doM ⟨[], [], 0⟩ ⟨1, 3, 0, 5, 7, 0, 0, 0⟩).2 (doM (doM (doM ⟨[], [], 0⟩ ⟨1, 3, 0, 5, 7, 0, 0, 0⟩).1 ⟨5, 3, 0, 0, 0, 0, 9, 0⟩).1 ⟨4, 3, 0, 0, 0, 0, 0, 0⟩).2 = true := by decide
theorem aw3 : sameRst (doM ⟨[], [], 0⟩ ⟨1, 3, 0, 5, 7, 0, 0, 0⟩).2 (doM (doM ⟨[], [], 0⟩ ⟨1, 3, 0, 5, 7, 0, 0, 0⟩).1 ⟨5, 3, 0, 0, 0, 0, 9, 0⟩).2 = false := by decide
attribute [local irreducible] W WL Fn Buf ROs SL eptr box Rd Src bndOK WD RB Reads In Own sameL
theorem rmdl_zero (h : Hp) : RMdl h (.agg #[nilV, nilV, .int .i64 0]) ⟨[], [], 0⟩ :=
  ⟨nilV, nilV, [], [], rfl, rfl, rfl, by unfold ROs; exact .inl ⟨rfl, rfl⟩, by unfold ROs; exact .inl ⟨rfl, rfl⟩, fun a ha => absurd ha (by simp), fun a ha => absurd ha (by simp)⟩
theorem orst_open {e i : Int} {lv : Value} {R : Rst} {h : Hp} (q : ORst (.agg #[.int .i64 e, .int .i64 i, lv]) R h) : Buf 2 lv (R.list.flatMap smC) h := by
  obtain ⟨lv', e', q⟩ := q
  have e' := (Value.agg.inj e')
  simp only [Array.mk.injEq, List.cons.injEq, and_true] at e'
  obtain ⟨_, _, rfl⟩ := e'
  exact q
-- CALL 15 refine WL.callF rfl rfl (fun x p d => doX_c _ _ _ _ _ _ _ _ _ _ _ _ $RM (by assumption) (by first | assumption | omega)) (fun r$N => ?_) ;; refine WL.opens (α := (Value × Value × Value)) (φ := fun x => r$N = .tuple #[.agg #[x.1, x.2.1, .int .i64 _], .agg #[.int .i64 _, .int .i64 _, x.2.2]] ∧ SL x.1 _ ∧ SL x.2.1 _ ∧ SL x.2.2 _) (ps := fun x => [OMdl (.agg #[x.1, x.2.1, .int .i64 _]) _, ORst (.agg #[.int .i64 _, .int .i64 _, x.2.2]) _]) 0 rfl (fun h q => DoR.open q) $FL ?_ ;; rintro ⟨sv$N, iv$N, u$N⟩ ⟨es$N, sa$N, sb$N, sc$N⟩ ;; subst es$N ;; dsimp only [List.cons_append, List.nil_append] at sa$N sb$N sc$N ⊢
theorem doX_c (ρ : Hp) (u : Value) (n : Nat) (m : Mdl) (k s i t v lo hi nn : Int) (hm : RMdl ρ u m) (hI : MInv n m) (hn : n ≤ 1000000) :
    Fn Try.prog 15 #[u, .agg #[.int .i64 k, .int .i64 s, .int .i64 i, .int .i64 t, .int .u64 v, .int .i64 lo, .int .i64 hi, .int .i64 nn]] ρ [] (DoR (doM m ⟨k, s, i, t, v, lo, hi, nn⟩).1 (doM m ⟨k, s, i, t, v, lo, hi, nn⟩).2) :=
  do_c ρ u n m ⟨k, s, i, t, v, lo, hi, nn⟩ hm hI hn
-- CALL 19 refine WL.callV rfl rfl (fun x p d => hopf _ _ _) ?_
theorem op_ex (n a : Int) : ∃ o : MOp, ∀ ρ, Fn Try.prog 19 #[.int .i64 n, .int .i64 a] ρ [] (Just (.agg (opC o).toArray)) := by
  by_cases h34 : n % 64 < 34
  · skip
    by_cases g34 : n / 2097152 % 8 = 0
    · skip
      refine ⟨⟨1, n / 64 % (3 + 1), n / 256 % (7 + 1), IntKind.i64.wrap (a + n / 2048 % (3 + 1)), IntKind.u64.wrap (IntKind.u64.wrap n * 11400714819323198485), IntKind.i64.wrap (a - n / 8192 % (63 + 1)), IntKind.i64.wrap (IntKind.i64.wrap (a + n / 524288 % (15 + 1)) - 4), n / 8388608 % (15 + 1)⟩, fun ρ => ?_⟩
      refine in19 rfl rfl ?_
      refine W.seq (W.region ?_)
      refine WL.alF (T := Ty) rfl rfl (by repeat' first | exact FL.nil | apply FL.cons) (fun b0 => ?_)
      refine WL.nil (W.seq (W.region (WL.mv rfl rfl (WL.shrS (c := 64) rfl rfl rfl (by omega) (by decide) (WL.andI rfl rfl rfl (by decide) (WL.mv rfl rfl (WL.shrS (c := 256) rfl rfl rfl (by omega) (by decide) (WL.andI rfl rfl rfl (by decide) (WL.mv rfl rfl (WL.mv rfl rfl (WL.shrS (c := 2048) rfl rfl rfl (by omega) (by decide) (WL.andI rfl rfl rfl (by decide) (WL.add (K := .i64) rfl rfl rfl ?_)))))))))))))
      refine WL.mv rfl rfl (WL.shrS (c := 8192) rfl rfl rfl (by omega) (by decide) (WL.andI rfl rfl rfl (by decide) (WL.cvK (T := Ty) rfl rfl rfl rfl (wrap_u64 ⟨by omega, by omega⟩) (WL.mv rfl rfl (WL.mv rfl rfl (WL.shrS (c := 8192) rfl rfl rfl (by omega) (by decide) (WL.andI rfl rfl rfl (by decide) (WL.sub' (K := .i64) rfl rfl rfl (WL.mv rfl rfl (WL.mv rfl rfl (WL.shrS (c := 524288) rfl rfl rfl (by omega) (by decide) (WL.andI rfl rfl rfl (by decide) (WL.add (K := .i64) rfl rfl rfl ?_)))))))))))))
      refine WL.sub' (K := .i64) rfl rfl rfl (WL.mv rfl rfl (WL.shrS (c := 8388608) rfl rfl rfl (by omega) (by decide) (WL.andI rfl rfl rfl (by decide) ?_)))
      refine WL.bdC (T := Ty) rfl rfl rfl rfl (by repeat' first | exact CO.nil | apply CO.one (by first | rfl | exact SL.one (by assumption)) | apply CO.agg) rfl (by repeat' first | exact FL.nil | apply FL.cons) ?_
      refine WL.alF (T := Ty) rfl rfl (by repeat' first | exact FL.nil | apply FL.cons) (fun b1 => ?_)
      refine WL.stAO (T := Ty) (j := 0) rfl rfl rfl rfl (by repeat' first | exact AO.nil | apply AO.cons (by first | rfl | exact SL.one (by assumption))) rfl rfl (by repeat' first | exact FL.nil | apply FL.cons) (by repeat' first | exact FL.nil | apply FL.cons) ?_
      refine WL.nil (W.seq (W.region (WL.mv rfl rfl (WL.andI rfl rfl rfl (by decide) (WL.as rfl rfl (WL.nil (W.seq (W.block (W.seq (W.region (WL.mv rfl rfl (WL.lss rfl rfl rfl (WL.as rfl rfl ?_)))))))))))))
      refine WL.nil (W.condpT rfl (by omega) (W.seq (W.region (WL.faN (T := Ty) (off' := 0) rfl rfl rfl rfl rfl rfl rfl ?_))))
      refine WL.stF (T := Ty) (j := 0) rfl rfl rfl rfl rfl rfl rfl (by repeat' first | exact FL.nil | apply FL.cons) (by repeat' first | exact FL.nil | apply FL.cons) ?_
      refine WL.nil (W.seq (W.region (WL.mv rfl rfl (WL.shrS (c := 2097152) rfl rfl rfl (by omega) (by decide) (WL.andI rfl rfl rfl (by decide) (WL.eql rfl rfl rfl (WL.nil (W.condpT rfl (by omega) (W.region (WL.mv rfl rfl (WL.cv (T := Ty) rfl rfl rfl rfl (WL.mul (K := .u64) rfl rfl rfl (WL.faN (T := Ty) (off' := 4) rfl rfl rfl rfl rfl rfl rfl ?_)))))))))))))
      refine WL.stF (T := Ty) (j := 0) rfl rfl rfl rfl rfl rfl rfl (by repeat' first | exact FL.nil | apply FL.cons) (by repeat' first | exact FL.nil | apply FL.cons) ?_
      refine WL.nil (W.inBlock (W.seq (W.region ?_)))
      refine WL.ldAF (T := Ty) (j := 0) rfl rfl rfl rfl rfl rfl (by repeat' first | exact FL.nil | apply FL.cons) ?_
      refine WL.stAO (T := Ty) (j := 1) rfl rfl rfl rfl (by repeat' first | exact AO.nil | apply AO.cons (by first | rfl | exact SL.one (by assumption))) rfl rfl (by repeat' first | exact FL.nil | apply FL.cons) (by repeat' first | exact FL.nil | apply FL.cons) ?_
      refine WL.nil ?_
      refine W.fit (Hs' := [box b0 _ 24]) (by (repeat' first | exact Sel.nil | refine Sel.cons 0 rfl ?_ | refine Sel.cons 1 rfl ?_ | refine Sel.cons 2 rfl ?_ | refine Sel.cons 3 rfl ?_ | refine Sel.cons 4 rfl ?_ | refine Sel.cons 5 rfl ?_ | refine Sel.cons 6 rfl ?_ | refine Sel.cons 7 rfl ?_ | refine Sel.cons 8 rfl ?_ | refine Sel.cons 9 rfl ?_ | refine Sel.cons 10 rfl ?_ | refine Sel.cons 11 rfl ?_ | refine Sel.cons 12 rfl ?_ | refine Sel.cons 13 rfl ?_ | refine Sel.cons 14 rfl ?_ | refine Sel.cons 15 rfl ?_ | refine Sel.cons 16 rfl ?_ | refine Sel.cons 17 rfl ?_)) ?_
      exact W.retC (T := Ty) (j := 0) rfl rfl rfl rfl rfl rfl (fun h q => ⟨rfl, q⟩)
    · skip
      refine ⟨⟨1, n / 64 % (3 + 1), n / 256 % (7 + 1), IntKind.i64.wrap (a + n / 2048 % (3 + 1)), n / 8192 % (255 + 1), IntKind.i64.wrap (a - n / 8192 % (63 + 1)), IntKind.i64.wrap (IntKind.i64.wrap (a + n / 524288 % (15 + 1)) - 4), n / 8388608 % (15 + 1)⟩, fun ρ => ?_⟩
      refine in19 rfl rfl ?_
      refine W.seq (W.region ?_)
      refine WL.alF (T := Ty) rfl rfl (by repeat' first | exact FL.nil | apply FL.cons) (fun b0 => ?_)
      refine WL.nil (W.seq (W.region (WL.mv rfl rfl (WL.shrS (c := 64) rfl rfl rfl (by omega) (by decide) (WL.andI rfl rfl rfl (by decide) (WL.mv rfl rfl (WL.shrS (c := 256) rfl rfl rfl (by omega) (by decide) (WL.andI rfl rfl rfl (by decide) (WL.mv rfl rfl (WL.mv rfl rfl (WL.shrS (c := 2048) rfl rfl rfl (by omega) (by decide) (WL.andI rfl rfl rfl (by decide) (WL.add (K := .i64) rfl rfl rfl ?_)))))))))))))
      refine WL.mv rfl rfl (WL.shrS (c := 8192) rfl rfl rfl (by omega) (by decide) (WL.andI rfl rfl rfl (by decide) (WL.cvK (T := Ty) rfl rfl rfl rfl (wrap_u64 ⟨by omega, by omega⟩) (WL.mv rfl rfl (WL.mv rfl rfl (WL.shrS (c := 8192) rfl rfl rfl (by omega) (by decide) (WL.andI rfl rfl rfl (by decide) (WL.sub' (K := .i64) rfl rfl rfl (WL.mv rfl rfl (WL.mv rfl rfl (WL.shrS (c := 524288) rfl rfl rfl (by omega) (by decide) (WL.andI rfl rfl rfl (by decide) (WL.add (K := .i64) rfl rfl rfl ?_)))))))))))))
      refine WL.sub' (K := .i64) rfl rfl rfl (WL.mv rfl rfl (WL.shrS (c := 8388608) rfl rfl rfl (by omega) (by decide) (WL.andI rfl rfl rfl (by decide) ?_)))
      refine WL.bdC (T := Ty) rfl rfl rfl rfl (by repeat' first | exact CO.nil | apply CO.one (by first | rfl | exact SL.one (by assumption)) | apply CO.agg) rfl (by repeat' first | exact FL.nil | apply FL.cons) ?_
      refine WL.alF (T := Ty) rfl rfl (by repeat' first | exact FL.nil | apply FL.cons) (fun b1 => ?_)
      refine WL.stAO (T := Ty) (j := 0) rfl rfl rfl rfl (by repeat' first | exact AO.nil | apply AO.cons (by first | rfl | exact SL.one (by assumption))) rfl rfl (by repeat' first | exact FL.nil | apply FL.cons) (by repeat' first | exact FL.nil | apply FL.cons) ?_
      refine WL.nil (W.seq (W.region (WL.mv rfl rfl (WL.andI rfl rfl rfl (by decide) (WL.as rfl rfl (WL.nil (W.seq (W.block (W.seq (W.region (WL.mv rfl rfl (WL.lss rfl rfl rfl (WL.as rfl rfl ?_)))))))))))))
      refine WL.nil (W.condpT rfl (by omega) (W.seq (W.region (WL.faN (T := Ty) (off' := 0) rfl rfl rfl rfl rfl rfl rfl ?_))))
      refine WL.stF (T := Ty) (j := 0) rfl rfl rfl rfl rfl rfl rfl (by repeat' first | exact FL.nil | apply FL.cons) (by repeat' first | exact FL.nil | apply FL.cons) ?_
      refine WL.nil (W.seq (W.region (WL.mv rfl rfl (WL.shrS (c := 2097152) rfl rfl rfl (by omega) (by decide) (WL.andI rfl rfl rfl (by decide) (WL.eql rfl rfl rfl (WL.nil (W.condpF rfl (by omega) (W.skip (W.inBlock (W.seq (W.region ?_))))))))))))
      refine WL.ldAF (T := Ty) (j := 0) rfl rfl rfl rfl rfl rfl (by repeat' first | exact FL.nil | apply FL.cons) ?_
      refine WL.stAO (T := Ty) (j := 1) rfl rfl rfl rfl (by repeat' first | exact AO.nil | apply AO.cons (by first | rfl | exact SL.one (by assumption))) rfl rfl (by repeat' first | exact FL.nil | apply FL.cons) (by repeat' first | exact FL.nil | apply FL.cons) ?_
      refine WL.nil ?_
      refine W.fit (Hs' := [box b0 _ 24]) (by (repeat' first | exact Sel.nil | refine Sel.cons 0 rfl ?_ | refine Sel.cons 1 rfl ?_ | refine Sel.cons 2 rfl ?_ | refine Sel.cons 3 rfl ?_ | refine Sel.cons 4 rfl ?_ | refine Sel.cons 5 rfl ?_ | refine Sel.cons 6 rfl ?_ | refine Sel.cons 7 rfl ?_ | refine Sel.cons 8 rfl ?_ | refine Sel.cons 9 rfl ?_ | refine Sel.cons 10 rfl ?_ | refine Sel.cons 11 rfl ?_ | refine Sel.cons 12 rfl ?_ | refine Sel.cons 13 rfl ?_ | refine Sel.cons 14 rfl ?_ | refine Sel.cons 15 rfl ?_ | refine Sel.cons 16 rfl ?_ | refine Sel.cons 17 rfl ?_)) ?_
      exact W.retC (T := Ty) (j := 0) rfl rfl rfl rfl rfl rfl (fun h q => ⟨rfl, q⟩)
  · skip
    by_cases h44 : n % 64 < 44
    · skip
      refine ⟨⟨2, n / 64 % (3 + 1), n / 256 % (7 + 1), IntKind.i64.wrap (a + n / 2048 % (3 + 1)), n / 8192 % (255 + 1), IntKind.i64.wrap (a - n / 8192 % (63 + 1)), IntKind.i64.wrap (IntKind.i64.wrap (a + n / 524288 % (15 + 1)) - 4), n / 8388608 % (15 + 1)⟩, fun ρ => ?_⟩
      refine in19 rfl rfl ?_
      refine W.seq (W.region ?_)
      refine WL.alF (T := Ty) rfl rfl (by repeat' first | exact FL.nil | apply FL.cons) (fun b0 => ?_)
      refine WL.nil (W.seq (W.region (WL.mv rfl rfl (WL.shrS (c := 64) rfl rfl rfl (by omega) (by decide) (WL.andI rfl rfl rfl (by decide) (WL.mv rfl rfl (WL.shrS (c := 256) rfl rfl rfl (by omega) (by decide) (WL.andI rfl rfl rfl (by decide) (WL.mv rfl rfl (WL.mv rfl rfl (WL.shrS (c := 2048) rfl rfl rfl (by omega) (by decide) (WL.andI rfl rfl rfl (by decide) (WL.add (K := .i64) rfl rfl rfl ?_)))))))))))))
      refine WL.mv rfl rfl (WL.shrS (c := 8192) rfl rfl rfl (by omega) (by decide) (WL.andI rfl rfl rfl (by decide) (WL.cvK (T := Ty) rfl rfl rfl rfl (wrap_u64 ⟨by omega, by omega⟩) (WL.mv rfl rfl (WL.mv rfl rfl (WL.shrS (c := 8192) rfl rfl rfl (by omega) (by decide) (WL.andI rfl rfl rfl (by decide) (WL.sub' (K := .i64) rfl rfl rfl (WL.mv rfl rfl (WL.mv rfl rfl (WL.shrS (c := 524288) rfl rfl rfl (by omega) (by decide) (WL.andI rfl rfl rfl (by decide) (WL.add (K := .i64) rfl rfl rfl ?_)))))))))))))
      refine WL.sub' (K := .i64) rfl rfl rfl (WL.mv rfl rfl (WL.shrS (c := 8388608) rfl rfl rfl (by omega) (by decide) (WL.andI rfl rfl rfl (by decide) ?_)))
      refine WL.bdC (T := Ty) rfl rfl rfl rfl (by repeat' first | exact CO.nil | apply CO.one (by first | rfl | exact SL.one (by assumption)) | apply CO.agg) rfl (by repeat' first | exact FL.nil | apply FL.cons) ?_
      refine WL.alF (T := Ty) rfl rfl (by repeat' first | exact FL.nil | apply FL.cons) (fun b1 => ?_)
      refine WL.stAO (T := Ty) (j := 0) rfl rfl rfl rfl (by repeat' first | exact AO.nil | apply AO.cons (by first | rfl | exact SL.one (by assumption))) rfl rfl (by repeat' first | exact FL.nil | apply FL.cons) (by repeat' first | exact FL.nil | apply FL.cons) ?_
      refine WL.nil (W.seq (W.region (WL.mv rfl rfl (WL.andI rfl rfl rfl (by decide) (WL.as rfl rfl (WL.nil (W.seq (W.block (W.seq (W.region (WL.mv rfl rfl (WL.lss rfl rfl rfl (WL.as rfl rfl ?_)))))))))))))
      refine WL.nil (W.condpF rfl (by omega) (W.seq (W.region (WL.mv rfl rfl (WL.lss rfl rfl rfl (WL.as rfl rfl (WL.nil (W.condpT rfl (by omega) (W.region (WL.faN (T := Ty) (off' := 0) rfl rfl rfl rfl rfl rfl rfl ?_))))))))))
      refine WL.stF (T := Ty) (j := 0) rfl rfl rfl rfl rfl rfl rfl (by repeat' first | exact FL.nil | apply FL.cons) (by repeat' first | exact FL.nil | apply FL.cons) ?_
      refine WL.nil (W.inBlock (W.seq (W.region ?_)))
      refine WL.ldAF (T := Ty) (j := 0) rfl rfl rfl rfl rfl rfl (by repeat' first | exact FL.nil | apply FL.cons) ?_
      refine WL.stAO (T := Ty) (j := 1) rfl rfl rfl rfl (by repeat' first | exact AO.nil | apply AO.cons (by first | rfl | exact SL.one (by assumption))) rfl rfl (by repeat' first | exact FL.nil | apply FL.cons) (by repeat' first | exact FL.nil | apply FL.cons) ?_
      refine WL.nil ?_
      refine W.fit (Hs' := [box b0 _ 24]) (by (repeat' first | exact Sel.nil | refine Sel.cons 0 rfl ?_ | refine Sel.cons 1 rfl ?_ | refine Sel.cons 2 rfl ?_ | refine Sel.cons 3 rfl ?_ | refine Sel.cons 4 rfl ?_ | refine Sel.cons 5 rfl ?_ | refine Sel.cons 6 rfl ?_ | refine Sel.cons 7 rfl ?_ | refine Sel.cons 8 rfl ?_ | refine Sel.cons 9 rfl ?_ | refine Sel.cons 10 rfl ?_ | refine Sel.cons 11 rfl ?_ | refine Sel.cons 12 rfl ?_ | refine Sel.cons 13 rfl ?_ | refine Sel.cons 14 rfl ?_ | refine Sel.cons 15 rfl ?_ | refine Sel.cons 16 rfl ?_ | refine Sel.cons 17 rfl ?_)) ?_
      exact W.retC (T := Ty) (j := 0) rfl rfl rfl rfl rfl rfl (fun h q => ⟨rfl, q⟩)
    · skip
      by_cases h46 : n % 64 < 46
      · skip
        by_cases g46 : n / 8388608 % 4 > 0
        · skip
          refine ⟨⟨2, n / 64 % (3 + 1), n / 256 % (7 + 1), IntKind.i64.wrap (a + n / 2048 % (3 + 1)), n / 8192 % (255 + 1), IntKind.i64.wrap (a - n / 8192 % (63 + 1)), IntKind.i64.wrap (IntKind.i64.wrap (a + n / 524288 % (15 + 1)) - 4), n / 8388608 % (15 + 1)⟩, fun ρ => ?_⟩
          refine in19 rfl rfl ?_
          refine W.seq (W.region ?_)
          refine WL.alF (T := Ty) rfl rfl (by repeat' first | exact FL.nil | apply FL.cons) (fun b0 => ?_)
          refine WL.nil (W.seq (W.region (WL.mv rfl rfl (WL.shrS (c := 64) rfl rfl rfl (by omega) (by decide) (WL.andI rfl rfl rfl (by decide) (WL.mv rfl rfl (WL.shrS (c := 256) rfl rfl rfl (by omega) (by decide) (WL.andI rfl rfl rfl (by decide) (WL.mv rfl rfl (WL.mv rfl rfl (WL.shrS (c := 2048) rfl rfl rfl (by omega) (by decide) (WL.andI rfl rfl rfl (by decide) (WL.add (K := .i64) rfl rfl rfl ?_)))))))))))))
          refine WL.mv rfl rfl (WL.shrS (c := 8192) rfl rfl rfl (by omega) (by decide) (WL.andI rfl rfl rfl (by decide) (WL.cvK (T := Ty) rfl rfl rfl rfl (wrap_u64 ⟨by omega, by omega⟩) (WL.mv rfl rfl (WL.mv rfl rfl (WL.shrS (c := 8192) rfl rfl rfl (by omega) (by decide) (WL.andI rfl rfl rfl (by decide) (WL.sub' (K := .i64) rfl rfl rfl (WL.mv rfl rfl (WL.mv rfl rfl (WL.shrS (c := 524288) rfl rfl rfl (by omega) (by decide) (WL.andI rfl rfl rfl (by decide) (WL.add (K := .i64) rfl rfl rfl ?_)))))))))))))
          refine WL.sub' (K := .i64) rfl rfl rfl (WL.mv rfl rfl (WL.shrS (c := 8388608) rfl rfl rfl (by omega) (by decide) (WL.andI rfl rfl rfl (by decide) ?_)))
          refine WL.bdC (T := Ty) rfl rfl rfl rfl (by repeat' first | exact CO.nil | apply CO.one (by first | rfl | exact SL.one (by assumption)) | apply CO.agg) rfl (by repeat' first | exact FL.nil | apply FL.cons) ?_
          refine WL.alF (T := Ty) rfl rfl (by repeat' first | exact FL.nil | apply FL.cons) (fun b1 => ?_)
          refine WL.stAO (T := Ty) (j := 0) rfl rfl rfl rfl (by repeat' first | exact AO.nil | apply AO.cons (by first | rfl | exact SL.one (by assumption))) rfl rfl (by repeat' first | exact FL.nil | apply FL.cons) (by repeat' first | exact FL.nil | apply FL.cons) ?_
          refine WL.nil (W.seq (W.region (WL.mv rfl rfl (WL.andI rfl rfl rfl (by decide) (WL.as rfl rfl (WL.nil (W.seq (W.block (W.seq (W.region (WL.mv rfl rfl (WL.lss rfl rfl rfl (WL.as rfl rfl ?_)))))))))))))
          refine WL.nil (W.condpF rfl (by omega) (W.seq (W.region (WL.mv rfl rfl (WL.lss rfl rfl rfl (WL.as rfl rfl (WL.nil (W.condpF rfl (by omega) (W.seq (W.region (WL.mv rfl rfl (WL.lss rfl rfl rfl (WL.as rfl rfl ?_)))))))))))))
          refine WL.nil (W.condpT rfl (by omega) (W.seq (W.region (WL.faN (T := Ty) (off' := 0) rfl rfl rfl rfl rfl rfl rfl ?_))))
          refine WL.stF (T := Ty) (j := 0) rfl rfl rfl rfl rfl rfl rfl (by repeat' first | exact FL.nil | apply FL.cons) (by repeat' first | exact FL.nil | apply FL.cons) ?_
          refine WL.nil (W.seq (W.region (WL.mv rfl rfl (WL.shrS (c := 8388608) rfl rfl rfl (by omega) (by decide) (WL.andI rfl rfl rfl (by decide) (WL.gtr rfl rfl rfl (WL.nil (W.condpT rfl (by omega) (W.region (WL.faN (T := Ty) (off' := 0) rfl rfl rfl rfl rfl rfl rfl ?_))))))))))
          refine WL.stF (T := Ty) (j := 0) rfl rfl rfl rfl rfl rfl rfl (by repeat' first | exact FL.nil | apply FL.cons) (by repeat' first | exact FL.nil | apply FL.cons) ?_
          refine WL.nil (W.inBlock (W.seq (W.region ?_)))
          refine WL.ldAF (T := Ty) (j := 0) rfl rfl rfl rfl rfl rfl (by repeat' first | exact FL.nil | apply FL.cons) ?_
          refine WL.stAO (T := Ty) (j := 1) rfl rfl rfl rfl (by repeat' first | exact AO.nil | apply AO.cons (by first | rfl | exact SL.one (by assumption))) rfl rfl (by repeat' first | exact FL.nil | apply FL.cons) (by repeat' first | exact FL.nil | apply FL.cons) ?_
          refine WL.nil ?_
          refine W.fit (Hs' := [box b0 _ 24]) (by (repeat' first | exact Sel.nil | refine Sel.cons 0 rfl ?_ | refine Sel.cons 1 rfl ?_ | refine Sel.cons 2 rfl ?_ | refine Sel.cons 3 rfl ?_ | refine Sel.cons 4 rfl ?_ | refine Sel.cons 5 rfl ?_ | refine Sel.cons 6 rfl ?_ | refine Sel.cons 7 rfl ?_ | refine Sel.cons 8 rfl ?_ | refine Sel.cons 9 rfl ?_ | refine Sel.cons 10 rfl ?_ | refine Sel.cons 11 rfl ?_ | refine Sel.cons 12 rfl ?_ | refine Sel.cons 13 rfl ?_ | refine Sel.cons 14 rfl ?_ | refine Sel.cons 15 rfl ?_ | refine Sel.cons 16 rfl ?_ | refine Sel.cons 17 rfl ?_)) ?_
          exact W.retC (T := Ty) (j := 0) rfl rfl rfl rfl rfl rfl (fun h q => ⟨rfl, q⟩)
        · skip
          refine ⟨⟨3, n / 64 % (3 + 1), n / 256 % (7 + 1), IntKind.i64.wrap (a + n / 2048 % (3 + 1)), n / 8192 % (255 + 1), IntKind.i64.wrap (a - n / 8192 % (63 + 1)), IntKind.i64.wrap (IntKind.i64.wrap (a + n / 524288 % (15 + 1)) - 4), n / 8388608 % (15 + 1)⟩, fun ρ => ?_⟩
          refine in19 rfl rfl ?_
          refine W.seq (W.region ?_)
          refine WL.alF (T := Ty) rfl rfl (by repeat' first | exact FL.nil | apply FL.cons) (fun b0 => ?_)
          refine WL.nil (W.seq (W.region (WL.mv rfl rfl (WL.shrS (c := 64) rfl rfl rfl (by omega) (by decide) (WL.andI rfl rfl rfl (by decide) (WL.mv rfl rfl (WL.shrS (c := 256) rfl rfl rfl (by omega) (by decide) (WL.andI rfl rfl rfl (by decide) (WL.mv rfl rfl (WL.mv rfl rfl (WL.shrS (c := 2048) rfl rfl rfl (by omega) (by decide) (WL.andI rfl rfl rfl (by decide) (WL.add (K := .i64) rfl rfl rfl ?_)))))))))))))
          refine WL.mv rfl rfl (WL.shrS (c := 8192) rfl rfl rfl (by omega) (by decide) (WL.andI rfl rfl rfl (by decide) (WL.cvK (T := Ty) rfl rfl rfl rfl (wrap_u64 ⟨by omega, by omega⟩) (WL.mv rfl rfl (WL.mv rfl rfl (WL.shrS (c := 8192) rfl rfl rfl (by omega) (by decide) (WL.andI rfl rfl rfl (by decide) (WL.sub' (K := .i64) rfl rfl rfl (WL.mv rfl rfl (WL.mv rfl rfl (WL.shrS (c := 524288) rfl rfl rfl (by omega) (by decide) (WL.andI rfl rfl rfl (by decide) (WL.add (K := .i64) rfl rfl rfl ?_)))))))))))))
          refine WL.sub' (K := .i64) rfl rfl rfl (WL.mv rfl rfl (WL.shrS (c := 8388608) rfl rfl rfl (by omega) (by decide) (WL.andI rfl rfl rfl (by decide) ?_)))
          refine WL.bdC (T := Ty) rfl rfl rfl rfl (by repeat' first | exact CO.nil | apply CO.one (by first | rfl | exact SL.one (by assumption)) | apply CO.agg) rfl (by repeat' first | exact FL.nil | apply FL.cons) ?_
          refine WL.alF (T := Ty) rfl rfl (by repeat' first | exact FL.nil | apply FL.cons) (fun b1 => ?_)
          refine WL.stAO (T := Ty) (j := 0) rfl rfl rfl rfl (by repeat' first | exact AO.nil | apply AO.cons (by first | rfl | exact SL.one (by assumption))) rfl rfl (by repeat' first | exact FL.nil | apply FL.cons) (by repeat' first | exact FL.nil | apply FL.cons) ?_
          refine WL.nil (W.seq (W.region (WL.mv rfl rfl (WL.andI rfl rfl rfl (by decide) (WL.as rfl rfl (WL.nil (W.seq (W.block (W.seq (W.region (WL.mv rfl rfl (WL.lss rfl rfl rfl (WL.as rfl rfl ?_)))))))))))))
          refine WL.nil (W.condpF rfl (by omega) (W.seq (W.region (WL.mv rfl rfl (WL.lss rfl rfl rfl (WL.as rfl rfl (WL.nil (W.condpF rfl (by omega) (W.seq (W.region (WL.mv rfl rfl (WL.lss rfl rfl rfl (WL.as rfl rfl ?_)))))))))))))
          refine WL.nil (W.condpT rfl (by omega) (W.seq (W.region (WL.faN (T := Ty) (off' := 0) rfl rfl rfl rfl rfl rfl rfl ?_))))
          refine WL.stF (T := Ty) (j := 0) rfl rfl rfl rfl rfl rfl rfl (by repeat' first | exact FL.nil | apply FL.cons) (by repeat' first | exact FL.nil | apply FL.cons) ?_
          refine WL.nil (W.seq (W.region (WL.mv rfl rfl (WL.shrS (c := 8388608) rfl rfl rfl (by omega) (by decide) (WL.andI rfl rfl rfl (by decide) (WL.gtr rfl rfl rfl (WL.nil (W.condpF rfl (by omega) (W.skip (W.inBlock (W.seq (W.region ?_))))))))))))
          refine WL.ldAF (T := Ty) (j := 0) rfl rfl rfl rfl rfl rfl (by repeat' first | exact FL.nil | apply FL.cons) ?_
          refine WL.stAO (T := Ty) (j := 1) rfl rfl rfl rfl (by repeat' first | exact AO.nil | apply AO.cons (by first | rfl | exact SL.one (by assumption))) rfl rfl (by repeat' first | exact FL.nil | apply FL.cons) (by repeat' first | exact FL.nil | apply FL.cons) ?_
          refine WL.nil ?_
          refine W.fit (Hs' := [box b0 _ 24]) (by (repeat' first | exact Sel.nil | refine Sel.cons 0 rfl ?_ | refine Sel.cons 1 rfl ?_ | refine Sel.cons 2 rfl ?_ | refine Sel.cons 3 rfl ?_ | refine Sel.cons 4 rfl ?_ | refine Sel.cons 5 rfl ?_ | refine Sel.cons 6 rfl ?_ | refine Sel.cons 7 rfl ?_ | refine Sel.cons 8 rfl ?_ | refine Sel.cons 9 rfl ?_ | refine Sel.cons 10 rfl ?_ | refine Sel.cons 11 rfl ?_ | refine Sel.cons 12 rfl ?_ | refine Sel.cons 13 rfl ?_ | refine Sel.cons 14 rfl ?_ | refine Sel.cons 15 rfl ?_ | refine Sel.cons 16 rfl ?_ | refine Sel.cons 17 rfl ?_)) ?_
          exact W.retC (T := Ty) (j := 0) rfl rfl rfl rfl rfl rfl (fun h q => ⟨rfl, q⟩)
      · skip
        by_cases h48 : n % 64 < 48
        · skip
          by_cases g48 : n / 8388608 % 4 > 0
          · skip
            refine ⟨⟨1, n / 64 % (3 + 1), n / 256 % (7 + 1), IntKind.i64.wrap (a + n / 2048 % (3 + 1)), n / 8192 % (255 + 1), IntKind.i64.wrap (a - n / 8192 % (63 + 1)), IntKind.i64.wrap (IntKind.i64.wrap (a + n / 524288 % (15 + 1)) - 4), n / 8388608 % (15 + 1)⟩, fun ρ => ?_⟩
            refine in19 rfl rfl ?_
            refine W.seq (W.region ?_)
            refine WL.alF (T := Ty) rfl rfl (by repeat' first | exact FL.nil | apply FL.cons) (fun b0 => ?_)
            refine WL.nil (W.seq (W.region (WL.mv rfl rfl (WL.shrS (c := 64) rfl rfl rfl (by omega) (by decide) (WL.andI rfl rfl rfl (by decide) (WL.mv rfl rfl (WL.shrS (c := 256) rfl rfl rfl (by omega) (by decide) (WL.andI rfl rfl rfl (by decide) (WL.mv rfl rfl (WL.mv rfl rfl (WL.shrS (c := 2048) rfl rfl rfl (by omega) (by decide) (WL.andI rfl rfl rfl (by decide) (WL.add (K := .i64) rfl rfl rfl ?_)))))))))))))
            refine WL.mv rfl rfl (WL.shrS (c := 8192) rfl rfl rfl (by omega) (by decide) (WL.andI rfl rfl rfl (by decide) (WL.cvK (T := Ty) rfl rfl rfl rfl (wrap_u64 ⟨by omega, by omega⟩) (WL.mv rfl rfl (WL.mv rfl rfl (WL.shrS (c := 8192) rfl rfl rfl (by omega) (by decide) (WL.andI rfl rfl rfl (by decide) (WL.sub' (K := .i64) rfl rfl rfl (WL.mv rfl rfl (WL.mv rfl rfl (WL.shrS (c := 524288) rfl rfl rfl (by omega) (by decide) (WL.andI rfl rfl rfl (by decide) (WL.add (K := .i64) rfl rfl rfl ?_)))))))))))))
            refine WL.sub' (K := .i64) rfl rfl rfl (WL.mv rfl rfl (WL.shrS (c := 8388608) rfl rfl rfl (by omega) (by decide) (WL.andI rfl rfl rfl (by decide) ?_)))
            refine WL.bdC (T := Ty) rfl rfl rfl rfl (by repeat' first | exact CO.nil | apply CO.one (by first | rfl | exact SL.one (by assumption)) | apply CO.agg) rfl (by repeat' first | exact FL.nil | apply FL.cons) ?_
            refine WL.alF (T := Ty) rfl rfl (by repeat' first | exact FL.nil | apply FL.cons) (fun b1 => ?_)
            refine WL.stAO (T := Ty) (j := 0) rfl rfl rfl rfl (by repeat' first | exact AO.nil | apply AO.cons (by first | rfl | exact SL.one (by assumption))) rfl rfl (by repeat' first | exact FL.nil | apply FL.cons) (by repeat' first | exact FL.nil | apply FL.cons) ?_
            refine WL.nil (W.seq (W.region (WL.mv rfl rfl (WL.andI rfl rfl rfl (by decide) (WL.as rfl rfl (WL.nil (W.seq (W.block (W.seq (W.region (WL.mv rfl rfl (WL.lss rfl rfl rfl (WL.as rfl rfl ?_)))))))))))))
            refine WL.nil (W.condpF rfl (by omega) (W.seq (W.region (WL.mv rfl rfl (WL.lss rfl rfl rfl (WL.as rfl rfl (WL.nil (W.condpF rfl (by omega) (W.seq (W.region (WL.mv rfl rfl (WL.lss rfl rfl rfl (WL.as rfl rfl ?_)))))))))))))
            refine WL.nil (W.condpF rfl (by omega) (W.seq (W.region (WL.mv rfl rfl (WL.lss rfl rfl rfl (WL.as rfl rfl (WL.nil (W.condpT rfl (by omega) (W.seq (W.region (WL.faN (T := Ty) (off' := 0) rfl rfl rfl rfl rfl rfl rfl ?_)))))))))))
            refine WL.stF (T := Ty) (j := 0) rfl rfl rfl rfl rfl rfl rfl (by repeat' first | exact FL.nil | apply FL.cons) (by repeat' first | exact FL.nil | apply FL.cons) ?_
            refine WL.nil (W.seq (W.region (WL.mv rfl rfl (WL.shrS (c := 8388608) rfl rfl rfl (by omega) (by decide) (WL.andI rfl rfl rfl (by decide) (WL.gtr rfl rfl rfl (WL.nil (W.condpT rfl (by omega) (W.region (WL.faN (T := Ty) (off' := 0) rfl rfl rfl rfl rfl rfl rfl ?_))))))))))
            refine WL.stF (T := Ty) (j := 0) rfl rfl rfl rfl rfl rfl rfl (by repeat' first | exact FL.nil | apply FL.cons) (by repeat' first | exact FL.nil | apply FL.cons) ?_
            refine WL.nil (W.inBlock (W.seq (W.region ?_)))
            refine WL.ldAF (T := Ty) (j := 0) rfl rfl rfl rfl rfl rfl (by repeat' first | exact FL.nil | apply FL.cons) ?_
            refine WL.stAO (T := Ty) (j := 1) rfl rfl rfl rfl (by repeat' first | exact AO.nil | apply AO.cons (by first | rfl | exact SL.one (by assumption))) rfl rfl (by repeat' first | exact FL.nil | apply FL.cons) (by repeat' first | exact FL.nil | apply FL.cons) ?_
            refine WL.nil ?_
            refine W.fit (Hs' := [box b0 _ 24]) (by (repeat' first | exact Sel.nil | refine Sel.cons 0 rfl ?_ | refine Sel.cons 1 rfl ?_ | refine Sel.cons 2 rfl ?_ | refine Sel.cons 3 rfl ?_ | refine Sel.cons 4 rfl ?_ | refine Sel.cons 5 rfl ?_ | refine Sel.cons 6 rfl ?_ | refine Sel.cons 7 rfl ?_ | refine Sel.cons 8 rfl ?_ | refine Sel.cons 9 rfl ?_ | refine Sel.cons 10 rfl ?_ | refine Sel.cons 11 rfl ?_ | refine Sel.cons 12 rfl ?_ | refine Sel.cons 13 rfl ?_ | refine Sel.cons 14 rfl ?_ | refine Sel.cons 15 rfl ?_ | refine Sel.cons 16 rfl ?_ | refine Sel.cons 17 rfl ?_)) ?_
            exact W.retC (T := Ty) (j := 0) rfl rfl rfl rfl rfl rfl (fun h q => ⟨rfl, q⟩)
          · skip
            refine ⟨⟨4, n / 64 % (3 + 1), n / 256 % (7 + 1), IntKind.i64.wrap (a + n / 2048 % (3 + 1)), n / 8192 % (255 + 1), IntKind.i64.wrap (a - n / 8192 % (63 + 1)), IntKind.i64.wrap (IntKind.i64.wrap (a + n / 524288 % (15 + 1)) - 4), n / 8388608 % (15 + 1)⟩, fun ρ => ?_⟩
            refine in19 rfl rfl ?_
            refine W.seq (W.region ?_)
            refine WL.alF (T := Ty) rfl rfl (by repeat' first | exact FL.nil | apply FL.cons) (fun b0 => ?_)
            refine WL.nil (W.seq (W.region (WL.mv rfl rfl (WL.shrS (c := 64) rfl rfl rfl (by omega) (by decide) (WL.andI rfl rfl rfl (by decide) (WL.mv rfl rfl (WL.shrS (c := 256) rfl rfl rfl (by omega) (by decide) (WL.andI rfl rfl rfl (by decide) (WL.mv rfl rfl (WL.mv rfl rfl (WL.shrS (c := 2048) rfl rfl rfl (by omega) (by decide) (WL.andI rfl rfl rfl (by decide) (WL.add (K := .i64) rfl rfl rfl ?_)))))))))))))
            refine WL.mv rfl rfl (WL.shrS (c := 8192) rfl rfl rfl (by omega) (by decide) (WL.andI rfl rfl rfl (by decide) (WL.cvK (T := Ty) rfl rfl rfl rfl (wrap_u64 ⟨by omega, by omega⟩) (WL.mv rfl rfl (WL.mv rfl rfl (WL.shrS (c := 8192) rfl rfl rfl (by omega) (by decide) (WL.andI rfl rfl rfl (by decide) (WL.sub' (K := .i64) rfl rfl rfl (WL.mv rfl rfl (WL.mv rfl rfl (WL.shrS (c := 524288) rfl rfl rfl (by omega) (by decide) (WL.andI rfl rfl rfl (by decide) (WL.add (K := .i64) rfl rfl rfl ?_)))))))))))))
            refine WL.sub' (K := .i64) rfl rfl rfl (WL.mv rfl rfl (WL.shrS (c := 8388608) rfl rfl rfl (by omega) (by decide) (WL.andI rfl rfl rfl (by decide) ?_)))
            refine WL.bdC (T := Ty) rfl rfl rfl rfl (by repeat' first | exact CO.nil | apply CO.one (by first | rfl | exact SL.one (by assumption)) | apply CO.agg) rfl (by repeat' first | exact FL.nil | apply FL.cons) ?_
            refine WL.alF (T := Ty) rfl rfl (by repeat' first | exact FL.nil | apply FL.cons) (fun b1 => ?_)
            refine WL.stAO (T := Ty) (j := 0) rfl rfl rfl rfl (by repeat' first | exact AO.nil | apply AO.cons (by first | rfl | exact SL.one (by assumption))) rfl rfl (by repeat' first | exact FL.nil | apply FL.cons) (by repeat' first | exact FL.nil | apply FL.cons) ?_
            refine WL.nil (W.seq (W.region (WL.mv rfl rfl (WL.andI rfl rfl rfl (by decide) (WL.as rfl rfl (WL.nil (W.seq (W.block (W.seq (W.region (WL.mv rfl rfl (WL.lss rfl rfl rfl (WL.as rfl rfl ?_)))))))))))))
            refine WL.nil (W.condpF rfl (by omega) (W.seq (W.region (WL.mv rfl rfl (WL.lss rfl rfl rfl (WL.as rfl rfl (WL.nil (W.condpF rfl (by omega) (W.seq (W.region (WL.mv rfl rfl (WL.lss rfl rfl rfl (WL.as rfl rfl ?_)))))))))))))
            refine WL.nil (W.condpF rfl (by omega) (W.seq (W.region (WL.mv rfl rfl (WL.lss rfl rfl rfl (WL.as rfl rfl (WL.nil (W.condpT rfl (by omega) (W.seq (W.region (WL.faN (T := Ty) (off' := 0) rfl rfl rfl rfl rfl rfl rfl ?_)))))))))))
            refine WL.stF (T := Ty) (j := 0) rfl rfl rfl rfl rfl rfl rfl (by repeat' first | exact FL.nil | apply FL.cons) (by repeat' first | exact FL.nil | apply FL.cons) ?_
            refine WL.nil (W.seq (W.region (WL.mv rfl rfl (WL.shrS (c := 8388608) rfl rfl rfl (by omega) (by decide) (WL.andI rfl rfl rfl (by decide) (WL.gtr rfl rfl rfl (WL.nil (W.condpF rfl (by omega) (W.skip (W.inBlock (W.seq (W.region ?_))))))))))))
            refine WL.ldAF (T := Ty) (j := 0) rfl rfl rfl rfl rfl rfl (by repeat' first | exact FL.nil | apply FL.cons) ?_
            refine WL.stAO (T := Ty) (j := 1) rfl rfl rfl rfl (by repeat' first | exact AO.nil | apply AO.cons (by first | rfl | exact SL.one (by assumption))) rfl rfl (by repeat' first | exact FL.nil | apply FL.cons) (by repeat' first | exact FL.nil | apply FL.cons) ?_
            refine WL.nil ?_
            refine W.fit (Hs' := [box b0 _ 24]) (by (repeat' first | exact Sel.nil | refine Sel.cons 0 rfl ?_ | refine Sel.cons 1 rfl ?_ | refine Sel.cons 2 rfl ?_ | refine Sel.cons 3 rfl ?_ | refine Sel.cons 4 rfl ?_ | refine Sel.cons 5 rfl ?_ | refine Sel.cons 6 rfl ?_ | refine Sel.cons 7 rfl ?_ | refine Sel.cons 8 rfl ?_ | refine Sel.cons 9 rfl ?_ | refine Sel.cons 10 rfl ?_ | refine Sel.cons 11 rfl ?_ | refine Sel.cons 12 rfl ?_ | refine Sel.cons 13 rfl ?_ | refine Sel.cons 14 rfl ?_ | refine Sel.cons 15 rfl ?_ | refine Sel.cons 16 rfl ?_ | refine Sel.cons 17 rfl ?_)) ?_
            exact W.retC (T := Ty) (j := 0) rfl rfl rfl rfl rfl rfl (fun h q => ⟨rfl, q⟩)
        · skip
          by_cases h53 : n % 64 < 53
          · skip
            refine ⟨⟨5, n / 64 % (3 + 1), n / 256 % (7 + 1), IntKind.i64.wrap (a + n / 2048 % (3 + 1)), n / 8192 % (255 + 1), IntKind.i64.wrap (a - n / 8192 % (63 + 1)), IntKind.i64.wrap (IntKind.i64.wrap (a + n / 524288 % (15 + 1)) - 4), n / 8388608 % (15 + 1)⟩, fun ρ => ?_⟩
            refine in19 rfl rfl ?_
            refine W.seq (W.region ?_)
            refine WL.alF (T := Ty) rfl rfl (by repeat' first | exact FL.nil | apply FL.cons) (fun b0 => ?_)
            refine WL.nil (W.seq (W.region (WL.mv rfl rfl (WL.shrS (c := 64) rfl rfl rfl (by omega) (by decide) (WL.andI rfl rfl rfl (by decide) (WL.mv rfl rfl (WL.shrS (c := 256) rfl rfl rfl (by omega) (by decide) (WL.andI rfl rfl rfl (by decide) (WL.mv rfl rfl (WL.mv rfl rfl (WL.shrS (c := 2048) rfl rfl rfl (by omega) (by decide) (WL.andI rfl rfl rfl (by decide) (WL.add (K := .i64) rfl rfl rfl ?_)))))))))))))
            refine WL.mv rfl rfl (WL.shrS (c := 8192) rfl rfl rfl (by omega) (by decide) (WL.andI rfl rfl rfl (by decide) (WL.cvK (T := Ty) rfl rfl rfl rfl (wrap_u64 ⟨by omega, by omega⟩) (WL.mv rfl rfl (WL.mv rfl rfl (WL.shrS (c := 8192) rfl rfl rfl (by omega) (by decide) (WL.andI rfl rfl rfl (by decide) (WL.sub' (K := .i64) rfl rfl rfl (WL.mv rfl rfl (WL.mv rfl rfl (WL.shrS (c := 524288) rfl rfl rfl (by omega) (by decide) (WL.andI rfl rfl rfl (by decide) (WL.add (K := .i64) rfl rfl rfl ?_)))))))))))))
            refine WL.sub' (K := .i64) rfl rfl rfl (WL.mv rfl rfl (WL.shrS (c := 8388608) rfl rfl rfl (by omega) (by decide) (WL.andI rfl rfl rfl (by decide) ?_)))
            refine WL.bdC (T := Ty) rfl rfl rfl rfl (by repeat' first | exact CO.nil | apply CO.one (by first | rfl | exact SL.one (by assumption)) | apply CO.agg) rfl (by repeat' first | exact FL.nil | apply FL.cons) ?_
            refine WL.alF (T := Ty) rfl rfl (by repeat' first | exact FL.nil | apply FL.cons) (fun b1 => ?_)
            refine WL.stAO (T := Ty) (j := 0) rfl rfl rfl rfl (by repeat' first | exact AO.nil | apply AO.cons (by first | rfl | exact SL.one (by assumption))) rfl rfl (by repeat' first | exact FL.nil | apply FL.cons) (by repeat' first | exact FL.nil | apply FL.cons) ?_
            refine WL.nil (W.seq (W.region (WL.mv rfl rfl (WL.andI rfl rfl rfl (by decide) (WL.as rfl rfl (WL.nil (W.seq (W.block (W.seq (W.region (WL.mv rfl rfl (WL.lss rfl rfl rfl (WL.as rfl rfl ?_)))))))))))))
            refine WL.nil (W.condpF rfl (by omega) (W.seq (W.region (WL.mv rfl rfl (WL.lss rfl rfl rfl (WL.as rfl rfl (WL.nil (W.condpF rfl (by omega) (W.seq (W.region (WL.mv rfl rfl (WL.lss rfl rfl rfl (WL.as rfl rfl ?_)))))))))))))
            refine WL.nil (W.condpF rfl (by omega) (W.seq (W.region (WL.mv rfl rfl (WL.lss rfl rfl rfl (WL.as rfl rfl (WL.nil (W.condpF rfl (by omega) (W.seq (W.region (WL.mv rfl rfl (WL.lss rfl rfl rfl (WL.as rfl rfl ?_)))))))))))))
            refine WL.nil (W.condpT rfl (by omega) (W.region (WL.faN (T := Ty) (off' := 0) rfl rfl rfl rfl rfl rfl rfl ?_)))
            refine WL.stF (T := Ty) (j := 0) rfl rfl rfl rfl rfl rfl rfl (by repeat' first | exact FL.nil | apply FL.cons) (by repeat' first | exact FL.nil | apply FL.cons) ?_
            refine WL.nil (W.inBlock (W.seq (W.region ?_)))
            refine WL.ldAF (T := Ty) (j := 0) rfl rfl rfl rfl rfl rfl (by repeat' first | exact FL.nil | apply FL.cons) ?_
            refine WL.stAO (T := Ty) (j := 1) rfl rfl rfl rfl (by repeat' first | exact AO.nil | apply AO.cons (by first | rfl | exact SL.one (by assumption))) rfl rfl (by repeat' first | exact FL.nil | apply FL.cons) (by repeat' first | exact FL.nil | apply FL.cons) ?_
            refine WL.nil ?_
            refine W.fit (Hs' := [box b0 _ 24]) (by (repeat' first | exact Sel.nil | refine Sel.cons 0 rfl ?_ | refine Sel.cons 1 rfl ?_ | refine Sel.cons 2 rfl ?_ | refine Sel.cons 3 rfl ?_ | refine Sel.cons 4 rfl ?_ | refine Sel.cons 5 rfl ?_ | refine Sel.cons 6 rfl ?_ | refine Sel.cons 7 rfl ?_ | refine Sel.cons 8 rfl ?_ | refine Sel.cons 9 rfl ?_ | refine Sel.cons 10 rfl ?_ | refine Sel.cons 11 rfl ?_ | refine Sel.cons 12 rfl ?_ | refine Sel.cons 13 rfl ?_ | refine Sel.cons 14 rfl ?_ | refine Sel.cons 15 rfl ?_ | refine Sel.cons 16 rfl ?_ | refine Sel.cons 17 rfl ?_)) ?_
            exact W.retC (T := Ty) (j := 0) rfl rfl rfl rfl rfl rfl (fun h q => ⟨rfl, q⟩)
          · skip
            by_cases h60 : n % 64 < 60
            · skip
              refine ⟨⟨6, n / 64 % (3 + 1), n / 256 % (7 + 1), IntKind.i64.wrap (a + n / 2048 % (3 + 1)), n / 8192 % (255 + 1), IntKind.i64.wrap (a - n / 8192 % (63 + 1)), IntKind.i64.wrap (IntKind.i64.wrap (a + n / 524288 % (15 + 1)) - 4), n / 8388608 % (15 + 1)⟩, fun ρ => ?_⟩
              refine in19 rfl rfl ?_
              refine W.seq (W.region ?_)
              refine WL.alF (T := Ty) rfl rfl (by repeat' first | exact FL.nil | apply FL.cons) (fun b0 => ?_)
              refine WL.nil (W.seq (W.region (WL.mv rfl rfl (WL.shrS (c := 64) rfl rfl rfl (by omega) (by decide) (WL.andI rfl rfl rfl (by decide) (WL.mv rfl rfl (WL.shrS (c := 256) rfl rfl rfl (by omega) (by decide) (WL.andI rfl rfl rfl (by decide) (WL.mv rfl rfl (WL.mv rfl rfl (WL.shrS (c := 2048) rfl rfl rfl (by omega) (by decide) (WL.andI rfl rfl rfl (by decide) (WL.add (K := .i64) rfl rfl rfl ?_)))))))))))))
              refine WL.mv rfl rfl (WL.shrS (c := 8192) rfl rfl rfl (by omega) (by decide) (WL.andI rfl rfl rfl (by decide) (WL.cvK (T := Ty) rfl rfl rfl rfl (wrap_u64 ⟨by omega, by omega⟩) (WL.mv rfl rfl (WL.mv rfl rfl (WL.shrS (c := 8192) rfl rfl rfl (by omega) (by decide) (WL.andI rfl rfl rfl (by decide) (WL.sub' (K := .i64) rfl rfl rfl (WL.mv rfl rfl (WL.mv rfl rfl (WL.shrS (c := 524288) rfl rfl rfl (by omega) (by decide) (WL.andI rfl rfl rfl (by decide) (WL.add (K := .i64) rfl rfl rfl ?_)))))))))))))
              refine WL.sub' (K := .i64) rfl rfl rfl (WL.mv rfl rfl (WL.shrS (c := 8388608) rfl rfl rfl (by omega) (by decide) (WL.andI rfl rfl rfl (by decide) ?_)))
              refine WL.bdC (T := Ty) rfl rfl rfl rfl (by repeat' first | exact CO.nil | apply CO.one (by first | rfl | exact SL.one (by assumption)) | apply CO.agg) rfl (by repeat' first | exact FL.nil | apply FL.cons) ?_
              refine WL.alF (T := Ty) rfl rfl (by repeat' first | exact FL.nil | apply FL.cons) (fun b1 => ?_)
              refine WL.stAO (T := Ty) (j := 0) rfl rfl rfl rfl (by repeat' first | exact AO.nil | apply AO.cons (by first | rfl | exact SL.one (by assumption))) rfl rfl (by repeat' first | exact FL.nil | apply FL.cons) (by repeat' first | exact FL.nil | apply FL.cons) ?_
              refine WL.nil (W.seq (W.region (WL.mv rfl rfl (WL.andI rfl rfl rfl (by decide) (WL.as rfl rfl (WL.nil (W.seq (W.block (W.seq (W.region (WL.mv rfl rfl (WL.lss rfl rfl rfl (WL.as rfl rfl ?_)))))))))))))
              refine WL.nil (W.condpF rfl (by omega) (W.seq (W.region (WL.mv rfl rfl (WL.lss rfl rfl rfl (WL.as rfl rfl (WL.nil (W.condpF rfl (by omega) (W.seq (W.region (WL.mv rfl rfl (WL.lss rfl rfl rfl (WL.as rfl rfl ?_)))))))))))))
              refine WL.nil (W.condpF rfl (by omega) (W.seq (W.region (WL.mv rfl rfl (WL.lss rfl rfl rfl (WL.as rfl rfl (WL.nil (W.condpF rfl (by omega) (W.seq (W.region (WL.mv rfl rfl (WL.lss rfl rfl rfl (WL.as rfl rfl ?_)))))))))))))
              refine WL.nil (W.condpF rfl (by omega) (W.seq (W.region (WL.mv rfl rfl (WL.lss rfl rfl rfl (WL.as rfl rfl (WL.nil (W.condpT rfl (by omega) (W.region (WL.faN (T := Ty) (off' := 0) rfl rfl rfl rfl rfl rfl rfl ?_))))))))))
              refine WL.stF (T := Ty) (j := 0) rfl rfl rfl rfl rfl rfl rfl (by repeat' first | exact FL.nil | apply FL.cons) (by repeat' first | exact FL.nil | apply FL.cons) ?_
              refine WL.nil (W.inBlock (W.seq (W.region ?_)))
              refine WL.ldAF (T := Ty) (j := 0) rfl rfl rfl rfl rfl rfl (by repeat' first | exact FL.nil | apply FL.cons) ?_
              refine WL.stAO (T := Ty) (j := 1) rfl rfl rfl rfl (by repeat' first | exact AO.nil | apply AO.cons (by first | rfl | exact SL.one (by assumption))) rfl rfl (by repeat' first | exact FL.nil | apply FL.cons) (by repeat' first | exact FL.nil | apply FL.cons) ?_
              refine WL.nil ?_
              refine W.fit (Hs' := [box b0 _ 24]) (by (repeat' first | exact Sel.nil | refine Sel.cons 0 rfl ?_ | refine Sel.cons 1 rfl ?_ | refine Sel.cons 2 rfl ?_ | refine Sel.cons 3 rfl ?_ | refine Sel.cons 4 rfl ?_ | refine Sel.cons 5 rfl ?_ | refine Sel.cons 6 rfl ?_ | refine Sel.cons 7 rfl ?_ | refine Sel.cons 8 rfl ?_ | refine Sel.cons 9 rfl ?_ | refine Sel.cons 10 rfl ?_ | refine Sel.cons 11 rfl ?_ | refine Sel.cons 12 rfl ?_ | refine Sel.cons 13 rfl ?_ | refine Sel.cons 14 rfl ?_ | refine Sel.cons 15 rfl ?_ | refine Sel.cons 16 rfl ?_ | refine Sel.cons 17 rfl ?_)) ?_
              exact W.retC (T := Ty) (j := 0) rfl rfl rfl rfl rfl rfl (fun h q => ⟨rfl, q⟩)
            · skip
              by_cases h62 : n % 64 < 62
              · skip
                refine ⟨⟨7, n / 64 % (3 + 1), n / 256 % (7 + 1), IntKind.i64.wrap (a + n / 2048 % (3 + 1)), n / 8192 % (255 + 1), IntKind.i64.wrap (a - n / 8192 % (63 + 1)), IntKind.i64.wrap (IntKind.i64.wrap (a + n / 524288 % (15 + 1)) - 4), n / 8388608 % (15 + 1)⟩, fun ρ => ?_⟩
                refine in19 rfl rfl ?_
                refine W.seq (W.region ?_)
                refine WL.alF (T := Ty) rfl rfl (by repeat' first | exact FL.nil | apply FL.cons) (fun b0 => ?_)
                refine WL.nil (W.seq (W.region (WL.mv rfl rfl (WL.shrS (c := 64) rfl rfl rfl (by omega) (by decide) (WL.andI rfl rfl rfl (by decide) (WL.mv rfl rfl (WL.shrS (c := 256) rfl rfl rfl (by omega) (by decide) (WL.andI rfl rfl rfl (by decide) (WL.mv rfl rfl (WL.mv rfl rfl (WL.shrS (c := 2048) rfl rfl rfl (by omega) (by decide) (WL.andI rfl rfl rfl (by decide) (WL.add (K := .i64) rfl rfl rfl ?_)))))))))))))
                refine WL.mv rfl rfl (WL.shrS (c := 8192) rfl rfl rfl (by omega) (by decide) (WL.andI rfl rfl rfl (by decide) (WL.cvK (T := Ty) rfl rfl rfl rfl (wrap_u64 ⟨by omega, by omega⟩) (WL.mv rfl rfl (WL.mv rfl rfl (WL.shrS (c := 8192) rfl rfl rfl (by omega) (by decide) (WL.andI rfl rfl rfl (by decide) (WL.sub' (K := .i64) rfl rfl rfl (WL.mv rfl rfl (WL.mv rfl rfl (WL.shrS (c := 524288) rfl rfl rfl (by omega) (by decide) (WL.andI rfl rfl rfl (by decide) (WL.add (K := .i64) rfl rfl rfl ?_)))))))))))))
                refine WL.sub' (K := .i64) rfl rfl rfl (WL.mv rfl rfl (WL.shrS (c := 8388608) rfl rfl rfl (by omega) (by decide) (WL.andI rfl rfl rfl (by decide) ?_)))
                refine WL.bdC (T := Ty) rfl rfl rfl rfl (by repeat' first | exact CO.nil | apply CO.one (by first | rfl | exact SL.one (by assumption)) | apply CO.agg) rfl (by repeat' first | exact FL.nil | apply FL.cons) ?_
                refine WL.alF (T := Ty) rfl rfl (by repeat' first | exact FL.nil | apply FL.cons) (fun b1 => ?_)
                refine WL.stAO (T := Ty) (j := 0) rfl rfl rfl rfl (by repeat' first | exact AO.nil | apply AO.cons (by first | rfl | exact SL.one (by assumption))) rfl rfl (by repeat' first | exact FL.nil | apply FL.cons) (by repeat' first | exact FL.nil | apply FL.cons) ?_
                refine WL.nil (W.seq (W.region (WL.mv rfl rfl (WL.andI rfl rfl rfl (by decide) (WL.as rfl rfl (WL.nil (W.seq (W.block (W.seq (W.region (WL.mv rfl rfl (WL.lss rfl rfl rfl (WL.as rfl rfl ?_)))))))))))))
                refine WL.nil (W.condpF rfl (by omega) (W.seq (W.region (WL.mv rfl rfl (WL.lss rfl rfl rfl (WL.as rfl rfl (WL.nil (W.condpF rfl (by omega) (W.seq (W.region (WL.mv rfl rfl (WL.lss rfl rfl rfl (WL.as rfl rfl ?_)))))))))))))
                refine WL.nil (W.condpF rfl (by omega) (W.seq (W.region (WL.mv rfl rfl (WL.lss rfl rfl rfl (WL.as rfl rfl (WL.nil (W.condpF rfl (by omega) (W.seq (W.region (WL.mv rfl rfl (WL.lss rfl rfl rfl (WL.as rfl rfl ?_)))))))))))))
                refine WL.nil (W.condpF rfl (by omega) (W.seq (W.region (WL.mv rfl rfl (WL.lss rfl rfl rfl (WL.as rfl rfl (WL.nil (W.condpF rfl (by omega) (W.seq (W.region (WL.mv rfl rfl (WL.lss rfl rfl rfl (WL.as rfl rfl ?_)))))))))))))
                refine WL.nil (W.condpT rfl (by omega) (W.region (WL.faN (T := Ty) (off' := 0) rfl rfl rfl rfl rfl rfl rfl ?_)))
                refine WL.stF (T := Ty) (j := 0) rfl rfl rfl rfl rfl rfl rfl (by repeat' first | exact FL.nil | apply FL.cons) (by repeat' first | exact FL.nil | apply FL.cons) ?_
                refine WL.nil (W.inBlock (W.seq (W.region ?_)))
                refine WL.ldAF (T := Ty) (j := 0) rfl rfl rfl rfl rfl rfl (by repeat' first | exact FL.nil | apply FL.cons) ?_
                refine WL.stAO (T := Ty) (j := 1) rfl rfl rfl rfl (by repeat' first | exact AO.nil | apply AO.cons (by first | rfl | exact SL.one (by assumption))) rfl rfl (by repeat' first | exact FL.nil | apply FL.cons) (by repeat' first | exact FL.nil | apply FL.cons) ?_
                refine WL.nil ?_
                refine W.fit (Hs' := [box b0 _ 24]) (by (repeat' first | exact Sel.nil | refine Sel.cons 0 rfl ?_ | refine Sel.cons 1 rfl ?_ | refine Sel.cons 2 rfl ?_ | refine Sel.cons 3 rfl ?_ | refine Sel.cons 4 rfl ?_ | refine Sel.cons 5 rfl ?_ | refine Sel.cons 6 rfl ?_ | refine Sel.cons 7 rfl ?_ | refine Sel.cons 8 rfl ?_ | refine Sel.cons 9 rfl ?_ | refine Sel.cons 10 rfl ?_ | refine Sel.cons 11 rfl ?_ | refine Sel.cons 12 rfl ?_ | refine Sel.cons 13 rfl ?_ | refine Sel.cons 14 rfl ?_ | refine Sel.cons 15 rfl ?_ | refine Sel.cons 16 rfl ?_ | refine Sel.cons 17 rfl ?_)) ?_
                exact W.retC (T := Ty) (j := 0) rfl rfl rfl rfl rfl rfl (fun h q => ⟨rfl, q⟩)
              · skip
                refine ⟨⟨n / 64 % (15 + 1), n / 1024 % (31 + 1) - 5, n / 256 % (7 + 1), IntKind.i64.wrap (a + n / 2048 % (3 + 1)), n / 8192 % (255 + 1), IntKind.i64.wrap (a - n / 8192 % (63 + 1)), IntKind.i64.wrap (IntKind.i64.wrap (a + n / 524288 % (15 + 1)) - 4), n / 8388608 % (15 + 1)⟩, fun ρ => ?_⟩
                refine in19 rfl rfl ?_
                refine W.seq (W.region ?_)
                refine WL.alF (T := Ty) rfl rfl (by repeat' first | exact FL.nil | apply FL.cons) (fun b0 => ?_)
                refine WL.nil (W.seq (W.region (WL.mv rfl rfl (WL.shrS (c := 64) rfl rfl rfl (by omega) (by decide) (WL.andI rfl rfl rfl (by decide) (WL.mv rfl rfl (WL.shrS (c := 256) rfl rfl rfl (by omega) (by decide) (WL.andI rfl rfl rfl (by decide) (WL.mv rfl rfl (WL.mv rfl rfl (WL.shrS (c := 2048) rfl rfl rfl (by omega) (by decide) (WL.andI rfl rfl rfl (by decide) (WL.add (K := .i64) rfl rfl rfl ?_)))))))))))))
                refine WL.mv rfl rfl (WL.shrS (c := 8192) rfl rfl rfl (by omega) (by decide) (WL.andI rfl rfl rfl (by decide) (WL.cvK (T := Ty) rfl rfl rfl rfl (wrap_u64 ⟨by omega, by omega⟩) (WL.mv rfl rfl (WL.mv rfl rfl (WL.shrS (c := 8192) rfl rfl rfl (by omega) (by decide) (WL.andI rfl rfl rfl (by decide) (WL.sub' (K := .i64) rfl rfl rfl (WL.mv rfl rfl (WL.mv rfl rfl (WL.shrS (c := 524288) rfl rfl rfl (by omega) (by decide) (WL.andI rfl rfl rfl (by decide) (WL.add (K := .i64) rfl rfl rfl ?_)))))))))))))
                refine WL.sub' (K := .i64) rfl rfl rfl (WL.mv rfl rfl (WL.shrS (c := 8388608) rfl rfl rfl (by omega) (by decide) (WL.andI rfl rfl rfl (by decide) ?_)))
                refine WL.bdC (T := Ty) rfl rfl rfl rfl (by repeat' first | exact CO.nil | apply CO.one (by first | rfl | exact SL.one (by assumption)) | apply CO.agg) rfl (by repeat' first | exact FL.nil | apply FL.cons) ?_
                refine WL.alF (T := Ty) rfl rfl (by repeat' first | exact FL.nil | apply FL.cons) (fun b1 => ?_)
                refine WL.stAO (T := Ty) (j := 0) rfl rfl rfl rfl (by repeat' first | exact AO.nil | apply AO.cons (by first | rfl | exact SL.one (by assumption))) rfl rfl (by repeat' first | exact FL.nil | apply FL.cons) (by repeat' first | exact FL.nil | apply FL.cons) ?_
                refine WL.nil (W.seq (W.region (WL.mv rfl rfl (WL.andI rfl rfl rfl (by decide) (WL.as rfl rfl (WL.nil (W.seq (W.block (W.seq (W.region (WL.mv rfl rfl (WL.lss rfl rfl rfl (WL.as rfl rfl ?_)))))))))))))
                refine WL.nil (W.condpF rfl (by omega) (W.seq (W.region (WL.mv rfl rfl (WL.lss rfl rfl rfl (WL.as rfl rfl (WL.nil (W.condpF rfl (by omega) (W.seq (W.region (WL.mv rfl rfl (WL.lss rfl rfl rfl (WL.as rfl rfl ?_)))))))))))))
                refine WL.nil (W.condpF rfl (by omega) (W.seq (W.region (WL.mv rfl rfl (WL.lss rfl rfl rfl (WL.as rfl rfl (WL.nil (W.condpF rfl (by omega) (W.seq (W.region (WL.mv rfl rfl (WL.lss rfl rfl rfl (WL.as rfl rfl ?_)))))))))))))
                refine WL.nil (W.condpF rfl (by omega) (W.seq (W.region (WL.mv rfl rfl (WL.lss rfl rfl rfl (WL.as rfl rfl (WL.nil (W.condpF rfl (by omega) (W.seq (W.region (WL.mv rfl rfl (WL.lss rfl rfl rfl (WL.as rfl rfl ?_)))))))))))))
                refine WL.nil (W.condpF rfl (by omega) (W.seq (W.region (WL.mv rfl rfl (WL.shrS (c := 64) rfl rfl rfl (by omega) (by decide) (WL.andI rfl rfl rfl (by decide) (WL.faN (T := Ty) (off' := 0) rfl rfl rfl rfl rfl rfl rfl ?_)))))))
                refine WL.stF (T := Ty) (j := 0) rfl rfl rfl rfl rfl rfl rfl (by repeat' first | exact FL.nil | apply FL.cons) (by repeat' first | exact FL.nil | apply FL.cons) ?_
                refine WL.nil (W.region (WL.mv rfl rfl (WL.shrS (c := 1024) rfl rfl rfl (by omega) (by decide) (WL.andI rfl rfl rfl (by decide) (WL.subK rfl rfl rfl (wrap_i64 ⟨by omega, by omega⟩) (WL.faN (T := Ty) (off' := 1) rfl rfl rfl rfl rfl rfl rfl ?_))))))
                refine WL.stF (T := Ty) (j := 0) rfl rfl rfl rfl rfl rfl rfl (by repeat' first | exact FL.nil | apply FL.cons) (by repeat' first | exact FL.nil | apply FL.cons) ?_
                refine WL.nil (W.inBlock (W.seq (W.region ?_)))
                refine WL.ldAF (T := Ty) (j := 0) rfl rfl rfl rfl rfl rfl (by repeat' first | exact FL.nil | apply FL.cons) ?_
                refine WL.stAO (T := Ty) (j := 1) rfl rfl rfl rfl (by repeat' first | exact AO.nil | apply AO.cons (by first | rfl | exact SL.one (by assumption))) rfl rfl (by repeat' first | exact FL.nil | apply FL.cons) (by repeat' first | exact FL.nil | apply FL.cons) ?_
                refine WL.nil ?_
                refine W.fit (Hs' := [box b0 _ 24]) (by (repeat' first | exact Sel.nil | refine Sel.cons 0 rfl ?_ | refine Sel.cons 1 rfl ?_ | refine Sel.cons 2 rfl ?_ | refine Sel.cons 3 rfl ?_ | refine Sel.cons 4 rfl ?_ | refine Sel.cons 5 rfl ?_ | refine Sel.cons 6 rfl ?_ | refine Sel.cons 7 rfl ?_ | refine Sel.cons 8 rfl ?_ | refine Sel.cons 9 rfl ?_ | refine Sel.cons 10 rfl ?_ | refine Sel.cons 11 rfl ?_ | refine Sel.cons 12 rfl ?_ | refine Sel.cons 13 rfl ?_ | refine Sel.cons 14 rfl ?_ | refine Sel.cons 15 rfl ?_ | refine Sel.cons 16 rfl ?_ | refine Sel.cons 17 rfl ?_)) ?_
                exact W.retC (T := Ty) (j := 0) rfl rfl rfl rfl rfl rfl (fun h q => ⟨rfl, q⟩)
-- CALL 17 refine WL.callV rfl rfl (fun x p d => awake14_c _) ?_
theorem awake14_c (ρ : Hp) : Fn Try.prog 17 #[] ρ [] (Just (.bool true)) := by
  refine in17 rfl rfl ?_
  have rz := rmdl_zero ρ
  have hI0 := MInv.zero
  have hI1 := doM_inv hI0 ⟨1, 3, 0, 5, 7, 0, 0, 0⟩
  have hI2 := doM_inv hI1 ⟨5, 3, 0, 0, 0, 0, 9, 0⟩
  have hI3 := doM_inv hI2 ⟨4, 3, 0, 0, 0, 0, 0, 0⟩
  have hd : ((doM (doM (doM (doM ⟨[], [], 0⟩ ⟨1, 3, 0, 5, 7, 0, 0, 0⟩).1 ⟨5, 3, 0, 0, 0, 0, 9, 0⟩).1 ⟨4, 3, 0, 0, 0, 0, 0, 0⟩).1 ⟨6, 0, 1, 0, 0, 0, 0, 5⟩).2.list.flatMap smC)[(0 : Int).toNat * 2 + 1]? = some (.int .u64 7) := rfl
  refine W.seq (W.region (WL.as rfl rfl (WL.nil (W.seq (W.region ?_)))))
  refine WL.bdC (T := Ty) rfl rfl rfl rfl (by repeat' first | exact CO.nil | apply CO.one (by first | rfl | exact SL.one (by assumption)) | apply CO.agg) rfl (by repeat' first | exact FL.nil | apply FL.cons) ?_
  refine WL.bdC (T := Ty) rfl rfl rfl rfl (by repeat' first | exact CO.nil | apply CO.one (by first | rfl | exact SL.one (by assumption)) | apply CO.agg) rfl (by repeat' first | exact FL.nil | apply FL.cons) ?_
  refine WL.callF rfl rfl (fun x p d => doX_c _ _ _ _ _ _ _ _ _ _ _ _ (by first | assumption | exact RMdl.wide (by assumption) | exact RMdl.mono (by assumption) (eqh_at 0 rfl p d) | exact (in_at 0 rfl p d).rmdl | exact (in_at 1 rfl p d).rmdl | exact (in_at 2 rfl p d).rmdl | exact (in_at 3 rfl p d).rmdl | exact (in_at 4 rfl p d).rmdl | exact (in_at 5 rfl p d).rmdl | exact (in_at 6 rfl p d).rmdl | exact (in_at 7 rfl p d).rmdl | exact (in_at 8 rfl p d).rmdl | exact (in_at 9 rfl p d).rmdl | exact (in_at 10 rfl p d).rmdl | exact (in_at 11 rfl p d).rmdl | exact (in_at 12 rfl p d).rmdl | exact (in_at 13 rfl p d).rmdl | exact (in_at 14 rfl p d).rmdl | exact (in_at 15 rfl p d).rmdl | exact (in_at 16 rfl p d).rmdl | exact (in_at 17 rfl p d).rmdl | exact (in_at 18 rfl p d).rmdl | exact (in_at 19 rfl p d).rmdl | exact (in_at 20 rfl p d).rmdl | exact (in_at 21 rfl p d).rmdl | exact (in_at 22 rfl p d).rmdl | exact (in_at 23 rfl p d).rmdl | exact (in_at 24 rfl p d).rmdl | exact (in_at 25 rfl p d).rmdl | exact (in_at 26 rfl p d).rmdl | exact (in_at 27 rfl p d).rmdl | exact (in_at 28 rfl p d).rmdl | exact (in_at 29 rfl p d).rmdl) (by assumption) (by first | assumption | omega)) (fun r0 => ?_)
  refine WL.opens (α := (Value × Value × Value)) (φ := fun x => r0 = .tuple #[.agg #[x.1, x.2.1, .int .i64 _], .agg #[.int .i64 _, .int .i64 _, x.2.2]] ∧ SL x.1 _ ∧ SL x.2.1 _ ∧ SL x.2.2 _) (ps := fun x => [OMdl (.agg #[x.1, x.2.1, .int .i64 _]) _, ORst (.agg #[.int .i64 _, .int .i64 _, x.2.2]) _]) 0 rfl (fun h q => DoR.open q) (by repeat' first | exact FL.nil | apply FL.cons) ?_
  rintro ⟨sv0, iv0, u0⟩ ⟨es0, sa0, sb0, sc0⟩
  subst es0
  dsimp only [List.cons_append, List.nil_append] at sa0 sb0 sc0 ⊢
  refine WL.mv rfl rfl (WL.extL rfl rfl rfl (WL.extL rfl rfl rfl ?_))
  refine WL.alF (T := Ty) rfl rfl (by repeat' first | exact FL.nil | apply FL.cons) (fun b1 => ?_)
  refine WL.alF (T := Ty) rfl rfl (by repeat' first | exact FL.nil | apply FL.cons) (fun b2 => ?_)
  refine WL.stAO (T := Ty) (j := 1) rfl rfl rfl rfl (by repeat' first | exact AO.nil | apply AO.cons (by first | rfl | exact SL.one (by assumption))) rfl rfl (by repeat' first | exact FL.nil | apply FL.cons) (by repeat' first | exact FL.nil | apply FL.cons) ?_
  refine WL.stAO (T := Ty) (j := 0) rfl rfl rfl rfl (by repeat' first | exact AO.nil | apply AO.cons (by first | rfl | exact SL.one (by assumption))) rfl rfl (by repeat' first | exact FL.nil | apply FL.cons) (by repeat' first | exact FL.nil | apply FL.cons) ?_
  refine WL.nil (W.seq (W.region ?_))
  refine WL.ldAF (T := Ty) (j := 1) rfl rfl rfl rfl rfl rfl (by repeat' first | exact FL.nil | apply FL.cons) ?_
  refine WL.bdC (T := Ty) rfl rfl rfl rfl (by repeat' first | exact CO.nil | apply CO.one (by first | rfl | exact SL.one (by assumption)) | apply CO.agg) rfl (by repeat' first | exact FL.nil | apply FL.cons) ?_
  refine WL.callF rfl rfl (fun x p d => doX_c _ _ _ _ _ _ _ _ _ _ _ _ (by first | assumption | exact RMdl.wide (by assumption) | exact RMdl.mono (by assumption) (eqh_at 0 rfl p d) | exact (in_at 0 rfl p d).rmdl | exact (in_at 1 rfl p d).rmdl | exact (in_at 2 rfl p d).rmdl | exact (in_at 3 rfl p d).rmdl | exact (in_at 4 rfl p d).rmdl | exact (in_at 5 rfl p d).rmdl | exact (in_at 6 rfl p d).rmdl | exact (in_at 7 rfl p d).rmdl | exact (in_at 8 rfl p d).rmdl | exact (in_at 9 rfl p d).rmdl | exact (in_at 10 rfl p d).rmdl | exact (in_at 11 rfl p d).rmdl | exact (in_at 12 rfl p d).rmdl | exact (in_at 13 rfl p d).rmdl | exact (in_at 14 rfl p d).rmdl | exact (in_at 15 rfl p d).rmdl | exact (in_at 16 rfl p d).rmdl | exact (in_at 17 rfl p d).rmdl | exact (in_at 18 rfl p d).rmdl | exact (in_at 19 rfl p d).rmdl | exact (in_at 20 rfl p d).rmdl | exact (in_at 21 rfl p d).rmdl | exact (in_at 22 rfl p d).rmdl | exact (in_at 23 rfl p d).rmdl | exact (in_at 24 rfl p d).rmdl | exact (in_at 25 rfl p d).rmdl | exact (in_at 26 rfl p d).rmdl | exact (in_at 27 rfl p d).rmdl | exact (in_at 28 rfl p d).rmdl | exact (in_at 29 rfl p d).rmdl) (by assumption) (by first | assumption | omega)) (fun r3 => ?_)
  refine WL.opens (α := (Value × Value × Value)) (φ := fun x => r3 = .tuple #[.agg #[x.1, x.2.1, .int .i64 _], .agg #[.int .i64 _, .int .i64 _, x.2.2]] ∧ SL x.1 _ ∧ SL x.2.1 _ ∧ SL x.2.2 _) (ps := fun x => [OMdl (.agg #[x.1, x.2.1, .int .i64 _]) _, ORst (.agg #[.int .i64 _, .int .i64 _, x.2.2]) _]) 0 rfl (fun h q => DoR.open q) (by repeat' first | exact FL.nil | apply FL.cons) ?_
  rintro ⟨sv3, iv3, u3⟩ ⟨es3, sa3, sb3, sc3⟩
  subst es3
  dsimp only [List.cons_append, List.nil_append] at sa3 sb3 sc3 ⊢
  refine WL.mv rfl rfl (WL.extL rfl rfl rfl (WL.extL rfl rfl rfl ?_))
  refine WL.alF (T := Ty) rfl rfl (by repeat' first | exact FL.nil | apply FL.cons) (fun b4 => ?_)
  refine WL.alF (T := Ty) rfl rfl (by repeat' first | exact FL.nil | apply FL.cons) (fun b5 => ?_)
  refine WL.stAO (T := Ty) (j := 1) rfl rfl rfl rfl (by repeat' first | exact AO.nil | apply AO.cons (by first | rfl | exact SL.one (by assumption))) rfl rfl (by repeat' first | exact FL.nil | apply FL.cons) (by repeat' first | exact FL.nil | apply FL.cons) ?_
  refine WL.stAO (T := Ty) (j := 0) rfl rfl rfl rfl (by repeat' first | exact AO.nil | apply AO.cons (by first | rfl | exact SL.one (by assumption))) rfl rfl (by repeat' first | exact FL.nil | apply FL.cons) (by repeat' first | exact FL.nil | apply FL.cons) ?_
  refine WL.nil (W.seq (W.region ?_))
  refine WL.ldAF (T := Ty) (j := 1) rfl rfl rfl rfl rfl rfl (by repeat' first | exact FL.nil | apply FL.cons) ?_
  refine WL.bdC (T := Ty) rfl rfl rfl rfl (by repeat' first | exact CO.nil | apply CO.one (by first | rfl | exact SL.one (by assumption)) | apply CO.agg) rfl (by repeat' first | exact FL.nil | apply FL.cons) ?_
  refine WL.callF rfl rfl (fun x p d => doX_c _ _ _ _ _ _ _ _ _ _ _ _ (by first | assumption | exact RMdl.wide (by assumption) | exact RMdl.mono (by assumption) (eqh_at 0 rfl p d) | exact (in_at 0 rfl p d).rmdl | exact (in_at 1 rfl p d).rmdl | exact (in_at 2 rfl p d).rmdl | exact (in_at 3 rfl p d).rmdl | exact (in_at 4 rfl p d).rmdl | exact (in_at 5 rfl p d).rmdl | exact (in_at 6 rfl p d).rmdl | exact (in_at 7 rfl p d).rmdl | exact (in_at 8 rfl p d).rmdl | exact (in_at 9 rfl p d).rmdl | exact (in_at 10 rfl p d).rmdl | exact (in_at 11 rfl p d).rmdl | exact (in_at 12 rfl p d).rmdl | exact (in_at 13 rfl p d).rmdl | exact (in_at 14 rfl p d).rmdl | exact (in_at 15 rfl p d).rmdl | exact (in_at 16 rfl p d).rmdl | exact (in_at 17 rfl p d).rmdl | exact (in_at 18 rfl p d).rmdl | exact (in_at 19 rfl p d).rmdl | exact (in_at 20 rfl p d).rmdl | exact (in_at 21 rfl p d).rmdl | exact (in_at 22 rfl p d).rmdl | exact (in_at 23 rfl p d).rmdl | exact (in_at 24 rfl p d).rmdl | exact (in_at 25 rfl p d).rmdl | exact (in_at 26 rfl p d).rmdl | exact (in_at 27 rfl p d).rmdl | exact (in_at 28 rfl p d).rmdl | exact (in_at 29 rfl p d).rmdl) (by assumption) (by first | assumption | omega)) (fun r6 => ?_)
  refine WL.opens (α := (Value × Value × Value)) (φ := fun x => r6 = .tuple #[.agg #[x.1, x.2.1, .int .i64 _], .agg #[.int .i64 _, .int .i64 _, x.2.2]] ∧ SL x.1 _ ∧ SL x.2.1 _ ∧ SL x.2.2 _) (ps := fun x => [OMdl (.agg #[x.1, x.2.1, .int .i64 _]) _, ORst (.agg #[.int .i64 _, .int .i64 _, x.2.2]) _]) 0 rfl (fun h q => DoR.open q) (by repeat' first | exact FL.nil | apply FL.cons) ?_
  rintro ⟨sv6, iv6, u6⟩ ⟨es6, sa6, sb6, sc6⟩
  subst es6
  dsimp only [List.cons_append, List.nil_append] at sa6 sb6 sc6 ⊢
  refine WL.mv rfl rfl (WL.extL rfl rfl rfl (WL.extL rfl rfl rfl ?_))
  refine WL.alF (T := Ty) rfl rfl (by repeat' first | exact FL.nil | apply FL.cons) (fun b7 => ?_)
  refine WL.stAO (T := Ty) (j := 4) rfl rfl rfl rfl (by repeat' first | exact AO.nil | apply AO.cons (by first | rfl | exact SL.one (by assumption))) rfl rfl (by repeat' first | exact FL.nil | apply FL.cons) (by repeat' first | exact FL.nil | apply FL.cons) ?_
  refine WL.stAO (T := Ty) (j := 0) rfl rfl rfl rfl (by repeat' first | exact AO.nil | apply AO.cons (by first | rfl | exact SL.one (by assumption))) rfl rfl (by repeat' first | exact FL.nil | apply FL.cons) (by repeat' first | exact FL.nil | apply FL.cons) ?_
  refine WL.nil (W.seq (W.region ?_))
  refine WL.ldAF (T := Ty) (j := 4) rfl rfl rfl rfl rfl rfl (by repeat' first | exact FL.nil | apply FL.cons) ?_
  refine WL.bdC (T := Ty) rfl rfl rfl rfl (by repeat' first | exact CO.nil | apply CO.one (by first | rfl | exact SL.one (by assumption)) | apply CO.agg) rfl (by repeat' first | exact FL.nil | apply FL.cons) ?_
  refine WL.callF rfl rfl (fun x p d => doX_c _ _ _ _ _ _ _ _ _ _ _ _ (by first | assumption | exact RMdl.wide (by assumption) | exact RMdl.mono (by assumption) (eqh_at 0 rfl p d) | exact (in_at 0 rfl p d).rmdl | exact (in_at 1 rfl p d).rmdl | exact (in_at 2 rfl p d).rmdl | exact (in_at 3 rfl p d).rmdl | exact (in_at 4 rfl p d).rmdl | exact (in_at 5 rfl p d).rmdl | exact (in_at 6 rfl p d).rmdl | exact (in_at 7 rfl p d).rmdl | exact (in_at 8 rfl p d).rmdl | exact (in_at 9 rfl p d).rmdl | exact (in_at 10 rfl p d).rmdl | exact (in_at 11 rfl p d).rmdl | exact (in_at 12 rfl p d).rmdl | exact (in_at 13 rfl p d).rmdl | exact (in_at 14 rfl p d).rmdl | exact (in_at 15 rfl p d).rmdl | exact (in_at 16 rfl p d).rmdl | exact (in_at 17 rfl p d).rmdl | exact (in_at 18 rfl p d).rmdl | exact (in_at 19 rfl p d).rmdl | exact (in_at 20 rfl p d).rmdl | exact (in_at 21 rfl p d).rmdl | exact (in_at 22 rfl p d).rmdl | exact (in_at 23 rfl p d).rmdl | exact (in_at 24 rfl p d).rmdl | exact (in_at 25 rfl p d).rmdl | exact (in_at 26 rfl p d).rmdl | exact (in_at 27 rfl p d).rmdl | exact (in_at 28 rfl p d).rmdl | exact (in_at 29 rfl p d).rmdl) (by assumption) (by first | assumption | omega)) (fun r8 => ?_)
  refine WL.opens (α := (Value × Value × Value)) (φ := fun x => r8 = .tuple #[.agg #[x.1, x.2.1, .int .i64 _], .agg #[.int .i64 _, .int .i64 _, x.2.2]] ∧ SL x.1 _ ∧ SL x.2.1 _ ∧ SL x.2.2 _) (ps := fun x => [OMdl (.agg #[x.1, x.2.1, .int .i64 _]) _, ORst (.agg #[.int .i64 _, .int .i64 _, x.2.2]) _]) 0 rfl (fun h q => DoR.open q) (by repeat' first | exact FL.nil | apply FL.cons) ?_
  rintro ⟨sv8, iv8, u8⟩ ⟨es8, sa8, sb8, sc8⟩
  subst es8
  dsimp only [List.cons_append, List.nil_append] at sa8 sb8 sc8 ⊢
  refine WL.mv rfl rfl (WL.extL rfl rfl rfl (WL.extL rfl rfl rfl ?_))
  refine WL.alF (T := Ty) rfl rfl (by repeat' first | exact FL.nil | apply FL.cons) (fun b9 => ?_)
  refine WL.alF (T := Ty) rfl rfl (by repeat' first | exact FL.nil | apply FL.cons) (fun b10 => ?_)
  refine WL.stAO (T := Ty) (j := 1) rfl rfl rfl rfl (by repeat' first | exact AO.nil | apply AO.cons (by first | rfl | exact SL.one (by assumption))) rfl rfl (by repeat' first | exact FL.nil | apply FL.cons) (by repeat' first | exact FL.nil | apply FL.cons) ?_
  refine WL.stAO (T := Ty) (j := 0) rfl rfl rfl rfl (by repeat' first | exact AO.nil | apply AO.cons (by first | rfl | exact SL.one (by assumption))) rfl rfl (by repeat' first | exact FL.nil | apply FL.cons) (by repeat' first | exact FL.nil | apply FL.cons) ?_
  refine WL.nil (W.seq (W.region ?_))
  refine WL.ldAF (T := Ty) (j := 12) rfl rfl rfl rfl rfl rfl (by repeat' first | exact FL.nil | apply FL.cons) ?_
  refine WL.bdC (T := Ty) rfl rfl rfl rfl (by repeat' first | exact CO.nil | apply CO.one (by first | rfl | exact SL.one (by assumption)) | apply CO.agg) rfl (by repeat' first | exact FL.nil | apply FL.cons) ?_
  refine WL.callF rfl rfl (fun x p d => doX_c _ _ _ _ _ _ _ _ _ _ _ _ (by first | assumption | exact RMdl.wide (by assumption) | exact RMdl.mono (by assumption) (eqh_at 0 rfl p d) | exact (in_at 0 rfl p d).rmdl | exact (in_at 1 rfl p d).rmdl | exact (in_at 2 rfl p d).rmdl | exact (in_at 3 rfl p d).rmdl | exact (in_at 4 rfl p d).rmdl | exact (in_at 5 rfl p d).rmdl | exact (in_at 6 rfl p d).rmdl | exact (in_at 7 rfl p d).rmdl | exact (in_at 8 rfl p d).rmdl | exact (in_at 9 rfl p d).rmdl | exact (in_at 10 rfl p d).rmdl | exact (in_at 11 rfl p d).rmdl | exact (in_at 12 rfl p d).rmdl | exact (in_at 13 rfl p d).rmdl | exact (in_at 14 rfl p d).rmdl | exact (in_at 15 rfl p d).rmdl | exact (in_at 16 rfl p d).rmdl | exact (in_at 17 rfl p d).rmdl | exact (in_at 18 rfl p d).rmdl | exact (in_at 19 rfl p d).rmdl | exact (in_at 20 rfl p d).rmdl | exact (in_at 21 rfl p d).rmdl | exact (in_at 22 rfl p d).rmdl | exact (in_at 23 rfl p d).rmdl | exact (in_at 24 rfl p d).rmdl | exact (in_at 25 rfl p d).rmdl | exact (in_at 26 rfl p d).rmdl | exact (in_at 27 rfl p d).rmdl | exact (in_at 28 rfl p d).rmdl | exact (in_at 29 rfl p d).rmdl) (by assumption) (by first | assumption | omega)) (fun r11 => ?_)
  refine WL.opens (α := (Value × Value × Value)) (φ := fun x => r11 = .tuple #[.agg #[x.1, x.2.1, .int .i64 _], .agg #[.int .i64 _, .int .i64 _, x.2.2]] ∧ SL x.1 _ ∧ SL x.2.1 _ ∧ SL x.2.2 _) (ps := fun x => [OMdl (.agg #[x.1, x.2.1, .int .i64 _]) _, ORst (.agg #[.int .i64 _, .int .i64 _, x.2.2]) _]) 0 rfl (fun h q => DoR.open q) (by repeat' first | exact FL.nil | apply FL.cons) ?_
  rintro ⟨sv11, iv11, u11⟩ ⟨es11, sa11, sb11, sc11⟩
  subst es11
  dsimp only [List.cons_append, List.nil_append] at sa11 sb11 sc11 ⊢
  refine WL.mv rfl rfl (WL.extL rfl rfl rfl (WL.extL rfl rfl rfl ?_))
  refine WL.alF (T := Ty) rfl rfl (by repeat' first | exact FL.nil | apply FL.cons) (fun b12 => ?_)
  refine WL.alF (T := Ty) rfl rfl (by repeat' first | exact FL.nil | apply FL.cons) (fun b13 => ?_)
  refine WL.stAO (T := Ty) (j := 1) rfl rfl rfl rfl (by repeat' first | exact AO.nil | apply AO.cons (by first | rfl | exact SL.one (by assumption))) rfl rfl (by repeat' first | exact FL.nil | apply FL.cons) (by repeat' first | exact FL.nil | apply FL.cons) ?_
  refine WL.stAO (T := Ty) (j := 0) rfl rfl rfl rfl (by repeat' first | exact AO.nil | apply AO.cons (by first | rfl | exact SL.one (by assumption))) rfl rfl (by repeat' first | exact FL.nil | apply FL.cons) (by repeat' first | exact FL.nil | apply FL.cons) ?_
  refine WL.nil (W.seq (W.region ?_))
  refine WL.ldAF (T := Ty) (j := 16) rfl rfl rfl rfl rfl rfl (by repeat' first | exact FL.nil | apply FL.cons) ?_
  refine WL.bdC (T := Ty) rfl rfl rfl rfl (by repeat' first | exact CO.nil | apply CO.one (by first | rfl | exact SL.one (by assumption)) | apply CO.agg) rfl (by repeat' first | exact FL.nil | apply FL.cons) ?_
  refine WL.callF rfl rfl (fun x p d => doX_c _ _ _ _ _ _ _ _ _ _ _ _ (by first | assumption | exact RMdl.wide (by assumption) | exact RMdl.mono (by assumption) (eqh_at 0 rfl p d) | exact (in_at 0 rfl p d).rmdl | exact (in_at 1 rfl p d).rmdl | exact (in_at 2 rfl p d).rmdl | exact (in_at 3 rfl p d).rmdl | exact (in_at 4 rfl p d).rmdl | exact (in_at 5 rfl p d).rmdl | exact (in_at 6 rfl p d).rmdl | exact (in_at 7 rfl p d).rmdl | exact (in_at 8 rfl p d).rmdl | exact (in_at 9 rfl p d).rmdl | exact (in_at 10 rfl p d).rmdl | exact (in_at 11 rfl p d).rmdl | exact (in_at 12 rfl p d).rmdl | exact (in_at 13 rfl p d).rmdl | exact (in_at 14 rfl p d).rmdl | exact (in_at 15 rfl p d).rmdl | exact (in_at 16 rfl p d).rmdl | exact (in_at 17 rfl p d).rmdl | exact (in_at 18 rfl p d).rmdl | exact (in_at 19 rfl p d).rmdl | exact (in_at 20 rfl p d).rmdl | exact (in_at 21 rfl p d).rmdl | exact (in_at 22 rfl p d).rmdl | exact (in_at 23 rfl p d).rmdl | exact (in_at 24 rfl p d).rmdl | exact (in_at 25 rfl p d).rmdl | exact (in_at 26 rfl p d).rmdl | exact (in_at 27 rfl p d).rmdl | exact (in_at 28 rfl p d).rmdl | exact (in_at 29 rfl p d).rmdl) (by assumption) (by first | assumption | omega)) (fun r14 => ?_)
  refine WL.opens (α := (Value × Value × Value)) (φ := fun x => r14 = .tuple #[.agg #[x.1, x.2.1, .int .i64 _], .agg #[.int .i64 _, .int .i64 _, x.2.2]] ∧ SL x.1 _ ∧ SL x.2.1 _ ∧ SL x.2.2 _) (ps := fun x => [OMdl (.agg #[x.1, x.2.1, .int .i64 _]) _, ORst (.agg #[.int .i64 _, .int .i64 _, x.2.2]) _]) 0 rfl (fun h q => DoR.open q) (by repeat' first | exact FL.nil | apply FL.cons) ?_
  rintro ⟨sv14, iv14, u14⟩ ⟨es14, sa14, sb14, sc14⟩
  subst es14
  dsimp only [List.cons_append, List.nil_append] at sa14 sb14 sc14 ⊢
  refine WL.mv rfl rfl (WL.extL rfl rfl rfl (WL.extL rfl rfl rfl ?_))
  refine WL.alF (T := Ty) rfl rfl (by repeat' first | exact FL.nil | apply FL.cons) (fun b15 => ?_)
  refine WL.alF (T := Ty) rfl rfl (by repeat' first | exact FL.nil | apply FL.cons) (fun b16 => ?_)
  refine WL.stAO (T := Ty) (j := 1) rfl rfl rfl rfl (by repeat' first | exact AO.nil | apply AO.cons (by first | rfl | exact SL.one (by assumption))) rfl rfl (by repeat' first | exact FL.nil | apply FL.cons) (by repeat' first | exact FL.nil | apply FL.cons) ?_
  refine WL.stAO (T := Ty) (j := 0) rfl rfl rfl rfl (by repeat' first | exact AO.nil | apply AO.cons (by first | rfl | exact SL.one (by assumption))) rfl rfl (by repeat' first | exact FL.nil | apply FL.cons) (by repeat' first | exact FL.nil | apply FL.cons) ?_
  refine WL.nil (W.seq ?_)
  refine W.regionL (by repeat' first | exact FL.nil | apply FL.cons) ?_
  refine W.region (WL.faN (T := Ty) (off' := 0) rfl rfl rfl rfl rfl rfl rfl (WL.ldN (T := Ty) (j := 19) rfl rfl rfl rfl rfl rfl (WL.eql rfl rfl rfl (WL.mv rfl rfl (WL.gY rfl rfl (WL.faN (T := Ty) (off' := 1) rfl rfl rfl rfl rfl rfl rfl (WL.gY rfl rfl (WL.ldN (T := Ty) (j := 15) rfl rfl rfl rfl rfl rfl (WL.gY rfl rfl (WL.eql rfl rfl rfl (WL.pickT rfl rfl rfl (WL.mv rfl rfl (WL.gY rfl rfl ?_)))))))))))))
  refine WL.faN (T := Ty) (off' := 0) rfl rfl rfl rfl rfl rfl rfl (WL.gY rfl rfl (WL.ldN (T := Ty) (j := 12) rfl rfl rfl rfl rfl rfl (WL.gY rfl rfl (WL.eql rfl rfl rfl (WL.pickT rfl rfl rfl (WL.mv rfl rfl (WL.gY rfl rfl (WL.faN (T := Ty) (off' := 0) rfl rfl rfl rfl rfl rfl rfl (WL.gY rfl rfl (WL.ldN (T := Ty) (j := 16) rfl rfl rfl rfl rfl rfl (WL.gY rfl rfl ?_)))))))))))
  refine WL.len (T := Ty) rfl rfl (by assumption) rfl ?_
  refine WL.gY rfl rfl (WL.eql rfl rfl rfl (WL.pickT rfl rfl rfl (WL.mv rfl rfl (WL.gY rfl rfl (WL.faN (T := Ty) (off' := 2) rfl rfl rfl rfl rfl rfl rfl (WL.gY rfl rfl (WL.ldN (T := Ty) (j := 8) rfl rfl rfl rfl rfl rfl (WL.gY rfl rfl ?_))))))))
  refine WL.len (T := Ty) rfl rfl (by assumption) rfl ?_
  refine WL.gY rfl rfl (WL.eql rfl rfl rfl (WL.pickT rfl rfl rfl (WL.mv rfl rfl (WL.gY rfl rfl (WL.faN (T := Ty) (off' := 2) rfl rfl rfl rfl rfl rfl rfl (WL.gY rfl rfl (WL.ldN (T := Ty) (j := 8) rfl rfl rfl rfl rfl rfl (WL.gY rfl rfl ?_))))))))
  refine WL.ix (T := Ty) rfl rfl rfl (by assumption) rfl rfl (by omega) (by first | omega | decide +kernel) ?_
  refine WL.gY rfl rfl (WL.faEN (T := Ty) (off' := 1) rfl rfl rfl rfl rfl rfl rfl (WL.gY rfl rfl ?_))
  refine WL.parts (ps := [Buf 2 _ _]) 11 rfl (fun h q => sepl_one.2 (orst_open q)) (by repeat' first | exact FL.nil | apply FL.cons) ?_
  refine WL.ldE (T := Ty) (j := 0) rfl rfl rfl rfl rfl (by assumption) ?_
  refine WL.gY rfl rfl (WL.eql rfl rfl rfl (WL.pickT rfl rfl rfl (WL.mv rfl rfl (WL.gY rfl rfl (WL.faN (T := Ty) (off' := 0) rfl rfl rfl rfl rfl rfl rfl (WL.gY rfl rfl (WL.ldN (T := Ty) (j := 5) rfl rfl rfl rfl rfl rfl (WL.gY rfl rfl (WL.eql rfl rfl rfl (WL.pickT rfl rfl rfl (WL.mv rfl rfl (WL.gY rfl rfl (WL.faN (T := Ty) (off' := 0) rfl rfl rfl rfl rfl rfl rfl ?_)))))))))))))
  refine WL.gY rfl rfl (WL.ldN (T := Ty) (j := 1) rfl rfl rfl rfl rfl rfl (WL.gY rfl rfl (WL.eql rfl rfl rfl (WL.pickT rfl rfl rfl (WL.mv rfl rfl (WL.gY rfl rfl ?_))))))
  refine WL.ldAF (T := Ty) (j := 20) rfl rfl rfl rfl rfl rfl (by repeat' first | exact FL.nil | apply FL.cons) ?_
  refine WL.gY rfl rfl ?_
  refine WL.ldAF (T := Ty) (j := 20) rfl rfl rfl rfl rfl rfl (by repeat' first | exact FL.nil | apply FL.cons) ?_
  refine WL.gY rfl rfl ?_
  refine WL.callV rfl rfl (fun x p d => same_c _ _ _ _ _ _ (by first | assumption | exact RMdl.wide (by assumption) | exact RMdl.mono (by assumption) (eqh_at 0 rfl p d) | exact (in_at 0 rfl p d).rmdl | exact (in_at 1 rfl p d).rmdl | exact (in_at 2 rfl p d).rmdl | exact (in_at 3 rfl p d).rmdl | exact (in_at 4 rfl p d).rmdl | exact (in_at 5 rfl p d).rmdl | exact (in_at 6 rfl p d).rmdl | exact (in_at 7 rfl p d).rmdl | exact (in_at 8 rfl p d).rmdl | exact (in_at 9 rfl p d).rmdl | exact (in_at 10 rfl p d).rmdl | exact (in_at 11 rfl p d).rmdl | exact (in_at 12 rfl p d).rmdl | exact (in_at 13 rfl p d).rmdl | exact (in_at 14 rfl p d).rmdl | exact (in_at 15 rfl p d).rmdl | exact (in_at 16 rfl p d).rmdl | exact (in_at 17 rfl p d).rmdl | exact (in_at 18 rfl p d).rmdl | exact (in_at 19 rfl p d).rmdl | exact (in_at 20 rfl p d).rmdl | exact (in_at 21 rfl p d).rmdl | exact (in_at 22 rfl p d).rmdl | exact (in_at 23 rfl p d).rmdl | exact (in_at 24 rfl p d).rmdl | exact (in_at 25 rfl p d).rmdl | exact (in_at 26 rfl p d).rmdl | exact (in_at 27 rfl p d).rmdl | exact (in_at 28 rfl p d).rmdl | exact (in_at 29 rfl p d).rmdl) (by first | assumption | exact RMdl.wide (by assumption) | exact RMdl.mono (by assumption) (eqh_at 0 rfl p d) | exact (in_at 0 rfl p d).rmdl | exact (in_at 1 rfl p d).rmdl | exact (in_at 2 rfl p d).rmdl | exact (in_at 3 rfl p d).rmdl | exact (in_at 4 rfl p d).rmdl | exact (in_at 5 rfl p d).rmdl | exact (in_at 6 rfl p d).rmdl | exact (in_at 7 rfl p d).rmdl | exact (in_at 8 rfl p d).rmdl | exact (in_at 9 rfl p d).rmdl | exact (in_at 10 rfl p d).rmdl | exact (in_at 11 rfl p d).rmdl | exact (in_at 12 rfl p d).rmdl | exact (in_at 13 rfl p d).rmdl | exact (in_at 14 rfl p d).rmdl | exact (in_at 15 rfl p d).rmdl | exact (in_at 16 rfl p d).rmdl | exact (in_at 17 rfl p d).rmdl | exact (in_at 18 rfl p d).rmdl | exact (in_at 19 rfl p d).rmdl | exact (in_at 20 rfl p d).rmdl | exact (in_at 21 rfl p d).rmdl | exact (in_at 22 rfl p d).rmdl | exact (in_at 23 rfl p d).rmdl | exact (in_at 24 rfl p d).rmdl | exact (in_at 25 rfl p d).rmdl | exact (in_at 26 rfl p d).rmdl | exact (in_at 27 rfl p d).rmdl | exact (in_at 28 rfl p d).rmdl | exact (in_at 29 rfl p d).rmdl) (by assumption) (by first | assumption | omega)) ?_
  refine WL.pickT rfl rfl rfl (WL.mv rfl rfl ?_)
  rw [sameMdl_refl]
  refine WL.gY rfl rfl ?_
  refine WL.ldAF (T := Ty) (j := 20) rfl rfl rfl rfl rfl rfl (by repeat' first | exact FL.nil | apply FL.cons) ?_
  refine WL.gY rfl rfl ?_
  refine WL.ldAF (T := Ty) (j := 16) rfl rfl rfl rfl rfl rfl (by repeat' first | exact FL.nil | apply FL.cons) ?_
  refine WL.gY rfl rfl ?_
  refine WL.callV rfl rfl (fun x p d => same_c _ _ _ _ _ _ (by first | assumption | exact RMdl.wide (by assumption) | exact RMdl.mono (by assumption) (eqh_at 0 rfl p d) | exact (in_at 0 rfl p d).rmdl | exact (in_at 1 rfl p d).rmdl | exact (in_at 2 rfl p d).rmdl | exact (in_at 3 rfl p d).rmdl | exact (in_at 4 rfl p d).rmdl | exact (in_at 5 rfl p d).rmdl | exact (in_at 6 rfl p d).rmdl | exact (in_at 7 rfl p d).rmdl | exact (in_at 8 rfl p d).rmdl | exact (in_at 9 rfl p d).rmdl | exact (in_at 10 rfl p d).rmdl | exact (in_at 11 rfl p d).rmdl | exact (in_at 12 rfl p d).rmdl | exact (in_at 13 rfl p d).rmdl | exact (in_at 14 rfl p d).rmdl | exact (in_at 15 rfl p d).rmdl | exact (in_at 16 rfl p d).rmdl | exact (in_at 17 rfl p d).rmdl | exact (in_at 18 rfl p d).rmdl | exact (in_at 19 rfl p d).rmdl | exact (in_at 20 rfl p d).rmdl | exact (in_at 21 rfl p d).rmdl | exact (in_at 22 rfl p d).rmdl | exact (in_at 23 rfl p d).rmdl | exact (in_at 24 rfl p d).rmdl | exact (in_at 25 rfl p d).rmdl | exact (in_at 26 rfl p d).rmdl | exact (in_at 27 rfl p d).rmdl | exact (in_at 28 rfl p d).rmdl | exact (in_at 29 rfl p d).rmdl) (by first | assumption | exact RMdl.wide (by assumption) | exact RMdl.mono (by assumption) (eqh_at 0 rfl p d) | exact (in_at 0 rfl p d).rmdl | exact (in_at 1 rfl p d).rmdl | exact (in_at 2 rfl p d).rmdl | exact (in_at 3 rfl p d).rmdl | exact (in_at 4 rfl p d).rmdl | exact (in_at 5 rfl p d).rmdl | exact (in_at 6 rfl p d).rmdl | exact (in_at 7 rfl p d).rmdl | exact (in_at 8 rfl p d).rmdl | exact (in_at 9 rfl p d).rmdl | exact (in_at 10 rfl p d).rmdl | exact (in_at 11 rfl p d).rmdl | exact (in_at 12 rfl p d).rmdl | exact (in_at 13 rfl p d).rmdl | exact (in_at 14 rfl p d).rmdl | exact (in_at 15 rfl p d).rmdl | exact (in_at 16 rfl p d).rmdl | exact (in_at 17 rfl p d).rmdl | exact (in_at 18 rfl p d).rmdl | exact (in_at 19 rfl p d).rmdl | exact (in_at 20 rfl p d).rmdl | exact (in_at 21 rfl p d).rmdl | exact (in_at 22 rfl p d).rmdl | exact (in_at 23 rfl p d).rmdl | exact (in_at 24 rfl p d).rmdl | exact (in_at 25 rfl p d).rmdl | exact (in_at 26 rfl p d).rmdl | exact (in_at 27 rfl p d).rmdl | exact (in_at 28 rfl p d).rmdl | exact (in_at 29 rfl p d).rmdl) (by assumption) (by first | assumption | omega)) ?_
  refine WL.gY rfl rfl (WL.not rfl rfl (WL.pickT rfl rfl rfl (WL.mv rfl rfl (WL.gY rfl rfl ?_))))
  refine WL.ldAF (T := Ty) (j := 19) rfl rfl rfl rfl rfl rfl (by repeat' first | exact FL.nil | apply FL.cons) ?_
  refine WL.gY rfl rfl ?_
  refine WL.ldAF (T := Ty) (j := 12) rfl rfl rfl rfl rfl rfl (by repeat' first | exact FL.nil | apply FL.cons) ?_
  refine WL.gY rfl rfl ?_
  refine WL.callV rfl rfl (fun x p d => sameR_c _ _ _ _ _ (by first | assumption | exact RRst.wide (by assumption) | exact RRst.mono (by assumption) (eqh_at 0 rfl p d) | exact (in_at 0 rfl p d).rrst | exact (in_at 1 rfl p d).rrst | exact (in_at 2 rfl p d).rrst | exact (in_at 3 rfl p d).rrst | exact (in_at 4 rfl p d).rrst | exact (in_at 5 rfl p d).rrst | exact (in_at 6 rfl p d).rrst | exact (in_at 7 rfl p d).rrst | exact (in_at 8 rfl p d).rrst | exact (in_at 9 rfl p d).rrst | exact (in_at 10 rfl p d).rrst | exact (in_at 11 rfl p d).rrst | exact (in_at 12 rfl p d).rrst | exact (in_at 13 rfl p d).rrst | exact (in_at 14 rfl p d).rrst | exact (in_at 15 rfl p d).rrst | exact (in_at 16 rfl p d).rrst | exact (in_at 17 rfl p d).rrst | exact (in_at 18 rfl p d).rrst | exact (in_at 19 rfl p d).rrst | exact (in_at 20 rfl p d).rrst | exact (in_at 21 rfl p d).rrst | exact (in_at 22 rfl p d).rrst | exact (in_at 23 rfl p d).rrst | exact (in_at 24 rfl p d).rrst | exact (in_at 25 rfl p d).rrst | exact (in_at 26 rfl p d).rrst | exact (in_at 27 rfl p d).rrst | exact (in_at 28 rfl p d).rrst | exact (in_at 29 rfl p d).rrst) (by first | assumption | exact RRst.wide (by assumption) | exact RRst.mono (by assumption) (eqh_at 0 rfl p d) | exact (in_at 0 rfl p d).rrst | exact (in_at 1 rfl p d).rrst | exact (in_at 2 rfl p d).rrst | exact (in_at 3 rfl p d).rrst | exact (in_at 4 rfl p d).rrst | exact (in_at 5 rfl p d).rrst | exact (in_at 6 rfl p d).rrst | exact (in_at 7 rfl p d).rrst | exact (in_at 8 rfl p d).rrst | exact (in_at 9 rfl p d).rrst | exact (in_at 10 rfl p d).rrst | exact (in_at 11 rfl p d).rrst | exact (in_at 12 rfl p d).rrst | exact (in_at 13 rfl p d).rrst | exact (in_at 14 rfl p d).rrst | exact (in_at 15 rfl p d).rrst | exact (in_at 16 rfl p d).rrst | exact (in_at 17 rfl p d).rrst | exact (in_at 18 rfl p d).rrst | exact (in_at 19 rfl p d).rrst | exact (in_at 20 rfl p d).rrst | exact (in_at 21 rfl p d).rrst | exact (in_at 22 rfl p d).rrst | exact (in_at 23 rfl p d).rrst | exact (in_at 24 rfl p d).rrst | exact (in_at 25 rfl p d).rrst | exact (in_at 26 rfl p d).rrst | exact (in_at 27 rfl p d).rrst | exact (in_at 28 rfl p d).rrst | exact (in_at 29 rfl p d).rrst) (by first | assumption | omega | decide)) ?_
  refine WL.pickT rfl rfl rfl (WL.mv rfl rfl ?_)
  rw [aw1]
  skip
  rw [aw2]
  refine WL.gY rfl rfl ?_
  refine WL.ldAF (T := Ty) (j := 19) rfl rfl rfl rfl rfl rfl (by repeat' first | exact FL.nil | apply FL.cons) ?_
  refine WL.gY rfl rfl ?_
  refine WL.ldAF (T := Ty) (j := 15) rfl rfl rfl rfl rfl rfl (by repeat' first | exact FL.nil | apply FL.cons) ?_
  refine WL.gY rfl rfl ?_
  refine WL.callV rfl rfl (fun x p d => sameR_c _ _ _ _ _ (by first | assumption | exact RRst.wide (by assumption) | exact RRst.mono (by assumption) (eqh_at 0 rfl p d) | exact (in_at 0 rfl p d).rrst | exact (in_at 1 rfl p d).rrst | exact (in_at 2 rfl p d).rrst | exact (in_at 3 rfl p d).rrst | exact (in_at 4 rfl p d).rrst | exact (in_at 5 rfl p d).rrst | exact (in_at 6 rfl p d).rrst | exact (in_at 7 rfl p d).rrst | exact (in_at 8 rfl p d).rrst | exact (in_at 9 rfl p d).rrst | exact (in_at 10 rfl p d).rrst | exact (in_at 11 rfl p d).rrst | exact (in_at 12 rfl p d).rrst | exact (in_at 13 rfl p d).rrst | exact (in_at 14 rfl p d).rrst | exact (in_at 15 rfl p d).rrst | exact (in_at 16 rfl p d).rrst | exact (in_at 17 rfl p d).rrst | exact (in_at 18 rfl p d).rrst | exact (in_at 19 rfl p d).rrst | exact (in_at 20 rfl p d).rrst | exact (in_at 21 rfl p d).rrst | exact (in_at 22 rfl p d).rrst | exact (in_at 23 rfl p d).rrst | exact (in_at 24 rfl p d).rrst | exact (in_at 25 rfl p d).rrst | exact (in_at 26 rfl p d).rrst | exact (in_at 27 rfl p d).rrst | exact (in_at 28 rfl p d).rrst | exact (in_at 29 rfl p d).rrst) (by first | assumption | exact RRst.wide (by assumption) | exact RRst.mono (by assumption) (eqh_at 0 rfl p d) | exact (in_at 0 rfl p d).rrst | exact (in_at 1 rfl p d).rrst | exact (in_at 2 rfl p d).rrst | exact (in_at 3 rfl p d).rrst | exact (in_at 4 rfl p d).rrst | exact (in_at 5 rfl p d).rrst | exact (in_at 6 rfl p d).rrst | exact (in_at 7 rfl p d).rrst | exact (in_at 8 rfl p d).rrst | exact (in_at 9 rfl p d).rrst | exact (in_at 10 rfl p d).rrst | exact (in_at 11 rfl p d).rrst | exact (in_at 12 rfl p d).rrst | exact (in_at 13 rfl p d).rrst | exact (in_at 14 rfl p d).rrst | exact (in_at 15 rfl p d).rrst | exact (in_at 16 rfl p d).rrst | exact (in_at 17 rfl p d).rrst | exact (in_at 18 rfl p d).rrst | exact (in_at 19 rfl p d).rrst | exact (in_at 20 rfl p d).rrst | exact (in_at 21 rfl p d).rrst | exact (in_at 22 rfl p d).rrst | exact (in_at 23 rfl p d).rrst | exact (in_at 24 rfl p d).rrst | exact (in_at 25 rfl p d).rrst | exact (in_at 26 rfl p d).rrst | exact (in_at 27 rfl p d).rrst | exact (in_at 28 rfl p d).rrst | exact (in_at 29 rfl p d).rrst) (by first | assumption | omega | decide)) ?_
  refine WL.gY rfl rfl (WL.not rfl rfl (WL.pickT rfl rfl rfl (WL.as rfl rfl (WL.nil ?_))))
  rw [aw3]
  skip
  exact W.fit (Hs' := []) (by (repeat' first | exact Sel.nil | refine Sel.cons 0 rfl ?_ | refine Sel.cons 1 rfl ?_ | refine Sel.cons 2 rfl ?_ | refine Sel.cons 3 rfl ?_ | refine Sel.cons 4 rfl ?_ | refine Sel.cons 5 rfl ?_ | refine Sel.cons 6 rfl ?_ | refine Sel.cons 7 rfl ?_ | refine Sel.cons 8 rfl ?_ | refine Sel.cons 9 rfl ?_ | refine Sel.cons 10 rfl ?_ | refine Sel.cons 11 rfl ?_ | refine Sel.cons 12 rfl ?_ | refine Sel.cons 13 rfl ?_ | refine Sel.cons 14 rfl ?_ | refine Sel.cons 15 rfl ?_ | refine Sel.cons 16 rfl ?_ | refine Sel.cons 17 rfl ?_)) (W.ret1 rfl rfl (fun h q => ⟨rfl, q⟩))
end Go.Proofs.Ytbebhmdjnneimaa
