/- One hand alone: Do over ops that are written out; ops of numbers; what the document fixes. -/
import Derived.Test.YtbebhmdjnneimaaStc
import Derived.Test.YtbebhmdjnneimaaNum
import Derived.Test.YtbebhmdjnneimaaTab
import Derived.Test.YtbebhmdjnneimaaModl6
import Derived.Test.YtbebhmdjnneimaaMref4
set_option linter.unusedSimpArgs false
set_option linter.unusedVariables false
set_option maxRecDepth 20000
set_option maxHeartbeats 4000000
namespace Go.Proofs.Ytbebhmdjnneimaa
open Go
attribute [local irreducible] W WL Fn Buf ROs SL eptr box Rd Src bndOK WD RB Reads In Own sameL
theorem doX_c (ρ : Hp) (u : Value) (n : Nat) (m : Mdl) (k s i t v lo hi nn : Int) (hm : RMdl ρ u m) (hI : MInv n m) (hn : n ≤ 1000000) :
  Fn Try.prog 15 #[u, .agg #[.int .i64 k, .int .i64 s, .int .i64 i, .int .i64 t, .int .u64 v, .int .i64 lo, .int .i64 hi, .int .i64 nn]] ρ [] (DoR (doM m ⟨k, s, i, t, v, lo, hi, nn⟩).1 (doM m ⟨k, s, i, t, v, lo, hi, nn⟩).2) :=
 do_c ρ u n m ⟨k, s, i, t, v, lo, hi, nn⟩ hm hI hn
theorem op_ex (n a : Int) : ∃ o : MOp, ∀ ρ, Fn Try.prog 19 #[.int .i64 n, .int .i64 a] ρ [] (Just (.agg (opC o).toArray)) := by
 by_cases h34 : n % 64 < 34
 ·skip
  by_cases g34 : n / 2097152 % 8 = 0
  ·skip
   refine ⟨⟨1, n / 64 % (3 + 1), n / 256 % (7 + 1), IntKind.i64.wrap (a + n / 2048 % (3 + 1)), IntKind.u64.wrap (IntKind.u64.wrap n * 11400714819323198485), IntKind.i64.wrap (a - n / 8192 % (63 + 1)), IntKind.i64.wrap (IntKind.i64.wrap (a + n / 524288 % (15 + 1)) - 4), n / 8388608 % (15 + 1)⟩, fun ρ => ?_⟩
   refine in19 rfl rfl ?_
   refine W.seq (W.region ?_)
   refine WL.alF (T := Ty) rfl rfl (by repeat' constructor) (fun b0 => ?_)
   refine WL.nil (W.seq (W.region (WL.mv rfl rfl (WL.shrS (c := 64) rfl rfl rfl (by omega) (by decide) (WL.andI rfl rfl rfl (by decide) (WL.mv rfl rfl (WL.shrS (c := 256) rfl rfl rfl (by omega) (by decide) (WL.andI rfl rfl rfl (by decide) (WL.mv rfl rfl (WL.mv rfl rfl (WL.shrS (c := 2048) rfl rfl rfl (by omega) (by decide) (WL.andI rfl rfl rfl (by decide) (WL.add (K := .i64) rfl rfl rfl ?_)))))))))))))
   refine WL.mv rfl rfl (WL.shrS (c := 8192) rfl rfl rfl (by omega) (by decide) (WL.andI rfl rfl rfl (by decide) (WL.cvK (T := Ty) rfl rfl rfl rfl (wrap_u64 ⟨by omega, by omega⟩) (WL.mv rfl rfl (WL.mv rfl rfl (WL.shrS (c := 8192) rfl rfl rfl (by omega) (by decide) (WL.andI rfl rfl rfl (by decide) (WL.sub' (K := .i64) rfl rfl rfl (WL.mv rfl rfl (WL.mv rfl rfl (WL.shrS (c := 524288) rfl rfl rfl (by omega) (by decide) (WL.andI rfl rfl rfl (by decide) (WL.add (K := .i64) rfl rfl rfl ?_)))))))))))))
   refine WL.sub' (K := .i64) rfl rfl rfl (WL.mv rfl rfl (WL.shrS (c := 8388608) rfl rfl rfl (by omega) (by decide) (WL.andI rfl rfl rfl (by decide) ?_)))
   refine WL.bdC (T := Ty) rfl rfl rfl rfl (by repeat' first | exact CO.nil | apply CO.one (by first | rfl | exact SL.one (by assumption)) | apply CO.agg) rfl (by repeat' constructor) ?_
   refine WL.alF (T := Ty) rfl rfl (by repeat' constructor) (fun b1 => ?_)
   refine WL.stAO (T := Ty) (j := 0) rfl rfl rfl rfl (by repeat' first | exact AO.nil | apply AO.cons (by first | rfl | exact SL.one (by assumption))) rfl rfl (by repeat' constructor) (by repeat' constructor) ?_
   refine WL.nil (W.seq (W.region (WL.mv rfl rfl (WL.andI rfl rfl rfl (by decide) (WL.as rfl rfl (WL.nil (W.seq (W.block (W.seq (W.region (WL.mv rfl rfl (WL.lss rfl rfl rfl (WL.as rfl rfl ?_)))))))))))))
   refine WL.nil (W.condpT rfl (by omega) (W.seq (W.region (WL.faN (T := Ty) (off' := 0) rfl rfl rfl rfl rfl rfl rfl ?_))))
   refine WL.stF (T := Ty) (j := 0) rfl rfl rfl rfl rfl rfl rfl (by repeat' constructor) (by repeat' constructor) ?_
   refine WL.nil (W.seq (W.region (WL.mv rfl rfl (WL.shrS (c := 2097152) rfl rfl rfl (by omega) (by decide) (WL.andI rfl rfl rfl (by decide) (WL.eql rfl rfl rfl (WL.nil (W.condpT rfl (by omega) (W.region (WL.mv rfl rfl (WL.cv (T := Ty) rfl rfl rfl rfl (WL.mul (K := .u64) rfl rfl rfl (WL.faN (T := Ty) (off' := 4) rfl rfl rfl rfl rfl rfl rfl ?_)))))))))))))
   refine WL.stF (T := Ty) (j := 0) rfl rfl rfl rfl rfl rfl rfl (by repeat' constructor) (by repeat' constructor) ?_
   refine WL.nil (W.inBlock (W.seq (W.region ?_)))
   refine WL.ldAF (T := Ty) (j := 0) rfl rfl rfl rfl rfl rfl (by repeat' constructor) ?_
   refine WL.stAO (T := Ty) (j := 1) rfl rfl rfl rfl (by repeat' first | exact AO.nil | apply AO.cons (by first | rfl | exact SL.one (by assumption))) rfl rfl (by repeat' constructor) (by repeat' constructor) ?_
   refine WL.nil ?_
   refine W.fit (Hs' := [box b0 _ 24]) (by (repeat' first | exact Sel.nil | apply Sel.k | exact Pick.h | apply Pick.t)) ?_
   exact W.retC (T := Ty) (j := 0) rfl rfl rfl rfl rfl rfl (fun h q => ⟨rfl, q⟩)
  ·skip
   refine ⟨⟨1, n / 64 % (3 + 1), n / 256 % (7 + 1), IntKind.i64.wrap (a + n / 2048 % (3 + 1)), n / 8192 % (255 + 1), IntKind.i64.wrap (a - n / 8192 % (63 + 1)), IntKind.i64.wrap (IntKind.i64.wrap (a + n / 524288 % (15 + 1)) - 4), n / 8388608 % (15 + 1)⟩, fun ρ => ?_⟩
   refine in19 rfl rfl ?_
   refine W.seq (W.region ?_)
   refine WL.alF (T := Ty) rfl rfl (by repeat' constructor) (fun b0 => ?_)
   refine WL.nil (W.seq (W.region (WL.mv rfl rfl (WL.shrS (c := 64) rfl rfl rfl (by omega) (by decide) (WL.andI rfl rfl rfl (by decide) (WL.mv rfl rfl (WL.shrS (c := 256) rfl rfl rfl (by omega) (by decide) (WL.andI rfl rfl rfl (by decide) (WL.mv rfl rfl (WL.mv rfl rfl (WL.shrS (c := 2048) rfl rfl rfl (by omega) (by decide) (WL.andI rfl rfl rfl (by decide) (WL.add (K := .i64) rfl rfl rfl ?_)))))))))))))
   refine WL.mv rfl rfl (WL.shrS (c := 8192) rfl rfl rfl (by omega) (by decide) (WL.andI rfl rfl rfl (by decide) (WL.cvK (T := Ty) rfl rfl rfl rfl (wrap_u64 ⟨by omega, by omega⟩) (WL.mv rfl rfl (WL.mv rfl rfl (WL.shrS (c := 8192) rfl rfl rfl (by omega) (by decide) (WL.andI rfl rfl rfl (by decide) (WL.sub' (K := .i64) rfl rfl rfl (WL.mv rfl rfl (WL.mv rfl rfl (WL.shrS (c := 524288) rfl rfl rfl (by omega) (by decide) (WL.andI rfl rfl rfl (by decide) (WL.add (K := .i64) rfl rfl rfl ?_)))))))))))))
   refine WL.sub' (K := .i64) rfl rfl rfl (WL.mv rfl rfl (WL.shrS (c := 8388608) rfl rfl rfl (by omega) (by decide) (WL.andI rfl rfl rfl (by decide) ?_)))
   refine WL.bdC (T := Ty) rfl rfl rfl rfl (by repeat' first | exact CO.nil | apply CO.one (by first | rfl | exact SL.one (by assumption)) | apply CO.agg) rfl (by repeat' constructor) ?_
   refine WL.alF (T := Ty) rfl rfl (by repeat' constructor) (fun b1 => ?_)
   refine WL.stAO (T := Ty) (j := 0) rfl rfl rfl rfl (by repeat' first | exact AO.nil | apply AO.cons (by first | rfl | exact SL.one (by assumption))) rfl rfl (by repeat' constructor) (by repeat' constructor) ?_
   refine WL.nil (W.seq (W.region (WL.mv rfl rfl (WL.andI rfl rfl rfl (by decide) (WL.as rfl rfl (WL.nil (W.seq (W.block (W.seq (W.region (WL.mv rfl rfl (WL.lss rfl rfl rfl (WL.as rfl rfl ?_)))))))))))))
   refine WL.nil (W.condpT rfl (by omega) (W.seq (W.region (WL.faN (T := Ty) (off' := 0) rfl rfl rfl rfl rfl rfl rfl ?_))))
   refine WL.stF (T := Ty) (j := 0) rfl rfl rfl rfl rfl rfl rfl (by repeat' constructor) (by repeat' constructor) ?_
   refine WL.nil (W.seq (W.region (WL.mv rfl rfl (WL.shrS (c := 2097152) rfl rfl rfl (by omega) (by decide) (WL.andI rfl rfl rfl (by decide) (WL.eql rfl rfl rfl (WL.nil (W.condpF rfl (by omega) (W.skip (W.inBlock (W.seq (W.region ?_))))))))))))
   refine WL.ldAF (T := Ty) (j := 0) rfl rfl rfl rfl rfl rfl (by repeat' constructor) ?_
   refine WL.stAO (T := Ty) (j := 1) rfl rfl rfl rfl (by repeat' first | exact AO.nil | apply AO.cons (by first | rfl | exact SL.one (by assumption))) rfl rfl (by repeat' constructor) (by repeat' constructor) ?_
   refine WL.nil ?_
   refine W.fit (Hs' := [box b0 _ 24]) (by (repeat' first | exact Sel.nil | apply Sel.k | exact Pick.h | apply Pick.t)) ?_
   exact W.retC (T := Ty) (j := 0) rfl rfl rfl rfl rfl rfl (fun h q => ⟨rfl, q⟩)
 ·skip
  by_cases h44 : n % 64 < 44
  ·skip
   refine ⟨⟨2, n / 64 % (3 + 1), n / 256 % (7 + 1), IntKind.i64.wrap (a + n / 2048 % (3 + 1)), n / 8192 % (255 + 1), IntKind.i64.wrap (a - n / 8192 % (63 + 1)), IntKind.i64.wrap (IntKind.i64.wrap (a + n / 524288 % (15 + 1)) - 4), n / 8388608 % (15 + 1)⟩, fun ρ => ?_⟩
   refine in19 rfl rfl ?_
   refine W.seq (W.region ?_)
   refine WL.alF (T := Ty) rfl rfl (by repeat' constructor) (fun b0 => ?_)
   refine WL.nil (W.seq (W.region (WL.mv rfl rfl (WL.shrS (c := 64) rfl rfl rfl (by omega) (by decide) (WL.andI rfl rfl rfl (by decide) (WL.mv rfl rfl (WL.shrS (c := 256) rfl rfl rfl (by omega) (by decide) (WL.andI rfl rfl rfl (by decide) (WL.mv rfl rfl (WL.mv rfl rfl (WL.shrS (c := 2048) rfl rfl rfl (by omega) (by decide) (WL.andI rfl rfl rfl (by decide) (WL.add (K := .i64) rfl rfl rfl ?_)))))))))))))
   refine WL.mv rfl rfl (WL.shrS (c := 8192) rfl rfl rfl (by omega) (by decide) (WL.andI rfl rfl rfl (by decide) (WL.cvK (T := Ty) rfl rfl rfl rfl (wrap_u64 ⟨by omega, by omega⟩) (WL.mv rfl rfl (WL.mv rfl rfl (WL.shrS (c := 8192) rfl rfl rfl (by omega) (by decide) (WL.andI rfl rfl rfl (by decide) (WL.sub' (K := .i64) rfl rfl rfl (WL.mv rfl rfl (WL.mv rfl rfl (WL.shrS (c := 524288) rfl rfl rfl (by omega) (by decide) (WL.andI rfl rfl rfl (by decide) (WL.add (K := .i64) rfl rfl rfl ?_)))))))))))))
   refine WL.sub' (K := .i64) rfl rfl rfl (WL.mv rfl rfl (WL.shrS (c := 8388608) rfl rfl rfl (by omega) (by decide) (WL.andI rfl rfl rfl (by decide) ?_)))
   refine WL.bdC (T := Ty) rfl rfl rfl rfl (by repeat' first | exact CO.nil | apply CO.one (by first | rfl | exact SL.one (by assumption)) | apply CO.agg) rfl (by repeat' constructor) ?_
   refine WL.alF (T := Ty) rfl rfl (by repeat' constructor) (fun b1 => ?_)
   refine WL.stAO (T := Ty) (j := 0) rfl rfl rfl rfl (by repeat' first | exact AO.nil | apply AO.cons (by first | rfl | exact SL.one (by assumption))) rfl rfl (by repeat' constructor) (by repeat' constructor) ?_
   refine WL.nil (W.seq (W.region (WL.mv rfl rfl (WL.andI rfl rfl rfl (by decide) (WL.as rfl rfl (WL.nil (W.seq (W.block (W.seq (W.region (WL.mv rfl rfl (WL.lss rfl rfl rfl (WL.as rfl rfl ?_)))))))))))))
   refine WL.nil (W.condpF rfl (by omega) (W.seq (W.region (WL.mv rfl rfl (WL.lss rfl rfl rfl (WL.as rfl rfl (WL.nil (W.condpT rfl (by omega) (W.region (WL.faN (T := Ty) (off' := 0) rfl rfl rfl rfl rfl rfl rfl ?_))))))))))
   refine WL.stF (T := Ty) (j := 0) rfl rfl rfl rfl rfl rfl rfl (by repeat' constructor) (by repeat' constructor) ?_
   refine WL.nil (W.inBlock (W.seq (W.region ?_)))
   refine WL.ldAF (T := Ty) (j := 0) rfl rfl rfl rfl rfl rfl (by repeat' constructor) ?_
   refine WL.stAO (T := Ty) (j := 1) rfl rfl rfl rfl (by repeat' first | exact AO.nil | apply AO.cons (by first | rfl | exact SL.one (by assumption))) rfl rfl (by repeat' constructor) (by repeat' constructor) ?_
   refine WL.nil ?_
   refine W.fit (Hs' := [box b0 _ 24]) (by (repeat' first | exact Sel.nil | apply Sel.k | exact Pick.h | apply Pick.t)) ?_
   exact W.retC (T := Ty) (j := 0) rfl rfl rfl rfl rfl rfl (fun h q => ⟨rfl, q⟩)
  ·skip
   by_cases h46 : n % 64 < 46
   ·skip
    by_cases g46 : n / 8388608 % 4 > 0
    ·skip
     refine ⟨⟨2, n / 64 % (3 + 1), n / 256 % (7 + 1), IntKind.i64.wrap (a + n / 2048 % (3 + 1)), n / 8192 % (255 + 1), IntKind.i64.wrap (a - n / 8192 % (63 + 1)), IntKind.i64.wrap (IntKind.i64.wrap (a + n / 524288 % (15 + 1)) - 4), n / 8388608 % (15 + 1)⟩, fun ρ => ?_⟩
     refine in19 rfl rfl ?_
     refine W.seq (W.region ?_)
     refine WL.alF (T := Ty) rfl rfl (by repeat' constructor) (fun b0 => ?_)
     refine WL.nil (W.seq (W.region (WL.mv rfl rfl (WL.shrS (c := 64) rfl rfl rfl (by omega) (by decide) (WL.andI rfl rfl rfl (by decide) (WL.mv rfl rfl (WL.shrS (c := 256) rfl rfl rfl (by omega) (by decide) (WL.andI rfl rfl rfl (by decide) (WL.mv rfl rfl (WL.mv rfl rfl (WL.shrS (c := 2048) rfl rfl rfl (by omega) (by decide) (WL.andI rfl rfl rfl (by decide) (WL.add (K := .i64) rfl rfl rfl ?_)))))))))))))
     refine WL.mv rfl rfl (WL.shrS (c := 8192) rfl rfl rfl (by omega) (by decide) (WL.andI rfl rfl rfl (by decide) (WL.cvK (T := Ty) rfl rfl rfl rfl (wrap_u64 ⟨by omega, by omega⟩) (WL.mv rfl rfl (WL.mv rfl rfl (WL.shrS (c := 8192) rfl rfl rfl (by omega) (by decide) (WL.andI rfl rfl rfl (by decide) (WL.sub' (K := .i64) rfl rfl rfl (WL.mv rfl rfl (WL.mv rfl rfl (WL.shrS (c := 524288) rfl rfl rfl (by omega) (by decide) (WL.andI rfl rfl rfl (by decide) (WL.add (K := .i64) rfl rfl rfl ?_)))))))))))))
     refine WL.sub' (K := .i64) rfl rfl rfl (WL.mv rfl rfl (WL.shrS (c := 8388608) rfl rfl rfl (by omega) (by decide) (WL.andI rfl rfl rfl (by decide) ?_)))
     refine WL.bdC (T := Ty) rfl rfl rfl rfl (by repeat' first | exact CO.nil | apply CO.one (by first | rfl | exact SL.one (by assumption)) | apply CO.agg) rfl (by repeat' constructor) ?_
     refine WL.alF (T := Ty) rfl rfl (by repeat' constructor) (fun b1 => ?_)
     refine WL.stAO (T := Ty) (j := 0) rfl rfl rfl rfl (by repeat' first | exact AO.nil | apply AO.cons (by first | rfl | exact SL.one (by assumption))) rfl rfl (by repeat' constructor) (by repeat' constructor) ?_
     refine WL.nil (W.seq (W.region (WL.mv rfl rfl (WL.andI rfl rfl rfl (by decide) (WL.as rfl rfl (WL.nil (W.seq (W.block (W.seq (W.region (WL.mv rfl rfl (WL.lss rfl rfl rfl (WL.as rfl rfl ?_)))))))))))))
     refine WL.nil (W.condpF rfl (by omega) (W.seq (W.region (WL.mv rfl rfl (WL.lss rfl rfl rfl (WL.as rfl rfl (WL.nil (W.condpF rfl (by omega) (W.seq (W.region (WL.mv rfl rfl (WL.lss rfl rfl rfl (WL.as rfl rfl ?_)))))))))))))
     refine WL.nil (W.condpT rfl (by omega) (W.seq (W.region (WL.faN (T := Ty) (off' := 0) rfl rfl rfl rfl rfl rfl rfl ?_))))
     refine WL.stF (T := Ty) (j := 0) rfl rfl rfl rfl rfl rfl rfl (by repeat' constructor) (by repeat' constructor) ?_
     refine WL.nil (W.seq (W.region (WL.mv rfl rfl (WL.shrS (c := 8388608) rfl rfl rfl (by omega) (by decide) (WL.andI rfl rfl rfl (by decide) (WL.gtr rfl rfl rfl (WL.nil (W.condpT rfl (by omega) (W.region (WL.faN (T := Ty) (off' := 0) rfl rfl rfl rfl rfl rfl rfl ?_))))))))))
     refine WL.stF (T := Ty) (j := 0) rfl rfl rfl rfl rfl rfl rfl (by repeat' constructor) (by repeat' constructor) ?_
     refine WL.nil (W.inBlock (W.seq (W.region ?_)))
     refine WL.ldAF (T := Ty) (j := 0) rfl rfl rfl rfl rfl rfl (by repeat' constructor) ?_
     refine WL.stAO (T := Ty) (j := 1) rfl rfl rfl rfl (by repeat' first | exact AO.nil | apply AO.cons (by first | rfl | exact SL.one (by assumption))) rfl rfl (by repeat' constructor) (by repeat' constructor) ?_
     refine WL.nil ?_
     refine W.fit (Hs' := [box b0 _ 24]) (by (repeat' first | exact Sel.nil | apply Sel.k | exact Pick.h | apply Pick.t)) ?_
     exact W.retC (T := Ty) (j := 0) rfl rfl rfl rfl rfl rfl (fun h q => ⟨rfl, q⟩)
    ·skip
     refine ⟨⟨3, n / 64 % (3 + 1), n / 256 % (7 + 1), IntKind.i64.wrap (a + n / 2048 % (3 + 1)), n / 8192 % (255 + 1), IntKind.i64.wrap (a - n / 8192 % (63 + 1)), IntKind.i64.wrap (IntKind.i64.wrap (a + n / 524288 % (15 + 1)) - 4), n / 8388608 % (15 + 1)⟩, fun ρ => ?_⟩
     refine in19 rfl rfl ?_
     refine W.seq (W.region ?_)
     refine WL.alF (T := Ty) rfl rfl (by repeat' constructor) (fun b0 => ?_)
     refine WL.nil (W.seq (W.region (WL.mv rfl rfl (WL.shrS (c := 64) rfl rfl rfl (by omega) (by decide) (WL.andI rfl rfl rfl (by decide) (WL.mv rfl rfl (WL.shrS (c := 256) rfl rfl rfl (by omega) (by decide) (WL.andI rfl rfl rfl (by decide) (WL.mv rfl rfl (WL.mv rfl rfl (WL.shrS (c := 2048) rfl rfl rfl (by omega) (by decide) (WL.andI rfl rfl rfl (by decide) (WL.add (K := .i64) rfl rfl rfl ?_)))))))))))))
     refine WL.mv rfl rfl (WL.shrS (c := 8192) rfl rfl rfl (by omega) (by decide) (WL.andI rfl rfl rfl (by decide) (WL.cvK (T := Ty) rfl rfl rfl rfl (wrap_u64 ⟨by omega, by omega⟩) (WL.mv rfl rfl (WL.mv rfl rfl (WL.shrS (c := 8192) rfl rfl rfl (by omega) (by decide) (WL.andI rfl rfl rfl (by decide) (WL.sub' (K := .i64) rfl rfl rfl (WL.mv rfl rfl (WL.mv rfl rfl (WL.shrS (c := 524288) rfl rfl rfl (by omega) (by decide) (WL.andI rfl rfl rfl (by decide) (WL.add (K := .i64) rfl rfl rfl ?_)))))))))))))
     refine WL.sub' (K := .i64) rfl rfl rfl (WL.mv rfl rfl (WL.shrS (c := 8388608) rfl rfl rfl (by omega) (by decide) (WL.andI rfl rfl rfl (by decide) ?_)))
     refine WL.bdC (T := Ty) rfl rfl rfl rfl (by repeat' first | exact CO.nil | apply CO.one (by first | rfl | exact SL.one (by assumption)) | apply CO.agg) rfl (by repeat' constructor) ?_
     refine WL.alF (T := Ty) rfl rfl (by repeat' constructor) (fun b1 => ?_)
     refine WL.stAO (T := Ty) (j := 0) rfl rfl rfl rfl (by repeat' first | exact AO.nil | apply AO.cons (by first | rfl | exact SL.one (by assumption))) rfl rfl (by repeat' constructor) (by repeat' constructor) ?_
     refine WL.nil (W.seq (W.region (WL.mv rfl rfl (WL.andI rfl rfl rfl (by decide) (WL.as rfl rfl (WL.nil (W.seq (W.block (W.seq (W.region (WL.mv rfl rfl (WL.lss rfl rfl rfl (WL.as rfl rfl ?_)))))))))))))
     refine WL.nil (W.condpF rfl (by omega) (W.seq (W.region (WL.mv rfl rfl (WL.lss rfl rfl rfl (WL.as rfl rfl (WL.nil (W.condpF rfl (by omega) (W.seq (W.region (WL.mv rfl rfl (WL.lss rfl rfl rfl (WL.as rfl rfl ?_)))))))))))))
     refine WL.nil (W.condpT rfl (by omega) (W.seq (W.region (WL.faN (T := Ty) (off' := 0) rfl rfl rfl rfl rfl rfl rfl ?_))))
     refine WL.stF (T := Ty) (j := 0) rfl rfl rfl rfl rfl rfl rfl (by repeat' constructor) (by repeat' constructor) ?_
     refine WL.nil (W.seq (W.region (WL.mv rfl rfl (WL.shrS (c := 8388608) rfl rfl rfl (by omega) (by decide) (WL.andI rfl rfl rfl (by decide) (WL.gtr rfl rfl rfl (WL.nil (W.condpF rfl (by omega) (W.skip (W.inBlock (W.seq (W.region ?_))))))))))))
     refine WL.ldAF (T := Ty) (j := 0) rfl rfl rfl rfl rfl rfl (by repeat' constructor) ?_
     refine WL.stAO (T := Ty) (j := 1) rfl rfl rfl rfl (by repeat' first | exact AO.nil | apply AO.cons (by first | rfl | exact SL.one (by assumption))) rfl rfl (by repeat' constructor) (by repeat' constructor) ?_
     refine WL.nil ?_
     refine W.fit (Hs' := [box b0 _ 24]) (by (repeat' first | exact Sel.nil | apply Sel.k | exact Pick.h | apply Pick.t)) ?_
     exact W.retC (T := Ty) (j := 0) rfl rfl rfl rfl rfl rfl (fun h q => ⟨rfl, q⟩)
   ·skip
    by_cases h48 : n % 64 < 48
    ·skip
     by_cases g48 : n / 8388608 % 4 > 0
     ·skip
      refine ⟨⟨1, n / 64 % (3 + 1), n / 256 % (7 + 1), IntKind.i64.wrap (a + n / 2048 % (3 + 1)), n / 8192 % (255 + 1), IntKind.i64.wrap (a - n / 8192 % (63 + 1)), IntKind.i64.wrap (IntKind.i64.wrap (a + n / 524288 % (15 + 1)) - 4), n / 8388608 % (15 + 1)⟩, fun ρ => ?_⟩
      refine in19 rfl rfl ?_
      refine W.seq (W.region ?_)
      refine WL.alF (T := Ty) rfl rfl (by repeat' constructor) (fun b0 => ?_)
      refine WL.nil (W.seq (W.region (WL.mv rfl rfl (WL.shrS (c := 64) rfl rfl rfl (by omega) (by decide) (WL.andI rfl rfl rfl (by decide) (WL.mv rfl rfl (WL.shrS (c := 256) rfl rfl rfl (by omega) (by decide) (WL.andI rfl rfl rfl (by decide) (WL.mv rfl rfl (WL.mv rfl rfl (WL.shrS (c := 2048) rfl rfl rfl (by omega) (by decide) (WL.andI rfl rfl rfl (by decide) (WL.add (K := .i64) rfl rfl rfl ?_)))))))))))))
      refine WL.mv rfl rfl (WL.shrS (c := 8192) rfl rfl rfl (by omega) (by decide) (WL.andI rfl rfl rfl (by decide) (WL.cvK (T := Ty) rfl rfl rfl rfl (wrap_u64 ⟨by omega, by omega⟩) (WL.mv rfl rfl (WL.mv rfl rfl (WL.shrS (c := 8192) rfl rfl rfl (by omega) (by decide) (WL.andI rfl rfl rfl (by decide) (WL.sub' (K := .i64) rfl rfl rfl (WL.mv rfl rfl (WL.mv rfl rfl (WL.shrS (c := 524288) rfl rfl rfl (by omega) (by decide) (WL.andI rfl rfl rfl (by decide) (WL.add (K := .i64) rfl rfl rfl ?_)))))))))))))
      refine WL.sub' (K := .i64) rfl rfl rfl (WL.mv rfl rfl (WL.shrS (c := 8388608) rfl rfl rfl (by omega) (by decide) (WL.andI rfl rfl rfl (by decide) ?_)))
      refine WL.bdC (T := Ty) rfl rfl rfl rfl (by repeat' first | exact CO.nil | apply CO.one (by first | rfl | exact SL.one (by assumption)) | apply CO.agg) rfl (by repeat' constructor) ?_
      refine WL.alF (T := Ty) rfl rfl (by repeat' constructor) (fun b1 => ?_)
      refine WL.stAO (T := Ty) (j := 0) rfl rfl rfl rfl (by repeat' first | exact AO.nil | apply AO.cons (by first | rfl | exact SL.one (by assumption))) rfl rfl (by repeat' constructor) (by repeat' constructor) ?_
      refine WL.nil (W.seq (W.region (WL.mv rfl rfl (WL.andI rfl rfl rfl (by decide) (WL.as rfl rfl (WL.nil (W.seq (W.block (W.seq (W.region (WL.mv rfl rfl (WL.lss rfl rfl rfl (WL.as rfl rfl ?_)))))))))))))
      refine WL.nil (W.condpF rfl (by omega) (W.seq (W.region (WL.mv rfl rfl (WL.lss rfl rfl rfl (WL.as rfl rfl (WL.nil (W.condpF rfl (by omega) (W.seq (W.region (WL.mv rfl rfl (WL.lss rfl rfl rfl (WL.as rfl rfl ?_)))))))))))))
      refine WL.nil (W.condpF rfl (by omega) (W.seq (W.region (WL.mv rfl rfl (WL.lss rfl rfl rfl (WL.as rfl rfl (WL.nil (W.condpT rfl (by omega) (W.seq (W.region (WL.faN (T := Ty) (off' := 0) rfl rfl rfl rfl rfl rfl rfl ?_)))))))))))
      refine WL.stF (T := Ty) (j := 0) rfl rfl rfl rfl rfl rfl rfl (by repeat' constructor) (by repeat' constructor) ?_
      refine WL.nil (W.seq (W.region (WL.mv rfl rfl (WL.shrS (c := 8388608) rfl rfl rfl (by omega) (by decide) (WL.andI rfl rfl rfl (by decide) (WL.gtr rfl rfl rfl (WL.nil (W.condpT rfl (by omega) (W.region (WL.faN (T := Ty) (off' := 0) rfl rfl rfl rfl rfl rfl rfl ?_))))))))))
      refine WL.stF (T := Ty) (j := 0) rfl rfl rfl rfl rfl rfl rfl (by repeat' constructor) (by repeat' constructor) ?_
      refine WL.nil (W.inBlock (W.seq (W.region ?_)))
      refine WL.ldAF (T := Ty) (j := 0) rfl rfl rfl rfl rfl rfl (by repeat' constructor) ?_
      refine WL.stAO (T := Ty) (j := 1) rfl rfl rfl rfl (by repeat' first | exact AO.nil | apply AO.cons (by first | rfl | exact SL.one (by assumption))) rfl rfl (by repeat' constructor) (by repeat' constructor) ?_
      refine WL.nil ?_
      refine W.fit (Hs' := [box b0 _ 24]) (by (repeat' first | exact Sel.nil | apply Sel.k | exact Pick.h | apply Pick.t)) ?_
      exact W.retC (T := Ty) (j := 0) rfl rfl rfl rfl rfl rfl (fun h q => ⟨rfl, q⟩)
     ·skip
      refine ⟨⟨4, n / 64 % (3 + 1), n / 256 % (7 + 1), IntKind.i64.wrap (a + n / 2048 % (3 + 1)), n / 8192 % (255 + 1), IntKind.i64.wrap (a - n / 8192 % (63 + 1)), IntKind.i64.wrap (IntKind.i64.wrap (a + n / 524288 % (15 + 1)) - 4), n / 8388608 % (15 + 1)⟩, fun ρ => ?_⟩
      refine in19 rfl rfl ?_
      refine W.seq (W.region ?_)
      refine WL.alF (T := Ty) rfl rfl (by repeat' constructor) (fun b0 => ?_)
      refine WL.nil (W.seq (W.region (WL.mv rfl rfl (WL.shrS (c := 64) rfl rfl rfl (by omega) (by decide) (WL.andI rfl rfl rfl (by decide) (WL.mv rfl rfl (WL.shrS (c := 256) rfl rfl rfl (by omega) (by decide) (WL.andI rfl rfl rfl (by decide) (WL.mv rfl rfl (WL.mv rfl rfl (WL.shrS (c := 2048) rfl rfl rfl (by omega) (by decide) (WL.andI rfl rfl rfl (by decide) (WL.add (K := .i64) rfl rfl rfl ?_)))))))))))))
      refine WL.mv rfl rfl (WL.shrS (c := 8192) rfl rfl rfl (by omega) (by decide) (WL.andI rfl rfl rfl (by decide) (WL.cvK (T := Ty) rfl rfl rfl rfl (wrap_u64 ⟨by omega, by omega⟩) (WL.mv rfl rfl (WL.mv rfl rfl (WL.shrS (c := 8192) rfl rfl rfl (by omega) (by decide) (WL.andI rfl rfl rfl (by decide) (WL.sub' (K := .i64) rfl rfl rfl (WL.mv rfl rfl (WL.mv rfl rfl (WL.shrS (c := 524288) rfl rfl rfl (by omega) (by decide) (WL.andI rfl rfl rfl (by decide) (WL.add (K := .i64) rfl rfl rfl ?_)))))))))))))
      refine WL.sub' (K := .i64) rfl rfl rfl (WL.mv rfl rfl (WL.shrS (c := 8388608) rfl rfl rfl (by omega) (by decide) (WL.andI rfl rfl rfl (by decide) ?_)))
      refine WL.bdC (T := Ty) rfl rfl rfl rfl (by repeat' first | exact CO.nil | apply CO.one (by first | rfl | exact SL.one (by assumption)) | apply CO.agg) rfl (by repeat' constructor) ?_
      refine WL.alF (T := Ty) rfl rfl (by repeat' constructor) (fun b1 => ?_)
      refine WL.stAO (T := Ty) (j := 0) rfl rfl rfl rfl (by repeat' first | exact AO.nil | apply AO.cons (by first | rfl | exact SL.one (by assumption))) rfl rfl (by repeat' constructor) (by repeat' constructor) ?_
      refine WL.nil (W.seq (W.region (WL.mv rfl rfl (WL.andI rfl rfl rfl (by decide) (WL.as rfl rfl (WL.nil (W.seq (W.block (W.seq (W.region (WL.mv rfl rfl (WL.lss rfl rfl rfl (WL.as rfl rfl ?_)))))))))))))
      refine WL.nil (W.condpF rfl (by omega) (W.seq (W.region (WL.mv rfl rfl (WL.lss rfl rfl rfl (WL.as rfl rfl (WL.nil (W.condpF rfl (by omega) (W.seq (W.region (WL.mv rfl rfl (WL.lss rfl rfl rfl (WL.as rfl rfl ?_)))))))))))))
      refine WL.nil (W.condpF rfl (by omega) (W.seq (W.region (WL.mv rfl rfl (WL.lss rfl rfl rfl (WL.as rfl rfl (WL.nil (W.condpT rfl (by omega) (W.seq (W.region (WL.faN (T := Ty) (off' := 0) rfl rfl rfl rfl rfl rfl rfl ?_)))))))))))
      refine WL.stF (T := Ty) (j := 0) rfl rfl rfl rfl rfl rfl rfl (by repeat' constructor) (by repeat' constructor) ?_
      refine WL.nil (W.seq (W.region (WL.mv rfl rfl (WL.shrS (c := 8388608) rfl rfl rfl (by omega) (by decide) (WL.andI rfl rfl rfl (by decide) (WL.gtr rfl rfl rfl (WL.nil (W.condpF rfl (by omega) (W.skip (W.inBlock (W.seq (W.region ?_))))))))))))
      refine WL.ldAF (T := Ty) (j := 0) rfl rfl rfl rfl rfl rfl (by repeat' constructor) ?_
      refine WL.stAO (T := Ty) (j := 1) rfl rfl rfl rfl (by repeat' first | exact AO.nil | apply AO.cons (by first | rfl | exact SL.one (by assumption))) rfl rfl (by repeat' constructor) (by repeat' constructor) ?_
      refine WL.nil ?_
      refine W.fit (Hs' := [box b0 _ 24]) (by (repeat' first | exact Sel.nil | apply Sel.k | exact Pick.h | apply Pick.t)) ?_
      exact W.retC (T := Ty) (j := 0) rfl rfl rfl rfl rfl rfl (fun h q => ⟨rfl, q⟩)
    ·skip
     by_cases h53 : n % 64 < 53
     ·skip
      refine ⟨⟨5, n / 64 % (3 + 1), n / 256 % (7 + 1), IntKind.i64.wrap (a + n / 2048 % (3 + 1)), n / 8192 % (255 + 1), IntKind.i64.wrap (a - n / 8192 % (63 + 1)), IntKind.i64.wrap (IntKind.i64.wrap (a + n / 524288 % (15 + 1)) - 4), n / 8388608 % (15 + 1)⟩, fun ρ => ?_⟩
      refine in19 rfl rfl ?_
      refine W.seq (W.region ?_)
      refine WL.alF (T := Ty) rfl rfl (by repeat' constructor) (fun b0 => ?_)
      refine WL.nil (W.seq (W.region (WL.mv rfl rfl (WL.shrS (c := 64) rfl rfl rfl (by omega) (by decide) (WL.andI rfl rfl rfl (by decide) (WL.mv rfl rfl (WL.shrS (c := 256) rfl rfl rfl (by omega) (by decide) (WL.andI rfl rfl rfl (by decide) (WL.mv rfl rfl (WL.mv rfl rfl (WL.shrS (c := 2048) rfl rfl rfl (by omega) (by decide) (WL.andI rfl rfl rfl (by decide) (WL.add (K := .i64) rfl rfl rfl ?_)))))))))))))
      refine WL.mv rfl rfl (WL.shrS (c := 8192) rfl rfl rfl (by omega) (by decide) (WL.andI rfl rfl rfl (by decide) (WL.cvK (T := Ty) rfl rfl rfl rfl (wrap_u64 ⟨by omega, by omega⟩) (WL.mv rfl rfl (WL.mv rfl rfl (WL.shrS (c := 8192) rfl rfl rfl (by omega) (by decide) (WL.andI rfl rfl rfl (by decide) (WL.sub' (K := .i64) rfl rfl rfl (WL.mv rfl rfl (WL.mv rfl rfl (WL.shrS (c := 524288) rfl rfl rfl (by omega) (by decide) (WL.andI rfl rfl rfl (by decide) (WL.add (K := .i64) rfl rfl rfl ?_)))))))))))))
      refine WL.sub' (K := .i64) rfl rfl rfl (WL.mv rfl rfl (WL.shrS (c := 8388608) rfl rfl rfl (by omega) (by decide) (WL.andI rfl rfl rfl (by decide) ?_)))
      refine WL.bdC (T := Ty) rfl rfl rfl rfl (by repeat' first | exact CO.nil | apply CO.one (by first | rfl | exact SL.one (by assumption)) | apply CO.agg) rfl (by repeat' constructor) ?_
      refine WL.alF (T := Ty) rfl rfl (by repeat' constructor) (fun b1 => ?_)
      refine WL.stAO (T := Ty) (j := 0) rfl rfl rfl rfl (by repeat' first | exact AO.nil | apply AO.cons (by first | rfl | exact SL.one (by assumption))) rfl rfl (by repeat' constructor) (by repeat' constructor) ?_
      refine WL.nil (W.seq (W.region (WL.mv rfl rfl (WL.andI rfl rfl rfl (by decide) (WL.as rfl rfl (WL.nil (W.seq (W.block (W.seq (W.region (WL.mv rfl rfl (WL.lss rfl rfl rfl (WL.as rfl rfl ?_)))))))))))))
      refine WL.nil (W.condpF rfl (by omega) (W.seq (W.region (WL.mv rfl rfl (WL.lss rfl rfl rfl (WL.as rfl rfl (WL.nil (W.condpF rfl (by omega) (W.seq (W.region (WL.mv rfl rfl (WL.lss rfl rfl rfl (WL.as rfl rfl ?_)))))))))))))
      refine WL.nil (W.condpF rfl (by omega) (W.seq (W.region (WL.mv rfl rfl (WL.lss rfl rfl rfl (WL.as rfl rfl (WL.nil (W.condpF rfl (by omega) (W.seq (W.region (WL.mv rfl rfl (WL.lss rfl rfl rfl (WL.as rfl rfl ?_)))))))))))))
      refine WL.nil (W.condpT rfl (by omega) (W.region (WL.faN (T := Ty) (off' := 0) rfl rfl rfl rfl rfl rfl rfl ?_)))
      refine WL.stF (T := Ty) (j := 0) rfl rfl rfl rfl rfl rfl rfl (by repeat' constructor) (by repeat' constructor) ?_
      refine WL.nil (W.inBlock (W.seq (W.region ?_)))
      refine WL.ldAF (T := Ty) (j := 0) rfl rfl rfl rfl rfl rfl (by repeat' constructor) ?_
      refine WL.stAO (T := Ty) (j := 1) rfl rfl rfl rfl (by repeat' first | exact AO.nil | apply AO.cons (by first | rfl | exact SL.one (by assumption))) rfl rfl (by repeat' constructor) (by repeat' constructor) ?_
      refine WL.nil ?_
      refine W.fit (Hs' := [box b0 _ 24]) (by (repeat' first | exact Sel.nil | apply Sel.k | exact Pick.h | apply Pick.t)) ?_
      exact W.retC (T := Ty) (j := 0) rfl rfl rfl rfl rfl rfl (fun h q => ⟨rfl, q⟩)
     ·skip
      by_cases h60 : n % 64 < 60
      ·skip
       refine ⟨⟨6, n / 64 % (3 + 1), n / 256 % (7 + 1), IntKind.i64.wrap (a + n / 2048 % (3 + 1)), n / 8192 % (255 + 1), IntKind.i64.wrap (a - n / 8192 % (63 + 1)), IntKind.i64.wrap (IntKind.i64.wrap (a + n / 524288 % (15 + 1)) - 4), n / 8388608 % (15 + 1)⟩, fun ρ => ?_⟩
       refine in19 rfl rfl ?_
       refine W.seq (W.region ?_)
       refine WL.alF (T := Ty) rfl rfl (by repeat' constructor) (fun b0 => ?_)
       refine WL.nil (W.seq (W.region (WL.mv rfl rfl (WL.shrS (c := 64) rfl rfl rfl (by omega) (by decide) (WL.andI rfl rfl rfl (by decide) (WL.mv rfl rfl (WL.shrS (c := 256) rfl rfl rfl (by omega) (by decide) (WL.andI rfl rfl rfl (by decide) (WL.mv rfl rfl (WL.mv rfl rfl (WL.shrS (c := 2048) rfl rfl rfl (by omega) (by decide) (WL.andI rfl rfl rfl (by decide) (WL.add (K := .i64) rfl rfl rfl ?_)))))))))))))
       refine WL.mv rfl rfl (WL.shrS (c := 8192) rfl rfl rfl (by omega) (by decide) (WL.andI rfl rfl rfl (by decide) (WL.cvK (T := Ty) rfl rfl rfl rfl (wrap_u64 ⟨by omega, by omega⟩) (WL.mv rfl rfl (WL.mv rfl rfl (WL.shrS (c := 8192) rfl rfl rfl (by omega) (by decide) (WL.andI rfl rfl rfl (by decide) (WL.sub' (K := .i64) rfl rfl rfl (WL.mv rfl rfl (WL.mv rfl rfl (WL.shrS (c := 524288) rfl rfl rfl (by omega) (by decide) (WL.andI rfl rfl rfl (by decide) (WL.add (K := .i64) rfl rfl rfl ?_)))))))))))))
       refine WL.sub' (K := .i64) rfl rfl rfl (WL.mv rfl rfl (WL.shrS (c := 8388608) rfl rfl rfl (by omega) (by decide) (WL.andI rfl rfl rfl (by decide) ?_)))
       refine WL.bdC (T := Ty) rfl rfl rfl rfl (by repeat' first | exact CO.nil | apply CO.one (by first | rfl | exact SL.one (by assumption)) | apply CO.agg) rfl (by repeat' constructor) ?_
       refine WL.alF (T := Ty) rfl rfl (by repeat' constructor) (fun b1 => ?_)
       refine WL.stAO (T := Ty) (j := 0) rfl rfl rfl rfl (by repeat' first | exact AO.nil | apply AO.cons (by first | rfl | exact SL.one (by assumption))) rfl rfl (by repeat' constructor) (by repeat' constructor) ?_
       refine WL.nil (W.seq (W.region (WL.mv rfl rfl (WL.andI rfl rfl rfl (by decide) (WL.as rfl rfl (WL.nil (W.seq (W.block (W.seq (W.region (WL.mv rfl rfl (WL.lss rfl rfl rfl (WL.as rfl rfl ?_)))))))))))))
       refine WL.nil (W.condpF rfl (by omega) (W.seq (W.region (WL.mv rfl rfl (WL.lss rfl rfl rfl (WL.as rfl rfl (WL.nil (W.condpF rfl (by omega) (W.seq (W.region (WL.mv rfl rfl (WL.lss rfl rfl rfl (WL.as rfl rfl ?_)))))))))))))
       refine WL.nil (W.condpF rfl (by omega) (W.seq (W.region (WL.mv rfl rfl (WL.lss rfl rfl rfl (WL.as rfl rfl (WL.nil (W.condpF rfl (by omega) (W.seq (W.region (WL.mv rfl rfl (WL.lss rfl rfl rfl (WL.as rfl rfl ?_)))))))))))))
       refine WL.nil (W.condpF rfl (by omega) (W.seq (W.region (WL.mv rfl rfl (WL.lss rfl rfl rfl (WL.as rfl rfl (WL.nil (W.condpT rfl (by omega) (W.region (WL.faN (T := Ty) (off' := 0) rfl rfl rfl rfl rfl rfl rfl ?_))))))))))
       refine WL.stF (T := Ty) (j := 0) rfl rfl rfl rfl rfl rfl rfl (by repeat' constructor) (by repeat' constructor) ?_
       refine WL.nil (W.inBlock (W.seq (W.region ?_)))
       refine WL.ldAF (T := Ty) (j := 0) rfl rfl rfl rfl rfl rfl (by repeat' constructor) ?_
       refine WL.stAO (T := Ty) (j := 1) rfl rfl rfl rfl (by repeat' first | exact AO.nil | apply AO.cons (by first | rfl | exact SL.one (by assumption))) rfl rfl (by repeat' constructor) (by repeat' constructor) ?_
       refine WL.nil ?_
       refine W.fit (Hs' := [box b0 _ 24]) (by (repeat' first | exact Sel.nil | apply Sel.k | exact Pick.h | apply Pick.t)) ?_
       exact W.retC (T := Ty) (j := 0) rfl rfl rfl rfl rfl rfl (fun h q => ⟨rfl, q⟩)
      ·skip
       by_cases h62 : n % 64 < 62
       ·skip
        refine ⟨⟨7, n / 64 % (3 + 1), n / 256 % (7 + 1), IntKind.i64.wrap (a + n / 2048 % (3 + 1)), n / 8192 % (255 + 1), IntKind.i64.wrap (a - n / 8192 % (63 + 1)), IntKind.i64.wrap (IntKind.i64.wrap (a + n / 524288 % (15 + 1)) - 4), n / 8388608 % (15 + 1)⟩, fun ρ => ?_⟩
        refine in19 rfl rfl ?_
        refine W.seq (W.region ?_)
        refine WL.alF (T := Ty) rfl rfl (by repeat' constructor) (fun b0 => ?_)
        refine WL.nil (W.seq (W.region (WL.mv rfl rfl (WL.shrS (c := 64) rfl rfl rfl (by omega) (by decide) (WL.andI rfl rfl rfl (by decide) (WL.mv rfl rfl (WL.shrS (c := 256) rfl rfl rfl (by omega) (by decide) (WL.andI rfl rfl rfl (by decide) (WL.mv rfl rfl (WL.mv rfl rfl (WL.shrS (c := 2048) rfl rfl rfl (by omega) (by decide) (WL.andI rfl rfl rfl (by decide) (WL.add (K := .i64) rfl rfl rfl ?_)))))))))))))
        refine WL.mv rfl rfl (WL.shrS (c := 8192) rfl rfl rfl (by omega) (by decide) (WL.andI rfl rfl rfl (by decide) (WL.cvK (T := Ty) rfl rfl rfl rfl (wrap_u64 ⟨by omega, by omega⟩) (WL.mv rfl rfl (WL.mv rfl rfl (WL.shrS (c := 8192) rfl rfl rfl (by omega) (by decide) (WL.andI rfl rfl rfl (by decide) (WL.sub' (K := .i64) rfl rfl rfl (WL.mv rfl rfl (WL.mv rfl rfl (WL.shrS (c := 524288) rfl rfl rfl (by omega) (by decide) (WL.andI rfl rfl rfl (by decide) (WL.add (K := .i64) rfl rfl rfl ?_)))))))))))))
        refine WL.sub' (K := .i64) rfl rfl rfl (WL.mv rfl rfl (WL.shrS (c := 8388608) rfl rfl rfl (by omega) (by decide) (WL.andI rfl rfl rfl (by decide) ?_)))
        refine WL.bdC (T := Ty) rfl rfl rfl rfl (by repeat' first | exact CO.nil | apply CO.one (by first | rfl | exact SL.one (by assumption)) | apply CO.agg) rfl (by repeat' constructor) ?_
        refine WL.alF (T := Ty) rfl rfl (by repeat' constructor) (fun b1 => ?_)
        refine WL.stAO (T := Ty) (j := 0) rfl rfl rfl rfl (by repeat' first | exact AO.nil | apply AO.cons (by first | rfl | exact SL.one (by assumption))) rfl rfl (by repeat' constructor) (by repeat' constructor) ?_
        refine WL.nil (W.seq (W.region (WL.mv rfl rfl (WL.andI rfl rfl rfl (by decide) (WL.as rfl rfl (WL.nil (W.seq (W.block (W.seq (W.region (WL.mv rfl rfl (WL.lss rfl rfl rfl (WL.as rfl rfl ?_)))))))))))))
        refine WL.nil (W.condpF rfl (by omega) (W.seq (W.region (WL.mv rfl rfl (WL.lss rfl rfl rfl (WL.as rfl rfl (WL.nil (W.condpF rfl (by omega) (W.seq (W.region (WL.mv rfl rfl (WL.lss rfl rfl rfl (WL.as rfl rfl ?_)))))))))))))
        refine WL.nil (W.condpF rfl (by omega) (W.seq (W.region (WL.mv rfl rfl (WL.lss rfl rfl rfl (WL.as rfl rfl (WL.nil (W.condpF rfl (by omega) (W.seq (W.region (WL.mv rfl rfl (WL.lss rfl rfl rfl (WL.as rfl rfl ?_)))))))))))))
        refine WL.nil (W.condpF rfl (by omega) (W.seq (W.region (WL.mv rfl rfl (WL.lss rfl rfl rfl (WL.as rfl rfl (WL.nil (W.condpF rfl (by omega) (W.seq (W.region (WL.mv rfl rfl (WL.lss rfl rfl rfl (WL.as rfl rfl ?_)))))))))))))
        refine WL.nil (W.condpT rfl (by omega) (W.region (WL.faN (T := Ty) (off' := 0) rfl rfl rfl rfl rfl rfl rfl ?_)))
        refine WL.stF (T := Ty) (j := 0) rfl rfl rfl rfl rfl rfl rfl (by repeat' constructor) (by repeat' constructor) ?_
        refine WL.nil (W.inBlock (W.seq (W.region ?_)))
        refine WL.ldAF (T := Ty) (j := 0) rfl rfl rfl rfl rfl rfl (by repeat' constructor) ?_
        refine WL.stAO (T := Ty) (j := 1) rfl rfl rfl rfl (by repeat' first | exact AO.nil | apply AO.cons (by first | rfl | exact SL.one (by assumption))) rfl rfl (by repeat' constructor) (by repeat' constructor) ?_
        refine WL.nil ?_
        refine W.fit (Hs' := [box b0 _ 24]) (by (repeat' first | exact Sel.nil | apply Sel.k | exact Pick.h | apply Pick.t)) ?_
        exact W.retC (T := Ty) (j := 0) rfl rfl rfl rfl rfl rfl (fun h q => ⟨rfl, q⟩)
       ·skip
        refine ⟨⟨n / 64 % (15 + 1), n / 1024 % (31 + 1) - 5, n / 256 % (7 + 1), IntKind.i64.wrap (a + n / 2048 % (3 + 1)), n / 8192 % (255 + 1), IntKind.i64.wrap (a - n / 8192 % (63 + 1)), IntKind.i64.wrap (IntKind.i64.wrap (a + n / 524288 % (15 + 1)) - 4), n / 8388608 % (15 + 1)⟩, fun ρ => ?_⟩
        refine in19 rfl rfl ?_
        refine W.seq (W.region ?_)
        refine WL.alF (T := Ty) rfl rfl (by repeat' constructor) (fun b0 => ?_)
        refine WL.nil (W.seq (W.region (WL.mv rfl rfl (WL.shrS (c := 64) rfl rfl rfl (by omega) (by decide) (WL.andI rfl rfl rfl (by decide) (WL.mv rfl rfl (WL.shrS (c := 256) rfl rfl rfl (by omega) (by decide) (WL.andI rfl rfl rfl (by decide) (WL.mv rfl rfl (WL.mv rfl rfl (WL.shrS (c := 2048) rfl rfl rfl (by omega) (by decide) (WL.andI rfl rfl rfl (by decide) (WL.add (K := .i64) rfl rfl rfl ?_)))))))))))))
        refine WL.mv rfl rfl (WL.shrS (c := 8192) rfl rfl rfl (by omega) (by decide) (WL.andI rfl rfl rfl (by decide) (WL.cvK (T := Ty) rfl rfl rfl rfl (wrap_u64 ⟨by omega, by omega⟩) (WL.mv rfl rfl (WL.mv rfl rfl (WL.shrS (c := 8192) rfl rfl rfl (by omega) (by decide) (WL.andI rfl rfl rfl (by decide) (WL.sub' (K := .i64) rfl rfl rfl (WL.mv rfl rfl (WL.mv rfl rfl (WL.shrS (c := 524288) rfl rfl rfl (by omega) (by decide) (WL.andI rfl rfl rfl (by decide) (WL.add (K := .i64) rfl rfl rfl ?_)))))))))))))
        refine WL.sub' (K := .i64) rfl rfl rfl (WL.mv rfl rfl (WL.shrS (c := 8388608) rfl rfl rfl (by omega) (by decide) (WL.andI rfl rfl rfl (by decide) ?_)))
        refine WL.bdC (T := Ty) rfl rfl rfl rfl (by repeat' first | exact CO.nil | apply CO.one (by first | rfl | exact SL.one (by assumption)) | apply CO.agg) rfl (by repeat' constructor) ?_
        refine WL.alF (T := Ty) rfl rfl (by repeat' constructor) (fun b1 => ?_)
        refine WL.stAO (T := Ty) (j := 0) rfl rfl rfl rfl (by repeat' first | exact AO.nil | apply AO.cons (by first | rfl | exact SL.one (by assumption))) rfl rfl (by repeat' constructor) (by repeat' constructor) ?_
        refine WL.nil (W.seq (W.region (WL.mv rfl rfl (WL.andI rfl rfl rfl (by decide) (WL.as rfl rfl (WL.nil (W.seq (W.block (W.seq (W.region (WL.mv rfl rfl (WL.lss rfl rfl rfl (WL.as rfl rfl ?_)))))))))))))
        refine WL.nil (W.condpF rfl (by omega) (W.seq (W.region (WL.mv rfl rfl (WL.lss rfl rfl rfl (WL.as rfl rfl (WL.nil (W.condpF rfl (by omega) (W.seq (W.region (WL.mv rfl rfl (WL.lss rfl rfl rfl (WL.as rfl rfl ?_)))))))))))))
        refine WL.nil (W.condpF rfl (by omega) (W.seq (W.region (WL.mv rfl rfl (WL.lss rfl rfl rfl (WL.as rfl rfl (WL.nil (W.condpF rfl (by omega) (W.seq (W.region (WL.mv rfl rfl (WL.lss rfl rfl rfl (WL.as rfl rfl ?_)))))))))))))
        refine WL.nil (W.condpF rfl (by omega) (W.seq (W.region (WL.mv rfl rfl (WL.lss rfl rfl rfl (WL.as rfl rfl (WL.nil (W.condpF rfl (by omega) (W.seq (W.region (WL.mv rfl rfl (WL.lss rfl rfl rfl (WL.as rfl rfl ?_)))))))))))))
        refine WL.nil (W.condpF rfl (by omega) (W.seq (W.region (WL.mv rfl rfl (WL.shrS (c := 64) rfl rfl rfl (by omega) (by decide) (WL.andI rfl rfl rfl (by decide) (WL.faN (T := Ty) (off' := 0) rfl rfl rfl rfl rfl rfl rfl ?_)))))))
        refine WL.stF (T := Ty) (j := 0) rfl rfl rfl rfl rfl rfl rfl (by repeat' constructor) (by repeat' constructor) ?_
        refine WL.nil (W.region (WL.mv rfl rfl (WL.shrS (c := 1024) rfl rfl rfl (by omega) (by decide) (WL.andI rfl rfl rfl (by decide) (WL.subK rfl rfl rfl (wrap_i64 ⟨by omega, by omega⟩) (WL.faN (T := Ty) (off' := 1) rfl rfl rfl rfl rfl rfl rfl ?_))))))
        refine WL.stF (T := Ty) (j := 0) rfl rfl rfl rfl rfl rfl rfl (by repeat' constructor) (by repeat' constructor) ?_
        refine WL.nil (W.inBlock (W.seq (W.region ?_)))
        refine WL.ldAF (T := Ty) (j := 0) rfl rfl rfl rfl rfl rfl (by repeat' constructor) ?_
        refine WL.stAO (T := Ty) (j := 1) rfl rfl rfl rfl (by repeat' first | exact AO.nil | apply AO.cons (by first | rfl | exact SL.one (by assumption))) rfl rfl (by repeat' constructor) (by repeat' constructor) ?_
        refine WL.nil ?_
        refine W.fit (Hs' := [box b0 _ 24]) (by (repeat' first | exact Sel.nil | apply Sel.k | exact Pick.h | apply Pick.t)) ?_
        exact W.retC (T := Ty) (j := 0) rfl rfl rfl rfl rfl rfl (fun h q => ⟨rfl, q⟩)
end Go.Proofs.Ytbebhmdjnneimaa
