/- How many bits a number has: what math/bits.Len64 does. -/
import Derived.Test.YtjibmfkhhljhcaaStc
import Derived.Test.YtjibmfkhhljhcaaNum
import Derived.Test.YtjibmfkhhljhcaaTab
import Derived.Test.YtjibmfkhhljhcaaIxT
set_option linter.unusedSimpArgs false
set_option linter.unusedVariables false
set_option maxRecDepth 20000
set_option maxHeartbeats 4000000
namespace Go.Proofs.Ytjibmfkhhljhcaa
open Go
attribute [local irreducible] W WL Fn Buf ROs SL eptr box Rd Src bndOK WD RB Reads In

-- CALL 32 refine WL.callV rfl rfl (fun x p d => len64_c _ _ (by first | assumption | omega)) ?_
theorem len64_c (ρ : Hp) (x : Nat) (hx : x < 18446744073709551616) : Fn Try.prog 32 #[.int .u64 (x : Int)] ρ [] (Just (.int .i64 (lenB 64 x : Int))) := by
  refine in32 rfl rfl ?_
  by_cases c1 : 4294967296 ≤ x
  · have e1 : lenB 64 (x) = lenB 32 (x / 4294967296) + 32 := lenB_hi (x := x) 32 32 c1
    by_cases c2 : 65536 ≤ x / 4294967296
    · have e2 : lenB 32 (x / 4294967296) = lenB 16 (x / 4294967296 / 65536) + 16 := lenB_hi (x := x / 4294967296) 16 16 c2
      by_cases c3 : 256 ≤ x / 4294967296 / 65536
      · have e3 : lenB 16 (x / 4294967296 / 65536) = lenB 8 (x / 4294967296 / 65536 / 256) + 8 := lenB_hi (x := x / 4294967296 / 65536) 8 8 c3
        refine W.seq ?_
        refine W.region ?_
        refine WL.as rfl rfl ?_
        refine WL.nil ?_
        refine W.seq ?_
        refine W.seq ?_
        refine W.region ?_
        refine WL.mv rfl rfl ?_
        refine WL.geq rfl rfl rfl ?_
        refine WL.nil ?_
        refine W.condpT rfl (by omega) ?_
        refine W.seq ?_
        refine W.region ?_
        refine WL.mv rfl rfl ?_
        refine WL.shrS (c := 4294967296) rfl rfl rfl (by omega) (by decide) ?_
        refine WL.as rfl rfl ?_
        refine WL.nil ?_
        refine W.region ?_
        refine WL.as rfl rfl ?_
        refine WL.nil ?_
        refine W.seq ?_
        refine W.seq ?_
        refine W.region ?_
        refine WL.mv rfl rfl ?_
        refine WL.geq rfl rfl rfl ?_
        refine WL.nil ?_
        refine W.condpT rfl (by omega) ?_
        refine W.seq ?_
        refine W.region ?_
        refine WL.mv rfl rfl ?_
        refine WL.shrS (c := 65536) rfl rfl rfl (by omega) (by decide) ?_
        refine WL.as rfl rfl ?_
        refine WL.nil ?_
        refine W.region ?_
        refine WL.mv rfl rfl ?_
        refine WL.addK rfl rfl rfl (wrap_i64 ⟨by omega, by omega⟩) ?_
        refine WL.as rfl rfl ?_
        refine WL.nil ?_
        refine W.seq ?_
        refine W.seq ?_
        refine W.region ?_
        refine WL.mv rfl rfl ?_
        refine WL.geq rfl rfl rfl ?_
        refine WL.nil ?_
        refine W.condpT rfl (by omega) ?_
        refine W.seq ?_
        refine W.region ?_
        refine WL.mv rfl rfl ?_
        refine WL.shrS (c := 256) rfl rfl rfl (by omega) (by decide) ?_
        refine WL.as rfl rfl ?_
        refine WL.nil ?_
        refine W.region ?_
        refine WL.mv rfl rfl ?_
        refine WL.addK rfl rfl rfl (wrap_i64 ⟨by omega, by omega⟩) ?_
        refine WL.as rfl rfl ?_
        refine WL.nil ?_
        refine W.seq ?_
        refine W.region ?_
        refine WL.mv rfl rfl ?_
        refine WL.mv rfl rfl ?_
        refine WL.cvK (T := Ty) rfl rfl rfl rfl (wrap_u8 ⟨by omega, by omega⟩) ?_
        refine WL.ixT (T := Ty) (f := lenB 8) (m := 256) (by decide +kernel) rfl rfl rfl rfl rfl (by omega) (by omega) ?_
        have hb8 := lenB_up (x / 4294967296 / 65536 / 256) 8
        have et : ((x : Int) / 4294967296 / 65536 / 256).toNat = x / 4294967296 / 65536 / 256 := by omega
        rw [et]
        refine WL.cvK (T := Ty) rfl rfl rfl rfl (wrap_i64 ⟨by omega, by omega⟩) ?_
        refine WL.addK rfl rfl rfl (wrap_i64 ⟨by omega, by omega⟩) ?_
        refine WL.as rfl rfl ?_
        refine WL.nil ?_
        exact W.ret1 rfl rfl (fun h p => ⟨congrArg (Value.int .i64) (by omega), p⟩)
      · have e3 : lenB 16 (x / 4294967296 / 65536) = lenB 8 (x / 4294967296 / 65536) := lenB_more 8 8 _ (by omega)
        refine W.seq ?_
        refine W.region ?_
        refine WL.as rfl rfl ?_
        refine WL.nil ?_
        refine W.seq ?_
        refine W.seq ?_
        refine W.region ?_
        refine WL.mv rfl rfl ?_
        refine WL.geq rfl rfl rfl ?_
        refine WL.nil ?_
        refine W.condpT rfl (by omega) ?_
        refine W.seq ?_
        refine W.region ?_
        refine WL.mv rfl rfl ?_
        refine WL.shrS (c := 4294967296) rfl rfl rfl (by omega) (by decide) ?_
        refine WL.as rfl rfl ?_
        refine WL.nil ?_
        refine W.region ?_
        refine WL.as rfl rfl ?_
        refine WL.nil ?_
        refine W.seq ?_
        refine W.seq ?_
        refine W.region ?_
        refine WL.mv rfl rfl ?_
        refine WL.geq rfl rfl rfl ?_
        refine WL.nil ?_
        refine W.condpT rfl (by omega) ?_
        refine W.seq ?_
        refine W.region ?_
        refine WL.mv rfl rfl ?_
        refine WL.shrS (c := 65536) rfl rfl rfl (by omega) (by decide) ?_
        refine WL.as rfl rfl ?_
        refine WL.nil ?_
        refine W.region ?_
        refine WL.mv rfl rfl ?_
        refine WL.addK rfl rfl rfl (wrap_i64 ⟨by omega, by omega⟩) ?_
        refine WL.as rfl rfl ?_
        refine WL.nil ?_
        refine W.seq ?_
        refine W.seq ?_
        refine W.region ?_
        refine WL.mv rfl rfl ?_
        refine WL.geq rfl rfl rfl ?_
        refine WL.nil ?_
        refine W.condpF rfl (by omega) ?_
        refine W.skip ?_
        refine W.seq ?_
        refine W.region ?_
        refine WL.mv rfl rfl ?_
        refine WL.mv rfl rfl ?_
        refine WL.cvK (T := Ty) rfl rfl rfl rfl (wrap_u8 ⟨by omega, by omega⟩) ?_
        refine WL.ixT (T := Ty) (f := lenB 8) (m := 256) (by decide +kernel) rfl rfl rfl rfl rfl (by omega) (by omega) ?_
        have hb8 := lenB_up (x / 4294967296 / 65536) 8
        have et : ((x : Int) / 4294967296 / 65536).toNat = x / 4294967296 / 65536 := by omega
        rw [et]
        refine WL.cvK (T := Ty) rfl rfl rfl rfl (wrap_i64 ⟨by omega, by omega⟩) ?_
        refine WL.addK rfl rfl rfl (wrap_i64 ⟨by omega, by omega⟩) ?_
        refine WL.as rfl rfl ?_
        refine WL.nil ?_
        exact W.ret1 rfl rfl (fun h p => ⟨congrArg (Value.int .i64) (by omega), p⟩)
    · have e2 : lenB 32 (x / 4294967296) = lenB 16 (x / 4294967296) := lenB_more 16 16 _ (by omega)
      by_cases c3 : 256 ≤ x / 4294967296
      · have e3 : lenB 16 (x / 4294967296) = lenB 8 (x / 4294967296 / 256) + 8 := lenB_hi (x := x / 4294967296) 8 8 c3
        refine W.seq ?_
        refine W.region ?_
        refine WL.as rfl rfl ?_
        refine WL.nil ?_
        refine W.seq ?_
        refine W.seq ?_
        refine W.region ?_
        refine WL.mv rfl rfl ?_
        refine WL.geq rfl rfl rfl ?_
        refine WL.nil ?_
        refine W.condpT rfl (by omega) ?_
        refine W.seq ?_
        refine W.region ?_
        refine WL.mv rfl rfl ?_
        refine WL.shrS (c := 4294967296) rfl rfl rfl (by omega) (by decide) ?_
        refine WL.as rfl rfl ?_
        refine WL.nil ?_
        refine W.region ?_
        refine WL.as rfl rfl ?_
        refine WL.nil ?_
        refine W.seq ?_
        refine W.seq ?_
        refine W.region ?_
        refine WL.mv rfl rfl ?_
        refine WL.geq rfl rfl rfl ?_
        refine WL.nil ?_
        refine W.condpF rfl (by omega) ?_
        refine W.skip ?_
        refine W.seq ?_
        refine W.seq ?_
        refine W.region ?_
        refine WL.mv rfl rfl ?_
        refine WL.geq rfl rfl rfl ?_
        refine WL.nil ?_
        refine W.condpT rfl (by omega) ?_
        refine W.seq ?_
        refine W.region ?_
        refine WL.mv rfl rfl ?_
        refine WL.shrS (c := 256) rfl rfl rfl (by omega) (by decide) ?_
        refine WL.as rfl rfl ?_
        refine WL.nil ?_
        refine W.region ?_
        refine WL.mv rfl rfl ?_
        refine WL.addK rfl rfl rfl (wrap_i64 ⟨by omega, by omega⟩) ?_
        refine WL.as rfl rfl ?_
        refine WL.nil ?_
        refine W.seq ?_
        refine W.region ?_
        refine WL.mv rfl rfl ?_
        refine WL.mv rfl rfl ?_
        refine WL.cvK (T := Ty) rfl rfl rfl rfl (wrap_u8 ⟨by omega, by omega⟩) ?_
        refine WL.ixT (T := Ty) (f := lenB 8) (m := 256) (by decide +kernel) rfl rfl rfl rfl rfl (by omega) (by omega) ?_
        have hb8 := lenB_up (x / 4294967296 / 256) 8
        have et : ((x : Int) / 4294967296 / 256).toNat = x / 4294967296 / 256 := by omega
        rw [et]
        refine WL.cvK (T := Ty) rfl rfl rfl rfl (wrap_i64 ⟨by omega, by omega⟩) ?_
        refine WL.addK rfl rfl rfl (wrap_i64 ⟨by omega, by omega⟩) ?_
        refine WL.as rfl rfl ?_
        refine WL.nil ?_
        exact W.ret1 rfl rfl (fun h p => ⟨congrArg (Value.int .i64) (by omega), p⟩)
      · have e3 : lenB 16 (x / 4294967296) = lenB 8 (x / 4294967296) := lenB_more 8 8 _ (by omega)
        refine W.seq ?_
        refine W.region ?_
        refine WL.as rfl rfl ?_
        refine WL.nil ?_
        refine W.seq ?_
        refine W.seq ?_
        refine W.region ?_
        refine WL.mv rfl rfl ?_
        refine WL.geq rfl rfl rfl ?_
        refine WL.nil ?_
        refine W.condpT rfl (by omega) ?_
        refine W.seq ?_
        refine W.region ?_
        refine WL.mv rfl rfl ?_
        refine WL.shrS (c := 4294967296) rfl rfl rfl (by omega) (by decide) ?_
        refine WL.as rfl rfl ?_
        refine WL.nil ?_
        refine W.region ?_
        refine WL.as rfl rfl ?_
        refine WL.nil ?_
        refine W.seq ?_
        refine W.seq ?_
        refine W.region ?_
        refine WL.mv rfl rfl ?_
        refine WL.geq rfl rfl rfl ?_
        refine WL.nil ?_
        refine W.condpF rfl (by omega) ?_
        refine W.skip ?_
        refine W.seq ?_
        refine W.seq ?_
        refine W.region ?_
        refine WL.mv rfl rfl ?_
        refine WL.geq rfl rfl rfl ?_
        refine WL.nil ?_
        refine W.condpF rfl (by omega) ?_
        refine W.skip ?_
        refine W.seq ?_
        refine W.region ?_
        refine WL.mv rfl rfl ?_
        refine WL.mv rfl rfl ?_
        refine WL.cvK (T := Ty) rfl rfl rfl rfl (wrap_u8 ⟨by omega, by omega⟩) ?_
        refine WL.ixT (T := Ty) (f := lenB 8) (m := 256) (by decide +kernel) rfl rfl rfl rfl rfl (by omega) (by omega) ?_
        have hb8 := lenB_up (x / 4294967296) 8
        have et : ((x : Int) / 4294967296).toNat = x / 4294967296 := by omega
        rw [et]
        refine WL.cvK (T := Ty) rfl rfl rfl rfl (wrap_i64 ⟨by omega, by omega⟩) ?_
        refine WL.addK rfl rfl rfl (wrap_i64 ⟨by omega, by omega⟩) ?_
        refine WL.as rfl rfl ?_
        refine WL.nil ?_
        exact W.ret1 rfl rfl (fun h p => ⟨congrArg (Value.int .i64) (by omega), p⟩)
  · have e1 : lenB 64 (x) = lenB 32 (x) := lenB_more 32 32 _ (by omega)
    by_cases c2 : 65536 ≤ x
    · have e2 : lenB 32 (x) = lenB 16 (x / 65536) + 16 := lenB_hi (x := x) 16 16 c2
      by_cases c3 : 256 ≤ x / 65536
      · have e3 : lenB 16 (x / 65536) = lenB 8 (x / 65536 / 256) + 8 := lenB_hi (x := x / 65536) 8 8 c3
        refine W.seq ?_
        refine W.region ?_
        refine WL.as rfl rfl ?_
        refine WL.nil ?_
        refine W.seq ?_
        refine W.seq ?_
        refine W.region ?_
        refine WL.mv rfl rfl ?_
        refine WL.geq rfl rfl rfl ?_
        refine WL.nil ?_
        refine W.condpF rfl (by omega) ?_
        refine W.skip ?_
        refine W.seq ?_
        refine W.seq ?_
        refine W.region ?_
        refine WL.mv rfl rfl ?_
        refine WL.geq rfl rfl rfl ?_
        refine WL.nil ?_
        refine W.condpT rfl (by omega) ?_
        refine W.seq ?_
        refine W.region ?_
        refine WL.mv rfl rfl ?_
        refine WL.shrS (c := 65536) rfl rfl rfl (by omega) (by decide) ?_
        refine WL.as rfl rfl ?_
        refine WL.nil ?_
        refine W.region ?_
        refine WL.mv rfl rfl ?_
        refine WL.addK rfl rfl rfl (wrap_i64 ⟨by omega, by omega⟩) ?_
        refine WL.as rfl rfl ?_
        refine WL.nil ?_
        refine W.seq ?_
        refine W.seq ?_
        refine W.region ?_
        refine WL.mv rfl rfl ?_
        refine WL.geq rfl rfl rfl ?_
        refine WL.nil ?_
        refine W.condpT rfl (by omega) ?_
        refine W.seq ?_
        refine W.region ?_
        refine WL.mv rfl rfl ?_
        refine WL.shrS (c := 256) rfl rfl rfl (by omega) (by decide) ?_
        refine WL.as rfl rfl ?_
        refine WL.nil ?_
        refine W.region ?_
        refine WL.mv rfl rfl ?_
        refine WL.addK rfl rfl rfl (wrap_i64 ⟨by omega, by omega⟩) ?_
        refine WL.as rfl rfl ?_
        refine WL.nil ?_
        refine W.seq ?_
        refine W.region ?_
        refine WL.mv rfl rfl ?_
        refine WL.mv rfl rfl ?_
        refine WL.cvK (T := Ty) rfl rfl rfl rfl (wrap_u8 ⟨by omega, by omega⟩) ?_
        refine WL.ixT (T := Ty) (f := lenB 8) (m := 256) (by decide +kernel) rfl rfl rfl rfl rfl (by omega) (by omega) ?_
        have hb8 := lenB_up (x / 65536 / 256) 8
        have et : ((x : Int) / 65536 / 256).toNat = x / 65536 / 256 := by omega
        rw [et]
        refine WL.cvK (T := Ty) rfl rfl rfl rfl (wrap_i64 ⟨by omega, by omega⟩) ?_
        refine WL.addK rfl rfl rfl (wrap_i64 ⟨by omega, by omega⟩) ?_
        refine WL.as rfl rfl ?_
        refine WL.nil ?_
        exact W.ret1 rfl rfl (fun h p => ⟨congrArg (Value.int .i64) (by omega), p⟩)
      · have e3 : lenB 16 (x / 65536) = lenB 8 (x / 65536) := lenB_more 8 8 _ (by omega)
        refine W.seq ?_
        refine W.region ?_
        refine WL.as rfl rfl ?_
        refine WL.nil ?_
        refine W.seq ?_
        refine W.seq ?_
        refine W.region ?_
        refine WL.mv rfl rfl ?_
        refine WL.geq rfl rfl rfl ?_
        refine WL.nil ?_
        refine W.condpF rfl (by omega) ?_
        refine W.skip ?_
        refine W.seq ?_
        refine W.seq ?_
        refine W.region ?_
        refine WL.mv rfl rfl ?_
        refine WL.geq rfl rfl rfl ?_
        refine WL.nil ?_
        refine W.condpT rfl (by omega) ?_
        refine W.seq ?_
        refine W.region ?_
        refine WL.mv rfl rfl ?_
        refine WL.shrS (c := 65536) rfl rfl rfl (by omega) (by decide) ?_
        refine WL.as rfl rfl ?_
        refine WL.nil ?_
        refine W.region ?_
        refine WL.mv rfl rfl ?_
        refine WL.addK rfl rfl rfl (wrap_i64 ⟨by omega, by omega⟩) ?_
        refine WL.as rfl rfl ?_
        refine WL.nil ?_
        refine W.seq ?_
        refine W.seq ?_
        refine W.region ?_
        refine WL.mv rfl rfl ?_
        refine WL.geq rfl rfl rfl ?_
        refine WL.nil ?_
        refine W.condpF rfl (by omega) ?_
        refine W.skip ?_
        refine W.seq ?_
        refine W.region ?_
        refine WL.mv rfl rfl ?_
        refine WL.mv rfl rfl ?_
        refine WL.cvK (T := Ty) rfl rfl rfl rfl (wrap_u8 ⟨by omega, by omega⟩) ?_
        refine WL.ixT (T := Ty) (f := lenB 8) (m := 256) (by decide +kernel) rfl rfl rfl rfl rfl (by omega) (by omega) ?_
        have hb8 := lenB_up (x / 65536) 8
        have et : ((x : Int) / 65536).toNat = x / 65536 := by omega
        rw [et]
        refine WL.cvK (T := Ty) rfl rfl rfl rfl (wrap_i64 ⟨by omega, by omega⟩) ?_
        refine WL.addK rfl rfl rfl (wrap_i64 ⟨by omega, by omega⟩) ?_
        refine WL.as rfl rfl ?_
        refine WL.nil ?_
        exact W.ret1 rfl rfl (fun h p => ⟨congrArg (Value.int .i64) (by omega), p⟩)
    · have e2 : lenB 32 (x) = lenB 16 (x) := lenB_more 16 16 _ (by omega)
      by_cases c3 : 256 ≤ x
      · have e3 : lenB 16 (x) = lenB 8 (x / 256) + 8 := lenB_hi (x := x) 8 8 c3
        refine W.seq ?_
        refine W.region ?_
        refine WL.as rfl rfl ?_
        refine WL.nil ?_
        refine W.seq ?_
        refine W.seq ?_
        refine W.region ?_
        refine WL.mv rfl rfl ?_
        refine WL.geq rfl rfl rfl ?_
        refine WL.nil ?_
        refine W.condpF rfl (by omega) ?_
        refine W.skip ?_
        refine W.seq ?_
        refine W.seq ?_
        refine W.region ?_
        refine WL.mv rfl rfl ?_
        refine WL.geq rfl rfl rfl ?_
        refine WL.nil ?_
        refine W.condpF rfl (by omega) ?_
        refine W.skip ?_
        refine W.seq ?_
        refine W.seq ?_
        refine W.region ?_
        refine WL.mv rfl rfl ?_
        refine WL.geq rfl rfl rfl ?_
        refine WL.nil ?_
        refine W.condpT rfl (by omega) ?_
        refine W.seq ?_
        refine W.region ?_
        refine WL.mv rfl rfl ?_
        refine WL.shrS (c := 256) rfl rfl rfl (by omega) (by decide) ?_
        refine WL.as rfl rfl ?_
        refine WL.nil ?_
        refine W.region ?_
        refine WL.mv rfl rfl ?_
        refine WL.addK rfl rfl rfl (wrap_i64 ⟨by omega, by omega⟩) ?_
        refine WL.as rfl rfl ?_
        refine WL.nil ?_
        refine W.seq ?_
        refine W.region ?_
        refine WL.mv rfl rfl ?_
        refine WL.mv rfl rfl ?_
        refine WL.cvK (T := Ty) rfl rfl rfl rfl (wrap_u8 ⟨by omega, by omega⟩) ?_
        refine WL.ixT (T := Ty) (f := lenB 8) (m := 256) (by decide +kernel) rfl rfl rfl rfl rfl (by omega) (by omega) ?_
        have hb8 := lenB_up (x / 256) 8
        have et : ((x : Int) / 256).toNat = x / 256 := by omega
        rw [et]
        refine WL.cvK (T := Ty) rfl rfl rfl rfl (wrap_i64 ⟨by omega, by omega⟩) ?_
        refine WL.addK rfl rfl rfl (wrap_i64 ⟨by omega, by omega⟩) ?_
        refine WL.as rfl rfl ?_
        refine WL.nil ?_
        exact W.ret1 rfl rfl (fun h p => ⟨congrArg (Value.int .i64) (by omega), p⟩)
      · have e3 : lenB 16 (x) = lenB 8 (x) := lenB_more 8 8 _ (by omega)
        refine W.seq ?_
        refine W.region ?_
        refine WL.as rfl rfl ?_
        refine WL.nil ?_
        refine W.seq ?_
        refine W.seq ?_
        refine W.region ?_
        refine WL.mv rfl rfl ?_
        refine WL.geq rfl rfl rfl ?_
        refine WL.nil ?_
        refine W.condpF rfl (by omega) ?_
        refine W.skip ?_
        refine W.seq ?_
        refine W.seq ?_
        refine W.region ?_
        refine WL.mv rfl rfl ?_
        refine WL.geq rfl rfl rfl ?_
        refine WL.nil ?_
        refine W.condpF rfl (by omega) ?_
        refine W.skip ?_
        refine W.seq ?_
        refine W.seq ?_
        refine W.region ?_
        refine WL.mv rfl rfl ?_
        refine WL.geq rfl rfl rfl ?_
        refine WL.nil ?_
        refine W.condpF rfl (by omega) ?_
        refine W.skip ?_
        refine W.seq ?_
        refine W.region ?_
        refine WL.mv rfl rfl ?_
        refine WL.mv rfl rfl ?_
        refine WL.cvK (T := Ty) rfl rfl rfl rfl (wrap_u8 ⟨by omega, by omega⟩) ?_
        refine WL.ixT (T := Ty) (f := lenB 8) (m := 256) (by decide +kernel) rfl rfl rfl rfl rfl (by omega) (by omega) ?_
        have hb8 := lenB_up (x) 8
        have et : ((x : Int)).toNat = x := by omega
        rw [et]
        refine WL.cvK (T := Ty) rfl rfl rfl rfl (wrap_i64 ⟨by omega, by omega⟩) ?_
        refine WL.addK rfl rfl rfl (wrap_i64 ⟨by omega, by omega⟩) ?_
        refine WL.as rfl rfl ?_
        refine WL.nil ?_
        exact W.ret1 rfl rfl (fun h p => ⟨congrArg (Value.int .i64) (by omega), p⟩)
end Go.Proofs.Ytjibmfkhhljhcaa
