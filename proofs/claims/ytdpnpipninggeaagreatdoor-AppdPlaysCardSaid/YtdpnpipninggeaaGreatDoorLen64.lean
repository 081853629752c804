/- How many bits a number has: what math/bits.Len64 does. -/
import Derived.Test.YtdpnpipninggeaaGreatDoorStc
import Derived.Test.YtdpnpipninggeaaGreatDoorNum
import Derived.Test.YtdpnpipninggeaaGreatDoorTab
import Derived.Test.YtdpnpipninggeaaGreatDoorBitsLaw
import Derived.Test.YtdpnpipninggeaaGreatDoorBits
set_option linter.unusedSimpArgs false
set_option linter.unusedVariables false
set_option maxRecDepth 20000
set_option maxHeartbeats 4000000
namespace Go.Proofs.YtdpnpipninggeaaGreatDoor
open Go
attribute [local irreducible] W WL Fn Buf ROs SL eptr box Rd Src bndOK WD RB Reads In

theorem len64_c (ρ : Hp) (x : Nat) (hx : x < 18446744073709551616) : Fn Tryz.prog 81 #[.int .u64 (x : Int)] ρ [] (Just (.int .i64 (lenB 64 x : Int))) := by
  refine in81 rfl rfl ?_
  by_cases c1 : 4294967296 ≤ x
  · have e1 : lenB 64 (x) = lenB 32 (x / 4294967296) + 32 := lenB_hi (x := x) 32 32 c1
    by_cases c2 : 65536 ≤ x / 4294967296
    · have e2 : lenB 32 (x / 4294967296) = lenB 16 (x / 4294967296 / 65536) + 16 := lenB_hi (x := x / 4294967296) 16 16 c2
      by_cases c3 : 256 ≤ x / 4294967296 / 65536
      · have e3 : lenB 16 (x / 4294967296 / 65536) = lenB 8 (x / 4294967296 / 65536 / 256) + 8 := lenB_hi (x := x / 4294967296 / 65536) 8 8 c3
        refine W.seq (W.region (WL.as rfl rfl (WL.nil (W.seq (W.seq (W.region (WL.mv rfl rfl (WL.geq rfl rfl rfl (WL.nil (W.condpT rfl (by omega) (W.seq (W.region (WL.mv rfl rfl ?_)))))))))))))
        refine WL.shrS (c := 4294967296) rfl rfl rfl (by omega) (by decide) (WL.as rfl rfl (WL.nil (W.region (WL.as rfl rfl (WL.nil (W.seq (W.seq (W.region (WL.mv rfl rfl (WL.geq rfl rfl rfl (WL.nil (W.condpT rfl (by omega) (W.seq ?_)))))))))))))
        refine W.region (WL.mv rfl rfl (WL.shrS (c := 65536) rfl rfl rfl (by omega) (by decide) (WL.as rfl rfl (WL.nil (W.region (WL.mv rfl rfl (WL.addK rfl rfl rfl (wrap_i64 ⟨by omega, by omega⟩) (WL.as rfl rfl (WL.nil (W.seq (W.seq (W.region (WL.mv rfl rfl ?_)))))))))))))
        refine WL.geq rfl rfl rfl (WL.nil (W.condpT rfl (by omega) (W.seq (W.region (WL.mv rfl rfl (WL.shrS (c := 256) rfl rfl rfl (by omega) (by decide) (WL.as rfl rfl (WL.nil (W.region (WL.mv rfl rfl (WL.addK rfl rfl rfl (wrap_i64 ⟨by omega, by omega⟩) (WL.as rfl rfl (WL.nil ?_)))))))))))))
        refine W.seq (W.region (WL.mv rfl rfl (WL.mv rfl rfl (WL.cvK (T := Ty) rfl rfl rfl rfl (wrap_u8 ⟨by omega, by omega⟩) (WL.ixT (T := Ty) (f := lenB 8) (m := 256) (by decide +kernel) rfl rfl rfl rfl rfl (by omega) (by omega) ?_)))))
        have hb8 := lenB_up (x / 4294967296 / 65536 / 256) 8
        have et : ((x : Int) / 4294967296 / 65536 / 256).toNat = x / 4294967296 / 65536 / 256 := by omega
        rw [et]
        refine WL.cvK (T := Ty) rfl rfl rfl rfl (wrap_i64 ⟨by omega, by omega⟩) (WL.addK rfl rfl rfl (wrap_i64 ⟨by omega, by omega⟩) (WL.as rfl rfl (WL.nil ?_)))
        exact W.ret1 rfl rfl (fun h p => ⟨congrArg (Value.int .i64) (by omega), p⟩)
      · have e3 : lenB 16 (x / 4294967296 / 65536) = lenB 8 (x / 4294967296 / 65536) := lenB_more 8 8 _ (by omega)
        refine W.seq (W.region (WL.as rfl rfl (WL.nil (W.seq (W.seq (W.region (WL.mv rfl rfl (WL.geq rfl rfl rfl (WL.nil (W.condpT rfl (by omega) (W.seq (W.region (WL.mv rfl rfl ?_)))))))))))))
        refine WL.shrS (c := 4294967296) rfl rfl rfl (by omega) (by decide) (WL.as rfl rfl (WL.nil (W.region (WL.as rfl rfl (WL.nil (W.seq (W.seq (W.region (WL.mv rfl rfl (WL.geq rfl rfl rfl (WL.nil (W.condpT rfl (by omega) (W.seq ?_)))))))))))))
        refine W.region (WL.mv rfl rfl (WL.shrS (c := 65536) rfl rfl rfl (by omega) (by decide) (WL.as rfl rfl (WL.nil (W.region (WL.mv rfl rfl (WL.addK rfl rfl rfl (wrap_i64 ⟨by omega, by omega⟩) (WL.as rfl rfl (WL.nil (W.seq (W.seq (W.region (WL.mv rfl rfl ?_)))))))))))))
        refine WL.geq rfl rfl rfl (WL.nil (W.condpF rfl (by omega) (W.skip (W.seq (W.region (WL.mv rfl rfl (WL.mv rfl rfl (WL.cvK (T := Ty) rfl rfl rfl rfl (wrap_u8 ⟨by omega, by omega⟩) (WL.ixT (T := Ty) (f := lenB 8) (m := 256) (by decide +kernel) rfl rfl rfl rfl rfl (by omega) (by omega) ?_)))))))))
        have hb8 := lenB_up (x / 4294967296 / 65536) 8
        have et : ((x : Int) / 4294967296 / 65536).toNat = x / 4294967296 / 65536 := by omega
        rw [et]
        refine WL.cvK (T := Ty) rfl rfl rfl rfl (wrap_i64 ⟨by omega, by omega⟩) (WL.addK rfl rfl rfl (wrap_i64 ⟨by omega, by omega⟩) (WL.as rfl rfl (WL.nil ?_)))
        exact W.ret1 rfl rfl (fun h p => ⟨congrArg (Value.int .i64) (by omega), p⟩)
    · have e2 : lenB 32 (x / 4294967296) = lenB 16 (x / 4294967296) := lenB_more 16 16 _ (by omega)
      by_cases c3 : 256 ≤ x / 4294967296
      · have e3 : lenB 16 (x / 4294967296) = lenB 8 (x / 4294967296 / 256) + 8 := lenB_hi (x := x / 4294967296) 8 8 c3
        refine W.seq (W.region (WL.as rfl rfl (WL.nil (W.seq (W.seq (W.region (WL.mv rfl rfl (WL.geq rfl rfl rfl (WL.nil (W.condpT rfl (by omega) (W.seq (W.region (WL.mv rfl rfl ?_)))))))))))))
        refine WL.shrS (c := 4294967296) rfl rfl rfl (by omega) (by decide) (WL.as rfl rfl (WL.nil (W.region (WL.as rfl rfl (WL.nil (W.seq (W.seq (W.region (WL.mv rfl rfl (WL.geq rfl rfl rfl (WL.nil (W.condpF rfl (by omega) (W.skip ?_)))))))))))))
        refine W.seq (W.seq (W.region (WL.mv rfl rfl (WL.geq rfl rfl rfl (WL.nil (W.condpT rfl (by omega) (W.seq (W.region (WL.mv rfl rfl (WL.shrS (c := 256) rfl rfl rfl (by omega) (by decide) (WL.as rfl rfl (WL.nil (W.region ?_)))))))))))))
        refine WL.mv rfl rfl (WL.addK rfl rfl rfl (wrap_i64 ⟨by omega, by omega⟩) (WL.as rfl rfl (WL.nil (W.seq (W.region (WL.mv rfl rfl (WL.mv rfl rfl (WL.cvK (T := Ty) rfl rfl rfl rfl (wrap_u8 ⟨by omega, by omega⟩) (WL.ixT (T := Ty) (f := lenB 8) (m := 256) (by decide +kernel) rfl rfl rfl rfl rfl (by omega) (by omega) ?_)))))))))
        have hb8 := lenB_up (x / 4294967296 / 256) 8
        have et : ((x : Int) / 4294967296 / 256).toNat = x / 4294967296 / 256 := by omega
        rw [et]
        refine WL.cvK (T := Ty) rfl rfl rfl rfl (wrap_i64 ⟨by omega, by omega⟩) (WL.addK rfl rfl rfl (wrap_i64 ⟨by omega, by omega⟩) (WL.as rfl rfl (WL.nil ?_)))
        exact W.ret1 rfl rfl (fun h p => ⟨congrArg (Value.int .i64) (by omega), p⟩)
      · have e3 : lenB 16 (x / 4294967296) = lenB 8 (x / 4294967296) := lenB_more 8 8 _ (by omega)
        refine W.seq (W.region (WL.as rfl rfl (WL.nil (W.seq (W.seq (W.region (WL.mv rfl rfl (WL.geq rfl rfl rfl (WL.nil (W.condpT rfl (by omega) (W.seq (W.region (WL.mv rfl rfl ?_)))))))))))))
        refine WL.shrS (c := 4294967296) rfl rfl rfl (by omega) (by decide) (WL.as rfl rfl (WL.nil (W.region (WL.as rfl rfl (WL.nil (W.seq (W.seq (W.region (WL.mv rfl rfl (WL.geq rfl rfl rfl (WL.nil (W.condpF rfl (by omega) (W.skip ?_)))))))))))))
        refine W.seq (W.seq (W.region (WL.mv rfl rfl (WL.geq rfl rfl rfl (WL.nil (W.condpF rfl (by omega) (W.skip (W.seq (W.region (WL.mv rfl rfl (WL.mv rfl rfl (WL.cvK (T := Ty) rfl rfl rfl rfl (wrap_u8 ⟨by omega, by omega⟩) (WL.ixT (T := Ty) (f := lenB 8) (m := 256) (by decide +kernel) rfl rfl rfl rfl rfl (by omega) (by omega) ?_)))))))))))))
        have hb8 := lenB_up (x / 4294967296) 8
        have et : ((x : Int) / 4294967296).toNat = x / 4294967296 := by omega
        rw [et]
        refine WL.cvK (T := Ty) rfl rfl rfl rfl (wrap_i64 ⟨by omega, by omega⟩) (WL.addK rfl rfl rfl (wrap_i64 ⟨by omega, by omega⟩) (WL.as rfl rfl (WL.nil ?_)))
        exact W.ret1 rfl rfl (fun h p => ⟨congrArg (Value.int .i64) (by omega), p⟩)
  · have e1 : lenB 64 (x) = lenB 32 (x) := lenB_more 32 32 _ (by omega)
    by_cases c2 : 65536 ≤ x
    · have e2 : lenB 32 (x) = lenB 16 (x / 65536) + 16 := lenB_hi (x := x) 16 16 c2
      by_cases c3 : 256 ≤ x / 65536
      · have e3 : lenB 16 (x / 65536) = lenB 8 (x / 65536 / 256) + 8 := lenB_hi (x := x / 65536) 8 8 c3
        refine W.seq (W.region (WL.as rfl rfl (WL.nil (W.seq (W.seq (W.region (WL.mv rfl rfl (WL.geq rfl rfl rfl (WL.nil (W.condpF rfl (by omega) (W.skip (W.seq (W.seq ?_)))))))))))))
        refine W.region (WL.mv rfl rfl (WL.geq rfl rfl rfl (WL.nil (W.condpT rfl (by omega) (W.seq (W.region (WL.mv rfl rfl (WL.shrS (c := 65536) rfl rfl rfl (by omega) (by decide) (WL.as rfl rfl (WL.nil (W.region (WL.mv rfl rfl (WL.addK rfl rfl rfl (wrap_i64 ⟨by omega, by omega⟩) ?_)))))))))))))
        refine WL.as rfl rfl (WL.nil (W.seq (W.seq (W.region (WL.mv rfl rfl (WL.geq rfl rfl rfl (WL.nil (W.condpT rfl (by omega) (W.seq (W.region (WL.mv rfl rfl (WL.shrS (c := 256) rfl rfl rfl (by omega) (by decide) (WL.as rfl rfl ?_)))))))))))))
        refine WL.nil (W.region (WL.mv rfl rfl (WL.addK rfl rfl rfl (wrap_i64 ⟨by omega, by omega⟩) (WL.as rfl rfl (WL.nil (W.seq (W.region (WL.mv rfl rfl (WL.mv rfl rfl (WL.cvK (T := Ty) rfl rfl rfl rfl (wrap_u8 ⟨by omega, by omega⟩) (WL.ixT (T := Ty) (f := lenB 8) (m := 256) (by decide +kernel) rfl rfl rfl rfl rfl (by omega) (by omega) ?_)))))))))))
        have hb8 := lenB_up (x / 65536 / 256) 8
        have et : ((x : Int) / 65536 / 256).toNat = x / 65536 / 256 := by omega
        rw [et]
        refine WL.cvK (T := Ty) rfl rfl rfl rfl (wrap_i64 ⟨by omega, by omega⟩) (WL.addK rfl rfl rfl (wrap_i64 ⟨by omega, by omega⟩) (WL.as rfl rfl (WL.nil ?_)))
        exact W.ret1 rfl rfl (fun h p => ⟨congrArg (Value.int .i64) (by omega), p⟩)
      · have e3 : lenB 16 (x / 65536) = lenB 8 (x / 65536) := lenB_more 8 8 _ (by omega)
        refine W.seq (W.region (WL.as rfl rfl (WL.nil (W.seq (W.seq (W.region (WL.mv rfl rfl (WL.geq rfl rfl rfl (WL.nil (W.condpF rfl (by omega) (W.skip (W.seq (W.seq ?_)))))))))))))
        refine W.region (WL.mv rfl rfl (WL.geq rfl rfl rfl (WL.nil (W.condpT rfl (by omega) (W.seq (W.region (WL.mv rfl rfl (WL.shrS (c := 65536) rfl rfl rfl (by omega) (by decide) (WL.as rfl rfl (WL.nil (W.region (WL.mv rfl rfl (WL.addK rfl rfl rfl (wrap_i64 ⟨by omega, by omega⟩) ?_)))))))))))))
        refine WL.as rfl rfl (WL.nil (W.seq (W.seq (W.region (WL.mv rfl rfl (WL.geq rfl rfl rfl (WL.nil (W.condpF rfl (by omega) (W.skip (W.seq (W.region (WL.mv rfl rfl (WL.mv rfl rfl ?_)))))))))))))
        refine WL.cvK (T := Ty) rfl rfl rfl rfl (wrap_u8 ⟨by omega, by omega⟩) (WL.ixT (T := Ty) (f := lenB 8) (m := 256) (by decide +kernel) rfl rfl rfl rfl rfl (by omega) (by omega) ?_)
        have hb8 := lenB_up (x / 65536) 8
        have et : ((x : Int) / 65536).toNat = x / 65536 := by omega
        rw [et]
        refine WL.cvK (T := Ty) rfl rfl rfl rfl (wrap_i64 ⟨by omega, by omega⟩) (WL.addK rfl rfl rfl (wrap_i64 ⟨by omega, by omega⟩) (WL.as rfl rfl (WL.nil ?_)))
        exact W.ret1 rfl rfl (fun h p => ⟨congrArg (Value.int .i64) (by omega), p⟩)
    · have e2 : lenB 32 (x) = lenB 16 (x) := lenB_more 16 16 _ (by omega)
      by_cases c3 : 256 ≤ x
      · have e3 : lenB 16 (x) = lenB 8 (x / 256) + 8 := lenB_hi (x := x) 8 8 c3
        refine W.seq (W.region (WL.as rfl rfl (WL.nil (W.seq (W.seq (W.region (WL.mv rfl rfl (WL.geq rfl rfl rfl (WL.nil (W.condpF rfl (by omega) (W.skip (W.seq (W.seq ?_)))))))))))))
        refine W.region (WL.mv rfl rfl (WL.geq rfl rfl rfl (WL.nil (W.condpF rfl (by omega) (W.skip (W.seq (W.seq (W.region (WL.mv rfl rfl (WL.geq rfl rfl rfl (WL.nil (W.condpT rfl (by omega) (W.seq ?_)))))))))))))
        refine W.region (WL.mv rfl rfl (WL.shrS (c := 256) rfl rfl rfl (by omega) (by decide) (WL.as rfl rfl (WL.nil (W.region (WL.mv rfl rfl (WL.addK rfl rfl rfl (wrap_i64 ⟨by omega, by omega⟩) (WL.as rfl rfl (WL.nil (W.seq (W.region (WL.mv rfl rfl (WL.mv rfl rfl ?_)))))))))))))
        refine WL.cvK (T := Ty) rfl rfl rfl rfl (wrap_u8 ⟨by omega, by omega⟩) (WL.ixT (T := Ty) (f := lenB 8) (m := 256) (by decide +kernel) rfl rfl rfl rfl rfl (by omega) (by omega) ?_)
        have hb8 := lenB_up (x / 256) 8
        have et : ((x : Int) / 256).toNat = x / 256 := by omega
        rw [et]
        refine WL.cvK (T := Ty) rfl rfl rfl rfl (wrap_i64 ⟨by omega, by omega⟩) (WL.addK rfl rfl rfl (wrap_i64 ⟨by omega, by omega⟩) (WL.as rfl rfl (WL.nil ?_)))
        exact W.ret1 rfl rfl (fun h p => ⟨congrArg (Value.int .i64) (by omega), p⟩)
      · have e3 : lenB 16 (x) = lenB 8 (x) := lenB_more 8 8 _ (by omega)
        refine W.seq (W.region (WL.as rfl rfl (WL.nil (W.seq (W.seq (W.region (WL.mv rfl rfl (WL.geq rfl rfl rfl (WL.nil (W.condpF rfl (by omega) (W.skip (W.seq (W.seq ?_)))))))))))))
        refine W.region (WL.mv rfl rfl (WL.geq rfl rfl rfl (WL.nil (W.condpF rfl (by omega) (W.skip (W.seq (W.seq (W.region (WL.mv rfl rfl (WL.geq rfl rfl rfl (WL.nil (W.condpF rfl (by omega) (W.skip ?_)))))))))))))
        refine W.seq (W.region (WL.mv rfl rfl (WL.mv rfl rfl (WL.cvK (T := Ty) rfl rfl rfl rfl (wrap_u8 ⟨by omega, by omega⟩) (WL.ixT (T := Ty) (f := lenB 8) (m := 256) (by decide +kernel) rfl rfl rfl rfl rfl (by omega) (by omega) ?_)))))
        have hb8 := lenB_up (x) 8
        have et : ((x : Int)).toNat = x := by omega
        rw [et]
        refine WL.cvK (T := Ty) rfl rfl rfl rfl (wrap_i64 ⟨by omega, by omega⟩) (WL.addK rfl rfl rfl (wrap_i64 ⟨by omega, by omega⟩) (WL.as rfl rfl (WL.nil ?_)))
        exact W.ret1 rfl rfl (fun h p => ⟨congrArg (Value.int .i64) (by omega), p⟩)
end Go.Proofs.YtdpnpipninggeaaGreatDoor
/- math/bits.Len64 of a number that is told as a whole one. -/
set_option linter.unusedSimpArgs false
set_option linter.unusedVariables false
namespace Go.Proofs.YtdpnpipninggeaaGreatDoor
open Go
end Go.Proofs.YtdpnpipninggeaaGreatDoor

/- math/bits.TrailingZeros64, LeadingZeros64: what they do, where the library's table stands as its text lays it. -/
set_option linter.unusedSimpArgs false
set_option linter.unusedVariables false
set_option maxRecDepth 20000
set_option maxHeartbeats 4000000
namespace Go.Proofs.YtdpnpipninggeaaGreatDoor
open Go
attribute [local irreducible] W WL Fn Buf ROs SL eptr box Rd Src bndOK WD RB Reads In

/-- the library's table, as its text lays it -/
def TabG (ρ : Hp) : Prop := ∃ buf T fr, ρ 0 = some (.cells buf T fr) ∧ ∀ j, j < 64 → buf[j]? = some (.int .u8 ((Lib.deBruijn64tab.getD j 0 : Nat) : Int))
theorem TabG.mono {ρ ρ' : Hp} (h : TabG ρ) (le : ∀ b o, ρ b = some o → ρ' b = some o) : TabG ρ' := by
  obtain ⟨buf, T, fr, hb, hc⟩ := h
  exact ⟨buf, T, fr, le _ _ hb, hc⟩
theorem TabG.wide {ρ x : Hp} (h : TabG ρ) : TabG (join ρ x) := h.mono (fun _ _ q => join_left q)
section
variable {P : Program} {T : Tab P} {fn : Func} {ρ : Hp} {md : Bool} {X : World → Hp → Act → World → Prop} {env : Env} {Hs : List HP} {ops : Array Oper} {l : List Oper}
variable {d : Tmp} {ty : TypeId} {pos : String} {aft : Array Edge}
theorem WL.ldG {x : Operand} {t : TypeId} {b off : Nat} {v : Value} {ti : TyI} (hn : Nat.ble (d + 1) fn.ntmps = true) (hx : ev env x = some (.pointer (some ⟨b, off, none⟩)))
    (ht : T.tt t = some ti) (h1 : oneCellT ti.desc = true) (hR : ∃ buf T fr, ρ b = some (.cells buf T fr) ∧ buf[off]? = some v)
    (h : WL md P fn ρ X ops l ((d, v) :: env) Hs) : WL md P fn ρ X ops (⟨some d, .load t x, ty, pos, aft, none⟩ :: l) env Hs :=
  .rdR rfl rfl hn (fun f w hr e => by
    obtain ⟨buf, T', fr, hb, hc⟩ := hR
    have hcell : w.cell? ⟨b, off, none⟩ = some v := by simp [World.cell?, hr b _ hb, hc]
    simp [execOp, e _ _ hx, Instr.loadAt, Instr.sureAddr, load1 ht h1 hcell]) h
end
theorem tz_key (x : Nat) (hx : x < 18446744073709551616) (hx0 : x ≠ 0) :
    IntKind.u64.wrap (bits .and .u64 (x : Int) (IntKind.u64.wrap (-(x : Int))) * 285870213051353865) / 288230376151711744 = ((2 ^ tzX x * 285870213051353865 % 18446744073709551616 / 288230376151711744 : Nat) : Int) := by
  have e1 : IntKind.u64.wrap (-(x : Int)) = ((18446744073709551616 - x : Nat) : Int) := by rw [u64_mod]; omega
  have e2 := (Lib.lowest_bit 64 x hx0 hx).1
  rw [e1, bits_and rfl (by exact hx) (by show _ < 18446744073709551616; omega)]
  rw [show (x &&& (18446744073709551616 - x)) = 2 ^ tzX x from e2, u64_mod]
  omega
theorem tz64_c (ρ : Hp) (x : Nat) (hx : x < 18446744073709551616) (hT : TabG ρ) : Fn Tryz.prog 99 #[.int .u64 (x : Int)] ρ [] (Just (.int .i64 (tzX x : Int))) := by
  refine in99 rfl rfl ?_
  by_cases h0 : x = 0
  · refine W.seq ?_
    refine W.region (WL.as rfl rfl (WL.nil (W.seq (W.seq (W.region (WL.mv rfl rfl (WL.eql rfl rfl rfl (WL.nil (W.condpT rfl (by omega) (W.seq (W.region (WL.as rfl rfl (WL.nil ?_)))))))))))))
    refine W.ret1 rfl rfl (fun h p => ⟨by rw [h0]; rfl, p⟩)
  · have hk := (Lib.lowest_bit 64 x h0 hx).2
    obtain ⟨hi, htab⟩ := Lib.deBruijn64_at _ hk
    refine W.seq (W.region (WL.as rfl rfl (WL.nil (W.seq (W.seq (W.region (WL.mv rfl rfl (WL.eql rfl rfl rfl (WL.nil (W.condpF rfl (by omega) (W.skip (W.seq (W.region ?_)))))))))))))
    refine WL.mv rfl rfl (WL.mv rfl rfl (WL.neg rfl rfl (WL.and rfl rfl rfl (WL.mul (K := .u64) rfl rfl rfl (WL.shrS (c := 288230376151711744) rfl rfl rfl (by omega) (by decide) ?_)))))
    rw [tz_key x hx h0]
    obtain ⟨idx, hidx⟩ : ∃ i, i = 2 ^ tzX x * 285870213051353865 % 18446744073709551616 / 288230376151711744 := ⟨_, rfl⟩
    have hi' : idx < 64 := by rw [hidx]; exact hi
    have htab' : Lib.deBruijn64tab.getD idx 0 = tzX x := by rw [hidx]; exact htab
    rw [← hidx]
    refine WL.ixX (T := Ty) (o' := idx) rfl rfl rfl rfl rfl (by omega) (by omega) (by simp) ?_
    have hld : ∃ buf T fr, ρ 0 = some (.cells buf T fr) ∧ buf[idx]? = some (.int .u8 ((tzX x : Nat) : Int)) := by
      obtain ⟨buf, T, fr, hb, hc⟩ := hT
      refine ⟨buf, T, fr, hb, ?_⟩
      rw [← htab']
      exact hc idx hi'
    refine WL.ldG (T := Ty) rfl rfl rfl rfl hld ?_
    have hk' : tzX x < 64 := hk
    refine WL.cvK (T := Ty) rfl rfl rfl rfl (wrap_i64 ⟨by omega, by omega⟩) (WL.as rfl rfl (WL.nil ?_))
    exact W.ret1 rfl rfl (fun h p => ⟨rfl, p⟩)
theorem lz64_c (ρ : Hp) (x : Nat) (hx : x < 18446744073709551616) : Fn Tryz.prog 98 #[.int .u64 (x : Int)] ρ [] (Just (.int .i64 ((64 - lenB 64 x : Nat) : Int))) := by
  refine in98 rfl rfl ?_
  have hb := lenB_up x 64
  refine W.seq (W.region (WL.as rfl rfl (WL.nil (W.seq (W.region (WL.mv rfl rfl ?_))))))
  refine WL.callV rfl rfl (fun x p d => len64_c _ _ (by first | assumption | omega)) ?_
  refine WL.subK rfl rfl rfl (wrap_i64 ⟨by omega, by omega⟩) (WL.as rfl rfl (WL.nil ?_))
  exact W.ret1 rfl rfl (fun h p => ⟨congrArg (Value.int .i64) (by omega), p⟩)
end Go.Proofs.YtdpnpipninggeaaGreatDoor

/- Values by what turns: what the code of package xorv does. -/
set_option linter.unusedSimpArgs false
set_option linter.unusedVariables false
set_option maxRecDepth 20000
set_option maxHeartbeats 4000000
namespace Go.Proofs.YtdpnpipninggeaaGreatDoor
open Go
attribute [local irreducible] W WL Fn Buf ROs SL eptr box Rd Src bndOK WD RB Reads In encX decX encG decXF

def winC (w : Win) : List Value := [.bool w.is, .int .i64 (w.a : Int), .int .i64 (w.b : Int)]
def WinV (w : Win) : Value := .agg [.bool w.is, .int .i64 (w.a : Int), .int .i64 (w.b : Int)].toArray
theorem of_c (ρ : Hp) (x : Nat) (hx : x < 18446744073709551616) (hT : TabG ρ) : Fn Tryz.prog 75 #[.int .u64 (x : Int)] ρ [] (fun r _ => r = WinV (ofX x)) := by
  refine in75 rfl rfl ?_
  have hb := lenB_up x 64
  have hld : min ((64 - lenB 64 x : Nat) : Int) 31 = ((ldX x : Nat) : Int) := by unfold ldX; omega
  refine W.seq (W.region ?_)
  refine WL.alF (T := Ty) rfl rfl (by repeat' constructor) (fun b0 => ?_)
  refine WL.nil (W.seq (W.region (WL.mv rfl rfl ?_)))
  refine WL.callV rfl rfl (fun x p d => lz64_c _ _ (by first | assumption | omega)) ?_
  refine WL.mn rfl rfl rfl (WL.mv rfl rfl ?_)
  refine WL.callV rfl rfl (fun x p d => tz64_c _ _ (by first | assumption | omega) (TabG.wide (by assumption))) ?_
  refine WL.bdC (T := Ty) rfl rfl rfl rfl (by repeat' first | exact CO.nil | apply CO.one (by first | rfl | exact SL.one (by assumption)) | apply CO.agg) rfl (by repeat' constructor) ?_
  refine WL.stAO (T := Ty) (j := 0) rfl rfl rfl rfl (by repeat' first | exact AO.nil | apply AO.cons (by first | rfl | exact SL.one (by assumption))) rfl rfl (by repeat' constructor) (by repeat' constructor) ?_
  refine WL.nil ?_
  exact W.retW (T := Ty) (j := 0) rfl rfl rfl rfl rfl rfl (fun h p => by unfold WinV ofX; rw [hld])
theorem long_c (ρ : Hp) (is : Bool) (a b : Nat) (hw : a + b ≤ 64) : Fn Tryz.prog 76 #[.agg [.bool is, .int .i64 (a : Int), .int .i64 (b : Int)].toArray] ρ [] (Just (.int .i64 ((64 - a - b : Nat) : Int))) := by
  refine in76 rfl rfl ?_
  refine W.seq (W.region ?_)
  refine WL.bxF rfl rfl (by repeat' constructor) (fun b0 => ?_)
  refine WL.as rfl rfl (WL.nil (W.seq (W.region (WL.faN (T := Ty) (off' := 1) rfl rfl rfl rfl rfl rfl rfl (WL.ldN (T := Ty) (j := 0) rfl rfl rfl rfl rfl rfl (WL.subK rfl rfl rfl (wrap_i64 ⟨by omega, by omega⟩) (WL.faN (T := Ty) (off' := 2) rfl rfl rfl rfl rfl rfl rfl (WL.ldN (T := Ty) (j := 0) rfl rfl rfl rfl rfl rfl (WL.subK rfl rfl rfl (wrap_i64 ⟨by omega, by omega⟩) (WL.as rfl rfl (WL.nil ?_)))))))))))
  refine W.drop 0 rfl (by repeat' constructor) ?_
  exact W.ret1 rfl rfl (fun h p => ⟨congrArg (Value.int .i64) (by omega), p⟩)
theorem fits_c (ρ : Hp) (is : Bool) (a b : Nat) (x : Nat) (hx : x < 18446744073709551616) (hT : TabG ρ) : Fn Tryz.prog 74 #[.agg [.bool is, .int .i64 (a : Int), .int .i64 (b : Int)].toArray, .int .u64 (x : Int)] ρ [] (Just (.bool (fitsX ⟨is, a, b⟩ x))) := by
  refine in74 rfl rfl ?_
  cases is with
  | false =>
    refine W.seq (W.region ?_)
    refine WL.bxF rfl rfl (by repeat' constructor) (fun b0 => ?_)
    refine WL.as rfl rfl (WL.nil (W.seq (W.region (WL.mv rfl rfl ?_))))
    refine WL.callT (v := WinV (ofX _)) rfl rfl (fun x p d => of_c _ _ (by first | assumption | omega) (TabG.wide (by assumption))) ?_
    simp only [WinV, ofX]
    refine WL.alF (T := Ty) rfl rfl (by repeat' constructor) (fun b1 => ?_)
    refine WL.stAO (T := Ty) (j := 0) rfl rfl rfl rfl (by repeat' first | exact AO.nil | apply AO.cons (by first | rfl | exact SL.one (by assumption))) rfl rfl (by repeat' constructor) (by repeat' constructor) ?_
    refine WL.nil (W.seq (W.region (WL.faN (T := Ty) (off' := 0) rfl rfl rfl rfl rfl rfl rfl (WL.ldN (T := Ty) (j := 1) rfl rfl rfl rfl rfl rfl (WL.mv rfl rfl (WL.gdN rfl rfl rfl rfl rfl rfl (WL.gdN rfl rfl rfl rfl rfl rfl (WL.gdN rfl rfl rfl rfl rfl rfl (WL.gdN rfl rfl rfl rfl rfl rfl (WL.gdN rfl rfl rfl rfl rfl rfl (WL.pickF rfl rfl rfl (WL.mv rfl rfl (WL.gdN rfl rfl rfl rfl rfl rfl ?_)))))))))))))
    refine WL.gdN rfl rfl rfl rfl rfl rfl (WL.gdN rfl rfl rfl rfl rfl rfl (WL.gdN rfl rfl rfl rfl rfl rfl (WL.gdN rfl rfl rfl rfl rfl rfl (WL.pickF rfl rfl rfl (WL.as rfl rfl (WL.nil ?_))))))
    refine W.drop 0 rfl (by repeat' constructor) ?_
    refine W.drop 0 rfl (by repeat' constructor) ?_
    exact W.ret1 rfl rfl (fun h p => ⟨rfl, p⟩)
  | true =>
    have hf : fitsX ⟨true, a, b⟩ x = (decide (a ≤ ldX x) && decide (b ≤ tzX x)) := rfl
    by_cases c1 : a ≤ ldX x
    · by_cases c2 : b ≤ tzX x
      · rw [hf, decide_eq_true c1, decide_eq_true c2]
        refine W.seq (W.region ?_)
        refine WL.bxF rfl rfl (by repeat' constructor) (fun b0 => ?_)
        refine WL.as rfl rfl (WL.nil (W.seq (W.region (WL.mv rfl rfl ?_))))
        refine WL.callT (v := WinV (ofX _)) rfl rfl (fun x p d => of_c _ _ (by first | assumption | omega) (TabG.wide (by assumption))) ?_
        simp only [WinV, ofX]
        refine WL.alF (T := Ty) rfl rfl (by repeat' constructor) (fun b1 => ?_)
        refine WL.stAO (T := Ty) (j := 0) rfl rfl rfl rfl (by repeat' first | exact AO.nil | apply AO.cons (by first | rfl | exact SL.one (by assumption))) rfl rfl (by repeat' constructor) (by repeat' constructor) ?_
        refine WL.nil (W.seq (W.region (WL.faN (T := Ty) (off' := 0) rfl rfl rfl rfl rfl rfl rfl (WL.ldN (T := Ty) (j := 1) rfl rfl rfl rfl rfl rfl (WL.mv rfl rfl (WL.gY rfl rfl (WL.faN (T := Ty) (off' := 1) rfl rfl rfl rfl rfl rfl rfl (WL.gY rfl rfl (WL.ldN (T := Ty) (j := 0) rfl rfl rfl rfl rfl rfl (WL.gY rfl rfl (WL.faN (T := Ty) (off' := 1) rfl rfl rfl rfl rfl rfl rfl (WL.gY rfl rfl (WL.ldN (T := Ty) (j := 1) rfl rfl rfl rfl rfl rfl ?_)))))))))))))
        refine WL.gY rfl rfl (WL.geq rfl rfl rfl (WL.pickT rfl rfl rfl (WL.mv rfl rfl (WL.gT rfl rfl (by omega) (WL.faN (T := Ty) (off' := 2) rfl rfl rfl rfl rfl rfl rfl (WL.gT rfl rfl (by omega) (WL.ldN (T := Ty) (j := 0) rfl rfl rfl rfl rfl rfl (WL.gT rfl rfl (by omega) (WL.faN (T := Ty) (off' := 2) rfl rfl rfl rfl rfl rfl rfl (WL.gT rfl rfl (by omega) (WL.ldN (T := Ty) (j := 1) rfl rfl rfl rfl rfl rfl (WL.gT rfl rfl (by omega) (WL.geq rfl rfl rfl ?_)))))))))))))
        refine WL.pickTp rfl rfl (by omega) rfl (WL.as rfl rfl (WL.nil ?_))
        refine W.drop 0 rfl (by repeat' constructor) ?_
        refine W.drop 0 rfl (by repeat' constructor) ?_
        exact W.ret1 rfl rfl (fun h p => ⟨congrArg Value.bool (by first | (simp; done) | (simp; omega)), p⟩)
      · rw [hf, decide_eq_true c1, decide_eq_false c2]
        refine W.seq (W.region ?_)
        refine WL.bxF rfl rfl (by repeat' constructor) (fun b0 => ?_)
        refine WL.as rfl rfl (WL.nil (W.seq (W.region (WL.mv rfl rfl ?_))))
        refine WL.callT (v := WinV (ofX _)) rfl rfl (fun x p d => of_c _ _ (by first | assumption | omega) (TabG.wide (by assumption))) ?_
        simp only [WinV, ofX]
        refine WL.alF (T := Ty) rfl rfl (by repeat' constructor) (fun b1 => ?_)
        refine WL.stAO (T := Ty) (j := 0) rfl rfl rfl rfl (by repeat' first | exact AO.nil | apply AO.cons (by first | rfl | exact SL.one (by assumption))) rfl rfl (by repeat' constructor) (by repeat' constructor) ?_
        refine WL.nil (W.seq (W.region (WL.faN (T := Ty) (off' := 0) rfl rfl rfl rfl rfl rfl rfl (WL.ldN (T := Ty) (j := 1) rfl rfl rfl rfl rfl rfl (WL.mv rfl rfl (WL.gY rfl rfl (WL.faN (T := Ty) (off' := 1) rfl rfl rfl rfl rfl rfl rfl (WL.gY rfl rfl (WL.ldN (T := Ty) (j := 0) rfl rfl rfl rfl rfl rfl (WL.gY rfl rfl (WL.faN (T := Ty) (off' := 1) rfl rfl rfl rfl rfl rfl rfl (WL.gY rfl rfl (WL.ldN (T := Ty) (j := 1) rfl rfl rfl rfl rfl rfl ?_)))))))))))))
        refine WL.gY rfl rfl (WL.geq rfl rfl rfl (WL.pickT rfl rfl rfl (WL.mv rfl rfl (WL.gT rfl rfl (by omega) (WL.faN (T := Ty) (off' := 2) rfl rfl rfl rfl rfl rfl rfl (WL.gT rfl rfl (by omega) (WL.ldN (T := Ty) (j := 0) rfl rfl rfl rfl rfl rfl (WL.gT rfl rfl (by omega) (WL.faN (T := Ty) (off' := 2) rfl rfl rfl rfl rfl rfl rfl (WL.gT rfl rfl (by omega) (WL.ldN (T := Ty) (j := 1) rfl rfl rfl rfl rfl rfl (WL.gT rfl rfl (by omega) (WL.geq rfl rfl rfl ?_)))))))))))))
        refine WL.pickTp rfl rfl (by omega) rfl (WL.as rfl rfl (WL.nil ?_))
        refine W.drop 0 rfl (by repeat' constructor) ?_
        refine W.drop 0 rfl (by repeat' constructor) ?_
        exact W.ret1 rfl rfl (fun h p => ⟨congrArg Value.bool (by first | (simp; done) | (simp; omega)), p⟩)
    · rw [hf, decide_eq_false c1]
      refine W.seq (W.region ?_)
      refine WL.bxF rfl rfl (by repeat' constructor) (fun b0 => ?_)
      refine WL.as rfl rfl (WL.nil (W.seq (W.region (WL.mv rfl rfl ?_))))
      refine WL.callT (v := WinV (ofX _)) rfl rfl (fun x p d => of_c _ _ (by first | assumption | omega) (TabG.wide (by assumption))) ?_
      simp only [WinV, ofX]
      refine WL.alF (T := Ty) rfl rfl (by repeat' constructor) (fun b1 => ?_)
      refine WL.stAO (T := Ty) (j := 0) rfl rfl rfl rfl (by repeat' first | exact AO.nil | apply AO.cons (by first | rfl | exact SL.one (by assumption))) rfl rfl (by repeat' constructor) (by repeat' constructor) ?_
      refine WL.nil (W.seq (W.region (WL.faN (T := Ty) (off' := 0) rfl rfl rfl rfl rfl rfl rfl (WL.ldN (T := Ty) (j := 1) rfl rfl rfl rfl rfl rfl (WL.mv rfl rfl (WL.gY rfl rfl (WL.faN (T := Ty) (off' := 1) rfl rfl rfl rfl rfl rfl rfl (WL.gY rfl rfl (WL.ldN (T := Ty) (j := 0) rfl rfl rfl rfl rfl rfl (WL.gY rfl rfl (WL.faN (T := Ty) (off' := 1) rfl rfl rfl rfl rfl rfl rfl (WL.gY rfl rfl (WL.ldN (T := Ty) (j := 1) rfl rfl rfl rfl rfl rfl ?_)))))))))))))
      refine WL.gY rfl rfl (WL.geq rfl rfl rfl (WL.pickT rfl rfl rfl (WL.mv rfl rfl (WL.gdTn rfl rfl rfl rfl rfl (by omega) (WL.gdTn rfl rfl rfl rfl rfl (by omega) (WL.gdTn rfl rfl rfl rfl rfl (by omega) (WL.gdTn rfl rfl rfl rfl rfl (by omega) (WL.gdTn rfl rfl rfl rfl rfl (by omega) (WL.pickFp rfl rfl (by omega) rfl (WL.as rfl rfl (WL.nil ?_)))))))))))
      refine W.drop 0 rfl (by repeat' constructor) ?_
      refine W.drop 0 rfl (by repeat' constructor) ?_
      exact W.ret1 rfl rfl (fun h p => ⟨congrArg Value.bool (by first | (simp; done) | (simp; omega)), p⟩)
theorem fits_e (ρ : Hp) (is : Bool) (a b : Nat) (x : Nat) {t : Bool} (e : fitsX ⟨is, a, b⟩ x = t) (hx : x < 18446744073709551616) (hT : TabG ρ) : Fn Tryz.prog 74 #[.agg [.bool is, .int .i64 (a : Int), .int .i64 (b : Int)].toArray, .int .u64 (x : Int)] ρ [] (Just (.bool t)) := by
  rw [← e]
  exact fits_c ρ is a b x hx hT
theorem encX_cons (y : Nat) (l : List Nat) : encX (y :: l) = bitsOf y 64 ++ encG y ⟨false, 0, 0⟩ l := by unfold encX; rfl
theorem encG_cons (last : Nat) (w : Win) (y : Nat) (l : List Nat) : encG last w (y :: l) = (stepX w (y ^^^ last)).1 ++ encG y (stepX w (y ^^^ last)).2 l := by rw [encG]
theorem encG_nil (last : Nat) (w : Win) : encG last w [] = [] := by rw [encG]
theorem encX_nil : encX [] = [] := by unfold encX; rfl
theorem xor_val {x y : Nat} (hx : x < 18446744073709551616) (hy : y < 18446744073709551616) : bits .xor .u64 (x : Int) (y : Int) = ((x ^^^ y : Nat) : Int) := bits_xor rfl hx hy
theorem shr_val (x b : Nat) (hb : b ≤ 64) : (x : Int) / 2 ^ min ((b : Int)).toNat IntKind.u64.bits = ((x / 2 ^ b : Nat) : Int) := by
  have e : min ((b : Int)).toNat IntKind.u64.bits = b := by
    rw [Int.toNat_natCast]
    exact Nat.min_eq_left (by show _ ≤ 64; omega)
  rw [e]; push_cast; rfl
theorem xenc_c (ρ : Hp) (b : Nat) (ds : List Nat) (v : Value) (vs : List Nat) (hv : ROs ρ 1 v (vs.map ucell)) (hds : ∀ d ∈ ds, d < 2) (hl : ds.length ≤ 1099000000) (hw : ∀ x ∈ vs, x < 18446744073709551616) (hvl : vs.length ≤ 70000) (hT : TabG ρ) :
    Fn Tryz.prog 48 #[ptr b, v] ρ [Wr b ds] (fun r h => r = .tuple #[] ∧ Wr b (ds ++ encX vs) h) := by
  refine in48 rfl rfl ?_
  have sv := hv.slm
  refine W.seq (W.region ?_)
  refine WL.alF (T := Ty) rfl rfl (by repeat' constructor) (fun b0 => ?_)
  refine WL.nil (W.seq (W.region (WL.mv rfl rfl ?_)))
  refine WL.len (T := Ty) rfl rfl (by assumption) rfl ?_
  refine WL.mv rfl rfl (WL.nil (W.block ?_))
  refine W.loopS (σ := Nat × Win × Nat × List Nat) (fun s => [(0, ptr b), (1, v), (4, ptr b0), (8, v), (9, .int .i64 (vs.length : Int)), (10, .int .i64 (s.1 : Int))]) (fun s => [box b0 (winC s.2.1) 108, Wr b s.2.2.2])
    (fun s => s.1 ≤ vs.length ∧ s.2.2.2 ++ (if s.1 = 0 then encX vs else encG s.2.2.1 s.2.1 (vs.drop s.1)) = ds ++ encX vs ∧ (s.1 = 0 → s.2.1 = ⟨false, 0, 0⟩) ∧ (0 < s.1 → vs[s.1 - 1]? = some s.2.2.1) ∧ WinOK s.2.1 ∧ (∀ d ∈ s.2.2.2, d < 2) ∧ s.2.2.2.length ≤ ds.length + 77 * s.1) (fun s => vs.length - s.1) (0, ⟨false, 0, 0⟩, 0, ds) ⟨rfl, rfl, rfl, rfl, rfl, rfl, trivial⟩ rfl ⟨Nat.zero_le _, rfl, fun _ => rfl, fun h => absurd h (by simp), winOK0, hds, by simp⟩ ?_
  rintro ⟨i, w, last, es⟩ ⟨h1, h2, h3, h4, h5, h6, h7⟩ next
  simp only [] at h1 h2 h3 h4 h5 h6 h7 next ⊢
  by_cases hlt : i < vs.length
  · obtain ⟨y, hy⟩ : ∃ y, vs[i]? = some y := ⟨_, List.getElem?_eq_getElem hlt⟩
    have hy1 : (vs.map ucell)[i]? = some (ucell y) := by rw [List.getElem?_map, hy]; rfl
    have hyl := hw y (List.mem_of_getElem? hy)
    have hdrop : vs.drop i = y :: vs.drop (i + 1) := by
      rw [List.drop_eq_getElem_cons hlt]
      congr 1
      rw [List.getElem?_eq_getElem hlt] at hy
      exact Option.some.inj hy
    by_cases h0 : i = 0
    · subst h0
      refine W.seq (W.region (WL.lss rfl rfl rfl (WL.nil (W.seq (W.condpT rfl (by omega) (W.skip (W.seq (W.block (W.seq (W.region (WL.mv rfl rfl ?_)))))))))))
      refine WL.ix (T := Ty) rfl rfl rfl (by assumption) rfl rfl (by omega) (by first | omega | decide +kernel) ?_
      refine WL.ldKn (T := Ty) rfl rfl rfl rfl (by first | assumption | exact ROs.wide (by assumption)) (by assumption) ?_
      refine WL.as rfl rfl (WL.as rfl rfl (WL.nil (W.seq (W.seq (W.region (WL.mv rfl rfl (WL.eql rfl rfl rfl (WL.nil (W.condT rfl (W.seq (W.region (WL.mv rfl rfl (WL.mv rfl rfl ?_)))))))))))))
      refine WL.callM 1 rfl rfl rfl (fun x p d => put_c _ _ _ _ _ (by omega) (by repeat' first | assumption | exact bok_nil | exact bitsOf_bit _ _ | apply bok_app) (by first | assumption | omega | (simp only [List.length_append, bitsOf_len, List.length_nil, heldF]; omega))) (by repeat' constructor) ?_
      refine WL.nil (W.exit rfl (W.region (WL.addK rfl rfl rfl (wrap_i64 ⟨by omega, by omega⟩) (WL.mv rfl rfl (WL.nil ?_)))))
      refine W.sub ?_ (W.hs (fun h p => ?_) (next ⟨1, w, y, es ++ bitsOf y 64⟩ ⟨by simp only []; omega, ?_, by simp, fun _ => hy, h5, bok_app h6 (bitsOf_bit _ _), by simp [bitsOf_len]; omega⟩ (by simp only []; omega)))
      · exact ⟨rfl, rfl, rfl, rfl, rfl, rfl, trivial⟩
      · exact p
      · have e : vs = y :: vs.drop 1 := by simpa using hdrop
        rw [if_pos rfl] at h2
        show (es ++ bitsOf y 64) ++ (if (1 : Nat) = 0 then encX vs else encG y w (vs.drop 1)) = ds ++ encX vs
        rw [if_neg (by decide : ¬ (1 : Nat) = 0), ← h2, h3 rfl]
        conv => rhs; rw [e, encX_cons]
        simp
    · have hi1 := h4 (by omega)
      have hi2 : (vs.map ucell)[i - 1]? = some (ucell last) := by rw [List.getElem?_map, hi1]; rfl
      have hll := hw last (List.mem_of_getElem? hi1)
      have hxl := xor_lt64 hyl hll
      rw [if_neg h0, hdrop, encG_cons] at h2
      refine W.seq (W.region (WL.lss rfl rfl rfl (WL.nil (W.seq (W.condpT rfl (by omega) (W.skip (W.seq (W.block (W.seq (W.region (WL.mv rfl rfl ?_)))))))))))
      refine WL.ix (T := Ty) rfl rfl rfl (by assumption) rfl rfl (by omega) (by first | omega | decide +kernel) ?_
      refine WL.ldKn (T := Ty) rfl rfl rfl rfl (by first | assumption | exact ROs.wide (by assumption)) (by assumption) ?_
      refine WL.as rfl rfl (WL.as rfl rfl (WL.nil (W.seq (W.seq (W.region (WL.mv rfl rfl (WL.eql rfl rfl rfl (WL.nil (W.condpF rfl (by omega) (W.skip (W.seq (W.region (WL.mv rfl rfl ?_)))))))))))))
      refine WL.mv rfl rfl (WL.mv rfl rfl (WL.subK rfl rfl rfl (wrap_i64 ⟨by omega, by omega⟩) ?_))
      refine WL.ix (T := Ty) rfl rfl rfl (by assumption) rfl rfl (by omega) (by first | omega | decide +kernel) ?_
      refine WL.ldK (T := Ty) rfl rfl rfl rfl (by first | assumption | exact ROs.wide (by assumption)) (by assumption) (by omega) ?_
      refine WL.xor rfl rfl rfl (WL.as rfl rfl (WL.nil (W.seq (W.block (W.seq (W.region (WL.mv rfl rfl (WL.eql rfl rfl rfl (WL.as rfl rfl (WL.nil ?_))))))))))
      rw [xor_val hyl hll]
      have hso := stepX_ok h5 hxl
      have hsl := (stepX_len h5 hxl).2.2
      have hsb := stepX_bit w (y ^^^ last)
      have fin : ∀ es', es' = es ++ (stepX w (y ^^^ last)).1 → _ := fun es' he => next ⟨i + 1, (stepX w (y ^^^ last)).2, y, es'⟩ ⟨by simp only []; omega, by simp only []; rw [if_neg (by omega), he, List.append_assoc, h2], by simp, fun _ => by simpa using hy, hso, by rw [he]; exact bok_app h6 hsb, by rw [he]; simp; omega⟩ (by simp only []; omega)
      simp only [] at fin
      generalize y ^^^ last = x at *
      obtain ⟨is, a, t⟩ := w
      have h5' : a ≤ 31 ∧ a + t ≤ 64 := h5
      obtain ⟨h51, h52⟩ := h5'
      simp only [winC]
      by_cases hx0 : x = 0
      · subst hx0
        have es0 : stepX ⟨is, a, t⟩ 0 = (bitsOf 0 1, ⟨is, a, t⟩) := by unfold stepX; rw [if_pos rfl]
        rw [es0] at fin
        refine W.condT rfl (W.seq (W.region (WL.mv rfl rfl ?_)))
        refine WL.callM 1 rfl rfl rfl (fun x p d => put_c _ _ _ _ _ (by omega) (by repeat' first | assumption | exact bok_nil | exact bitsOf_bit _ _ | apply bok_app) (by first | assumption | omega | (simp only [List.length_append, bitsOf_len, List.length_nil, heldF]; omega))) (by repeat' constructor) ?_
        refine WL.nil (W.exit rfl (W.region (WL.addK rfl rfl rfl (wrap_i64 ⟨by omega, by omega⟩) (WL.mv rfl rfl (WL.nil ?_)))))
        refine W.sub ?_ (W.hs (fun h p => ?_) (fin _ rfl))
        · exact ⟨rfl, rfl, rfl, rfl, rfl, rfl, trivial⟩
        · exact p
      · by_cases hf : fitsX ⟨is, a, t⟩ x = true
        · have es0 : stepX ⟨is, a, t⟩ x = (bitsOf 2 2 ++ bitsOf (x / 2 ^ t) (64 - a - t), ⟨is, a, t⟩) := by unfold stepX; rw [if_neg hx0, if_pos hf]; rfl
          rw [es0] at fin
          have hdv : x / 2 ^ t < 18446744073709551616 := Nat.lt_of_le_of_lt (Nat.div_le_self _ _) hxl
          refine W.condpF rfl (by omega) (W.seq (W.region ?_))
          refine WL.ldAF (T := Ty) (j := 0) rfl rfl rfl rfl rfl rfl (by repeat' constructor) ?_
          refine WL.mv rfl rfl ?_
          refine WL.callV rfl rfl (fun x p d => fits_e _ _ _ _ _ (by assumption) (by first | assumption | omega) (TabG.wide (by assumption))) ?_
          refine WL.as rfl rfl (WL.nil (W.condT rfl (W.region (WL.mv rfl rfl ?_))))
          refine WL.callM 1 rfl rfl rfl (fun x p d => put_ci _ _ _ _ _ (by omega) (by omega) (by repeat' first | assumption | exact bok_nil | exact bitsOf_bit _ _ | apply bok_app) (by first | assumption | omega | (simp only [List.length_append, bitsOf_len, List.length_nil, heldF]; omega))) (by repeat' constructor) ?_
          refine WL.nil (W.inBlock ?_)
          refine W.drawP 8 [false, true] rfl (by repeat' constructor) (by repeat' constructor) (fun σ0 hσ0 dσ0 => ?_)
          have fσ0_0 := rb_at 0 rfl hσ0 dσ0
          refine WD.takeL 0 rfl (by decide +kernel) (WL.mv rfl rfl (WL.nilT (WD.takeL 1 rfl (by decide +kernel) (WL.mv rfl rfl (WL.nilT (WD.takeL 2 rfl (by decide +kernel) (WL.faN (T := Ty) (off' := 2) rfl rfl rfl rfl rfl rfl rfl (WL.nilT (WD.takeL 3 rfl (by decide +kernel) ?_)))))))))
          refine WL.ldBN (T := Ty) rfl rfl rfl rfl (by first | assumption | exact RB.wide (by assumption) | exact In.rb (by assumption)) rfl ?_
          refine WL.nilT (WD.takeL 4 rfl (by decide +kernel) (WL.shrS rfl rfl rfl (by omega) rfl (WL.nilT (WD.takeL 5 rfl (by decide +kernel) ?_))))
          refine WL.ldABF (T := Ty) rfl rfl rfl rfl (by first | assumption | exact RB.wide (by assumption) | exact In.rb (by assumption)) rfl (by repeat' constructor) ?_
          refine WL.nilT (WD.oneL 6 rfl (by decide +kernel) ?_)
          refine WL.callV rfl rfl (fun x p d => long_c _ _ _ _ (by omega)) ?_
          refine WL.nilE (WD.oneL 7 rfl (by decide +kernel) ?_)
          rw [shr_val x t (by omega)]
          refine WL.callM 1 rfl rfl rfl (fun x p d => put_c _ _ _ _ _ (by omega) (by repeat' first | assumption | exact bok_nil | exact bitsOf_bit _ _ | apply bok_app) (by first | assumption | omega | (simp only [List.length_append, bitsOf_len, List.length_nil, heldF]; omega))) (by repeat' constructor) ?_
          refine WL.nilE ?_
          refine WD.doneF hσ0 (by decide +kernel) (by repeat' constructor) ?_
          refine W.inBlock (W.region (WL.addK rfl rfl rfl (wrap_i64 ⟨by omega, by omega⟩) (WL.mv rfl rfl (WL.nil ?_))))
          refine W.sub ?_ (W.hs (fun h p => ?_) (fin _ rfl))
          · exact ⟨rfl, rfl, rfl, rfl, rfl, rfl, trivial⟩
          · rw [held64 _ (by omega)] at p
            rw [← List.append_assoc]
            exact p
        · have hf' : fitsX ⟨is, a, t⟩ x = false := by simpa using hf
          have es0 : stepX ⟨is, a, t⟩ x = (bitsOf 3 2 ++ bitsOf (ldX x) 5 ++ bitsOf (64 - ldX x - tzX x - 1) 6 ++ bitsOf (x / 2 ^ tzX x) (64 - ldX x - tzX x), ofX x) := by unfold stepX; rw [if_neg hx0, if_neg hf]; rfl
          rw [es0] at fin
          have hdv : x / 2 ^ tzX x < 18446744073709551616 := Nat.lt_of_le_of_lt (Nat.div_le_self _ _) hxl
          have hlt2 := ld_tz hx0 hxl
          have hld := ldX_le x
          refine W.condpF rfl (by omega) (W.seq (W.region ?_))
          refine WL.ldAF (T := Ty) (j := 0) rfl rfl rfl rfl rfl rfl (by repeat' constructor) ?_
          refine WL.mv rfl rfl ?_
          refine WL.callV rfl rfl (fun x p d => fits_e _ _ _ _ _ (by assumption) (by first | assumption | omega) (TabG.wide (by assumption))) ?_
          refine WL.as rfl rfl (WL.nil (W.condF rfl (W.seq (W.region (WL.mv rfl rfl ?_)))))
          refine WL.callT (v := WinV (ofX _)) rfl rfl (fun x p d => of_c _ _ (by first | assumption | omega) (TabG.wide (by assumption))) ?_
          simp only [WinV, ofX]
          refine WL.stAO (T := Ty) (j := 0) rfl rfl rfl rfl (by repeat' first | exact AO.nil | apply AO.cons (by first | rfl | exact SL.one (by assumption))) rfl rfl (by repeat' constructor) (by repeat' constructor) ?_
          refine WL.nil (W.seq (W.region (WL.mv rfl rfl ?_)))
          refine WL.callM 1 rfl rfl rfl (fun x p d => put_ci _ _ _ _ _ (by omega) (by omega) (by repeat' first | assumption | exact bok_nil | exact bitsOf_bit _ _ | apply bok_app) (by first | assumption | omega | (simp only [List.length_append, bitsOf_len, List.length_nil, heldF]; omega))) (by repeat' constructor) ?_
          refine WL.nil (W.seq (W.region (WL.mv rfl rfl (WL.faN (T := Ty) (off' := 1) rfl rfl rfl rfl rfl rfl rfl (WL.ldN (T := Ty) (j := 0) rfl rfl rfl rfl rfl rfl (WL.cvK (T := Ty) rfl rfl rfl rfl (wrap_u64 ⟨by omega, by omega⟩) ?_))))))
          refine WL.callM 1 rfl rfl rfl (fun x p d => put_c _ _ _ _ _ (by omega) (by repeat' first | assumption | exact bok_nil | exact bitsOf_bit _ _ | apply bok_app) (by first | assumption | omega | (simp only [List.length_append, bitsOf_len, List.length_nil, heldF]; omega))) (by repeat' constructor) ?_
          refine WL.nil (W.region (WL.mv rfl rfl ?_))
          refine WL.ldAF (T := Ty) (j := 0) rfl rfl rfl rfl rfl rfl (by repeat' constructor) ?_
          refine WL.callV rfl rfl (fun x p d => long_c _ _ _ _ (by omega)) ?_
          refine WL.subK rfl rfl rfl (wrap_i64 ⟨by omega, by omega⟩) (WL.cvK (T := Ty) rfl rfl rfl rfl (wrap_u64 ⟨by omega, by omega⟩) ?_)
          refine WL.callM 1 rfl rfl rfl (fun x p d => put_ci _ _ _ _ _ (by omega) (by omega) (by repeat' first | assumption | exact bok_nil | exact bitsOf_bit _ _ | apply bok_app) (by first | assumption | omega | (simp only [List.length_append, bitsOf_len, List.length_nil, heldF]; omega))) (by repeat' constructor) ?_
          refine WL.nil (W.inBlock ?_)
          refine W.drawP 8 [false, true] rfl (by repeat' constructor) (by repeat' constructor) (fun σ0 hσ0 dσ0 => ?_)
          have fσ0_0 := rb_at 0 rfl hσ0 dσ0
          refine WD.takeL 0 rfl (by decide +kernel) (WL.mv rfl rfl (WL.nilT (WD.takeL 1 rfl (by decide +kernel) (WL.mv rfl rfl (WL.nilT (WD.takeL 2 rfl (by decide +kernel) (WL.faN (T := Ty) (off' := 2) rfl rfl rfl rfl rfl rfl rfl (WL.nilT (WD.takeL 3 rfl (by decide +kernel) ?_)))))))))
          refine WL.ldBN (T := Ty) rfl rfl rfl rfl (by first | assumption | exact RB.wide (by assumption) | exact In.rb (by assumption)) rfl ?_
          refine WL.nilT (WD.takeL 4 rfl (by decide +kernel) (WL.shrS rfl rfl rfl (by omega) rfl (WL.nilT (WD.takeL 5 rfl (by decide +kernel) ?_))))
          refine WL.ldABF (T := Ty) rfl rfl rfl rfl (by first | assumption | exact RB.wide (by assumption) | exact In.rb (by assumption)) rfl (by repeat' constructor) ?_
          refine WL.nilT (WD.oneL 6 rfl (by decide +kernel) ?_)
          refine WL.callV rfl rfl (fun x p d => long_c _ _ _ _ (by omega)) ?_
          refine WL.nilE (WD.oneL 7 rfl (by decide +kernel) ?_)
          rw [shr_val x (tzX x) (by omega)]
          refine WL.callM 1 rfl rfl rfl (fun x p d => put_c _ _ _ _ _ (by omega) (by repeat' first | assumption | exact bok_nil | exact bitsOf_bit _ _ | apply bok_app) (by first | assumption | omega | (simp only [List.length_append, bitsOf_len, List.length_nil, heldF]; omega))) (by repeat' constructor) ?_
          refine WL.nilE ?_
          refine WD.doneF hσ0 (by decide +kernel) (by repeat' constructor) ?_
          refine W.inBlock (W.region (WL.addK rfl rfl rfl (wrap_i64 ⟨by omega, by omega⟩) (WL.mv rfl rfl (WL.nil ?_))))
          refine W.sub ?_ (W.hs (fun h p => ?_) (fin _ rfl))
          · exact ⟨rfl, rfl, rfl, rfl, rfl, rfl, trivial⟩
          · rw [held64 _ (by omega), show (((64 - ldX x - tzX x : Nat) : Int) - 1).toNat = 64 - ldX x - tzX x - 1 by omega] at p
            rw [← List.append_assoc, ← List.append_assoc, ← List.append_assoc]
            exact p
  · have hie : i = vs.length := by omega
    have e : es = ds ++ encX vs := by
      rw [← h2, hie, List.drop_of_length_le (Nat.le_refl _)]
      split
      · rename_i hn
        rw [List.eq_nil_of_length_eq_zero hn, encX_nil]; simp
      · rw [encG_nil]; simp
    refine W.seq (W.region (WL.lss rfl rfl rfl (WL.nil (W.seq (W.condpF rfl (by omega) (W.exit rfl ?_))))))
    refine W.drop 0 rfl (by repeat' constructor) ?_
    refine W.stop0 rfl (fun h p => ⟨rfl, ?_⟩)
    rw [← e]
    exact sepl_one.1 p
end Go.Proofs.YtdpnpipninggeaaGreatDoor
