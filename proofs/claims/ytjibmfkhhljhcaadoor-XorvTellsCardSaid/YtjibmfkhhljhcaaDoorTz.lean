/- math/bits.TrailingZeros64, LeadingZeros64: what they do, where the library's table stands as its text lays it. -/
import Derived.Test.YtjibmfkhhljhcaaDoorStc
import Derived.Test.YtjibmfkhhljhcaaDoorNum
import Derived.Test.YtjibmfkhhljhcaaDoorTab
import Derived.Test.YtjibmfkhhljhcaaDoorLen64i
import Derived.Test.YtjibmfkhhljhcaaDoorXorvLaw
set_option linter.unusedSimpArgs false
set_option linter.unusedVariables false
set_option maxRecDepth 20000
set_option maxHeartbeats 4000000
namespace Go.Proofs.YtjibmfkhhljhcaaDoor
open Go
attribute [local irreducible] W WL Fn Buf ROs SL eptr box Rd Src bndOK WD RB Reads In

/-- the library's table, as its text lays it -/
def TabG (ρ : Hp) : Prop := ∃ buf T fr, ρ 0 = some (.cells buf T fr) ∧ ∀ j, j < 64 → buf[j]? = some (.int .u8 ((Lib.deBruijn64tab.getD j 0 : Nat) : Int))
theorem TabG.mono {ρ ρ' : Hp} (h : TabG ρ) (le : ∀ b o, ρ b = some o → ρ' b = some o) : TabG ρ' := by
  obtain ⟨buf, T, fr, hb, hc⟩ := h
  exact ⟨buf, T, fr, le _ _ hb, hc⟩
theorem TabG.wide {ρ x : Hp} (h : TabG ρ) : TabG (join ρ x) := h.mono (fun _ _ q => join_left q)
section
variable {P : Program} {T : Tab P} {fn : Func} {ρ : Hp} {md : Bool} {X : World → Hp → Act → World → Prop} {env : Env} {Hs : List HP} {ops : Array Oper} {l : List Oper}
variable {d : Tmp} {ty : TypeId} {pos : String} {aft : Array Edge}
theorem WL.ldG {x : Operand} {t : TypeId} {b off : Nat} {v : Value} {ti : TyI} (hn : Nat.ble (d + 1) fn.ntmps = true) (hx : ev env x = some (.pointer (some ⟨b, off, none⟩)))
    (ht : T.tt t = some ti) (h1 : oneCellT ti.desc = true) (hR : ∃ buf T fr, ρ b = some (.cells buf T fr) ∧ buf[off]? = some v)
    (h : WL md P fn ρ X ops l ((d, v) :: env) Hs) : WL md P fn ρ X ops (⟨some d, .load t x, ty, pos, aft, none⟩ :: l) env Hs :=
  .rdR rfl rfl hn (fun f w hr e => by
    obtain ⟨buf, T', fr, hb, hc⟩ := hR
    have hcell : w.cell? ⟨b, off, none⟩ = some v := by simp [World.cell?, hr b _ hb, hc]
    simp [execOp, e _ _ hx, Instr.loadAt, Instr.sureAddr, load1 ht h1 hcell]) h
end
theorem tz_key (x : Nat) (hx : x < 18446744073709551616) (hx0 : x ≠ 0) :
    IntKind.u64.wrap (bits .and .u64 (x : Int) (IntKind.u64.wrap (-(x : Int))) * 285870213051353865) / 288230376151711744 = ((2 ^ tzX x * 285870213051353865 % 18446744073709551616 / 288230376151711744 : Nat) : Int) := by
  have e1 : IntKind.u64.wrap (-(x : Int)) = ((18446744073709551616 - x : Nat) : Int) := by rw [u64_mod]; omega
  have e2 := (Lib.lowest_bit 64 x hx0 hx).1
  rw [e1, bits_and rfl (by exact hx) (by show _ < 18446744073709551616; omega)]
  rw [show (x &&& (18446744073709551616 - x)) = 2 ^ tzX x from e2, u64_mod]
  omega
-- CALL 35 refine WL.callV rfl rfl (fun x p d => tz64_c _ _ (by first | assumption | omega) (TabG.wide (by assumption))) ?_
theorem tz64_c (ρ : Hp) (x : Nat) (hx : x < 18446744073709551616) (hT : TabG ρ) : Fn Tryd.prog 35 #[.int .u64 (x : Int)] ρ [] (Just (.int .i64 (tzX x : Int))) := by
  refine in35 rfl rfl ?_
  by_cases h0 : x = 0
  · refine W.seq ?_
    refine W.region ?_
    refine WL.as rfl rfl ?_
    refine WL.nil ?_
    refine W.seq ?_
    refine W.seq ?_
    refine W.region ?_
    refine WL.mv rfl rfl ?_
    refine WL.eql rfl rfl rfl ?_
    refine WL.nil ?_
    refine W.condpT rfl (by omega) ?_
    refine W.seq ?_
    refine W.region ?_
    refine WL.as rfl rfl ?_
    refine WL.nil ?_
    refine W.ret1 rfl rfl (fun h p => ⟨by rw [h0]; rfl, p⟩)
  · have hk := (Lib.lowest_bit 64 x h0 hx).2
    obtain ⟨hi, htab⟩ := Lib.deBruijn64_at _ hk
    refine W.seq ?_
    refine W.region ?_
    refine WL.as rfl rfl ?_
    refine WL.nil ?_
    refine W.seq ?_
    refine W.seq ?_
    refine W.region ?_
    refine WL.mv rfl rfl ?_
    refine WL.eql rfl rfl rfl ?_
    refine WL.nil ?_
    refine W.condpF rfl (by omega) ?_
    refine W.skip ?_
    refine W.seq ?_
    refine W.region ?_
    refine WL.mv rfl rfl ?_
    refine WL.mv rfl rfl ?_
    refine WL.neg rfl rfl ?_
    refine WL.and rfl rfl rfl ?_
    refine WL.mul (K := .u64) rfl rfl rfl ?_
    refine WL.shrS (c := 288230376151711744) rfl rfl rfl (by omega) (by decide) ?_
    rw [tz_key x hx h0]
    obtain ⟨idx, hidx⟩ : ∃ i, i = 2 ^ tzX x * 285870213051353865 % 18446744073709551616 / 288230376151711744 := ⟨_, rfl⟩
    have hi' : idx < 64 := by rw [hidx]; exact hi
    have htab' : Lib.deBruijn64tab.getD idx 0 = tzX x := by rw [hidx]; exact htab
    rw [← hidx]
    refine WL.ixX (T := Ty) (o' := idx) rfl rfl rfl rfl rfl (by omega) (by omega) (by simp) ?_
    have hld : ∃ buf T fr, ρ 0 = some (.cells buf T fr) ∧ buf[idx]? = some (.int .u8 ((tzX x : Nat) : Int)) := by
      obtain ⟨buf, T, fr, hb, hc⟩ := hT
      refine ⟨buf, T, fr, hb, ?_⟩
      rw [← htab']
      exact hc idx hi'
    refine WL.ldG (T := Ty) rfl rfl rfl rfl hld ?_
    have hk' : tzX x < 64 := hk
    refine WL.cvK (T := Ty) rfl rfl rfl rfl (wrap_i64 ⟨by omega, by omega⟩) ?_
    refine WL.as rfl rfl ?_
    refine WL.nil ?_
    exact W.ret1 rfl rfl (fun h p => ⟨rfl, p⟩)
-- CALL 34 refine WL.callV rfl rfl (fun x p d => lz64_c _ _ (by first | assumption | omega)) ?_
theorem lz64_c (ρ : Hp) (x : Nat) (hx : x < 18446744073709551616) : Fn Tryd.prog 34 #[.int .u64 (x : Int)] ρ [] (Just (.int .i64 ((64 - lenB 64 x : Nat) : Int))) := by
  refine in34 rfl rfl ?_
  have hb := lenB_up x 64
  refine W.seq ?_
  refine W.region ?_
  refine WL.as rfl rfl ?_
  refine WL.nil ?_
  refine W.seq ?_
  refine W.region ?_
  refine WL.mv rfl rfl ?_
  refine WL.callV rfl rfl (fun x p d => len64_c _ _ (by first | assumption | omega)) ?_
  refine WL.subK rfl rfl rfl (wrap_i64 ⟨by omega, by omega⟩) ?_
  refine WL.as rfl rfl ?_
  refine WL.nil ?_
  exact W.ret1 rfl rfl (fun h p => ⟨congrArg (Value.int .i64) (by omega), p⟩)
end Go.Proofs.YtjibmfkhhljhcaaDoor
