/- Numbers of any length: numbers with a sign (as Vint2, over VintDef). -/
import Derived.Test.YtdpnpipninggeaaGreatDoorStc
import Derived.Test.YtdpnpipninggeaaGreatDoorNum
import Derived.Test.YtdpnpipninggeaaGreatDoorTab
import Derived.Test.YtdpnpipninggeaaGreatDoorBitsLaw
set_option linter.unusedSimpArgs false
set_option linter.unusedVariables false
set_option maxRecDepth 20000
namespace Go.Proofs.YtdpnpipninggeaaGreatDoor
open Go
attribute [local irreducible] W WL Fn Buf ROs SL eptr box Rd Src bndOK WD RB

def zigF (n : Int) : Nat := if n < 0 then (-2 * n - 1).toNat else (2 * n).toNat
def zagF (u : Nat) : Int := if u % 2 = 1 then -((u / 2 : Nat) : Int) - 1 else ((u / 2 : Nat) : Int)
def U64 (n : Nat) : Value := .int .u64 n
def I64 (n : Int) : Value := .int .i64 n
theorem zag_zig (n : Int) : zagF (zigF n) = n := by
  unfold zagF zigF
  by_cases h : n < 0
  · simp only [if_pos h]
    rw [if_pos (by omega)]; omega
  · simp only [if_neg h]
    rw [if_neg (by omega)]; omega
theorem zig_lt (n : Int) (h : i64ok n) : zigF n < 18446744073709551616 := by
  unfold i64ok at h
  unfold zigF
  split <;> omega
theorem zig_c (ρ : Hp) (n : Int) (hn : i64ok n) : Fn Tryz.prog 20 #[.int .i64 n] ρ [] (Just (U64 (zigF n))) := by
  refine in20 rfl rfl ?_
  unfold i64ok at hn
  refine W.seq (W.region (WL.as rfl rfl (WL.nil (W.seq (W.region (WL.mv rfl rfl (WL.cv (T := Ty) rfl rfl rfl rfl (WL.shlS (c := 2) rfl rfl rfl (by omega) (by decide) rfl (WL.mv rfl rfl (WL.shrS (c := 9223372036854775808) rfl rfl rfl (by omega) (by decide) (WL.cv (T := Ty) rfl rfl rfl rfl (WL.xor rfl rfl rfl (WL.as rfl rfl ?_)))))))))))))
  refine WL.nil ?_
  refine W.ret1 rfl rfl (fun h p => ⟨?_, p⟩)
  by_cases h0 : n < 0
  · have q : n / 9223372036854775808 = -1 := by omega
    have w1 : IntKind.u64.wrap n = n + 18446744073709551616 := by simp [IntKind.wrap, IntKind.bits, IntKind.signed]; omega
    rw [q, show IntKind.u64.wrap (-1) = 18446744073709551615 from by decide, w1]
    obtain ⟨m, hm⟩ : ∃ m : Nat, (m : Int) = n + 9223372036854775808 := ⟨(n + 9223372036854775808).toNat, by omega⟩
    have w2 : IntKind.u64.wrap ((n + 18446744073709551616) * 2) = ((2 * m : Nat) : Int) := by simp [IntKind.wrap, IntKind.bits, IntKind.signed]; omega
    rw [w2, bits_xor_ones64 _ (by omega)]
    unfold U64 zigF
    rw [if_pos h0]
    congr 1
    omega
  · have q : n / 9223372036854775808 = 0 := by omega
    have w1 : IntKind.u64.wrap n = n := wrap_u64 ⟨by omega, by omega⟩
    rw [q, show IntKind.u64.wrap 0 = 0 from by decide, w1]
    obtain ⟨m, hm⟩ : ∃ m : Nat, (m : Int) = n := ⟨n.toNat, by omega⟩
    have w2 : IntKind.u64.wrap (n * 2) = ((2 * m : Nat) : Int) := by simp [IntKind.wrap, IntKind.bits, IntKind.signed]; omega
    rw [w2, bits_xor_zero64 _ (by omega)]
    unfold U64 zigF
    rw [if_neg h0]
    congr 1
    omega

theorem rzig_c (ρ : Hp) (n : Int) (hn : i64ok n) : Fn Tryz.prog 25 #[.int .i64 n] ρ [] (Just (U64 (zigF n))) := by
  refine in25 rfl rfl ?_
  unfold i64ok at hn
  refine W.seq (W.region (WL.as rfl rfl (WL.nil (W.seq (W.seq (W.region (WL.mv rfl rfl (WL.lss rfl rfl rfl (WL.nil ?_)))))))))
  refine W.condp rfl (fun h0 => ?_) (fun h0 => ?_)
  · refine W.seq ?_
    refine W.region (WL.mv rfl rfl (WL.addK rfl rfl rfl (wrap_i64 ⟨by omega, by omega⟩) (WL.negK rfl rfl (wrap_i64 ⟨by omega, by omega⟩) (WL.cvK (T := Ty) rfl rfl rfl rfl (wrap_u64 ⟨by omega, by omega⟩) (WL.mulK rfl rfl rfl (wrap_u64 ⟨by omega, by omega⟩) (WL.addK rfl rfl rfl (wrap_u64 ⟨by omega, by omega⟩) (WL.as rfl rfl (WL.nil ?_))))))))
    refine W.ret1 rfl rfl (fun h p => ⟨?_, p⟩)
    unfold U64 zigF
    rw [if_pos h0]
    congr 1
    omega
  · refine W.skip ?_
    refine W.seq (W.region (WL.mv rfl rfl (WL.cvK (T := Ty) rfl rfl rfl rfl (wrap_u64 ⟨by omega, by omega⟩) (WL.mulK rfl rfl rfl (wrap_u64 ⟨by omega, by omega⟩) (WL.as rfl rfl (WL.nil ?_))))))
    refine W.ret1 rfl rfl (fun h p => ⟨?_, p⟩)
    unfold U64 zigF
    rw [if_neg h0]
    congr 1
    omega
theorem rzag_c (ρ : Hp) (u : Nat) (hu : u < 18446744073709551616) : Fn Tryz.prog 45 #[U64 u] ρ [] (Just (I64 (zagF u))) := by
  refine in45 rfl rfl ?_
  unfold U64
  refine W.seq (W.region (WL.as rfl rfl (WL.nil (W.seq (W.seq (W.region (WL.mv rfl rfl ?_)))))))
  refine WL.andU rfl rfl rfl rfl (by decide) (by omega) (by simp only [IntKind.bits]; omega) ?_
  refine WL.eql rfl rfl rfl (WL.nil ?_)
  refine W.condp rfl (fun h0 => ?_) (fun h0 => ?_)
  · refine W.seq ?_
    refine W.region (WL.mv rfl rfl (WL.shrS (c := 2) rfl rfl rfl (by omega) (by decide) (WL.cvK (T := Ty) rfl rfl rfl rfl (wrap_i64 ⟨by omega, by omega⟩) (WL.negK rfl rfl (wrap_i64 ⟨by omega, by omega⟩) (WL.subK rfl rfl rfl (wrap_i64 ⟨by omega, by omega⟩) (WL.as rfl rfl (WL.nil ?_)))))))
    refine W.ret1 rfl rfl (fun h p => ⟨?_, p⟩)
    unfold I64 zagF
    rw [if_pos (by omega)]
    congr 1
  · refine W.skip ?_
    refine W.seq (W.region (WL.mv rfl rfl (WL.shrS (c := 2) rfl rfl rfl (by omega) (by decide) (WL.cvK (T := Ty) rfl rfl rfl rfl (wrap_i64 ⟨by omega, by omega⟩) (WL.as rfl rfl (WL.nil ?_))))))
    refine W.ret1 rfl rfl (fun h p => ⟨?_, p⟩)
    unfold I64 zagF
    rw [if_neg (by omega)]
    congr 1
theorem zig_v (ρ : Hp) (n : Int) (hn : i64ok n) : Fn Tryz.prog 20 #[.int .i64 n] ρ [] (Just (.int .u64 (zigF n : Int))) := zig_c ρ n hn
theorem rzig_v (ρ : Hp) (n : Int) (hn : i64ok n) : Fn Tryz.prog 25 #[.int .i64 n] ρ [] (Just (.int .u64 (zigF n : Int))) := rzig_c ρ n hn
theorem rzag_v (ρ : Hp) (u : Nat) (hu : u < 18446744073709551616) : Fn Tryz.prog 45 #[.int .u64 (u : Int)] ρ [] (Just (.int .i64 (zagF u))) := rzag_c ρ u hu
theorem rzag_z (ρ : Hp) (n : Int) (hn : i64ok n) : Fn Tryz.prog 45 #[.int .u64 (zigF n : Int)] ρ [] (Just (.int .i64 n)) := by
  have := rzag_v ρ (zigF n) (zig_lt n hn)
  rw [zag_zig] at this
  exact this
end Go.Proofs.YtdpnpipninggeaaGreatDoor
