/- slices.Clip of bytes: what it does. -/
import Derived.Test.YtdpnpipninggeaaGreatDoorStc
import Derived.Test.YtdpnpipninggeaaGreatDoorNum
import Derived.Test.YtdpnpipninggeaaGreatDoorTab
import Derived.Test.YtdpnpipninggeaaGreatDoorBitsLaw
set_option linter.unusedSimpArgs false
set_option linter.unusedVariables false
set_option maxRecDepth 20000
namespace Go.Proofs.YtdpnpipninggeaaGreatDoor
open Go
attribute [local irreducible] W WL Fn Buf ROs SL eptr box Rd Src bndOK WD RB

theorem clip_c (ρ : Hp) (v : Value) (cs : List Value) (n : Nat) (hl : cs.length = n * 1) :
    Fn Tryz.prog 36 #[v] ρ [Buf 1 v cs] (fun r => Buf 1 r cs) := by
  refine in36 rfl rfl ?_
  refine W.fact (i := 0) rfl (fun h hb => hb.sl hl (by omega)) fun hs => ?_
  refine W.seq (W.region (WL.as rfl rfl (WL.nil (W.seq (W.region (WL.mv rfl rfl (WL.mv rfl rfl ?_)))))))
  refine WL.len (T := Ty) rfl rfl (by assumption) rfl ?_
  refine WL.mv rfl rfl ?_
  refine WL.len (T := Ty) rfl rfl (by assumption) rfl ?_
  refine WL.clip (T := Ty) rfl rfl rfl rfl rfl rfl rfl (j := 0) rfl hl (fun u => by repeat' first | exact FL.nil | apply FL.cons) (fun u hu => ?_)
  refine WL.as rfl rfl (WL.nil ?_)
  exact W.ret1 rfl rfl (fun h p => sepl_one.1 p)
end Go.Proofs.YtdpnpipninggeaaGreatDoor
/- slices.Clone of bytes: what it does. -/
set_option linter.unusedSimpArgs false
set_option linter.unusedVariables false
set_option maxRecDepth 20000
namespace Go.Proofs.YtdpnpipninggeaaGreatDoor
open Go
attribute [local irreducible] W WL Fn Buf ROs SL eptr box Rd Src bndOK WD RB

theorem clone_c (ρ : Hp) (v : Value) (cs : List Value) (n : Nat) (hv : ROs ρ 1 v cs) (hl : cs.length = n * 1) (h1 : ∀ q ∈ cs, q.oneCell' = true) (hb : n ≤ 140737488355328) :
    Fn Tryz.prog 37 #[v] ρ [] (fun r => Buf 1 r cs) := by
  refine in37 rfl rfl ?_
  have hs : SL v n := hv.sl hl (by omega)
  refine W.seq (W.region (WL.as rfl rfl (WL.nil (W.seq (W.seq (W.region (WL.mv rfl rfl ?_)))))))
  refine WL.eqN (T := Ty) rfl rfl (by assumption) rfl ?_
  refine WL.nil ?_
  refine W.cond rfl (fun hnil => ?_) (fun _ => ?_)
  · refine W.seq ?_
    refine W.region (WL.as rfl rfl (WL.nil (W.nb (sz := 1) ?_)))
    refine W.ret1 rfl rfl (fun h p => ?_)
    have : cs = [] := by
      unfold ROs at hv
      rcases hv with ⟨_, h⟩ | ⟨a, rfl, h⟩ | ⟨b, off, m, c, buf, T, fr, rfl, _⟩
      · exact h
      · exact h
      · simp [isNil] at hnil
    rw [this]
    exact sepl_one.1 p
  · refine W.skip ?_
    refine W.seq (W.region ?_)
    refine WL.bsC (T := Ty) rfl rfl rfl rfl rfl rfl rfl (by repeat' first | exact CO.nil | apply CO.one (by first | rfl | exact SL.one (by assumption)) | apply CO.agg) rfl (by repeat' constructor) (fun u0 hu0 => ?_)
    refine WL.mv rfl rfl ?_
    refine WL.ap (T := Ty) (i := 0) (n := 0) rfl rfl rfl rfl rfl rfl rfl rfl (by first | exact .ro (by assumption) | exact .ro (ROs.wide (by assumption)) | exact .eqJ 0 rfl (by assumption) | exact .own 0 rfl | exact .own 1 rfl | exact .own 2 rfl | exact .own 3 rfl | exact .own 4 rfl | exact .own 5 rfl) (by first | assumption | exact ROs.slm (by assumption)) rfl (by assumption) (by assumption) (by first | omega | (simp; omega) | (simp only [List.length_drop, List.length_take]; omega)) (by unfold maxLen; first | omega | (simp only [List.length_drop, List.length_take]; omega)) (fun v' => (by repeat' constructor)) (fun u1 hu1 => ?_)
    refine WL.as rfl rfl (WL.nil ?_)
    exact W.ret1 rfl rfl (fun h p => sepl_one.1 p)
end Go.Proofs.YtdpnpipninggeaaGreatDoor

/- Numbers of any length: what the code of package vint does. -/
set_option linter.unusedSimpArgs false
set_option linter.unusedVariables false
set_option maxRecDepth 20000
set_option maxHeartbeats 4000000
namespace Go.Proofs.YtdpnpipninggeaaGreatDoor
open Go
attribute [local irreducible] W WL Fn Buf ROs SL eptr box Rd Src bndOK WD RB Reads In

theorem vput_c (ρ : Hp) (b : Value) (bs : List Nat) (u : Nat) (hb : ROs ρ 1 b (bs.map bcell)) (hu : u < 18446744073709551616) (hl : bs.length + 10 ≤ 140737488355328) :
    Fn Tryz.prog 19 #[b, .int .u64 (u : Int)] ρ [] (fun r => Buf 1 r ((bs ++ vputF 9 u).map bcell)) := by
  refine in19 rfl rfl ?_
  refine W.seq (W.region (WL.as rfl rfl (WL.nil (W.seq (W.region (WL.mv rfl rfl ?_))))))
  refine WL.callF rfl rfl (fun x p d => clone_c _ _ _ _ (by first | assumption | exact ROs.wide (by assumption) | exact ROs.mono (by assumption) (eqh_at 0 rfl p d) | exact ros_at 0 rfl p d | exact ros_at 1 rfl p d | exact ros_at 2 rfl p d | exact ros_at 3 rfl p d | exact ros_at 4 rfl p d) (Nat.mul_one _).symm (one_bcell _) (by simp; omega)) (fun u0 => ?_)
  refine WL.fact (i := 0) rfl (fun h hb => Buf.slm hb) (fun hsl0 => ?_)
  refine WL.callP 0 rfl rfl rfl (fun x p d => clip_c _ _ _ _ (Nat.mul_one _).symm) (by repeat' constructor) (fun u1 => ?_)
  refine WL.fact (i := 0) rfl (fun h hb => Buf.slm hb) (fun hsl1 => ?_)
  refine WL.as rfl rfl (WL.nil (W.seq (W.block ?_)))
  refine W.loopS (σ := Nat × List Nat × Nat × Value) (fun s => [(1, .int .u64 (s.2.2.1 : Int)), (5, s.2.2.2)]) (fun s => [Buf 1 s.2.2.2 (s.2.1.map bcell)])
    (fun s => s.2.1 ++ vputF s.1 s.2.2.1 = bs ++ vputF 9 u ∧ s.2.1.length + s.1 ≤ bs.length + 9 ∧ s.2.2.1 < 128 ^ (s.1 + 1)) (fun s => s.1) (9, bs, u, u1) ⟨rfl, rfl, trivial⟩ rfl ⟨rfl, by simp, by simp; omega⟩ ?_
  rintro ⟨k, xs, y, v⟩ ⟨h1, h2, h3⟩ next
  simp only [] at h1 h2 h3 next ⊢
  refine W.fact (i := 0) rfl (fun h hb => hb.sl (n := xs.length) (by simp) (by omega)) fun hs => ?_
  refine W.seq (W.seq (W.region (WL.mv rfl rfl (WL.geq rfl rfl rfl (WL.nil ?_)))))
  refine W.condp rfl (fun hge => ?_) (fun hlt => ?_)
  · have hk : k ≠ 0 := by intro e; subst e; simp at h3; omega
    refine W.skip (W.seq (W.block (W.region (WL.mv rfl rfl (WL.mv rfl rfl (WL.cv (T := Ty) rfl rfl rfl rfl (WL.or rfl rfl rfl ?_)))))))
    refine WL.bsC (T := Ty) rfl rfl rfl rfl rfl rfl rfl (by repeat' first | exact CO.nil | apply CO.one (by first | rfl | exact SL.one (by assumption)) | apply CO.agg) rfl (by repeat' constructor) (fun u2 hu2 => ?_)
    refine WL.ap1 (T := Ty) (i := 0) rfl rfl rfl rfl rfl rfl rfl rfl (by assumption) (by first | rfl | assumption) (by first | omega | (simp; omega) | (simp only [List.length_drop, List.length_take]; omega)) (by first | omega | (simp; omega) | (simp only [List.length_drop, List.length_take]; omega)) (fun v' => (by repeat' constructor)) (fun u3 hu3 => ?_)
    refine WL.as rfl rfl (WL.nil (W.inBlock (W.region (WL.mv rfl rfl (WL.shrS (c := 128) rfl rfl rfl (by omega) (by decide) (WL.as rfl rfl (WL.nil ?_)))))))
    rw [vput_byte, vput_shift]
    obtain ⟨k, rfl⟩ : ∃ m, k = m + 1 := ⟨k - 1, by omega⟩
    refine W.sub ?_ (W.hs (fun h p => ?_) (next ⟨k, xs ++ [y % 128 + 128], y / 128, u3⟩ ⟨?_, ?_, ?_⟩ (by simp)))
    · exact ⟨rfl, rfl, trivial⟩
    · simpa [bcell] using p
    · rw [← h1]; simp [vputF]; omega
    · simp; omega
    · show y / 128 < 128 ^ (k + 1)
      rw [Nat.pow_succ] at h3; omega
  · refine W.exit rfl ?_
    refine W.seq (W.region (WL.mv rfl rfl (WL.mv rfl rfl (WL.cvK (T := Ty) rfl rfl rfl rfl (wrap_u8 ⟨by omega, by omega⟩) ?_))))
    refine WL.bsC (T := Ty) rfl rfl rfl rfl rfl rfl rfl (by repeat' first | exact CO.nil | apply CO.one (by first | rfl | exact SL.one (by assumption)) | apply CO.agg) rfl (by repeat' constructor) (fun u2 hu2 => ?_)
    refine WL.ap1 (T := Ty) (i := 0) rfl rfl rfl rfl rfl rfl rfl rfl (by assumption) (by first | rfl | assumption) (by first | omega | (simp; omega) | (simp only [List.length_drop, List.length_take]; omega)) (by first | omega | (simp; omega) | (simp only [List.length_drop, List.length_take]; omega)) (fun v' => (by repeat' constructor)) (fun u3 hu3 => ?_)
    refine WL.as rfl rfl (WL.nil ?_)
    refine W.ret1 rfl rfl (fun h p => ?_)
    have e2 : vputF k y = [y] := by cases k <;> simp [vputF]; omega
    rw [← h1, e2]
    simpa [bcell] using sepl_one.1 p

end Go.Proofs.YtdpnpipninggeaaGreatDoor
