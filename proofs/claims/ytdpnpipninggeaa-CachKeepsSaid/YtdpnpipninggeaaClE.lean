/- slices.Clone and slices.Clip of series, iterators, pages, samples: what they do. -/
import Derived.Test.YtdpnpipninggeaaStc
import Derived.Test.YtdpnpipninggeaaNum
import Derived.Test.YtdpnpipninggeaaTab
set_option linter.unusedSimpArgs false
set_option linter.unusedVariables false
set_option maxRecDepth 20000
namespace Go.Proofs.Ytdpnpipninggeaa
open Go
attribute [local irreducible] W WL Fn Buf ROs SL eptr box Rd Src bndOK WD RB

theorem ros_isNil {ρ : Hp} {sz : Nat} {v : Value} {cs : List Value} (hv : ROs ρ sz v cs) (hn : isNil v = true) : cs = [] := by
  unfold ROs at hv
  rcases hv with ⟨_, h⟩ | ⟨a, rfl, h⟩ | ⟨b, off, m, c, buf, T, fr, rfl, _⟩
  · exact h
  · exact h
  · simp [isNil] at hn
theorem cloneG_c (ρ : Hp) (v : Value) (cs : List Value) (n : Nat) (hv : ROs ρ 7 v cs) (hl : cs.length = n * 7) (h1 : ∀ q ∈ cs, q.oneCell' = true) (hb : n ≤ 100000000000) :
    Fn Try.prog 23 #[v] ρ [] (fun r => Buf 7 r cs) := by
  refine in23 rfl rfl ?_
  have hs : SL v n := hv.sl hl (by omega)
  refine W.seq (W.region (WL.as rfl rfl (WL.nil (W.seq (W.seq (W.region (WL.mv rfl rfl ?_)))))))
  refine WL.eqN (T := Ty) rfl rfl (by assumption) rfl ?_
  refine WL.nil ?_
  refine W.cond rfl (fun hnil => ?_) (fun _ => ?_)
  · refine W.seq ?_
    refine W.region (WL.as rfl rfl (WL.nil (W.nb (sz := 7) ?_)))
    refine W.ret1 rfl rfl (fun h p => ?_)
    rw [ros_isNil hv hnil]
    exact sepl_one.1 p
  · refine W.skip ?_
    refine W.seq (W.region ?_)
    refine WL.bsC (T := Ty) rfl rfl rfl rfl rfl rfl rfl (by repeat' first | exact CO.nil | apply CO.one (by first | rfl | exact SL.one (by assumption)) | apply CO.agg) rfl (by repeat' constructor) (fun u0 hu0 => ?_)
    refine WL.mv rfl rfl ?_
    refine WL.ap (T := Ty) (i := 0) (n := 0) rfl rfl rfl rfl rfl rfl rfl rfl (by first | exact .ro (by assumption) | exact .ro (ROs.wide (by assumption)) | exact .eqJ 0 rfl (by assumption) | exact .own 0 rfl | exact .own 1 rfl | exact .own 2 rfl | exact .own 3 rfl | exact .own 4 rfl | exact .own 5 rfl) (by first | assumption | exact ROs.slm (by assumption)) rfl (by assumption) (by assumption) (by first | omega | (simp; omega) | (simp only [List.length_drop, List.length_take]; omega)) (by unfold maxLen; first | omega | (simp only [List.length_drop, List.length_take]; omega)) (fun v' => (by repeat' constructor)) (fun u1 hu1 => ?_)
    refine WL.as rfl rfl (WL.nil ?_)
    exact W.ret1 rfl rfl (fun h p => sepl_one.1 p)
theorem cloneM_c (ρ : Hp) (v : Value) (cs : List Value) (n : Nat) (hv : ROs ρ 2 v cs) (hl : cs.length = n * 2) (h1 : ∀ q ∈ cs, q.oneCell' = true) (hb : n ≤ 100000000000) :
    Fn Try.prog 21 #[v] ρ [] (fun r => Buf 2 r cs) := by
  refine in21 rfl rfl ?_
  have hs : SL v n := hv.sl hl (by omega)
  refine W.seq (W.region (WL.as rfl rfl (WL.nil (W.seq (W.seq (W.region (WL.mv rfl rfl ?_)))))))
  refine WL.eqN (T := Ty) rfl rfl (by assumption) rfl ?_
  refine WL.nil ?_
  refine W.cond rfl (fun hnil => ?_) (fun _ => ?_)
  · refine W.seq ?_
    refine W.region (WL.as rfl rfl (WL.nil (W.nb (sz := 2) ?_)))
    refine W.ret1 rfl rfl (fun h p => ?_)
    rw [ros_isNil hv hnil]
    exact sepl_one.1 p
  · refine W.skip ?_
    refine W.seq (W.region ?_)
    refine WL.bsC (T := Ty) rfl rfl rfl rfl rfl rfl rfl (by repeat' first | exact CO.nil | apply CO.one (by first | rfl | exact SL.one (by assumption)) | apply CO.agg) rfl (by repeat' constructor) (fun u0 hu0 => ?_)
    refine WL.mv rfl rfl ?_
    refine WL.ap (T := Ty) (i := 0) (n := 0) rfl rfl rfl rfl rfl rfl rfl rfl (by first | exact .ro (by assumption) | exact .ro (ROs.wide (by assumption)) | exact .eqJ 0 rfl (by assumption) | exact .own 0 rfl | exact .own 1 rfl | exact .own 2 rfl | exact .own 3 rfl | exact .own 4 rfl | exact .own 5 rfl) (by first | assumption | exact ROs.slm (by assumption)) rfl (by assumption) (by assumption) (by first | omega | (simp; omega) | (simp only [List.length_drop, List.length_take]; omega)) (by unfold maxLen; first | omega | (simp only [List.length_drop, List.length_take]; omega)) (fun v' => (by repeat' constructor)) (fun u1 hu1 => ?_)
    refine WL.as rfl rfl (WL.nil ?_)
    exact W.ret1 rfl rfl (fun h p => sepl_one.1 p)
theorem clipG_c (ρ : Hp) (v : Value) (cs : List Value) (n : Nat) (hl : cs.length = n * 7) :
    Fn Try.prog 38 #[v] ρ [Buf 7 v cs] (fun r => Buf 7 r cs) := by
  refine in38 rfl rfl ?_
  refine W.fact (i := 0) rfl (fun h hb => hb.sl hl (by omega)) fun hs => ?_
  refine W.seq (W.region (WL.as rfl rfl (WL.nil (W.seq (W.region (WL.mv rfl rfl (WL.mv rfl rfl ?_)))))))
  refine WL.len (T := Ty) rfl rfl (by assumption) rfl ?_
  refine WL.mv rfl rfl ?_
  refine WL.len (T := Ty) rfl rfl (by assumption) rfl ?_
  refine WL.clip (T := Ty) rfl rfl rfl rfl rfl rfl rfl (j := 0) rfl hl (fun u => by repeat' first | exact FL.nil | apply FL.cons) (fun u hu => ?_)
  refine WL.as rfl rfl (WL.nil ?_)
  exact W.ret1 rfl rfl (fun h p => sepl_one.1 p)
end Go.Proofs.Ytdpnpipninggeaa
