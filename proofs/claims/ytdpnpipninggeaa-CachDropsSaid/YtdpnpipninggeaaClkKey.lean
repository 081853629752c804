/- A page's name of a number. -/
import Derived.Test.YtdpnpipninggeaaStc
import Derived.Test.YtdpnpipninggeaaNum
import Derived.Test.YtdpnpipninggeaaTab
import Derived.Test.YtdpnpipninggeaaClk11
set_option linter.unusedSimpArgs false
set_option linter.unusedVariables false
set_option maxRecDepth 20000
set_option maxHeartbeats 4000000
namespace Go.Proofs.Ytdpnpipninggeaa
open Go
def keyP (n : Int) : Ky := ⟨n % (1 + 1), n / 2 % (1 + 1), n / 4 % (7 + 1)⟩
attribute [local irreducible] W WL Fn Buf ROs SL eptr box Rd Src bndOK WD RB Reads In Own
theorem key15_c (ρ : Hp) (n : Int) : Fn Try.prog 17 #[.int .i64 n] ρ [] (Just (.agg #[.int .i64 (keyP n).a, .int .i64 (keyP n).b, .int .i64 (keyP n).c])) := by
 refine in17 rfl rfl ?_
 refine W.seq (W.region ?_)
 refine WL.alF (T := Ty) rfl rfl (by repeat' constructor) (fun b0 => ?_)
 refine WL.nil (W.seq (W.region (WL.mv rfl rfl (WL.andI rfl rfl rfl (by decide) (WL.mv rfl rfl (WL.shrS (c := 2) rfl rfl rfl (by omega) (by decide) (WL.andI rfl rfl rfl (by decide) (WL.mv rfl rfl (WL.shrS (c := 4) rfl rfl rfl (by omega) (by decide) (WL.andI rfl rfl rfl (by decide) ?_))))))))))
 refine WL.bdC (T := Ty) rfl rfl rfl rfl (by repeat' first | exact CO.nil | apply CO.one (by first | rfl | exact SL.one (by assumption)) | apply CO.agg) rfl (by repeat' constructor) ?_
 refine WL.stAO (T := Ty) (j := 0) rfl rfl rfl rfl (by repeat' first | exact AO.nil | apply AO.cons (by first | rfl | exact SL.one (by assumption))) rfl rfl (by repeat' constructor) (by repeat' constructor) ?_
 refine WL.nil ?_
 exact W.retC (T := Ty) (j := 0) rfl rfl rfl rfl rfl rfl (fun h q => ⟨rfl, q⟩)
end Go.Proofs.Ytdpnpipninggeaa
