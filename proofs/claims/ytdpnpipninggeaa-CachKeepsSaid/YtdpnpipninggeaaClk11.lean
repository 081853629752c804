/- A new clock; whether two clocks are the same. -/
import Derived.Test.YtdpnpipninggeaaStc
import Derived.Test.YtdpnpipninggeaaNum
import Derived.Test.YtdpnpipninggeaaTab
import Derived.Test.YtdpnpipninggeaaClk10
import Derived.Test.YtdpnpipninggeaaMEq
set_option linter.unusedSimpArgs false
set_option linter.unusedVariables false
set_option maxRecDepth 20000
set_option maxHeartbeats 4000000
namespace Go.Proofs.Ytdpnpipninggeaa
open Go
def samePs (a b : List Pg) : Bool := decide (a = b)
def newP (m : Int) : Clk := ⟨min (max m 1) 1000, 1, [], 0, 0, 0⟩
/-- whether two clocks are the same -/
def sameC (a b : Clk) : Bool := decide (a.most = b.most) && (decide (a.target = b.target) && (decide ((a.hot : Int) = (b.hot : Int)) && (decide ((a.cold : Int) = (b.cold : Int)) && (decide ((a.test : Int) = (b.test : Int)) && samePs a.pages b.pages))))
attribute [local irreducible] W WL Fn Buf ROs SL eptr box Rd Src bndOK WD RB Reads In Own
theorem new15_c (ρ : Hp) (m : Int) : Fn Try.prog 19 #[.int .i64 m] ρ [] (Just (.agg #[.int .i64 (min (max m 1) 1000), .int .i64 1, nilV, .int .i64 0, .int .i64 0, .int .i64 0])) := by
 refine in19 rfl rfl ?_
 refine W.seq (W.region ?_)
 refine WL.alF (T := Ty) rfl rfl (by repeat' constructor) (fun b0 => ?_)
 refine WL.nil (W.seq (W.region (WL.mv rfl rfl (WL.mx rfl rfl rfl (WL.mn rfl rfl rfl ?_)))))
 refine WL.bdC (T := Ty) rfl rfl rfl rfl (by repeat' first | exact CO.nil | apply CO.one (by first | rfl | exact SL.one (by assumption)) | apply CO.agg) rfl (by repeat' constructor) ?_
 refine WL.stAO (T := Ty) (j := 0) rfl rfl rfl rfl (by repeat' first | exact AO.nil | apply AO.cons (by first | rfl | exact SL.one (by assumption))) rfl rfl (by repeat' constructor) (by repeat' constructor) ?_
 refine WL.nil ?_
 exact W.retC (T := Ty) (j := 0) rfl rfl rfl rfl rfl rfl (fun h q => ⟨rfl, q⟩)
theorem new15q_c (ρ : Hp) (m : Int) : Fn Try.prog 19 #[.int .i64 m] ρ [] (Just (.agg #[.int .i64 (newP m).most, .int .i64 (newP m).target, nilV, .int .i64 (((newP m).hot : Nat) : Int), .int .i64 (((newP m).cold : Nat) : Int), .int .i64 (((newP m).test : Nat) : Int)])) := new15_c ρ m
end Go.Proofs.Ytdpnpipninggeaa
