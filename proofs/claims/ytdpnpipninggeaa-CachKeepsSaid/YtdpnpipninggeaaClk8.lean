/- Where a page is; a clock of its own memory. -/
import Derived.Test.YtdpnpipninggeaaStc
import Derived.Test.YtdpnpipninggeaaNum
import Derived.Test.YtdpnpipninggeaaTab
import Derived.Test.YtdpnpipninggeaaClk3
import Derived.Test.YtdpnpipninggeaaIdxF
import Derived.Test.YtdpnpipninggeaaStEq
set_option linter.unusedSimpArgs false
set_option linter.unusedVariables false
set_option maxRecDepth 20000
set_option maxHeartbeats 4000000
namespace Go.Proofs.Ytdpnpipninggeaa
open Go
def fndK (L : List Pg) (k : Ky) : Int := idxF (fun p : Pg => decide (p.key = k)) L
theorem fnd_lt (L : List Pg) (k : Ky) : fndK L k = -1 ∨ ∃ i p, fndK L k = ((i : Nat) : Int) ∧ L[i]? = some p ∧ p.key = k := by
 unfold fndK idxF
 split
 ·rename_i h
  refine .inr ⟨_, _, rfl, List.getElem?_eq_getElem h, ?_⟩
  have := List.findIdx_getElem (w := h)
  simpa using this
 ·exact .inl rfl
/-- a clock that is one's own -/
def OCk (c : Clk) (r : Value) : HP := fun h => ∃ v, (r = .agg #[.int .i64 c.most, .int .i64 c.target, v, .int .i64 (c.hot : Int), .int .i64 (c.cold : Int), .int .i64 (c.test : Int)] ∧ SL v c.pages.length) ∧ sepl [Buf 7 v (c.pages.flatMap pgC)] h
attribute [local irreducible] W WL Fn Buf ROs SL eptr box Rd Src bndOK WD RB Reads In Own handG handC cnt goesP fndK
theorem findK_c (ρ : Hp) (p : Pg) (b : Nat) (k : Ky) (hb : RB ρ b [.int .i64 k.a, .int .i64 k.b, .int .i64 k.c] 28) :
  Fn Try.prog 40 #[.agg (pgC p).toArray, pt b 0] ρ [] (Just (.bool (decide (p.key = k)))) := by
 refine in40 rfl rfl ?_
 unfold pgC
 refine W.seq (W.region ?_)
 refine WL.bxF rfl rfl (by repeat' constructor) (fun b0 => ?_)
 refine WL.as rfl rfl (WL.nil (W.seq (W.region (WL.faN (T := Ty) (off' := 0) rfl rfl rfl rfl rfl rfl rfl ?_))))
 refine WL.ldAF (T := Ty) (j := 0) rfl rfl rfl rfl rfl rfl (by repeat' constructor) ?_
 refine WL.ldABF (T := Ty) rfl rfl rfl rfl (by first | assumption | exact RB.wide (by assumption) | exact In.rb (by assumption)) rfl (by repeat' constructor) ?_
 refine WL.eqF (T := Ty) rfl rfl rfl rfl (by repeat' first | exact FE.nil | apply FE.int (by decide) rfl rfl rfl rfl | apply FE.bool (by decide) rfl rfl rfl rfl | apply FE.sub (by decide) rfl (by kernel_rfl) rfl rfl) (by kernel_rfl) (by kernel_rfl) ?_
 refine WL.as rfl rfl (WL.nil ?_)
 refine W.fit (Hs' := []) (by (repeat' first | exact Sel.nil | apply Sel.k | exact Pick.h | apply Pick.t)) (W.ret1 rfl rfl (fun h q => ⟨?_, q⟩))
 congr 1
 obtain ⟨⟨a, b, c⟩, kd, r, t, n⟩ := p
 obtain ⟨a', b', c'⟩ := k
 simp [Ky.mk.injEq]
theorem find15_c (ρ : Hp) (mo ta : Int) (v : Value) (L : List Pg) (h1 h2 h3 : Int) (a b c : Int) (r0 : ROs ρ 7 v (L.flatMap pgC)) (hl : L.length ≤ 1000000) :
  Fn Try.prog 31 #[.agg #[.int .i64 mo, .int .i64 ta, v, .int .i64 h1, .int .i64 h2, .int .i64 h3], .agg #[.int .i64 a, .int .i64 b, .int .i64 c]] ρ [] (Just (.int .i64 (fndK L ⟨a, b, c⟩))) := by
 have s0 : SL v L.length := r0.sl (pgs_cells L) (by omega)
 refine in31 rfl rfl ?_
 refine W.seq (W.region ?_)
 refine WL.bxF rfl rfl (by repeat' constructor) (fun b0 => ?_)
 refine WL.bxF rfl rfl (by repeat' constructor) (fun b1 => ?_)
 refine WL.as rfl rfl (WL.nil (W.seq (W.region (WL.faN (T := Ty) (off' := 2) rfl rfl rfl rfl rfl rfl rfl (WL.ldN (T := Ty) (j := 1) rfl rfl rfl rfl rfl rfl (WL.mkF rfl rfl ?_))))))
 skip
 refine WL.callV rfl rfl (fun x p d => idxP_c _ v pgC pg_len L (fun y => decide (y.key = (⟨a, b, c⟩ : Ky))) _ [pt b1 0] r0.wide (fun y hy => findK_c _ y b1 ⟨a, b, c⟩ (in_at 0 rfl p d).rb) (by omega)) ?_
 refine WL.as rfl rfl (WL.nil ?_)
 exact W.fit (Hs' := []) (by (repeat' first | exact Sel.nil | apply Sel.k | exact Pick.h | apply Pick.t)) (W.ret1 rfl rfl (fun h q => ⟨by unfold fndK; rfl, q⟩))
theorem still15_c (ρ : Hp) (mo ta : Int) (v : Value) (L : List Pg) (h1 h2 h3 : Int) (r0 : ROs ρ 7 v (L.flatMap pgC)) (hl : L.length ≤ 1000000) :
  Fn Try.prog 30 #[.agg #[.int .i64 mo, .int .i64 ta, v, .int .i64 h1, .int .i64 h2, .int .i64 h3]] ρ [] (fun r h => ∃ v, (r = .agg #[.int .i64 mo, .int .i64 ta, v, .int .i64 h1, .int .i64 h2, .int .i64 h3] ∧ SL v L.length) ∧ sepl [Buf 7 v (L.flatMap pgC)] h) := by
 have s0 : SL v L.length := r0.sl (pgs_cells L) (by omega)
 have l1 := pgs_cells L
 have ho := pgs_one L
 refine in30 rfl rfl ?_
 refine W.seq (W.region ?_)
 refine WL.bxF rfl rfl (by repeat' constructor) (fun b0 => ?_)
 refine WL.alF (T := Ty) rfl rfl (by repeat' constructor) (fun b1 => ?_)
 refine WL.nil (W.seq (W.region (WL.faN (T := Ty) (off' := 2) rfl rfl rfl rfl rfl rfl rfl (WL.ldN (T := Ty) (j := 1) rfl rfl rfl rfl rfl rfl ?_))))
 refine WL.callF rfl rfl (fun x p d => cloneG_c _ _ _ _ (by first | assumption | exact ROs.wide (by assumption) | exact ROs.mono (by assumption) (eqh_at 0 rfl p d) | exact ros_at 0 rfl p d | exact ros_at 1 rfl p d | exact ros_at 2 rfl p d | exact ros_at 3 rfl p d | exact ros_at 4 rfl p d) (by assumption) (by assumption) (by first | assumption | omega)) (fun u2 => ?_)
 refine WL.fact (i := 0) rfl (fun h hb => hb.sl (by assumption) (by omega)) (fun hsl2 => ?_)
 refine WL.callP 0 rfl rfl rfl (fun x p d => clipG_c _ _ _ _ (by assumption)) (by repeat' constructor) (fun u3 => ?_)
 refine WL.fact (i := 0) rfl (fun h hb => hb.sl (by assumption) (by omega)) (fun hsl3 => ?_)
 refine WL.faN (T := Ty) (off' := 2) rfl rfl rfl rfl rfl rfl rfl ?_
 refine WL.stF (T := Ty) (j := 2) rfl rfl rfl rfl (SL.one (by assumption)) rfl rfl (by repeat' constructor) (by repeat' constructor) ?_
 refine WL.nil (W.seq (W.region ?_))
 refine WL.ldAF (T := Ty) (j := 2) rfl rfl rfl rfl rfl rfl (by repeat' constructor) ?_
 refine WL.stAO (T := Ty) (j := 1) rfl rfl rfl rfl (by repeat' first | exact AO.nil | apply AO.cons (by first | rfl | exact SL.one (by assumption))) rfl rfl (by repeat' constructor) (by repeat' constructor) ?_
 refine WL.nil ?_
 exact W.fit (Hs' := [box b1 _ _, Buf 7 u3 _]) (by (repeat' first | exact Sel.nil | apply Sel.k | exact Pick.h | apply Pick.t)) (W.retC (T := Ty) (j := 0) rfl rfl rfl rfl rfl rfl (fun h q => ⟨u3, ⟨rfl, by assumption⟩, q⟩))
end Go.Proofs.Ytdpnpipninggeaa
