/- A page goes; a page comes. -/
import Derived.Test.YtdpnpipninggeaaStc
import Derived.Test.YtdpnpipninggeaaNum
import Derived.Test.YtdpnpipninggeaaTab
import Derived.Test.YtdpnpipninggeaaClk1
set_option linter.unusedSimpArgs false
set_option linter.unusedVariables false
set_option maxRecDepth 20000
set_option maxHeartbeats 4000000
namespace Go.Proofs.Ytdpnpipninggeaa
open Go
attribute [local irreducible] W WL Fn Buf ROs SL eptr box Rd Src bndOK WD RB Reads In Own handG handC
theorem goes_c (ρ : Hp) (b : Nat) (mo ta : Int) (v : Value) (L : List Pg) (h1 h2 h3 i : Nat) (hi : i < L.length) (hl : L.length ≤ 1000000) (sv : SL v L.length) (b1 : h1 ≤ 1000000) (b2 : h2 ≤ 1000000) (b3 : h3 ≤ 1000000) :
    Fn Try.prog 32 #[pt b 0, .int .i64 (i : Int)] ρ [box b [.int .i64 mo, .int .i64 ta, v, .int .i64 (h1 : Int), .int .i64 (h2 : Int), .int .i64 (h3 : Int)] 36, Buf 7 v (L.flatMap pgC)] (CkR b (goesP ⟨mo, ta, L, h1, h2, h3⟩ i)) := by
  have l1 := pgs_cells L
  have ho := pgs_one L
  refine in32 rfl rfl ?_
  refine W.seq (W.region (WL.mv rfl rfl (WL.mv rfl rfl (WL.nc rfl rfl (WL.faN (T := Ty) (off' := 2) rfl rfl rfl rfl rfl rfl rfl (WL.ldN (T := Ty) (j := 0) rfl rfl rfl rfl rfl rfl (WL.mv rfl rfl (WL.mv rfl rfl (WL.addK rfl rfl rfl (wrap_i64 ⟨by omega, by omega⟩) ?_)))))))))
  rw [show (i : Int) + 1 = ((i + 1 : Nat) : Int) by omega]
  refine WL.callP 1 rfl rfl rfl (fun x p d => delP_c _ _ _ _ _ _ (by assumption) (by first | assumption | omega) (by first | assumption | omega) (by assumption) (by first | assumption | omega)) (by repeat' constructor) (fun u4 => ?_)
  refine WL.fact (i := 0) rfl (fun h hb => hb.sl (del_cells (by assumption) (by first | assumption | omega) (by first | assumption | omega)) (by omega)) (fun hsl4 => ?_)
  refine WL.nc rfl rfl (WL.faN (T := Ty) (off' := 2) rfl rfl rfl rfl rfl rfl rfl ?_)
  refine WL.stF (T := Ty) (j := 1) rfl rfl rfl rfl (SL.one (by assumption)) rfl rfl (by repeat' constructor) (by repeat' constructor) ?_
  refine WL.nil (W.seq (W.region (WL.mv rfl rfl ?_)))
  refine WL.callF rfl rfl (fun x p d => hands_c _ _) (fun u5 => ?_)
  refine WL.fact (i := 0) rfl (fun h hb => Buf.sl (n := 3) hb rfl (by decide)) (fun hsl5 => ?_)
  refine WL.len (T := Ty) rfl rfl (by assumption) rfl ?_
  refine WL.mv rfl rfl (WL.nil (W.block ?_))
  rw [flat_del pg_len]
  -- LOOP
  have su4 : SL u4 (L.length - 1) := by simpa using hsl4
  clear hsl4
  refine W.loopR (σ := Nat × Nat × Nat × Nat) (fun s => [(0, pt b 0), (1, .int .i64 (i : Int)), (18, u5), (19, .int .i64 ((3 : Nat) : Int)), (20, .int .i64 (s.1 : Int))])
    (fun s => [Buf 1 u5 [pt b 3, pt b 4, pt b 5], Buf 7 u4 ((L.take i ++ L.drop (i + 1)).flatMap pgC), box b [.int .i64 mo, .int .i64 ta, u4, .int .i64 (s.2.1 : Int), .int .i64 (s.2.2.1 : Int), .int .i64 (s.2.2.2 : Int)] 36])
    (fun s ρ' => s.1 ≤ 3 ∧ s.2.1 = (if 0 < s.1 then handG (L.length - 1) i h1 else h1) ∧ s.2.2.1 = (if 1 < s.1 then handG (L.length - 1) i h2 else h2) ∧ s.2.2.2 = (if 2 < s.1 then handG (L.length - 1) i h3 else h3)) (fun s => 3 - s.1)
    (0, h1, h2, h3) ⟨rfl, rfl, rfl, rfl, rfl, trivial⟩ rfl ⟨Nat.zero_le _, rfl, rfl, rfl⟩ ?_
  rintro ⟨j, x1, x2, x3⟩ ρ1 le1 ⟨hj, e1, e2, e3⟩ next
  dsimp only at hj e1 e2 e3
  match j, hj, e1, e2, e3 with
  | 0, _, e1, e2, e3 =>
    have e1 : x1 = h1 := e1
    have e2 : x2 = h2 := e2
    have e3 : x3 = h3 := e3
    subst x1
    subst x2
    subst x3
    dsimp only
    have g0 : ([pt b 3, pt b 4, pt b 5] : List Value)[((0 : Nat) : Int).toNat * 1]? = some (pt b 3) := rfl
    by_cases c1 : i < h1
    · by_cases c2 : L.length - 1 ≤ h1 - 1
      · refine W.seq ?_
        refine W.region (WL.lss rfl rfl rfl (WL.nil (W.seq (W.condT rfl (W.skip (W.seq (W.block (W.seq (W.region ?_)))))))))
        refine WL.ix (T := Ty) rfl rfl rfl (by assumption) rfl rfl (by omega) (by first | omega | decide +kernel) ?_
        refine WL.ldE (T := Ty) (j := 0) rfl rfl rfl rfl rfl (by assumption) ?_
        refine WL.as rfl rfl (WL.nil (W.seq (W.seq (W.region (WL.mv rfl rfl (WL.nc rfl rfl (WL.ldN (T := Ty) (j := 2) rfl rfl rfl rfl rfl rfl (WL.mv rfl rfl (WL.gtr rfl rfl rfl (WL.nil (W.condpT rfl (by omega) (W.region (WL.mv rfl rfl ?_)))))))))))))
        refine WL.nc rfl rfl (WL.ldN (T := Ty) (j := 2) rfl rfl rfl rfl rfl rfl (WL.subK rfl rfl rfl (wrap_i64 ⟨by omega, by omega⟩) (WL.nc rfl rfl ?_)))
        refine WL.stF (T := Ty) (j := 2) rfl rfl rfl rfl rfl rfl rfl (by repeat' constructor) (by repeat' constructor) ?_
        refine WL.nil (W.seq ?_)
        refine W.drawA 9 rfl (fun σ0 hσ0 dσ0 => ?_)
        have fσ0_0 := ros_at 0 rfl hσ0 dσ0
        have fσ0_1 := ros_at 1 rfl hσ0 dσ0
        have fσ0_2 := rb_at 2 rfl hσ0 dσ0
        refine WD.takeL 0 rfl (by decide +kernel) (WL.mv rfl rfl (WL.nilT (WD.takeL 1 rfl (by decide +kernel) (WL.nc rfl rfl (WL.nilT (WD.takeL 2 rfl (by decide +kernel) ?_))))))
        refine WL.ldBN (T := Ty) rfl rfl rfl rfl (by first | assumption | exact RB.wide (by assumption) | exact In.rb (by assumption)) rfl ?_
        refine WL.nilT (WD.takeL 3 rfl (by decide +kernel) (WL.mv rfl rfl (WL.nilT (WD.takeL 4 rfl (by decide +kernel) (WL.nc rfl rfl (WL.nilT (WD.takeL 5 rfl (by decide +kernel) (WL.faN (T := Ty) (off' := 2) rfl rfl rfl rfl rfl rfl rfl (WL.nilT (WD.takeL 6 rfl (by decide +kernel) ?_))))))))))
        refine WL.ldBN (T := Ty) rfl rfl rfl rfl (by first | assumption | exact RB.wide (by assumption) | exact In.rb (by assumption)) rfl ?_
        refine WL.nilT (WD.takeL 7 rfl (by decide +kernel) ?_)
        refine WL.len (T := Ty) rfl rfl (by assumption) rfl ?_
        refine WL.nilT (WD.takeL 8 rfl (by decide +kernel) (WL.geq rfl rfl rfl (WL.nilT ?_)))
        refine WD.doneF hσ0 (by decide +kernel) (by repeat' constructor) ?_
        refine W.condpT rfl (by omega) (W.region (WL.mv rfl rfl (WL.nc rfl rfl ?_)))
        refine WL.stF (T := Ty) (j := 2) rfl rfl rfl rfl rfl rfl rfl (by repeat' constructor) (by repeat' constructor) ?_
        refine WL.nil (W.inBlock (W.region (WL.addK rfl rfl rfl (wrap_i64 ⟨by omega, by omega⟩) (WL.mv rfl rfl (WL.nil ?_)))))
        have hg : handG (L.length - 1) i h1 = 0 := by unfold handG; rw [if_pos c1, if_pos c2]
        refine W.fit (Hs' := [Buf 1 u5 _, Buf 7 u4 _, box b _ _]) (by (repeat' first | exact Sel.nil | apply Sel.k | exact Pick.h | apply Pick.t)) (W.sub ?_ (next ⟨1, 0, h2, h3⟩ ρ1 (Le.refl _) ⟨by dsimp only; omega, hg.symm, rfl, rfl⟩ (by dsimp only; omega)))
        exact ⟨rfl, rfl, rfl, rfl, rfl, trivial⟩
      · refine W.seq ?_
        refine W.region (WL.lss rfl rfl rfl (WL.nil (W.seq (W.condT rfl (W.skip (W.seq (W.block (W.seq (W.region ?_)))))))))
        refine WL.ix (T := Ty) rfl rfl rfl (by assumption) rfl rfl (by omega) (by first | omega | decide +kernel) ?_
        refine WL.ldE (T := Ty) (j := 0) rfl rfl rfl rfl rfl (by assumption) ?_
        refine WL.as rfl rfl (WL.nil (W.seq (W.seq (W.region (WL.mv rfl rfl (WL.nc rfl rfl (WL.ldN (T := Ty) (j := 2) rfl rfl rfl rfl rfl rfl (WL.mv rfl rfl (WL.gtr rfl rfl rfl (WL.nil (W.condpT rfl (by omega) (W.region (WL.mv rfl rfl ?_)))))))))))))
        refine WL.nc rfl rfl (WL.ldN (T := Ty) (j := 2) rfl rfl rfl rfl rfl rfl (WL.subK rfl rfl rfl (wrap_i64 ⟨by omega, by omega⟩) (WL.nc rfl rfl ?_)))
        refine WL.stF (T := Ty) (j := 2) rfl rfl rfl rfl rfl rfl rfl (by repeat' constructor) (by repeat' constructor) ?_
        refine WL.nil (W.seq ?_)
        refine W.drawA 9 rfl (fun σ0 hσ0 dσ0 => ?_)
        have fσ0_0 := ros_at 0 rfl hσ0 dσ0
        have fσ0_1 := ros_at 1 rfl hσ0 dσ0
        have fσ0_2 := rb_at 2 rfl hσ0 dσ0
        refine WD.takeL 0 rfl (by decide +kernel) (WL.mv rfl rfl (WL.nilT (WD.takeL 1 rfl (by decide +kernel) (WL.nc rfl rfl (WL.nilT (WD.takeL 2 rfl (by decide +kernel) ?_))))))
        refine WL.ldBN (T := Ty) rfl rfl rfl rfl (by first | assumption | exact RB.wide (by assumption) | exact In.rb (by assumption)) rfl ?_
        refine WL.nilT (WD.takeL 3 rfl (by decide +kernel) (WL.mv rfl rfl (WL.nilT (WD.takeL 4 rfl (by decide +kernel) (WL.nc rfl rfl (WL.nilT (WD.takeL 5 rfl (by decide +kernel) (WL.faN (T := Ty) (off' := 2) rfl rfl rfl rfl rfl rfl rfl (WL.nilT (WD.takeL 6 rfl (by decide +kernel) ?_))))))))))
        refine WL.ldBN (T := Ty) rfl rfl rfl rfl (by first | assumption | exact RB.wide (by assumption) | exact In.rb (by assumption)) rfl ?_
        refine WL.nilT (WD.takeL 7 rfl (by decide +kernel) ?_)
        refine WL.len (T := Ty) rfl rfl (by assumption) rfl ?_
        refine WL.nilT (WD.takeL 8 rfl (by decide +kernel) (WL.geq rfl rfl rfl (WL.nilT ?_)))
        refine WD.doneF hσ0 (by decide +kernel) (by repeat' constructor) ?_
        refine W.condpF rfl (by omega) (W.skip (W.inBlock (W.region (WL.addK rfl rfl rfl (wrap_i64 ⟨by omega, by omega⟩) (WL.mv rfl rfl (WL.nil ?_))))))
        rw [show (h1 : Int) - 1 = ((h1 - 1 : Nat) : Int) by omega]
        have hg : handG (L.length - 1) i h1 = (h1 - 1) := by unfold handG; rw [if_pos c1, if_neg c2]
        refine W.fit (Hs' := [Buf 1 u5 _, Buf 7 u4 _, box b _ _]) (by (repeat' first | exact Sel.nil | apply Sel.k | exact Pick.h | apply Pick.t)) (W.sub ?_ (next ⟨1, (h1 - 1), h2, h3⟩ ρ1 (Le.refl _) ⟨by dsimp only; omega, hg.symm, rfl, rfl⟩ (by dsimp only; omega)))
        exact ⟨rfl, rfl, rfl, rfl, rfl, trivial⟩
    · by_cases c2 : L.length - 1 ≤ h1
      · refine W.seq ?_
        refine W.region (WL.lss rfl rfl rfl (WL.nil (W.seq (W.condT rfl (W.skip (W.seq (W.block (W.seq (W.region ?_)))))))))
        refine WL.ix (T := Ty) rfl rfl rfl (by assumption) rfl rfl (by omega) (by first | omega | decide +kernel) ?_
        refine WL.ldE (T := Ty) (j := 0) rfl rfl rfl rfl rfl (by assumption) ?_
        refine WL.as rfl rfl (WL.nil (W.seq (W.seq (W.region (WL.mv rfl rfl (WL.nc rfl rfl (WL.ldN (T := Ty) (j := 2) rfl rfl rfl rfl rfl rfl (WL.mv rfl rfl (WL.gtr rfl rfl rfl (WL.nil (W.condpF rfl (by omega) (W.skip (W.seq ?_)))))))))))))
        refine W.drawA 9 rfl (fun σ0 hσ0 dσ0 => ?_)
        have fσ0_0 := ros_at 0 rfl hσ0 dσ0
        have fσ0_1 := ros_at 1 rfl hσ0 dσ0
        have fσ0_2 := rb_at 2 rfl hσ0 dσ0
        refine WD.takeL 0 rfl (by decide +kernel) (WL.mv rfl rfl (WL.nilT (WD.takeL 1 rfl (by decide +kernel) (WL.nc rfl rfl (WL.nilT (WD.takeL 2 rfl (by decide +kernel) ?_))))))
        refine WL.ldBN (T := Ty) rfl rfl rfl rfl (by first | assumption | exact RB.wide (by assumption) | exact In.rb (by assumption)) rfl ?_
        refine WL.nilT (WD.takeL 3 rfl (by decide +kernel) (WL.mv rfl rfl (WL.nilT (WD.takeL 4 rfl (by decide +kernel) (WL.nc rfl rfl (WL.nilT (WD.takeL 5 rfl (by decide +kernel) (WL.faN (T := Ty) (off' := 2) rfl rfl rfl rfl rfl rfl rfl (WL.nilT (WD.takeL 6 rfl (by decide +kernel) ?_))))))))))
        refine WL.ldBN (T := Ty) rfl rfl rfl rfl (by first | assumption | exact RB.wide (by assumption) | exact In.rb (by assumption)) rfl ?_
        refine WL.nilT (WD.takeL 7 rfl (by decide +kernel) ?_)
        refine WL.len (T := Ty) rfl rfl (by assumption) rfl ?_
        refine WL.nilT (WD.takeL 8 rfl (by decide +kernel) (WL.geq rfl rfl rfl (WL.nilT ?_)))
        refine WD.doneF hσ0 (by decide +kernel) (by repeat' constructor) ?_
        refine W.condpT rfl (by omega) (W.region (WL.mv rfl rfl (WL.nc rfl rfl ?_)))
        refine WL.stF (T := Ty) (j := 2) rfl rfl rfl rfl rfl rfl rfl (by repeat' constructor) (by repeat' constructor) ?_
        refine WL.nil (W.inBlock (W.region (WL.addK rfl rfl rfl (wrap_i64 ⟨by omega, by omega⟩) (WL.mv rfl rfl (WL.nil ?_)))))
        have hg : handG (L.length - 1) i h1 = 0 := by unfold handG; rw [if_neg c1, if_pos c2]
        refine W.fit (Hs' := [Buf 1 u5 _, Buf 7 u4 _, box b _ _]) (by (repeat' first | exact Sel.nil | apply Sel.k | exact Pick.h | apply Pick.t)) (W.sub ?_ (next ⟨1, 0, h2, h3⟩ ρ1 (Le.refl _) ⟨by dsimp only; omega, hg.symm, rfl, rfl⟩ (by dsimp only; omega)))
        exact ⟨rfl, rfl, rfl, rfl, rfl, trivial⟩
      · refine W.seq ?_
        refine W.region (WL.lss rfl rfl rfl (WL.nil (W.seq (W.condT rfl (W.skip (W.seq (W.block (W.seq (W.region ?_)))))))))
        refine WL.ix (T := Ty) rfl rfl rfl (by assumption) rfl rfl (by omega) (by first | omega | decide +kernel) ?_
        refine WL.ldE (T := Ty) (j := 0) rfl rfl rfl rfl rfl (by assumption) ?_
        refine WL.as rfl rfl (WL.nil (W.seq (W.seq (W.region (WL.mv rfl rfl (WL.nc rfl rfl (WL.ldN (T := Ty) (j := 2) rfl rfl rfl rfl rfl rfl (WL.mv rfl rfl (WL.gtr rfl rfl rfl (WL.nil (W.condpF rfl (by omega) (W.skip (W.seq ?_)))))))))))))
        refine W.drawA 9 rfl (fun σ0 hσ0 dσ0 => ?_)
        have fσ0_0 := ros_at 0 rfl hσ0 dσ0
        have fσ0_1 := ros_at 1 rfl hσ0 dσ0
        have fσ0_2 := rb_at 2 rfl hσ0 dσ0
        refine WD.takeL 0 rfl (by decide +kernel) (WL.mv rfl rfl (WL.nilT (WD.takeL 1 rfl (by decide +kernel) (WL.nc rfl rfl (WL.nilT (WD.takeL 2 rfl (by decide +kernel) ?_))))))
        refine WL.ldBN (T := Ty) rfl rfl rfl rfl (by first | assumption | exact RB.wide (by assumption) | exact In.rb (by assumption)) rfl ?_
        refine WL.nilT (WD.takeL 3 rfl (by decide +kernel) (WL.mv rfl rfl (WL.nilT (WD.takeL 4 rfl (by decide +kernel) (WL.nc rfl rfl (WL.nilT (WD.takeL 5 rfl (by decide +kernel) (WL.faN (T := Ty) (off' := 2) rfl rfl rfl rfl rfl rfl rfl (WL.nilT (WD.takeL 6 rfl (by decide +kernel) ?_))))))))))
        refine WL.ldBN (T := Ty) rfl rfl rfl rfl (by first | assumption | exact RB.wide (by assumption) | exact In.rb (by assumption)) rfl ?_
        refine WL.nilT (WD.takeL 7 rfl (by decide +kernel) ?_)
        refine WL.len (T := Ty) rfl rfl (by assumption) rfl ?_
        refine WL.nilT (WD.takeL 8 rfl (by decide +kernel) (WL.geq rfl rfl rfl (WL.nilT ?_)))
        refine WD.doneF hσ0 (by decide +kernel) (by repeat' constructor) ?_
        refine W.condpF rfl (by omega) (W.skip (W.inBlock (W.region (WL.addK rfl rfl rfl (wrap_i64 ⟨by omega, by omega⟩) (WL.mv rfl rfl (WL.nil ?_))))))
        have hg : handG (L.length - 1) i h1 = h1 := by unfold handG; rw [if_neg c1, if_neg c2]
        refine W.fit (Hs' := [Buf 1 u5 _, Buf 7 u4 _, box b _ _]) (by (repeat' first | exact Sel.nil | apply Sel.k | exact Pick.h | apply Pick.t)) (W.sub ?_ (next ⟨1, h1, h2, h3⟩ ρ1 (Le.refl _) ⟨by dsimp only; omega, hg.symm, rfl, rfl⟩ (by dsimp only; omega)))
        exact ⟨rfl, rfl, rfl, rfl, rfl, trivial⟩
  | 1, _, e1, e2, e3 =>
    have e1 : x1 = handG (L.length - 1) i h1 := e1
    have e2 : x2 = h2 := e2
    have e3 : x3 = h3 := e3
    subst x1
    subst x2
    subst x3
    dsimp only
    have g0 : ([pt b 3, pt b 4, pt b 5] : List Value)[((1 : Nat) : Int).toNat * 1]? = some (pt b 4) := rfl
    by_cases c1 : i < h2
    · by_cases c2 : L.length - 1 ≤ h2 - 1
      · refine W.seq ?_
        refine W.region (WL.lss rfl rfl rfl (WL.nil (W.seq (W.condT rfl (W.skip (W.seq (W.block (W.seq (W.region ?_)))))))))
        refine WL.ix (T := Ty) rfl rfl rfl (by assumption) rfl rfl (by omega) (by first | omega | decide +kernel) ?_
        refine WL.ldE (T := Ty) (j := 0) rfl rfl rfl rfl rfl (by assumption) ?_
        refine WL.as rfl rfl (WL.nil (W.seq (W.seq (W.region (WL.mv rfl rfl (WL.nc rfl rfl (WL.ldN (T := Ty) (j := 2) rfl rfl rfl rfl rfl rfl (WL.mv rfl rfl (WL.gtr rfl rfl rfl (WL.nil (W.condpT rfl (by omega) (W.region (WL.mv rfl rfl ?_)))))))))))))
        refine WL.nc rfl rfl (WL.ldN (T := Ty) (j := 2) rfl rfl rfl rfl rfl rfl (WL.subK rfl rfl rfl (wrap_i64 ⟨by omega, by omega⟩) (WL.nc rfl rfl ?_)))
        refine WL.stF (T := Ty) (j := 2) rfl rfl rfl rfl rfl rfl rfl (by repeat' constructor) (by repeat' constructor) ?_
        refine WL.nil (W.seq ?_)
        refine W.drawA 9 rfl (fun σ0 hσ0 dσ0 => ?_)
        have fσ0_0 := ros_at 0 rfl hσ0 dσ0
        have fσ0_1 := ros_at 1 rfl hσ0 dσ0
        have fσ0_2 := rb_at 2 rfl hσ0 dσ0
        refine WD.takeL 0 rfl (by decide +kernel) (WL.mv rfl rfl (WL.nilT (WD.takeL 1 rfl (by decide +kernel) (WL.nc rfl rfl (WL.nilT (WD.takeL 2 rfl (by decide +kernel) ?_))))))
        refine WL.ldBN (T := Ty) rfl rfl rfl rfl (by first | assumption | exact RB.wide (by assumption) | exact In.rb (by assumption)) rfl ?_
        refine WL.nilT (WD.takeL 3 rfl (by decide +kernel) (WL.mv rfl rfl (WL.nilT (WD.takeL 4 rfl (by decide +kernel) (WL.nc rfl rfl (WL.nilT (WD.takeL 5 rfl (by decide +kernel) (WL.faN (T := Ty) (off' := 2) rfl rfl rfl rfl rfl rfl rfl (WL.nilT (WD.takeL 6 rfl (by decide +kernel) ?_))))))))))
        refine WL.ldBN (T := Ty) rfl rfl rfl rfl (by first | assumption | exact RB.wide (by assumption) | exact In.rb (by assumption)) rfl ?_
        refine WL.nilT (WD.takeL 7 rfl (by decide +kernel) ?_)
        refine WL.len (T := Ty) rfl rfl (by assumption) rfl ?_
        refine WL.nilT (WD.takeL 8 rfl (by decide +kernel) (WL.geq rfl rfl rfl (WL.nilT ?_)))
        refine WD.doneF hσ0 (by decide +kernel) (by repeat' constructor) ?_
        refine W.condpT rfl (by omega) (W.region (WL.mv rfl rfl (WL.nc rfl rfl ?_)))
        refine WL.stF (T := Ty) (j := 2) rfl rfl rfl rfl rfl rfl rfl (by repeat' constructor) (by repeat' constructor) ?_
        refine WL.nil (W.inBlock (W.region (WL.addK rfl rfl rfl (wrap_i64 ⟨by omega, by omega⟩) (WL.mv rfl rfl (WL.nil ?_)))))
        have hg : handG (L.length - 1) i h2 = 0 := by unfold handG; rw [if_pos c1, if_pos c2]
        refine W.fit (Hs' := [Buf 1 u5 _, Buf 7 u4 _, box b _ _]) (by (repeat' first | exact Sel.nil | apply Sel.k | exact Pick.h | apply Pick.t)) (W.sub ?_ (next ⟨2, (handG (L.length - 1) i h1), 0, h3⟩ ρ1 (Le.refl _) ⟨by dsimp only; omega, rfl, hg.symm, rfl⟩ (by dsimp only; omega)))
        exact ⟨rfl, rfl, rfl, rfl, rfl, trivial⟩
      · refine W.seq ?_
        refine W.region (WL.lss rfl rfl rfl (WL.nil (W.seq (W.condT rfl (W.skip (W.seq (W.block (W.seq (W.region ?_)))))))))
        refine WL.ix (T := Ty) rfl rfl rfl (by assumption) rfl rfl (by omega) (by first | omega | decide +kernel) ?_
        refine WL.ldE (T := Ty) (j := 0) rfl rfl rfl rfl rfl (by assumption) ?_
        refine WL.as rfl rfl (WL.nil (W.seq (W.seq (W.region (WL.mv rfl rfl (WL.nc rfl rfl (WL.ldN (T := Ty) (j := 2) rfl rfl rfl rfl rfl rfl (WL.mv rfl rfl (WL.gtr rfl rfl rfl (WL.nil (W.condpT rfl (by omega) (W.region (WL.mv rfl rfl ?_)))))))))))))
        refine WL.nc rfl rfl (WL.ldN (T := Ty) (j := 2) rfl rfl rfl rfl rfl rfl (WL.subK rfl rfl rfl (wrap_i64 ⟨by omega, by omega⟩) (WL.nc rfl rfl ?_)))
        refine WL.stF (T := Ty) (j := 2) rfl rfl rfl rfl rfl rfl rfl (by repeat' constructor) (by repeat' constructor) ?_
        refine WL.nil (W.seq ?_)
        refine W.drawA 9 rfl (fun σ0 hσ0 dσ0 => ?_)
        have fσ0_0 := ros_at 0 rfl hσ0 dσ0
        have fσ0_1 := ros_at 1 rfl hσ0 dσ0
        have fσ0_2 := rb_at 2 rfl hσ0 dσ0
        refine WD.takeL 0 rfl (by decide +kernel) (WL.mv rfl rfl (WL.nilT (WD.takeL 1 rfl (by decide +kernel) (WL.nc rfl rfl (WL.nilT (WD.takeL 2 rfl (by decide +kernel) ?_))))))
        refine WL.ldBN (T := Ty) rfl rfl rfl rfl (by first | assumption | exact RB.wide (by assumption) | exact In.rb (by assumption)) rfl ?_
        refine WL.nilT (WD.takeL 3 rfl (by decide +kernel) (WL.mv rfl rfl (WL.nilT (WD.takeL 4 rfl (by decide +kernel) (WL.nc rfl rfl (WL.nilT (WD.takeL 5 rfl (by decide +kernel) (WL.faN (T := Ty) (off' := 2) rfl rfl rfl rfl rfl rfl rfl (WL.nilT (WD.takeL 6 rfl (by decide +kernel) ?_))))))))))
        refine WL.ldBN (T := Ty) rfl rfl rfl rfl (by first | assumption | exact RB.wide (by assumption) | exact In.rb (by assumption)) rfl ?_
        refine WL.nilT (WD.takeL 7 rfl (by decide +kernel) ?_)
        refine WL.len (T := Ty) rfl rfl (by assumption) rfl ?_
        refine WL.nilT (WD.takeL 8 rfl (by decide +kernel) (WL.geq rfl rfl rfl (WL.nilT ?_)))
        refine WD.doneF hσ0 (by decide +kernel) (by repeat' constructor) ?_
        refine W.condpF rfl (by omega) (W.skip (W.inBlock (W.region (WL.addK rfl rfl rfl (wrap_i64 ⟨by omega, by omega⟩) (WL.mv rfl rfl (WL.nil ?_))))))
        rw [show (h2 : Int) - 1 = ((h2 - 1 : Nat) : Int) by omega]
        have hg : handG (L.length - 1) i h2 = (h2 - 1) := by unfold handG; rw [if_pos c1, if_neg c2]
        refine W.fit (Hs' := [Buf 1 u5 _, Buf 7 u4 _, box b _ _]) (by (repeat' first | exact Sel.nil | apply Sel.k | exact Pick.h | apply Pick.t)) (W.sub ?_ (next ⟨2, (handG (L.length - 1) i h1), (h2 - 1), h3⟩ ρ1 (Le.refl _) ⟨by dsimp only; omega, rfl, hg.symm, rfl⟩ (by dsimp only; omega)))
        exact ⟨rfl, rfl, rfl, rfl, rfl, trivial⟩
    · by_cases c2 : L.length - 1 ≤ h2
      · refine W.seq ?_
        refine W.region (WL.lss rfl rfl rfl (WL.nil (W.seq (W.condT rfl (W.skip (W.seq (W.block (W.seq (W.region ?_)))))))))
        refine WL.ix (T := Ty) rfl rfl rfl (by assumption) rfl rfl (by omega) (by first | omega | decide +kernel) ?_
        refine WL.ldE (T := Ty) (j := 0) rfl rfl rfl rfl rfl (by assumption) ?_
        refine WL.as rfl rfl (WL.nil (W.seq (W.seq (W.region (WL.mv rfl rfl (WL.nc rfl rfl (WL.ldN (T := Ty) (j := 2) rfl rfl rfl rfl rfl rfl (WL.mv rfl rfl (WL.gtr rfl rfl rfl (WL.nil (W.condpF rfl (by omega) (W.skip (W.seq ?_)))))))))))))
        refine W.drawA 9 rfl (fun σ0 hσ0 dσ0 => ?_)
        have fσ0_0 := ros_at 0 rfl hσ0 dσ0
        have fσ0_1 := ros_at 1 rfl hσ0 dσ0
        have fσ0_2 := rb_at 2 rfl hσ0 dσ0
        refine WD.takeL 0 rfl (by decide +kernel) (WL.mv rfl rfl (WL.nilT (WD.takeL 1 rfl (by decide +kernel) (WL.nc rfl rfl (WL.nilT (WD.takeL 2 rfl (by decide +kernel) ?_))))))
        refine WL.ldBN (T := Ty) rfl rfl rfl rfl (by first | assumption | exact RB.wide (by assumption) | exact In.rb (by assumption)) rfl ?_
        refine WL.nilT (WD.takeL 3 rfl (by decide +kernel) (WL.mv rfl rfl (WL.nilT (WD.takeL 4 rfl (by decide +kernel) (WL.nc rfl rfl (WL.nilT (WD.takeL 5 rfl (by decide +kernel) (WL.faN (T := Ty) (off' := 2) rfl rfl rfl rfl rfl rfl rfl (WL.nilT (WD.takeL 6 rfl (by decide +kernel) ?_))))))))))
        refine WL.ldBN (T := Ty) rfl rfl rfl rfl (by first | assumption | exact RB.wide (by assumption) | exact In.rb (by assumption)) rfl ?_
        refine WL.nilT (WD.takeL 7 rfl (by decide +kernel) ?_)
        refine WL.len (T := Ty) rfl rfl (by assumption) rfl ?_
        refine WL.nilT (WD.takeL 8 rfl (by decide +kernel) (WL.geq rfl rfl rfl (WL.nilT ?_)))
        refine WD.doneF hσ0 (by decide +kernel) (by repeat' constructor) ?_
        refine W.condpT rfl (by omega) (W.region (WL.mv rfl rfl (WL.nc rfl rfl ?_)))
        refine WL.stF (T := Ty) (j := 2) rfl rfl rfl rfl rfl rfl rfl (by repeat' constructor) (by repeat' constructor) ?_
        refine WL.nil (W.inBlock (W.region (WL.addK rfl rfl rfl (wrap_i64 ⟨by omega, by omega⟩) (WL.mv rfl rfl (WL.nil ?_)))))
        have hg : handG (L.length - 1) i h2 = 0 := by unfold handG; rw [if_neg c1, if_pos c2]
        refine W.fit (Hs' := [Buf 1 u5 _, Buf 7 u4 _, box b _ _]) (by (repeat' first | exact Sel.nil | apply Sel.k | exact Pick.h | apply Pick.t)) (W.sub ?_ (next ⟨2, (handG (L.length - 1) i h1), 0, h3⟩ ρ1 (Le.refl _) ⟨by dsimp only; omega, rfl, hg.symm, rfl⟩ (by dsimp only; omega)))
        exact ⟨rfl, rfl, rfl, rfl, rfl, trivial⟩
      · refine W.seq ?_
        refine W.region (WL.lss rfl rfl rfl (WL.nil (W.seq (W.condT rfl (W.skip (W.seq (W.block (W.seq (W.region ?_)))))))))
        refine WL.ix (T := Ty) rfl rfl rfl (by assumption) rfl rfl (by omega) (by first | omega | decide +kernel) ?_
        refine WL.ldE (T := Ty) (j := 0) rfl rfl rfl rfl rfl (by assumption) ?_
        refine WL.as rfl rfl (WL.nil (W.seq (W.seq (W.region (WL.mv rfl rfl (WL.nc rfl rfl (WL.ldN (T := Ty) (j := 2) rfl rfl rfl rfl rfl rfl (WL.mv rfl rfl (WL.gtr rfl rfl rfl (WL.nil (W.condpF rfl (by omega) (W.skip (W.seq ?_)))))))))))))
        refine W.drawA 9 rfl (fun σ0 hσ0 dσ0 => ?_)
        have fσ0_0 := ros_at 0 rfl hσ0 dσ0
        have fσ0_1 := ros_at 1 rfl hσ0 dσ0
        have fσ0_2 := rb_at 2 rfl hσ0 dσ0
        refine WD.takeL 0 rfl (by decide +kernel) (WL.mv rfl rfl (WL.nilT (WD.takeL 1 rfl (by decide +kernel) (WL.nc rfl rfl (WL.nilT (WD.takeL 2 rfl (by decide +kernel) ?_))))))
        refine WL.ldBN (T := Ty) rfl rfl rfl rfl (by first | assumption | exact RB.wide (by assumption) | exact In.rb (by assumption)) rfl ?_
        refine WL.nilT (WD.takeL 3 rfl (by decide +kernel) (WL.mv rfl rfl (WL.nilT (WD.takeL 4 rfl (by decide +kernel) (WL.nc rfl rfl (WL.nilT (WD.takeL 5 rfl (by decide +kernel) (WL.faN (T := Ty) (off' := 2) rfl rfl rfl rfl rfl rfl rfl (WL.nilT (WD.takeL 6 rfl (by decide +kernel) ?_))))))))))
        refine WL.ldBN (T := Ty) rfl rfl rfl rfl (by first | assumption | exact RB.wide (by assumption) | exact In.rb (by assumption)) rfl ?_
        refine WL.nilT (WD.takeL 7 rfl (by decide +kernel) ?_)
        refine WL.len (T := Ty) rfl rfl (by assumption) rfl ?_
        refine WL.nilT (WD.takeL 8 rfl (by decide +kernel) (WL.geq rfl rfl rfl (WL.nilT ?_)))
        refine WD.doneF hσ0 (by decide +kernel) (by repeat' constructor) ?_
        refine W.condpF rfl (by omega) (W.skip (W.inBlock (W.region (WL.addK rfl rfl rfl (wrap_i64 ⟨by omega, by omega⟩) (WL.mv rfl rfl (WL.nil ?_))))))
        have hg : handG (L.length - 1) i h2 = h2 := by unfold handG; rw [if_neg c1, if_neg c2]
        refine W.fit (Hs' := [Buf 1 u5 _, Buf 7 u4 _, box b _ _]) (by (repeat' first | exact Sel.nil | apply Sel.k | exact Pick.h | apply Pick.t)) (W.sub ?_ (next ⟨2, (handG (L.length - 1) i h1), h2, h3⟩ ρ1 (Le.refl _) ⟨by dsimp only; omega, rfl, hg.symm, rfl⟩ (by dsimp only; omega)))
        exact ⟨rfl, rfl, rfl, rfl, rfl, trivial⟩
  | 2, _, e1, e2, e3 =>
    have e1 : x1 = handG (L.length - 1) i h1 := e1
    have e2 : x2 = handG (L.length - 1) i h2 := e2
    have e3 : x3 = h3 := e3
    subst x1
    subst x2
    subst x3
    dsimp only
    have g0 : ([pt b 3, pt b 4, pt b 5] : List Value)[((2 : Nat) : Int).toNat * 1]? = some (pt b 5) := rfl
    by_cases c1 : i < h3
    · by_cases c2 : L.length - 1 ≤ h3 - 1
      · refine W.seq ?_
        refine W.region (WL.lss rfl rfl rfl (WL.nil (W.seq (W.condT rfl (W.skip (W.seq (W.block (W.seq (W.region ?_)))))))))
        refine WL.ix (T := Ty) rfl rfl rfl (by assumption) rfl rfl (by omega) (by first | omega | decide +kernel) ?_
        refine WL.ldE (T := Ty) (j := 0) rfl rfl rfl rfl rfl (by assumption) ?_
        refine WL.as rfl rfl (WL.nil (W.seq (W.seq (W.region (WL.mv rfl rfl (WL.nc rfl rfl (WL.ldN (T := Ty) (j := 2) rfl rfl rfl rfl rfl rfl (WL.mv rfl rfl (WL.gtr rfl rfl rfl (WL.nil (W.condpT rfl (by omega) (W.region (WL.mv rfl rfl ?_)))))))))))))
        refine WL.nc rfl rfl (WL.ldN (T := Ty) (j := 2) rfl rfl rfl rfl rfl rfl (WL.subK rfl rfl rfl (wrap_i64 ⟨by omega, by omega⟩) (WL.nc rfl rfl ?_)))
        refine WL.stF (T := Ty) (j := 2) rfl rfl rfl rfl rfl rfl rfl (by repeat' constructor) (by repeat' constructor) ?_
        refine WL.nil (W.seq ?_)
        refine W.drawA 9 rfl (fun σ0 hσ0 dσ0 => ?_)
        have fσ0_0 := ros_at 0 rfl hσ0 dσ0
        have fσ0_1 := ros_at 1 rfl hσ0 dσ0
        have fσ0_2 := rb_at 2 rfl hσ0 dσ0
        refine WD.takeL 0 rfl (by decide +kernel) (WL.mv rfl rfl (WL.nilT (WD.takeL 1 rfl (by decide +kernel) (WL.nc rfl rfl (WL.nilT (WD.takeL 2 rfl (by decide +kernel) ?_))))))
        refine WL.ldBN (T := Ty) rfl rfl rfl rfl (by first | assumption | exact RB.wide (by assumption) | exact In.rb (by assumption)) rfl ?_
        refine WL.nilT (WD.takeL 3 rfl (by decide +kernel) (WL.mv rfl rfl (WL.nilT (WD.takeL 4 rfl (by decide +kernel) (WL.nc rfl rfl (WL.nilT (WD.takeL 5 rfl (by decide +kernel) (WL.faN (T := Ty) (off' := 2) rfl rfl rfl rfl rfl rfl rfl (WL.nilT (WD.takeL 6 rfl (by decide +kernel) ?_))))))))))
        refine WL.ldBN (T := Ty) rfl rfl rfl rfl (by first | assumption | exact RB.wide (by assumption) | exact In.rb (by assumption)) rfl ?_
        refine WL.nilT (WD.takeL 7 rfl (by decide +kernel) ?_)
        refine WL.len (T := Ty) rfl rfl (by assumption) rfl ?_
        refine WL.nilT (WD.takeL 8 rfl (by decide +kernel) (WL.geq rfl rfl rfl (WL.nilT ?_)))
        refine WD.doneF hσ0 (by decide +kernel) (by repeat' constructor) ?_
        refine W.condpT rfl (by omega) (W.region (WL.mv rfl rfl (WL.nc rfl rfl ?_)))
        refine WL.stF (T := Ty) (j := 2) rfl rfl rfl rfl rfl rfl rfl (by repeat' constructor) (by repeat' constructor) ?_
        refine WL.nil (W.inBlock (W.region (WL.addK rfl rfl rfl (wrap_i64 ⟨by omega, by omega⟩) (WL.mv rfl rfl (WL.nil ?_)))))
        have hg : handG (L.length - 1) i h3 = 0 := by unfold handG; rw [if_pos c1, if_pos c2]
        refine W.fit (Hs' := [Buf 1 u5 _, Buf 7 u4 _, box b _ _]) (by (repeat' first | exact Sel.nil | apply Sel.k | exact Pick.h | apply Pick.t)) (W.sub ?_ (next ⟨3, (handG (L.length - 1) i h1), (handG (L.length - 1) i h2), 0⟩ ρ1 (Le.refl _) ⟨by dsimp only; omega, rfl, rfl, hg.symm⟩ (by dsimp only; omega)))
        exact ⟨rfl, rfl, rfl, rfl, rfl, trivial⟩
      · refine W.seq ?_
        refine W.region (WL.lss rfl rfl rfl (WL.nil (W.seq (W.condT rfl (W.skip (W.seq (W.block (W.seq (W.region ?_)))))))))
        refine WL.ix (T := Ty) rfl rfl rfl (by assumption) rfl rfl (by omega) (by first | omega | decide +kernel) ?_
        refine WL.ldE (T := Ty) (j := 0) rfl rfl rfl rfl rfl (by assumption) ?_
        refine WL.as rfl rfl (WL.nil (W.seq (W.seq (W.region (WL.mv rfl rfl (WL.nc rfl rfl (WL.ldN (T := Ty) (j := 2) rfl rfl rfl rfl rfl rfl (WL.mv rfl rfl (WL.gtr rfl rfl rfl (WL.nil (W.condpT rfl (by omega) (W.region (WL.mv rfl rfl ?_)))))))))))))
        refine WL.nc rfl rfl (WL.ldN (T := Ty) (j := 2) rfl rfl rfl rfl rfl rfl (WL.subK rfl rfl rfl (wrap_i64 ⟨by omega, by omega⟩) (WL.nc rfl rfl ?_)))
        refine WL.stF (T := Ty) (j := 2) rfl rfl rfl rfl rfl rfl rfl (by repeat' constructor) (by repeat' constructor) ?_
        refine WL.nil (W.seq ?_)
        refine W.drawA 9 rfl (fun σ0 hσ0 dσ0 => ?_)
        have fσ0_0 := ros_at 0 rfl hσ0 dσ0
        have fσ0_1 := ros_at 1 rfl hσ0 dσ0
        have fσ0_2 := rb_at 2 rfl hσ0 dσ0
        refine WD.takeL 0 rfl (by decide +kernel) (WL.mv rfl rfl (WL.nilT (WD.takeL 1 rfl (by decide +kernel) (WL.nc rfl rfl (WL.nilT (WD.takeL 2 rfl (by decide +kernel) ?_))))))
        refine WL.ldBN (T := Ty) rfl rfl rfl rfl (by first | assumption | exact RB.wide (by assumption) | exact In.rb (by assumption)) rfl ?_
        refine WL.nilT (WD.takeL 3 rfl (by decide +kernel) (WL.mv rfl rfl (WL.nilT (WD.takeL 4 rfl (by decide +kernel) (WL.nc rfl rfl (WL.nilT (WD.takeL 5 rfl (by decide +kernel) (WL.faN (T := Ty) (off' := 2) rfl rfl rfl rfl rfl rfl rfl (WL.nilT (WD.takeL 6 rfl (by decide +kernel) ?_))))))))))
        refine WL.ldBN (T := Ty) rfl rfl rfl rfl (by first | assumption | exact RB.wide (by assumption) | exact In.rb (by assumption)) rfl ?_
        refine WL.nilT (WD.takeL 7 rfl (by decide +kernel) ?_)
        refine WL.len (T := Ty) rfl rfl (by assumption) rfl ?_
        refine WL.nilT (WD.takeL 8 rfl (by decide +kernel) (WL.geq rfl rfl rfl (WL.nilT ?_)))
        refine WD.doneF hσ0 (by decide +kernel) (by repeat' constructor) ?_
        refine W.condpF rfl (by omega) (W.skip (W.inBlock (W.region (WL.addK rfl rfl rfl (wrap_i64 ⟨by omega, by omega⟩) (WL.mv rfl rfl (WL.nil ?_))))))
        rw [show (h3 : Int) - 1 = ((h3 - 1 : Nat) : Int) by omega]
        have hg : handG (L.length - 1) i h3 = (h3 - 1) := by unfold handG; rw [if_pos c1, if_neg c2]
        refine W.fit (Hs' := [Buf 1 u5 _, Buf 7 u4 _, box b _ _]) (by (repeat' first | exact Sel.nil | apply Sel.k | exact Pick.h | apply Pick.t)) (W.sub ?_ (next ⟨3, (handG (L.length - 1) i h1), (handG (L.length - 1) i h2), (h3 - 1)⟩ ρ1 (Le.refl _) ⟨by dsimp only; omega, rfl, rfl, hg.symm⟩ (by dsimp only; omega)))
        exact ⟨rfl, rfl, rfl, rfl, rfl, trivial⟩
    · by_cases c2 : L.length - 1 ≤ h3
      · refine W.seq ?_
        refine W.region (WL.lss rfl rfl rfl (WL.nil (W.seq (W.condT rfl (W.skip (W.seq (W.block (W.seq (W.region ?_)))))))))
        refine WL.ix (T := Ty) rfl rfl rfl (by assumption) rfl rfl (by omega) (by first | omega | decide +kernel) ?_
        refine WL.ldE (T := Ty) (j := 0) rfl rfl rfl rfl rfl (by assumption) ?_
        refine WL.as rfl rfl (WL.nil (W.seq (W.seq (W.region (WL.mv rfl rfl (WL.nc rfl rfl (WL.ldN (T := Ty) (j := 2) rfl rfl rfl rfl rfl rfl (WL.mv rfl rfl (WL.gtr rfl rfl rfl (WL.nil (W.condpF rfl (by omega) (W.skip (W.seq ?_)))))))))))))
        refine W.drawA 9 rfl (fun σ0 hσ0 dσ0 => ?_)
        have fσ0_0 := ros_at 0 rfl hσ0 dσ0
        have fσ0_1 := ros_at 1 rfl hσ0 dσ0
        have fσ0_2 := rb_at 2 rfl hσ0 dσ0
        refine WD.takeL 0 rfl (by decide +kernel) (WL.mv rfl rfl (WL.nilT (WD.takeL 1 rfl (by decide +kernel) (WL.nc rfl rfl (WL.nilT (WD.takeL 2 rfl (by decide +kernel) ?_))))))
        refine WL.ldBN (T := Ty) rfl rfl rfl rfl (by first | assumption | exact RB.wide (by assumption) | exact In.rb (by assumption)) rfl ?_
        refine WL.nilT (WD.takeL 3 rfl (by decide +kernel) (WL.mv rfl rfl (WL.nilT (WD.takeL 4 rfl (by decide +kernel) (WL.nc rfl rfl (WL.nilT (WD.takeL 5 rfl (by decide +kernel) (WL.faN (T := Ty) (off' := 2) rfl rfl rfl rfl rfl rfl rfl (WL.nilT (WD.takeL 6 rfl (by decide +kernel) ?_))))))))))
        refine WL.ldBN (T := Ty) rfl rfl rfl rfl (by first | assumption | exact RB.wide (by assumption) | exact In.rb (by assumption)) rfl ?_
        refine WL.nilT (WD.takeL 7 rfl (by decide +kernel) ?_)
        refine WL.len (T := Ty) rfl rfl (by assumption) rfl ?_
        refine WL.nilT (WD.takeL 8 rfl (by decide +kernel) (WL.geq rfl rfl rfl (WL.nilT ?_)))
        refine WD.doneF hσ0 (by decide +kernel) (by repeat' constructor) ?_
        refine W.condpT rfl (by omega) (W.region (WL.mv rfl rfl (WL.nc rfl rfl ?_)))
        refine WL.stF (T := Ty) (j := 2) rfl rfl rfl rfl rfl rfl rfl (by repeat' constructor) (by repeat' constructor) ?_
        refine WL.nil (W.inBlock (W.region (WL.addK rfl rfl rfl (wrap_i64 ⟨by omega, by omega⟩) (WL.mv rfl rfl (WL.nil ?_)))))
        have hg : handG (L.length - 1) i h3 = 0 := by unfold handG; rw [if_neg c1, if_pos c2]
        refine W.fit (Hs' := [Buf 1 u5 _, Buf 7 u4 _, box b _ _]) (by (repeat' first | exact Sel.nil | apply Sel.k | exact Pick.h | apply Pick.t)) (W.sub ?_ (next ⟨3, (handG (L.length - 1) i h1), (handG (L.length - 1) i h2), 0⟩ ρ1 (Le.refl _) ⟨by dsimp only; omega, rfl, rfl, hg.symm⟩ (by dsimp only; omega)))
        exact ⟨rfl, rfl, rfl, rfl, rfl, trivial⟩
      · refine W.seq ?_
        refine W.region (WL.lss rfl rfl rfl (WL.nil (W.seq (W.condT rfl (W.skip (W.seq (W.block (W.seq (W.region ?_)))))))))
        refine WL.ix (T := Ty) rfl rfl rfl (by assumption) rfl rfl (by omega) (by first | omega | decide +kernel) ?_
        refine WL.ldE (T := Ty) (j := 0) rfl rfl rfl rfl rfl (by assumption) ?_
        refine WL.as rfl rfl (WL.nil (W.seq (W.seq (W.region (WL.mv rfl rfl (WL.nc rfl rfl (WL.ldN (T := Ty) (j := 2) rfl rfl rfl rfl rfl rfl (WL.mv rfl rfl (WL.gtr rfl rfl rfl (WL.nil (W.condpF rfl (by omega) (W.skip (W.seq ?_)))))))))))))
        refine W.drawA 9 rfl (fun σ0 hσ0 dσ0 => ?_)
        have fσ0_0 := ros_at 0 rfl hσ0 dσ0
        have fσ0_1 := ros_at 1 rfl hσ0 dσ0
        have fσ0_2 := rb_at 2 rfl hσ0 dσ0
        refine WD.takeL 0 rfl (by decide +kernel) (WL.mv rfl rfl (WL.nilT (WD.takeL 1 rfl (by decide +kernel) (WL.nc rfl rfl (WL.nilT (WD.takeL 2 rfl (by decide +kernel) ?_))))))
        refine WL.ldBN (T := Ty) rfl rfl rfl rfl (by first | assumption | exact RB.wide (by assumption) | exact In.rb (by assumption)) rfl ?_
        refine WL.nilT (WD.takeL 3 rfl (by decide +kernel) (WL.mv rfl rfl (WL.nilT (WD.takeL 4 rfl (by decide +kernel) (WL.nc rfl rfl (WL.nilT (WD.takeL 5 rfl (by decide +kernel) (WL.faN (T := Ty) (off' := 2) rfl rfl rfl rfl rfl rfl rfl (WL.nilT (WD.takeL 6 rfl (by decide +kernel) ?_))))))))))
        refine WL.ldBN (T := Ty) rfl rfl rfl rfl (by first | assumption | exact RB.wide (by assumption) | exact In.rb (by assumption)) rfl ?_
        refine WL.nilT (WD.takeL 7 rfl (by decide +kernel) ?_)
        refine WL.len (T := Ty) rfl rfl (by assumption) rfl ?_
        refine WL.nilT (WD.takeL 8 rfl (by decide +kernel) (WL.geq rfl rfl rfl (WL.nilT ?_)))
        refine WD.doneF hσ0 (by decide +kernel) (by repeat' constructor) ?_
        refine W.condpF rfl (by omega) (W.skip (W.inBlock (W.region (WL.addK rfl rfl rfl (wrap_i64 ⟨by omega, by omega⟩) (WL.mv rfl rfl (WL.nil ?_))))))
        have hg : handG (L.length - 1) i h3 = h3 := by unfold handG; rw [if_neg c1, if_neg c2]
        refine W.fit (Hs' := [Buf 1 u5 _, Buf 7 u4 _, box b _ _]) (by (repeat' first | exact Sel.nil | apply Sel.k | exact Pick.h | apply Pick.t)) (W.sub ?_ (next ⟨3, (handG (L.length - 1) i h1), (handG (L.length - 1) i h2), h3⟩ ρ1 (Le.refl _) ⟨by dsimp only; omega, rfl, rfl, hg.symm⟩ (by dsimp only; omega)))
        exact ⟨rfl, rfl, rfl, rfl, rfl, trivial⟩
  | 3, _, e1, e2, e3 =>
    have e1 : x1 = handG (L.length - 1) i h1 := e1
    have e2 : x2 = handG (L.length - 1) i h2 := e2
    have e3 : x3 = handG (L.length - 1) i h3 := e3
    subst x1
    subst x2
    subst x3
    refine W.seq (W.region (WL.lss rfl rfl rfl (WL.nil (W.seq (W.condF rfl (W.exit rfl ?_))))))
    refine W.fit (Hs' := [box b _ _, Buf 7 u4 _]) (by (repeat' first | exact Sel.nil | apply Sel.k | exact Pick.h | apply Pick.t)) (W.stop0 rfl (fun h q => ⟨u4, ⟨rfl, by unfold goesP; dsimp only; rw [del_len' L i hi]; exact su4⟩, q⟩))
end Go.Proofs.Ytdpnpipninggeaa
