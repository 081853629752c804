/- The hand Hot turns. -/
import Derived.Test.YtbebhmdjnneimaaStc
import Derived.Test.YtbebhmdjnneimaaNum
import Derived.Test.YtbebhmdjnneimaaTab
import Derived.Test.YtbebhmdjnneimaaClk3
set_option linter.unusedSimpArgs false
set_option linter.unusedVariables false
set_option maxRecDepth 20000
set_option maxHeartbeats 4000000
namespace Go.Proofs.Ytbebhmdjnneimaa
open Go
theorem hotL_s (n : Nat) (c : Clk) : hotL (n + 1) c = match c.pages[c.hot]? with
  | none => none
  | some p =>
   if p.kind = 3 then hotL n (aimP (goesP c c.hot) (-1))
   else if p.kind = 1 ∧ p.ref = true then hotL n { setP c c.hot { p with ref := false } with hot := onP c c.hot }
   else if p.kind = 1 then some { setP c c.hot { p with kind := 2, ref := false, trial := false } with hot := onP c c.hot }
   else hotL n { setP c c.hot { p with trial := false } with hot := onP c c.hot } := rfl
attribute [local irreducible] W WL Fn Buf ROs SL eptr box Rd Src bndOK WD RB Reads In Own handG handC hotL cnt goesP
theorem hotT_c (ρ : Hp) (b : Nat) (c : Clk) (v : Value) (n : Nat) (c' : Clk) (hB : ClkB c) (sv : SL v c.pages.length) (hh : hotT n c = some c') :
    Fn Try.prog 97 #[pt b 0] ρ [box b [.int .i64 c.most, .int .i64 c.target, v, .int .i64 (c.hot : Int), .int .i64 (c.cold : Int), .int .i64 (c.test : Int)] 73, Buf 7 v (c.pages.flatMap pgC)] (CkR b c') := by
  have hln := hB.ln
  refine in97 rfl rfl ?_
  unfold hotT at hh
  by_cases h0 : cnt isHot c.pages = 0
  · rw [if_pos h0] at hh
    cases hh
    refine W.seq (W.seq (W.region (WL.mv rfl rfl (WL.nc rfl rfl ?_))))
    refine WL.ldAF (T := Ty) (j := 0) rfl rfl rfl rfl rfl rfl (by repeat' constructor) ?_
    refine WL.callV rfl rfl (fun x p d => count_c _ isHot 101 (fun p ρ => hot_c ρ p) _ _ _ _ _ _ _ (by first | assumption | exact ROs.wide (by assumption) | exact ROs.mono (by assumption) (eqh_at 0 rfl p d) | exact ros_at 0 rfl p d | exact ros_at 1 rfl p d | exact ros_at 2 rfl p d | exact ros_at 3 rfl p d | exact ros_at 4 rfl p d) (by first | assumption | omega)) ?_
    refine WL.eql rfl rfl rfl (WL.nil (W.condpT rfl (by omega) ?_))
    exact W.ret0 rfl (fun h q => ⟨v, ⟨rfl, sv⟩, q⟩)
  · rw [if_neg h0] at hh
    refine W.seq (W.seq (W.region (WL.mv rfl rfl (WL.nc rfl rfl ?_))))
    refine WL.ldAF (T := Ty) (j := 0) rfl rfl rfl rfl rfl rfl (by repeat' constructor) ?_
    refine WL.callV rfl rfl (fun x p d => count_c _ isHot 101 (fun p ρ => hot_c ρ p) _ _ _ _ _ _ _ (by first | assumption | exact ROs.wide (by assumption) | exact ROs.mono (by assumption) (eqh_at 0 rfl p d) | exact ros_at 0 rfl p d | exact ros_at 1 rfl p d | exact ros_at 2 rfl p d | exact ros_at 3 rfl p d | exact ros_at 4 rfl p d) (by first | assumption | omega)) ?_
    refine WL.eql rfl rfl rfl (WL.nil (W.condpF rfl (by omega) (W.skip (W.block ?_))))
    refine W.loopR (σ := Nat × Clk × Value) (fun s => [(0, pt b 0)])
      (fun s => [box b [.int .i64 s.2.1.most, .int .i64 s.2.1.target, s.2.2, .int .i64 (s.2.1.hot : Int), .int .i64 (s.2.1.cold : Int), .int .i64 (s.2.1.test : Int)] 73, Buf 7 s.2.2 (s.2.1.pages.flatMap pgC)])
      (fun s ρ' => hotL s.1 s.2.1 = some c' ∧ ClkB s.2.1 ∧ SL s.2.2 s.2.1.pages.length) (fun s => s.1)
      (n, c, v) ⟨rfl, trivial⟩ rfl ⟨hh, hB, sv⟩ ?_
    clear hh hB sv hln h0 c v n
    rintro ⟨n, c, v⟩ ρ1 le1 ⟨hh, hB, sv⟩ next
    dsimp only at hh hB sv next ⊢
    cases n with
    | zero => unfold hotL at hh; cases hh
    | succ n =>
      rw [hotL_s] at hh
      have hln := hB.ln
      have l1 := pgs_cells c.pages
      cases hp : c.pages[c.hot]? with
      | none => rw [hp] at hh; cases hh
      | some p =>
        rw [hp] at hh
        dsimp only at hh
        have hpl := (List.getElem?_eq_some_iff.1 hp).1
        have g3 : (c.pages.flatMap pgC)[((c.hot : Nat) : Int).toNat * 7 + 3]? = some (.int .i64 p.kind) := flat_get pg_len hp rfl
        have g4 : (c.pages.flatMap pgC)[((c.hot : Nat) : Int).toNat * 7 + 4]? = some (.bool p.ref) := flat_get pg_len hp rfl
        have b1 := hB.h1
        have b2 := hB.h2
        have b3 := hB.h3
        refine W.block (W.seq ?_)
        refine W.cutG (τ := Unit) (fun s => [(0, pt b 0), (2, eptr v (((c.hot : Nat) : Int).toNat * 7))]) (fun s => [box b [.int .i64 c.most, .int .i64 c.target, v, .int .i64 (c.hot : Int), .int .i64 (c.cold : Int), .int .i64 (c.test : Int)] 73, Buf 7 v (c.pages.flatMap pgC)]) (fun s ρ' => True) ?_ (fun cut => ?_)
        · rintro _ ρ2 le2 -
          by_cases k3 : p.kind = 3
          · rw [if_pos k3] at hh
            have hG := hB.goes c.hot
            refine W.seq (W.region (WL.as rfl rfl (WL.nil (W.seq (W.block (W.seq (W.region (WL.mv rfl rfl (WL.ncE rfl rfl (WL.faEN (T := Ty) (off' := 3) rfl rfl rfl rfl rfl rfl rfl ?_))))))))))
            refine WL.ldE (T := Ty) (j := 1) rfl rfl rfl rfl rfl (by assumption) ?_
            refine WL.eql rfl rfl rfl (WL.as rfl rfl (WL.nil (W.condpT rfl (by omega) (W.seq (W.region (WL.mv rfl rfl (WL.mv rfl rfl (WL.nc rfl rfl (WL.faN (T := Ty) (off' := 3) rfl rfl rfl rfl rfl rfl rfl (WL.ldN (T := Ty) (j := 0) rfl rfl rfl rfl rfl rfl ?_))))))))))
            refine WL.callTk (Take.cons 0 rfl (Take.cons 0 rfl Take.nil)) rfl rfl (fun x p d => goes_c _ _ _ _ _ _ _ _ _ _ (by first | assumption | omega) (by first | assumption | omega) (by assumption) (by first | assumption | omega) (by first | assumption | omega) (by first | assumption | omega)) (by repeat' constructor) (fun r4 => ?_)
            refine WL.opens (α := Value) (φ := fun v => r4 = .tuple #[] ∧ SL v _) (ps := fun v => PClkO _ _ v) 0 rfl (fun h q => q) (by repeat' constructor) ?_
            rintro u4 ⟨es4, su4⟩
            subst es4
            dsimp only [PClkO, List.cons_append, List.nil_append] at su4 ⊢
            refine WL.nil (W.seq (W.region (WL.mv rfl rfl ?_)))
            have hm1 := hG.m1
            have hm2 := hG.m2
            have ht12 : -1000 ≤ (goesP c c.hot).target ∧ (goesP c c.hot).target ≤ 1000 := ⟨hG.t1, hG.t2⟩
            rw [show (⟨c.most, c.target, c.pages, c.hot, c.cold, c.test⟩ : Clk) = c from rfl] at su4 ⊢
            refine WL.callM 0 rfl rfl rfl (fun x p d => aim_c _ _ _ _ _ _ _ _ _ (by first | assumption | omega) (by first | assumption | omega) (by first | assumption | omega) (by first | assumption | omega) (by first | assumption | omega)) (by repeat' constructor) ?_
            refine WL.nil (W.exit rfl ?_)
            refine W.fit (Hs' := [box b _ _, Buf 7 u4 _]) (by (repeat' first | exact Sel.nil | apply Sel.k | exact Pick.h | apply Pick.t)) (W.sub ?_ (next ⟨n, aimP (goesP c c.hot) (-1), u4⟩ ρ2 le2 ⟨hh, hG.aim _, su4⟩ (by dsimp only; omega)))
            exact ⟨rfl, trivial⟩
          · rw [if_neg k3] at hh
            have hset0 : (c.pages.flatMap pgC).set (((c.hot : Nat) : Int).toNat * 7 + 5) (.bool false) = (c.pages.set c.hot { p with trial := false }).flatMap pgC := flat_set (j := 5) pg_len hp (by decide) rfl
            have hset1 : (c.pages.flatMap pgC).set (((c.hot : Nat) : Int).toNat * 7 + 4) (.bool false) = (c.pages.set c.hot { p with ref := false }).flatMap pgC := flat_set (j := 4) pg_len hp (by decide) rfl
            have hset2 : (c.pages.flatMap pgC).set (((c.hot : Nat) : Int).toNat * 7 + 3) (.int .i64 2) = (c.pages.set c.hot { p with kind := 2 }).flatMap pgC := flat_set (j := 3) pg_len hp (by decide) rfl
            have hq2 : (c.pages.set c.hot { p with kind := 2 })[c.hot]? = some { p with kind := 2 } := List.getElem?_set_self hpl
            have hset3 : ((c.pages.set c.hot { p with kind := 2 }).flatMap pgC).set (((c.hot : Nat) : Int).toNat * 7 + 4) (.bool false) = (c.pages.set c.hot { p with kind := 2, ref := false }).flatMap pgC := by
              have := flat_set (j := 4) (b := { p with kind := 2, ref := false }) (v := .bool false) pg_len hq2 (by decide) rfl
              rw [List.set_set] at this
              exact this
            have hq3 : (c.pages.set c.hot { p with kind := 2, ref := false })[c.hot]? = some { p with kind := 2, ref := false } := List.getElem?_set_self hpl
            have hset4 : ((c.pages.set c.hot { p with kind := 2, ref := false }).flatMap pgC).set (((c.hot : Nat) : Int).toNat * 7 + 5) (.bool false) = (c.pages.set c.hot { p with kind := 2, ref := false, trial := false }).flatMap pgC := by
              have := flat_set (j := 5) (b := { p with kind := 2, ref := false, trial := false }) (v := .bool false) pg_len hq3 (by decide) rfl
              rw [List.set_set] at this
              exact this
            have hon := onP_le hB c.hot b1 (by omega)
            have nB : ∀ q : Pg, ClkB { setP c c.hot q with hot := onP c c.hot } := fun q => ⟨hB.m1, hB.m2, hB.t1, hB.t2, by unfold setP; dsimp only; rw [List.length_set]; exact hln, hon, b2, b3⟩
            have nS : ∀ q : Pg, SL v (c.pages.set c.hot q).length := fun q => by rw [List.length_set]; exact sv
            by_cases k1 : p.kind = 1
            · cases hr : p.ref with
              | true =>
                rw [hr] at g4
                rw [if_pos ⟨k1, hr⟩] at hh
                refine W.seq (W.region (WL.as rfl rfl (WL.nil (W.seq (W.block (W.seq (W.region (WL.mv rfl rfl (WL.ncE rfl rfl (WL.faEN (T := Ty) (off' := 3) rfl rfl rfl rfl rfl rfl rfl ?_))))))))))
                refine WL.ldE (T := Ty) (j := 1) rfl rfl rfl rfl rfl (by assumption) ?_
                refine WL.eql rfl rfl rfl (WL.as rfl rfl (WL.nil (W.condpF rfl (by omega) (W.seq (W.region (WL.mv rfl rfl (WL.ncE rfl rfl (WL.faEN (T := Ty) (off' := 3) rfl rfl rfl rfl rfl rfl rfl ?_))))))))
                refine WL.ldE (T := Ty) (j := 1) rfl rfl rfl rfl rfl (by assumption) ?_
                refine WL.eql rfl rfl rfl (WL.mv rfl rfl (WL.gT rfl rfl (by omega) (WL.mv rfl rfl (WL.gT rfl rfl (by omega) (WL.ncE rfl rfl (WL.gT rfl rfl (by omega) (WL.faEN (T := Ty) (off' := 4) rfl rfl rfl rfl rfl rfl rfl (WL.gT rfl rfl (by omega) ?_))))))))
                refine WL.ldE (T := Ty) (j := 1) rfl rfl rfl rfl rfl (by assumption) ?_
                refine WL.pickTp rfl rfl (by omega) rfl (WL.as rfl rfl (WL.nil (W.condT rfl (W.region (WL.mv rfl rfl (WL.ncE rfl rfl (WL.faEN (T := Ty) (off' := 4) rfl rfl rfl rfl rfl rfl rfl ?_)))))))
                refine WL.stEF (T := Ty) (j := 1) rfl rfl rfl rfl rfl rfl (by first | assumption | omega | (simp only [List.length_set]; omega) | (simp; omega)) rfl (by repeat' constructor) ?_
                refine WL.nil (W.inBlock (W.seq (W.region (WL.mv rfl rfl (WL.mv rfl rfl (WL.nc rfl rfl (WL.faN (T := Ty) (off' := 3) rfl rfl rfl rfl rfl rfl rfl ?_)))))))
                refine WL.callM 0 rfl rfl rfl (fun x p d => on1_c _ _ _ _ _ _ _ _ _ (by assumption) (by first | assumption | omega) (by first | assumption | omega) (by first | assumption | omega)) (by repeat' constructor) ?_
                refine WL.nil (W.seq (W.region (WL.mv rfl rfl (WL.nil (W.condF rfl (W.skip (W.inBlock ?_)))))))
                rw [hset1]
                refine W.fit (Hs' := [box b _ _, Buf 7 v _]) (by (repeat' first | exact Sel.nil | apply Sel.k | exact Pick.h | apply Pick.t)) (W.sub ?_ (next ⟨n, { setP c c.hot { p with ref := false } with hot := onP c c.hot }, v⟩ ρ2 le2 ⟨hh, nB _, nS _⟩ (by dsimp only; omega)))
                exact ⟨rfl, trivial⟩
              | false =>
                rw [hr] at g4
                rw [if_neg (fun h => by rw [hr] at h; cases h.2), if_pos k1] at hh
                cases hh
                refine W.seq (W.region (WL.as rfl rfl (WL.nil (W.seq (W.block (W.seq (W.region (WL.mv rfl rfl (WL.ncE rfl rfl (WL.faEN (T := Ty) (off' := 3) rfl rfl rfl rfl rfl rfl rfl ?_))))))))))
                refine WL.ldE (T := Ty) (j := 1) rfl rfl rfl rfl rfl (by assumption) ?_
                refine WL.eql rfl rfl rfl (WL.as rfl rfl (WL.nil (W.condpF rfl (by omega) (W.seq (W.region (WL.mv rfl rfl (WL.ncE rfl rfl (WL.faEN (T := Ty) (off' := 3) rfl rfl rfl rfl rfl rfl rfl ?_))))))))
                refine WL.ldE (T := Ty) (j := 1) rfl rfl rfl rfl rfl (by assumption) ?_
                refine WL.eql rfl rfl rfl (WL.mv rfl rfl (WL.gT rfl rfl (by omega) (WL.mv rfl rfl (WL.gT rfl rfl (by omega) (WL.ncE rfl rfl (WL.gT rfl rfl (by omega) (WL.faEN (T := Ty) (off' := 4) rfl rfl rfl rfl rfl rfl rfl (WL.gT rfl rfl (by omega) ?_))))))))
                refine WL.ldE (T := Ty) (j := 1) rfl rfl rfl rfl rfl (by assumption) ?_
                refine WL.pickTp rfl rfl (by omega) rfl (WL.as rfl rfl (WL.nil (W.condF rfl (W.seq (W.region (WL.mv rfl rfl (WL.ncE rfl rfl (WL.faEN (T := Ty) (off' := 3) rfl rfl rfl rfl rfl rfl rfl ?_))))))))
                refine WL.ldE (T := Ty) (j := 1) rfl rfl rfl rfl rfl (by assumption) ?_
                refine WL.eql rfl rfl rfl (WL.as rfl rfl (WL.nil (W.condpT rfl (by omega) (W.seq (W.region (WL.mv rfl rfl (WL.mv rfl rfl (WL.mv rfl rfl (WL.ncE rfl rfl (WL.faEN (T := Ty) (off' := 3) rfl rfl rfl rfl rfl rfl rfl ?_))))))))))
                refine WL.stEF (T := Ty) (j := 1) rfl rfl rfl rfl rfl rfl (by first | assumption | omega | (simp only [List.length_set]; omega) | (simp; omega)) rfl (by repeat' constructor) ?_
                refine WL.ncE rfl rfl (WL.faEN (T := Ty) (off' := 4) rfl rfl rfl rfl rfl rfl rfl ?_)
                refine WL.stEF (T := Ty) (j := 1) rfl rfl rfl rfl rfl rfl (by first | assumption | omega | (simp only [List.length_set]; omega) | (simp; omega)) rfl (by repeat' constructor) ?_
                refine WL.ncE rfl rfl (WL.faEN (T := Ty) (off' := 5) rfl rfl rfl rfl rfl rfl rfl ?_)
                refine WL.stEF (T := Ty) (j := 1) rfl rfl rfl rfl rfl rfl (by first | assumption | omega | (simp only [List.length_set]; omega) | (simp; omega)) rfl (by repeat' constructor) ?_
                refine WL.nil (W.region (WL.as rfl rfl (WL.nil (W.inBlock (W.seq (W.region (WL.mv rfl rfl (WL.mv rfl rfl (WL.nc rfl rfl (WL.faN (T := Ty) (off' := 3) rfl rfl rfl rfl rfl rfl rfl ?_))))))))))
                refine WL.callM 0 rfl rfl rfl (fun x p d => on1_c _ _ _ _ _ _ _ _ _ (by assumption) (by first | assumption | omega) (by first | assumption | omega) (by first | assumption | omega)) (by repeat' constructor) ?_
                refine WL.nil (W.seq (W.region (WL.mv rfl rfl (WL.nil (W.condT rfl ?_)))))
                rw [hset2, hset3, hset4]
                exact W.ret0 rfl (fun h q => ⟨v, ⟨rfl, nS _⟩, q⟩)
            · rw [if_neg (fun h => k1 h.1), if_neg k1] at hh
              refine W.seq (W.region (WL.as rfl rfl (WL.nil (W.seq (W.block (W.seq (W.region (WL.mv rfl rfl (WL.ncE rfl rfl (WL.faEN (T := Ty) (off' := 3) rfl rfl rfl rfl rfl rfl rfl ?_))))))))))
              refine WL.ldE (T := Ty) (j := 1) rfl rfl rfl rfl rfl (by assumption) ?_
              refine WL.eql rfl rfl rfl (WL.as rfl rfl (WL.nil (W.condpF rfl (by omega) (W.seq (W.region (WL.mv rfl rfl (WL.ncE rfl rfl (WL.faEN (T := Ty) (off' := 3) rfl rfl rfl rfl rfl rfl rfl ?_))))))))
              refine WL.ldE (T := Ty) (j := 1) rfl rfl rfl rfl rfl (by assumption) ?_
              refine WL.eql rfl rfl rfl (WL.mv rfl rfl (WL.gdTn rfl rfl rfl rfl rfl (by omega) (WL.gdTn rfl rfl rfl rfl rfl (by omega) (WL.gdTn rfl rfl rfl rfl rfl (by omega) (WL.gdTn rfl rfl rfl rfl rfl (by omega) (WL.pickFp rfl rfl (by omega) rfl (WL.as rfl rfl (WL.nil (W.condF rfl (W.seq (W.region (WL.mv rfl rfl (WL.ncE rfl rfl ?_)))))))))))))
              refine WL.faEN (T := Ty) (off' := 3) rfl rfl rfl rfl rfl rfl rfl ?_
              refine WL.ldE (T := Ty) (j := 1) rfl rfl rfl rfl rfl (by assumption) ?_
              refine WL.eql rfl rfl rfl (WL.as rfl rfl (WL.nil (W.condpF rfl (by omega) (W.region (WL.mv rfl rfl (WL.ncE rfl rfl (WL.faEN (T := Ty) (off' := 5) rfl rfl rfl rfl rfl rfl rfl ?_)))))))
              refine WL.stEF (T := Ty) (j := 1) rfl rfl rfl rfl rfl rfl (by first | assumption | omega | (simp only [List.length_set]; omega) | (simp; omega)) rfl (by repeat' constructor) ?_
              refine WL.nil (W.inBlock (W.seq (W.region (WL.mv rfl rfl (WL.mv rfl rfl (WL.nc rfl rfl (WL.faN (T := Ty) (off' := 3) rfl rfl rfl rfl rfl rfl rfl ?_)))))))
              refine WL.callM 0 rfl rfl rfl (fun x p d => on1_c _ _ _ _ _ _ _ _ _ (by assumption) (by first | assumption | omega) (by first | assumption | omega) (by first | assumption | omega)) (by repeat' constructor) ?_
              refine WL.nil (W.seq (W.region (WL.mv rfl rfl (WL.nil (W.condF rfl (W.skip (W.inBlock ?_)))))))
              rw [hset0]
              refine W.fit (Hs' := [box b _ _, Buf 7 v _]) (by (repeat' first | exact Sel.nil | apply Sel.k | exact Pick.h | apply Pick.t)) (W.sub ?_ (next ⟨n, { setP c c.hot { p with trial := false } with hot := onP c c.hot }, v⟩ ρ2 le2 ⟨hh, nB _, nS _⟩ (by dsimp only; omega)))
              exact ⟨rfl, trivial⟩
        · refine W.drawA 9 rfl (fun σ0 hσ0 dσ0 => ?_)
          have fσ0_0 := rb_at 0 rfl hσ0 dσ0
          have fσ0_1 := ros_at 1 rfl hσ0 dσ0
          refine WD.takeL 0 rfl (by decide +kernel) (WL.mv rfl rfl (WL.nilT (WD.takeL 1 rfl (by decide +kernel) (WL.nc rfl rfl (WL.nilT (WD.takeL 2 rfl (by decide +kernel) (WL.faN (T := Ty) (off' := 2) rfl rfl rfl rfl rfl rfl rfl (WL.nilT (WD.takeL 3 rfl (by decide +kernel) ?_)))))))))
          refine WL.ldBN (T := Ty) rfl rfl rfl rfl (by first | assumption | exact RB.wide (by assumption) | exact In.rb (by assumption)) rfl ?_
          refine WL.nilT (WD.takeL 4 rfl (by decide +kernel) (WL.mv rfl rfl (WL.nilT (WD.takeL 5 rfl (by decide +kernel) (WL.nc rfl rfl (WL.nilT (WD.takeL 6 rfl (by decide +kernel) (WL.faN (T := Ty) (off' := 3) rfl rfl rfl rfl rfl rfl rfl (WL.nilT (WD.takeL 7 rfl (by decide +kernel) ?_))))))))))
          refine WL.ldBN (T := Ty) rfl rfl rfl rfl (by first | assumption | exact RB.wide (by assumption) | exact In.rb (by assumption)) rfl ?_
          refine WL.nilT (WD.takeL 8 rfl (by decide +kernel) ?_)
          refine WL.ix (T := Ty) rfl rfl rfl (by assumption) rfl rfl (by omega) (by first | omega | decide +kernel) ?_
          refine WL.nilT ?_
          refine WD.lastG hσ0 (by decide +kernel) (by repeat' constructor) rfl (by repeat' constructor) ?_
          refine WL.as rfl rfl (WL.nil ?_)
          refine W.fit (by (repeat' first | exact Sel.nil | apply Sel.k | exact Pick.h | apply Pick.t)) (W.sub ?_ (cut () ρ1 (Le.refl _) trivial))
          exact ⟨rfl, rfl, trivial⟩
end Go.Proofs.Ytbebhmdjnneimaa
