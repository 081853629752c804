/- The hand Test turns; the ring cools. -/
import Derived.Test.YtbebhmdjnneimaaStc
import Derived.Test.YtbebhmdjnneimaaNum
import Derived.Test.YtbebhmdjnneimaaTab
import Derived.Test.YtbebhmdjnneimaaClk4
import Derived.Test.YtbebhmdjnneimaaClkLw2
set_option linter.unusedSimpArgs false
set_option linter.unusedVariables false
set_option maxRecDepth 20000
set_option maxHeartbeats 4000000
namespace Go.Proofs.Ytbebhmdjnneimaa
open Go
theorem testL_s (n : Nat) (c : Clk) : testL (n + 1) c = match c.pages[c.test]? with
  | none => none
  | some p =>
   if p.kind = 3 then some (aimP (goesP c c.test) (-1))
   else if p.kind = 2 ∧ p.trial = true then testL n { aimP (setP c c.test { p with trial := false }) (-1) with test := onP c c.test }
   else testL n { c with test := onP c c.test } := rfl
theorem coolL_s (n : Nat) (c : Clk) : coolL (n + 1) c = if c.most - c.target < (cnt isHot c.pages : Int) then (hotT n c).bind (coolL n) else some c := rfl
theorem cnt_le (so : Pg → Bool) (l : List Pg) : cnt so l ≤ l.length := List.countP_le_length
attribute [local irreducible] W WL Fn Buf ROs SL eptr box Rd Src bndOK WD RB Reads In Own handG handC hotL hotT testL testT coolL cnt goesP
theorem testT_c (ρ : Hp) (b : Nat) (c : Clk) (v : Value) (n : Nat) (c' : Clk) (hB : ClkB c) (sv : SL v c.pages.length) (hh : testT n c = some c') :
    Fn Try.prog 116 #[pt b 0] ρ [box b [.int .i64 c.most, .int .i64 c.target, v, .int .i64 (c.hot : Int), .int .i64 (c.cold : Int), .int .i64 (c.test : Int)] 73, Buf 7 v (c.pages.flatMap pgC)] (CkR b c') := by
  have hln := hB.ln
  refine in116 rfl rfl ?_
  unfold testT at hh
  by_cases h0 : cnt isTest c.pages = 0
  · rw [if_pos h0] at hh
    cases hh
    refine W.seq (W.seq (W.region (WL.mv rfl rfl (WL.nc rfl rfl ?_))))
    refine WL.ldAF (T := Ty) (j := 0) rfl rfl rfl rfl rfl rfl (by repeat' constructor) ?_
    refine WL.callV rfl rfl (fun x p d => count_c _ isTest 115 (fun p ρ => test_c ρ p) _ _ _ _ _ _ _ (by first | assumption | exact ROs.wide (by assumption) | exact ROs.mono (by assumption) (eqh_at 0 rfl p d) | exact ros_at 0 rfl p d | exact ros_at 1 rfl p d | exact ros_at 2 rfl p d | exact ros_at 3 rfl p d | exact ros_at 4 rfl p d) (by first | assumption | omega)) ?_
    refine WL.eql rfl rfl rfl (WL.nil (W.condpT rfl (by omega) ?_))
    exact W.ret0 rfl (fun h q => ⟨v, ⟨rfl, sv⟩, q⟩)
  · rw [if_neg h0] at hh
    refine W.seq (W.seq (W.region (WL.mv rfl rfl (WL.nc rfl rfl ?_))))
    refine WL.ldAF (T := Ty) (j := 0) rfl rfl rfl rfl rfl rfl (by repeat' constructor) ?_
    refine WL.callV rfl rfl (fun x p d => count_c _ isTest 115 (fun p ρ => test_c ρ p) _ _ _ _ _ _ _ (by first | assumption | exact ROs.wide (by assumption) | exact ROs.mono (by assumption) (eqh_at 0 rfl p d) | exact ros_at 0 rfl p d | exact ros_at 1 rfl p d | exact ros_at 2 rfl p d | exact ros_at 3 rfl p d | exact ros_at 4 rfl p d) (by first | assumption | omega)) ?_
    refine WL.eql rfl rfl rfl (WL.nil (W.condpF rfl (by omega) (W.skip (W.block ?_))))
    refine W.loopR (σ := Nat × Clk × Value) (fun s => [(0, pt b 0)])
      (fun s => [box b [.int .i64 s.2.1.most, .int .i64 s.2.1.target, s.2.2, .int .i64 (s.2.1.hot : Int), .int .i64 (s.2.1.cold : Int), .int .i64 (s.2.1.test : Int)] 73, Buf 7 s.2.2 (s.2.1.pages.flatMap pgC)])
      (fun s ρ' => testL s.1 s.2.1 = some c' ∧ ClkB s.2.1 ∧ SL s.2.2 s.2.1.pages.length) (fun s => s.1)
      (n, c, v) ⟨rfl, trivial⟩ rfl ⟨hh, hB, sv⟩ ?_
    clear hh hB sv hln h0 c v n
    rintro ⟨n, c, v⟩ ρ1 le1 ⟨hh, hB, sv⟩ next
    dsimp only at hh hB sv next ⊢
    cases n with
    | zero => unfold testL at hh; cases hh
    | succ n =>
      rw [testL_s] at hh
      have hln := hB.ln
      have l1 := pgs_cells c.pages
      cases hp : c.pages[c.test]? with
      | none => rw [hp] at hh; cases hh
      | some p =>
        rw [hp] at hh
        dsimp only at hh
        have hpl := (List.getElem?_eq_some_iff.1 hp).1
        have g3 : (c.pages.flatMap pgC)[((c.test : Nat) : Int).toNat * 7 + 3]? = some (.int .i64 p.kind) := flat_get pg_len hp rfl
        have g5 : (c.pages.flatMap pgC)[((c.test : Nat) : Int).toNat * 7 + 5]? = some (.bool p.trial) := flat_get pg_len hp rfl
        have b1 := hB.h1
        have b2 := hB.h2
        have b3 := hB.h3
        refine W.block (W.seq ?_)
        refine W.cutG (τ := Unit) (fun s => [(0, pt b 0), (2, eptr v (((c.test : Nat) : Int).toNat * 7))]) (fun s => [box b [.int .i64 c.most, .int .i64 c.target, v, .int .i64 (c.hot : Int), .int .i64 (c.cold : Int), .int .i64 (c.test : Int)] 73, Buf 7 v (c.pages.flatMap pgC)]) (fun s ρ' => True) ?_ (fun cut => ?_)
        · rintro _ ρ2 le2 -
          by_cases k3 : p.kind = 3
          · rw [if_pos k3] at hh
            cases hh
            have hG := hB.goes c.test
            refine W.seq (W.seq (W.region (WL.mv rfl rfl (WL.ncE rfl rfl (WL.faEN (T := Ty) (off' := 3) rfl rfl rfl rfl rfl rfl rfl ?_)))))
            refine WL.ldE (T := Ty) (j := 1) rfl rfl rfl rfl rfl (by assumption) ?_
            refine WL.eql rfl rfl rfl (WL.nil (W.condpT rfl (by omega) (W.seq (W.region (WL.mv rfl rfl (WL.mv rfl rfl (WL.nc rfl rfl (WL.faN (T := Ty) (off' := 5) rfl rfl rfl rfl rfl rfl rfl (WL.ldN (T := Ty) (j := 0) rfl rfl rfl rfl rfl rfl ?_)))))))))
            refine WL.callTk (Take.cons 0 rfl (Take.cons 0 rfl Take.nil)) rfl rfl (fun x p d => goes_c _ _ _ _ _ _ _ _ _ _ (by first | assumption | omega) (by first | assumption | omega) (by assumption) (by first | assumption | omega) (by first | assumption | omega) (by first | assumption | omega)) (by repeat' constructor) (fun r4 => ?_)
            refine WL.opens (α := Value) (φ := fun v => r4 = .tuple #[] ∧ SL v _) (ps := fun v => PClkO _ _ v) 0 rfl (fun h q => q) (by repeat' constructor) ?_
            rintro u4 ⟨es4, su4⟩
            subst es4
            dsimp only [PClkO, List.cons_append, List.nil_append] at su4 ⊢
            refine WL.nil (W.seq (W.region (WL.mv rfl rfl ?_)))
            have hm1 := hG.m1
            have hm2 := hG.m2
            have ht12 : -1000 ≤ (goesP c c.test).target ∧ (goesP c c.test).target ≤ 1000 := ⟨hG.t1, hG.t2⟩
            rw [show (⟨c.most, c.target, c.pages, c.hot, c.cold, c.test⟩ : Clk) = c from rfl] at su4 ⊢
            refine WL.callM 0 rfl rfl rfl (fun x p d => aim_c _ _ _ _ _ _ _ _ _ (by first | assumption | omega) (by first | assumption | omega) (by first | assumption | omega) (by first | assumption | omega) (by first | assumption | omega)) (by repeat' constructor) ?_
            refine WL.nil ?_
            exact W.fit (Hs' := [box b _ _, Buf 7 u4 _]) (by (repeat' first | exact Sel.nil | apply Sel.k | exact Pick.h | apply Pick.t)) (W.ret0 rfl (fun h q => ⟨u4, ⟨rfl, su4⟩, q⟩))
          · rw [if_neg k3] at hh
            have hm1 := hB.m1
            have hm2 := hB.m2
            have ht12 : -1000 ≤ c.target ∧ c.target ≤ 1000 := ⟨hB.t1, hB.t2⟩
            have hset0 : (c.pages.flatMap pgC).set (((c.test : Nat) : Int).toNat * 7 + 5) (.bool false) = (c.pages.set c.test { p with trial := false }).flatMap pgC := flat_set (j := 5) pg_len hp (by decide) rfl
            have hon := onP_le hB c.test b3 (by omega)
            have nS : ∀ q : Pg, SL v (c.pages.set c.test q).length := fun q => by rw [List.length_set]; exact sv
            by_cases k2 : p.kind = 2
            · cases hr : p.trial with
              | true =>
                rw [hr] at g5
                rw [if_pos ⟨k2, hr⟩] at hh
                refine W.seq (W.seq (W.region (WL.mv rfl rfl (WL.ncE rfl rfl (WL.faEN (T := Ty) (off' := 3) rfl rfl rfl rfl rfl rfl rfl ?_)))))
                refine WL.ldE (T := Ty) (j := 1) rfl rfl rfl rfl rfl (by assumption) ?_
                refine WL.eql rfl rfl rfl (WL.nil (W.condpF rfl (by omega) (W.skip (W.seq (W.seq (W.region (WL.mv rfl rfl (WL.ncE rfl rfl (WL.faEN (T := Ty) (off' := 3) rfl rfl rfl rfl rfl rfl rfl ?_)))))))))
                refine WL.ldE (T := Ty) (j := 1) rfl rfl rfl rfl rfl (by assumption) ?_
                refine WL.eql rfl rfl rfl (WL.mv rfl rfl (WL.gT rfl rfl (by omega) (WL.mv rfl rfl (WL.gT rfl rfl (by omega) (WL.ncE rfl rfl (WL.gT rfl rfl (by omega) (WL.faEN (T := Ty) (off' := 5) rfl rfl rfl rfl rfl rfl rfl (WL.gT rfl rfl (by omega) ?_))))))))
                refine WL.ldE (T := Ty) (j := 1) rfl rfl rfl rfl rfl (by assumption) ?_
                refine WL.pickTp rfl rfl (by omega) rfl (WL.nil (W.condT rfl (W.seq (W.region (WL.mv rfl rfl (WL.ncE rfl rfl (WL.faEN (T := Ty) (off' := 5) rfl rfl rfl rfl rfl rfl rfl ?_)))))))
                refine WL.stEF (T := Ty) (j := 1) rfl rfl rfl rfl rfl rfl (by first | assumption | omega | (simp only [List.length_set]; omega) | (simp; omega)) rfl (by repeat' constructor) ?_
                refine WL.nil (W.region (WL.mv rfl rfl ?_))
                refine WL.callM 0 rfl rfl rfl (fun x p d => aim_c _ _ _ _ _ _ _ _ _ (by first | assumption | omega) (by first | assumption | omega) (by first | assumption | omega) (by first | assumption | omega) (by first | assumption | omega)) (by repeat' constructor) ?_
                refine WL.nil (W.region (WL.mv rfl rfl (WL.mv rfl rfl (WL.nc rfl rfl (WL.faN (T := Ty) (off' := 5) rfl rfl rfl rfl rfl rfl rfl ?_)))))
                refine WL.callM 0 rfl rfl rfl (fun x p d => on3_c _ _ _ _ _ _ _ _ _ (by assumption) (by first | assumption | omega) (by first | assumption | omega) (by first | assumption | omega)) (by repeat' constructor) ?_
                refine WL.nil (W.inBlock ?_)
                rw [hset0]
                refine W.fit (Hs' := [box b _ _, Buf 7 v _]) (by (repeat' first | exact Sel.nil | apply Sel.k | exact Pick.h | apply Pick.t)) (W.sub ?_ (next ⟨n, { aimP (setP c c.test { p with trial := false }) (-1) with test := onP c c.test }, v⟩ ρ2 le2 ⟨hh, ((hB.set _ _).aim _).testS hon, nS _⟩ (by dsimp only; omega)))
                exact ⟨rfl, trivial⟩
              | false =>
                rw [hr] at g5
                rw [if_neg (fun h => by rw [hr] at h; cases h.2)] at hh
                refine W.seq (W.seq (W.region (WL.mv rfl rfl (WL.ncE rfl rfl (WL.faEN (T := Ty) (off' := 3) rfl rfl rfl rfl rfl rfl rfl ?_)))))
                refine WL.ldE (T := Ty) (j := 1) rfl rfl rfl rfl rfl (by assumption) ?_
                refine WL.eql rfl rfl rfl (WL.nil (W.condpF rfl (by omega) (W.skip (W.seq (W.seq (W.region (WL.mv rfl rfl (WL.ncE rfl rfl (WL.faEN (T := Ty) (off' := 3) rfl rfl rfl rfl rfl rfl rfl ?_)))))))))
                refine WL.ldE (T := Ty) (j := 1) rfl rfl rfl rfl rfl (by assumption) ?_
                refine WL.eql rfl rfl rfl (WL.mv rfl rfl (WL.gT rfl rfl (by omega) (WL.mv rfl rfl (WL.gT rfl rfl (by omega) (WL.ncE rfl rfl (WL.gT rfl rfl (by omega) (WL.faEN (T := Ty) (off' := 5) rfl rfl rfl rfl rfl rfl rfl (WL.gT rfl rfl (by omega) ?_))))))))
                refine WL.ldE (T := Ty) (j := 1) rfl rfl rfl rfl rfl (by assumption) ?_
                refine WL.pickTp rfl rfl (by omega) rfl (WL.nil (W.condF rfl (W.skip (W.region (WL.mv rfl rfl (WL.mv rfl rfl (WL.nc rfl rfl (WL.faN (T := Ty) (off' := 5) rfl rfl rfl rfl rfl rfl rfl ?_))))))))
                refine WL.callM 0 rfl rfl rfl (fun x p d => on3_c _ _ _ _ _ _ _ _ _ (by assumption) (by first | assumption | omega) (by first | assumption | omega) (by first | assumption | omega)) (by repeat' constructor) ?_
                refine WL.nil (W.inBlock ?_)
                refine W.fit (Hs' := [box b _ _, Buf 7 v _]) (by (repeat' first | exact Sel.nil | apply Sel.k | exact Pick.h | apply Pick.t)) (W.sub ?_ (next ⟨n, { c with test := onP c c.test }, v⟩ ρ2 le2 ⟨hh, hB.testS hon, sv⟩ (by dsimp only; omega)))
                exact ⟨rfl, trivial⟩
            · rw [if_neg (fun h => k2 h.1)] at hh
              refine W.seq (W.seq (W.region (WL.mv rfl rfl (WL.ncE rfl rfl (WL.faEN (T := Ty) (off' := 3) rfl rfl rfl rfl rfl rfl rfl ?_)))))
              refine WL.ldE (T := Ty) (j := 1) rfl rfl rfl rfl rfl (by assumption) ?_
              refine WL.eql rfl rfl rfl (WL.nil (W.condpF rfl (by omega) (W.skip (W.seq (W.seq (W.region (WL.mv rfl rfl (WL.ncE rfl rfl (WL.faEN (T := Ty) (off' := 3) rfl rfl rfl rfl rfl rfl rfl ?_)))))))))
              refine WL.ldE (T := Ty) (j := 1) rfl rfl rfl rfl rfl (by assumption) ?_
              refine WL.eql rfl rfl rfl (WL.mv rfl rfl (WL.gdTn rfl rfl rfl rfl rfl (by omega) (WL.gdTn rfl rfl rfl rfl rfl (by omega) (WL.gdTn rfl rfl rfl rfl rfl (by omega) (WL.gdTn rfl rfl rfl rfl rfl (by omega) (WL.pickFp rfl rfl (by omega) rfl (WL.nil (W.condF rfl (W.skip (W.region (WL.mv rfl rfl (WL.mv rfl rfl (WL.nc rfl rfl ?_)))))))))))))
              refine WL.faN (T := Ty) (off' := 5) rfl rfl rfl rfl rfl rfl rfl ?_
              refine WL.callM 0 rfl rfl rfl (fun x p d => on3_c _ _ _ _ _ _ _ _ _ (by assumption) (by first | assumption | omega) (by first | assumption | omega) (by first | assumption | omega)) (by repeat' constructor) ?_
              refine WL.nil (W.inBlock ?_)
              refine W.fit (Hs' := [box b _ _, Buf 7 v _]) (by (repeat' first | exact Sel.nil | apply Sel.k | exact Pick.h | apply Pick.t)) (W.sub ?_ (next ⟨n, { c with test := onP c c.test }, v⟩ ρ2 le2 ⟨hh, hB.testS hon, sv⟩ (by dsimp only; omega)))
              exact ⟨rfl, trivial⟩
        · refine W.drawA 9 rfl (fun σ0 hσ0 dσ0 => ?_)
          have fσ0_0 := rb_at 0 rfl hσ0 dσ0
          have fσ0_1 := ros_at 1 rfl hσ0 dσ0
          refine WD.takeL 0 rfl (by decide +kernel) (WL.mv rfl rfl (WL.nilT (WD.takeL 1 rfl (by decide +kernel) (WL.nc rfl rfl (WL.nilT (WD.takeL 2 rfl (by decide +kernel) (WL.faN (T := Ty) (off' := 2) rfl rfl rfl rfl rfl rfl rfl (WL.nilT (WD.takeL 3 rfl (by decide +kernel) ?_)))))))))
          refine WL.ldBN (T := Ty) rfl rfl rfl rfl (by first | assumption | exact RB.wide (by assumption) | exact In.rb (by assumption)) rfl ?_
          refine WL.nilT (WD.takeL 4 rfl (by decide +kernel) (WL.mv rfl rfl (WL.nilT (WD.takeL 5 rfl (by decide +kernel) (WL.nc rfl rfl (WL.nilT (WD.takeL 6 rfl (by decide +kernel) (WL.faN (T := Ty) (off' := 5) rfl rfl rfl rfl rfl rfl rfl (WL.nilT (WD.takeL 7 rfl (by decide +kernel) ?_))))))))))
          refine WL.ldBN (T := Ty) rfl rfl rfl rfl (by first | assumption | exact RB.wide (by assumption) | exact In.rb (by assumption)) rfl ?_
          refine WL.nilT (WD.takeL 8 rfl (by decide +kernel) ?_)
          refine WL.ix (T := Ty) rfl rfl rfl (by assumption) rfl rfl (by omega) (by first | omega | decide +kernel) ?_
          refine WL.nilT ?_
          refine WD.lastG hσ0 (by decide +kernel) (by repeat' constructor) rfl (by repeat' constructor) ?_
          refine WL.as rfl rfl (WL.nil ?_)
          refine W.fit (by (repeat' first | exact Sel.nil | apply Sel.k | exact Pick.h | apply Pick.t)) (W.sub ?_ (cut () ρ1 (Le.refl _) trivial))
          exact ⟨rfl, rfl, trivial⟩
theorem coolL_c (ρ : Hp) (b : Nat) (c : Clk) (v : Value) (n : Nat) (c' : Clk) (hB : ClkB c) (sv : SL v c.pages.length) (hh : coolL n c = some c') :
    Fn Try.prog 74 #[pt b 0] ρ [box b [.int .i64 c.most, .int .i64 c.target, v, .int .i64 (c.hot : Int), .int .i64 (c.cold : Int), .int .i64 (c.test : Int)] 73, Buf 7 v (c.pages.flatMap pgC)] (CkR b c') := by
  refine in74 rfl rfl ?_
  refine W.block ?_
  refine W.loopR (σ := Nat × Clk × Value) (fun s => [(0, pt b 0)])
    (fun s => [box b [.int .i64 s.2.1.most, .int .i64 s.2.1.target, s.2.2, .int .i64 (s.2.1.hot : Int), .int .i64 (s.2.1.cold : Int), .int .i64 (s.2.1.test : Int)] 73, Buf 7 s.2.2 (s.2.1.pages.flatMap pgC)])
    (fun s ρ' => coolL s.1 s.2.1 = some c' ∧ ClkB s.2.1 ∧ SL s.2.2 s.2.1.pages.length) (fun s => s.1)
    (n, c, v) ⟨rfl, trivial⟩ rfl ⟨hh, hB, sv⟩ ?_
  clear hh hB sv c v n
  rintro ⟨n, c, v⟩ ρ1 le1 ⟨hh, hB, sv⟩ next
  dsimp only at hh hB sv next ⊢
  cases n with
  | zero => unfold coolL at hh; cases hh
  | succ n =>
    rw [coolL_s] at hh
    have hln := hB.ln
    have l1 := pgs_cells c.pages
    have hc1 := cnt_le isHot c.pages
    have hm1 := hB.m1
    have hm2 := hB.m2
    have ht1 := hB.t1
    have ht2 := hB.t2
    by_cases hgt : c.most - c.target < (cnt isHot c.pages : Int)
    · rw [if_pos hgt] at hh
      cases hx : hotT n c with
      | none => rw [hx] at hh; cases hh
      | some x =>
        rw [hx] at hh
        obtain ⟨hB', hm⟩ := hotT_B hB hx
        refine W.seq (W.seq ?_)
        refine W.drawA 14 rfl (fun σ0 hσ0 dσ0 => ?_)
        have fσ0_0 := rb_at 0 rfl hσ0 dσ0
        have fσ0_1 := ros_at 1 rfl hσ0 dσ0
        refine WD.takeL 0 rfl (by decide +kernel) (WL.mv rfl rfl (WL.nilT (WD.takeL 1 rfl (by decide +kernel) (WL.nc rfl rfl (WL.nilT (WD.takeL 2 rfl (by decide +kernel) ?_))))))
        refine WL.ldABF (T := Ty) rfl rfl rfl rfl (by first | assumption | exact RB.wide (by assumption) | exact In.rb (by assumption)) rfl (by repeat' constructor) ?_
        refine WL.nilT (WD.takeL 4 rfl (by decide +kernel) (WL.mv rfl rfl (WL.nilT (WD.takeL 5 rfl (by decide +kernel) (WL.nc rfl rfl (WL.nilT (WD.takeL 6 rfl (by decide +kernel) (WL.faN (T := Ty) (off' := 0) rfl rfl rfl rfl rfl rfl rfl (WL.nilT (WD.takeL 7 rfl (by decide +kernel) ?_))))))))))
        refine WL.ldBN (T := Ty) rfl rfl rfl rfl (by first | assumption | exact RB.wide (by assumption) | exact In.rb (by assumption)) rfl ?_
        refine WL.nilT (WD.takeL 8 rfl (by decide +kernel) (WL.mv rfl rfl (WL.nilT (WD.takeL 9 rfl (by decide +kernel) (WL.nc rfl rfl (WL.nilT (WD.takeL 10 rfl (by decide +kernel) (WL.faN (T := Ty) (off' := 1) rfl rfl rfl rfl rfl rfl rfl (WL.nilT (WD.takeL 11 rfl (by decide +kernel) ?_))))))))))
        refine WL.ldBN (T := Ty) rfl rfl rfl rfl (by first | assumption | exact RB.wide (by assumption) | exact In.rb (by assumption)) rfl ?_
        refine WL.nilT (WD.takeL 12 rfl (by decide +kernel) (WL.subK rfl rfl rfl (wrap_i64 ⟨by omega, by omega⟩) (WL.nilT (WD.oneL 3 rfl (by decide +kernel) ?_))))
        refine WL.callV rfl rfl (fun x p d => count_c _ isHot 101 (fun p ρ => hot_c ρ p) _ _ _ _ _ _ _ (by first | assumption | exact ROs.wide (by assumption) | exact ROs.mono (by assumption) (eqh_at 0 rfl p d) | exact ros_at 0 rfl p d | exact ros_at 1 rfl p d | exact ros_at 2 rfl p d | exact ros_at 3 rfl p d | exact ros_at 4 rfl p d) (by first | assumption | omega)) ?_
        refine WL.nilE (WD.takeL 13 rfl (by decide +kernel) (WL.gtr rfl rfl rfl (WL.nilT ?_)))
        refine WD.doneF hσ0 (by decide +kernel) (by repeat' constructor) ?_
        refine W.condpT rfl (by omega) (W.skip (W.block (W.region (WL.mv rfl rfl ?_))))
        refine WL.callTk (Take.cons 0 rfl (Take.cons 0 rfl Take.nil)) rfl rfl (fun x p d => hotT_c _ _ _ _ _ _ (by assumption) (by assumption) (by assumption)) (by repeat' constructor) (fun r0 => ?_)
        refine WL.opens (α := Value) (φ := fun v => r0 = .tuple #[] ∧ SL v _) (ps := fun v => PClkO _ _ v) 0 rfl (fun h q => q) (by repeat' constructor) ?_
        rintro u0 ⟨es0, su0⟩
        subst es0
        dsimp only [PClkO, List.cons_append, List.nil_append] at su0 ⊢
        refine WL.nil (W.inBlock ?_)
        refine W.fit (Hs' := [box b _ _, Buf 7 _ _]) (by (repeat' first | exact Sel.nil | apply Sel.k | exact Pick.h | apply Pick.t)) (W.sub ?_ (next ⟨n, x, _⟩ ρ1 (Le.refl _) ⟨hh, hB', by assumption⟩ (by dsimp only; omega)))
        exact ⟨rfl, trivial⟩
    · rw [if_neg hgt] at hh
      cases hh
      refine W.seq (W.seq ?_)
      refine W.drawA 14 rfl (fun σ0 hσ0 dσ0 => ?_)
      have fσ0_0 := rb_at 0 rfl hσ0 dσ0
      have fσ0_1 := ros_at 1 rfl hσ0 dσ0
      refine WD.takeL 0 rfl (by decide +kernel) (WL.mv rfl rfl (WL.nilT (WD.takeL 1 rfl (by decide +kernel) (WL.nc rfl rfl (WL.nilT (WD.takeL 2 rfl (by decide +kernel) ?_))))))
      refine WL.ldABF (T := Ty) rfl rfl rfl rfl (by first | assumption | exact RB.wide (by assumption) | exact In.rb (by assumption)) rfl (by repeat' constructor) ?_
      refine WL.nilT (WD.takeL 4 rfl (by decide +kernel) (WL.mv rfl rfl (WL.nilT (WD.takeL 5 rfl (by decide +kernel) (WL.nc rfl rfl (WL.nilT (WD.takeL 6 rfl (by decide +kernel) (WL.faN (T := Ty) (off' := 0) rfl rfl rfl rfl rfl rfl rfl (WL.nilT (WD.takeL 7 rfl (by decide +kernel) ?_))))))))))
      refine WL.ldBN (T := Ty) rfl rfl rfl rfl (by first | assumption | exact RB.wide (by assumption) | exact In.rb (by assumption)) rfl ?_
      refine WL.nilT (WD.takeL 8 rfl (by decide +kernel) (WL.mv rfl rfl (WL.nilT (WD.takeL 9 rfl (by decide +kernel) (WL.nc rfl rfl (WL.nilT (WD.takeL 10 rfl (by decide +kernel) (WL.faN (T := Ty) (off' := 1) rfl rfl rfl rfl rfl rfl rfl (WL.nilT (WD.takeL 11 rfl (by decide +kernel) ?_))))))))))
      refine WL.ldBN (T := Ty) rfl rfl rfl rfl (by first | assumption | exact RB.wide (by assumption) | exact In.rb (by assumption)) rfl ?_
      refine WL.nilT (WD.takeL 12 rfl (by decide +kernel) (WL.subK rfl rfl rfl (wrap_i64 ⟨by omega, by omega⟩) (WL.nilT (WD.oneL 3 rfl (by decide +kernel) ?_))))
      refine WL.callV rfl rfl (fun x p d => count_c _ isHot 101 (fun p ρ => hot_c ρ p) _ _ _ _ _ _ _ (by first | assumption | exact ROs.wide (by assumption) | exact ROs.mono (by assumption) (eqh_at 0 rfl p d) | exact ros_at 0 rfl p d | exact ros_at 1 rfl p d | exact ros_at 2 rfl p d | exact ros_at 3 rfl p d | exact ros_at 4 rfl p d) (by first | assumption | omega)) ?_
      refine WL.nilE (WD.takeL 13 rfl (by decide +kernel) (WL.gtr rfl rfl rfl (WL.nilT ?_)))
      refine WD.doneF hσ0 (by decide +kernel) (by repeat' constructor) ?_
      refine W.condpF rfl (by omega) (W.exit rfl ?_)
      exact W.stop0 rfl (fun h q => ⟨v, ⟨rfl, sv⟩, q⟩)
end Go.Proofs.Ytbebhmdjnneimaa
