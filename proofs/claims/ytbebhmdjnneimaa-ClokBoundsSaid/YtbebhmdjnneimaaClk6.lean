/- A page is put out. -/
import Derived.Test.YtbebhmdjnneimaaStc
import Derived.Test.YtbebhmdjnneimaaNum
import Derived.Test.YtbebhmdjnneimaaTab
import Derived.Test.YtbebhmdjnneimaaClk5
set_option linter.unusedSimpArgs false
set_option linter.unusedVariables false
set_option maxRecDepth 20000
set_option maxHeartbeats 4000000
namespace Go.Proofs.Ytbebhmdjnneimaa
open Go
theorem overL_s (n : Nat) (c : Clk) : overL (n + 1) c = if c.most < (cnt isTest c.pages : Int) then (testT n c).bind (overL n) else some c := rfl
attribute [local irreducible] W WL Fn Buf ROs SL eptr box Rd Src bndOK WD RB Reads In Own handG handC hotL hotT testL testT coolL overL cnt goesP
def kyC (k : Ky) : List Value := [.int .i64 k.a, .int .i64 k.b, .int .i64 k.c]
/-- what comes back of a call that turns a clock and tells a key -/
def CkK (b : Nat) (c : Clk) (k : Ky) (r : Value) : HP := fun h => ∃ v, (r = .agg #[.int .i64 k.a, .int .i64 k.b, .int .i64 k.c] ∧ SL v c.pages.length) ∧ sepl (PClkO b c v) h
theorem putP_c (ρ : Hp) (b : Nat) (c : Clk) (v : Value) (n : Nat) (c' : Clk) (k : Ky) (hB : ClkB c) (sv : SL v c.pages.length) (hh : putP n c = some (c', k)) :
    Fn Try.prog 99 #[pt b 0] ρ [box b [.int .i64 c.most, .int .i64 c.target, v, .int .i64 (c.hot : Int), .int .i64 (c.cold : Int), .int .i64 (c.test : Int)] 73, Buf 7 v (c.pages.flatMap pgC)] (CkK b c' k) := by
  have hln := hB.ln
  have l1 := pgs_cells c.pages
  have k1 := hB.h1
  have k2 := hB.h2
  have k3 := hB.h3
  refine in99 rfl rfl ?_
  unfold putP at hh
  cases hp : c.pages[c.cold]? with
  | none => rw [hp] at hh; cases hh
  | some p =>
    rw [hp] at hh
    dsimp only at hh
    have hpl := (List.getElem?_eq_some_iff.1 hp).1
    have g5 : (c.pages.flatMap pgC)[((c.cold : Nat) : Int).toNat * 7 + 5]? = some (.bool p.trial) := flat_get pg_len hp rfl
    have hrow : ((c.pages.flatMap pgC).drop (((c.cold : Nat) : Int).toNat * 7)).take 3 = [.int .i64 p.key.a, .int .i64 p.key.b, .int .i64 p.key.c] := by
      have h := flat_row pg_len hp
      have h2 := congrArg (fun l => l.take 3) h
      simp only [List.take_take] at h2
      exact h2
    refine W.seq (W.region ?_)
    refine WL.alF (T := Ty) rfl rfl (by repeat' constructor) (fun b0 => ?_)
    refine WL.nil (W.seq ?_)
    refine W.cutG (τ := Unit) (fun s => [(0, pt b 0), (2, pt b0 0), (3, eptr v (((c.cold : Nat) : Int).toNat * 7))]) (fun s => [box b0 [.int .i64 0, .int .i64 0, .int .i64 0] 76, box b [.int .i64 c.most, .int .i64 c.target, v, .int .i64 (c.hot : Int), .int .i64 (c.cold : Int), .int .i64 (c.test : Int)] 73, Buf 7 v (c.pages.flatMap pgC)]) (fun s ρ' => True) ?_ (fun cut => ?_)
    · rintro _ ρ2 le2 -
      refine W.seq (W.region (WL.mv rfl rfl (WL.ncE rfl rfl (WL.faEN (T := Ty) (off' := 0) rfl rfl rfl rfl rfl rfl rfl ?_))))
      refine WL.ldAE (T := Ty) (j := 2) rfl rfl rfl rfl rfl (by assumption) rfl ?_
      refine WL.alF (T := Ty) rfl rfl (by repeat' constructor) (fun b1 => ?_)
      refine WL.stAO (T := Ty) (j := 0) rfl rfl rfl rfl (by repeat' first | exact AO.nil | apply AO.cons (by first | rfl | exact SL.one (by assumption))) rfl rfl (by repeat' constructor) (by repeat' constructor) ?_
      refine WL.nil (W.seq (W.seq (W.region (WL.mv rfl rfl (WL.ncE rfl rfl (WL.faEN (T := Ty) (off' := 5) rfl rfl rfl rfl rfl rfl rfl ?_))))))
      refine WL.ldE (T := Ty) (j := 3) rfl rfl rfl rfl rfl (by assumption) ?_
      refine WL.nil ?_
      have hset0 : (c.pages.flatMap pgC).set (((c.cold : Nat) : Int).toNat * 7 + 3) (.int .i64 3) = (c.pages.set c.cold { p with kind := 3 }).flatMap pgC := flat_set (j := 3) pg_len hp (by decide) rfl
      have hon := onP_le hB c.cold k2 (by omega)
      refine W.cutG (τ := Clk × Value) (fun s => [(0, pt b 0), (2, pt b0 0), (4, pt b1 0)]) (fun s => [box b1 [.int .i64 p.key.a, .int .i64 p.key.b, .int .i64 p.key.c] 76, box b0 [.int .i64 0, .int .i64 0, .int .i64 0] 76, box b [.int .i64 s.1.most, .int .i64 s.1.target, s.2, .int .i64 (s.1.hot : Int), .int .i64 (s.1.cold : Int), .int .i64 (s.1.test : Int)] 73, Buf 7 s.2 (s.1.pages.flatMap pgC)]) (fun s ρ' => overL n s.1 = some c' ∧ p.key = k ∧ ClkB s.1 ∧ SL s.2 s.1.pages.length) ?_ (fun cut1 => ?_)
      · clear hh hB sv hln l1 k1 k2 k3 hpl g5 hrow hset0 hon
        rintro ⟨c1, v1⟩ ρ3 le3 ⟨hh, hk, hB, sv⟩
        subst hk
        dsimp only at hh hB sv ⊢
        refine W.seq (W.block ?_)
        refine W.loopR (σ := Nat × Clk × Value) (fun s => [(0, pt b 0), (2, pt b0 0), (4, pt b1 0)])
          (fun s => [box b1 [.int .i64 p.key.a, .int .i64 p.key.b, .int .i64 p.key.c] 76, box b0 [.int .i64 0, .int .i64 0, .int .i64 0] 76, box b [.int .i64 s.2.1.most, .int .i64 s.2.1.target, s.2.2, .int .i64 (s.2.1.hot : Int), .int .i64 (s.2.1.cold : Int), .int .i64 (s.2.1.test : Int)] 73, Buf 7 s.2.2 (s.2.1.pages.flatMap pgC)])
          (fun s ρ' => overL s.1 s.2.1 = some c' ∧ ClkB s.2.1 ∧ SL s.2.2 s.2.1.pages.length) (fun s => s.1)
          (n, c1, v1) ⟨rfl, rfl, rfl, trivial⟩ rfl ⟨hh, hB, sv⟩ ?_
        clear hh hB sv n c1 v1
        rintro ⟨n, c, v⟩ ρ4 le4 ⟨hh, hB, sv⟩ next
        dsimp only at hh hB sv next ⊢
        cases n with
        | zero => unfold overL at hh; cases hh
        | succ n =>
          rw [overL_s] at hh
          have hln := hB.ln
          have l1 := pgs_cells c.pages
          by_cases hgt : c.most < (cnt isTest c.pages : Int)
          · rw [if_pos hgt] at hh
            cases hx : testT n c with
            | none => rw [hx] at hh; cases hh
            | some x =>
              rw [hx] at hh
              obtain ⟨hB', hm⟩ := testT_B hB hx
              refine W.seq (W.seq ?_)
              refine W.drawA 9 rfl (fun σ0 hσ0 dσ0 => ?_)
              have fσ0_0 := rb_at 0 rfl hσ0 dσ0
              have fσ0_1 := rb_at 1 rfl hσ0 dσ0
              have fσ0_2 := rb_at 2 rfl hσ0 dσ0
              have fσ0_3 := ros_at 3 rfl hσ0 dσ0
              refine WD.takeL 0 rfl (by decide +kernel) (WL.mv rfl rfl (WL.nilT (WD.takeL 1 rfl (by decide +kernel) (WL.nc rfl rfl (WL.nilT (WD.takeL 2 rfl (by decide +kernel) ?_))))))
              refine WL.ldABF (T := Ty) rfl rfl rfl rfl (by first | assumption | exact RB.wide (by assumption) | exact In.rb (by assumption)) rfl (by repeat' constructor) ?_
              refine WL.nilT (WD.takeL 4 rfl (by decide +kernel) (WL.mv rfl rfl (WL.nilT (WD.takeL 5 rfl (by decide +kernel) (WL.nc rfl rfl (WL.nilT (WD.takeL 6 rfl (by decide +kernel) (WL.faN (T := Ty) (off' := 0) rfl rfl rfl rfl rfl rfl rfl (WL.nilT (WD.takeL 7 rfl (by decide +kernel) ?_))))))))))
              refine WL.ldBN (T := Ty) rfl rfl rfl rfl (by first | assumption | exact RB.wide (by assumption) | exact In.rb (by assumption)) rfl ?_
              refine WL.nilT (WD.oneL 3 rfl (by decide +kernel) ?_)
              refine WL.callV rfl rfl (fun x p d => count_c _ isTest 115 (fun p ρ => test_c ρ p) _ _ _ _ _ _ _ (by first | assumption | exact ROs.wide (by assumption) | exact ROs.mono (by assumption) (eqh_at 0 rfl p d) | exact ros_at 0 rfl p d | exact ros_at 1 rfl p d | exact ros_at 2 rfl p d | exact ros_at 3 rfl p d | exact ros_at 4 rfl p d) (by first | assumption | omega)) ?_
              refine WL.nilE (WD.takeL 8 rfl (by decide +kernel) (WL.gtr rfl rfl rfl (WL.nilT ?_)))
              refine WD.doneF hσ0 (by decide +kernel) (by repeat' constructor) ?_
              refine W.condpT rfl (by omega) (W.skip (W.block (W.region (WL.mv rfl rfl ?_))))
              refine WL.callTk (Take.cons 2 rfl (Take.cons 2 rfl Take.nil)) rfl rfl (fun x p d => testT_c _ _ _ _ _ _ (by assumption) (by assumption) (by assumption)) (by repeat' constructor) (fun r2 => ?_)
              refine WL.opens (α := Value) (φ := fun v => r2 = .tuple #[] ∧ SL v _) (ps := fun v => PClkO _ _ v) 0 rfl (fun h q => q) (by repeat' constructor) ?_
              rintro u2 ⟨es2, su2⟩
              subst es2
              dsimp only [PClkO, List.cons_append, List.nil_append] at su2 ⊢
              refine WL.nil (W.inBlock ?_)
              refine W.fit (Hs' := [box b1 _ _, box b0 _ _, box b _ _, Buf 7 _ _]) (by (repeat' first | exact Sel.nil | apply Sel.k | exact Pick.h | apply Pick.t)) (W.sub ?_ (next ⟨n, x, _⟩ ρ4 (Le.refl _) ⟨hh, hB', by assumption⟩ (by dsimp only; omega)))
              exact ⟨rfl, rfl, rfl, trivial⟩
          · rw [if_neg hgt] at hh
            cases hh
            refine W.seq (W.seq ?_)
            refine W.drawA 9 rfl (fun σ0 hσ0 dσ0 => ?_)
            have fσ0_0 := rb_at 0 rfl hσ0 dσ0
            have fσ0_1 := rb_at 1 rfl hσ0 dσ0
            have fσ0_2 := rb_at 2 rfl hσ0 dσ0
            have fσ0_3 := ros_at 3 rfl hσ0 dσ0
            refine WD.takeL 0 rfl (by decide +kernel) (WL.mv rfl rfl (WL.nilT (WD.takeL 1 rfl (by decide +kernel) (WL.nc rfl rfl (WL.nilT (WD.takeL 2 rfl (by decide +kernel) ?_))))))
            refine WL.ldABF (T := Ty) rfl rfl rfl rfl (by first | assumption | exact RB.wide (by assumption) | exact In.rb (by assumption)) rfl (by repeat' constructor) ?_
            refine WL.nilT (WD.takeL 4 rfl (by decide +kernel) (WL.mv rfl rfl (WL.nilT (WD.takeL 5 rfl (by decide +kernel) (WL.nc rfl rfl (WL.nilT (WD.takeL 6 rfl (by decide +kernel) (WL.faN (T := Ty) (off' := 0) rfl rfl rfl rfl rfl rfl rfl (WL.nilT (WD.takeL 7 rfl (by decide +kernel) ?_))))))))))
            refine WL.ldBN (T := Ty) rfl rfl rfl rfl (by first | assumption | exact RB.wide (by assumption) | exact In.rb (by assumption)) rfl ?_
            refine WL.nilT (WD.oneL 3 rfl (by decide +kernel) ?_)
            refine WL.callV rfl rfl (fun x p d => count_c _ isTest 115 (fun p ρ => test_c ρ p) _ _ _ _ _ _ _ (by first | assumption | exact ROs.wide (by assumption) | exact ROs.mono (by assumption) (eqh_at 0 rfl p d) | exact ros_at 0 rfl p d | exact ros_at 1 rfl p d | exact ros_at 2 rfl p d | exact ros_at 3 rfl p d | exact ros_at 4 rfl p d) (by first | assumption | omega)) ?_
            refine WL.nilE (WD.takeL 8 rfl (by decide +kernel) (WL.gtr rfl rfl rfl (WL.nilT ?_)))
            refine WD.doneF hσ0 (by decide +kernel) (by repeat' constructor) ?_
            refine W.condpF rfl (by omega) (W.exit rfl (W.seq (W.region ?_)))
            refine WL.ldAF (T := Ty) (j := 0) rfl rfl rfl rfl rfl rfl (by repeat' constructor) ?_
            refine WL.stAO (T := Ty) (j := 1) rfl rfl rfl rfl (by repeat' first | exact AO.nil | apply AO.cons (by first | rfl | exact SL.one (by assumption))) rfl rfl (by repeat' constructor) (by repeat' constructor) ?_
            refine WL.nil ?_
            exact W.fit (Hs' := [box b0 _ _, box b _ _, Buf 7 v _]) (by (repeat' first | exact Sel.nil | apply Sel.k | exact Pick.h | apply Pick.t)) (W.retC (T := Ty) (j := 0) rfl rfl rfl rfl rfl rfl (fun h q => ⟨v, ⟨rfl, sv⟩, q⟩))
      · cases hr : p.trial with
        | true =>
          rw [if_pos hr] at hh
          obtain ⟨x, hx, he⟩ := Option.map_eq_some_iff.1 hh
          cases he
          refine W.condT rfl (W.seq (W.region (WL.mv rfl rfl (WL.ncE rfl rfl (WL.faEN (T := Ty) (off' := 3) rfl rfl rfl rfl rfl rfl rfl ?_)))))
          refine WL.stEF (T := Ty) (j := 3) rfl rfl rfl rfl rfl rfl (by first | assumption | omega | (simp only [List.length_set]; omega) | (simp; omega)) rfl (by repeat' constructor) ?_
          refine WL.nil (W.region (WL.mv rfl rfl (WL.mv rfl rfl (WL.nc rfl rfl (WL.faN (T := Ty) (off' := 4) rfl rfl rfl rfl rfl rfl rfl ?_)))))
          refine WL.callM 2 rfl rfl rfl (fun x p d => on2_c _ _ _ _ _ _ _ _ _ (by assumption) (by first | assumption | omega) (by first | assumption | omega) (by first | assumption | omega)) (by repeat' constructor) ?_
          refine WL.nil ?_
          rw [hset0]
          refine W.fit (Hs' := [box b1 _ _, box b0 _ _, box b _ _, Buf 7 v _]) (by (repeat' first | exact Sel.nil | apply Sel.k | exact Pick.h | apply Pick.t)) (W.sub ?_ (cut1 ⟨{ setP c c.cold { p with kind := 3 } with cold := onP c c.cold }, v⟩ ρ2 (Le.refl _) ⟨hx, rfl, (hB.set _ _).coldS hon, by unfold setP; dsimp only; rw [List.length_set]; exact sv⟩))
          exact ⟨rfl, rfl, rfl, trivial⟩
        | false =>
          rw [if_neg (fun h => by rw [hr] at h; cases h)] at hh
          obtain ⟨x, hx, he⟩ := Option.map_eq_some_iff.1 hh
          cases he
          refine W.condF rfl (W.region (WL.mv rfl rfl (WL.mv rfl rfl (WL.nc rfl rfl (WL.faN (T := Ty) (off' := 4) rfl rfl rfl rfl rfl rfl rfl (WL.ldN (T := Ty) (j := 2) rfl rfl rfl rfl rfl rfl ?_))))))
          refine WL.callTk (Take.cons 2 rfl (Take.cons 2 rfl Take.nil)) rfl rfl (fun x p d => goes_c _ _ _ _ _ _ _ _ _ _ (by first | assumption | omega) (by first | assumption | omega) (by assumption) (by first | assumption | omega) (by first | assumption | omega) (by first | assumption | omega)) (by repeat' constructor) (fun r2 => ?_)
          refine WL.opens (α := Value) (φ := fun v => r2 = .tuple #[] ∧ SL v _) (ps := fun v => PClkO _ _ v) 0 rfl (fun h q => q) (by repeat' constructor) ?_
          rintro u2 ⟨es2, su2⟩
          subst es2
          dsimp only [PClkO, List.cons_append, List.nil_append] at su2 ⊢
          refine WL.nil ?_
          refine W.fit (Hs' := [box b1 _ _, box b0 _ _, box b _ _, Buf 7 u2 _]) (by (repeat' first | exact Sel.nil | apply Sel.k | exact Pick.h | apply Pick.t)) (W.sub ?_ (cut1 ⟨goesP c c.cold, u2⟩ ρ2 (Le.refl _) ⟨hx, rfl, hB.goes _, su2⟩))
          exact ⟨rfl, rfl, rfl, trivial⟩
    · refine W.drawA 9 rfl (fun σ0 hσ0 dσ0 => ?_)
      have fσ0_0 := rb_at 0 rfl hσ0 dσ0
      have fσ0_1 := rb_at 1 rfl hσ0 dσ0
      have fσ0_2 := ros_at 2 rfl hσ0 dσ0
      refine WD.takeL 0 rfl (by decide +kernel) (WL.mv rfl rfl (WL.nilT (WD.takeL 1 rfl (by decide +kernel) (WL.nc rfl rfl (WL.nilT (WD.takeL 2 rfl (by decide +kernel) (WL.faN (T := Ty) (off' := 2) rfl rfl rfl rfl rfl rfl rfl (WL.nilT (WD.takeL 3 rfl (by decide +kernel) ?_)))))))))
      refine WL.ldBN (T := Ty) rfl rfl rfl rfl (by first | assumption | exact RB.wide (by assumption) | exact In.rb (by assumption)) rfl ?_
      refine WL.nilT (WD.takeL 4 rfl (by decide +kernel) (WL.mv rfl rfl (WL.nilT (WD.takeL 5 rfl (by decide +kernel) (WL.nc rfl rfl (WL.nilT (WD.takeL 6 rfl (by decide +kernel) (WL.faN (T := Ty) (off' := 4) rfl rfl rfl rfl rfl rfl rfl (WL.nilT (WD.takeL 7 rfl (by decide +kernel) ?_))))))))))
      refine WL.ldBN (T := Ty) rfl rfl rfl rfl (by first | assumption | exact RB.wide (by assumption) | exact In.rb (by assumption)) rfl ?_
      refine WL.nilT (WD.takeL 8 rfl (by decide +kernel) ?_)
      refine WL.ix (T := Ty) rfl rfl rfl (by assumption) rfl rfl (by omega) (by first | omega | decide +kernel) ?_
      refine WL.nilT ?_
      refine WD.lastG hσ0 (by decide +kernel) (by repeat' constructor) rfl (by repeat' constructor) ?_
      refine WL.as rfl rfl (WL.nil ?_)
      refine W.fit (Hs' := [box b0 _ _, box b _ _, Buf 7 v _]) (by (repeat' first | exact Sel.nil | apply Sel.k | exact Pick.h | apply Pick.t)) (W.sub ?_ (cut () ρ (Le.refl _) trivial))
      exact ⟨rfl, rfl, rfl, trivial⟩
end Go.Proofs.Ytbebhmdjnneimaa
