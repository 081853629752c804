/- The hand Cold turns. -/
import Derived.Test.YtbebhmdjnneimaaStc
import Derived.Test.YtbebhmdjnneimaaNum
import Derived.Test.YtbebhmdjnneimaaTab
import Derived.Test.YtbebhmdjnneimaaClk6
set_option linter.unusedSimpArgs false
set_option linter.unusedVariables false
set_option maxRecDepth 20000
set_option maxHeartbeats 4000000
namespace Go.Proofs.Ytbebhmdjnneimaa
open Go
theorem freeL_s (n : Nat) (c : Clk) : freeL (n + 1) c = if cnt isCold c.pages = 0 then (hotT n c).bind (freeL n) else some c := rfl
theorem coldL_s (n : Nat) (c : Clk) : coldL (n + 1) c = (freeL n c).bind fun c => match c.pages[c.cold]? with
  | none => none
  | some p =>
   if isCold p = false then coldL n { c with cold := onP c c.cold }
   else if p.ref = true ∧ p.trial = true then (coolL n { setP c c.cold { p with kind := 1, ref := false, trial := false } with cold := onP c c.cold }).bind (coldL n)
   else if p.ref = true then coldL n { setP c c.cold { p with ref := false, trial := true } with cold := onP c c.cold }
   else putP n c := rfl
attribute [local irreducible] W WL Fn Buf ROs SL eptr box Rd Src bndOK WD RB Reads In Own handG handC hotL hotT testL testT coolL overL freeL coldL putP cnt goesP
theorem coldL_c (ρ : Hp) (b : Nat) (c : Clk) (v : Value) (n : Nat) (c' : Clk) (k : Ky) (hB : ClkB c) (sv : SL v c.pages.length) (hh : coldL n c = some (c', k)) :
    Fn Try.prog 72 #[pt b 0] ρ [box b [.int .i64 c.most, .int .i64 c.target, v, .int .i64 (c.hot : Int), .int .i64 (c.cold : Int), .int .i64 (c.test : Int)] 73, Buf 7 v (c.pages.flatMap pgC)] (CkK b c' k) := by
  refine in72 rfl rfl ?_
  refine W.seq (W.region ?_)
  refine WL.alF (T := Ty) rfl rfl (by repeat' constructor) (fun b0 => ?_)
  refine WL.nil (W.block ?_)
  refine W.loopR (σ := Nat × Clk × Value) (fun s => [(0, pt b 0), (2, pt b0 0)])
    (fun s => [box b0 [.int .i64 0, .int .i64 0, .int .i64 0] 76, box b [.int .i64 s.2.1.most, .int .i64 s.2.1.target, s.2.2, .int .i64 (s.2.1.hot : Int), .int .i64 (s.2.1.cold : Int), .int .i64 (s.2.1.test : Int)] 73, Buf 7 s.2.2 (s.2.1.pages.flatMap pgC)])
    (fun s ρ' => coldL s.1 s.2.1 = some (c', k) ∧ ClkB s.2.1 ∧ SL s.2.2 s.2.1.pages.length) (fun s => s.1)
    (n, c, v) ⟨rfl, rfl, trivial⟩ rfl ⟨hh, hB, sv⟩ ?_
  clear hh hB sv n c v
  rintro ⟨n, c, v⟩ ρ1 le1 ⟨hh, hB, sv⟩ next
  dsimp only at hh hB sv next ⊢
  cases n with
  | zero => unfold coldL at hh; cases hh
  | succ n =>
    rw [coldL_s] at hh
    cases hx : freeL n c with
    | none => rw [hx] at hh; cases hh
    | some x =>
      rw [hx] at hh
      simp only [Option.bind_some] at hh
      refine W.block (W.seq (W.block ?_))
      refine W.loopR (σ := Nat × Clk × Value) (fun s => [(0, pt b 0), (2, pt b0 0)])
        (fun s => [box b0 [.int .i64 0, .int .i64 0, .int .i64 0] 76, box b [.int .i64 s.2.1.most, .int .i64 s.2.1.target, s.2.2, .int .i64 (s.2.1.hot : Int), .int .i64 (s.2.1.cold : Int), .int .i64 (s.2.1.test : Int)] 73, Buf 7 s.2.2 (s.2.1.pages.flatMap pgC)])
        (fun s ρ' => freeL s.1 s.2.1 = some x ∧ ClkB s.2.1 ∧ SL s.2.2 s.2.1.pages.length) (fun s => s.1)
        (n, c, v) ⟨rfl, rfl, trivial⟩ rfl ⟨hx, hB, sv⟩ ?_
      clear hx hB sv c v
      rintro ⟨m, c, v⟩ ρ2 le2 ⟨hx, hB, sv⟩ next2
      dsimp only at hx hB sv next2 ⊢
      cases m with
      | zero => unfold freeL at hx; cases hx
      | succ m =>
        rw [freeL_s] at hx
        have hln := hB.ln
        have l1 := pgs_cells c.pages
        have hc1 := cnt_le isCold c.pages
        by_cases hz : cnt isCold c.pages = 0
        · rw [if_pos hz] at hx
          cases hy : hotT m c with
          | none => rw [hy] at hx; cases hx
          | some y =>
            rw [hy] at hx
            obtain ⟨hB', hm⟩ := hotT_B hB hy
            refine W.seq (W.seq (W.region (WL.mv rfl rfl (WL.nc rfl rfl ?_))))
            refine WL.ldAF (T := Ty) (j := 1) rfl rfl rfl rfl rfl rfl (by repeat' constructor) ?_
            refine WL.callV rfl rfl (fun x p d => count_c _ isCold 96 (fun p ρ => coldFree_c ρ p) _ _ _ _ _ _ _ (by first | assumption | exact ROs.wide (by assumption) | exact ROs.mono (by assumption) (eqh_at 0 rfl p d) | exact ros_at 0 rfl p d | exact ros_at 1 rfl p d | exact ros_at 2 rfl p d | exact ros_at 3 rfl p d | exact ros_at 4 rfl p d) (by first | assumption | omega)) ?_
            refine WL.eql rfl rfl rfl (WL.nil (W.condpT rfl (by omega) (W.skip (W.block (W.region (WL.mv rfl rfl ?_))))))
            refine WL.callTk (Take.cons 1 rfl (Take.cons 1 rfl Take.nil)) rfl rfl (fun x p d => hotT_c _ _ _ _ _ _ (by assumption) (by assumption) (by assumption)) (by repeat' constructor) (fun r1 => ?_)
            refine WL.opens (α := Value) (φ := fun v => r1 = .tuple #[] ∧ SL v _) (ps := fun v => PClkO _ _ v) 0 rfl (fun h q => q) (by repeat' constructor) ?_
            rintro u1 ⟨es1, su1⟩
            subst es1
            dsimp only [PClkO, List.cons_append, List.nil_append] at su1 ⊢
            refine WL.nil (W.inBlock ?_)
            refine W.fit (Hs' := [box b0 _ _, box b _ _, Buf 7 _ _]) (by (repeat' first | exact Sel.nil | apply Sel.k | exact Pick.h | apply Pick.t)) (W.sub ?_ (next2 ⟨m, y, _⟩ ρ2 (Le.refl _) ⟨hx, hB', by assumption⟩ (by dsimp only; omega)))
            exact ⟨rfl, rfl, trivial⟩
        · rw [if_neg hz] at hx
          have ex := Option.some.inj hx
          subst ex
          cases hp : c.pages[c.cold]? with
          | none => rw [hp] at hh; cases hh
          | some p =>
            rw [hp] at hh
            dsimp only at hh
            have hpl := (List.getElem?_eq_some_iff.1 hp).1
            have g4 : (c.pages.flatMap pgC)[((c.cold : Nat) : Int).toNat * 7 + 4]? = some (.bool p.ref) := flat_get pg_len hp rfl
            have g5 : (c.pages.flatMap pgC)[((c.cold : Nat) : Int).toNat * 7 + 5]? = some (.bool p.trial) := flat_get pg_len hp rfl
            have hrow : ((c.pages.flatMap pgC).drop (((c.cold : Nat) : Int).toNat * 7)).take 7 = pgC p := flat_row pg_len hp
            unfold pgC at hrow
            have k1 := hB.h1
            have k2 := hB.h2
            have k3 := hB.h3
            have hon := onP_le hB c.cold k2 (by omega)
            refine W.seq (W.seq (W.region (WL.mv rfl rfl (WL.nc rfl rfl ?_))))
            refine WL.ldAF (T := Ty) (j := 1) rfl rfl rfl rfl rfl rfl (by repeat' constructor) ?_
            refine WL.callV rfl rfl (fun x p d => count_c _ isCold 96 (fun p ρ => coldFree_c ρ p) _ _ _ _ _ _ _ (by first | assumption | exact ROs.wide (by assumption) | exact ROs.mono (by assumption) (eqh_at 0 rfl p d) | exact ros_at 0 rfl p d | exact ros_at 1 rfl p d | exact ros_at 2 rfl p d | exact ros_at 3 rfl p d | exact ros_at 4 rfl p d) (by first | assumption | omega)) ?_
            refine WL.eql rfl rfl rfl (WL.nil (W.condpF rfl (by omega) (W.exit rfl (W.seq ?_))))
            refine W.cutG (τ := Unit) (fun s => [(0, pt b 0), (2, pt b0 0), (3, eptr v (((c.cold : Nat) : Int).toNat * 7))]) (fun s => [box b0 [.int .i64 0, .int .i64 0, .int .i64 0] 76, box b [.int .i64 c.most, .int .i64 c.target, v, .int .i64 (c.hot : Int), .int .i64 (c.cold : Int), .int .i64 (c.test : Int)] 73, Buf 7 v (c.pages.flatMap pgC)]) (fun s ρ' => True) ?_ (fun cut => ?_)
            · rintro _ ρ3 le3 -
              have le13 : Le ρ1 ρ3 := fun b o h => le3 b o (le2 b o h)
              cases hcf : isCold p with
              | false =>
                rw [if_pos hcf] at hh
                have hcf' : (decide (p.kind = 2) && decide (p.pins = 0)) = false := hcf
                refine W.seq (W.seq (W.region (WL.mv rfl rfl (WL.ncE rfl rfl ?_))))
                refine WL.ldAE (T := Ty) (j := 2) rfl rfl rfl rfl rfl (by assumption) rfl ?_
                refine WL.callV rfl rfl (fun x p d => coldFreeX_c _ _ _ _ _ _ _ _) ?_
                refine WL.not rfl rfl (WL.nil ?_)
                rw [hcf']
                refine W.condT rfl (W.seq (W.region (WL.mv rfl rfl (WL.mv rfl rfl (WL.nc rfl rfl (WL.faN (T := Ty) (off' := 4) rfl rfl rfl rfl rfl rfl rfl ?_))))))
                refine WL.callM 1 rfl rfl rfl (fun x p d => on2_c _ _ _ _ _ _ _ _ _ (by assumption) (by first | assumption | omega) (by first | assumption | omega) (by first | assumption | omega)) (by repeat' constructor) ?_
                refine WL.nil (W.exit rfl ?_)
                refine W.fit (Hs' := [box b0 _ _, box b _ _, Buf 7 _ _]) (by (repeat' first | exact Sel.nil | apply Sel.k | exact Pick.h | apply Pick.t)) (W.sub ?_ (next ⟨n, { c with cold := onP c c.cold }, v⟩ ρ3 le13 ⟨hh, hB.coldS hon, sv⟩ (by dsimp only; omega)))
                exact ⟨rfl, rfl, trivial⟩
              | true =>
                rw [if_neg (by rw [hcf]; decide)] at hh
                have hcf' : (decide (p.kind = 2) && decide (p.pins = 0)) = true := hcf
                have nS : ∀ q : Pg, SL v (c.pages.set c.cold q).length := fun q => by rw [List.length_set]; exact sv
                cases hr : p.ref with
                | false =>
                  rw [hr] at g4
                  rw [if_neg (fun h => by rw [hr] at h; cases h.1), if_neg (fun h => by rw [hr] at h; cases h)] at hh
                  refine W.seq (W.seq (W.region (WL.mv rfl rfl (WL.ncE rfl rfl ?_))))
                  refine WL.ldAE (T := Ty) (j := 2) rfl rfl rfl rfl rfl (by assumption) rfl ?_
                  refine WL.callV rfl rfl (fun x p d => coldFreeX_c _ _ _ _ _ _ _ _) ?_
                  refine WL.not rfl rfl (WL.nil ?_)
                  rw [hcf']
                  refine W.condF rfl (W.skip (W.block (W.seq (W.region (WL.mv rfl rfl (WL.ncE rfl rfl (WL.faEN (T := Ty) (off' := 4) rfl rfl rfl rfl rfl rfl rfl ?_)))))))
                  refine WL.ldE (T := Ty) (j := 2) rfl rfl rfl rfl rfl (by assumption) ?_
                  refine WL.mv rfl rfl (WL.gdN rfl rfl rfl rfl rfl rfl (WL.gdN rfl rfl rfl rfl rfl rfl (WL.gdN rfl rfl rfl rfl rfl rfl (WL.gdN rfl rfl rfl rfl rfl rfl (WL.pickF rfl rfl rfl (WL.as rfl rfl (WL.nil (W.condF rfl (W.seq (W.region (WL.mv rfl rfl (WL.ncE rfl rfl (WL.faEN (T := Ty) (off' := 4) rfl rfl rfl rfl rfl rfl rfl ?_)))))))))))))
                  refine WL.ldE (T := Ty) (j := 2) rfl rfl rfl rfl rfl (by assumption) ?_
                  refine WL.as rfl rfl (WL.nil (W.condF rfl (W.seq (W.region (WL.mv rfl rfl ?_)))))
                  refine WL.callTk (Take.cons 1 rfl (Take.cons 1 rfl Take.nil)) rfl rfl (fun x p d => putP_c _ _ _ _ _ _ _ (by assumption) (by assumption) (by assumption)) (by repeat' constructor) (fun r1 => ?_)
                  refine WL.opens (α := Value) (φ := fun v => r1 = .agg #[.int .i64 _, .int .i64 _, .int .i64 _] ∧ SL v _) (ps := fun v => PClkO _ _ v) 0 rfl (fun h q => q) (by repeat' constructor) ?_
                  rintro u1 ⟨es1, su1⟩
                  subst es1
                  dsimp only [PClkO, List.cons_append, List.nil_append] at su1 ⊢
                  refine WL.stAO (T := Ty) (j := 2) rfl rfl rfl rfl (by repeat' first | exact AO.nil | apply AO.cons (by first | rfl | exact SL.one (by assumption))) rfl rfl (by repeat' constructor) (by repeat' constructor) ?_
                  refine WL.nil ?_
                  exact W.fit (Hs' := [box b0 _ _, box b _ _, Buf 7 u1 _]) (by (repeat' first | exact Sel.nil | apply Sel.k | exact Pick.h | apply Pick.t)) (W.retC (T := Ty) (j := 0) rfl rfl rfl rfl rfl rfl (fun h q => ⟨u1, ⟨rfl, su1⟩, q⟩))
                | true =>
                  rw [hr] at g4
                  cases ht : p.trial with
                  | false =>
                    rw [ht] at g5
                    rw [if_neg (fun h => by rw [ht] at h; cases h.2), if_pos hr] at hh
                    refine W.seq (W.seq (W.region (WL.mv rfl rfl (WL.ncE rfl rfl ?_))))
                    refine WL.ldAE (T := Ty) (j := 2) rfl rfl rfl rfl rfl (by assumption) rfl ?_
                    refine WL.callV rfl rfl (fun x p d => coldFreeX_c _ _ _ _ _ _ _ _) ?_
                    refine WL.not rfl rfl (WL.nil ?_)
                    rw [hcf']
                    refine W.condF rfl (W.skip (W.block (W.seq (W.region (WL.mv rfl rfl (WL.ncE rfl rfl (WL.faEN (T := Ty) (off' := 4) rfl rfl rfl rfl rfl rfl rfl ?_)))))))
                    refine WL.ldE (T := Ty) (j := 2) rfl rfl rfl rfl rfl (by assumption) ?_
                    refine WL.mv rfl rfl (WL.gY rfl rfl (WL.mv rfl rfl (WL.gY rfl rfl (WL.ncE rfl rfl (WL.gY rfl rfl (WL.faEN (T := Ty) (off' := 5) rfl rfl rfl rfl rfl rfl rfl (WL.gY rfl rfl ?_)))))))
                    refine WL.ldE (T := Ty) (j := 2) rfl rfl rfl rfl rfl (by assumption) ?_
                    refine WL.pickT rfl rfl rfl (WL.as rfl rfl (WL.nil (W.condF rfl (W.seq (W.region (WL.mv rfl rfl (WL.ncE rfl rfl (WL.faEN (T := Ty) (off' := 4) rfl rfl rfl rfl rfl rfl rfl ?_))))))))
                    refine WL.ldE (T := Ty) (j := 2) rfl rfl rfl rfl rfl (by assumption) ?_
                    refine WL.as rfl rfl (WL.nil (W.condT rfl (W.seq (W.region (WL.mv rfl rfl (WL.mv rfl rfl (WL.ncE rfl rfl (WL.faEN (T := Ty) (off' := 4) rfl rfl rfl rfl rfl rfl rfl ?_))))))))
                    refine WL.stEF (T := Ty) (j := 2) rfl rfl rfl rfl rfl rfl (by first | assumption | omega | (simp only [List.length_set]; omega) | (simp; omega)) rfl (by repeat' constructor) ?_
                    refine WL.ncE rfl rfl (WL.faEN (T := Ty) (off' := 5) rfl rfl rfl rfl rfl rfl rfl ?_)
                    refine WL.stEF (T := Ty) (j := 2) rfl rfl rfl rfl rfl rfl (by first | assumption | omega | (simp only [List.length_set]; omega) | (simp; omega)) rfl (by repeat' constructor) ?_
                    refine WL.nil (W.region (WL.mv rfl rfl (WL.mv rfl rfl (WL.nc rfl rfl (WL.faN (T := Ty) (off' := 4) rfl rfl rfl rfl rfl rfl rfl ?_)))))
                    refine WL.callM 1 rfl rfl rfl (fun x p d => on2_c _ _ _ _ _ _ _ _ _ (by assumption) (by first | assumption | omega) (by first | assumption | omega) (by first | assumption | omega)) (by repeat' constructor) ?_
                    refine WL.nil (W.inBlock (W.inBlock ?_))
                    have hset0 : (c.pages.flatMap pgC).set (((c.cold : Nat) : Int).toNat * 7 + 4) (.bool false) = (c.pages.set c.cold { p with ref := false }).flatMap pgC := flat_set (j := 4) pg_len hp (by decide) rfl
                    have hset1 : ((c.pages.set c.cold { p with ref := false }).flatMap pgC).set (((c.cold : Nat) : Int).toNat * 7 + 5) (.bool true) = (c.pages.set c.cold { p with ref := false, trial := true }).flatMap pgC := by
                      have := flat_set (j := 5) (b := { p with ref := false, trial := true }) (v := .bool true) pg_len (show (c.pages.set c.cold { p with ref := false })[c.cold]? = some { p with ref := false } from List.getElem?_set_self hpl) (by decide) rfl
                      rw [List.set_set] at this
                      exact this
                    rw [hset0, hset1]
                    refine W.fit (Hs' := [box b0 _ _, box b _ _, Buf 7 _ _]) (by (repeat' first | exact Sel.nil | apply Sel.k | exact Pick.h | apply Pick.t)) (W.sub ?_ (next ⟨n, { setP c c.cold { p with ref := false, trial := true } with cold := onP c c.cold }, v⟩ ρ3 le13 ⟨hh, (hB.set _ _).coldS hon, nS _⟩ (by dsimp only; omega)))
                    exact ⟨rfl, rfl, trivial⟩
                  | true =>
                    rw [ht] at g5
                    rw [if_pos ⟨hr, ht⟩] at hh
                    refine W.seq (W.seq (W.region (WL.mv rfl rfl (WL.ncE rfl rfl ?_))))
                    refine WL.ldAE (T := Ty) (j := 2) rfl rfl rfl rfl rfl (by assumption) rfl ?_
                    refine WL.callV rfl rfl (fun x p d => coldFreeX_c _ _ _ _ _ _ _ _) ?_
                    refine WL.not rfl rfl (WL.nil ?_)
                    rw [hcf']
                    refine W.condF rfl (W.skip (W.block (W.seq (W.region (WL.mv rfl rfl (WL.ncE rfl rfl (WL.faEN (T := Ty) (off' := 4) rfl rfl rfl rfl rfl rfl rfl ?_)))))))
                    refine WL.ldE (T := Ty) (j := 2) rfl rfl rfl rfl rfl (by assumption) ?_
                    refine WL.mv rfl rfl (WL.gY rfl rfl (WL.mv rfl rfl (WL.gY rfl rfl (WL.ncE rfl rfl (WL.gY rfl rfl (WL.faEN (T := Ty) (off' := 5) rfl rfl rfl rfl rfl rfl rfl (WL.gY rfl rfl ?_)))))))
                    refine WL.ldE (T := Ty) (j := 2) rfl rfl rfl rfl rfl (by assumption) ?_
                    refine WL.pickT rfl rfl rfl (WL.as rfl rfl (WL.nil (W.condT rfl (W.seq (W.region (WL.mv rfl rfl (WL.mv rfl rfl (WL.mv rfl rfl (WL.ncE rfl rfl (WL.faEN (T := Ty) (off' := 3) rfl rfl rfl rfl rfl rfl rfl ?_))))))))))
                    refine WL.stEF (T := Ty) (j := 2) rfl rfl rfl rfl rfl rfl (by first | assumption | omega | (simp only [List.length_set]; omega) | (simp; omega)) rfl (by repeat' constructor) ?_
                    refine WL.ncE rfl rfl (WL.faEN (T := Ty) (off' := 4) rfl rfl rfl rfl rfl rfl rfl ?_)
                    refine WL.stEF (T := Ty) (j := 2) rfl rfl rfl rfl rfl rfl (by first | assumption | omega | (simp only [List.length_set]; omega) | (simp; omega)) rfl (by repeat' constructor) ?_
                    refine WL.ncE rfl rfl (WL.faEN (T := Ty) (off' := 5) rfl rfl rfl rfl rfl rfl rfl ?_)
                    refine WL.stEF (T := Ty) (j := 2) rfl rfl rfl rfl rfl rfl (by first | assumption | omega | (simp only [List.length_set]; omega) | (simp; omega)) rfl (by repeat' constructor) ?_
                    refine WL.nil (W.seq (W.region (WL.mv rfl rfl (WL.mv rfl rfl (WL.nc rfl rfl (WL.faN (T := Ty) (off' := 4) rfl rfl rfl rfl rfl rfl rfl ?_))))))
                    refine WL.callM 1 rfl rfl rfl (fun x p d => on2_c _ _ _ _ _ _ _ _ _ (by assumption) (by first | assumption | omega) (by first | assumption | omega) (by first | assumption | omega)) (by repeat' constructor) ?_
                    refine WL.nil (W.region (WL.mv rfl rfl ?_))
                    have hset0 : (c.pages.flatMap pgC).set (((c.cold : Nat) : Int).toNat * 7 + 3) (.int .i64 1) = (c.pages.set c.cold { p with kind := 1 }).flatMap pgC := flat_set (j := 3) pg_len hp (by decide) rfl
                    have hset1 : ((c.pages.set c.cold { p with kind := 1 }).flatMap pgC).set (((c.cold : Nat) : Int).toNat * 7 + 4) (.bool false) = (c.pages.set c.cold { p with kind := 1, ref := false }).flatMap pgC := by
                      have := flat_set (j := 4) (b := { p with kind := 1, ref := false }) (v := .bool false) pg_len (show (c.pages.set c.cold { p with kind := 1 })[c.cold]? = some { p with kind := 1 } from List.getElem?_set_self hpl) (by decide) rfl
                      rw [List.set_set] at this
                      exact this
                    have hset2 : ((c.pages.set c.cold { p with kind := 1, ref := false }).flatMap pgC).set (((c.cold : Nat) : Int).toNat * 7 + 5) (.bool false) = (c.pages.set c.cold { p with kind := 1, ref := false, trial := false }).flatMap pgC := by
                      have := flat_set (j := 5) (b := { p with kind := 1, ref := false, trial := false }) (v := .bool false) pg_len (show (c.pages.set c.cold { p with kind := 1, ref := false })[c.cold]? = some { p with kind := 1, ref := false } from List.getElem?_set_self hpl) (by decide) rfl
                      rw [List.set_set] at this
                      exact this
                    rw [hset0, hset1, hset2]
                    cases hy : coolL n { setP c c.cold { p with kind := 1, ref := false, trial := false } with cold := onP c c.cold } with
                    | none => rw [hy] at hh; cases hh
                    | some y =>
                      rw [hy] at hh
                      have hBn : ClkB { setP c c.cold { p with kind := 1, ref := false, trial := false } with cold := onP c c.cold } := (hB.set _ _).coldS hon
                      obtain ⟨hB', hm⟩ := coolL_B n _ y hBn hy
                      refine WL.callTk (Take.cons 1 rfl (Take.cons 1 rfl Take.nil)) rfl rfl (fun x p d => coolL_c _ b _ v n y hBn (nS _) hy) (by repeat' constructor) (fun r9 => ?_)
                      refine WL.opens (α := Value) (φ := fun v => r9 = .tuple #[] ∧ SL v _) (ps := fun v => PClkO _ _ v) 0 rfl (fun h q => q) (by repeat' constructor) ?_
                      rintro u9 ⟨es9, su9⟩
                      subst es9
                      dsimp only [PClkO, List.cons_append, List.nil_append] at su9 ⊢
                      refine WL.nil (W.inBlock (W.inBlock ?_))
                      refine W.fit (Hs' := [box b0 _ _, box b _ _, Buf 7 _ _]) (by (repeat' first | exact Sel.nil | apply Sel.k | exact Pick.h | apply Pick.t)) (W.sub ?_ (next ⟨n, y, u9⟩ ρ3 le13 ⟨hh, hB', su9⟩ (by dsimp only; omega)))
                      exact ⟨rfl, rfl, trivial⟩
            · refine W.drawA 9 rfl (fun σ0 hσ0 dσ0 => ?_)
              have fσ0_0 := rb_at 0 rfl hσ0 dσ0
              have fσ0_1 := rb_at 1 rfl hσ0 dσ0
              have fσ0_2 := ros_at 2 rfl hσ0 dσ0
              refine WD.takeL 0 rfl (by decide +kernel) (WL.mv rfl rfl (WL.nilT (WD.takeL 1 rfl (by decide +kernel) (WL.nc rfl rfl (WL.nilT (WD.takeL 2 rfl (by decide +kernel) (WL.faN (T := Ty) (off' := 2) rfl rfl rfl rfl rfl rfl rfl (WL.nilT (WD.takeL 3 rfl (by decide +kernel) ?_)))))))))
              refine WL.ldBN (T := Ty) rfl rfl rfl rfl (by first | assumption | exact RB.wide (by assumption) | exact In.rb (by assumption)) rfl ?_
              refine WL.nilT (WD.takeL 4 rfl (by decide +kernel) (WL.mv rfl rfl (WL.nilT (WD.takeL 5 rfl (by decide +kernel) (WL.nc rfl rfl (WL.nilT (WD.takeL 6 rfl (by decide +kernel) (WL.faN (T := Ty) (off' := 4) rfl rfl rfl rfl rfl rfl rfl (WL.nilT (WD.takeL 7 rfl (by decide +kernel) ?_))))))))))
              refine WL.ldBN (T := Ty) rfl rfl rfl rfl (by first | assumption | exact RB.wide (by assumption) | exact In.rb (by assumption)) rfl ?_
              refine WL.nilT (WD.takeL 8 rfl (by decide +kernel) ?_)
              refine WL.ix (T := Ty) rfl rfl rfl (by assumption) rfl rfl (by omega) (by first | omega | decide +kernel) ?_
              refine WL.nilT ?_
              refine WD.lastG hσ0 (by decide +kernel) (by repeat' constructor) rfl (by repeat' constructor) ?_
              refine WL.as rfl rfl (WL.nil ?_)
              refine W.fit (Hs' := [box b0 _ _, box b _ _, Buf 7 v _]) (by (repeat' first | exact Sel.nil | apply Sel.k | exact Pick.h | apply Pick.t)) (W.sub ?_ (cut () ρ2 (Le.refl _) trivial))
              exact ⟨rfl, rfl, rfl, trivial⟩
end Go.Proofs.Ytbebhmdjnneimaa
