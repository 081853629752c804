/- The document's ring: a copy, a new one, where a page is, how many there are; its hands. -/
import Derived.Test.YtbebhmdjnneimaaStc
import Derived.Test.YtbebhmdjnneimaaNum
import Derived.Test.YtbebhmdjnneimaaTab
import Derived.Test.YtbebhmdjnneimaaClk0
import Derived.Test.YtbebhmdjnneimaaClk11
import Derived.Test.YtbebhmdjnneimaaClkInv
import Derived.Test.YtbebhmdjnneimaaClkSt
set_option linter.unusedSimpArgs false
set_option linter.unusedVariables false
set_option maxRecDepth 20000
set_option maxHeartbeats 4000000
namespace Go.Proofs.Ytbebhmdjnneimaa
open Go
/-- the document's ring in a variable, with what was put out -/
def RgO (b : Nat) (c : Clk) (o v : Value) : List HP := [box b [.int .i64 c.most, .int .i64 c.target, v, .int .i64 (c.hot : Int), .int .i64 (c.cold : Int), .int .i64 (c.test : Int), o] 145, Buf 7 v (c.pages.flatMap pgC)]
def RgR (b : Nat) (c : Clk) (o : Value) (r : Value) : HP := fun h => ∃ v, (r = .tuple #[] ∧ SL v c.pages.length) ∧ sepl (RgO b c o v) h
theorem cnt_take0 (so : Pg → Bool) (L : List Pg) : cnt so (L.take 0) = 0 := rfl
attribute [local irreducible] W WL Fn Buf ROs SL eptr box Rd Src bndOK WD RB Reads In Own fndK cnt handG handC
theorem copied15_c (ρ : Hp) (mo ta : Int) (v : Value) (L : List Pg) (h1 h2 h3 : Int) (r0 : ROs ρ 7 v (L.flatMap pgC)) (hl : L.length ≤ 1000000) :
    Fn Try.prog 102 #[.agg #[.int .i64 mo, .int .i64 ta, v, .int .i64 h1, .int .i64 h2, .int .i64 h3]] ρ [] (fun r h => ∃ v, (r = .agg #[.int .i64 mo, .int .i64 ta, v, .int .i64 h1, .int .i64 h2, .int .i64 h3] ∧ SL v L.length) ∧ sepl [Buf 7 v (L.flatMap pgC)] h) := by
  have s0 : SL v L.length := r0.sl (pgs_cells L) (by omega)
  have l1 := pgs_cells L
  have ho := pgs_one L
  refine in102 rfl rfl ?_
  refine W.seq (W.region ?_)
  refine WL.bxF rfl rfl (by repeat' constructor) (fun b0 => ?_)
  refine WL.alF (T := Ty) rfl rfl (by repeat' constructor) (fun b1 => ?_)
  refine WL.nil (W.seq (W.region ?_))
  refine WL.bsC (T := Ty) rfl rfl rfl rfl rfl rfl rfl (by repeat' first | exact CO.nil | apply CO.one (by first | rfl | exact SL.one (by assumption)) | apply CO.agg) rfl (by repeat' constructor) (fun u2 hu2 => ?_)
  refine WL.faN (T := Ty) (off' := 2) rfl rfl rfl rfl rfl rfl rfl (WL.ldN (T := Ty) (j := 2) rfl rfl rfl rfl rfl rfl ?_)
  refine WL.ap (T := Ty) (i := 0) (n := 0) rfl rfl rfl rfl rfl rfl rfl rfl (by first | exact .ro (by assumption) | exact .ro (ROs.wide (by assumption)) | exact .eqJ 0 rfl (by assumption) | exact .own 0 rfl | exact .own 1 rfl | exact .own 2 rfl | exact .own 3 rfl | exact .own 4 rfl | exact .own 5 rfl) (by first | assumption | exact ROs.slm (by assumption)) rfl (by assumption) (by assumption) (by first | omega | (simp; omega) | (simp only [List.length_drop, List.length_take]; omega)) (by unfold maxLen; first | omega | (simp only [List.length_drop, List.length_take]; omega)) (fun v' => (by repeat' constructor)) (fun u3 hu3 => ?_)
  refine WL.faN (T := Ty) (off' := 2) rfl rfl rfl rfl rfl rfl rfl ?_
  refine WL.stF (T := Ty) (j := 2) rfl rfl rfl rfl (SL.one (by assumption)) rfl rfl (by repeat' constructor) (by repeat' constructor) ?_
  refine WL.nil (W.seq (W.region ?_))
  refine WL.ldAF (T := Ty) (j := 2) rfl rfl rfl rfl rfl rfl (by repeat' constructor) ?_
  refine WL.stAO (T := Ty) (j := 1) rfl rfl rfl rfl (by repeat' first | exact AO.nil | apply AO.cons (by first | rfl | exact SL.one (by assumption))) rfl rfl (by repeat' constructor) (by repeat' constructor) ?_
  refine WL.nil ?_
  exact W.fit (Hs' := [box b1 _ _, Buf 7 u3 _]) (by (repeat' first | exact Sel.nil | apply Sel.k | exact Pick.h | apply Pick.t)) (W.retC (T := Ty) (j := 0) rfl rfl rfl rfl rfl rfl (fun h q => ⟨u3, ⟨rfl, by rw [← Nat.zero_add L.length]; assumption⟩, q⟩))
theorem newr15_c (ρ : Hp) (m : Int) : Fn Try.prog 40 #[.int .i64 m] ρ [] (Just (.agg #[.int .i64 (min (max m 1) 1000), .int .i64 1, nilV, .int .i64 0, .int .i64 0, .int .i64 0])) := by
  refine in40 rfl rfl ?_
  refine W.seq (W.region ?_)
  refine WL.alF (T := Ty) rfl rfl (by repeat' constructor) (fun b0 => ?_)
  refine WL.nil (W.seq (W.region (WL.mv rfl rfl (WL.mx rfl rfl rfl (WL.mn rfl rfl rfl ?_)))))
  refine WL.bdC (T := Ty) rfl rfl rfl rfl (by repeat' first | exact CO.nil | apply CO.one (by first | rfl | exact SL.one (by assumption)) | apply CO.agg) rfl (by repeat' constructor) ?_
  refine WL.stAO (T := Ty) (j := 0) rfl rfl rfl rfl (by repeat' first | exact AO.nil | apply AO.cons (by first | rfl | exact SL.one (by assumption))) rfl rfl (by repeat' constructor) (by repeat' constructor) ?_
  refine WL.nil ?_
  exact W.retC (T := Ty) (j := 0) rfl rfl rfl rfl rfl rfl (fun h q => ⟨rfl, q⟩)
theorem newr15q_c (ρ : Hp) (m : Int) : Fn Try.prog 40 #[.int .i64 m] ρ [] (Just (.agg #[.int .i64 (newP m).most, .int .i64 (newP m).target, nilV, .int .i64 (((newP m).hot : Nat) : Int), .int .i64 (((newP m).cold : Nat) : Int), .int .i64 (((newP m).test : Nat) : Int)])) := newr15_c ρ m
theorem fnd_at {L : List Pg} {k : Ky} {i : Nat} {p : Pg} (h : ∀ q ∈ L.take i, q.key ≠ k) (hp : L[i]? = some p) (hk : p.key = k) : fndK L k = (i : Int) := by
  have hi := (List.getElem?_eq_some_iff.1 hp).1
  rcases fnd_lt L k with e | ⟨j, q, e, hq, hqk⟩
  · exact absurd hk (fnd_none e p (List.mem_of_getElem? hp))
  · rw [e]
    have hji : ¬ j < i := fun hlt => h q (List.mem_iff_getElem?.2 ⟨j, by rw [List.getElem?_take, if_pos hlt]; exact hq⟩) hqk
    have hij : ¬ i < j := by
      intro hlt
      unfold fndK idxF at e
      split at e
      · rename_i hn
        have e' : List.findIdx (fun p : Pg => decide (p.key = k)) L = j := by omega
        have := List.not_of_lt_findIdx (p := fun p : Pg => decide (p.key = k)) (xs := L) (i := i) (by omega)
        have hpi : L[i] = p := (List.getElem?_eq_some_iff.1 hp).2
        rw [hpi, hk] at this
        simp at this
      · omega
    omega
theorem findr15_c (ρ : Hp) (mo ta : Int) (v : Value) (L : List Pg) (h1 h2 h3 : Int) (a b c : Int) (r0 : ROs ρ 7 v (L.flatMap pgC)) (hl : L.length ≤ 1000000) :
    Fn Try.prog 43 #[.agg #[.int .i64 mo, .int .i64 ta, v, .int .i64 h1, .int .i64 h2, .int .i64 h3], .agg #[.int .i64 a, .int .i64 b, .int .i64 c]] ρ [] (Just (.int .i64 (fndK L ⟨a, b, c⟩))) := by
  have s0 : SL v L.length := r0.sl (pgs_cells L) (by omega)
  refine in43 rfl rfl ?_
  refine W.seq (W.region ?_)
  refine WL.bxF rfl rfl (by repeat' constructor) (fun b0 => ?_)
  refine WL.bxF rfl rfl (by repeat' constructor) (fun b1 => ?_)
  refine WL.as rfl rfl (WL.nil (W.seq (W.seq (W.region (WL.as rfl rfl (WL.nil (W.block ?_)))))))
  refine W.loopR (σ := Nat) (fun i => [(2, pt b0 0), (3, pt b1 0), (4, .int .i64 0), (5, .int .i64 (i : Int))]) (fun i => [box b1 [.int .i64 a, .int .i64 b, .int .i64 c] 76, box b0 [.int .i64 mo, .int .i64 ta, v, .int .i64 h1, .int .i64 h2, .int .i64 h3] 73]) (fun i ρ' => i ≤ L.length ∧ ∀ q ∈ L.take i, q.key ≠ ⟨a, b, c⟩) (fun i => L.length - i)
    0 ⟨rfl, rfl, rfl, rfl, trivial⟩ rfl ⟨Nat.zero_le _, fun q hq => by cases hq⟩ ?_
  rintro i ρ1 le1 ⟨hi, hno⟩ next
  replace r0 := r0.mono le1
  by_cases hc : i < L.length
  · obtain ⟨p, hp⟩ : ∃ p, L[i]? = some p := ⟨_, List.getElem?_eq_getElem hc⟩
    have l1 := pgs_cells L
    have hrow : ((L.flatMap pgC).drop (((i : Nat) : Int).toNat * 7)).take 3 = [.int .i64 p.key.a, .int .i64 p.key.b, .int .i64 p.key.c] := by
      have h := flat_row pg_len hp
      have h2 := congrArg (fun l => l.take 3) h
      simp only [List.take_take] at h2
      exact h2
    have hky := ky_dec p.key ⟨a, b, c⟩
    dsimp only at hky
    by_cases hk : p.key = ⟨a, b, c⟩
    · rw [decide_eq_true hk] at hky
      refine W.seq (W.seq (W.region (WL.mv rfl rfl (WL.faN (T := Ty) (off' := 2) rfl rfl rfl rfl rfl rfl rfl (WL.ldN (T := Ty) (j := 1) rfl rfl rfl rfl rfl rfl ?_)))))
      refine WL.len (T := Ty) rfl rfl (by assumption) rfl ?_
      refine WL.lss rfl rfl rfl (WL.nil (W.condpT rfl (by omega) (W.skip (W.seq (W.block (W.seq ?_))))))
      refine W.drawA 8 rfl (fun σ0 hσ0 dσ0 => ?_)
      have fσ0_0 := rb_at 0 rfl hσ0 dσ0
      have fσ0_1 := rb_at 1 rfl hσ0 dσ0
      refine WD.takeL 0 rfl (by decide +kernel) (WL.faN (T := Ty) (off' := 2) rfl rfl rfl rfl rfl rfl rfl (WL.nilT (WD.takeL 1 rfl (by decide +kernel) ?_)))
      refine WL.ldBN (T := Ty) rfl rfl rfl rfl (by first | assumption | exact RB.wide (by assumption) | exact In.rb (by assumption)) rfl ?_
      refine WL.nilT (WD.takeL 2 rfl (by decide +kernel) (WL.mv rfl rfl (WL.nilT (WD.takeL 3 rfl (by decide +kernel) ?_))))
      refine WL.ix (T := Ty) rfl rfl rfl (by assumption) rfl rfl (by omega) (by first | omega | decide +kernel) ?_
      refine WL.nilT (WD.takeL 4 rfl (by decide +kernel) (WL.faEN (T := Ty) (off' := 0) rfl rfl rfl rfl rfl rfl rfl (WL.nilT (WD.takeL 5 rfl (by decide +kernel) ?_))))
      refine WL.ldAR (T := Ty) rfl rfl rfl rfl (by first | assumption | exact ROs.wide (by assumption)) (by assumption) rfl ?_
      refine WL.nilT (WD.takeL 6 rfl (by decide +kernel) ?_)
      refine WL.ldABF (T := Ty) rfl rfl rfl rfl (by first | assumption | exact RB.wide (by assumption) | exact In.rb (by assumption)) rfl (by repeat' constructor) ?_
      refine WL.nilT (WD.takeL 7 rfl (by decide +kernel) ?_)
      refine WL.eqFe (T := Ty) rfl rfl rfl rfl (by repeat' first | exact FE.nil | apply FE.int (by decide) rfl rfl rfl rfl | apply FE.bool (by decide) rfl rfl rfl rfl | apply FE.sub (by decide) rfl (by kernel_rfl) rfl rfl) (by kernel_rfl) (by kernel_rfl) (by assumption) ?_
      refine WL.nilT ?_
      refine WD.doneF hσ0 (by decide +kernel) (by repeat' constructor) ?_
      refine W.condT rfl (W.seq (W.region (WL.mv rfl rfl (WL.as rfl rfl (WL.nil ?_)))))
      exact W.fit (Hs' := []) (by (repeat' first | exact Sel.nil | apply Sel.k | exact Pick.h | apply Pick.t)) (W.ret1 rfl rfl (fun h q => ⟨by rw [fnd_at hno hp hk], q⟩))
    · rw [decide_eq_false hk] at hky
      have hno' : ∀ q ∈ L.take (i + 1), q.key ≠ ⟨a, b, c⟩ := by
        intro q hq
        rw [List.take_add_one, hp, Option.toList_some] at hq
        rcases List.mem_append.1 hq with hq | hq
        · exact hno q hq
        · rw [List.mem_singleton.1 hq]; exact hk
      refine W.seq (W.seq (W.region (WL.mv rfl rfl (WL.faN (T := Ty) (off' := 2) rfl rfl rfl rfl rfl rfl rfl (WL.ldN (T := Ty) (j := 1) rfl rfl rfl rfl rfl rfl ?_)))))
      refine WL.len (T := Ty) rfl rfl (by assumption) rfl ?_
      refine WL.lss rfl rfl rfl (WL.nil (W.condpT rfl (by omega) (W.skip (W.seq (W.block (W.seq ?_))))))
      refine W.drawA 8 rfl (fun σ0 hσ0 dσ0 => ?_)
      have fσ0_0 := rb_at 0 rfl hσ0 dσ0
      have fσ0_1 := rb_at 1 rfl hσ0 dσ0
      refine WD.takeL 0 rfl (by decide +kernel) (WL.faN (T := Ty) (off' := 2) rfl rfl rfl rfl rfl rfl rfl (WL.nilT (WD.takeL 1 rfl (by decide +kernel) ?_)))
      refine WL.ldBN (T := Ty) rfl rfl rfl rfl (by first | assumption | exact RB.wide (by assumption) | exact In.rb (by assumption)) rfl ?_
      refine WL.nilT (WD.takeL 2 rfl (by decide +kernel) (WL.mv rfl rfl (WL.nilT (WD.takeL 3 rfl (by decide +kernel) ?_))))
      refine WL.ix (T := Ty) rfl rfl rfl (by assumption) rfl rfl (by omega) (by first | omega | decide +kernel) ?_
      refine WL.nilT (WD.takeL 4 rfl (by decide +kernel) (WL.faEN (T := Ty) (off' := 0) rfl rfl rfl rfl rfl rfl rfl (WL.nilT (WD.takeL 5 rfl (by decide +kernel) ?_))))
      refine WL.ldAR (T := Ty) rfl rfl rfl rfl (by first | assumption | exact ROs.wide (by assumption)) (by assumption) rfl ?_
      refine WL.nilT (WD.takeL 6 rfl (by decide +kernel) ?_)
      refine WL.ldABF (T := Ty) rfl rfl rfl rfl (by first | assumption | exact RB.wide (by assumption) | exact In.rb (by assumption)) rfl (by repeat' constructor) ?_
      refine WL.nilT (WD.takeL 7 rfl (by decide +kernel) ?_)
      refine WL.eqFe (T := Ty) rfl rfl rfl rfl (by repeat' first | exact FE.nil | apply FE.int (by decide) rfl rfl rfl rfl | apply FE.bool (by decide) rfl rfl rfl rfl | apply FE.sub (by decide) rfl (by kernel_rfl) rfl rfl) (by kernel_rfl) (by kernel_rfl) (by assumption) ?_
      refine WL.nilT ?_
      refine WD.doneF hσ0 (by decide +kernel) (by repeat' constructor) ?_
      refine W.condF rfl (W.skip (W.inBlock (W.region (WL.mv rfl rfl (WL.addK rfl rfl rfl (wrap_i64 ⟨by omega, by omega⟩) (WL.as rfl rfl (WL.nil ?_)))))))
      refine W.fit (Hs' := [box b1 _ _, box b0 _ _]) (by (repeat' first | exact Sel.nil | apply Sel.k | exact Pick.h | apply Pick.t)) (W.sub ?_ (next (i + 1) ρ1 (Le.refl _) ⟨hc, hno'⟩ (by omega)))
      exact ⟨rfl, rfl, rfl, rfl, trivial⟩
  · have hfn : fndK L ⟨a, b, c⟩ = -1 := by
      rw [List.take_of_length_le (by omega)] at hno
      rcases fnd_lt L ⟨a, b, c⟩ with e | ⟨j, q, e, hq, hqk⟩
      · exact e
      · exact absurd hqk (hno q (List.mem_of_getElem? hq))
    rw [hfn]
    refine W.seq (W.seq (W.region (WL.mv rfl rfl (WL.faN (T := Ty) (off' := 2) rfl rfl rfl rfl rfl rfl rfl (WL.ldN (T := Ty) (j := 1) rfl rfl rfl rfl rfl rfl ?_)))))
    refine WL.len (T := Ty) rfl rfl (by assumption) rfl ?_
    refine WL.lss rfl rfl rfl (WL.nil (W.condpF rfl (by omega) (W.exit rfl (W.seq (W.region (WL.as rfl rfl (WL.nil ?_)))))))
    exact W.fit (Hs' := []) (by (repeat' first | exact Sel.nil | apply Sel.k | exact Pick.h | apply Pick.t)) (W.ret1 rfl rfl (fun h q => ⟨rfl, q⟩))
theorem findr15_e (ρ : Hp) (mo ta : Int) (v : Value) (L : List Pg) (h1 h2 h3 : Int) (a b c : Int) (j : Int) (r0 : ROs ρ 7 v (L.flatMap pgC)) (hl : L.length ≤ 1000000) (hj : fndK L ⟨a, b, c⟩ = j) :
    Fn Try.prog 43 #[.agg #[.int .i64 mo, .int .i64 ta, v, .int .i64 h1, .int .i64 h2, .int .i64 h3], .agg #[.int .i64 a, .int .i64 b, .int .i64 c]] ρ [] (Just (.int .i64 j)) := by
  rw [← hj]
  exact findr15_c ρ mo ta v L h1 h2 h3 a b c r0 hl
theorem residentr_c (ρ : Hp) (a b c k : Int) (r t : Bool) (n : Int) : Fn Try.prog 103 #[.agg #[.int .i64 a, .int .i64 b, .int .i64 c, .int .i64 k, .bool r, .bool t, .int .i64 n]] ρ [] (Just (.bool (decide (k = 1) || decide (k = 2)))) := by
  refine in103 rfl rfl ?_
  by_cases h1 : k = 1
  · refine W.seq ?_
    refine W.region ?_
    refine WL.bxF rfl rfl (by repeat' constructor) (fun b0 => ?_)
    refine WL.as rfl rfl (WL.nil (W.seq (W.region (WL.faN (T := Ty) (off' := 3) rfl rfl rfl rfl rfl rfl rfl (WL.ldN (T := Ty) (j := 0) rfl rfl rfl rfl rfl rfl (WL.eql rfl rfl rfl (WL.mv rfl rfl (WL.gdFn rfl rfl rfl rfl rfl (by omega) (WL.gdFn rfl rfl rfl rfl rfl (by omega) (WL.gdFn rfl rfl rfl rfl rfl (by omega) (WL.pickTp rfl rfl (by omega) rfl (WL.as rfl rfl (WL.nil ?_)))))))))))))
    exact W.fit (Hs' := []) (by (repeat' first | exact Sel.nil | apply Sel.k | exact Pick.h | apply Pick.t)) (W.ret1 rfl rfl (fun h q => ⟨by rw [decide_eq_true h1]; rfl, q⟩))
  · refine W.seq ?_
    refine W.region ?_
    refine WL.bxF rfl rfl (by repeat' constructor) (fun b0 => ?_)
    refine WL.as rfl rfl (WL.nil (W.seq (W.region (WL.faN (T := Ty) (off' := 3) rfl rfl rfl rfl rfl rfl rfl (WL.ldN (T := Ty) (j := 0) rfl rfl rfl rfl rfl rfl (WL.eql rfl rfl rfl (WL.mv rfl rfl (WL.gF rfl rfl (by omega) (WL.faN (T := Ty) (off' := 3) rfl rfl rfl rfl rfl rfl rfl (WL.gF rfl rfl (by omega) (WL.ldN (T := Ty) (j := 0) rfl rfl rfl rfl rfl rfl (WL.gF rfl rfl (by omega) (WL.eql rfl rfl rfl ?_)))))))))))))
    refine WL.pickFp rfl rfl (by omega) rfl (WL.as rfl rfl (WL.nil ?_))
    exact W.fit (Hs' := []) (by (repeat' first | exact Sel.nil | apply Sel.k | exact Pick.h | apply Pick.t)) (W.ret1 rfl rfl (fun h q => ⟨by rw [decide_eq_false h1]; rfl, q⟩))
theorem countr_c (ρ : Hp) (k mo ta : Int) (v : Value) (L : List Pg) (h1 h2 h3 : Int) (r0 : ROs ρ 7 v (L.flatMap pgC)) (hl : L.length ≤ 1000000) :
    Fn Try.prog 104 #[.agg #[.int .i64 mo, .int .i64 ta, v, .int .i64 h1, .int .i64 h2, .int .i64 h3], .int .i64 k] ρ [] (Just (.int .i64 ((cnt (isKd k) L : Nat) : Int))) := by
  have s0 : SL v L.length := r0.sl (pgs_cells L) (by omega)
  refine in104 rfl rfl ?_
  refine W.seq (W.region ?_)
  refine WL.bxF rfl rfl (by repeat' constructor) (fun b0 => ?_)
  refine WL.as rfl rfl (WL.nil (W.seq (W.region (WL.as rfl rfl (WL.nil (W.seq (W.seq (W.region (WL.as rfl rfl (WL.nil (W.block ?_)))))))))))
  refine W.loopR (σ := Nat) (fun i => [(1, .int .i64 k), (2, pt b0 0), (5, .int .i64 ((cnt (isKd k) (L.take i) : Nat) : Int)), (6, .int .i64 (i : Int))]) (fun i => [box b0 [.int .i64 mo, .int .i64 ta, v, .int .i64 h1, .int .i64 h2, .int .i64 h3] 73]) (fun i ρ' => i ≤ L.length) (fun i => L.length - i)
    0 ⟨rfl, rfl, by rw [cnt_take0]; rfl, rfl, trivial⟩ rfl (Nat.zero_le _) ?_
  intro i ρ1 le1 hi next
  replace r0 := r0.mono le1
  by_cases hc : i < L.length
  · obtain ⟨p, hp⟩ : ∃ p, L[i]? = some p := ⟨_, List.getElem?_eq_getElem hc⟩
    have l1 := pgs_cells L
    have g3 : (L.flatMap pgC)[((i : Nat) : Int).toNat * 7 + 3]? = some (.int .i64 p.kind) := flat_get pg_len hp rfl
    have hst := cnt_take1 (so := isKd k) hp
    have hlt := cnt_take_le (so := isKd k) L i
    have hlt2 := cnt_le (isKd k) L
    by_cases hk : p.kind = k
    · rw [show isKd k p = true from decide_eq_true hk, if_pos rfl] at hst
      refine W.seq (W.seq (W.region (WL.mv rfl rfl (WL.faN (T := Ty) (off' := 2) rfl rfl rfl rfl rfl rfl rfl (WL.ldN (T := Ty) (j := 0) rfl rfl rfl rfl rfl rfl ?_)))))
      refine WL.len (T := Ty) rfl rfl (by assumption) rfl ?_
      refine WL.lss rfl rfl rfl (WL.nil (W.condpT rfl (by omega) (W.skip (W.seq (W.block (W.seq (W.region (WL.faN (T := Ty) (off' := 2) rfl rfl rfl rfl rfl rfl rfl (WL.ldN (T := Ty) (j := 0) rfl rfl rfl rfl rfl rfl (WL.mv rfl rfl ?_))))))))))
      refine WL.ix (T := Ty) rfl rfl rfl (by assumption) rfl rfl (by omega) (by first | omega | decide +kernel) ?_
      refine WL.faEN (T := Ty) (off' := 3) rfl rfl rfl rfl rfl rfl rfl ?_
      refine WL.ldR (T := Ty) rfl rfl rfl rfl (by first | assumption | exact ROs.wide (by assumption)) (by assumption) ?_
      refine WL.mv rfl rfl (WL.eql rfl rfl rfl (WL.nil (W.condpT rfl (by omega) (W.region (WL.mv rfl rfl (WL.addK rfl rfl rfl (wrap_i64 ⟨by omega, by omega⟩) (WL.as rfl rfl (WL.nil (W.inBlock (W.region (WL.mv rfl rfl (WL.addK rfl rfl rfl (wrap_i64 ⟨by omega, by omega⟩) (WL.as rfl rfl ?_)))))))))))))
      refine WL.nil ?_
      refine W.fit (Hs' := [box b0 _ _]) (by (repeat' first | exact Sel.nil | apply Sel.k | exact Pick.h | apply Pick.t)) (W.sub ?_ (next (i + 1) ρ1 (Le.refl _) hc (by omega)))
      exact ⟨rfl, rfl, by rw [hst]; rfl, rfl, trivial⟩
    · rw [show isKd k p = false from decide_eq_false hk, if_neg (by decide)] at hst
      refine W.seq (W.seq (W.region (WL.mv rfl rfl (WL.faN (T := Ty) (off' := 2) rfl rfl rfl rfl rfl rfl rfl (WL.ldN (T := Ty) (j := 0) rfl rfl rfl rfl rfl rfl ?_)))))
      refine WL.len (T := Ty) rfl rfl (by assumption) rfl ?_
      refine WL.lss rfl rfl rfl (WL.nil (W.condpT rfl (by omega) (W.skip (W.seq (W.block (W.seq (W.region (WL.faN (T := Ty) (off' := 2) rfl rfl rfl rfl rfl rfl rfl (WL.ldN (T := Ty) (j := 0) rfl rfl rfl rfl rfl rfl (WL.mv rfl rfl ?_))))))))))
      refine WL.ix (T := Ty) rfl rfl rfl (by assumption) rfl rfl (by omega) (by first | omega | decide +kernel) ?_
      refine WL.faEN (T := Ty) (off' := 3) rfl rfl rfl rfl rfl rfl rfl ?_
      refine WL.ldR (T := Ty) rfl rfl rfl rfl (by first | assumption | exact ROs.wide (by assumption)) (by assumption) ?_
      refine WL.mv rfl rfl (WL.eql rfl rfl rfl (WL.nil (W.condpF rfl (by omega) (W.skip (W.inBlock (W.region (WL.mv rfl rfl (WL.addK rfl rfl rfl (wrap_i64 ⟨by omega, by omega⟩) (WL.as rfl rfl (WL.nil ?_))))))))))
      refine W.fit (Hs' := [box b0 _ _]) (by (repeat' first | exact Sel.nil | apply Sel.k | exact Pick.h | apply Pick.t)) (W.sub ?_ (next (i + 1) ρ1 (Le.refl _) hc (by omega)))
      exact ⟨rfl, rfl, by rw [hst]; rfl, rfl, trivial⟩
  · have hiL : i = L.length := by omega
    subst hiL
    refine W.seq (W.seq (W.region (WL.mv rfl rfl (WL.faN (T := Ty) (off' := 2) rfl rfl rfl rfl rfl rfl rfl (WL.ldN (T := Ty) (j := 0) rfl rfl rfl rfl rfl rfl ?_)))))
    refine WL.len (T := Ty) rfl rfl (by assumption) rfl ?_
    refine WL.lss rfl rfl rfl (WL.nil (W.condpF rfl (by omega) (W.exit rfl (W.seq (W.region (WL.mv rfl rfl (WL.as rfl rfl (WL.nil ?_))))))))
    exact W.fit (Hs' := []) (by (repeat' first | exact Sel.nil | apply Sel.k | exact Pick.h | apply Pick.t)) (W.ret1 rfl rfl (fun h q => ⟨by rw [List.take_length], q⟩))
theorem countr1_c (ρ : Hp) (mo ta : Int) (v : Value) (L : List Pg) (h1 h2 h3 : Int) (r0 : ROs ρ 7 v (L.flatMap pgC)) (hl : L.length ≤ 1000000) :
    Fn Try.prog 104 #[.agg #[.int .i64 mo, .int .i64 ta, v, .int .i64 h1, .int .i64 h2, .int .i64 h3], .int .i64 1] ρ [] (Just (.int .i64 ((cnt isHot L : Nat) : Int))) := countr_c ρ 1 mo ta v L h1 h2 h3 r0 hl
theorem countr3_c (ρ : Hp) (mo ta : Int) (v : Value) (L : List Pg) (h1 h2 h3 : Int) (r0 : ROs ρ 7 v (L.flatMap pgC)) (hl : L.length ≤ 1000000) :
    Fn Try.prog 104 #[.agg #[.int .i64 mo, .int .i64 ta, v, .int .i64 h1, .int .i64 h2, .int .i64 h3], .int .i64 3] ρ [] (Just (.int .i64 ((cnt isTest L : Nat) : Int))) := countr_c ρ 3 mo ta v L h1 h2 h3 r0 hl
end Go.Proofs.Ytbebhmdjnneimaa
