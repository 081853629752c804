/- The document's ring: the target moves; hands; a page goes; a page comes. -/
import Derived.Test.YtbebhmdjnneimaaStc
import Derived.Test.YtbebhmdjnneimaaNum
import Derived.Test.YtbebhmdjnneimaaTab
import Derived.Test.YtbebhmdjnneimaaCkr1
set_option linter.unusedSimpArgs false
set_option linter.unusedVariables false
set_option maxRecDepth 20000
set_option maxHeartbeats 4000000
namespace Go.Proofs.Ytbebhmdjnneimaa
open Go
attribute [local irreducible] W WL Fn Buf ROs SL eptr box Rd Src bndOK WD RB Reads In Own fndK cnt handG handC
theorem aimr_c (ρ : Hp) (b : Nat) (mo ta : Int) (v o : Value) (h1 h2 h3 d : Int) (m1 : -1000 ≤ mo) (m2 : mo ≤ 1000) (t1 : -1000 ≤ ta ∧ ta ≤ 1000) (d1 : -1000 ≤ d) (d2 : d ≤ 1000) :
    Fn Try.prog 107 #[pt b 0, .int .i64 d] ρ [box b [.int .i64 mo, .int .i64 ta, v, .int .i64 h1, .int .i64 h2, .int .i64 h3, o] 145] (fun r h => r = .tuple #[] ∧ box b [.int .i64 mo, .int .i64 (min (max (ta + d) 1) mo), v, .int .i64 h1, .int .i64 h2, .int .i64 h3, o] 145 h) := by
  obtain ⟨t1, t2⟩ := t1
  refine in107 rfl rfl ?_
  refine W.drawA 15 rfl (fun σ0 hσ0 dσ0 => ?_)
  have fσ0_0 := rb_at 0 rfl hσ0 dσ0
  refine WD.takeL 0 rfl (by decide +kernel) (WL.mv rfl rfl (WL.nilT (WD.takeL 1 rfl (by decide +kernel) (WL.mv rfl rfl (WL.nilT (WD.takeL 2 rfl (by decide +kernel) (WL.nc rfl rfl (WL.nilT (WD.takeL 3 rfl (by decide +kernel) (WL.faN (T := Ty) (off' := 0) rfl rfl rfl rfl rfl rfl rfl (WL.nilT (WD.takeL 4 rfl (by decide +kernel) (WL.faN (T := Ty) (off' := 1) rfl rfl rfl rfl rfl rfl rfl ?_)))))))))))))
  refine WL.nilT (WD.takeL 5 rfl (by decide +kernel) ?_)
  refine WL.ldBN (T := Ty) rfl rfl rfl rfl (by first | assumption | exact RB.wide (by assumption) | exact In.rb (by assumption)) rfl ?_
  refine WL.nilT (WD.takeL 6 rfl (by decide +kernel) (WL.mv rfl rfl (WL.nilT (WD.takeL 7 rfl (by decide +kernel) (WL.addK rfl rfl rfl (wrap_i64 ⟨by omega, by omega⟩) (WL.nilT (WD.takeL 8 rfl (by decide +kernel) (WL.mx rfl rfl rfl (WL.nilT (WD.takeL 9 rfl (by decide +kernel) (WL.mv rfl rfl (WL.nilT (WD.takeL 10 rfl (by decide +kernel) ?_)))))))))))))
  refine WL.nc rfl rfl (WL.nilT (WD.takeL 11 rfl (by decide +kernel) (WL.faN (T := Ty) (off' := 0) rfl rfl rfl rfl rfl rfl rfl (WL.nilT (WD.takeL 12 rfl (by decide +kernel) (WL.faN (T := Ty) (off' := 0) rfl rfl rfl rfl rfl rfl rfl (WL.nilT (WD.takeL 13 rfl (by decide +kernel) ?_))))))))
  refine WL.ldBN (T := Ty) rfl rfl rfl rfl (by first | assumption | exact RB.wide (by assumption) | exact In.rb (by assumption)) rfl ?_
  refine WL.nilT (WD.takeL 14 rfl (by decide +kernel) (WL.mn rfl rfl rfl (WL.nilT ?_)))
  refine WD.lastG hσ0 (by decide +kernel) (by repeat' constructor) rfl (by repeat' constructor) ?_
  refine WL.nc rfl rfl (WL.faN (T := Ty) (off' := 0) rfl rfl rfl rfl rfl rfl rfl (WL.faN (T := Ty) (off' := 1) rfl rfl rfl rfl rfl rfl rfl ?_))
  refine WL.stF (T := Ty) (j := 0) rfl rfl rfl rfl rfl rfl rfl (by repeat' constructor) (by repeat' constructor) ?_
  refine WL.nil ?_
  exact W.stop0 rfl (fun h q => ⟨rfl, sepl_one.1 q⟩)
theorem onr_c (ρ : Hp) (b : Nat) (mo ta : Int) (v o : Value) (h1 h2 h3 : Int) (i n : Nat) (rb : RB ρ b [.int .i64 mo, .int .i64 ta, v, .int .i64 h1, .int .i64 h2, .int .i64 h3, o] 145) (hv : SL v n) (hi : i < n) (hn : n ≤ 1000000) :
    Fn Try.prog 121 #[pt b 0, .int .i64 (i : Int)] ρ [] (Just (.int .i64 (((i + 1) % n : Nat) : Int))) := by
  refine in121 rfl rfl ?_
  by_cases hc : n ≤ i + 1
  · have e : (i + 1) % n = 0 := by rw [show i + 1 = n by omega, Nat.mod_self]
    refine W.seq (W.region (WL.as rfl rfl (WL.nil (W.seq (W.seq (W.region (WL.mv rfl rfl (WL.addK rfl rfl rfl (wrap_i64 ⟨by omega, by omega⟩) (WL.mv rfl rfl (WL.nc rfl rfl (WL.faN (T := Ty) (off' := 0) rfl rfl rfl rfl rfl rfl rfl (WL.faN (T := Ty) (off' := 2) rfl rfl rfl rfl rfl rfl rfl ?_))))))))))))
    refine WL.ldBN (T := Ty) rfl rfl rfl rfl (by first | assumption | exact RB.wide (by assumption) | exact In.rb (by assumption)) rfl ?_
    refine WL.len (T := Ty) rfl rfl (by assumption) rfl ?_
    refine WL.geq rfl rfl rfl (WL.nil (W.condpT rfl (by omega) (W.seq (W.region (WL.as rfl rfl (WL.nil ?_))))))
    exact W.ret1 rfl rfl (fun h q => ⟨by rw [e]; rfl, q⟩)
  · have e : (i + 1) % n = i + 1 := Nat.mod_eq_of_lt (by omega)
    refine W.seq (W.region (WL.as rfl rfl (WL.nil (W.seq (W.seq (W.region (WL.mv rfl rfl (WL.addK rfl rfl rfl (wrap_i64 ⟨by omega, by omega⟩) (WL.mv rfl rfl (WL.nc rfl rfl (WL.faN (T := Ty) (off' := 0) rfl rfl rfl rfl rfl rfl rfl (WL.faN (T := Ty) (off' := 2) rfl rfl rfl rfl rfl rfl rfl ?_))))))))))))
    refine WL.ldBN (T := Ty) rfl rfl rfl rfl (by first | assumption | exact RB.wide (by assumption) | exact In.rb (by assumption)) rfl ?_
    refine WL.len (T := Ty) rfl rfl (by assumption) rfl ?_
    refine WL.geq rfl rfl rfl (WL.nil (W.condpF rfl (by omega) (W.skip (W.seq (W.region (WL.mv rfl rfl (WL.addK rfl rfl rfl (wrap_i64 ⟨by omega, by omega⟩) (WL.as rfl rfl (WL.nil ?_)))))))))
    exact W.ret1 rfl rfl (fun h q => ⟨by rw [e]; rfl, q⟩)
theorem goner_c (ρ : Hp) (b : Nat) (mo ta : Int) (v o : Value) (h1 h2 h3 : Int) (i n x : Nat) (rb : RB ρ b [.int .i64 mo, .int .i64 ta, v, .int .i64 h1, .int .i64 h2, .int .i64 h3, o] 145) (hv : SL v n) (hx : x = 0 ∨ x < n + 1) (hn : n ≤ 1000000) :
    Fn Try.prog 119 #[pt b 0, .int .i64 (x : Int), .int .i64 (i : Int)] ρ [] (Just (.int .i64 ((handG n i x : Nat) : Int))) := by
  refine in119 rfl rfl ?_
  by_cases hc : i < x
  · have e : handG n i x = x - 1 := by unfold handG; rw [if_pos hc, if_neg (by omega)]
    refine W.seq (W.region (WL.as rfl rfl (WL.nil (W.seq (W.seq (W.region (WL.mv rfl rfl (WL.mv rfl rfl (WL.gtr rfl rfl rfl (WL.nil (W.condpT rfl (by omega) (W.seq (W.region ?_)))))))))))))
    refine WL.mv rfl rfl (WL.subK rfl rfl rfl (wrap_i64 ⟨by omega, by omega⟩) (WL.as rfl rfl (WL.nil ?_)))
    exact W.ret1 rfl rfl (fun h q => ⟨by rw [e, show ((x - 1 : Nat) : Int) = (x : Int) - 1 by omega], q⟩)
  · by_cases hc2 : n ≤ x
    · have e : handG n i x = 0 := by unfold handG; rw [if_neg hc, if_pos hc2]
      refine W.seq (W.region (WL.as rfl rfl (WL.nil (W.seq (W.seq (W.region (WL.mv rfl rfl (WL.mv rfl rfl (WL.gtr rfl rfl rfl (WL.nil (W.condpF rfl (by omega) (W.skip (W.seq ?_)))))))))))))
      refine W.seq (W.region (WL.mv rfl rfl (WL.mv rfl rfl (WL.nc rfl rfl (WL.faN (T := Ty) (off' := 0) rfl rfl rfl rfl rfl rfl rfl (WL.faN (T := Ty) (off' := 2) rfl rfl rfl rfl rfl rfl rfl ?_))))))
      refine WL.ldBN (T := Ty) rfl rfl rfl rfl (by first | assumption | exact RB.wide (by assumption) | exact In.rb (by assumption)) rfl ?_
      refine WL.len (T := Ty) rfl rfl (by assumption) rfl ?_
      refine WL.geq rfl rfl rfl (WL.nil (W.condpT rfl (by omega) (W.seq (W.region (WL.as rfl rfl (WL.nil ?_))))))
      exact W.ret1 rfl rfl (fun h q => ⟨by rw [e]; rfl, q⟩)
    · have e : handG n i x = x := by unfold handG; rw [if_neg hc, if_neg hc2]
      refine W.seq (W.region (WL.as rfl rfl (WL.nil (W.seq (W.seq (W.region (WL.mv rfl rfl (WL.mv rfl rfl (WL.gtr rfl rfl rfl (WL.nil (W.condpF rfl (by omega) (W.skip (W.seq ?_)))))))))))))
      refine W.seq (W.region (WL.mv rfl rfl (WL.mv rfl rfl (WL.nc rfl rfl (WL.faN (T := Ty) (off' := 0) rfl rfl rfl rfl rfl rfl rfl (WL.faN (T := Ty) (off' := 2) rfl rfl rfl rfl rfl rfl rfl ?_))))))
      refine WL.ldBN (T := Ty) rfl rfl rfl rfl (by first | assumption | exact RB.wide (by assumption) | exact In.rb (by assumption)) rfl ?_
      refine WL.len (T := Ty) rfl rfl (by assumption) rfl ?_
      refine WL.geq rfl rfl rfl (WL.nil (W.condpF rfl (by omega) (W.skip (W.seq (W.region (WL.mv rfl rfl (WL.as rfl rfl (WL.nil ?_))))))))
      exact W.ret1 rfl rfl (fun h q => ⟨by rw [e], q⟩)
theorem goesr_c (ρ : Hp) (b : Nat) (mo ta : Int) (v o : Value) (L : List Pg) (h1 h2 h3 i : Nat) (hi : i < L.length) (hl : L.length ≤ 1000000) (sv : SL v L.length) (b1 : h1 = 0 ∨ h1 < L.length) (b2 : h2 = 0 ∨ h2 < L.length) (b3 : h3 = 0 ∨ h3 < L.length) :
    Fn Try.prog 106 #[pt b 0, .int .i64 (i : Int)] ρ [box b [.int .i64 mo, .int .i64 ta, v, .int .i64 (h1 : Int), .int .i64 (h2 : Int), .int .i64 (h3 : Int), o] 145, Buf 7 v (L.flatMap pgC)] (RgR b (goesP ⟨mo, ta, L, h1, h2, h3⟩ i) o) := by
  have l1 := pgs_cells L
  have ho := pgs_one L
  have hln : (L.take i ++ L.drop (i + 1)).length = L.length - 1 := del_len' L i hi
  have lA := pgs_cells (L.take i)
  have oA := pgs_one (L.take i)
  have lB := pgs_cells (L.drop (i + 1))
  have oB := pgs_one (L.drop (i + 1))
  refine in106 rfl rfl ?_
  have hfl : [] ++ List.flatMap pgC (List.take i L) ++ List.flatMap pgC (List.drop (i + 1) L) = (L.take i ++ L.drop (i + 1)).flatMap pgC := by rw [List.nil_append, List.flatMap_append]
  have hx : ∀ x : Nat, (x = 0 ∨ x < L.length) → (x = 0 ∨ x < L.length - 1 + 1) := fun x h => by omega
  refine W.seq ?_
  refine W.cutG (τ := Value) (fun s => [(0, pt b 0), (1, .int .i64 (i : Int))]) (fun s => [box b [.int .i64 mo, .int .i64 ta, s, .int .i64 (h1 : Int), .int .i64 (h2 : Int), .int .i64 (h3 : Int), o] 145, Buf 7 s ((L.take i ++ L.drop (i + 1)).flatMap pgC)]) (fun s ρ' => SL s (L.length - 1)) ?_ (fun cut => ?_)
  · rintro u ρ1 le1 su
    refine W.drawP 35 [true, false] rfl (by repeat' constructor) (by repeat' constructor) (fun σ0 hσ0 dσ0 => ?_)
    have fσ0_0 := ros_at 0 rfl hσ0 dσ0
    refine WD.takeL 0 rfl (by decide +kernel) (WL.mv rfl rfl (WL.nilT (WD.takeL 1 rfl (by decide +kernel) (WL.mv rfl rfl (WL.nilT (WD.takeL 2 rfl (by decide +kernel) (WL.mv rfl rfl (WL.nilT (WD.takeL 3 rfl (by decide +kernel) (WL.mv rfl rfl (WL.nilT (WD.takeL 4 rfl (by decide +kernel) (WL.mv rfl rfl ?_)))))))))))))
    refine WL.nilT (WD.takeL 5 rfl (by decide +kernel) (WL.nc rfl rfl (WL.nilT (WD.takeL 6 rfl (by decide +kernel) (WL.faN (T := Ty) (off' := 0) rfl rfl rfl rfl rfl rfl rfl (WL.nilT (WD.takeL 7 rfl (by decide +kernel) (WL.faN (T := Ty) (off' := 3) rfl rfl rfl rfl rfl rfl rfl (WL.nilT (WD.takeL 9 rfl (by decide +kernel) (WL.mv rfl rfl (WL.nilT (WD.takeL 11 rfl (by decide +kernel) ?_)))))))))))))
    refine WL.mv rfl rfl (WL.nilT (WD.takeL 12 rfl (by decide +kernel) (WL.mv rfl rfl (WL.nilT (WD.takeL 13 rfl (by decide +kernel) (WL.nc rfl rfl (WL.nilT (WD.takeL 14 rfl (by decide +kernel) (WL.faN (T := Ty) (off' := 0) rfl rfl rfl rfl rfl rfl rfl (WL.nilT (WD.takeL 15 rfl (by decide +kernel) (WL.faN (T := Ty) (off' := 4) rfl rfl rfl rfl rfl rfl rfl (WL.nilT ?_)))))))))))))
    refine WD.takeL 17 rfl (by decide +kernel) (WL.mv rfl rfl (WL.nilT (WD.takeL 19 rfl (by decide +kernel) (WL.mv rfl rfl (WL.nilT (WD.takeL 20 rfl (by decide +kernel) (WL.mv rfl rfl (WL.nilT (WD.takeL 21 rfl (by decide +kernel) (WL.nc rfl rfl (WL.nilT (WD.takeL 22 rfl (by decide +kernel) (WL.faN (T := Ty) (off' := 0) rfl rfl rfl rfl rfl rfl rfl ?_)))))))))))))
    refine WL.nilT (WD.takeL 23 rfl (by decide +kernel) (WL.faN (T := Ty) (off' := 5) rfl rfl rfl rfl rfl rfl rfl (WL.nilT (WD.takeL 25 rfl (by decide +kernel) (WL.mv rfl rfl (WL.nilT ?_))))))
    refine WD.threeL 8 16 24 rfl rfl rfl (by decide +kernel) ?_ ?_ ?_
    · refine WL.ldN (T := Ty) (j := 1) rfl rfl rfl rfl rfl rfl ?_
      refine WL.nilE ?_
      refine WD.threeL 10 16 24 rfl rfl rfl (by decide +kernel) ?_ ?_ ?_
      · refine WL.callV rfl rfl (fun x p d => goner_c _ _ _ _ _ _ _ _ _ _ _ _ (by first | assumption | exact RB.wide (by assumption) | exact In.rb (by assumption) | exact RB.mono (by assumption) (eqh_at 0 rfl p d) | exact (in_at 0 rfl p d).rb | exact (in_at 1 rfl p d).rb | exact (in_at 2 rfl p d).rb | exact (in_at 3 rfl p d).rb | exact (in_at 4 rfl p d).rb | exact (in_at 5 rfl p d).rb | exact (in_at 6 rfl p d).rb | exact (in_at 7 rfl p d).rb) (by assumption) (by first | assumption | omega) (by first | assumption | omega)) ?_
        refine WL.nilE ?_
        refine WD.twoL 16 24 rfl rfl (by decide +kernel) ?_ ?_
        · refine WL.ldN (T := Ty) (j := 1) rfl rfl rfl rfl rfl rfl ?_
          refine WL.nilE ?_
          refine WD.twoL 18 24 rfl rfl (by decide +kernel) ?_ ?_
          · refine WL.callV rfl rfl (fun x p d => goner_c _ _ _ _ _ _ _ _ _ _ _ _ (by first | assumption | exact RB.wide (by assumption) | exact In.rb (by assumption) | exact RB.mono (by assumption) (eqh_at 0 rfl p d) | exact (in_at 0 rfl p d).rb | exact (in_at 1 rfl p d).rb | exact (in_at 2 rfl p d).rb | exact (in_at 3 rfl p d).rb | exact (in_at 4 rfl p d).rb | exact (in_at 5 rfl p d).rb | exact (in_at 6 rfl p d).rb | exact (in_at 7 rfl p d).rb) (by assumption) (by first | assumption | omega) (by first | assumption | omega)) ?_
            refine WL.nilE (WD.oneL 24 rfl (by decide +kernel) (WL.ldN (T := Ty) (j := 1) rfl rfl rfl rfl rfl rfl (WL.nilE (WD.oneL 26 rfl (by decide +kernel) ?_))))
            refine WL.callV rfl rfl (fun x p d => goner_c _ _ _ _ _ _ _ _ _ _ _ _ (by first | assumption | exact RB.wide (by assumption) | exact In.rb (by assumption) | exact RB.mono (by assumption) (eqh_at 0 rfl p d) | exact (in_at 0 rfl p d).rb | exact (in_at 1 rfl p d).rb | exact (in_at 2 rfl p d).rb | exact (in_at 3 rfl p d).rb | exact (in_at 4 rfl p d).rb | exact (in_at 5 rfl p d).rb | exact (in_at 6 rfl p d).rb | exact (in_at 7 rfl p d).rb) (by assumption) (by first | assumption | omega) (by first | assumption | omega)) ?_
            refine WL.nilE (WD.takeL 27 rfl (by decide +kernel) (WL.nc rfl rfl (WL.nilT (WD.takeL 28 rfl (by decide +kernel) (WL.faN (T := Ty) (off' := 0) rfl rfl rfl rfl rfl rfl rfl (WL.nilT (WD.takeL 29 rfl (by decide +kernel) (WL.faN (T := Ty) (off' := 3) rfl rfl rfl rfl rfl rfl rfl (WL.nilT (WD.oneL 30 rfl (by decide +kernel) ?_))))))))))
            refine WL.stF (T := Ty) (j := 1) rfl rfl rfl rfl rfl rfl rfl (by repeat' constructor) (by repeat' constructor) ?_
            refine WL.nilE (WD.takeL 31 rfl (by decide +kernel) (WL.nc rfl rfl (WL.nilT (WD.takeL 32 rfl (by decide +kernel) (WL.faN (T := Ty) (off' := 0) rfl rfl rfl rfl rfl rfl rfl (WL.nilT (WD.takeL 33 rfl (by decide +kernel) (WL.faN (T := Ty) (off' := 4) rfl rfl rfl rfl rfl rfl rfl (WL.nilT (WD.oneL 34 rfl (by decide +kernel) ?_))))))))))
            refine WL.stF (T := Ty) (j := 1) rfl rfl rfl rfl rfl rfl rfl (by repeat' constructor) (by repeat' constructor) ?_
            refine WL.nilE ?_
            refine WD.lastG hσ0 (by decide +kernel) (by repeat' constructor) rfl (by repeat' constructor) ?_
            refine WL.nc rfl rfl (WL.faN (T := Ty) (off' := 0) rfl rfl rfl rfl rfl rfl rfl (WL.faN (T := Ty) (off' := 5) rfl rfl rfl rfl rfl rfl rfl ?_))
            refine WL.stF (T := Ty) (j := 1) rfl rfl rfl rfl rfl rfl rfl (by repeat' constructor) (by repeat' constructor) ?_
            refine WL.nil ?_
            refine W.fit (Hs' := [box b _ _, Buf 7 u _]) (by (repeat' first | exact Sel.nil | apply Sel.k | exact Pick.h | apply Pick.t)) (W.stop0 rfl (fun h q => ⟨u, ⟨rfl, by unfold goesP; dsimp only; rw [hln]; exact su⟩, q⟩))
          · refine WL.ldN (T := Ty) (j := 1) rfl rfl rfl rfl rfl rfl ?_
            refine WL.nilE (WD.oneL 18 rfl (by decide +kernel) ?_)
            refine WL.callV rfl rfl (fun x p d => goner_c _ _ _ _ _ _ _ _ _ _ _ _ (by first | assumption | exact RB.wide (by assumption) | exact In.rb (by assumption) | exact RB.mono (by assumption) (eqh_at 0 rfl p d) | exact (in_at 0 rfl p d).rb | exact (in_at 1 rfl p d).rb | exact (in_at 2 rfl p d).rb | exact (in_at 3 rfl p d).rb | exact (in_at 4 rfl p d).rb | exact (in_at 5 rfl p d).rb | exact (in_at 6 rfl p d).rb | exact (in_at 7 rfl p d).rb) (by assumption) (by first | assumption | omega) (by first | assumption | omega)) ?_
            refine WL.nilE (WD.oneL 26 rfl (by decide +kernel) ?_)
            refine WL.callV rfl rfl (fun x p d => goner_c _ _ _ _ _ _ _ _ _ _ _ _ (by first | assumption | exact RB.wide (by assumption) | exact In.rb (by assumption) | exact RB.mono (by assumption) (eqh_at 0 rfl p d) | exact (in_at 0 rfl p d).rb | exact (in_at 1 rfl p d).rb | exact (in_at 2 rfl p d).rb | exact (in_at 3 rfl p d).rb | exact (in_at 4 rfl p d).rb | exact (in_at 5 rfl p d).rb | exact (in_at 6 rfl p d).rb | exact (in_at 7 rfl p d).rb) (by assumption) (by first | assumption | omega) (by first | assumption | omega)) ?_
            refine WL.nilE (WD.takeL 27 rfl (by decide +kernel) (WL.nc rfl rfl (WL.nilT (WD.takeL 28 rfl (by decide +kernel) (WL.faN (T := Ty) (off' := 0) rfl rfl rfl rfl rfl rfl rfl (WL.nilT (WD.takeL 29 rfl (by decide +kernel) (WL.faN (T := Ty) (off' := 3) rfl rfl rfl rfl rfl rfl rfl (WL.nilT (WD.oneL 30 rfl (by decide +kernel) ?_))))))))))
            refine WL.stF (T := Ty) (j := 1) rfl rfl rfl rfl rfl rfl rfl (by repeat' constructor) (by repeat' constructor) ?_
            refine WL.nilE (WD.takeL 31 rfl (by decide +kernel) (WL.nc rfl rfl (WL.nilT (WD.takeL 32 rfl (by decide +kernel) (WL.faN (T := Ty) (off' := 0) rfl rfl rfl rfl rfl rfl rfl (WL.nilT (WD.takeL 33 rfl (by decide +kernel) (WL.faN (T := Ty) (off' := 4) rfl rfl rfl rfl rfl rfl rfl (WL.nilT (WD.oneL 34 rfl (by decide +kernel) ?_))))))))))
            refine WL.stF (T := Ty) (j := 1) rfl rfl rfl rfl rfl rfl rfl (by repeat' constructor) (by repeat' constructor) ?_
            refine WL.nilE ?_
            refine WD.lastG hσ0 (by decide +kernel) (by repeat' constructor) rfl (by repeat' constructor) ?_
            refine WL.nc rfl rfl (WL.faN (T := Ty) (off' := 0) rfl rfl rfl rfl rfl rfl rfl (WL.faN (T := Ty) (off' := 5) rfl rfl rfl rfl rfl rfl rfl ?_))
            refine WL.stF (T := Ty) (j := 1) rfl rfl rfl rfl rfl rfl rfl (by repeat' constructor) (by repeat' constructor) ?_
            refine WL.nil ?_
            refine W.fit (Hs' := [box b _ _, Buf 7 u _]) (by (repeat' first | exact Sel.nil | apply Sel.k | exact Pick.h | apply Pick.t)) (W.stop0 rfl (fun h q => ⟨u, ⟨rfl, by unfold goesP; dsimp only; rw [hln]; exact su⟩, q⟩))
        · refine WL.ldN (T := Ty) (j := 1) rfl rfl rfl rfl rfl rfl ?_
          refine WL.nilE (WD.oneL 16 rfl (by decide +kernel) (WL.ldN (T := Ty) (j := 1) rfl rfl rfl rfl rfl rfl (WL.nilE (WD.oneL 18 rfl (by decide +kernel) ?_))))
          refine WL.callV rfl rfl (fun x p d => goner_c _ _ _ _ _ _ _ _ _ _ _ _ (by first | assumption | exact RB.wide (by assumption) | exact In.rb (by assumption) | exact RB.mono (by assumption) (eqh_at 0 rfl p d) | exact (in_at 0 rfl p d).rb | exact (in_at 1 rfl p d).rb | exact (in_at 2 rfl p d).rb | exact (in_at 3 rfl p d).rb | exact (in_at 4 rfl p d).rb | exact (in_at 5 rfl p d).rb | exact (in_at 6 rfl p d).rb | exact (in_at 7 rfl p d).rb) (by assumption) (by first | assumption | omega) (by first | assumption | omega)) ?_
          refine WL.nilE (WD.oneL 26 rfl (by decide +kernel) ?_)
          refine WL.callV rfl rfl (fun x p d => goner_c _ _ _ _ _ _ _ _ _ _ _ _ (by first | assumption | exact RB.wide (by assumption) | exact In.rb (by assumption) | exact RB.mono (by assumption) (eqh_at 0 rfl p d) | exact (in_at 0 rfl p d).rb | exact (in_at 1 rfl p d).rb | exact (in_at 2 rfl p d).rb | exact (in_at 3 rfl p d).rb | exact (in_at 4 rfl p d).rb | exact (in_at 5 rfl p d).rb | exact (in_at 6 rfl p d).rb | exact (in_at 7 rfl p d).rb) (by assumption) (by first | assumption | omega) (by first | assumption | omega)) ?_
          refine WL.nilE (WD.takeL 27 rfl (by decide +kernel) (WL.nc rfl rfl (WL.nilT (WD.takeL 28 rfl (by decide +kernel) (WL.faN (T := Ty) (off' := 0) rfl rfl rfl rfl rfl rfl rfl (WL.nilT (WD.takeL 29 rfl (by decide +kernel) (WL.faN (T := Ty) (off' := 3) rfl rfl rfl rfl rfl rfl rfl (WL.nilT (WD.oneL 30 rfl (by decide +kernel) ?_))))))))))
          refine WL.stF (T := Ty) (j := 1) rfl rfl rfl rfl rfl rfl rfl (by repeat' constructor) (by repeat' constructor) ?_
          refine WL.nilE (WD.takeL 31 rfl (by decide +kernel) (WL.nc rfl rfl (WL.nilT (WD.takeL 32 rfl (by decide +kernel) (WL.faN (T := Ty) (off' := 0) rfl rfl rfl rfl rfl rfl rfl (WL.nilT (WD.takeL 33 rfl (by decide +kernel) (WL.faN (T := Ty) (off' := 4) rfl rfl rfl rfl rfl rfl rfl (WL.nilT (WD.oneL 34 rfl (by decide +kernel) ?_))))))))))
          refine WL.stF (T := Ty) (j := 1) rfl rfl rfl rfl rfl rfl rfl (by repeat' constructor) (by repeat' constructor) ?_
          refine WL.nilE ?_
          refine WD.lastG hσ0 (by decide +kernel) (by repeat' constructor) rfl (by repeat' constructor) ?_
          refine WL.nc rfl rfl (WL.faN (T := Ty) (off' := 0) rfl rfl rfl rfl rfl rfl rfl (WL.faN (T := Ty) (off' := 5) rfl rfl rfl rfl rfl rfl rfl ?_))
          refine WL.stF (T := Ty) (j := 1) rfl rfl rfl rfl rfl rfl rfl (by repeat' constructor) (by repeat' constructor) ?_
          refine WL.nil ?_
          refine W.fit (Hs' := [box b _ _, Buf 7 u _]) (by (repeat' first | exact Sel.nil | apply Sel.k | exact Pick.h | apply Pick.t)) (W.stop0 rfl (fun h q => ⟨u, ⟨rfl, by unfold goesP; dsimp only; rw [hln]; exact su⟩, q⟩))
      · refine WL.ldN (T := Ty) (j := 1) rfl rfl rfl rfl rfl rfl ?_
        refine WL.nilE ?_
        refine WD.twoL 10 24 rfl rfl (by decide +kernel) ?_ ?_
        · refine WL.callV rfl rfl (fun x p d => goner_c _ _ _ _ _ _ _ _ _ _ _ _ (by first | assumption | exact RB.wide (by assumption) | exact In.rb (by assumption) | exact RB.mono (by assumption) (eqh_at 0 rfl p d) | exact (in_at 0 rfl p d).rb | exact (in_at 1 rfl p d).rb | exact (in_at 2 rfl p d).rb | exact (in_at 3 rfl p d).rb | exact (in_at 4 rfl p d).rb | exact (in_at 5 rfl p d).rb | exact (in_at 6 rfl p d).rb | exact (in_at 7 rfl p d).rb) (by assumption) (by first | assumption | omega) (by first | assumption | omega)) ?_
          refine WL.nilE ?_
          refine WD.twoL 18 24 rfl rfl (by decide +kernel) ?_ ?_
          · refine WL.callV rfl rfl (fun x p d => goner_c _ _ _ _ _ _ _ _ _ _ _ _ (by first | assumption | exact RB.wide (by assumption) | exact In.rb (by assumption) | exact RB.mono (by assumption) (eqh_at 0 rfl p d) | exact (in_at 0 rfl p d).rb | exact (in_at 1 rfl p d).rb | exact (in_at 2 rfl p d).rb | exact (in_at 3 rfl p d).rb | exact (in_at 4 rfl p d).rb | exact (in_at 5 rfl p d).rb | exact (in_at 6 rfl p d).rb | exact (in_at 7 rfl p d).rb) (by assumption) (by first | assumption | omega) (by first | assumption | omega)) ?_
            refine WL.nilE (WD.oneL 24 rfl (by decide +kernel) (WL.ldN (T := Ty) (j := 1) rfl rfl rfl rfl rfl rfl (WL.nilE (WD.oneL 26 rfl (by decide +kernel) ?_))))
            refine WL.callV rfl rfl (fun x p d => goner_c _ _ _ _ _ _ _ _ _ _ _ _ (by first | assumption | exact RB.wide (by assumption) | exact In.rb (by assumption) | exact RB.mono (by assumption) (eqh_at 0 rfl p d) | exact (in_at 0 rfl p d).rb | exact (in_at 1 rfl p d).rb | exact (in_at 2 rfl p d).rb | exact (in_at 3 rfl p d).rb | exact (in_at 4 rfl p d).rb | exact (in_at 5 rfl p d).rb | exact (in_at 6 rfl p d).rb | exact (in_at 7 rfl p d).rb) (by assumption) (by first | assumption | omega) (by first | assumption | omega)) ?_
            refine WL.nilE (WD.takeL 27 rfl (by decide +kernel) (WL.nc rfl rfl (WL.nilT (WD.takeL 28 rfl (by decide +kernel) (WL.faN (T := Ty) (off' := 0) rfl rfl rfl rfl rfl rfl rfl (WL.nilT (WD.takeL 29 rfl (by decide +kernel) (WL.faN (T := Ty) (off' := 3) rfl rfl rfl rfl rfl rfl rfl (WL.nilT (WD.oneL 30 rfl (by decide +kernel) ?_))))))))))
            refine WL.stF (T := Ty) (j := 1) rfl rfl rfl rfl rfl rfl rfl (by repeat' constructor) (by repeat' constructor) ?_
            refine WL.nilE (WD.takeL 31 rfl (by decide +kernel) (WL.nc rfl rfl (WL.nilT (WD.takeL 32 rfl (by decide +kernel) (WL.faN (T := Ty) (off' := 0) rfl rfl rfl rfl rfl rfl rfl (WL.nilT (WD.takeL 33 rfl (by decide +kernel) (WL.faN (T := Ty) (off' := 4) rfl rfl rfl rfl rfl rfl rfl (WL.nilT (WD.oneL 34 rfl (by decide +kernel) ?_))))))))))
            refine WL.stF (T := Ty) (j := 1) rfl rfl rfl rfl rfl rfl rfl (by repeat' constructor) (by repeat' constructor) ?_
            refine WL.nilE ?_
            refine WD.lastG hσ0 (by decide +kernel) (by repeat' constructor) rfl (by repeat' constructor) ?_
            refine WL.nc rfl rfl (WL.faN (T := Ty) (off' := 0) rfl rfl rfl rfl rfl rfl rfl (WL.faN (T := Ty) (off' := 5) rfl rfl rfl rfl rfl rfl rfl ?_))
            refine WL.stF (T := Ty) (j := 1) rfl rfl rfl rfl rfl rfl rfl (by repeat' constructor) (by repeat' constructor) ?_
            refine WL.nil ?_
            refine W.fit (Hs' := [box b _ _, Buf 7 u _]) (by (repeat' first | exact Sel.nil | apply Sel.k | exact Pick.h | apply Pick.t)) (W.stop0 rfl (fun h q => ⟨u, ⟨rfl, by unfold goesP; dsimp only; rw [hln]; exact su⟩, q⟩))
          · refine WL.ldN (T := Ty) (j := 1) rfl rfl rfl rfl rfl rfl ?_
            refine WL.nilE (WD.oneL 18 rfl (by decide +kernel) ?_)
            refine WL.callV rfl rfl (fun x p d => goner_c _ _ _ _ _ _ _ _ _ _ _ _ (by first | assumption | exact RB.wide (by assumption) | exact In.rb (by assumption) | exact RB.mono (by assumption) (eqh_at 0 rfl p d) | exact (in_at 0 rfl p d).rb | exact (in_at 1 rfl p d).rb | exact (in_at 2 rfl p d).rb | exact (in_at 3 rfl p d).rb | exact (in_at 4 rfl p d).rb | exact (in_at 5 rfl p d).rb | exact (in_at 6 rfl p d).rb | exact (in_at 7 rfl p d).rb) (by assumption) (by first | assumption | omega) (by first | assumption | omega)) ?_
            refine WL.nilE (WD.oneL 26 rfl (by decide +kernel) ?_)
            refine WL.callV rfl rfl (fun x p d => goner_c _ _ _ _ _ _ _ _ _ _ _ _ (by first | assumption | exact RB.wide (by assumption) | exact In.rb (by assumption) | exact RB.mono (by assumption) (eqh_at 0 rfl p d) | exact (in_at 0 rfl p d).rb | exact (in_at 1 rfl p d).rb | exact (in_at 2 rfl p d).rb | exact (in_at 3 rfl p d).rb | exact (in_at 4 rfl p d).rb | exact (in_at 5 rfl p d).rb | exact (in_at 6 rfl p d).rb | exact (in_at 7 rfl p d).rb) (by assumption) (by first | assumption | omega) (by first | assumption | omega)) ?_
            refine WL.nilE (WD.takeL 27 rfl (by decide +kernel) (WL.nc rfl rfl (WL.nilT (WD.takeL 28 rfl (by decide +kernel) (WL.faN (T := Ty) (off' := 0) rfl rfl rfl rfl rfl rfl rfl (WL.nilT (WD.takeL 29 rfl (by decide +kernel) (WL.faN (T := Ty) (off' := 3) rfl rfl rfl rfl rfl rfl rfl (WL.nilT (WD.oneL 30 rfl (by decide +kernel) ?_))))))))))
            refine WL.stF (T := Ty) (j := 1) rfl rfl rfl rfl rfl rfl rfl (by repeat' constructor) (by repeat' constructor) ?_
            refine WL.nilE (WD.takeL 31 rfl (by decide +kernel) (WL.nc rfl rfl (WL.nilT (WD.takeL 32 rfl (by decide +kernel) (WL.faN (T := Ty) (off' := 0) rfl rfl rfl rfl rfl rfl rfl (WL.nilT (WD.takeL 33 rfl (by decide +kernel) (WL.faN (T := Ty) (off' := 4) rfl rfl rfl rfl rfl rfl rfl (WL.nilT (WD.oneL 34 rfl (by decide +kernel) ?_))))))))))
            refine WL.stF (T := Ty) (j := 1) rfl rfl rfl rfl rfl rfl rfl (by repeat' constructor) (by repeat' constructor) ?_
            refine WL.nilE ?_
            refine WD.lastG hσ0 (by decide +kernel) (by repeat' constructor) rfl (by repeat' constructor) ?_
            refine WL.nc rfl rfl (WL.faN (T := Ty) (off' := 0) rfl rfl rfl rfl rfl rfl rfl (WL.faN (T := Ty) (off' := 5) rfl rfl rfl rfl rfl rfl rfl ?_))
            refine WL.stF (T := Ty) (j := 1) rfl rfl rfl rfl rfl rfl rfl (by repeat' constructor) (by repeat' constructor) ?_
            refine WL.nil ?_
            refine W.fit (Hs' := [box b _ _, Buf 7 u _]) (by (repeat' first | exact Sel.nil | apply Sel.k | exact Pick.h | apply Pick.t)) (W.stop0 rfl (fun h q => ⟨u, ⟨rfl, by unfold goesP; dsimp only; rw [hln]; exact su⟩, q⟩))
        · refine WL.ldN (T := Ty) (j := 1) rfl rfl rfl rfl rfl rfl ?_
          refine WL.nilE (WD.oneL 10 rfl (by decide +kernel) ?_)
          refine WL.callV rfl rfl (fun x p d => goner_c _ _ _ _ _ _ _ _ _ _ _ _ (by first | assumption | exact RB.wide (by assumption) | exact In.rb (by assumption) | exact RB.mono (by assumption) (eqh_at 0 rfl p d) | exact (in_at 0 rfl p d).rb | exact (in_at 1 rfl p d).rb | exact (in_at 2 rfl p d).rb | exact (in_at 3 rfl p d).rb | exact (in_at 4 rfl p d).rb | exact (in_at 5 rfl p d).rb | exact (in_at 6 rfl p d).rb | exact (in_at 7 rfl p d).rb) (by assumption) (by first | assumption | omega) (by first | assumption | omega)) ?_
          refine WL.nilE (WD.oneL 18 rfl (by decide +kernel) ?_)
          refine WL.callV rfl rfl (fun x p d => goner_c _ _ _ _ _ _ _ _ _ _ _ _ (by first | assumption | exact RB.wide (by assumption) | exact In.rb (by assumption) | exact RB.mono (by assumption) (eqh_at 0 rfl p d) | exact (in_at 0 rfl p d).rb | exact (in_at 1 rfl p d).rb | exact (in_at 2 rfl p d).rb | exact (in_at 3 rfl p d).rb | exact (in_at 4 rfl p d).rb | exact (in_at 5 rfl p d).rb | exact (in_at 6 rfl p d).rb | exact (in_at 7 rfl p d).rb) (by assumption) (by first | assumption | omega) (by first | assumption | omega)) ?_
          refine WL.nilE (WD.oneL 26 rfl (by decide +kernel) ?_)
          refine WL.callV rfl rfl (fun x p d => goner_c _ _ _ _ _ _ _ _ _ _ _ _ (by first | assumption | exact RB.wide (by assumption) | exact In.rb (by assumption) | exact RB.mono (by assumption) (eqh_at 0 rfl p d) | exact (in_at 0 rfl p d).rb | exact (in_at 1 rfl p d).rb | exact (in_at 2 rfl p d).rb | exact (in_at 3 rfl p d).rb | exact (in_at 4 rfl p d).rb | exact (in_at 5 rfl p d).rb | exact (in_at 6 rfl p d).rb | exact (in_at 7 rfl p d).rb) (by assumption) (by first | assumption | omega) (by first | assumption | omega)) ?_
          refine WL.nilE (WD.takeL 27 rfl (by decide +kernel) (WL.nc rfl rfl (WL.nilT (WD.takeL 28 rfl (by decide +kernel) (WL.faN (T := Ty) (off' := 0) rfl rfl rfl rfl rfl rfl rfl (WL.nilT (WD.takeL 29 rfl (by decide +kernel) (WL.faN (T := Ty) (off' := 3) rfl rfl rfl rfl rfl rfl rfl (WL.nilT (WD.oneL 30 rfl (by decide +kernel) ?_))))))))))
          refine WL.stF (T := Ty) (j := 1) rfl rfl rfl rfl rfl rfl rfl (by repeat' constructor) (by repeat' constructor) ?_
          refine WL.nilE (WD.takeL 31 rfl (by decide +kernel) (WL.nc rfl rfl (WL.nilT (WD.takeL 32 rfl (by decide +kernel) (WL.faN (T := Ty) (off' := 0) rfl rfl rfl rfl rfl rfl rfl (WL.nilT (WD.takeL 33 rfl (by decide +kernel) (WL.faN (T := Ty) (off' := 4) rfl rfl rfl rfl rfl rfl rfl (WL.nilT (WD.oneL 34 rfl (by decide +kernel) ?_))))))))))
          refine WL.stF (T := Ty) (j := 1) rfl rfl rfl rfl rfl rfl rfl (by repeat' constructor) (by repeat' constructor) ?_
          refine WL.nilE ?_
          refine WD.lastG hσ0 (by decide +kernel) (by repeat' constructor) rfl (by repeat' constructor) ?_
          refine WL.nc rfl rfl (WL.faN (T := Ty) (off' := 0) rfl rfl rfl rfl rfl rfl rfl (WL.faN (T := Ty) (off' := 5) rfl rfl rfl rfl rfl rfl rfl ?_))
          refine WL.stF (T := Ty) (j := 1) rfl rfl rfl rfl rfl rfl rfl (by repeat' constructor) (by repeat' constructor) ?_
          refine WL.nil ?_
          refine W.fit (Hs' := [box b _ _, Buf 7 u _]) (by (repeat' first | exact Sel.nil | apply Sel.k | exact Pick.h | apply Pick.t)) (W.stop0 rfl (fun h q => ⟨u, ⟨rfl, by unfold goesP; dsimp only; rw [hln]; exact su⟩, q⟩))
      · refine WL.ldN (T := Ty) (j := 1) rfl rfl rfl rfl rfl rfl ?_
        refine WL.nilE ?_
        refine WD.twoL 10 16 rfl rfl (by decide +kernel) ?_ ?_
        · refine WL.callV rfl rfl (fun x p d => goner_c _ _ _ _ _ _ _ _ _ _ _ _ (by first | assumption | exact RB.wide (by assumption) | exact In.rb (by assumption) | exact RB.mono (by assumption) (eqh_at 0 rfl p d) | exact (in_at 0 rfl p d).rb | exact (in_at 1 rfl p d).rb | exact (in_at 2 rfl p d).rb | exact (in_at 3 rfl p d).rb | exact (in_at 4 rfl p d).rb | exact (in_at 5 rfl p d).rb | exact (in_at 6 rfl p d).rb | exact (in_at 7 rfl p d).rb) (by assumption) (by first | assumption | omega) (by first | assumption | omega)) ?_
          refine WL.nilE (WD.oneL 16 rfl (by decide +kernel) (WL.ldN (T := Ty) (j := 1) rfl rfl rfl rfl rfl rfl (WL.nilE (WD.oneL 18 rfl (by decide +kernel) ?_))))
          refine WL.callV rfl rfl (fun x p d => goner_c _ _ _ _ _ _ _ _ _ _ _ _ (by first | assumption | exact RB.wide (by assumption) | exact In.rb (by assumption) | exact RB.mono (by assumption) (eqh_at 0 rfl p d) | exact (in_at 0 rfl p d).rb | exact (in_at 1 rfl p d).rb | exact (in_at 2 rfl p d).rb | exact (in_at 3 rfl p d).rb | exact (in_at 4 rfl p d).rb | exact (in_at 5 rfl p d).rb | exact (in_at 6 rfl p d).rb | exact (in_at 7 rfl p d).rb) (by assumption) (by first | assumption | omega) (by first | assumption | omega)) ?_
          refine WL.nilE (WD.oneL 26 rfl (by decide +kernel) ?_)
          refine WL.callV rfl rfl (fun x p d => goner_c _ _ _ _ _ _ _ _ _ _ _ _ (by first | assumption | exact RB.wide (by assumption) | exact In.rb (by assumption) | exact RB.mono (by assumption) (eqh_at 0 rfl p d) | exact (in_at 0 rfl p d).rb | exact (in_at 1 rfl p d).rb | exact (in_at 2 rfl p d).rb | exact (in_at 3 rfl p d).rb | exact (in_at 4 rfl p d).rb | exact (in_at 5 rfl p d).rb | exact (in_at 6 rfl p d).rb | exact (in_at 7 rfl p d).rb) (by assumption) (by first | assumption | omega) (by first | assumption | omega)) ?_
          refine WL.nilE (WD.takeL 27 rfl (by decide +kernel) (WL.nc rfl rfl (WL.nilT (WD.takeL 28 rfl (by decide +kernel) (WL.faN (T := Ty) (off' := 0) rfl rfl rfl rfl rfl rfl rfl (WL.nilT (WD.takeL 29 rfl (by decide +kernel) (WL.faN (T := Ty) (off' := 3) rfl rfl rfl rfl rfl rfl rfl (WL.nilT (WD.oneL 30 rfl (by decide +kernel) ?_))))))))))
          refine WL.stF (T := Ty) (j := 1) rfl rfl rfl rfl rfl rfl rfl (by repeat' constructor) (by repeat' constructor) ?_
          refine WL.nilE (WD.takeL 31 rfl (by decide +kernel) (WL.nc rfl rfl (WL.nilT (WD.takeL 32 rfl (by decide +kernel) (WL.faN (T := Ty) (off' := 0) rfl rfl rfl rfl rfl rfl rfl (WL.nilT (WD.takeL 33 rfl (by decide +kernel) (WL.faN (T := Ty) (off' := 4) rfl rfl rfl rfl rfl rfl rfl (WL.nilT (WD.oneL 34 rfl (by decide +kernel) ?_))))))))))
          refine WL.stF (T := Ty) (j := 1) rfl rfl rfl rfl rfl rfl rfl (by repeat' constructor) (by repeat' constructor) ?_
          refine WL.nilE ?_
          refine WD.lastG hσ0 (by decide +kernel) (by repeat' constructor) rfl (by repeat' constructor) ?_
          refine WL.nc rfl rfl (WL.faN (T := Ty) (off' := 0) rfl rfl rfl rfl rfl rfl rfl (WL.faN (T := Ty) (off' := 5) rfl rfl rfl rfl rfl rfl rfl ?_))
          refine WL.stF (T := Ty) (j := 1) rfl rfl rfl rfl rfl rfl rfl (by repeat' constructor) (by repeat' constructor) ?_
          refine WL.nil ?_
          refine W.fit (Hs' := [box b _ _, Buf 7 u _]) (by (repeat' first | exact Sel.nil | apply Sel.k | exact Pick.h | apply Pick.t)) (W.stop0 rfl (fun h q => ⟨u, ⟨rfl, by unfold goesP; dsimp only; rw [hln]; exact su⟩, q⟩))
        · refine WL.ldN (T := Ty) (j := 1) rfl rfl rfl rfl rfl rfl ?_
          refine WL.nilE (WD.oneL 10 rfl (by decide +kernel) ?_)
          refine WL.callV rfl rfl (fun x p d => goner_c _ _ _ _ _ _ _ _ _ _ _ _ (by first | assumption | exact RB.wide (by assumption) | exact In.rb (by assumption) | exact RB.mono (by assumption) (eqh_at 0 rfl p d) | exact (in_at 0 rfl p d).rb | exact (in_at 1 rfl p d).rb | exact (in_at 2 rfl p d).rb | exact (in_at 3 rfl p d).rb | exact (in_at 4 rfl p d).rb | exact (in_at 5 rfl p d).rb | exact (in_at 6 rfl p d).rb | exact (in_at 7 rfl p d).rb) (by assumption) (by first | assumption | omega) (by first | assumption | omega)) ?_
          refine WL.nilE (WD.oneL 18 rfl (by decide +kernel) ?_)
          refine WL.callV rfl rfl (fun x p d => goner_c _ _ _ _ _ _ _ _ _ _ _ _ (by first | assumption | exact RB.wide (by assumption) | exact In.rb (by assumption) | exact RB.mono (by assumption) (eqh_at 0 rfl p d) | exact (in_at 0 rfl p d).rb | exact (in_at 1 rfl p d).rb | exact (in_at 2 rfl p d).rb | exact (in_at 3 rfl p d).rb | exact (in_at 4 rfl p d).rb | exact (in_at 5 rfl p d).rb | exact (in_at 6 rfl p d).rb | exact (in_at 7 rfl p d).rb) (by assumption) (by first | assumption | omega) (by first | assumption | omega)) ?_
          refine WL.nilE (WD.oneL 26 rfl (by decide +kernel) ?_)
          refine WL.callV rfl rfl (fun x p d => goner_c _ _ _ _ _ _ _ _ _ _ _ _ (by first | assumption | exact RB.wide (by assumption) | exact In.rb (by assumption) | exact RB.mono (by assumption) (eqh_at 0 rfl p d) | exact (in_at 0 rfl p d).rb | exact (in_at 1 rfl p d).rb | exact (in_at 2 rfl p d).rb | exact (in_at 3 rfl p d).rb | exact (in_at 4 rfl p d).rb | exact (in_at 5 rfl p d).rb | exact (in_at 6 rfl p d).rb | exact (in_at 7 rfl p d).rb) (by assumption) (by first | assumption | omega) (by first | assumption | omega)) ?_
          refine WL.nilE (WD.takeL 27 rfl (by decide +kernel) (WL.nc rfl rfl (WL.nilT (WD.takeL 28 rfl (by decide +kernel) (WL.faN (T := Ty) (off' := 0) rfl rfl rfl rfl rfl rfl rfl (WL.nilT (WD.takeL 29 rfl (by decide +kernel) (WL.faN (T := Ty) (off' := 3) rfl rfl rfl rfl rfl rfl rfl (WL.nilT (WD.oneL 30 rfl (by decide +kernel) ?_))))))))))
          refine WL.stF (T := Ty) (j := 1) rfl rfl rfl rfl rfl rfl rfl (by repeat' constructor) (by repeat' constructor) ?_
          refine WL.nilE (WD.takeL 31 rfl (by decide +kernel) (WL.nc rfl rfl (WL.nilT (WD.takeL 32 rfl (by decide +kernel) (WL.faN (T := Ty) (off' := 0) rfl rfl rfl rfl rfl rfl rfl (WL.nilT (WD.takeL 33 rfl (by decide +kernel) (WL.faN (T := Ty) (off' := 4) rfl rfl rfl rfl rfl rfl rfl (WL.nilT (WD.oneL 34 rfl (by decide +kernel) ?_))))))))))
          refine WL.stF (T := Ty) (j := 1) rfl rfl rfl rfl rfl rfl rfl (by repeat' constructor) (by repeat' constructor) ?_
          refine WL.nilE ?_
          refine WD.lastG hσ0 (by decide +kernel) (by repeat' constructor) rfl (by repeat' constructor) ?_
          refine WL.nc rfl rfl (WL.faN (T := Ty) (off' := 0) rfl rfl rfl rfl rfl rfl rfl (WL.faN (T := Ty) (off' := 5) rfl rfl rfl rfl rfl rfl rfl ?_))
          refine WL.stF (T := Ty) (j := 1) rfl rfl rfl rfl rfl rfl rfl (by repeat' constructor) (by repeat' constructor) ?_
          refine WL.nil ?_
          refine W.fit (Hs' := [box b _ _, Buf 7 u _]) (by (repeat' first | exact Sel.nil | apply Sel.k | exact Pick.h | apply Pick.t)) (W.stop0 rfl (fun h q => ⟨u, ⟨rfl, by unfold goesP; dsimp only; rw [hln]; exact su⟩, q⟩))
    · refine WL.ldN (T := Ty) (j := 1) rfl rfl rfl rfl rfl rfl ?_
      refine WL.nilE ?_
      refine WD.twoL 8 24 rfl rfl (by decide +kernel) ?_ ?_
      · refine WL.ldN (T := Ty) (j := 1) rfl rfl rfl rfl rfl rfl ?_
        refine WL.nilE ?_
        refine WD.twoL 10 24 rfl rfl (by decide +kernel) ?_ ?_
        · refine WL.callV rfl rfl (fun x p d => goner_c _ _ _ _ _ _ _ _ _ _ _ _ (by first | assumption | exact RB.wide (by assumption) | exact In.rb (by assumption) | exact RB.mono (by assumption) (eqh_at 0 rfl p d) | exact (in_at 0 rfl p d).rb | exact (in_at 1 rfl p d).rb | exact (in_at 2 rfl p d).rb | exact (in_at 3 rfl p d).rb | exact (in_at 4 rfl p d).rb | exact (in_at 5 rfl p d).rb | exact (in_at 6 rfl p d).rb | exact (in_at 7 rfl p d).rb) (by assumption) (by first | assumption | omega) (by first | assumption | omega)) ?_
          refine WL.nilE ?_
          refine WD.twoL 18 24 rfl rfl (by decide +kernel) ?_ ?_
          · refine WL.callV rfl rfl (fun x p d => goner_c _ _ _ _ _ _ _ _ _ _ _ _ (by first | assumption | exact RB.wide (by assumption) | exact In.rb (by assumption) | exact RB.mono (by assumption) (eqh_at 0 rfl p d) | exact (in_at 0 rfl p d).rb | exact (in_at 1 rfl p d).rb | exact (in_at 2 rfl p d).rb | exact (in_at 3 rfl p d).rb | exact (in_at 4 rfl p d).rb | exact (in_at 5 rfl p d).rb | exact (in_at 6 rfl p d).rb | exact (in_at 7 rfl p d).rb) (by assumption) (by first | assumption | omega) (by first | assumption | omega)) ?_
            refine WL.nilE (WD.oneL 24 rfl (by decide +kernel) (WL.ldN (T := Ty) (j := 1) rfl rfl rfl rfl rfl rfl (WL.nilE (WD.oneL 26 rfl (by decide +kernel) ?_))))
            refine WL.callV rfl rfl (fun x p d => goner_c _ _ _ _ _ _ _ _ _ _ _ _ (by first | assumption | exact RB.wide (by assumption) | exact In.rb (by assumption) | exact RB.mono (by assumption) (eqh_at 0 rfl p d) | exact (in_at 0 rfl p d).rb | exact (in_at 1 rfl p d).rb | exact (in_at 2 rfl p d).rb | exact (in_at 3 rfl p d).rb | exact (in_at 4 rfl p d).rb | exact (in_at 5 rfl p d).rb | exact (in_at 6 rfl p d).rb | exact (in_at 7 rfl p d).rb) (by assumption) (by first | assumption | omega) (by first | assumption | omega)) ?_
            refine WL.nilE (WD.takeL 27 rfl (by decide +kernel) (WL.nc rfl rfl (WL.nilT (WD.takeL 28 rfl (by decide +kernel) (WL.faN (T := Ty) (off' := 0) rfl rfl rfl rfl rfl rfl rfl (WL.nilT (WD.takeL 29 rfl (by decide +kernel) (WL.faN (T := Ty) (off' := 3) rfl rfl rfl rfl rfl rfl rfl (WL.nilT (WD.oneL 30 rfl (by decide +kernel) ?_))))))))))
            refine WL.stF (T := Ty) (j := 1) rfl rfl rfl rfl rfl rfl rfl (by repeat' constructor) (by repeat' constructor) ?_
            refine WL.nilE (WD.takeL 31 rfl (by decide +kernel) (WL.nc rfl rfl (WL.nilT (WD.takeL 32 rfl (by decide +kernel) (WL.faN (T := Ty) (off' := 0) rfl rfl rfl rfl rfl rfl rfl (WL.nilT (WD.takeL 33 rfl (by decide +kernel) (WL.faN (T := Ty) (off' := 4) rfl rfl rfl rfl rfl rfl rfl (WL.nilT (WD.oneL 34 rfl (by decide +kernel) ?_))))))))))
            refine WL.stF (T := Ty) (j := 1) rfl rfl rfl rfl rfl rfl rfl (by repeat' constructor) (by repeat' constructor) ?_
            refine WL.nilE ?_
            refine WD.lastG hσ0 (by decide +kernel) (by repeat' constructor) rfl (by repeat' constructor) ?_
            refine WL.nc rfl rfl (WL.faN (T := Ty) (off' := 0) rfl rfl rfl rfl rfl rfl rfl (WL.faN (T := Ty) (off' := 5) rfl rfl rfl rfl rfl rfl rfl ?_))
            refine WL.stF (T := Ty) (j := 1) rfl rfl rfl rfl rfl rfl rfl (by repeat' constructor) (by repeat' constructor) ?_
            refine WL.nil ?_
            refine W.fit (Hs' := [box b _ _, Buf 7 u _]) (by (repeat' first | exact Sel.nil | apply Sel.k | exact Pick.h | apply Pick.t)) (W.stop0 rfl (fun h q => ⟨u, ⟨rfl, by unfold goesP; dsimp only; rw [hln]; exact su⟩, q⟩))
          · refine WL.ldN (T := Ty) (j := 1) rfl rfl rfl rfl rfl rfl ?_
            refine WL.nilE (WD.oneL 18 rfl (by decide +kernel) ?_)
            refine WL.callV rfl rfl (fun x p d => goner_c _ _ _ _ _ _ _ _ _ _ _ _ (by first | assumption | exact RB.wide (by assumption) | exact In.rb (by assumption) | exact RB.mono (by assumption) (eqh_at 0 rfl p d) | exact (in_at 0 rfl p d).rb | exact (in_at 1 rfl p d).rb | exact (in_at 2 rfl p d).rb | exact (in_at 3 rfl p d).rb | exact (in_at 4 rfl p d).rb | exact (in_at 5 rfl p d).rb | exact (in_at 6 rfl p d).rb | exact (in_at 7 rfl p d).rb) (by assumption) (by first | assumption | omega) (by first | assumption | omega)) ?_
            refine WL.nilE (WD.oneL 26 rfl (by decide +kernel) ?_)
            refine WL.callV rfl rfl (fun x p d => goner_c _ _ _ _ _ _ _ _ _ _ _ _ (by first | assumption | exact RB.wide (by assumption) | exact In.rb (by assumption) | exact RB.mono (by assumption) (eqh_at 0 rfl p d) | exact (in_at 0 rfl p d).rb | exact (in_at 1 rfl p d).rb | exact (in_at 2 rfl p d).rb | exact (in_at 3 rfl p d).rb | exact (in_at 4 rfl p d).rb | exact (in_at 5 rfl p d).rb | exact (in_at 6 rfl p d).rb | exact (in_at 7 rfl p d).rb) (by assumption) (by first | assumption | omega) (by first | assumption | omega)) ?_
            refine WL.nilE (WD.takeL 27 rfl (by decide +kernel) (WL.nc rfl rfl (WL.nilT (WD.takeL 28 rfl (by decide +kernel) (WL.faN (T := Ty) (off' := 0) rfl rfl rfl rfl rfl rfl rfl (WL.nilT (WD.takeL 29 rfl (by decide +kernel) (WL.faN (T := Ty) (off' := 3) rfl rfl rfl rfl rfl rfl rfl (WL.nilT (WD.oneL 30 rfl (by decide +kernel) ?_))))))))))
            refine WL.stF (T := Ty) (j := 1) rfl rfl rfl rfl rfl rfl rfl (by repeat' constructor) (by repeat' constructor) ?_
            refine WL.nilE (WD.takeL 31 rfl (by decide +kernel) (WL.nc rfl rfl (WL.nilT (WD.takeL 32 rfl (by decide +kernel) (WL.faN (T := Ty) (off' := 0) rfl rfl rfl rfl rfl rfl rfl (WL.nilT (WD.takeL 33 rfl (by decide +kernel) (WL.faN (T := Ty) (off' := 4) rfl rfl rfl rfl rfl rfl rfl (WL.nilT (WD.oneL 34 rfl (by decide +kernel) ?_))))))))))
            refine WL.stF (T := Ty) (j := 1) rfl rfl rfl rfl rfl rfl rfl (by repeat' constructor) (by repeat' constructor) ?_
            refine WL.nilE ?_
            refine WD.lastG hσ0 (by decide +kernel) (by repeat' constructor) rfl (by repeat' constructor) ?_
            refine WL.nc rfl rfl (WL.faN (T := Ty) (off' := 0) rfl rfl rfl rfl rfl rfl rfl (WL.faN (T := Ty) (off' := 5) rfl rfl rfl rfl rfl rfl rfl ?_))
            refine WL.stF (T := Ty) (j := 1) rfl rfl rfl rfl rfl rfl rfl (by repeat' constructor) (by repeat' constructor) ?_
            refine WL.nil ?_
            refine W.fit (Hs' := [box b _ _, Buf 7 u _]) (by (repeat' first | exact Sel.nil | apply Sel.k | exact Pick.h | apply Pick.t)) (W.stop0 rfl (fun h q => ⟨u, ⟨rfl, by unfold goesP; dsimp only; rw [hln]; exact su⟩, q⟩))
        · refine WL.ldN (T := Ty) (j := 1) rfl rfl rfl rfl rfl rfl ?_
          refine WL.nilE (WD.oneL 10 rfl (by decide +kernel) ?_)
          refine WL.callV rfl rfl (fun x p d => goner_c _ _ _ _ _ _ _ _ _ _ _ _ (by first | assumption | exact RB.wide (by assumption) | exact In.rb (by assumption) | exact RB.mono (by assumption) (eqh_at 0 rfl p d) | exact (in_at 0 rfl p d).rb | exact (in_at 1 rfl p d).rb | exact (in_at 2 rfl p d).rb | exact (in_at 3 rfl p d).rb | exact (in_at 4 rfl p d).rb | exact (in_at 5 rfl p d).rb | exact (in_at 6 rfl p d).rb | exact (in_at 7 rfl p d).rb) (by assumption) (by first | assumption | omega) (by first | assumption | omega)) ?_
          refine WL.nilE (WD.oneL 18 rfl (by decide +kernel) ?_)
          refine WL.callV rfl rfl (fun x p d => goner_c _ _ _ _ _ _ _ _ _ _ _ _ (by first | assumption | exact RB.wide (by assumption) | exact In.rb (by assumption) | exact RB.mono (by assumption) (eqh_at 0 rfl p d) | exact (in_at 0 rfl p d).rb | exact (in_at 1 rfl p d).rb | exact (in_at 2 rfl p d).rb | exact (in_at 3 rfl p d).rb | exact (in_at 4 rfl p d).rb | exact (in_at 5 rfl p d).rb | exact (in_at 6 rfl p d).rb | exact (in_at 7 rfl p d).rb) (by assumption) (by first | assumption | omega) (by first | assumption | omega)) ?_
          refine WL.nilE (WD.oneL 26 rfl (by decide +kernel) ?_)
          refine WL.callV rfl rfl (fun x p d => goner_c _ _ _ _ _ _ _ _ _ _ _ _ (by first | assumption | exact RB.wide (by assumption) | exact In.rb (by assumption) | exact RB.mono (by assumption) (eqh_at 0 rfl p d) | exact (in_at 0 rfl p d).rb | exact (in_at 1 rfl p d).rb | exact (in_at 2 rfl p d).rb | exact (in_at 3 rfl p d).rb | exact (in_at 4 rfl p d).rb | exact (in_at 5 rfl p d).rb | exact (in_at 6 rfl p d).rb | exact (in_at 7 rfl p d).rb) (by assumption) (by first | assumption | omega) (by first | assumption | omega)) ?_
          refine WL.nilE (WD.takeL 27 rfl (by decide +kernel) (WL.nc rfl rfl (WL.nilT (WD.takeL 28 rfl (by decide +kernel) (WL.faN (T := Ty) (off' := 0) rfl rfl rfl rfl rfl rfl rfl (WL.nilT (WD.takeL 29 rfl (by decide +kernel) (WL.faN (T := Ty) (off' := 3) rfl rfl rfl rfl rfl rfl rfl (WL.nilT (WD.oneL 30 rfl (by decide +kernel) ?_))))))))))
          refine WL.stF (T := Ty) (j := 1) rfl rfl rfl rfl rfl rfl rfl (by repeat' constructor) (by repeat' constructor) ?_
          refine WL.nilE (WD.takeL 31 rfl (by decide +kernel) (WL.nc rfl rfl (WL.nilT (WD.takeL 32 rfl (by decide +kernel) (WL.faN (T := Ty) (off' := 0) rfl rfl rfl rfl rfl rfl rfl (WL.nilT (WD.takeL 33 rfl (by decide +kernel) (WL.faN (T := Ty) (off' := 4) rfl rfl rfl rfl rfl rfl rfl (WL.nilT (WD.oneL 34 rfl (by decide +kernel) ?_))))))))))
          refine WL.stF (T := Ty) (j := 1) rfl rfl rfl rfl rfl rfl rfl (by repeat' constructor) (by repeat' constructor) ?_
          refine WL.nilE ?_
          refine WD.lastG hσ0 (by decide +kernel) (by repeat' constructor) rfl (by repeat' constructor) ?_
          refine WL.nc rfl rfl (WL.faN (T := Ty) (off' := 0) rfl rfl rfl rfl rfl rfl rfl (WL.faN (T := Ty) (off' := 5) rfl rfl rfl rfl rfl rfl rfl ?_))
          refine WL.stF (T := Ty) (j := 1) rfl rfl rfl rfl rfl rfl rfl (by repeat' constructor) (by repeat' constructor) ?_
          refine WL.nil ?_
          refine W.fit (Hs' := [box b _ _, Buf 7 u _]) (by (repeat' first | exact Sel.nil | apply Sel.k | exact Pick.h | apply Pick.t)) (W.stop0 rfl (fun h q => ⟨u, ⟨rfl, by unfold goesP; dsimp only; rw [hln]; exact su⟩, q⟩))
      · refine WL.ldN (T := Ty) (j := 1) rfl rfl rfl rfl rfl rfl ?_
        refine WL.nilE (WD.oneL 8 rfl (by decide +kernel) (WL.ldN (T := Ty) (j := 1) rfl rfl rfl rfl rfl rfl (WL.nilE (WD.oneL 10 rfl (by decide +kernel) ?_))))
        refine WL.callV rfl rfl (fun x p d => goner_c _ _ _ _ _ _ _ _ _ _ _ _ (by first | assumption | exact RB.wide (by assumption) | exact In.rb (by assumption) | exact RB.mono (by assumption) (eqh_at 0 rfl p d) | exact (in_at 0 rfl p d).rb | exact (in_at 1 rfl p d).rb | exact (in_at 2 rfl p d).rb | exact (in_at 3 rfl p d).rb | exact (in_at 4 rfl p d).rb | exact (in_at 5 rfl p d).rb | exact (in_at 6 rfl p d).rb | exact (in_at 7 rfl p d).rb) (by assumption) (by first | assumption | omega) (by first | assumption | omega)) ?_
        refine WL.nilE (WD.oneL 18 rfl (by decide +kernel) ?_)
        refine WL.callV rfl rfl (fun x p d => goner_c _ _ _ _ _ _ _ _ _ _ _ _ (by first | assumption | exact RB.wide (by assumption) | exact In.rb (by assumption) | exact RB.mono (by assumption) (eqh_at 0 rfl p d) | exact (in_at 0 rfl p d).rb | exact (in_at 1 rfl p d).rb | exact (in_at 2 rfl p d).rb | exact (in_at 3 rfl p d).rb | exact (in_at 4 rfl p d).rb | exact (in_at 5 rfl p d).rb | exact (in_at 6 rfl p d).rb | exact (in_at 7 rfl p d).rb) (by assumption) (by first | assumption | omega) (by first | assumption | omega)) ?_
        refine WL.nilE (WD.oneL 26 rfl (by decide +kernel) ?_)
        refine WL.callV rfl rfl (fun x p d => goner_c _ _ _ _ _ _ _ _ _ _ _ _ (by first | assumption | exact RB.wide (by assumption) | exact In.rb (by assumption) | exact RB.mono (by assumption) (eqh_at 0 rfl p d) | exact (in_at 0 rfl p d).rb | exact (in_at 1 rfl p d).rb | exact (in_at 2 rfl p d).rb | exact (in_at 3 rfl p d).rb | exact (in_at 4 rfl p d).rb | exact (in_at 5 rfl p d).rb | exact (in_at 6 rfl p d).rb | exact (in_at 7 rfl p d).rb) (by assumption) (by first | assumption | omega) (by first | assumption | omega)) ?_
        refine WL.nilE (WD.takeL 27 rfl (by decide +kernel) (WL.nc rfl rfl (WL.nilT (WD.takeL 28 rfl (by decide +kernel) (WL.faN (T := Ty) (off' := 0) rfl rfl rfl rfl rfl rfl rfl (WL.nilT (WD.takeL 29 rfl (by decide +kernel) (WL.faN (T := Ty) (off' := 3) rfl rfl rfl rfl rfl rfl rfl (WL.nilT (WD.oneL 30 rfl (by decide +kernel) ?_))))))))))
        refine WL.stF (T := Ty) (j := 1) rfl rfl rfl rfl rfl rfl rfl (by repeat' constructor) (by repeat' constructor) ?_
        refine WL.nilE (WD.takeL 31 rfl (by decide +kernel) (WL.nc rfl rfl (WL.nilT (WD.takeL 32 rfl (by decide +kernel) (WL.faN (T := Ty) (off' := 0) rfl rfl rfl rfl rfl rfl rfl (WL.nilT (WD.takeL 33 rfl (by decide +kernel) (WL.faN (T := Ty) (off' := 4) rfl rfl rfl rfl rfl rfl rfl (WL.nilT (WD.oneL 34 rfl (by decide +kernel) ?_))))))))))
        refine WL.stF (T := Ty) (j := 1) rfl rfl rfl rfl rfl rfl rfl (by repeat' constructor) (by repeat' constructor) ?_
        refine WL.nilE ?_
        refine WD.lastG hσ0 (by decide +kernel) (by repeat' constructor) rfl (by repeat' constructor) ?_
        refine WL.nc rfl rfl (WL.faN (T := Ty) (off' := 0) rfl rfl rfl rfl rfl rfl rfl (WL.faN (T := Ty) (off' := 5) rfl rfl rfl rfl rfl rfl rfl ?_))
        refine WL.stF (T := Ty) (j := 1) rfl rfl rfl rfl rfl rfl rfl (by repeat' constructor) (by repeat' constructor) ?_
        refine WL.nil ?_
        refine W.fit (Hs' := [box b _ _, Buf 7 u _]) (by (repeat' first | exact Sel.nil | apply Sel.k | exact Pick.h | apply Pick.t)) (W.stop0 rfl (fun h q => ⟨u, ⟨rfl, by unfold goesP; dsimp only; rw [hln]; exact su⟩, q⟩))
    · refine WL.ldN (T := Ty) (j := 1) rfl rfl rfl rfl rfl rfl ?_
      refine WL.nilE ?_
      refine WD.twoL 8 16 rfl rfl (by decide +kernel) ?_ ?_
      · refine WL.ldN (T := Ty) (j := 1) rfl rfl rfl rfl rfl rfl ?_
        refine WL.nilE ?_
        refine WD.twoL 10 16 rfl rfl (by decide +kernel) ?_ ?_
        · refine WL.callV rfl rfl (fun x p d => goner_c _ _ _ _ _ _ _ _ _ _ _ _ (by first | assumption | exact RB.wide (by assumption) | exact In.rb (by assumption) | exact RB.mono (by assumption) (eqh_at 0 rfl p d) | exact (in_at 0 rfl p d).rb | exact (in_at 1 rfl p d).rb | exact (in_at 2 rfl p d).rb | exact (in_at 3 rfl p d).rb | exact (in_at 4 rfl p d).rb | exact (in_at 5 rfl p d).rb | exact (in_at 6 rfl p d).rb | exact (in_at 7 rfl p d).rb) (by assumption) (by first | assumption | omega) (by first | assumption | omega)) ?_
          refine WL.nilE (WD.oneL 16 rfl (by decide +kernel) (WL.ldN (T := Ty) (j := 1) rfl rfl rfl rfl rfl rfl (WL.nilE (WD.oneL 18 rfl (by decide +kernel) ?_))))
          refine WL.callV rfl rfl (fun x p d => goner_c _ _ _ _ _ _ _ _ _ _ _ _ (by first | assumption | exact RB.wide (by assumption) | exact In.rb (by assumption) | exact RB.mono (by assumption) (eqh_at 0 rfl p d) | exact (in_at 0 rfl p d).rb | exact (in_at 1 rfl p d).rb | exact (in_at 2 rfl p d).rb | exact (in_at 3 rfl p d).rb | exact (in_at 4 rfl p d).rb | exact (in_at 5 rfl p d).rb | exact (in_at 6 rfl p d).rb | exact (in_at 7 rfl p d).rb) (by assumption) (by first | assumption | omega) (by first | assumption | omega)) ?_
          refine WL.nilE (WD.oneL 26 rfl (by decide +kernel) ?_)
          refine WL.callV rfl rfl (fun x p d => goner_c _ _ _ _ _ _ _ _ _ _ _ _ (by first | assumption | exact RB.wide (by assumption) | exact In.rb (by assumption) | exact RB.mono (by assumption) (eqh_at 0 rfl p d) | exact (in_at 0 rfl p d).rb | exact (in_at 1 rfl p d).rb | exact (in_at 2 rfl p d).rb | exact (in_at 3 rfl p d).rb | exact (in_at 4 rfl p d).rb | exact (in_at 5 rfl p d).rb | exact (in_at 6 rfl p d).rb | exact (in_at 7 rfl p d).rb) (by assumption) (by first | assumption | omega) (by first | assumption | omega)) ?_
          refine WL.nilE (WD.takeL 27 rfl (by decide +kernel) (WL.nc rfl rfl (WL.nilT (WD.takeL 28 rfl (by decide +kernel) (WL.faN (T := Ty) (off' := 0) rfl rfl rfl rfl rfl rfl rfl (WL.nilT (WD.takeL 29 rfl (by decide +kernel) (WL.faN (T := Ty) (off' := 3) rfl rfl rfl rfl rfl rfl rfl (WL.nilT (WD.oneL 30 rfl (by decide +kernel) ?_))))))))))
          refine WL.stF (T := Ty) (j := 1) rfl rfl rfl rfl rfl rfl rfl (by repeat' constructor) (by repeat' constructor) ?_
          refine WL.nilE (WD.takeL 31 rfl (by decide +kernel) (WL.nc rfl rfl (WL.nilT (WD.takeL 32 rfl (by decide +kernel) (WL.faN (T := Ty) (off' := 0) rfl rfl rfl rfl rfl rfl rfl (WL.nilT (WD.takeL 33 rfl (by decide +kernel) (WL.faN (T := Ty) (off' := 4) rfl rfl rfl rfl rfl rfl rfl (WL.nilT (WD.oneL 34 rfl (by decide +kernel) ?_))))))))))
          refine WL.stF (T := Ty) (j := 1) rfl rfl rfl rfl rfl rfl rfl (by repeat' constructor) (by repeat' constructor) ?_
          refine WL.nilE ?_
          refine WD.lastG hσ0 (by decide +kernel) (by repeat' constructor) rfl (by repeat' constructor) ?_
          refine WL.nc rfl rfl (WL.faN (T := Ty) (off' := 0) rfl rfl rfl rfl rfl rfl rfl (WL.faN (T := Ty) (off' := 5) rfl rfl rfl rfl rfl rfl rfl ?_))
          refine WL.stF (T := Ty) (j := 1) rfl rfl rfl rfl rfl rfl rfl (by repeat' constructor) (by repeat' constructor) ?_
          refine WL.nil ?_
          refine W.fit (Hs' := [box b _ _, Buf 7 u _]) (by (repeat' first | exact Sel.nil | apply Sel.k | exact Pick.h | apply Pick.t)) (W.stop0 rfl (fun h q => ⟨u, ⟨rfl, by unfold goesP; dsimp only; rw [hln]; exact su⟩, q⟩))
        · refine WL.ldN (T := Ty) (j := 1) rfl rfl rfl rfl rfl rfl ?_
          refine WL.nilE (WD.oneL 10 rfl (by decide +kernel) ?_)
          refine WL.callV rfl rfl (fun x p d => goner_c _ _ _ _ _ _ _ _ _ _ _ _ (by first | assumption | exact RB.wide (by assumption) | exact In.rb (by assumption) | exact RB.mono (by assumption) (eqh_at 0 rfl p d) | exact (in_at 0 rfl p d).rb | exact (in_at 1 rfl p d).rb | exact (in_at 2 rfl p d).rb | exact (in_at 3 rfl p d).rb | exact (in_at 4 rfl p d).rb | exact (in_at 5 rfl p d).rb | exact (in_at 6 rfl p d).rb | exact (in_at 7 rfl p d).rb) (by assumption) (by first | assumption | omega) (by first | assumption | omega)) ?_
          refine WL.nilE (WD.oneL 18 rfl (by decide +kernel) ?_)
          refine WL.callV rfl rfl (fun x p d => goner_c _ _ _ _ _ _ _ _ _ _ _ _ (by first | assumption | exact RB.wide (by assumption) | exact In.rb (by assumption) | exact RB.mono (by assumption) (eqh_at 0 rfl p d) | exact (in_at 0 rfl p d).rb | exact (in_at 1 rfl p d).rb | exact (in_at 2 rfl p d).rb | exact (in_at 3 rfl p d).rb | exact (in_at 4 rfl p d).rb | exact (in_at 5 rfl p d).rb | exact (in_at 6 rfl p d).rb | exact (in_at 7 rfl p d).rb) (by assumption) (by first | assumption | omega) (by first | assumption | omega)) ?_
          refine WL.nilE (WD.oneL 26 rfl (by decide +kernel) ?_)
          refine WL.callV rfl rfl (fun x p d => goner_c _ _ _ _ _ _ _ _ _ _ _ _ (by first | assumption | exact RB.wide (by assumption) | exact In.rb (by assumption) | exact RB.mono (by assumption) (eqh_at 0 rfl p d) | exact (in_at 0 rfl p d).rb | exact (in_at 1 rfl p d).rb | exact (in_at 2 rfl p d).rb | exact (in_at 3 rfl p d).rb | exact (in_at 4 rfl p d).rb | exact (in_at 5 rfl p d).rb | exact (in_at 6 rfl p d).rb | exact (in_at 7 rfl p d).rb) (by assumption) (by first | assumption | omega) (by first | assumption | omega)) ?_
          refine WL.nilE (WD.takeL 27 rfl (by decide +kernel) (WL.nc rfl rfl (WL.nilT (WD.takeL 28 rfl (by decide +kernel) (WL.faN (T := Ty) (off' := 0) rfl rfl rfl rfl rfl rfl rfl (WL.nilT (WD.takeL 29 rfl (by decide +kernel) (WL.faN (T := Ty) (off' := 3) rfl rfl rfl rfl rfl rfl rfl (WL.nilT (WD.oneL 30 rfl (by decide +kernel) ?_))))))))))
          refine WL.stF (T := Ty) (j := 1) rfl rfl rfl rfl rfl rfl rfl (by repeat' constructor) (by repeat' constructor) ?_
          refine WL.nilE (WD.takeL 31 rfl (by decide +kernel) (WL.nc rfl rfl (WL.nilT (WD.takeL 32 rfl (by decide +kernel) (WL.faN (T := Ty) (off' := 0) rfl rfl rfl rfl rfl rfl rfl (WL.nilT (WD.takeL 33 rfl (by decide +kernel) (WL.faN (T := Ty) (off' := 4) rfl rfl rfl rfl rfl rfl rfl (WL.nilT (WD.oneL 34 rfl (by decide +kernel) ?_))))))))))
          refine WL.stF (T := Ty) (j := 1) rfl rfl rfl rfl rfl rfl rfl (by repeat' constructor) (by repeat' constructor) ?_
          refine WL.nilE ?_
          refine WD.lastG hσ0 (by decide +kernel) (by repeat' constructor) rfl (by repeat' constructor) ?_
          refine WL.nc rfl rfl (WL.faN (T := Ty) (off' := 0) rfl rfl rfl rfl rfl rfl rfl (WL.faN (T := Ty) (off' := 5) rfl rfl rfl rfl rfl rfl rfl ?_))
          refine WL.stF (T := Ty) (j := 1) rfl rfl rfl rfl rfl rfl rfl (by repeat' constructor) (by repeat' constructor) ?_
          refine WL.nil ?_
          refine W.fit (Hs' := [box b _ _, Buf 7 u _]) (by (repeat' first | exact Sel.nil | apply Sel.k | exact Pick.h | apply Pick.t)) (W.stop0 rfl (fun h q => ⟨u, ⟨rfl, by unfold goesP; dsimp only; rw [hln]; exact su⟩, q⟩))
      · refine WL.ldN (T := Ty) (j := 1) rfl rfl rfl rfl rfl rfl ?_
        refine WL.nilE (WD.oneL 8 rfl (by decide +kernel) (WL.ldN (T := Ty) (j := 1) rfl rfl rfl rfl rfl rfl (WL.nilE (WD.oneL 10 rfl (by decide +kernel) ?_))))
        refine WL.callV rfl rfl (fun x p d => goner_c _ _ _ _ _ _ _ _ _ _ _ _ (by first | assumption | exact RB.wide (by assumption) | exact In.rb (by assumption) | exact RB.mono (by assumption) (eqh_at 0 rfl p d) | exact (in_at 0 rfl p d).rb | exact (in_at 1 rfl p d).rb | exact (in_at 2 rfl p d).rb | exact (in_at 3 rfl p d).rb | exact (in_at 4 rfl p d).rb | exact (in_at 5 rfl p d).rb | exact (in_at 6 rfl p d).rb | exact (in_at 7 rfl p d).rb) (by assumption) (by first | assumption | omega) (by first | assumption | omega)) ?_
        refine WL.nilE (WD.oneL 18 rfl (by decide +kernel) ?_)
        refine WL.callV rfl rfl (fun x p d => goner_c _ _ _ _ _ _ _ _ _ _ _ _ (by first | assumption | exact RB.wide (by assumption) | exact In.rb (by assumption) | exact RB.mono (by assumption) (eqh_at 0 rfl p d) | exact (in_at 0 rfl p d).rb | exact (in_at 1 rfl p d).rb | exact (in_at 2 rfl p d).rb | exact (in_at 3 rfl p d).rb | exact (in_at 4 rfl p d).rb | exact (in_at 5 rfl p d).rb | exact (in_at 6 rfl p d).rb | exact (in_at 7 rfl p d).rb) (by assumption) (by first | assumption | omega) (by first | assumption | omega)) ?_
        refine WL.nilE (WD.oneL 26 rfl (by decide +kernel) ?_)
        refine WL.callV rfl rfl (fun x p d => goner_c _ _ _ _ _ _ _ _ _ _ _ _ (by first | assumption | exact RB.wide (by assumption) | exact In.rb (by assumption) | exact RB.mono (by assumption) (eqh_at 0 rfl p d) | exact (in_at 0 rfl p d).rb | exact (in_at 1 rfl p d).rb | exact (in_at 2 rfl p d).rb | exact (in_at 3 rfl p d).rb | exact (in_at 4 rfl p d).rb | exact (in_at 5 rfl p d).rb | exact (in_at 6 rfl p d).rb | exact (in_at 7 rfl p d).rb) (by assumption) (by first | assumption | omega) (by first | assumption | omega)) ?_
        refine WL.nilE (WD.takeL 27 rfl (by decide +kernel) (WL.nc rfl rfl (WL.nilT (WD.takeL 28 rfl (by decide +kernel) (WL.faN (T := Ty) (off' := 0) rfl rfl rfl rfl rfl rfl rfl (WL.nilT (WD.takeL 29 rfl (by decide +kernel) (WL.faN (T := Ty) (off' := 3) rfl rfl rfl rfl rfl rfl rfl (WL.nilT (WD.oneL 30 rfl (by decide +kernel) ?_))))))))))
        refine WL.stF (T := Ty) (j := 1) rfl rfl rfl rfl rfl rfl rfl (by repeat' constructor) (by repeat' constructor) ?_
        refine WL.nilE (WD.takeL 31 rfl (by decide +kernel) (WL.nc rfl rfl (WL.nilT (WD.takeL 32 rfl (by decide +kernel) (WL.faN (T := Ty) (off' := 0) rfl rfl rfl rfl rfl rfl rfl (WL.nilT (WD.takeL 33 rfl (by decide +kernel) (WL.faN (T := Ty) (off' := 4) rfl rfl rfl rfl rfl rfl rfl (WL.nilT (WD.oneL 34 rfl (by decide +kernel) ?_))))))))))
        refine WL.stF (T := Ty) (j := 1) rfl rfl rfl rfl rfl rfl rfl (by repeat' constructor) (by repeat' constructor) ?_
        refine WL.nilE ?_
        refine WD.lastG hσ0 (by decide +kernel) (by repeat' constructor) rfl (by repeat' constructor) ?_
        refine WL.nc rfl rfl (WL.faN (T := Ty) (off' := 0) rfl rfl rfl rfl rfl rfl rfl (WL.faN (T := Ty) (off' := 5) rfl rfl rfl rfl rfl rfl rfl ?_))
        refine WL.stF (T := Ty) (j := 1) rfl rfl rfl rfl rfl rfl rfl (by repeat' constructor) (by repeat' constructor) ?_
        refine WL.nil ?_
        refine W.fit (Hs' := [box b _ _, Buf 7 u _]) (by (repeat' first | exact Sel.nil | apply Sel.k | exact Pick.h | apply Pick.t)) (W.stop0 rfl (fun h q => ⟨u, ⟨rfl, by unfold goesP; dsimp only; rw [hln]; exact su⟩, q⟩))
  refine W.drawA 19 rfl (fun σ0 hσ0 dσ0 => ?_)
  have fσ0_0 := rb_at 0 rfl hσ0 dσ0
  have fσ0_1 := ros_at 1 rfl hσ0 dσ0
  refine WD.takeL 0 rfl (by decide +kernel) (WL.mv rfl rfl (WL.nilT (WD.takeL 2 rfl (by decide +kernel) (WL.mv rfl rfl (WL.nilT (WD.takeL 3 rfl (by decide +kernel) (WL.nc rfl rfl (WL.nilT (WD.takeL 4 rfl (by decide +kernel) (WL.faN (T := Ty) (off' := 0) rfl rfl rfl rfl rfl rfl rfl (WL.nilT (WD.takeL 5 rfl (by decide +kernel) (WL.faN (T := Ty) (off' := 2) rfl rfl rfl rfl rfl rfl rfl ?_)))))))))))))
  refine WL.nilT (WD.takeL 6 rfl (by decide +kernel) ?_)
  refine WL.ldBN (T := Ty) rfl rfl rfl rfl (by first | assumption | exact RB.wide (by assumption) | exact In.rb (by assumption)) rfl ?_
  refine WL.nilT (WD.takeL 7 rfl (by decide +kernel) (WL.mv rfl rfl (WL.nilT (WD.takeL 8 rfl (by decide +kernel) ?_))))
  refine WL.slTf (T := Ty) rfl rfl rfl rfl rfl rfl (by first | assumption | exact ROs.wide (by assumption)) (by intro a; rfl) (by first | assumption | omega | (simp; omega)) (fun u4 hu4 ru4 => ?_)
  refine WL.nilT (WD.takeL 10 rfl (by decide +kernel) (WL.mv rfl rfl (WL.nilT (WD.takeL 11 rfl (by decide +kernel) (WL.nc rfl rfl (WL.nilT (WD.takeL 12 rfl (by decide +kernel) (WL.faN (T := Ty) (off' := 0) rfl rfl rfl rfl rfl rfl rfl (WL.nilT (WD.takeL 13 rfl (by decide +kernel) (WL.faN (T := Ty) (off' := 2) rfl rfl rfl rfl rfl rfl rfl (WL.nilT (WD.takeL 14 rfl (by decide +kernel) ?_)))))))))))))
  refine WL.ldBN (T := Ty) rfl rfl rfl rfl (by first | assumption | exact RB.wide (by assumption) | exact In.rb (by assumption)) rfl ?_
  refine WL.nilT (WD.takeL 15 rfl (by decide +kernel) (WL.mv rfl rfl (WL.nilT (WD.takeL 16 rfl (by decide +kernel) (WL.addK rfl rfl rfl (wrap_i64 ⟨by omega, by omega⟩) (WL.nilT (WD.takeL 17 rfl (by decide +kernel) ?_)))))))
  refine WL.slDf (T := Ty) rfl rfl rfl rfl rfl rfl (by first | assumption | exact ROs.wide (by assumption)) (by intro a; rfl) (by first | assumption | omega | (simp; omega)) (fun u5 hu5 ru5 => ?_)
  refine WL.nilT (WD.oneL 1 rfl (by decide +kernel) ?_)
  refine WL.bsC (T := Ty) rfl rfl rfl rfl rfl rfl rfl (by repeat' first | exact CO.nil | apply CO.one (by first | rfl | exact SL.one (by assumption)) | apply CO.agg) rfl (by repeat' constructor) (fun u6 hu6 => ?_)
  refine WL.nilS (WD.oneL 9 rfl (by decide +kernel) ?_)
  refine WL.ap (T := Ty) (i := 1) (n := 0) rfl rfl rfl rfl rfl rfl rfl rfl (by first | exact .ro (by assumption) | exact .ro (ROs.wide (by assumption)) | exact .eqJ 0 rfl (by assumption) | exact .own 0 rfl | exact .own 1 rfl | exact .own 2 rfl | exact .own 3 rfl | exact .own 4 rfl | exact .own 5 rfl) (by first | assumption | exact ROs.slm (by assumption)) rfl (by assumption) (by assumption) (by first | omega | (simp; omega) | (simp only [List.length_drop, List.length_take]; omega)) (by unfold maxLen; first | omega | (simp only [List.length_drop, List.length_take]; omega)) (fun v' => (by repeat' constructor)) (fun u7 hu7 => ?_)
  refine WL.nilE (WD.oneL 18 rfl (by decide +kernel) ?_)
  refine WL.ap (T := Ty) (i := 1) rfl rfl rfl rfl rfl rfl rfl rfl (by first | exact .ro (by assumption) | exact .ro (ROs.wide (by assumption)) | exact .eqJ 0 rfl (by assumption) | exact .own 0 rfl | exact .own 1 rfl | exact .own 2 rfl | exact .own 3 rfl | exact .own 4 rfl | exact .own 5 rfl) (by first | assumption | exact ROs.slm (by assumption)) (by assumption) (by assumption) (by assumption) (by first | omega | (simp; omega) | (simp only [List.length_drop, List.length_take]; omega)) (by unfold maxLen; first | omega | (simp only [List.length_drop, List.length_take]; omega)) (fun v' => (by repeat' constructor)) (fun u8 hu8 => ?_)
  refine WL.nilE ?_
  refine WD.lastG hσ0 (by decide +kernel) (by repeat' constructor) rfl (by repeat' constructor) ?_
  refine WL.nc rfl rfl (WL.faN (T := Ty) (off' := 0) rfl rfl rfl rfl rfl rfl rfl (WL.faN (T := Ty) (off' := 2) rfl rfl rfl rfl rfl rfl rfl ?_))
  refine WL.stF (T := Ty) (j := 0) rfl rfl rfl rfl (SL.one (by assumption)) rfl rfl (by repeat' constructor) (by repeat' constructor) ?_
  refine WL.nil ?_
  rw [hfl]
  refine W.fit (Hs' := [box b _ _, Buf 7 _ ((L.take i ++ L.drop (i + 1)).flatMap pgC)]) (by (repeat' first | exact Sel.nil | apply Sel.k | exact Pick.h | apply Pick.t)) (W.sub ?_ (cut _ _ (Le.refl _) (by rw [← hln, List.length_append]; first | assumption | (rw [← Nat.zero_add (L.take i).length]; assumption))))
  exact ⟨rfl, rfl, trivial⟩
end Go.Proofs.Ytbebhmdjnneimaa
