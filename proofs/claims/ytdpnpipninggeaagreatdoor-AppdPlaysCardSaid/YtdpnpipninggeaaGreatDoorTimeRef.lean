/- Times by their differences: what the document's own code does. -/
import Derived.Test.YtdpnpipninggeaaGreatDoorStc
import Derived.Test.YtdpnpipninggeaaGreatDoorNum
import Derived.Test.YtdpnpipninggeaaGreatDoorTab
import Derived.Test.YtdpnpipninggeaaGreatDoorBitsRef
import Derived.Test.YtdpnpipninggeaaGreatDoorTimeC
import Derived.Test.YtdpnpipninggeaaGreatDoorVintRf
set_option linter.unusedSimpArgs false
set_option linter.unusedVariables false
set_option maxRecDepth 20000
set_option maxHeartbeats 4000000
namespace Go.Proofs.YtdpnpipninggeaaGreatDoor
open Go
attribute [local irreducible] W WL Fn Buf ROs SL eptr box Rd Src bndOK WD RB Reads In

theorem within7_c (ρ : Hp) (d : Int) : Fn Tryz.prog 94 #[.int .i64 d, .int .i64 7] ρ [] (Just (.bool (decide (-64 ≤ d ∧ d ≤ 63)))) := by
  refine in94 rfl rfl ?_
  have e1 : IntKind.i64.wrap (-1 * 2 ^ min ((7 - 1 : Int)).toNat IntKind.i64.bits) = -64 := by decide
  have e2 : IntKind.i64.wrap (1 * 2 ^ min ((7 - 1 : Int)).toNat IntKind.i64.bits) = 64 := by decide
  refine W.seq (W.region (WL.as rfl rfl (WL.nil (W.seq (W.region (WL.mv rfl rfl (WL.mv rfl rfl (WL.subK rfl rfl rfl (wrap_i64 ⟨by omega, by omega⟩) (WL.cvK (T := Ty) rfl rfl rfl rfl (wrap_u64 ⟨by omega, by omega⟩) (WL.shlS rfl rfl rfl (by omega) rfl rfl (WL.geq rfl rfl rfl (WL.mv rfl rfl ?_))))))))))))
  rw [e1]
  by_cases h : -64 ≤ d
  · refine WL.gT rfl rfl (by omega) ?_
    refine WL.mv rfl rfl (WL.gT rfl rfl (by omega) (WL.mv rfl rfl (WL.gT rfl rfl (by omega) (WL.subK rfl rfl rfl (wrap_i64 ⟨by omega, by omega⟩) (WL.gT rfl rfl (by omega) (WL.cvK (T := Ty) rfl rfl rfl rfl (wrap_u64 ⟨by omega, by omega⟩) (WL.gT rfl rfl (by omega) (WL.shlS rfl rfl rfl (by omega) rfl rfl (WL.gT rfl rfl (by omega) (WL.lss rfl rfl rfl (WL.pickTp rfl rfl (by omega) rfl (WL.as rfl rfl (WL.nil ?_)))))))))))))
    rw [e2]
    skip
    exact W.ret1 rfl rfl (fun _ p => ⟨congrArg Value.bool (decide_eq_decide.2 (by omega)), p⟩)
  · refine WL.gdTn rfl rfl rfl rfl rfl (by omega) ?_
    refine WL.gdTn rfl rfl rfl rfl rfl (by omega) (WL.gdTn rfl rfl rfl rfl rfl (by omega) (WL.gdTn rfl rfl rfl rfl rfl (by omega) (WL.gdTn rfl rfl rfl rfl rfl (by omega) (WL.gdTn rfl rfl rfl rfl rfl (by omega) (WL.pickFp rfl rfl (by omega) rfl (WL.as rfl rfl (WL.nil ?_)))))))
    exact W.ret1 rfl rfl (fun _ p => ⟨congrArg Value.bool (decide_eq_false (by omega)).symm, p⟩)
theorem within9_c (ρ : Hp) (d : Int) : Fn Tryz.prog 94 #[.int .i64 d, .int .i64 9] ρ [] (Just (.bool (decide (-256 ≤ d ∧ d ≤ 255)))) := by
  refine in94 rfl rfl ?_
  have e1 : IntKind.i64.wrap (-1 * 2 ^ min ((9 - 1 : Int)).toNat IntKind.i64.bits) = -256 := by decide
  have e2 : IntKind.i64.wrap (1 * 2 ^ min ((9 - 1 : Int)).toNat IntKind.i64.bits) = 256 := by decide
  refine W.seq (W.region (WL.as rfl rfl (WL.nil (W.seq (W.region (WL.mv rfl rfl (WL.mv rfl rfl (WL.subK rfl rfl rfl (wrap_i64 ⟨by omega, by omega⟩) (WL.cvK (T := Ty) rfl rfl rfl rfl (wrap_u64 ⟨by omega, by omega⟩) (WL.shlS rfl rfl rfl (by omega) rfl rfl (WL.geq rfl rfl rfl (WL.mv rfl rfl ?_))))))))))))
  rw [e1]
  by_cases h : -256 ≤ d
  · refine WL.gT rfl rfl (by omega) ?_
    refine WL.mv rfl rfl (WL.gT rfl rfl (by omega) (WL.mv rfl rfl (WL.gT rfl rfl (by omega) (WL.subK rfl rfl rfl (wrap_i64 ⟨by omega, by omega⟩) (WL.gT rfl rfl (by omega) (WL.cvK (T := Ty) rfl rfl rfl rfl (wrap_u64 ⟨by omega, by omega⟩) (WL.gT rfl rfl (by omega) (WL.shlS rfl rfl rfl (by omega) rfl rfl (WL.gT rfl rfl (by omega) (WL.lss rfl rfl rfl (WL.pickTp rfl rfl (by omega) rfl (WL.as rfl rfl (WL.nil ?_)))))))))))))
    rw [e2]
    skip
    exact W.ret1 rfl rfl (fun _ p => ⟨congrArg Value.bool (decide_eq_decide.2 (by omega)), p⟩)
  · refine WL.gdTn rfl rfl rfl rfl rfl (by omega) ?_
    refine WL.gdTn rfl rfl rfl rfl rfl (by omega) (WL.gdTn rfl rfl rfl rfl rfl (by omega) (WL.gdTn rfl rfl rfl rfl rfl (by omega) (WL.gdTn rfl rfl rfl rfl rfl (by omega) (WL.gdTn rfl rfl rfl rfl rfl (by omega) (WL.pickFp rfl rfl (by omega) rfl (WL.as rfl rfl (WL.nil ?_)))))))
    exact W.ret1 rfl rfl (fun _ p => ⟨congrArg Value.bool (decide_eq_false (by omega)).symm, p⟩)
theorem within12_c (ρ : Hp) (d : Int) : Fn Tryz.prog 94 #[.int .i64 d, .int .i64 12] ρ [] (Just (.bool (decide (-2048 ≤ d ∧ d ≤ 2047)))) := by
  refine in94 rfl rfl ?_
  have e1 : IntKind.i64.wrap (-1 * 2 ^ min ((12 - 1 : Int)).toNat IntKind.i64.bits) = -2048 := by decide
  have e2 : IntKind.i64.wrap (1 * 2 ^ min ((12 - 1 : Int)).toNat IntKind.i64.bits) = 2048 := by decide
  refine W.seq (W.region (WL.as rfl rfl (WL.nil (W.seq (W.region (WL.mv rfl rfl (WL.mv rfl rfl (WL.subK rfl rfl rfl (wrap_i64 ⟨by omega, by omega⟩) (WL.cvK (T := Ty) rfl rfl rfl rfl (wrap_u64 ⟨by omega, by omega⟩) (WL.shlS rfl rfl rfl (by omega) rfl rfl (WL.geq rfl rfl rfl (WL.mv rfl rfl ?_))))))))))))
  rw [e1]
  by_cases h : -2048 ≤ d
  · refine WL.gT rfl rfl (by omega) ?_
    refine WL.mv rfl rfl (WL.gT rfl rfl (by omega) (WL.mv rfl rfl (WL.gT rfl rfl (by omega) (WL.subK rfl rfl rfl (wrap_i64 ⟨by omega, by omega⟩) (WL.gT rfl rfl (by omega) (WL.cvK (T := Ty) rfl rfl rfl rfl (wrap_u64 ⟨by omega, by omega⟩) (WL.gT rfl rfl (by omega) (WL.shlS rfl rfl rfl (by omega) rfl rfl (WL.gT rfl rfl (by omega) (WL.lss rfl rfl rfl (WL.pickTp rfl rfl (by omega) rfl (WL.as rfl rfl (WL.nil ?_)))))))))))))
    rw [e2]
    skip
    exact W.ret1 rfl rfl (fun _ p => ⟨congrArg Value.bool (decide_eq_decide.2 (by omega)), p⟩)
  · refine WL.gdTn rfl rfl rfl rfl rfl (by omega) ?_
    refine WL.gdTn rfl rfl rfl rfl rfl (by omega) (WL.gdTn rfl rfl rfl rfl rfl (by omega) (WL.gdTn rfl rfl rfl rfl rfl (by omega) (WL.gdTn rfl rfl rfl rfl rfl (by omega) (WL.gdTn rfl rfl rfl rfl rfl (by omega) (WL.pickFp rfl rfl (by omega) rfl (WL.as rfl rfl (WL.nil ?_)))))))
    exact W.ret1 rfl rfl (fun _ p => ⟨congrArg Value.bool (decide_eq_false (by omega)).symm, p⟩)
theorem kind_c (ρ : Hp) (d : Int) : Fn Tryz.prog 65 #[.int .i64 d] ρ [] (Just (.tuple #[.int .i64 ((whichF d).2.2 : Int), .int .u64 ((whichF d).1 : Int), .int .i64 ((whichF d).2.1 : Int)])) := by
  refine in65 rfl rfl ?_
  by_cases c0 : d = 0
  · have e : whichF d = (0, 1, 0) := by unfold whichF; rw [if_pos c0]
    refine W.seq (W.region (WL.as rfl rfl (WL.as rfl rfl (WL.as rfl rfl (WL.nil (W.seq (W.block (W.seq (W.region (WL.mv rfl rfl (WL.eql rfl rfl rfl (WL.as rfl rfl (WL.nil ?_)))))))))))))
    refine W.condpT rfl (by omega) (W.seq (W.region (WL.as rfl rfl (WL.as rfl rfl (WL.as rfl rfl (WL.nil ?_))))))
    exact W.ret3 rfl rfl rfl rfl (fun h p => ⟨by rw [e]; rfl, p⟩)
  by_cases c1 : -64 ≤ d ∧ d ≤ 63
  · have e : whichF d = (2, 2, 7) := by unfold whichF; rw [if_neg c0, if_pos c1]
    refine W.seq (W.region (WL.as rfl rfl (WL.as rfl rfl (WL.as rfl rfl (WL.nil (W.seq (W.block (W.seq (W.region (WL.mv rfl rfl (WL.eql rfl rfl rfl (WL.as rfl rfl (WL.nil ?_)))))))))))))
    refine W.condpF rfl (by omega) (W.seq (W.region (WL.mv rfl rfl ?_)))
    refine WL.callV rfl rfl (fun x p d => within7_c _ _) ?_
    refine WL.as rfl rfl (WL.nil (W.condpT rfl (by omega) (W.seq (W.region (WL.as rfl rfl (WL.as rfl rfl (WL.as rfl rfl (WL.nil ?_))))))))
    exact W.ret3 rfl rfl rfl rfl (fun h p => ⟨by rw [e]; rfl, p⟩)
  by_cases c2 : -256 ≤ d ∧ d ≤ 255
  · have e : whichF d = (6, 3, 9) := by unfold whichF; rw [if_neg c0, if_neg c1, if_pos c2]
    refine W.seq (W.region (WL.as rfl rfl (WL.as rfl rfl (WL.as rfl rfl (WL.nil (W.seq (W.block (W.seq (W.region (WL.mv rfl rfl (WL.eql rfl rfl rfl (WL.as rfl rfl (WL.nil ?_)))))))))))))
    refine W.condpF rfl (by omega) (W.seq (W.region (WL.mv rfl rfl ?_)))
    refine WL.callV rfl rfl (fun x p d => within7_c _ _) ?_
    refine WL.as rfl rfl (WL.nil (W.condpF rfl (by omega) (W.seq (W.region (WL.mv rfl rfl ?_)))))
    refine WL.callV rfl rfl (fun x p d => within9_c _ _) ?_
    refine WL.as rfl rfl (WL.nil (W.condpT rfl (by omega) (W.seq (W.region (WL.as rfl rfl (WL.as rfl rfl (WL.as rfl rfl (WL.nil ?_))))))))
    exact W.ret3 rfl rfl rfl rfl (fun h p => ⟨by rw [e]; rfl, p⟩)
  by_cases c3 : -2048 ≤ d ∧ d ≤ 2047
  · have e : whichF d = (14, 4, 12) := by unfold whichF; rw [if_neg c0, if_neg c1, if_neg c2, if_pos c3]
    refine W.seq (W.region (WL.as rfl rfl (WL.as rfl rfl (WL.as rfl rfl (WL.nil (W.seq (W.block (W.seq (W.region (WL.mv rfl rfl (WL.eql rfl rfl rfl (WL.as rfl rfl (WL.nil ?_)))))))))))))
    refine W.condpF rfl (by omega) (W.seq (W.region (WL.mv rfl rfl ?_)))
    refine WL.callV rfl rfl (fun x p d => within7_c _ _) ?_
    refine WL.as rfl rfl (WL.nil (W.condpF rfl (by omega) (W.seq (W.region (WL.mv rfl rfl ?_)))))
    refine WL.callV rfl rfl (fun x p d => within9_c _ _) ?_
    refine WL.as rfl rfl (WL.nil (W.condpF rfl (by omega) (W.seq (W.region (WL.mv rfl rfl ?_)))))
    refine WL.callV rfl rfl (fun x p d => within12_c _ _) ?_
    refine WL.as rfl rfl (WL.nil (W.condpT rfl (by omega) (W.seq (W.region (WL.as rfl rfl (WL.as rfl rfl (WL.as rfl rfl (WL.nil ?_))))))))
    exact W.ret3 rfl rfl rfl rfl (fun h p => ⟨by rw [e]; rfl, p⟩)
  · have e : whichF d = (15, 4, 64) := by unfold whichF; rw [if_neg c0, if_neg c1, if_neg c2, if_neg c3]
    refine W.seq (W.region (WL.as rfl rfl (WL.as rfl rfl (WL.as rfl rfl (WL.nil (W.seq (W.block (W.seq (W.region (WL.mv rfl rfl (WL.eql rfl rfl rfl (WL.as rfl rfl (WL.nil ?_)))))))))))))
    refine W.condpF rfl (by omega) (W.seq (W.region (WL.mv rfl rfl ?_)))
    refine WL.callV rfl rfl (fun x p d => within7_c _ _) ?_
    refine WL.as rfl rfl (WL.nil (W.condpF rfl (by omega) (W.seq (W.region (WL.mv rfl rfl ?_)))))
    refine WL.callV rfl rfl (fun x p d => within9_c _ _) ?_
    refine WL.as rfl rfl (WL.nil (W.condpF rfl (by omega) (W.seq (W.region (WL.mv rfl rfl ?_)))))
    refine WL.callV rfl rfl (fun x p d => within12_c _ _) ?_
    refine WL.as rfl rfl (WL.nil (W.condpF rfl (by omega) (W.skip (W.inBlock (W.seq (W.region (WL.as rfl rfl (WL.as rfl rfl (WL.as rfl rfl (WL.nil ?_))))))))))
    exact W.ret3 rfl rfl rfl rfl (fun h p => ⟨by rw [e]; rfl, p⟩)
theorem rtenc_c (ρ : Hp) (b : Nat) (ds : List Nat) (v : Value) (ts : List Int) (hv : ROs ρ 1 v (ts.map (Value.int .i64))) (hl : ds.length ≤ 1099000000) (htl : ts.length ≤ 70000) :
    Fn Tryz.prog 41 #[ptr b, v] ρ [RWr b ds] (fun r h => r = .tuple #[] ∧ RWr b (ds ++ encTs ts) h) := by
  refine in41 rfl rfl ?_
  have sv := hv.slm
  refine W.seq (W.region (WL.as rfl rfl (WL.nil (W.seq (W.region (WL.as rfl rfl (WL.nil (W.block ?_))))))))
  refine W.loopS (σ := Nat × Int × List Nat) (fun s => [(0, ptr b), (1, v), (5, .int .i64 (s.1 : Int)), (4, .int .u64 s.2.1)]) (fun s => [RWr b s.2.2])
    (fun s => s.1 ≤ ts.length ∧ s.2.2 ++ (if s.1 = 0 then encTs ts else encT (IntKind.u64.wrap (ts.getD (s.1 - 1) 0)) s.2.1 (ts.drop s.1)) = ds ++ encTs ts ∧ (s.1 = 0 → s.2.1 = 0) ∧ s.2.2.length ≤ ds.length + 68 * s.1) (fun s => ts.length - s.1) (0, 0, ds) ⟨rfl, rfl, rfl, rfl, trivial⟩ rfl ⟨Nat.zero_le _, rfl, fun _ => rfl, by simp⟩ ?_
  rintro ⟨i, step, es⟩ ⟨h1, h2, h3, h5⟩ next
  simp only [] at h1 h2 h3 h5 next ⊢
  refine W.seq (W.seq (W.region (WL.mv rfl rfl (WL.mv rfl rfl ?_))))
  refine WL.len (T := Ty) rfl rfl (by assumption) rfl ?_
  refine WL.lss rfl rfl rfl (WL.nil ?_)
  refine W.condp rfl (fun hlt => ?_) (fun hge => ?_)
  · have hi : i < ts.length := by omega
    obtain ⟨x, hx⟩ : ∃ x, ts[i]? = some x := ⟨_, List.getElem?_eq_getElem hi⟩
    have hx1 : (ts.map (Value.int .i64))[i]? = some (.int .i64 x) := by rw [List.getElem?_map, hx]; rfl
    have hdrop : ts.drop i = x :: ts.drop (i + 1) := by
      rw [List.drop_eq_getElem_cons hi]
      congr 1
      rw [List.getElem?_eq_getElem hi] at hx
      exact Option.some.inj hx
    have hb := u64_bnd x
    by_cases h0 : i = 0
    · subst h0
      refine W.skip (W.seq (W.block (W.seq (W.seq (W.region (WL.mv rfl rfl (WL.eql rfl rfl rfl (WL.nil (W.condT rfl (W.seq (W.region (WL.mv rfl rfl (WL.mv rfl rfl ?_)))))))))))))
      refine WL.ix (T := Ty) rfl rfl rfl (by assumption) rfl rfl (by omega) (by first | omega | decide +kernel) ?_
      refine WL.ldKn (T := Ty) rfl rfl rfl rfl (by first | assumption | exact ROs.wide (by assumption)) (by assumption) ?_
      refine WL.cv (T := Ty) rfl rfl rfl rfl ?_
      refine WL.callM 0 rfl rfl rfl (fun x p d => rwput_ci _ _ _ _ _ (by omega) (by omega) (by first | assumption | omega | (simp only [List.length_append, bitsOf_len, List.length_nil, heldF]; omega))) (by repeat' constructor) ?_
      refine WL.nil (W.exit rfl (W.region (WL.mv rfl rfl (WL.addK rfl rfl rfl (wrap_i64 ⟨by omega, by omega⟩) (WL.as rfl rfl (WL.nil ?_))))))
      refine W.sub ?_ (next ⟨1, step, es ++ bitsOf (IntKind.u64.wrap x).toNat 64⟩ ⟨by simp only []; omega, ?_, by simp, by simp [bitsOf_len]; omega⟩ (by simp only []; omega))
      · exact ⟨rfl, rfl, rfl, rfl, trivial⟩
      · have e : ts = x :: ts.drop 1 := by simpa using hdrop
        have hg : ts.getD 0 0 = x := by simp [List.getD, hx]
        rw [if_pos rfl] at h2
        show (es ++ bitsOf (IntKind.u64.wrap x).toNat 64) ++ (if (1 : Nat) = 0 then encTs ts else encT (IntKind.u64.wrap (ts.getD 0 0)) step (ts.drop 1)) = ds ++ encTs ts
        rw [if_neg (by decide : ¬ (1 : Nat) = 0), ← h2, h3 rfl, hg]
        conv => rhs; rw [e, encTs]
        simp
    · obtain ⟨y, hy⟩ : ∃ y, ts[i - 1]? = some y := ⟨_, List.getElem?_eq_getElem (by omega)⟩
      have hy1 : (ts.map (Value.int .i64))[i - 1]? = some (.int .i64 y) := by rw [List.getElem?_map, hy]; rfl
      have hg : ts.getD (i - 1) 0 = y := by simp [List.getD, hy]
      rw [if_neg h0, hg] at h2
      have hdb := u64_bnd (IntKind.u64.wrap (IntKind.u64.wrap x - IntKind.u64.wrap y) - step)
      have hwf := whichF_bnd (IntKind.i64.wrap (IntKind.u64.wrap (IntKind.u64.wrap (IntKind.u64.wrap x - IntKind.u64.wrap y) - step)))
      have hdb2 := u64_bnd (IntKind.i64.wrap (IntKind.u64.wrap (IntKind.u64.wrap (IntKind.u64.wrap x - IntKind.u64.wrap y) - step)))
      have huu := u64_i64 (IntKind.u64.wrap (IntKind.u64.wrap (IntKind.u64.wrap x - IntKind.u64.wrap y) - step))
      refine W.skip (W.seq (W.block (W.seq (W.seq (W.region (WL.mv rfl rfl (WL.eql rfl rfl rfl (WL.nil (W.condpF rfl (by omega) (W.skip (W.seq ?_)))))))))))
      refine W.drawA 12 rfl (fun σ0 hσ0 dσ0 => ?_)
      have fσ0_0 := in_at 0 rfl hσ0 dσ0
      refine WD.takeL 0 rfl (by decide +kernel) (WL.mv rfl rfl (WL.nilT (WD.takeL 1 rfl (by decide +kernel) (WL.mv rfl rfl (WL.nilT (WD.takeL 2 rfl (by decide +kernel) ?_))))))
      refine WL.ix (T := Ty) rfl rfl rfl (by assumption) rfl rfl (by omega) (by first | omega | decide +kernel) ?_
      refine WL.nilT (WD.takeL 3 rfl (by decide +kernel) ?_)
      refine WL.ldKn (T := Ty) rfl rfl rfl rfl (by first | assumption | exact ROs.wide (by assumption)) (by assumption) ?_
      refine WL.nilT (WD.takeL 4 rfl (by decide +kernel) (WL.cv (T := Ty) rfl rfl rfl rfl (WL.nilT (WD.takeL 5 rfl (by decide +kernel) (WL.mv rfl rfl (WL.nilT (WD.takeL 6 rfl (by decide +kernel) (WL.mv rfl rfl (WL.nilT (WD.takeL 7 rfl (by decide +kernel) (WL.subK rfl rfl rfl (wrap_i64 ⟨by omega, by omega⟩) (WL.nilT (WD.takeL 8 rfl (by decide +kernel) ?_)))))))))))))
      refine WL.ix (T := Ty) rfl rfl rfl (by assumption) rfl rfl (by omega) (by first | omega | decide +kernel) ?_
      refine WL.nilT (WD.takeL 9 rfl (by decide +kernel) ?_)
      refine WL.ldK (T := Ty) rfl rfl rfl rfl (by first | assumption | exact ROs.wide (by assumption)) (by assumption) (by omega) ?_
      refine WL.nilT (WD.takeL 10 rfl (by decide +kernel) (WL.cv (T := Ty) rfl rfl rfl rfl (WL.nilT (WD.takeL 11 rfl (by decide +kernel) (WL.sub' (K := .u64) rfl rfl rfl (WL.nilT ?_))))))
      refine WD.lastG hσ0 (by decide +kernel) (by repeat' constructor) rfl (by repeat' constructor) ?_
      refine WL.as rfl rfl (WL.nil (W.seq (W.region (WL.mv rfl rfl (WL.mv rfl rfl (WL.sub' (K := .u64) rfl rfl rfl (WL.cv (T := Ty) rfl rfl rfl rfl (WL.as rfl rfl (WL.nil (W.seq (W.region (WL.mv rfl rfl (WL.as rfl rfl ?_)))))))))))))
      refine WL.nil (W.seq (W.region (WL.mv rfl rfl ?_)))
      refine WL.callV rfl rfl (fun x p d => kind_c _ _) ?_
      refine WL.mv rfl rfl (WL.extL rfl rfl rfl (WL.extL rfl rfl rfl (WL.extL rfl rfl rfl (WL.as rfl rfl (WL.as rfl rfl (WL.as rfl rfl (WL.nil (W.seq (W.region (WL.mv rfl rfl (WL.mv rfl rfl (WL.mv rfl rfl ?_))))))))))))
      refine WL.callM 0 rfl rfl rfl (fun x p d => rwput_c _ _ _ _ _ (by omega) (by first | assumption | omega | (simp only [List.length_append, bitsOf_len, List.length_nil, heldF]; omega))) (by repeat' constructor) ?_
      refine WL.nil (W.region (WL.mv rfl rfl (WL.mv rfl rfl (WL.cv (T := Ty) rfl rfl rfl rfl (WL.mv rfl rfl ?_)))))
      refine WL.callM 0 rfl rfl rfl (fun x p d => rwput_ci _ _ _ _ _ (by omega) (by omega) (by first | assumption | omega | (simp only [List.length_append, bitsOf_len, List.length_nil, heldF]; omega))) (by repeat' constructor) ?_
      refine WL.nil (W.inBlock (W.region (WL.mv rfl rfl (WL.addK rfl rfl rfl (wrap_i64 ⟨by omega, by omega⟩) (WL.as rfl rfl (WL.nil ?_))))))
      rw [heldF_nat _ (by omega), heldF_nat _ hwf.2.2, huu, u64_u64]
      have hgx : ts.getD i 0 = x := by simp [List.getD, hx]
      obtain ⟨d, hd⟩ : ∃ d, d = IntKind.u64.wrap (IntKind.u64.wrap (IntKind.u64.wrap x - IntKind.u64.wrap y) - step) := ⟨_, rfl⟩
      rw [← hd]
      have hdl := dBits_len d
      refine W.sub ?_ (W.hs (fun h p => ?_) (next ⟨i + 1, IntKind.u64.wrap (IntKind.u64.wrap x - IntKind.u64.wrap y), es ++ dBits d⟩ ⟨by simp only []; omega, ?_, by simp, by simp; omega⟩ (by simp only []; omega)))
      · exact ⟨rfl, rfl, rfl, rfl, trivial⟩
      · unfold dBits
        rw [← List.append_assoc]
        exact p
      · show (es ++ dBits d) ++ (if i + 1 = 0 then encTs ts else encT (IntKind.u64.wrap (ts.getD i 0)) (IntKind.u64.wrap (IntKind.u64.wrap x - IntKind.u64.wrap y)) (ts.drop (i + 1))) = ds ++ encTs ts
        rw [hdrop, encT, ← hd] at h2
        rw [if_neg (by omega : ¬ i + 1 = 0), ← h2, hgx, List.append_assoc]
  · have hie : i = ts.length := by omega
    have e : es = ds ++ encTs ts := by
      rw [← h2, hie, List.drop_of_length_le (Nat.le_refl _)]
      split
      · rename_i hn
        rw [List.eq_nil_of_length_eq_zero hn]; simp [encTs]
      · simp [encT]
    refine W.exit rfl ?_
    refine W.stop0 rfl (fun h p => ⟨rfl, ?_⟩)
    rw [← e]
    exact sepl_one.1 p
theorem ret_form (d : Int) (n : Nat) : Value.tuple #[.int .i64 d, .bool (decide (((whichF d).2.2 : Int) = (n : Int)))] = .tuple #[.int .i64 d, .bool (decide ((whichF d).2.2 = n))] := by
  congr 4
  exact congrArg Value.bool (decide_eq_decide.2 (by omega))
theorem rdiff_c (ρ : Hp) (b : Nat) (v : Value) (bs : List Nat) (s : RdSt) {d : Int} {ok : Bool} {s' : RdSt} (hv : ROs ρ 1 v (bs.map bcell)) (e : nextF bs s = (d, ok, s')) (hs : s.at' ≤ 8 * bs.length) (hl : bs.length ≤ 140737488355328) (hw : ∀ x ∈ bs, x < 256) :
    Fn Tryz.prog 68 #[ptr b] ρ [RRe b v s] (fun r h => r = .tuple #[.int .i64 d, .bool ok] ∧ RRe b v s' h) := by
  refine in68 rfl rfl ?_
  have sv := hv.slm
  obtain ⟨o, s1, ho⟩ : ∃ o s1, onesF bs 4 0 s = (o, s1) := ⟨_, _, rfl⟩
  have hat := onesF_at bs 4 0 s hs
  rw [ho] at hat
  obtain ⟨u, s2, hu⟩ : ∃ u s2, getF bs s1 (sizeT o : Int) = (u, s2) := ⟨_, _, rfl⟩
  have hne := nextF_of ho hu
  rw [hne] at e
  obtain ⟨hat1, ho4⟩ := hat
  simp only [] at hat1 ho4
  have e1 := congrArg Prod.fst e
  have e2 := congrArg (fun q => q.2.1) e
  have e3 := congrArg (fun q => q.2.2) e
  simp only [] at e1 e2 e3
  subst e3
  refine W.seq (W.region (WL.as rfl rfl (WL.as rfl rfl (WL.nil (W.seq (W.region (WL.as rfl rfl (WL.nil (W.seq (W.block ?_))))))))))
  refine W.cut2 (τ := Unit) (fun _ => [(0, ptr b), (4, .int .i64 (o : Int))]) (fun _ => [RRe b v s1]) (fun _ => True) ?_ (fun cut => ?_)
  · intro _ _
    rcases (by omega : o = 0 ∨ o = 1 ∨ o = 2 ∨ o = 3 ∨ o = 4) with rfl | rfl | rfl | rfl | rfl
    · have hu' : getF bs s1 0 = (u, s2) := hu
      have hlt := getF_lt bs s1 0
      rw [hu'] at hlt
      have hu0 : u = 0 := by
        have : u < 2 ^ heldF 0 := hlt
        rw [show heldF 0 = 0 from rfl, Nat.pow_zero] at this
        omega
      subst hu0
      have hX : ((0 : Nat) : Int) = sext 0 0 := rfl
      refine W.seq (W.region ?_)
      refine WL.bdAC (T := Ty) rfl rfl rfl rfl (by repeat' first | exact CO.nil | apply CO.one (by first | rfl | exact SL.one (by assumption)) | apply CO.agg) rfl (by repeat' constructor) ?_
      refine WL.alF (T := Ty) rfl rfl (by repeat' constructor) (fun b0 => ?_)
      refine WL.stAO (T := Ty) (j := 0) rfl rfl rfl rfl (by repeat' first | exact AO.nil | apply AO.cons (by first | rfl | exact SL.one (by assumption))) rfl rfl (by repeat' constructor) (by repeat' constructor) ?_
      refine WL.nil (W.seq (W.region (WL.mv rfl rfl (WL.ixX (T := Ty) (o' := 0) rfl rfl rfl rfl rfl (by omega) (by omega) rfl (WL.ldN (T := Ty) (j := 0) rfl rfl rfl rfl rfl rfl (WL.as rfl rfl (WL.nil (W.seq (W.region (WL.mv rfl rfl (WL.mv rfl rfl ?_)))))))))))
      refine WL.callM 1 rfl rfl rfl (fun x p d => rget1_e _ _ _ _ _ _ (by assumption) (by first | assumption | exact ROs.wide (by assumption) | exact ROs.mono (by assumption) (eqh_at 0 rfl p d) | exact ros_at 0 rfl p d | exact ros_at 1 rfl p d | exact ros_at 2 rfl p d | exact ros_at 3 rfl p d | exact ros_at 4 rfl p d) (by first | exact Nat.zero_le _ | assumption) (by first | assumption | omega) (by assumption)) (by repeat' constructor) ?_
      refine WL.as rfl rfl (WL.nil (W.seq (W.region (WL.mv rfl rfl (WL.cvK (T := Ty) rfl rfl rfl rfl (wrap_i64 ⟨by omega, by omega⟩) (WL.as rfl rfl (WL.nil (W.seq (W.seq (W.region (WL.mv rfl rfl (WL.gtr rfl rfl rfl (WL.mv rfl rfl ?_)))))))))))))
      refine WL.gdN rfl rfl rfl rfl rfl rfl (WL.gdN rfl rfl rfl rfl rfl rfl (WL.pickF rfl rfl rfl (WL.mv rfl rfl (WL.gdN rfl rfl rfl rfl rfl rfl (WL.gdN rfl rfl rfl rfl rfl rfl (WL.gdN rfl rfl rfl rfl rfl rfl (WL.gdN rfl rfl rfl rfl rfl rfl (WL.gdN rfl rfl rfl rfl rfl rfl (WL.gdN rfl rfl rfl rfl rfl rfl (WL.pickF rfl rfl rfl (WL.nil (W.condF rfl (W.skip ?_)))))))))))))
      refine W.seq (W.region (WL.mv rfl rfl ?_))
      refine WL.callV rfl rfl (fun x p d => kind_c _ _) ?_
      refine WL.mv rfl rfl (WL.extL rfl rfl rfl (WL.extL rfl rfl rfl (WL.extL rfl rfl rfl (WL.as rfl rfl (WL.as rfl rfl (WL.as rfl rfl (WL.nil (W.seq (W.region (WL.mv rfl rfl (WL.mv rfl rfl (WL.mv rfl rfl (WL.eql rfl rfl rfl ?_)))))))))))))
      refine WL.as rfl rfl (WL.as rfl rfl (WL.nil ?_))
      refine W.drop 0 rfl (by repeat' constructor) ?_
      refine W.ret2 rfl rfl rfl (fun h p => ⟨?_, sepl_one.1 p⟩)
      rw [hX, ← e1, ← e2]
      exact ret_form _ _
    · have hu' : getF bs s1 7 = (u, s2) := hu
      have hlt := getF_lt bs s1 7
      rw [hu'] at hlt
      have hlt' : u < 128 := hlt
      have hI : IntKind.i64.wrap (u : Int) = (u : Int) := by rw [i64_of_u64 _ (by omega) (by omega), if_pos (by omega)]
      have eq1 : (u : Int) / 2 ^ min ((7 - 1 : Int)).toNat IntKind.u64.bits = (u : Int) / 64 := by rw [show min ((7 - 1 : Int)).toNat IntKind.u64.bits = 6 by decide]; rfl
      have eq2 : IntKind.i64.wrap (1 * 2 ^ min ((7 : Int)).toNat IntKind.i64.bits) = 128 := by decide
      refine W.seq (W.region ?_)
      refine WL.bdAC (T := Ty) rfl rfl rfl rfl (by repeat' first | exact CO.nil | apply CO.one (by first | rfl | exact SL.one (by assumption)) | apply CO.agg) rfl (by repeat' constructor) ?_
      refine WL.alF (T := Ty) rfl rfl (by repeat' constructor) (fun b0 => ?_)
      refine WL.stAO (T := Ty) (j := 0) rfl rfl rfl rfl (by repeat' first | exact AO.nil | apply AO.cons (by first | rfl | exact SL.one (by assumption))) rfl rfl (by repeat' constructor) (by repeat' constructor) ?_
      refine WL.nil (W.seq (W.region (WL.mv rfl rfl (WL.ixX (T := Ty) (o' := 1) rfl rfl rfl rfl rfl (by omega) (by omega) rfl (WL.ldN (T := Ty) (j := 0) rfl rfl rfl rfl rfl rfl (WL.as rfl rfl (WL.nil (W.seq (W.region (WL.mv rfl rfl (WL.mv rfl rfl ?_)))))))))))
      refine WL.callM 1 rfl rfl rfl (fun x p d => rget1_e _ _ _ _ _ _ (by assumption) (by first | assumption | exact ROs.wide (by assumption) | exact ROs.mono (by assumption) (eqh_at 0 rfl p d) | exact ros_at 0 rfl p d | exact ros_at 1 rfl p d | exact ros_at 2 rfl p d | exact ros_at 3 rfl p d | exact ros_at 4 rfl p d) (by first | exact Nat.zero_le _ | assumption) (by first | assumption | omega) (by assumption)) (by repeat' constructor) ?_
      refine WL.as rfl rfl (WL.nil (W.seq (W.region (WL.mv rfl rfl (WL.cvK (T := Ty) rfl rfl rfl rfl (wrap_i64 ⟨by omega, by omega⟩) (WL.as rfl rfl (WL.nil (W.seq (W.seq (W.region (WL.mv rfl rfl (WL.gtr rfl rfl rfl (WL.mv rfl rfl ?_)))))))))))))
      refine WL.gY rfl rfl (WL.mv rfl rfl (WL.gY rfl rfl (WL.lss rfl rfl rfl (WL.pickT rfl rfl rfl (WL.mv rfl rfl (WL.gY rfl rfl (WL.mv rfl rfl (WL.gY rfl rfl (WL.mv rfl rfl (WL.gY rfl rfl (WL.subK rfl rfl rfl (wrap_i64 ⟨by omega, by omega⟩) (WL.gY rfl rfl (WL.cvK (T := Ty) rfl rfl rfl rfl (wrap_u64 ⟨by omega, by omega⟩) ?_)))))))))))))
      refine WL.gY rfl rfl (WL.shrS rfl rfl rfl (by omega) rfl (WL.gY rfl rfl (WL.eql rfl rfl rfl (WL.pickT rfl rfl rfl (WL.nil ?_)))))
      rw [eq1]
      by_cases h : u < 64
      · have hX : (u : Int) = sext 7 u := by unfold sext; rw [if_neg (by decide), if_pos (by exact h)]
        refine W.condpF rfl (by omega) (W.skip (W.seq (W.region (WL.mv rfl rfl ?_))))
        refine WL.callV rfl rfl (fun x p d => kind_c _ _) ?_
        refine WL.mv rfl rfl (WL.extL rfl rfl rfl (WL.extL rfl rfl rfl (WL.extL rfl rfl rfl (WL.as rfl rfl (WL.as rfl rfl (WL.as rfl rfl (WL.nil (W.seq (W.region (WL.mv rfl rfl (WL.mv rfl rfl (WL.mv rfl rfl (WL.eql rfl rfl rfl ?_)))))))))))))
        refine WL.as rfl rfl (WL.as rfl rfl (WL.nil ?_))
        refine W.drop 0 rfl (by repeat' constructor) ?_
        refine W.ret2 rfl rfl rfl (fun h p => ⟨?_, sepl_one.1 p⟩)
        rw [hX, ← e1, ← e2]
        exact ret_form _ _
      · have hX : (u : Int) - 128 = sext 7 u := by unfold sext; rw [if_neg (by decide), if_neg (by exact h)]; rfl
        refine W.condpT rfl (by omega) (W.region (WL.mv rfl rfl (WL.cvK (T := Ty) rfl rfl rfl rfl (wrap_i64 ⟨by omega, by omega⟩) (WL.mv rfl rfl (WL.cvK (T := Ty) rfl rfl rfl rfl (wrap_u64 ⟨by omega, by omega⟩) (WL.shlS rfl rfl rfl (by omega) rfl rfl (WL.subK rfl rfl rfl (wrap_i64 ⟨by omega, by omega⟩) (WL.as rfl rfl (WL.nil (W.seq (W.region (WL.mv rfl rfl ?_))))))))))))
        refine WL.callV rfl rfl (fun x p d => kind_c _ _) ?_
        refine WL.mv rfl rfl (WL.extL rfl rfl rfl (WL.extL rfl rfl rfl (WL.extL rfl rfl rfl (WL.as rfl rfl (WL.as rfl rfl (WL.as rfl rfl (WL.nil (W.seq (W.region (WL.mv rfl rfl (WL.mv rfl rfl (WL.mv rfl rfl (WL.eql rfl rfl rfl ?_)))))))))))))
        refine WL.as rfl rfl (WL.as rfl rfl (WL.nil ?_))
        rw [eq2]
        skip
        refine W.drop 0 rfl (by repeat' constructor) ?_
        refine W.ret2 rfl rfl rfl (fun h p => ⟨?_, sepl_one.1 p⟩)
        rw [hX, ← e1, ← e2]
        exact ret_form _ _
    · have hu' : getF bs s1 9 = (u, s2) := hu
      have hlt := getF_lt bs s1 9
      rw [hu'] at hlt
      have hlt' : u < 512 := hlt
      have hI : IntKind.i64.wrap (u : Int) = (u : Int) := by rw [i64_of_u64 _ (by omega) (by omega), if_pos (by omega)]
      have eq1 : (u : Int) / 2 ^ min ((9 - 1 : Int)).toNat IntKind.u64.bits = (u : Int) / 256 := by rw [show min ((9 - 1 : Int)).toNat IntKind.u64.bits = 8 by decide]; rfl
      have eq2 : IntKind.i64.wrap (1 * 2 ^ min ((9 : Int)).toNat IntKind.i64.bits) = 512 := by decide
      refine W.seq (W.region ?_)
      refine WL.bdAC (T := Ty) rfl rfl rfl rfl (by repeat' first | exact CO.nil | apply CO.one (by first | rfl | exact SL.one (by assumption)) | apply CO.agg) rfl (by repeat' constructor) ?_
      refine WL.alF (T := Ty) rfl rfl (by repeat' constructor) (fun b0 => ?_)
      refine WL.stAO (T := Ty) (j := 0) rfl rfl rfl rfl (by repeat' first | exact AO.nil | apply AO.cons (by first | rfl | exact SL.one (by assumption))) rfl rfl (by repeat' constructor) (by repeat' constructor) ?_
      refine WL.nil (W.seq (W.region (WL.mv rfl rfl (WL.ixX (T := Ty) (o' := 2) rfl rfl rfl rfl rfl (by omega) (by omega) rfl (WL.ldN (T := Ty) (j := 0) rfl rfl rfl rfl rfl rfl (WL.as rfl rfl (WL.nil (W.seq (W.region (WL.mv rfl rfl (WL.mv rfl rfl ?_)))))))))))
      refine WL.callM 1 rfl rfl rfl (fun x p d => rget1_e _ _ _ _ _ _ (by assumption) (by first | assumption | exact ROs.wide (by assumption) | exact ROs.mono (by assumption) (eqh_at 0 rfl p d) | exact ros_at 0 rfl p d | exact ros_at 1 rfl p d | exact ros_at 2 rfl p d | exact ros_at 3 rfl p d | exact ros_at 4 rfl p d) (by first | exact Nat.zero_le _ | assumption) (by first | assumption | omega) (by assumption)) (by repeat' constructor) ?_
      refine WL.as rfl rfl (WL.nil (W.seq (W.region (WL.mv rfl rfl (WL.cvK (T := Ty) rfl rfl rfl rfl (wrap_i64 ⟨by omega, by omega⟩) (WL.as rfl rfl (WL.nil (W.seq (W.seq (W.region (WL.mv rfl rfl (WL.gtr rfl rfl rfl (WL.mv rfl rfl ?_)))))))))))))
      refine WL.gY rfl rfl (WL.mv rfl rfl (WL.gY rfl rfl (WL.lss rfl rfl rfl (WL.pickT rfl rfl rfl (WL.mv rfl rfl (WL.gY rfl rfl (WL.mv rfl rfl (WL.gY rfl rfl (WL.mv rfl rfl (WL.gY rfl rfl (WL.subK rfl rfl rfl (wrap_i64 ⟨by omega, by omega⟩) (WL.gY rfl rfl (WL.cvK (T := Ty) rfl rfl rfl rfl (wrap_u64 ⟨by omega, by omega⟩) ?_)))))))))))))
      refine WL.gY rfl rfl (WL.shrS rfl rfl rfl (by omega) rfl (WL.gY rfl rfl (WL.eql rfl rfl rfl (WL.pickT rfl rfl rfl (WL.nil ?_)))))
      rw [eq1]
      by_cases h : u < 256
      · have hX : (u : Int) = sext 9 u := by unfold sext; rw [if_neg (by decide), if_pos (by exact h)]
        refine W.condpF rfl (by omega) (W.skip (W.seq (W.region (WL.mv rfl rfl ?_))))
        refine WL.callV rfl rfl (fun x p d => kind_c _ _) ?_
        refine WL.mv rfl rfl (WL.extL rfl rfl rfl (WL.extL rfl rfl rfl (WL.extL rfl rfl rfl (WL.as rfl rfl (WL.as rfl rfl (WL.as rfl rfl (WL.nil (W.seq (W.region (WL.mv rfl rfl (WL.mv rfl rfl (WL.mv rfl rfl (WL.eql rfl rfl rfl ?_)))))))))))))
        refine WL.as rfl rfl (WL.as rfl rfl (WL.nil ?_))
        refine W.drop 0 rfl (by repeat' constructor) ?_
        refine W.ret2 rfl rfl rfl (fun h p => ⟨?_, sepl_one.1 p⟩)
        rw [hX, ← e1, ← e2]
        exact ret_form _ _
      · have hX : (u : Int) - 512 = sext 9 u := by unfold sext; rw [if_neg (by decide), if_neg (by exact h)]; rfl
        refine W.condpT rfl (by omega) (W.region (WL.mv rfl rfl (WL.cvK (T := Ty) rfl rfl rfl rfl (wrap_i64 ⟨by omega, by omega⟩) (WL.mv rfl rfl (WL.cvK (T := Ty) rfl rfl rfl rfl (wrap_u64 ⟨by omega, by omega⟩) (WL.shlS rfl rfl rfl (by omega) rfl rfl (WL.subK rfl rfl rfl (wrap_i64 ⟨by omega, by omega⟩) (WL.as rfl rfl (WL.nil (W.seq (W.region (WL.mv rfl rfl ?_))))))))))))
        refine WL.callV rfl rfl (fun x p d => kind_c _ _) ?_
        refine WL.mv rfl rfl (WL.extL rfl rfl rfl (WL.extL rfl rfl rfl (WL.extL rfl rfl rfl (WL.as rfl rfl (WL.as rfl rfl (WL.as rfl rfl (WL.nil (W.seq (W.region (WL.mv rfl rfl (WL.mv rfl rfl (WL.mv rfl rfl (WL.eql rfl rfl rfl ?_)))))))))))))
        refine WL.as rfl rfl (WL.as rfl rfl (WL.nil ?_))
        rw [eq2]
        skip
        refine W.drop 0 rfl (by repeat' constructor) ?_
        refine W.ret2 rfl rfl rfl (fun h p => ⟨?_, sepl_one.1 p⟩)
        rw [hX, ← e1, ← e2]
        exact ret_form _ _
    · have hu' : getF bs s1 12 = (u, s2) := hu
      have hlt := getF_lt bs s1 12
      rw [hu'] at hlt
      have hlt' : u < 4096 := hlt
      have hI : IntKind.i64.wrap (u : Int) = (u : Int) := by rw [i64_of_u64 _ (by omega) (by omega), if_pos (by omega)]
      have eq1 : (u : Int) / 2 ^ min ((12 - 1 : Int)).toNat IntKind.u64.bits = (u : Int) / 2048 := by rw [show min ((12 - 1 : Int)).toNat IntKind.u64.bits = 11 by decide]; rfl
      have eq2 : IntKind.i64.wrap (1 * 2 ^ min ((12 : Int)).toNat IntKind.i64.bits) = 4096 := by decide
      refine W.seq (W.region ?_)
      refine WL.bdAC (T := Ty) rfl rfl rfl rfl (by repeat' first | exact CO.nil | apply CO.one (by first | rfl | exact SL.one (by assumption)) | apply CO.agg) rfl (by repeat' constructor) ?_
      refine WL.alF (T := Ty) rfl rfl (by repeat' constructor) (fun b0 => ?_)
      refine WL.stAO (T := Ty) (j := 0) rfl rfl rfl rfl (by repeat' first | exact AO.nil | apply AO.cons (by first | rfl | exact SL.one (by assumption))) rfl rfl (by repeat' constructor) (by repeat' constructor) ?_
      refine WL.nil (W.seq (W.region (WL.mv rfl rfl (WL.ixX (T := Ty) (o' := 3) rfl rfl rfl rfl rfl (by omega) (by omega) rfl (WL.ldN (T := Ty) (j := 0) rfl rfl rfl rfl rfl rfl (WL.as rfl rfl (WL.nil (W.seq (W.region (WL.mv rfl rfl (WL.mv rfl rfl ?_)))))))))))
      refine WL.callM 1 rfl rfl rfl (fun x p d => rget1_e _ _ _ _ _ _ (by assumption) (by first | assumption | exact ROs.wide (by assumption) | exact ROs.mono (by assumption) (eqh_at 0 rfl p d) | exact ros_at 0 rfl p d | exact ros_at 1 rfl p d | exact ros_at 2 rfl p d | exact ros_at 3 rfl p d | exact ros_at 4 rfl p d) (by first | exact Nat.zero_le _ | assumption) (by first | assumption | omega) (by assumption)) (by repeat' constructor) ?_
      refine WL.as rfl rfl (WL.nil (W.seq (W.region (WL.mv rfl rfl (WL.cvK (T := Ty) rfl rfl rfl rfl (wrap_i64 ⟨by omega, by omega⟩) (WL.as rfl rfl (WL.nil (W.seq (W.seq (W.region (WL.mv rfl rfl (WL.gtr rfl rfl rfl (WL.mv rfl rfl ?_)))))))))))))
      refine WL.gY rfl rfl (WL.mv rfl rfl (WL.gY rfl rfl (WL.lss rfl rfl rfl (WL.pickT rfl rfl rfl (WL.mv rfl rfl (WL.gY rfl rfl (WL.mv rfl rfl (WL.gY rfl rfl (WL.mv rfl rfl (WL.gY rfl rfl (WL.subK rfl rfl rfl (wrap_i64 ⟨by omega, by omega⟩) (WL.gY rfl rfl (WL.cvK (T := Ty) rfl rfl rfl rfl (wrap_u64 ⟨by omega, by omega⟩) ?_)))))))))))))
      refine WL.gY rfl rfl (WL.shrS rfl rfl rfl (by omega) rfl (WL.gY rfl rfl (WL.eql rfl rfl rfl (WL.pickT rfl rfl rfl (WL.nil ?_)))))
      rw [eq1]
      by_cases h : u < 2048
      · have hX : (u : Int) = sext 12 u := by unfold sext; rw [if_neg (by decide), if_pos (by exact h)]
        refine W.condpF rfl (by omega) (W.skip (W.seq (W.region (WL.mv rfl rfl ?_))))
        refine WL.callV rfl rfl (fun x p d => kind_c _ _) ?_
        refine WL.mv rfl rfl (WL.extL rfl rfl rfl (WL.extL rfl rfl rfl (WL.extL rfl rfl rfl (WL.as rfl rfl (WL.as rfl rfl (WL.as rfl rfl (WL.nil (W.seq (W.region (WL.mv rfl rfl (WL.mv rfl rfl (WL.mv rfl rfl (WL.eql rfl rfl rfl ?_)))))))))))))
        refine WL.as rfl rfl (WL.as rfl rfl (WL.nil ?_))
        refine W.drop 0 rfl (by repeat' constructor) ?_
        refine W.ret2 rfl rfl rfl (fun h p => ⟨?_, sepl_one.1 p⟩)
        rw [hX, ← e1, ← e2]
        exact ret_form _ _
      · have hX : (u : Int) - 4096 = sext 12 u := by unfold sext; rw [if_neg (by decide), if_neg (by exact h)]; rfl
        refine W.condpT rfl (by omega) (W.region (WL.mv rfl rfl (WL.cvK (T := Ty) rfl rfl rfl rfl (wrap_i64 ⟨by omega, by omega⟩) (WL.mv rfl rfl (WL.cvK (T := Ty) rfl rfl rfl rfl (wrap_u64 ⟨by omega, by omega⟩) (WL.shlS rfl rfl rfl (by omega) rfl rfl (WL.subK rfl rfl rfl (wrap_i64 ⟨by omega, by omega⟩) (WL.as rfl rfl (WL.nil (W.seq (W.region (WL.mv rfl rfl ?_))))))))))))
        refine WL.callV rfl rfl (fun x p d => kind_c _ _) ?_
        refine WL.mv rfl rfl (WL.extL rfl rfl rfl (WL.extL rfl rfl rfl (WL.extL rfl rfl rfl (WL.as rfl rfl (WL.as rfl rfl (WL.as rfl rfl (WL.nil (W.seq (W.region (WL.mv rfl rfl (WL.mv rfl rfl (WL.mv rfl rfl (WL.eql rfl rfl rfl ?_)))))))))))))
        refine WL.as rfl rfl (WL.as rfl rfl (WL.nil ?_))
        rw [eq2]
        skip
        refine W.drop 0 rfl (by repeat' constructor) ?_
        refine W.ret2 rfl rfl rfl (fun h p => ⟨?_, sepl_one.1 p⟩)
        rw [hX, ← e1, ← e2]
        exact ret_form _ _
    · have hu' : getF bs s1 64 = (u, s2) := hu
      have hlt := getF_lt bs s1 64
      rw [hu'] at hlt
      have hlt' : u < 18446744073709551616 := hlt
      have hX : IntKind.i64.wrap (u : Int) = sext 64 u := by
        rw [i64_of_u64 _ (by omega) (by omega)]
        unfold sext
        simp only [show (2 : Nat) ^ (64 - 1) = 9223372036854775808 from rfl, show (2 : Int) ^ 64 = 18446744073709551616 from rfl]
        (repeat' split) <;> omega
      refine W.seq (W.region ?_)
      refine WL.bdAC (T := Ty) rfl rfl rfl rfl (by repeat' first | exact CO.nil | apply CO.one (by first | rfl | exact SL.one (by assumption)) | apply CO.agg) rfl (by repeat' constructor) ?_
      refine WL.alF (T := Ty) rfl rfl (by repeat' constructor) (fun b0 => ?_)
      refine WL.stAO (T := Ty) (j := 0) rfl rfl rfl rfl (by repeat' first | exact AO.nil | apply AO.cons (by first | rfl | exact SL.one (by assumption))) rfl rfl (by repeat' constructor) (by repeat' constructor) ?_
      refine WL.nil (W.seq (W.region (WL.mv rfl rfl (WL.ixX (T := Ty) (o' := 4) rfl rfl rfl rfl rfl (by omega) (by omega) rfl (WL.ldN (T := Ty) (j := 0) rfl rfl rfl rfl rfl rfl (WL.as rfl rfl (WL.nil (W.seq (W.region (WL.mv rfl rfl (WL.mv rfl rfl ?_)))))))))))
      refine WL.callM 1 rfl rfl rfl (fun x p d => rget1_e _ _ _ _ _ _ (by assumption) (by first | assumption | exact ROs.wide (by assumption) | exact ROs.mono (by assumption) (eqh_at 0 rfl p d) | exact ros_at 0 rfl p d | exact ros_at 1 rfl p d | exact ros_at 2 rfl p d | exact ros_at 3 rfl p d | exact ros_at 4 rfl p d) (by first | exact Nat.zero_le _ | assumption) (by first | assumption | omega) (by assumption)) (by repeat' constructor) ?_
      refine WL.as rfl rfl (WL.nil (W.seq (W.region (WL.mv rfl rfl (WL.cv (T := Ty) rfl rfl rfl rfl (WL.as rfl rfl (WL.nil (W.seq (W.seq (W.region (WL.mv rfl rfl (WL.gtr rfl rfl rfl (WL.mv rfl rfl ?_)))))))))))))
      refine WL.gY rfl rfl (WL.mv rfl rfl (WL.gY rfl rfl (WL.lss rfl rfl rfl (WL.pickT rfl rfl rfl (WL.mv rfl rfl (WL.gdN rfl rfl rfl rfl rfl rfl (WL.gdN rfl rfl rfl rfl rfl rfl (WL.gdN rfl rfl rfl rfl rfl rfl (WL.gdN rfl rfl rfl rfl rfl rfl (WL.gdN rfl rfl rfl rfl rfl rfl (WL.gdN rfl rfl rfl rfl rfl rfl (WL.pickF rfl rfl rfl (WL.nil ?_)))))))))))))
      refine W.condF rfl (W.skip (W.seq (W.region (WL.mv rfl rfl ?_))))
      refine WL.callV rfl rfl (fun x p d => kind_c _ _) ?_
      refine WL.mv rfl rfl (WL.extL rfl rfl rfl (WL.extL rfl rfl rfl (WL.extL rfl rfl rfl (WL.as rfl rfl (WL.as rfl rfl (WL.as rfl rfl (WL.nil (W.seq (W.region (WL.mv rfl rfl (WL.mv rfl rfl (WL.mv rfl rfl (WL.eql rfl rfl rfl ?_)))))))))))))
      refine WL.as rfl rfl (WL.as rfl rfl (WL.nil ?_))
      refine W.drop 0 rfl (by repeat' constructor) ?_
      refine W.ret2 rfl rfl rfl (fun h p => ⟨?_, sepl_one.1 p⟩)
      rw [hX, ← e1, ← e2]
      exact ret_form _ _
  refine W.loopS (σ := Nat × RdSt) (fun q => [(0, ptr b), (4, .int .i64 (q.1 : Int))]) (fun q => [RRe b v q.2])
    (fun q => q.1 ≤ 4 ∧ onesF bs (4 - q.1) q.1 q.2 = (o, s1) ∧ q.2.at' ≤ 8 * bs.length) (fun q => 4 - q.1) (0, s) ⟨rfl, rfl, trivial⟩ rfl ⟨Nat.zero_le _, ho, hs⟩ ?_
  rintro ⟨n, q⟩ ⟨h1, h2, h3⟩ next
  simp only [] at h1 h2 h3 next ⊢
  by_cases hn : n < 4
  · obtain ⟨g, q', hg⟩ : ∃ g q', getF bs q 1 = (g, q') := ⟨_, _, rfl⟩
    have hat := getF_at bs q 1 h3
    rw [hg] at hat
    rw [show 4 - n = (4 - (n + 1)) + 1 by omega, onesF, hg] at h2
    by_cases hg1 : g = 1
    · rw [if_pos hg1] at h2
      refine W.seq (W.seq (W.region (WL.mv rfl rfl (WL.lss rfl rfl rfl (WL.mv rfl rfl (WL.gT rfl rfl (by omega) (WL.mv rfl rfl (WL.gT rfl rfl (by omega) ?_))))))))
      refine WL.callM 0 rfl rfl rfl (fun x p d => rget1_e _ _ _ _ _ _ (by assumption) (by first | assumption | exact ROs.wide (by assumption) | exact ROs.mono (by assumption) (eqh_at 0 rfl p d) | exact ros_at 0 rfl p d | exact ros_at 1 rfl p d | exact ros_at 2 rfl p d | exact ros_at 3 rfl p d | exact ros_at 4 rfl p d) (by first | exact Nat.zero_le _ | assumption) (by first | assumption | omega) (by assumption)) (by repeat' constructor) ?_
      refine WL.gT rfl rfl (by omega) (WL.eql rfl rfl rfl (WL.pickTp rfl rfl (by omega) rfl (WL.nil (W.condpT rfl (by omega) (W.skip (W.block (W.region (WL.mv rfl rfl (WL.addK rfl rfl rfl (wrap_i64 ⟨by omega, by omega⟩) (WL.as rfl rfl (WL.nil (W.inBlock ?_))))))))))))
      refine W.sub ?_ (next ⟨n + 1, q'⟩ ⟨by simp only []; omega, h2, hat⟩ (by simp only []; omega))
      exact ⟨rfl, rfl, trivial⟩
    · rw [if_neg hg1] at h2
      have f1 := congrArg Prod.fst h2
      have f2 := congrArg Prod.snd h2
      simp only [] at f1 f2
      subst f1
      subst f2
      refine W.seq (W.seq (W.region (WL.mv rfl rfl (WL.lss rfl rfl rfl (WL.mv rfl rfl (WL.gT rfl rfl (by omega) (WL.mv rfl rfl (WL.gT rfl rfl (by omega) ?_))))))))
      refine WL.callM 0 rfl rfl rfl (fun x p d => rget1_e _ _ _ _ _ _ (by assumption) (by first | assumption | exact ROs.wide (by assumption) | exact ROs.mono (by assumption) (eqh_at 0 rfl p d) | exact ros_at 0 rfl p d | exact ros_at 1 rfl p d | exact ros_at 2 rfl p d | exact ros_at 3 rfl p d | exact ros_at 4 rfl p d) (by first | exact Nat.zero_le _ | assumption) (by first | assumption | omega) (by assumption)) (by repeat' constructor) ?_
      refine WL.gT rfl rfl (by omega) (WL.eql rfl rfl rfl (WL.pickTp rfl rfl (by omega) rfl (WL.nil (W.condpF rfl (by omega) (W.exit rfl ?_)))))
      refine W.sub ?_ (cut () trivial)
      exact ⟨rfl, rfl, trivial⟩
  · have hn4 : n = 4 := by omega
    subst hn4
    have f1 := congrArg Prod.fst h2
    have f2 := congrArg Prod.snd h2
    simp only [Nat.sub_self, onesF] at f1 f2
    subst f2
    subst f1
    refine W.seq (W.seq (W.region (WL.mv rfl rfl (WL.lss rfl rfl rfl (WL.mv rfl rfl (WL.gdN rfl rfl rfl rfl rfl rfl (WL.gdN rfl rfl rfl rfl rfl rfl (WL.gdN rfl rfl rfl rfl rfl rfl (WL.pickF rfl rfl rfl (WL.nil (W.condF rfl (W.exit rfl ?_))))))))))))
    refine W.sub ?_ (cut () trivial)
    exact ⟨rfl, rfl, trivial⟩
theorem rtget_c (ρ : Hp) (b : Nat) (v : Value) (bs : List Nat) (s : RdSt) (n : Int) (hv : ROs ρ 1 v (bs.map bcell)) (hs : s.at' ≤ 8 * bs.length) (hl : bs.length ≤ 140737488355328) (hw : ∀ x ∈ bs, x < 256) :
    Fn Tryz.prog 46 #[ptr b, .int .i64 n] ρ [RRe b v s] (RowT bs (RRe b v) (decTs bs s n)) := by
  refine in46 rfl rfl ?_
  have sv := hv.slm
  have hm := heldT_eq n
  have hml := heldT_le n
  obtain ⟨m, hm'⟩ : ∃ m, m = heldT n := ⟨_, rfl⟩
  rw [← hm'] at hm hml
  refine W.seq (W.region (WL.as rfl rfl (WL.as rfl rfl (WL.nil (W.seq (W.region (WL.mv rfl rfl ?_)))))))
  refine WL.callV rfl rfl (fun x p d => heldm_c _ _) ?_
  refine WL.as rfl rfl (WL.nil (W.seq (W.region (WL.as rfl rfl (WL.nil (W.seq (W.region (WL.as rfl rfl (WL.nil (W.seq (W.seq (W.region (WL.as rfl rfl ?_)))))))))))))
  refine WL.nil (W.block (W.nb (sz := 1) ?_))
  refine W.loopS (σ := Nat × Int × Int × List Int × Value × RdSt) (fun q => [(0, ptr b), (1, .int .i64 (min (max n 0) 65535)), (8, .int .i64 (q.1 : Int)), (7, .int .u64 q.2.2.1), (6, q.2.2.2.2.1)]) (fun q => [Buf 1 q.2.2.2.2.1 (q.2.2.2.1.map (Value.int .i64)), RRe b v q.2.2.2.2.2])
    (fun q => q.1 ≤ m ∧ q.2.2.2.2.2.at' ≤ 8 * bs.length ∧ q.2.2.2.1.length = q.1 ∧ (q.1 = 0 → q.2.2.2.2.2 = s ∧ q.2.2.1 = 0) ∧ (q.1 ≠ 0 → (if q.2.2.2.2.2.bad = true then none else decT bs (m - q.1) q.2.1 q.2.2.1 q.2.2.2.1 q.2.2.2.2.2) = decTs bs s n ∧ IntKind.u64.wrap (q.2.2.2.1.getD (q.1 - 1) 0) = q.2.1)) (fun q => m - q.1) (0, 0, 0, [], .slice none 0 0, s) ⟨rfl, rfl, rfl, rfl, rfl, trivial⟩ rfl ⟨Nat.zero_le _, hs, rfl, fun _ => ⟨rfl, rfl⟩, fun h => absurd rfl h⟩ ?_
  rintro ⟨i, was, step, out, ov, ⟨qa, qb⟩⟩ ⟨h1, h2, h3, h4, h5⟩ next
  simp only [] at h1 h2 h3 h4 h5 next ⊢
  refine W.fact (i := 0) rfl (fun h hb => Buf.slm hb) (fun hso => ?_)
  rcases (by cases qb <;> (by_cases hh : i < m) <;> simp [hh] : (qb = true ∧ i < m) ∨ (qb = true ∧ ¬ i < m) ∨ (qb = false ∧ ¬ i < m) ∨ (qb = false ∧ i < m)) with ⟨hqb, hlt⟩ | ⟨hqb, hlt⟩ | ⟨hqb, hlt⟩ | ⟨hqb, hlt⟩
  · subst hqb
    have hnone : decTs bs s n = none := by
      by_cases hi0 : i = 0
      · obtain ⟨hq, _⟩ := h4 hi0
        obtain ⟨k, hk⟩ : ∃ k, heldT n = k + 1 := ⟨m - 1, by omega⟩
        rw [decTs_succ hk, ← hq, if_pos (by simp [getF])]
      · have := (h5 hi0).1
        rw [if_pos rfl] at this
        exact this.symm
    refine W.seq (W.seq (W.region (WL.mv rfl rfl (WL.mv rfl rfl (WL.lss rfl rfl rfl (WL.mv rfl rfl (WL.gT rfl rfl (by omega) (WL.mv rfl rfl (WL.gT rfl rfl (by omega) (WL.nc rfl rfl (WL.gT rfl rfl (by omega) (WL.faN (T := Ty) (off' := 2) rfl rfl rfl rfl rfl rfl rfl (WL.gT rfl rfl (by omega) ?_)))))))))))))
    refine WL.ldN (T := Ty) (j := 1) rfl rfl rfl rfl rfl rfl (WL.gT rfl rfl (by omega) (WL.not rfl rfl (WL.pickTp rfl rfl (by omega) rfl (WL.nil (W.condF rfl (W.exit rfl (W.seq (W.seq (W.region (WL.mv rfl rfl (WL.nc rfl rfl (WL.faN (T := Ty) (off' := 2) rfl rfl rfl rfl rfl rfl rfl (WL.ldN (T := Ty) (j := 1) rfl rfl rfl rfl rfl rfl ?_)))))))))))))
    refine WL.nil (W.condT rfl (W.seq (W.region (WL.as rfl rfl (WL.as rfl rfl (WL.nil ?_))))))
    refine W.drop 0 rfl (by repeat' constructor) ?_
    refine W.nb (sz := 1) ?_
    exact W.ret2 rfl rfl rfl (fun h p => rowTnone hnone (by assumption) p)
  · subst hqb
    have hnone : decTs bs s n = none := by
      by_cases hi0 : i = 0
      · obtain ⟨hq, _⟩ := h4 hi0
        rw [decTs_zero (by omega), ← hq, if_pos rfl]
      · have := (h5 hi0).1
        rw [if_pos rfl] at this
        exact this.symm
    refine W.seq (W.seq (W.region (WL.mv rfl rfl (WL.mv rfl rfl (WL.lss rfl rfl rfl (WL.mv rfl rfl (WL.gdTn rfl rfl rfl rfl rfl (by omega) (WL.gdTn rfl rfl rfl rfl rfl (by omega) (WL.gdTn rfl rfl rfl rfl rfl (by omega) (WL.gdTn rfl rfl rfl rfl rfl (by omega) (WL.gdTn rfl rfl rfl rfl rfl (by omega) (WL.pickFp rfl rfl (by omega) rfl (WL.nil ?_)))))))))))))
    refine W.condF rfl (W.exit rfl (W.seq (W.seq (W.region (WL.mv rfl rfl (WL.nc rfl rfl (WL.faN (T := Ty) (off' := 2) rfl rfl rfl rfl rfl rfl rfl (WL.ldN (T := Ty) (j := 1) rfl rfl rfl rfl rfl rfl (WL.nil (W.condT rfl (W.seq (W.region (WL.as rfl rfl ?_)))))))))))))
    refine WL.as rfl rfl (WL.nil ?_)
    refine W.drop 0 rfl (by repeat' constructor) ?_
    refine W.nb (sz := 1) ?_
    exact W.ret2 rfl rfl rfl (fun h p => rowTnone hnone (by assumption) p)
  · subst hqb
    have hsome : decTs bs s n = some (out, ⟨qa, false⟩) := by
      by_cases hi0 : i = 0
      · obtain ⟨hq, _⟩ := h4 hi0
        have ho : out = [] := List.eq_nil_of_length_eq_zero (by omega)
        rw [decTs_zero (by omega), ← hq, if_neg (by simp), ho]
      · have := (h5 hi0).1
        rw [if_neg (by simp), show m - i = 0 by omega, decT] at this
        exact this.symm
    refine W.seq (W.seq (W.region (WL.mv rfl rfl (WL.mv rfl rfl (WL.lss rfl rfl rfl (WL.mv rfl rfl (WL.gdTn rfl rfl rfl rfl rfl (by omega) (WL.gdTn rfl rfl rfl rfl rfl (by omega) (WL.gdTn rfl rfl rfl rfl rfl (by omega) (WL.gdTn rfl rfl rfl rfl rfl (by omega) (WL.gdTn rfl rfl rfl rfl rfl (by omega) (WL.pickFp rfl rfl (by omega) rfl (WL.nil ?_)))))))))))))
    refine W.condF rfl (W.exit rfl (W.seq (W.seq (W.region (WL.mv rfl rfl (WL.nc rfl rfl (WL.faN (T := Ty) (off' := 2) rfl rfl rfl rfl rfl rfl rfl (WL.ldN (T := Ty) (j := 1) rfl rfl rfl rfl rfl rfl (WL.nil (W.condF rfl (W.skip (W.seq (W.region ?_)))))))))))))
    refine WL.mv rfl rfl (WL.as rfl rfl (WL.as rfl rfl (WL.nil ?_)))
    exact W.ret2 rfl rfl rfl (fun h p => rowTsome hsome h2 p)
  · subst hqb
    by_cases hi0 : i = 0
    · obtain ⟨hq, hst⟩ := h4 hi0
      have ho : out = [] := List.eq_nil_of_length_eq_zero (by omega)
      subst hi0
      subst hq
      subst hst
      subst ho
      obtain ⟨k, hk⟩ : ∃ k, heldT n = k + 1 := ⟨m - 1, by omega⟩
      have hd := decTs_succ (bs := bs) (s := ⟨qa, false⟩) hk
      obtain ⟨g, ⟨ga, gb⟩, hg⟩ : ∃ g q', getF bs ⟨qa, false⟩ 64 = (g, q') := ⟨_, _, rfl⟩
      have hat := getF_at bs ⟨qa, false⟩ 64 h2
      have hglt := getF_lt bs ⟨qa, false⟩ 64
      rw [hg] at hat hd hglt
      simp only [] at hat hd hglt
      have hg64 : g < 18446744073709551616 := hglt
      have hgl := i64_bnd (g : Int)
      have hgg : IntKind.u64.wrap (IntKind.i64.wrap (g : Int)) = (g : Int) := by rw [u64_i64, u64_mod]; omega
      refine W.seq (W.seq (W.region (WL.mv rfl rfl (WL.mv rfl rfl (WL.lss rfl rfl rfl (WL.mv rfl rfl (WL.gT rfl rfl (by omega) (WL.mv rfl rfl (WL.gT rfl rfl (by omega) (WL.nc rfl rfl (WL.gT rfl rfl (by omega) (WL.faN (T := Ty) (off' := 2) rfl rfl rfl rfl rfl rfl rfl (WL.gT rfl rfl (by omega) ?_)))))))))))))
      refine WL.ldN (T := Ty) (j := 1) rfl rfl rfl rfl rfl rfl (WL.gT rfl rfl (by omega) (WL.not rfl rfl (WL.pickTp rfl rfl (by omega) rfl (WL.nil (W.condT rfl (W.skip (W.seq (W.block (W.seq (W.seq (W.region (WL.mv rfl rfl (WL.eql rfl rfl rfl ?_)))))))))))))
      refine WL.nil (W.condT rfl (W.seq (W.region (WL.mv rfl rfl (WL.mv rfl rfl ?_)))))
      refine WL.callM 1 rfl rfl rfl (fun x p d => rget1_e _ _ _ _ _ _ (by assumption) (by first | assumption | exact ROs.wide (by assumption) | exact ROs.mono (by assumption) (eqh_at 0 rfl p d) | exact ros_at 0 rfl p d | exact ros_at 1 rfl p d | exact ros_at 2 rfl p d | exact ros_at 3 rfl p d | exact ros_at 4 rfl p d) (by first | exact Nat.zero_le _ | assumption) (by first | assumption | omega) (by assumption)) (by repeat' constructor) ?_
      refine WL.cv (T := Ty) rfl rfl rfl rfl ?_
      refine WL.bsC (T := Ty) rfl rfl rfl rfl rfl rfl rfl (by repeat' first | exact CO.nil | apply CO.one (by first | rfl | exact SL.one (by assumption)) | apply CO.agg) rfl (by repeat' constructor) (fun u0 hu0 => ?_)
      refine WL.apQ (T := Ty) (i := 1) rfl rfl rfl rfl rfl rfl rfl (by first | exact .ro (by assumption) | exact .ro (ROs.wide (by assumption)) | exact .eqJ 0 rfl (by assumption) | exact .own 0 rfl | exact .own 1 rfl | exact .own 2 rfl | exact .own 3 rfl | exact .own 4 rfl | exact .own 5 rfl) (by first | assumption | exact ROs.slm (by assumption)) (fun _ => rfl) (by first | omega | (simp; omega) | (simp only [List.length_drop, List.length_take]; omega)) (by first | omega | (simp; omega) | (simp only [List.length_drop, List.length_take]; omega)) (fun v' => (by repeat' constructor)) (fun u1 hu1 => ?_)
      refine WL.as rfl rfl (WL.nil (W.exit rfl (W.region (WL.mv rfl rfl (WL.addK rfl rfl rfl (wrap_i64 ⟨by omega, by omega⟩) (WL.as rfl rfl (WL.nil ?_)))))))
      refine W.drop 0 rfl (by repeat' constructor) ?_
      refine W.sub ?_ (next ⟨1, (g : Int), 0, [] ++ [IntKind.i64.wrap (g : Int)], u1, ⟨ga, gb⟩⟩ ⟨by simp only []; omega, hat, rfl, fun h => absurd (show (1 : Nat) = 0 from h) (by decide), fun _ => ⟨by rw [hd]; show (if gb = true then none else decT bs (m - 1) _ _ _ _) = _; rw [show m - 1 = k by omega]; rfl, hgg⟩⟩ (by simp only []; omega))
      exact ⟨rfl, rfl, rfl, rfl, rfl, trivial⟩
    · obtain ⟨hdec, hwas⟩ := h5 hi0
      rw [if_neg (by simp)] at hdec
      obtain ⟨d, ok, ⟨ga, gb⟩, hg⟩ : ∃ d ok q', nextF bs ⟨qa, false⟩ = (d, ok, q') := ⟨_, _, _, rfl⟩
      have hat := nextF_at bs ⟨qa, false⟩ h2
      rw [show m - i = (m - (i + 1)) + 1 by omega, decT, hg] at hdec
      rw [hg] at hat
      simp only [] at hat hdec
      obtain ⟨y, hy⟩ : ∃ y, out[i - 1]? = some y := ⟨_, List.getElem?_eq_getElem (by omega)⟩
      have hy1 : (out.map (Value.int .i64))[i - 1]? = some (.int .i64 y) := by rw [List.getElem?_map, hy]; rfl
      have hgd : out.getD (i - 1) 0 = y := by simp [List.getD, hy]
      rw [hgd] at hwas
      cases ok with
      | false =>
        rw [if_pos (by left; rfl)] at hdec
        refine W.seq (W.seq (W.region (WL.mv rfl rfl (WL.mv rfl rfl (WL.lss rfl rfl rfl (WL.mv rfl rfl (WL.gT rfl rfl (by omega) (WL.mv rfl rfl (WL.gT rfl rfl (by omega) (WL.nc rfl rfl (WL.gT rfl rfl (by omega) (WL.faN (T := Ty) (off' := 2) rfl rfl rfl rfl rfl rfl rfl (WL.gT rfl rfl (by omega) ?_)))))))))))))
        refine WL.ldN (T := Ty) (j := 1) rfl rfl rfl rfl rfl rfl (WL.gT rfl rfl (by omega) (WL.not rfl rfl (WL.pickTp rfl rfl (by omega) rfl (WL.nil (W.condT rfl (W.skip (W.seq (W.block (W.seq (W.seq (W.region (WL.mv rfl rfl (WL.eql rfl rfl rfl ?_)))))))))))))
        refine WL.nil (W.condpF rfl (by omega) (W.skip (W.seq (W.region (WL.mv rfl rfl ?_)))))
        refine WL.callM 1 rfl rfl rfl (fun x p d => rdiff_c _ _ _ _ _ (by first | assumption | exact ROs.wide (by assumption) | exact ROs.mono (by assumption) (eqh_at 0 rfl p d) | exact ros_at 0 rfl p d | exact ros_at 1 rfl p d | exact ros_at 2 rfl p d | exact ros_at 3 rfl p d | exact ros_at 4 rfl p d) (by assumption) (by assumption) (by assumption) (by assumption)) (by repeat' constructor) ?_
        refine WL.mv rfl rfl (WL.extL rfl rfl rfl (WL.extL rfl rfl rfl (WL.as rfl rfl (WL.as rfl rfl (WL.nil (W.seq (W.seq (W.region (WL.mv rfl rfl (WL.not rfl rfl (WL.nil (W.condT rfl (W.seq ?_)))))))))))))
        refine W.region (WL.as rfl rfl (WL.as rfl rfl (WL.nil ?_)))
        refine W.drop 0 rfl (by repeat' constructor) ?_
        refine W.nb (sz := 1) ?_
        exact W.ret2 rfl rfl rfl (fun h p => rowTnone hdec.symm (by assumption) p)
      | true =>
        have hww : IntKind.u64.wrap (IntKind.i64.wrap (IntKind.u64.wrap (was + IntKind.u64.wrap (step + IntKind.u64.wrap d)))) = IntKind.u64.wrap (was + IntKind.u64.wrap (step + IntKind.u64.wrap d)) := by rw [u64_i64, u64_u64]
        refine W.seq (W.seq (W.region (WL.mv rfl rfl (WL.mv rfl rfl (WL.lss rfl rfl rfl (WL.mv rfl rfl (WL.gT rfl rfl (by omega) (WL.mv rfl rfl (WL.gT rfl rfl (by omega) (WL.nc rfl rfl (WL.gT rfl rfl (by omega) (WL.faN (T := Ty) (off' := 2) rfl rfl rfl rfl rfl rfl rfl (WL.gT rfl rfl (by omega) ?_)))))))))))))
        refine WL.ldN (T := Ty) (j := 1) rfl rfl rfl rfl rfl rfl (WL.gT rfl rfl (by omega) (WL.not rfl rfl (WL.pickTp rfl rfl (by omega) rfl (WL.nil (W.condT rfl (W.skip (W.seq (W.block (W.seq (W.seq (W.region (WL.mv rfl rfl (WL.eql rfl rfl rfl ?_)))))))))))))
        refine WL.nil (W.condpF rfl (by omega) (W.skip (W.seq (W.region (WL.mv rfl rfl ?_)))))
        refine WL.callM 1 rfl rfl rfl (fun x p d => rdiff_c _ _ _ _ _ (by first | assumption | exact ROs.wide (by assumption) | exact ROs.mono (by assumption) (eqh_at 0 rfl p d) | exact ros_at 0 rfl p d | exact ros_at 1 rfl p d | exact ros_at 2 rfl p d | exact ros_at 3 rfl p d | exact ros_at 4 rfl p d) (by assumption) (by assumption) (by assumption) (by assumption)) (by repeat' constructor) ?_
        refine WL.mv rfl rfl (WL.extL rfl rfl rfl (WL.extL rfl rfl rfl (WL.as rfl rfl (WL.as rfl rfl (WL.nil (W.seq (W.seq (W.region (WL.mv rfl rfl (WL.not rfl rfl (WL.nil (W.condF rfl (W.skip ?_)))))))))))))
        refine W.seq (W.region (WL.mv rfl rfl (WL.mv rfl rfl (WL.cv (T := Ty) rfl rfl rfl rfl (WL.add (K := .u64) rfl rfl rfl (WL.as rfl rfl (WL.nil (W.region (WL.mv rfl rfl (WL.mv rfl rfl (WL.mv rfl rfl (WL.subK rfl rfl rfl (wrap_i64 ⟨by omega, by omega⟩) ?_))))))))))))
        refine WL.ix (T := Ty) rfl rfl rfl (by assumption) rfl rfl (by omega) (by first | omega | decide +kernel) ?_
        refine WL.ldEK (T := Ty) (j := 0) rfl rfl rfl rfl rfl (by assumption) (by omega) ?_
        refine WL.cv (T := Ty) rfl rfl rfl rfl (WL.mv rfl rfl (WL.add (K := .u64) rfl rfl rfl (WL.cv (T := Ty) rfl rfl rfl rfl ?_)))
        refine WL.bsC (T := Ty) rfl rfl rfl rfl rfl rfl rfl (by repeat' first | exact CO.nil | apply CO.one (by first | rfl | exact SL.one (by assumption)) | apply CO.agg) rfl (by repeat' constructor) (fun u0 hu0 => ?_)
        refine WL.ap1 (T := Ty) (i := 0) rfl rfl rfl rfl rfl rfl rfl rfl (by assumption) (by first | rfl | assumption) (by first | omega | (simp; omega) | (simp only [List.length_drop, List.length_take]; omega)) (by first | omega | (simp; omega) | (simp only [List.length_drop, List.length_take]; omega)) (fun v' => (by repeat' constructor)) (fun u1 hu1 => ?_)
        refine WL.as rfl rfl (WL.nil (W.inBlock (W.region (WL.mv rfl rfl (WL.addK rfl rfl rfl (wrap_i64 ⟨by omega, by omega⟩) (WL.as rfl rfl (WL.nil ?_)))))))
        rw [hwas]
        refine W.sub ?_ (W.hs (fun h p => ?_) (next ⟨i + 1, IntKind.u64.wrap (was + IntKind.u64.wrap (step + IntKind.u64.wrap d)), IntKind.u64.wrap (step + IntKind.u64.wrap d), out ++ [IntKind.i64.wrap (IntKind.u64.wrap (was + IntKind.u64.wrap (step + IntKind.u64.wrap d)))], u1, ⟨ga, gb⟩⟩ ⟨by simp only []; omega, hat, by simp [h3], fun h => absurd h (by simp), fun _ => ⟨?_, ?_⟩⟩ (by simp only []; omega)))
        · exact ⟨rfl, rfl, rfl, rfl, rfl, trivial⟩
        · simpa using p
        · rw [← hdec]
          cases gb <;> simp
        · show IntKind.u64.wrap ((out ++ [IntKind.i64.wrap (IntKind.u64.wrap (was + IntKind.u64.wrap (step + IntKind.u64.wrap d)))]).getD (i + 1 - 1) 0) = _
          rw [show i + 1 - 1 = out.length by omega]
          simp only [List.getD, List.getElem?_append_right (Nat.le_refl _), Nat.sub_self]
          exact hww
theorem rtget_s (ρ : Hp) (b : Nat) (v : Value) (bs : List Nat) (s : RdSt) (n : Int) {ts : List Int} {s' : RdSt} (hv : ROs ρ 1 v (bs.map bcell)) (e : decTs bs s n = some (ts, s')) (hs : s.at' ≤ 8 * bs.length) (hl : bs.length ≤ 140737488355328) (hw : ∀ x ∈ bs, x < 256) :
    Fn Tryz.prog 46 #[ptr b, .int .i64 n] ρ [RRe b v s] (fun r h => ∃ u, r = .tuple #[u, .bool true] ∧ sepl [Buf 1 u (ts.map (Value.int .i64)), RRe b v s'] h) := by
  have := rtget_c ρ b v bs s n hv hs hl hw
  rw [e] at this
  exact this.mono (fun r h ⟨v, hr, q, ⟨hq, _⟩, p⟩ => ⟨v, hr, by rw [hq _ rfl] at p; exact p⟩)
theorem set_self {Hs : List HP} {p : HP} : ∀ (j : Nat), nthH Hs j = some p → Hs.set j p = Hs := by
  induction Hs with
  | nil => intro j h; cases h
  | cons q Hs ih =>
    intro j h
    cases j with
    | zero =>
      have : q = p := Option.some.inj h
      subst this
      rfl
    | succ j => rw [List.set_cons_succ, ih j h]
theorem WL.intoRRe {P : Program} {fn : Func} {ρ : Hp} {X : World → Hp → Act → World → Prop} {env : Env} {Hs Hs' : List HP} {ops : Array Oper} {l : List Oper} (j : Nat) {b : Nat} {v : Value} (hH : nthH Hs j = some (box b [v, .int .i64 0, .bool false] 83)) (hF : FL (Hs.set j (RRe b v ⟨0, false⟩)) Hs')
    (h : WL false P fn ρ X ops l env Hs') : WL false P fn ρ X ops l env Hs := by
  have hF := hF.eq
  subst hF
  have e : Hs.set j (RRe b v ⟨0, false⟩) = Hs := set_self j hH
  rw [e] at h
  exact h
end Go.Proofs.YtdpnpipninggeaaGreatDoor
