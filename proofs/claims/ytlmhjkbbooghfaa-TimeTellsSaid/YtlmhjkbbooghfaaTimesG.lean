/- Rows of times, out of numbers: what layer 4's statements take. -/
import Derived.Test.YtlmhjkbbooghfaaStc
import Derived.Test.YtlmhjkbbooghfaaNum
import Derived.Test.YtlmhjkbbooghfaaTab
import Derived.Test.YtlmhjkbbooghfaaTimeC
set_option linter.unusedSimpArgs false
set_option linter.unusedVariables false
set_option maxRecDepth 20000
set_option maxHeartbeats 4000000
namespace Go.Proofs.Ytlmhjkbbooghfaa
open Go
attribute [local irreducible] W WL Fn Buf ROs SL eptr box Rd Src bndOK WD RB Reads In

-- CALL 42 refine WL.callF rfl rfl (fun x p d => timesG_c _ _ _ _ $RO (by first | assumption | omega) (by first | assumption | omega)) (fun u$N => ?_) ;; refine WL.ex (fun ts => ?_) ;; refine WL.pure (fun hts => ?_) ;; refine WL.fact (i := 0) rfl (fun h hb => Buf.slm hb) (fun hsl$N => ?_)
theorem timesG_c (ρ : Hp) (v : Value) (l : List Int) (raw : Bool) (hv : ROs ρ 1 v (l.map (Value.int .i64))) (hw : ∀ x ∈ l, i64ok x) (hl : l.length ≤ 17592186044416) :
    Fn Try.prog 42 #[v, .bool raw] ρ [] (fun r h => ∃ ts : List Int, (ts.length ≤ 60 ∧ ∀ x ∈ ts, -9223372036854775808 ≤ x ∧ x ≤ 9223372036854775807) ∧ Buf 1 r (ts.map (Value.int .i64)) h) := by
  refine in42 rfl rfl ?_
  have sv := hv.slm
  refine W.seq ?_
  refine W.region ?_
  refine WL.as rfl rfl ?_
  refine WL.nil ?_
  refine W.seq ?_
  refine W.region ?_
  refine WL.as rfl rfl ?_
  refine WL.nil ?_
  refine W.seq ?_
  refine W.region ?_
  refine WL.as rfl rfl ?_
  refine WL.nil ?_
  refine W.seq ?_
  refine W.seq ?_
  refine W.region ?_
  refine WL.mv rfl rfl ?_
  refine WL.len (T := Ty) rfl rfl (by assumption) rfl ?_
  refine WL.gtr rfl rfl rfl ?_
  refine WL.nil ?_
  refine W.nb (sz := 1) ?_
  refine W.cut (τ := Int) (fun q => [(0, v), (1, .bool raw), (5, .slice none 0 0), (6, .int .i64 q)]) (fun _ => [Buf 1 (.slice none 0 0) []]) (fun _ => True) ?_ (fun cut => ?_)
  · intro q _
    refine W.seq ?_
    refine W.seq ?_
    refine W.region ?_
    refine WL.as rfl rfl ?_
    refine WL.nil ?_
    refine W.block ?_
    refine W.loopS (σ := Nat × Value × List Int × Int) (fun s => [(0, v), (1, .bool raw), (5, s.2.1), (6, .int .i64 s.2.2.2), (7, .int .i64 (s.1 : Int))]) (fun s => [Buf 1 s.2.1 (s.2.2.1.map (Value.int .i64))])
      (fun s => s.1 ≤ 60 ∧ s.2.2.1.length = s.1 ∧ (∀ x ∈ s.2.2.1, -9223372036854775808 ≤ x ∧ x ≤ 9223372036854775807)) (fun s => 60 - s.1) (0, .slice none 0 0, [], q) ⟨rfl, rfl, rfl, rfl, rfl, trivial⟩ rfl ⟨Nat.zero_le _, rfl, by simp⟩ ?_
    rintro ⟨i, o, os, last⟩ ⟨hi, hol, hos⟩ next
    simp only [] at hi hol hos next ⊢
    refine W.fact (i := 0) rfl (fun h hb => Buf.slm hb) (fun hso => ?_)
    rcases (by omega : (i < l.length ∧ i < 60) ∨ ¬ i < l.length ∨ (i < l.length ∧ ¬ i < 60)) with ⟨h1, h2⟩ | h1 | ⟨h1, h2⟩
    · obtain ⟨x, hx⟩ : ∃ x, l[i]? = some x := ⟨_, List.getElem?_eq_getElem h1⟩
      have hxl := hw x (List.mem_of_getElem? hx)
      have hx1 : (l.map (Value.int .i64))[i]? = some (.int .i64 x) := by rw [List.getElem?_map, hx]; rfl
      have hxl' : -9223372036854775808 ≤ x ∧ x ≤ 9223372036854775807 := hxl
      cases raw with
      | true =>
        refine W.seq ?_
        refine W.seq ?_
        refine W.region ?_
        refine WL.mv rfl rfl ?_
        refine WL.mv rfl rfl ?_
        refine WL.len (T := Ty) rfl rfl (by assumption) rfl ?_
        refine WL.lss rfl rfl rfl ?_
        refine WL.mv rfl rfl ?_
        refine WL.gT rfl rfl (by omega) ?_
        refine WL.mv rfl rfl ?_
        refine WL.gT rfl rfl (by omega) ?_
        refine WL.lss rfl rfl rfl ?_
        refine WL.pickTp rfl rfl (by omega) rfl ?_
        refine WL.nil ?_
        refine W.condpT rfl (by omega) ?_
        refine W.skip ?_
        refine W.seq ?_
        refine W.block ?_
        refine W.seq ?_
        refine W.region ?_
        refine WL.mv rfl rfl ?_
        refine WL.mv rfl rfl ?_
        refine WL.ix (T := Ty) rfl rfl rfl (by assumption) rfl rfl (by omega) (by first | omega | decide +kernel) ?_
        refine WL.ldKn (T := Ty) rfl rfl rfl rfl (by first | assumption | exact ROs.wide (by assumption)) (by assumption) ?_
        refine WL.as rfl rfl ?_
        refine WL.nil ?_
        refine W.seq ?_
        refine W.seq ?_
        refine W.region ?_
        refine WL.mv rfl rfl ?_
        refine WL.not rfl rfl ?_
        refine WL.nil ?_
        refine W.condF rfl ?_
        refine W.skip ?_
        refine W.seq ?_
        refine W.region ?_
        refine WL.mv rfl rfl ?_
        refine WL.mv rfl rfl ?_
        refine WL.bsC (T := Ty) rfl rfl rfl rfl rfl rfl rfl (by repeat' first | exact CO.nil | apply CO.one (by first | rfl | exact SL.one (by assumption)) | apply CO.agg) rfl (by repeat' first | exact FL.nil | apply FL.cons) (fun u0 hu0 => ?_)
        refine WL.ap1 (T := Ty) (i := 0) rfl rfl rfl rfl rfl rfl rfl rfl (by assumption) (by first | rfl | assumption) (by first | omega | (simp; omega)) (by first | omega | (simp; omega)) (fun v' => (by repeat' first | exact FL.nil | apply FL.cons)) (fun u1 hu1 => ?_)
        refine WL.as rfl rfl ?_
        refine WL.nil ?_
        refine W.region ?_
        refine WL.mv rfl rfl ?_
        refine WL.as rfl rfl ?_
        refine WL.nil ?_
        refine W.inBlock ?_
        refine W.region ?_
        refine WL.mv rfl rfl ?_
        refine WL.addK rfl rfl rfl (wrap_i64 ⟨by omega, by omega⟩) ?_
        refine WL.as rfl rfl ?_
        refine WL.nil ?_
        refine W.sub ?_ (W.hs (fun h p => ?_) (next ⟨i + 1, u1, os ++ [x], x⟩ ⟨by simp only []; omega, by simp [hol], ?_⟩ (by simp only []; omega)))
        · exact ⟨rfl, rfl, rfl, rfl, rfl, trivial⟩
        · simpa using p
        · intro y hy
          rcases List.mem_append.1 hy with h | h
          · exact hos y h
          · simp at h; rw [h]; exact hxl'
      | false =>
        refine W.seq ?_
        refine W.seq ?_
        refine W.region ?_
        refine WL.mv rfl rfl ?_
        refine WL.mv rfl rfl ?_
        refine WL.len (T := Ty) rfl rfl (by assumption) rfl ?_
        refine WL.lss rfl rfl rfl ?_
        refine WL.mv rfl rfl ?_
        refine WL.gT rfl rfl (by omega) ?_
        refine WL.mv rfl rfl ?_
        refine WL.gT rfl rfl (by omega) ?_
        refine WL.lss rfl rfl rfl ?_
        refine WL.pickTp rfl rfl (by omega) rfl ?_
        refine WL.nil ?_
        refine W.condpT rfl (by omega) ?_
        refine W.skip ?_
        refine W.seq ?_
        refine W.block ?_
        refine W.seq ?_
        refine W.region ?_
        refine WL.mv rfl rfl ?_
        refine WL.mv rfl rfl ?_
        refine WL.ix (T := Ty) rfl rfl rfl (by assumption) rfl rfl (by omega) (by first | omega | decide +kernel) ?_
        refine WL.ldKn (T := Ty) rfl rfl rfl rfl (by first | assumption | exact ROs.wide (by assumption)) (by assumption) ?_
        refine WL.as rfl rfl ?_
        refine WL.nil ?_
        refine W.seq ?_
        refine W.seq ?_
        refine W.region ?_
        refine WL.mv rfl rfl ?_
        refine WL.not rfl rfl ?_
        refine WL.nil ?_
        refine W.condT rfl ?_
        refine W.drawA 42 rfl (fun σ0 hσ0 dσ0 => ?_)
        have fσ0_0 := ros_at 0 rfl hσ0 dσ0
        refine WD.takeL 0 rfl (by decide +kernel) ?_
        refine WL.mv rfl rfl ?_
        refine WL.nilT ?_
        refine WD.takeL 1 rfl (by decide +kernel) ?_
        refine WL.add (K := .i64) rfl rfl rfl ?_
        refine WL.nilT ?_
        refine WD.takeL 2 rfl (by decide +kernel) ?_
        refine WL.mv rfl rfl ?_
        refine WL.nilT ?_
        refine WD.takeL 3 rfl (by decide +kernel) ?_
        refine WL.mv rfl rfl ?_
        refine WL.nilT ?_
        refine WD.takeL 4 rfl (by decide +kernel) ?_
        refine WL.ix (T := Ty) rfl rfl rfl (by assumption) rfl rfl (by omega) (by first | omega | decide +kernel) ?_
        refine WL.nilT ?_
        refine WD.takeL 5 rfl (by decide +kernel) ?_
        refine WL.ldKn (T := Ty) rfl rfl rfl rfl (by first | assumption | exact ROs.wide (by assumption)) (by assumption) ?_
        refine WL.nilT ?_
        refine WD.takeL 6 rfl (by decide +kernel) ?_
        refine WL.shrS (c := 256) rfl rfl rfl (by omega) (by decide) ?_
        refine WL.nilT ?_
        refine WD.takeL 7 rfl (by decide +kernel) ?_
        refine WL.andI rfl rfl rfl (by decide) ?_
        refine WL.nilT ?_
        refine WD.takeL 8 rfl (by decide +kernel) ?_
        refine WL.quoI rfl rfl rfl (by omega) (by omega) (by omega) ?_
        refine WL.nilT ?_
        refine WD.takeL 9 rfl (by decide +kernel) ?_
        refine WL.mv rfl rfl ?_
        refine WL.nilT ?_
        refine WD.takeL 10 rfl (by decide +kernel) ?_
        refine WL.mv rfl rfl ?_
        refine WL.nilT ?_
        refine WD.takeL 11 rfl (by decide +kernel) ?_
        refine WL.ix (T := Ty) rfl rfl rfl (by assumption) rfl rfl (by omega) (by first | omega | decide +kernel) ?_
        refine WL.nilT ?_
        refine WD.takeL 12 rfl (by decide +kernel) ?_
        refine WL.ldKn (T := Ty) rfl rfl rfl rfl (by first | assumption | exact ROs.wide (by assumption)) (by assumption) ?_
        refine WL.nilT ?_
        refine WD.takeL 13 rfl (by decide +kernel) ?_
        refine WL.shrS (c := 256) rfl rfl rfl (by omega) (by decide) ?_
        refine WL.nilT ?_
        refine WD.takeL 14 rfl (by decide +kernel) ?_
        refine WL.andI rfl rfl rfl (by decide) ?_
        refine WL.nilT ?_
        refine WD.takeL 15 rfl (by decide +kernel) ?_
        refine WL.mv rfl rfl ?_
        refine WL.nilT ?_
        refine WD.takeL 16 rfl (by decide +kernel) ?_
        refine WL.mv rfl rfl ?_
        refine WL.nilT ?_
        refine WD.takeL 17 rfl (by decide +kernel) ?_
        refine WL.ix (T := Ty) rfl rfl rfl (by assumption) rfl rfl (by omega) (by first | omega | decide +kernel) ?_
        refine WL.nilT ?_
        refine WD.takeL 18 rfl (by decide +kernel) ?_
        refine WL.ldKn (T := Ty) rfl rfl rfl rfl (by first | assumption | exact ROs.wide (by assumption)) (by assumption) ?_
        refine WL.nilT ?_
        refine WD.takeL 19 rfl (by decide +kernel) ?_
        refine WL.shrS (c := 256) rfl rfl rfl (by omega) (by decide) ?_
        refine WL.nilT ?_
        refine WD.takeL 20 rfl (by decide +kernel) ?_
        refine WL.andI rfl rfl rfl (by decide) ?_
        refine WL.nilT ?_
        refine WD.takeL 21 rfl (by decide +kernel) ?_
        refine WL.mv rfl rfl ?_
        refine WL.nilT ?_
        refine WD.takeL 22 rfl (by decide +kernel) ?_
        refine WL.mv rfl rfl ?_
        refine WL.nilT ?_
        refine WD.takeL 23 rfl (by decide +kernel) ?_
        refine WL.ix (T := Ty) rfl rfl rfl (by assumption) rfl rfl (by omega) (by first | omega | decide +kernel) ?_
        refine WL.nilT ?_
        refine WD.takeL 24 rfl (by decide +kernel) ?_
        refine WL.ldKn (T := Ty) rfl rfl rfl rfl (by first | assumption | exact ROs.wide (by assumption)) (by assumption) ?_
        refine WL.nilT ?_
        refine WD.takeL 25 rfl (by decide +kernel) ?_
        refine WL.shrS (c := 256) rfl rfl rfl (by omega) (by decide) ?_
        refine WL.nilT ?_
        refine WD.takeL 26 rfl (by decide +kernel) ?_
        refine WL.andI rfl rfl rfl (by decide) ?_
        refine WL.nilT ?_
        refine WD.takeL 27 rfl (by decide +kernel) ?_
        refine WL.mv rfl rfl ?_
        refine WL.nilT ?_
        refine WD.takeL 28 rfl (by decide +kernel) ?_
        refine WL.mv rfl rfl ?_
        refine WL.nilT ?_
        refine WD.takeL 29 rfl (by decide +kernel) ?_
        refine WL.ix (T := Ty) rfl rfl rfl (by assumption) rfl rfl (by omega) (by first | omega | decide +kernel) ?_
        refine WL.nilT ?_
        refine WD.takeL 30 rfl (by decide +kernel) ?_
        refine WL.ldKn (T := Ty) rfl rfl rfl rfl (by first | assumption | exact ROs.wide (by assumption)) (by assumption) ?_
        refine WL.nilT ?_
        refine WD.takeL 31 rfl (by decide +kernel) ?_
        refine WL.shrS (c := 256) rfl rfl rfl (by omega) (by decide) ?_
        refine WL.nilT ?_
        refine WD.takeL 32 rfl (by decide +kernel) ?_
        refine WL.andI rfl rfl rfl (by decide) ?_
        refine WL.nilT ?_
        refine WD.takeL 34 rfl (by decide +kernel) ?_
        refine WL.mv rfl rfl ?_
        refine WL.nilT ?_
        refine WD.takeL 35 rfl (by decide +kernel) ?_
        refine WL.mv rfl rfl ?_
        refine WL.nilT ?_
        refine WD.takeL 36 rfl (by decide +kernel) ?_
        refine WL.ix (T := Ty) rfl rfl rfl (by assumption) rfl rfl (by omega) (by first | omega | decide +kernel) ?_
        refine WL.nilT ?_
        refine WD.takeL 37 rfl (by decide +kernel) ?_
        refine WL.ldKn (T := Ty) rfl rfl rfl rfl (by first | assumption | exact ROs.wide (by assumption)) (by assumption) ?_
        refine WL.nilT ?_
        refine WD.takeL 38 rfl (by decide +kernel) ?_
        refine WL.andI rfl rfl rfl (by decide) ?_
        refine WL.nilT ?_
        refine WD.oneL 33 rfl (by decide +kernel) ?_
        refine WL.bsC (T := Ty) rfl rfl rfl rfl rfl rfl rfl (by repeat' first | exact CO.nil | apply CO.one (by first | rfl | exact SL.one (by assumption)) | apply CO.agg) rfl (by repeat' first | exact FL.nil | apply FL.cons) (fun u0 hu0 => ?_)
        refine WL.nilH hσ0 (fun σ1 hσ1 dσ1 mσ1 => ?_)
        have fσ0_0 := fσ0_0.mono mσ1
        have fσ1_0 := ros_at 0 rfl hσ1 dσ1
        refine WD.takeL 39 rfl (by decide +kernel) ?_
        refine WL.ix (T := Ty) rfl rfl rfl (by assumption) rfl rfl (by omega) (by first | omega | decide +kernel) ?_
        refine WL.nilT ?_
        refine WD.takeL 40 rfl (by decide +kernel) ?_
        refine WL.ldAny (K := .i64) (T := Ty) rfl rfl rfl rfl (by first | assumption | exact ROs.wide (by assumption)) (by repeat' first | exact AI.nil | apply AI.cons) (by simp; omega) (fun m1 hm1 => ?_)
        refine WL.nilT ?_
        refine WD.takeL 41 rfl (by decide +kernel) ?_
        refine WL.add (K := .i64) rfl rfl rfl ?_
        refine WL.nilT ?_
        refine WD.lastG hσ1 (by decide +kernel) (by repeat' first | exact FL.nil | apply FL.cons) rfl (by repeat' first | exact FL.nil | apply FL.cons) ?_
        refine WL.as rfl rfl ?_
        refine WL.nil ?_
        refine W.seq ?_
        refine W.region ?_
        refine WL.mv rfl rfl ?_
        refine WL.mv rfl rfl ?_
        refine WL.bsC (T := Ty) rfl rfl rfl rfl rfl rfl rfl (by repeat' first | exact CO.nil | apply CO.one (by first | rfl | exact SL.one (by assumption)) | apply CO.agg) rfl (by repeat' first | exact FL.nil | apply FL.cons) (fun u1 hu1 => ?_)
        refine WL.ap1 (T := Ty) (i := 1) rfl rfl rfl rfl rfl rfl rfl rfl (by assumption) (by first | rfl | assumption) (by first | omega | (simp; omega)) (by first | omega | (simp; omega)) (fun v' => (by repeat' first | exact FL.nil | apply FL.cons)) (fun u2 hu2 => ?_)
        refine WL.as rfl rfl ?_
        refine WL.nil ?_
        refine W.region ?_
        refine WL.mv rfl rfl ?_
        refine WL.as rfl rfl ?_
        refine WL.nil ?_
        refine W.inBlock ?_
        refine W.region ?_
        refine WL.mv rfl rfl ?_
        refine WL.addK rfl rfl rfl (wrap_i64 ⟨by omega, by omega⟩) ?_
        refine WL.as rfl rfl ?_
        refine WL.nil ?_
        refine W.drop 0 rfl (by repeat' first | exact FL.nil | apply FL.cons) ?_
        refine W.sub ?_ (W.hs (fun h p => ?_) (next ⟨i + 1, u2, os ++ [IntKind.i64.wrap (IntKind.i64.wrap (last + 1) + m1)], IntKind.i64.wrap (IntKind.i64.wrap (last + 1) + m1)⟩ ⟨by simp only []; omega, by simp [hol], ?_⟩ (by simp only []; omega)))
        · exact ⟨rfl, rfl, rfl, rfl, rfl, trivial⟩
        · simpa using p
        · intro y hy
          rcases List.mem_append.1 hy with h | h
          · exact hos y h
          · simp at h; rw [h]; exact i64_bnd _
    · refine W.seq ?_
      refine W.seq ?_
      refine W.region ?_
      refine WL.mv rfl rfl ?_
      refine WL.mv rfl rfl ?_
      refine WL.len (T := Ty) rfl rfl (by assumption) rfl ?_
      refine WL.lss rfl rfl rfl ?_
      refine WL.mv rfl rfl ?_
      refine WL.gdTn rfl rfl rfl rfl rfl (by omega) ?_
      refine WL.gdTn rfl rfl rfl rfl rfl (by omega) ?_
      refine WL.pickFp rfl rfl (by omega) rfl ?_
      refine WL.nil ?_
      refine W.condF rfl ?_
      refine W.exit rfl ?_
      refine W.seq ?_
      refine W.region ?_
      refine WL.mv rfl rfl ?_
      refine WL.as rfl rfl ?_
      refine WL.nil ?_
      exact W.ret1 rfl rfl (fun h p => ⟨os, ⟨by omega, hos⟩, sepl_one.1 p⟩)
    · refine W.seq ?_
      refine W.seq ?_
      refine W.region ?_
      refine WL.mv rfl rfl ?_
      refine WL.mv rfl rfl ?_
      refine WL.len (T := Ty) rfl rfl (by assumption) rfl ?_
      refine WL.lss rfl rfl rfl ?_
      refine WL.mv rfl rfl ?_
      refine WL.gT rfl rfl (by omega) ?_
      refine WL.mv rfl rfl ?_
      refine WL.gT rfl rfl (by omega) ?_
      refine WL.lss rfl rfl rfl ?_
      refine WL.pickTp rfl rfl (by omega) rfl ?_
      refine WL.nil ?_
      refine W.condpF rfl (by omega) ?_
      refine W.exit rfl ?_
      refine W.seq ?_
      refine W.region ?_
      refine WL.mv rfl rfl ?_
      refine WL.as rfl rfl ?_
      refine WL.nil ?_
      exact W.ret1 rfl rfl (fun h p => ⟨os, ⟨by omega, hos⟩, sepl_one.1 p⟩)
  · refine W.condp rfl (fun hpos => ?_) (fun hpos => ?_)
    · refine W.region ?_
      refine WL.mv rfl rfl ?_
      refine WL.ix (T := Ty) rfl rfl rfl (by assumption) rfl rfl (by omega) (by first | omega | decide +kernel) ?_
      refine WL.ldRM (T := Ty) rfl rfl rfl rfl (by first | assumption | exact ROs.wide (by assumption)) (by first | omega | decide +kernel) ?_
      refine WL.as rfl rfl ?_
      refine WL.nil ?_
      refine W.sub ?_ (cut (l.getD 0 0) trivial)
      exact ⟨rfl, rfl, rfl, rfl, trivial⟩
    · refine W.skip ?_
      refine W.sub ?_ (cut 0 trivial)
      exact ⟨rfl, rfl, rfl, rfl, trivial⟩
-- CALL 43 refine WL.callF rfl rfl (fun x p d => written_c _ _ _ $RO (by first | assumption | omega)) (fun r => ?_) ;; refine WL.ex (fun b$N => ?_) ;; refine WL.pure (fun er => ?_) ;; subst er
theorem written_c (ρ : Hp) (v : Value) (ts : List Int) (hv : ROs ρ 1 v (ts.map (Value.int .i64))) (hl : ts.length ≤ 70000) :
    Fn Try.prog 43 #[v] ρ [] (fun r h => ∃ b, r = .tuple #[ptr b, .bool true] ∧ Wr b (encTs ts) h) := by
  refine in43 rfl rfl ?_
  refine W.seq ?_
  refine W.region ?_
  refine WL.as rfl rfl ?_
  refine WL.as rfl rfl ?_
  refine WL.nil ?_
  refine W.seq ?_
  refine W.region ?_
  refine WL.callF rfl rfl (fun x p d => newWriter_c _) (fun r => ?_)
  refine WL.ex (fun b0 => ?_)
  refine WL.pure (fun er => ?_)
  subst er
  refine WL.as rfl rfl ?_
  refine WL.nil ?_
  refine W.seq ?_
  refine W.seq ?_
  refine W.region ?_
  refine WL.mv rfl rfl ?_
  refine WL.eqP (T := Ty) rfl rfl rfl ?_
  refine WL.nil ?_
  refine W.condF rfl ?_
  refine W.skip ?_
  refine W.seq ?_
  refine W.region ?_
  refine WL.mv rfl rfl ?_
  refine WL.mv rfl rfl ?_
  refine WL.callM 0 rfl rfl rfl (fun x p d => tenc_c _ _ _ _ _ (by first | assumption | exact ROs.wide (by assumption) | exact ROs.mono (by assumption) (eqh_at 0 rfl p d) | exact ros_at 0 rfl p d | exact ros_at 1 rfl p d | exact ros_at 2 rfl p d | exact ros_at 3 rfl p d | exact ros_at 4 rfl p d) (by first | assumption | exact bok_nil) (by first | assumption | omega | exact Nat.zero_le _) (by first | assumption | omega)) (by repeat' first | exact FL.nil | apply FL.cons) ?_
  refine WL.nil ?_
  refine W.seq ?_
  refine W.region ?_
  refine WL.mv rfl rfl ?_
  refine WL.as rfl rfl ?_
  refine WL.as rfl rfl ?_
  refine WL.nil ?_
  exact W.ret2 rfl rfl rfl (fun h p => ⟨_, rfl, sepl_one.1 p⟩)
end Go.Proofs.Ytlmhjkbbooghfaa
