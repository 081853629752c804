/- BitsPlays. -/
import Derived.Test.YtimioninoafkhaaInn
import Derived.Test.YtimioninoafkhaaNum
import Derived.Test.YtimioninoafkhaaTab
import Derived.Test.YtimioninoafkhaaBitsAwake
import Derived.Test.YtimioninoafkhaaBitsRef
import Derived.Test.YtimioninoafkhaaBitsCat
set_option linter.unusedSimpArgs false
set_option linter.unusedVariables false
set_option maxRecDepth 20000
set_option maxHeartbeats 4000000
namespace Go.Proofs.Ytimioninoafkhaa
open Go
attribute [local irreducible] W WL Fn Buf ROs SL eptr box Rd Src bndOK WD RB Reads In

def kPlay (ns : List Int) (i : Nat) : Int := if i % 4 = 0 then ns.getD i 0 else ns.getD i 0 % (127 + 1)
theorem BitsPlays_fn (ρ : Hp) (v0 : Value) (z0 : List Int) (r0 : ROs ρ 1 v0 (z0.map (Value.int .u64))) (m0 : ∀ n ∈ z0, (Lit.int .u64 n).wf = true) (y0 : z0.length * 8 ≤ 140737488351232) (v1 : Value) (z1 : List Int) (r1 : ROs ρ 1 v1 (z1.map (Value.int .i64))) (m1 : ∀ n ∈ z1, (Lit.int .i64 n).wf = true) (y1 : z1.length * 8 ≤ 140737488351232) (v2 : Value) (z2 : List Int) (r2 : ROs ρ 1 v2 (z2.map (Value.int .u8))) (m2 : ∀ n ∈ z2, (Lit.int .u8 n).wf = true) (y2 : z2.length * 1 ≤ 140737488351232) (v3 : Value) (z3 : List Int) (r3 : ROs ρ 1 v3 (z3.map (Value.int .i64))) (m3 : ∀ n ∈ z3, (Lit.int .i64 n).wf = true) (y3 : z3.length * 8 ≤ 140737488351232) :
    Fn Try.prog 13 #[v0, v1, v2, v3] ρ [] (fun r _ => r = .bool true) := by
  obtain ⟨vs, hvs, hvl, hvlt⟩ := words_of m0
  obtain ⟨raw, hraw, hrl, hrlt⟩ := bytes_of m2
  rw [hvs] at r0
  rw [hraw] at r2
  have s0 := r0.slm
  have s1 := r1.slm
  have s2 := r2.slm
  have s3 := r3.slm
  refine in13 rfl rfl ?_
  refine W.seq ?_
  refine W.region ?_
  refine WL.as rfl rfl ?_
  refine WL.nil ?_
  refine W.seq ?_
  refine W.seq ?_
  refine W.region ?_
  refine WL.mv rfl rfl ?_
  refine WL.len (T := Ty) rfl rfl (by assumption) rfl ?_
  refine WL.gtr rfl rfl rfl ?_
  refine WL.nil ?_
  refine W.condp rfl (fun hbig => ?_) (fun hsm => ?_)
  · refine W.seq ?_
    refine W.region ?_
    refine WL.callT rfl rfl (fun x p d => awake1_c _) ?_
    refine WL.as rfl rfl ?_
    refine WL.nil ?_
    exact W.ret1 rfl rfl (fun h p => rfl)
  refine W.skip ?_
  refine W.seq ?_
  refine W.region ?_
  refine WL.callF rfl rfl (fun x p d => newWriter_c _) (fun r => ?_)
  refine WL.ex (fun b0 => ?_)
  refine WL.pure (fun er => ?_)
  subst er
  refine WL.bdC (T := Ty) rfl rfl rfl rfl (by repeat' first | exact CO.nil | apply CO.one (by first | rfl | exact SL.one (by assumption)) | apply CO.agg) rfl (by repeat' first | exact FL.nil | apply FL.cons) ?_
  refine WL.bxF rfl rfl (by repeat' first | exact FL.nil | apply FL.cons) (fun b1 => ?_)
  refine WL.as rfl rfl ?_
  refine WL.as rfl rfl ?_
  refine WL.nil ?_
  refine W.seq ?_
  refine W.seq ?_
  refine W.region ?_
  refine WL.mv rfl rfl ?_
  refine WL.eqP (T := Ty) rfl rfl rfl ?_
  refine WL.nil ?_
  refine W.condF rfl ?_
  refine W.skip ?_
  refine W.seq ?_
  refine W.seq ?_
  refine W.region ?_
  refine WL.as rfl rfl ?_
  refine WL.nil ?_
  refine W.block ?_
  refine W.nb (sz := 1) ?_
  refine W.swap ?_
  refine W.hs (Hs' := [RWr b1 [], Wr b0 []]) (fun h p => ?_) ?_
  · obtain ⟨x, y, hx, ⟨x2, y2, hx2, hy2, d2, rfl⟩, d, rfl⟩ := p
    have d' := dj_join_right.1 d
    exact ⟨join x x2, y2, ⟨_, x, x2, hx, sepl_one.2 hx2, d'.1, rfl⟩, hy2, dj_join_left.2 ⟨d'.2, d2⟩, (join_assoc _ _ _).symm⟩
  obtain ⟨I, hI⟩ : ∃ I, I = min (min vs.length z1.length) 40 := ⟨_, rfl⟩
  refine W.cut2 (τ := Unit) (fun _ => [(0, v0), (1, v1), (2, v2), (3, v3), (8, .bool false), (9, ptr b0), (10, ptr b1)]) (fun _ => [RWr b1 (catG vs (kPlay z1) I), Wr b0 (catG vs (kPlay z1) I)]) (fun _ => True) ?_ (fun cut => ?_)
  · intro _ _
    have hcl := catG_len vs (kPlay z1) I
    have hcb := catG_bit vs (kPlay z1) I
    obtain ⟨ds, hds⟩ : ∃ ds, ds = catG vs (kPlay z1) I := ⟨_, rfl⟩
    rw [← hds] at hcl hcb ⊢
    have hpl := pack_len ds
    have hpb := pack_lt _ hcb
    refine W.freeze 0 rfl (by repeat' first | exact FL.nil | apply FL.cons) (fun ρ1 le1 in1 => ?_)
    refine W.freeze 0 rfl (by repeat' first | exact FL.nil | apply FL.cons) (fun ρ2 le2 in2 => ?_)
    replace in1 := in1.mono le2
    replace r2 := (r2.mono le1).mono le2
    replace r3 := (r3.mono le1).mono le2
    obtain ⟨xv, hx⟩ := in1.ex
    have rbx := hx.head.1.rb
    have rox := hx.head.2.head.1.ros
    have slx := rox.slm
    refine W.seq ?_
    refine W.region ?_
    refine WL.mv rfl rfl ?_
    refine WL.callF rfl rfl (fun x p d => bytes_c _ _ _ (by first | assumption | exact In.wide (by assumption) | exact In.mono (by assumption) (eqh_at 0 rfl p d) | exact in_at 0 rfl p d | exact in_at 1 rfl p d | exact in_at 2 rfl p d | exact in_at 3 rfl p d | exact in_at 4 rfl p d) (by first | assumption | omega | (simp only [List.length_append, bitsOf_len, List.length_nil, heldF]; omega))) (fun u2 => ?_)
    refine WL.fact (i := 0) rfl (fun h hb => Buf.slm hb) (fun hsl2 => ?_)
    refine WL.as rfl rfl ?_
    refine WL.nil ?_
    refine W.seq ?_
    refine W.seq ?_
    refine W.drawA 16 rfl (fun σ0 hσ0 dσ0 => ?_)
    have fσ0_0 := ros_at 0 rfl hσ0 dσ0
    refine WD.takeL 0 rfl (by decide +kernel) ?_
    refine WL.mv rfl rfl ?_
    refine WL.nilT ?_
    refine WD.takeL 2 rfl (by decide +kernel) ?_
    refine WL.mv rfl rfl ?_
    refine WL.nilT ?_
    refine WD.takeL 3 rfl (by decide +kernel) ?_
    refine WL.nc rfl rfl ?_
    refine WL.nilT ?_
    refine WD.takeL 4 rfl (by decide +kernel) ?_
    refine WL.faN (T := Ty) (off' := 0) rfl rfl rfl rfl rfl rfl rfl ?_
    refine WL.nilT ?_
    refine WD.takeL 5 rfl (by decide +kernel) ?_
    refine WL.ldBN (T := Ty) rfl rfl rfl rfl (by first | assumption | exact RB.wide (by assumption) | exact In.rb (by assumption)) rfl ?_
    refine WL.nilT ?_
    refine WD.takeL 6 rfl (by decide +kernel) ?_
    refine WL.len (T := Ty) rfl rfl (by assumption) rfl ?_
    refine WL.nilT ?_
    refine WD.oneL 1 rfl (by decide +kernel) ?_
    refine WL.callV rfl rfl (fun x p d => len_c _ _ _ (by first | assumption | exact In.wide (by assumption) | exact In.mono (by assumption) (eqh_at 0 rfl p d) | exact in_at 0 rfl p d | exact in_at 1 rfl p d | exact in_at 2 rfl p d | exact in_at 3 rfl p d | exact in_at 4 rfl p d)) ?_
    refine WL.nilE ?_
    refine WD.takeL 7 rfl (by decide +kernel) ?_
    refine WL.neq rfl rfl rfl ?_
    refine WL.nilT ?_
    refine WD.takeL 8 rfl (by decide +kernel) ?_
    refine WL.mv rfl rfl ?_
    refine WL.nilT ?_
    refine WD.takeL 9 rfl (by decide +kernel) ?_
    refine WL.gF rfl rfl (by omega) ?_
    refine WL.mv rfl rfl ?_
    refine WL.nilT ?_
    refine WD.takeL 10 rfl (by decide +kernel) ?_
    refine WL.gF rfl rfl (by omega) ?_
    refine WL.b2sRN (T := Ty) rfl rfl rfl rfl rfl rfl rfl (by assumption) ?_
    refine WL.nilT ?_
    refine WD.takeL 11 rfl (by decide +kernel) ?_
    refine WL.gF rfl rfl (by omega) ?_
    refine WL.mv rfl rfl ?_
    refine WL.nilT ?_
    refine WD.oneL 12 rfl (by decide +kernel) ?_
    refine WL.gF rfl rfl (by omega) ?_
    refine WL.callF rfl rfl (fun x p d => rwbytes_c _ _ _ (by repeat' first | assumption | exact bok_nil | exact bitsOf_bit _ _ | apply bok_app) (by first | assumption | exact In.wide (by assumption) | exact In.mono (by assumption) (eqh_at 0 rfl p d) | exact in_at 0 rfl p d | exact in_at 1 rfl p d | exact in_at 2 rfl p d | exact in_at 3 rfl p d | exact in_at 4 rfl p d) (by first | omega | (simp only [List.length_append, bitsOf_len, List.length_nil, heldF]; omega))) (fun u3 => ?_)
    refine WL.fact (i := 0) rfl (fun h hb => Buf.slm hb) (fun hsl3 => ?_)
    refine WL.nilH hσ0 (fun σ1 hσ1 dσ1 mσ1 => ?_)
    have fσ0_0 := fσ0_0.mono mσ1
    have fσ1_0 := ros_at 0 rfl hσ1 dσ1
    refine WD.takeL 13 rfl (by decide +kernel) ?_
    refine WL.gF rfl rfl (by omega) ?_
    refine WL.b2sRN (T := Ty) rfl rfl rfl rfl rfl rfl rfl (by assumption) ?_
    refine WL.nilT ?_
    refine WD.takeL 14 rfl (by decide +kernel) ?_
    refine WL.gF rfl rfl (by omega) ?_
    refine WL.neST rfl rfl rfl (by first | with_reducible rfl | assumption) ?_
    refine WL.nilT ?_
    refine WD.takeL 15 rfl (by decide +kernel) ?_
    refine WL.pickFp rfl rfl (by omega) rfl ?_
    refine WL.nilT ?_
    refine WD.doneF hσ1 (by decide +kernel) (by repeat' first | exact FL.nil | apply FL.cons) ?_
    refine W.condF rfl ?_
    refine W.skip ?_
    refine W.seq ?_
    refine W.seq ?_
    refine W.region ?_
    refine WL.mv rfl rfl ?_
    refine WL.mv rfl rfl ?_
    refine WL.bsC (T := Ty) rfl rfl rfl rfl rfl rfl rfl (by repeat' first | exact CO.nil | apply CO.one (by first | rfl | exact SL.one (by assumption)) | apply CO.agg) rfl (by repeat' first | exact FL.nil | apply FL.cons) (fun u4 hu4 => ?_)
    refine WL.len (T := Ty) rfl rfl (by assumption) rfl ?_
    refine WL.mv rfl rfl ?_
    refine WL.nil ?_
    refine W.block ?_
    refine W.freeze 2 rfl (by repeat' first | exact FL.nil | apply FL.cons) (fun ρ3 le3 in3 => ?_)
    refine W.freeze 0 rfl (by repeat' first | exact FL.nil | apply FL.cons) (fun ρ4 le4 in4 => ?_)
    refine W.drop 0 rfl (by repeat' first | exact FL.nil | apply FL.cons) ?_
    replace r2 := (r2.mono le3).mono le4
    replace r3 := (r3.mono le3).mono le4
    have r5 := (in3.mono le4).ros
    have r6 := in4.ros
    have hrl2 : raw.length ≤ 200 := by omega
    refine W.loopS (σ := Nat) (fun j => [(3, v3), (8, .bool false), (88, u4), (89, .int .i64 2), (90, .int .i64 (j : Int))]) (fun _ => [])
      (fun j => j ≤ 2) (fun j => 2 - j) 0 ⟨rfl, rfl, rfl, rfl, rfl, trivial⟩ rfl (by omega) ?_
    intro j hj next
    refine W.seq ?_
    refine W.region ?_
    refine WL.lss rfl rfl rfl ?_
    refine WL.nil ?_
    refine W.seq ?_
    refine W.condp rfl (fun hlt => ?_) (fun hge => ?_)
    · obtain ⟨cv, cb, hcv, rc, hcl2, hclt⟩ : ∃ (cv : Value) (cb : List Nat), [v2, u2][j]? = some cv ∧ ROs ρ4 1 cv (cb.map bcell) ∧ cb.length ≤ 140737488355328 ∧ ∀ x ∈ cb, x < 256 := by
        rcases (by omega : j = 0 ∨ j = 1) with rfl | rfl
        · exact ⟨v2, raw, rfl, r2, by omega, hrlt⟩
        · exact ⟨u2, pack ds, rfl, r5, by omega, hpb⟩
      have slc := rc.slm
      refine W.skip ?_
      refine W.seq ?_
      refine W.block ?_
      refine W.seq ?_
      refine W.region ?_
      refine WL.ix (T := Ty) rfl rfl rfl (by assumption) rfl rfl (by omega) (by first | omega | decide +kernel) ?_
      refine WL.ldK (T := Ty) rfl rfl rfl rfl (by first | assumption | exact ROs.wide (by assumption)) (by assumption) (by omega) ?_
      refine WL.as rfl rfl ?_
      refine WL.nil ?_
      refine W.seq ?_
      refine W.region ?_
      refine WL.mv rfl rfl ?_
      refine WL.callF rfl rfl (fun x p d => newReader_c _ _ _ (by first | assumption | exact ROs.wide (by assumption) | exact ROs.mono (by assumption) (eqh_at 0 rfl p d) | exact ros_at 0 rfl p d | exact ros_at 1 rfl p d | exact ros_at 2 rfl p d | exact ros_at 3 rfl p d | exact ros_at 4 rfl p d) (by first | assumption | omega | (simp only [pack_len, List.length_append, bitsOf_len, List.length_nil, heldF]; omega))) (fun r => ?_)
      refine WL.ex (fun b5 => ?_)
      refine WL.pure (fun er => ?_)
      subst er
      refine WL.mv rfl rfl ?_
      refine WL.bdC (T := Ty) rfl rfl rfl rfl (by repeat' first | exact CO.nil | apply CO.one (by first | rfl | exact SL.one (by assumption)) | apply CO.agg) rfl (by repeat' first | exact FL.nil | apply FL.cons) ?_
      refine WL.bxF rfl rfl (by repeat' first | exact FL.nil | apply FL.cons) (fun b6 => ?_)
      refine WL.as rfl rfl ?_
      refine WL.as rfl rfl ?_
      refine WL.nil ?_
      refine W.seq ?_
      refine W.seq ?_
      refine W.region ?_
      refine WL.mv rfl rfl ?_
      refine WL.eqP (T := Ty) rfl rfl rfl ?_
      refine WL.nil ?_
      refine W.condF rfl ?_
      refine W.skip ?_
      refine W.seq ?_
      refine W.region ?_
      refine WL.as rfl rfl ?_
      refine WL.nil ?_
      refine W.block ?_
      refine W.cut2 (τ := RdSt) (fun s => [(3, v3), (8, .bool false), (88, u4), (89, .int .i64 2), (90, .int .i64 (j : Int))]) (fun s => [RRe b6 cv s, Re b5 cb s]) (fun _ => True) ?_ (fun cut => ?_)
      · intro s _
        refine W.drop 0 rfl (by repeat' first | exact FL.nil | apply FL.cons) ?_
        refine W.drop 0 rfl (by repeat' first | exact FL.nil | apply FL.cons) ?_
        refine W.inBlock ?_
        refine W.region ?_
        refine WL.addK rfl rfl rfl (wrap_i64 ⟨by omega, by omega⟩) ?_
        refine WL.mv rfl rfl ?_
        refine WL.nil ?_
        refine W.sub ?_ (next (j + 1) (by omega) (by omega))
        exact ⟨rfl, rfl, rfl, rfl, rfl, trivial⟩
      refine W.loopS (σ := Nat × RdSt) (fun s => [(3, v3), (8, .bool false), (16, ptr b5), (17, ptr b6), (18, .int .i64 (s.1 : Int)), (88, u4), (89, .int .i64 2), (90, .int .i64 (j : Int))]) (fun s => [RRe b6 cv s.2, Re b5 cb s.2])
        (fun s => s.1 ≤ min z3.length 40 ∧ s.2.at' ≤ 8 * cb.length) (fun s => 40 - s.1) (0, ⟨0, false⟩) ⟨rfl, rfl, rfl, rfl, rfl, rfl, rfl, rfl, trivial⟩ rfl ⟨Nat.zero_le _, Nat.zero_le _⟩ ?_
      rintro ⟨i, s⟩ ⟨hi, hs⟩ next1
      rcases (by omega : (i < z3.length ∧ i < 40) ∨ ¬ i < z3.length ∨ (i < z3.length ∧ ¬ i < 40)) with ⟨h1, h2⟩ | h1 | ⟨h1, h2⟩
      · refine W.seq ?_
        refine W.seq ?_
        refine W.region ?_
        refine WL.mv rfl rfl ?_
        refine WL.mv rfl rfl ?_
        refine WL.len (T := Ty) rfl rfl (by assumption) rfl ?_
        refine WL.lss rfl rfl rfl ?_
        refine WL.mv rfl rfl ?_
        refine WL.gT rfl rfl (by omega) ?_
        refine WL.mv rfl rfl ?_
        refine WL.gT rfl rfl (by omega) ?_
        refine WL.lss rfl rfl rfl ?_
        refine WL.pickTp rfl rfl (by omega) rfl ?_
        refine WL.nil ?_
        refine W.condpT rfl (by omega) ?_
        refine W.skip ?_
        refine W.seq ?_
        refine W.block ?_
        refine W.seq ?_
        refine W.region ?_
        refine WL.mv rfl rfl ?_
        refine WL.mv rfl rfl ?_
        refine WL.ix (T := Ty) rfl rfl rfl (by assumption) rfl rfl (by omega) (by first | omega | decide +kernel) ?_
        refine WL.ldRz (T := Ty) rfl rfl rfl rfl (by first | assumption | exact ROs.wide (by assumption)) (by first | omega | decide +kernel) ?_
        refine WL.as rfl rfl ?_
        refine WL.nil ?_
        refine W.seq ?_
        refine W.seq ?_
        refine W.region ?_
        refine WL.mv rfl rfl ?_
        refine WL.andI rfl rfl rfl (by decide) ?_
        refine WL.gtr rfl rfl rfl ?_
        refine WL.nil ?_
        refine W.cut (τ := Int) (fun k => [(3, v3), (8, .bool false), (16, ptr b5), (17, ptr b6), (18, .int .i64 (i : Int)), (19, .int .i64 k), (88, u4), (89, .int .i64 2), (90, .int .i64 (j : Int))]) (fun k => [RRe b6 cv s, Re b5 cb s]) (fun _ => True) ?_ (fun cut1 => ?_)
        · intro k _
          have hat := getF_at cb s k hs
          obtain ⟨gv, ⟨ga, gb⟩, hg⟩ : ∃ gv gs, getF cb s k = (gv, gs) := ⟨_, _, rfl⟩
          rw [hg] at hat
          cases gb with
          | true =>
            refine W.seq ?_
            refine W.drawP 23 [true, true] rfl (by repeat' first | exact FL.nil | apply FL.cons) (by repeat' first | exact FL.nil | apply FL.cons) (fun σ2 hσ2 dσ2 => ?_)
            refine WD.takeL 0 rfl (by decide +kernel) ?_
            refine WL.mv rfl rfl ?_
            refine WL.nilT ?_
            refine WD.takeL 1 rfl (by decide +kernel) ?_
            refine WL.mv rfl rfl ?_
            refine WL.nilT ?_
            refine WD.takeL 3 rfl (by decide +kernel) ?_
            refine WL.mv rfl rfl ?_
            refine WL.nilT ?_
            refine WD.takeL 4 rfl (by decide +kernel) ?_
            refine WL.mv rfl rfl ?_
            refine WL.nilT ?_
            refine WD.oneL 2 rfl (by decide +kernel) ?_
            refine WL.callM 2 rfl rfl rfl (fun x p d => get_e _ _ _ _ _ (by assumption) (by first | exact Nat.zero_le _ | assumption | (simp only [pack_len]; omega) | (exact getF_at _ _ _ (by first | exact Nat.zero_le _ | assumption | exact getF_at _ _ _ (by first | exact Nat.zero_le _ | assumption)))) (by first | assumption | omega | (simp only [pack_len, List.length_append, bitsOf_len, List.length_nil, heldF]; omega)) (by first | assumption | exact pack_lt _ (by repeat' first | assumption | exact bok_nil | exact bitsOf_bit _ _ | apply bok_app))) (by repeat' first | exact FL.nil | apply FL.cons) ?_
            refine WL.nilE ?_
            refine WD.oneL 5 rfl (by decide +kernel) ?_
            refine WL.callM 1 rfl rfl rfl (fun x p d => rget1_e _ _ _ _ _ _ (by assumption) (by first | assumption | exact ROs.wide (by assumption) | exact ROs.mono (by assumption) (eqh_at 0 rfl p d) | exact ros_at 0 rfl p d | exact ros_at 1 rfl p d | exact ros_at 2 rfl p d | exact ros_at 3 rfl p d | exact ros_at 4 rfl p d) (by first | exact Nat.zero_le _ | assumption) (by first | assumption | omega) (by assumption)) (by repeat' first | exact FL.nil | apply FL.cons) ?_
            refine WL.nilE ?_
            refine WD.takeL 6 rfl (by decide +kernel) ?_
            refine WL.neq rfl rfl rfl ?_
            refine WL.nilT ?_
            refine WD.takeL 7 rfl (by decide +kernel) ?_
            refine WL.mv rfl rfl ?_
            refine WL.nilT ?_
            refine WD.takeL 8 rfl (by decide +kernel) ?_
            refine WL.gF rfl rfl (by omega) ?_
            refine WL.mv rfl rfl ?_
            refine WL.nilT ?_
            refine WD.takeL 10 rfl (by decide +kernel) ?_
            refine WL.gF rfl rfl (by omega) ?_
            refine WL.mv rfl rfl ?_
            refine WL.nilT ?_
            refine WD.oneL 9 rfl (by decide +kernel) ?_
            refine WL.gF rfl rfl (by omega) ?_
            refine WL.callV rfl rfl (fun x p d => left_c _ _ _ _ (by first | assumption | exact In.wide (by assumption) | exact In.mono (by assumption) (eqh_at 0 rfl p d) | exact in_at 0 rfl p d | exact in_at 1 rfl p d | exact in_at 2 rfl p d | exact in_at 3 rfl p d | exact in_at 4 rfl p d) (by first | exact Nat.zero_le _ | assumption | (simp only [pack_len]; omega) | (exact getF_at _ _ _ (by first | exact Nat.zero_le _ | assumption | exact getF_at _ _ _ (by first | exact Nat.zero_le _ | assumption | exact getF_at _ _ _ (by first | exact Nat.zero_le _ | assumption))))) (by first | assumption | omega | (simp only [pack_len, List.length_append, bitsOf_len, List.length_nil, heldF]; omega))) ?_
            refine WL.nilE ?_
            refine WD.oneL 11 rfl (by decide +kernel) ?_
            refine WL.gF rfl rfl (by omega) ?_
            refine WL.callV rfl rfl (fun x p d => rleft_c _ _ _ _ _ (by first | assumption | exact In.wide (by assumption) | exact In.mono (by assumption) (eqh_at 0 rfl p d) | exact in_at 0 rfl p d | exact in_at 1 rfl p d | exact in_at 2 rfl p d | exact in_at 3 rfl p d | exact in_at 4 rfl p d) (by first | assumption | exact ROs.wide (by assumption) | exact ROs.mono (by assumption) (eqh_at 0 rfl p d) | exact ros_at 0 rfl p d | exact ros_at 1 rfl p d | exact ros_at 2 rfl p d | exact ros_at 3 rfl p d | exact ros_at 4 rfl p d) (by first | exact Nat.zero_le _ | assumption | exact getF_at _ _ _ (by first | exact Nat.zero_le _ | assumption)) (by first | assumption | omega)) ?_
            refine WL.nilE ?_
            refine WD.takeL 12 rfl (by decide +kernel) ?_
            refine WL.gF rfl rfl (by omega) ?_
            refine WL.neq rfl rfl rfl ?_
            refine WL.nilT ?_
            refine WD.takeL 13 rfl (by decide +kernel) ?_
            refine WL.pickFp rfl rfl (by omega) rfl ?_
            refine WL.nilT ?_
            refine WD.takeL 14 rfl (by decide +kernel) ?_
            refine WL.mv rfl rfl ?_
            refine WL.nilT ?_
            refine WD.takeL 15 rfl (by decide +kernel) ?_
            refine WL.gY rfl rfl ?_
            refine WL.mv rfl rfl ?_
            refine WL.nilT ?_
            refine WD.takeL 17 rfl (by decide +kernel) ?_
            refine WL.gY rfl rfl ?_
            refine WL.mv rfl rfl ?_
            refine WL.nilT ?_
            refine WD.takeL 18 rfl (by decide +kernel) ?_
            refine WL.gY rfl rfl ?_
            refine WL.nc rfl rfl ?_
            refine WL.nilT ?_
            refine WD.takeL 19 rfl (by decide +kernel) ?_
            refine WL.gY rfl rfl ?_
            refine WL.faN (T := Ty) (off' := 2) rfl rfl rfl rfl rfl rfl rfl ?_
            refine WL.nilT ?_
            refine WD.growH hσ2 (fun σ3 hσ3 dσ3 mσ3 => ?_)
            have fσ3_0 := in_at 0 rfl hσ3 dσ3
            refine WD.takeL 20 rfl (by decide +kernel) ?_
            refine WL.gY rfl rfl ?_
            refine WL.ldBN (T := Ty) rfl rfl rfl rfl (by first | assumption | exact RB.wide (by assumption) | exact In.rb (by assumption)) rfl ?_
            refine WL.nilT ?_
            refine WD.oneL 16 rfl (by decide +kernel) ?_
            refine WL.gY rfl rfl ?_
            refine WL.callV rfl rfl (fun x p d => ok_c _ _ _ _ (by first | assumption | exact In.wide (by assumption) | exact In.mono (by assumption) (eqh_at 0 rfl p d) | exact in_at 0 rfl p d | exact in_at 1 rfl p d | exact in_at 2 rfl p d | exact in_at 3 rfl p d | exact in_at 4 rfl p d)) ?_
            refine WL.nilE ?_
            refine WD.takeL 21 rfl (by decide +kernel) ?_
            refine WL.gY rfl rfl ?_
            refine WL.eqB (T := Ty) rfl rfl rfl rfl ?_
            refine WL.nilT ?_
            refine WD.takeL 22 rfl (by decide +kernel) ?_
            refine WL.pickF rfl rfl rfl ?_
            refine WL.nilT ?_
            refine WD.doneF hσ3 (by decide +kernel) (by repeat' first | exact FL.nil | apply FL.cons) ?_
            refine W.condF rfl ?_
            refine W.skip ?_
            refine W.inBlock ?_
            refine W.region ?_
            refine WL.mv rfl rfl ?_
            refine WL.addK rfl rfl rfl (wrap_i64 ⟨by omega, by omega⟩) ?_
            refine WL.as rfl rfl ?_
            refine WL.nil ?_
            refine W.sub ?_ (next1 ⟨i + 1, ⟨ga, true⟩⟩ ⟨by simp only []; omega, hat⟩ (by simp only []; omega))
            exact ⟨rfl, rfl, rfl, rfl, rfl, rfl, rfl, rfl, trivial⟩
          | false =>
            refine W.seq ?_
            refine W.drawP 23 [true, true] rfl (by repeat' first | exact FL.nil | apply FL.cons) (by repeat' first | exact FL.nil | apply FL.cons) (fun σ2 hσ2 dσ2 => ?_)
            refine WD.takeL 0 rfl (by decide +kernel) ?_
            refine WL.mv rfl rfl ?_
            refine WL.nilT ?_
            refine WD.takeL 1 rfl (by decide +kernel) ?_
            refine WL.mv rfl rfl ?_
            refine WL.nilT ?_
            refine WD.takeL 3 rfl (by decide +kernel) ?_
            refine WL.mv rfl rfl ?_
            refine WL.nilT ?_
            refine WD.takeL 4 rfl (by decide +kernel) ?_
            refine WL.mv rfl rfl ?_
            refine WL.nilT ?_
            refine WD.oneL 2 rfl (by decide +kernel) ?_
            refine WL.callM 2 rfl rfl rfl (fun x p d => get_e _ _ _ _ _ (by assumption) (by first | exact Nat.zero_le _ | assumption | (simp only [pack_len]; omega) | (exact getF_at _ _ _ (by first | exact Nat.zero_le _ | assumption | exact getF_at _ _ _ (by first | exact Nat.zero_le _ | assumption)))) (by first | assumption | omega | (simp only [pack_len, List.length_append, bitsOf_len, List.length_nil, heldF]; omega)) (by first | assumption | exact pack_lt _ (by repeat' first | assumption | exact bok_nil | exact bitsOf_bit _ _ | apply bok_app))) (by repeat' first | exact FL.nil | apply FL.cons) ?_
            refine WL.nilE ?_
            refine WD.oneL 5 rfl (by decide +kernel) ?_
            refine WL.callM 1 rfl rfl rfl (fun x p d => rget1_e _ _ _ _ _ _ (by assumption) (by first | assumption | exact ROs.wide (by assumption) | exact ROs.mono (by assumption) (eqh_at 0 rfl p d) | exact ros_at 0 rfl p d | exact ros_at 1 rfl p d | exact ros_at 2 rfl p d | exact ros_at 3 rfl p d | exact ros_at 4 rfl p d) (by first | exact Nat.zero_le _ | assumption) (by first | assumption | omega) (by assumption)) (by repeat' first | exact FL.nil | apply FL.cons) ?_
            refine WL.nilE ?_
            refine WD.takeL 6 rfl (by decide +kernel) ?_
            refine WL.neq rfl rfl rfl ?_
            refine WL.nilT ?_
            refine WD.takeL 7 rfl (by decide +kernel) ?_
            refine WL.mv rfl rfl ?_
            refine WL.nilT ?_
            refine WD.takeL 8 rfl (by decide +kernel) ?_
            refine WL.gF rfl rfl (by omega) ?_
            refine WL.mv rfl rfl ?_
            refine WL.nilT ?_
            refine WD.takeL 10 rfl (by decide +kernel) ?_
            refine WL.gF rfl rfl (by omega) ?_
            refine WL.mv rfl rfl ?_
            refine WL.nilT ?_
            refine WD.oneL 9 rfl (by decide +kernel) ?_
            refine WL.gF rfl rfl (by omega) ?_
            refine WL.callV rfl rfl (fun x p d => left_c _ _ _ _ (by first | assumption | exact In.wide (by assumption) | exact In.mono (by assumption) (eqh_at 0 rfl p d) | exact in_at 0 rfl p d | exact in_at 1 rfl p d | exact in_at 2 rfl p d | exact in_at 3 rfl p d | exact in_at 4 rfl p d) (by first | exact Nat.zero_le _ | assumption | (simp only [pack_len]; omega) | (exact getF_at _ _ _ (by first | exact Nat.zero_le _ | assumption | exact getF_at _ _ _ (by first | exact Nat.zero_le _ | assumption | exact getF_at _ _ _ (by first | exact Nat.zero_le _ | assumption))))) (by first | assumption | omega | (simp only [pack_len, List.length_append, bitsOf_len, List.length_nil, heldF]; omega))) ?_
            refine WL.nilE ?_
            refine WD.oneL 11 rfl (by decide +kernel) ?_
            refine WL.gF rfl rfl (by omega) ?_
            refine WL.callV rfl rfl (fun x p d => rleft_c _ _ _ _ _ (by first | assumption | exact In.wide (by assumption) | exact In.mono (by assumption) (eqh_at 0 rfl p d) | exact in_at 0 rfl p d | exact in_at 1 rfl p d | exact in_at 2 rfl p d | exact in_at 3 rfl p d | exact in_at 4 rfl p d) (by first | assumption | exact ROs.wide (by assumption) | exact ROs.mono (by assumption) (eqh_at 0 rfl p d) | exact ros_at 0 rfl p d | exact ros_at 1 rfl p d | exact ros_at 2 rfl p d | exact ros_at 3 rfl p d | exact ros_at 4 rfl p d) (by first | exact Nat.zero_le _ | assumption | exact getF_at _ _ _ (by first | exact Nat.zero_le _ | assumption)) (by first | assumption | omega)) ?_
            refine WL.nilE ?_
            refine WD.takeL 12 rfl (by decide +kernel) ?_
            refine WL.gF rfl rfl (by omega) ?_
            refine WL.neq rfl rfl rfl ?_
            refine WL.nilT ?_
            refine WD.takeL 13 rfl (by decide +kernel) ?_
            refine WL.pickFp rfl rfl (by omega) rfl ?_
            refine WL.nilT ?_
            refine WD.takeL 14 rfl (by decide +kernel) ?_
            refine WL.mv rfl rfl ?_
            refine WL.nilT ?_
            refine WD.takeL 15 rfl (by decide +kernel) ?_
            refine WL.gF rfl rfl (by omega) ?_
            refine WL.mv rfl rfl ?_
            refine WL.nilT ?_
            refine WD.takeL 17 rfl (by decide +kernel) ?_
            refine WL.gF rfl rfl (by omega) ?_
            refine WL.mv rfl rfl ?_
            refine WL.nilT ?_
            refine WD.takeL 18 rfl (by decide +kernel) ?_
            refine WL.gF rfl rfl (by omega) ?_
            refine WL.nc rfl rfl ?_
            refine WL.nilT ?_
            refine WD.takeL 19 rfl (by decide +kernel) ?_
            refine WL.gF rfl rfl (by omega) ?_
            refine WL.faN (T := Ty) (off' := 2) rfl rfl rfl rfl rfl rfl rfl ?_
            refine WL.nilT ?_
            refine WD.growH hσ2 (fun σ3 hσ3 dσ3 mσ3 => ?_)
            have fσ3_0 := in_at 0 rfl hσ3 dσ3
            refine WD.takeL 20 rfl (by decide +kernel) ?_
            refine WL.gF rfl rfl (by omega) ?_
            refine WL.ldBN (T := Ty) rfl rfl rfl rfl (by first | assumption | exact RB.wide (by assumption) | exact In.rb (by assumption)) rfl ?_
            refine WL.nilT ?_
            refine WD.oneL 16 rfl (by decide +kernel) ?_
            refine WL.gF rfl rfl (by omega) ?_
            refine WL.callV rfl rfl (fun x p d => ok_c _ _ _ _ (by first | assumption | exact In.wide (by assumption) | exact In.mono (by assumption) (eqh_at 0 rfl p d) | exact in_at 0 rfl p d | exact in_at 1 rfl p d | exact in_at 2 rfl p d | exact in_at 3 rfl p d | exact in_at 4 rfl p d)) ?_
            refine WL.nilE ?_
            refine WD.takeL 21 rfl (by decide +kernel) ?_
            refine WL.gF rfl rfl (by omega) ?_
            refine WL.eqB (T := Ty) rfl rfl rfl rfl ?_
            refine WL.nilT ?_
            refine WD.takeL 22 rfl (by decide +kernel) ?_
            refine WL.pickFp rfl rfl (by omega) rfl ?_
            refine WL.nilT ?_
            refine WD.doneF hσ3 (by decide +kernel) (by repeat' first | exact FL.nil | apply FL.cons) ?_
            refine W.condF rfl ?_
            refine W.skip ?_
            refine W.inBlock ?_
            refine W.region ?_
            refine WL.mv rfl rfl ?_
            refine WL.addK rfl rfl rfl (wrap_i64 ⟨by omega, by omega⟩) ?_
            refine WL.as rfl rfl ?_
            refine WL.nil ?_
            refine W.sub ?_ (next1 ⟨i + 1, ⟨ga, false⟩⟩ ⟨by simp only []; omega, hat⟩ (by simp only []; omega))
            exact ⟨rfl, rfl, rfl, rfl, rfl, rfl, rfl, rfl, trivial⟩
        refine W.condp rfl (fun hk => ?_) (fun hk => ?_)
        · refine W.region ?_
          refine WL.mv rfl rfl ?_
          refine WL.andI rfl rfl rfl (by decide) ?_
          refine WL.as rfl rfl ?_
          refine WL.nil ?_
          refine W.sub ?_ (cut1 (z3.getD i 0 % (63 + 1)) trivial)
          exact ⟨rfl, rfl, rfl, rfl, rfl, rfl, rfl, rfl, rfl, trivial⟩
        · refine W.skip ?_
          refine W.sub ?_ (cut1 (z3.getD i 0) trivial)
          exact ⟨rfl, rfl, rfl, rfl, rfl, rfl, rfl, rfl, rfl, trivial⟩
      · refine W.seq ?_
        refine W.seq ?_
        refine W.region ?_
        refine WL.mv rfl rfl ?_
        refine WL.mv rfl rfl ?_
        refine WL.len (T := Ty) rfl rfl (by assumption) rfl ?_
        refine WL.lss rfl rfl rfl ?_
        refine WL.mv rfl rfl ?_
        refine WL.gdTn rfl rfl rfl rfl rfl (by omega) ?_
        refine WL.gdTn rfl rfl rfl rfl rfl (by omega) ?_
        refine WL.pickFp rfl rfl (by omega) rfl ?_
        refine WL.nil ?_
        refine W.condF rfl ?_
        refine W.exit rfl ?_
        refine W.sub ?_ (cut s trivial)
        exact ⟨rfl, rfl, rfl, rfl, rfl, trivial⟩
      · refine W.seq ?_
        refine W.seq ?_
        refine W.region ?_
        refine WL.mv rfl rfl ?_
        refine WL.mv rfl rfl ?_
        refine WL.len (T := Ty) rfl rfl (by assumption) rfl ?_
        refine WL.lss rfl rfl rfl ?_
        refine WL.mv rfl rfl ?_
        refine WL.gT rfl rfl (by omega) ?_
        refine WL.mv rfl rfl ?_
        refine WL.gT rfl rfl (by omega) ?_
        refine WL.lss rfl rfl rfl ?_
        refine WL.pickTp rfl rfl (by omega) rfl ?_
        refine WL.nil ?_
        refine W.condpF rfl (by omega) ?_
        refine W.exit rfl ?_
        refine W.sub ?_ (cut s trivial)
        exact ⟨rfl, rfl, rfl, rfl, rfl, trivial⟩
    · refine W.exit rfl ?_
      refine W.seq ?_
      refine W.region ?_
      refine WL.callT rfl rfl (fun x p d => awake1_c _) ?_
      refine WL.as rfl rfl ?_
      refine WL.nil ?_
      exact W.ret1 rfl rfl (fun h p => rfl)
  refine W.loopS (σ := Nat) (fun i => [(0, v0), (1, v1), (2, v2), (3, v3), (8, .bool false), (9, ptr b0), (10, ptr b1), (11, .int .i64 (i : Int))]) (fun i => [RWr b1 (catG vs (kPlay z1) i), Wr b0 (catG vs (kPlay z1) i)])
    (fun i => i ≤ I) (fun i => I - i) 0 ⟨rfl, rfl, rfl, rfl, rfl, rfl, rfl, rfl, trivial⟩ rfl (by omega) ?_
  intro i hi next
  have hcl := catG_len vs (kPlay z1) i
  have hcb := catG_bit vs (kPlay z1) i
  rcases (by omega : (i < vs.length ∧ i < z1.length ∧ i < 40) ∨ (¬ i < vs.length ∧ i = I) ∨ (i < vs.length ∧ ¬ i < z1.length ∧ i = I) ∨ (i < vs.length ∧ i < z1.length ∧ ¬ i < 40 ∧ i = I)) with ⟨h1, h2, h3⟩ | ⟨h1, rfl⟩ | ⟨h1, h2, rfl⟩ | ⟨h1, h2, h3, rfl⟩
  · have hv := getD_lt hvlt (by decide) i
    refine W.seq ?_
    refine W.seq ?_
    refine W.region ?_
    refine WL.mv rfl rfl ?_
    refine WL.mv rfl rfl ?_
    refine WL.len (T := Ty) rfl rfl (by assumption) rfl ?_
    refine WL.lss rfl rfl rfl ?_
    refine WL.mv rfl rfl ?_
    refine WL.gT rfl rfl (by omega) ?_
    refine WL.mv rfl rfl ?_
    refine WL.gT rfl rfl (by omega) ?_
    refine WL.mv rfl rfl ?_
    refine WL.gT rfl rfl (by omega) ?_
    refine WL.len (T := Ty) rfl rfl (by assumption) rfl ?_
    refine WL.gT rfl rfl (by omega) ?_
    refine WL.lss rfl rfl rfl ?_
    refine WL.pickTp rfl rfl (by omega) rfl ?_
    refine WL.mv rfl rfl ?_
    refine WL.gT rfl rfl (by omega) ?_
    refine WL.mv rfl rfl ?_
    refine WL.gT rfl rfl (by omega) ?_
    refine WL.lss rfl rfl rfl ?_
    refine WL.pickTp rfl rfl (by omega) rfl ?_
    refine WL.nil ?_
    refine W.condpT rfl (by omega) ?_
    refine W.skip ?_
    refine W.seq ?_
    refine W.block ?_
    refine W.seq ?_
    refine W.region ?_
    refine WL.mv rfl rfl ?_
    refine WL.mv rfl rfl ?_
    refine WL.ix (T := Ty) rfl rfl rfl (by assumption) rfl rfl (by omega) (by first | omega | decide +kernel) ?_
    refine WL.ldRz (T := Ty) rfl rfl rfl rfl (by first | assumption | exact ROs.wide (by assumption)) (by first | omega | decide +kernel) ?_
    refine WL.as rfl rfl ?_
    refine WL.nil ?_
    refine W.seq ?_
    refine W.seq ?_
    refine W.region ?_
    refine WL.mv rfl rfl ?_
    refine WL.andI rfl rfl rfl (by decide) ?_
    refine WL.gtr rfl rfl rfl ?_
    refine WL.nil ?_
    refine W.cut (τ := Unit) (fun _ => [(0, v0), (1, v1), (2, v2), (3, v3), (8, .bool false), (9, ptr b0), (10, ptr b1), (11, .int .i64 (i : Int)), (12, .int .i64 (kPlay z1 i))]) (fun _ => [RWr b1 (catG vs (kPlay z1) i), Wr b0 (catG vs (kPlay z1) i)]) (fun _ => True) ?_ (fun cut1 => ?_)
    · intro _ _
      refine W.seq ?_
      refine W.region ?_
      refine WL.mv rfl rfl ?_
      refine WL.mv rfl rfl ?_
      refine WL.mv rfl rfl ?_
      refine WL.ix (T := Ty) rfl rfl rfl (by assumption) rfl rfl (by omega) (by first | omega | decide +kernel) ?_
      refine WL.ldRn (T := Ty) rfl rfl rfl rfl (by first | assumption | exact ROs.wide (by assumption)) (by first | omega | decide +kernel) ?_
      refine WL.mv rfl rfl ?_
      refine WL.callM 1 rfl rfl rfl (fun x p d => put_c _ _ _ _ _ (by omega) (by repeat' first | assumption | exact bok_nil | exact bitsOf_bit _ _ | apply bok_app) (by first | assumption | omega | (simp only [List.length_append, bitsOf_len, List.length_nil, heldF]; omega))) (by repeat' first | exact FL.nil | apply FL.cons) ?_
      refine WL.nil ?_
      refine W.region ?_
      refine WL.mv rfl rfl ?_
      refine WL.mv rfl rfl ?_
      refine WL.mv rfl rfl ?_
      refine WL.ix (T := Ty) rfl rfl rfl (by assumption) rfl rfl (by omega) (by first | omega | decide +kernel) ?_
      refine WL.ldRn (T := Ty) rfl rfl rfl rfl (by first | assumption | exact ROs.wide (by assumption)) (by first | omega | decide +kernel) ?_
      refine WL.mv rfl rfl ?_
      refine WL.callM 0 rfl rfl rfl (fun x p d => rwput_c _ _ _ _ _ (by omega) (by omega)) (by repeat' first | exact FL.nil | apply FL.cons) ?_
      refine WL.nil ?_
      refine W.inBlock ?_
      refine W.region ?_
      refine WL.mv rfl rfl ?_
      refine WL.addK rfl rfl rfl (wrap_i64 ⟨by omega, by omega⟩) ?_
      refine WL.as rfl rfl ?_
      refine WL.nil ?_
      refine W.sub ?_ (next (i + 1) (by omega) (by omega))
      exact ⟨rfl, rfl, rfl, rfl, rfl, rfl, rfl, rfl, trivial⟩
    refine W.condp rfl (fun hk => ?_) (fun hk => ?_)
    · refine W.region ?_
      refine WL.mv rfl rfl ?_
      refine WL.andI rfl rfl rfl (by decide) ?_
      refine WL.as rfl rfl ?_
      refine WL.nil ?_
      have e : kPlay z1 i = z1.getD i 0 % (127 + 1) := if_neg (by omega)
      rw [← e]
      refine W.sub ?_ (cut1 () trivial)
      exact ⟨rfl, rfl, rfl, rfl, rfl, rfl, rfl, rfl, rfl, trivial⟩
    · refine W.skip ?_
      have e : kPlay z1 i = z1.getD i 0 := if_pos (by omega)
      rw [← e]
      refine W.sub ?_ (cut1 () trivial)
      exact ⟨rfl, rfl, rfl, rfl, rfl, rfl, rfl, rfl, rfl, trivial⟩
  · refine W.seq ?_
    refine W.seq ?_
    refine W.region ?_
    refine WL.mv rfl rfl ?_
    refine WL.mv rfl rfl ?_
    refine WL.len (T := Ty) rfl rfl (by assumption) rfl ?_
    refine WL.lss rfl rfl rfl ?_
    refine WL.mv rfl rfl ?_
    refine WL.gdTn rfl rfl rfl rfl rfl (by omega) ?_
    refine WL.gdTn rfl rfl rfl rfl rfl (by omega) ?_
    refine WL.gdTn rfl rfl rfl rfl rfl (by omega) ?_
    refine WL.gdTn rfl rfl rfl rfl rfl (by omega) ?_
    refine WL.pickFp rfl rfl (by omega) rfl ?_
    refine WL.mv rfl rfl ?_
    refine WL.gdN rfl rfl rfl rfl rfl rfl ?_
    refine WL.gdN rfl rfl rfl rfl rfl rfl ?_
    refine WL.pickF rfl rfl rfl ?_
    refine WL.nil ?_
    refine W.condF rfl ?_
    refine W.exit rfl ?_
    refine W.sub ?_ (cut () trivial)
    exact ⟨rfl, rfl, rfl, rfl, rfl, rfl, rfl, trivial⟩
  · refine W.seq ?_
    refine W.seq ?_
    refine W.region ?_
    refine WL.mv rfl rfl ?_
    refine WL.mv rfl rfl ?_
    refine WL.len (T := Ty) rfl rfl (by assumption) rfl ?_
    refine WL.lss rfl rfl rfl ?_
    refine WL.mv rfl rfl ?_
    refine WL.gT rfl rfl (by omega) ?_
    refine WL.mv rfl rfl ?_
    refine WL.gT rfl rfl (by omega) ?_
    refine WL.mv rfl rfl ?_
    refine WL.gT rfl rfl (by omega) ?_
    refine WL.len (T := Ty) rfl rfl (by assumption) rfl ?_
    refine WL.gT rfl rfl (by omega) ?_
    refine WL.lss rfl rfl rfl ?_
    refine WL.pickTp rfl rfl (by omega) rfl ?_
    refine WL.mv rfl rfl ?_
    refine WL.gdTn rfl rfl rfl rfl rfl (by omega) ?_
    refine WL.gdTn rfl rfl rfl rfl rfl (by omega) ?_
    refine WL.pickFp rfl rfl (by omega) rfl ?_
    refine WL.nil ?_
    refine W.condF rfl ?_
    refine W.exit rfl ?_
    refine W.sub ?_ (cut () trivial)
    exact ⟨rfl, rfl, rfl, rfl, rfl, rfl, rfl, trivial⟩
  · refine W.seq ?_
    refine W.seq ?_
    refine W.region ?_
    refine WL.mv rfl rfl ?_
    refine WL.mv rfl rfl ?_
    refine WL.len (T := Ty) rfl rfl (by assumption) rfl ?_
    refine WL.lss rfl rfl rfl ?_
    refine WL.mv rfl rfl ?_
    refine WL.gT rfl rfl (by omega) ?_
    refine WL.mv rfl rfl ?_
    refine WL.gT rfl rfl (by omega) ?_
    refine WL.mv rfl rfl ?_
    refine WL.gT rfl rfl (by omega) ?_
    refine WL.len (T := Ty) rfl rfl (by assumption) rfl ?_
    refine WL.gT rfl rfl (by omega) ?_
    refine WL.lss rfl rfl rfl ?_
    refine WL.pickTp rfl rfl (by omega) rfl ?_
    refine WL.mv rfl rfl ?_
    refine WL.gT rfl rfl (by omega) ?_
    refine WL.mv rfl rfl ?_
    refine WL.gT rfl rfl (by omega) ?_
    refine WL.lss rfl rfl rfl ?_
    refine WL.pickTp rfl rfl (by omega) rfl ?_
    refine WL.nil ?_
    refine W.condpF rfl (by omega) ?_
    refine W.exit rfl ?_
    refine W.sub ?_ (cut () trivial)
    exact ⟨rfl, rfl, rfl, rfl, rfl, rfl, rfl, trivial⟩
end Go.Proofs.Ytimioninoafkhaa
