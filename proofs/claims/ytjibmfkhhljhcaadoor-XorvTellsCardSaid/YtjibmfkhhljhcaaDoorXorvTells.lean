/- XorvTells. -/
import Derived.Test.YtjibmfkhhljhcaaDoorStc
import Derived.Test.YtjibmfkhhljhcaaDoorNum
import Derived.Test.YtjibmfkhhljhcaaDoorTab
import Derived.Test.YtjibmfkhhljhcaaDoorXorvAwake
import Derived.Test.YtjibmfkhhljhcaaDoorValsG
import Derived.Test.YtjibmfkhhljhcaaDoorXorvRefD
set_option linter.unusedSimpArgs false
set_option linter.unusedVariables false
set_option maxRecDepth 20000
set_option maxHeartbeats 4000000
namespace Go.Proofs.YtjibmfkhhljhcaaDoor
open Go
attribute [local irreducible] W WL Fn Buf ROs SL eptr box Rd Src bndOK WD RB Reads In decX encX

theorem XorvTells_fn (ρ : Hp) (hT : TabG ρ) (v0 : Value) (z0 : List Int) (r0 : ROs ρ 1 v0 (z0.map (Value.int .u64))) (m0 : ∀ n ∈ z0, (Lit.int .u64 n).wf = true) (y0 : z0.length * 8 ≤ 140737488351232) (a1 : Int) (w1 : (Lit.int .i64 a1).wf = true) (v2 : Value) (z2 : List Int) (r2 : ROs ρ 1 v2 (z2.map (Value.int .u8))) (m2 : ∀ n ∈ z2, (Lit.int .u8 n).wf = true) (y2 : z2.length * 1 ≤ 140737488351232) (a3 : Int) (w3 : (Lit.int .i64 a3).wf = true) (a4 : Int) (w4 : (Lit.int .u8 a4).wf = true) (a5 : Int) (w5 : (Lit.int .i64 a5).wf = true) :
    Fn Tryd.prog 4 #[v0, .int .i64 a1, v2, .int .i64 a3, .int .u8 a4, .int .i64 a5] ρ [] (fun r _ => r = .bool true) := by
  obtain ⟨l, hl, hll, hlw⟩ := words_of m0
  rw [hl] at r0
  have s0 := r0.slm
  obtain ⟨raw, hraw, hrl, hrlt⟩ := bytes_of m2
  rw [hraw] at r2
  have s2 := r2.slm
  have hy := wf_u8 w4
  obtain ⟨by', rfl⟩ := Int.eq_ofNat_of_zero_le hy.1
  refine in4 rfl rfl ?_
  refine W.seq ?_
  refine W.region ?_
  refine WL.as rfl rfl ?_
  refine WL.nil ?_
  refine W.seq ?_
  refine W.seq ?_
  refine W.region ?_
  refine WL.mv rfl rfl ?_
  refine WL.len (T := Ty) rfl rfl (by assumption) rfl ?_
  refine WL.gtr rfl rfl rfl ?_
  refine WL.nil ?_
  refine W.condp rfl (fun hbig => ?_) (fun hsm => ?_)
  · refine W.seq ?_
    refine W.region ?_
    refine WL.callT rfl rfl (fun x p d => awake5_c _ (TabG.wide (by assumption))) ?_
    refine WL.as rfl rfl ?_
    refine WL.nil ?_
    exact W.ret1 rfl rfl (fun h p => rfl)
  refine W.skip ?_
  refine W.seq ?_
  refine W.region ?_
  refine WL.mv rfl rfl ?_
  refine WL.mv rfl rfl ?_
  refine WL.callF rfl rfl (fun x p d => vals_c _ _ _ _ (by first | assumption | exact ROs.wide (by assumption) | exact ROs.mono (by assumption) (eqh_at 0 rfl p d) | exact ros_at 0 rfl p d | exact ros_at 1 rfl p d | exact ros_at 2 rfl p d | exact ros_at 3 rfl p d | exact ros_at 4 rfl p d) (by first | assumption | omega | decide) (by first | assumption | omega | decide)) (fun u0 => ?_)
  refine WL.ex (fun vs => ?_)
  refine WL.pure (fun hvs => ?_)
  refine WL.fact (i := 0) rfl (fun h hb => Buf.slm hb) (fun hsl0 => ?_)
  refine WL.as rfl rfl ?_
  refine WL.nil ?_
  refine W.seq ?_
  refine W.region ?_
  refine WL.callF rfl rfl (fun x p d => newWriter_c _) (fun r => ?_)
  refine WL.ex (fun b1 => ?_)
  refine WL.pure (fun er => ?_)
  subst er
  refine WL.bdC (T := Ty) rfl rfl rfl rfl (by repeat' first | exact CO.nil | apply CO.one (by first | rfl | exact SL.one (by assumption)) | apply CO.agg) rfl (by repeat' first | exact FL.nil | apply FL.cons) ?_
  refine WL.bxF rfl rfl (by repeat' first | exact FL.nil | apply FL.cons) (fun b2 => ?_)
  refine WL.as rfl rfl ?_
  refine WL.as rfl rfl ?_
  refine WL.nil ?_
  refine W.seq ?_
  refine W.seq ?_
  refine W.region ?_
  refine WL.mv rfl rfl ?_
  refine WL.eqP (T := Ty) rfl rfl rfl ?_
  refine WL.nil ?_
  refine W.condF rfl ?_
  refine W.skip ?_
  refine W.seq ?_
  refine W.region ?_
  refine WL.mv rfl rfl ?_
  refine WL.mv rfl rfl ?_
  obtain ⟨hv1, hv2⟩ := hvs
  have htl : vs.length ≤ 70000 := by omega
  refine WL.intoRWr rfl ?_
  have hb := encX_bit vs
  have hel := encX_len vs hv2
  have hb0 : ∀ d ∈ [] ++ encX vs, d < 2 := bok_app bok_nil hb
  have hl0' : ([] ++ encX vs).length ≤ 2199023255552 := by rw [List.nil_append]; omega
  refine WL.callM 1 rfl rfl rfl (fun x p d => xenc_c _ _ _ _ _ (by first | assumption | exact ROs.wide (by assumption) | exact ROs.mono (by assumption) (eqh_at 0 rfl p d) | exact ros_at 0 rfl p d | exact ros_at 1 rfl p d | exact ros_at 2 rfl p d | exact ros_at 3 rfl p d | exact ros_at 4 rfl p d) (by first | assumption | exact bok_nil) (by first | assumption | omega | exact Nat.zero_le _ | decide) (by first | assumption | omega | decide) (by first | assumption | omega | decide) (TabG.wide (by assumption))) (by repeat' first | exact FL.nil | apply FL.cons) ?_
  refine WL.nil ?_
  refine W.seq ?_
  refine W.region ?_
  refine WL.mv rfl rfl ?_
  refine WL.mv rfl rfl ?_
  refine WL.callM 0 rfl rfl rfl (fun x p d => rvalues_c _ _ _ _ _ (by first | assumption | exact ROs.wide (by assumption) | exact ROs.mono (by assumption) (eqh_at 0 rfl p d) | exact ros_at 0 rfl p d | exact ros_at 1 rfl p d | exact ros_at 2 rfl p d | exact ros_at 3 rfl p d | exact ros_at 4 rfl p d) (by first | assumption | omega | exact Nat.zero_le _ | decide) (by first | assumption | omega | decide) (by first | assumption | omega | decide)) (by repeat' first | exact FL.nil | apply FL.cons) ?_
  refine WL.nil ?_
  refine W.seq ?_
  refine W.seq ?_
  refine W.freezeAll (fun ρ1 le1 hin => ?_)
  have in1 := hin 0 _ rfl
  have in2 := hin 1 _ rfl
  have r5 := (hin 2 _ rfl).ros
  replace r2 := r2.mono le1
  replace hT := hT.mono le1
  obtain ⟨xv, hx⟩ := in1.ex
  have rbx := hx.head.1.rb
  have rox := hx.head.2.head.1.ros
  have slx := rox.slm
  have s5 := r5.slm
  have hlx : ((([] ++ encX vs).length : Nat) : Int) = ((encX vs).length : Int) := by rw [List.nil_append]
  have hstr : strN (pack (encX vs)) = strN (pack ([] ++ encX vs)) := by rw [List.nil_append]
  have hl1' : (encX vs).length ≤ 2199023255552 := by omega
  obtain ⟨bs, hbs⟩ : ∃ bs, bs = pack ([] ++ encX vs) := ⟨_, rfl⟩
  have hpl := pack_len ([] ++ encX vs)
  have hw2 := pack_lt _ hb0
  refine W.drawA 17 rfl (fun σ0 hσ0 dσ0 => ?_)
  refine WD.takeL 0 rfl (by decide +kernel) ?_
  refine WL.mv rfl rfl ?_
  refine WL.nilT ?_
  refine WD.takeL 2 rfl (by decide +kernel) ?_
  refine WL.mv rfl rfl ?_
  refine WL.nilT ?_
  refine WD.takeL 3 rfl (by decide +kernel) ?_
  refine WL.nc rfl rfl ?_
  refine WL.nilT ?_
  refine WD.takeL 4 rfl (by decide +kernel) ?_
  refine WL.faN (T := Ty) (off' := 0) rfl rfl rfl rfl rfl rfl rfl ?_
  refine WL.nilT ?_
  refine WD.takeL 5 rfl (by decide +kernel) ?_
  refine WL.ldBN (T := Ty) rfl rfl rfl rfl (by first | assumption | exact RB.wide (by assumption) | exact In.rb (by assumption)) rfl ?_
  refine WL.nilT ?_
  refine WD.takeL 6 rfl (by decide +kernel) ?_
  refine WL.len (T := Ty) rfl rfl (by assumption) rfl ?_
  refine WL.nilT ?_
  refine WD.oneL 1 rfl (by decide +kernel) ?_
  refine WL.callV rfl rfl (fun x p d => len_c _ _ _ (by first | assumption | exact In.wide (by assumption) | exact In.mono (by assumption) (eqh_at 0 rfl p d) | exact in_at 0 rfl p d | exact in_at 1 rfl p d | exact in_at 2 rfl p d | exact in_at 3 rfl p d | exact in_at 4 rfl p d)) ?_
  refine WL.nilE ?_
  refine WD.takeL 7 rfl (by decide +kernel) ?_
  refine WL.neq rfl rfl rfl ?_
  refine WL.nilT ?_
  refine WD.takeL 8 rfl (by decide +kernel) ?_
  refine WL.mv rfl rfl ?_
  refine WL.nilT ?_
  refine WD.takeL 9 rfl (by decide +kernel) ?_
  refine WL.gF rfl rfl (by omega) ?_
  refine WL.mv rfl rfl ?_
  refine WL.nilT ?_
  refine WD.takeL 12 rfl (by decide +kernel) ?_
  refine WL.gF rfl rfl (by omega) ?_
  refine WL.mv rfl rfl ?_
  refine WL.nilT ?_
  refine WD.oneL 10 rfl (by decide +kernel) ?_
  refine WL.gF rfl rfl (by omega) ?_
  refine WL.callF rfl rfl (fun x p d => bytes_c _ _ _ (by first | assumption | exact In.wide (by assumption) | exact In.mono (by assumption) (eqh_at 0 rfl p d) | exact in_at 0 rfl p d | exact in_at 1 rfl p d | exact in_at 2 rfl p d | exact in_at 3 rfl p d | exact in_at 4 rfl p d) (by first | assumption | omega | (simp only [List.length_append, bitsOf_len, List.length_nil, heldF]; omega))) (fun u3 => ?_)
  refine WL.fact (i := 0) rfl (fun h hb => Buf.slm hb) (fun hsl3 => ?_)
  refine WL.nilH hσ0 (fun σ1 hσ1 dσ1 mσ1 => ?_)
  have fσ1_0 := ros_at 0 rfl hσ1 dσ1
  refine WD.takeL 11 rfl (by decide +kernel) ?_
  refine WL.gF rfl rfl (by omega) ?_
  refine WL.b2sRN (T := Ty) rfl rfl rfl rfl rfl rfl rfl (by assumption) ?_
  refine WL.nilT ?_
  refine WD.oneL 13 rfl (by decide +kernel) ?_
  refine WL.gF rfl rfl (by omega) ?_
  refine WL.callF rfl rfl (fun x p d => rwbytes_c _ _ _ (by repeat' first | assumption | exact bok_nil | exact bitsOf_bit _ _ | apply bok_app) (by first | assumption | exact In.wide (by assumption) | exact In.mono (by assumption) (eqh_at 0 rfl p d) | exact in_at 0 rfl p d | exact in_at 1 rfl p d | exact in_at 2 rfl p d | exact in_at 3 rfl p d | exact in_at 4 rfl p d) (by first | omega | (simp only [List.length_append, bitsOf_len, List.length_nil, heldF]; omega))) (fun u4 => ?_)
  refine WL.fact (i := 0) rfl (fun h hb => Buf.slm hb) (fun hsl4 => ?_)
  refine WL.nilH hσ1 (fun σ2 hσ2 dσ2 mσ2 => ?_)
  have fσ1_0 := fσ1_0.mono mσ2
  have fσ2_0 := ros_at 0 rfl hσ2 dσ2
  refine WD.takeL 14 rfl (by decide +kernel) ?_
  refine WL.gF rfl rfl (by omega) ?_
  refine WL.b2sRN (T := Ty) rfl rfl rfl rfl rfl rfl rfl (by assumption) ?_
  refine WL.nilT ?_
  refine WD.takeL 15 rfl (by decide +kernel) ?_
  refine WL.gF rfl rfl (by omega) ?_
  refine WL.neST rfl rfl rfl (by first | with_reducible rfl | assumption) ?_
  refine WL.nilT ?_
  refine WD.takeL 16 rfl (by decide +kernel) ?_
  refine WL.pickFp rfl rfl (by omega) rfl ?_
  refine WL.nilT ?_
  refine WD.doneF hσ2 (by decide +kernel) (by repeat' first | exact FL.nil | apply FL.cons) ?_
  refine W.condF rfl ?_
  refine W.skip ?_
  refine W.seq ?_
  refine W.region ?_
  refine WL.mv rfl rfl ?_
  refine WL.callF rfl rfl (fun x p d => rwbytes_c _ _ _ (by repeat' first | assumption | exact bok_nil | exact bitsOf_bit _ _ | apply bok_app) (by first | assumption | exact In.wide (by assumption) | exact In.mono (by assumption) (eqh_at 0 rfl p d) | exact in_at 0 rfl p d | exact in_at 1 rfl p d | exact in_at 2 rfl p d | exact in_at 3 rfl p d | exact in_at 4 rfl p d) (by first | omega | (simp only [List.length_append, bitsOf_len, List.length_nil, heldF]; omega))) (fun u5 => ?_)
  refine WL.fact (i := 0) rfl (fun h hb => Buf.slm hb) (fun hsl5 => ?_)
  refine WL.as rfl rfl ?_
  refine WL.nil ?_
  refine W.seq ?_
  refine W.region ?_
  refine WL.bsC (T := Ty) rfl rfl rfl rfl rfl rfl rfl (by repeat' first | exact CO.nil | apply CO.one (by first | rfl | exact SL.one (by assumption)) | apply CO.agg) rfl (by repeat' first | exact FL.nil | apply FL.cons) (fun u6 hu6 => ?_)
  refine WL.mv rfl rfl ?_
  refine WL.apN (T := Ty) (i := 0) rfl rfl rfl rfl rfl rfl rfl (by first | exact .ro (by assumption) | exact .ro (ROs.wide (by assumption)) | exact .eqJ 0 rfl (by assumption) | exact .own 0 rfl | exact .own 1 rfl | exact .own 2 rfl | exact .own 3 rfl | exact .own 4 rfl | exact .own 5 rfl) (by first | assumption | exact ROs.slm (by assumption)) (fun _ => rfl) (by first | omega | (simp; omega)) (by first | omega | (simp; omega)) (fun v' => (by repeat' first | exact FL.nil | apply FL.cons)) (fun u7 hu7 => ?_)
  refine WL.as rfl rfl ?_
  refine WL.nil ?_
  refine W.seq ?_
  refine W.region ?_
  refine WL.as rfl rfl ?_
  refine WL.nil ?_
  refine W.seq ?_
  refine W.seq ?_
  refine W.region ?_
  refine WL.mv rfl rfl ?_
  refine WL.len (T := Ty) rfl rfl (by assumption) rfl ?_
  refine WL.gtr rfl rfl rfl ?_
  refine WL.nil ?_
  rw [← hbs] at hpl hw2 ⊢
  refine W.drop 2 rfl (by repeat' first | exact FL.nil | apply FL.cons) ?_
  refine W.drop 2 rfl (by repeat' first | exact FL.nil | apply FL.cons) ?_
  refine W.cut (τ := Nat × List Nat) (fun s => [(2, v2), (4, .int .u8 (by' : Int)), (5, .int .i64 a5), (12, .bool false), (13, u0), (16, u5), (17, u7), (18, .int .i64 (s.1 : Int))]) (fun s => [Buf 1 u7 (s.2.map bcell), Buf 1 u5 (bs.map bcell)])
    (fun s => s.1 ≤ bs.length ∧ s.2.length = bs.length ∧ ∀ x ∈ s.2, x < 256) ?_ (fun cut => ?_)
  · rintro ⟨k, U⟩ ⟨hk, hUl, hU⟩
    simp only [] at hk hUl hU ⊢
    refine W.freezeAll (fun ρ2 le2 hin => ?_)
    have r3 := (hin 0 _ rfl).ros
    have r4 := (hin 1 _ rfl).ros
    replace r5 := r5.mono le2
    replace r2 := r2.mono le2
    replace hT := hT.mono le2
    have s3 := r3.slm
    have s4 := r4.slm
    refine W.seq ?_
    refine W.seq ?_
    refine W.region ?_
    refine WL.mv rfl rfl ?_
    refine WL.mv rfl rfl ?_
    refine WL.mv rfl rfl ?_
    refine WL.mv rfl rfl ?_
    refine WL.mv rfl rfl ?_
    refine WL.slTn (T := Ty) rfl rfl rfl rfl rfl (by first | assumption | exact ROs.wide (by assumption)) (by first | assumption | omega | (simp; omega)) (fun u8 hu8 ru8 => ?_)
    refine WL.bsC (T := Ty) rfl rfl rfl rfl rfl rfl rfl (by repeat' first | exact CO.nil | apply CO.one (by first | rfl | exact SL.one (by assumption)) | apply CO.agg) rfl (by repeat' first | exact FL.nil | apply FL.cons) (fun u9 hu9 => ?_)
    refine WL.len (T := Ty) rfl rfl (by assumption) rfl ?_
    refine WL.mv rfl rfl ?_
    refine WL.nil ?_
    refine W.block ?_
    refine W.freeze 0 rfl (by repeat' first | exact FL.nil | apply FL.cons) (fun ρ3 le3 in3 => ?_)
    have q3 := in3.ros
    replace r2 := r2.mono le3
    replace hT := hT.mono le3
    replace r3 := r3.mono le3
    replace r4 := r4.mono le3
    replace r5 := r5.mono le3
    have q1 := ru8.mono le3
    have rows : ∀ r ∈ [v2, u5, u7, u8], ∃ cb : List Nat, ROs ρ3 1 r (cb.map bcell) ∧ (∀ x ∈ cb, x < 256) ∧ cb.length ≤ 140737488355328 := by
      intro r hr
      simp only [List.mem_cons, List.not_mem_nil, or_false] at hr
      rcases hr with rfl | rfl | rfl | rfl
      · exact ⟨raw, r2, hrlt, by omega⟩
      · exact ⟨bs, r4, hw2, by omega⟩
      · exact ⟨U, r3, hU, by omega⟩
      · exact ⟨bs.take k, q1, fun x hx => hw2 x (List.mem_of_mem_take hx), by simp; omega⟩
    refine W.loopS (σ := Nat) (fun i => [(5, .int .i64 a5), (12, .bool false), (13, u0), (87, u9), (88, .int .i64 4), (89, .int .i64 (i : Int))]) (fun _ => [])
      (fun i => i ≤ 4) (fun i => 4 - i) 0 ⟨rfl, rfl, rfl, rfl, rfl, rfl, trivial⟩ rfl (by omega) ?_
    intro i hi next
    refine W.seq ?_
    refine W.region ?_
    refine WL.lss rfl rfl rfl ?_
    refine WL.nil ?_
    refine W.seq ?_
    refine W.condp rfl (fun hlt => ?_) (fun hge => ?_)
    · have hi4 : i < [v2, u5, u7, u8].length := by simp; omega
      obtain ⟨cv, hcv⟩ : ∃ cv, [v2, u5, u7, u8][i]? = some cv := ⟨_, List.getElem?_eq_getElem hi4⟩
      obtain ⟨cb, rc, hcw, hcl⟩ := rows cv (List.mem_of_getElem? hcv)
      have slc := rc.slm
      refine W.skip ?_
      refine W.seq ?_
      refine W.block ?_
      refine W.seq ?_
      refine W.region ?_
      refine WL.ix (T := Ty) rfl rfl rfl (by assumption) rfl rfl (by omega) (by first | omega | decide +kernel) ?_
      refine WL.ldKn (T := Ty) rfl rfl rfl rfl (by first | assumption | exact ROs.wide (by assumption)) (by assumption) ?_
      refine WL.as rfl rfl ?_
      refine WL.nil ?_
      refine W.seq ?_
      refine W.region ?_
      refine WL.mv rfl rfl ?_
      refine WL.mv rfl rfl ?_
      refine WL.andI rfl rfl rfl (by decide) ?_
      refine WL.mv rfl rfl ?_
      refine WL.len (T := Ty) rfl rfl (by assumption) rfl ?_
      refine WL.bsC (T := Ty) rfl rfl rfl rfl rfl rfl rfl (by repeat' first | exact CO.nil | apply CO.one (by first | rfl | exact SL.one (by assumption)) | apply CO.agg) rfl (by repeat' first | exact FL.nil | apply FL.cons) (fun u10 hu10 => ?_)
      refine WL.reC (Value.int .i64) [a5, a5 % (63 + 1), ↑vs.length, -1] rfl ?_
      refine WL.len (T := Ty) rfl rfl (by assumption) rfl ?_
      refine WL.mv rfl rfl ?_
      refine WL.nil ?_
      refine W.block ?_
      refine W.loopS (σ := Nat) (fun j => [(5, .int .i64 a5), (12, .bool false), (13, u0), (20, cv), (87, u9), (88, .int .i64 4), (89, .int .i64 (i : Int)), (98, u10), (99, .int .i64 4), (100, .int .i64 (j : Int))]) (fun _ => [Buf 1 u10 [.int .i64 a5, .int .i64 (a5 % (63 + 1)), .int .i64 (vs.length : Int), .int .i64 (-1)]])
        (fun j => j ≤ 4) (fun j => 4 - j) 0 ⟨rfl, rfl, rfl, rfl, rfl, rfl, rfl, rfl, rfl, rfl, trivial⟩ rfl (by omega) ?_
      intro j hj next2
      refine W.seq ?_
      refine W.region ?_
      refine WL.lss rfl rfl rfl ?_
      refine WL.nil ?_
      refine W.seq ?_
      refine W.condp rfl (fun hlt4 => ?_) (fun hge4 => ?_)
      · obtain ⟨m, hm⟩ : ∃ m : Int, [Value.int .i64 a5, .int .i64 (a5 % (63 + 1)), .int .i64 (vs.length : Int), .int .i64 (-1)][j]? = some (.int .i64 m) := by
          rcases (by omega : j = 0 ∨ j = 1 ∨ j = 2 ∨ j = 3) with rfl | rfl | rfl | rfl
          all_goals exact ⟨_, rfl⟩
        rcases hdec : decX cb ⟨0, false⟩ m with _ | ⟨ys, ⟨ya, yb⟩⟩
        · refine W.skip ?_
          refine W.seq ?_
          refine W.block ?_
          refine W.seq ?_
          refine W.region ?_
          refine WL.ix (T := Ty) rfl rfl rfl (by assumption) rfl rfl (by omega) (by first | omega | decide +kernel) ?_
          refine WL.ldEK (T := Ty) (j := 0) rfl rfl rfl rfl rfl (by assumption) (by omega) ?_
          refine WL.as rfl rfl ?_
          refine WL.nil ?_
          refine W.seq ?_
          refine W.region ?_
          refine WL.mv rfl rfl ?_
          refine WL.callF rfl rfl (fun x p d => newReader_c _ _ _ (by first | assumption | exact ROs.wide (by assumption) | exact ROs.mono (by assumption) (eqh_at 0 rfl p d) | exact ros_at 0 rfl p d | exact ros_at 1 rfl p d | exact ros_at 2 rfl p d | exact ros_at 3 rfl p d | exact ros_at 4 rfl p d) (by first | assumption | omega | (simp only [pack_len, List.length_append, bitsOf_len, List.length_nil, heldF]; omega))) (fun r => ?_)
          refine WL.ex (fun b11 => ?_)
          refine WL.pure (fun er => ?_)
          subst er
          refine WL.mv rfl rfl ?_
          refine WL.bdC (T := Ty) rfl rfl rfl rfl (by repeat' first | exact CO.nil | apply CO.one (by first | rfl | exact SL.one (by assumption)) | apply CO.agg) rfl (by repeat' first | exact FL.nil | apply FL.cons) ?_
          refine WL.bxF rfl rfl (by repeat' first | exact FL.nil | apply FL.cons) (fun b12 => ?_)
          refine WL.as rfl rfl ?_
          refine WL.as rfl rfl ?_
          refine WL.nil ?_
          refine W.seq ?_
          refine W.seq ?_
          refine W.region ?_
          refine WL.mv rfl rfl ?_
          refine WL.eqP (T := Ty) rfl rfl rfl ?_
          refine WL.nil ?_
          refine W.condF rfl ?_
          refine W.skip ?_
          refine W.seq ?_
          refine W.region ?_
          refine WL.mv rfl rfl ?_
          refine WL.mv rfl rfl ?_
          refine WL.callP 1 rfl rfl rfl (fun x p d => xdec_n _ _ _ _ _ (by assumption) (by first | assumption | exact Nat.zero_le _) (by first | assumption | omega | decide) (by assumption) (TabG.wide (by assumption))) (by repeat' first | exact FL.nil | apply FL.cons) (fun r => ?_)
          refine WL.ex (fun u13 => ?_)
          refine WL.pure (fun er => ?_)
          subst er
          refine WL.ex (fun q13 => ?_)
          refine WL.pure (fun hq13 => ?_)
          refine WL.open ?_
          refine WL.fact (i := 0) rfl (fun h hb => Buf.slm hb) (fun hsl13 => ?_)
          refine WL.mv rfl rfl ?_
          refine WL.extL rfl rfl rfl ?_
          refine WL.extL rfl rfl rfl ?_
          refine WL.as rfl rfl ?_
          refine WL.as rfl rfl ?_
          refine WL.nil ?_
          refine W.seq ?_
          refine W.region ?_
          refine WL.mv rfl rfl ?_
          refine WL.mv rfl rfl ?_
          refine WL.callP 2 rfl rfl rfl (fun x p d => rgetx_n _ _ _ _ _ _ (by first | assumption | exact ROs.wide (by assumption) | exact ROs.mono (by assumption) (eqh_at 0 rfl p d) | exact ros_at 0 rfl p d | exact ros_at 1 rfl p d | exact ros_at 2 rfl p d | exact ros_at 3 rfl p d | exact ros_at 4 rfl p d) (by assumption) (by first | assumption | exact Nat.zero_le _) (by first | assumption | omega | decide) (by assumption)) (by repeat' first | exact FL.nil | apply FL.cons) (fun r => ?_)
          refine WL.ex (fun u14 => ?_)
          refine WL.pure (fun er => ?_)
          subst er
          refine WL.ex (fun q14 => ?_)
          refine WL.pure (fun hq14 => ?_)
          refine WL.open ?_
          refine WL.fact (i := 0) rfl (fun h hb => Buf.slm hb) (fun hsl14 => ?_)
          refine WL.mv rfl rfl ?_
          refine WL.extL rfl rfl rfl ?_
          refine WL.extL rfl rfl rfl ?_
          refine WL.as rfl rfl ?_
          refine WL.as rfl rfl ?_
          refine WL.nil ?_
          refine W.seq ?_
          refine W.region ?_
          refine WL.mv rfl rfl ?_
          refine WL.mv rfl rfl ?_
          refine WL.neB (T := Ty) rfl rfl rfl rfl ?_
          refine WL.mv rfl rfl ?_
          refine WL.gY rfl rfl ?_
          refine WL.mv rfl rfl ?_
          refine WL.gY rfl rfl ?_
          refine WL.mv rfl rfl ?_
          refine WL.gY rfl rfl ?_
          refine WL.callV rfl rfl (fun x p d => samew_t _ _ _ _ _ (by first | with_reducible rfl | assumption) (by first | assumption | exact ROs.wide (by assumption) | exact ROs.mono (by assumption) (eqh_at 0 rfl p d) | exact ros_at 0 rfl p d | exact ros_at 1 rfl p d | exact ros_at 2 rfl p d | exact ros_at 3 rfl p d | exact ros_at 4 rfl p d) (by first | assumption | exact ROs.wide (by assumption) | exact ROs.mono (by assumption) (eqh_at 0 rfl p d) | exact ros_at 0 rfl p d | exact ros_at 1 rfl p d | exact ros_at 2 rfl p d | exact ros_at 3 rfl p d | exact ros_at 4 rfl p d) (by first | assumption | omega | exact Nat.zero_le _ | decide)) ?_
          refine WL.gY rfl rfl ?_
          refine WL.not rfl rfl ?_
          refine WL.pickF rfl rfl rfl ?_
          refine WL.mv rfl rfl ?_
          refine WL.gY rfl rfl ?_
          refine WL.mv rfl rfl ?_
          refine WL.gY rfl rfl ?_
          refine WL.mv rfl rfl ?_
          refine WL.gdN rfl rfl rfl rfl rfl rfl ?_
          refine WL.gdN rfl rfl rfl rfl rfl rfl ?_
          refine WL.gdN rfl rfl rfl rfl rfl rfl ?_
          refine WL.gdN rfl rfl rfl rfl rfl rfl ?_
          refine WL.gdN rfl rfl rfl rfl rfl rfl ?_
          refine WL.gY rfl rfl ?_
          refine WL.pickF rfl rfl rfl ?_
          refine WL.pickF rfl rfl rfl ?_
          refine WL.nil ?_
          refine W.condF rfl ?_
          refine W.skip ?_
          refine W.inBlock ?_
          refine W.region ?_
          refine WL.addK rfl rfl rfl (wrap_i64 ⟨by omega, by omega⟩) ?_
          refine WL.mv rfl rfl ?_
          refine WL.nil ?_
          refine W.drop 0 rfl (by repeat' first | exact FL.nil | apply FL.cons) ?_
          refine W.drop 0 rfl (by repeat' first | exact FL.nil | apply FL.cons) ?_
          refine W.drop 0 rfl (by repeat' first | exact FL.nil | apply FL.cons) ?_
          refine W.drop 0 rfl (by repeat' first | exact FL.nil | apply FL.cons) ?_
          refine W.sub ?_ (next2 (j + 1) (by omega) (by omega))
          exact ⟨rfl, rfl, rfl, rfl, rfl, rfl, rfl, rfl, rfl, rfl, trivial⟩
        · obtain ⟨hya, hyl, hyw⟩ := decX_at (Nat.zero_le _) hdec
          have hyl2 : ys.length ≤ 17592186044416 := by have := heldM_le m; omega
          refine W.skip ?_
          refine W.seq ?_
          refine W.block ?_
          refine W.seq ?_
          refine W.region ?_
          refine WL.ix (T := Ty) rfl rfl rfl (by assumption) rfl rfl (by omega) (by first | omega | decide +kernel) ?_
          refine WL.ldEK (T := Ty) (j := 0) rfl rfl rfl rfl rfl (by assumption) (by omega) ?_
          refine WL.as rfl rfl ?_
          refine WL.nil ?_
          refine W.seq ?_
          refine W.region ?_
          refine WL.mv rfl rfl ?_
          refine WL.callF rfl rfl (fun x p d => newReader_c _ _ _ (by first | assumption | exact ROs.wide (by assumption) | exact ROs.mono (by assumption) (eqh_at 0 rfl p d) | exact ros_at 0 rfl p d | exact ros_at 1 rfl p d | exact ros_at 2 rfl p d | exact ros_at 3 rfl p d | exact ros_at 4 rfl p d) (by first | assumption | omega | (simp only [pack_len, List.length_append, bitsOf_len, List.length_nil, heldF]; omega))) (fun r => ?_)
          refine WL.ex (fun b11 => ?_)
          refine WL.pure (fun er => ?_)
          subst er
          refine WL.mv rfl rfl ?_
          refine WL.bdC (T := Ty) rfl rfl rfl rfl (by repeat' first | exact CO.nil | apply CO.one (by first | rfl | exact SL.one (by assumption)) | apply CO.agg) rfl (by repeat' first | exact FL.nil | apply FL.cons) ?_
          refine WL.bxF rfl rfl (by repeat' first | exact FL.nil | apply FL.cons) (fun b12 => ?_)
          refine WL.as rfl rfl ?_
          refine WL.as rfl rfl ?_
          refine WL.nil ?_
          refine W.seq ?_
          refine W.seq ?_
          refine W.region ?_
          refine WL.mv rfl rfl ?_
          refine WL.eqP (T := Ty) rfl rfl rfl ?_
          refine WL.nil ?_
          refine W.condF rfl ?_
          refine W.skip ?_
          refine W.seq ?_
          refine W.region ?_
          refine WL.mv rfl rfl ?_
          refine WL.mv rfl rfl ?_
          refine WL.callP 1 rfl rfl rfl (fun x p d => xdec_s _ _ _ _ _ (by assumption) (by first | assumption | exact Nat.zero_le _) (by first | assumption | omega | decide) (by assumption) (TabG.wide (by assumption))) (by repeat' first | exact FL.nil | apply FL.cons) (fun r => ?_)
          refine WL.ex (fun u13 => ?_)
          refine WL.pure (fun er => ?_)
          subst er
          refine WL.open ?_
          refine WL.fact (i := 0) rfl (fun h hb => Buf.slm hb) (fun hsl13 => ?_)
          refine WL.mv rfl rfl ?_
          refine WL.extL rfl rfl rfl ?_
          refine WL.extL rfl rfl rfl ?_
          refine WL.as rfl rfl ?_
          refine WL.as rfl rfl ?_
          refine WL.nil ?_
          refine W.seq ?_
          refine W.region ?_
          refine WL.mv rfl rfl ?_
          refine WL.mv rfl rfl ?_
          refine WL.callP 2 rfl rfl rfl (fun x p d => rgetx_s _ _ _ _ _ _ (by first | assumption | exact ROs.wide (by assumption) | exact ROs.mono (by assumption) (eqh_at 0 rfl p d) | exact ros_at 0 rfl p d | exact ros_at 1 rfl p d | exact ros_at 2 rfl p d | exact ros_at 3 rfl p d | exact ros_at 4 rfl p d) (by assumption) (by first | assumption | exact Nat.zero_le _) (by first | assumption | omega | decide) (by assumption)) (by repeat' first | exact FL.nil | apply FL.cons) (fun r => ?_)
          refine WL.ex (fun u14 => ?_)
          refine WL.pure (fun er => ?_)
          subst er
          refine WL.open ?_
          refine WL.fact (i := 0) rfl (fun h hb => Buf.slm hb) (fun hsl14 => ?_)
          refine WL.mv rfl rfl ?_
          refine WL.extL rfl rfl rfl ?_
          refine WL.extL rfl rfl rfl ?_
          refine WL.as rfl rfl ?_
          refine WL.as rfl rfl ?_
          refine WL.nil ?_
          refine W.seq ?_
          refine W.region ?_
          refine WL.mv rfl rfl ?_
          refine WL.mv rfl rfl ?_
          refine WL.neB (T := Ty) rfl rfl rfl rfl ?_
          refine WL.mv rfl rfl ?_
          refine WL.gY rfl rfl ?_
          refine WL.mv rfl rfl ?_
          refine WL.gY rfl rfl ?_
          refine WL.mv rfl rfl ?_
          refine WL.gY rfl rfl ?_
          refine WL.callV rfl rfl (fun x p d => samew_t _ _ _ _ _ (by first | with_reducible rfl | assumption) (by first | assumption | exact ROs.wide (by assumption) | exact ROs.mono (by assumption) (eqh_at 0 rfl p d) | exact ros_at 0 rfl p d | exact ros_at 1 rfl p d | exact ros_at 2 rfl p d | exact ros_at 3 rfl p d | exact ros_at 4 rfl p d) (by first | assumption | exact ROs.wide (by assumption) | exact ROs.mono (by assumption) (eqh_at 0 rfl p d) | exact ros_at 0 rfl p d | exact ros_at 1 rfl p d | exact ros_at 2 rfl p d | exact ros_at 3 rfl p d | exact ros_at 4 rfl p d) (by first | assumption | omega | exact Nat.zero_le _ | decide)) ?_
          refine WL.gY rfl rfl ?_
          refine WL.not rfl rfl ?_
          refine WL.pickF rfl rfl rfl ?_
          refine WL.mv rfl rfl ?_
          refine WL.gY rfl rfl ?_
          refine WL.mv rfl rfl ?_
          refine WL.gY rfl rfl ?_
          refine WL.mv rfl rfl ?_
          refine WL.gY rfl rfl ?_
          refine WL.mv rfl rfl ?_
          refine WL.gY rfl rfl ?_
          refine WL.callV rfl rfl (fun x p d => left_c _ _ _ _ (by first | assumption | exact In.wide (by assumption) | exact In.mono (by assumption) (eqh_at 0 rfl p d) | exact in_at 0 rfl p d | exact in_at 1 rfl p d | exact in_at 2 rfl p d | exact in_at 3 rfl p d | exact in_at 4 rfl p d) (by first | exact Nat.zero_le _ | assumption | (simp only [pack_len]; omega) | (exact getF_at _ _ _ (by first | exact Nat.zero_le _ | assumption | exact getF_at _ _ _ (by first | exact Nat.zero_le _ | assumption | exact getF_at _ _ _ (by first | exact Nat.zero_le _ | assumption))))) (by first | assumption | omega | (simp only [pack_len, List.length_append, bitsOf_len, List.length_nil, heldF]; omega))) ?_
          refine WL.gY rfl rfl ?_
          refine WL.mv rfl rfl ?_
          refine WL.gY rfl rfl ?_
          refine WL.callV rfl rfl (fun x p d => rleft_c _ _ _ _ _ (by first | assumption | exact In.wide (by assumption) | exact In.mono (by assumption) (eqh_at 0 rfl p d) | exact in_at 0 rfl p d | exact in_at 1 rfl p d | exact in_at 2 rfl p d | exact in_at 3 rfl p d | exact in_at 4 rfl p d) (by first | assumption | exact ROs.wide (by assumption) | exact ROs.mono (by assumption) (eqh_at 0 rfl p d) | exact ros_at 0 rfl p d | exact ros_at 1 rfl p d | exact ros_at 2 rfl p d | exact ros_at 3 rfl p d | exact ros_at 4 rfl p d) (by first | exact Nat.zero_le _ | assumption | exact getF_at _ _ _ (by first | exact Nat.zero_le _ | assumption)) (by first | assumption | omega)) ?_
          refine WL.gY rfl rfl ?_
          refine WL.neq rfl rfl rfl ?_
          refine WL.gY rfl rfl ?_
          refine WL.pickT rfl rfl rfl ?_
          refine WL.pickF rfl rfl rfl ?_
          refine WL.nil ?_
          refine W.condpF rfl (by omega) ?_
          refine W.skip ?_
          refine W.inBlock ?_
          refine W.region ?_
          refine WL.addK rfl rfl rfl (wrap_i64 ⟨by omega, by omega⟩) ?_
          refine WL.mv rfl rfl ?_
          refine WL.nil ?_
          refine W.drop 0 rfl (by repeat' first | exact FL.nil | apply FL.cons) ?_
          refine W.drop 0 rfl (by repeat' first | exact FL.nil | apply FL.cons) ?_
          refine W.drop 0 rfl (by repeat' first | exact FL.nil | apply FL.cons) ?_
          refine W.drop 0 rfl (by repeat' first | exact FL.nil | apply FL.cons) ?_
          refine W.sub ?_ (next2 (j + 1) (by omega) (by omega))
          exact ⟨rfl, rfl, rfl, rfl, rfl, rfl, rfl, rfl, rfl, rfl, trivial⟩
      · refine W.exit rfl ?_
        refine W.inBlock ?_
        refine W.region ?_
        refine WL.addK rfl rfl rfl (wrap_i64 ⟨by omega, by omega⟩) ?_
        refine WL.mv rfl rfl ?_
        refine WL.nil ?_
        refine W.drop 0 rfl (by repeat' first | exact FL.nil | apply FL.cons) ?_
        refine W.sub ?_ (next (i + 1) (by omega) (by omega))
        exact ⟨rfl, rfl, rfl, rfl, rfl, rfl, trivial⟩
    · refine W.exit rfl ?_
      refine W.seq ?_
      refine W.region ?_
      refine WL.callT rfl rfl (fun x p d => awake5_c _ (TabG.wide (by assumption))) ?_
      refine WL.as rfl rfl ?_
      refine WL.nil ?_
      exact W.ret1 rfl rfl (fun h p => rfl)
  · refine W.condp rfl (fun hpos => ?_) (fun hpos => ?_)
    · have hb0' : 0 < (bs.length : Int) := hpos
      obtain ⟨k, hk, hkl⟩ : ∃ k : Nat, a3 % (65535 + 1) % (bs.length : Int) = (k : Int) ∧ k < bs.length := ⟨(a3 % (65535 + 1) % (bs.length : Int)).toNat, by
        have := Int.emod_nonneg (a3 % (65535 + 1)) (b := (bs.length : Int)) (by omega)
        omega, by
        have := Int.emod_nonneg (a3 % (65535 + 1)) (b := (bs.length : Int)) (by omega)
        have := Int.emod_lt_of_pos (a3 % (65535 + 1)) (b := (bs.length : Int)) (by omega)
        omega⟩
      rw [← hbs] at hu7
      refine W.seq ?_
      refine W.region ?_
      refine WL.mv rfl rfl ?_
      refine WL.andI rfl rfl rfl (by decide) ?_
      refine WL.mv rfl rfl ?_
      refine WL.len (T := Ty) rfl rfl (by assumption) rfl ?_
      refine WL.remI rfl rfl rfl (by omega) (by omega) ?_
      refine WL.as rfl rfl ?_
      refine WL.nil ?_
      refine W.region ?_
      refine WL.mv rfl rfl ?_
      refine WL.mv rfl rfl ?_
      refine WL.mv rfl rfl ?_
      refine WL.ix (T := Ty) rfl rfl rfl (by assumption) rfl rfl (by omega) (by first | omega | decide +kernel) ?_
      rw [hk]
      skip
      refine WL.stEF (T := Ty) (j := 0) (cs' := (bs.set k by').map bcell) rfl rfl rfl rfl rfl rfl (by simp; omega) (by rw [show ((k : Int)).toNat * 1 = k by omega, List.map_set]; rfl) (by repeat' first | exact FL.nil | apply FL.cons) ?_
      refine WL.nil ?_
      refine W.sub ?_ (cut ⟨k, bs.set k by'⟩ ⟨by omega, by simp, fun x hx => (List.mem_or_eq_of_mem_set hx).elim (hw2 x) (fun e => by omega)⟩)
      exact ⟨rfl, rfl, rfl, rfl, rfl, rfl, rfl, rfl, trivial⟩
    · refine W.skip ?_
      refine W.sub ?_ (cut ⟨0, bs⟩ ⟨Nat.zero_le _, rfl, hw2⟩)
      exact ⟨rfl, rfl, rfl, rfl, rfl, rfl, rfl, rfl, trivial⟩
end Go.Proofs.YtjibmfkhhljhcaaDoor
