/- XorvBack. -/
import Derived.Test.YtjibmfkhhljhcaaDoorStc
import Derived.Test.YtjibmfkhhljhcaaDoorNum
import Derived.Test.YtjibmfkhhljhcaaDoorTab
import Derived.Test.YtjibmfkhhljhcaaDoorXorvAwake
import Derived.Test.YtjibmfkhhljhcaaDoorValsG
import Derived.Test.YtjibmfkhhljhcaaDoorApz2
set_option linter.unusedSimpArgs false
set_option linter.unusedVariables false
set_option maxRecDepth 20000
set_option maxHeartbeats 4000000
namespace Go.Proofs.YtjibmfkhhljhcaaDoor
open Go
attribute [local irreducible] W WL Fn Buf ROs SL eptr box Rd Src bndOK WD RB Reads In encX decX encG decXF

theorem rep_set (m n i : Nat) (h : i < n) : (List.replicate i m ++ List.replicate (n - i) (default : Nat)).set i m = List.replicate (i + 1) m ++ List.replicate (n - (i + 1)) (default : Nat) := by
  rw [List.set_append_right _ _ (by simp), List.length_replicate, Nat.sub_self, show n - i = (n - (i + 1)) + 1 by omega, List.replicate_succ, List.set_cons_zero, List.replicate_succ']
  simp
theorem XorvBack_fn (ρ : Hp) (hT : TabG ρ) (v0 : Value) (z0 : List Int) (r0 : ROs ρ 1 v0 (z0.map (Value.int .u64))) (m0 : ∀ n ∈ z0, (Lit.int .u64 n).wf = true) (y0 : z0.length * 8 ≤ 140737488351232) (a1 : Int) (w1 : (Lit.int .i64 a1).wf = true) (a2 : Int) (w2 : (Lit.int .u64 a2).wf = true) :
    Fn Tryd.prog 5 #[v0, .int .i64 a1, .int .u64 a2] ρ [] (fun r _ => r = .bool true) := by
  obtain ⟨l, hl, hll, hlw⟩ := words_of m0
  rw [hl] at r0
  have hy := wf_u64 w2
  obtain ⟨m, rfl⟩ := Int.eq_ofNat_of_zero_le hy.1
  have hm64 : m < 18446744073709551616 := by omega
  refine in5 rfl rfl ?_
  refine W.seq ?_
  refine W.region ?_
  refine WL.as rfl rfl ?_
  refine WL.nil ?_
  refine W.seq ?_
  refine W.region ?_
  refine WL.mv rfl rfl ?_
  refine WL.mv rfl rfl ?_
  refine WL.callF rfl rfl (fun x p d => vals_c _ _ _ _ (by first | assumption | exact ROs.wide (by assumption) | exact ROs.mono (by assumption) (eqh_at 0 rfl p d) | exact ros_at 0 rfl p d | exact ros_at 1 rfl p d | exact ros_at 2 rfl p d | exact ros_at 3 rfl p d | exact ros_at 4 rfl p d) (by first | assumption | omega | decide) (by first | assumption | omega | decide)) (fun u0 => ?_)
  refine WL.ex (fun vs => ?_)
  refine WL.pure (fun hvs => ?_)
  refine WL.fact (i := 0) rfl (fun h hb => Buf.slm hb) (fun hsl0 => ?_)
  refine WL.as rfl rfl ?_
  refine WL.nil ?_
  refine W.seq ?_
  refine W.region ?_
  refine WL.callF rfl rfl (fun x p d => newWriter_c _) (fun r => ?_)
  refine WL.ex (fun b1 => ?_)
  refine WL.pure (fun er => ?_)
  subst er
  refine WL.as rfl rfl ?_
  refine WL.nil ?_
  refine W.seq ?_
  refine W.region ?_
  refine WL.callF rfl rfl (fun x p d => newWriter_c _) (fun r => ?_)
  refine WL.ex (fun b2 => ?_)
  refine WL.pure (fun er => ?_)
  subst er
  refine WL.as rfl rfl ?_
  refine WL.nil ?_
  refine W.seq ?_
  refine W.seq ?_
  refine W.region ?_
  refine WL.mv rfl rfl ?_
  refine WL.eqP (T := Ty) rfl rfl rfl ?_
  refine WL.mv rfl rfl ?_
  refine WL.gY rfl rfl ?_
  refine WL.mv rfl rfl ?_
  refine WL.gY rfl rfl ?_
  refine WL.eqP (T := Ty) rfl rfl rfl ?_
  refine WL.pickF rfl rfl rfl ?_
  refine WL.nil ?_
  refine W.condF rfl ?_
  refine W.skip ?_
  refine W.seq ?_
  refine W.region ?_
  refine WL.mv rfl rfl ?_
  refine WL.mv rfl rfl ?_
  obtain ⟨hv1, hv2⟩ := hvs
  have hvl : vs.length ≤ 70000 := by omega
  have hel := encX_len vs hv2
  have heb := encX_bit vs
  have hb1 : ∀ d ∈ [] ++ encX vs, d < 2 := bok_app bok_nil heb
  have hl1 : ([] ++ encX vs).length ≤ 1099511627776 := by rw [List.nil_append]; omega
  have hd : decX (pack ([] ++ encX vs ++ bitsOf m (heldF 64))) ⟨0, false⟩ (vs.length : Int) = some (vs, ⟨(encX vs).length, false⟩) := by
    rw [List.nil_append]
    exact decX_encX (by unfold heldM; omega) hv2 (bitsOf_bit _ _)
  have hg : getF (pack ([] ++ encX vs ++ bitsOf m (heldF 64))) ⟨(encX vs).length, false⟩ 64 = (m, ⟨(encX vs).length + 64, false⟩) := by
    have := getF_put (encX vs) [] m 64 heb (by simp)
    rw [List.append_nil, heldc64, Nat.mod_eq_of_lt (by exact hm64)] at this
    rw [List.nil_append, heldc64]
    exact this
  have hb2 : ∀ d ∈ [] ++ encX vs ++ bitsOf m (heldF 64), d < 2 := bok_app hb1 (bitsOf_bit _ _)
  have hl2 : ([] ++ encX vs ++ bitsOf m (heldF 64)).length ≤ 2199023255552 := by simp [bitsOf_len, heldc64]; omega
  have hpl : (pack ([] ++ encX vs ++ bitsOf m (heldF 64))).length ≤ 140737488355328 := by rw [pack_len]; omega
  have hpw := pack_lt _ hb2
  refine WL.callM 1 rfl rfl rfl (fun x p d => xenc_c _ _ _ _ _ (by first | assumption | exact ROs.wide (by assumption) | exact ROs.mono (by assumption) (eqh_at 0 rfl p d) | exact ros_at 0 rfl p d | exact ros_at 1 rfl p d | exact ros_at 2 rfl p d | exact ros_at 3 rfl p d | exact ros_at 4 rfl p d) (by first | assumption | exact bok_nil) (by first | assumption | omega | exact Nat.zero_le _ | decide) (by first | assumption | omega | decide) (by first | assumption | omega | decide) (TabG.wide (by assumption))) (by repeat' first | exact FL.nil | apply FL.cons) ?_
  refine WL.nil ?_
  refine W.seq ?_
  refine W.region ?_
  refine WL.mv rfl rfl ?_
  refine WL.mv rfl rfl ?_
  refine WL.callM 1 rfl rfl rfl (fun x p d => put_c _ _ _ _ _ (by omega) (by repeat' first | assumption | exact bok_nil | exact bitsOf_bit _ _ | apply bok_app) (by first | assumption | omega | (simp only [List.length_append, bitsOf_len, List.length_nil, heldF]; omega))) (by repeat' first | exact FL.nil | apply FL.cons) ?_
  refine WL.nil ?_
  refine W.seq ?_
  refine W.region ?_
  refine WL.mv rfl rfl ?_
  refine WL.callF rfl rfl (fun x p d => bytes_c _ _ _ (by first | assumption | exact In.wide (by assumption) | exact In.mono (by assumption) (eqh_at 0 rfl p d) | exact in_at 0 rfl p d | exact in_at 1 rfl p d | exact in_at 2 rfl p d | exact in_at 3 rfl p d | exact in_at 4 rfl p d) (by first | assumption | omega | (simp only [List.length_append, bitsOf_len, List.length_nil, heldF]; omega))) (fun u3 => ?_)
  refine WL.fact (i := 0) rfl (fun h hb => Buf.slm hb) (fun hsl3 => ?_)
  refine WL.callF rfl rfl (fun x p d => newReader_c _ _ _ (by first | assumption | exact ROs.wide (by assumption) | exact ROs.mono (by assumption) (eqh_at 0 rfl p d) | exact ros_at 0 rfl p d | exact ros_at 1 rfl p d | exact ros_at 2 rfl p d | exact ros_at 3 rfl p d | exact ros_at 4 rfl p d) (by first | assumption | omega | (simp only [pack_len, List.length_append, bitsOf_len, List.length_nil, heldF]; omega))) (fun r => ?_)
  refine WL.ex (fun b4 => ?_)
  refine WL.pure (fun er => ?_)
  subst er
  refine WL.as rfl rfl ?_
  refine WL.nil ?_
  refine W.seq ?_
  refine W.seq ?_
  refine W.region ?_
  refine WL.mv rfl rfl ?_
  refine WL.eqP (T := Ty) rfl rfl rfl ?_
  refine WL.nil ?_
  refine W.condF rfl ?_
  refine W.skip ?_
  refine W.seq ?_
  refine W.region ?_
  refine WL.mv rfl rfl ?_
  refine WL.mv rfl rfl ?_
  refine WL.len (T := Ty) rfl rfl (by assumption) rfl ?_
  refine WL.callP 0 rfl rfl rfl (fun x p d => xdec_s _ _ _ _ _ (by assumption) (by first | assumption | exact Nat.zero_le _) (by first | assumption | omega | decide) (by assumption) (TabG.wide (by assumption))) (by repeat' first | exact FL.nil | apply FL.cons) (fun r => ?_)
  refine WL.ex (fun u5 => ?_)
  refine WL.pure (fun er => ?_)
  subst er
  refine WL.open ?_
  refine WL.fact (i := 0) rfl (fun h hb => Buf.slm hb) (fun hsl5 => ?_)
  refine WL.mv rfl rfl ?_
  refine WL.extL rfl rfl rfl ?_
  refine WL.extL rfl rfl rfl ?_
  refine WL.as rfl rfl ?_
  refine WL.as rfl rfl ?_
  refine WL.nil ?_
  refine W.seq ?_
  refine W.region ?_
  refine WL.mv rfl rfl ?_
  refine WL.len (T := Ty) rfl rfl (by assumption) rfl ?_
  refine WL.addK rfl rfl rfl (wrap_i64 ⟨by omega, by omega⟩) ?_
  refine WL.mkM (T := Ty) (f := ucell) (n := vs.length + 1) rfl rfl rfl (by omega) rfl rfl rfl (by omega) (by omega) (fun sv ssv => ?_)
  refine WL.as rfl rfl ?_
  refine WL.nil ?_
  refine W.seq ?_
  refine W.seq ?_
  refine W.region ?_
  refine WL.mv rfl rfl ?_
  refine WL.len (T := Ty) rfl rfl (by assumption) rfl ?_
  refine WL.mv rfl rfl ?_
  refine WL.nil ?_
  refine W.block ?_
  simp only [List.cons_append, List.nil_append]
  rw [List.nil_append] at hg hpl hpw
  refine W.drop 3 rfl (by repeat' first | exact FL.nil | apply FL.cons) ?_
  refine W.drop 4 rfl (by repeat' first | exact FL.nil | apply FL.cons) ?_
  refine W.loopS (σ := Nat) (fun i => [(2, .int .u64 (m : Int)), (7, u0), (9, ptr b2), (10, ptr b4), (11, u5), (12, .bool true), (13, sv), (49, .int .i64 ((vs.length + 1 : Nat) : Int)), (50, .int .i64 (i : Int))])
    (fun i => [Buf 1 sv ((List.replicate i m ++ List.replicate (vs.length + 1 - i) (default : Nat)).map ucell), Buf 1 u5 (vs.map ucell), Re b4 (pack (encX vs ++ bitsOf m (heldF 64))) ⟨(encX vs).length, false⟩, Wr b2 [], Buf 1 u0 (vs.map ucell)])
    (fun i => i ≤ vs.length + 1) (fun i => vs.length + 1 - i) 0 ⟨rfl, rfl, rfl, rfl, rfl, rfl, rfl, rfl, rfl, trivial⟩ rfl (Nat.zero_le _) ?_
  intro i hi next
  have hrl : (List.replicate i m ++ List.replicate (vs.length + 1 - i) (default : Nat)).length = vs.length + 1 := by simp; omega
  by_cases hlt : i < vs.length + 1
  · have hrs := rep_set m (vs.length + 1) i hlt
    generalize List.replicate i m ++ List.replicate (vs.length + 1 - i) (default : Nat) = L at *
    refine W.seq ?_
    refine W.region ?_
    refine WL.lss rfl rfl rfl ?_
    refine WL.nil ?_
    refine W.seq ?_
    refine W.condpT rfl (by omega) ?_
    refine W.skip ?_
    refine W.seq ?_
    refine W.block ?_
    refine W.seq ?_
    refine W.region ?_
    refine WL.mv rfl rfl ?_
    refine WL.as rfl rfl ?_
    refine WL.nil ?_
    refine W.region ?_
    refine WL.mv rfl rfl ?_
    refine WL.mv rfl rfl ?_
    refine WL.mv rfl rfl ?_
    refine WL.ix (T := Ty) rfl rfl rfl (by assumption) rfl rfl (by omega) (by first | omega | decide +kernel) ?_
    refine WL.stEF (T := Ty) (j := 0) (cs' := (L.set i m).map ucell) rfl rfl rfl rfl rfl rfl (by simp; omega) (by rw [show ((i : Int)).toNat * 1 = i by omega, List.map_set]; rfl) (by repeat' first | exact FL.nil | apply FL.cons) ?_
    rw [hrs]
    refine WL.nil ?_
    refine W.inBlock ?_
    refine W.region ?_
    refine WL.addK rfl rfl rfl (wrap_i64 ⟨by omega, by omega⟩) ?_
    refine WL.mv rfl rfl ?_
    refine WL.nil ?_
    refine W.sub ?_ (next (i + 1) (by omega) (by omega))
    exact ⟨rfl, rfl, rfl, rfl, rfl, rfl, rfl, rfl, rfl, trivial⟩
  · have hie : i = vs.length + 1 := by omega
    have hfin : List.replicate i m ++ List.replicate (vs.length + 1 - i) (default : Nat) = List.replicate (vs.length + 1) m := by rw [hie, Nat.sub_self]; simp
    rw [hfin] at hrl ⊢
    have hsw : ∀ x ∈ List.replicate (vs.length + 1) m, x < 18446744073709551616 := fun x hx => by rw [List.eq_of_mem_replicate hx]; exact hm64
    have hsl2 : (List.replicate (vs.length + 1) m).length ≤ 70000 := by omega
    have hsame := encX_same m vs.length
    have hsame2 : ([] ++ encX (List.replicate (vs.length + 1) m)).length = 64 + vs.length := by rw [List.nil_append]; exact hsame
    have hss : vs.length ≤ 17592186044416 := by omega
    have hat : (⟨(encX vs).length, false⟩ : RdSt).at' ≤ 8 * (pack (encX vs ++ bitsOf m (heldF 64))).length := by
      show (encX vs).length ≤ _
      rw [pack_len, List.length_append]; omega
    refine W.seq ?_
    refine W.region ?_
    refine WL.lss rfl rfl rfl ?_
    refine WL.nil ?_
    refine W.seq ?_
    refine W.condpF rfl (by omega) ?_
    refine W.exit rfl ?_
    refine W.seq ?_
    refine W.region ?_
    refine WL.mv rfl rfl ?_
    refine WL.mv rfl rfl ?_
    refine WL.callM 3 rfl rfl rfl (fun x p d => xenc_c _ _ _ _ _ (by first | assumption | exact ROs.wide (by assumption) | exact ROs.mono (by assumption) (eqh_at 0 rfl p d) | exact ros_at 0 rfl p d | exact ros_at 1 rfl p d | exact ros_at 2 rfl p d | exact ros_at 3 rfl p d | exact ros_at 4 rfl p d) (by first | assumption | exact bok_nil) (by first | assumption | omega | exact Nat.zero_le _ | decide) (by first | assumption | omega | decide) (by first | assumption | omega | decide) (TabG.wide (by assumption))) (by repeat' first | exact FL.nil | apply FL.cons) ?_
    refine WL.nil ?_
    refine W.seq ?_
    refine W.region ?_
    refine WL.mv rfl rfl ?_
    refine WL.mv rfl rfl ?_
    refine WL.gY rfl rfl ?_
    refine WL.mv rfl rfl ?_
    refine WL.gY rfl rfl ?_
    refine WL.mv rfl rfl ?_
    refine WL.gY rfl rfl ?_
    refine WL.callV rfl rfl (fun x p d => samew_t _ _ _ _ _ (by first | with_reducible rfl | assumption) (by first | assumption | exact ROs.wide (by assumption) | exact ROs.mono (by assumption) (eqh_at 0 rfl p d) | exact ros_at 0 rfl p d | exact ros_at 1 rfl p d | exact ros_at 2 rfl p d | exact ros_at 3 rfl p d | exact ros_at 4 rfl p d) (by first | assumption | exact ROs.wide (by assumption) | exact ROs.mono (by assumption) (eqh_at 0 rfl p d) | exact ros_at 0 rfl p d | exact ros_at 1 rfl p d | exact ros_at 2 rfl p d | exact ros_at 3 rfl p d | exact ros_at 4 rfl p d) (by first | assumption | omega | exact Nat.zero_le _ | decide)) ?_
    refine WL.pickT rfl rfl rfl ?_
    refine WL.mv rfl rfl ?_
    refine WL.gY rfl rfl ?_
    refine WL.mv rfl rfl ?_
    refine WL.gY rfl rfl ?_
    refine WL.callM 2 rfl rfl rfl (fun x p d => get_e _ _ _ _ _ (by assumption) (by first | exact Nat.zero_le _ | assumption | (simp only [pack_len]; omega) | (exact getF_at _ _ _ (by first | exact Nat.zero_le _ | assumption | exact getF_at _ _ _ (by first | exact Nat.zero_le _ | assumption)))) (by first | assumption | omega | (simp only [pack_len, List.length_append, bitsOf_len, List.length_nil, heldF]; omega)) (by first | assumption | exact pack_lt _ (by repeat' first | assumption | exact bok_nil | exact bitsOf_bit _ _ | apply bok_app))) (by repeat' first | exact FL.nil | apply FL.cons) ?_
    refine WL.gY rfl rfl ?_
    refine WL.mv rfl rfl ?_
    refine WL.gY rfl rfl ?_
    refine WL.eql rfl rfl rfl ?_
    refine WL.pickT rfl rfl rfl ?_
    refine WL.mv rfl rfl ?_
    refine WL.gT rfl rfl (by omega) ?_
    refine WL.mv rfl rfl ?_
    refine WL.gT rfl rfl (by omega) ?_
    refine WL.callV rfl rfl (fun x p d => len_c _ _ _ (by first | assumption | exact In.wide (by assumption) | exact In.mono (by assumption) (eqh_at 0 rfl p d) | exact in_at 0 rfl p d | exact in_at 1 rfl p d | exact in_at 2 rfl p d | exact in_at 3 rfl p d | exact in_at 4 rfl p d)) ?_
    refine WL.gT rfl rfl (by omega) ?_
    refine WL.mv rfl rfl ?_
    refine WL.gT rfl rfl (by omega) ?_
    refine WL.len (T := Ty) rfl rfl (by assumption) rfl ?_
    refine WL.gT rfl rfl (by omega) ?_
    refine WL.addK rfl rfl rfl (wrap_i64 ⟨by omega, by omega⟩) ?_
    refine WL.gT rfl rfl (by omega) ?_
    refine WL.eql rfl rfl rfl ?_
    refine WL.pickTp rfl rfl (by omega) rfl ?_
    refine WL.mv rfl rfl ?_
    refine WL.gT rfl rfl (by omega) ?_
    refine WL.callT rfl rfl (fun x p d => awake5_c _ (TabG.wide (by assumption))) ?_
    refine WL.pickTp rfl rfl (by omega) rfl ?_
    refine WL.as rfl rfl ?_
    refine WL.nil ?_
    exact W.ret1 rfl rfl (fun h p => rfl)
end Go.Proofs.YtjibmfkhhljhcaaDoor
