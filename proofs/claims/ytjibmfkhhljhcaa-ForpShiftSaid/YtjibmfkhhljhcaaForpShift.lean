/- ForpShift. -/
import Derived.Test.YtjibmfkhhljhcaaStc
import Derived.Test.YtjibmfkhhljhcaaNum
import Derived.Test.YtjibmfkhhljhcaaTab
import Derived.Test.YtjibmfkhhljhcaaForpAwake
import Derived.Test.YtjibmfkhhljhcaaVintRf
set_option linter.unusedSimpArgs false
set_option linter.unusedVariables false
set_option maxRecDepth 20000
set_option maxHeartbeats 4000000
namespace Go.Proofs.Ytjibmfkhhljhcaa
open Go
attribute [local irreducible] W WL Fn Buf ROs SL eptr box Rd Src bndOK WD RB Reads In decFp encFp

theorem ForpShift_fn (ρ : Hp) (v0 : Value) (z0 : List Int) (r0 : ROs ρ 1 v0 (z0.map (Value.int .u64))) (m0 : ∀ n ∈ z0, (Lit.int .u64 n).wf = true) (y0 : z0.length * 8 ≤ 140737488351232) (a1 : Int) (w1 : (Lit.int .u64 a1).wf = true) :
    Fn Try.prog 4 #[v0, .int .u64 a1] ρ [] (fun r _ => r = .bool true) := by
  obtain ⟨l, hl, hll, hlw⟩ := words_of m0
  rw [hl] at r0
  have s0 := r0.slm
  have hy := wf_u64 w1
  obtain ⟨c, hc⟩ : ∃ c : Nat, a1 / 4 = (c : Int) ∧ c < 4611686018427387904 := ⟨(a1 / 4).toNat, by omega, by omega⟩
  obtain ⟨hc, hcl⟩ := hc
  refine in4 rfl rfl ?_
  refine W.seq ?_
  refine W.region ?_
  refine WL.as rfl rfl ?_
  refine WL.nil ?_
  refine W.seq ?_
  refine W.region ?_
  refine WL.as rfl rfl ?_
  refine WL.as rfl rfl ?_
  refine WL.nil ?_
  refine W.seq ?_
  refine W.region ?_
  refine WL.mv rfl rfl ?_
  refine WL.shrS (c := 4) rfl rfl rfl (by omega) (by decide) ?_
  refine WL.as rfl rfl ?_
  refine WL.nil ?_
  refine W.seq ?_
  refine W.seq ?_
  refine W.region ?_
  refine WL.as rfl rfl ?_
  refine WL.nil ?_
  refine W.block ?_
  rw [hc]
  refine W.nb (sz := 1) ?_
  refine W.nb (sz := 1) ?_
  refine W.loopS (σ := Nat × Value × Value × List Nat) (fun s => [(0, v0), (1, .int .u64 (c : Int)), (5, s.2.1), (6, s.2.2.1), (7, .int .i64 (s.1 : Int))]) (fun s => [Buf 1 s.2.1 (s.2.2.2.map ucell), Buf 1 s.2.2.1 ((s.2.2.2.map (· + c)).map ucell)])
    (fun s => s.1 ≤ 40 ∧ s.2.2.2.length = s.1 ∧ ∀ x ∈ s.2.2.2, x < 65536) (fun s => 40 - s.1) (0, .slice none 0 0, .slice none 0 0, []) ⟨rfl, rfl, rfl, rfl, rfl, trivial⟩ rfl ⟨Nat.zero_le _, rfl, by simp⟩ ?_
  rintro ⟨i, o, q, xs⟩ ⟨hi, hxl, hxs⟩ next
  simp only [] at hi hxl hxs next ⊢
  have hxl2 : (xs.map (· + c)).length = i := by simp [hxl]
  refine W.fact (i := 0) rfl (fun h hb => Buf.slm hb) (fun hso => ?_)
  refine W.fact (i := 1) rfl (fun h hb => Buf.slm hb) (fun hsq => ?_)
  rcases (by omega : (i < l.length ∧ i < 40) ∨ (i < l.length ∧ ¬ i < 40) ∨ ¬ i < l.length) with ⟨hc1, hc2⟩ | ⟨hc1, hc2⟩ | hc1
  · obtain ⟨x, hx⟩ : ∃ x, l[i]? = some x := ⟨_, List.getElem?_eq_getElem hc1⟩
    have hx1 : (l.map ucell)[i]? = some (ucell x) := by rw [List.getElem?_map, hx]; rfl
    have hxx := hlw x (List.mem_of_getElem? hx)
    refine W.seq ?_
    refine W.seq ?_
    refine W.region ?_
    refine WL.mv rfl rfl ?_
    refine WL.mv rfl rfl ?_
    refine WL.len (T := Ty) rfl rfl (by assumption) rfl ?_
    refine WL.lss rfl rfl rfl ?_
    refine WL.mv rfl rfl ?_
    refine WL.gT rfl rfl (by omega) ?_
    refine WL.mv rfl rfl ?_
    refine WL.gT rfl rfl (by omega) ?_
    refine WL.lss rfl rfl rfl ?_
    refine WL.pickTp rfl rfl (by omega) rfl ?_
    refine WL.nil ?_
    refine W.condpT rfl (by omega) ?_
    refine W.skip ?_
    refine W.seq ?_
    refine W.block ?_
    refine W.seq ?_
    refine W.region ?_
    refine WL.mv rfl rfl ?_
    refine WL.mv rfl rfl ?_
    refine WL.mv rfl rfl ?_
    refine WL.ix (T := Ty) rfl rfl rfl (by assumption) rfl rfl (by omega) (by first | omega | decide +kernel) ?_
    refine WL.ldKn (T := Ty) rfl rfl rfl rfl (by first | assumption | exact ROs.wide (by assumption)) (by assumption) ?_
    refine WL.andU rfl rfl rfl rfl (by decide) (by omega) (by simp only [IntKind.bits]; omega) ?_
    refine WL.bsC (T := Ty) rfl rfl rfl rfl rfl rfl rfl (by repeat' first | exact CO.nil | apply CO.one (by first | rfl | exact SL.one (by assumption)) | apply CO.agg) rfl (by repeat' first | exact FL.nil | apply FL.cons) (fun u0 hu0 => ?_)
    refine WL.ap1 (T := Ty) (i := 0) rfl rfl rfl rfl rfl rfl rfl rfl (by assumption) (by first | rfl | assumption) (by first | omega | (simp; omega)) (by first | omega | (simp; omega)) (fun v' => (by repeat' first | exact FL.nil | apply FL.cons)) (fun u1 hu1 => ?_)
    refine WL.as rfl rfl ?_
    refine WL.nil ?_
    refine W.region ?_
    refine WL.mv rfl rfl ?_
    refine WL.mv rfl rfl ?_
    refine WL.mv rfl rfl ?_
    refine WL.ix (T := Ty) rfl rfl rfl (by assumption) rfl rfl (by omega) (by first | omega | decide +kernel) ?_
    refine WL.ldKn (T := Ty) rfl rfl rfl rfl (by first | assumption | exact ROs.wide (by assumption)) (by assumption) ?_
    refine WL.andU rfl rfl rfl rfl (by decide) (by omega) (by simp only [IntKind.bits]; omega) ?_
    refine WL.mv rfl rfl ?_
    refine WL.addK rfl rfl rfl (wrap_u64 ⟨by omega, by omega⟩) ?_
    refine WL.bsC (T := Ty) rfl rfl rfl rfl rfl rfl rfl (by repeat' first | exact CO.nil | apply CO.one (by first | rfl | exact SL.one (by assumption)) | apply CO.agg) rfl (by repeat' first | exact FL.nil | apply FL.cons) (fun u2 hu2 => ?_)
    refine WL.ap1 (T := Ty) (i := 1) rfl rfl rfl rfl rfl rfl rfl rfl (by assumption) (by first | rfl | assumption) (by first | omega | (simp; omega)) (by first | omega | (simp; omega)) (fun v' => (by repeat' first | exact FL.nil | apply FL.cons)) (fun u3 hu3 => ?_)
    refine WL.as rfl rfl ?_
    refine WL.nil ?_
    refine W.inBlock ?_
    refine W.region ?_
    refine WL.mv rfl rfl ?_
    refine WL.addK rfl rfl rfl (wrap_i64 ⟨by omega, by omega⟩) ?_
    refine WL.as rfl rfl ?_
    refine WL.nil ?_
    obtain ⟨y, hyx⟩ : ∃ y : Nat, (x : Int) % (65535 + 1) = (y : Int) ∧ y < 65536 := ⟨x % 65536, by omega, by omega⟩
    obtain ⟨hyx, hyl⟩ := hyx
    refine W.sub ?_ (W.hs (fun h p => ?_) (next ⟨i + 1, u1, u3, xs ++ [y]⟩ ⟨by simp only []; omega, by simp [hxl], ?_⟩ (by simp only []; omega)))
    · exact ⟨rfl, rfl, rfl, rfl, rfl, trivial⟩
    · rw [hyx] at p
      simpa [ucell] using p
    · intro z hz
      rcases List.mem_append.1 hz with h | h
      · exact hxs z h
      · simp at h; omega
  · have hxw : ∀ x ∈ xs, x < 18446744073709551616 := fun x hx => by have := hxs x hx; omega
    obtain ⟨ys, hys⟩ : ∃ ys, ys = xs.map (· + c) := ⟨_, rfl⟩
    rw [← hys] at hsq hxl2 ⊢
    have hyw : ∀ x ∈ ys, x < 18446744073709551616 := by
      intro z hz
      rw [hys] at hz
      obtain ⟨x, hx, rfl⟩ := List.mem_map.1 hz
      have := hxs x hx
      show x + c < _
      omega
    have hd1 : decFp (encFp ys) (ys.length : Int) = some ys := decFp_encFp (by unfold heldM; omega) hyw
    have hex := encFp_lt hxw
    have hey := encFp_lt hyw
    have hlx := encFp_len xs
    have hly := encFp_len ys
    by_cases hn : xs = []
    · have e3 : xs.length = 0 := by rw [hn]; rfl
      omega
    · have hn2 : ys ≠ [] := by rw [hys]; simpa using hn
      have hpos : 0 < xs.length := List.length_pos_iff.2 hn
      obtain ⟨g1, g2, g3, g4⟩ := encFp_head hn hxw
      obtain ⟨k1, k2, k3, k4⟩ := encFp_head hn2 hyw
      have l1 := vput_len 9 (loF xs)
      have l2 := vput_len 9 (loF ys)
      have hdr : (encFp xs).drop (vputF 9 (loF xs)).length = (encFp ys).drop (vputF 9 (loF ys)).length := by
        rw [encFp_ne hn, encFp_ne hn2, hys, wF_add c hn, lessF_add c hn, List.append_assoc, List.append_assoc, List.drop_left, List.drop_left]
      have hss : strN ((encFp xs).drop (vputF 9 (loF xs)).length) = strN ((encFp ys).drop (vputF 9 (loF ys)).length) := by rw [hdr]
      refine W.seq ?_
      refine W.seq ?_
      refine W.region ?_
      refine WL.mv rfl rfl ?_
      refine WL.mv rfl rfl ?_
      refine WL.len (T := Ty) rfl rfl (by assumption) rfl ?_
      refine WL.lss rfl rfl rfl ?_
      refine WL.mv rfl rfl ?_
      refine WL.gT rfl rfl (by omega) ?_
      refine WL.mv rfl rfl ?_
      refine WL.gT rfl rfl (by omega) ?_
      refine WL.lss rfl rfl rfl ?_
      refine WL.pickTp rfl rfl (by omega) rfl ?_
      refine WL.nil ?_
      refine W.condpF rfl (by omega) ?_
      refine W.exit rfl ?_
      refine W.seq ?_
      refine W.region ?_
      refine WL.mv rfl rfl ?_
      refine WL.callF rfl rfl (fun x p d => fpenc_c _ _ _ (by first | assumption | exact ROs.wide (by assumption) | exact ROs.mono (by assumption) (eqh_at 0 rfl p d) | exact ros_at 0 rfl p d | exact ros_at 1 rfl p d | exact ros_at 2 rfl p d | exact ros_at 3 rfl p d | exact ros_at 4 rfl p d) (by first | assumption | omega | decide) (by first | assumption | omega | decide)) (fun u0 => ?_)
      refine WL.fact (i := 0) rfl (fun h hb => Buf.slm hb) (fun hsl0 => ?_)
      refine WL.mv rfl rfl ?_
      refine WL.callF rfl rfl (fun x p d => fpenc_c _ _ _ (by first | assumption | exact ROs.wide (by assumption) | exact ROs.mono (by assumption) (eqh_at 0 rfl p d) | exact ros_at 0 rfl p d | exact ros_at 1 rfl p d | exact ros_at 2 rfl p d | exact ros_at 3 rfl p d | exact ros_at 4 rfl p d) (by first | assumption | omega | decide) (by first | assumption | omega | decide)) (fun u1 => ?_)
      refine WL.fact (i := 0) rfl (fun h hb => Buf.slm hb) (fun hsl1 => ?_)
      refine WL.as rfl rfl ?_
      refine WL.as rfl rfl ?_
      refine WL.nil ?_
      refine W.seq ?_
      refine W.region ?_
      refine WL.mv rfl rfl ?_
      refine WL.mv rfl rfl ?_
      refine WL.len (T := Ty) rfl rfl (by assumption) rfl ?_
      refine WL.callF rfl rfl (fun x p d => fpdec_s _ _ _ _ (by first | assumption | exact ROs.wide (by assumption) | exact ROs.mono (by assumption) (eqh_at 0 rfl p d) | exact ros_at 0 rfl p d | exact ros_at 1 rfl p d | exact ros_at 2 rfl p d | exact ros_at 3 rfl p d | exact ros_at 4 rfl p d) (by assumption) (by first | assumption | omega | decide) (by first | assumption | omega | decide)) (fun r => ?_)
      refine WL.ex (fun u2 => ?_)
      refine WL.pure (fun er => ?_)
      subst er
      refine WL.fact (i := 0) rfl (fun h hb => Buf.slm hb) (fun hsl2 => ?_)
      refine WL.mv rfl rfl ?_
      refine WL.extL rfl rfl rfl ?_
      refine WL.extL rfl rfl rfl ?_
      refine WL.as rfl rfl ?_
      refine WL.as rfl rfl ?_
      refine WL.nil ?_
      refine W.seq ?_
      refine W.seq ?_
      refine W.region ?_
      refine WL.mv rfl rfl ?_
      refine WL.not rfl rfl ?_
      refine WL.mv rfl rfl ?_
      refine WL.gY rfl rfl ?_
      refine WL.mv rfl rfl ?_
      refine WL.gY rfl rfl ?_
      refine WL.mv rfl rfl ?_
      refine WL.gY rfl rfl ?_
      refine WL.callV rfl rfl (fun x p d => samew_t _ _ _ _ _ (by first | with_reducible rfl | assumption) (by first | assumption | exact ROs.wide (by assumption) | exact ROs.mono (by assumption) (eqh_at 0 rfl p d) | exact ros_at 0 rfl p d | exact ros_at 1 rfl p d | exact ros_at 2 rfl p d | exact ros_at 3 rfl p d | exact ros_at 4 rfl p d) (by first | assumption | exact ROs.wide (by assumption) | exact ROs.mono (by assumption) (eqh_at 0 rfl p d) | exact ros_at 0 rfl p d | exact ros_at 1 rfl p d | exact ros_at 2 rfl p d | exact ros_at 3 rfl p d | exact ros_at 4 rfl p d) (by first | assumption | omega | exact Nat.zero_le _ | decide)) ?_
      refine WL.gY rfl rfl ?_
      refine WL.not rfl rfl ?_
      refine WL.pickF rfl rfl rfl ?_
      refine WL.nil ?_
      refine W.condF rfl ?_
      refine W.skip ?_
      refine W.seq ?_
      refine W.seq ?_
      refine W.region ?_
      refine WL.mv rfl rfl ?_
      refine WL.len (T := Ty) rfl rfl (by assumption) rfl ?_
      refine WL.eql rfl rfl rfl ?_
      refine WL.nil ?_
      refine W.condpF rfl (by omega) ?_
      refine W.skip ?_
      refine W.seq ?_
      refine W.region ?_
      refine WL.mv rfl rfl ?_
      refine WL.callV rfl rfl (fun x p d => rget_e _ _ _ (by first | assumption | exact ROs.wide (by assumption) | exact ROs.mono (by assumption) (eqh_at 0 rfl p d) | exact ros_at 0 rfl p d | exact ros_at 1 rfl p d | exact ros_at 2 rfl p d | exact ros_at 3 rfl p d | exact ros_at 4 rfl p d) (by assumption) (by first | assumption) (by first | assumption | omega)) ?_
      refine WL.mv rfl rfl ?_
      refine WL.extL rfl rfl rfl ?_
      refine WL.extL rfl rfl rfl ?_
      refine WL.as rfl rfl ?_
      refine WL.as rfl rfl ?_
      refine WL.nil ?_
      refine W.seq ?_
      refine W.region ?_
      refine WL.mv rfl rfl ?_
      refine WL.callV rfl rfl (fun x p d => rget_e _ _ _ (by first | assumption | exact ROs.wide (by assumption) | exact ROs.mono (by assumption) (eqh_at 0 rfl p d) | exact ros_at 0 rfl p d | exact ros_at 1 rfl p d | exact ros_at 2 rfl p d | exact ros_at 3 rfl p d | exact ros_at 4 rfl p d) (by assumption) (by first | assumption) (by first | assumption | omega)) ?_
      refine WL.mv rfl rfl ?_
      refine WL.extL rfl rfl rfl ?_
      refine WL.extL rfl rfl rfl ?_
      refine WL.as rfl rfl ?_
      refine WL.as rfl rfl ?_
      refine WL.nil ?_
      refine W.seq ?_
      refine W.drawA 32 rfl (fun σ0 hσ0 dσ0 => ?_)
      have fσ0_0 := ros_at 0 rfl hσ0 dσ0
      have fσ0_1 := ros_at 1 rfl hσ0 dσ0
      have fσ0_2 := ros_at 2 rfl hσ0 dσ0
      have fσ0_3 := ros_at 3 rfl hσ0 dσ0
      have fσ0_4 := ros_at 4 rfl hσ0 dσ0
      refine WD.takeL 0 rfl (by decide +kernel) ?_
      refine WL.mv rfl rfl ?_
      refine WL.nilT ?_
      refine WD.takeL 1 rfl (by decide +kernel) ?_
      refine WL.gtr rfl rfl rfl ?_
      refine WL.nilT ?_
      refine WD.takeL 2 rfl (by decide +kernel) ?_
      refine WL.mv rfl rfl ?_
      refine WL.nilT ?_
      refine WD.takeL 3 rfl (by decide +kernel) ?_
      refine WL.gT rfl rfl (by omega) ?_
      refine WL.mv rfl rfl ?_
      refine WL.nilT ?_
      refine WD.takeL 4 rfl (by decide +kernel) ?_
      refine WL.gT rfl rfl (by omega) ?_
      refine WL.gtr rfl rfl rfl ?_
      refine WL.nilT ?_
      refine WD.takeL 5 rfl (by decide +kernel) ?_
      refine WL.pickTp rfl rfl (by omega) rfl ?_
      refine WL.nilT ?_
      refine WD.takeL 6 rfl (by decide +kernel) ?_
      refine WL.mv rfl rfl ?_
      refine WL.nilT ?_
      refine WD.takeL 7 rfl (by decide +kernel) ?_
      refine WL.gT rfl rfl (by omega) ?_
      refine WL.mv rfl rfl ?_
      refine WL.nilT ?_
      refine WD.takeL 8 rfl (by decide +kernel) ?_
      refine WL.gT rfl rfl (by omega) ?_
      refine WL.mv rfl rfl ?_
      refine WL.nilT ?_
      refine WD.takeL 9 rfl (by decide +kernel) ?_
      refine WL.gT rfl rfl (by omega) ?_
      refine WL.len (T := Ty) rfl rfl (by assumption) rfl ?_
      refine WL.nilT ?_
      refine WD.takeL 10 rfl (by decide +kernel) ?_
      refine WL.gT rfl rfl (by omega) ?_
      refine WL.lss rfl rfl rfl ?_
      refine WL.nilT ?_
      refine WD.takeL 11 rfl (by decide +kernel) ?_
      refine WL.pickTp rfl rfl (by omega) rfl ?_
      refine WL.nilT ?_
      refine WD.takeL 12 rfl (by decide +kernel) ?_
      refine WL.mv rfl rfl ?_
      refine WL.nilT ?_
      refine WD.takeL 13 rfl (by decide +kernel) ?_
      refine WL.gT rfl rfl (by omega) ?_
      refine WL.mv rfl rfl ?_
      refine WL.nilT ?_
      refine WD.takeL 14 rfl (by decide +kernel) ?_
      refine WL.gT rfl rfl (by omega) ?_
      refine WL.mv rfl rfl ?_
      refine WL.nilT ?_
      refine WD.takeL 15 rfl (by decide +kernel) ?_
      refine WL.gT rfl rfl (by omega) ?_
      refine WL.len (T := Ty) rfl rfl (by assumption) rfl ?_
      refine WL.nilT ?_
      refine WD.takeL 16 rfl (by decide +kernel) ?_
      refine WL.gT rfl rfl (by omega) ?_
      refine WL.lss rfl rfl rfl ?_
      refine WL.nilT ?_
      refine WD.takeL 17 rfl (by decide +kernel) ?_
      refine WL.pickTp rfl rfl (by omega) rfl ?_
      refine WL.nilT ?_
      refine WD.takeL 18 rfl (by decide +kernel) ?_
      refine WL.mv rfl rfl ?_
      refine WL.nilT ?_
      refine WD.takeL 19 rfl (by decide +kernel) ?_
      refine WL.gT rfl rfl (by omega) ?_
      refine WL.mv rfl rfl ?_
      refine WL.nilT ?_
      refine WD.takeL 20 rfl (by decide +kernel) ?_
      refine WL.gT rfl rfl (by omega) ?_
      refine WL.mv rfl rfl ?_
      refine WL.nilT ?_
      refine WD.takeL 21 rfl (by decide +kernel) ?_
      refine WL.gT rfl rfl (by omega) ?_
      refine WL.slDn (T := Ty) rfl rfl rfl rfl rfl (by first | assumption | exact ROs.wide (by assumption)) (by first | assumption | omega | (simp; omega)) (fun u3 hu3 ru3 => ?_)
      refine WL.nilT ?_
      refine WD.takeL 22 rfl (by decide +kernel) ?_
      refine WL.gT rfl rfl (by omega) ?_
      refine WL.b2sRN (T := Ty) rfl rfl rfl rfl rfl rfl rfl (by assumption) ?_
      refine WL.nilT ?_
      refine WD.takeL 23 rfl (by decide +kernel) ?_
      refine WL.gT rfl rfl (by omega) ?_
      refine WL.mv rfl rfl ?_
      refine WL.nilT ?_
      refine WD.takeL 24 rfl (by decide +kernel) ?_
      refine WL.gT rfl rfl (by omega) ?_
      refine WL.mv rfl rfl ?_
      refine WL.nilT ?_
      refine WD.takeL 25 rfl (by decide +kernel) ?_
      refine WL.gT rfl rfl (by omega) ?_
      refine WL.slDn (T := Ty) rfl rfl rfl rfl rfl (by first | assumption | exact ROs.wide (by assumption)) (by first | assumption | omega | (simp; omega)) (fun u4 hu4 ru4 => ?_)
      refine WL.nilT ?_
      refine WD.takeL 26 rfl (by decide +kernel) ?_
      refine WL.gT rfl rfl (by omega) ?_
      refine WL.b2sRN (T := Ty) rfl rfl rfl rfl rfl rfl rfl (by assumption) ?_
      refine WL.nilT ?_
      refine WD.takeL 27 rfl (by decide +kernel) ?_
      refine WL.gT rfl rfl (by omega) ?_
      refine WL.eqST rfl rfl rfl (by first | with_reducible rfl | assumption) ?_
      refine WL.nilT ?_
      refine WD.takeL 28 rfl (by decide +kernel) ?_
      refine WL.pickTp rfl rfl (by omega) rfl ?_
      refine WL.nilT ?_
      refine WD.takeL 29 rfl (by decide +kernel) ?_
      refine WL.mv rfl rfl ?_
      refine WL.nilT ?_
      refine WD.oneL 30 rfl (by decide +kernel) ?_
      refine WL.gY rfl rfl ?_
      refine WL.callT rfl rfl (fun x p d => awake8_c _) ?_
      refine WL.nilE ?_
      refine WD.takeL 31 rfl (by decide +kernel) ?_
      refine WL.pickT rfl rfl rfl ?_
      refine WL.nilT ?_
      refine WD.lastG hσ0 (by decide +kernel) (by repeat' first | exact FL.nil | apply FL.cons) rfl (by repeat' first | exact FL.nil | apply FL.cons) ?_
      refine WL.as rfl rfl ?_
      refine WL.nil ?_
      exact W.ret1 rfl rfl (fun h p => rfl)
  · have hxw : ∀ x ∈ xs, x < 18446744073709551616 := fun x hx => by have := hxs x hx; omega
    obtain ⟨ys, hys⟩ : ∃ ys, ys = xs.map (· + c) := ⟨_, rfl⟩
    rw [← hys] at hsq hxl2 ⊢
    have hyw : ∀ x ∈ ys, x < 18446744073709551616 := by
      intro z hz
      rw [hys] at hz
      obtain ⟨x, hx, rfl⟩ := List.mem_map.1 hz
      have := hxs x hx
      show x + c < _
      omega
    have hd1 : decFp (encFp ys) (ys.length : Int) = some ys := decFp_encFp (by unfold heldM; omega) hyw
    have hex := encFp_lt hxw
    have hey := encFp_lt hyw
    have hlx := encFp_len xs
    have hly := encFp_len ys
    by_cases hn : xs = []
    · have hn2 : ys = [] := by rw [hys, hn]; rfl
      have e1 : (encFp xs).length = 0 := by rw [hn, encFp_nil]; rfl
      have e2 : (encFp ys).length = 0 := by rw [hn2, encFp_nil]; rfl
      have e3 : xs.length = 0 := by rw [hn]; rfl
      refine W.seq ?_
      refine W.seq ?_
      refine W.region ?_
      refine WL.mv rfl rfl ?_
      refine WL.mv rfl rfl ?_
      refine WL.len (T := Ty) rfl rfl (by assumption) rfl ?_
      refine WL.lss rfl rfl rfl ?_
      refine WL.mv rfl rfl ?_
      refine WL.gdTn rfl rfl rfl rfl rfl (by omega) ?_
      refine WL.gdTn rfl rfl rfl rfl rfl (by omega) ?_
      refine WL.pickFp rfl rfl (by omega) rfl ?_
      refine WL.nil ?_
      refine W.condF rfl ?_
      refine W.exit rfl ?_
      refine W.seq ?_
      refine W.region ?_
      refine WL.mv rfl rfl ?_
      refine WL.callF rfl rfl (fun x p d => fpenc_c _ _ _ (by first | assumption | exact ROs.wide (by assumption) | exact ROs.mono (by assumption) (eqh_at 0 rfl p d) | exact ros_at 0 rfl p d | exact ros_at 1 rfl p d | exact ros_at 2 rfl p d | exact ros_at 3 rfl p d | exact ros_at 4 rfl p d) (by first | assumption | omega | decide) (by first | assumption | omega | decide)) (fun u0 => ?_)
      refine WL.fact (i := 0) rfl (fun h hb => Buf.slm hb) (fun hsl0 => ?_)
      refine WL.mv rfl rfl ?_
      refine WL.callF rfl rfl (fun x p d => fpenc_c _ _ _ (by first | assumption | exact ROs.wide (by assumption) | exact ROs.mono (by assumption) (eqh_at 0 rfl p d) | exact ros_at 0 rfl p d | exact ros_at 1 rfl p d | exact ros_at 2 rfl p d | exact ros_at 3 rfl p d | exact ros_at 4 rfl p d) (by first | assumption | omega | decide) (by first | assumption | omega | decide)) (fun u1 => ?_)
      refine WL.fact (i := 0) rfl (fun h hb => Buf.slm hb) (fun hsl1 => ?_)
      refine WL.as rfl rfl ?_
      refine WL.as rfl rfl ?_
      refine WL.nil ?_
      refine W.seq ?_
      refine W.region ?_
      refine WL.mv rfl rfl ?_
      refine WL.mv rfl rfl ?_
      refine WL.len (T := Ty) rfl rfl (by assumption) rfl ?_
      refine WL.callF rfl rfl (fun x p d => fpdec_s _ _ _ _ (by first | assumption | exact ROs.wide (by assumption) | exact ROs.mono (by assumption) (eqh_at 0 rfl p d) | exact ros_at 0 rfl p d | exact ros_at 1 rfl p d | exact ros_at 2 rfl p d | exact ros_at 3 rfl p d | exact ros_at 4 rfl p d) (by assumption) (by first | assumption | omega | decide) (by first | assumption | omega | decide)) (fun r => ?_)
      refine WL.ex (fun u2 => ?_)
      refine WL.pure (fun er => ?_)
      subst er
      refine WL.fact (i := 0) rfl (fun h hb => Buf.slm hb) (fun hsl2 => ?_)
      refine WL.mv rfl rfl ?_
      refine WL.extL rfl rfl rfl ?_
      refine WL.extL rfl rfl rfl ?_
      refine WL.as rfl rfl ?_
      refine WL.as rfl rfl ?_
      refine WL.nil ?_
      refine W.seq ?_
      refine W.seq ?_
      refine W.region ?_
      refine WL.mv rfl rfl ?_
      refine WL.not rfl rfl ?_
      refine WL.mv rfl rfl ?_
      refine WL.gY rfl rfl ?_
      refine WL.mv rfl rfl ?_
      refine WL.gY rfl rfl ?_
      refine WL.mv rfl rfl ?_
      refine WL.gY rfl rfl ?_
      refine WL.callV rfl rfl (fun x p d => samew_t _ _ _ _ _ (by first | with_reducible rfl | assumption) (by first | assumption | exact ROs.wide (by assumption) | exact ROs.mono (by assumption) (eqh_at 0 rfl p d) | exact ros_at 0 rfl p d | exact ros_at 1 rfl p d | exact ros_at 2 rfl p d | exact ros_at 3 rfl p d | exact ros_at 4 rfl p d) (by first | assumption | exact ROs.wide (by assumption) | exact ROs.mono (by assumption) (eqh_at 0 rfl p d) | exact ros_at 0 rfl p d | exact ros_at 1 rfl p d | exact ros_at 2 rfl p d | exact ros_at 3 rfl p d | exact ros_at 4 rfl p d) (by first | assumption | omega | exact Nat.zero_le _ | decide)) ?_
      refine WL.gY rfl rfl ?_
      refine WL.not rfl rfl ?_
      refine WL.pickF rfl rfl rfl ?_
      refine WL.nil ?_
      refine W.condF rfl ?_
      refine W.skip ?_
      refine W.seq ?_
      refine W.seq ?_
      refine W.region ?_
      refine WL.mv rfl rfl ?_
      refine WL.len (T := Ty) rfl rfl (by assumption) rfl ?_
      refine WL.eql rfl rfl rfl ?_
      refine WL.nil ?_
      refine W.condpT rfl (by omega) ?_
      refine W.seq ?_
      refine W.region ?_
      refine WL.mv rfl rfl ?_
      refine WL.len (T := Ty) rfl rfl (by assumption) rfl ?_
      refine WL.eql rfl rfl rfl ?_
      refine WL.mv rfl rfl ?_
      refine WL.gT rfl rfl (by omega) ?_
      refine WL.mv rfl rfl ?_
      refine WL.gT rfl rfl (by omega) ?_
      refine WL.len (T := Ty) rfl rfl (by assumption) rfl ?_
      refine WL.gT rfl rfl (by omega) ?_
      refine WL.eql rfl rfl rfl ?_
      refine WL.pickTp rfl rfl (by omega) rfl ?_
      refine WL.mv rfl rfl ?_
      refine WL.gT rfl rfl (by omega) ?_
      refine WL.callT rfl rfl (fun x p d => awake8_c _) ?_
      refine WL.pickTp rfl rfl (by omega) rfl ?_
      refine WL.as rfl rfl ?_
      refine WL.nil ?_
      exact W.ret1 rfl rfl (fun h p => rfl)
    · have hn2 : ys ≠ [] := by rw [hys]; simpa using hn
      have hpos : 0 < xs.length := List.length_pos_iff.2 hn
      obtain ⟨g1, g2, g3, g4⟩ := encFp_head hn hxw
      obtain ⟨k1, k2, k3, k4⟩ := encFp_head hn2 hyw
      have l1 := vput_len 9 (loF xs)
      have l2 := vput_len 9 (loF ys)
      have hdr : (encFp xs).drop (vputF 9 (loF xs)).length = (encFp ys).drop (vputF 9 (loF ys)).length := by
        rw [encFp_ne hn, encFp_ne hn2, hys, wF_add c hn, lessF_add c hn, List.append_assoc, List.append_assoc, List.drop_left, List.drop_left]
      have hss : strN ((encFp xs).drop (vputF 9 (loF xs)).length) = strN ((encFp ys).drop (vputF 9 (loF ys)).length) := by rw [hdr]
      refine W.seq ?_
      refine W.seq ?_
      refine W.region ?_
      refine WL.mv rfl rfl ?_
      refine WL.mv rfl rfl ?_
      refine WL.len (T := Ty) rfl rfl (by assumption) rfl ?_
      refine WL.lss rfl rfl rfl ?_
      refine WL.mv rfl rfl ?_
      refine WL.gdTn rfl rfl rfl rfl rfl (by omega) ?_
      refine WL.gdTn rfl rfl rfl rfl rfl (by omega) ?_
      refine WL.pickFp rfl rfl (by omega) rfl ?_
      refine WL.nil ?_
      refine W.condF rfl ?_
      refine W.exit rfl ?_
      refine W.seq ?_
      refine W.region ?_
      refine WL.mv rfl rfl ?_
      refine WL.callF rfl rfl (fun x p d => fpenc_c _ _ _ (by first | assumption | exact ROs.wide (by assumption) | exact ROs.mono (by assumption) (eqh_at 0 rfl p d) | exact ros_at 0 rfl p d | exact ros_at 1 rfl p d | exact ros_at 2 rfl p d | exact ros_at 3 rfl p d | exact ros_at 4 rfl p d) (by first | assumption | omega | decide) (by first | assumption | omega | decide)) (fun u0 => ?_)
      refine WL.fact (i := 0) rfl (fun h hb => Buf.slm hb) (fun hsl0 => ?_)
      refine WL.mv rfl rfl ?_
      refine WL.callF rfl rfl (fun x p d => fpenc_c _ _ _ (by first | assumption | exact ROs.wide (by assumption) | exact ROs.mono (by assumption) (eqh_at 0 rfl p d) | exact ros_at 0 rfl p d | exact ros_at 1 rfl p d | exact ros_at 2 rfl p d | exact ros_at 3 rfl p d | exact ros_at 4 rfl p d) (by first | assumption | omega | decide) (by first | assumption | omega | decide)) (fun u1 => ?_)
      refine WL.fact (i := 0) rfl (fun h hb => Buf.slm hb) (fun hsl1 => ?_)
      refine WL.as rfl rfl ?_
      refine WL.as rfl rfl ?_
      refine WL.nil ?_
      refine W.seq ?_
      refine W.region ?_
      refine WL.mv rfl rfl ?_
      refine WL.mv rfl rfl ?_
      refine WL.len (T := Ty) rfl rfl (by assumption) rfl ?_
      refine WL.callF rfl rfl (fun x p d => fpdec_s _ _ _ _ (by first | assumption | exact ROs.wide (by assumption) | exact ROs.mono (by assumption) (eqh_at 0 rfl p d) | exact ros_at 0 rfl p d | exact ros_at 1 rfl p d | exact ros_at 2 rfl p d | exact ros_at 3 rfl p d | exact ros_at 4 rfl p d) (by assumption) (by first | assumption | omega | decide) (by first | assumption | omega | decide)) (fun r => ?_)
      refine WL.ex (fun u2 => ?_)
      refine WL.pure (fun er => ?_)
      subst er
      refine WL.fact (i := 0) rfl (fun h hb => Buf.slm hb) (fun hsl2 => ?_)
      refine WL.mv rfl rfl ?_
      refine WL.extL rfl rfl rfl ?_
      refine WL.extL rfl rfl rfl ?_
      refine WL.as rfl rfl ?_
      refine WL.as rfl rfl ?_
      refine WL.nil ?_
      refine W.seq ?_
      refine W.seq ?_
      refine W.region ?_
      refine WL.mv rfl rfl ?_
      refine WL.not rfl rfl ?_
      refine WL.mv rfl rfl ?_
      refine WL.gY rfl rfl ?_
      refine WL.mv rfl rfl ?_
      refine WL.gY rfl rfl ?_
      refine WL.mv rfl rfl ?_
      refine WL.gY rfl rfl ?_
      refine WL.callV rfl rfl (fun x p d => samew_t _ _ _ _ _ (by first | with_reducible rfl | assumption) (by first | assumption | exact ROs.wide (by assumption) | exact ROs.mono (by assumption) (eqh_at 0 rfl p d) | exact ros_at 0 rfl p d | exact ros_at 1 rfl p d | exact ros_at 2 rfl p d | exact ros_at 3 rfl p d | exact ros_at 4 rfl p d) (by first | assumption | exact ROs.wide (by assumption) | exact ROs.mono (by assumption) (eqh_at 0 rfl p d) | exact ros_at 0 rfl p d | exact ros_at 1 rfl p d | exact ros_at 2 rfl p d | exact ros_at 3 rfl p d | exact ros_at 4 rfl p d) (by first | assumption | omega | exact Nat.zero_le _ | decide)) ?_
      refine WL.gY rfl rfl ?_
      refine WL.not rfl rfl ?_
      refine WL.pickF rfl rfl rfl ?_
      refine WL.nil ?_
      refine W.condF rfl ?_
      refine W.skip ?_
      refine W.seq ?_
      refine W.seq ?_
      refine W.region ?_
      refine WL.mv rfl rfl ?_
      refine WL.len (T := Ty) rfl rfl (by assumption) rfl ?_
      refine WL.eql rfl rfl rfl ?_
      refine WL.nil ?_
      refine W.condpF rfl (by omega) ?_
      refine W.skip ?_
      refine W.seq ?_
      refine W.region ?_
      refine WL.mv rfl rfl ?_
      refine WL.callV rfl rfl (fun x p d => rget_e _ _ _ (by first | assumption | exact ROs.wide (by assumption) | exact ROs.mono (by assumption) (eqh_at 0 rfl p d) | exact ros_at 0 rfl p d | exact ros_at 1 rfl p d | exact ros_at 2 rfl p d | exact ros_at 3 rfl p d | exact ros_at 4 rfl p d) (by assumption) (by first | assumption) (by first | assumption | omega)) ?_
      refine WL.mv rfl rfl ?_
      refine WL.extL rfl rfl rfl ?_
      refine WL.extL rfl rfl rfl ?_
      refine WL.as rfl rfl ?_
      refine WL.as rfl rfl ?_
      refine WL.nil ?_
      refine W.seq ?_
      refine W.region ?_
      refine WL.mv rfl rfl ?_
      refine WL.callV rfl rfl (fun x p d => rget_e _ _ _ (by first | assumption | exact ROs.wide (by assumption) | exact ROs.mono (by assumption) (eqh_at 0 rfl p d) | exact ros_at 0 rfl p d | exact ros_at 1 rfl p d | exact ros_at 2 rfl p d | exact ros_at 3 rfl p d | exact ros_at 4 rfl p d) (by assumption) (by first | assumption) (by first | assumption | omega)) ?_
      refine WL.mv rfl rfl ?_
      refine WL.extL rfl rfl rfl ?_
      refine WL.extL rfl rfl rfl ?_
      refine WL.as rfl rfl ?_
      refine WL.as rfl rfl ?_
      refine WL.nil ?_
      refine W.seq ?_
      refine W.drawA 32 rfl (fun σ0 hσ0 dσ0 => ?_)
      have fσ0_0 := ros_at 0 rfl hσ0 dσ0
      have fσ0_1 := ros_at 1 rfl hσ0 dσ0
      have fσ0_2 := ros_at 2 rfl hσ0 dσ0
      have fσ0_3 := ros_at 3 rfl hσ0 dσ0
      have fσ0_4 := ros_at 4 rfl hσ0 dσ0
      refine WD.takeL 0 rfl (by decide +kernel) ?_
      refine WL.mv rfl rfl ?_
      refine WL.nilT ?_
      refine WD.takeL 1 rfl (by decide +kernel) ?_
      refine WL.gtr rfl rfl rfl ?_
      refine WL.nilT ?_
      refine WD.takeL 2 rfl (by decide +kernel) ?_
      refine WL.mv rfl rfl ?_
      refine WL.nilT ?_
      refine WD.takeL 3 rfl (by decide +kernel) ?_
      refine WL.gT rfl rfl (by omega) ?_
      refine WL.mv rfl rfl ?_
      refine WL.nilT ?_
      refine WD.takeL 4 rfl (by decide +kernel) ?_
      refine WL.gT rfl rfl (by omega) ?_
      refine WL.gtr rfl rfl rfl ?_
      refine WL.nilT ?_
      refine WD.takeL 5 rfl (by decide +kernel) ?_
      refine WL.pickTp rfl rfl (by omega) rfl ?_
      refine WL.nilT ?_
      refine WD.takeL 6 rfl (by decide +kernel) ?_
      refine WL.mv rfl rfl ?_
      refine WL.nilT ?_
      refine WD.takeL 7 rfl (by decide +kernel) ?_
      refine WL.gT rfl rfl (by omega) ?_
      refine WL.mv rfl rfl ?_
      refine WL.nilT ?_
      refine WD.takeL 8 rfl (by decide +kernel) ?_
      refine WL.gT rfl rfl (by omega) ?_
      refine WL.mv rfl rfl ?_
      refine WL.nilT ?_
      refine WD.takeL 9 rfl (by decide +kernel) ?_
      refine WL.gT rfl rfl (by omega) ?_
      refine WL.len (T := Ty) rfl rfl (by assumption) rfl ?_
      refine WL.nilT ?_
      refine WD.takeL 10 rfl (by decide +kernel) ?_
      refine WL.gT rfl rfl (by omega) ?_
      refine WL.lss rfl rfl rfl ?_
      refine WL.nilT ?_
      refine WD.takeL 11 rfl (by decide +kernel) ?_
      refine WL.pickTp rfl rfl (by omega) rfl ?_
      refine WL.nilT ?_
      refine WD.takeL 12 rfl (by decide +kernel) ?_
      refine WL.mv rfl rfl ?_
      refine WL.nilT ?_
      refine WD.takeL 13 rfl (by decide +kernel) ?_
      refine WL.gT rfl rfl (by omega) ?_
      refine WL.mv rfl rfl ?_
      refine WL.nilT ?_
      refine WD.takeL 14 rfl (by decide +kernel) ?_
      refine WL.gT rfl rfl (by omega) ?_
      refine WL.mv rfl rfl ?_
      refine WL.nilT ?_
      refine WD.takeL 15 rfl (by decide +kernel) ?_
      refine WL.gT rfl rfl (by omega) ?_
      refine WL.len (T := Ty) rfl rfl (by assumption) rfl ?_
      refine WL.nilT ?_
      refine WD.takeL 16 rfl (by decide +kernel) ?_
      refine WL.gT rfl rfl (by omega) ?_
      refine WL.lss rfl rfl rfl ?_
      refine WL.nilT ?_
      refine WD.takeL 17 rfl (by decide +kernel) ?_
      refine WL.pickTp rfl rfl (by omega) rfl ?_
      refine WL.nilT ?_
      refine WD.takeL 18 rfl (by decide +kernel) ?_
      refine WL.mv rfl rfl ?_
      refine WL.nilT ?_
      refine WD.takeL 19 rfl (by decide +kernel) ?_
      refine WL.gT rfl rfl (by omega) ?_
      refine WL.mv rfl rfl ?_
      refine WL.nilT ?_
      refine WD.takeL 20 rfl (by decide +kernel) ?_
      refine WL.gT rfl rfl (by omega) ?_
      refine WL.mv rfl rfl ?_
      refine WL.nilT ?_
      refine WD.takeL 21 rfl (by decide +kernel) ?_
      refine WL.gT rfl rfl (by omega) ?_
      refine WL.slDn (T := Ty) rfl rfl rfl rfl rfl (by first | assumption | exact ROs.wide (by assumption)) (by first | assumption | omega | (simp; omega)) (fun u3 hu3 ru3 => ?_)
      refine WL.nilT ?_
      refine WD.takeL 22 rfl (by decide +kernel) ?_
      refine WL.gT rfl rfl (by omega) ?_
      refine WL.b2sRN (T := Ty) rfl rfl rfl rfl rfl rfl rfl (by assumption) ?_
      refine WL.nilT ?_
      refine WD.takeL 23 rfl (by decide +kernel) ?_
      refine WL.gT rfl rfl (by omega) ?_
      refine WL.mv rfl rfl ?_
      refine WL.nilT ?_
      refine WD.takeL 24 rfl (by decide +kernel) ?_
      refine WL.gT rfl rfl (by omega) ?_
      refine WL.mv rfl rfl ?_
      refine WL.nilT ?_
      refine WD.takeL 25 rfl (by decide +kernel) ?_
      refine WL.gT rfl rfl (by omega) ?_
      refine WL.slDn (T := Ty) rfl rfl rfl rfl rfl (by first | assumption | exact ROs.wide (by assumption)) (by first | assumption | omega | (simp; omega)) (fun u4 hu4 ru4 => ?_)
      refine WL.nilT ?_
      refine WD.takeL 26 rfl (by decide +kernel) ?_
      refine WL.gT rfl rfl (by omega) ?_
      refine WL.b2sRN (T := Ty) rfl rfl rfl rfl rfl rfl rfl (by assumption) ?_
      refine WL.nilT ?_
      refine WD.takeL 27 rfl (by decide +kernel) ?_
      refine WL.gT rfl rfl (by omega) ?_
      refine WL.eqST rfl rfl rfl (by first | with_reducible rfl | assumption) ?_
      refine WL.nilT ?_
      refine WD.takeL 28 rfl (by decide +kernel) ?_
      refine WL.pickTp rfl rfl (by omega) rfl ?_
      refine WL.nilT ?_
      refine WD.takeL 29 rfl (by decide +kernel) ?_
      refine WL.mv rfl rfl ?_
      refine WL.nilT ?_
      refine WD.oneL 30 rfl (by decide +kernel) ?_
      refine WL.gY rfl rfl ?_
      refine WL.callT rfl rfl (fun x p d => awake8_c _) ?_
      refine WL.nilE ?_
      refine WD.takeL 31 rfl (by decide +kernel) ?_
      refine WL.pickT rfl rfl rfl ?_
      refine WL.nilT ?_
      refine WD.lastG hσ0 (by decide +kernel) (by repeat' first | exact FL.nil | apply FL.cons) rfl (by repeat' first | exact FL.nil | apply FL.cons) ?_
      refine WL.as rfl rfl ?_
      refine WL.nil ?_
      exact W.ret1 rfl rfl (fun h p => rfl)
end Go.Proofs.Ytjibmfkhhljhcaa
