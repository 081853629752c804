/- Small numbers, many to a word: the document's Simple. -/
import Derived.Test.YtlmhjkbbooghfaaStc
import Derived.Test.YtlmhjkbbooghfaaNum
import Derived.Test.YtlmhjkbbooghfaaTab
import Derived.Test.YtlmhjkbbooghfaaSimpRef
set_option linter.unusedSimpArgs false
set_option linter.unusedVariables false
set_option maxRecDepth 20000
set_option maxHeartbeats 4000000
namespace Go.Proofs.Ytlmhjkbbooghfaa
open Go
attribute [local irreducible] W WL Fn Buf ROs SL eptr box Rd Src bndOK WD RB Reads In encS decS decSF bits

-- CALL 31 refine WL.callF rfl rfl (fun x p d => rsimple_s _ _ _ (by assumption) $RO (by first | assumption | omega) (by first | assumption | omega)) (fun r => ?_) ;; refine WL.ex (fun u$N => ?_) ;; refine WL.pure (fun er => ?_) ;; subst er ;; refine WL.fact (i := 0) rfl (fun h hb => Buf.slm hb) (fun hsl$N => ?_)
-- CALL 31 refine WL.callF rfl rfl (fun x p d => rsimple_n _ _ _ (by assumption) $RO (by first | assumption | omega) (by first | assumption | omega)) (fun r => ?_) ;; refine WL.ex (fun u$N => ?_) ;; refine WL.pure (fun er => ?_) ;; subst er ;; refine WL.fact (i := 0) rfl (fun h hb => Buf.slm hb) (fun hsl$N => ?_)
theorem rsimple_c (ρ : Hp) (v : Value) (us : List Nat) (hv : ROs ρ 1 v (us.map ucell)) (hw : ∀ x ∈ us, x < 18446744073709551616) (hl : us.length ≤ 17592186044416) :
    Fn Try.prog 31 #[v] ρ [] (RowR (encS us)) := by
  refine in31 rfl rfl ?_
  have sv := hv.slm
  refine W.seq ?_
  refine W.region ?_
  refine WL.as rfl rfl ?_
  refine WL.as rfl rfl ?_
  refine WL.nil ?_
  refine W.seq ?_
  refine W.region ?_
  refine WL.as rfl rfl ?_
  refine WL.nil ?_
  refine W.seq ?_
  refine W.seq ?_
  refine W.region ?_
  refine WL.as rfl rfl ?_
  refine WL.nil ?_
  refine W.block ?_
  refine W.nb (sz := 1) ?_
  refine W.loopS (σ := Nat × Value × List Nat) (fun s => [(0, v), (4, s.2.1), (5, .int .i64 (s.1 : Int))]) (fun s => [Buf 1 s.2.1 (s.2.2.map ucell)])
    (fun s => s.1 ≤ us.length ∧ (encS (us.drop s.1)).map (s.2.2 ++ ·) = encS us ∧ s.2.2.length ≤ s.1) (fun s => us.length - s.1) (0, .slice none 0 0, []) ⟨rfl, rfl, rfl, trivial⟩ rfl ⟨Nat.zero_le _, by simp, by simp⟩ ?_
  rintro ⟨a, o, os⟩ ⟨h1, h2, h3⟩ next
  simp only [] at h1 h2 h3 next ⊢
  refine W.fact (i := 0) rfl (fun h hb => Buf.slm hb) (fun hso => ?_)
  by_cases hlt : a < us.length
  · obtain ⟨x0, l0, hxl⟩ : ∃ x l, us.drop a = x :: l := by
      cases h : us.drop a with
      | nil => have := congrArg List.length h; simp at this; omega
      | cons x l => exact ⟨x, l, rfl⟩
    have hwd : ∀ y ∈ us.drop a, y < 18446744073709551616 := fun y hy => hw y (List.mem_of_mem_drop hy)
    have hdl : (us.drop a).length = us.length - a := by simp
    have hec := encS_cons x0 l0
    rw [← hxl] at hec
    rw [hec] at h2
    refine W.seq ?_
    refine W.seq ?_
    refine W.region ?_
    refine WL.mv rfl rfl ?_
    refine WL.mv rfl rfl ?_
    refine WL.len (T := Ty) rfl rfl (by assumption) rfl ?_
    refine WL.lss rfl rfl rfl ?_
    refine WL.nil ?_
    refine W.condpT rfl (by omega) ?_
    refine W.skip ?_
    refine W.block ?_
    refine W.seq ?_
    refine W.region ?_
    refine WL.as rfl rfl ?_
    refine WL.nil ?_
    refine W.seq ?_
    refine W.block ?_
    refine W.loopS (σ := Nat) (fun k => [(0, v), (4, o), (5, .int .i64 (a : Int)), (6, .int .i64 (k : Int))]) (fun _ => [Buf 1 o (os.map ucell)]) (fun k => k ≤ 16 ∧ ∀ t, t < k → fitsS (us.drop a) t = false) (fun k => 16 - k) 0 ⟨rfl, rfl, rfl, rfl, trivial⟩ rfl ⟨Nat.zero_le _, fun t h => absurd h (Nat.not_lt_zero t)⟩ ?_
    intro k ⟨hk, hkb⟩ next2
    by_cases hk16 : k < 16
    · cases hfit : fitsS (us.drop a) k with
      | false =>
        refine W.seq ?_
        refine W.seq ?_
        refine W.region ?_
        refine WL.mv rfl rfl ?_
        refine WL.lss rfl rfl rfl ?_
        refine WL.mv rfl rfl ?_
        refine WL.gT rfl rfl (by omega) ?_
        refine WL.mv rfl rfl ?_
        refine WL.gT rfl rfl (by omega) ?_
        refine WL.mv rfl rfl ?_
        refine WL.gT rfl rfl (by omega) ?_
        refine WL.slDn (T := Ty) rfl rfl rfl rfl rfl (by first | assumption | exact ROs.wide (by assumption)) (by first | assumption | omega | (simp; omega)) (fun u0 hu0 ru0 => ?_)
        refine WL.gT rfl rfl (by omega) ?_
        refine WL.mv rfl rfl ?_
        refine WL.gT rfl rfl (by omega) ?_
        refine WL.callV rfl rfl (fun x p d => rfits_e _ _ _ _ (by assumption) (by first | assumption | exact ROs.wide (by assumption) | exact ROs.mono (by assumption) (eqh_at 0 rfl p d) | exact ros_at 0 rfl p d | exact ros_at 1 rfl p d | exact ros_at 2 rfl p d | exact ros_at 3 rfl p d | exact ros_at 4 rfl p d) (by first | assumption | omega) (by first | assumption | omega) (by first | assumption | omega)) ?_
        refine WL.gT rfl rfl (by omega) ?_
        refine WL.not rfl rfl ?_
        refine WL.pickTp rfl rfl (by omega) rfl ?_
        refine WL.nil ?_
        refine W.condT rfl ?_
        refine W.skip ?_
        refine W.block ?_
        refine W.region ?_
        refine WL.mv rfl rfl ?_
        refine WL.addK rfl rfl rfl (wrap_i64 ⟨by omega, by omega⟩) ?_
        refine WL.as rfl rfl ?_
        refine WL.nil ?_
        refine W.inBlock ?_
        refine W.sub ?_ (next2 (k + 1) ⟨by omega, ?_⟩ (by omega))
        · exact ⟨rfl, rfl, rfl, rfl, trivial⟩
        · intro t ht
          rcases (by omega : t < k ∨ t = k) with h | rfl
          · exact hkb t h
          · exact hfit
      | true =>
        have hkind : kindS (us.drop a) 16 0 = some k := kindS_is hk16 hfit hkb
        rw [hkind] at h2
        simp only [Option.map_map] at h2
        have hkf := kind_facts ⟨k, hk16⟩
        simp only [] at hkf
        obtain ⟨M, hM⟩ : ∃ M, M = min (cntS k) (us.length - a) := ⟨_, rfl⟩
        have eM : min (cntS k : Int) ((us.length : Int) - (a : Int)) = ((M : Nat) : Int) := by omega
        obtain ⟨l, hl'⟩ : ∃ l, l = (us.drop a).take (cntS k) := ⟨_, rfl⟩
        have hll : l.length = M := by rw [hl', List.length_take, hdl, hM]
        have hfl : ∀ x ∈ l, x < 2 ^ bitS k := by rw [hl']; exact fitsS_lt hfit
        have hMc : M ≤ cntS k := by omega
        have hM1 : 1 ≤ M := by omega
        have hdr : (us.drop a).drop (cntS k) = us.drop (a + M) := by
          rw [List.drop_drop, List.drop_eq_drop_iff]; omega
        refine W.seq ?_
        refine W.seq ?_
        refine W.region ?_
        refine WL.mv rfl rfl ?_
        refine WL.lss rfl rfl rfl ?_
        refine WL.mv rfl rfl ?_
        refine WL.gT rfl rfl (by omega) ?_
        refine WL.mv rfl rfl ?_
        refine WL.gT rfl rfl (by omega) ?_
        refine WL.mv rfl rfl ?_
        refine WL.gT rfl rfl (by omega) ?_
        refine WL.slDn (T := Ty) rfl rfl rfl rfl rfl (by first | assumption | exact ROs.wide (by assumption)) (by first | assumption | omega | (simp; omega)) (fun u0 hu0 ru0 => ?_)
        refine WL.gT rfl rfl (by omega) ?_
        refine WL.mv rfl rfl ?_
        refine WL.gT rfl rfl (by omega) ?_
        refine WL.callV rfl rfl (fun x p d => rfits_e _ _ _ _ (by assumption) (by first | assumption | exact ROs.wide (by assumption) | exact ROs.mono (by assumption) (eqh_at 0 rfl p d) | exact ros_at 0 rfl p d | exact ros_at 1 rfl p d | exact ros_at 2 rfl p d | exact ros_at 3 rfl p d | exact ros_at 4 rfl p d) (by first | assumption | omega) (by first | assumption | omega) (by first | assumption | omega)) ?_
        refine WL.gT rfl rfl (by omega) ?_
        refine WL.not rfl rfl ?_
        refine WL.pickTp rfl rfl (by omega) rfl ?_
        refine WL.nil ?_
        refine W.condF rfl ?_
        refine W.exit rfl ?_
        refine W.seq ?_
        refine W.seq ?_
        refine W.region ?_
        refine WL.mv rfl rfl ?_
        refine WL.eql rfl rfl rfl ?_
        refine WL.nil ?_
        refine W.condpF rfl (by omega) ?_
        refine W.skip ?_
        refine W.seq ?_
        refine W.region ?_
        refine WL.mv rfl rfl ?_
        refine WL.cvK (T := Ty) rfl rfl rfl rfl (wrap_u64 ⟨by omega, by omega⟩) ?_
        refine WL.shlS (c := 1152921504606846976) rfl rfl rfl (by omega) (by decide) (wrap_u64 ⟨by omega, by omega⟩) ?_
        refine WL.as rfl rfl ?_
        refine WL.nil ?_
        refine W.seq ?_
        refine W.region ?_
        refine WL.mv rfl rfl ?_
        refine WL.callV rfl rfl (fun x p d => rnum_c _ _ (by first | assumption | omega)) ?_
        refine WL.mv rfl rfl ?_
        refine WL.len (T := Ty) rfl rfl (by assumption) rfl ?_
        refine WL.mv rfl rfl ?_
        refine WL.subK rfl rfl rfl (wrap_i64 ⟨by omega, by omega⟩) ?_
        refine WL.mn rfl rfl rfl ?_
        refine WL.as rfl rfl ?_
        refine WL.nil ?_
        refine W.seq ?_
        refine W.seq ?_
        refine W.region ?_
        refine WL.as rfl rfl ?_
        refine WL.nil ?_
        refine W.block ?_
        rw [eM]
        refine W.loopS (σ := Nat) (fun j => [(0, v), (4, o), (5, .int .i64 (a : Int)), (6, .int .i64 (k : Int)), (7, .int .u64 ((k * 1152921504606846976 + packW (bitS k) (l.take j) : Nat) : Int)), (8, .int .i64 (M : Int)), (9, .int .i64 (j : Int))])
          (fun _ => [Buf 1 o (os.map ucell)]) (fun j => j ≤ M) (fun j => M - j) 0 ⟨rfl, rfl, rfl, rfl, ?_, rfl, rfl, trivial⟩ rfl (Nat.zero_le _) ?_
        · have e0 : k * 1152921504606846976 + packW (bitS k) (l.take 0) = k * 1152921504606846976 := by simp [packW]
          rw [e0, Int.natCast_mul]
          rfl
        intro j hj next3
        by_cases hjl : j < M
        · obtain ⟨x, hx⟩ : ∃ x, l[j]? = some x := ⟨_, List.getElem?_eq_getElem (by omega)⟩
          have hxu : us[a + j]? = some x := by
            rw [hl', List.getElem?_take, if_pos (by omega), List.getElem?_drop] at hx
            exact hx
          have hx1 : (us.map ucell)[a + j]? = some (ucell x) := by rw [List.getElem?_map, hxu]; rfl
          have hm := mul_le60 j hk16 hjl hMc
          have hm0 : (0 : Int) ≤ (j : Int) * (bitS k : Int) := by rw [hm.1]; omega
          have hm1 : (j : Int) * (bitS k : Int) ≤ 60 := by rw [hm.1]; omega
          have htl : (l.take j).length = j := by simp; omega
          have hp := packW_lt (bitS k) (l.take j) (fun y hy => hfl y (List.mem_of_mem_take hy))
          rw [htl] at hp
          have hnx : l.take (j + 1) = l.take j ++ [x] := by rw [List.take_add_one, hx]; rfl
          have hp2 := packW_lt (bitS k) (l.take (j + 1)) (fun y hy => hfl y (List.mem_of_mem_take hy))
          rw [hnx, packW_snoc, htl] at hp2
          have hx60 : packW (bitS k) (l.take j) + 2 ^ (bitS k * j) * x < 2 ^ 60 := by
            refine Nat.lt_of_lt_of_le hp2 (Nat.pow_le_pow_right (by decide) ?_)
            rw [List.length_append, htl, List.length_singleton, Nat.mul_succ, Nat.mul_comm (bitS k) j]
            exact hm.2
          have hor := word_or k _ x (bitS k * j) hk16 hp hx60
          have hMb : M ≤ 240 := by omega
          refine W.seq ?_
          refine W.seq ?_
          refine W.region ?_
          refine WL.mv rfl rfl ?_
          refine WL.mv rfl rfl ?_
          refine WL.lss rfl rfl rfl ?_
          refine WL.nil ?_
          refine W.condpT rfl (by omega) ?_
          refine W.skip ?_
          refine W.seq ?_
          refine W.block ?_
          refine W.drawA 14 rfl (fun σ0 hσ0 dσ0 => ?_)
          have fσ0_0 := ros_at 0 rfl hσ0 dσ0
          refine WD.takeL 0 rfl (by decide +kernel) ?_
          refine WL.mv rfl rfl ?_
          refine WL.nilT ?_
          refine WD.takeL 1 rfl (by decide +kernel) ?_
          refine WL.mv rfl rfl ?_
          refine WL.nilT ?_
          refine WD.takeL 2 rfl (by decide +kernel) ?_
          refine WL.mv rfl rfl ?_
          refine WL.nilT ?_
          refine WD.takeL 3 rfl (by decide +kernel) ?_
          refine WL.mv rfl rfl ?_
          refine WL.nilT ?_
          refine WD.takeL 4 rfl (by decide +kernel) ?_
          refine WL.addK rfl rfl rfl (wrap_i64 ⟨by omega, by omega⟩) ?_
          refine WL.nilT ?_
          refine WD.takeL 5 rfl (by decide +kernel) ?_
          refine WL.ix (T := Ty) rfl rfl rfl (by assumption) rfl rfl (by omega) (by first | omega | decide +kernel) ?_
          refine WL.nilT ?_
          refine WD.takeL 6 rfl (by decide +kernel) ?_
          refine WL.ldKn (T := Ty) rfl rfl rfl rfl (by first | assumption | exact ROs.wide (by assumption)) (by assumption) ?_
          refine WL.nilT ?_
          refine WD.takeL 7 rfl (by decide +kernel) ?_
          refine WL.mv rfl rfl ?_
          refine WL.nilT ?_
          refine WD.takeL 8 rfl (by decide +kernel) ?_
          refine WL.mv rfl rfl ?_
          refine WL.nilT ?_
          refine WD.oneL 9 rfl (by decide +kernel) ?_
          refine WL.callV rfl rfl (fun x p d => rbits_c _ _ (by first | assumption | omega)) ?_
          refine WL.nilE ?_
          refine WD.takeL 10 rfl (by decide +kernel) ?_
          refine WL.mulK rfl rfl rfl (wrap_i64 ⟨by omega, by omega⟩) ?_
          refine WL.nilT ?_
          refine WD.takeL 11 rfl (by decide +kernel) ?_
          refine WL.cvK (T := Ty) rfl rfl rfl rfl (wrap_u64 ⟨by omega, by omega⟩) ?_
          refine WL.nilT ?_
          refine WD.takeL 12 rfl (by decide +kernel) ?_
          refine WL.shlS rfl rfl rfl (by omega) rfl rfl ?_
          refine WL.nilT ?_
          refine WD.takeL 13 rfl (by decide +kernel) ?_
          refine WL.or rfl rfl rfl ?_
          refine WL.nilT ?_
          refine WD.lastG hσ0 (by decide +kernel) (by repeat' first | exact FL.nil | apply FL.cons) rfl (by repeat' first | exact FL.nil | apply FL.cons) ?_
          refine WL.as rfl rfl ?_
          refine WL.nil ?_
          refine W.inBlock ?_
          refine W.region ?_
          refine WL.mv rfl rfl ?_
          refine WL.addK rfl rfl rfl (wrap_i64 ⟨by omega, by omega⟩) ?_
          refine WL.as rfl rfl ?_
          refine WL.nil ?_
          refine W.sub ?_ (next3 (j + 1) (by omega) (by omega))
          refine ⟨rfl, rfl, rfl, rfl, ?_, rfl, rfl, trivial⟩
          have e1 : min ((j : Int) * (bitS k : Int)).toNat IntKind.u64.bits = bitS k * j := by
            rw [hm.1, Int.toNat_natCast, Nat.mul_comm (bitS k) j]
            exact Nat.min_eq_left (by show _ ≤ 64; omega)
          show some (Value.int .u64 (bits .or .u64 ((k * 1152921504606846976 + packW (bitS k) (l.take j) : Nat) : Int) (IntKind.u64.wrap ((x : Int) * 2 ^ min ((j : Int) * (bitS k : Int)).toNat IntKind.u64.bits)))) = _
          rw [e1, hnx, packW_snoc, htl]
          exact congrArg (fun q => some (Value.int .u64 q)) hor
        · have hjM : l.take j = l := List.take_of_length_le (by omega)
          rw [hjM]
          have hws : wordS (us.drop a) k = k * 1152921504606846976 + packW (bitS k) l := by unfold wordS; rw [← hl']
          refine W.seq ?_
          refine W.seq ?_
          refine W.region ?_
          refine WL.mv rfl rfl ?_
          refine WL.mv rfl rfl ?_
          refine WL.lss rfl rfl rfl ?_
          refine WL.nil ?_
          refine W.condpF rfl (by omega) ?_
          refine W.exit rfl ?_
          refine W.seq ?_
          refine W.region ?_
          refine WL.mv rfl rfl ?_
          refine WL.mv rfl rfl ?_
          refine WL.bsC (T := Ty) rfl rfl rfl rfl rfl rfl rfl (by repeat' first | exact CO.nil | apply CO.one (by first | rfl | exact SL.one (by assumption)) | apply CO.agg) rfl (by repeat' first | exact FL.nil | apply FL.cons) (fun u1 hu1 => ?_)
          refine WL.ap1 (T := Ty) (i := 0) rfl rfl rfl rfl rfl rfl rfl rfl (by assumption) (by first | rfl | assumption) (by first | omega | (simp; omega)) (by first | omega | (simp; omega)) (fun v' => (by repeat' first | exact FL.nil | apply FL.cons)) (fun u2 hu2 => ?_)
          refine WL.as rfl rfl ?_
          refine WL.nil ?_
          refine W.region ?_
          refine WL.mv rfl rfl ?_
          refine WL.mv rfl rfl ?_
          refine WL.addK rfl rfl rfl (wrap_i64 ⟨by omega, by omega⟩) ?_
          refine WL.as rfl rfl ?_
          refine WL.nil ?_
          refine W.inBlock ?_
          refine W.sub ?_ (W.hs (fun h p => ?_) (next ⟨a + M, u2, os ++ [wordS (us.drop a) k]⟩ ⟨by simp only []; omega, ?_, by simp; omega⟩ (by simp only []; omega)))
          · exact ⟨rfl, rfl, rfl, trivial⟩
          · rw [hws, List.map_append]
            exact p
          · rw [← h2, hdr]
            simp only []
            congr 1
            funext q
            simp
    · have hk16' : k = 16 := by omega
      subst hk16'
      have hno : kindS (us.drop a) 16 0 = none := by
        cases h : kindS (us.drop a) 16 0 with
        | none => rfl
        | some j =>
          have q1 := kindS_some h
          have q2 := hkb j (by omega)
          rw [q1.2.2] at q2
          cases q2
      rw [hno] at h2
      refine W.seq ?_
      refine W.seq ?_
      refine W.region ?_
      refine WL.mv rfl rfl ?_
      refine WL.lss rfl rfl rfl ?_
      refine WL.mv rfl rfl ?_
      refine WL.gdN rfl rfl rfl rfl rfl rfl ?_
      refine WL.gdN rfl rfl rfl rfl rfl rfl ?_
      refine WL.gdN rfl rfl rfl rfl rfl rfl ?_
      refine WL.gdN rfl rfl rfl rfl rfl rfl ?_
      refine WL.gdN rfl rfl rfl rfl rfl rfl ?_
      refine WL.gdN rfl rfl rfl rfl rfl rfl ?_
      refine WL.pickF rfl rfl rfl ?_
      refine WL.nil ?_
      refine W.condF rfl ?_
      refine W.exit rfl ?_
      refine W.seq ?_
      refine W.seq ?_
      refine W.region ?_
      refine WL.mv rfl rfl ?_
      refine WL.eql rfl rfl rfl ?_
      refine WL.nil ?_
      refine W.condT rfl ?_
      refine W.seq ?_
      refine W.region ?_
      refine WL.as rfl rfl ?_
      refine WL.as rfl rfl ?_
      refine WL.nil ?_
      refine W.drop 0 rfl (by repeat' first | exact FL.nil | apply FL.cons) ?_
      refine W.nb (sz := 1) ?_
      exact W.ret2 rfl rfl rfl (fun h p => rowNone (by rw [← h2]; rfl) p)
  · have hae : us.drop a = [] := List.drop_of_length_le (by omega)
    rw [hae, encS_nil] at h2
    refine W.seq ?_
    refine W.seq ?_
    refine W.region ?_
    refine WL.mv rfl rfl ?_
    refine WL.mv rfl rfl ?_
    refine WL.len (T := Ty) rfl rfl (by assumption) rfl ?_
    refine WL.lss rfl rfl rfl ?_
    refine WL.nil ?_
    refine W.condpF rfl (by omega) ?_
    refine W.exit rfl ?_
    refine W.seq ?_
    refine W.region ?_
    refine WL.mv rfl rfl ?_
    refine WL.as rfl rfl ?_
    refine WL.as rfl rfl ?_
    refine WL.nil ?_
    exact W.ret2 rfl rfl rfl (fun h p => rowSome (by rw [← h2]; simp) p)
theorem rsimple_s (ρ : Hp) (v : Value) (us : List Nat) {ws : List Nat} (e : encS us = some ws) (hv : ROs ρ 1 v (us.map ucell)) (hw : ∀ x ∈ us, x < 18446744073709551616) (hl : us.length ≤ 17592186044416) :
    Fn Try.prog 31 #[v] ρ [] (fun r h => ∃ u, r = .tuple #[u, .bool true] ∧ Buf 1 u (ws.map ucell) h) := by
  have := rsimple_c ρ v us hv hw hl
  rw [e] at this
  exact this
theorem rsimple_n (ρ : Hp) (v : Value) (us : List Nat) (e : encS us = none) (hv : ROs ρ 1 v (us.map ucell)) (hw : ∀ x ∈ us, x < 18446744073709551616) (hl : us.length ≤ 17592186044416) :
    Fn Try.prog 31 #[v] ρ [] (fun r h => ∃ u, r = .tuple #[u, .bool false] ∧ Buf 1 u (([] : List Nat).map ucell) h) := by
  have := rsimple_c ρ v us hv hw hl
  rw [e] at this
  exact this
end Go.Proofs.Ytlmhjkbbooghfaa
