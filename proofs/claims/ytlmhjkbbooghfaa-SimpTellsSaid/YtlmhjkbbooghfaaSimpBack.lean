/- SimpBack. -/
import Derived.Test.YtlmhjkbbooghfaaStc
import Derived.Test.YtlmhjkbbooghfaaNum
import Derived.Test.YtlmhjkbbooghfaaTab
import Derived.Test.YtlmhjkbbooghfaaSimpAwake
import Derived.Test.YtlmhjkbbooghfaaApz
set_option linter.unusedSimpArgs false
set_option linter.unusedVariables false
set_option maxRecDepth 20000
set_option maxHeartbeats 4000000
namespace Go.Proofs.Ytlmhjkbbooghfaa
open Go
attribute [local irreducible] W WL Fn Buf ROs SL eptr box Rd Src bndOK WD RB Reads In encS decS

theorem encS_lt : ∀ (n : Nat) (u ws : List Nat), u.length ≤ n → encS u = some ws → ∀ w ∈ ws, w < 18446744073709551616
  | _, [], ws, _, h => by
    rw [encS_nil] at h
    rw [← Option.some.inj h]; simp
  | 0, x :: l, _, h, _ => by simp at h
  | n + 1, x :: l, ws, hn, h => by
    rw [encS_cons] at h
    cases hk : kindS (x :: l) 16 0 with
    | none => rw [hk] at h; cases h
    | some i =>
      rw [hk] at h
      simp only [] at h
      have hi := kindS_some hk
      have hf := kind_facts ⟨i, by omega⟩
      simp only [] at hf
      cases he : encS ((x :: l).drop (cntS i)) with
      | none => rw [he] at h; cases h
      | some vs =>
        rw [he] at h
        have := encS_lt n _ vs (by simp at hn ⊢; omega) he
        rw [← Option.some.inj h]
        intro w hw
        rcases List.mem_cons.1 hw with rfl | hw
        · exact (word_kind (by omega) hi.2.2).2.2
        · exact this w hw

theorem SimpBack_fn (ρ : Hp) (v0 : Value) (z0 : List Int) (r0 : ROs ρ 1 v0 (z0.map (Value.int .u64))) (m0 : ∀ n ∈ z0, (Lit.int .u64 n).wf = true) (y0 : z0.length * 8 ≤ 140737488351232) (a1 : Int) (w1 : (Lit.int .i64 a1).wf = true) (a2 : Int) (w2 : (Lit.int .i64 a2).wf = true) :
    Fn Try.prog 11 #[v0, .int .i64 a1, .int .i64 a2] ρ [] (fun r _ => r = .bool true) := by
  obtain ⟨l, hl, hll, hlw⟩ := words_of m0
  rw [hl] at r0
  refine in11 rfl rfl ?_
  have sv := r0.slm
  refine W.seq ?_
  refine W.region ?_
  refine WL.as rfl rfl ?_
  refine WL.nil ?_
  refine W.seq ?_
  refine W.region ?_
  refine WL.as rfl rfl ?_
  refine WL.nil ?_
  refine W.seq ?_
  refine W.seq ?_
  refine W.region ?_
  refine WL.as rfl rfl ?_
  refine WL.nil ?_
  refine W.block ?_
  refine W.nb (sz := 1) ?_
  refine W.loopS (σ := Value × List Nat) (fun s => [(0, v0), (1, .int .i64 a1), (2, .int .i64 a2), (7, s.1), (8, .int .i64 (s.2.length : Int))]) (fun s => [Buf 1 s.1 (s.2.map ucell)])
    (fun s => s.2.length ≤ 60 ∧ ∀ x ∈ s.2, x < 2 ^ 60) (fun s => 60 - s.2.length) (.slice none 0 0, []) ⟨rfl, rfl, rfl, rfl, rfl, trivial⟩ rfl ⟨by simp, by simp⟩ ?_
  rintro ⟨o, vs⟩ ⟨h1, h2⟩ next
  simp only [] at h1 h2 next ⊢
  refine W.fact (i := 0) rfl (fun h hb => Buf.slm hb) (fun hso => ?_)
  obtain ⟨m, em⟩ : ∃ m : Nat, a2 % (1023 + 1) = ((m : Nat) : Int) := ⟨(a2 % (1023 + 1)).toNat, by omega⟩
  have hm : m ≤ 1023 := by omega
  have hul : (vs ++ List.replicate m (default : Nat)).length = vs.length + m := by simp
  have hu60 : ∀ x ∈ vs ++ List.replicate m (default : Nat), x < 2 ^ 60 := by
    intro x hx
    rcases List.mem_append.1 hx with h | h
    · exact h2 x h
    · rw [List.eq_of_mem_replicate h]; decide
  have h60 : (2 : Nat) ^ 60 = 1152921504606846976 := by decide
  have hu64 : ∀ x ∈ vs ++ List.replicate m (default : Nat), x < 18446744073709551616 := fun x hx => by
    have := hu60 x hx
    omega
  have hub : (vs ++ List.replicate m (default : Nat)).length ≤ 17592186044416 := by omega
  obtain ⟨w, he, hwl⟩ := encS_some _ _ (Nat.le_refl _) hu60
  have hd := decS_encS he (by omega)
  have hw64 := encS_lt _ _ w (Nat.le_refl _) he
  have hwb : w.length ≤ 17592186044416 := by omega
  have hwl2 : w.length ≤ vs.length + m := by omega
  rcases (by omega : (vs.length < l.length ∧ vs.length < 60) ∨ (vs.length < l.length ∧ ¬ vs.length < 60) ∨ ¬ vs.length < l.length) with hc | hc | hc
  · obtain ⟨hc1, hc2⟩ := hc
    obtain ⟨x, hx⟩ : ∃ x, l[vs.length]? = some x := ⟨_, List.getElem?_eq_getElem hc1⟩
    have hx1 : (l.map ucell)[vs.length]? = some (ucell x) := by rw [List.getElem?_map, hx]; rfl
    have hx64 := hlw x (List.mem_of_getElem? hx)
    refine W.seq ?_
    refine W.seq ?_
    refine W.region ?_
    refine WL.mv rfl rfl ?_
    refine WL.mv rfl rfl ?_
    refine WL.len (T := Ty) rfl rfl (by assumption) rfl ?_
    refine WL.lss rfl rfl rfl ?_
    refine WL.mv rfl rfl ?_
    refine WL.gT rfl rfl (by omega) ?_
    refine WL.mv rfl rfl ?_
    refine WL.gT rfl rfl (by omega) ?_
    refine WL.lss rfl rfl rfl ?_
    refine WL.pickTp rfl rfl (by omega) rfl ?_
    refine WL.nil ?_
    refine W.condpT rfl (by omega) ?_
    refine W.skip ?_
    refine W.seq ?_
    refine W.block ?_
    refine W.region ?_
    refine WL.mv rfl rfl ?_
    refine WL.mv rfl rfl ?_
    refine WL.mv rfl rfl ?_
    refine WL.ix (T := Ty) rfl rfl rfl (by assumption) rfl rfl (by omega) (by first | omega | decide +kernel) ?_
    refine WL.ldKn (T := Ty) rfl rfl rfl rfl (by first | assumption | exact ROs.wide (by assumption)) (by assumption) ?_
    refine WL.mv rfl rfl ?_
    refine WL.andI rfl rfl rfl (by decide) ?_
    refine WL.remI rfl rfl rfl (by omega) (by omega) ?_
    refine WL.addK rfl rfl rfl (wrap_i64 ⟨by omega, by omega⟩) ?_
    refine WL.cvK (T := Ty) rfl rfl rfl rfl (wrap_u64 ⟨by omega, by omega⟩) ?_
    refine WL.shrS rfl rfl rfl (by omega) rfl ?_
    refine WL.bsC (T := Ty) rfl rfl rfl rfl rfl rfl rfl (by repeat' first | exact CO.nil | apply CO.one (by first | rfl | exact SL.one (by assumption)) | apply CO.agg) rfl (by repeat' first | exact FL.nil | apply FL.cons) (fun u0 hu0 => ?_)
    refine WL.ap1 (T := Ty) (i := 0) rfl rfl rfl rfl rfl rfl rfl rfl (by assumption) (by first | rfl | assumption) (by first | omega | (simp; omega)) (by first | omega | (simp; omega)) (fun v' => (by repeat' first | exact FL.nil | apply FL.cons)) (fun u1 hu1 => ?_)
    refine WL.as rfl rfl ?_
    refine WL.nil ?_
    refine W.inBlock ?_
    refine W.region ?_
    refine WL.mv rfl rfl ?_
    refine WL.addK rfl rfl rfl (wrap_i64 ⟨by omega, by omega⟩) ?_
    refine WL.as rfl rfl ?_
    refine WL.nil ?_
    obtain ⟨s, hs4, es⟩ : ∃ s : Nat, 4 ≤ s ∧ min (4 + a1 % (255 + 1) % 60).toNat IntKind.u64.bits = s := ⟨_, by show 4 ≤ min (4 + a1 % (255 + 1) % 60).toNat 64; omega, rfl⟩
    rw [es]
    have ex : ((x : Int) / 2 ^ s) = ((x / 2 ^ s : Nat) : Int) := by push_cast; rfl
    rw [ex]
    refine W.sub ?_ (W.hs (fun h p => ?_) (next ⟨u1, vs ++ [x / 2 ^ s]⟩ ⟨by simp; omega, ?_⟩ (by simp; omega)))
    · exact ⟨rfl, rfl, rfl, rfl, by simp [look], trivial⟩
    · rw [List.map_append]
      exact p
    · intro y hy
      rcases List.mem_append.1 hy with h | h
      · exact h2 y h
      · rw [List.mem_singleton.1 h]
        have hp : 2 ^ 4 ≤ 2 ^ s := Nat.pow_le_pow_right (by decide) hs4
        have := Nat.div_le_div_left hp (by decide : 0 < 2 ^ 4) (a := x)
        omega
  · obtain ⟨hc1, hc2⟩ := hc
    refine W.seq ?_
    refine W.seq ?_
    refine W.region ?_
    refine WL.mv rfl rfl ?_
    refine WL.mv rfl rfl ?_
    refine WL.len (T := Ty) rfl rfl (by assumption) rfl ?_
    refine WL.lss rfl rfl rfl ?_
    refine WL.mv rfl rfl ?_
    refine WL.gT rfl rfl (by omega) ?_
    refine WL.mv rfl rfl ?_
    refine WL.gT rfl rfl (by omega) ?_
    refine WL.lss rfl rfl rfl ?_
    refine WL.pickTp rfl rfl (by omega) rfl ?_
    refine WL.nil ?_
    refine W.condpF rfl (by omega) ?_
    refine W.exit rfl ?_
    refine W.seq ?_
    refine W.region ?_
    refine WL.mv rfl rfl ?_
    refine WL.mv rfl rfl ?_
    refine WL.andI rfl rfl rfl (by decide) ?_
    rw [em]
    refine WL.apZ (T := Ty) (i := 0) rfl rfl rfl rfl rfl rfl rfl rfl rfl (fun _ => rfl) (by first | omega | (simp; omega)) (by first | omega | (simp; omega)) (fun v' => (by repeat' first | exact FL.nil | apply FL.cons)) (fun u0 hu0 => ?_)
    refine WL.as rfl rfl ?_
    refine WL.nil ?_
    refine W.seq ?_
    refine W.region ?_
    refine WL.mv rfl rfl ?_
    refine WL.callF rfl rfl (fun x p d => senc_s _ _ _ (by assumption) (by first | assumption | exact ROs.wide (by assumption) | exact ROs.mono (by assumption) (eqh_at 0 rfl p d) | exact ros_at 0 rfl p d | exact ros_at 1 rfl p d | exact ros_at 2 rfl p d | exact ros_at 3 rfl p d | exact ros_at 4 rfl p d) (by first | assumption | omega) (by first | assumption | omega)) (fun r => ?_)
    refine WL.ex (fun u1 => ?_)
    refine WL.pure (fun er => ?_)
    subst er
    refine WL.fact (i := 0) rfl (fun h hb => Buf.slm hb) (fun hsl1 => ?_)
    refine WL.mv rfl rfl ?_
    refine WL.extL rfl rfl rfl ?_
    refine WL.extL rfl rfl rfl ?_
    refine WL.as rfl rfl ?_
    refine WL.as rfl rfl ?_
    refine WL.nil ?_
    refine W.seq ?_
    refine W.region ?_
    refine WL.mv rfl rfl ?_
    refine WL.mv rfl rfl ?_
    refine WL.len (T := Ty) rfl rfl (by assumption) rfl ?_
    refine WL.callF rfl rfl (fun x p d => sdec_s _ _ _ _ (by assumption) (by first | assumption | exact ROs.wide (by assumption) | exact ROs.mono (by assumption) (eqh_at 0 rfl p d) | exact ros_at 0 rfl p d | exact ros_at 1 rfl p d | exact ros_at 2 rfl p d | exact ros_at 3 rfl p d | exact ros_at 4 rfl p d) (by first | assumption | omega) (by first | assumption | omega)) (fun r => ?_)
    refine WL.ex (fun u2 => ?_)
    refine WL.pure (fun er => ?_)
    subst er
    refine WL.fact (i := 0) rfl (fun h hb => Buf.slm hb) (fun hsl2 => ?_)
    refine WL.mv rfl rfl ?_
    refine WL.extL rfl rfl rfl ?_
    refine WL.extL rfl rfl rfl ?_
    refine WL.as rfl rfl ?_
    refine WL.as rfl rfl ?_
    refine WL.nil ?_
    refine W.seq ?_
    refine W.region ?_
    refine WL.mv rfl rfl ?_
    refine WL.mv rfl rfl ?_
    refine WL.gY rfl rfl ?_
    refine WL.mv rfl rfl ?_
    refine WL.pickT rfl rfl rfl ?_
    refine WL.mv rfl rfl ?_
    refine WL.gY rfl rfl ?_
    refine WL.mv rfl rfl ?_
    refine WL.gY rfl rfl ?_
    refine WL.mv rfl rfl ?_
    refine WL.gY rfl rfl ?_
    refine WL.callV rfl rfl (fun x p d => samew_t _ _ _ _ _ (by first | with_reducible rfl | assumption) (by first | assumption | exact ROs.wide (by assumption) | exact ROs.mono (by assumption) (eqh_at 0 rfl p d) | exact ros_at 0 rfl p d | exact ros_at 1 rfl p d | exact ros_at 2 rfl p d | exact ros_at 3 rfl p d | exact ros_at 4 rfl p d) (by first | assumption | exact ROs.wide (by assumption) | exact ROs.mono (by assumption) (eqh_at 0 rfl p d) | exact ros_at 0 rfl p d | exact ros_at 1 rfl p d | exact ros_at 2 rfl p d | exact ros_at 3 rfl p d | exact ros_at 4 rfl p d) (by first | assumption | omega | exact Nat.zero_le _ | decide)) ?_
    refine WL.pickT rfl rfl rfl ?_
    refine WL.mv rfl rfl ?_
    refine WL.gY rfl rfl ?_
    refine WL.mv rfl rfl ?_
    refine WL.gY rfl rfl ?_
    refine WL.len (T := Ty) rfl rfl (by assumption) rfl ?_
    refine WL.gY rfl rfl ?_
    refine WL.mv rfl rfl ?_
    refine WL.gY rfl rfl ?_
    refine WL.len (T := Ty) rfl rfl (by assumption) rfl ?_
    refine WL.gY rfl rfl ?_
    refine WL.leq rfl rfl rfl ?_
    refine WL.pickT rfl rfl rfl ?_
    refine WL.mv rfl rfl ?_
    refine WL.gT rfl rfl (by omega) ?_
    refine WL.callT rfl rfl (fun x p d => awake6_c _) ?_
    refine WL.pickTp rfl rfl (by omega) rfl ?_
    refine WL.as rfl rfl ?_
    refine WL.nil ?_
    exact W.ret1 rfl rfl (fun h p => rfl)
  · refine W.seq ?_
    refine W.seq ?_
    refine W.region ?_
    refine WL.mv rfl rfl ?_
    refine WL.mv rfl rfl ?_
    refine WL.len (T := Ty) rfl rfl (by assumption) rfl ?_
    refine WL.lss rfl rfl rfl ?_
    refine WL.mv rfl rfl ?_
    refine WL.gdTn rfl rfl rfl rfl rfl (by omega) ?_
    refine WL.gdTn rfl rfl rfl rfl rfl (by omega) ?_
    refine WL.pickFp rfl rfl (by omega) rfl ?_
    refine WL.nil ?_
    refine W.condF rfl ?_
    refine W.exit rfl ?_
    refine W.seq ?_
    refine W.region ?_
    refine WL.mv rfl rfl ?_
    refine WL.mv rfl rfl ?_
    refine WL.andI rfl rfl rfl (by decide) ?_
    rw [em]
    refine WL.apZ (T := Ty) (i := 0) rfl rfl rfl rfl rfl rfl rfl rfl rfl (fun _ => rfl) (by first | omega | (simp; omega)) (by first | omega | (simp; omega)) (fun v' => (by repeat' first | exact FL.nil | apply FL.cons)) (fun u0 hu0 => ?_)
    refine WL.as rfl rfl ?_
    refine WL.nil ?_
    refine W.seq ?_
    refine W.region ?_
    refine WL.mv rfl rfl ?_
    refine WL.callF rfl rfl (fun x p d => senc_s _ _ _ (by assumption) (by first | assumption | exact ROs.wide (by assumption) | exact ROs.mono (by assumption) (eqh_at 0 rfl p d) | exact ros_at 0 rfl p d | exact ros_at 1 rfl p d | exact ros_at 2 rfl p d | exact ros_at 3 rfl p d | exact ros_at 4 rfl p d) (by first | assumption | omega) (by first | assumption | omega)) (fun r => ?_)
    refine WL.ex (fun u1 => ?_)
    refine WL.pure (fun er => ?_)
    subst er
    refine WL.fact (i := 0) rfl (fun h hb => Buf.slm hb) (fun hsl1 => ?_)
    refine WL.mv rfl rfl ?_
    refine WL.extL rfl rfl rfl ?_
    refine WL.extL rfl rfl rfl ?_
    refine WL.as rfl rfl ?_
    refine WL.as rfl rfl ?_
    refine WL.nil ?_
    refine W.seq ?_
    refine W.region ?_
    refine WL.mv rfl rfl ?_
    refine WL.mv rfl rfl ?_
    refine WL.len (T := Ty) rfl rfl (by assumption) rfl ?_
    refine WL.callF rfl rfl (fun x p d => sdec_s _ _ _ _ (by assumption) (by first | assumption | exact ROs.wide (by assumption) | exact ROs.mono (by assumption) (eqh_at 0 rfl p d) | exact ros_at 0 rfl p d | exact ros_at 1 rfl p d | exact ros_at 2 rfl p d | exact ros_at 3 rfl p d | exact ros_at 4 rfl p d) (by first | assumption | omega) (by first | assumption | omega)) (fun r => ?_)
    refine WL.ex (fun u2 => ?_)
    refine WL.pure (fun er => ?_)
    subst er
    refine WL.fact (i := 0) rfl (fun h hb => Buf.slm hb) (fun hsl2 => ?_)
    refine WL.mv rfl rfl ?_
    refine WL.extL rfl rfl rfl ?_
    refine WL.extL rfl rfl rfl ?_
    refine WL.as rfl rfl ?_
    refine WL.as rfl rfl ?_
    refine WL.nil ?_
    refine W.seq ?_
    refine W.region ?_
    refine WL.mv rfl rfl ?_
    refine WL.mv rfl rfl ?_
    refine WL.gY rfl rfl ?_
    refine WL.mv rfl rfl ?_
    refine WL.pickT rfl rfl rfl ?_
    refine WL.mv rfl rfl ?_
    refine WL.gY rfl rfl ?_
    refine WL.mv rfl rfl ?_
    refine WL.gY rfl rfl ?_
    refine WL.mv rfl rfl ?_
    refine WL.gY rfl rfl ?_
    refine WL.callV rfl rfl (fun x p d => samew_t _ _ _ _ _ (by first | with_reducible rfl | assumption) (by first | assumption | exact ROs.wide (by assumption) | exact ROs.mono (by assumption) (eqh_at 0 rfl p d) | exact ros_at 0 rfl p d | exact ros_at 1 rfl p d | exact ros_at 2 rfl p d | exact ros_at 3 rfl p d | exact ros_at 4 rfl p d) (by first | assumption | exact ROs.wide (by assumption) | exact ROs.mono (by assumption) (eqh_at 0 rfl p d) | exact ros_at 0 rfl p d | exact ros_at 1 rfl p d | exact ros_at 2 rfl p d | exact ros_at 3 rfl p d | exact ros_at 4 rfl p d) (by first | assumption | omega | exact Nat.zero_le _ | decide)) ?_
    refine WL.pickT rfl rfl rfl ?_
    refine WL.mv rfl rfl ?_
    refine WL.gY rfl rfl ?_
    refine WL.mv rfl rfl ?_
    refine WL.gY rfl rfl ?_
    refine WL.len (T := Ty) rfl rfl (by assumption) rfl ?_
    refine WL.gY rfl rfl ?_
    refine WL.mv rfl rfl ?_
    refine WL.gY rfl rfl ?_
    refine WL.len (T := Ty) rfl rfl (by assumption) rfl ?_
    refine WL.gY rfl rfl ?_
    refine WL.leq rfl rfl rfl ?_
    refine WL.pickT rfl rfl rfl ?_
    refine WL.mv rfl rfl ?_
    refine WL.gT rfl rfl (by omega) ?_
    refine WL.callT rfl rfl (fun x p d => awake6_c _) ?_
    refine WL.pickTp rfl rfl (by omega) rfl ?_
    refine WL.as rfl rfl ?_
    refine WL.nil ?_
    exact W.ret1 rfl rfl (fun h p => rfl)
end Go.Proofs.Ytlmhjkbbooghfaa
