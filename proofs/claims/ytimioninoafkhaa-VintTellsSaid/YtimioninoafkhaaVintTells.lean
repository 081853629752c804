/- VintTells. -/
import Derived.Test.YtimioninoafkhaaVal
import Derived.Test.YtimioninoafkhaaNum
import Derived.Test.YtimioninoafkhaaTab
import Derived.Test.YtimioninoafkhaaVintAwake
import Derived.Test.YtimioninoafkhaaVintLaw
set_option linter.unusedSimpArgs false
set_option linter.unusedVariables false
set_option maxRecDepth 20000
set_option maxHeartbeats 4000000
namespace Go.Proofs.Ytimioninoafkhaa
open Go
attribute [local irreducible] W WL Fn Buf ROs SL eptr box Rd Src bndOK WD RB Reads

theorem rows_ok {A : List Nat → Prop} {b1 b2 b3 b4 b5 b6 : List Nat} {v1 v2 v3 v4 v5 v6 : Value} (h : ∀ L ∈ [b1, b2, b3, b4, b5, b6], A L) : ∀ r ∈ [(v1, b1), (v2, b2), (v3, b3), (v4, b4), (v5, b5), (v6, b6)], A r.2 := by
  intro r hr
  simp only [List.mem_cons, List.not_mem_nil, or_false] at hr
  rcases hr with rfl | rfl | rfl | rfl | rfl | rfl <;> exact h _ (by simp)
theorem rows_six {A : Value × List Nat → Prop} {r1 r2 r3 r4 r5 r6 : Value × List Nat} (h1 : A r1) (h2 : A r2) (h3 : A r3) (h4 : A r4) (h5 : A r5) (h6 : A r6) : ∀ r ∈ [r1, r2, r3, r4, r5, r6], A r := by
  intro r hr
  simp only [List.mem_cons, List.not_mem_nil, or_false] at hr
  rcases hr with rfl | rfl | rfl | rfl | rfl | rfl <;> assumption
theorem VintTells_fn (ρ : Hp) (a0 : Int) (w0 : (Lit.int .i64 a0).wf = true) (a1 : Int) (w1 : (Lit.int .u64 a1).wf = true) (v2 : Value) (z2 : List Int) (r2 : ROs ρ 1 v2 (z2.map (Value.int .u8))) (m2 : ∀ n ∈ z2, (Lit.int .u8 n).wf = true) (y2 : z2.length * 1 ≤ 140737488351232) (a3 : Int) (w3 : (Lit.int .i64 a3).wf = true) (a4 : Int) (w4 : (Lit.int .u8 a4).wf = true) :
    Fn Try.prog 9 #[.int .i64 a0, .int .u64 a1, v2, .int .i64 a3, .int .u8 a4] ρ [] (fun r _ => r = .bool true) := by
  obtain ⟨bs, hbs, hlen, hlt⟩ := bytes_of m2
  rw [hbs] at r2
  have hn := wf_i64 w0
  have hu := wf_u64 w1
  have hy := wf_u8 w4
  obtain ⟨u, rfl⟩ := Int.eq_ofNat_of_zero_le hu.1
  obtain ⟨by', rfl⟩ := Int.eq_ofNat_of_zero_le hy.1
  have hu64 : u < 18446744073709551616 := by omega
  refine in9 rfl rfl ?_
  have hs2 : SL v2 bs.length := r2.sl (by simp) (by omega)
  have hl9 := vput_len 9 u
  have hlt9 := vput_lt 9 u (by have e : (128 : Nat) ^ 9 = 9223372036854775808 := by decide +kernel
                               rw [e]; omega)
  refine W.seq ?_
  refine W.region ?_
  refine WL.as rfl rfl ?_
  refine WL.nil ?_
  refine W.seq ?_
  refine W.seq ?_
  refine W.region ?_
  refine WL.mv rfl rfl ?_
  refine WL.len (T := Ty) rfl rfl (by assumption) rfl ?_
  refine WL.gtr rfl rfl rfl ?_
  refine WL.nil ?_
  refine W.condp rfl (fun hbig => ?_) (fun hsmall => ?_)
  · refine W.seq ?_
    refine W.region ?_
    refine WL.callT rfl rfl (fun x p d => awake2_c _) ?_
    refine WL.as rfl rfl ?_
    refine WL.nil ?_
    exact W.ret1 rfl rfl (fun h p => rfl)
  · refine W.skip ?_
    refine W.seq ?_
    refine W.region ?_
    refine WL.mv rfl rfl ?_
    refine WL.callF rfl rfl (fun x p d => rput_c _ _ [] u (ros_nil _ _) (by omega) (by decide)) (fun t => ?_)
    rw [List.nil_append]
    refine WL.fact (i := 0) rfl (fun h hb => hb.sl (n := (vputF 9 u).length) (by simp) (by omega)) fun hst => ?_
    refine WL.as rfl rfl ?_
    refine WL.nil ?_
    refine W.seq ?_
    refine W.region ?_
    refine WL.mv rfl rfl ?_
    refine WL.andI rfl rfl rfl (by decide) ?_
    refine WL.mv rfl rfl ?_
    refine WL.len (T := Ty) rfl rfl (by assumption) rfl ?_
    refine WL.remI rfl rfl rfl (by omega) (by omega) ?_
    refine WL.as rfl rfl ?_
    refine WL.nil ?_
    refine W.seq ?_
    refine W.region ?_
    refine WL.bs (T := Ty) rfl rfl rfl rfl rfl rfl rfl rfl (by repeat' first | exact FL.nil | apply FL.cons) (fun _ _ => ?_)
    refine WL.mv rfl rfl ?_
    obtain ⟨k, hk, hkl⟩ : ∃ k : Nat, a3 % (255 + 1) % ((vputF 9 u).length : Int) = (k : Int) ∧ k < (vputF 9 u).length := ⟨(a3 % (255 + 1) % ((vputF 9 u).length : Int)).toNat, by
      have := Int.emod_nonneg (a3 % (255 + 1)) (b := ((vputF 9 u).length : Int)) (by omega)
      omega, by
      have := Int.emod_nonneg (a3 % (255 + 1)) (b := ((vputF 9 u).length : Int)) (by omega)
      have := Int.emod_lt_of_pos (a3 % (255 + 1)) (b := ((vputF 9 u).length : Int)) (by omega)
      omega⟩
    rename_i e0 he0
    refine WL.ap (T := Ty) (i := 0) (n := 0) rfl rfl rfl rfl rfl rfl rfl rfl (.own 0 rfl) hst rfl (by simp) (one_bcell _) (by show (0 + _) * 1 ≤ _; omega) (by unfold maxLen; omega) (fun v' => by repeat' first | exact FL.nil | apply FL.cons) (fun x hsx => ?_)
    rw [Nat.zero_add] at hsx
    refine WL.as rfl rfl ?_
    refine WL.nil ?_
    refine W.seq ?_
    refine W.region ?_
    refine WL.mv rfl rfl ?_
    refine WL.mv rfl rfl ?_
    refine WL.mv rfl rfl ?_
    refine WL.ix (T := Ty) rfl rfl rfl (by assumption) rfl rfl (by omega) (by omega) ?_
    refine WL.stEF (T := Ty) (j := 0) (cs' := ((vputF 9 u).set k by').map bcell) rfl rfl rfl rfl rfl rfl (by have := hk; simp at this ⊢; omega) (by rw [show (a3 % (255 + 1) % ((vputF 9 u).length : Int)).toNat = k by omega]; simp [bcell, List.map_set]) (by repeat' first | exact FL.nil | apply FL.cons) ?_
    refine WL.nil ?_
    refine W.seq ?_
    refine W.seq ?_
    have hbytes : ∀ L ∈ [bs, vputF 9 u, (vputF 9 u).set k by', (vputF 9 u).take k, vputF 9 u ++ [by'], 128 :: vputF 9 u], (∀ b ∈ L, b < 256) ∧ L.length ≤ 140737488355328 := by
      intro L hL
      simp only [List.mem_cons, List.not_mem_nil, or_false] at hL
      rcases hL with rfl | rfl | rfl | rfl | rfl | rfl
      · exact ⟨hlt, by omega⟩
      · exact ⟨hlt9, by omega⟩
      · exact ⟨fun b hb => (List.mem_or_eq_of_mem_set hb).elim (hlt9 b) (fun e => by omega), by simp; omega⟩
      · exact ⟨fun b hb => hlt9 b (List.mem_of_mem_take hb), by simp; omega⟩
      · refine ⟨fun b hb => ?_, by simp; omega⟩
        rcases List.mem_append.1 hb with h | h
        · exact hlt9 b h
        · simp at h; omega
      · refine ⟨fun b hb => ?_, by simp; omega⟩
        rcases List.mem_cons.1 hb with h | h
        · omega
        · exact hlt9 b h
    refine W.cut (τ := List (Value × List Nat) × Value) (fun s => [(53, s.2), (54, .int .i64 6), (55, .int .i64 0), (0, .int .i64 a0), (1, .int .u64 (u : Int)), (2, v2)]) (fun s => [Reads ρ s.1, Buf 1 s.2 (s.1.map (·.1))])
      (fun s => s.1.length = 6 ∧ SL s.2 6 ∧ (∀ r ∈ s.1, (∀ b ∈ r.2, b < 256) ∧ r.2.length ≤ 140737488355328)) ?_ (fun next => ?_)
    · rintro ⟨rows, l⟩ ⟨h6, hsl, hrows⟩
      simp only [] at h6 hsl hrows ⊢
      refine W.block ?_
      refine W.loopS (σ := Nat) (fun i => [(53, l), (54, .int .i64 6), (55, .int .i64 (i : Int)), (0, .int .i64 a0), (1, .int .u64 (u : Int)), (2, v2)]) (fun i => [Reads ρ rows, Buf 1 l (rows.map (·.1))])
        (fun i => i ≤ 6) (fun i => 6 - i) 0 ⟨rfl, rfl, rfl, rfl, rfl, rfl, trivial⟩ rfl (by omega) ?_
      intro i hi next
      refine W.seq ?_
      refine W.region ?_
      refine WL.lss rfl rfl rfl ?_
      refine WL.nil ?_
      refine W.seq ?_
      refine W.condp rfl (fun hlt6 => ?_) (fun hge6 => ?_)
      · have hi6 : i < rows.length := by omega
        obtain ⟨⟨v, L⟩, hvL⟩ : ∃ r, rows[i]? = some r := ⟨_, List.getElem?_eq_getElem hi6⟩
        have hmem := List.mem_of_getElem? hvL
        have hL := hrows _ hmem
        obtain ⟨ga, gb, hg⟩ : ∃ ga gb, vgetF 0 0 L = (ga, gb) := ⟨_, _, rfl⟩
        refine W.skip ?_
        refine W.seq ?_
        refine W.block ?_
        refine W.seq ?_
        refine W.region ?_
        refine WL.ix (T := Ty) rfl rfl rfl (by assumption) rfl rfl (by omega) (by omega) ?_
        refine WL.ldE (T := Ty) (j := 1) (v := v) rfl rfl rfl rfl rfl (by rw [show ((i : Int)).toNat * 1 = i by omega]; simp [hvL]) ?_
        refine WL.as rfl rfl ?_
        refine WL.nil ?_
        refine W.seq ?_
        refine W.region ?_
        refine WL.mv rfl rfl ?_
        refine WL.callV (v := .tuple #[.int .u64 (ga : Int), .int .i64 (gb : Int)]) rfl rfl (fun y p d => Fn.val (by rw [hg]; rfl) (vget_c _ _ L (reads_at 0 rfl p d hmem) hL.1 hL.2)) ?_
        refine WL.mv rfl rfl ?_
        refine WL.extL rfl rfl rfl ?_
        refine WL.extL rfl rfl rfl ?_
        refine WL.as rfl rfl ?_
        refine WL.as rfl rfl ?_
        refine WL.nil ?_
        refine W.seq ?_
        refine W.region ?_
        refine WL.mv rfl rfl ?_
        refine WL.callV (v := .tuple #[.int .u64 (ga : Int), .int .i64 (gb : Int)]) rfl rfl (fun y p d => Fn.val (by rw [hg]; rfl) (rget_c _ _ L (reads_at 0 rfl p d hmem) hL.1 hL.2)) ?_
        refine WL.mv rfl rfl ?_
        refine WL.extL rfl rfl rfl ?_
        refine WL.extL rfl rfl rfl ?_
        refine WL.as rfl rfl ?_
        refine WL.as rfl rfl ?_
        refine WL.nil ?_
        refine W.seq ?_
        refine W.region ?_
        refine WL.mv rfl rfl ?_
        refine WL.mv rfl rfl ?_
        refine WL.neq rfl rfl rfl ?_
        refine WL.mv rfl rfl ?_
        refine WL.gF rfl rfl (by omega) ?_
        refine WL.mv rfl rfl ?_
        refine WL.gF rfl rfl (by omega) ?_
        refine WL.mv rfl rfl ?_
        refine WL.gF rfl rfl (by omega) ?_
        refine WL.neq rfl rfl rfl ?_
        refine WL.pickFp rfl rfl (by omega) rfl ?_
        refine WL.nil ?_
        refine W.condpF rfl (by omega) ?_
        refine W.skip ?_
        refine W.inBlock ?_
        refine W.region ?_
        refine WL.addK rfl rfl rfl (wrap_i64 ⟨by omega, by omega⟩) ?_
        refine WL.mv rfl rfl ?_
        refine WL.nil ?_
        refine W.sub ?_ (next (i + 1) (by omega) (by omega))
        exact ⟨rfl, rfl, rfl, rfl, rfl, rfl, trivial⟩
      · refine W.exit rfl ?_
        refine W.seq ?_
        refine W.drop 0 rfl (by repeat' first | exact FL.nil | apply FL.cons) ?_
        refine W.drop 0 rfl (by repeat' first | exact FL.nil | apply FL.cons) ?_
        refine W.draw 27 [] [] rfl (fun h p => p) (fun σ hσ dσ => ?_)
        refine WD.takeL 0 rfl (by decide +kernel) ?_
        refine WL.mv rfl rfl ?_
        refine WL.nilT ?_
        refine WD.takeL 2 rfl (by decide +kernel) ?_
        refine WL.mv rfl rfl ?_
        refine WL.nilT ?_
        refine WD.oneL 1 rfl (by decide +kernel) ?_
        skip
        refine WL.callV rfl rfl (fun x p d => zig_c _ a0 hn) ?_
        refine WL.nilE ?_
        refine WD.oneL 3 rfl (by decide +kernel) ?_
        skip
        refine WL.callV rfl rfl (fun x p d => rzig_c _ a0 hn) ?_
        refine WL.nilE ?_
        refine WD.takeL 4 rfl (by decide +kernel) ?_
        refine WL.eql rfl rfl rfl ?_
        refine WL.nilT ?_
        refine WD.takeL 5 rfl (by decide +kernel) ?_
        refine WL.mv rfl rfl ?_
        refine WL.nilT ?_
        refine WD.takeL 6 rfl (by decide +kernel) ?_
        refine WL.gT rfl rfl (by omega) ?_
        refine WL.mv rfl rfl ?_
        refine WL.nilT ?_
        refine WD.takeL 8 rfl (by decide +kernel) ?_
        refine WL.gT rfl rfl (by omega) ?_
        refine WL.mv rfl rfl ?_
        refine WL.nilT ?_
        refine WD.oneL 7 rfl (by decide +kernel) ?_
        refine WL.gT rfl rfl (by omega) ?_
        refine WL.callV rfl rfl (fun x p d => zag_c _ u hu64) ?_
        refine WL.nilE ?_
        refine WD.oneL 9 rfl (by decide +kernel) ?_
        refine WL.gT rfl rfl (by omega) ?_
        refine WL.callV rfl rfl (fun x p d => rzag_c _ u hu64) ?_
        refine WL.nilE ?_
        refine WD.takeL 10 rfl (by decide +kernel) ?_
        refine WL.gT rfl rfl (by omega) ?_
        refine WL.eql rfl rfl rfl ?_
        refine WL.nilT ?_
        refine WD.takeL 11 rfl (by decide +kernel) ?_
        refine WL.pickTp rfl rfl (by omega) rfl ?_
        refine WL.nilT ?_
        refine WD.takeL 12 rfl (by decide +kernel) ?_
        refine WL.mv rfl rfl ?_
        refine WL.nilT ?_
        refine WD.takeL 13 rfl (by decide +kernel) ?_
        refine WL.gT rfl rfl (by omega) ?_
        refine WL.mv rfl rfl ?_
        refine WL.nilT ?_
        refine WD.takeL 14 rfl (by decide +kernel) ?_
        refine WL.gT rfl rfl (by omega) ?_
        refine WL.mv rfl rfl ?_
        refine WL.nilT ?_
        refine WD.takeL 17 rfl (by decide +kernel) ?_
        refine WL.gT rfl rfl (by omega) ?_
        refine WL.mv rfl rfl ?_
        refine WL.nilT ?_
        refine WD.takeL 18 rfl (by decide +kernel) ?_
        refine WL.gT rfl rfl (by omega) ?_
        refine WL.mv rfl rfl ?_
        refine WL.nilT ?_
        refine WD.oneL 15 rfl (by decide +kernel) ?_
        refine WL.gT rfl rfl (by omega) ?_
        refine WL.callF rfl rfl (fun x p d => vput_c _ v2 bs u r2.wide hu64 (by omega)) (fun r => ?_)
        refine WL.nilG (fun σ1 hσ1 dσ1 hle1 => ?_)
        have hr1 := ros_at (ρ := ρ) 1 rfl hσ1 dσ1
        refine WD.takeL 16 rfl (by decide +kernel) ?_
        refine WL.gT rfl rfl (by omega) ?_
        refine WL.b2sRN (T := Ty) rfl rfl rfl rfl rfl rfl rfl (by assumption) ?_
        refine WL.nilT ?_
        refine WD.oneL 19 rfl (by decide +kernel) ?_
        refine WL.gT rfl rfl (by omega) ?_
        refine WL.callF rfl rfl (fun x p d => rput_c _ v2 bs u r2.wide hu64 (by omega)) (fun r' => ?_)
        refine WL.nilG (fun σ2 hσ2 dσ2 hle2 => ?_)
        have hr2 := ros_at (ρ := ρ) 1 rfl hσ2 dσ2
        refine WD.takeL 20 rfl (by decide +kernel) ?_
        refine WL.gT rfl rfl (by omega) ?_
        refine WL.b2sRN (T := Ty) rfl rfl rfl rfl rfl rfl rfl (by assumption) ?_
        refine WL.nilT ?_
        refine WD.takeL 21 rfl (by decide +kernel) ?_
        refine WL.gT rfl rfl (by omega) ?_
        refine WL.eqST rfl rfl rfl (by first | with_reducible rfl | assumption) ?_
        refine WL.nilT ?_
        refine WD.takeL 22 rfl (by decide +kernel) ?_
        refine WL.pickTp rfl rfl (by omega) rfl ?_
        refine WL.nilT ?_
        refine WD.takeL 23 rfl (by decide +kernel) ?_
        refine WL.mv rfl rfl ?_
        refine WL.nilT ?_
        refine WD.oneL 24 rfl (by decide +kernel) ?_
        refine WL.gY rfl rfl ?_
        refine WL.callT rfl rfl (fun x p d => awake2_c _) ?_
        refine WL.nilE ?_
        refine WD.takeL 25 rfl (by decide +kernel) ?_
        refine WL.pickT rfl rfl rfl ?_
        refine WL.nilT ?_
        refine WD.takeL 26 rfl (by decide +kernel) ?_
        refine WL.as rfl rfl ?_
        refine WL.nilT ?_
        refine WD.doneH hσ2 (by decide +kernel) ?_
        exact W.ret1 rfl rfl (fun h p => rfl)
    · refine W.draw 18 [Buf 1 x (((vputF 9 u).set k by').map bcell), Buf 1 t ((vputF 9 u).map bcell)] [] rfl (fun h p => p) (fun σ hσ dσ => ?_)
      have hX := ros_at (ρ := ρ) 0 rfl hσ dσ
      have hT := ros_at (ρ := ρ) 1 rfl hσ dσ
      have r2' := r2.wide (x := σ)
      refine WD.takeL 0 rfl (by decide +kernel) ?_
      refine WL.mv rfl rfl ?_
      refine WL.nilT ?_
      refine WD.takeL 1 rfl (by decide +kernel) ?_
      refine WL.mv rfl rfl ?_
      refine WL.nilT ?_
      refine WD.takeL 2 rfl (by decide +kernel) ?_
      refine WL.mv rfl rfl ?_
      refine WL.nilT ?_
      refine WD.takeL 3 rfl (by decide +kernel) ?_
      refine WL.mv rfl rfl ?_
      refine WL.nilT ?_
      refine WD.takeL 4 rfl (by decide +kernel) ?_
      refine WL.mv rfl rfl ?_
      refine WL.nilT ?_
      refine WD.takeL 5 rfl (by decide +kernel) ?_
      refine WL.slR (T := Ty) (n := (vputF 9 u).length) (hi := (a3 % (255 + 1) % ((vputF 9 u).length : Int)).toNat) rfl rfl .no (.at rfl (by omega)) rfl rfl rfl hT (by simp) (Nat.zero_le _) (by omega) (fun c hc hro => ?_)
      rw [show (a3 % (255 + 1) % ((vputF 9 u).length : Int)).toNat = k by omega] at hc hro
      have hC : ROs (join ρ σ) 1 c (((vputF 9 u).take k).map bcell) := by simpa [List.map_take] using hro
      refine WL.nilT ?_
      refine WD.takeL 7 rfl (by decide +kernel) ?_
      refine WL.mv rfl rfl ?_
      refine WL.nilT ?_
      refine WD.takeL 9 rfl (by decide +kernel) ?_
      refine WL.mv rfl rfl ?_
      refine WL.nilT ?_
      refine WD.takeL 13 rfl (by decide +kernel) ?_
      refine WL.mv rfl rfl ?_
      refine WL.nilT ?_
      refine WD.takeL 17 rfl (by decide +kernel) ?_
      refine WL.mv rfl rfl ?_
      refine WL.nilT ?_
      refine WD.threeL 6 10 12 rfl rfl rfl (by decide +kernel) ?_ ?_ ?_
      · refine WL.bs (T := Ty) rfl rfl rfl rfl rfl rfl rfl rfl (by repeat' first | exact FL.nil | apply FL.cons) (fun _ _ => ?_)
        rename_i t6 h6
        refine WL.nilS ?_
        refine WD.threeL 8 10 12 rfl rfl rfl (by decide +kernel) ?_ ?_ ?_
        · first | refine WL.ap (T := Ty) (i := 1) (n := 0) rfl rfl rfl rfl rfl rfl rfl rfl (.eqJ 0 rfl hT) hst (by simp) (by simp) (one_bcell _) (by show (_ + _) * 1 ≤ _; omega) (by unfold maxLen; omega) (fun v' => (by repeat' first | exact FL.nil | apply FL.cons)) (fun v8 h8 => ?_) | refine WL.ap (T := Ty) (i := 2) (n := 0) rfl rfl rfl rfl rfl rfl rfl rfl (.eqJ 0 rfl hT) hst (by simp) (by simp) (one_bcell _) (by show (_ + _) * 1 ≤ _; omega) (by unfold maxLen; omega) (fun v' => (by repeat' first | exact FL.nil | apply FL.cons)) (fun v8 h8 => ?_) | refine WL.ap (T := Ty) (i := 3) (n := 0) rfl rfl rfl rfl rfl rfl rfl rfl (.eqJ 0 rfl hT) hst (by simp) (by simp) (one_bcell _) (by show (_ + _) * 1 ≤ _; omega) (by unfold maxLen; omega) (fun v' => (by repeat' first | exact FL.nil | apply FL.cons)) (fun v8 h8 => ?_) | refine WL.ap (T := Ty) (i := 4) (n := 0) rfl rfl rfl rfl rfl rfl rfl rfl (.eqJ 0 rfl hT) hst (by simp) (by simp) (one_bcell _) (by show (_ + _) * 1 ≤ _; omega) (by unfold maxLen; omega) (fun v' => (by repeat' first | exact FL.nil | apply FL.cons)) (fun v8 h8 => ?_)
          refine WL.nilE ?_
          refine WD.twoL 10 12 rfl rfl (by decide +kernel) ?_ ?_
          · refine WL.bs (T := Ty) rfl rfl rfl rfl rfl rfl rfl rfl (by repeat' first | exact FL.nil | apply FL.cons) (fun _ _ => ?_)
            rename_i t10 h10
            refine WL.nilS ?_
            refine WD.twoL 11 12 rfl rfl (by decide +kernel) ?_ ?_
            · first | refine WL.ap (T := Ty) (i := 1) (n := (vputF 9 u).length) rfl rfl rfl rfl rfl rfl rfl rfl (by first | exact .own 1 rfl | exact .own 2 rfl | exact .own 3 rfl) h10 (by simp) (by simp) (by simp [Value.oneCell']) (by show (_ + _) * 1 ≤ _; omega) (by unfold maxLen; omega) (fun v' => (by repeat' first | exact FL.nil | apply FL.cons)) (fun v11 h11 => ?_) | refine WL.ap (T := Ty) (i := 2) (n := (vputF 9 u).length) rfl rfl rfl rfl rfl rfl rfl rfl (by first | exact .own 1 rfl | exact .own 2 rfl | exact .own 3 rfl) h10 (by simp) (by simp) (by simp [Value.oneCell']) (by show (_ + _) * 1 ≤ _; omega) (by unfold maxLen; omega) (fun v' => (by repeat' first | exact FL.nil | apply FL.cons)) (fun v11 h11 => ?_) | refine WL.ap (T := Ty) (i := 3) (n := (vputF 9 u).length) rfl rfl rfl rfl rfl rfl rfl rfl (by first | exact .own 1 rfl | exact .own 2 rfl | exact .own 3 rfl) h10 (by simp) (by simp) (by simp [Value.oneCell']) (by show (_ + _) * 1 ≤ _; omega) (by unfold maxLen; omega) (fun v' => (by repeat' first | exact FL.nil | apply FL.cons)) (fun v11 h11 => ?_) | refine WL.ap (T := Ty) (i := 4) (n := (vputF 9 u).length) rfl rfl rfl rfl rfl rfl rfl rfl (by first | exact .own 1 rfl | exact .own 2 rfl | exact .own 3 rfl) h10 (by simp) (by simp) (by simp [Value.oneCell']) (by show (_ + _) * 1 ≤ _; omega) (by unfold maxLen; omega) (fun v' => (by repeat' first | exact FL.nil | apply FL.cons)) (fun v11 h11 => ?_)
              refine WL.nilE ?_
              refine WD.oneL 12 rfl (by decide +kernel) ?_
              refine WL.bs (T := Ty) rfl rfl rfl rfl rfl rfl rfl rfl (by repeat' first | exact FL.nil | apply FL.cons) (fun _ _ => ?_)
              rename_i t12 h12
              refine WL.nilS ?_
              refine WD.oneL 14 rfl (by decide +kernel) ?_
              first | refine WL.ap (T := Ty) (i := 1) (n := 1) rfl rfl rfl rfl rfl rfl rfl rfl (.eqJ 0 rfl hT) hst (by simp) (by simp) (one_bcell _) (by show (_ + _) * 1 ≤ _; omega) (by unfold maxLen; omega) (fun v' => (by repeat' first | exact FL.nil | apply FL.cons)) (fun v14 h14 => ?_) | refine WL.ap (T := Ty) (i := 2) (n := 1) rfl rfl rfl rfl rfl rfl rfl rfl (.eqJ 0 rfl hT) hst (by simp) (by simp) (one_bcell _) (by show (_ + _) * 1 ≤ _; omega) (by unfold maxLen; omega) (fun v' => (by repeat' first | exact FL.nil | apply FL.cons)) (fun v14 h14 => ?_) | refine WL.ap (T := Ty) (i := 3) (n := 1) rfl rfl rfl rfl rfl rfl rfl rfl (.eqJ 0 rfl hT) hst (by simp) (by simp) (one_bcell _) (by show (_ + _) * 1 ≤ _; omega) (by unfold maxLen; omega) (fun v' => (by repeat' first | exact FL.nil | apply FL.cons)) (fun v14 h14 => ?_) | refine WL.ap (T := Ty) (i := 4) (n := 1) rfl rfl rfl rfl rfl rfl rfl rfl (.eqJ 0 rfl hT) hst (by simp) (by simp) (one_bcell _) (by show (_ + _) * 1 ≤ _; omega) (by unfold maxLen; omega) (fun v' => (by repeat' first | exact FL.nil | apply FL.cons)) (fun v14 h14 => ?_)
              refine WL.nilE ?_
              refine WD.oneL 15 rfl (by decide +kernel) ?_
              refine WL.bs1 (T := Ty) (out' := [v2, t, x, c, v11, v14]) rfl rfl rfl rfl rfl rfl rfl rfl (by simp [hs2.one, hst.one, hsx.one, hc.one, h11.one, h14.one]) (fun l hl => ?_)
              refine WL.nilS ?_
              refine WD.takeL 16 rfl (by decide +kernel) ?_
              refine WL.len (T := Ty) rfl rfl (by assumption) rfl ?_
              refine WL.nilT ?_
              refine WD.doneH (H0 := [eqh σ]) (sepl_one.2 rfl) (by decide +kernel) ?_
              refine W.sub ?_ (W.hs (fun h p => to_reads (rows := [(v2, bs), (t, vputF 9 u), (x, (vputF 9 u).set k by'), (c, (vputF 9 u).take k), (v11, vputF 9 u ++ [by']), (v14, 128 :: vputF 9 u)]) p ?_) (next ([(v2, bs), (t, vputF 9 u), (x, (vputF 9 u).set k by'), (c, (vputF 9 u).take k), (v11, vputF 9 u ++ [by']), (v14, 128 :: vputF 9 u)], l) ⟨rfl, hl, rows_ok hbytes⟩))
              exact ⟨rfl, rfl, rfl, rfl, rfl, rfl, trivial⟩
              intro C pC dC
              refine rows_six r2.wide (hT.mono (eqh_at 0 rfl pC dC)) (hX.mono (eqh_at 0 rfl pC dC)) (hC.mono (eqh_at 0 rfl pC dC)) ?_ ?_
              first | exact ros_at 1 rfl pC dC | exact ros_at 2 rfl pC dC | exact ros_at 3 rfl pC dC | (simpa [bcell] using ros_at 1 rfl pC dC) | (simpa [bcell] using ros_at 2 rfl pC dC) | (simpa [bcell] using ros_at 3 rfl pC dC)
              first | exact ros_at 1 rfl pC dC | exact ros_at 2 rfl pC dC | exact ros_at 3 rfl pC dC | (simpa [bcell] using ros_at 1 rfl pC dC) | (simpa [bcell] using ros_at 2 rfl pC dC) | (simpa [bcell] using ros_at 3 rfl pC dC)
            · refine WL.bs (T := Ty) rfl rfl rfl rfl rfl rfl rfl rfl (by repeat' first | exact FL.nil | apply FL.cons) (fun _ _ => ?_)
              rename_i t12 h12
              refine WL.nilS ?_
              refine WD.oneL 11 rfl (by decide +kernel) ?_
              first | refine WL.ap (T := Ty) (i := 1) (n := (vputF 9 u).length) rfl rfl rfl rfl rfl rfl rfl rfl (by first | exact .own 1 rfl | exact .own 2 rfl | exact .own 3 rfl) h10 (by simp) (by simp) (by simp [Value.oneCell']) (by show (_ + _) * 1 ≤ _; omega) (by unfold maxLen; omega) (fun v' => (by repeat' first | exact FL.nil | apply FL.cons)) (fun v11 h11 => ?_) | refine WL.ap (T := Ty) (i := 2) (n := (vputF 9 u).length) rfl rfl rfl rfl rfl rfl rfl rfl (by first | exact .own 1 rfl | exact .own 2 rfl | exact .own 3 rfl) h10 (by simp) (by simp) (by simp [Value.oneCell']) (by show (_ + _) * 1 ≤ _; omega) (by unfold maxLen; omega) (fun v' => (by repeat' first | exact FL.nil | apply FL.cons)) (fun v11 h11 => ?_) | refine WL.ap (T := Ty) (i := 3) (n := (vputF 9 u).length) rfl rfl rfl rfl rfl rfl rfl rfl (by first | exact .own 1 rfl | exact .own 2 rfl | exact .own 3 rfl) h10 (by simp) (by simp) (by simp [Value.oneCell']) (by show (_ + _) * 1 ≤ _; omega) (by unfold maxLen; omega) (fun v' => (by repeat' first | exact FL.nil | apply FL.cons)) (fun v11 h11 => ?_) | refine WL.ap (T := Ty) (i := 4) (n := (vputF 9 u).length) rfl rfl rfl rfl rfl rfl rfl rfl (by first | exact .own 1 rfl | exact .own 2 rfl | exact .own 3 rfl) h10 (by simp) (by simp) (by simp [Value.oneCell']) (by show (_ + _) * 1 ≤ _; omega) (by unfold maxLen; omega) (fun v' => (by repeat' first | exact FL.nil | apply FL.cons)) (fun v11 h11 => ?_)
              refine WL.nilE ?_
              refine WD.oneL 14 rfl (by decide +kernel) ?_
              first | refine WL.ap (T := Ty) (i := 1) (n := 1) rfl rfl rfl rfl rfl rfl rfl rfl (.eqJ 0 rfl hT) hst (by simp) (by simp) (one_bcell _) (by show (_ + _) * 1 ≤ _; omega) (by unfold maxLen; omega) (fun v' => (by repeat' first | exact FL.nil | apply FL.cons)) (fun v14 h14 => ?_) | refine WL.ap (T := Ty) (i := 2) (n := 1) rfl rfl rfl rfl rfl rfl rfl rfl (.eqJ 0 rfl hT) hst (by simp) (by simp) (one_bcell _) (by show (_ + _) * 1 ≤ _; omega) (by unfold maxLen; omega) (fun v' => (by repeat' first | exact FL.nil | apply FL.cons)) (fun v14 h14 => ?_) | refine WL.ap (T := Ty) (i := 3) (n := 1) rfl rfl rfl rfl rfl rfl rfl rfl (.eqJ 0 rfl hT) hst (by simp) (by simp) (one_bcell _) (by show (_ + _) * 1 ≤ _; omega) (by unfold maxLen; omega) (fun v' => (by repeat' first | exact FL.nil | apply FL.cons)) (fun v14 h14 => ?_) | refine WL.ap (T := Ty) (i := 4) (n := 1) rfl rfl rfl rfl rfl rfl rfl rfl (.eqJ 0 rfl hT) hst (by simp) (by simp) (one_bcell _) (by show (_ + _) * 1 ≤ _; omega) (by unfold maxLen; omega) (fun v' => (by repeat' first | exact FL.nil | apply FL.cons)) (fun v14 h14 => ?_)
              refine WL.nilE ?_
              refine WD.oneL 15 rfl (by decide +kernel) ?_
              refine WL.bs1 (T := Ty) (out' := [v2, t, x, c, v11, v14]) rfl rfl rfl rfl rfl rfl rfl rfl (by simp [hs2.one, hst.one, hsx.one, hc.one, h11.one, h14.one]) (fun l hl => ?_)
              refine WL.nilS ?_
              refine WD.takeL 16 rfl (by decide +kernel) ?_
              refine WL.len (T := Ty) rfl rfl (by assumption) rfl ?_
              refine WL.nilT ?_
              refine WD.doneH (H0 := [eqh σ]) (sepl_one.2 rfl) (by decide +kernel) ?_
              refine W.sub ?_ (W.hs (fun h p => to_reads (rows := [(v2, bs), (t, vputF 9 u), (x, (vputF 9 u).set k by'), (c, (vputF 9 u).take k), (v11, vputF 9 u ++ [by']), (v14, 128 :: vputF 9 u)]) p ?_) (next ([(v2, bs), (t, vputF 9 u), (x, (vputF 9 u).set k by'), (c, (vputF 9 u).take k), (v11, vputF 9 u ++ [by']), (v14, 128 :: vputF 9 u)], l) ⟨rfl, hl, rows_ok hbytes⟩))
              exact ⟨rfl, rfl, rfl, rfl, rfl, rfl, trivial⟩
              intro C pC dC
              refine rows_six r2.wide (hT.mono (eqh_at 0 rfl pC dC)) (hX.mono (eqh_at 0 rfl pC dC)) (hC.mono (eqh_at 0 rfl pC dC)) ?_ ?_
              first | exact ros_at 1 rfl pC dC | exact ros_at 2 rfl pC dC | exact ros_at 3 rfl pC dC | (simpa [bcell] using ros_at 1 rfl pC dC) | (simpa [bcell] using ros_at 2 rfl pC dC) | (simpa [bcell] using ros_at 3 rfl pC dC)
              first | exact ros_at 1 rfl pC dC | exact ros_at 2 rfl pC dC | exact ros_at 3 rfl pC dC | (simpa [bcell] using ros_at 1 rfl pC dC) | (simpa [bcell] using ros_at 2 rfl pC dC) | (simpa [bcell] using ros_at 3 rfl pC dC)
          · refine WL.bs (T := Ty) rfl rfl rfl rfl rfl rfl rfl rfl (by repeat' first | exact FL.nil | apply FL.cons) (fun _ _ => ?_)
            rename_i t12 h12
            refine WL.nilS ?_
            refine WD.oneL 10 rfl (by decide +kernel) ?_
            refine WL.bs (T := Ty) rfl rfl rfl rfl rfl rfl rfl rfl (by repeat' first | exact FL.nil | apply FL.cons) (fun _ _ => ?_)
            rename_i t10 h10
            refine WL.nilS ?_
            refine WD.oneL 11 rfl (by decide +kernel) ?_
            first | refine WL.ap (T := Ty) (i := 1) (n := (vputF 9 u).length) rfl rfl rfl rfl rfl rfl rfl rfl (by first | exact .own 1 rfl | exact .own 2 rfl | exact .own 3 rfl) h10 (by simp) (by simp) (by simp [Value.oneCell']) (by show (_ + _) * 1 ≤ _; omega) (by unfold maxLen; omega) (fun v' => (by repeat' first | exact FL.nil | apply FL.cons)) (fun v11 h11 => ?_) | refine WL.ap (T := Ty) (i := 2) (n := (vputF 9 u).length) rfl rfl rfl rfl rfl rfl rfl rfl (by first | exact .own 1 rfl | exact .own 2 rfl | exact .own 3 rfl) h10 (by simp) (by simp) (by simp [Value.oneCell']) (by show (_ + _) * 1 ≤ _; omega) (by unfold maxLen; omega) (fun v' => (by repeat' first | exact FL.nil | apply FL.cons)) (fun v11 h11 => ?_) | refine WL.ap (T := Ty) (i := 3) (n := (vputF 9 u).length) rfl rfl rfl rfl rfl rfl rfl rfl (by first | exact .own 1 rfl | exact .own 2 rfl | exact .own 3 rfl) h10 (by simp) (by simp) (by simp [Value.oneCell']) (by show (_ + _) * 1 ≤ _; omega) (by unfold maxLen; omega) (fun v' => (by repeat' first | exact FL.nil | apply FL.cons)) (fun v11 h11 => ?_) | refine WL.ap (T := Ty) (i := 4) (n := (vputF 9 u).length) rfl rfl rfl rfl rfl rfl rfl rfl (by first | exact .own 1 rfl | exact .own 2 rfl | exact .own 3 rfl) h10 (by simp) (by simp) (by simp [Value.oneCell']) (by show (_ + _) * 1 ≤ _; omega) (by unfold maxLen; omega) (fun v' => (by repeat' first | exact FL.nil | apply FL.cons)) (fun v11 h11 => ?_)
            refine WL.nilE ?_
            refine WD.oneL 14 rfl (by decide +kernel) ?_
            first | refine WL.ap (T := Ty) (i := 1) (n := 1) rfl rfl rfl rfl rfl rfl rfl rfl (.eqJ 0 rfl hT) hst (by simp) (by simp) (one_bcell _) (by show (_ + _) * 1 ≤ _; omega) (by unfold maxLen; omega) (fun v' => (by repeat' first | exact FL.nil | apply FL.cons)) (fun v14 h14 => ?_) | refine WL.ap (T := Ty) (i := 2) (n := 1) rfl rfl rfl rfl rfl rfl rfl rfl (.eqJ 0 rfl hT) hst (by simp) (by simp) (one_bcell _) (by show (_ + _) * 1 ≤ _; omega) (by unfold maxLen; omega) (fun v' => (by repeat' first | exact FL.nil | apply FL.cons)) (fun v14 h14 => ?_) | refine WL.ap (T := Ty) (i := 3) (n := 1) rfl rfl rfl rfl rfl rfl rfl rfl (.eqJ 0 rfl hT) hst (by simp) (by simp) (one_bcell _) (by show (_ + _) * 1 ≤ _; omega) (by unfold maxLen; omega) (fun v' => (by repeat' first | exact FL.nil | apply FL.cons)) (fun v14 h14 => ?_) | refine WL.ap (T := Ty) (i := 4) (n := 1) rfl rfl rfl rfl rfl rfl rfl rfl (.eqJ 0 rfl hT) hst (by simp) (by simp) (one_bcell _) (by show (_ + _) * 1 ≤ _; omega) (by unfold maxLen; omega) (fun v' => (by repeat' first | exact FL.nil | apply FL.cons)) (fun v14 h14 => ?_)
            refine WL.nilE ?_
            refine WD.oneL 15 rfl (by decide +kernel) ?_
            refine WL.bs1 (T := Ty) (out' := [v2, t, x, c, v11, v14]) rfl rfl rfl rfl rfl rfl rfl rfl (by simp [hs2.one, hst.one, hsx.one, hc.one, h11.one, h14.one]) (fun l hl => ?_)
            refine WL.nilS ?_
            refine WD.takeL 16 rfl (by decide +kernel) ?_
            refine WL.len (T := Ty) rfl rfl (by assumption) rfl ?_
            refine WL.nilT ?_
            refine WD.doneH (H0 := [eqh σ]) (sepl_one.2 rfl) (by decide +kernel) ?_
            refine W.sub ?_ (W.hs (fun h p => to_reads (rows := [(v2, bs), (t, vputF 9 u), (x, (vputF 9 u).set k by'), (c, (vputF 9 u).take k), (v11, vputF 9 u ++ [by']), (v14, 128 :: vputF 9 u)]) p ?_) (next ([(v2, bs), (t, vputF 9 u), (x, (vputF 9 u).set k by'), (c, (vputF 9 u).take k), (v11, vputF 9 u ++ [by']), (v14, 128 :: vputF 9 u)], l) ⟨rfl, hl, rows_ok hbytes⟩))
            exact ⟨rfl, rfl, rfl, rfl, rfl, rfl, trivial⟩
            intro C pC dC
            refine rows_six r2.wide (hT.mono (eqh_at 0 rfl pC dC)) (hX.mono (eqh_at 0 rfl pC dC)) (hC.mono (eqh_at 0 rfl pC dC)) ?_ ?_
            first | exact ros_at 1 rfl pC dC | exact ros_at 2 rfl pC dC | exact ros_at 3 rfl pC dC | (simpa [bcell] using ros_at 1 rfl pC dC) | (simpa [bcell] using ros_at 2 rfl pC dC) | (simpa [bcell] using ros_at 3 rfl pC dC)
            first | exact ros_at 1 rfl pC dC | exact ros_at 2 rfl pC dC | exact ros_at 3 rfl pC dC | (simpa [bcell] using ros_at 1 rfl pC dC) | (simpa [bcell] using ros_at 2 rfl pC dC) | (simpa [bcell] using ros_at 3 rfl pC dC)
        · refine WL.bs (T := Ty) rfl rfl rfl rfl rfl rfl rfl rfl (by repeat' first | exact FL.nil | apply FL.cons) (fun _ _ => ?_)
          rename_i t10 h10
          refine WL.nilS ?_
          refine WD.twoL 8 12 rfl rfl (by decide +kernel) ?_ ?_
          · first | refine WL.ap (T := Ty) (i := 1) (n := 0) rfl rfl rfl rfl rfl rfl rfl rfl (.eqJ 0 rfl hT) hst (by simp) (by simp) (one_bcell _) (by show (_ + _) * 1 ≤ _; omega) (by unfold maxLen; omega) (fun v' => (by repeat' first | exact FL.nil | apply FL.cons)) (fun v8 h8 => ?_) | refine WL.ap (T := Ty) (i := 2) (n := 0) rfl rfl rfl rfl rfl rfl rfl rfl (.eqJ 0 rfl hT) hst (by simp) (by simp) (one_bcell _) (by show (_ + _) * 1 ≤ _; omega) (by unfold maxLen; omega) (fun v' => (by repeat' first | exact FL.nil | apply FL.cons)) (fun v8 h8 => ?_) | refine WL.ap (T := Ty) (i := 3) (n := 0) rfl rfl rfl rfl rfl rfl rfl rfl (.eqJ 0 rfl hT) hst (by simp) (by simp) (one_bcell _) (by show (_ + _) * 1 ≤ _; omega) (by unfold maxLen; omega) (fun v' => (by repeat' first | exact FL.nil | apply FL.cons)) (fun v8 h8 => ?_) | refine WL.ap (T := Ty) (i := 4) (n := 0) rfl rfl rfl rfl rfl rfl rfl rfl (.eqJ 0 rfl hT) hst (by simp) (by simp) (one_bcell _) (by show (_ + _) * 1 ≤ _; omega) (by unfold maxLen; omega) (fun v' => (by repeat' first | exact FL.nil | apply FL.cons)) (fun v8 h8 => ?_)
            refine WL.nilE ?_
            refine WD.twoL 11 12 rfl rfl (by decide +kernel) ?_ ?_
            · first | refine WL.ap (T := Ty) (i := 1) (n := (vputF 9 u).length) rfl rfl rfl rfl rfl rfl rfl rfl (by first | exact .own 1 rfl | exact .own 2 rfl | exact .own 3 rfl) h10 (by simp) (by simp) (by simp [Value.oneCell']) (by show (_ + _) * 1 ≤ _; omega) (by unfold maxLen; omega) (fun v' => (by repeat' first | exact FL.nil | apply FL.cons)) (fun v11 h11 => ?_) | refine WL.ap (T := Ty) (i := 2) (n := (vputF 9 u).length) rfl rfl rfl rfl rfl rfl rfl rfl (by first | exact .own 1 rfl | exact .own 2 rfl | exact .own 3 rfl) h10 (by simp) (by simp) (by simp [Value.oneCell']) (by show (_ + _) * 1 ≤ _; omega) (by unfold maxLen; omega) (fun v' => (by repeat' first | exact FL.nil | apply FL.cons)) (fun v11 h11 => ?_) | refine WL.ap (T := Ty) (i := 3) (n := (vputF 9 u).length) rfl rfl rfl rfl rfl rfl rfl rfl (by first | exact .own 1 rfl | exact .own 2 rfl | exact .own 3 rfl) h10 (by simp) (by simp) (by simp [Value.oneCell']) (by show (_ + _) * 1 ≤ _; omega) (by unfold maxLen; omega) (fun v' => (by repeat' first | exact FL.nil | apply FL.cons)) (fun v11 h11 => ?_) | refine WL.ap (T := Ty) (i := 4) (n := (vputF 9 u).length) rfl rfl rfl rfl rfl rfl rfl rfl (by first | exact .own 1 rfl | exact .own 2 rfl | exact .own 3 rfl) h10 (by simp) (by simp) (by simp [Value.oneCell']) (by show (_ + _) * 1 ≤ _; omega) (by unfold maxLen; omega) (fun v' => (by repeat' first | exact FL.nil | apply FL.cons)) (fun v11 h11 => ?_)
              refine WL.nilE ?_
              refine WD.oneL 12 rfl (by decide +kernel) ?_
              refine WL.bs (T := Ty) rfl rfl rfl rfl rfl rfl rfl rfl (by repeat' first | exact FL.nil | apply FL.cons) (fun _ _ => ?_)
              rename_i t12 h12
              refine WL.nilS ?_
              refine WD.oneL 14 rfl (by decide +kernel) ?_
              first | refine WL.ap (T := Ty) (i := 1) (n := 1) rfl rfl rfl rfl rfl rfl rfl rfl (.eqJ 0 rfl hT) hst (by simp) (by simp) (one_bcell _) (by show (_ + _) * 1 ≤ _; omega) (by unfold maxLen; omega) (fun v' => (by repeat' first | exact FL.nil | apply FL.cons)) (fun v14 h14 => ?_) | refine WL.ap (T := Ty) (i := 2) (n := 1) rfl rfl rfl rfl rfl rfl rfl rfl (.eqJ 0 rfl hT) hst (by simp) (by simp) (one_bcell _) (by show (_ + _) * 1 ≤ _; omega) (by unfold maxLen; omega) (fun v' => (by repeat' first | exact FL.nil | apply FL.cons)) (fun v14 h14 => ?_) | refine WL.ap (T := Ty) (i := 3) (n := 1) rfl rfl rfl rfl rfl rfl rfl rfl (.eqJ 0 rfl hT) hst (by simp) (by simp) (one_bcell _) (by show (_ + _) * 1 ≤ _; omega) (by unfold maxLen; omega) (fun v' => (by repeat' first | exact FL.nil | apply FL.cons)) (fun v14 h14 => ?_) | refine WL.ap (T := Ty) (i := 4) (n := 1) rfl rfl rfl rfl rfl rfl rfl rfl (.eqJ 0 rfl hT) hst (by simp) (by simp) (one_bcell _) (by show (_ + _) * 1 ≤ _; omega) (by unfold maxLen; omega) (fun v' => (by repeat' first | exact FL.nil | apply FL.cons)) (fun v14 h14 => ?_)
              refine WL.nilE ?_
              refine WD.oneL 15 rfl (by decide +kernel) ?_
              refine WL.bs1 (T := Ty) (out' := [v2, t, x, c, v11, v14]) rfl rfl rfl rfl rfl rfl rfl rfl (by simp [hs2.one, hst.one, hsx.one, hc.one, h11.one, h14.one]) (fun l hl => ?_)
              refine WL.nilS ?_
              refine WD.takeL 16 rfl (by decide +kernel) ?_
              refine WL.len (T := Ty) rfl rfl (by assumption) rfl ?_
              refine WL.nilT ?_
              refine WD.doneH (H0 := [eqh σ]) (sepl_one.2 rfl) (by decide +kernel) ?_
              refine W.sub ?_ (W.hs (fun h p => to_reads (rows := [(v2, bs), (t, vputF 9 u), (x, (vputF 9 u).set k by'), (c, (vputF 9 u).take k), (v11, vputF 9 u ++ [by']), (v14, 128 :: vputF 9 u)]) p ?_) (next ([(v2, bs), (t, vputF 9 u), (x, (vputF 9 u).set k by'), (c, (vputF 9 u).take k), (v11, vputF 9 u ++ [by']), (v14, 128 :: vputF 9 u)], l) ⟨rfl, hl, rows_ok hbytes⟩))
              exact ⟨rfl, rfl, rfl, rfl, rfl, rfl, trivial⟩
              intro C pC dC
              refine rows_six r2.wide (hT.mono (eqh_at 0 rfl pC dC)) (hX.mono (eqh_at 0 rfl pC dC)) (hC.mono (eqh_at 0 rfl pC dC)) ?_ ?_
              first | exact ros_at 1 rfl pC dC | exact ros_at 2 rfl pC dC | exact ros_at 3 rfl pC dC | (simpa [bcell] using ros_at 1 rfl pC dC) | (simpa [bcell] using ros_at 2 rfl pC dC) | (simpa [bcell] using ros_at 3 rfl pC dC)
              first | exact ros_at 1 rfl pC dC | exact ros_at 2 rfl pC dC | exact ros_at 3 rfl pC dC | (simpa [bcell] using ros_at 1 rfl pC dC) | (simpa [bcell] using ros_at 2 rfl pC dC) | (simpa [bcell] using ros_at 3 rfl pC dC)
            · refine WL.bs (T := Ty) rfl rfl rfl rfl rfl rfl rfl rfl (by repeat' first | exact FL.nil | apply FL.cons) (fun _ _ => ?_)
              rename_i t12 h12
              refine WL.nilS ?_
              refine WD.oneL 11 rfl (by decide +kernel) ?_
              first | refine WL.ap (T := Ty) (i := 1) (n := (vputF 9 u).length) rfl rfl rfl rfl rfl rfl rfl rfl (by first | exact .own 1 rfl | exact .own 2 rfl | exact .own 3 rfl) h10 (by simp) (by simp) (by simp [Value.oneCell']) (by show (_ + _) * 1 ≤ _; omega) (by unfold maxLen; omega) (fun v' => (by repeat' first | exact FL.nil | apply FL.cons)) (fun v11 h11 => ?_) | refine WL.ap (T := Ty) (i := 2) (n := (vputF 9 u).length) rfl rfl rfl rfl rfl rfl rfl rfl (by first | exact .own 1 rfl | exact .own 2 rfl | exact .own 3 rfl) h10 (by simp) (by simp) (by simp [Value.oneCell']) (by show (_ + _) * 1 ≤ _; omega) (by unfold maxLen; omega) (fun v' => (by repeat' first | exact FL.nil | apply FL.cons)) (fun v11 h11 => ?_) | refine WL.ap (T := Ty) (i := 3) (n := (vputF 9 u).length) rfl rfl rfl rfl rfl rfl rfl rfl (by first | exact .own 1 rfl | exact .own 2 rfl | exact .own 3 rfl) h10 (by simp) (by simp) (by simp [Value.oneCell']) (by show (_ + _) * 1 ≤ _; omega) (by unfold maxLen; omega) (fun v' => (by repeat' first | exact FL.nil | apply FL.cons)) (fun v11 h11 => ?_) | refine WL.ap (T := Ty) (i := 4) (n := (vputF 9 u).length) rfl rfl rfl rfl rfl rfl rfl rfl (by first | exact .own 1 rfl | exact .own 2 rfl | exact .own 3 rfl) h10 (by simp) (by simp) (by simp [Value.oneCell']) (by show (_ + _) * 1 ≤ _; omega) (by unfold maxLen; omega) (fun v' => (by repeat' first | exact FL.nil | apply FL.cons)) (fun v11 h11 => ?_)
              refine WL.nilE ?_
              refine WD.oneL 14 rfl (by decide +kernel) ?_
              first | refine WL.ap (T := Ty) (i := 1) (n := 1) rfl rfl rfl rfl rfl rfl rfl rfl (.eqJ 0 rfl hT) hst (by simp) (by simp) (one_bcell _) (by show (_ + _) * 1 ≤ _; omega) (by unfold maxLen; omega) (fun v' => (by repeat' first | exact FL.nil | apply FL.cons)) (fun v14 h14 => ?_) | refine WL.ap (T := Ty) (i := 2) (n := 1) rfl rfl rfl rfl rfl rfl rfl rfl (.eqJ 0 rfl hT) hst (by simp) (by simp) (one_bcell _) (by show (_ + _) * 1 ≤ _; omega) (by unfold maxLen; omega) (fun v' => (by repeat' first | exact FL.nil | apply FL.cons)) (fun v14 h14 => ?_) | refine WL.ap (T := Ty) (i := 3) (n := 1) rfl rfl rfl rfl rfl rfl rfl rfl (.eqJ 0 rfl hT) hst (by simp) (by simp) (one_bcell _) (by show (_ + _) * 1 ≤ _; omega) (by unfold maxLen; omega) (fun v' => (by repeat' first | exact FL.nil | apply FL.cons)) (fun v14 h14 => ?_) | refine WL.ap (T := Ty) (i := 4) (n := 1) rfl rfl rfl rfl rfl rfl rfl rfl (.eqJ 0 rfl hT) hst (by simp) (by simp) (one_bcell _) (by show (_ + _) * 1 ≤ _; omega) (by unfold maxLen; omega) (fun v' => (by repeat' first | exact FL.nil | apply FL.cons)) (fun v14 h14 => ?_)
              refine WL.nilE ?_
              refine WD.oneL 15 rfl (by decide +kernel) ?_
              refine WL.bs1 (T := Ty) (out' := [v2, t, x, c, v11, v14]) rfl rfl rfl rfl rfl rfl rfl rfl (by simp [hs2.one, hst.one, hsx.one, hc.one, h11.one, h14.one]) (fun l hl => ?_)
              refine WL.nilS ?_
              refine WD.takeL 16 rfl (by decide +kernel) ?_
              refine WL.len (T := Ty) rfl rfl (by assumption) rfl ?_
              refine WL.nilT ?_
              refine WD.doneH (H0 := [eqh σ]) (sepl_one.2 rfl) (by decide +kernel) ?_
              refine W.sub ?_ (W.hs (fun h p => to_reads (rows := [(v2, bs), (t, vputF 9 u), (x, (vputF 9 u).set k by'), (c, (vputF 9 u).take k), (v11, vputF 9 u ++ [by']), (v14, 128 :: vputF 9 u)]) p ?_) (next ([(v2, bs), (t, vputF 9 u), (x, (vputF 9 u).set k by'), (c, (vputF 9 u).take k), (v11, vputF 9 u ++ [by']), (v14, 128 :: vputF 9 u)], l) ⟨rfl, hl, rows_ok hbytes⟩))
              exact ⟨rfl, rfl, rfl, rfl, rfl, rfl, trivial⟩
              intro C pC dC
              refine rows_six r2.wide (hT.mono (eqh_at 0 rfl pC dC)) (hX.mono (eqh_at 0 rfl pC dC)) (hC.mono (eqh_at 0 rfl pC dC)) ?_ ?_
              first | exact ros_at 1 rfl pC dC | exact ros_at 2 rfl pC dC | exact ros_at 3 rfl pC dC | (simpa [bcell] using ros_at 1 rfl pC dC) | (simpa [bcell] using ros_at 2 rfl pC dC) | (simpa [bcell] using ros_at 3 rfl pC dC)
              first | exact ros_at 1 rfl pC dC | exact ros_at 2 rfl pC dC | exact ros_at 3 rfl pC dC | (simpa [bcell] using ros_at 1 rfl pC dC) | (simpa [bcell] using ros_at 2 rfl pC dC) | (simpa [bcell] using ros_at 3 rfl pC dC)
          · refine WL.bs (T := Ty) rfl rfl rfl rfl rfl rfl rfl rfl (by repeat' first | exact FL.nil | apply FL.cons) (fun _ _ => ?_)
            rename_i t12 h12
            refine WL.nilS ?_
            refine WD.oneL 8 rfl (by decide +kernel) ?_
            first | refine WL.ap (T := Ty) (i := 1) (n := 0) rfl rfl rfl rfl rfl rfl rfl rfl (.eqJ 0 rfl hT) hst (by simp) (by simp) (one_bcell _) (by show (_ + _) * 1 ≤ _; omega) (by unfold maxLen; omega) (fun v' => (by repeat' first | exact FL.nil | apply FL.cons)) (fun v8 h8 => ?_) | refine WL.ap (T := Ty) (i := 2) (n := 0) rfl rfl rfl rfl rfl rfl rfl rfl (.eqJ 0 rfl hT) hst (by simp) (by simp) (one_bcell _) (by show (_ + _) * 1 ≤ _; omega) (by unfold maxLen; omega) (fun v' => (by repeat' first | exact FL.nil | apply FL.cons)) (fun v8 h8 => ?_) | refine WL.ap (T := Ty) (i := 3) (n := 0) rfl rfl rfl rfl rfl rfl rfl rfl (.eqJ 0 rfl hT) hst (by simp) (by simp) (one_bcell _) (by show (_ + _) * 1 ≤ _; omega) (by unfold maxLen; omega) (fun v' => (by repeat' first | exact FL.nil | apply FL.cons)) (fun v8 h8 => ?_) | refine WL.ap (T := Ty) (i := 4) (n := 0) rfl rfl rfl rfl rfl rfl rfl rfl (.eqJ 0 rfl hT) hst (by simp) (by simp) (one_bcell _) (by show (_ + _) * 1 ≤ _; omega) (by unfold maxLen; omega) (fun v' => (by repeat' first | exact FL.nil | apply FL.cons)) (fun v8 h8 => ?_)
            refine WL.nilE ?_
            refine WD.oneL 11 rfl (by decide +kernel) ?_
            first | refine WL.ap (T := Ty) (i := 1) (n := (vputF 9 u).length) rfl rfl rfl rfl rfl rfl rfl rfl (by first | exact .own 1 rfl | exact .own 2 rfl | exact .own 3 rfl) h10 (by simp) (by simp) (by simp [Value.oneCell']) (by show (_ + _) * 1 ≤ _; omega) (by unfold maxLen; omega) (fun v' => (by repeat' first | exact FL.nil | apply FL.cons)) (fun v11 h11 => ?_) | refine WL.ap (T := Ty) (i := 2) (n := (vputF 9 u).length) rfl rfl rfl rfl rfl rfl rfl rfl (by first | exact .own 1 rfl | exact .own 2 rfl | exact .own 3 rfl) h10 (by simp) (by simp) (by simp [Value.oneCell']) (by show (_ + _) * 1 ≤ _; omega) (by unfold maxLen; omega) (fun v' => (by repeat' first | exact FL.nil | apply FL.cons)) (fun v11 h11 => ?_) | refine WL.ap (T := Ty) (i := 3) (n := (vputF 9 u).length) rfl rfl rfl rfl rfl rfl rfl rfl (by first | exact .own 1 rfl | exact .own 2 rfl | exact .own 3 rfl) h10 (by simp) (by simp) (by simp [Value.oneCell']) (by show (_ + _) * 1 ≤ _; omega) (by unfold maxLen; omega) (fun v' => (by repeat' first | exact FL.nil | apply FL.cons)) (fun v11 h11 => ?_) | refine WL.ap (T := Ty) (i := 4) (n := (vputF 9 u).length) rfl rfl rfl rfl rfl rfl rfl rfl (by first | exact .own 1 rfl | exact .own 2 rfl | exact .own 3 rfl) h10 (by simp) (by simp) (by simp [Value.oneCell']) (by show (_ + _) * 1 ≤ _; omega) (by unfold maxLen; omega) (fun v' => (by repeat' first | exact FL.nil | apply FL.cons)) (fun v11 h11 => ?_)
            refine WL.nilE ?_
            refine WD.oneL 14 rfl (by decide +kernel) ?_
            first | refine WL.ap (T := Ty) (i := 1) (n := 1) rfl rfl rfl rfl rfl rfl rfl rfl (.eqJ 0 rfl hT) hst (by simp) (by simp) (one_bcell _) (by show (_ + _) * 1 ≤ _; omega) (by unfold maxLen; omega) (fun v' => (by repeat' first | exact FL.nil | apply FL.cons)) (fun v14 h14 => ?_) | refine WL.ap (T := Ty) (i := 2) (n := 1) rfl rfl rfl rfl rfl rfl rfl rfl (.eqJ 0 rfl hT) hst (by simp) (by simp) (one_bcell _) (by show (_ + _) * 1 ≤ _; omega) (by unfold maxLen; omega) (fun v' => (by repeat' first | exact FL.nil | apply FL.cons)) (fun v14 h14 => ?_) | refine WL.ap (T := Ty) (i := 3) (n := 1) rfl rfl rfl rfl rfl rfl rfl rfl (.eqJ 0 rfl hT) hst (by simp) (by simp) (one_bcell _) (by show (_ + _) * 1 ≤ _; omega) (by unfold maxLen; omega) (fun v' => (by repeat' first | exact FL.nil | apply FL.cons)) (fun v14 h14 => ?_) | refine WL.ap (T := Ty) (i := 4) (n := 1) rfl rfl rfl rfl rfl rfl rfl rfl (.eqJ 0 rfl hT) hst (by simp) (by simp) (one_bcell _) (by show (_ + _) * 1 ≤ _; omega) (by unfold maxLen; omega) (fun v' => (by repeat' first | exact FL.nil | apply FL.cons)) (fun v14 h14 => ?_)
            refine WL.nilE ?_
            refine WD.oneL 15 rfl (by decide +kernel) ?_
            refine WL.bs1 (T := Ty) (out' := [v2, t, x, c, v11, v14]) rfl rfl rfl rfl rfl rfl rfl rfl (by simp [hs2.one, hst.one, hsx.one, hc.one, h11.one, h14.one]) (fun l hl => ?_)
            refine WL.nilS ?_
            refine WD.takeL 16 rfl (by decide +kernel) ?_
            refine WL.len (T := Ty) rfl rfl (by assumption) rfl ?_
            refine WL.nilT ?_
            refine WD.doneH (H0 := [eqh σ]) (sepl_one.2 rfl) (by decide +kernel) ?_
            refine W.sub ?_ (W.hs (fun h p => to_reads (rows := [(v2, bs), (t, vputF 9 u), (x, (vputF 9 u).set k by'), (c, (vputF 9 u).take k), (v11, vputF 9 u ++ [by']), (v14, 128 :: vputF 9 u)]) p ?_) (next ([(v2, bs), (t, vputF 9 u), (x, (vputF 9 u).set k by'), (c, (vputF 9 u).take k), (v11, vputF 9 u ++ [by']), (v14, 128 :: vputF 9 u)], l) ⟨rfl, hl, rows_ok hbytes⟩))
            exact ⟨rfl, rfl, rfl, rfl, rfl, rfl, trivial⟩
            intro C pC dC
            refine rows_six r2.wide (hT.mono (eqh_at 0 rfl pC dC)) (hX.mono (eqh_at 0 rfl pC dC)) (hC.mono (eqh_at 0 rfl pC dC)) ?_ ?_
            first | exact ros_at 1 rfl pC dC | exact ros_at 2 rfl pC dC | exact ros_at 3 rfl pC dC | (simpa [bcell] using ros_at 1 rfl pC dC) | (simpa [bcell] using ros_at 2 rfl pC dC) | (simpa [bcell] using ros_at 3 rfl pC dC)
            first | exact ros_at 1 rfl pC dC | exact ros_at 2 rfl pC dC | exact ros_at 3 rfl pC dC | (simpa [bcell] using ros_at 1 rfl pC dC) | (simpa [bcell] using ros_at 2 rfl pC dC) | (simpa [bcell] using ros_at 3 rfl pC dC)
        · refine WL.bs (T := Ty) rfl rfl rfl rfl rfl rfl rfl rfl (by repeat' first | exact FL.nil | apply FL.cons) (fun _ _ => ?_)
          rename_i t12 h12
          refine WL.nilS ?_
          refine WD.twoL 8 10 rfl rfl (by decide +kernel) ?_ ?_
          · first | refine WL.ap (T := Ty) (i := 1) (n := 0) rfl rfl rfl rfl rfl rfl rfl rfl (.eqJ 0 rfl hT) hst (by simp) (by simp) (one_bcell _) (by show (_ + _) * 1 ≤ _; omega) (by unfold maxLen; omega) (fun v' => (by repeat' first | exact FL.nil | apply FL.cons)) (fun v8 h8 => ?_) | refine WL.ap (T := Ty) (i := 2) (n := 0) rfl rfl rfl rfl rfl rfl rfl rfl (.eqJ 0 rfl hT) hst (by simp) (by simp) (one_bcell _) (by show (_ + _) * 1 ≤ _; omega) (by unfold maxLen; omega) (fun v' => (by repeat' first | exact FL.nil | apply FL.cons)) (fun v8 h8 => ?_) | refine WL.ap (T := Ty) (i := 3) (n := 0) rfl rfl rfl rfl rfl rfl rfl rfl (.eqJ 0 rfl hT) hst (by simp) (by simp) (one_bcell _) (by show (_ + _) * 1 ≤ _; omega) (by unfold maxLen; omega) (fun v' => (by repeat' first | exact FL.nil | apply FL.cons)) (fun v8 h8 => ?_) | refine WL.ap (T := Ty) (i := 4) (n := 0) rfl rfl rfl rfl rfl rfl rfl rfl (.eqJ 0 rfl hT) hst (by simp) (by simp) (one_bcell _) (by show (_ + _) * 1 ≤ _; omega) (by unfold maxLen; omega) (fun v' => (by repeat' first | exact FL.nil | apply FL.cons)) (fun v8 h8 => ?_)
            refine WL.nilE ?_
            refine WD.oneL 10 rfl (by decide +kernel) ?_
            refine WL.bs (T := Ty) rfl rfl rfl rfl rfl rfl rfl rfl (by repeat' first | exact FL.nil | apply FL.cons) (fun _ _ => ?_)
            rename_i t10 h10
            refine WL.nilS ?_
            refine WD.oneL 11 rfl (by decide +kernel) ?_
            first | refine WL.ap (T := Ty) (i := 1) (n := (vputF 9 u).length) rfl rfl rfl rfl rfl rfl rfl rfl (by first | exact .own 1 rfl | exact .own 2 rfl | exact .own 3 rfl) h10 (by simp) (by simp) (by simp [Value.oneCell']) (by show (_ + _) * 1 ≤ _; omega) (by unfold maxLen; omega) (fun v' => (by repeat' first | exact FL.nil | apply FL.cons)) (fun v11 h11 => ?_) | refine WL.ap (T := Ty) (i := 2) (n := (vputF 9 u).length) rfl rfl rfl rfl rfl rfl rfl rfl (by first | exact .own 1 rfl | exact .own 2 rfl | exact .own 3 rfl) h10 (by simp) (by simp) (by simp [Value.oneCell']) (by show (_ + _) * 1 ≤ _; omega) (by unfold maxLen; omega) (fun v' => (by repeat' first | exact FL.nil | apply FL.cons)) (fun v11 h11 => ?_) | refine WL.ap (T := Ty) (i := 3) (n := (vputF 9 u).length) rfl rfl rfl rfl rfl rfl rfl rfl (by first | exact .own 1 rfl | exact .own 2 rfl | exact .own 3 rfl) h10 (by simp) (by simp) (by simp [Value.oneCell']) (by show (_ + _) * 1 ≤ _; omega) (by unfold maxLen; omega) (fun v' => (by repeat' first | exact FL.nil | apply FL.cons)) (fun v11 h11 => ?_) | refine WL.ap (T := Ty) (i := 4) (n := (vputF 9 u).length) rfl rfl rfl rfl rfl rfl rfl rfl (by first | exact .own 1 rfl | exact .own 2 rfl | exact .own 3 rfl) h10 (by simp) (by simp) (by simp [Value.oneCell']) (by show (_ + _) * 1 ≤ _; omega) (by unfold maxLen; omega) (fun v' => (by repeat' first | exact FL.nil | apply FL.cons)) (fun v11 h11 => ?_)
            refine WL.nilE ?_
            refine WD.oneL 14 rfl (by decide +kernel) ?_
            first | refine WL.ap (T := Ty) (i := 1) (n := 1) rfl rfl rfl rfl rfl rfl rfl rfl (.eqJ 0 rfl hT) hst (by simp) (by simp) (one_bcell _) (by show (_ + _) * 1 ≤ _; omega) (by unfold maxLen; omega) (fun v' => (by repeat' first | exact FL.nil | apply FL.cons)) (fun v14 h14 => ?_) | refine WL.ap (T := Ty) (i := 2) (n := 1) rfl rfl rfl rfl rfl rfl rfl rfl (.eqJ 0 rfl hT) hst (by simp) (by simp) (one_bcell _) (by show (_ + _) * 1 ≤ _; omega) (by unfold maxLen; omega) (fun v' => (by repeat' first | exact FL.nil | apply FL.cons)) (fun v14 h14 => ?_) | refine WL.ap (T := Ty) (i := 3) (n := 1) rfl rfl rfl rfl rfl rfl rfl rfl (.eqJ 0 rfl hT) hst (by simp) (by simp) (one_bcell _) (by show (_ + _) * 1 ≤ _; omega) (by unfold maxLen; omega) (fun v' => (by repeat' first | exact FL.nil | apply FL.cons)) (fun v14 h14 => ?_) | refine WL.ap (T := Ty) (i := 4) (n := 1) rfl rfl rfl rfl rfl rfl rfl rfl (.eqJ 0 rfl hT) hst (by simp) (by simp) (one_bcell _) (by show (_ + _) * 1 ≤ _; omega) (by unfold maxLen; omega) (fun v' => (by repeat' first | exact FL.nil | apply FL.cons)) (fun v14 h14 => ?_)
            refine WL.nilE ?_
            refine WD.oneL 15 rfl (by decide +kernel) ?_
            refine WL.bs1 (T := Ty) (out' := [v2, t, x, c, v11, v14]) rfl rfl rfl rfl rfl rfl rfl rfl (by simp [hs2.one, hst.one, hsx.one, hc.one, h11.one, h14.one]) (fun l hl => ?_)
            refine WL.nilS ?_
            refine WD.takeL 16 rfl (by decide +kernel) ?_
            refine WL.len (T := Ty) rfl rfl (by assumption) rfl ?_
            refine WL.nilT ?_
            refine WD.doneH (H0 := [eqh σ]) (sepl_one.2 rfl) (by decide +kernel) ?_
            refine W.sub ?_ (W.hs (fun h p => to_reads (rows := [(v2, bs), (t, vputF 9 u), (x, (vputF 9 u).set k by'), (c, (vputF 9 u).take k), (v11, vputF 9 u ++ [by']), (v14, 128 :: vputF 9 u)]) p ?_) (next ([(v2, bs), (t, vputF 9 u), (x, (vputF 9 u).set k by'), (c, (vputF 9 u).take k), (v11, vputF 9 u ++ [by']), (v14, 128 :: vputF 9 u)], l) ⟨rfl, hl, rows_ok hbytes⟩))
            exact ⟨rfl, rfl, rfl, rfl, rfl, rfl, trivial⟩
            intro C pC dC
            refine rows_six r2.wide (hT.mono (eqh_at 0 rfl pC dC)) (hX.mono (eqh_at 0 rfl pC dC)) (hC.mono (eqh_at 0 rfl pC dC)) ?_ ?_
            first | exact ros_at 1 rfl pC dC | exact ros_at 2 rfl pC dC | exact ros_at 3 rfl pC dC | (simpa [bcell] using ros_at 1 rfl pC dC) | (simpa [bcell] using ros_at 2 rfl pC dC) | (simpa [bcell] using ros_at 3 rfl pC dC)
            first | exact ros_at 1 rfl pC dC | exact ros_at 2 rfl pC dC | exact ros_at 3 rfl pC dC | (simpa [bcell] using ros_at 1 rfl pC dC) | (simpa [bcell] using ros_at 2 rfl pC dC) | (simpa [bcell] using ros_at 3 rfl pC dC)
          · refine WL.bs (T := Ty) rfl rfl rfl rfl rfl rfl rfl rfl (by repeat' first | exact FL.nil | apply FL.cons) (fun _ _ => ?_)
            rename_i t10 h10
            refine WL.nilS ?_
            refine WD.oneL 8 rfl (by decide +kernel) ?_
            first | refine WL.ap (T := Ty) (i := 1) (n := 0) rfl rfl rfl rfl rfl rfl rfl rfl (.eqJ 0 rfl hT) hst (by simp) (by simp) (one_bcell _) (by show (_ + _) * 1 ≤ _; omega) (by unfold maxLen; omega) (fun v' => (by repeat' first | exact FL.nil | apply FL.cons)) (fun v8 h8 => ?_) | refine WL.ap (T := Ty) (i := 2) (n := 0) rfl rfl rfl rfl rfl rfl rfl rfl (.eqJ 0 rfl hT) hst (by simp) (by simp) (one_bcell _) (by show (_ + _) * 1 ≤ _; omega) (by unfold maxLen; omega) (fun v' => (by repeat' first | exact FL.nil | apply FL.cons)) (fun v8 h8 => ?_) | refine WL.ap (T := Ty) (i := 3) (n := 0) rfl rfl rfl rfl rfl rfl rfl rfl (.eqJ 0 rfl hT) hst (by simp) (by simp) (one_bcell _) (by show (_ + _) * 1 ≤ _; omega) (by unfold maxLen; omega) (fun v' => (by repeat' first | exact FL.nil | apply FL.cons)) (fun v8 h8 => ?_) | refine WL.ap (T := Ty) (i := 4) (n := 0) rfl rfl rfl rfl rfl rfl rfl rfl (.eqJ 0 rfl hT) hst (by simp) (by simp) (one_bcell _) (by show (_ + _) * 1 ≤ _; omega) (by unfold maxLen; omega) (fun v' => (by repeat' first | exact FL.nil | apply FL.cons)) (fun v8 h8 => ?_)
            refine WL.nilE ?_
            refine WD.oneL 11 rfl (by decide +kernel) ?_
            first | refine WL.ap (T := Ty) (i := 1) (n := (vputF 9 u).length) rfl rfl rfl rfl rfl rfl rfl rfl (by first | exact .own 1 rfl | exact .own 2 rfl | exact .own 3 rfl) h10 (by simp) (by simp) (by simp [Value.oneCell']) (by show (_ + _) * 1 ≤ _; omega) (by unfold maxLen; omega) (fun v' => (by repeat' first | exact FL.nil | apply FL.cons)) (fun v11 h11 => ?_) | refine WL.ap (T := Ty) (i := 2) (n := (vputF 9 u).length) rfl rfl rfl rfl rfl rfl rfl rfl (by first | exact .own 1 rfl | exact .own 2 rfl | exact .own 3 rfl) h10 (by simp) (by simp) (by simp [Value.oneCell']) (by show (_ + _) * 1 ≤ _; omega) (by unfold maxLen; omega) (fun v' => (by repeat' first | exact FL.nil | apply FL.cons)) (fun v11 h11 => ?_) | refine WL.ap (T := Ty) (i := 3) (n := (vputF 9 u).length) rfl rfl rfl rfl rfl rfl rfl rfl (by first | exact .own 1 rfl | exact .own 2 rfl | exact .own 3 rfl) h10 (by simp) (by simp) (by simp [Value.oneCell']) (by show (_ + _) * 1 ≤ _; omega) (by unfold maxLen; omega) (fun v' => (by repeat' first | exact FL.nil | apply FL.cons)) (fun v11 h11 => ?_) | refine WL.ap (T := Ty) (i := 4) (n := (vputF 9 u).length) rfl rfl rfl rfl rfl rfl rfl rfl (by first | exact .own 1 rfl | exact .own 2 rfl | exact .own 3 rfl) h10 (by simp) (by simp) (by simp [Value.oneCell']) (by show (_ + _) * 1 ≤ _; omega) (by unfold maxLen; omega) (fun v' => (by repeat' first | exact FL.nil | apply FL.cons)) (fun v11 h11 => ?_)
            refine WL.nilE ?_
            refine WD.oneL 14 rfl (by decide +kernel) ?_
            first | refine WL.ap (T := Ty) (i := 1) (n := 1) rfl rfl rfl rfl rfl rfl rfl rfl (.eqJ 0 rfl hT) hst (by simp) (by simp) (one_bcell _) (by show (_ + _) * 1 ≤ _; omega) (by unfold maxLen; omega) (fun v' => (by repeat' first | exact FL.nil | apply FL.cons)) (fun v14 h14 => ?_) | refine WL.ap (T := Ty) (i := 2) (n := 1) rfl rfl rfl rfl rfl rfl rfl rfl (.eqJ 0 rfl hT) hst (by simp) (by simp) (one_bcell _) (by show (_ + _) * 1 ≤ _; omega) (by unfold maxLen; omega) (fun v' => (by repeat' first | exact FL.nil | apply FL.cons)) (fun v14 h14 => ?_) | refine WL.ap (T := Ty) (i := 3) (n := 1) rfl rfl rfl rfl rfl rfl rfl rfl (.eqJ 0 rfl hT) hst (by simp) (by simp) (one_bcell _) (by show (_ + _) * 1 ≤ _; omega) (by unfold maxLen; omega) (fun v' => (by repeat' first | exact FL.nil | apply FL.cons)) (fun v14 h14 => ?_) | refine WL.ap (T := Ty) (i := 4) (n := 1) rfl rfl rfl rfl rfl rfl rfl rfl (.eqJ 0 rfl hT) hst (by simp) (by simp) (one_bcell _) (by show (_ + _) * 1 ≤ _; omega) (by unfold maxLen; omega) (fun v' => (by repeat' first | exact FL.nil | apply FL.cons)) (fun v14 h14 => ?_)
            refine WL.nilE ?_
            refine WD.oneL 15 rfl (by decide +kernel) ?_
            refine WL.bs1 (T := Ty) (out' := [v2, t, x, c, v11, v14]) rfl rfl rfl rfl rfl rfl rfl rfl (by simp [hs2.one, hst.one, hsx.one, hc.one, h11.one, h14.one]) (fun l hl => ?_)
            refine WL.nilS ?_
            refine WD.takeL 16 rfl (by decide +kernel) ?_
            refine WL.len (T := Ty) rfl rfl (by assumption) rfl ?_
            refine WL.nilT ?_
            refine WD.doneH (H0 := [eqh σ]) (sepl_one.2 rfl) (by decide +kernel) ?_
            refine W.sub ?_ (W.hs (fun h p => to_reads (rows := [(v2, bs), (t, vputF 9 u), (x, (vputF 9 u).set k by'), (c, (vputF 9 u).take k), (v11, vputF 9 u ++ [by']), (v14, 128 :: vputF 9 u)]) p ?_) (next ([(v2, bs), (t, vputF 9 u), (x, (vputF 9 u).set k by'), (c, (vputF 9 u).take k), (v11, vputF 9 u ++ [by']), (v14, 128 :: vputF 9 u)], l) ⟨rfl, hl, rows_ok hbytes⟩))
            exact ⟨rfl, rfl, rfl, rfl, rfl, rfl, trivial⟩
            intro C pC dC
            refine rows_six r2.wide (hT.mono (eqh_at 0 rfl pC dC)) (hX.mono (eqh_at 0 rfl pC dC)) (hC.mono (eqh_at 0 rfl pC dC)) ?_ ?_
            first | exact ros_at 1 rfl pC dC | exact ros_at 2 rfl pC dC | exact ros_at 3 rfl pC dC | (simpa [bcell] using ros_at 1 rfl pC dC) | (simpa [bcell] using ros_at 2 rfl pC dC) | (simpa [bcell] using ros_at 3 rfl pC dC)
            first | exact ros_at 1 rfl pC dC | exact ros_at 2 rfl pC dC | exact ros_at 3 rfl pC dC | (simpa [bcell] using ros_at 1 rfl pC dC) | (simpa [bcell] using ros_at 2 rfl pC dC) | (simpa [bcell] using ros_at 3 rfl pC dC)
      · refine WL.bs (T := Ty) rfl rfl rfl rfl rfl rfl rfl rfl (by repeat' first | exact FL.nil | apply FL.cons) (fun _ _ => ?_)
        rename_i t10 h10
        refine WL.nilS ?_
        refine WD.twoL 6 12 rfl rfl (by decide +kernel) ?_ ?_
        · refine WL.bs (T := Ty) rfl rfl rfl rfl rfl rfl rfl rfl (by repeat' first | exact FL.nil | apply FL.cons) (fun _ _ => ?_)
          rename_i t6 h6
          refine WL.nilS ?_
          refine WD.twoL 8 12 rfl rfl (by decide +kernel) ?_ ?_
          · first | refine WL.ap (T := Ty) (i := 1) (n := 0) rfl rfl rfl rfl rfl rfl rfl rfl (.eqJ 0 rfl hT) hst (by simp) (by simp) (one_bcell _) (by show (_ + _) * 1 ≤ _; omega) (by unfold maxLen; omega) (fun v' => (by repeat' first | exact FL.nil | apply FL.cons)) (fun v8 h8 => ?_) | refine WL.ap (T := Ty) (i := 2) (n := 0) rfl rfl rfl rfl rfl rfl rfl rfl (.eqJ 0 rfl hT) hst (by simp) (by simp) (one_bcell _) (by show (_ + _) * 1 ≤ _; omega) (by unfold maxLen; omega) (fun v' => (by repeat' first | exact FL.nil | apply FL.cons)) (fun v8 h8 => ?_) | refine WL.ap (T := Ty) (i := 3) (n := 0) rfl rfl rfl rfl rfl rfl rfl rfl (.eqJ 0 rfl hT) hst (by simp) (by simp) (one_bcell _) (by show (_ + _) * 1 ≤ _; omega) (by unfold maxLen; omega) (fun v' => (by repeat' first | exact FL.nil | apply FL.cons)) (fun v8 h8 => ?_) | refine WL.ap (T := Ty) (i := 4) (n := 0) rfl rfl rfl rfl rfl rfl rfl rfl (.eqJ 0 rfl hT) hst (by simp) (by simp) (one_bcell _) (by show (_ + _) * 1 ≤ _; omega) (by unfold maxLen; omega) (fun v' => (by repeat' first | exact FL.nil | apply FL.cons)) (fun v8 h8 => ?_)
            refine WL.nilE ?_
            refine WD.twoL 11 12 rfl rfl (by decide +kernel) ?_ ?_
            · first | refine WL.ap (T := Ty) (i := 1) (n := (vputF 9 u).length) rfl rfl rfl rfl rfl rfl rfl rfl (by first | exact .own 1 rfl | exact .own 2 rfl | exact .own 3 rfl) h10 (by simp) (by simp) (by simp [Value.oneCell']) (by show (_ + _) * 1 ≤ _; omega) (by unfold maxLen; omega) (fun v' => (by repeat' first | exact FL.nil | apply FL.cons)) (fun v11 h11 => ?_) | refine WL.ap (T := Ty) (i := 2) (n := (vputF 9 u).length) rfl rfl rfl rfl rfl rfl rfl rfl (by first | exact .own 1 rfl | exact .own 2 rfl | exact .own 3 rfl) h10 (by simp) (by simp) (by simp [Value.oneCell']) (by show (_ + _) * 1 ≤ _; omega) (by unfold maxLen; omega) (fun v' => (by repeat' first | exact FL.nil | apply FL.cons)) (fun v11 h11 => ?_) | refine WL.ap (T := Ty) (i := 3) (n := (vputF 9 u).length) rfl rfl rfl rfl rfl rfl rfl rfl (by first | exact .own 1 rfl | exact .own 2 rfl | exact .own 3 rfl) h10 (by simp) (by simp) (by simp [Value.oneCell']) (by show (_ + _) * 1 ≤ _; omega) (by unfold maxLen; omega) (fun v' => (by repeat' first | exact FL.nil | apply FL.cons)) (fun v11 h11 => ?_) | refine WL.ap (T := Ty) (i := 4) (n := (vputF 9 u).length) rfl rfl rfl rfl rfl rfl rfl rfl (by first | exact .own 1 rfl | exact .own 2 rfl | exact .own 3 rfl) h10 (by simp) (by simp) (by simp [Value.oneCell']) (by show (_ + _) * 1 ≤ _; omega) (by unfold maxLen; omega) (fun v' => (by repeat' first | exact FL.nil | apply FL.cons)) (fun v11 h11 => ?_)
              refine WL.nilE ?_
              refine WD.oneL 12 rfl (by decide +kernel) ?_
              refine WL.bs (T := Ty) rfl rfl rfl rfl rfl rfl rfl rfl (by repeat' first | exact FL.nil | apply FL.cons) (fun _ _ => ?_)
              rename_i t12 h12
              refine WL.nilS ?_
              refine WD.oneL 14 rfl (by decide +kernel) ?_
              first | refine WL.ap (T := Ty) (i := 1) (n := 1) rfl rfl rfl rfl rfl rfl rfl rfl (.eqJ 0 rfl hT) hst (by simp) (by simp) (one_bcell _) (by show (_ + _) * 1 ≤ _; omega) (by unfold maxLen; omega) (fun v' => (by repeat' first | exact FL.nil | apply FL.cons)) (fun v14 h14 => ?_) | refine WL.ap (T := Ty) (i := 2) (n := 1) rfl rfl rfl rfl rfl rfl rfl rfl (.eqJ 0 rfl hT) hst (by simp) (by simp) (one_bcell _) (by show (_ + _) * 1 ≤ _; omega) (by unfold maxLen; omega) (fun v' => (by repeat' first | exact FL.nil | apply FL.cons)) (fun v14 h14 => ?_) | refine WL.ap (T := Ty) (i := 3) (n := 1) rfl rfl rfl rfl rfl rfl rfl rfl (.eqJ 0 rfl hT) hst (by simp) (by simp) (one_bcell _) (by show (_ + _) * 1 ≤ _; omega) (by unfold maxLen; omega) (fun v' => (by repeat' first | exact FL.nil | apply FL.cons)) (fun v14 h14 => ?_) | refine WL.ap (T := Ty) (i := 4) (n := 1) rfl rfl rfl rfl rfl rfl rfl rfl (.eqJ 0 rfl hT) hst (by simp) (by simp) (one_bcell _) (by show (_ + _) * 1 ≤ _; omega) (by unfold maxLen; omega) (fun v' => (by repeat' first | exact FL.nil | apply FL.cons)) (fun v14 h14 => ?_)
              refine WL.nilE ?_
              refine WD.oneL 15 rfl (by decide +kernel) ?_
              refine WL.bs1 (T := Ty) (out' := [v2, t, x, c, v11, v14]) rfl rfl rfl rfl rfl rfl rfl rfl (by simp [hs2.one, hst.one, hsx.one, hc.one, h11.one, h14.one]) (fun l hl => ?_)
              refine WL.nilS ?_
              refine WD.takeL 16 rfl (by decide +kernel) ?_
              refine WL.len (T := Ty) rfl rfl (by assumption) rfl ?_
              refine WL.nilT ?_
              refine WD.doneH (H0 := [eqh σ]) (sepl_one.2 rfl) (by decide +kernel) ?_
              refine W.sub ?_ (W.hs (fun h p => to_reads (rows := [(v2, bs), (t, vputF 9 u), (x, (vputF 9 u).set k by'), (c, (vputF 9 u).take k), (v11, vputF 9 u ++ [by']), (v14, 128 :: vputF 9 u)]) p ?_) (next ([(v2, bs), (t, vputF 9 u), (x, (vputF 9 u).set k by'), (c, (vputF 9 u).take k), (v11, vputF 9 u ++ [by']), (v14, 128 :: vputF 9 u)], l) ⟨rfl, hl, rows_ok hbytes⟩))
              exact ⟨rfl, rfl, rfl, rfl, rfl, rfl, trivial⟩
              intro C pC dC
              refine rows_six r2.wide (hT.mono (eqh_at 0 rfl pC dC)) (hX.mono (eqh_at 0 rfl pC dC)) (hC.mono (eqh_at 0 rfl pC dC)) ?_ ?_
              first | exact ros_at 1 rfl pC dC | exact ros_at 2 rfl pC dC | exact ros_at 3 rfl pC dC | (simpa [bcell] using ros_at 1 rfl pC dC) | (simpa [bcell] using ros_at 2 rfl pC dC) | (simpa [bcell] using ros_at 3 rfl pC dC)
              first | exact ros_at 1 rfl pC dC | exact ros_at 2 rfl pC dC | exact ros_at 3 rfl pC dC | (simpa [bcell] using ros_at 1 rfl pC dC) | (simpa [bcell] using ros_at 2 rfl pC dC) | (simpa [bcell] using ros_at 3 rfl pC dC)
            · refine WL.bs (T := Ty) rfl rfl rfl rfl rfl rfl rfl rfl (by repeat' first | exact FL.nil | apply FL.cons) (fun _ _ => ?_)
              rename_i t12 h12
              refine WL.nilS ?_
              refine WD.oneL 11 rfl (by decide +kernel) ?_
              first | refine WL.ap (T := Ty) (i := 1) (n := (vputF 9 u).length) rfl rfl rfl rfl rfl rfl rfl rfl (by first | exact .own 1 rfl | exact .own 2 rfl | exact .own 3 rfl) h10 (by simp) (by simp) (by simp [Value.oneCell']) (by show (_ + _) * 1 ≤ _; omega) (by unfold maxLen; omega) (fun v' => (by repeat' first | exact FL.nil | apply FL.cons)) (fun v11 h11 => ?_) | refine WL.ap (T := Ty) (i := 2) (n := (vputF 9 u).length) rfl rfl rfl rfl rfl rfl rfl rfl (by first | exact .own 1 rfl | exact .own 2 rfl | exact .own 3 rfl) h10 (by simp) (by simp) (by simp [Value.oneCell']) (by show (_ + _) * 1 ≤ _; omega) (by unfold maxLen; omega) (fun v' => (by repeat' first | exact FL.nil | apply FL.cons)) (fun v11 h11 => ?_) | refine WL.ap (T := Ty) (i := 3) (n := (vputF 9 u).length) rfl rfl rfl rfl rfl rfl rfl rfl (by first | exact .own 1 rfl | exact .own 2 rfl | exact .own 3 rfl) h10 (by simp) (by simp) (by simp [Value.oneCell']) (by show (_ + _) * 1 ≤ _; omega) (by unfold maxLen; omega) (fun v' => (by repeat' first | exact FL.nil | apply FL.cons)) (fun v11 h11 => ?_) | refine WL.ap (T := Ty) (i := 4) (n := (vputF 9 u).length) rfl rfl rfl rfl rfl rfl rfl rfl (by first | exact .own 1 rfl | exact .own 2 rfl | exact .own 3 rfl) h10 (by simp) (by simp) (by simp [Value.oneCell']) (by show (_ + _) * 1 ≤ _; omega) (by unfold maxLen; omega) (fun v' => (by repeat' first | exact FL.nil | apply FL.cons)) (fun v11 h11 => ?_)
              refine WL.nilE ?_
              refine WD.oneL 14 rfl (by decide +kernel) ?_
              first | refine WL.ap (T := Ty) (i := 1) (n := 1) rfl rfl rfl rfl rfl rfl rfl rfl (.eqJ 0 rfl hT) hst (by simp) (by simp) (one_bcell _) (by show (_ + _) * 1 ≤ _; omega) (by unfold maxLen; omega) (fun v' => (by repeat' first | exact FL.nil | apply FL.cons)) (fun v14 h14 => ?_) | refine WL.ap (T := Ty) (i := 2) (n := 1) rfl rfl rfl rfl rfl rfl rfl rfl (.eqJ 0 rfl hT) hst (by simp) (by simp) (one_bcell _) (by show (_ + _) * 1 ≤ _; omega) (by unfold maxLen; omega) (fun v' => (by repeat' first | exact FL.nil | apply FL.cons)) (fun v14 h14 => ?_) | refine WL.ap (T := Ty) (i := 3) (n := 1) rfl rfl rfl rfl rfl rfl rfl rfl (.eqJ 0 rfl hT) hst (by simp) (by simp) (one_bcell _) (by show (_ + _) * 1 ≤ _; omega) (by unfold maxLen; omega) (fun v' => (by repeat' first | exact FL.nil | apply FL.cons)) (fun v14 h14 => ?_) | refine WL.ap (T := Ty) (i := 4) (n := 1) rfl rfl rfl rfl rfl rfl rfl rfl (.eqJ 0 rfl hT) hst (by simp) (by simp) (one_bcell _) (by show (_ + _) * 1 ≤ _; omega) (by unfold maxLen; omega) (fun v' => (by repeat' first | exact FL.nil | apply FL.cons)) (fun v14 h14 => ?_)
              refine WL.nilE ?_
              refine WD.oneL 15 rfl (by decide +kernel) ?_
              refine WL.bs1 (T := Ty) (out' := [v2, t, x, c, v11, v14]) rfl rfl rfl rfl rfl rfl rfl rfl (by simp [hs2.one, hst.one, hsx.one, hc.one, h11.one, h14.one]) (fun l hl => ?_)
              refine WL.nilS ?_
              refine WD.takeL 16 rfl (by decide +kernel) ?_
              refine WL.len (T := Ty) rfl rfl (by assumption) rfl ?_
              refine WL.nilT ?_
              refine WD.doneH (H0 := [eqh σ]) (sepl_one.2 rfl) (by decide +kernel) ?_
              refine W.sub ?_ (W.hs (fun h p => to_reads (rows := [(v2, bs), (t, vputF 9 u), (x, (vputF 9 u).set k by'), (c, (vputF 9 u).take k), (v11, vputF 9 u ++ [by']), (v14, 128 :: vputF 9 u)]) p ?_) (next ([(v2, bs), (t, vputF 9 u), (x, (vputF 9 u).set k by'), (c, (vputF 9 u).take k), (v11, vputF 9 u ++ [by']), (v14, 128 :: vputF 9 u)], l) ⟨rfl, hl, rows_ok hbytes⟩))
              exact ⟨rfl, rfl, rfl, rfl, rfl, rfl, trivial⟩
              intro C pC dC
              refine rows_six r2.wide (hT.mono (eqh_at 0 rfl pC dC)) (hX.mono (eqh_at 0 rfl pC dC)) (hC.mono (eqh_at 0 rfl pC dC)) ?_ ?_
              first | exact ros_at 1 rfl pC dC | exact ros_at 2 rfl pC dC | exact ros_at 3 rfl pC dC | (simpa [bcell] using ros_at 1 rfl pC dC) | (simpa [bcell] using ros_at 2 rfl pC dC) | (simpa [bcell] using ros_at 3 rfl pC dC)
              first | exact ros_at 1 rfl pC dC | exact ros_at 2 rfl pC dC | exact ros_at 3 rfl pC dC | (simpa [bcell] using ros_at 1 rfl pC dC) | (simpa [bcell] using ros_at 2 rfl pC dC) | (simpa [bcell] using ros_at 3 rfl pC dC)
          · refine WL.bs (T := Ty) rfl rfl rfl rfl rfl rfl rfl rfl (by repeat' first | exact FL.nil | apply FL.cons) (fun _ _ => ?_)
            rename_i t12 h12
            refine WL.nilS ?_
            refine WD.oneL 8 rfl (by decide +kernel) ?_
            first | refine WL.ap (T := Ty) (i := 1) (n := 0) rfl rfl rfl rfl rfl rfl rfl rfl (.eqJ 0 rfl hT) hst (by simp) (by simp) (one_bcell _) (by show (_ + _) * 1 ≤ _; omega) (by unfold maxLen; omega) (fun v' => (by repeat' first | exact FL.nil | apply FL.cons)) (fun v8 h8 => ?_) | refine WL.ap (T := Ty) (i := 2) (n := 0) rfl rfl rfl rfl rfl rfl rfl rfl (.eqJ 0 rfl hT) hst (by simp) (by simp) (one_bcell _) (by show (_ + _) * 1 ≤ _; omega) (by unfold maxLen; omega) (fun v' => (by repeat' first | exact FL.nil | apply FL.cons)) (fun v8 h8 => ?_) | refine WL.ap (T := Ty) (i := 3) (n := 0) rfl rfl rfl rfl rfl rfl rfl rfl (.eqJ 0 rfl hT) hst (by simp) (by simp) (one_bcell _) (by show (_ + _) * 1 ≤ _; omega) (by unfold maxLen; omega) (fun v' => (by repeat' first | exact FL.nil | apply FL.cons)) (fun v8 h8 => ?_) | refine WL.ap (T := Ty) (i := 4) (n := 0) rfl rfl rfl rfl rfl rfl rfl rfl (.eqJ 0 rfl hT) hst (by simp) (by simp) (one_bcell _) (by show (_ + _) * 1 ≤ _; omega) (by unfold maxLen; omega) (fun v' => (by repeat' first | exact FL.nil | apply FL.cons)) (fun v8 h8 => ?_)
            refine WL.nilE ?_
            refine WD.oneL 11 rfl (by decide +kernel) ?_
            first | refine WL.ap (T := Ty) (i := 1) (n := (vputF 9 u).length) rfl rfl rfl rfl rfl rfl rfl rfl (by first | exact .own 1 rfl | exact .own 2 rfl | exact .own 3 rfl) h10 (by simp) (by simp) (by simp [Value.oneCell']) (by show (_ + _) * 1 ≤ _; omega) (by unfold maxLen; omega) (fun v' => (by repeat' first | exact FL.nil | apply FL.cons)) (fun v11 h11 => ?_) | refine WL.ap (T := Ty) (i := 2) (n := (vputF 9 u).length) rfl rfl rfl rfl rfl rfl rfl rfl (by first | exact .own 1 rfl | exact .own 2 rfl | exact .own 3 rfl) h10 (by simp) (by simp) (by simp [Value.oneCell']) (by show (_ + _) * 1 ≤ _; omega) (by unfold maxLen; omega) (fun v' => (by repeat' first | exact FL.nil | apply FL.cons)) (fun v11 h11 => ?_) | refine WL.ap (T := Ty) (i := 3) (n := (vputF 9 u).length) rfl rfl rfl rfl rfl rfl rfl rfl (by first | exact .own 1 rfl | exact .own 2 rfl | exact .own 3 rfl) h10 (by simp) (by simp) (by simp [Value.oneCell']) (by show (_ + _) * 1 ≤ _; omega) (by unfold maxLen; omega) (fun v' => (by repeat' first | exact FL.nil | apply FL.cons)) (fun v11 h11 => ?_) | refine WL.ap (T := Ty) (i := 4) (n := (vputF 9 u).length) rfl rfl rfl rfl rfl rfl rfl rfl (by first | exact .own 1 rfl | exact .own 2 rfl | exact .own 3 rfl) h10 (by simp) (by simp) (by simp [Value.oneCell']) (by show (_ + _) * 1 ≤ _; omega) (by unfold maxLen; omega) (fun v' => (by repeat' first | exact FL.nil | apply FL.cons)) (fun v11 h11 => ?_)
            refine WL.nilE ?_
            refine WD.oneL 14 rfl (by decide +kernel) ?_
            first | refine WL.ap (T := Ty) (i := 1) (n := 1) rfl rfl rfl rfl rfl rfl rfl rfl (.eqJ 0 rfl hT) hst (by simp) (by simp) (one_bcell _) (by show (_ + _) * 1 ≤ _; omega) (by unfold maxLen; omega) (fun v' => (by repeat' first | exact FL.nil | apply FL.cons)) (fun v14 h14 => ?_) | refine WL.ap (T := Ty) (i := 2) (n := 1) rfl rfl rfl rfl rfl rfl rfl rfl (.eqJ 0 rfl hT) hst (by simp) (by simp) (one_bcell _) (by show (_ + _) * 1 ≤ _; omega) (by unfold maxLen; omega) (fun v' => (by repeat' first | exact FL.nil | apply FL.cons)) (fun v14 h14 => ?_) | refine WL.ap (T := Ty) (i := 3) (n := 1) rfl rfl rfl rfl rfl rfl rfl rfl (.eqJ 0 rfl hT) hst (by simp) (by simp) (one_bcell _) (by show (_ + _) * 1 ≤ _; omega) (by unfold maxLen; omega) (fun v' => (by repeat' first | exact FL.nil | apply FL.cons)) (fun v14 h14 => ?_) | refine WL.ap (T := Ty) (i := 4) (n := 1) rfl rfl rfl rfl rfl rfl rfl rfl (.eqJ 0 rfl hT) hst (by simp) (by simp) (one_bcell _) (by show (_ + _) * 1 ≤ _; omega) (by unfold maxLen; omega) (fun v' => (by repeat' first | exact FL.nil | apply FL.cons)) (fun v14 h14 => ?_)
            refine WL.nilE ?_
            refine WD.oneL 15 rfl (by decide +kernel) ?_
            refine WL.bs1 (T := Ty) (out' := [v2, t, x, c, v11, v14]) rfl rfl rfl rfl rfl rfl rfl rfl (by simp [hs2.one, hst.one, hsx.one, hc.one, h11.one, h14.one]) (fun l hl => ?_)
            refine WL.nilS ?_
            refine WD.takeL 16 rfl (by decide +kernel) ?_
            refine WL.len (T := Ty) rfl rfl (by assumption) rfl ?_
            refine WL.nilT ?_
            refine WD.doneH (H0 := [eqh σ]) (sepl_one.2 rfl) (by decide +kernel) ?_
            refine W.sub ?_ (W.hs (fun h p => to_reads (rows := [(v2, bs), (t, vputF 9 u), (x, (vputF 9 u).set k by'), (c, (vputF 9 u).take k), (v11, vputF 9 u ++ [by']), (v14, 128 :: vputF 9 u)]) p ?_) (next ([(v2, bs), (t, vputF 9 u), (x, (vputF 9 u).set k by'), (c, (vputF 9 u).take k), (v11, vputF 9 u ++ [by']), (v14, 128 :: vputF 9 u)], l) ⟨rfl, hl, rows_ok hbytes⟩))
            exact ⟨rfl, rfl, rfl, rfl, rfl, rfl, trivial⟩
            intro C pC dC
            refine rows_six r2.wide (hT.mono (eqh_at 0 rfl pC dC)) (hX.mono (eqh_at 0 rfl pC dC)) (hC.mono (eqh_at 0 rfl pC dC)) ?_ ?_
            first | exact ros_at 1 rfl pC dC | exact ros_at 2 rfl pC dC | exact ros_at 3 rfl pC dC | (simpa [bcell] using ros_at 1 rfl pC dC) | (simpa [bcell] using ros_at 2 rfl pC dC) | (simpa [bcell] using ros_at 3 rfl pC dC)
            first | exact ros_at 1 rfl pC dC | exact ros_at 2 rfl pC dC | exact ros_at 3 rfl pC dC | (simpa [bcell] using ros_at 1 rfl pC dC) | (simpa [bcell] using ros_at 2 rfl pC dC) | (simpa [bcell] using ros_at 3 rfl pC dC)
        · refine WL.bs (T := Ty) rfl rfl rfl rfl rfl rfl rfl rfl (by repeat' first | exact FL.nil | apply FL.cons) (fun _ _ => ?_)
          rename_i t12 h12
          refine WL.nilS ?_
          refine WD.oneL 6 rfl (by decide +kernel) ?_
          refine WL.bs (T := Ty) rfl rfl rfl rfl rfl rfl rfl rfl (by repeat' first | exact FL.nil | apply FL.cons) (fun _ _ => ?_)
          rename_i t6 h6
          refine WL.nilS ?_
          refine WD.oneL 8 rfl (by decide +kernel) ?_
          first | refine WL.ap (T := Ty) (i := 1) (n := 0) rfl rfl rfl rfl rfl rfl rfl rfl (.eqJ 0 rfl hT) hst (by simp) (by simp) (one_bcell _) (by show (_ + _) * 1 ≤ _; omega) (by unfold maxLen; omega) (fun v' => (by repeat' first | exact FL.nil | apply FL.cons)) (fun v8 h8 => ?_) | refine WL.ap (T := Ty) (i := 2) (n := 0) rfl rfl rfl rfl rfl rfl rfl rfl (.eqJ 0 rfl hT) hst (by simp) (by simp) (one_bcell _) (by show (_ + _) * 1 ≤ _; omega) (by unfold maxLen; omega) (fun v' => (by repeat' first | exact FL.nil | apply FL.cons)) (fun v8 h8 => ?_) | refine WL.ap (T := Ty) (i := 3) (n := 0) rfl rfl rfl rfl rfl rfl rfl rfl (.eqJ 0 rfl hT) hst (by simp) (by simp) (one_bcell _) (by show (_ + _) * 1 ≤ _; omega) (by unfold maxLen; omega) (fun v' => (by repeat' first | exact FL.nil | apply FL.cons)) (fun v8 h8 => ?_) | refine WL.ap (T := Ty) (i := 4) (n := 0) rfl rfl rfl rfl rfl rfl rfl rfl (.eqJ 0 rfl hT) hst (by simp) (by simp) (one_bcell _) (by show (_ + _) * 1 ≤ _; omega) (by unfold maxLen; omega) (fun v' => (by repeat' first | exact FL.nil | apply FL.cons)) (fun v8 h8 => ?_)
          refine WL.nilE ?_
          refine WD.oneL 11 rfl (by decide +kernel) ?_
          first | refine WL.ap (T := Ty) (i := 1) (n := (vputF 9 u).length) rfl rfl rfl rfl rfl rfl rfl rfl (by first | exact .own 1 rfl | exact .own 2 rfl | exact .own 3 rfl) h10 (by simp) (by simp) (by simp [Value.oneCell']) (by show (_ + _) * 1 ≤ _; omega) (by unfold maxLen; omega) (fun v' => (by repeat' first | exact FL.nil | apply FL.cons)) (fun v11 h11 => ?_) | refine WL.ap (T := Ty) (i := 2) (n := (vputF 9 u).length) rfl rfl rfl rfl rfl rfl rfl rfl (by first | exact .own 1 rfl | exact .own 2 rfl | exact .own 3 rfl) h10 (by simp) (by simp) (by simp [Value.oneCell']) (by show (_ + _) * 1 ≤ _; omega) (by unfold maxLen; omega) (fun v' => (by repeat' first | exact FL.nil | apply FL.cons)) (fun v11 h11 => ?_) | refine WL.ap (T := Ty) (i := 3) (n := (vputF 9 u).length) rfl rfl rfl rfl rfl rfl rfl rfl (by first | exact .own 1 rfl | exact .own 2 rfl | exact .own 3 rfl) h10 (by simp) (by simp) (by simp [Value.oneCell']) (by show (_ + _) * 1 ≤ _; omega) (by unfold maxLen; omega) (fun v' => (by repeat' first | exact FL.nil | apply FL.cons)) (fun v11 h11 => ?_) | refine WL.ap (T := Ty) (i := 4) (n := (vputF 9 u).length) rfl rfl rfl rfl rfl rfl rfl rfl (by first | exact .own 1 rfl | exact .own 2 rfl | exact .own 3 rfl) h10 (by simp) (by simp) (by simp [Value.oneCell']) (by show (_ + _) * 1 ≤ _; omega) (by unfold maxLen; omega) (fun v' => (by repeat' first | exact FL.nil | apply FL.cons)) (fun v11 h11 => ?_)
          refine WL.nilE ?_
          refine WD.oneL 14 rfl (by decide +kernel) ?_
          first | refine WL.ap (T := Ty) (i := 1) (n := 1) rfl rfl rfl rfl rfl rfl rfl rfl (.eqJ 0 rfl hT) hst (by simp) (by simp) (one_bcell _) (by show (_ + _) * 1 ≤ _; omega) (by unfold maxLen; omega) (fun v' => (by repeat' first | exact FL.nil | apply FL.cons)) (fun v14 h14 => ?_) | refine WL.ap (T := Ty) (i := 2) (n := 1) rfl rfl rfl rfl rfl rfl rfl rfl (.eqJ 0 rfl hT) hst (by simp) (by simp) (one_bcell _) (by show (_ + _) * 1 ≤ _; omega) (by unfold maxLen; omega) (fun v' => (by repeat' first | exact FL.nil | apply FL.cons)) (fun v14 h14 => ?_) | refine WL.ap (T := Ty) (i := 3) (n := 1) rfl rfl rfl rfl rfl rfl rfl rfl (.eqJ 0 rfl hT) hst (by simp) (by simp) (one_bcell _) (by show (_ + _) * 1 ≤ _; omega) (by unfold maxLen; omega) (fun v' => (by repeat' first | exact FL.nil | apply FL.cons)) (fun v14 h14 => ?_) | refine WL.ap (T := Ty) (i := 4) (n := 1) rfl rfl rfl rfl rfl rfl rfl rfl (.eqJ 0 rfl hT) hst (by simp) (by simp) (one_bcell _) (by show (_ + _) * 1 ≤ _; omega) (by unfold maxLen; omega) (fun v' => (by repeat' first | exact FL.nil | apply FL.cons)) (fun v14 h14 => ?_)
          refine WL.nilE ?_
          refine WD.oneL 15 rfl (by decide +kernel) ?_
          refine WL.bs1 (T := Ty) (out' := [v2, t, x, c, v11, v14]) rfl rfl rfl rfl rfl rfl rfl rfl (by simp [hs2.one, hst.one, hsx.one, hc.one, h11.one, h14.one]) (fun l hl => ?_)
          refine WL.nilS ?_
          refine WD.takeL 16 rfl (by decide +kernel) ?_
          refine WL.len (T := Ty) rfl rfl (by assumption) rfl ?_
          refine WL.nilT ?_
          refine WD.doneH (H0 := [eqh σ]) (sepl_one.2 rfl) (by decide +kernel) ?_
          refine W.sub ?_ (W.hs (fun h p => to_reads (rows := [(v2, bs), (t, vputF 9 u), (x, (vputF 9 u).set k by'), (c, (vputF 9 u).take k), (v11, vputF 9 u ++ [by']), (v14, 128 :: vputF 9 u)]) p ?_) (next ([(v2, bs), (t, vputF 9 u), (x, (vputF 9 u).set k by'), (c, (vputF 9 u).take k), (v11, vputF 9 u ++ [by']), (v14, 128 :: vputF 9 u)], l) ⟨rfl, hl, rows_ok hbytes⟩))
          exact ⟨rfl, rfl, rfl, rfl, rfl, rfl, trivial⟩
          intro C pC dC
          refine rows_six r2.wide (hT.mono (eqh_at 0 rfl pC dC)) (hX.mono (eqh_at 0 rfl pC dC)) (hC.mono (eqh_at 0 rfl pC dC)) ?_ ?_
          first | exact ros_at 1 rfl pC dC | exact ros_at 2 rfl pC dC | exact ros_at 3 rfl pC dC | (simpa [bcell] using ros_at 1 rfl pC dC) | (simpa [bcell] using ros_at 2 rfl pC dC) | (simpa [bcell] using ros_at 3 rfl pC dC)
          first | exact ros_at 1 rfl pC dC | exact ros_at 2 rfl pC dC | exact ros_at 3 rfl pC dC | (simpa [bcell] using ros_at 1 rfl pC dC) | (simpa [bcell] using ros_at 2 rfl pC dC) | (simpa [bcell] using ros_at 3 rfl pC dC)
      · refine WL.bs (T := Ty) rfl rfl rfl rfl rfl rfl rfl rfl (by repeat' first | exact FL.nil | apply FL.cons) (fun _ _ => ?_)
        rename_i t12 h12
        refine WL.nilS ?_
        refine WD.twoL 6 10 rfl rfl (by decide +kernel) ?_ ?_
        · refine WL.bs (T := Ty) rfl rfl rfl rfl rfl rfl rfl rfl (by repeat' first | exact FL.nil | apply FL.cons) (fun _ _ => ?_)
          rename_i t6 h6
          refine WL.nilS ?_
          refine WD.twoL 8 10 rfl rfl (by decide +kernel) ?_ ?_
          · first | refine WL.ap (T := Ty) (i := 1) (n := 0) rfl rfl rfl rfl rfl rfl rfl rfl (.eqJ 0 rfl hT) hst (by simp) (by simp) (one_bcell _) (by show (_ + _) * 1 ≤ _; omega) (by unfold maxLen; omega) (fun v' => (by repeat' first | exact FL.nil | apply FL.cons)) (fun v8 h8 => ?_) | refine WL.ap (T := Ty) (i := 2) (n := 0) rfl rfl rfl rfl rfl rfl rfl rfl (.eqJ 0 rfl hT) hst (by simp) (by simp) (one_bcell _) (by show (_ + _) * 1 ≤ _; omega) (by unfold maxLen; omega) (fun v' => (by repeat' first | exact FL.nil | apply FL.cons)) (fun v8 h8 => ?_) | refine WL.ap (T := Ty) (i := 3) (n := 0) rfl rfl rfl rfl rfl rfl rfl rfl (.eqJ 0 rfl hT) hst (by simp) (by simp) (one_bcell _) (by show (_ + _) * 1 ≤ _; omega) (by unfold maxLen; omega) (fun v' => (by repeat' first | exact FL.nil | apply FL.cons)) (fun v8 h8 => ?_) | refine WL.ap (T := Ty) (i := 4) (n := 0) rfl rfl rfl rfl rfl rfl rfl rfl (.eqJ 0 rfl hT) hst (by simp) (by simp) (one_bcell _) (by show (_ + _) * 1 ≤ _; omega) (by unfold maxLen; omega) (fun v' => (by repeat' first | exact FL.nil | apply FL.cons)) (fun v8 h8 => ?_)
            refine WL.nilE ?_
            refine WD.oneL 10 rfl (by decide +kernel) ?_
            refine WL.bs (T := Ty) rfl rfl rfl rfl rfl rfl rfl rfl (by repeat' first | exact FL.nil | apply FL.cons) (fun _ _ => ?_)
            rename_i t10 h10
            refine WL.nilS ?_
            refine WD.oneL 11 rfl (by decide +kernel) ?_
            first | refine WL.ap (T := Ty) (i := 1) (n := (vputF 9 u).length) rfl rfl rfl rfl rfl rfl rfl rfl (by first | exact .own 1 rfl | exact .own 2 rfl | exact .own 3 rfl) h10 (by simp) (by simp) (by simp [Value.oneCell']) (by show (_ + _) * 1 ≤ _; omega) (by unfold maxLen; omega) (fun v' => (by repeat' first | exact FL.nil | apply FL.cons)) (fun v11 h11 => ?_) | refine WL.ap (T := Ty) (i := 2) (n := (vputF 9 u).length) rfl rfl rfl rfl rfl rfl rfl rfl (by first | exact .own 1 rfl | exact .own 2 rfl | exact .own 3 rfl) h10 (by simp) (by simp) (by simp [Value.oneCell']) (by show (_ + _) * 1 ≤ _; omega) (by unfold maxLen; omega) (fun v' => (by repeat' first | exact FL.nil | apply FL.cons)) (fun v11 h11 => ?_) | refine WL.ap (T := Ty) (i := 3) (n := (vputF 9 u).length) rfl rfl rfl rfl rfl rfl rfl rfl (by first | exact .own 1 rfl | exact .own 2 rfl | exact .own 3 rfl) h10 (by simp) (by simp) (by simp [Value.oneCell']) (by show (_ + _) * 1 ≤ _; omega) (by unfold maxLen; omega) (fun v' => (by repeat' first | exact FL.nil | apply FL.cons)) (fun v11 h11 => ?_) | refine WL.ap (T := Ty) (i := 4) (n := (vputF 9 u).length) rfl rfl rfl rfl rfl rfl rfl rfl (by first | exact .own 1 rfl | exact .own 2 rfl | exact .own 3 rfl) h10 (by simp) (by simp) (by simp [Value.oneCell']) (by show (_ + _) * 1 ≤ _; omega) (by unfold maxLen; omega) (fun v' => (by repeat' first | exact FL.nil | apply FL.cons)) (fun v11 h11 => ?_)
            refine WL.nilE ?_
            refine WD.oneL 14 rfl (by decide +kernel) ?_
            first | refine WL.ap (T := Ty) (i := 1) (n := 1) rfl rfl rfl rfl rfl rfl rfl rfl (.eqJ 0 rfl hT) hst (by simp) (by simp) (one_bcell _) (by show (_ + _) * 1 ≤ _; omega) (by unfold maxLen; omega) (fun v' => (by repeat' first | exact FL.nil | apply FL.cons)) (fun v14 h14 => ?_) | refine WL.ap (T := Ty) (i := 2) (n := 1) rfl rfl rfl rfl rfl rfl rfl rfl (.eqJ 0 rfl hT) hst (by simp) (by simp) (one_bcell _) (by show (_ + _) * 1 ≤ _; omega) (by unfold maxLen; omega) (fun v' => (by repeat' first | exact FL.nil | apply FL.cons)) (fun v14 h14 => ?_) | refine WL.ap (T := Ty) (i := 3) (n := 1) rfl rfl rfl rfl rfl rfl rfl rfl (.eqJ 0 rfl hT) hst (by simp) (by simp) (one_bcell _) (by show (_ + _) * 1 ≤ _; omega) (by unfold maxLen; omega) (fun v' => (by repeat' first | exact FL.nil | apply FL.cons)) (fun v14 h14 => ?_) | refine WL.ap (T := Ty) (i := 4) (n := 1) rfl rfl rfl rfl rfl rfl rfl rfl (.eqJ 0 rfl hT) hst (by simp) (by simp) (one_bcell _) (by show (_ + _) * 1 ≤ _; omega) (by unfold maxLen; omega) (fun v' => (by repeat' first | exact FL.nil | apply FL.cons)) (fun v14 h14 => ?_)
            refine WL.nilE ?_
            refine WD.oneL 15 rfl (by decide +kernel) ?_
            refine WL.bs1 (T := Ty) (out' := [v2, t, x, c, v11, v14]) rfl rfl rfl rfl rfl rfl rfl rfl (by simp [hs2.one, hst.one, hsx.one, hc.one, h11.one, h14.one]) (fun l hl => ?_)
            refine WL.nilS ?_
            refine WD.takeL 16 rfl (by decide +kernel) ?_
            refine WL.len (T := Ty) rfl rfl (by assumption) rfl ?_
            refine WL.nilT ?_
            refine WD.doneH (H0 := [eqh σ]) (sepl_one.2 rfl) (by decide +kernel) ?_
            refine W.sub ?_ (W.hs (fun h p => to_reads (rows := [(v2, bs), (t, vputF 9 u), (x, (vputF 9 u).set k by'), (c, (vputF 9 u).take k), (v11, vputF 9 u ++ [by']), (v14, 128 :: vputF 9 u)]) p ?_) (next ([(v2, bs), (t, vputF 9 u), (x, (vputF 9 u).set k by'), (c, (vputF 9 u).take k), (v11, vputF 9 u ++ [by']), (v14, 128 :: vputF 9 u)], l) ⟨rfl, hl, rows_ok hbytes⟩))
            exact ⟨rfl, rfl, rfl, rfl, rfl, rfl, trivial⟩
            intro C pC dC
            refine rows_six r2.wide (hT.mono (eqh_at 0 rfl pC dC)) (hX.mono (eqh_at 0 rfl pC dC)) (hC.mono (eqh_at 0 rfl pC dC)) ?_ ?_
            first | exact ros_at 1 rfl pC dC | exact ros_at 2 rfl pC dC | exact ros_at 3 rfl pC dC | (simpa [bcell] using ros_at 1 rfl pC dC) | (simpa [bcell] using ros_at 2 rfl pC dC) | (simpa [bcell] using ros_at 3 rfl pC dC)
            first | exact ros_at 1 rfl pC dC | exact ros_at 2 rfl pC dC | exact ros_at 3 rfl pC dC | (simpa [bcell] using ros_at 1 rfl pC dC) | (simpa [bcell] using ros_at 2 rfl pC dC) | (simpa [bcell] using ros_at 3 rfl pC dC)
          · refine WL.bs (T := Ty) rfl rfl rfl rfl rfl rfl rfl rfl (by repeat' first | exact FL.nil | apply FL.cons) (fun _ _ => ?_)
            rename_i t10 h10
            refine WL.nilS ?_
            refine WD.oneL 8 rfl (by decide +kernel) ?_
            first | refine WL.ap (T := Ty) (i := 1) (n := 0) rfl rfl rfl rfl rfl rfl rfl rfl (.eqJ 0 rfl hT) hst (by simp) (by simp) (one_bcell _) (by show (_ + _) * 1 ≤ _; omega) (by unfold maxLen; omega) (fun v' => (by repeat' first | exact FL.nil | apply FL.cons)) (fun v8 h8 => ?_) | refine WL.ap (T := Ty) (i := 2) (n := 0) rfl rfl rfl rfl rfl rfl rfl rfl (.eqJ 0 rfl hT) hst (by simp) (by simp) (one_bcell _) (by show (_ + _) * 1 ≤ _; omega) (by unfold maxLen; omega) (fun v' => (by repeat' first | exact FL.nil | apply FL.cons)) (fun v8 h8 => ?_) | refine WL.ap (T := Ty) (i := 3) (n := 0) rfl rfl rfl rfl rfl rfl rfl rfl (.eqJ 0 rfl hT) hst (by simp) (by simp) (one_bcell _) (by show (_ + _) * 1 ≤ _; omega) (by unfold maxLen; omega) (fun v' => (by repeat' first | exact FL.nil | apply FL.cons)) (fun v8 h8 => ?_) | refine WL.ap (T := Ty) (i := 4) (n := 0) rfl rfl rfl rfl rfl rfl rfl rfl (.eqJ 0 rfl hT) hst (by simp) (by simp) (one_bcell _) (by show (_ + _) * 1 ≤ _; omega) (by unfold maxLen; omega) (fun v' => (by repeat' first | exact FL.nil | apply FL.cons)) (fun v8 h8 => ?_)
            refine WL.nilE ?_
            refine WD.oneL 11 rfl (by decide +kernel) ?_
            first | refine WL.ap (T := Ty) (i := 1) (n := (vputF 9 u).length) rfl rfl rfl rfl rfl rfl rfl rfl (by first | exact .own 1 rfl | exact .own 2 rfl | exact .own 3 rfl) h10 (by simp) (by simp) (by simp [Value.oneCell']) (by show (_ + _) * 1 ≤ _; omega) (by unfold maxLen; omega) (fun v' => (by repeat' first | exact FL.nil | apply FL.cons)) (fun v11 h11 => ?_) | refine WL.ap (T := Ty) (i := 2) (n := (vputF 9 u).length) rfl rfl rfl rfl rfl rfl rfl rfl (by first | exact .own 1 rfl | exact .own 2 rfl | exact .own 3 rfl) h10 (by simp) (by simp) (by simp [Value.oneCell']) (by show (_ + _) * 1 ≤ _; omega) (by unfold maxLen; omega) (fun v' => (by repeat' first | exact FL.nil | apply FL.cons)) (fun v11 h11 => ?_) | refine WL.ap (T := Ty) (i := 3) (n := (vputF 9 u).length) rfl rfl rfl rfl rfl rfl rfl rfl (by first | exact .own 1 rfl | exact .own 2 rfl | exact .own 3 rfl) h10 (by simp) (by simp) (by simp [Value.oneCell']) (by show (_ + _) * 1 ≤ _; omega) (by unfold maxLen; omega) (fun v' => (by repeat' first | exact FL.nil | apply FL.cons)) (fun v11 h11 => ?_) | refine WL.ap (T := Ty) (i := 4) (n := (vputF 9 u).length) rfl rfl rfl rfl rfl rfl rfl rfl (by first | exact .own 1 rfl | exact .own 2 rfl | exact .own 3 rfl) h10 (by simp) (by simp) (by simp [Value.oneCell']) (by show (_ + _) * 1 ≤ _; omega) (by unfold maxLen; omega) (fun v' => (by repeat' first | exact FL.nil | apply FL.cons)) (fun v11 h11 => ?_)
            refine WL.nilE ?_
            refine WD.oneL 14 rfl (by decide +kernel) ?_
            first | refine WL.ap (T := Ty) (i := 1) (n := 1) rfl rfl rfl rfl rfl rfl rfl rfl (.eqJ 0 rfl hT) hst (by simp) (by simp) (one_bcell _) (by show (_ + _) * 1 ≤ _; omega) (by unfold maxLen; omega) (fun v' => (by repeat' first | exact FL.nil | apply FL.cons)) (fun v14 h14 => ?_) | refine WL.ap (T := Ty) (i := 2) (n := 1) rfl rfl rfl rfl rfl rfl rfl rfl (.eqJ 0 rfl hT) hst (by simp) (by simp) (one_bcell _) (by show (_ + _) * 1 ≤ _; omega) (by unfold maxLen; omega) (fun v' => (by repeat' first | exact FL.nil | apply FL.cons)) (fun v14 h14 => ?_) | refine WL.ap (T := Ty) (i := 3) (n := 1) rfl rfl rfl rfl rfl rfl rfl rfl (.eqJ 0 rfl hT) hst (by simp) (by simp) (one_bcell _) (by show (_ + _) * 1 ≤ _; omega) (by unfold maxLen; omega) (fun v' => (by repeat' first | exact FL.nil | apply FL.cons)) (fun v14 h14 => ?_) | refine WL.ap (T := Ty) (i := 4) (n := 1) rfl rfl rfl rfl rfl rfl rfl rfl (.eqJ 0 rfl hT) hst (by simp) (by simp) (one_bcell _) (by show (_ + _) * 1 ≤ _; omega) (by unfold maxLen; omega) (fun v' => (by repeat' first | exact FL.nil | apply FL.cons)) (fun v14 h14 => ?_)
            refine WL.nilE ?_
            refine WD.oneL 15 rfl (by decide +kernel) ?_
            refine WL.bs1 (T := Ty) (out' := [v2, t, x, c, v11, v14]) rfl rfl rfl rfl rfl rfl rfl rfl (by simp [hs2.one, hst.one, hsx.one, hc.one, h11.one, h14.one]) (fun l hl => ?_)
            refine WL.nilS ?_
            refine WD.takeL 16 rfl (by decide +kernel) ?_
            refine WL.len (T := Ty) rfl rfl (by assumption) rfl ?_
            refine WL.nilT ?_
            refine WD.doneH (H0 := [eqh σ]) (sepl_one.2 rfl) (by decide +kernel) ?_
            refine W.sub ?_ (W.hs (fun h p => to_reads (rows := [(v2, bs), (t, vputF 9 u), (x, (vputF 9 u).set k by'), (c, (vputF 9 u).take k), (v11, vputF 9 u ++ [by']), (v14, 128 :: vputF 9 u)]) p ?_) (next ([(v2, bs), (t, vputF 9 u), (x, (vputF 9 u).set k by'), (c, (vputF 9 u).take k), (v11, vputF 9 u ++ [by']), (v14, 128 :: vputF 9 u)], l) ⟨rfl, hl, rows_ok hbytes⟩))
            exact ⟨rfl, rfl, rfl, rfl, rfl, rfl, trivial⟩
            intro C pC dC
            refine rows_six r2.wide (hT.mono (eqh_at 0 rfl pC dC)) (hX.mono (eqh_at 0 rfl pC dC)) (hC.mono (eqh_at 0 rfl pC dC)) ?_ ?_
            first | exact ros_at 1 rfl pC dC | exact ros_at 2 rfl pC dC | exact ros_at 3 rfl pC dC | (simpa [bcell] using ros_at 1 rfl pC dC) | (simpa [bcell] using ros_at 2 rfl pC dC) | (simpa [bcell] using ros_at 3 rfl pC dC)
            first | exact ros_at 1 rfl pC dC | exact ros_at 2 rfl pC dC | exact ros_at 3 rfl pC dC | (simpa [bcell] using ros_at 1 rfl pC dC) | (simpa [bcell] using ros_at 2 rfl pC dC) | (simpa [bcell] using ros_at 3 rfl pC dC)
        · refine WL.bs (T := Ty) rfl rfl rfl rfl rfl rfl rfl rfl (by repeat' first | exact FL.nil | apply FL.cons) (fun _ _ => ?_)
          rename_i t10 h10
          refine WL.nilS ?_
          refine WD.oneL 6 rfl (by decide +kernel) ?_
          refine WL.bs (T := Ty) rfl rfl rfl rfl rfl rfl rfl rfl (by repeat' first | exact FL.nil | apply FL.cons) (fun _ _ => ?_)
          rename_i t6 h6
          refine WL.nilS ?_
          refine WD.oneL 8 rfl (by decide +kernel) ?_
          first | refine WL.ap (T := Ty) (i := 1) (n := 0) rfl rfl rfl rfl rfl rfl rfl rfl (.eqJ 0 rfl hT) hst (by simp) (by simp) (one_bcell _) (by show (_ + _) * 1 ≤ _; omega) (by unfold maxLen; omega) (fun v' => (by repeat' first | exact FL.nil | apply FL.cons)) (fun v8 h8 => ?_) | refine WL.ap (T := Ty) (i := 2) (n := 0) rfl rfl rfl rfl rfl rfl rfl rfl (.eqJ 0 rfl hT) hst (by simp) (by simp) (one_bcell _) (by show (_ + _) * 1 ≤ _; omega) (by unfold maxLen; omega) (fun v' => (by repeat' first | exact FL.nil | apply FL.cons)) (fun v8 h8 => ?_) | refine WL.ap (T := Ty) (i := 3) (n := 0) rfl rfl rfl rfl rfl rfl rfl rfl (.eqJ 0 rfl hT) hst (by simp) (by simp) (one_bcell _) (by show (_ + _) * 1 ≤ _; omega) (by unfold maxLen; omega) (fun v' => (by repeat' first | exact FL.nil | apply FL.cons)) (fun v8 h8 => ?_) | refine WL.ap (T := Ty) (i := 4) (n := 0) rfl rfl rfl rfl rfl rfl rfl rfl (.eqJ 0 rfl hT) hst (by simp) (by simp) (one_bcell _) (by show (_ + _) * 1 ≤ _; omega) (by unfold maxLen; omega) (fun v' => (by repeat' first | exact FL.nil | apply FL.cons)) (fun v8 h8 => ?_)
          refine WL.nilE ?_
          refine WD.oneL 11 rfl (by decide +kernel) ?_
          first | refine WL.ap (T := Ty) (i := 1) (n := (vputF 9 u).length) rfl rfl rfl rfl rfl rfl rfl rfl (by first | exact .own 1 rfl | exact .own 2 rfl | exact .own 3 rfl) h10 (by simp) (by simp) (by simp [Value.oneCell']) (by show (_ + _) * 1 ≤ _; omega) (by unfold maxLen; omega) (fun v' => (by repeat' first | exact FL.nil | apply FL.cons)) (fun v11 h11 => ?_) | refine WL.ap (T := Ty) (i := 2) (n := (vputF 9 u).length) rfl rfl rfl rfl rfl rfl rfl rfl (by first | exact .own 1 rfl | exact .own 2 rfl | exact .own 3 rfl) h10 (by simp) (by simp) (by simp [Value.oneCell']) (by show (_ + _) * 1 ≤ _; omega) (by unfold maxLen; omega) (fun v' => (by repeat' first | exact FL.nil | apply FL.cons)) (fun v11 h11 => ?_) | refine WL.ap (T := Ty) (i := 3) (n := (vputF 9 u).length) rfl rfl rfl rfl rfl rfl rfl rfl (by first | exact .own 1 rfl | exact .own 2 rfl | exact .own 3 rfl) h10 (by simp) (by simp) (by simp [Value.oneCell']) (by show (_ + _) * 1 ≤ _; omega) (by unfold maxLen; omega) (fun v' => (by repeat' first | exact FL.nil | apply FL.cons)) (fun v11 h11 => ?_) | refine WL.ap (T := Ty) (i := 4) (n := (vputF 9 u).length) rfl rfl rfl rfl rfl rfl rfl rfl (by first | exact .own 1 rfl | exact .own 2 rfl | exact .own 3 rfl) h10 (by simp) (by simp) (by simp [Value.oneCell']) (by show (_ + _) * 1 ≤ _; omega) (by unfold maxLen; omega) (fun v' => (by repeat' first | exact FL.nil | apply FL.cons)) (fun v11 h11 => ?_)
          refine WL.nilE ?_
          refine WD.oneL 14 rfl (by decide +kernel) ?_
          first | refine WL.ap (T := Ty) (i := 1) (n := 1) rfl rfl rfl rfl rfl rfl rfl rfl (.eqJ 0 rfl hT) hst (by simp) (by simp) (one_bcell _) (by show (_ + _) * 1 ≤ _; omega) (by unfold maxLen; omega) (fun v' => (by repeat' first | exact FL.nil | apply FL.cons)) (fun v14 h14 => ?_) | refine WL.ap (T := Ty) (i := 2) (n := 1) rfl rfl rfl rfl rfl rfl rfl rfl (.eqJ 0 rfl hT) hst (by simp) (by simp) (one_bcell _) (by show (_ + _) * 1 ≤ _; omega) (by unfold maxLen; omega) (fun v' => (by repeat' first | exact FL.nil | apply FL.cons)) (fun v14 h14 => ?_) | refine WL.ap (T := Ty) (i := 3) (n := 1) rfl rfl rfl rfl rfl rfl rfl rfl (.eqJ 0 rfl hT) hst (by simp) (by simp) (one_bcell _) (by show (_ + _) * 1 ≤ _; omega) (by unfold maxLen; omega) (fun v' => (by repeat' first | exact FL.nil | apply FL.cons)) (fun v14 h14 => ?_) | refine WL.ap (T := Ty) (i := 4) (n := 1) rfl rfl rfl rfl rfl rfl rfl rfl (.eqJ 0 rfl hT) hst (by simp) (by simp) (one_bcell _) (by show (_ + _) * 1 ≤ _; omega) (by unfold maxLen; omega) (fun v' => (by repeat' first | exact FL.nil | apply FL.cons)) (fun v14 h14 => ?_)
          refine WL.nilE ?_
          refine WD.oneL 15 rfl (by decide +kernel) ?_
          refine WL.bs1 (T := Ty) (out' := [v2, t, x, c, v11, v14]) rfl rfl rfl rfl rfl rfl rfl rfl (by simp [hs2.one, hst.one, hsx.one, hc.one, h11.one, h14.one]) (fun l hl => ?_)
          refine WL.nilS ?_
          refine WD.takeL 16 rfl (by decide +kernel) ?_
          refine WL.len (T := Ty) rfl rfl (by assumption) rfl ?_
          refine WL.nilT ?_
          refine WD.doneH (H0 := [eqh σ]) (sepl_one.2 rfl) (by decide +kernel) ?_
          refine W.sub ?_ (W.hs (fun h p => to_reads (rows := [(v2, bs), (t, vputF 9 u), (x, (vputF 9 u).set k by'), (c, (vputF 9 u).take k), (v11, vputF 9 u ++ [by']), (v14, 128 :: vputF 9 u)]) p ?_) (next ([(v2, bs), (t, vputF 9 u), (x, (vputF 9 u).set k by'), (c, (vputF 9 u).take k), (v11, vputF 9 u ++ [by']), (v14, 128 :: vputF 9 u)], l) ⟨rfl, hl, rows_ok hbytes⟩))
          exact ⟨rfl, rfl, rfl, rfl, rfl, rfl, trivial⟩
          intro C pC dC
          refine rows_six r2.wide (hT.mono (eqh_at 0 rfl pC dC)) (hX.mono (eqh_at 0 rfl pC dC)) (hC.mono (eqh_at 0 rfl pC dC)) ?_ ?_
          first | exact ros_at 1 rfl pC dC | exact ros_at 2 rfl pC dC | exact ros_at 3 rfl pC dC | (simpa [bcell] using ros_at 1 rfl pC dC) | (simpa [bcell] using ros_at 2 rfl pC dC) | (simpa [bcell] using ros_at 3 rfl pC dC)
          first | exact ros_at 1 rfl pC dC | exact ros_at 2 rfl pC dC | exact ros_at 3 rfl pC dC | (simpa [bcell] using ros_at 1 rfl pC dC) | (simpa [bcell] using ros_at 2 rfl pC dC) | (simpa [bcell] using ros_at 3 rfl pC dC)
end Go.Proofs.Ytimioninoafkhaa
