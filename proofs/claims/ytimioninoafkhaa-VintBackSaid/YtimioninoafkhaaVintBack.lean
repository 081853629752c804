/- VintBack. -/
import Derived.Test.YtimioninoafkhaaVal
import Derived.Test.YtimioninoafkhaaNum
import Derived.Test.YtimioninoafkhaaTab
import Derived.Test.YtimioninoafkhaaVintAwake
import Derived.Test.YtimioninoafkhaaVintLaw
set_option linter.unusedSimpArgs false
set_option linter.unusedVariables false
set_option maxRecDepth 20000
set_option maxHeartbeats 4000000
namespace Go.Proofs.Ytimioninoafkhaa
open Go
attribute [local irreducible] W WL Fn Buf ROs SL eptr box Rd Src bndOK WD RB

theorem VintBack_fn (ρ : Hp) (a0 : Int) (w0 : (Lit.int .i64 a0).wf = true) (a1 : Int) (w1 : (Lit.int .i64 a1).wf = true) (a2 : Int) (w2 : (Lit.int .u64 a2).wf = true) (v3 : Value) (z3 : List Int) (r3 : ROs ρ 1 v3 (z3.map (Value.int .u8))) (m3 : ∀ n ∈ z3, (Lit.int .u8 n).wf = true) (y3 : z3.length * 1 ≤ 140737488351232) :
    Fn Try.prog 10 #[.int .i64 a0, .int .i64 a1, .int .u64 a2, v3] ρ [] (fun r _ => r = .bool true) := by
  obtain ⟨bs, hbs, hlen, hlt⟩ := bytes_of m3
  rw [hbs] at r3
  have hu := wf_u64 w2
  have hn := wf_i64 w0
  have hm := wf_i64 w1
  obtain ⟨u, rfl⟩ := Int.eq_ofNat_of_zero_le hu.1
  have hu64 : u < 18446744073709551616 := by omega
  refine in10 rfl rfl ?_
  have hs3 : SL v3 bs.length := r3.sl (by simp) (by omega)
  refine W.seq ?_
  refine W.region ?_
  refine WL.as rfl rfl ?_
  refine WL.nil ?_
  refine W.seq ?_
  refine W.region ?_
  refine WL.mv rfl rfl ?_
  refine WL.callF rfl rfl (fun x p d => vput_c _ _ [] u (ros_nil _ _) (by omega) (by decide)) (fun b => ?_)
  rw [List.nil_append]
  refine WL.fact (i := 0) rfl (fun h hb => hb.sl (n := (vputF 9 u).length) (by simp) (by omega)) fun hsb => ?_
  refine WL.as rfl rfl ?_
  refine WL.nil ?_
  refine W.seq ?_
  have hl9 := vput_len 9 u
  have hlt9 := vput_lt 9 u (by have e : (128 : Nat) ^ 9 = 9223372036854775808 := by decide +kernel
                               rw [e]; omega)
  refine W.draw 15 [Buf 1 b ((vputF 9 u).map bcell)] [] rfl (fun h p => p) (fun σ hσ dσ => ?_)
  have hb := ros_at (ρ := ρ) 0 rfl hσ dσ
  have r3' := r3.wide (x := σ)
  refine WD.takeL 1 rfl (by decide +kernel) ?_
  refine WL.mv rfl rfl ?_
  refine WL.nilT ?_
  refine WD.takeL 3 rfl (by decide +kernel) ?_
  refine WL.mv rfl rfl ?_
  refine WL.nilT ?_
  refine WD.takeL 4 rfl (by decide +kernel) ?_
  refine WL.mv rfl rfl ?_
  refine WL.nilT ?_
  refine WD.takeL 5 rfl (by decide +kernel) ?_
  refine WL.len (T := Ty) rfl rfl (by assumption) rfl ?_
  refine WL.nilT ?_
  refine WD.takeL 6 rfl (by decide +kernel) ?_
  refine WL.mn rfl rfl rfl ?_
  refine WL.nilT ?_
  refine WD.takeL 7 rfl (by decide +kernel) ?_
  refine WL.slR (T := Ty) (n := bs.length) (hi := (min (bs.length : Int) 50).toNat) rfl rfl .no (.at rfl (by omega)) rfl rfl rfl r3' (by simp) (Nat.zero_le _) (by omega) (fun v hv hro => ?_)
  obtain ⟨k, hk, hk50⟩ : ∃ k : Nat, (min (bs.length : Int) 50).toNat = k ∧ k ≤ 50 := ⟨_, rfl, by omega⟩
  rw [hk] at hv hro
  have hkl : k ≤ bs.length := by omega
  have hro' : ROs (join ρ σ) 1 v ((bs.take k).map bcell) := by simpa [List.map_take] using hro
  refine WL.nilT ?_
  refine WD.oneL 0 rfl (by decide +kernel) ?_
  refine WL.bs (T := Ty) rfl rfl rfl rfl rfl rfl rfl rfl (by repeat' first | exact FL.nil | apply FL.cons) (fun _ _ => ?_)
  rename_i t ht
  refine WL.nilS ?_
  skip
  refine WD.oneL 2 rfl (by decide +kernel) ?_
  skip
  refine WL.ap (T := Ty) (i := 1) (n := 0) rfl rfl rfl rfl rfl rfl rfl rfl (.eqJ 0 rfl hb) hsb rfl (by simp) (one_bcell _) (by show (0 + _) * 1 ≤ _; omega) (by unfold maxLen; omega) (fun v' => by repeat' first | exact FL.nil | apply FL.cons) (fun v1 hv1 => ?_)
  refine WL.nilE ?_
  refine WD.oneL 8 rfl (by decide +kernel) ?_
  skip
  refine WL.ap (T := Ty) (i := 1) (n := (vputF 9 u).length) (m := k - 0) rfl rfl rfl rfl rfl rfl rfl rfl (.eqJ 0 rfl hro') hv (by simp) (by simp; omega) (one_bcell _) (by show (_ + _) * 1 ≤ _; omega) (by unfold maxLen; omega) (fun v' => by repeat' first | exact FL.nil | apply FL.cons) (fun v2 hv2 => ?_)
  refine WL.nilE ?_
  refine WD.oneL 9 rfl (by decide +kernel) ?_
  skip
  have hg : vgetF 0 0 (vputF 9 u ++ bs.take k) = (u, (vputF 9 u).length) := by
    have := vget_put 9 0 u 0 (bs.take k) rfl (by omega) (by omega)
    simpa using this
  refine WL.callV (v := .tuple #[.int .u64 (u : Int), .int .i64 ((vputF 9 u).length : Int)]) rfl rfl (fun x p d => Fn.val (by rw [hg]; rfl) (vget_c _ _ (vputF 9 u ++ bs.take k) (by simpa using ros_at 1 rfl p d) (fun x hx => by
    rcases List.mem_append.1 hx with h | h
    · exact hlt9 x h
    · exact hlt x (List.mem_of_mem_take h)) (by simp; omega))) ?_
  refine WL.nilE ?_
  refine WD.takeL 10 rfl (by decide +kernel) ?_
  refine WL.mv rfl rfl ?_
  refine WL.nilT ?_
  refine WD.takeL 11 rfl (by decide +kernel) ?_
  refine WL.extL rfl rfl rfl ?_
  refine WL.nilT ?_
  refine WD.takeL 12 rfl (by decide +kernel) ?_
  refine WL.extL rfl rfl rfl ?_
  refine WL.nilT ?_
  refine WD.takeL 13 rfl (by decide +kernel) ?_
  refine WL.as rfl rfl ?_
  refine WL.nilT ?_
  refine WD.takeL 14 rfl (by decide +kernel) ?_
  refine WL.as rfl rfl ?_
  refine WL.nilT ?_
  refine WD.doneH hσ (by decide +kernel) ?_
  refine W.seq ?_
  refine W.seq ?_
  refine W.region ?_
  refine WL.mv rfl rfl ?_
  refine WL.mv rfl rfl ?_
  refine WL.neq rfl rfl rfl ?_
  refine WL.mv rfl rfl ?_
  refine WL.gF rfl rfl (by omega) ?_
  refine WL.mv rfl rfl ?_
  refine WL.gF rfl rfl (by omega) ?_
  refine WL.mv rfl rfl ?_
  refine WL.gF rfl rfl (by omega) ?_
  refine WL.len (T := Ty) rfl rfl (by assumption) rfl ?_
  refine WL.gF rfl rfl (by omega) ?_
  refine WL.neq rfl rfl rfl ?_
  refine WL.pickFp rfl rfl (by omega) rfl ?_
  refine WL.mv rfl rfl ?_
  refine WL.gF rfl rfl (by omega) ?_
  refine WL.mv rfl rfl ?_
  refine WL.gF rfl rfl (by omega) ?_
  refine WL.lss rfl rfl rfl ?_
  refine WL.pickFp rfl rfl (by omega) rfl ?_
  refine WL.mv rfl rfl ?_
  refine WL.gF rfl rfl (by omega) ?_
  refine WL.mv rfl rfl ?_
  refine WL.gF rfl rfl (by omega) ?_
  refine WL.gtr rfl rfl rfl ?_
  refine WL.pickFp rfl rfl (by omega) rfl ?_
  refine WL.mv rfl rfl ?_
  refine WL.gF rfl rfl (by omega) ?_
  refine WL.mv rfl rfl ?_
  refine WL.gF rfl rfl (by omega) ?_
  have zz := zag_zig a0
  have zz2 := zig_zag u
  refine WL.callV rfl rfl (fun x p d => zig_c _ a0 hn) ?_
  refine WL.gF rfl rfl (by omega) ?_
  refine WL.callV rfl rfl (fun x p d => zag_c _ (zigF a0) (zig_lt a0 hn)) ?_
  refine WL.gF rfl rfl (by omega) ?_
  refine WL.mv rfl rfl ?_
  refine WL.gF rfl rfl (by omega) ?_
  refine WL.neq rfl rfl rfl ?_
  refine WL.pickFp rfl rfl (by omega) rfl ?_
  refine WL.mv rfl rfl ?_
  refine WL.gF rfl rfl (by omega) ?_
  refine WL.mv rfl rfl ?_
  refine WL.gF rfl rfl (by omega) ?_
  refine WL.callV rfl rfl (fun x p d => zag_c _ u hu64) ?_
  refine WL.gF rfl rfl (by omega) ?_
  refine WL.callV rfl rfl (fun x p d => zig_c _ (zagF u) (zag_ok u hu64)) ?_
  refine WL.gF rfl rfl (by omega) ?_
  refine WL.mv rfl rfl ?_
  refine WL.gF rfl rfl (by omega) ?_
  refine WL.neq rfl rfl rfl ?_
  refine WL.pickFp rfl rfl (by omega) rfl ?_
  refine WL.nil ?_
  refine W.condpF rfl (by omega) ?_
  refine W.skip ?_
  refine W.seq ?_
  refine W.seq ?_
  refine W.region ?_
  refine WL.mv rfl rfl ?_
  refine WL.geq rfl rfl rfl ?_
  refine WL.mv rfl rfl ?_
  obtain ⟨x, j, hxj⟩ : ∃ x j, vgetF 0 0 bs = (x, j) := ⟨_, _, rfl⟩
  have hform : (j = 0 ∧ x = 0) ∨ (0 < j ∧ j ≤ bs.length ∧ x < 18446744073709551616 ∧ vputF 9 x = bs.take j) := by
    by_cases hj : j = 0
    · have := vget_zero bs 0 0 (by rw [hxj]; exact hj)
      rw [hxj] at this
      exact .inl ⟨hj, this⟩
    · obtain ⟨y, m, h1, h2, h3, h4, h5⟩ := vget_form bs 0 0 (by omega) hlt (by rw [hxj]; exact hj)
      have hb := vget_bound bs 0 0 (by omega) (by simp) hlt
      rw [hxj] at h1 hb
      simp at h1
      obtain ⟨rfl, rfl⟩ := h1
      exact .inr ⟨by omega, h3, hb, h4.symm⟩
  have hcase : (0 ≤ a0 ∧ a0 < a1) ∨ (0 ≤ a0 ∧ ¬ a0 < a1) ∨ (a0 < 0 ∧ a1 < a0) ∨ (a0 < 0 ∧ ¬ a1 < a0) := by omega
  rcases hcase with hc | hc | hc | hc
  · have hz := zig_up a0 a1 hc.1 hc.2
    refine WL.gT rfl rfl (by omega) ?_
    refine WL.mv rfl rfl ?_
    refine WL.gT rfl rfl (by omega) ?_
    refine WL.mv rfl rfl ?_
    refine WL.gT rfl rfl (by omega) ?_
    refine WL.gtr rfl rfl rfl ?_
    refine WL.pickTp rfl rfl (by omega) rfl ?_
    refine WL.mv rfl rfl ?_
    refine WL.gT rfl rfl (by omega) ?_
    refine WL.mv rfl rfl ?_
    refine WL.gT rfl rfl (by omega) ?_
    refine WL.callV rfl rfl (fun x p d => zig_c _ a1 hm) ?_
    refine WL.gT rfl rfl (by omega) ?_
    refine WL.mv rfl rfl ?_
    refine WL.gT rfl rfl (by omega) ?_
    refine WL.callV rfl rfl (fun x p d => zig_c _ a0 hn) ?_
    refine WL.gT rfl rfl (by omega) ?_
    refine WL.leq rfl rfl rfl ?_
    refine WL.pickTp rfl rfl (by omega) rfl ?_
    refine WL.mv rfl rfl ?_
    refine WL.gF rfl rfl (by omega) ?_
    refine WL.mv rfl rfl ?_
    refine WL.gF rfl rfl (by omega) ?_
    refine WL.lss rfl rfl rfl ?_
    refine WL.gF rfl rfl (by omega) ?_
    refine WL.mv rfl rfl ?_
    refine WL.gdTn rfl rfl rfl rfl rfl (by omega) ?_
    refine WL.gdTn rfl rfl rfl rfl rfl (by omega) ?_
    refine WL.gdTn rfl rfl rfl rfl rfl (by omega) ?_
    refine WL.gF rfl rfl (by omega) ?_
    refine WL.pickFp rfl rfl (by omega) rfl ?_
    refine WL.gF rfl rfl (by omega) ?_
    refine WL.mv rfl rfl ?_
    refine WL.gdN rfl rfl rfl rfl rfl rfl ?_
    refine WL.gdN rfl rfl rfl rfl rfl rfl ?_
    refine WL.gdN rfl rfl rfl rfl rfl rfl ?_
    refine WL.gdN rfl rfl rfl rfl rfl rfl ?_
    refine WL.gdN rfl rfl rfl rfl rfl rfl ?_
    refine WL.gF rfl rfl (by omega) ?_
    refine WL.pickF rfl rfl rfl ?_
    refine WL.pickFp rfl rfl (by omega) rfl ?_
    refine WL.nil ?_
    refine W.condF rfl ?_
    refine W.skip ?_
    refine W.seq ?_
    refine W.region ?_
    refine WL.mv rfl rfl ?_
    refine WL.callV (v := .tuple #[.int .u64 (x : Int), .int .i64 (j : Int)]) rfl rfl (fun y p d => Fn.val (by rw [hxj]; rfl) (vget_c _ _ bs r3.wide hlt (by omega))) ?_
    refine WL.mv rfl rfl ?_
    refine WL.extL rfl rfl rfl ?_
    refine WL.extL rfl rfl rfl ?_
    refine WL.as rfl rfl ?_
    refine WL.as rfl rfl ?_
    refine WL.nil ?_
    refine W.seq ?_
    refine W.drop 0 rfl (by repeat' first | exact FL.nil | apply FL.cons) ?_
    refine W.drop 0 rfl (by repeat' first | exact FL.nil | apply FL.cons) ?_
    refine W.draw 30 [] [] rfl (fun h p => p) (fun σ2 hσ2 dσ2 => ?_)
    have r4 := r3.wide (x := σ2)
    rcases hform with ⟨hj0, hx0⟩ | ⟨hj0, hjl, hx64, hjx⟩
    · refine WD.takeL 0 rfl (by decide +kernel) ?_
      refine WL.mv rfl rfl ?_
      refine WL.nilT ?_
      refine WD.takeL 1 rfl (by decide +kernel) ?_
      refine WL.eql rfl rfl rfl ?_
      refine WL.nilT ?_
      refine WD.takeL 2 rfl (by decide +kernel) ?_
      refine WL.mv rfl rfl ?_
      refine WL.nilT ?_
      refine WD.takeL 3 rfl (by decide +kernel) ?_
      refine WL.gT rfl rfl (by omega) ?_
      refine WL.mv rfl rfl ?_
      refine WL.nilT ?_
      refine WD.takeL 4 rfl (by decide +kernel) ?_
      refine WL.gT rfl rfl (by omega) ?_
      refine WL.eql rfl rfl rfl ?_
      refine WL.nilT ?_
      refine WD.takeL 5 rfl (by decide +kernel) ?_
      refine WL.pickTp rfl rfl (by omega) rfl ?_
      refine WL.nilT ?_
      refine WD.takeL 6 rfl (by decide +kernel) ?_
      refine WL.mv rfl rfl ?_
      refine WL.nilT ?_
      refine WD.takeL 7 rfl (by decide +kernel) ?_
      refine WL.gdFn rfl rfl rfl rfl rfl (by omega) ?_
      refine WL.nilT ?_
      refine WD.takeL 8 rfl (by decide +kernel) ?_
      refine WL.gdFn rfl rfl rfl rfl rfl (by omega) ?_
      refine WL.nilT ?_
      refine WD.takeL 9 rfl (by decide +kernel) ?_
      refine WL.gdFn rfl rfl rfl rfl rfl (by omega) ?_
      refine WL.nilT ?_
      refine WD.takeL 10 rfl (by decide +kernel) ?_
      refine WL.gdU rfl rfl rfl rfl rfl ?_
      refine WL.nilT ?_
      refine WD.takeL 11 rfl (by decide +kernel) ?_
      refine WL.gdU rfl rfl rfl rfl rfl ?_
      refine WL.nilT ?_
      refine WD.takeL 12 rfl (by decide +kernel) ?_
      refine WL.gdU rfl rfl rfl rfl rfl ?_
      refine WL.nilT ?_
      refine WD.takeL 13 rfl (by decide +kernel) ?_
      refine WL.gdU rfl rfl rfl rfl rfl ?_
      refine WL.nilT ?_
      refine WD.takeL 14 rfl (by decide +kernel) ?_
      refine WL.gdFn rfl rfl rfl rfl rfl (by omega) ?_
      refine WL.nilT ?_
      refine WD.takeL 15 rfl (by decide +kernel) ?_
      refine WL.gdFn rfl rfl rfl rfl rfl (by omega) ?_
      refine WL.nilT ?_
      refine WD.takeL 16 rfl (by decide +kernel) ?_
      refine WL.gdU rfl rfl rfl rfl rfl ?_
      refine WL.nilT ?_
      refine WD.takeL 19 rfl (by decide +kernel) ?_
      refine WL.gdU rfl rfl rfl rfl rfl ?_
      refine WL.nilT ?_
      refine WD.takeL 20 rfl (by decide +kernel) ?_
      refine WL.gdU rfl rfl rfl rfl rfl ?_
      refine WL.nilT ?_
      refine WD.takeL 21 rfl (by decide +kernel) ?_
      refine WL.gdU rfl rfl rfl rfl rfl ?_
      refine WL.nilT ?_
      refine WD.takeL 22 rfl (by decide +kernel) ?_
      refine WL.gdU rfl rfl rfl rfl rfl ?_
      refine WL.nilT ?_
      refine WD.takeL 17 rfl (by decide +kernel) ?_
      refine WL.gdU rfl rfl rfl rfl rfl ?_
      refine WL.nilT ?_
      refine WD.takeL 18 rfl (by decide +kernel) ?_
      refine WL.gdU rfl rfl rfl rfl rfl ?_
      refine WL.nilT ?_
      refine WD.takeL 23 rfl (by decide +kernel) ?_
      refine WL.gdU rfl rfl rfl rfl rfl ?_
      refine WL.nilT ?_
      refine WD.takeL 24 rfl (by decide +kernel) ?_
      refine WL.gdFn rfl rfl rfl rfl rfl (by omega) ?_
      refine WL.nilT ?_
      refine WD.takeL 25 rfl (by decide +kernel) ?_
      refine WL.pickTp rfl rfl (by omega) rfl ?_
      refine WL.nilT ?_
      refine WD.takeL 26 rfl (by decide +kernel) ?_
      refine WL.mv rfl rfl ?_
      refine WL.nilT ?_
      refine WD.oneL 27 rfl (by decide +kernel) ?_
      refine WL.gY rfl rfl ?_
      refine WL.callT rfl rfl (fun x p d => awake2_c _) ?_
      refine WL.nilE ?_
      refine WD.takeL 28 rfl (by decide +kernel) ?_
      refine WL.pickT rfl rfl rfl ?_
      refine WL.nilT ?_
      refine WD.takeL 29 rfl (by decide +kernel) ?_
      refine WL.as rfl rfl ?_
      refine WL.nilT ?_
      refine WD.doneH hσ2 (by decide +kernel) ?_
      exact W.ret1 rfl rfl (fun h p => rfl)
    · have hjs : strN ([] ++ vputF 9 x) = strN (bs.take j) := by rw [hjx]; rfl
      refine WD.takeL 0 rfl (by decide +kernel) ?_
      refine WL.mv rfl rfl ?_
      refine WL.nilT ?_
      refine WD.takeL 1 rfl (by decide +kernel) ?_
      refine WL.eql rfl rfl rfl ?_
      refine WL.nilT ?_
      refine WD.takeL 2 rfl (by decide +kernel) ?_
      refine WL.mv rfl rfl ?_
      refine WL.nilT ?_
      refine WD.takeL 3 rfl (by decide +kernel) ?_
      refine WL.gdTn rfl rfl rfl rfl rfl (by omega) ?_
      refine WL.nilT ?_
      refine WD.takeL 4 rfl (by decide +kernel) ?_
      refine WL.gdTn rfl rfl rfl rfl rfl (by omega) ?_
      refine WL.nilT ?_
      refine WD.takeL 5 rfl (by decide +kernel) ?_
      refine WL.pickFp rfl rfl (by omega) rfl ?_
      refine WL.nilT ?_
      refine WD.takeL 6 rfl (by decide +kernel) ?_
      refine WL.mv rfl rfl ?_
      refine WL.nilT ?_
      refine WD.takeL 7 rfl (by decide +kernel) ?_
      refine WL.gY rfl rfl ?_
      refine WL.mv rfl rfl ?_
      refine WL.nilT ?_
      refine WD.takeL 8 rfl (by decide +kernel) ?_
      refine WL.gY rfl rfl ?_
      refine WL.gtr rfl rfl rfl ?_
      refine WL.nilT ?_
      refine WD.takeL 9 rfl (by decide +kernel) ?_
      refine WL.gY rfl rfl ?_
      refine WL.mv rfl rfl ?_
      refine WL.nilT ?_
      refine WD.takeL 10 rfl (by decide +kernel) ?_
      refine WL.gT rfl rfl (by omega) ?_
      refine WL.mv rfl rfl ?_
      refine WL.nilT ?_
      refine WD.takeL 11 rfl (by decide +kernel) ?_
      refine WL.gT rfl rfl (by omega) ?_
      refine WL.mv rfl rfl ?_
      refine WL.nilT ?_
      refine WD.takeL 12 rfl (by decide +kernel) ?_
      refine WL.gT rfl rfl (by omega) ?_
      refine WL.len (T := Ty) rfl rfl (by assumption) rfl ?_
      refine WL.nilT ?_
      refine WD.takeL 13 rfl (by decide +kernel) ?_
      refine WL.gT rfl rfl (by omega) ?_
      refine WL.leq rfl rfl rfl ?_
      refine WL.nilT ?_
      refine WD.takeL 14 rfl (by decide +kernel) ?_
      refine WL.gY rfl rfl ?_
      refine WL.pickTp rfl rfl (by omega) rfl ?_
      refine WL.nilT ?_
      refine WD.takeL 15 rfl (by decide +kernel) ?_
      refine WL.gY rfl rfl ?_
      refine WL.mv rfl rfl ?_
      refine WL.nilT ?_
      refine WD.takeL 16 rfl (by decide +kernel) ?_
      refine WL.gT rfl rfl (by omega) ?_
      refine WL.mv rfl rfl ?_
      refine WL.nilT ?_
      refine WD.takeL 19 rfl (by decide +kernel) ?_
      refine WL.gT rfl rfl (by omega) ?_
      refine WL.mv rfl rfl ?_
      refine WL.nilT ?_
      refine WD.takeL 20 rfl (by decide +kernel) ?_
      refine WL.gT rfl rfl (by omega) ?_
      refine WL.mv rfl rfl ?_
      refine WL.nilT ?_
      refine WD.takeL 21 rfl (by decide +kernel) ?_
      refine WL.gT rfl rfl (by omega) ?_
      refine WL.slR (T := Ty) (n := bs.length) (hi := j) rfl rfl .no (.atN rfl) rfl rfl rfl r4 (by simp) (Nat.zero_le _) hjl (fun vj hvj hroj => ?_)
      have hroj' : ROs (join ρ σ2) 1 vj ((bs.take j).map bcell) := by simpa [List.map_take] using hroj
      refine WL.nilT ?_
      refine WD.takeL 22 rfl (by decide +kernel) ?_
      refine WL.gT rfl rfl (by omega) ?_
      refine WL.b2sRN (T := Ty) rfl rfl rfl rfl rfl rfl rfl (by assumption) ?_
      refine WL.nilT ?_
      refine WD.oneL 17 rfl (by decide +kernel) ?_
      refine WL.gT rfl rfl (by omega) ?_
      refine WL.callF rfl rfl (fun y p d => vput_c _ _ [] x (ros_nil _ _) (by omega) (by decide)) (fun r => ?_)
      refine WL.nilG (fun σ' hσ' dσ' hle => ?_)
      have hr := ros_at (ρ := ρ) 1 rfl hσ' dσ'
      have hroj2 := hroj'.mono hle
      refine WD.takeL 18 rfl (by decide +kernel) ?_
      refine WL.gT rfl rfl (by omega) ?_
      refine WL.b2sRN (T := Ty) rfl rfl rfl rfl rfl rfl rfl (by assumption) ?_
      refine WL.nilT ?_
      refine WD.takeL 23 rfl (by decide +kernel) ?_
      refine WL.gT rfl rfl (by omega) ?_
      refine WL.eqST rfl rfl rfl (by first | with_reducible rfl | assumption) ?_
      refine WL.nilT ?_
      refine WD.takeL 24 rfl (by decide +kernel) ?_
      refine WL.gY rfl rfl ?_
      refine WL.pickTp rfl rfl (by omega) rfl ?_
      refine WL.nilT ?_
      refine WD.takeL 25 rfl (by decide +kernel) ?_
      refine WL.pickF rfl rfl rfl ?_
      refine WL.nilT ?_
      refine WD.takeL 26 rfl (by decide +kernel) ?_
      refine WL.mv rfl rfl ?_
      refine WL.nilT ?_
      refine WD.oneL 27 rfl (by decide +kernel) ?_
      refine WL.gY rfl rfl ?_
      refine WL.callT rfl rfl (fun x p d => awake2_c _) ?_
      refine WL.nilE ?_
      refine WD.takeL 28 rfl (by decide +kernel) ?_
      refine WL.pickT rfl rfl rfl ?_
      refine WL.nilT ?_
      refine WD.takeL 29 rfl (by decide +kernel) ?_
      refine WL.as rfl rfl ?_
      refine WL.nilT ?_
      refine WD.doneH hσ' (by decide +kernel) ?_
      exact W.ret1 rfl rfl (fun h p => rfl)
  · skip
    refine WL.gT rfl rfl (by omega) ?_
    refine WL.mv rfl rfl ?_
    refine WL.gT rfl rfl (by omega) ?_
    refine WL.mv rfl rfl ?_
    refine WL.gT rfl rfl (by omega) ?_
    refine WL.gtr rfl rfl rfl ?_
    refine WL.pickTp rfl rfl (by omega) rfl ?_
    refine WL.mv rfl rfl ?_
    refine WL.gdTn rfl rfl rfl rfl rfl (by omega) ?_
    refine WL.gdTn rfl rfl rfl rfl rfl (by omega) ?_
    refine WL.gdTn rfl rfl rfl rfl rfl (by omega) ?_
    refine WL.gdTn rfl rfl rfl rfl rfl (by omega) ?_
    refine WL.gdTn rfl rfl rfl rfl rfl (by omega) ?_
    refine WL.pickFp rfl rfl (by omega) rfl ?_
    refine WL.mv rfl rfl ?_
    refine WL.gY rfl rfl ?_
    refine WL.mv rfl rfl ?_
    refine WL.gY rfl rfl ?_
    refine WL.lss rfl rfl rfl ?_
    refine WL.gY rfl rfl ?_
    refine WL.mv rfl rfl ?_
    refine WL.gdTn rfl rfl rfl rfl rfl (by omega) ?_
    refine WL.gdTn rfl rfl rfl rfl rfl (by omega) ?_
    refine WL.gdTn rfl rfl rfl rfl rfl (by omega) ?_
    refine WL.gY rfl rfl ?_
    refine WL.pickFp rfl rfl (by omega) rfl ?_
    refine WL.gY rfl rfl ?_
    refine WL.mv rfl rfl ?_
    refine WL.gdN rfl rfl rfl rfl rfl rfl ?_
    refine WL.gdN rfl rfl rfl rfl rfl rfl ?_
    refine WL.gdN rfl rfl rfl rfl rfl rfl ?_
    refine WL.gdN rfl rfl rfl rfl rfl rfl ?_
    refine WL.gdN rfl rfl rfl rfl rfl rfl ?_
    refine WL.gY rfl rfl ?_
    refine WL.pickF rfl rfl rfl ?_
    refine WL.pickF rfl rfl rfl ?_
    refine WL.nil ?_
    refine W.condF rfl ?_
    refine W.skip ?_
    refine W.seq ?_
    refine W.region ?_
    refine WL.mv rfl rfl ?_
    refine WL.callV (v := .tuple #[.int .u64 (x : Int), .int .i64 (j : Int)]) rfl rfl (fun y p d => Fn.val (by rw [hxj]; rfl) (vget_c _ _ bs r3.wide hlt (by omega))) ?_
    refine WL.mv rfl rfl ?_
    refine WL.extL rfl rfl rfl ?_
    refine WL.extL rfl rfl rfl ?_
    refine WL.as rfl rfl ?_
    refine WL.as rfl rfl ?_
    refine WL.nil ?_
    refine W.seq ?_
    refine W.drop 0 rfl (by repeat' first | exact FL.nil | apply FL.cons) ?_
    refine W.drop 0 rfl (by repeat' first | exact FL.nil | apply FL.cons) ?_
    refine W.draw 30 [] [] rfl (fun h p => p) (fun σ2 hσ2 dσ2 => ?_)
    have r4 := r3.wide (x := σ2)
    rcases hform with ⟨hj0, hx0⟩ | ⟨hj0, hjl, hx64, hjx⟩
    · refine WD.takeL 0 rfl (by decide +kernel) ?_
      refine WL.mv rfl rfl ?_
      refine WL.nilT ?_
      refine WD.takeL 1 rfl (by decide +kernel) ?_
      refine WL.eql rfl rfl rfl ?_
      refine WL.nilT ?_
      refine WD.takeL 2 rfl (by decide +kernel) ?_
      refine WL.mv rfl rfl ?_
      refine WL.nilT ?_
      refine WD.takeL 3 rfl (by decide +kernel) ?_
      refine WL.gT rfl rfl (by omega) ?_
      refine WL.mv rfl rfl ?_
      refine WL.nilT ?_
      refine WD.takeL 4 rfl (by decide +kernel) ?_
      refine WL.gT rfl rfl (by omega) ?_
      refine WL.eql rfl rfl rfl ?_
      refine WL.nilT ?_
      refine WD.takeL 5 rfl (by decide +kernel) ?_
      refine WL.pickTp rfl rfl (by omega) rfl ?_
      refine WL.nilT ?_
      refine WD.takeL 6 rfl (by decide +kernel) ?_
      refine WL.mv rfl rfl ?_
      refine WL.nilT ?_
      refine WD.takeL 7 rfl (by decide +kernel) ?_
      refine WL.gdFn rfl rfl rfl rfl rfl (by omega) ?_
      refine WL.nilT ?_
      refine WD.takeL 8 rfl (by decide +kernel) ?_
      refine WL.gdFn rfl rfl rfl rfl rfl (by omega) ?_
      refine WL.nilT ?_
      refine WD.takeL 9 rfl (by decide +kernel) ?_
      refine WL.gdFn rfl rfl rfl rfl rfl (by omega) ?_
      refine WL.nilT ?_
      refine WD.takeL 10 rfl (by decide +kernel) ?_
      refine WL.gdU rfl rfl rfl rfl rfl ?_
      refine WL.nilT ?_
      refine WD.takeL 11 rfl (by decide +kernel) ?_
      refine WL.gdU rfl rfl rfl rfl rfl ?_
      refine WL.nilT ?_
      refine WD.takeL 12 rfl (by decide +kernel) ?_
      refine WL.gdU rfl rfl rfl rfl rfl ?_
      refine WL.nilT ?_
      refine WD.takeL 13 rfl (by decide +kernel) ?_
      refine WL.gdU rfl rfl rfl rfl rfl ?_
      refine WL.nilT ?_
      refine WD.takeL 14 rfl (by decide +kernel) ?_
      refine WL.gdFn rfl rfl rfl rfl rfl (by omega) ?_
      refine WL.nilT ?_
      refine WD.takeL 15 rfl (by decide +kernel) ?_
      refine WL.gdFn rfl rfl rfl rfl rfl (by omega) ?_
      refine WL.nilT ?_
      refine WD.takeL 16 rfl (by decide +kernel) ?_
      refine WL.gdU rfl rfl rfl rfl rfl ?_
      refine WL.nilT ?_
      refine WD.takeL 19 rfl (by decide +kernel) ?_
      refine WL.gdU rfl rfl rfl rfl rfl ?_
      refine WL.nilT ?_
      refine WD.takeL 20 rfl (by decide +kernel) ?_
      refine WL.gdU rfl rfl rfl rfl rfl ?_
      refine WL.nilT ?_
      refine WD.takeL 21 rfl (by decide +kernel) ?_
      refine WL.gdU rfl rfl rfl rfl rfl ?_
      refine WL.nilT ?_
      refine WD.takeL 22 rfl (by decide +kernel) ?_
      refine WL.gdU rfl rfl rfl rfl rfl ?_
      refine WL.nilT ?_
      refine WD.takeL 17 rfl (by decide +kernel) ?_
      refine WL.gdU rfl rfl rfl rfl rfl ?_
      refine WL.nilT ?_
      refine WD.takeL 18 rfl (by decide +kernel) ?_
      refine WL.gdU rfl rfl rfl rfl rfl ?_
      refine WL.nilT ?_
      refine WD.takeL 23 rfl (by decide +kernel) ?_
      refine WL.gdU rfl rfl rfl rfl rfl ?_
      refine WL.nilT ?_
      refine WD.takeL 24 rfl (by decide +kernel) ?_
      refine WL.gdFn rfl rfl rfl rfl rfl (by omega) ?_
      refine WL.nilT ?_
      refine WD.takeL 25 rfl (by decide +kernel) ?_
      refine WL.pickTp rfl rfl (by omega) rfl ?_
      refine WL.nilT ?_
      refine WD.takeL 26 rfl (by decide +kernel) ?_
      refine WL.mv rfl rfl ?_
      refine WL.nilT ?_
      refine WD.oneL 27 rfl (by decide +kernel) ?_
      refine WL.gY rfl rfl ?_
      refine WL.callT rfl rfl (fun x p d => awake2_c _) ?_
      refine WL.nilE ?_
      refine WD.takeL 28 rfl (by decide +kernel) ?_
      refine WL.pickT rfl rfl rfl ?_
      refine WL.nilT ?_
      refine WD.takeL 29 rfl (by decide +kernel) ?_
      refine WL.as rfl rfl ?_
      refine WL.nilT ?_
      refine WD.doneH hσ2 (by decide +kernel) ?_
      exact W.ret1 rfl rfl (fun h p => rfl)
    · have hjs : strN ([] ++ vputF 9 x) = strN (bs.take j) := by rw [hjx]; rfl
      refine WD.takeL 0 rfl (by decide +kernel) ?_
      refine WL.mv rfl rfl ?_
      refine WL.nilT ?_
      refine WD.takeL 1 rfl (by decide +kernel) ?_
      refine WL.eql rfl rfl rfl ?_
      refine WL.nilT ?_
      refine WD.takeL 2 rfl (by decide +kernel) ?_
      refine WL.mv rfl rfl ?_
      refine WL.nilT ?_
      refine WD.takeL 3 rfl (by decide +kernel) ?_
      refine WL.gdTn rfl rfl rfl rfl rfl (by omega) ?_
      refine WL.nilT ?_
      refine WD.takeL 4 rfl (by decide +kernel) ?_
      refine WL.gdTn rfl rfl rfl rfl rfl (by omega) ?_
      refine WL.nilT ?_
      refine WD.takeL 5 rfl (by decide +kernel) ?_
      refine WL.pickFp rfl rfl (by omega) rfl ?_
      refine WL.nilT ?_
      refine WD.takeL 6 rfl (by decide +kernel) ?_
      refine WL.mv rfl rfl ?_
      refine WL.nilT ?_
      refine WD.takeL 7 rfl (by decide +kernel) ?_
      refine WL.gY rfl rfl ?_
      refine WL.mv rfl rfl ?_
      refine WL.nilT ?_
      refine WD.takeL 8 rfl (by decide +kernel) ?_
      refine WL.gY rfl rfl ?_
      refine WL.gtr rfl rfl rfl ?_
      refine WL.nilT ?_
      refine WD.takeL 9 rfl (by decide +kernel) ?_
      refine WL.gY rfl rfl ?_
      refine WL.mv rfl rfl ?_
      refine WL.nilT ?_
      refine WD.takeL 10 rfl (by decide +kernel) ?_
      refine WL.gT rfl rfl (by omega) ?_
      refine WL.mv rfl rfl ?_
      refine WL.nilT ?_
      refine WD.takeL 11 rfl (by decide +kernel) ?_
      refine WL.gT rfl rfl (by omega) ?_
      refine WL.mv rfl rfl ?_
      refine WL.nilT ?_
      refine WD.takeL 12 rfl (by decide +kernel) ?_
      refine WL.gT rfl rfl (by omega) ?_
      refine WL.len (T := Ty) rfl rfl (by assumption) rfl ?_
      refine WL.nilT ?_
      refine WD.takeL 13 rfl (by decide +kernel) ?_
      refine WL.gT rfl rfl (by omega) ?_
      refine WL.leq rfl rfl rfl ?_
      refine WL.nilT ?_
      refine WD.takeL 14 rfl (by decide +kernel) ?_
      refine WL.gY rfl rfl ?_
      refine WL.pickTp rfl rfl (by omega) rfl ?_
      refine WL.nilT ?_
      refine WD.takeL 15 rfl (by decide +kernel) ?_
      refine WL.gY rfl rfl ?_
      refine WL.mv rfl rfl ?_
      refine WL.nilT ?_
      refine WD.takeL 16 rfl (by decide +kernel) ?_
      refine WL.gT rfl rfl (by omega) ?_
      refine WL.mv rfl rfl ?_
      refine WL.nilT ?_
      refine WD.takeL 19 rfl (by decide +kernel) ?_
      refine WL.gT rfl rfl (by omega) ?_
      refine WL.mv rfl rfl ?_
      refine WL.nilT ?_
      refine WD.takeL 20 rfl (by decide +kernel) ?_
      refine WL.gT rfl rfl (by omega) ?_
      refine WL.mv rfl rfl ?_
      refine WL.nilT ?_
      refine WD.takeL 21 rfl (by decide +kernel) ?_
      refine WL.gT rfl rfl (by omega) ?_
      refine WL.slR (T := Ty) (n := bs.length) (hi := j) rfl rfl .no (.atN rfl) rfl rfl rfl r4 (by simp) (Nat.zero_le _) hjl (fun vj hvj hroj => ?_)
      have hroj' : ROs (join ρ σ2) 1 vj ((bs.take j).map bcell) := by simpa [List.map_take] using hroj
      refine WL.nilT ?_
      refine WD.takeL 22 rfl (by decide +kernel) ?_
      refine WL.gT rfl rfl (by omega) ?_
      refine WL.b2sRN (T := Ty) rfl rfl rfl rfl rfl rfl rfl (by assumption) ?_
      refine WL.nilT ?_
      refine WD.oneL 17 rfl (by decide +kernel) ?_
      refine WL.gT rfl rfl (by omega) ?_
      refine WL.callF rfl rfl (fun y p d => vput_c _ _ [] x (ros_nil _ _) (by omega) (by decide)) (fun r => ?_)
      refine WL.nilG (fun σ' hσ' dσ' hle => ?_)
      have hr := ros_at (ρ := ρ) 1 rfl hσ' dσ'
      have hroj2 := hroj'.mono hle
      refine WD.takeL 18 rfl (by decide +kernel) ?_
      refine WL.gT rfl rfl (by omega) ?_
      refine WL.b2sRN (T := Ty) rfl rfl rfl rfl rfl rfl rfl (by assumption) ?_
      refine WL.nilT ?_
      refine WD.takeL 23 rfl (by decide +kernel) ?_
      refine WL.gT rfl rfl (by omega) ?_
      refine WL.eqST rfl rfl rfl (by first | with_reducible rfl | assumption) ?_
      refine WL.nilT ?_
      refine WD.takeL 24 rfl (by decide +kernel) ?_
      refine WL.gY rfl rfl ?_
      refine WL.pickTp rfl rfl (by omega) rfl ?_
      refine WL.nilT ?_
      refine WD.takeL 25 rfl (by decide +kernel) ?_
      refine WL.pickF rfl rfl rfl ?_
      refine WL.nilT ?_
      refine WD.takeL 26 rfl (by decide +kernel) ?_
      refine WL.mv rfl rfl ?_
      refine WL.nilT ?_
      refine WD.oneL 27 rfl (by decide +kernel) ?_
      refine WL.gY rfl rfl ?_
      refine WL.callT rfl rfl (fun x p d => awake2_c _) ?_
      refine WL.nilE ?_
      refine WD.takeL 28 rfl (by decide +kernel) ?_
      refine WL.pickT rfl rfl rfl ?_
      refine WL.nilT ?_
      refine WD.takeL 29 rfl (by decide +kernel) ?_
      refine WL.as rfl rfl ?_
      refine WL.nilT ?_
      refine WD.doneH hσ' (by decide +kernel) ?_
      exact W.ret1 rfl rfl (fun h p => rfl)
  · have hz := zig_down a0 a1 hc.1 hc.2
    refine WL.gdTn rfl rfl rfl rfl rfl (by omega) ?_
    refine WL.gdTn rfl rfl rfl rfl rfl (by omega) ?_
    refine WL.gdTn rfl rfl rfl rfl rfl (by omega) ?_
    refine WL.pickFp rfl rfl (by omega) rfl ?_
    refine WL.mv rfl rfl ?_
    refine WL.gdN rfl rfl rfl rfl rfl rfl ?_
    refine WL.gdN rfl rfl rfl rfl rfl rfl ?_
    refine WL.gdN rfl rfl rfl rfl rfl rfl ?_
    refine WL.gdN rfl rfl rfl rfl rfl rfl ?_
    refine WL.gdN rfl rfl rfl rfl rfl rfl ?_
    refine WL.pickF rfl rfl rfl ?_
    refine WL.mv rfl rfl ?_
    refine WL.gY rfl rfl ?_
    refine WL.mv rfl rfl ?_
    refine WL.gY rfl rfl ?_
    refine WL.lss rfl rfl rfl ?_
    refine WL.gY rfl rfl ?_
    refine WL.mv rfl rfl ?_
    refine WL.gT rfl rfl (by omega) ?_
    refine WL.mv rfl rfl ?_
    refine WL.gT rfl rfl (by omega) ?_
    refine WL.mv rfl rfl ?_
    refine WL.gT rfl rfl (by omega) ?_
    refine WL.lss rfl rfl rfl ?_
    refine WL.gY rfl rfl ?_
    refine WL.pickTp rfl rfl (by omega) rfl ?_
    refine WL.gY rfl rfl ?_
    refine WL.mv rfl rfl ?_
    refine WL.gT rfl rfl (by omega) ?_
    refine WL.mv rfl rfl ?_
    refine WL.gT rfl rfl (by omega) ?_
    refine WL.callV rfl rfl (fun x p d => zig_c _ a1 hm) ?_
    refine WL.gT rfl rfl (by omega) ?_
    refine WL.mv rfl rfl ?_
    refine WL.gT rfl rfl (by omega) ?_
    refine WL.callV rfl rfl (fun x p d => zig_c _ a0 hn) ?_
    refine WL.gT rfl rfl (by omega) ?_
    refine WL.leq rfl rfl rfl ?_
    refine WL.gY rfl rfl ?_
    refine WL.pickTp rfl rfl (by omega) rfl ?_
    refine WL.pickF rfl rfl rfl ?_
    refine WL.nil ?_
    refine W.condpF rfl (by omega) ?_
    refine W.skip ?_
    refine W.seq ?_
    refine W.region ?_
    refine WL.mv rfl rfl ?_
    refine WL.callV (v := .tuple #[.int .u64 (x : Int), .int .i64 (j : Int)]) rfl rfl (fun y p d => Fn.val (by rw [hxj]; rfl) (vget_c _ _ bs r3.wide hlt (by omega))) ?_
    refine WL.mv rfl rfl ?_
    refine WL.extL rfl rfl rfl ?_
    refine WL.extL rfl rfl rfl ?_
    refine WL.as rfl rfl ?_
    refine WL.as rfl rfl ?_
    refine WL.nil ?_
    refine W.seq ?_
    refine W.drop 0 rfl (by repeat' first | exact FL.nil | apply FL.cons) ?_
    refine W.drop 0 rfl (by repeat' first | exact FL.nil | apply FL.cons) ?_
    refine W.draw 30 [] [] rfl (fun h p => p) (fun σ2 hσ2 dσ2 => ?_)
    have r4 := r3.wide (x := σ2)
    rcases hform with ⟨hj0, hx0⟩ | ⟨hj0, hjl, hx64, hjx⟩
    · refine WD.takeL 0 rfl (by decide +kernel) ?_
      refine WL.mv rfl rfl ?_
      refine WL.nilT ?_
      refine WD.takeL 1 rfl (by decide +kernel) ?_
      refine WL.eql rfl rfl rfl ?_
      refine WL.nilT ?_
      refine WD.takeL 2 rfl (by decide +kernel) ?_
      refine WL.mv rfl rfl ?_
      refine WL.nilT ?_
      refine WD.takeL 3 rfl (by decide +kernel) ?_
      refine WL.gT rfl rfl (by omega) ?_
      refine WL.mv rfl rfl ?_
      refine WL.nilT ?_
      refine WD.takeL 4 rfl (by decide +kernel) ?_
      refine WL.gT rfl rfl (by omega) ?_
      refine WL.eql rfl rfl rfl ?_
      refine WL.nilT ?_
      refine WD.takeL 5 rfl (by decide +kernel) ?_
      refine WL.pickTp rfl rfl (by omega) rfl ?_
      refine WL.nilT ?_
      refine WD.takeL 6 rfl (by decide +kernel) ?_
      refine WL.mv rfl rfl ?_
      refine WL.nilT ?_
      refine WD.takeL 7 rfl (by decide +kernel) ?_
      refine WL.gdFn rfl rfl rfl rfl rfl (by omega) ?_
      refine WL.nilT ?_
      refine WD.takeL 8 rfl (by decide +kernel) ?_
      refine WL.gdFn rfl rfl rfl rfl rfl (by omega) ?_
      refine WL.nilT ?_
      refine WD.takeL 9 rfl (by decide +kernel) ?_
      refine WL.gdFn rfl rfl rfl rfl rfl (by omega) ?_
      refine WL.nilT ?_
      refine WD.takeL 10 rfl (by decide +kernel) ?_
      refine WL.gdU rfl rfl rfl rfl rfl ?_
      refine WL.nilT ?_
      refine WD.takeL 11 rfl (by decide +kernel) ?_
      refine WL.gdU rfl rfl rfl rfl rfl ?_
      refine WL.nilT ?_
      refine WD.takeL 12 rfl (by decide +kernel) ?_
      refine WL.gdU rfl rfl rfl rfl rfl ?_
      refine WL.nilT ?_
      refine WD.takeL 13 rfl (by decide +kernel) ?_
      refine WL.gdU rfl rfl rfl rfl rfl ?_
      refine WL.nilT ?_
      refine WD.takeL 14 rfl (by decide +kernel) ?_
      refine WL.gdFn rfl rfl rfl rfl rfl (by omega) ?_
      refine WL.nilT ?_
      refine WD.takeL 15 rfl (by decide +kernel) ?_
      refine WL.gdFn rfl rfl rfl rfl rfl (by omega) ?_
      refine WL.nilT ?_
      refine WD.takeL 16 rfl (by decide +kernel) ?_
      refine WL.gdU rfl rfl rfl rfl rfl ?_
      refine WL.nilT ?_
      refine WD.takeL 19 rfl (by decide +kernel) ?_
      refine WL.gdU rfl rfl rfl rfl rfl ?_
      refine WL.nilT ?_
      refine WD.takeL 20 rfl (by decide +kernel) ?_
      refine WL.gdU rfl rfl rfl rfl rfl ?_
      refine WL.nilT ?_
      refine WD.takeL 21 rfl (by decide +kernel) ?_
      refine WL.gdU rfl rfl rfl rfl rfl ?_
      refine WL.nilT ?_
      refine WD.takeL 22 rfl (by decide +kernel) ?_
      refine WL.gdU rfl rfl rfl rfl rfl ?_
      refine WL.nilT ?_
      refine WD.takeL 17 rfl (by decide +kernel) ?_
      refine WL.gdU rfl rfl rfl rfl rfl ?_
      refine WL.nilT ?_
      refine WD.takeL 18 rfl (by decide +kernel) ?_
      refine WL.gdU rfl rfl rfl rfl rfl ?_
      refine WL.nilT ?_
      refine WD.takeL 23 rfl (by decide +kernel) ?_
      refine WL.gdU rfl rfl rfl rfl rfl ?_
      refine WL.nilT ?_
      refine WD.takeL 24 rfl (by decide +kernel) ?_
      refine WL.gdFn rfl rfl rfl rfl rfl (by omega) ?_
      refine WL.nilT ?_
      refine WD.takeL 25 rfl (by decide +kernel) ?_
      refine WL.pickTp rfl rfl (by omega) rfl ?_
      refine WL.nilT ?_
      refine WD.takeL 26 rfl (by decide +kernel) ?_
      refine WL.mv rfl rfl ?_
      refine WL.nilT ?_
      refine WD.oneL 27 rfl (by decide +kernel) ?_
      refine WL.gY rfl rfl ?_
      refine WL.callT rfl rfl (fun x p d => awake2_c _) ?_
      refine WL.nilE ?_
      refine WD.takeL 28 rfl (by decide +kernel) ?_
      refine WL.pickT rfl rfl rfl ?_
      refine WL.nilT ?_
      refine WD.takeL 29 rfl (by decide +kernel) ?_
      refine WL.as rfl rfl ?_
      refine WL.nilT ?_
      refine WD.doneH hσ2 (by decide +kernel) ?_
      exact W.ret1 rfl rfl (fun h p => rfl)
    · have hjs : strN ([] ++ vputF 9 x) = strN (bs.take j) := by rw [hjx]; rfl
      refine WD.takeL 0 rfl (by decide +kernel) ?_
      refine WL.mv rfl rfl ?_
      refine WL.nilT ?_
      refine WD.takeL 1 rfl (by decide +kernel) ?_
      refine WL.eql rfl rfl rfl ?_
      refine WL.nilT ?_
      refine WD.takeL 2 rfl (by decide +kernel) ?_
      refine WL.mv rfl rfl ?_
      refine WL.nilT ?_
      refine WD.takeL 3 rfl (by decide +kernel) ?_
      refine WL.gdTn rfl rfl rfl rfl rfl (by omega) ?_
      refine WL.nilT ?_
      refine WD.takeL 4 rfl (by decide +kernel) ?_
      refine WL.gdTn rfl rfl rfl rfl rfl (by omega) ?_
      refine WL.nilT ?_
      refine WD.takeL 5 rfl (by decide +kernel) ?_
      refine WL.pickFp rfl rfl (by omega) rfl ?_
      refine WL.nilT ?_
      refine WD.takeL 6 rfl (by decide +kernel) ?_
      refine WL.mv rfl rfl ?_
      refine WL.nilT ?_
      refine WD.takeL 7 rfl (by decide +kernel) ?_
      refine WL.gY rfl rfl ?_
      refine WL.mv rfl rfl ?_
      refine WL.nilT ?_
      refine WD.takeL 8 rfl (by decide +kernel) ?_
      refine WL.gY rfl rfl ?_
      refine WL.gtr rfl rfl rfl ?_
      refine WL.nilT ?_
      refine WD.takeL 9 rfl (by decide +kernel) ?_
      refine WL.gY rfl rfl ?_
      refine WL.mv rfl rfl ?_
      refine WL.nilT ?_
      refine WD.takeL 10 rfl (by decide +kernel) ?_
      refine WL.gT rfl rfl (by omega) ?_
      refine WL.mv rfl rfl ?_
      refine WL.nilT ?_
      refine WD.takeL 11 rfl (by decide +kernel) ?_
      refine WL.gT rfl rfl (by omega) ?_
      refine WL.mv rfl rfl ?_
      refine WL.nilT ?_
      refine WD.takeL 12 rfl (by decide +kernel) ?_
      refine WL.gT rfl rfl (by omega) ?_
      refine WL.len (T := Ty) rfl rfl (by assumption) rfl ?_
      refine WL.nilT ?_
      refine WD.takeL 13 rfl (by decide +kernel) ?_
      refine WL.gT rfl rfl (by omega) ?_
      refine WL.leq rfl rfl rfl ?_
      refine WL.nilT ?_
      refine WD.takeL 14 rfl (by decide +kernel) ?_
      refine WL.gY rfl rfl ?_
      refine WL.pickTp rfl rfl (by omega) rfl ?_
      refine WL.nilT ?_
      refine WD.takeL 15 rfl (by decide +kernel) ?_
      refine WL.gY rfl rfl ?_
      refine WL.mv rfl rfl ?_
      refine WL.nilT ?_
      refine WD.takeL 16 rfl (by decide +kernel) ?_
      refine WL.gT rfl rfl (by omega) ?_
      refine WL.mv rfl rfl ?_
      refine WL.nilT ?_
      refine WD.takeL 19 rfl (by decide +kernel) ?_
      refine WL.gT rfl rfl (by omega) ?_
      refine WL.mv rfl rfl ?_
      refine WL.nilT ?_
      refine WD.takeL 20 rfl (by decide +kernel) ?_
      refine WL.gT rfl rfl (by omega) ?_
      refine WL.mv rfl rfl ?_
      refine WL.nilT ?_
      refine WD.takeL 21 rfl (by decide +kernel) ?_
      refine WL.gT rfl rfl (by omega) ?_
      refine WL.slR (T := Ty) (n := bs.length) (hi := j) rfl rfl .no (.atN rfl) rfl rfl rfl r4 (by simp) (Nat.zero_le _) hjl (fun vj hvj hroj => ?_)
      have hroj' : ROs (join ρ σ2) 1 vj ((bs.take j).map bcell) := by simpa [List.map_take] using hroj
      refine WL.nilT ?_
      refine WD.takeL 22 rfl (by decide +kernel) ?_
      refine WL.gT rfl rfl (by omega) ?_
      refine WL.b2sRN (T := Ty) rfl rfl rfl rfl rfl rfl rfl (by assumption) ?_
      refine WL.nilT ?_
      refine WD.oneL 17 rfl (by decide +kernel) ?_
      refine WL.gT rfl rfl (by omega) ?_
      refine WL.callF rfl rfl (fun y p d => vput_c _ _ [] x (ros_nil _ _) (by omega) (by decide)) (fun r => ?_)
      refine WL.nilG (fun σ' hσ' dσ' hle => ?_)
      have hr := ros_at (ρ := ρ) 1 rfl hσ' dσ'
      have hroj2 := hroj'.mono hle
      refine WD.takeL 18 rfl (by decide +kernel) ?_
      refine WL.gT rfl rfl (by omega) ?_
      refine WL.b2sRN (T := Ty) rfl rfl rfl rfl rfl rfl rfl (by assumption) ?_
      refine WL.nilT ?_
      refine WD.takeL 23 rfl (by decide +kernel) ?_
      refine WL.gT rfl rfl (by omega) ?_
      refine WL.eqST rfl rfl rfl (by first | with_reducible rfl | assumption) ?_
      refine WL.nilT ?_
      refine WD.takeL 24 rfl (by decide +kernel) ?_
      refine WL.gY rfl rfl ?_
      refine WL.pickTp rfl rfl (by omega) rfl ?_
      refine WL.nilT ?_
      refine WD.takeL 25 rfl (by decide +kernel) ?_
      refine WL.pickF rfl rfl rfl ?_
      refine WL.nilT ?_
      refine WD.takeL 26 rfl (by decide +kernel) ?_
      refine WL.mv rfl rfl ?_
      refine WL.nilT ?_
      refine WD.oneL 27 rfl (by decide +kernel) ?_
      refine WL.gY rfl rfl ?_
      refine WL.callT rfl rfl (fun x p d => awake2_c _) ?_
      refine WL.nilE ?_
      refine WD.takeL 28 rfl (by decide +kernel) ?_
      refine WL.pickT rfl rfl rfl ?_
      refine WL.nilT ?_
      refine WD.takeL 29 rfl (by decide +kernel) ?_
      refine WL.as rfl rfl ?_
      refine WL.nilT ?_
      refine WD.doneH hσ' (by decide +kernel) ?_
      exact W.ret1 rfl rfl (fun h p => rfl)
  · skip
    refine WL.gdTn rfl rfl rfl rfl rfl (by omega) ?_
    refine WL.gdTn rfl rfl rfl rfl rfl (by omega) ?_
    refine WL.gdTn rfl rfl rfl rfl rfl (by omega) ?_
    refine WL.pickFp rfl rfl (by omega) rfl ?_
    refine WL.mv rfl rfl ?_
    refine WL.gdN rfl rfl rfl rfl rfl rfl ?_
    refine WL.gdN rfl rfl rfl rfl rfl rfl ?_
    refine WL.gdN rfl rfl rfl rfl rfl rfl ?_
    refine WL.gdN rfl rfl rfl rfl rfl rfl ?_
    refine WL.gdN rfl rfl rfl rfl rfl rfl ?_
    refine WL.pickF rfl rfl rfl ?_
    refine WL.mv rfl rfl ?_
    refine WL.gY rfl rfl ?_
    refine WL.mv rfl rfl ?_
    refine WL.gY rfl rfl ?_
    refine WL.lss rfl rfl rfl ?_
    refine WL.gY rfl rfl ?_
    refine WL.mv rfl rfl ?_
    refine WL.gT rfl rfl (by omega) ?_
    refine WL.mv rfl rfl ?_
    refine WL.gT rfl rfl (by omega) ?_
    refine WL.mv rfl rfl ?_
    refine WL.gT rfl rfl (by omega) ?_
    refine WL.lss rfl rfl rfl ?_
    refine WL.gY rfl rfl ?_
    refine WL.pickTp rfl rfl (by omega) rfl ?_
    refine WL.gY rfl rfl ?_
    refine WL.mv rfl rfl ?_
    refine WL.gdTn rfl rfl rfl rfl rfl (by omega) ?_
    refine WL.gdTn rfl rfl rfl rfl rfl (by omega) ?_
    refine WL.gdTn rfl rfl rfl rfl rfl (by omega) ?_
    refine WL.gdTn rfl rfl rfl rfl rfl (by omega) ?_
    refine WL.gdTn rfl rfl rfl rfl rfl (by omega) ?_
    refine WL.gY rfl rfl ?_
    refine WL.pickFp rfl rfl (by omega) rfl ?_
    refine WL.pickF rfl rfl rfl ?_
    refine WL.nil ?_
    refine W.condF rfl ?_
    refine W.skip ?_
    refine W.seq ?_
    refine W.region ?_
    refine WL.mv rfl rfl ?_
    refine WL.callV (v := .tuple #[.int .u64 (x : Int), .int .i64 (j : Int)]) rfl rfl (fun y p d => Fn.val (by rw [hxj]; rfl) (vget_c _ _ bs r3.wide hlt (by omega))) ?_
    refine WL.mv rfl rfl ?_
    refine WL.extL rfl rfl rfl ?_
    refine WL.extL rfl rfl rfl ?_
    refine WL.as rfl rfl ?_
    refine WL.as rfl rfl ?_
    refine WL.nil ?_
    refine W.seq ?_
    refine W.drop 0 rfl (by repeat' first | exact FL.nil | apply FL.cons) ?_
    refine W.drop 0 rfl (by repeat' first | exact FL.nil | apply FL.cons) ?_
    refine W.draw 30 [] [] rfl (fun h p => p) (fun σ2 hσ2 dσ2 => ?_)
    have r4 := r3.wide (x := σ2)
    rcases hform with ⟨hj0, hx0⟩ | ⟨hj0, hjl, hx64, hjx⟩
    · refine WD.takeL 0 rfl (by decide +kernel) ?_
      refine WL.mv rfl rfl ?_
      refine WL.nilT ?_
      refine WD.takeL 1 rfl (by decide +kernel) ?_
      refine WL.eql rfl rfl rfl ?_
      refine WL.nilT ?_
      refine WD.takeL 2 rfl (by decide +kernel) ?_
      refine WL.mv rfl rfl ?_
      refine WL.nilT ?_
      refine WD.takeL 3 rfl (by decide +kernel) ?_
      refine WL.gT rfl rfl (by omega) ?_
      refine WL.mv rfl rfl ?_
      refine WL.nilT ?_
      refine WD.takeL 4 rfl (by decide +kernel) ?_
      refine WL.gT rfl rfl (by omega) ?_
      refine WL.eql rfl rfl rfl ?_
      refine WL.nilT ?_
      refine WD.takeL 5 rfl (by decide +kernel) ?_
      refine WL.pickTp rfl rfl (by omega) rfl ?_
      refine WL.nilT ?_
      refine WD.takeL 6 rfl (by decide +kernel) ?_
      refine WL.mv rfl rfl ?_
      refine WL.nilT ?_
      refine WD.takeL 7 rfl (by decide +kernel) ?_
      refine WL.gdFn rfl rfl rfl rfl rfl (by omega) ?_
      refine WL.nilT ?_
      refine WD.takeL 8 rfl (by decide +kernel) ?_
      refine WL.gdFn rfl rfl rfl rfl rfl (by omega) ?_
      refine WL.nilT ?_
      refine WD.takeL 9 rfl (by decide +kernel) ?_
      refine WL.gdFn rfl rfl rfl rfl rfl (by omega) ?_
      refine WL.nilT ?_
      refine WD.takeL 10 rfl (by decide +kernel) ?_
      refine WL.gdU rfl rfl rfl rfl rfl ?_
      refine WL.nilT ?_
      refine WD.takeL 11 rfl (by decide +kernel) ?_
      refine WL.gdU rfl rfl rfl rfl rfl ?_
      refine WL.nilT ?_
      refine WD.takeL 12 rfl (by decide +kernel) ?_
      refine WL.gdU rfl rfl rfl rfl rfl ?_
      refine WL.nilT ?_
      refine WD.takeL 13 rfl (by decide +kernel) ?_
      refine WL.gdU rfl rfl rfl rfl rfl ?_
      refine WL.nilT ?_
      refine WD.takeL 14 rfl (by decide +kernel) ?_
      refine WL.gdFn rfl rfl rfl rfl rfl (by omega) ?_
      refine WL.nilT ?_
      refine WD.takeL 15 rfl (by decide +kernel) ?_
      refine WL.gdFn rfl rfl rfl rfl rfl (by omega) ?_
      refine WL.nilT ?_
      refine WD.takeL 16 rfl (by decide +kernel) ?_
      refine WL.gdU rfl rfl rfl rfl rfl ?_
      refine WL.nilT ?_
      refine WD.takeL 19 rfl (by decide +kernel) ?_
      refine WL.gdU rfl rfl rfl rfl rfl ?_
      refine WL.nilT ?_
      refine WD.takeL 20 rfl (by decide +kernel) ?_
      refine WL.gdU rfl rfl rfl rfl rfl ?_
      refine WL.nilT ?_
      refine WD.takeL 21 rfl (by decide +kernel) ?_
      refine WL.gdU rfl rfl rfl rfl rfl ?_
      refine WL.nilT ?_
      refine WD.takeL 22 rfl (by decide +kernel) ?_
      refine WL.gdU rfl rfl rfl rfl rfl ?_
      refine WL.nilT ?_
      refine WD.takeL 17 rfl (by decide +kernel) ?_
      refine WL.gdU rfl rfl rfl rfl rfl ?_
      refine WL.nilT ?_
      refine WD.takeL 18 rfl (by decide +kernel) ?_
      refine WL.gdU rfl rfl rfl rfl rfl ?_
      refine WL.nilT ?_
      refine WD.takeL 23 rfl (by decide +kernel) ?_
      refine WL.gdU rfl rfl rfl rfl rfl ?_
      refine WL.nilT ?_
      refine WD.takeL 24 rfl (by decide +kernel) ?_
      refine WL.gdFn rfl rfl rfl rfl rfl (by omega) ?_
      refine WL.nilT ?_
      refine WD.takeL 25 rfl (by decide +kernel) ?_
      refine WL.pickTp rfl rfl (by omega) rfl ?_
      refine WL.nilT ?_
      refine WD.takeL 26 rfl (by decide +kernel) ?_
      refine WL.mv rfl rfl ?_
      refine WL.nilT ?_
      refine WD.oneL 27 rfl (by decide +kernel) ?_
      refine WL.gY rfl rfl ?_
      refine WL.callT rfl rfl (fun x p d => awake2_c _) ?_
      refine WL.nilE ?_
      refine WD.takeL 28 rfl (by decide +kernel) ?_
      refine WL.pickT rfl rfl rfl ?_
      refine WL.nilT ?_
      refine WD.takeL 29 rfl (by decide +kernel) ?_
      refine WL.as rfl rfl ?_
      refine WL.nilT ?_
      refine WD.doneH hσ2 (by decide +kernel) ?_
      exact W.ret1 rfl rfl (fun h p => rfl)
    · have hjs : strN ([] ++ vputF 9 x) = strN (bs.take j) := by rw [hjx]; rfl
      refine WD.takeL 0 rfl (by decide +kernel) ?_
      refine WL.mv rfl rfl ?_
      refine WL.nilT ?_
      refine WD.takeL 1 rfl (by decide +kernel) ?_
      refine WL.eql rfl rfl rfl ?_
      refine WL.nilT ?_
      refine WD.takeL 2 rfl (by decide +kernel) ?_
      refine WL.mv rfl rfl ?_
      refine WL.nilT ?_
      refine WD.takeL 3 rfl (by decide +kernel) ?_
      refine WL.gdTn rfl rfl rfl rfl rfl (by omega) ?_
      refine WL.nilT ?_
      refine WD.takeL 4 rfl (by decide +kernel) ?_
      refine WL.gdTn rfl rfl rfl rfl rfl (by omega) ?_
      refine WL.nilT ?_
      refine WD.takeL 5 rfl (by decide +kernel) ?_
      refine WL.pickFp rfl rfl (by omega) rfl ?_
      refine WL.nilT ?_
      refine WD.takeL 6 rfl (by decide +kernel) ?_
      refine WL.mv rfl rfl ?_
      refine WL.nilT ?_
      refine WD.takeL 7 rfl (by decide +kernel) ?_
      refine WL.gY rfl rfl ?_
      refine WL.mv rfl rfl ?_
      refine WL.nilT ?_
      refine WD.takeL 8 rfl (by decide +kernel) ?_
      refine WL.gY rfl rfl ?_
      refine WL.gtr rfl rfl rfl ?_
      refine WL.nilT ?_
      refine WD.takeL 9 rfl (by decide +kernel) ?_
      refine WL.gY rfl rfl ?_
      refine WL.mv rfl rfl ?_
      refine WL.nilT ?_
      refine WD.takeL 10 rfl (by decide +kernel) ?_
      refine WL.gT rfl rfl (by omega) ?_
      refine WL.mv rfl rfl ?_
      refine WL.nilT ?_
      refine WD.takeL 11 rfl (by decide +kernel) ?_
      refine WL.gT rfl rfl (by omega) ?_
      refine WL.mv rfl rfl ?_
      refine WL.nilT ?_
      refine WD.takeL 12 rfl (by decide +kernel) ?_
      refine WL.gT rfl rfl (by omega) ?_
      refine WL.len (T := Ty) rfl rfl (by assumption) rfl ?_
      refine WL.nilT ?_
      refine WD.takeL 13 rfl (by decide +kernel) ?_
      refine WL.gT rfl rfl (by omega) ?_
      refine WL.leq rfl rfl rfl ?_
      refine WL.nilT ?_
      refine WD.takeL 14 rfl (by decide +kernel) ?_
      refine WL.gY rfl rfl ?_
      refine WL.pickTp rfl rfl (by omega) rfl ?_
      refine WL.nilT ?_
      refine WD.takeL 15 rfl (by decide +kernel) ?_
      refine WL.gY rfl rfl ?_
      refine WL.mv rfl rfl ?_
      refine WL.nilT ?_
      refine WD.takeL 16 rfl (by decide +kernel) ?_
      refine WL.gT rfl rfl (by omega) ?_
      refine WL.mv rfl rfl ?_
      refine WL.nilT ?_
      refine WD.takeL 19 rfl (by decide +kernel) ?_
      refine WL.gT rfl rfl (by omega) ?_
      refine WL.mv rfl rfl ?_
      refine WL.nilT ?_
      refine WD.takeL 20 rfl (by decide +kernel) ?_
      refine WL.gT rfl rfl (by omega) ?_
      refine WL.mv rfl rfl ?_
      refine WL.nilT ?_
      refine WD.takeL 21 rfl (by decide +kernel) ?_
      refine WL.gT rfl rfl (by omega) ?_
      refine WL.slR (T := Ty) (n := bs.length) (hi := j) rfl rfl .no (.atN rfl) rfl rfl rfl r4 (by simp) (Nat.zero_le _) hjl (fun vj hvj hroj => ?_)
      have hroj' : ROs (join ρ σ2) 1 vj ((bs.take j).map bcell) := by simpa [List.map_take] using hroj
      refine WL.nilT ?_
      refine WD.takeL 22 rfl (by decide +kernel) ?_
      refine WL.gT rfl rfl (by omega) ?_
      refine WL.b2sRN (T := Ty) rfl rfl rfl rfl rfl rfl rfl (by assumption) ?_
      refine WL.nilT ?_
      refine WD.oneL 17 rfl (by decide +kernel) ?_
      refine WL.gT rfl rfl (by omega) ?_
      refine WL.callF rfl rfl (fun y p d => vput_c _ _ [] x (ros_nil _ _) (by omega) (by decide)) (fun r => ?_)
      refine WL.nilG (fun σ' hσ' dσ' hle => ?_)
      have hr := ros_at (ρ := ρ) 1 rfl hσ' dσ'
      have hroj2 := hroj'.mono hle
      refine WD.takeL 18 rfl (by decide +kernel) ?_
      refine WL.gT rfl rfl (by omega) ?_
      refine WL.b2sRN (T := Ty) rfl rfl rfl rfl rfl rfl rfl (by assumption) ?_
      refine WL.nilT ?_
      refine WD.takeL 23 rfl (by decide +kernel) ?_
      refine WL.gT rfl rfl (by omega) ?_
      refine WL.eqST rfl rfl rfl (by first | with_reducible rfl | assumption) ?_
      refine WL.nilT ?_
      refine WD.takeL 24 rfl (by decide +kernel) ?_
      refine WL.gY rfl rfl ?_
      refine WL.pickTp rfl rfl (by omega) rfl ?_
      refine WL.nilT ?_
      refine WD.takeL 25 rfl (by decide +kernel) ?_
      refine WL.pickF rfl rfl rfl ?_
      refine WL.nilT ?_
      refine WD.takeL 26 rfl (by decide +kernel) ?_
      refine WL.mv rfl rfl ?_
      refine WL.nilT ?_
      refine WD.oneL 27 rfl (by decide +kernel) ?_
      refine WL.gY rfl rfl ?_
      refine WL.callT rfl rfl (fun x p d => awake2_c _) ?_
      refine WL.nilE ?_
      refine WD.takeL 28 rfl (by decide +kernel) ?_
      refine WL.pickT rfl rfl rfl ?_
      refine WL.nilT ?_
      refine WD.takeL 29 rfl (by decide +kernel) ?_
      refine WL.as rfl rfl ?_
      refine WL.nilT ?_
      refine WD.doneH hσ' (by decide +kernel) ?_
      exact W.ret1 rfl rfl (fun h p => rfl)
end Go.Proofs.Ytimioninoafkhaa
