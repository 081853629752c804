/- VintForms. -/
import Derived.Test.YtimioninoafkhaaVal
import Derived.Test.YtimioninoafkhaaNum
import Derived.Test.YtimioninoafkhaaTab
import Derived.Test.YtimioninoafkhaaVintAwake
set_option linter.unusedSimpArgs false
set_option linter.unusedVariables false
set_option maxRecDepth 20000
namespace Go.Proofs.Ytimioninoafkhaa
open Go
attribute [local irreducible] W WL Fn Buf ROs SL eptr box Rd Src bndOK WD RB

def vfCells : List Value := [.string ⟨#[0]⟩, .int .u64 0, .int .i64 1, .string ⟨#[127]⟩, .int .u64 127, .int .i64 1, .string ⟨#[128, 1]⟩, .int .u64 128, .int .i64 2, .string ⟨#[172, 2, 114, 101, 115, 116]⟩, .int .u64 300, .int .i64 2,
  .string ⟨#[255, 255, 255, 255, 255, 255, 255, 255, 255, 1]⟩, .int .u64 18446744073709551615, .int .i64 10, .string ⟨#[128, 128, 128, 128, 128, 128, 128, 128, 128, 1]⟩, .int .u64 9223372036854775808, .int .i64 10,
  .string ⟨#[]⟩, .int .u64 0, .int .i64 0, .string ⟨#[128]⟩, .int .u64 0, .int .i64 0, .string ⟨#[128, 0]⟩, .int .u64 0, .int .i64 0, .string ⟨#[128, 128, 0]⟩, .int .u64 0, .int .i64 0,
  .string ⟨#[255, 255, 255, 255, 255, 255, 255, 255, 255, 2]⟩, .int .u64 0, .int .i64 0, .string ⟨#[255, 255, 255, 255, 255, 255, 255, 255, 255, 255, 1]⟩, .int .u64 0, .int .i64 0]
theorem vfRow (k : Nat) (hk : k < 12) : ∃ s u n, (vfCells.drop (k * 3)).take 3 = [.string s, .int .u64 u, .int .i64 n] ∧ s.size ≤ 20 ∧ 0 ≤ u ∧ u < 18446744073709551616 ∧ 0 ≤ n ∧ n ≤ s.size ∧ vgetF 0 0 (bytesN s) = (u.toNat, n.toNat) ∧ (n = 0 ∨ n ≠ 0 ∧ strN ([] ++ vputF 9 u.toNat) = s.extract 0 n.toNat) := by
  rcases (by omega : k = 0 ∨ k = 1 ∨ k = 2 ∨ k = 3 ∨ k = 4 ∨ k = 5 ∨ k = 6 ∨ k = 7 ∨ k = 8 ∨ k = 9 ∨ k = 10 ∨ k = 11) with rfl | rfl | rfl | rfl | rfl | rfl | rfl | rfl | rfl | rfl | rfl | rfl
  iterate 6
    · exact ⟨_, _, _, rfl, by decide +kernel, by decide, by decide, by decide, by decide +kernel, by decide +kernel, .inr ⟨by decide, by decide +kernel⟩⟩
  iterate 6
    · exact ⟨_, _, _, rfl, by decide +kernel, by decide, by decide, by decide, by decide +kernel, by decide +kernel, .inl rfl⟩

theorem VintForms_fn (ρ : Hp) (a0 : Int) (w0 : (Lit.int .i64 a0).wf = true) :
    Fn Try.prog 7 #[.int .i64 a0] ρ [] (fun r _ => r = .bool true) := by
  refine in7 rfl rfl ?_
  refine W.seq ?_
  refine W.region ?_
  refine WL.as rfl rfl ?_
  refine WL.nil ?_
  refine W.seq ?_
  refine W.region ?_
  refine WL.bd (T := Ty) rfl rfl rfl rfl rfl (by repeat' first | exact FL.nil | apply FL.cons) ?_
  refine WL.bd (T := Ty) rfl rfl rfl rfl rfl (by repeat' first | exact FL.nil | apply FL.cons) ?_
  refine WL.bd (T := Ty) rfl rfl rfl rfl rfl (by repeat' first | exact FL.nil | apply FL.cons) ?_
  refine WL.bd (T := Ty) rfl rfl rfl rfl rfl (by repeat' first | exact FL.nil | apply FL.cons) ?_
  refine WL.bd (T := Ty) rfl rfl rfl rfl rfl (by repeat' first | exact FL.nil | apply FL.cons) ?_
  refine WL.bd (T := Ty) rfl rfl rfl rfl rfl (by repeat' first | exact FL.nil | apply FL.cons) ?_
  refine WL.bd (T := Ty) rfl rfl rfl rfl rfl (by repeat' first | exact FL.nil | apply FL.cons) ?_
  refine WL.bd (T := Ty) rfl rfl rfl rfl rfl (by repeat' first | exact FL.nil | apply FL.cons) ?_
  refine WL.bd (T := Ty) rfl rfl rfl rfl rfl (by repeat' first | exact FL.nil | apply FL.cons) ?_
  refine WL.bd (T := Ty) rfl rfl rfl rfl rfl (by repeat' first | exact FL.nil | apply FL.cons) ?_
  refine WL.bd (T := Ty) rfl rfl rfl rfl rfl (by repeat' first | exact FL.nil | apply FL.cons) ?_
  refine WL.bd (T := Ty) rfl rfl rfl rfl rfl (by repeat' first | exact FL.nil | apply FL.cons) ?_
  refine WL.bs (T := Ty) rfl rfl rfl rfl rfl rfl rfl rfl (by repeat' first | exact FL.nil | apply FL.cons) (fun _ _ => ?_)
  refine WL.as rfl rfl ?_
  refine WL.nil ?_
  refine W.seq ?_
  refine W.region ?_
  refine WL.mv rfl rfl ?_
  refine WL.mv rfl rfl ?_
  refine WL.andI rfl rfl rfl (by decide) ?_
  refine WL.mv rfl rfl ?_
  refine WL.len (T := Ty) rfl rfl (by assumption) rfl ?_
  refine WL.remI rfl rfl rfl (by omega) (by omega) ?_
  refine WL.ix (T := Ty) rfl rfl rfl (by assumption) rfl rfl (by omega) (by omega) ?_
  obtain ⟨k, hk, hk12⟩ : ∃ k : Nat, a0 % (255 + 1) % 12 = (k : Int) ∧ k < 12 := ⟨(a0 % (255 + 1) % 12).toNat, by omega, by omega⟩
  obtain ⟨s, u, n, hrow, hs, hu0, hu1, hn0, hn1, hg, hp⟩ := vfRow k hk12
  obtain ⟨u, rfl⟩ := Int.eq_ofNat_of_zero_le hu0
  obtain ⟨n, rfl⟩ := Int.eq_ofNat_of_zero_le hn0
  have hg' : vgetF 0 0 (bytesN s) = (u, n) := hg
  refine WL.ldAE (T := Ty) (j := 0) (cs := vfCells) (vs := [.string s, .int .u64 (u : Int), .int .i64 (n : Int)]) rfl rfl rfl rfl rfl (by rw [show (a0 % (255 + 1) % ((12 : Nat) : Int)).toNat = k by omega]; exact hrow) rfl ?_
  refine WL.alF (T := Ty) rfl rfl (by repeat' first | exact FL.nil | apply FL.cons) (fun _ => ?_)
  refine WL.stA (T := Ty) (j := 0) (cs := [.string s, .int .u64 (u : Int), .int .i64 (n : Int)]) rfl rfl rfl rfl (by simp [Value.oneCell']) rfl (by simp) (by repeat' first | exact FL.nil | apply FL.cons) (by repeat' first | exact FL.nil | apply FL.cons) ?_
  refine WL.nil ?_
  rename_i b
  refine W.drop 1 rfl (by repeat' first | exact FL.nil | apply FL.cons) ?_
  refine W.seq ?_
  refine W.region ?_
  refine WL.faN (T := Ty) (off' := 0) rfl rfl rfl rfl rfl rfl rfl ?_
  refine WL.ldN (T := Ty) (j := 0) rfl rfl rfl rfl rfl rfl ?_
  refine WL.s2b (T := Ty) rfl rfl rfl rfl rfl rfl (by unfold maxLen; omega) (fun v hv => ?_)
  refine WL.callV (v := .tuple #[.int .u64 (u : Int), .int .i64 (n : Int)]) rfl rfl (fun x p d => Fn.val (by rw [hg']; rfl) (vget_c _ _ (bytesN s) (bvs_bytesN s ▸ ros_at 0 rfl p d) (bytesN_lt s) (by rw [bytesN_len]; omega))) ?_
  refine WL.mv rfl rfl ?_
  refine WL.extL rfl rfl rfl ?_
  refine WL.extL rfl rfl rfl ?_
  refine WL.as rfl rfl ?_
  refine WL.as rfl rfl ?_
  refine WL.nil ?_
  refine W.seq ?_
  refine W.drop 0 rfl (by repeat' first | exact FL.nil | apply FL.cons) ?_
  refine W.draw 28 [box b [.string s, .int .u64 (u : Int), .int .i64 (n : Int)] 37] [] rfl (fun h p => p) (fun σ hσ dσ => ?_)
  have rb := rb_at (ρ := ρ) 0 rfl hσ dσ
  rcases hp with hn | ⟨hn, hp⟩
  · refine WD.takeL 0 rfl (by decide +kernel) ?_
    refine WL.mv rfl rfl ?_
    refine WL.nilT ?_
    refine WD.takeL 1 rfl (by decide +kernel) ?_
    refine WL.faN (T := Ty) (off' := 1) rfl rfl rfl rfl rfl rfl rfl ?_
    refine WL.nilT ?_
    refine WD.takeL 2 rfl (by decide +kernel) ?_
    refine WL.ldBN (T := Ty) rfl rfl rfl rfl (by assumption) rfl ?_
    refine WL.nilT ?_
    refine WD.takeL 3 rfl (by decide +kernel) ?_
    refine WL.eql rfl rfl rfl ?_
    refine WL.nilT ?_
    refine WD.takeL 4 rfl (by decide +kernel) ?_
    refine WL.mv rfl rfl ?_
    refine WL.nilT ?_
    refine WD.takeL 5 rfl (by decide +kernel) ?_
    refine WL.gT rfl rfl (by omega) ?_
    refine WL.mv rfl rfl ?_
    refine WL.nilT ?_
    refine WD.takeL 6 rfl (by decide +kernel) ?_
    refine WL.gT rfl rfl (by omega) ?_
    refine WL.faN (T := Ty) (off' := 2) rfl rfl rfl rfl rfl rfl rfl ?_
    refine WL.nilT ?_
    refine WD.takeL 7 rfl (by decide +kernel) ?_
    refine WL.gT rfl rfl (by omega) ?_
    refine WL.ldBN (T := Ty) rfl rfl rfl rfl (by assumption) rfl ?_
    refine WL.nilT ?_
    refine WD.takeL 8 rfl (by decide +kernel) ?_
    refine WL.gT rfl rfl (by omega) ?_
    refine WL.eql rfl rfl rfl ?_
    refine WL.nilT ?_
    refine WD.takeL 9 rfl (by decide +kernel) ?_
    refine WL.pickTp rfl rfl (by omega) rfl ?_
    refine WL.nilT ?_
    refine WD.takeL 10 rfl (by decide +kernel) ?_
    refine WL.mv rfl rfl ?_
    refine WL.nilT ?_
    refine WD.takeL 11 rfl (by decide +kernel) ?_
    refine WL.gT rfl rfl (by omega) ?_
    refine WL.mv rfl rfl ?_
    refine WL.nilT ?_
    refine WD.takeL 12 rfl (by decide +kernel) ?_
    refine WL.gT rfl rfl (by omega) ?_
    refine WL.eql rfl rfl rfl ?_
    refine WL.nilT ?_
    refine WD.takeL 13 rfl (by decide +kernel) ?_
    refine WL.gT rfl rfl (by omega) ?_
    refine WL.mv rfl rfl ?_
    refine WL.nilT ?_
    refine WD.takeL 14 rfl (by decide +kernel) ?_
    refine WL.gdFn rfl rfl rfl rfl rfl (by omega) ?_
    refine WL.nilT ?_
    refine WD.takeL 17 rfl (by decide +kernel) ?_
    refine WL.gdFn rfl rfl rfl rfl rfl (by omega) ?_
    refine WL.nilT ?_
    refine WD.takeL 18 rfl (by decide +kernel) ?_
    refine WL.gdFn rfl rfl rfl rfl rfl (by omega) ?_
    refine WL.nilT ?_
    refine WD.takeL 19 rfl (by decide +kernel) ?_
    refine WL.gdFn rfl rfl rfl rfl rfl (by omega) ?_
    refine WL.nilT ?_
    refine WD.takeL 20 rfl (by decide +kernel) ?_
    refine WL.gdFn rfl rfl rfl rfl rfl (by omega) ?_
    refine WL.nilT ?_
    refine WD.takeL 15 rfl (by decide +kernel) ?_
    refine WL.gdFn rfl rfl rfl rfl rfl (by omega) ?_
    refine WL.nilT ?_
    refine WD.takeL 16 rfl (by decide +kernel) ?_
    refine WL.gdFn rfl rfl rfl rfl rfl (by omega) ?_
    refine WL.nilT ?_
    refine WD.takeL 21 rfl (by decide +kernel) ?_
    refine WL.gdFn rfl rfl rfl rfl rfl (by omega) ?_
    refine WL.nilT ?_
    refine WD.takeL 22 rfl (by decide +kernel) ?_
    refine WL.gT rfl rfl (by omega) ?_
    refine WL.pickTp rfl rfl (by omega) rfl ?_
    refine WL.nilT ?_
    refine WD.takeL 23 rfl (by decide +kernel) ?_
    refine WL.pickTp rfl rfl (by omega) rfl ?_
    refine WL.nilT ?_
    refine WD.takeL 24 rfl (by decide +kernel) ?_
    refine WL.mv rfl rfl ?_
    refine WL.nilT ?_
    refine WD.oneL 25 rfl (by decide +kernel) ?_
    refine WL.gY rfl rfl ?_
    refine WL.callT rfl rfl (fun x p d => awake2_c _) ?_
    refine WL.nilE ?_
    refine WD.takeL 26 rfl (by decide +kernel) ?_
    refine WL.pickT rfl rfl rfl ?_
    refine WL.nilT ?_
    refine WD.takeL 27 rfl (by decide +kernel) ?_
    refine WL.as rfl rfl ?_
    refine WL.nilT ?_
    refine WD.doneH hσ (by decide +kernel) ?_
    exact W.ret1 rfl rfl (fun h p => rfl)
  · have hp' : strN ([] ++ vputF 9 u) = s.extract 0 ((n : Int)).toNat := hp
    refine WD.takeL 0 rfl (by decide +kernel) ?_
    refine WL.mv rfl rfl ?_
    refine WL.nilT ?_
    refine WD.takeL 1 rfl (by decide +kernel) ?_
    refine WL.faN (T := Ty) (off' := 1) rfl rfl rfl rfl rfl rfl rfl ?_
    refine WL.nilT ?_
    refine WD.takeL 2 rfl (by decide +kernel) ?_
    refine WL.ldBN (T := Ty) rfl rfl rfl rfl (by assumption) rfl ?_
    refine WL.nilT ?_
    refine WD.takeL 3 rfl (by decide +kernel) ?_
    refine WL.eql rfl rfl rfl ?_
    refine WL.nilT ?_
    refine WD.takeL 4 rfl (by decide +kernel) ?_
    refine WL.mv rfl rfl ?_
    refine WL.nilT ?_
    refine WD.takeL 5 rfl (by decide +kernel) ?_
    refine WL.gT rfl rfl (by omega) ?_
    refine WL.mv rfl rfl ?_
    refine WL.nilT ?_
    refine WD.takeL 6 rfl (by decide +kernel) ?_
    refine WL.gT rfl rfl (by omega) ?_
    refine WL.faN (T := Ty) (off' := 2) rfl rfl rfl rfl rfl rfl rfl ?_
    refine WL.nilT ?_
    refine WD.takeL 7 rfl (by decide +kernel) ?_
    refine WL.gT rfl rfl (by omega) ?_
    refine WL.ldBN (T := Ty) rfl rfl rfl rfl (by assumption) rfl ?_
    refine WL.nilT ?_
    refine WD.takeL 8 rfl (by decide +kernel) ?_
    refine WL.gT rfl rfl (by omega) ?_
    refine WL.eql rfl rfl rfl ?_
    refine WL.nilT ?_
    refine WD.takeL 9 rfl (by decide +kernel) ?_
    refine WL.pickTp rfl rfl (by omega) rfl ?_
    refine WL.nilT ?_
    refine WD.takeL 10 rfl (by decide +kernel) ?_
    refine WL.mv rfl rfl ?_
    refine WL.nilT ?_
    refine WD.takeL 11 rfl (by decide +kernel) ?_
    refine WL.gT rfl rfl (by omega) ?_
    refine WL.mv rfl rfl ?_
    refine WL.nilT ?_
    refine WD.takeL 12 rfl (by decide +kernel) ?_
    refine WL.gT rfl rfl (by omega) ?_
    refine WL.eql rfl rfl rfl ?_
    refine WL.nilT ?_
    refine WD.takeL 13 rfl (by decide +kernel) ?_
    refine WL.gT rfl rfl (by omega) ?_
    refine WL.mv rfl rfl ?_
    refine WL.nilT ?_
    refine WD.takeL 14 rfl (by decide +kernel) ?_
    refine WL.gF rfl rfl (by omega) ?_
    refine WL.mv rfl rfl ?_
    refine WL.nilT ?_
    refine WD.takeL 17 rfl (by decide +kernel) ?_
    refine WL.gF rfl rfl (by omega) ?_
    refine WL.faN (T := Ty) (off' := 0) rfl rfl rfl rfl rfl rfl rfl ?_
    refine WL.nilT ?_
    refine WD.takeL 18 rfl (by decide +kernel) ?_
    refine WL.gF rfl rfl (by omega) ?_
    refine WL.ldBN (T := Ty) rfl rfl rfl rfl (by assumption) rfl ?_
    refine WL.nilT ?_
    refine WD.takeL 19 rfl (by decide +kernel) ?_
    refine WL.gF rfl rfl (by omega) ?_
    refine WL.mv rfl rfl ?_
    refine WL.nilT ?_
    refine WD.takeL 20 rfl (by decide +kernel) ?_
    refine WL.gF rfl rfl (by omega) ?_
    refine WL.slSh (T := Ty) rfl rfl rfl rfl rfl (by omega) (by omega) ?_
    refine WL.nilT ?_
    refine WD.oneL 15 rfl (by decide +kernel) ?_
    refine WL.gF rfl rfl (by omega) ?_
    refine WL.callF rfl rfl (fun x p d => vput_c _ _ [] u (ros_nil _ _) (by omega) (by decide)) (fun r => ?_)
    refine WL.nilG (fun σ' hσ' dσ' hle => ?_)
    have rb' := rb.mono hle
    have hr := ros_at (ρ := ρ) 1 rfl hσ' dσ'
    refine WD.takeL 16 rfl (by decide +kernel) ?_
    refine WL.gF rfl rfl (by omega) ?_
    refine WL.b2sRN (T := Ty) rfl rfl rfl rfl rfl rfl rfl (by assumption) ?_
    refine WL.nilT ?_
    refine WD.takeL 21 rfl (by decide +kernel) ?_
    refine WL.gF rfl rfl (by omega) ?_
    refine WL.eqST rfl rfl rfl (by first | with_reducible rfl | assumption) ?_
    refine WL.nilT ?_
    refine WD.takeL 22 rfl (by decide +kernel) ?_
    refine WL.gT rfl rfl (by omega) ?_
    refine WL.pickFp rfl rfl (by omega) rfl ?_
    refine WL.nilT ?_
    refine WD.takeL 23 rfl (by decide +kernel) ?_
    refine WL.pickTp rfl rfl (by omega) rfl ?_
    refine WL.nilT ?_
    refine WD.takeL 24 rfl (by decide +kernel) ?_
    refine WL.mv rfl rfl ?_
    refine WL.nilT ?_
    refine WD.oneL 25 rfl (by decide +kernel) ?_
    refine WL.gY rfl rfl ?_
    refine WL.callT rfl rfl (fun x p d => awake2_c _) ?_
    refine WL.nilE ?_
    refine WD.takeL 26 rfl (by decide +kernel) ?_
    refine WL.pickT rfl rfl rfl ?_
    refine WL.nilT ?_
    refine WD.takeL 27 rfl (by decide +kernel) ?_
    refine WL.as rfl rfl ?_
    refine WL.nilT ?_
    refine WD.doneH hσ' (by decide +kernel) ?_
    exact W.ret1 rfl rfl (fun h p => rfl)
end Go.Proofs.Ytimioninoafkhaa
