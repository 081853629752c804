/- VintZigs. -/
import Derived.Test.YtimioninoafkhaaVal
import Derived.Test.YtimioninoafkhaaNum
import Derived.Test.YtimioninoafkhaaTab
import Derived.Test.YtimioninoafkhaaVintAwake
set_option linter.unusedSimpArgs false
set_option linter.unusedVariables false
set_option maxRecDepth 20000
namespace Go.Proofs.Ytimioninoafkhaa
open Go
attribute [local irreducible] W WL Fn Buf ROs SL eptr box Rd Src bndOK WD RB

def zigCells : List Value := [.int .i64 0, .int .u64 0, .int .i64 (-1), .int .u64 1, .int .i64 1, .int .u64 2, .int .i64 (-2), .int .u64 3, .int .i64 2, .int .u64 4, .int .i64 9223372036854775807, .int .u64 18446744073709551614,
  .int .i64 (-9223372036854775808), .int .u64 18446744073709551615, .int .i64 (-64), .int .u64 127, .int .i64 63, .int .u64 126, .int .i64 64, .int .u64 128]
theorem zigRow (k : Nat) (hk : k < 10) : ∃ n u, (zigCells.drop (k * 2)).take 2 = [.int .i64 n, .int .u64 u] ∧ i64ok n ∧ 0 ≤ u ∧ u < 18446744073709551616 ∧ (zigF n : Int) = u ∧ zagF u.toNat = n := by
  rcases (by omega : k = 0 ∨ k = 1 ∨ k = 2 ∨ k = 3 ∨ k = 4 ∨ k = 5 ∨ k = 6 ∨ k = 7 ∨ k = 8 ∨ k = 9) with rfl | rfl | rfl | rfl | rfl | rfl | rfl | rfl | rfl | rfl
  all_goals exact ⟨_, _, rfl, ⟨by decide, by decide⟩, by decide, by decide, by decide, by decide⟩

theorem VintZigs_fn (ρ : Hp) (a0 : Int) (w0 : (Lit.int .i64 a0).wf = true) :
    Fn Try.prog 8 #[.int .i64 a0] ρ [] (fun r _ => r = .bool true) := by
  refine in8 rfl rfl ?_
  refine W.seq ?_
  refine W.region ?_
  refine WL.as rfl rfl ?_
  refine WL.nil ?_
  refine W.seq ?_
  refine W.region ?_
  refine WL.bd (T := Ty) rfl rfl rfl rfl rfl (by repeat' first | exact FL.nil | apply FL.cons) ?_
  refine WL.bd (T := Ty) rfl rfl rfl rfl rfl (by repeat' first | exact FL.nil | apply FL.cons) ?_
  refine WL.bd (T := Ty) rfl rfl rfl rfl rfl (by repeat' first | exact FL.nil | apply FL.cons) ?_
  refine WL.bd (T := Ty) rfl rfl rfl rfl rfl (by repeat' first | exact FL.nil | apply FL.cons) ?_
  refine WL.bd (T := Ty) rfl rfl rfl rfl rfl (by repeat' first | exact FL.nil | apply FL.cons) ?_
  refine WL.bd (T := Ty) rfl rfl rfl rfl rfl (by repeat' first | exact FL.nil | apply FL.cons) ?_
  refine WL.bd (T := Ty) rfl rfl rfl rfl rfl (by repeat' first | exact FL.nil | apply FL.cons) ?_
  refine WL.bd (T := Ty) rfl rfl rfl rfl rfl (by repeat' first | exact FL.nil | apply FL.cons) ?_
  refine WL.bd (T := Ty) rfl rfl rfl rfl rfl (by repeat' first | exact FL.nil | apply FL.cons) ?_
  refine WL.bd (T := Ty) rfl rfl rfl rfl rfl (by repeat' first | exact FL.nil | apply FL.cons) ?_
  refine WL.bs (T := Ty) rfl rfl rfl rfl rfl rfl rfl rfl (by repeat' first | exact FL.nil | apply FL.cons) (fun _ _ => ?_)
  refine WL.as rfl rfl ?_
  refine WL.nil ?_
  refine W.seq ?_
  refine W.region ?_
  refine WL.mv rfl rfl ?_
  refine WL.mv rfl rfl ?_
  refine WL.andI rfl rfl rfl (by decide) ?_
  refine WL.mv rfl rfl ?_
  refine WL.len (T := Ty) rfl rfl (by assumption) rfl ?_
  refine WL.remI rfl rfl rfl (by omega) (by omega) ?_
  refine WL.ix (T := Ty) rfl rfl rfl (by assumption) rfl rfl (by omega) (by omega) ?_
  obtain ⟨k, hk, hk10⟩ : ∃ k : Nat, a0 % (255 + 1) % 10 = (k : Int) ∧ k < 10 := ⟨(a0 % (255 + 1) % 10).toNat, by omega, by omega⟩
  obtain ⟨n, u, hrow, hn, hu0, hu1, hz, hg⟩ := zigRow k hk10
  obtain ⟨u, rfl⟩ := Int.eq_ofNat_of_zero_le hu0
  have hg' : zagF u = n := hg
  refine WL.ldAE (T := Ty) (j := 0) (cs := zigCells) (vs := [.int .i64 n, .int .u64 u]) rfl rfl rfl rfl rfl (by rw [show (a0 % (255 + 1) % ((10 : Nat) : Int)).toNat = k by omega]; exact hrow) rfl ?_
  refine WL.alF (T := Ty) rfl rfl (by repeat' first | exact FL.nil | apply FL.cons) (fun _ => ?_)
  refine WL.stA (T := Ty) (j := 0) (cs := [.int .i64 n, .int .u64 u]) rfl rfl rfl rfl (by simp [Value.oneCell']) rfl (by simp) (by repeat' first | exact FL.nil | apply FL.cons) (by repeat' first | exact FL.nil | apply FL.cons) ?_
  refine WL.nil ?_
  rename_i b
  refine W.seq ?_
  refine W.drop 1 rfl (by repeat' first | exact FL.nil | apply FL.cons) ?_
  refine W.draw 18 [box b [.int .i64 n, .int .u64 (u : Int)] 42] [] rfl (fun h p => p) (fun σ hσ dσ => ?_)
  have rb := rb_at (ρ := ρ) 0 rfl hσ dσ
  refine WD.takeL 0 rfl (by decide +kernel) ?_
  refine WL.faN (T := Ty) (off' := 0) rfl rfl rfl rfl rfl rfl rfl ?_
  refine WL.nilT ?_
  refine WD.takeL 1 rfl (by decide +kernel) ?_
  refine WL.ldBN (T := Ty) rfl rfl rfl rfl (by assumption) rfl ?_
  refine WL.nilT ?_
  refine WD.takeL 3 rfl (by decide +kernel) ?_
  refine WL.faN (T := Ty) (off' := 1) rfl rfl rfl rfl rfl rfl rfl ?_
  refine WL.nilT ?_
  refine WD.takeL 4 rfl (by decide +kernel) ?_
  refine WL.ldBN (T := Ty) rfl rfl rfl rfl (by assumption) rfl ?_
  refine WL.nilT ?_
  refine WD.oneL 2 rfl (by decide +kernel) ?_
  refine WL.callV rfl rfl (fun x p d => zig_c _ n hn) ?_
  refine WL.nilE ?_
  refine WD.takeL 5 rfl (by decide +kernel) ?_
  refine WL.eql rfl rfl rfl ?_
  refine WL.nilT ?_
  refine WD.takeL 6 rfl (by decide +kernel) ?_
  refine WL.mv rfl rfl ?_
  refine WL.nilT ?_
  refine WD.takeL 7 rfl (by decide +kernel) ?_
  refine WL.gT rfl rfl (by omega) ?_
  refine WL.faN (T := Ty) (off' := 1) rfl rfl rfl rfl rfl rfl rfl ?_
  refine WL.nilT ?_
  refine WD.takeL 8 rfl (by decide +kernel) ?_
  refine WL.gT rfl rfl (by omega) ?_
  refine WL.ldBN (T := Ty) rfl rfl rfl rfl (by assumption) rfl ?_
  refine WL.nilT ?_
  refine WD.takeL 10 rfl (by decide +kernel) ?_
  refine WL.gT rfl rfl (by omega) ?_
  refine WL.faN (T := Ty) (off' := 0) rfl rfl rfl rfl rfl rfl rfl ?_
  refine WL.nilT ?_
  refine WD.takeL 11 rfl (by decide +kernel) ?_
  refine WL.gT rfl rfl (by omega) ?_
  refine WL.ldBN (T := Ty) rfl rfl rfl rfl (by assumption) rfl ?_
  refine WL.nilT ?_
  refine WD.oneL 9 rfl (by decide +kernel) ?_
  refine WL.gT rfl rfl (by omega) ?_
  refine WL.callV rfl rfl (fun x p d => zag_c _ u (by omega)) ?_
  refine WL.nilE ?_
  refine WD.takeL 12 rfl (by decide +kernel) ?_
  refine WL.gT rfl rfl (by omega) ?_
  refine WL.eql rfl rfl rfl ?_
  refine WL.nilT ?_
  refine WD.takeL 13 rfl (by decide +kernel) ?_
  refine WL.pickTp rfl rfl (by omega) rfl ?_
  refine WL.nilT ?_
  refine WD.takeL 14 rfl (by decide +kernel) ?_
  refine WL.mv rfl rfl ?_
  refine WL.nilT ?_
  refine WD.oneL 15 rfl (by decide +kernel) ?_
  refine WL.gT rfl rfl (by omega) ?_
  refine WL.callT rfl rfl (fun x p d => awake2_c _) ?_
  refine WL.nilE ?_
  refine WD.takeL 16 rfl (by decide +kernel) ?_
  refine WL.pickTp rfl rfl (by omega) rfl ?_
  refine WL.nilT ?_
  refine WD.takeL 17 rfl (by decide +kernel) ?_
  refine WL.as rfl rfl ?_
  refine WL.nilT ?_
  refine WD.doneH hσ (by decide +kernel) ?_
  exact W.ret1 rfl rfl (fun h p => rfl)
end Go.Proofs.Ytimioninoafkhaa
