/- CrccForms. -/
import Derived.Test.YtimioninoafkhaaArr
import Derived.Test.YtimioninoafkhaaNum
import Derived.Test.YtimioninoafkhaaTab
import Derived.Test.YtimioninoafkhaaCrccAwake
set_option linter.unusedSimpArgs false
set_option linter.unusedVariables false
set_option maxRecDepth 20000
set_option maxHeartbeats 4000000
namespace Go.Proofs.Ytimioninoafkhaa
open Go
attribute [local irreducible] W WL Fn Buf ROs SL eptr box Rd Src bndOK WD RB Reads

def cfCells : List Value := [.string ⟨#[]⟩, .int .u32 0, .string ⟨#[97]⟩, .int .u32 3251651376, .string ⟨#[49, 50, 51, 52, 53, 54, 55, 56, 57]⟩, .int .u32 3808858755,
  .string ⟨#[0, 0, 0, 0, 0, 0, 0, 0, 0, 0, 0, 0, 0, 0, 0, 0, 0, 0, 0, 0, 0, 0, 0, 0, 0, 0, 0, 0, 0, 0, 0, 0]⟩, .int .u32 2324772522,
  .string ⟨#[255, 255, 255, 255, 255, 255, 255, 255, 255, 255, 255, 255, 255, 255, 255, 255, 255, 255, 255, 255, 255, 255, 255, 255, 255, 255, 255, 255, 255, 255, 255, 255]⟩, .int .u32 1655221059]
theorem cfRow (k : Nat) (hk : k < 5) : ∃ s u, (cfCells.drop (k * 2)).take 2 = [.string s, .int .u32 u] ∧ s.size ≤ 40 ∧ 0 ≤ u ∧ sumT tblL (bytesN s) = u.toNat := by
  rcases (by omega : k = 0 ∨ k = 1 ∨ k = 2 ∨ k = 3 ∨ k = 4) with rfl | rfl | rfl | rfl | rfl
  all_goals exact ⟨_, _, rfl, by decide +kernel, by decide, by decide +kernel⟩

theorem CrccForms_fn (ρ : Hp) (a0 : Int) (w0 : (Lit.int .i64 a0).wf = true) :
    Fn Try.prog 3 #[.int .i64 a0] ρ [] (fun r _ => r = .bool true) := by
  refine in3 rfl rfl ?_
  refine W.seq ?_
  refine W.region ?_
  refine WL.as rfl rfl ?_
  refine WL.nil ?_
  refine W.seq ?_
  refine W.region ?_
  refine WL.bd (T := Ty) rfl rfl rfl rfl rfl (by repeat' first | exact FL.nil | apply FL.cons) ?_
  refine WL.bd (T := Ty) rfl rfl rfl rfl rfl (by repeat' first | exact FL.nil | apply FL.cons) ?_
  refine WL.bd (T := Ty) rfl rfl rfl rfl rfl (by repeat' first | exact FL.nil | apply FL.cons) ?_
  refine WL.bd (T := Ty) rfl rfl rfl rfl rfl (by repeat' first | exact FL.nil | apply FL.cons) ?_
  refine WL.bd (T := Ty) rfl rfl rfl rfl rfl (by repeat' first | exact FL.nil | apply FL.cons) ?_
  refine WL.bs (T := Ty) rfl rfl rfl rfl rfl rfl rfl rfl (by repeat' first | exact FL.nil | apply FL.cons) (fun _ _ => ?_)
  refine WL.as rfl rfl ?_
  refine WL.nil ?_
  refine W.seq ?_
  refine W.region ?_
  refine WL.mv rfl rfl ?_
  refine WL.mv rfl rfl ?_
  refine WL.andI rfl rfl rfl (by decide) ?_
  refine WL.mv rfl rfl ?_
  refine WL.len (T := Ty) rfl rfl (by assumption) rfl ?_
  refine WL.remI rfl rfl rfl (by omega) (by omega) ?_
  refine WL.ix (T := Ty) rfl rfl rfl (by assumption) rfl rfl (by omega) (by omega) ?_
  obtain ⟨k, hk, hk5⟩ : ∃ k : Nat, a0 % (255 + 1) % 5 = (k : Int) ∧ k < 5 := ⟨(a0 % (255 + 1) % 5).toNat, by omega, by omega⟩
  obtain ⟨s, u, hrow, hs, hu0, hg⟩ := cfRow k hk5
  obtain ⟨u, rfl⟩ := Int.eq_ofNat_of_zero_le hu0
  have hg' : sumT tblL (bytesN s) = u := hg
  refine WL.ldAE (T := Ty) (j := 0) (cs := cfCells) (vs := [.string s, .int .u32 (u : Int)]) rfl rfl rfl rfl rfl (by rw [show (a0 % (255 + 1) % ((5 : Nat) : Int)).toNat = k by omega]; exact hrow) rfl ?_
  refine WL.alF (T := Ty) rfl rfl (by repeat' first | exact FL.nil | apply FL.cons) (fun _ => ?_)
  refine WL.stA (T := Ty) (j := 0) (cs := [.string s, .int .u32 (u : Int)]) rfl rfl rfl rfl (by simp [Value.oneCell']) rfl (by simp) (by repeat' first | exact FL.nil | apply FL.cons) (by repeat' first | exact FL.nil | apply FL.cons) ?_
  refine WL.nil ?_
  rename_i b
  refine W.drop 1 rfl (by repeat' first | exact FL.nil | apply FL.cons) ?_
  refine W.seq ?_
  refine W.draw 12 [box b [.string s, .int .u32 (u : Int)] 23] [] rfl (fun h p => p) (fun σ hσ dσ => ?_)
  have rb := rb_at (ρ := ρ) 0 rfl hσ dσ
  refine WD.takeL 1 rfl (by decide +kernel) ?_
  refine WL.faN (T := Ty) (off' := 0) rfl rfl rfl rfl rfl rfl rfl ?_
  refine WL.nilT ?_
  refine WD.takeL 2 rfl (by decide +kernel) ?_
  refine WL.ldBN (T := Ty) rfl rfl rfl rfl (by assumption) rfl ?_
  refine WL.nilT ?_
  refine WD.takeL 5 rfl (by decide +kernel) ?_
  refine WL.faN (T := Ty) (off' := 1) rfl rfl rfl rfl rfl rfl rfl ?_
  refine WL.nilT ?_
  refine WD.takeL 6 rfl (by decide +kernel) ?_
  refine WL.ldBN (T := Ty) rfl rfl rfl rfl (by assumption) rfl ?_
  refine WL.nilT ?_
  refine WD.twoL 0 3 rfl rfl (by decide +kernel) ?_ ?_
  · refine WL.callT (v := AG tblL) rfl rfl (fun x p d => table_c _) ?_
    refine WL.nilE ?_
    refine WD.oneL 3 rfl (by decide +kernel) ?_
    refine WL.s2b (T := Ty) rfl rfl rfl rfl rfl rfl (by unfold maxLen; omega) (fun v hv => ?_)
    refine WL.nilS ?_
    refine WD.oneL 4 rfl (by decide +kernel) ?_
    refine WL.callT (v := .int .u32 (u : Int)) rfl rfl (fun x p d => by have := sum_c (join ρ x) tblL v (bytesN s) tblL_lt tblL_len (bvs_bytesN s ▸ ros_at 1 rfl p d) (bytesN_lt s) (by rw [bytesN_len]; omega); rw [hg'] at this; exact this) ?_
    refine WL.nilE ?_
    refine WD.takeL 7 rfl (by decide +kernel) ?_
    refine WL.eql rfl rfl rfl ?_
    refine WL.nilT ?_
    refine WD.takeL 8 rfl (by decide +kernel) ?_
    refine WL.mv rfl rfl ?_
    refine WL.nilT ?_
    refine WD.oneL 9 rfl (by decide +kernel) ?_
    refine WL.gT rfl rfl (by omega) ?_
    refine WL.callT rfl rfl (fun x p d => awake3_c _) ?_
    refine WL.nilE ?_
    refine WD.takeL 10 rfl (by decide +kernel) ?_
    refine WL.pickTp rfl rfl (by omega) rfl ?_
    refine WL.nilT ?_
    refine WD.takeL 11 rfl (by decide +kernel) ?_
    refine WL.as rfl rfl ?_
    refine WL.nilT ?_
    refine WD.doneH hσ (by decide +kernel) ?_
    exact W.ret1 rfl rfl (fun h p => rfl)
  · refine WL.s2b (T := Ty) rfl rfl rfl rfl rfl rfl (by unfold maxLen; omega) (fun v hv => ?_)
    refine WL.nilS ?_
    refine WD.oneL 0 rfl (by decide +kernel) ?_
    refine WL.callT (v := AG tblL) rfl rfl (fun x p d => table_c _) ?_
    refine WL.nilE ?_
    refine WD.oneL 4 rfl (by decide +kernel) ?_
    refine WL.callT (v := .int .u32 (u : Int)) rfl rfl (fun x p d => by have := sum_c (join ρ x) tblL v (bytesN s) tblL_lt tblL_len (bvs_bytesN s ▸ ros_at 1 rfl p d) (bytesN_lt s) (by rw [bytesN_len]; omega); rw [hg'] at this; exact this) ?_
    refine WL.nilE ?_
    refine WD.takeL 7 rfl (by decide +kernel) ?_
    refine WL.eql rfl rfl rfl ?_
    refine WL.nilT ?_
    refine WD.takeL 8 rfl (by decide +kernel) ?_
    refine WL.mv rfl rfl ?_
    refine WL.nilT ?_
    refine WD.oneL 9 rfl (by decide +kernel) ?_
    refine WL.gT rfl rfl (by omega) ?_
    refine WL.callT rfl rfl (fun x p d => awake3_c _) ?_
    refine WL.nilE ?_
    refine WD.takeL 10 rfl (by decide +kernel) ?_
    refine WL.pickTp rfl rfl (by omega) rfl ?_
    refine WL.nilT ?_
    refine WD.takeL 11 rfl (by decide +kernel) ?_
    refine WL.as rfl rfl ?_
    refine WL.nilT ?_
    refine WD.doneH hσ (by decide +kernel) ?_
    exact W.ret1 rfl rfl (fun h p => rfl)
end Go.Proofs.Ytimioninoafkhaa
