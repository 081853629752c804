/- Sums of bytes: what the document fixes. -/
import Derived.Test.YtimioninoafkhaaArr
import Derived.Test.YtimioninoafkhaaNum
import Derived.Test.YtimioninoafkhaaTab
import Derived.Test.YtimioninoafkhaaCrcc
set_option linter.unusedSimpArgs false
set_option linter.unusedVariables false
set_option maxRecDepth 20000
set_option maxHeartbeats 4000000
namespace Go.Proofs.Ytimioninoafkhaa
open Go
attribute [local irreducible] W WL Fn Buf ROs SL eptr box Rd Src bndOK WD RB Reads

theorem tblL_lt : ∀ x ∈ tblL, x < 4294967296 := by
  intro x hx
  obtain ⟨i, hi, rfl⟩ := List.mem_map.1 hx
  exact entF_lt i (by have := List.mem_range.1 hi; omega)
theorem tbl_len : (tblL.map ucell).length = 256 := by rw [List.length_map, tblL_len]
theorem tbl_get (i : Nat) (h : i < 256) : (tblL.map ucell)[i]? = some (ucell (entF i)) := by rw [getD_cell (by rw [tblL_len]; exact h), tblL_get i h]
theorem zero_len : ((List.replicate 256 0).map ucell).length = 256 := by simp

theorem awake3_c (ρ : Hp) : Fn Try.prog 17 #[] ρ [] (fun r _ => r = .bool true) := by
  refine in17 rfl rfl ?_
  have s1 : sumT tblL [49, 50, 51, 52, 53, 54, 55, 56, 57] = 3808858755 := by decide +kernel
  have s2 : sumT tblL [] = 0 := by decide +kernel
  have e0 : entF 0 = 0 := by decide +kernel
  refine W.seq ?_
  refine W.region ?_
  refine WL.as rfl rfl ?_
  refine WL.nil ?_
  refine W.seq ?_
  refine W.region ?_
  refine WL.callT (v := AG tblL) rfl rfl (fun x p d => table_c _) ?_
  refine WL.alX (T := Ty) (cs := (List.replicate 256 0).map ucell) rfl rfl (by simp [Value.cells, ucell]) (fun b => ?_)
  refine WL.stW (T := Ty) (j := 0) (cs := tblL.map ucell) rfl rfl rfl (by rw [tbl_len]; rfl) (one_ucell _) rfl (by rw [tbl_len, zero_len]) (by repeat' first | exact FL.nil | apply FL.cons) ?_
  refine WL.nil ?_
  refine W.seq ?_
  refine W.draw 22 [box b (tblL.map ucell) 26] [] rfl (fun h p => p) (fun σ hσ dσ => ?_)
  have rb := rb_at (ρ := ρ) 0 rfl hσ dσ
  refine WD.takeL 0 rfl (by decide +kernel) ?_
  refine WL.ldWB (T := Ty) rfl rfl rfl rfl rb (by rw [tbl_len]; rfl) ?_
  refine WL.nilT ?_
  refine WD.oneL 1 rfl (by decide +kernel) ?_
  refine WL.bs (T := Ty) rfl rfl rfl rfl rfl rfl rfl rfl (by repeat' first | exact FL.nil | apply FL.cons) (fun _ _ => ?_)
  rename_i l hl
  refine WL.nilS ?_
  skip
  refine WD.oneL 2 rfl (by decide +kernel) ?_
  refine WL.cvB (T := Ty) (j := 1) rfl rfl rfl rfl rfl rfl (by simp) ?_
  refine WL.nilE ?_
  refine WD.oneL 3 rfl (by decide +kernel) ?_
  skip
  refine WL.callT (v := .int .u32 3808858755) rfl rfl (fun x p d => by
    have := sum_c (join ρ x) tblL l [49, 50, 51, 52, 53, 54, 55, 56, 57] tblL_lt tblL_len (ros_at 1 rfl p d) (by decide) (by decide)
    rw [s1] at this
    exact this) ?_
  refine WL.nilE ?_
  refine WD.takeL 4 rfl (by decide +kernel) ?_
  refine WL.eql rfl rfl rfl ?_
  refine WL.nilT ?_
  refine WD.takeL 5 rfl (by decide +kernel) ?_
  refine WL.mv rfl rfl ?_
  refine WL.nilT ?_
  refine WD.takeL 6 rfl (by decide +kernel) ?_
  refine WL.gY rfl rfl ?_
  refine WL.ldWB (T := Ty) rfl rfl rfl rfl rb (by rw [tbl_len]; rfl) ?_
  refine WL.nilT ?_
  refine WD.oneL 7 rfl (by decide +kernel) ?_
  refine WL.gY rfl rfl ?_
  refine WL.callT (v := .int .u32 0) rfl rfl (fun x p d => by
    have := sum_c (join ρ x) tblL (.slice none 0 0) [] tblL_lt tblL_len (ros_nil _ _) (by decide) (by decide)
    rw [s2] at this
    exact this) ?_
  refine WL.nilE ?_
  refine WD.takeL 8 rfl (by decide +kernel) ?_
  refine WL.gY rfl rfl ?_
  refine WL.eql rfl rfl rfl ?_
  refine WL.nilT ?_
  refine WD.takeL 9 rfl (by decide +kernel) ?_
  refine WL.pickT rfl rfl rfl ?_
  refine WL.nilT ?_
  refine WD.takeL 10 rfl (by decide +kernel) ?_
  refine WL.mv rfl rfl ?_
  refine WL.nilT ?_
  refine WD.takeL 11 rfl (by decide +kernel) ?_
  refine WL.gY rfl rfl ?_
  refine WL.ixX (T := Ty) (o' := 0) rfl rfl rfl rfl rfl (by omega) (by omega) rfl ?_
  refine WL.nilT ?_
  refine WD.takeL 12 rfl (by decide +kernel) ?_
  refine WL.gY rfl rfl ?_
  refine WL.ldBN (T := Ty) rfl rfl rfl rfl (by assumption) rfl ?_
  refine WL.nilT ?_
  refine WD.takeL 13 rfl (by decide +kernel) ?_
  refine WL.gY rfl rfl ?_
  refine WL.eql rfl rfl rfl ?_
  refine WL.nilT ?_
  refine WD.takeL 14 rfl (by decide +kernel) ?_
  refine WL.pickT rfl rfl rfl ?_
  refine WL.nilT ?_
  refine WD.takeL 15 rfl (by decide +kernel) ?_
  refine WL.mv rfl rfl ?_
  refine WL.nilT ?_
  refine WD.takeL 16 rfl (by decide +kernel) ?_
  refine WL.gY rfl rfl ?_
  refine WL.ixX (T := Ty) (o' := 1) rfl rfl rfl rfl rfl (by omega) (by omega) rfl ?_
  refine WL.nilT ?_
  refine WD.takeL 17 rfl (by decide +kernel) ?_
  refine WL.gY rfl rfl ?_
  refine WL.ldBN (T := Ty) rfl rfl rfl rfl (by assumption) rfl ?_
  refine WL.nilT ?_
  refine WD.oneL 18 rfl (by decide +kernel) ?_
  refine WL.gY rfl rfl ?_
  refine WL.callV rfl rfl (fun x p d => ent_c _ 1 (by decide)) ?_
  refine WL.nilE ?_
  refine WD.takeL 19 rfl (by decide +kernel) ?_
  refine WL.gY rfl rfl ?_
  refine WL.eql rfl rfl rfl ?_
  refine WL.nilT ?_
  refine WD.takeL 20 rfl (by decide +kernel) ?_
  refine WL.pickT rfl rfl rfl ?_
  refine WL.nilT ?_
  refine WD.takeL 21 rfl (by decide +kernel) ?_
  refine WL.as rfl rfl ?_
  refine WL.nilT ?_
  refine WD.doneH hσ (by decide +kernel) ?_
  exact W.ret1 rfl rfl (fun h p => rfl)
end Go.Proofs.Ytimioninoafkhaa
