/- BitsForms. -/
import Derived.Test.YtimioninoafkhaaInn
import Derived.Test.YtimioninoafkhaaNum
import Derived.Test.YtimioninoafkhaaTab
import Derived.Test.YtimioninoafkhaaBitsAwake
set_option linter.unusedSimpArgs false
set_option linter.unusedVariables false
set_option maxRecDepth 20000
set_option maxHeartbeats 4000000
namespace Go.Proofs.Ytimioninoafkhaa
open Go
attribute [local irreducible] W WL Fn Buf ROs SL eptr box Rd Src bndOK WD RB Reads In

def bfCells : List Value := [.int .u64 0, .int .i64 0, .string ⟨#[]⟩, .int .u64 1, .int .i64 1, .string ⟨#[128]⟩, .int .u64 5, .int .i64 3, .string ⟨#[160]⟩, .int .u64 255, .int .i64 8, .string ⟨#[255]⟩,
  .int .u64 255, .int .i64 4, .string ⟨#[240]⟩, .int .u64 4660, .int .i64 16, .string ⟨#[18, 52]⟩, .int .u64 1, .int .i64 9, .string ⟨#[0, 128]⟩,
  .int .u64 18446744073709551615, .int .i64 64, .string ⟨#[255, 255, 255, 255, 255, 255, 255, 255]⟩, .int .u64 9223372036854775808, .int .i64 64, .string ⟨#[128, 0, 0, 0, 0, 0, 0, 0]⟩,
  .int .u64 7, .int .i64 99, .string ⟨#[0, 0, 0, 0, 0, 0, 0, 7]⟩, .int .u64 7, .int .i64 (-3), .string ⟨#[]⟩]
theorem bfRow (k : Nat) (hk : k < 11) : ∃ v n s, (bfCells.drop (k * 3)).take 3 = [.int .u64 v, .int .i64 n, .string s] ∧ 0 ≤ v ∧ v < 18446744073709551616 ∧ strN (pack ([] ++ bitsOf v.toNat (heldF n))) = s := by
  rcases (by omega : k = 0 ∨ k = 1 ∨ k = 2 ∨ k = 3 ∨ k = 4 ∨ k = 5 ∨ k = 6 ∨ k = 7 ∨ k = 8 ∨ k = 9 ∨ k = 10) with rfl | rfl | rfl | rfl | rfl | rfl | rfl | rfl | rfl | rfl | rfl
  all_goals exact ⟨_, _, _, rfl, by decide, by decide, by decide +kernel⟩

theorem BitsForms_fn (ρ : Hp) (a0 : Int) (w0 : (Lit.int .i64 a0).wf = true) :
    Fn Try.prog 11 #[.int .i64 a0] ρ [] (fun r _ => r = .bool true) := by
  refine in11 rfl rfl ?_
  refine W.seq ?_
  refine W.region ?_
  refine WL.as rfl rfl ?_
  refine WL.nil ?_
  refine W.seq ?_
  refine W.region ?_
  refine WL.bd (T := Ty) rfl rfl rfl rfl rfl (by repeat' first | exact FL.nil | apply FL.cons) ?_
  refine WL.bd (T := Ty) rfl rfl rfl rfl rfl (by repeat' first | exact FL.nil | apply FL.cons) ?_
  refine WL.bd (T := Ty) rfl rfl rfl rfl rfl (by repeat' first | exact FL.nil | apply FL.cons) ?_
  refine WL.bd (T := Ty) rfl rfl rfl rfl rfl (by repeat' first | exact FL.nil | apply FL.cons) ?_
  refine WL.bd (T := Ty) rfl rfl rfl rfl rfl (by repeat' first | exact FL.nil | apply FL.cons) ?_
  refine WL.bd (T := Ty) rfl rfl rfl rfl rfl (by repeat' first | exact FL.nil | apply FL.cons) ?_
  refine WL.bd (T := Ty) rfl rfl rfl rfl rfl (by repeat' first | exact FL.nil | apply FL.cons) ?_
  refine WL.bd (T := Ty) rfl rfl rfl rfl rfl (by repeat' first | exact FL.nil | apply FL.cons) ?_
  refine WL.bd (T := Ty) rfl rfl rfl rfl rfl (by repeat' first | exact FL.nil | apply FL.cons) ?_
  refine WL.bd (T := Ty) rfl rfl rfl rfl rfl (by repeat' first | exact FL.nil | apply FL.cons) ?_
  refine WL.bd (T := Ty) rfl rfl rfl rfl rfl (by repeat' first | exact FL.nil | apply FL.cons) ?_
  refine WL.bs (T := Ty) rfl rfl rfl rfl rfl rfl rfl rfl (by repeat' first | exact FL.nil | apply FL.cons) (fun u0 hu0 => ?_)
  refine WL.as rfl rfl ?_
  refine WL.nil ?_
  refine W.seq ?_
  refine W.region ?_
  refine WL.mv rfl rfl ?_
  refine WL.mv rfl rfl ?_
  refine WL.andI rfl rfl rfl (by decide) ?_
  refine WL.mv rfl rfl ?_
  refine WL.len (T := Ty) rfl rfl (by assumption) rfl ?_
  refine WL.remI rfl rfl rfl (by omega) (by omega) ?_
  refine WL.ix (T := Ty) rfl rfl rfl (by assumption) rfl rfl (by omega) (by first | omega | decide +kernel) ?_
  obtain ⟨k, hk, hk11⟩ : ∃ k : Nat, a0 % (255 + 1) % 11 = (k : Int) ∧ k < 11 := ⟨(a0 % (255 + 1) % 11).toNat, by omega, by omega⟩
  obtain ⟨v, n, s, hrow, hv0, hv1, hp⟩ := bfRow k hk11
  have hlen : ((([] ++ bitsOf v.toNat (heldF n)).length : Nat) : Int) = min (max n 0) 64 := by rw [held_eq]; simp [bitsOf_len]
  refine WL.ldAE (T := Ty) (j := 0) (cs := bfCells) (vs := [.int .u64 v, .int .i64 n, .string s]) rfl rfl rfl rfl rfl (by rw [show (a0 % (255 + 1) % ((11 : Nat) : Int)).toNat = k by omega]; exact hrow) rfl ?_
  refine WL.alF (T := Ty) rfl rfl (by repeat' first | exact FL.nil | apply FL.cons) (fun b1 => ?_)
  refine WL.stA (T := Ty) (j := 0) (cs := [.int .u64 v, .int .i64 n, .string s]) rfl rfl rfl rfl (by simp [Value.oneCell']) rfl (by simp) (by repeat' first | exact FL.nil | apply FL.cons) (by repeat' first | exact FL.nil | apply FL.cons) ?_
  refine WL.nil ?_
  refine W.seq ?_
  refine W.region ?_
  refine WL.callF rfl rfl (fun x p d => newWriter_c _) (fun r => ?_)
  refine WL.ex (fun b2 => ?_)
  refine WL.pure (fun er => ?_)
  subst er
  refine WL.as rfl rfl ?_
  refine WL.nil ?_
  refine W.seq ?_
  refine W.seq ?_
  refine W.region ?_
  refine WL.mv rfl rfl ?_
  refine WL.eqP (T := Ty) rfl rfl rfl ?_
  refine WL.nil ?_
  refine W.condF rfl ?_
  refine W.skip ?_
  refine W.seq ?_
  refine W.region ?_
  refine WL.mv rfl rfl ?_
  refine WL.faN (T := Ty) (off' := 0) rfl rfl rfl rfl rfl rfl rfl ?_
  refine WL.ldN (T := Ty) (j := 1) rfl rfl rfl rfl rfl rfl ?_
  refine WL.faN (T := Ty) (off' := 1) rfl rfl rfl rfl rfl rfl rfl ?_
  refine WL.ldN (T := Ty) (j := 1) rfl rfl rfl rfl rfl rfl ?_
  refine WL.callM 0 rfl rfl rfl (fun x p d => put_ci _ _ _ _ _ (by omega) (by omega) (by repeat' first | assumption | exact bok_nil | exact bitsOf_bit _ _ | apply bok_app) (by first | assumption | omega | (simp only [List.length_append, bitsOf_len, List.length_nil, heldF]; omega))) (by repeat' first | exact FL.nil | apply FL.cons) ?_
  refine WL.nil ?_
  refine W.seq ?_
  refine W.drawA 18 rfl (fun σ0 hσ0 dσ0 => ?_)
  have fσ0_0 := in_at 0 rfl hσ0 dσ0
  have fσ0_1 := rb_at 1 rfl hσ0 dσ0
  have fσ0_2 := ros_at 2 rfl hσ0 dσ0
  refine WD.takeL 0 rfl (by decide +kernel) ?_
  refine WL.mv rfl rfl ?_
  refine WL.nilT ?_
  refine WD.takeL 3 rfl (by decide +kernel) ?_
  refine WL.faN (T := Ty) (off' := 2) rfl rfl rfl rfl rfl rfl rfl ?_
  refine WL.nilT ?_
  refine WD.takeL 4 rfl (by decide +kernel) ?_
  refine WL.ldBN (T := Ty) rfl rfl rfl rfl (by first | assumption | exact RB.wide (by assumption)) rfl ?_
  refine WL.nilT ?_
  refine WD.oneL 1 rfl (by decide +kernel) ?_
  refine WL.callF rfl rfl (fun x p d => bytes_c _ _ _ (by first | assumption | exact In.wide (by assumption) | exact In.mono (by assumption) (eqh_at 0 rfl p d) | exact in_at 0 rfl p d | exact in_at 1 rfl p d | exact in_at 2 rfl p d | exact in_at 3 rfl p d | exact in_at 4 rfl p d) (by first | assumption | omega | (simp only [List.length_append, bitsOf_len, List.length_nil, heldF]; omega))) (fun u3 => ?_)
  refine WL.fact (i := 0) rfl (fun h hb => Buf.slm hb) (fun hsl3 => ?_)
  refine WL.nilH hσ0 (fun σ1 hσ1 dσ1 mσ1 => ?_)
  have fσ0_0 := fσ0_0.mono mσ1
  have fσ0_1 := fσ0_1.mono mσ1
  have fσ0_2 := fσ0_2.mono mσ1
  have fσ1_0 := ros_at 0 rfl hσ1 dσ1
  refine WD.takeL 2 rfl (by decide +kernel) ?_
  refine WL.b2sRN (T := Ty) rfl rfl rfl rfl rfl rfl rfl (by assumption) ?_
  refine WL.nilT ?_
  refine WD.takeL 5 rfl (by decide +kernel) ?_
  refine WL.eqST rfl rfl rfl (by first | with_reducible rfl | assumption) ?_
  refine WL.nilT ?_
  refine WD.takeL 6 rfl (by decide +kernel) ?_
  refine WL.mv rfl rfl ?_
  refine WL.nilT ?_
  refine WD.takeL 7 rfl (by decide +kernel) ?_
  refine WL.gY rfl rfl ?_
  refine WL.mv rfl rfl ?_
  refine WL.nilT ?_
  refine WD.takeL 9 rfl (by decide +kernel) ?_
  refine WL.gY rfl rfl ?_
  refine WL.faN (T := Ty) (off' := 1) rfl rfl rfl rfl rfl rfl rfl ?_
  refine WL.nilT ?_
  refine WD.takeL 10 rfl (by decide +kernel) ?_
  refine WL.gY rfl rfl ?_
  refine WL.ldBN (T := Ty) rfl rfl rfl rfl (by first | assumption | exact RB.wide (by assumption)) rfl ?_
  refine WL.nilT ?_
  refine WD.takeL 11 rfl (by decide +kernel) ?_
  refine WL.gY rfl rfl ?_
  refine WL.mx rfl rfl rfl ?_
  refine WL.nilT ?_
  refine WD.takeL 12 rfl (by decide +kernel) ?_
  refine WL.gY rfl rfl ?_
  refine WL.mn rfl rfl rfl ?_
  refine WL.nilT ?_
  refine WD.oneL 8 rfl (by decide +kernel) ?_
  refine WL.gY rfl rfl ?_
  refine WL.callV rfl rfl (fun x p d => len_c _ _ _ (by first | assumption | exact In.wide (by assumption) | exact In.mono (by assumption) (eqh_at 0 rfl p d) | exact in_at 0 rfl p d | exact in_at 1 rfl p d | exact in_at 2 rfl p d | exact in_at 3 rfl p d | exact in_at 4 rfl p d)) ?_
  refine WL.nilE ?_
  refine WD.takeL 13 rfl (by decide +kernel) ?_
  refine WL.gY rfl rfl ?_
  refine WL.eql rfl rfl rfl ?_
  refine WL.nilT ?_
  refine WD.takeL 14 rfl (by decide +kernel) ?_
  refine WL.pickT rfl rfl rfl ?_
  refine WL.nilT ?_
  refine WD.takeL 15 rfl (by decide +kernel) ?_
  refine WL.mv rfl rfl ?_
  refine WL.nilT ?_
  refine WD.oneL 16 rfl (by decide +kernel) ?_
  refine WL.gT rfl rfl (by omega) ?_
  refine WL.callT rfl rfl (fun x p d => awake1_c _) ?_
  refine WL.nilE ?_
  refine WD.takeL 17 rfl (by decide +kernel) ?_
  refine WL.pickTp rfl rfl (by omega) rfl ?_
  refine WL.nilT ?_
  refine WD.lastG hσ1 (by decide +kernel) (by repeat' first | exact FL.nil | apply FL.cons) rfl (by repeat' first | exact FL.nil | apply FL.cons) ?_
  refine WL.as rfl rfl ?_
  refine WL.nil ?_
  exact W.ret1 rfl rfl (fun h p => rfl)
end Go.Proofs.Ytimioninoafkhaa
