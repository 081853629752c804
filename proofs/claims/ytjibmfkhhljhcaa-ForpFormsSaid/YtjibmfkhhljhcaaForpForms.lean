/- ForpForms. -/
import Derived.Test.YtjibmfkhhljhcaaStc
import Derived.Test.YtjibmfkhhljhcaaNum
import Derived.Test.YtjibmfkhhljhcaaTab
import Derived.Test.YtjibmfkhhljhcaaForpAwake
set_option linter.unusedSimpArgs false
set_option linter.unusedVariables false
set_option maxRecDepth 20000
set_option maxHeartbeats 4000000
namespace Go.Proofs.Ytjibmfkhhljhcaa
open Go
attribute [local irreducible] W WL Fn Buf ROs SL eptr box Rd Src bndOK WD RB Reads In

def fpCells : List Value := [.string ⟨#[]⟩, .int .i64 0, .bool true, .string ⟨#[]⟩, .int .i64 1, .bool false, .string ⟨#[5, 0]⟩, .int .i64 0, .bool false, .string ⟨#[5, 0]⟩, .int .i64 1, .bool true, .string ⟨#[5, 0]⟩, .int .i64 9, .bool true, .string ⟨#[5, 1, 64]⟩, .int .i64 2, .bool true, .string ⟨#[5, 1, 0]⟩, .int .i64 2, .bool false, .string ⟨#[5, 1, 192]⟩, .int .i64 2, .bool false, .string ⟨#[5, 1, 96]⟩, .int .i64 2, .bool false, .string ⟨#[5, 65, 0]⟩, .int .i64 1, .bool false, .string ⟨#[5]⟩, .int .i64 1, .bool false, .string ⟨#[5, 2, 48]⟩, .int .i64 2, .bool true, .string ⟨#[5, 2, 16]⟩, .int .i64 2, .bool false, .string ⟨#[5, 0, 0]⟩, .int .i64 1, .bool false, .string ⟨#[0, 64, 0, 0, 0, 0, 0, 0, 0, 0, 255, 255, 255, 255, 255, 255, 255, 255]⟩, .int .i64 2, .bool true, .string ⟨#[1, 64, 0, 0, 0, 0, 0, 0, 0, 0, 255, 255, 255, 255, 255, 255, 255, 255]⟩, .int .i64 2, .bool false]
theorem fpRow (k : Nat) (hk : k < 16) : ∃ s n ok o, (fpCells.drop (k * 3)).take 3 = [.string s, .int .i64 n, .bool ok] ∧ decFp (bytesN s) n = o ∧ ok = o.isSome ∧ s.size ≤ 20 ∧ ∀ vs, o = some vs → (vs.length : Int) = n ∧ strN (encFp vs) = s ∧ vs.length ≤ 70000 := by
  rcases (by omega : k = 0 ∨ k = 1 ∨ k = 2 ∨ k = 3 ∨ k = 4 ∨ k = 5 ∨ k = 6 ∨ k = 7 ∨ k = 8 ∨ k = 9 ∨ k = 10 ∨ k = 11 ∨ k = 12 ∨ k = 13 ∨ k = 14 ∨ k = 15) with rfl | rfl | rfl | rfl | rfl | rfl | rfl | rfl | rfl | rfl | rfl | rfl | rfl | rfl | rfl | rfl
  · exact ⟨_, _, _, some [], rfl, by decide +kernel, rfl, by decide +kernel, fun vs h => by cases h; exact ⟨by decide, by decide +kernel, by decide⟩⟩
  · exact ⟨_, _, _, none, rfl, by decide +kernel, rfl, by decide +kernel, fun vs h => by cases h⟩
  · exact ⟨_, _, _, none, rfl, by decide +kernel, rfl, by decide +kernel, fun vs h => by cases h⟩
  · exact ⟨_, _, _, some [5], rfl, by decide +kernel, rfl, by decide +kernel, fun vs h => by cases h; exact ⟨by decide, by decide +kernel, by decide⟩⟩
  · exact ⟨_, _, _, some [5, 5, 5, 5, 5, 5, 5, 5, 5], rfl, by decide +kernel, rfl, by decide +kernel, fun vs h => by cases h; exact ⟨by decide, by decide +kernel, by decide⟩⟩
  · exact ⟨_, _, _, some [5, 6], rfl, by decide +kernel, rfl, by decide +kernel, fun vs h => by cases h; exact ⟨by decide, by decide +kernel, by decide⟩⟩
  · exact ⟨_, _, _, none, rfl, by decide +kernel, rfl, by decide +kernel, fun vs h => by cases h⟩
  · exact ⟨_, _, _, none, rfl, by decide +kernel, rfl, by decide +kernel, fun vs h => by cases h⟩
  · exact ⟨_, _, _, none, rfl, by decide +kernel, rfl, by decide +kernel, fun vs h => by cases h⟩
  · exact ⟨_, _, _, none, rfl, by decide +kernel, rfl, by decide +kernel, fun vs h => by cases h⟩
  · exact ⟨_, _, _, none, rfl, by decide +kernel, rfl, by decide +kernel, fun vs h => by cases h⟩
  · exact ⟨_, _, _, some [5, 8], rfl, by decide +kernel, rfl, by decide +kernel, fun vs h => by cases h; exact ⟨by decide, by decide +kernel, by decide⟩⟩
  · exact ⟨_, _, _, none, rfl, by decide +kernel, rfl, by decide +kernel, fun vs h => by cases h⟩
  · exact ⟨_, _, _, none, rfl, by decide +kernel, rfl, by decide +kernel, fun vs h => by cases h⟩
  · exact ⟨_, _, _, some [0, 18446744073709551615], rfl, by decide +kernel, rfl, by decide +kernel, fun vs h => by cases h; exact ⟨by decide, by decide +kernel, by decide⟩⟩
  · exact ⟨_, _, _, none, rfl, by decide +kernel, rfl, by decide +kernel, fun vs h => by cases h⟩

theorem ForpForms_fn (ρ : Hp) (a0 : Int) (w0 : (Lit.int .i64 a0).wf = true) :
    Fn Try.prog 3 #[.int .i64 a0] ρ [] (fun r _ => r = .bool true) := by
  refine in3 rfl rfl ?_
  refine W.seq ?_
  refine W.region ?_
  refine WL.as rfl rfl ?_
  refine WL.nil ?_
  refine W.seq ?_
  refine W.region ?_
  refine WL.bdC (T := Ty) rfl rfl rfl rfl (by repeat' first | exact CO.nil | apply CO.one (by first | rfl | exact SL.one (by assumption)) | apply CO.agg) rfl (by repeat' first | exact FL.nil | apply FL.cons) ?_
  refine WL.bdC (T := Ty) rfl rfl rfl rfl (by repeat' first | exact CO.nil | apply CO.one (by first | rfl | exact SL.one (by assumption)) | apply CO.agg) rfl (by repeat' first | exact FL.nil | apply FL.cons) ?_
  refine WL.bdC (T := Ty) rfl rfl rfl rfl (by repeat' first | exact CO.nil | apply CO.one (by first | rfl | exact SL.one (by assumption)) | apply CO.agg) rfl (by repeat' first | exact FL.nil | apply FL.cons) ?_
  refine WL.bdC (T := Ty) rfl rfl rfl rfl (by repeat' first | exact CO.nil | apply CO.one (by first | rfl | exact SL.one (by assumption)) | apply CO.agg) rfl (by repeat' first | exact FL.nil | apply FL.cons) ?_
  refine WL.bdC (T := Ty) rfl rfl rfl rfl (by repeat' first | exact CO.nil | apply CO.one (by first | rfl | exact SL.one (by assumption)) | apply CO.agg) rfl (by repeat' first | exact FL.nil | apply FL.cons) ?_
  refine WL.bdC (T := Ty) rfl rfl rfl rfl (by repeat' first | exact CO.nil | apply CO.one (by first | rfl | exact SL.one (by assumption)) | apply CO.agg) rfl (by repeat' first | exact FL.nil | apply FL.cons) ?_
  refine WL.bdC (T := Ty) rfl rfl rfl rfl (by repeat' first | exact CO.nil | apply CO.one (by first | rfl | exact SL.one (by assumption)) | apply CO.agg) rfl (by repeat' first | exact FL.nil | apply FL.cons) ?_
  refine WL.bdC (T := Ty) rfl rfl rfl rfl (by repeat' first | exact CO.nil | apply CO.one (by first | rfl | exact SL.one (by assumption)) | apply CO.agg) rfl (by repeat' first | exact FL.nil | apply FL.cons) ?_
  refine WL.bdC (T := Ty) rfl rfl rfl rfl (by repeat' first | exact CO.nil | apply CO.one (by first | rfl | exact SL.one (by assumption)) | apply CO.agg) rfl (by repeat' first | exact FL.nil | apply FL.cons) ?_
  refine WL.bdC (T := Ty) rfl rfl rfl rfl (by repeat' first | exact CO.nil | apply CO.one (by first | rfl | exact SL.one (by assumption)) | apply CO.agg) rfl (by repeat' first | exact FL.nil | apply FL.cons) ?_
  refine WL.bdC (T := Ty) rfl rfl rfl rfl (by repeat' first | exact CO.nil | apply CO.one (by first | rfl | exact SL.one (by assumption)) | apply CO.agg) rfl (by repeat' first | exact FL.nil | apply FL.cons) ?_
  refine WL.bdC (T := Ty) rfl rfl rfl rfl (by repeat' first | exact CO.nil | apply CO.one (by first | rfl | exact SL.one (by assumption)) | apply CO.agg) rfl (by repeat' first | exact FL.nil | apply FL.cons) ?_
  refine WL.bdC (T := Ty) rfl rfl rfl rfl (by repeat' first | exact CO.nil | apply CO.one (by first | rfl | exact SL.one (by assumption)) | apply CO.agg) rfl (by repeat' first | exact FL.nil | apply FL.cons) ?_
  refine WL.bdC (T := Ty) rfl rfl rfl rfl (by repeat' first | exact CO.nil | apply CO.one (by first | rfl | exact SL.one (by assumption)) | apply CO.agg) rfl (by repeat' first | exact FL.nil | apply FL.cons) ?_
  refine WL.bdC (T := Ty) rfl rfl rfl rfl (by repeat' first | exact CO.nil | apply CO.one (by first | rfl | exact SL.one (by assumption)) | apply CO.agg) rfl (by repeat' first | exact FL.nil | apply FL.cons) ?_
  refine WL.bdC (T := Ty) rfl rfl rfl rfl (by repeat' first | exact CO.nil | apply CO.one (by first | rfl | exact SL.one (by assumption)) | apply CO.agg) rfl (by repeat' first | exact FL.nil | apply FL.cons) ?_
  refine WL.bsC (T := Ty) rfl rfl rfl rfl rfl rfl rfl (by repeat' first | exact CO.nil | apply CO.one (by first | rfl | exact SL.one (by assumption)) | apply CO.agg) rfl (by repeat' first | exact FL.nil | apply FL.cons) (fun u0 hu0 => ?_)
  refine WL.as rfl rfl ?_
  refine WL.nil ?_
  refine W.seq ?_
  refine W.region ?_
  refine WL.mv rfl rfl ?_
  refine WL.mv rfl rfl ?_
  refine WL.andI rfl rfl rfl (by decide) ?_
  refine WL.mv rfl rfl ?_
  refine WL.len (T := Ty) rfl rfl (by assumption) rfl ?_
  refine WL.remI rfl rfl rfl (by omega) (by omega) ?_
  refine WL.ix (T := Ty) rfl rfl rfl (by assumption) rfl rfl (by omega) (by first | omega | decide +kernel) ?_
  obtain ⟨k, hk, hk16⟩ : ∃ k : Nat, a0 % (255 + 1) % 16 = (k : Int) ∧ k < 16 := ⟨(a0 % (255 + 1) % 16).toNat, by omega, by omega⟩
  obtain ⟨s, n, ok, o, hrow, hdec, hok, hsz, hvs⟩ := fpRow k hk16
  refine WL.ldAE (T := Ty) (j := 0) (cs := fpCells) (vs := [.string s, .int .i64 n, .bool ok]) rfl rfl rfl rfl rfl (by rw [show (a0 % (255 + 1) % ((16 : Nat) : Int)).toNat = k by omega]; exact hrow) rfl ?_
  refine WL.alF (T := Ty) rfl rfl (by repeat' first | exact FL.nil | apply FL.cons) (fun b1 => ?_)
  refine WL.stAO (T := Ty) (j := 0) rfl rfl rfl rfl (by repeat' first | exact AO.nil | apply AO.cons (by first | rfl | exact SL.one (by assumption))) rfl rfl (by repeat' first | exact FL.nil | apply FL.cons) (by repeat' first | exact FL.nil | apply FL.cons) ?_
  refine WL.nil ?_
  refine W.seq ?_
  refine W.region ?_
  refine WL.faN (T := Ty) (off' := 0) rfl rfl rfl rfl rfl rfl rfl ?_
  refine WL.ldN (T := Ty) (j := 0) rfl rfl rfl rfl rfl rfl ?_
  refine WL.s2bN (T := Ty) rfl rfl rfl rfl rfl rfl (by first | assumption | omega | decide +kernel) (fun u2 hu2 => ?_)
  refine WL.faN (T := Ty) (off' := 1) rfl rfl rfl rfl rfl rfl rfl ?_
  refine WL.ldN (T := Ty) (j := 1) rfl rfl rfl rfl rfl rfl ?_
  subst hok
  have hbs := bytesN_len s
  have hbl := bytesN_lt s
  have hbm : (bytesN s).length ≤ 140737488355328 := by omega
  have hsm : s.size ≤ 140737488355328 := by omega
  cases o with
  | none =>
    refine WL.callF rfl rfl (fun x p d => fpdec_n _ _ _ _ (by first | assumption | exact ROs.wide (by assumption) | exact ROs.mono (by assumption) (eqh_at 0 rfl p d) | exact ros_at 0 rfl p d | exact ros_at 1 rfl p d | exact ros_at 2 rfl p d | exact ros_at 3 rfl p d | exact ros_at 4 rfl p d) (by assumption) (by first | assumption | omega | decide) (by first | assumption | omega | decide)) (fun r => ?_)
    refine WL.ex (fun u3 => ?_)
    refine WL.pure (fun er => ?_)
    subst er
    refine WL.fact (i := 0) rfl (fun h hb => Buf.slm hb) (fun hsl3 => ?_)
    refine WL.mv rfl rfl ?_
    refine WL.extL rfl rfl rfl ?_
    refine WL.extL rfl rfl rfl ?_
    refine WL.as rfl rfl ?_
    refine WL.as rfl rfl ?_
    refine WL.nil ?_
    refine W.seq ?_
    refine W.drawA 34 rfl (fun σ0 hσ0 dσ0 => ?_)
    have fσ0_0 := ros_at 0 rfl hσ0 dσ0
    have fσ0_1 := ros_at 1 rfl hσ0 dσ0
    have fσ0_2 := rb_at 2 rfl hσ0 dσ0
    have fσ0_3 := ros_at 3 rfl hσ0 dσ0
    refine WD.takeL 0 rfl (by decide +kernel) ?_
    refine WL.mv rfl rfl ?_
    refine WL.nilT ?_
    refine WD.takeL 1 rfl (by decide +kernel) ?_
    refine WL.faN (T := Ty) (off' := 2) rfl rfl rfl rfl rfl rfl rfl ?_
    refine WL.nilT ?_
    refine WD.takeL 2 rfl (by decide +kernel) ?_
    refine WL.ldBN (T := Ty) rfl rfl rfl rfl (by first | assumption | exact RB.wide (by assumption) | exact In.rb (by assumption)) rfl ?_
    refine WL.nilT ?_
    refine WD.takeL 3 rfl (by decide +kernel) ?_
    refine WL.eqB (T := Ty) rfl rfl rfl rfl ?_
    refine WL.nilT ?_
    refine WD.takeL 4 rfl (by decide +kernel) ?_
    refine WL.mv rfl rfl ?_
    refine WL.nilT ?_
    refine WD.takeL 5 rfl (by decide +kernel) ?_
    refine WL.gY rfl rfl ?_
    refine WL.mv rfl rfl ?_
    refine WL.nilT ?_
    refine WD.takeL 6 rfl (by decide +kernel) ?_
    refine WL.gY rfl rfl ?_
    refine WL.not rfl rfl ?_
    refine WL.nilT ?_
    refine WD.takeL 7 rfl (by decide +kernel) ?_
    refine WL.gY rfl rfl ?_
    refine WL.mv rfl rfl ?_
    refine WL.nilT ?_
    refine WD.takeL 8 rfl (by decide +kernel) ?_
    refine WL.gY rfl rfl ?_
    refine WL.mv rfl rfl ?_
    refine WL.nilT ?_
    refine WD.takeL 9 rfl (by decide +kernel) ?_
    refine WL.gY rfl rfl ?_
    refine WL.len (T := Ty) rfl rfl (by assumption) rfl ?_
    refine WL.nilT ?_
    refine WD.takeL 10 rfl (by decide +kernel) ?_
    refine WL.gY rfl rfl ?_
    refine WL.eql rfl rfl rfl ?_
    refine WL.nilT ?_
    refine WD.takeL 11 rfl (by decide +kernel) ?_
    refine WL.gY rfl rfl ?_
    refine WL.pickT rfl rfl rfl ?_
    refine WL.nilT ?_
    refine WD.takeL 12 rfl (by decide +kernel) ?_
    refine WL.gY rfl rfl ?_
    refine WL.mv rfl rfl ?_
    refine WL.nilT ?_
    refine WD.takeL 13 rfl (by decide +kernel) ?_
    refine WL.gdN rfl rfl rfl rfl rfl rfl ?_
    refine WL.nilT ?_
    refine WD.takeL 14 rfl (by decide +kernel) ?_
    refine WL.gdN rfl rfl rfl rfl rfl rfl ?_
    refine WL.nilT ?_
    refine WD.takeL 15 rfl (by decide +kernel) ?_
    refine WL.gdU rfl rfl rfl rfl rfl ?_
    refine WL.nilT ?_
    refine WD.takeL 16 rfl (by decide +kernel) ?_
    refine WL.gdU rfl rfl rfl rfl rfl ?_
    refine WL.nilT ?_
    refine WD.takeL 17 rfl (by decide +kernel) ?_
    refine WL.gdU rfl rfl rfl rfl rfl ?_
    refine WL.nilT ?_
    refine WD.takeL 18 rfl (by decide +kernel) ?_
    refine WL.gdU rfl rfl rfl rfl rfl ?_
    refine WL.nilT ?_
    refine WD.takeL 19 rfl (by decide +kernel) ?_
    refine WL.gdU rfl rfl rfl rfl rfl ?_
    refine WL.nilT ?_
    refine WD.takeL 20 rfl (by decide +kernel) ?_
    refine WL.gdN rfl rfl rfl rfl rfl rfl ?_
    refine WL.nilT ?_
    refine WD.takeL 21 rfl (by decide +kernel) ?_
    refine WL.gdN rfl rfl rfl rfl rfl rfl ?_
    refine WL.nilT ?_
    refine WD.takeL 22 rfl (by decide +kernel) ?_
    refine WL.gdU rfl rfl rfl rfl rfl ?_
    refine WL.nilT ?_
    refine WD.takeL 25 rfl (by decide +kernel) ?_
    refine WL.gdU rfl rfl rfl rfl rfl ?_
    refine WL.nilT ?_
    refine WD.takeL 26 rfl (by decide +kernel) ?_
    refine WL.gdU rfl rfl rfl rfl rfl ?_
    refine WL.nilT ?_
    refine WD.takeL 23 rfl (by decide +kernel) ?_
    refine WL.gdU rfl rfl rfl rfl rfl ?_
    refine WL.nilT ?_
    refine WD.takeL 24 rfl (by decide +kernel) ?_
    refine WL.gdU rfl rfl rfl rfl rfl ?_
    refine WL.nilT ?_
    refine WD.takeL 27 rfl (by decide +kernel) ?_
    refine WL.gdU rfl rfl rfl rfl rfl ?_
    refine WL.nilT ?_
    refine WD.takeL 28 rfl (by decide +kernel) ?_
    refine WL.gdN rfl rfl rfl rfl rfl rfl ?_
    refine WL.nilT ?_
    refine WD.takeL 29 rfl (by decide +kernel) ?_
    refine WL.gY rfl rfl ?_
    refine WL.pickT rfl rfl rfl ?_
    refine WL.nilT ?_
    refine WD.takeL 30 rfl (by decide +kernel) ?_
    refine WL.pickT rfl rfl rfl ?_
    refine WL.nilT ?_
    refine WD.takeL 31 rfl (by decide +kernel) ?_
    refine WL.mv rfl rfl ?_
    refine WL.nilT ?_
    refine WD.oneL 32 rfl (by decide +kernel) ?_
    refine WL.gY rfl rfl ?_
    refine WL.callT rfl rfl (fun x p d => awake8_c _) ?_
    refine WL.nilE ?_
    refine WD.takeL 33 rfl (by decide +kernel) ?_
    refine WL.pickT rfl rfl rfl ?_
    refine WL.nilT ?_
    refine WD.lastG hσ0 (by decide +kernel) (by repeat' first | exact FL.nil | apply FL.cons) rfl (by repeat' first | exact FL.nil | apply FL.cons) ?_
    refine WL.as rfl rfl ?_
    refine WL.nil ?_
    exact W.ret1 rfl rfl (fun h p => rfl)
  | some vs =>
    obtain ⟨hn, hstr, hvl⟩ := hvs vs rfl
    obtain ⟨hl, hw⟩ := decFp_ok hdec
    have hm := heldM_le n
    refine WL.callF rfl rfl (fun x p d => fpdec_s _ _ _ _ (by first | assumption | exact ROs.wide (by assumption) | exact ROs.mono (by assumption) (eqh_at 0 rfl p d) | exact ros_at 0 rfl p d | exact ros_at 1 rfl p d | exact ros_at 2 rfl p d | exact ros_at 3 rfl p d | exact ros_at 4 rfl p d) (by assumption) (by first | assumption | omega | decide) (by first | assumption | omega | decide)) (fun r => ?_)
    refine WL.ex (fun u3 => ?_)
    refine WL.pure (fun er => ?_)
    subst er
    refine WL.fact (i := 0) rfl (fun h hb => Buf.slm hb) (fun hsl3 => ?_)
    refine WL.mv rfl rfl ?_
    refine WL.extL rfl rfl rfl ?_
    refine WL.extL rfl rfl rfl ?_
    refine WL.as rfl rfl ?_
    refine WL.as rfl rfl ?_
    refine WL.nil ?_
    refine W.seq ?_
    refine W.drawA 34 rfl (fun σ0 hσ0 dσ0 => ?_)
    have fσ0_0 := ros_at 0 rfl hσ0 dσ0
    have fσ0_1 := ros_at 1 rfl hσ0 dσ0
    have fσ0_2 := rb_at 2 rfl hσ0 dσ0
    have fσ0_3 := ros_at 3 rfl hσ0 dσ0
    refine WD.takeL 0 rfl (by decide +kernel) ?_
    refine WL.mv rfl rfl ?_
    refine WL.nilT ?_
    refine WD.takeL 1 rfl (by decide +kernel) ?_
    refine WL.faN (T := Ty) (off' := 2) rfl rfl rfl rfl rfl rfl rfl ?_
    refine WL.nilT ?_
    refine WD.takeL 2 rfl (by decide +kernel) ?_
    refine WL.ldBN (T := Ty) rfl rfl rfl rfl (by first | assumption | exact RB.wide (by assumption) | exact In.rb (by assumption)) rfl ?_
    refine WL.nilT ?_
    refine WD.takeL 3 rfl (by decide +kernel) ?_
    refine WL.eqB (T := Ty) rfl rfl rfl rfl ?_
    refine WL.nilT ?_
    refine WD.takeL 4 rfl (by decide +kernel) ?_
    refine WL.mv rfl rfl ?_
    refine WL.nilT ?_
    refine WD.takeL 5 rfl (by decide +kernel) ?_
    refine WL.gY rfl rfl ?_
    refine WL.mv rfl rfl ?_
    refine WL.nilT ?_
    refine WD.takeL 6 rfl (by decide +kernel) ?_
    refine WL.gY rfl rfl ?_
    refine WL.not rfl rfl ?_
    refine WL.nilT ?_
    refine WD.takeL 7 rfl (by decide +kernel) ?_
    refine WL.gY rfl rfl ?_
    refine WL.mv rfl rfl ?_
    refine WL.nilT ?_
    refine WD.takeL 8 rfl (by decide +kernel) ?_
    refine WL.gdN rfl rfl rfl rfl rfl rfl ?_
    refine WL.nilT ?_
    refine WD.takeL 9 rfl (by decide +kernel) ?_
    refine WL.gdN rfl rfl rfl rfl rfl rfl ?_
    refine WL.nilT ?_
    refine WD.takeL 10 rfl (by decide +kernel) ?_
    refine WL.gdN rfl rfl rfl rfl rfl rfl ?_
    refine WL.nilT ?_
    refine WD.takeL 11 rfl (by decide +kernel) ?_
    refine WL.gY rfl rfl ?_
    refine WL.pickF rfl rfl rfl ?_
    refine WL.nilT ?_
    refine WD.takeL 12 rfl (by decide +kernel) ?_
    refine WL.gY rfl rfl ?_
    refine WL.mv rfl rfl ?_
    refine WL.nilT ?_
    refine WD.takeL 13 rfl (by decide +kernel) ?_
    refine WL.gY rfl rfl ?_
    refine WL.mv rfl rfl ?_
    refine WL.nilT ?_
    refine WD.takeL 14 rfl (by decide +kernel) ?_
    refine WL.gY rfl rfl ?_
    refine WL.mv rfl rfl ?_
    refine WL.nilT ?_
    refine WD.takeL 15 rfl (by decide +kernel) ?_
    refine WL.gY rfl rfl ?_
    refine WL.mv rfl rfl ?_
    refine WL.nilT ?_
    refine WD.takeL 16 rfl (by decide +kernel) ?_
    refine WL.gY rfl rfl ?_
    refine WL.len (T := Ty) rfl rfl (by assumption) rfl ?_
    refine WL.nilT ?_
    refine WD.takeL 17 rfl (by decide +kernel) ?_
    refine WL.gY rfl rfl ?_
    refine WL.faN (T := Ty) (off' := 1) rfl rfl rfl rfl rfl rfl rfl ?_
    refine WL.nilT ?_
    refine WD.takeL 18 rfl (by decide +kernel) ?_
    refine WL.gY rfl rfl ?_
    refine WL.ldBN (T := Ty) rfl rfl rfl rfl (by first | assumption | exact RB.wide (by assumption) | exact In.rb (by assumption)) rfl ?_
    refine WL.nilT ?_
    refine WD.takeL 19 rfl (by decide +kernel) ?_
    refine WL.gY rfl rfl ?_
    refine WL.eql rfl rfl rfl ?_
    refine WL.nilT ?_
    refine WD.takeL 20 rfl (by decide +kernel) ?_
    refine WL.gY rfl rfl ?_
    refine WL.pickT rfl rfl rfl ?_
    refine WL.nilT ?_
    refine WD.takeL 21 rfl (by decide +kernel) ?_
    refine WL.gY rfl rfl ?_
    refine WL.mv rfl rfl ?_
    refine WL.nilT ?_
    refine WD.takeL 22 rfl (by decide +kernel) ?_
    refine WL.gT rfl rfl (by omega) ?_
    refine WL.mv rfl rfl ?_
    refine WL.nilT ?_
    refine WD.takeL 25 rfl (by decide +kernel) ?_
    refine WL.gT rfl rfl (by omega) ?_
    refine WL.faN (T := Ty) (off' := 0) rfl rfl rfl rfl rfl rfl rfl ?_
    refine WL.nilT ?_
    refine WD.takeL 26 rfl (by decide +kernel) ?_
    refine WL.gT rfl rfl (by omega) ?_
    refine WL.ldBN (T := Ty) rfl rfl rfl rfl (by first | assumption | exact RB.wide (by assumption) | exact In.rb (by assumption)) rfl ?_
    refine WL.nilT ?_
    refine WD.oneL 23 rfl (by decide +kernel) ?_
    refine WL.gT rfl rfl (by omega) ?_
    refine WL.callF rfl rfl (fun x p d => fpenc_c _ _ _ (by first | assumption | exact ROs.wide (by assumption) | exact ROs.mono (by assumption) (eqh_at 0 rfl p d) | exact ros_at 0 rfl p d | exact ros_at 1 rfl p d | exact ros_at 2 rfl p d | exact ros_at 3 rfl p d | exact ros_at 4 rfl p d) (by first | assumption | omega | decide) (by first | assumption | omega | decide)) (fun u4 => ?_)
    refine WL.fact (i := 0) rfl (fun h hb => Buf.slm hb) (fun hsl4 => ?_)
    refine WL.nilH hσ0 (fun σ1 hσ1 dσ1 mσ1 => ?_)
    have fσ0_0 := fσ0_0.mono mσ1
    have fσ0_1 := fσ0_1.mono mσ1
    have fσ0_2 := fσ0_2.mono mσ1
    have fσ0_3 := fσ0_3.mono mσ1
    have fσ1_0 := ros_at 0 rfl hσ1 dσ1
    refine WD.takeL 24 rfl (by decide +kernel) ?_
    refine WL.gT rfl rfl (by omega) ?_
    refine WL.b2sRN (T := Ty) rfl rfl rfl rfl rfl rfl rfl (by assumption) ?_
    refine WL.nilT ?_
    refine WD.takeL 27 rfl (by decide +kernel) ?_
    refine WL.gT rfl rfl (by omega) ?_
    refine WL.eqST rfl rfl rfl (by first | with_reducible rfl | assumption) ?_
    refine WL.nilT ?_
    refine WD.takeL 28 rfl (by decide +kernel) ?_
    refine WL.gY rfl rfl ?_
    refine WL.pickTp rfl rfl (by omega) rfl ?_
    refine WL.nilT ?_
    refine WD.takeL 29 rfl (by decide +kernel) ?_
    refine WL.gY rfl rfl ?_
    refine WL.pickF rfl rfl rfl ?_
    refine WL.nilT ?_
    refine WD.takeL 30 rfl (by decide +kernel) ?_
    refine WL.pickT rfl rfl rfl ?_
    refine WL.nilT ?_
    refine WD.takeL 31 rfl (by decide +kernel) ?_
    refine WL.mv rfl rfl ?_
    refine WL.nilT ?_
    refine WD.oneL 32 rfl (by decide +kernel) ?_
    refine WL.gY rfl rfl ?_
    refine WL.callT rfl rfl (fun x p d => awake8_c _) ?_
    refine WL.nilE ?_
    refine WD.takeL 33 rfl (by decide +kernel) ?_
    refine WL.pickT rfl rfl rfl ?_
    refine WL.nilT ?_
    refine WD.lastG hσ1 (by decide +kernel) (by repeat' first | exact FL.nil | apply FL.cons) rfl (by repeat' first | exact FL.nil | apply FL.cons) ?_
    refine WL.as rfl rfl ?_
    refine WL.nil ?_
    exact W.ret1 rfl rfl (fun h p => rfl)
end Go.Proofs.Ytjibmfkhhljhcaa
