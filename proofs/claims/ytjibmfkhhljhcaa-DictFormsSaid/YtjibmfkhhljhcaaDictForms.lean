/- DictForms. -/
import Derived.Test.YtjibmfkhhljhcaaStc
import Derived.Test.YtjibmfkhhljhcaaNum
import Derived.Test.YtjibmfkhhljhcaaTab
import Derived.Test.YtjibmfkhhljhcaaDictAwake
set_option linter.unusedSimpArgs false
set_option linter.unusedVariables false
set_option maxRecDepth 20000
set_option maxHeartbeats 4000000
namespace Go.Proofs.Ytjibmfkhhljhcaa
open Go
attribute [local irreducible] W WL Fn Buf ROs SL eptr box Rd Src bndOK WD RB Reads In

def dcCells : List Value := [.string ⟨#[]⟩, .int .i64 0, .bool true, .string ⟨#[]⟩, .int .i64 1, .bool false, .string ⟨#[1, 5]⟩, .int .i64 0, .bool false, .string ⟨#[1, 5]⟩, .int .i64 1, .bool true, .string ⟨#[1, 5]⟩, .int .i64 9, .bool true, .string ⟨#[2, 5, 9, 64]⟩, .int .i64 2, .bool true, .string ⟨#[2, 5, 9, 128]⟩, .int .i64 2, .bool false, .string ⟨#[2, 5, 9, 0]⟩, .int .i64 2, .bool false, .string ⟨#[2, 5, 5, 64]⟩, .int .i64 2, .bool false, .string ⟨#[2, 5, 9, 96]⟩, .int .i64 2, .bool false, .string ⟨#[0]⟩, .int .i64 1, .bool false, .string ⟨#[3, 5, 6, 7, 24]⟩, .int .i64 3, .bool true, .string ⟨#[3, 5, 6, 7, 28]⟩, .int .i64 3, .bool false, .string ⟨#[129, 2, 5]⟩, .int .i64 1, .bool false, .string ⟨#[1, 5, 0]⟩, .int .i64 1, .bool false, .string ⟨#[2, 5]⟩, .int .i64 2, .bool false]
theorem dcRow (k : Nat) (hk : k < 16) : ∃ s n ok o, (dcCells.drop (k * 3)).take 3 = [.string s, .int .i64 n, .bool ok] ∧ decD (bytesN s) n = o ∧ ok = o.isSome ∧ s.size ≤ 20 ∧ ∀ vs, o = some vs → (vs.length : Int) = n ∧ (∃ bs, encD vs = some bs ∧ strN bs = s) ∧ vs.length ≤ 70000 := by
  rcases (by omega : k = 0 ∨ k = 1 ∨ k = 2 ∨ k = 3 ∨ k = 4 ∨ k = 5 ∨ k = 6 ∨ k = 7 ∨ k = 8 ∨ k = 9 ∨ k = 10 ∨ k = 11 ∨ k = 12 ∨ k = 13 ∨ k = 14 ∨ k = 15) with rfl | rfl | rfl | rfl | rfl | rfl | rfl | rfl | rfl | rfl | rfl | rfl | rfl | rfl | rfl | rfl
  · exact ⟨_, _, _, some [], rfl, by decide +kernel, rfl, by decide +kernel, fun vs h => by cases h; exact ⟨by decide, ⟨[], by decide +kernel, by decide +kernel⟩, by decide⟩⟩
  · exact ⟨_, _, _, none, rfl, by decide +kernel, rfl, by decide +kernel, fun vs h => by cases h⟩
  · exact ⟨_, _, _, none, rfl, by decide +kernel, rfl, by decide +kernel, fun vs h => by cases h⟩
  · exact ⟨_, _, _, some [5], rfl, by decide +kernel, rfl, by decide +kernel, fun vs h => by cases h; exact ⟨by decide, ⟨[1, 5], by decide +kernel, by decide +kernel⟩, by decide⟩⟩
  · exact ⟨_, _, _, some [5, 5, 5, 5, 5, 5, 5, 5, 5], rfl, by decide +kernel, rfl, by decide +kernel, fun vs h => by cases h; exact ⟨by decide, ⟨[1, 5], by decide +kernel, by decide +kernel⟩, by decide⟩⟩
  · exact ⟨_, _, _, some [5, 9], rfl, by decide +kernel, rfl, by decide +kernel, fun vs h => by cases h; exact ⟨by decide, ⟨[2, 5, 9, 64], by decide +kernel, by decide +kernel⟩, by decide⟩⟩
  · exact ⟨_, _, _, none, rfl, by decide +kernel, rfl, by decide +kernel, fun vs h => by cases h⟩
  · exact ⟨_, _, _, none, rfl, by decide +kernel, rfl, by decide +kernel, fun vs h => by cases h⟩
  · exact ⟨_, _, _, none, rfl, by decide +kernel, rfl, by decide +kernel, fun vs h => by cases h⟩
  · exact ⟨_, _, _, none, rfl, by decide +kernel, rfl, by decide +kernel, fun vs h => by cases h⟩
  · exact ⟨_, _, _, none, rfl, by decide +kernel, rfl, by decide +kernel, fun vs h => by cases h⟩
  · exact ⟨_, _, _, some [5, 6, 7], rfl, by decide +kernel, rfl, by decide +kernel, fun vs h => by cases h; exact ⟨by decide, ⟨[3, 5, 6, 7, 24], by decide +kernel, by decide +kernel⟩, by decide⟩⟩
  · exact ⟨_, _, _, none, rfl, by decide +kernel, rfl, by decide +kernel, fun vs h => by cases h⟩
  · exact ⟨_, _, _, none, rfl, by decide +kernel, rfl, by decide +kernel, fun vs h => by cases h⟩
  · exact ⟨_, _, _, none, rfl, by decide +kernel, rfl, by decide +kernel, fun vs h => by cases h⟩
  · exact ⟨_, _, _, none, rfl, by decide +kernel, rfl, by decide +kernel, fun vs h => by cases h⟩

theorem DictForms_fn (ρ : Hp) (a0 : Int) (w0 : (Lit.int .i64 a0).wf = true) :
    Fn Try.prog 7 #[.int .i64 a0] ρ [] (fun r _ => r = .bool true) := by
  refine in7 rfl rfl ?_
  refine W.seq ?_
  refine W.region ?_
  refine WL.as rfl rfl ?_
  refine WL.nil ?_
  refine W.seq ?_
  refine W.region ?_
  refine WL.bdC (T := Ty) rfl rfl rfl rfl (by repeat' first | exact CO.nil | apply CO.one (by first | rfl | exact SL.one (by assumption)) | apply CO.agg) rfl (by repeat' first | exact FL.nil | apply FL.cons) ?_
  refine WL.bdC (T := Ty) rfl rfl rfl rfl (by repeat' first | exact CO.nil | apply CO.one (by first | rfl | exact SL.one (by assumption)) | apply CO.agg) rfl (by repeat' first | exact FL.nil | apply FL.cons) ?_
  refine WL.bdC (T := Ty) rfl rfl rfl rfl (by repeat' first | exact CO.nil | apply CO.one (by first | rfl | exact SL.one (by assumption)) | apply CO.agg) rfl (by repeat' first | exact FL.nil | apply FL.cons) ?_
  refine WL.bdC (T := Ty) rfl rfl rfl rfl (by repeat' first | exact CO.nil | apply CO.one (by first | rfl | exact SL.one (by assumption)) | apply CO.agg) rfl (by repeat' first | exact FL.nil | apply FL.cons) ?_
  refine WL.bdC (T := Ty) rfl rfl rfl rfl (by repeat' first | exact CO.nil | apply CO.one (by first | rfl | exact SL.one (by assumption)) | apply CO.agg) rfl (by repeat' first | exact FL.nil | apply FL.cons) ?_
  refine WL.bdC (T := Ty) rfl rfl rfl rfl (by repeat' first | exact CO.nil | apply CO.one (by first | rfl | exact SL.one (by assumption)) | apply CO.agg) rfl (by repeat' first | exact FL.nil | apply FL.cons) ?_
  refine WL.bdC (T := Ty) rfl rfl rfl rfl (by repeat' first | exact CO.nil | apply CO.one (by first | rfl | exact SL.one (by assumption)) | apply CO.agg) rfl (by repeat' first | exact FL.nil | apply FL.cons) ?_
  refine WL.bdC (T := Ty) rfl rfl rfl rfl (by repeat' first | exact CO.nil | apply CO.one (by first | rfl | exact SL.one (by assumption)) | apply CO.agg) rfl (by repeat' first | exact FL.nil | apply FL.cons) ?_
  refine WL.bdC (T := Ty) rfl rfl rfl rfl (by repeat' first | exact CO.nil | apply CO.one (by first | rfl | exact SL.one (by assumption)) | apply CO.agg) rfl (by repeat' first | exact FL.nil | apply FL.cons) ?_
  refine WL.bdC (T := Ty) rfl rfl rfl rfl (by repeat' first | exact CO.nil | apply CO.one (by first | rfl | exact SL.one (by assumption)) | apply CO.agg) rfl (by repeat' first | exact FL.nil | apply FL.cons) ?_
  refine WL.bdC (T := Ty) rfl rfl rfl rfl (by repeat' first | exact CO.nil | apply CO.one (by first | rfl | exact SL.one (by assumption)) | apply CO.agg) rfl (by repeat' first | exact FL.nil | apply FL.cons) ?_
  refine WL.bdC (T := Ty) rfl rfl rfl rfl (by repeat' first | exact CO.nil | apply CO.one (by first | rfl | exact SL.one (by assumption)) | apply CO.agg) rfl (by repeat' first | exact FL.nil | apply FL.cons) ?_
  refine WL.bdC (T := Ty) rfl rfl rfl rfl (by repeat' first | exact CO.nil | apply CO.one (by first | rfl | exact SL.one (by assumption)) | apply CO.agg) rfl (by repeat' first | exact FL.nil | apply FL.cons) ?_
  refine WL.bdC (T := Ty) rfl rfl rfl rfl (by repeat' first | exact CO.nil | apply CO.one (by first | rfl | exact SL.one (by assumption)) | apply CO.agg) rfl (by repeat' first | exact FL.nil | apply FL.cons) ?_
  refine WL.bdC (T := Ty) rfl rfl rfl rfl (by repeat' first | exact CO.nil | apply CO.one (by first | rfl | exact SL.one (by assumption)) | apply CO.agg) rfl (by repeat' first | exact FL.nil | apply FL.cons) ?_
  refine WL.bdC (T := Ty) rfl rfl rfl rfl (by repeat' first | exact CO.nil | apply CO.one (by first | rfl | exact SL.one (by assumption)) | apply CO.agg) rfl (by repeat' first | exact FL.nil | apply FL.cons) ?_
  refine WL.bsC (T := Ty) rfl rfl rfl rfl rfl rfl rfl (by repeat' first | exact CO.nil | apply CO.one (by first | rfl | exact SL.one (by assumption)) | apply CO.agg) rfl (by repeat' first | exact FL.nil | apply FL.cons) (fun u0 hu0 => ?_)
  refine WL.as rfl rfl ?_
  refine WL.nil ?_
  refine W.seq ?_
  refine W.region ?_
  refine WL.mv rfl rfl ?_
  refine WL.mv rfl rfl ?_
  refine WL.andI rfl rfl rfl (by decide) ?_
  refine WL.mv rfl rfl ?_
  refine WL.len (T := Ty) rfl rfl (by assumption) rfl ?_
  refine WL.remI rfl rfl rfl (by omega) (by omega) ?_
  refine WL.ix (T := Ty) rfl rfl rfl (by assumption) rfl rfl (by omega) (by first | omega | decide +kernel) ?_
  obtain ⟨k, hk, hk16⟩ : ∃ k : Nat, a0 % (255 + 1) % 16 = (k : Int) ∧ k < 16 := ⟨(a0 % (255 + 1) % 16).toNat, by omega, by omega⟩
  obtain ⟨s, n, ok, o, hrow, hdec, hok, hsz, hvs⟩ := dcRow k hk16
  refine WL.ldAE (T := Ty) (j := 0) (cs := dcCells) (vs := [.string s, .int .i64 n, .bool ok]) rfl rfl rfl rfl rfl (by rw [show (a0 % (255 + 1) % ((16 : Nat) : Int)).toNat = k by omega]; exact hrow) rfl ?_
  refine WL.alF (T := Ty) rfl rfl (by repeat' first | exact FL.nil | apply FL.cons) (fun b1 => ?_)
  refine WL.stAO (T := Ty) (j := 0) rfl rfl rfl rfl (by repeat' first | exact AO.nil | apply AO.cons (by first | rfl | exact SL.one (by assumption))) rfl rfl (by repeat' first | exact FL.nil | apply FL.cons) (by repeat' first | exact FL.nil | apply FL.cons) ?_
  refine WL.nil ?_
  refine W.seq ?_
  refine W.region ?_
  refine WL.faN (T := Ty) (off' := 0) rfl rfl rfl rfl rfl rfl rfl ?_
  refine WL.ldN (T := Ty) (j := 0) rfl rfl rfl rfl rfl rfl ?_
  refine WL.s2bN (T := Ty) rfl rfl rfl rfl rfl rfl (by first | assumption | omega | decide +kernel) (fun u2 hu2 => ?_)
  refine WL.faN (T := Ty) (off' := 1) rfl rfl rfl rfl rfl rfl rfl ?_
  refine WL.ldN (T := Ty) (j := 1) rfl rfl rfl rfl rfl rfl ?_
  subst hok
  have hbs := bytesN_len s
  have hbl := bytesN_lt s
  have hbm : (bytesN s).length ≤ 140737488355328 := by omega
  have hsm : s.size ≤ 140737488355328 := by omega
  cases o with
  | none =>
    refine WL.callF rfl rfl (fun x p d => ddec_n _ _ _ _ (by first | assumption | exact ROs.wide (by assumption) | exact ROs.mono (by assumption) (eqh_at 0 rfl p d) | exact ros_at 0 rfl p d | exact ros_at 1 rfl p d | exact ros_at 2 rfl p d | exact ros_at 3 rfl p d | exact ros_at 4 rfl p d) (by assumption) (by first | assumption | omega | decide) (by first | assumption | omega | decide)) (fun r => ?_)
    refine WL.ex (fun u3 => ?_)
    refine WL.pure (fun er => ?_)
    subst er
    refine WL.fact (i := 0) rfl (fun h hb => Buf.slm hb) (fun hsl3 => ?_)
    refine WL.mv rfl rfl ?_
    refine WL.extL rfl rfl rfl ?_
    refine WL.extL rfl rfl rfl ?_
    refine WL.as rfl rfl ?_
    refine WL.as rfl rfl ?_
    refine WL.nil ?_
    refine W.seq ?_
    refine W.seq ?_
    refine W.region ?_
    refine WL.mv rfl rfl ?_
    refine WL.faN (T := Ty) (off' := 2) rfl rfl rfl rfl rfl rfl rfl ?_
    refine WL.ldN (T := Ty) (j := 2) rfl rfl rfl rfl rfl rfl ?_
    refine WL.neB (T := Ty) rfl rfl rfl rfl ?_
    refine WL.mv rfl rfl ?_
    refine WL.gY rfl rfl ?_
    refine WL.mv rfl rfl ?_
    refine WL.gY rfl rfl ?_
    refine WL.not rfl rfl ?_
    refine WL.pickF rfl rfl rfl ?_
    refine WL.nil ?_
    refine W.condT rfl ?_
    refine W.seq ?_
    refine W.region ?_
    refine WL.mv rfl rfl ?_
    refine WL.faN (T := Ty) (off' := 2) rfl rfl rfl rfl rfl rfl rfl ?_
    refine WL.ldN (T := Ty) (j := 2) rfl rfl rfl rfl rfl rfl ?_
    refine WL.eqB (T := Ty) rfl rfl rfl rfl ?_
    refine WL.mv rfl rfl ?_
    refine WL.gY rfl rfl ?_
    refine WL.mv rfl rfl ?_
    refine WL.gY rfl rfl ?_
    refine WL.len (T := Ty) rfl rfl (by assumption) rfl ?_
    refine WL.gY rfl rfl ?_
    refine WL.eql rfl rfl rfl ?_
    refine WL.pickT rfl rfl rfl ?_
    refine WL.mv rfl rfl ?_
    refine WL.gY rfl rfl ?_
    refine WL.callT rfl rfl (fun x p d => awake9_c _) ?_
    refine WL.pickT rfl rfl rfl ?_
    refine WL.as rfl rfl ?_
    refine WL.nil ?_
    exact W.ret1 rfl rfl (fun h p => rfl)
  | some vs =>
    obtain ⟨hn, ⟨bs, hen, hstr⟩, hvl⟩ := hvs vs rfl
    obtain ⟨hl, hw⟩ := decD_ok hbl hdec
    have hm := heldM_le n
    obtain ⟨hebl, hebw⟩ := encD_ok hen hw
    refine WL.callF rfl rfl (fun x p d => ddec_s _ _ _ _ (by first | assumption | exact ROs.wide (by assumption) | exact ROs.mono (by assumption) (eqh_at 0 rfl p d) | exact ros_at 0 rfl p d | exact ros_at 1 rfl p d | exact ros_at 2 rfl p d | exact ros_at 3 rfl p d | exact ros_at 4 rfl p d) (by assumption) (by first | assumption | omega | decide) (by first | assumption | omega | decide)) (fun r => ?_)
    refine WL.ex (fun u3 => ?_)
    refine WL.pure (fun er => ?_)
    subst er
    refine WL.fact (i := 0) rfl (fun h hb => Buf.slm hb) (fun hsl3 => ?_)
    refine WL.mv rfl rfl ?_
    refine WL.extL rfl rfl rfl ?_
    refine WL.extL rfl rfl rfl ?_
    refine WL.as rfl rfl ?_
    refine WL.as rfl rfl ?_
    refine WL.nil ?_
    refine W.seq ?_
    refine W.seq ?_
    refine W.region ?_
    refine WL.mv rfl rfl ?_
    refine WL.faN (T := Ty) (off' := 2) rfl rfl rfl rfl rfl rfl rfl ?_
    refine WL.ldN (T := Ty) (j := 2) rfl rfl rfl rfl rfl rfl ?_
    refine WL.neB (T := Ty) rfl rfl rfl rfl ?_
    refine WL.mv rfl rfl ?_
    refine WL.gY rfl rfl ?_
    refine WL.mv rfl rfl ?_
    refine WL.gY rfl rfl ?_
    refine WL.not rfl rfl ?_
    refine WL.pickF rfl rfl rfl ?_
    refine WL.nil ?_
    refine W.condF rfl ?_
    refine W.skip ?_
    refine W.seq ?_
    refine W.region ?_
    refine WL.mv rfl rfl ?_
    refine WL.callF rfl rfl (fun x p d => denc_s _ _ _ (by assumption) (by first | assumption | exact ROs.wide (by assumption) | exact ROs.mono (by assumption) (eqh_at 0 rfl p d) | exact ros_at 0 rfl p d | exact ros_at 1 rfl p d | exact ros_at 2 rfl p d | exact ros_at 3 rfl p d | exact ros_at 4 rfl p d) (by first | assumption | omega | decide) (by first | assumption | omega | decide)) (fun r => ?_)
    refine WL.ex (fun u4 => ?_)
    refine WL.pure (fun er => ?_)
    subst er
    refine WL.fact (i := 0) rfl (fun h hb => Buf.slm hb) (fun hsl4 => ?_)
    refine WL.mv rfl rfl ?_
    refine WL.extL rfl rfl rfl ?_
    refine WL.extL rfl rfl rfl ?_
    refine WL.as rfl rfl ?_
    refine WL.as rfl rfl ?_
    refine WL.nil ?_
    refine W.seq ?_
    refine W.region ?_
    refine WL.mv rfl rfl ?_
    refine WL.len (T := Ty) rfl rfl (by assumption) rfl ?_
    refine WL.faN (T := Ty) (off' := 1) rfl rfl rfl rfl rfl rfl rfl ?_
    refine WL.ldN (T := Ty) (j := 3) rfl rfl rfl rfl rfl rfl ?_
    refine WL.eql rfl rfl rfl ?_
    refine WL.mv rfl rfl ?_
    refine WL.gT rfl rfl (by omega) ?_
    refine WL.mv rfl rfl ?_
    refine WL.pickTp rfl rfl (by omega) rfl ?_
    refine WL.mv rfl rfl ?_
    refine WL.gY rfl rfl ?_
    refine WL.mv rfl rfl ?_
    refine WL.gY rfl rfl ?_
    refine WL.b2sN (T := Ty) rfl rfl rfl rfl rfl rfl rfl (.own 0 rfl) ?_
    refine WL.gY rfl rfl ?_
    refine WL.faN (T := Ty) (off' := 0) rfl rfl rfl rfl rfl rfl rfl ?_
    refine WL.gY rfl rfl ?_
    refine WL.ldN (T := Ty) (j := 3) rfl rfl rfl rfl rfl rfl ?_
    refine WL.gY rfl rfl ?_
    refine WL.eqST rfl rfl rfl (by first | with_reducible rfl | assumption) ?_
    refine WL.pickT rfl rfl rfl ?_
    refine WL.mv rfl rfl ?_
    refine WL.gY rfl rfl ?_
    refine WL.callT rfl rfl (fun x p d => awake9_c _) ?_
    refine WL.pickT rfl rfl rfl ?_
    refine WL.as rfl rfl ?_
    refine WL.nil ?_
    exact W.ret1 rfl rfl (fun h p => rfl)
end Go.Proofs.Ytjibmfkhhljhcaa
