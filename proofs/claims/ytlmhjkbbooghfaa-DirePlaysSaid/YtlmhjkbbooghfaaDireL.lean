/- Where series are, with samples and chunks. -/
import Derived.Test.YtlmhjkbbooghfaaStc
import Derived.Test.YtlmhjkbbooghfaaNum
import Derived.Test.YtlmhjkbbooghfaaTab
import Derived.Test.YtlmhjkbbooghfaaSameO
import Derived.Test.YtlmhjkbbooghfaaDireE
set_option linter.unusedSimpArgs false
set_option linter.unusedVariables false
set_option maxRecDepth 20000
set_option maxHeartbeats 4000000
namespace Go.Proofs.Ytlmhjkbbooghfaa
open Go
attribute [local irreducible] W WL Fn Buf ROs SL eptr box Rd Src bndOK WD RB Reads In dirC dirZ
theorem dirZ_new : dirZ (List.replicate 16 zeroP) = dirC (List.replicate 16 (Pz.up zeroP)) := by unfold dirZ; rw [List.map_replicate]
-- CALL 16 refine WL.callF rfl rfl (fun x p d => look_l _ _ _ _ _ _ _ (by first | assumption | exact RB.wide (by assumption) | exact In.rb (by assumption) | exact rb_at 0 rfl p d | exact rb_at 1 rfl p d | exact rb_at 2 rfl p d | exact rb_at 3 rfl p d | exact rb_at 4 rfl p d | exact rb_at 5 rfl p d) (by first | assumption | rfl) (by first | assumption | rfl) (by first | assumption | omega | decide) (by first | assumption | omega | decide) (by first | assumption | omega | decide) $RO $RO (by first | assumption | omega | decide) (by first | assumption | omega | decide)) (fun r => ?_) ;; refine WL.ex (fun u$N => ?_) ;; refine WL.ex (fun t$N => ?_) ;; refine WL.pure (fun er => ?_) ;; subst er ;; refine WL.open ?_ ;; refine WL.fact (i := 0) rfl (fun h hb => hb.sl (flat_len sm_len _) (by omega)) (fun hsl$N => ?_) ;; refine WL.fact (i := 1) rfl (fun h hb => hb.sl (flat_len pa_len _) (by omega)) (fun hst$N => ?_)
theorem look_l (ρ : Hp) (b : Nat) (L : List Plc) (i : Nat) (p : Plc) (l : List (Int × Int)) (ps : List Prt) (hB : RB ρ b (dirC L) TD) (h16 : L.length = 16) (hp : L[i]? = some p) (hi : i < 16) (h0 : 0 ≤ p.s.ver) (he : p.s.ver % 2 = 0)
    (hv : ROs ρ 2 p.s.lv (l.flatMap smC)) (hc : ROs ρ 5 p.s.cv (ps.flatMap paC)) (hb : l.length ≤ 8796093022208) (hd : ps.length ≤ 140737488355) :
    Fn Try.prog 16 #[pt b 0, .int .i64 (i : Int)] ρ [] (fun r h => ∃ u t, r = .tuple #[.agg (sloC { p.s with lv := u, cv := t }).toArray, .bool true] ∧ sepl [Buf 2 u (l.flatMap smC), Buf 5 t (ps.flatMap paC)] h) :=
  look_in ρ b L i p _ _ _ _ hB h16 hp hi h0 he hv hc (flat_len sm_len l) (flat_len pa_len ps) (sm_one l) (pa_one ps) hb hd
-- CALL 16 refine WL.callV rfl rfl (fun x p d => look_no _ _ _ _ _ (by first | assumption | exact RB.wide (by assumption) | exact In.rb (by assumption) | exact rb_at 0 rfl p d | exact rb_at 1 rfl p d | exact rb_at 2 rfl p d | exact rb_at 3 rfl p d | exact rb_at 4 rfl p d | exact rb_at 5 rfl p d) (by first | assumption | rfl) (by first | assumption | omega | decide) (by first | assumption | omega | decide) (by first | assumption | omega | decide)) ?_
-- CALL 22 refine WL.callV rfl rfl (fun x p d => flag_in _ _ _ _ _ (by first | assumption | exact RB.wide (by assumption) | exact In.rb (by assumption) | exact rb_at 0 rfl p d | exact rb_at 1 rfl p d | exact rb_at 2 rfl p d | exact rb_at 3 rfl p d | exact rb_at 4 rfl p d | exact rb_at 5 rfl p d) (by first | assumption | rfl) (by first | assumption | omega | decide) (by first | assumption | rfl)) ?_
-- CALL 22 refine WL.callV rfl rfl (fun x p d => flag_no _ _ _ _ _ (by first | assumption | exact RB.wide (by assumption) | exact In.rb (by assumption) | exact rb_at 0 rfl p d | exact rb_at 1 rfl p d | exact rb_at 2 rfl p d | exact rb_at 3 rfl p d | exact rb_at 4 rfl p d | exact rb_at 5 rfl p d) (by first | assumption | rfl) (by first | assumption | omega | decide) (by first | assumption | rfl)) ?_
-- CALL 17 refine WL.callV rfl rfl (fun x p d => take_no _ _ _ _ _ _ (by first | assumption | exact RB.wide (by assumption) | exact In.rb (by assumption) | exact rb_at 0 rfl p d | exact rb_at 1 rfl p d | exact rb_at 2 rfl p d | exact rb_at 3 rfl p d | exact rb_at 4 rfl p d | exact rb_at 5 rfl p d) (by first | assumption | rfl) (by first | assumption | omega | decide) (by first | assumption | rfl)) ?_
-- CALL 17 refine WL.callM $J rfl rfl rfl (fun x p d => take_yes _ _ _ _ _ _ (by first | assumption | rfl) (by first | assumption | rfl) (by first | assumption | omega | decide) (by first | assumption | rfl) (by first | assumption | omega | decide) (by first | assumption | omega | decide)) $FL ?_
-- CALL 18 refine WL.callV rfl rfl (fun x p d => leave_no _ _ _ _ _ _ ⟨_, _, _, _, _, _, _, _⟩ (by first | assumption | exact RB.wide (by assumption) | exact In.rb (by assumption) | exact rb_at 0 rfl p d | exact rb_at 1 rfl p d | exact rb_at 2 rfl p d | exact rb_at 3 rfl p d | exact rb_at 4 rfl p d | exact rb_at 5 rfl p d) (by first | assumption | rfl) (by first | assumption | omega | decide) (by first | assumption | exact .inl (by assumption) | exact .inr (by first | omega | decide) | exact .inl rfl)) ?_
-- CALL 18 refine WL.callV rfl rfl (fun x p d => leave_out _ _ _ _ ⟨_, _, _, _, _, _, _, _⟩ (by first | assumption | omega | decide)) ?_
-- CALL 18 refine WL.callP $J rfl rfl rfl (fun x p d => leave_l _ _ _ _ _ _ ⟨_, _, _, _, _, _, _, _⟩ _ _ (by first | assumption | rfl) (by first | assumption | rfl) (by first | assumption | omega | decide) (by first | assumption | rfl) (by first | assumption | rfl) (by first | assumption | omega | decide) (by first | assumption | omega | decide) $RO $RO (by first | assumption | omega | decide) (by first | assumption | omega | decide)) $FL (fun r => ?_) ;; refine WL.ex (fun u$N => ?_) ;; refine WL.ex (fun t$N => ?_) ;; refine WL.pure (fun er => ?_) ;; subst er ;; refine WL.open ?_
theorem leave_l (ρ : Hp) (b : Nat) (L : List Plc) (i : Nat) (p : Plc) (who : Int) (s : Slo) (l : List (Int × Int)) (ps : List Prt) (h16 : L.length = 16) (hp : L[i]? = some p) (hi : i < 16) (ht : p.taken = true) (hq : p.who = who) (h0 : 0 ≤ p.s.ver) (hw : p.s.ver < 9223372036854775807)
    (hv : ROs ρ 2 s.lv (l.flatMap smC)) (hc : ROs ρ 5 s.cv (ps.flatMap paC)) (hb : l.length ≤ 8796093022208) (hd : ps.length ≤ 140737488355) :
    Fn Try.prog 18 #[pt b 0, .int .i64 (i : Int), .int .i64 who, .agg (sloC s).toArray] ρ [box b (dirC L) TD]
      (fun r h => ∃ u t, r = .bool true ∧ sepl [box b (dirC (L.set i { s := { s with ver := p.s.ver + 1, lv := u, cv := t }, taken := false, who := 0 })) TD, Buf 2 u (l.flatMap smC), Buf 5 t (ps.flatMap paC)] h) :=
  leave_yes ρ b L i p who s _ _ _ _ h16 hp hi ht hq h0 hw hv hc (flat_len sm_len l) (flat_len pa_len ps) (sm_one l) (pa_one ps) hb hd
end Go.Proofs.Ytlmhjkbbooghfaa
