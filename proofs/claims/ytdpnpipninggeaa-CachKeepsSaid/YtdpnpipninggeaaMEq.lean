/- What is the same: rows of samples, as the program and the document's answer ask it. -/
import Derived.Test.YtdpnpipninggeaaStc
import Derived.Test.YtdpnpipninggeaaNum
import Derived.Test.YtdpnpipninggeaaTab
import Derived.Test.YtdpnpipninggeaaStEq
import Derived.Test.YtdpnpipninggeaaModl1
set_option linter.unusedSimpArgs false
set_option linter.unusedVariables false
set_option maxRecDepth 20000
set_option maxHeartbeats 4000000
namespace Go.Proofs.Ytdpnpipninggeaa
open Go
attribute [local irreducible] W WL Fn Buf ROs SL eptr box Rd Src bndOK WD RB Reads In Own
theorem take_eq_succ {α : Type} {L M : List α} {i : Nat} {a : α} (h : L.take i = M.take i) (ha : L[i]? = some a) (hb : M[i]? = some a) : L.take (i + 1) = M.take (i + 1) := by
 rw [List.take_add_one, List.take_add_one, h, ha, hb]
theorem ne_of_get {α : Type} {L M : List α} {i : Nat} {a b : α} (ha : L[i]? = some a) (hb : M[i]? = some b) (h : a ≠ b) : L ≠ M := by
 intro e; subst e; rw [ha] at hb; exact h (Option.some.inj hb)
theorem smp_dec (q q' : Smp) : (decide (q.1 = q'.1) && (decide (q.2 = q'.2) && true)) = decide (q = q') := by
 rw [Bool.and_true, ← Bool.decide_and]
 exact decide_eq_decide.2 ⟨fun h => Prod.ext h.1 h.2, fun h => by subst h; exact ⟨rfl, rfl⟩⟩
theorem refM_c (ρ : Hp) (v v' : Value) (l l' : List Smp) (hv : ROs ρ 2 v (l.flatMap smC)) (hv' : ROs ρ 2 v' (l'.flatMap smC)) (hb : l.length ≤ 100000000) :
  Fn Try.prog 12 #[v, v'] ρ [] (Just (.bool (sameL l l'))) := by
 refine in12 rfl rfl ?_
 have sv : SL v l.length := hv.sl (sms_cells l) (by omega)
 have sv' : SL v' l'.length := hv'.sl (sms_cells l') (by omega)
 by_cases hl : l.length = l'.length
 ·refine W.seq ?_
  refine W.region (WL.as rfl rfl (WL.nil (W.seq (W.seq (W.region (WL.mv rfl rfl ?_))))))
  refine WL.len (T := Ty) rfl rfl (by assumption) rfl ?_
  refine WL.mv rfl rfl ?_
  refine WL.len (T := Ty) rfl rfl (by assumption) rfl ?_
  refine WL.neq rfl rfl rfl (WL.nil (W.condpF rfl (by omega) (W.skip (W.seq (W.seq (W.region (WL.as rfl rfl (WL.nil (W.block ?_)))))))))
  refine W.loopS (σ := Nat) (fun i => [(0, v), (1, v'), (5, .int .i64 (i : Int))]) (fun _ => []) (fun i => i ≤ l.length ∧ l.take i = l'.take i) (fun i => l.length - i) 0 ⟨rfl, rfl, rfl, trivial⟩ rfl ⟨Nat.zero_le _, rfl⟩ ?_
  intro i ⟨hi, ht⟩ next
  by_cases hc : i < l.length
  ·obtain ⟨q, hq⟩ : ∃ q, l[i]? = some q := ⟨_, List.getElem?_eq_getElem hc⟩
   obtain ⟨q', hq'⟩ : ∃ q, l'[i]? = some q := ⟨_, List.getElem?_eq_getElem (by omega)⟩
   have hr : ((l.flatMap smC).drop (((i : Nat) : Int).toNat * 2)).take 2 = [.int .i64 q.1, .int .u64 q.2] := flat_row sm_len hq
   have hr' : ((l'.flatMap smC).drop (((i : Nat) : Int).toNat * 2)).take 2 = [.int .i64 q'.1, .int .u64 q'.2] := flat_row sm_len hq'
   refine W.seq (W.seq (W.region (WL.mv rfl rfl (WL.mv rfl rfl ?_))))
   refine WL.len (T := Ty) rfl rfl (by assumption) rfl ?_
   refine WL.lss rfl rfl rfl (WL.nil (W.condpT rfl (by omega) (W.skip (W.seq (W.block (W.seq ?_))))))
   refine W.drawA 9 rfl (fun σ0 hσ0 dσ0 => ?_)
   refine WD.takeL 0 rfl (by decide +kernel) (WL.mv rfl rfl (WL.nilT (WD.takeL 1 rfl (by decide +kernel) (WL.mv rfl rfl (WL.nilT (WD.takeL 2 rfl (by decide +kernel) ?_))))))
   refine WL.ix (T := Ty) rfl rfl rfl (by assumption) rfl rfl (by omega) (by first | omega | decide +kernel) ?_
   refine WL.nilT (WD.takeL 3 rfl (by decide +kernel) ?_)
   refine WL.ldAR (T := Ty) rfl rfl rfl rfl (by first | assumption | exact ROs.wide (by assumption)) (by assumption) rfl ?_
   refine WL.nilT (WD.takeL 4 rfl (by decide +kernel) (WL.mv rfl rfl (WL.nilT (WD.takeL 5 rfl (by decide +kernel) (WL.mv rfl rfl (WL.nilT (WD.takeL 6 rfl (by decide +kernel) ?_)))))))
   refine WL.ix (T := Ty) rfl rfl rfl (by assumption) rfl rfl (by omega) (by first | omega | decide +kernel) ?_
   refine WL.nilT (WD.takeL 7 rfl (by decide +kernel) ?_)
   refine WL.ldAR (T := Ty) rfl rfl rfl rfl (by first | assumption | exact ROs.wide (by assumption)) (by assumption) rfl ?_
   refine WL.nilT (WD.takeL 8 rfl (by decide +kernel) ?_)
   refine WL.neF (T := Ty) rfl rfl rfl rfl (by repeat' first | exact FE.nil | apply FE.int (by decide) rfl rfl rfl rfl | apply FE.bool (by decide) rfl rfl rfl rfl | apply FE.sub (by decide) rfl (by kernel_rfl) rfl rfl) (by kernel_rfl) (by kernel_rfl) ?_
   refine WL.nilT ?_
   refine WD.doneF hσ0 (by decide +kernel) (by repeat' constructor) ?_
   rw [smp_dec]
   by_cases hqq : q = q'
   ·rw [decide_eq_true hqq]
    refine W.condF rfl (W.skip (W.inBlock (W.region (WL.mv rfl rfl (WL.addK rfl rfl rfl (wrap_i64 ⟨by omega, by omega⟩) (WL.as rfl rfl (WL.nil ?_)))))))
    refine W.sub ?_ (next (i + 1) ⟨by omega, take_eq_succ ht hq (hqq ▸ hq')⟩ (by omega))
    exact ⟨rfl, rfl, rfl, trivial⟩
   ·rw [decide_eq_false hqq]
    refine W.condT rfl (W.seq (W.region (WL.as rfl rfl (WL.nil ?_))))
    exact W.ret1 rfl rfl (fun h p => ⟨by rw [sameL, decide_eq_false (ne_of_get hq hq' hqq)], p⟩)
  ·have hll : l = l' := by rw [List.take_of_length_le (by omega), List.take_of_length_le (by omega)] at ht; exact ht
   refine W.seq (W.seq (W.region (WL.mv rfl rfl (WL.mv rfl rfl ?_))))
   refine WL.len (T := Ty) rfl rfl (by assumption) rfl ?_
   refine WL.lss rfl rfl rfl (WL.nil (W.condpF rfl (by omega) (W.exit rfl (W.seq (W.region (WL.as rfl rfl (WL.nil ?_)))))))
   exact W.ret1 rfl rfl (fun h p => ⟨by rw [sameL, decide_eq_true hll], p⟩)
 ·refine W.seq ?_
  refine W.region (WL.as rfl rfl (WL.nil (W.seq (W.seq (W.region (WL.mv rfl rfl ?_))))))
  refine WL.len (T := Ty) rfl rfl (by assumption) rfl ?_
  refine WL.mv rfl rfl ?_
  refine WL.len (T := Ty) rfl rfl (by assumption) rfl ?_
  refine WL.neq rfl rfl rfl (WL.nil (W.condpT rfl (by omega) (W.seq (W.region (WL.as rfl rfl (WL.nil ?_))))))
  exact W.ret1 rfl rfl (fun h p => ⟨by rw [sameL, decide_eq_false (fun e => hl (by rw [e]))], p⟩)
end Go.Proofs.Ytdpnpipninggeaa
