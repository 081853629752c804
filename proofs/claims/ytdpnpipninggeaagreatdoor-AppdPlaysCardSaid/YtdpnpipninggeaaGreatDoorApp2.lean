/- Samples that come: the bytes of their chunk, as the program makes them. -/
import Derived.Test.YtdpnpipninggeaaGreatDoorStc
import Derived.Test.YtdpnpipninggeaaGreatDoorNum
import Derived.Test.YtdpnpipninggeaaGreatDoorTab
import Derived.Test.YtdpnpipninggeaaGreatDoorApp1
import Derived.Test.YtdpnpipninggeaaGreatDoorCpB
import Derived.Test.YtdpnpipninggeaaGreatDoorTimeC
import Derived.Test.YtdpnpipninggeaaGreatDoorLen64
import Derived.Test.YtdpnpipninggeaaGreatDoorCrcc
set_option linter.unusedSimpArgs false
set_option linter.unusedVariables false
set_option maxRecDepth 20000
set_option maxHeartbeats 4000000
namespace Go.Proofs.YtdpnpipninggeaaGreatDoor
open Go
/- the sum by the table -/
theorem tblL_ltA : ∀ x ∈ tblL, x < 4294967296 := by
  intro x hx
  obtain ⟨i, hi, rfl⟩ := List.mem_map.1 hx
  exact entF_lt i (by have := List.mem_range.1 hi; omega)
theorem fold_sameA (bs : List Nat) (h : ∀ x ∈ bs, x < 256) (c : Nat) : bs.foldl (stepT tblL) c = bs.foldl stepR c := by
  induction bs generalizing c with
  | nil => rfl
  | cons x bs ih => rw [List.foldl_cons, List.foldl_cons, step_same c x (h x (by simp)), ih (fun y hy => h y (by simp [hy]))]
theorem sumA_c (ρ : Hp) (b : Value) (bs : List Nat) (hb : ROs ρ 1 b (bs.map bcell)) (hw : ∀ x ∈ bs, x < 256) (hl : bs.length ≤ 140737488355328) :
    Fn Tryz.prog 21 #[AG tblL, b] ρ [] (fun r _ => r = .int .u32 (sumR bs : Int)) := by
  have := sum_c ρ tblL b bs tblL_ltA tblL_len hb hw hl
  have e : sumT tblL bs = sumR bs := by unfold sumT sumR; rw [fold_sameA bs hw]
  rw [e] at this
  exact this
attribute [local irreducible] W WL Fn Buf ROs SL eptr box Rd Src bndOK WD RB Reads In Own mkC chk sB encTs encX pack vputF risB tblL sumR AG
theorem srise_c (ρ : Hp) (v : Value) (l : List Smp) (r0 : ROs ρ 2 v (l.flatMap smC)) (hl : l.length ≤ 65535) :
    Fn Tryz.prog 31 #[v] ρ [] (Just (.bool (risB l))) := by
  have l1 := sms_cells l
  have s0 : SL v l.length := r0.sl l1 (by omega)
  refine in31 rfl rfl ?_
  refine W.seq (W.region (WL.as rfl rfl (WL.nil (W.seq (W.seq (W.region (WL.as rfl rfl (WL.nil (W.block ?_)))))))))
  refine W.loopS (σ := Nat) (fun i => [(0, v), (3, .int .i64 (i : Int))]) (fun i => [])
    (fun i => 1 ≤ i ∧ (i ≤ l.length ∨ i = 1) ∧ ∀ (j : Nat) (a b : Smp), j + 1 < i → l[j]? = some a → l[j + 1]? = some b → a.1 < b.1) (fun i => l.length - i) 1 ⟨rfl, rfl, trivial⟩ rfl ⟨Nat.le_refl _, .inr rfl, fun j a b h => absurd h (by omega)⟩ ?_
  rintro i ⟨h1, h2, h3⟩ next
  by_cases hi : i < l.length
  · obtain ⟨a, ha⟩ : ∃ a, l[i - 1]? = some a := ⟨_, List.getElem?_eq_getElem (by omega)⟩
    obtain ⟨b, hb⟩ : ∃ b, l[i]? = some b := ⟨_, List.getElem?_eq_getElem hi⟩
    have ca : (l.flatMap smC)[((i : Int) - 1).toNat * 2 + 0]? = some (.int .i64 a.1) := by rw [show ((i : Int) - 1).toNat = i - 1 by omega]; exact flat_get sm_len ha rfl
    have cb : (l.flatMap smC)[((i : Nat) : Int).toNat * 2 + 0]? = some (.int .i64 b.1) := flat_get sm_len hb rfl
    by_cases hc : b.1 ≤ a.1
    · have hz : risB l = false := ris_not ha hb (by omega) hc
      rw [hz]
      refine W.seq (W.seq (W.region (WL.mv rfl rfl (WL.mv rfl rfl ?_))))
      refine WL.len (T := Ty) rfl rfl (by assumption) rfl ?_
      refine WL.lss rfl rfl rfl (WL.nil (W.condpT rfl (by omega) (W.skip (W.seq (W.block (W.seq ?_))))))
      refine W.drawA 12 rfl (fun σ0 hσ0 dσ0 => ?_)
      refine WD.takeL 0 rfl (by decide +kernel) (WL.mv rfl rfl (WL.nilT (WD.takeL 1 rfl (by decide +kernel) (WL.mv rfl rfl (WL.nilT (WD.takeL 2 rfl (by decide +kernel) ?_))))))
      refine WL.ix (T := Ty) rfl rfl rfl (by assumption) rfl rfl (by omega) (by first | omega | decide +kernel) ?_
      refine WL.nilT (WD.takeL 3 rfl (by decide +kernel) (WL.faEN (T := Ty) (off' := 0) rfl rfl rfl rfl rfl rfl rfl (WL.nilT (WD.takeL 4 rfl (by decide +kernel) ?_))))
      refine WL.ldR (T := Ty) rfl rfl rfl rfl (by first | assumption | exact ROs.wide (by assumption)) (by assumption) ?_
      refine WL.nilT (WD.takeL 5 rfl (by decide +kernel) (WL.mv rfl rfl (WL.nilT (WD.takeL 6 rfl (by decide +kernel) (WL.mv rfl rfl (WL.nilT (WD.takeL 7 rfl (by decide +kernel) (WL.subK rfl rfl rfl (wrap_i64 ⟨by omega, by omega⟩) (WL.nilT (WD.takeL 8 rfl (by decide +kernel) ?_))))))))))
      refine WL.ix (T := Ty) rfl rfl rfl (by assumption) rfl rfl (by omega) (by first | omega | decide +kernel) ?_
      refine WL.nilT (WD.takeL 9 rfl (by decide +kernel) (WL.faEN (T := Ty) (off' := 0) rfl rfl rfl rfl rfl rfl rfl (WL.nilT (WD.takeL 10 rfl (by decide +kernel) ?_))))
      refine WL.ldR (T := Ty) rfl rfl rfl rfl (by first | assumption | exact ROs.wide (by assumption)) (by assumption) ?_
      refine WL.nilT (WD.takeL 11 rfl (by decide +kernel) (WL.leq rfl rfl rfl (WL.nilT ?_)))
      refine WD.doneF hσ0 (by decide +kernel) (by repeat' constructor) ?_
      refine W.condpT rfl (by omega) (W.seq (W.region (WL.as rfl rfl (WL.nil ?_))))
      exact W.fit (Hs' := []) (by (repeat' first | exact Sel.nil | apply Sel.k | exact Pick.h | apply Pick.t)) (W.ret1 rfl rfl (fun h q => ⟨rfl, q⟩))
    · refine W.seq ?_
      refine W.seq (W.region (WL.mv rfl rfl (WL.mv rfl rfl ?_)))
      refine WL.len (T := Ty) rfl rfl (by assumption) rfl ?_
      refine WL.lss rfl rfl rfl (WL.nil (W.condpT rfl (by omega) (W.skip (W.seq (W.block (W.seq ?_))))))
      refine W.drawA 12 rfl (fun σ0 hσ0 dσ0 => ?_)
      refine WD.takeL 0 rfl (by decide +kernel) (WL.mv rfl rfl (WL.nilT (WD.takeL 1 rfl (by decide +kernel) (WL.mv rfl rfl (WL.nilT (WD.takeL 2 rfl (by decide +kernel) ?_))))))
      refine WL.ix (T := Ty) rfl rfl rfl (by assumption) rfl rfl (by omega) (by first | omega | decide +kernel) ?_
      refine WL.nilT (WD.takeL 3 rfl (by decide +kernel) (WL.faEN (T := Ty) (off' := 0) rfl rfl rfl rfl rfl rfl rfl (WL.nilT (WD.takeL 4 rfl (by decide +kernel) ?_))))
      refine WL.ldR (T := Ty) rfl rfl rfl rfl (by first | assumption | exact ROs.wide (by assumption)) (by assumption) ?_
      refine WL.nilT (WD.takeL 5 rfl (by decide +kernel) (WL.mv rfl rfl (WL.nilT (WD.takeL 6 rfl (by decide +kernel) (WL.mv rfl rfl (WL.nilT (WD.takeL 7 rfl (by decide +kernel) (WL.subK rfl rfl rfl (wrap_i64 ⟨by omega, by omega⟩) (WL.nilT (WD.takeL 8 rfl (by decide +kernel) ?_))))))))))
      refine WL.ix (T := Ty) rfl rfl rfl (by assumption) rfl rfl (by omega) (by first | omega | decide +kernel) ?_
      refine WL.nilT (WD.takeL 9 rfl (by decide +kernel) (WL.faEN (T := Ty) (off' := 0) rfl rfl rfl rfl rfl rfl rfl (WL.nilT (WD.takeL 10 rfl (by decide +kernel) ?_))))
      refine WL.ldR (T := Ty) rfl rfl rfl rfl (by first | assumption | exact ROs.wide (by assumption)) (by assumption) ?_
      refine WL.nilT (WD.takeL 11 rfl (by decide +kernel) (WL.leq rfl rfl rfl (WL.nilT ?_)))
      refine WD.doneF hσ0 (by decide +kernel) (by repeat' constructor) ?_
      refine W.condpF rfl (by omega) (W.skip (W.inBlock (W.region (WL.mv rfl rfl (WL.addK rfl rfl rfl (wrap_i64 ⟨by omega, by omega⟩) (WL.as rfl rfl (WL.nil ?_)))))))
      refine W.sub ?_ (next (i + 1) ⟨by omega, by omega, fun j x y hj hx hy => ?_⟩ (by omega))
      · exact ⟨rfl, rfl, trivial⟩
      · by_cases hji : j + 1 < i
        · exact h3 j x y hji hx hy
        · have e1 : j = i - 1 := by omega
          subst e1
          rw [show i - 1 + 1 = i by omega, hb] at hy
          rw [ha] at hx
          cases hx
          cases hy
          omega
  · have hz : risB l = true := ris_of (fun j x y hx hy => h3 j x y (by have := (List.getElem?_eq_some_iff.1 hy).1; omega) hx hy)
    rw [hz]
    refine W.seq (W.seq (W.region (WL.mv rfl rfl (WL.mv rfl rfl ?_))))
    refine WL.len (T := Ty) rfl rfl (by assumption) rfl ?_
    refine WL.lss rfl rfl rfl (WL.nil (W.condpF rfl (by omega) (W.exit rfl (W.seq (W.region (WL.mv rfl rfl ?_))))))
    refine WL.len (T := Ty) rfl rfl (by assumption) rfl ?_
    refine WL.leq rfl rfl rfl (WL.as rfl rfl (WL.nil ?_))
    exact W.fit (Hs' := []) (by (repeat' first | exact Sel.nil | apply Sel.k | exact Pick.h | apply Pick.t)) (W.ret1 rfl rfl (fun h q => ⟨by rw [decide_eq_true (by omega)], q⟩))
theorem srise_e (ρ : Hp) (v : Value) (l : List Smp) (z : Bool) (r0 : ROs ρ 2 v (l.flatMap smC)) (hl : l.length ≤ 65535) (hz : risB l = z) :
    Fn Tryz.prog 31 #[v] ρ [] (Just (.bool z)) := Fn.val (congrArg Value.bool hz) (srise_c ρ v l r0 hl)
theorem svals_c (ρ : Hp) (v : Value) (vs : List Nat) (r0 : ROs ρ 1 v (vs.map ucell)) (hw : ∀ x ∈ vs, x < 18446744073709551616) (hl : vs.length ≤ 65535) (hT : TabG ρ) :
    Fn Tryz.prog 32 #[.int .i64 1, v] ρ [] (fun r h => ∃ v, (r = .tuple #[v, .bool true] ∧ SL v (pack (encX vs)).length) ∧ sepl [Buf 1 v ((pack (encX vs)).map bcell)] h) := by
  have hxl := encX_len vs hw
  refine in32 rfl rfl ?_
  refine W.seq (W.region (WL.as rfl rfl (WL.as rfl rfl (WL.nil (W.seq (W.seq (W.region (WL.mv rfl rfl (WL.nil (W.block (W.seq (W.region (WL.eql rfl rfl rfl ?_)))))))))))))
  refine WL.as rfl rfl (WL.nil (W.condT rfl (W.seq (W.region ?_))))
  refine WL.callF rfl rfl (fun x p d => newWriter_c _) (fun r => ?_)
  refine WL.ex (fun b0 => ?_)
  refine WL.pure (fun er => ?_)
  subst er
  refine WL.as rfl rfl (WL.nil (W.seq (W.region (WL.mv rfl rfl (WL.mv rfl rfl ?_)))))
  refine WL.callM 0 rfl rfl rfl (fun x p d => xenc_c _ _ _ _ _ (by first | assumption | exact ROs.wide (by assumption) | exact ROs.mono (by assumption) (eqh_at 0 rfl p d) | exact ros_at 0 rfl p d | exact ros_at 1 rfl p d | exact ros_at 2 rfl p d | exact ros_at 3 rfl p d | exact ros_at 4 rfl p d) (by first | assumption | exact bok_nil) (by first | assumption | omega | exact Nat.zero_le _ | decide) (by first | assumption | omega | decide) (by first | assumption | omega | decide) (TabG.wide (by assumption))) (by repeat' constructor) ?_
  refine WL.nil (W.seq (W.region (WL.mv rfl rfl ?_)))
  refine WL.callF rfl rfl (fun x p d => bytes_c _ _ _ (by first | assumption | exact In.wide (by assumption) | exact In.mono (by assumption) (eqh_at 0 rfl p d) | exact in_at 0 rfl p d | exact in_at 1 rfl p d | exact in_at 2 rfl p d | exact in_at 3 rfl p d | exact in_at 4 rfl p d) (by first | assumption | omega | (simp only [List.length_append, bitsOf_len, List.length_nil, heldF]; omega))) (fun u1 => ?_)
  refine WL.fact (i := 0) rfl (fun h hb => Buf.slm hb) (fun hsl1 => ?_)
  refine WL.as rfl rfl (WL.as rfl rfl (WL.nil ?_))
  exact W.fit (Hs' := [Buf 1 _ _]) (by (repeat' first | exact Sel.nil | apply Sel.k | exact Pick.h | apply Pick.t)) (W.ret2 rfl rfl rfl (fun h q => ⟨_, ⟨rfl, by assumption⟩, q⟩))
end Go.Proofs.YtdpnpipninggeaaGreatDoor
