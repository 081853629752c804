/- Samples in steps of time: the row of the law, and that no bytes are no chunk. -/
import Derived.Test.YtdpnpipninggeaaDoorStc
import Derived.Test.YtdpnpipninggeaaDoorNum
import Derived.Test.YtdpnpipninggeaaDoorTab
import Derived.Test.YtdpnpipninggeaaDoorApp9
set_option linter.unusedSimpArgs false
set_option linter.unusedVariables false
set_option maxRecDepth 20000
set_option maxHeartbeats 4000000
namespace Go.Proofs.YtdpnpipninggeaaDoor
open Go
def sC (st : Int) (z : List Int) (i : Nat) : Smp := ((i : Int) * st, z.getD i (i : Int))
def rowC (st : Int) (z : List Int) (k : Nat) : List Smp := (List.range k).map (sC st z)
def lastC (st : Int) (k : Nat) : Int := if k = 0 then 0 else ((k - 1 : Nat) : Int) * st
theorem rowC_len (st : Int) (z : List Int) (k : Nat) : (rowC st z k).length = k := by simp [rowC]
theorem rowC_zero (st : Int) (z : List Int) : rowC st z 0 = [] := rfl
theorem rowC_s (st : Int) (z : List Int) (k : Nat) : rowC st z k ++ [sC st z k] = rowC st z (k + 1) := by unfold rowC; rw [List.range_succ, List.map_append]; rfl
theorem rowC_get (st : Int) (z : List Int) {k i : Nat} (h : i < k) : (rowC st z k)[i]? = some (sC st z i) := by unfold rowC; simp [h]
theorem mul_bnd {st : Int} (h1 : 1 ≤ st) (h2 : st ≤ 65536) {i : Nat} (hi : i ≤ 15) : 0 ≤ (i : Int) * st ∧ (i : Int) * st ≤ 983040 := by
  have : i = 0 ∨ i = 1 ∨ i = 2 ∨ i = 3 ∨ i = 4 ∨ i = 5 ∨ i = 6 ∨ i = 7 ∨ i = 8 ∨ i = 9 ∨ i = 10 ∨ i = 11 ∨ i = 12 ∨ i = 13 ∨ i = 14 ∨ i = 15 := by omega
  rcases this with rfl | rfl | rfl | rfl | rfl | rfl | rfl | rfl | rfl | rfl | rfl | rfl | rfl | rfl | rfl | rfl <;> (constructor <;> omega)
theorem mul_step (st : Int) (i : Nat) : ((i + 1 : Nat) : Int) * st = (i : Int) * st + st := by push_cast; rw [Int.add_mul, Int.one_mul]
theorem lastC_s (st : Int) (k : Nat) : lastC st (k + 1) = (k : Int) * st := by unfold lastC; rw [if_neg (by omega)]; rfl
theorem lastC_lt {st : Int} (h1 : 1 ≤ st) (k : Nat) : decide (0 < k) = false ∨ lastC st k < (k : Int) * st := by
  cases k with
  | zero => exact .inl rfl
  | succ k =>
    right
    rw [lastC_s, mul_step]
    omega
theorem rowC_ok {st : Int} (h1 : 1 ≤ st) (h2 : st ≤ 65536) {z : List Int} (hz : ∀ n ∈ z, 0 ≤ n ∧ n < 18446744073709551616) {k : Nat} (hk : k ≤ 15) : SmOK (rowC st z k) := by
  intro s hs
  unfold rowC at hs
  obtain ⟨i, hi, rfl⟩ := List.mem_map.1 hs
  have hi := List.mem_range.1 hi
  have hb := mul_bnd h1 h2 (i := i) (by omega)
  refine ⟨by unfold i64ok; show -9223372036854775808 ≤ (i : Int) * st ∧ (i : Int) * st ≤ 9223372036854775807; omega, ?_⟩
  show 0 ≤ z.getD i (i : Int) ∧ z.getD i (i : Int) < 18446744073709551616
  rw [List.getD_eq_getElem?_getD]
  cases e : z[i]? with
  | none => simp only [Option.getD_none]; omega
  | some x => exact hz x (List.mem_of_getElem? e)
theorem rowC_ris {st : Int} (h1 : 1 ≤ st) (z : List Int) (k : Nat) : risB (rowC st z k) = true := by
  refine ris_of fun i a b ha hb => ?_
  have hl := (List.getElem?_eq_some_iff.1 hb).1
  rw [rowC_len] at hl
  rw [rowC_get st z (by omega)] at ha hb
  cases ha
  cases hb
  show (i : Int) * st < ((i + 1 : Nat) : Int) * st
  rw [mul_step]
  omega
theorem mkC_nil : mkC [] = [] := by unfold mkC mkOK; simp
attribute [local irreducible] W WL Fn Buf ROs SL eptr box Rd Src bndOK WD RB Reads In Own
theorem rhead_0 (ρ : Hp) (v : Value) (bs : List Nat) (r0 : ROs ρ 1 v (bs.map bcell)) (h0 : bs = []) : Fn Tryd.prog 14 #[v] ρ [] (Just (.tuple #[.agg #[.int .i64 0, .int .i64 0, .int .i64 0, .int .i64 0], .int .i64 0, .bool false])) := by
  subst h0
  have s0 : SL v 0 := r0.slm
  refine in14 rfl rfl ?_
  refine W.seq (W.region ?_)
  refine WL.alF (T := Ty) rfl rfl (by repeat' constructor) (fun b0 => ?_)
  refine WL.as rfl rfl (WL.as rfl rfl (WL.nil (W.seq (W.seq (W.region (WL.mv rfl rfl ?_))))))
  refine WL.len (T := Ty) rfl rfl (by assumption) rfl ?_
  refine WL.eql rfl rfl rfl (WL.mv rfl rfl (WL.gdN rfl rfl rfl rfl rfl rfl (WL.gdN rfl rfl rfl rfl rfl rfl (WL.gdN rfl rfl rfl rfl rfl rfl (WL.gdN rfl rfl rfl rfl rfl rfl (WL.pickT rfl rfl rfl (WL.mv rfl rfl (WL.gdN rfl rfl rfl rfl rfl rfl (WL.gdN rfl rfl rfl rfl rfl rfl (WL.gdN rfl rfl rfl rfl rfl rfl (WL.gdN rfl rfl rfl rfl rfl rfl (WL.pickT rfl rfl rfl (WL.nil ?_)))))))))))))
  refine W.condT rfl (W.seq (W.region ?_))
  refine WL.bdC (T := Ty) rfl rfl rfl rfl (by repeat' first | exact CO.nil | apply CO.one (by first | rfl | exact SL.one (by assumption)) | apply CO.agg) rfl (by repeat' constructor) ?_
  refine WL.stAO (T := Ty) (j := 0) rfl rfl rfl rfl (by repeat' first | exact AO.nil | apply AO.cons (by first | rfl | exact SL.one (by assumption))) rfl rfl (by repeat' constructor) (by repeat' constructor) ?_
  refine WL.as rfl rfl (WL.as rfl rfl (WL.nil ?_))
  exact W.fit (Hs' := [box b0 _ _]) (by (repeat' first | exact Sel.nil | apply Sel.k | exact Pick.h | apply Pick.t)) (W.retC3 (T := Ty) (j := 0) rfl rfl rfl rfl rfl rfl rfl rfl (fun h q => ⟨rfl, q⟩))
theorem ropen_0 (ρ : Hp) (v : Value) (bs : List Nat) (r0 : ROs ρ 1 v (bs.map bcell)) (h0 : bs = []) : Fn Tryd.prog 9 #[v] ρ [] (Just (.tuple #[nilV, .int .i64 0, .bool false])) := by
  subst h0
  have s0 : SL v 0 := r0.slm
  refine in9 rfl rfl ?_
  refine W.seq (W.region (WL.as rfl rfl (WL.as rfl rfl (WL.as rfl rfl (WL.nil (W.seq (W.region (WL.mv rfl rfl ?_))))))))
  refine WL.callV rfl rfl (fun x p d => rhead_0 _ _ _ (by first | assumption | exact ROs.wide (by assumption) | exact ROs.mono (by assumption) (eqh_at 0 rfl p d) | exact ros_at 0 rfl p d | exact ros_at 1 rfl p d | exact ros_at 2 rfl p d | exact ros_at 3 rfl p d | exact ros_at 4 rfl p d) (by first | assumption | rfl)) ?_
  refine WL.mv rfl rfl (WL.extL rfl rfl rfl (WL.extL rfl rfl rfl (WL.extL rfl rfl rfl ?_)))
  refine WL.alF (T := Ty) rfl rfl (by repeat' constructor) (fun b0 => ?_)
  refine WL.stAO (T := Ty) (j := 0) rfl rfl rfl rfl (by repeat' first | exact AO.nil | apply AO.cons (by first | rfl | exact SL.one (by assumption))) rfl rfl (by repeat' constructor) (by repeat' constructor) ?_
  refine WL.as rfl rfl (WL.as rfl rfl (WL.nil (W.seq (W.seq (W.region (WL.mv rfl rfl (WL.not rfl rfl (WL.mv rfl rfl (WL.gdN rfl rfl rfl rfl rfl rfl (WL.gdN rfl rfl rfl rfl rfl rfl (WL.gdN rfl rfl rfl rfl rfl rfl (WL.gdN rfl rfl rfl rfl rfl rfl (WL.gdN rfl rfl rfl rfl rfl rfl ?_)))))))))))))
  refine WL.pickT rfl rfl rfl (WL.nil (W.condT rfl (W.seq (W.region (WL.as rfl rfl (WL.as rfl rfl (WL.as rfl rfl (WL.nil ?_))))))))
  exact W.fit (Hs' := []) (by (repeat' first | exact Sel.nil | apply Sel.k | exact Pick.h | apply Pick.t)) (W.ret3 rfl rfl rfl rfl (fun h q => ⟨rfl, q⟩))
theorem close13_z (ρ : Hp) (a : Bool) (t : Int) (hT : TabG ρ) :
    Fn Tryd.prog 8 #[.agg #[.bool a, .int .i64 t, nilV]] ρ [] (fun r h => ∃ v, (r = .tuple #[v, .agg #[.bool a, .int .i64 t, nilV]] ∧ SL v 0) ∧ sepl [Buf 1 v (([] : List Nat).map bcell)] h) := by
  have := close13_c ρ a t nilV [] (rosN2 ρ) SmOK.nil (by decide) hT
  rw [mkC_nil] at this
  exact this
end Go.Proofs.YtdpnpipninggeaaDoor
