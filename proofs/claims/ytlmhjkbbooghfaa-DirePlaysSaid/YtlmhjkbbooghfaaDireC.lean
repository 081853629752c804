/- Where series are: what the code of package dire does. -/
import Derived.Test.YtlmhjkbbooghfaaStc
import Derived.Test.YtlmhjkbbooghfaaNum
import Derived.Test.YtlmhjkbbooghfaaTab
import Derived.Test.YtlmhjkbbooghfaaClD
import Derived.Test.YtlmhjkbbooghfaaGrow
set_option linter.unusedSimpArgs false
set_option linter.unusedVariables false
set_option maxRecDepth 20000
set_option maxHeartbeats 4000000
namespace Go.Proofs.Ytlmhjkbbooghfaa
open Go
attribute [local irreducible] W WL Fn Buf ROs SL eptr box Rd Src bndOK WD RB Reads In

abbrev pt (b off : Nat) : Value := .pointer (some ⟨b, off, none⟩)
/-- a slot -/
structure Slo where
  there : Bool
  sealed : Bool
  life : Int
  ver : Int
  any : Bool
  last : Int
  lv : Value
  cv : Value
/-- a slot, and who has its flag -/
structure Plc where
  s : Slo
  taken : Bool
  who : Int
abbrev sloC (s : Slo) : List Value := [.bool s.there, .bool s.sealed, .int .i64 s.life, .int .i64 s.ver, .bool s.any, .int .i64 s.last, s.lv, s.cv]
abbrev plcC (p : Plc) : List Value := [.bool p.s.there, .bool p.s.sealed, .int .i64 p.s.life, .int .i64 p.s.ver, .bool p.s.any, .int .i64 p.s.last, p.s.lv, p.s.cv, .bool p.taken, .int .i64 p.who]
theorem plc_len (p : Plc) : (plcC p).length = 10 := rfl
-- CALL 75 refine WL.callF rfl rfl (fun x p d => stillO_c _ _ _ _ _ _ $RO (by assumption) (by assumption) (by first | assumption | omega)) (fun r => ?_) ;; refine WL.ex (fun u$N => ?_) ;; refine WL.pure (fun er => ?_) ;; subst er ;; refine WL.fact (i := 0) rfl (fun h hb => hb.sl (by assumption) (by omega)) (fun hsl$N => ?_)
theorem stillO_c (ρ : Hp) (any : Bool) (last : Int) (v : Value) (cs : List Value) (n : Nat) (hv : ROs ρ 2 v cs) (hl : cs.length = n * 2) (h1 : ∀ q ∈ cs, q.oneCell' = true) (hb : n ≤ 8796093022208) :
    Fn Try.prog 75 #[.agg #[.bool any, .int .i64 last, v]] ρ [] (fun r h => ∃ u, r = .agg #[.bool any, .int .i64 last, u] ∧ Buf 2 u cs h) := by
  have sv := hv.sl hl (by omega)
  refine in75 rfl rfl ?_
  refine W.seq ?_
  refine W.region ?_
  refine WL.bxF rfl rfl (by repeat' first | exact FL.nil | apply FL.cons) (fun b0 => ?_)
  refine WL.alF (T := Ty) rfl rfl (by repeat' first | exact FL.nil | apply FL.cons) (fun b1 => ?_)
  refine WL.nil ?_
  refine W.seq ?_
  refine W.region ?_
  refine WL.faN (T := Ty) (off' := 2) rfl rfl rfl rfl rfl rfl rfl ?_
  refine WL.ldN (T := Ty) (j := 1) rfl rfl rfl rfl rfl rfl ?_
  refine WL.callF rfl rfl (fun x p d => cloneS_c _ _ _ _ (by first | assumption | exact ROs.wide (by assumption) | exact ROs.mono (by assumption) (eqh_at 0 rfl p d) | exact ros_at 0 rfl p d | exact ros_at 1 rfl p d | exact ros_at 2 rfl p d | exact ros_at 3 rfl p d | exact ros_at 4 rfl p d) (by assumption) (by assumption) (by first | assumption | omega)) (fun u2 => ?_)
  refine WL.fact (i := 0) rfl (fun h hb => hb.sl (by assumption) (by omega)) (fun hsl2 => ?_)
  refine WL.callP 0 rfl rfl rfl (fun x p d => clipS_c _ _ _ _ (by assumption)) (by repeat' first | exact FL.nil | apply FL.cons) (fun u3 => ?_)
  refine WL.fact (i := 0) rfl (fun h hb => hb.sl (by assumption) (by omega)) (fun hsl3 => ?_)
  refine WL.faN (T := Ty) (off' := 2) rfl rfl rfl rfl rfl rfl rfl ?_
  refine WL.stF (T := Ty) (j := 2) rfl rfl rfl rfl (SL.one (by assumption)) rfl rfl (by repeat' first | exact FL.nil | apply FL.cons) (by repeat' first | exact FL.nil | apply FL.cons) ?_
  refine WL.nil ?_
  refine W.seq ?_
  refine W.region ?_
  refine WL.ldAF (T := Ty) (j := 2) rfl rfl rfl rfl rfl rfl (by repeat' first | exact FL.nil | apply FL.cons) ?_
  refine WL.stAO (T := Ty) (j := 1) rfl rfl rfl rfl (by repeat' first | exact AO.nil | apply AO.cons (by first | rfl | exact SL.one (by assumption))) rfl rfl (by repeat' first | exact FL.nil | apply FL.cons) (by repeat' first | exact FL.nil | apply FL.cons) ?_
  refine WL.nil ?_
  refine W.drop 2 rfl (by repeat' first | exact FL.nil | apply FL.cons) ?_
  exact W.retC (T := Ty) (j := 1) rfl rfl rfl rfl rfl rfl (fun h p => ⟨_, rfl, sepl_one.1 p⟩)
-- CALL 52 refine WL.callF rfl rfl (fun x p d => stillD_c _ _ _ _ _ _ $RO $RO (by assumption) (by assumption) (by assumption) (by assumption) (by first | assumption | omega) (by first | assumption | omega)) (fun r => ?_) ;; refine WL.ex (fun u$N => ?_) ;; refine WL.ex (fun t$N => ?_) ;; refine WL.pure (fun er => ?_) ;; subst er ;; refine WL.open ?_ ;; refine WL.fact (i := 0) rfl (fun h hb => hb.sl (by assumption) (by omega)) (fun hsl$N => ?_) ;; refine WL.fact (i := 1) rfl (fun h hb => hb.sl (by assumption) (by omega)) (fun hst$N => ?_)
theorem stillD_c (ρ : Hp) (s : Slo) (ls ps : List Value) (n m : Nat) (hv : ROs ρ 2 s.lv ls) (hc : ROs ρ 5 s.cv ps) (hl : ls.length = n * 2) (hm : ps.length = m * 5) (h1 : ∀ q ∈ ls, q.oneCell' = true) (h2 : ∀ q ∈ ps, q.oneCell' = true) (hb : n ≤ 8796093022208) (hd : m ≤ 140737488355) :
    Fn Try.prog 52 #[.agg (sloC s).toArray] ρ [] (fun r h => ∃ u t, r = .agg (sloC { s with lv := u, cv := t }).toArray ∧ sepl [Buf 2 u ls, Buf 5 t ps] h) := by
  have sv := hv.sl hl (by omega)
  have sc := hc.sl hm (by omega)
  refine in52 rfl rfl ?_
  refine W.seq ?_
  refine W.region ?_
  refine WL.bxF rfl rfl (by repeat' first | exact FL.nil | apply FL.cons) (fun b0 => ?_)
  refine WL.alF (T := Ty) rfl rfl (by repeat' first | exact FL.nil | apply FL.cons) (fun b1 => ?_)
  refine WL.nil ?_
  refine W.seq ?_
  refine W.region ?_
  refine WL.faN (T := Ty) (off' := 4) rfl rfl rfl rfl rfl rfl rfl ?_
  refine WL.ldAF (T := Ty) (j := 1) rfl rfl rfl rfl rfl rfl (by repeat' first | exact FL.nil | apply FL.cons) ?_
  refine WL.callF rfl rfl (fun x p d => stillO_c _ _ _ _ _ _ (by first | assumption | exact ROs.wide (by assumption) | exact ROs.mono (by assumption) (eqh_at 0 rfl p d) | exact ros_at 0 rfl p d | exact ros_at 1 rfl p d | exact ros_at 2 rfl p d | exact ros_at 3 rfl p d | exact ros_at 4 rfl p d) (by assumption) (by assumption) (by first | assumption | omega)) (fun r => ?_)
  refine WL.ex (fun u2 => ?_)
  refine WL.pure (fun er => ?_)
  subst er
  refine WL.fact (i := 0) rfl (fun h hb => hb.sl (by assumption) (by omega)) (fun hsl2 => ?_)
  refine WL.faN (T := Ty) (off' := 4) rfl rfl rfl rfl rfl rfl rfl ?_
  refine WL.stAO (T := Ty) (j := 2) rfl rfl rfl rfl (by repeat' first | exact AO.nil | apply AO.cons (by first | rfl | exact SL.one (by assumption))) rfl rfl (by repeat' first | exact FL.nil | apply FL.cons) (by repeat' first | exact FL.nil | apply FL.cons) ?_
  refine WL.nil ?_
  refine W.seq ?_
  refine W.region ?_
  refine WL.faN (T := Ty) (off' := 7) rfl rfl rfl rfl rfl rfl rfl ?_
  refine WL.ldN (T := Ty) (j := 2) rfl rfl rfl rfl rfl rfl ?_
  refine WL.callF rfl rfl (fun x p d => cloneP_c _ _ _ _ (by first | assumption | exact ROs.wide (by assumption) | exact ROs.mono (by assumption) (eqh_at 0 rfl p d) | exact ros_at 0 rfl p d | exact ros_at 1 rfl p d | exact ros_at 2 rfl p d | exact ros_at 3 rfl p d | exact ros_at 4 rfl p d) (by assumption) (by assumption) (by first | assumption | omega)) (fun u3 => ?_)
  refine WL.fact (i := 0) rfl (fun h hb => hb.sl (by assumption) (by omega)) (fun hsl3 => ?_)
  refine WL.callP 0 rfl rfl rfl (fun x p d => clipP_c _ _ _ _ (by assumption)) (by repeat' first | exact FL.nil | apply FL.cons) (fun u4 => ?_)
  refine WL.fact (i := 0) rfl (fun h hb => hb.sl (by assumption) (by omega)) (fun hsl4 => ?_)
  refine WL.faN (T := Ty) (off' := 7) rfl rfl rfl rfl rfl rfl rfl ?_
  refine WL.stF (T := Ty) (j := 3) rfl rfl rfl rfl (SL.one (by assumption)) rfl rfl (by repeat' first | exact FL.nil | apply FL.cons) (by repeat' first | exact FL.nil | apply FL.cons) ?_
  refine WL.nil ?_
  refine W.seq ?_
  refine W.region ?_
  refine WL.ldAF (T := Ty) (j := 3) rfl rfl rfl rfl rfl rfl (by repeat' first | exact FL.nil | apply FL.cons) ?_
  refine WL.stAO (T := Ty) (j := 2) rfl rfl rfl rfl (by repeat' first | exact AO.nil | apply AO.cons (by first | rfl | exact SL.one (by assumption))) rfl rfl (by repeat' first | exact FL.nil | apply FL.cons) (by repeat' first | exact FL.nil | apply FL.cons) ?_
  refine WL.nil ?_
  refine W.drop 3 rfl (by repeat' first | exact FL.nil | apply FL.cons) ?_
  exact W.retC (T := Ty) (j := 2) rfl rfl rfl rfl rfl rfl (fun h p => ⟨_, _, rfl, sepl_perm (.swap _ _ _) p⟩)
-- CALL 51 refine WL.callV rfl rfl (fun x p d => at_in _ _ _ (by first | assumption | omega)) ?_
-- CALL 51 refine WL.callV rfl rfl (fun x p d => at_out _ _ _ (by first | assumption | omega)) ?_
theorem at_in (ρ : Hp) (b i : Nat) (hi : i < 16) : Fn Try.prog 51 #[pt b 0, .int .i64 (i : Int)] ρ [] (Just (pt b (i * 10))) := by
  refine in51 rfl rfl ?_
  refine W.seq ?_
  refine W.region ?_
  refine WL.as rfl rfl ?_
  refine WL.nil ?_
  refine W.seq ?_
  refine W.seq ?_
  refine W.region ?_
  refine WL.mv rfl rfl ?_
  refine WL.lss rfl rfl rfl ?_
  refine WL.mv rfl rfl ?_
  refine WL.gY rfl rfl ?_
  refine WL.mv rfl rfl ?_
  refine WL.gY rfl rfl ?_
  refine WL.geq rfl rfl rfl ?_
  refine WL.pickF rfl rfl rfl ?_
  refine WL.nil ?_
  refine W.condpF rfl (by omega) ?_
  refine W.skip ?_
  refine W.seq ?_
  refine W.region ?_
  refine WL.mv rfl rfl ?_
  refine WL.mv rfl rfl ?_
  refine WL.nc rfl rfl ?_
  refine WL.faN (T := Ty) (off' := 0) rfl rfl rfl rfl rfl rfl rfl ?_
  refine WL.ixA (T := Ty) rfl rfl rfl rfl rfl (by omega) (by first | omega | decide +kernel) ?_
  refine WL.as rfl rfl ?_
  refine WL.nil ?_
  exact W.ret1 rfl rfl (fun h p => ⟨by rw [Nat.zero_add]; rfl, p⟩)
theorem at_out (ρ : Hp) (b : Nat) (i : Int) (hi : i < 0 ∨ 16 ≤ i) : Fn Try.prog 51 #[pt b 0, .int .i64 i] ρ [] (Just (.pointer none)) := by
  refine in51 rfl rfl ?_
  rcases hi with hi | hi
  · refine W.seq ?_
    refine W.region ?_
    refine WL.as rfl rfl ?_
    refine WL.nil ?_
    refine W.seq ?_
    refine W.seq ?_
    refine W.region ?_
    refine WL.mv rfl rfl ?_
    refine WL.lss rfl rfl rfl ?_
    refine WL.mv rfl rfl ?_
    refine WL.gdFn rfl rfl rfl rfl rfl (by omega) ?_
    refine WL.gdFn rfl rfl rfl rfl rfl (by omega) ?_
    refine WL.pickTp rfl rfl (by omega) rfl ?_
    refine WL.nil ?_
    refine W.condT rfl ?_
    refine W.seq ?_
    refine W.region ?_
    refine WL.as rfl rfl ?_
    refine WL.nil ?_
    exact W.ret1 rfl rfl (fun h p => ⟨rfl, p⟩)
  · refine W.seq ?_
    refine W.region ?_
    refine WL.as rfl rfl ?_
    refine WL.nil ?_
    refine W.seq ?_
    refine W.seq ?_
    refine W.region ?_
    refine WL.mv rfl rfl ?_
    refine WL.lss rfl rfl rfl ?_
    refine WL.mv rfl rfl ?_
    refine WL.gF rfl rfl (by omega) ?_
    refine WL.mv rfl rfl ?_
    refine WL.gF rfl rfl (by omega) ?_
    refine WL.geq rfl rfl rfl ?_
    refine WL.pickFp rfl rfl (by omega) rfl ?_
    refine WL.nil ?_
    refine W.condpT rfl (by omega) ?_
    refine W.seq ?_
    refine W.region ?_
    refine WL.as rfl rfl ?_
    refine WL.nil ?_
    exact W.ret1 rfl rfl (fun h p => ⟨rfl, p⟩)
/-- all places -/
def dirC (L : List Plc) : List Value := L.flatMap plcC
abbrev TD : TypeId := 101
theorem dir_get {L : List Plc} {i : Nat} {p : Plc} (h : L[i]? = some p) (j : Nat) {v : Value} (hv : (plcC p)[j]? = some v) : (dirC L)[i * 10 + j]? = some v := flat_get plc_len h hv
theorem dir_slot {L : List Plc} {i : Nat} {p : Plc} (h : L[i]? = some p) : ((dirC L).drop (i * 10)).take 8 = sloC p.s := by
  have := flat_row plc_len h
  rw [show (8 : Nat) = min 8 10 from rfl, ← List.take_take]
  unfold dirC
  rw [this]
  rfl
theorem dir_set {L : List Plc} {i : Nat} {p q : Plc} (h : L[i]? = some p) (j : Nat) {v : Value} (hj : j < 10) (hb : (plcC p).set j v = plcC q) : (dirC L).set (i * 10 + j) v = dirC (L.set i q) := flat_set plc_len h hj hb
theorem dir_put {L : List Plc} {i : Nat} (q : Plc) (h : i < L.length) : (dirC L).take (i * 10) ++ plcC q ++ (dirC L).drop (i * 10 + 10) = dirC (L.set i q) := flat_put (b := q) plc_len h
theorem set_at {L : List Plc} {i : Nat} {p : Plc} (h : L[i]? = some p) (q : Plc) : (L.set i q)[i]? = some q := by rw [List.getElem?_set_self (List.getElem?_eq_some_iff.1 h).1]
theorem dir_in {L : List Plc} (h : L.length = 16) : (dirC L).length = 160 := by unfold dirC; rw [flat_len plc_len, h]
attribute [local irreducible] dirC
theorem look_in (ρ : Hp) (b : Nat) (L : List Plc) (i : Nat) (p : Plc) (ls ps : List Value) (n m : Nat) (hB : RB ρ b (dirC L) TD) (h16 : L.length = 16) (hp : L[i]? = some p) (hi : i < 16) (h0 : 0 ≤ p.s.ver) (he : p.s.ver % 2 = 0)
    (hv : ROs ρ 2 p.s.lv ls) (hc : ROs ρ 5 p.s.cv ps) (hl : ls.length = n * 2) (hm : ps.length = m * 5) (h1 : ∀ q ∈ ls, q.oneCell' = true) (h2 : ∀ q ∈ ps, q.oneCell' = true) (hb : n ≤ 8796093022208) (hd : m ≤ 140737488355) :
    Fn Try.prog 16 #[pt b 0, .int .i64 (i : Int)] ρ [] (fun r h => ∃ u t, r = .tuple #[.agg (sloC { p.s with lv := u, cv := t }).toArray, .bool true] ∧ sepl [Buf 2 u ls, Buf 5 t ps] h) := by
  refine in16 rfl rfl ?_
  have g := fun j v hv => dir_get hp j (v := v) hv
  have g3 : (dirC L)[i * 10 + 0 + 3]? = some (.int .i64 p.s.ver) := g 3 _ rfl
  have hz := dir_slot hp
  have hzl := dir_in h16
  refine W.seq ?_
  refine W.region ?_
  refine WL.alF (T := Ty) rfl rfl (by repeat' first | exact FL.nil | apply FL.cons) (fun b0 => ?_)
  refine WL.as rfl rfl ?_
  refine WL.nil ?_
  refine W.seq ?_
  refine W.region ?_
  refine WL.mv rfl rfl ?_
  refine WL.mv rfl rfl ?_
  refine WL.callV rfl rfl (fun x p d => at_in _ _ _ (by first | assumption | omega)) ?_
  refine WL.as rfl rfl ?_
  refine WL.nil ?_
  refine W.seq ?_
  refine W.seq ?_
  refine W.region ?_
  refine WL.mv rfl rfl ?_
  refine WL.eqP (T := Ty) rfl rfl rfl ?_
  refine WL.mv rfl rfl ?_
  refine WL.gY rfl rfl ?_
  refine WL.mv rfl rfl ?_
  refine WL.gY rfl rfl ?_
  refine WL.nc rfl rfl ?_
  refine WL.gY rfl rfl ?_
  refine WL.faN (T := Ty) rfl rfl rfl rfl rfl rfl rfl ?_
  refine WL.gY rfl rfl ?_
  refine WL.faN (T := Ty) rfl rfl rfl rfl rfl rfl rfl ?_
  refine WL.gY rfl rfl ?_
  refine WL.ldB (T := Ty) rfl rfl rfl rfl (by first | assumption | exact RB.wide (by assumption) | exact In.rb (by assumption)) (by assumption) ?_
  refine WL.gY rfl rfl ?_
  refine WL.remI rfl rfl rfl (by omega) (by omega) ?_
  refine WL.gY rfl rfl ?_
  refine WL.eql rfl rfl rfl ?_
  refine WL.pickF rfl rfl rfl ?_
  refine WL.nil ?_
  refine W.condpF rfl (by omega) ?_
  refine W.skip ?_
  refine W.seq ?_
  refine W.region ?_
  refine WL.mv rfl rfl ?_
  refine WL.nc rfl rfl ?_
  refine WL.faN (T := Ty) rfl rfl rfl rfl rfl rfl rfl ?_
  refine WL.ldAB (T := Ty) (cs := sloC p.s) rfl rfl rfl rfl hB hz (by rw [hzl]; show i * 10 + 0 + 8 ≤ 160; omega) ?_
  refine WL.callF rfl rfl (fun x p d => stillD_c _ _ _ _ _ _ (by first | assumption | exact ROs.wide (by assumption) | exact ROs.mono (by assumption) (eqh_at 0 rfl p d) | exact ros_at 0 rfl p d | exact ros_at 1 rfl p d | exact ros_at 2 rfl p d | exact ros_at 3 rfl p d | exact ros_at 4 rfl p d) (by first | assumption | exact ROs.wide (by assumption) | exact ROs.mono (by assumption) (eqh_at 0 rfl p d) | exact ros_at 0 rfl p d | exact ros_at 1 rfl p d | exact ros_at 2 rfl p d | exact ros_at 3 rfl p d | exact ros_at 4 rfl p d) (by assumption) (by assumption) (by assumption) (by assumption) (by first | assumption | omega) (by first | assumption | omega)) (fun r => ?_)
  refine WL.ex (fun u1 => ?_)
  refine WL.ex (fun t1 => ?_)
  refine WL.pure (fun er => ?_)
  subst er
  refine WL.open ?_
  refine WL.fact (i := 0) rfl (fun h hb => hb.sl (by assumption) (by omega)) (fun hsl1 => ?_)
  refine WL.fact (i := 1) rfl (fun h hb => hb.sl (by assumption) (by omega)) (fun hst1 => ?_)
  refine WL.stAO (T := Ty) (j := 2) rfl rfl rfl rfl (by repeat' first | exact AO.nil | apply AO.cons (by first | rfl | exact SL.one (by assumption))) rfl rfl (by repeat' first | exact FL.nil | apply FL.cons) (by repeat' first | exact FL.nil | apply FL.cons) ?_
  refine WL.as rfl rfl ?_
  refine WL.nil ?_
  exact W.retC2 (T := Ty) (j := 2) rfl rfl rfl rfl rfl rfl rfl (fun h p => ⟨_, _, rfl, p⟩)
theorem look_no (ρ : Hp) (b : Nat) (L : List Plc) (i : Nat) (p : Plc) (hB : RB ρ b (dirC L) TD) (hp : L[i]? = some p) (hi : i < 16) (h0 : 0 ≤ p.s.ver) (he : p.s.ver % 2 = 1) :
    Fn Try.prog 16 #[pt b 0, .int .i64 (i : Int)] ρ [] (Just (.tuple #[.agg (sloC ⟨false, false, 0, 0, false, 0, .slice none 0 0, .slice none 0 0⟩).toArray, .bool false])) := by
  refine in16 rfl rfl ?_
  have g := fun j v hv => dir_get hp j (v := v) hv
  have g3 : (dirC L)[i * 10 + 0 + 3]? = some (.int .i64 p.s.ver) := g 3 _ rfl
  refine W.seq ?_
  refine W.region ?_
  refine WL.alF (T := Ty) rfl rfl (by repeat' first | exact FL.nil | apply FL.cons) (fun b0 => ?_)
  refine WL.as rfl rfl ?_
  refine WL.nil ?_
  refine W.seq ?_
  refine W.region ?_
  refine WL.mv rfl rfl ?_
  refine WL.mv rfl rfl ?_
  refine WL.callV rfl rfl (fun x p d => at_in _ _ _ (by first | assumption | omega)) ?_
  refine WL.as rfl rfl ?_
  refine WL.nil ?_
  refine W.seq ?_
  refine W.seq ?_
  refine W.region ?_
  refine WL.mv rfl rfl ?_
  refine WL.eqP (T := Ty) rfl rfl rfl ?_
  refine WL.mv rfl rfl ?_
  refine WL.gY rfl rfl ?_
  refine WL.mv rfl rfl ?_
  refine WL.gY rfl rfl ?_
  refine WL.nc rfl rfl ?_
  refine WL.gY rfl rfl ?_
  refine WL.faN (T := Ty) rfl rfl rfl rfl rfl rfl rfl ?_
  refine WL.gY rfl rfl ?_
  refine WL.faN (T := Ty) rfl rfl rfl rfl rfl rfl rfl ?_
  refine WL.gY rfl rfl ?_
  refine WL.ldB (T := Ty) rfl rfl rfl rfl (by first | assumption | exact RB.wide (by assumption) | exact In.rb (by assumption)) (by assumption) ?_
  refine WL.gY rfl rfl ?_
  refine WL.remI rfl rfl rfl (by omega) (by omega) ?_
  refine WL.gY rfl rfl ?_
  refine WL.eql rfl rfl rfl ?_
  refine WL.pickF rfl rfl rfl ?_
  refine WL.nil ?_
  refine W.condpT rfl (by omega) ?_
  refine W.seq ?_
  refine W.region ?_
  refine WL.bdC (T := Ty) rfl rfl rfl rfl (by repeat' first | exact CO.nil | apply CO.one (by first | rfl | exact SL.one (by assumption)) | apply CO.agg) rfl (by repeat' first | exact FL.nil | apply FL.cons) ?_
  refine WL.stAO (T := Ty) (j := 0) rfl rfl rfl rfl (by repeat' first | exact AO.nil | apply AO.cons (by first | rfl | exact SL.one (by assumption))) rfl rfl (by repeat' first | exact FL.nil | apply FL.cons) (by repeat' first | exact FL.nil | apply FL.cons) ?_
  refine WL.as rfl rfl ?_
  refine WL.nil ?_
  exact W.retC2 (T := Ty) (j := 0) rfl rfl rfl rfl rfl rfl rfl (fun h p => ⟨rfl, p⟩)
theorem look_out (ρ : Hp) (b : Nat) (i : Int) (hi : i < 0 ∨ 16 ≤ i) :
    Fn Try.prog 16 #[pt b 0, .int .i64 i] ρ [] (Just (.tuple #[.agg (sloC ⟨false, false, 0, 0, false, 0, .slice none 0 0, .slice none 0 0⟩).toArray, .bool false])) := by
  refine in16 rfl rfl ?_
  refine W.seq ?_
  refine W.region ?_
  refine WL.alF (T := Ty) rfl rfl (by repeat' first | exact FL.nil | apply FL.cons) (fun b0 => ?_)
  refine WL.as rfl rfl ?_
  refine WL.nil ?_
  refine W.seq ?_
  refine W.region ?_
  refine WL.mv rfl rfl ?_
  refine WL.mv rfl rfl ?_
  refine WL.callV rfl rfl (fun x p d => at_out _ _ _ (by first | assumption | omega)) ?_
  refine WL.as rfl rfl ?_
  refine WL.nil ?_
  refine W.seq ?_
  refine W.seq ?_
  refine W.region ?_
  refine WL.mv rfl rfl ?_
  refine WL.eqP (T := Ty) rfl rfl rfl ?_
  refine WL.mv rfl rfl ?_
  refine WL.gdN rfl rfl rfl rfl rfl rfl ?_
  refine WL.gdN rfl rfl rfl rfl rfl rfl ?_
  refine WL.gdN rfl rfl rfl rfl rfl rfl ?_
  refine WL.gdN rfl rfl rfl rfl rfl rfl ?_
  refine WL.gdN rfl rfl rfl rfl rfl rfl ?_
  refine WL.gdN rfl rfl rfl rfl rfl rfl ?_
  refine WL.gdN rfl rfl rfl rfl rfl rfl ?_
  refine WL.pickT rfl rfl rfl ?_
  refine WL.nil ?_
  refine W.condT rfl ?_
  refine W.seq ?_
  refine W.region ?_
  refine WL.bdC (T := Ty) rfl rfl rfl rfl (by repeat' first | exact CO.nil | apply CO.one (by first | rfl | exact SL.one (by assumption)) | apply CO.agg) rfl (by repeat' first | exact FL.nil | apply FL.cons) ?_
  refine WL.stAO (T := Ty) (j := 0) rfl rfl rfl rfl (by repeat' first | exact AO.nil | apply AO.cons (by first | rfl | exact SL.one (by assumption))) rfl rfl (by repeat' first | exact FL.nil | apply FL.cons) (by repeat' first | exact FL.nil | apply FL.cons) ?_
  refine WL.as rfl rfl ?_
  refine WL.nil ?_
  exact W.retC2 (T := Ty) (j := 0) rfl rfl rfl rfl rfl rfl rfl (fun h p => ⟨rfl, p⟩)
theorem flag_in (ρ : Hp) (b : Nat) (L : List Plc) (i : Nat) (p : Plc) (hB : RB ρ b (dirC L) TD) (hp : L[i]? = some p) (hi : i < 16) (ht : p.taken = true) :
    Fn Try.prog 22 #[pt b 0, .int .i64 (i : Int)] ρ [] (Just (.tuple #[.int .i64 p.who, .bool true])) := by
  refine in22 rfl rfl ?_
  have g := fun j v hv => dir_get hp j (v := v) hv
  have g8 : (dirC L)[i * 10 + 8]? = some (.bool true) := by have := g 8 _ rfl; rwa [ht] at this
  have g9 : (dirC L)[i * 10 + 9]? = some (.int .i64 p.who) := g 9 _ rfl
  refine W.seq ?_
  refine W.region ?_
  refine WL.as rfl rfl ?_
  refine WL.as rfl rfl ?_
  refine WL.nil ?_
  refine W.seq ?_
  refine W.region ?_
  refine WL.mv rfl rfl ?_
  refine WL.mv rfl rfl ?_
  refine WL.callV rfl rfl (fun x p d => at_in _ _ _ (by first | assumption | omega)) ?_
  refine WL.as rfl rfl ?_
  refine WL.nil ?_
  refine W.seq ?_
  refine W.seq ?_
  refine W.region ?_
  refine WL.mv rfl rfl ?_
  refine WL.eqP (T := Ty) rfl rfl rfl ?_
  refine WL.mv rfl rfl ?_
  refine WL.gY rfl rfl ?_
  refine WL.mv rfl rfl ?_
  refine WL.gY rfl rfl ?_
  refine WL.nc rfl rfl ?_
  refine WL.gY rfl rfl ?_
  refine WL.faN (T := Ty) rfl rfl rfl rfl rfl rfl rfl ?_
  refine WL.gY rfl rfl ?_
  refine WL.ldB (T := Ty) rfl rfl rfl rfl (by first | assumption | exact RB.wide (by assumption) | exact In.rb (by assumption)) (by assumption) ?_
  refine WL.gY rfl rfl ?_
  refine WL.not rfl rfl ?_
  refine WL.pickF rfl rfl rfl ?_
  refine WL.nil ?_
  refine W.condF rfl ?_
  refine W.skip ?_
  refine W.seq ?_
  refine W.region ?_
  refine WL.mv rfl rfl ?_
  refine WL.nc rfl rfl ?_
  refine WL.faN (T := Ty) rfl rfl rfl rfl rfl rfl rfl ?_
  refine WL.ldB (T := Ty) rfl rfl rfl rfl (by first | assumption | exact RB.wide (by assumption) | exact In.rb (by assumption)) (by assumption) ?_
  refine WL.as rfl rfl ?_
  refine WL.as rfl rfl ?_
  refine WL.nil ?_
  exact W.ret2 rfl rfl rfl (fun h p => ⟨rfl, p⟩)
theorem flag_no (ρ : Hp) (b : Nat) (L : List Plc) (i : Nat) (p : Plc) (hB : RB ρ b (dirC L) TD) (hp : L[i]? = some p) (hi : i < 16) (ht : p.taken = false) :
    Fn Try.prog 22 #[pt b 0, .int .i64 (i : Int)] ρ [] (Just (.tuple #[.int .i64 0, .bool false])) := by
  refine in22 rfl rfl ?_
  have g := fun j v hv => dir_get hp j (v := v) hv
  have g8 : (dirC L)[i * 10 + 8]? = some (.bool false) := by have := g 8 _ rfl; rwa [ht] at this
  refine W.seq ?_
  refine W.region ?_
  refine WL.as rfl rfl ?_
  refine WL.as rfl rfl ?_
  refine WL.nil ?_
  refine W.seq ?_
  refine W.region ?_
  refine WL.mv rfl rfl ?_
  refine WL.mv rfl rfl ?_
  refine WL.callV rfl rfl (fun x p d => at_in _ _ _ (by first | assumption | omega)) ?_
  refine WL.as rfl rfl ?_
  refine WL.nil ?_
  refine W.seq ?_
  refine W.seq ?_
  refine W.region ?_
  refine WL.mv rfl rfl ?_
  refine WL.eqP (T := Ty) rfl rfl rfl ?_
  refine WL.mv rfl rfl ?_
  refine WL.gY rfl rfl ?_
  refine WL.mv rfl rfl ?_
  refine WL.gY rfl rfl ?_
  refine WL.nc rfl rfl ?_
  refine WL.gY rfl rfl ?_
  refine WL.faN (T := Ty) rfl rfl rfl rfl rfl rfl rfl ?_
  refine WL.gY rfl rfl ?_
  refine WL.ldB (T := Ty) rfl rfl rfl rfl (by first | assumption | exact RB.wide (by assumption) | exact In.rb (by assumption)) (by assumption) ?_
  refine WL.gY rfl rfl ?_
  refine WL.not rfl rfl ?_
  refine WL.pickF rfl rfl rfl ?_
  refine WL.nil ?_
  refine W.condT rfl ?_
  refine W.seq ?_
  refine W.region ?_
  refine WL.as rfl rfl ?_
  refine WL.as rfl rfl ?_
  refine WL.nil ?_
  exact W.ret2 rfl rfl rfl (fun h p => ⟨rfl, p⟩)
theorem flag_out (ρ : Hp) (b : Nat) (i : Int) (hi : i < 0 ∨ 16 ≤ i) :
    Fn Try.prog 22 #[pt b 0, .int .i64 i] ρ [] (Just (.tuple #[.int .i64 0, .bool false])) := by
  refine in22 rfl rfl ?_
  refine W.seq ?_
  refine W.region ?_
  refine WL.as rfl rfl ?_
  refine WL.as rfl rfl ?_
  refine WL.nil ?_
  refine W.seq ?_
  refine W.region ?_
  refine WL.mv rfl rfl ?_
  refine WL.mv rfl rfl ?_
  refine WL.callV rfl rfl (fun x p d => at_out _ _ _ (by first | assumption | omega)) ?_
  refine WL.as rfl rfl ?_
  refine WL.nil ?_
  refine W.seq ?_
  refine W.seq ?_
  refine W.region ?_
  refine WL.mv rfl rfl ?_
  refine WL.eqP (T := Ty) rfl rfl rfl ?_
  refine WL.mv rfl rfl ?_
  refine WL.gdN rfl rfl rfl rfl rfl rfl ?_
  refine WL.gdN rfl rfl rfl rfl rfl rfl ?_
  refine WL.gdN rfl rfl rfl rfl rfl rfl ?_
  refine WL.gdN rfl rfl rfl rfl rfl rfl ?_
  refine WL.gdN rfl rfl rfl rfl rfl rfl ?_
  refine WL.pickT rfl rfl rfl ?_
  refine WL.nil ?_
  refine W.condT rfl ?_
  refine W.seq ?_
  refine W.region ?_
  refine WL.as rfl rfl ?_
  refine WL.as rfl rfl ?_
  refine WL.nil ?_
  exact W.ret2 rfl rfl rfl (fun h p => ⟨rfl, p⟩)
theorem take_no (ρ : Hp) (b : Nat) (L : List Plc) (i : Nat) (p : Plc) (who : Int) (hB : RB ρ b (dirC L) TD) (hp : L[i]? = some p) (hi : i < 16) (ht : p.taken = true) :
    Fn Try.prog 17 #[pt b 0, .int .i64 (i : Int), .int .i64 who] ρ [] (Just (.bool false)) := by
  refine in17 rfl rfl ?_
  have g := fun j v hv => dir_get hp j (v := v) hv
  have g8 : (dirC L)[i * 10 + 8]? = some (.bool true) := by have := g 8 _ rfl; rwa [ht] at this
  refine W.seq ?_
  refine W.region ?_
  refine WL.as rfl rfl ?_
  refine WL.nil ?_
  refine W.seq ?_
  refine W.region ?_
  refine WL.mv rfl rfl ?_
  refine WL.mv rfl rfl ?_
  refine WL.callV rfl rfl (fun x p d => at_in _ _ _ (by first | assumption | omega)) ?_
  refine WL.as rfl rfl ?_
  refine WL.nil ?_
  refine W.seq ?_
  refine W.seq ?_
  refine W.region ?_
  refine WL.mv rfl rfl ?_
  refine WL.eqP (T := Ty) rfl rfl rfl ?_
  refine WL.mv rfl rfl ?_
  refine WL.gY rfl rfl ?_
  refine WL.mv rfl rfl ?_
  refine WL.gY rfl rfl ?_
  refine WL.nc rfl rfl ?_
  refine WL.gY rfl rfl ?_
  refine WL.faN (T := Ty) rfl rfl rfl rfl rfl rfl rfl ?_
  refine WL.gY rfl rfl ?_
  refine WL.ldB (T := Ty) rfl rfl rfl rfl (by first | assumption | exact RB.wide (by assumption) | exact In.rb (by assumption)) (by assumption) ?_
  refine WL.pickF rfl rfl rfl ?_
  refine WL.nil ?_
  refine W.condT rfl ?_
  refine W.seq ?_
  refine W.region ?_
  refine WL.as rfl rfl ?_
  refine WL.nil ?_
  exact W.ret1 rfl rfl (fun h p => ⟨rfl, p⟩)
theorem take_out (ρ : Hp) (b : Nat) (i who : Int) (hi : i < 0 ∨ 16 ≤ i) :
    Fn Try.prog 17 #[pt b 0, .int .i64 i, .int .i64 who] ρ [] (Just (.bool false)) := by
  refine in17 rfl rfl ?_
  refine W.seq ?_
  refine W.region ?_
  refine WL.as rfl rfl ?_
  refine WL.nil ?_
  refine W.seq ?_
  refine W.region ?_
  refine WL.mv rfl rfl ?_
  refine WL.mv rfl rfl ?_
  refine WL.callV rfl rfl (fun x p d => at_out _ _ _ (by first | assumption | omega)) ?_
  refine WL.as rfl rfl ?_
  refine WL.nil ?_
  refine W.seq ?_
  refine W.seq ?_
  refine W.region ?_
  refine WL.mv rfl rfl ?_
  refine WL.eqP (T := Ty) rfl rfl rfl ?_
  refine WL.mv rfl rfl ?_
  refine WL.gdN rfl rfl rfl rfl rfl rfl ?_
  refine WL.gdN rfl rfl rfl rfl rfl rfl ?_
  refine WL.gdN rfl rfl rfl rfl rfl rfl ?_
  refine WL.gdN rfl rfl rfl rfl rfl rfl ?_
  refine WL.pickT rfl rfl rfl ?_
  refine WL.nil ?_
  refine W.condT rfl ?_
  refine W.seq ?_
  refine W.region ?_
  refine WL.as rfl rfl ?_
  refine WL.nil ?_
  exact W.ret1 rfl rfl (fun h p => ⟨rfl, p⟩)
theorem take_yes (ρ : Hp) (b : Nat) (L : List Plc) (i : Nat) (p : Plc) (who : Int) (h16 : L.length = 16) (hp : L[i]? = some p) (hi : i < 16) (ht : p.taken = false) (hv : 0 ≤ p.s.ver) (hv2 : p.s.ver < 9223372036854775807) :
    Fn Try.prog 17 #[pt b 0, .int .i64 (i : Int), .int .i64 who] ρ [box b (dirC L) TD] (fun r h => r = .bool true ∧ box b (dirC (L.set i { s := { p.s with ver := p.s.ver + 1 }, taken := true, who := who })) TD h) := by
  refine in17 rfl rfl ?_
  have g := fun j v hv => dir_get hp j (v := v) hv
  have g8 : (dirC L)[i * 10 + 8]? = some (.bool false) := by have := g 8 _ rfl; rwa [ht] at this
  have g3 : (dirC L)[i * 10 + 3]? = some (.int .i64 p.s.ver) := g 3 _ rfl
  refine W.seq ?_
  refine W.region ?_
  refine WL.as rfl rfl ?_
  refine WL.nil ?_
  refine W.seq ?_
  refine W.region ?_
  refine WL.mv rfl rfl ?_
  refine WL.mv rfl rfl ?_
  refine WL.callV rfl rfl (fun x p d => at_in _ _ _ (by first | assumption | omega)) ?_
  refine WL.as rfl rfl ?_
  refine WL.nil ?_
  refine W.seq ?_
  refine W.seq ?_
  refine W.region ?_
  refine WL.mv rfl rfl ?_
  refine WL.eqP (T := Ty) rfl rfl rfl ?_
  refine WL.mv rfl rfl ?_
  refine WL.gY rfl rfl ?_
  refine WL.mv rfl rfl ?_
  refine WL.gY rfl rfl ?_
  refine WL.nc rfl rfl ?_
  refine WL.gY rfl rfl ?_
  refine WL.faN (T := Ty) rfl rfl rfl rfl rfl rfl rfl ?_
  refine WL.gY rfl rfl ?_
  refine WL.ld (T := Ty) (j := 0) rfl rfl rfl rfl rfl (by assumption) ?_
  refine WL.pickF rfl rfl rfl ?_
  refine WL.nil ?_
  refine W.condF rfl ?_
  refine W.skip ?_
  refine W.seq ?_
  refine W.region ?_
  refine WL.mv rfl rfl ?_
  refine WL.mv rfl rfl ?_
  refine WL.mv rfl rfl ?_
  refine WL.nc rfl rfl ?_
  refine WL.faN (T := Ty) rfl rfl rfl rfl rfl rfl rfl ?_
  have hzl := dir_in h16
  refine WL.stX (T := Ty) (j := 0) (c' := dirC (L.set i { p with taken := true })) rfl rfl rfl rfl rfl rfl (by rw [hzl]; show i * 10 + 8 < 160; omega) (dir_set hp 8 (by decide) rfl) (by repeat' first | exact FL.nil | apply FL.cons) ?_
  clear hzl
  refine WL.nc rfl rfl ?_
  refine WL.faN (T := Ty) rfl rfl rfl rfl rfl rfl rfl ?_
  have hp1 := set_at hp { p with taken := true }
  have hz1 : (dirC (L.set i { p with taken := true })).length = 160 := dir_in (by rw [List.length_set, h16])
  refine WL.stX (T := Ty) (j := 0) (c' := dirC ((L.set i { p with taken := true }).set i { p with taken := true, who := who })) rfl rfl rfl rfl rfl rfl (by rw [hz1]; show i * 10 + 9 < 160; omega) (dir_set hp1 9 (by decide) rfl) (by repeat' first | exact FL.nil | apply FL.cons) ?_
  rw [List.set_set]
  have hp2 := set_at hp { p with taken := true, who := who }
  have g3 : (dirC (L.set i { p with taken := true, who := who }))[i * 10 + 0 + 3]? = some (.int .i64 p.s.ver) := dir_get hp2 3 rfl
  refine WL.nil ?_
  refine W.seq ?_
  refine W.region ?_
  refine WL.mv rfl rfl ?_
  refine WL.nc rfl rfl ?_
  refine WL.faN (T := Ty) rfl rfl rfl rfl rfl rfl rfl ?_
  refine WL.faN (T := Ty) rfl rfl rfl rfl rfl rfl rfl ?_
  refine WL.ld (T := Ty) (j := 0) rfl rfl rfl rfl rfl (by assumption) ?_
  refine WL.addK rfl rfl rfl (wrap_i64 ⟨by omega, by omega⟩) ?_
  refine WL.nc rfl rfl ?_
  refine WL.faN (T := Ty) rfl rfl rfl rfl rfl rfl rfl ?_
  refine WL.faN (T := Ty) rfl rfl rfl rfl rfl rfl rfl ?_
  have hz2 : (dirC (L.set i { p with taken := true, who := who })).length = 160 := dir_in (by rw [List.length_set, h16])
  refine WL.stX (T := Ty) (j := 0) (c' := dirC ((L.set i { p with taken := true, who := who }).set i { s := { p.s with ver := p.s.ver + 1 }, taken := true, who := who })) rfl rfl rfl rfl rfl rfl (by rw [hz2]; show i * 10 + 0 + 3 < 160; omega) (dir_set hp2 3 (by decide) rfl) (by repeat' first | exact FL.nil | apply FL.cons) ?_
  rw [List.set_set]
  refine WL.nil ?_
  refine W.seq ?_
  refine W.region ?_
  refine WL.as rfl rfl ?_
  refine WL.nil ?_
  exact W.ret1 rfl rfl (fun h p => ⟨rfl, sepl_one.1 p⟩)
theorem leave_out (ρ : Hp) (b : Nat) (i who : Int) (s : Slo) (hi : i < 0 ∨ 16 ≤ i) :
    Fn Try.prog 18 #[pt b 0, .int .i64 i, .int .i64 who, .agg (sloC s).toArray] ρ [] (Just (.bool false)) := by
  refine in18 rfl rfl ?_
  refine W.seq ?_
  refine W.region ?_
  refine WL.bxF rfl rfl (by repeat' first | exact FL.nil | apply FL.cons) (fun b0 => ?_)
  refine WL.as rfl rfl ?_
  refine WL.nil ?_
  refine W.seq ?_
  refine W.region ?_
  refine WL.mv rfl rfl ?_
  refine WL.mv rfl rfl ?_
  refine WL.callV rfl rfl (fun x p d => at_out _ _ _ (by first | assumption | omega)) ?_
  refine WL.as rfl rfl ?_
  refine WL.nil ?_
  refine W.seq ?_
  refine W.seq ?_
  refine W.region ?_
  refine WL.mv rfl rfl ?_
  refine WL.eqP (T := Ty) rfl rfl rfl ?_
  refine WL.mv rfl rfl ?_
  refine WL.gdN rfl rfl rfl rfl rfl rfl ?_
  refine WL.gdN rfl rfl rfl rfl rfl rfl ?_
  refine WL.gdN rfl rfl rfl rfl rfl rfl ?_
  refine WL.gdN rfl rfl rfl rfl rfl rfl ?_
  refine WL.gdN rfl rfl rfl rfl rfl rfl ?_
  refine WL.pickT rfl rfl rfl ?_
  refine WL.mv rfl rfl ?_
  refine WL.gdN rfl rfl rfl rfl rfl rfl ?_
  refine WL.gdN rfl rfl rfl rfl rfl rfl ?_
  refine WL.gdN rfl rfl rfl rfl rfl rfl ?_
  refine WL.gdN rfl rfl rfl rfl rfl rfl ?_
  refine WL.gdN rfl rfl rfl rfl rfl rfl ?_
  refine WL.gdN rfl rfl rfl rfl rfl rfl ?_
  refine WL.pickT rfl rfl rfl ?_
  refine WL.nil ?_
  refine W.condT rfl ?_
  refine W.seq ?_
  refine W.region ?_
  refine WL.as rfl rfl ?_
  refine WL.nil ?_
  refine W.drop 0 rfl (by repeat' first | exact FL.nil | apply FL.cons) ?_
  exact W.ret1 rfl rfl (fun h p => ⟨rfl, p⟩)
theorem leave_no (ρ : Hp) (b : Nat) (L : List Plc) (i : Nat) (p : Plc) (who : Int) (s : Slo) (hB : RB ρ b (dirC L) TD) (hp : L[i]? = some p) (hi : i < 16) (ht : p.taken = false ∨ p.who ≠ who) :
    Fn Try.prog 18 #[pt b 0, .int .i64 (i : Int), .int .i64 who, .agg (sloC s).toArray] ρ [] (Just (.bool false)) := by
  refine in18 rfl rfl ?_
  have g := fun j v hv => dir_get hp j (v := v) hv
  have g9 : (dirC L)[i * 10 + 9]? = some (.int .i64 p.who) := g 9 _ rfl
  cases hk : p.taken with
  | false =>
    have g8 : (dirC L)[i * 10 + 8]? = some (.bool false) := by have := g 8 _ rfl; rwa [hk] at this
    refine W.seq ?_
    refine W.region ?_
    refine WL.bxF rfl rfl (by repeat' first | exact FL.nil | apply FL.cons) (fun b0 => ?_)
    refine WL.as rfl rfl ?_
    refine WL.nil ?_
    refine W.seq ?_
    refine W.region ?_
    refine WL.mv rfl rfl ?_
    refine WL.mv rfl rfl ?_
    refine WL.callV rfl rfl (fun x p d => at_in _ _ _ (by first | assumption | omega)) ?_
    refine WL.as rfl rfl ?_
    refine WL.nil ?_
    refine W.seq ?_
    refine W.seq ?_
    refine W.region ?_
    refine WL.mv rfl rfl ?_
    refine WL.eqP (T := Ty) rfl rfl rfl ?_
    refine WL.mv rfl rfl ?_
    refine WL.gY rfl rfl ?_
    refine WL.mv rfl rfl ?_
    refine WL.gY rfl rfl ?_
    refine WL.nc rfl rfl ?_
    refine WL.gY rfl rfl ?_
    refine WL.faN (T := Ty) rfl rfl rfl rfl rfl rfl rfl ?_
    refine WL.gY rfl rfl ?_
    refine WL.ldB (T := Ty) rfl rfl rfl rfl (by first | assumption | exact RB.wide (by assumption) | exact In.rb (by assumption)) (by assumption) ?_
    refine WL.gY rfl rfl ?_
    refine WL.not rfl rfl ?_
    refine WL.pickF rfl rfl rfl ?_
    refine WL.mv rfl rfl ?_
    refine WL.gdN rfl rfl rfl rfl rfl rfl ?_
    refine WL.gdN rfl rfl rfl rfl rfl rfl ?_
    refine WL.gdN rfl rfl rfl rfl rfl rfl ?_
    refine WL.gdN rfl rfl rfl rfl rfl rfl ?_
    refine WL.gdN rfl rfl rfl rfl rfl rfl ?_
    refine WL.gdN rfl rfl rfl rfl rfl rfl ?_
    refine WL.pickT rfl rfl rfl ?_
    refine WL.nil ?_
    refine W.condT rfl ?_
    refine W.seq ?_
    refine W.region ?_
    refine WL.as rfl rfl ?_
    refine WL.nil ?_
    refine W.drop 0 rfl (by repeat' first | exact FL.nil | apply FL.cons) ?_
    exact W.ret1 rfl rfl (fun h p => ⟨rfl, p⟩)
  | true =>
    have g8 : (dirC L)[i * 10 + 8]? = some (.bool true) := by have := g 8 _ rfl; rwa [hk] at this
    have hne : p.who ≠ who := ht.resolve_left (by rw [hk]; decide)
    refine W.seq ?_
    refine W.region ?_
    refine WL.bxF rfl rfl (by repeat' first | exact FL.nil | apply FL.cons) (fun b0 => ?_)
    refine WL.as rfl rfl ?_
    refine WL.nil ?_
    refine W.seq ?_
    refine W.region ?_
    refine WL.mv rfl rfl ?_
    refine WL.mv rfl rfl ?_
    refine WL.callV rfl rfl (fun x p d => at_in _ _ _ (by first | assumption | omega)) ?_
    refine WL.as rfl rfl ?_
    refine WL.nil ?_
    refine W.seq ?_
    refine W.seq ?_
    refine W.region ?_
    refine WL.mv rfl rfl ?_
    refine WL.eqP (T := Ty) rfl rfl rfl ?_
    refine WL.mv rfl rfl ?_
    refine WL.gY rfl rfl ?_
    refine WL.mv rfl rfl ?_
    refine WL.gY rfl rfl ?_
    refine WL.nc rfl rfl ?_
    refine WL.gY rfl rfl ?_
    refine WL.faN (T := Ty) rfl rfl rfl rfl rfl rfl rfl ?_
    refine WL.gY rfl rfl ?_
    refine WL.ldB (T := Ty) rfl rfl rfl rfl (by first | assumption | exact RB.wide (by assumption) | exact In.rb (by assumption)) (by assumption) ?_
    refine WL.gY rfl rfl ?_
    refine WL.not rfl rfl ?_
    refine WL.pickF rfl rfl rfl ?_
    refine WL.mv rfl rfl ?_
    refine WL.gY rfl rfl ?_
    refine WL.mv rfl rfl ?_
    refine WL.gY rfl rfl ?_
    refine WL.nc rfl rfl ?_
    refine WL.gY rfl rfl ?_
    refine WL.faN (T := Ty) rfl rfl rfl rfl rfl rfl rfl ?_
    refine WL.gY rfl rfl ?_
    refine WL.ldB (T := Ty) rfl rfl rfl rfl (by first | assumption | exact RB.wide (by assumption) | exact In.rb (by assumption)) (by assumption) ?_
    refine WL.gY rfl rfl ?_
    refine WL.mv rfl rfl ?_
    refine WL.gY rfl rfl ?_
    refine WL.neq rfl rfl rfl ?_
    refine WL.pickF rfl rfl rfl ?_
    refine WL.nil ?_
    refine W.condpT rfl (by omega) ?_
    refine W.seq ?_
    refine W.region ?_
    refine WL.as rfl rfl ?_
    refine WL.nil ?_
    refine W.drop 0 rfl (by repeat' first | exact FL.nil | apply FL.cons) ?_
    exact W.ret1 rfl rfl (fun h p => ⟨rfl, p⟩)
theorem leave_yes (ρ : Hp) (b : Nat) (L : List Plc) (i : Nat) (p : Plc) (who : Int) (s : Slo) (ls ps : List Value) (n m : Nat) (h16 : L.length = 16) (hp : L[i]? = some p) (hi : i < 16) (ht : p.taken = true) (hq : p.who = who) (h0 : 0 ≤ p.s.ver) (hw : p.s.ver < 9223372036854775807)
    (hv : ROs ρ 2 s.lv ls) (hc : ROs ρ 5 s.cv ps) (hl : ls.length = n * 2) (hm : ps.length = m * 5) (h1 : ∀ q ∈ ls, q.oneCell' = true) (h2 : ∀ q ∈ ps, q.oneCell' = true) (hb : n ≤ 8796093022208) (hd : m ≤ 140737488355) :
    Fn Try.prog 18 #[pt b 0, .int .i64 (i : Int), .int .i64 who, .agg (sloC s).toArray] ρ [box b (dirC L) TD]
      (fun r h => ∃ u t, r = .bool true ∧ sepl [box b (dirC (L.set i { s := { s with ver := p.s.ver + 1, lv := u, cv := t }, taken := false, who := 0 })) TD, Buf 2 u ls, Buf 5 t ps] h) := by
  subst hq
  refine in18 rfl rfl ?_
  have g := fun j v hv => dir_get hp j (v := v) hv
  have g9 : (dirC L)[i * 10 + 9]? = some (.int .i64 p.who) := g 9 _ rfl
  have g8 : (dirC L)[i * 10 + 8]? = some (.bool true) := by have := g 8 _ rfl; rwa [ht] at this
  have g3 : (dirC L)[i * 10 + 0 + 3]? = some (.int .i64 p.s.ver) := g 3 _ rfl
  have hzl := dir_in h16
  refine W.seq ?_
  refine W.region ?_
  refine WL.bxF rfl rfl (by repeat' first | exact FL.nil | apply FL.cons) (fun b0 => ?_)
  refine WL.as rfl rfl ?_
  refine WL.nil ?_
  refine W.seq ?_
  refine W.region ?_
  refine WL.mv rfl rfl ?_
  refine WL.mv rfl rfl ?_
  refine WL.callV rfl rfl (fun x p d => at_in _ _ _ (by first | assumption | omega)) ?_
  refine WL.as rfl rfl ?_
  refine WL.nil ?_
  refine W.seq ?_
  refine W.seq ?_
  refine W.region ?_
  refine WL.mv rfl rfl ?_
  refine WL.eqP (T := Ty) rfl rfl rfl ?_
  refine WL.mv rfl rfl ?_
  refine WL.gY rfl rfl ?_
  refine WL.mv rfl rfl ?_
  refine WL.gY rfl rfl ?_
  refine WL.nc rfl rfl ?_
  refine WL.gY rfl rfl ?_
  refine WL.faN (T := Ty) rfl rfl rfl rfl rfl rfl rfl ?_
  refine WL.gY rfl rfl ?_
  refine WL.ld (T := Ty) (j := 1) rfl rfl rfl rfl rfl (by assumption) ?_
  refine WL.gY rfl rfl ?_
  refine WL.not rfl rfl ?_
  refine WL.pickF rfl rfl rfl ?_
  refine WL.mv rfl rfl ?_
  refine WL.gY rfl rfl ?_
  refine WL.mv rfl rfl ?_
  refine WL.gY rfl rfl ?_
  refine WL.nc rfl rfl ?_
  refine WL.gY rfl rfl ?_
  refine WL.faN (T := Ty) rfl rfl rfl rfl rfl rfl rfl ?_
  refine WL.gY rfl rfl ?_
  refine WL.ld (T := Ty) (j := 1) rfl rfl rfl rfl rfl (by assumption) ?_
  refine WL.gY rfl rfl ?_
  refine WL.mv rfl rfl ?_
  refine WL.gY rfl rfl ?_
  refine WL.neq rfl rfl rfl ?_
  refine WL.pickF rfl rfl rfl ?_
  refine WL.nil ?_
  refine W.condpF rfl (by omega) ?_
  refine W.skip ?_
  refine W.seq ?_
  refine W.region ?_
  refine WL.ldAF (T := Ty) (j := 0) rfl rfl rfl rfl rfl rfl (by repeat' first | exact FL.nil | apply FL.cons) ?_
  refine WL.callF rfl rfl (fun x p d => stillD_c _ _ _ _ _ _ (by first | assumption | exact ROs.wide (by assumption) | exact ROs.mono (by assumption) (eqh_at 0 rfl p d) | exact ros_at 0 rfl p d | exact ros_at 1 rfl p d | exact ros_at 2 rfl p d | exact ros_at 3 rfl p d | exact ros_at 4 rfl p d) (by first | assumption | exact ROs.wide (by assumption) | exact ROs.mono (by assumption) (eqh_at 0 rfl p d) | exact ros_at 0 rfl p d | exact ros_at 1 rfl p d | exact ros_at 2 rfl p d | exact ros_at 3 rfl p d | exact ros_at 4 rfl p d) (by assumption) (by assumption) (by assumption) (by assumption) (by first | assumption | omega) (by first | assumption | omega)) (fun r => ?_)
  refine WL.ex (fun u1 => ?_)
  refine WL.ex (fun t1 => ?_)
  refine WL.pure (fun er => ?_)
  subst er
  refine WL.open ?_
  refine WL.fact (i := 0) rfl (fun h hb => hb.sl (by assumption) (by omega)) (fun hsl1 => ?_)
  refine WL.fact (i := 1) rfl (fun h hb => hb.sl (by assumption) (by omega)) (fun hst1 => ?_)
  refine WL.stAO (T := Ty) (j := 2) rfl rfl rfl rfl (by repeat' first | exact AO.nil | apply AO.cons (by first | rfl | exact SL.one (by assumption))) rfl rfl (by repeat' first | exact FL.nil | apply FL.cons) (by repeat' first | exact FL.nil | apply FL.cons) ?_
  refine WL.nil ?_
  refine W.seq ?_
  refine W.region ?_
  refine WL.mv rfl rfl ?_
  refine WL.nc rfl rfl ?_
  refine WL.faN (T := Ty) rfl rfl rfl rfl rfl rfl rfl ?_
  refine WL.faN (T := Ty) rfl rfl rfl rfl rfl rfl rfl ?_
  refine WL.ld (T := Ty) (j := 3) rfl rfl rfl rfl rfl (by assumption) ?_
  refine WL.addK rfl rfl rfl (wrap_i64 ⟨by omega, by omega⟩) ?_
  refine WL.faN (T := Ty) (off' := 3) rfl rfl rfl rfl rfl rfl rfl ?_
  refine WL.stF (T := Ty) (j := 2) rfl rfl rfl rfl rfl rfl rfl (by repeat' first | exact FL.nil | apply FL.cons) (by repeat' first | exact FL.nil | apply FL.cons) ?_
  refine WL.nil ?_
  refine W.seq ?_
  refine W.region ?_
  refine WL.mv rfl rfl ?_
  refine WL.ldAF (T := Ty) (j := 2) rfl rfl rfl rfl rfl rfl (by repeat' first | exact FL.nil | apply FL.cons) ?_
  refine WL.bdC (T := Ty) rfl rfl rfl rfl (by repeat' first | exact CO.nil | apply CO.one (by first | rfl | exact SL.one (by assumption)) | apply CO.agg) rfl (by repeat' first | exact FL.nil | apply FL.cons) ?_
  refine WL.nc rfl rfl ?_
  refine WL.stA (T := Ty) (j := 3) (cs := plcC { s := { s with ver := p.s.ver + 1, lv := u1, cv := t1 }, taken := false, who := 0 }) (c' := dirC (L.set i { s := { s with ver := p.s.ver + 1, lv := u1, cv := t1 }, taken := false, who := 0 })) rfl rfl rfl rfl
    (AO.all (by repeat' first | exact AO.nil | apply AO.cons (by first | rfl | exact SL.one (by assumption)))) rfl (by rw [hzl]; show i * 10 + 10 ≤ 160; omega)
    (by rw [show (plcC { s := { s with ver := p.s.ver + 1, lv := u1, cv := t1 }, taken := false, who := 0 }).length = 10 from rfl, dir_put _ (by omega)]; exact FL.rfl _) (by repeat' first | exact FL.nil | apply FL.cons) ?_
  refine WL.nil ?_
  refine W.seq ?_
  refine W.region ?_
  refine WL.as rfl rfl ?_
  refine WL.nil ?_
  refine W.drop 2 rfl (by repeat' first | exact FL.nil | apply FL.cons) ?_
  exact W.ret1 rfl rfl (fun h p => ⟨_, _, rfl, sepl_perm (List.perm_append_comm (l₁ := [_, _]) (l₂ := [_])) p⟩)
theorem new_c (ρ : Hp) : Fn Try.prog 15 #[] ρ [] (fun r h => ∃ b, r = pt b 0 ∧ box b (dirC (List.replicate 16 ⟨⟨false, false, 0, 0, false, 0, .slice none 0 0, .slice none 0 0⟩, false, 0⟩)) TD h) := by
  refine in15 rfl rfl ?_
  refine W.seq ?_
  refine W.region ?_
  refine WL.as rfl rfl ?_
  refine WL.nil ?_
  refine W.seq ?_
  refine W.region ?_
  refine WL.bdC (T := Ty) rfl rfl rfl rfl (by repeat' first | exact CO.nil | apply CO.one (by first | rfl | exact SL.one (by assumption)) | apply CO.agg) rfl (by repeat' first | exact FL.nil | apply FL.cons) ?_
  refine WL.bxF rfl rfl (by repeat' first | exact FL.nil | apply FL.cons) (fun b0 => ?_)
  refine WL.as rfl rfl ?_
  refine WL.nil ?_
  exact W.ret1 rfl rfl (fun h p => ⟨_, rfl, by have p := sepl_one.1 p; unfold dirC; exact p⟩)
end Go.Proofs.Ytlmhjkbbooghfaa
