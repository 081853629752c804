/- Values by a list: what the code of package dict tells. -/
import Derived.Test.YtjibmfkhhljhcaaStc
import Derived.Test.YtjibmfkhhljhcaaNum
import Derived.Test.YtjibmfkhhljhcaaTab
import Derived.Test.YtjibmfkhhljhcaaVintPg
import Derived.Test.YtjibmfkhhljhcaaBits
import Derived.Test.YtjibmfkhhljhcaaLen64i
import Derived.Test.YtjibmfkhhljhcaaMinMax
import Derived.Test.YtjibmfkhhljhcaaMaps
import Derived.Test.YtjibmfkhhljhcaaDictLaw
set_option linter.unusedSimpArgs false
set_option linter.unusedVariables false
set_option maxRecDepth 20000
set_option maxHeartbeats 4000000
namespace Go.Proofs.Ytjibmfkhhljhcaa
open Go
attribute [local irreducible] W WL Fn Buf ROs SL eptr box Rd Src bndOK WD RB Reads In Mp encD decD encDw unl valsD kget kset kvF

theorem kget_kvF : ∀ (ws : List Nat) (i x : Nat), kget (kvF i ws) (x : Int) = if x ∈ ws then some (.int .i64 ((i + ws.idxOf x : Nat) : Int)) else none
  | [], i, x => by simp [kvF, kget]
  | y :: l, i, x => by
    rw [kvF, kget]
    by_cases h : x = y
    · subst h
      rw [if_pos rfl, if_pos (by simp)]
      simp
    · rw [if_neg (by simp only []; omega), kget_kvF l (i + 1) x]
      by_cases hx : x ∈ l
      · have hyx : (y == x) = false := by simpa using fun e : y = x => h e.symm
        rw [if_pos hx, if_pos (by simp [hx]), List.idxOf_cons, hyx]
        simp only [cond_false]
        congr 3
        omega
      · rw [if_neg hx, if_neg (by simp [h, hx])]
theorem kget_in {ws : List Nat} {x : Nat} (h : x ∈ ws) : kget (kvF 0 ws) (x : Int) = some (.int .i64 ((ws.idxOf x : Nat) : Int)) := by rw [kget_kvF, if_pos h, Nat.zero_add]
theorem kget_out {ws : List Nat} {x : Nat} (h : ¬ x ∈ ws) : kget (kvF 0 ws) (x : Int) = none := by rw [kget_kvF, if_neg h]
theorem kset_out {ws : List Nat} {x : Nat} (h : ¬ x ∈ ws) : kset (kvF 0 ws) (x : Int) (.int .i64 (ws.length : Int)) = kvF 0 (ws ++ [x]) := by
  rw [kset_none _ _ _ (kget_out h), kvF_snoc, Nat.zero_add]
theorem kvF_nil (i : Nat) : kvF i [] = [] := by rw [kvF]
theorem unl_cons_in {ws l : List Nat} {x : Nat} (h : x ∈ ws) : unl ws (x :: l) = unl ws l := by rw [unl, if_pos h]
theorem unl_cons_out {ws l : List Nat} {x : Nat} (h : ¬ x ∈ ws) : unl ws (x :: l) = if ws.length = 256 then none else unl (ws ++ [x]) l := by rw [unl, if_neg h]
theorem unl_nil (ws : List Nat) : unl ws [] = some ws := by rw [unl]
/-- the unlike values there may be, and the map of their places -/
def RowU (o : Option (List Nat)) : Value → HP := fun r h => match o with
  | none => r = .tuple #[.slice none 0 0, .map none, .bool false] ∧ emp h
  | some ws => ∃ u b, r = .tuple #[u, .map (some b), .bool true] ∧ sepl [Buf 1 u (ws.map ucell), Mp .u64 b (kvF 0 ws)] h
theorem unlike_c (ρ : Hp) (v : Value) (vs : List Nat) (hv : ROs ρ 1 v (vs.map ucell)) (hw : ∀ x ∈ vs, x < 18446744073709551616) (hl : vs.length ≤ 70000) :
    Fn Try.prog 44 #[v] ρ [] (RowU (unl [] vs)) := by
  refine in44 rfl rfl ?_
  have sv := hv.slm
  refine W.seq ?_
  refine W.region ?_
  refine WL.as rfl rfl ?_
  refine WL.as rfl rfl ?_
  refine WL.as rfl rfl ?_
  refine WL.nil ?_
  refine W.seq ?_
  refine W.region ?_
  refine WL.as rfl rfl ?_
  refine WL.nil ?_
  refine W.seq ?_
  refine W.region ?_
  refine WL.mkMap .u64 rfl (fun b => ?_)
  refine WL.as rfl rfl ?_
  refine WL.nil ?_
  refine W.seq ?_
  refine W.seq ?_
  refine W.region ?_
  refine WL.mv rfl rfl ?_
  refine WL.len (T := Ty) rfl rfl (by assumption) rfl ?_
  refine WL.mv rfl rfl ?_
  refine WL.nil ?_
  refine W.block ?_
  refine W.nb (sz := 1) ?_
  refine W.loopS (σ := Nat × Value × List Nat) (fun s => [(5, s.2.1), (6, .map (some b)), (12, v), (13, .int .i64 (vs.length : Int)), (14, .int .i64 (s.1 : Int))]) (fun s => [Buf 1 s.2.1 (s.2.2.map ucell), Mp .u64 b (kvF 0 s.2.2)])
    (fun s => s.1 ≤ vs.length ∧ unl s.2.2 (vs.drop s.1) = unl [] vs ∧ s.2.2.length ≤ 256) (fun s => vs.length - s.1) (0, .slice none 0 0, []) ⟨rfl, rfl, rfl, rfl, rfl, trivial⟩ (by rw [kvF_nil]; rfl) ⟨Nat.zero_le _, rfl, by simp⟩ ?_
  rintro ⟨i, o, ws⟩ ⟨h1, h2, h3⟩ next
  simp only [] at h1 h2 h3 next ⊢
  refine W.fact (i := 0) rfl (fun h hb => Buf.slm hb) (fun hso => ?_)
  by_cases hlt : i < vs.length
  · obtain ⟨x, hx⟩ : ∃ x, vs[i]? = some x := ⟨_, List.getElem?_eq_getElem hlt⟩
    have hx1 : (vs.map ucell)[i]? = some (ucell x) := by rw [List.getElem?_map, hx]; rfl
    have hxl := hw x (List.mem_of_getElem? hx)
    have hdrop : vs.drop i = x :: vs.drop (i + 1) := by
      rw [List.drop_eq_getElem_cons hlt]
      congr 1
      rw [List.getElem?_eq_getElem hlt] at hx
      exact Option.some.inj hx
    rw [hdrop] at h2
    by_cases hin : x ∈ ws
    · rw [unl_cons_in hin] at h2
      have hk := kget_in hin
      refine W.seq ?_
      refine W.region ?_
      refine WL.lss rfl rfl rfl ?_
      refine WL.nil ?_
      refine W.seq ?_
      refine W.condpT rfl (by omega) ?_
      refine W.skip ?_
      refine W.seq ?_
      refine W.block ?_
      refine W.seq ?_
      refine W.region ?_
      refine WL.ix (T := Ty) rfl rfl rfl (by assumption) rfl rfl (by omega) (by first | omega | decide +kernel) ?_
      refine WL.ldKn (T := Ty) rfl rfl rfl rfl (by first | assumption | exact ROs.wide (by assumption)) (by assumption) ?_
      refine WL.as rfl rfl ?_
      refine WL.nil ?_
      refine W.seq ?_
      refine W.seq ?_
      refine W.region ?_
      refine WL.mv rfl rfl ?_
      refine WL.mv rfl rfl ?_
      refine WL.luO (T := Ty) (j := 1) rfl rfl rfl rfl rfl rfl rfl rfl (by first | rw [‹kget _ _ = some _›] | rw [‹kget _ _ = none›]) ?_
      refine WL.mv rfl rfl ?_
      refine WL.extL rfl rfl rfl ?_
      refine WL.extL rfl rfl rfl ?_
      refine WL.as rfl rfl ?_
      refine WL.as rfl rfl ?_
      refine WL.nil ?_
      refine W.seq ?_
      refine W.region ?_
      refine WL.mv rfl rfl ?_
      refine WL.nil ?_
      refine W.condT rfl ?_
      refine W.exit rfl ?_
      refine W.region ?_
      refine WL.addK rfl rfl rfl (wrap_i64 ⟨by omega, by omega⟩) ?_
      refine WL.mv rfl rfl ?_
      refine WL.nil ?_
      refine W.sub ?_ (next ⟨i + 1, o, ws⟩ ⟨by simp only []; omega, h2, h3⟩ (by simp only []; omega))
      exact ⟨rfl, rfl, rfl, rfl, rfl, trivial⟩
    · rw [unl_cons_out hin] at h2
      have hk := kget_out hin
      have hks := kset_out hin
      by_cases hfull : ws.length = 256
      · rw [if_pos hfull] at h2
        refine W.seq ?_
        refine W.region ?_
        refine WL.lss rfl rfl rfl ?_
        refine WL.nil ?_
        refine W.seq ?_
        refine W.condpT rfl (by omega) ?_
        refine W.skip ?_
        refine W.seq ?_
        refine W.block ?_
        refine W.seq ?_
        refine W.region ?_
        refine WL.ix (T := Ty) rfl rfl rfl (by assumption) rfl rfl (by omega) (by first | omega | decide +kernel) ?_
        refine WL.ldKn (T := Ty) rfl rfl rfl rfl (by first | assumption | exact ROs.wide (by assumption)) (by assumption) ?_
        refine WL.as rfl rfl ?_
        refine WL.nil ?_
        refine W.seq ?_
        refine W.seq ?_
        refine W.region ?_
        refine WL.mv rfl rfl ?_
        refine WL.mv rfl rfl ?_
        refine WL.luO (T := Ty) (j := 1) rfl rfl rfl rfl rfl rfl rfl rfl (by first | rw [‹kget _ _ = some _›] | rw [‹kget _ _ = none›]) ?_
        refine WL.mv rfl rfl ?_
        refine WL.extL rfl rfl rfl ?_
        refine WL.extL rfl rfl rfl ?_
        refine WL.as rfl rfl ?_
        refine WL.as rfl rfl ?_
        refine WL.nil ?_
        refine W.seq ?_
        refine W.region ?_
        refine WL.mv rfl rfl ?_
        refine WL.nil ?_
        refine W.condF rfl ?_
        refine W.skip ?_
        refine W.seq ?_
        refine W.seq ?_
        refine W.region ?_
        refine WL.mv rfl rfl ?_
        refine WL.len (T := Ty) rfl rfl (by assumption) rfl ?_
        refine WL.eql rfl rfl rfl ?_
        refine WL.nil ?_
        refine W.condpT rfl (by omega) ?_
        refine W.seq ?_
        refine W.region ?_
        refine WL.as rfl rfl ?_
        refine WL.as rfl rfl ?_
        refine WL.as rfl rfl ?_
        refine WL.nil ?_
        refine W.drop 0 rfl (by repeat' first | exact FL.nil | apply FL.cons) ?_
        refine W.drop 0 rfl (by repeat' first | exact FL.nil | apply FL.cons) ?_
        exact W.ret3 rfl rfl rfl rfl (fun h p => by rw [← h2]; exact ⟨rfl, p⟩)
      · rw [if_neg hfull] at h2
        refine W.seq ?_
        refine W.region ?_
        refine WL.lss rfl rfl rfl ?_
        refine WL.nil ?_
        refine W.seq ?_
        refine W.condpT rfl (by omega) ?_
        refine W.skip ?_
        refine W.seq ?_
        refine W.block ?_
        refine W.seq ?_
        refine W.region ?_
        refine WL.ix (T := Ty) rfl rfl rfl (by assumption) rfl rfl (by omega) (by first | omega | decide +kernel) ?_
        refine WL.ldKn (T := Ty) rfl rfl rfl rfl (by first | assumption | exact ROs.wide (by assumption)) (by assumption) ?_
        refine WL.as rfl rfl ?_
        refine WL.nil ?_
        refine W.seq ?_
        refine W.seq ?_
        refine W.region ?_
        refine WL.mv rfl rfl ?_
        refine WL.mv rfl rfl ?_
        refine WL.luO (T := Ty) (j := 1) rfl rfl rfl rfl rfl rfl rfl rfl (by first | rw [‹kget _ _ = some _›] | rw [‹kget _ _ = none›]) ?_
        refine WL.mv rfl rfl ?_
        refine WL.extL rfl rfl rfl ?_
        refine WL.extL rfl rfl rfl ?_
        refine WL.as rfl rfl ?_
        refine WL.as rfl rfl ?_
        refine WL.nil ?_
        refine W.seq ?_
        refine W.region ?_
        refine WL.mv rfl rfl ?_
        refine WL.nil ?_
        refine W.condF rfl ?_
        refine W.skip ?_
        refine W.seq ?_
        refine W.seq ?_
        refine W.region ?_
        refine WL.mv rfl rfl ?_
        refine WL.len (T := Ty) rfl rfl (by assumption) rfl ?_
        refine WL.eql rfl rfl rfl ?_
        refine WL.nil ?_
        refine W.condpF rfl (by omega) ?_
        refine W.skip ?_
        refine W.seq ?_
        refine W.region ?_
        refine WL.mv rfl rfl ?_
        refine WL.mv rfl rfl ?_
        refine WL.mv rfl rfl ?_
        refine WL.len (T := Ty) rfl rfl (by assumption) rfl ?_
        refine WL.muO (T := Ty) (j := 1) rfl rfl rfl rfl rfl rfl rfl (by assumption) (by repeat' first | exact FL.nil | apply FL.cons) ?_
        refine WL.nil ?_
        refine W.region ?_
        refine WL.mv rfl rfl ?_
        refine WL.mv rfl rfl ?_
        refine WL.bsC (T := Ty) rfl rfl rfl rfl rfl rfl rfl (by repeat' first | exact CO.nil | apply CO.one (by first | rfl | exact SL.one (by assumption)) | apply CO.agg) rfl (by repeat' first | exact FL.nil | apply FL.cons) (fun u0 hu0 => ?_)
        refine WL.ap1 (T := Ty) (i := 0) rfl rfl rfl rfl rfl rfl rfl rfl (by assumption) (by first | rfl | assumption) (by first | omega | (simp; omega)) (by first | omega | (simp; omega)) (fun v' => (by repeat' first | exact FL.nil | apply FL.cons)) (fun u1 hu1 => ?_)
        refine WL.as rfl rfl ?_
        refine WL.nil ?_
        refine W.inBlock ?_
        refine W.region ?_
        refine WL.addK rfl rfl rfl (wrap_i64 ⟨by omega, by omega⟩) ?_
        refine WL.mv rfl rfl ?_
        refine WL.nil ?_
        refine W.sub ?_ (W.hs (fun h p => ?_) (next ⟨i + 1, u1, ws ++ [x]⟩ ⟨by simp only []; omega, h2, by simp; omega⟩ (by simp only []; omega)))
        · exact ⟨rfl, rfl, rfl, rfl, rfl, trivial⟩
        · simp only []
          rw [List.map_append]
          exact p
  · have hie : i = vs.length := by omega
    rw [hie, List.drop_of_length_le (Nat.le_refl _), unl_nil] at h2
    refine W.seq ?_
    refine W.region ?_
    refine WL.lss rfl rfl rfl ?_
    refine WL.nil ?_
    refine W.seq ?_
    refine W.condpF rfl (by omega) ?_
    refine W.exit rfl ?_
    refine W.seq ?_
    refine W.region ?_
    refine WL.mv rfl rfl ?_
    refine WL.mv rfl rfl ?_
    refine WL.as rfl rfl ?_
    refine WL.as rfl rfl ?_
    refine WL.as rfl rfl ?_
    refine WL.nil ?_
    exact W.ret3 rfl rfl rfl rfl (fun h p => by rw [← h2]; exact ⟨_, _, rfl, p⟩)
-- CALL 44 refine WL.callV rfl rfl (fun x p d => unlike_n _ _ _ (by assumption) $RO (by assumption) (by first | assumption | omega)) ?_
-- CALL 44 refine WL.callF rfl rfl (fun x p d => unlike_s _ _ _ (by assumption) $RO (by assumption) (by first | assumption | omega)) (fun r => ?_) ;; refine WL.ex (fun u$N => ?_) ;; refine WL.ex (fun b$N => ?_) ;; refine WL.pure (fun er => ?_) ;; subst er ;; refine WL.open ?_ ;; refine WL.fact (i := 0) rfl (fun h hb => Buf.slm hb) (fun hsl$N => ?_)
theorem unlike_n (ρ : Hp) (v : Value) (vs : List Nat) (e : unl [] vs = none) (hv : ROs ρ 1 v (vs.map ucell)) (hw : ∀ x ∈ vs, x < 18446744073709551616) (hl : vs.length ≤ 70000) :
    Fn Try.prog 44 #[v] ρ [] (Just (.tuple #[.slice none 0 0, .map none, .bool false])) := by
  have := unlike_c ρ v vs hv hw hl
  rw [e] at this
  exact this
theorem unlike_s (ρ : Hp) (v : Value) (vs : List Nat) {ws : List Nat} (e : unl [] vs = some ws) (hv : ROs ρ 1 v (vs.map ucell)) (hw : ∀ x ∈ vs, x < 18446744073709551616) (hl : vs.length ≤ 70000) :
    Fn Try.prog 44 #[v] ρ [] (fun r h => ∃ u b, r = .tuple #[u, .map (some b), .bool true] ∧ sepl [Buf 1 u (ws.map ucell), Mp .u64 b (kvF 0 ws)] h) := by
  have := unlike_c ρ v vs hv hw hl
  rw [e] at this
  exact this
-- CALL 43 refine WL.callV rfl rfl (fun x p d => len_m _ _ (by omega) (by omega)) ?_
theorem len_m (ρ : Hp) (x : Int) (h0 : 0 ≤ x) (hx : x < 18446744073709551616) : Fn Try.prog 43 #[.int .u64 x] ρ [] (Just (.int .i64 (lenB 64 x.toNat : Int))) := by
  refine in43 rfl rfl ?_
  refine W.seq ?_
  refine W.region ?_
  refine WL.as rfl rfl ?_
  refine WL.nil ?_
  refine W.seq ?_
  refine W.condF rfl ?_
  refine W.skip ?_
  refine W.seq ?_
  refine W.region ?_
  refine WL.mv rfl rfl ?_
  refine WL.callV rfl rfl (fun x p d => len64_i _ _ (by omega) (by omega)) ?_
  refine WL.as rfl rfl ?_
  refine WL.nil ?_
  exact W.ret1 rfl rfl (fun h p => ⟨rfl, p⟩)
/-- bytes that there may be -/
def RowB (o : Option (List Nat)) : Value → HP := fun r h => ∃ v, r = .tuple #[v, .bool o.isSome] ∧ Buf 1 v ((o.getD []).map bcell) h
theorem rowBnone {o : Option (List Nat)} (e : o = none) {h : Hp} (p : sepl [Buf 1 (.slice none 0 0) []] h) : RowB o (.tuple #[.slice none 0 0, .bool false]) h := by
  subst e; exact ⟨_, rfl, sepl_one.1 p⟩
theorem rowBsome {o : Option (List Nat)} {l : List Nat} {v : Value} (e : o = some l) {h : Hp} (p : sepl [Buf 1 v (l.map bcell)] h) : RowB o (.tuple #[v, .bool true]) h := by
  subst e; exact ⟨_, rfl, sepl_one.1 p⟩
theorem places_next {ws vs : List Nat} {i x : Nat} (h : vs[i]? = some x) (w : Nat) : bitsL w ((placesD ws vs).take i) ++ bitsOf (ws.idxOf x) w = bitsL w ((placesD ws vs).take (i + 1)) := by
  have : (placesD ws vs)[i]? = some (ws.idxOf x) := by simp [placesD, h]
  rw [List.take_add_one, this, Option.toList_some, bitsL_snoc]
theorem denc_c (ρ : Hp) (v : Value) (vs : List Nat) (hv : ROs ρ 1 v (vs.map ucell)) (hw : ∀ x ∈ vs, x < 18446744073709551616) (hl : vs.length ≤ 70000) :
    Fn Try.prog 21 #[v] ρ [] (RowB (encD vs)) := by
  refine in21 rfl rfl ?_
  have sv := hv.slm
  cases hu : unl [] vs with
  | none =>
    have he := encD_none hu
    refine W.seq ?_
    refine W.region ?_
    refine WL.as rfl rfl ?_
    refine WL.as rfl rfl ?_
    refine WL.nil ?_
    refine W.seq ?_
    refine W.region ?_
    refine WL.mv rfl rfl ?_
    refine WL.callV rfl rfl (fun x p d => unlike_n _ _ _ (by assumption) (by first | assumption | exact ROs.wide (by assumption) | exact ROs.mono (by assumption) (eqh_at 0 rfl p d) | exact ros_at 0 rfl p d | exact ros_at 1 rfl p d | exact ros_at 2 rfl p d | exact ros_at 3 rfl p d | exact ros_at 4 rfl p d) (by assumption) (by first | assumption | omega)) ?_
    refine WL.mv rfl rfl ?_
    refine WL.extL rfl rfl rfl ?_
    refine WL.extL rfl rfl rfl ?_
    refine WL.extL rfl rfl rfl ?_
    refine WL.as rfl rfl ?_
    refine WL.as rfl rfl ?_
    refine WL.as rfl rfl ?_
    refine WL.nil ?_
    refine W.seq ?_
    refine W.seq ?_
    refine W.region ?_
    refine WL.mv rfl rfl ?_
    refine WL.not rfl rfl ?_
    refine WL.mv rfl rfl ?_
    refine WL.gdN rfl rfl rfl rfl rfl rfl ?_
    refine WL.gdN rfl rfl rfl rfl rfl rfl ?_
    refine WL.gdN rfl rfl rfl rfl rfl rfl ?_
    refine WL.pickT rfl rfl rfl ?_
    refine WL.nil ?_
    refine W.condT rfl ?_
    refine W.seq ?_
    refine W.region ?_
    refine WL.mv rfl rfl ?_
    refine WL.as rfl rfl ?_
    refine WL.as rfl rfl ?_
    refine WL.nil ?_
    refine W.nb (sz := 1) ?_
    exact W.ret2 rfl rfl rfl (fun h p => rowBnone he p)
  | some ws =>
    obtain ⟨_, hin, hwl, _, hwm⟩ := unl_ok _ _ _ hu (by simp)
    by_cases h0 : vs = []
    · have he : encD vs = some [] := by rw [h0]; exact encD_nil
      have hl0 : vs.length = 0 := by rw [h0]; rfl
      refine W.seq ?_
      refine W.region ?_
      refine WL.as rfl rfl ?_
      refine WL.as rfl rfl ?_
      refine WL.nil ?_
      refine W.seq ?_
      refine W.region ?_
      refine WL.mv rfl rfl ?_
      refine WL.callF rfl rfl (fun x p d => unlike_s _ _ _ (by assumption) (by first | assumption | exact ROs.wide (by assumption) | exact ROs.mono (by assumption) (eqh_at 0 rfl p d) | exact ros_at 0 rfl p d | exact ros_at 1 rfl p d | exact ros_at 2 rfl p d | exact ros_at 3 rfl p d | exact ros_at 4 rfl p d) (by assumption) (by first | assumption | omega)) (fun r => ?_)
      refine WL.ex (fun u0 => ?_)
      refine WL.ex (fun b0 => ?_)
      refine WL.pure (fun er => ?_)
      subst er
      refine WL.open ?_
      refine WL.fact (i := 0) rfl (fun h hb => Buf.slm hb) (fun hsl0 => ?_)
      refine WL.mv rfl rfl ?_
      refine WL.extL rfl rfl rfl ?_
      refine WL.extL rfl rfl rfl ?_
      refine WL.extL rfl rfl rfl ?_
      refine WL.as rfl rfl ?_
      refine WL.as rfl rfl ?_
      refine WL.as rfl rfl ?_
      refine WL.nil ?_
      refine W.seq ?_
      refine W.seq ?_
      refine W.region ?_
      refine WL.mv rfl rfl ?_
      refine WL.not rfl rfl ?_
      refine WL.mv rfl rfl ?_
      refine WL.gY rfl rfl ?_
      refine WL.mv rfl rfl ?_
      refine WL.gY rfl rfl ?_
      refine WL.len (T := Ty) rfl rfl (by assumption) rfl ?_
      refine WL.gY rfl rfl ?_
      refine WL.eql rfl rfl rfl ?_
      refine WL.pickF rfl rfl rfl ?_
      refine WL.nil ?_
      refine W.condpT rfl (by omega) ?_
      refine W.seq ?_
      refine W.region ?_
      refine WL.mv rfl rfl ?_
      refine WL.as rfl rfl ?_
      refine WL.as rfl rfl ?_
      refine WL.nil ?_
      refine W.drop 0 rfl (by repeat' first | exact FL.nil | apply FL.cons) ?_
      refine W.drop 0 rfl (by repeat' first | exact FL.nil | apply FL.cons) ?_
      refine W.nb (sz := 1) ?_
      exact W.ret2 rfl rfl rfl (fun h p => rowBsome he p)
    · have he := encD_some h0 hu
      have hpos : 0 < vs.length := List.length_pos_iff.2 h0
      have hnil : ROs ρ 1 (.slice none 0 0) (([] : List Nat).map bcell) := ros_nil ρ 1
      have hnl : ([] : List Nat).length + 10 ≤ 140737488355328 := by decide
      refine W.seq ?_
      refine W.region ?_
      refine WL.as rfl rfl ?_
      refine WL.as rfl rfl ?_
      refine WL.nil ?_
      refine W.seq ?_
      refine W.region ?_
      refine WL.mv rfl rfl ?_
      refine WL.callF rfl rfl (fun x p d => unlike_s _ _ _ (by assumption) (by first | assumption | exact ROs.wide (by assumption) | exact ROs.mono (by assumption) (eqh_at 0 rfl p d) | exact ros_at 0 rfl p d | exact ros_at 1 rfl p d | exact ros_at 2 rfl p d | exact ros_at 3 rfl p d | exact ros_at 4 rfl p d) (by assumption) (by first | assumption | omega)) (fun r => ?_)
      refine WL.ex (fun u0 => ?_)
      refine WL.ex (fun b0 => ?_)
      refine WL.pure (fun er => ?_)
      subst er
      refine WL.open ?_
      refine WL.fact (i := 0) rfl (fun h hb => Buf.slm hb) (fun hsl0 => ?_)
      refine WL.mv rfl rfl ?_
      refine WL.extL rfl rfl rfl ?_
      refine WL.extL rfl rfl rfl ?_
      refine WL.extL rfl rfl rfl ?_
      refine WL.as rfl rfl ?_
      refine WL.as rfl rfl ?_
      refine WL.as rfl rfl ?_
      refine WL.nil ?_
      refine W.seq ?_
      refine W.seq ?_
      refine W.region ?_
      refine WL.mv rfl rfl ?_
      refine WL.not rfl rfl ?_
      refine WL.mv rfl rfl ?_
      refine WL.gY rfl rfl ?_
      refine WL.mv rfl rfl ?_
      refine WL.gY rfl rfl ?_
      refine WL.len (T := Ty) rfl rfl (by assumption) rfl ?_
      refine WL.gY rfl rfl ?_
      refine WL.eql rfl rfl rfl ?_
      refine WL.pickF rfl rfl rfl ?_
      refine WL.nil ?_
      refine W.condpF rfl (by omega) ?_
      refine W.skip ?_
      refine W.seq ?_
      refine W.region ?_
      refine WL.mv rfl rfl ?_
      refine WL.len (T := Ty) rfl rfl (by assumption) rfl ?_
      refine WL.cvK (T := Ty) rfl rfl rfl rfl (wrap_u64 ⟨by omega, by omega⟩) ?_
      refine WL.callF rfl rfl (fun x p d => vput_c _ _ _ _ (by first | assumption | exact ROs.wide (by assumption) | exact ROs.mono (by assumption) (eqh_at 0 rfl p d) | exact ros_at 0 rfl p d | exact ros_at 1 rfl p d | exact ros_at 2 rfl p d | exact ros_at 3 rfl p d | exact ros_at 4 rfl p d) (by first | assumption | omega) (by first | assumption | omega | (simp only [List.length_append]; omega))) (fun u1 => ?_)
      refine WL.fact (i := 0) rfl (fun h hb => Buf.slm hb) (fun hsl1 => ?_)
      refine WL.as rfl rfl ?_
      refine WL.nil ?_
      refine W.seq ?_
      refine W.seq ?_
      refine W.region ?_
      refine WL.mv rfl rfl ?_
      refine WL.len (T := Ty) rfl rfl (by assumption) rfl ?_
      refine WL.mv rfl rfl ?_
      refine WL.nil ?_
      refine W.block ?_
      refine W.loopS (σ := Nat × Value) (fun s => [(0, v), (4, u0), (5, .map (some b0)), (7, s.2), (31, u0), (32, .int .i64 (ws.length : Int)), (33, .int .i64 (s.1 : Int))]) (fun s => [Buf 1 s.2 ((vputF 9 ws.length ++ (ws.take s.1).flatMap (vputF 9)).map bcell), Buf 1 u0 (ws.map ucell), Mp .u64 b0 (kvF 0 ws)])
        (fun s => s.1 ≤ ws.length) (fun s => ws.length - s.1) (0, u1) ⟨rfl, rfl, rfl, rfl, rfl, rfl, rfl, trivial⟩ (by simp) (Nat.zero_le _) ?_
      rintro ⟨i, o⟩ hi next
      simp only [] at hi next ⊢
      have hfl := flatput_len (ws.take i)
      rw [List.length_take, Nat.min_eq_left hi] at hfl
      have hv9 := vput_len 9 ws.length
      have hol : (vputF 9 ws.length ++ (ws.take i).flatMap (vputF 9)).length ≤ 2700 := by rw [List.length_append]; omega
      refine W.fact (i := 0) rfl (fun h hb => Buf.slm hb) (fun hso => ?_)
      by_cases hlt : i < ws.length
      · obtain ⟨x, hx⟩ : ∃ x, ws[i]? = some x := ⟨_, List.getElem?_eq_getElem hlt⟩
        have hx1 : (ws.map ucell)[i]? = some (ucell x) := by rw [List.getElem?_map, hx]; rfl
        have hxl : x < 18446744073709551616 := (hwm x (List.mem_of_getElem? hx)).elim (fun q => by cases q) (hw x)
        refine W.seq ?_
        refine W.region ?_
        refine WL.lss rfl rfl rfl ?_
        refine WL.nil ?_
        refine W.seq ?_
        refine W.condpT rfl (by omega) ?_
        refine W.skip ?_
        refine W.seq ?_
        refine W.block ?_
        refine W.seq ?_
        refine W.region ?_
        refine WL.ix (T := Ty) rfl rfl rfl (by assumption) rfl rfl (by omega) (by first | omega | decide +kernel) ?_
        refine WL.ldEK (T := Ty) (j := 1) rfl rfl rfl rfl rfl (by assumption) (by omega) ?_
        refine WL.as rfl rfl ?_
        refine WL.nil ?_
        refine W.region ?_
        refine WL.mv rfl rfl ?_
        refine WL.mv rfl rfl ?_
        refine WL.callF rfl rfl (fun x p d => vput_c _ _ _ _ (by first | assumption | exact ROs.wide (by assumption) | exact ROs.mono (by assumption) (eqh_at 0 rfl p d) | exact ros_at 0 rfl p d | exact ros_at 1 rfl p d | exact ros_at 2 rfl p d | exact ros_at 3 rfl p d | exact ros_at 4 rfl p d) (by first | assumption | omega) (by first | assumption | omega | (simp only [List.length_append]; omega))) (fun u2 => ?_)
        refine WL.fact (i := 0) rfl (fun h hb => Buf.slm hb) (fun hsl2 => ?_)
        refine WL.as rfl rfl ?_
        refine WL.nil ?_
        refine W.inBlock ?_
        refine W.region ?_
        refine WL.addK rfl rfl rfl (wrap_i64 ⟨by omega, by omega⟩) ?_
        refine WL.mv rfl rfl ?_
        refine WL.nil ?_
        refine W.drop 1 rfl (by repeat' first | exact FL.nil | apply FL.cons) ?_
        refine W.sub ?_ (W.hs (fun h p => ?_) (next ⟨i + 1, u2⟩ (by simp only []; omega) (by simp only []; omega)))
        · exact ⟨rfl, rfl, rfl, rfl, rfl, rfl, rfl, trivial⟩
        · simp only []
          have e : vputF 9 ws.length ++ (ws.take (i + 1)).flatMap (vputF 9) = vputF 9 ws.length ++ (ws.take i).flatMap (vputF 9) ++ vputF 9 x := by rw [List.take_add_one, hx]; simp
          rw [e]
          exact p
      · have hie : i = ws.length := by omega
        have hhd : vputF 9 ws.length ++ (ws.take i).flatMap (vputF 9) = headD ws := by rw [hie, List.take_length]; rfl
        rw [hhd] at hol hso ⊢
        have hw64 := wD_le ws.length
        have hpll : (placesD ws vs).length = vs.length := by simp [placesD]
        have hld : ∀ i, i ≤ vs.length → (bitsL (wD ws.length) ((placesD ws vs).take i)).length ≤ 4480000 := by
          intro i hi
          rw [bitsL_len, List.length_take, hpll, Nat.min_eq_left hi]
          have : i * wD ws.length ≤ 70000 * 64 := Nat.mul_le_mul (by omega) hw64
          omega
        have hwp : 0 < ws.length := List.length_pos_iff.2 (unl_ne h0 hu)
        have ewd : lenB 64 ((ws.length : Int) - 1).toNat = wD ws.length := by unfold wD; congr 1; omega
        refine W.seq ?_
        refine W.region ?_
        refine WL.lss rfl rfl rfl ?_
        refine WL.nil ?_
        refine W.seq ?_
        refine W.condpF rfl (by omega) ?_
        refine W.exit rfl ?_
        refine W.seq ?_
        refine W.region ?_
        refine WL.callF rfl rfl (fun x p d => newWriter_c _) (fun r => ?_)
        refine WL.ex (fun b2 => ?_)
        refine WL.pure (fun er => ?_)
        subst er
        refine WL.as rfl rfl ?_
        refine WL.nil ?_
        refine W.seq ?_
        refine W.seq ?_
        refine W.region ?_
        refine WL.mv rfl rfl ?_
        refine WL.len (T := Ty) rfl rfl (by assumption) rfl ?_
        refine WL.mv rfl rfl ?_
        refine WL.nil ?_
        refine W.block ?_
        refine W.loopS (σ := Nat) (fun j => [(4, u0), (5, .map (some b0)), (7, o), (10, ptr b2), (42, v), (43, .int .i64 (vs.length : Int)), (44, .int .i64 (j : Int))]) (fun j => [Wr b2 (bitsL (wD ws.length) ((placesD ws vs).take j)), Buf 1 o ((headD ws).map bcell), Buf 1 u0 (ws.map ucell), Mp .u64 b0 (kvF 0 ws)])
          (fun j => j ≤ vs.length) (fun j => vs.length - j) 0 ⟨rfl, rfl, rfl, rfl, rfl, rfl, rfl, trivial⟩ rfl (Nat.zero_le _) ?_
        intro j hj next2
        have hd := hld j hj
        have hdb := bitsL_bit (wD ws.length) ((placesD ws vs).take j)
        generalize hds : bitsL (wD ws.length) ((placesD ws vs).take j) = ds at *
        by_cases hlt2 : j < vs.length
        · obtain ⟨x, hx⟩ : ∃ x, vs[j]? = some x := ⟨_, List.getElem?_eq_getElem hlt2⟩
          have hx1 : (vs.map ucell)[j]? = some (ucell x) := by rw [List.getElem?_map, hx]; rfl
          have hxi := hin x (List.mem_of_getElem? hx)
          have hk := kget_in hxi
          have hix := List.idxOf_lt_length_of_mem hxi
          refine W.seq ?_
          refine W.region ?_
          refine WL.lss rfl rfl rfl ?_
          refine WL.nil ?_
          refine W.seq ?_
          refine W.condpT rfl (by omega) ?_
          refine W.skip ?_
          refine W.seq ?_
          refine W.block ?_
          refine W.seq ?_
          refine W.region ?_
          refine WL.ix (T := Ty) rfl rfl rfl (by assumption) rfl rfl (by omega) (by first | omega | decide +kernel) ?_
          refine WL.ldKn (T := Ty) rfl rfl rfl rfl (by first | assumption | exact ROs.wide (by assumption)) (by assumption) ?_
          refine WL.as rfl rfl ?_
          refine WL.nil ?_
          refine W.drawP 11 [true, false, false, false] rfl (by repeat' first | exact FL.nil | apply FL.cons) (by repeat' first | exact FL.nil | apply FL.cons) (fun σ0 hσ0 dσ0 => ?_)
          have fσ0_0 := ros_at 0 rfl hσ0 dσ0
          have fσ0_1 := ros_at 1 rfl hσ0 dσ0
          have fσ0_2 := in_at 2 rfl hσ0 dσ0
          refine WD.takeL 0 rfl (by decide +kernel) ?_
          refine WL.mv rfl rfl ?_
          refine WL.nilT ?_
          refine WD.takeL 1 rfl (by decide +kernel) ?_
          refine WL.mv rfl rfl ?_
          refine WL.nilT ?_
          refine WD.takeL 2 rfl (by decide +kernel) ?_
          refine WL.mv rfl rfl ?_
          refine WL.nilT ?_
          refine WD.takeL 3 rfl (by decide +kernel) ?_
          refine WL.luR (T := Ty) rfl rfl rfl rfl rfl rfl rfl (by first | assumption | exact In.wide (by assumption)) (by first | rw [‹kget _ _ = some _›] | rw [‹kget _ _ = none›]) ?_
          refine WL.nilT ?_
          refine WD.takeL 4 rfl (by decide +kernel) ?_
          refine WL.cvK (T := Ty) rfl rfl rfl rfl (wrap_u64 ⟨by omega, by omega⟩) ?_
          refine WL.nilT ?_
          refine WD.takeL 5 rfl (by decide +kernel) ?_
          refine WL.mv rfl rfl ?_
          refine WL.nilT ?_
          refine WD.takeL 6 rfl (by decide +kernel) ?_
          refine WL.len (T := Ty) rfl rfl (by assumption) rfl ?_
          refine WL.nilT ?_
          refine WD.takeL 7 rfl (by decide +kernel) ?_
          refine WL.subK rfl rfl rfl (wrap_i64 ⟨by omega, by omega⟩) ?_
          refine WL.nilT ?_
          refine WD.takeL 8 rfl (by decide +kernel) ?_
          refine WL.cvK (T := Ty) rfl rfl rfl rfl (wrap_u64 ⟨by omega, by omega⟩) ?_
          refine WL.nilT ?_
          refine WD.oneL 9 rfl (by decide +kernel) ?_
          refine WL.callV rfl rfl (fun x p d => len_m _ _ (by omega) (by omega)) ?_
          refine WL.nilE ?_
          refine WD.oneL 10 rfl (by decide +kernel) ?_
          refine WL.callM 1 rfl rfl rfl (fun x p d => put_c _ _ _ _ _ (by omega) (by repeat' first | assumption | exact bok_nil | exact bitsOf_bit _ _ | apply bok_app) (by first | assumption | omega | (simp only [List.length_append, bitsOf_len, List.length_nil, heldF]; omega))) (by repeat' first | exact FL.nil | apply FL.cons) ?_
          refine WL.nilE ?_
          refine WD.doneF hσ0 (by decide +kernel) (by repeat' first | exact FL.nil | apply FL.cons) ?_
          refine W.inBlock ?_
          refine W.region ?_
          refine WL.addK rfl rfl rfl (wrap_i64 ⟨by omega, by omega⟩) ?_
          refine WL.mv rfl rfl ?_
          refine WL.nil ?_
          rw [ewd]
          refine W.sub ?_ (W.hs (fun h p => ?_) (next2 (j + 1) (by omega) (by omega)))
          · exact ⟨rfl, rfl, rfl, rfl, rfl, rfl, rfl, trivial⟩
          · have p := sepl_perm (List.perm_append_comm (l₁ := [_, _, _]) (l₂ := [_])) p
            rw [← places_next hx, hds, ← heldF_nat64 _ hw64]
            exact p
        · have hje : j = vs.length := by omega
          have hpl := pack_len ds
          refine W.seq ?_
          refine W.region ?_
          refine WL.lss rfl rfl rfl ?_
          refine WL.nil ?_
          refine W.seq ?_
          refine W.condpF rfl (by omega) ?_
          refine W.exit rfl ?_
          refine W.seq ?_
          refine W.region ?_
          refine WL.mv rfl rfl ?_
          refine WL.mv rfl rfl ?_
          refine WL.callF rfl rfl (fun x p d => bytes_c _ _ _ (by first | assumption | exact In.wide (by assumption) | exact In.mono (by assumption) (eqh_at 0 rfl p d) | exact in_at 0 rfl p d | exact in_at 1 rfl p d | exact in_at 2 rfl p d | exact in_at 3 rfl p d | exact in_at 4 rfl p d) (by first | assumption | omega | (simp only [List.length_append, bitsOf_len, List.length_nil, heldF]; omega))) (fun u3 => ?_)
          refine WL.fact (i := 0) rfl (fun h hb => Buf.slm hb) (fun hsl3 => ?_)
          refine WL.apMM (T := Ty) (i := 2) rfl rfl rfl rfl rfl rfl rfl (by first | exact .ro (by assumption) | exact .ro (ROs.wide (by assumption)) | exact .eqJ 0 rfl (by assumption) | exact .own 0 rfl | exact .own 1 rfl | exact .own 2 rfl | exact .own 3 rfl | exact .own 4 rfl | exact .own 5 rfl) (by first | assumption | exact ROs.slm (by assumption)) (fun _ => rfl) (by first | omega | (simp; omega)) (by first | omega | (simp; omega)) (fun v' => (by repeat' first | exact FL.nil | apply FL.cons)) (fun u4 hu4 => ?_)
          refine WL.as rfl rfl ?_
          refine WL.as rfl rfl ?_
          refine WL.nil ?_
          refine W.drop 0 rfl (by repeat' first | exact FL.nil | apply FL.cons) ?_
          refine W.drop 0 rfl (by repeat' first | exact FL.nil | apply FL.cons) ?_
          refine W.drop 1 rfl (by repeat' first | exact FL.nil | apply FL.cons) ?_
          refine W.drop 1 rfl (by repeat' first | exact FL.nil | apply FL.cons) ?_
          have e : headD ws ++ pack ds = encDw ws vs := by unfold encDw; rw [← hds, hje, ← hpll, List.take_length]
          rw [e]
          exact W.ret2 rfl rfl rfl (fun h p => rowBsome he p)
-- CALL 21 refine WL.callF rfl rfl (fun x p d => denc_s _ _ _ (by assumption) $RO (by first | assumption | omega | decide) (by first | assumption | omega | decide)) (fun r => ?_) ;; refine WL.ex (fun u$N => ?_) ;; refine WL.pure (fun er => ?_) ;; subst er ;; refine WL.fact (i := 0) rfl (fun h hb => Buf.slm hb) (fun hsl$N => ?_)
-- CALL 21 refine WL.callF rfl rfl (fun x p d => denc_n _ _ _ (by assumption) $RO (by first | assumption | omega | decide) (by first | assumption | omega | decide)) (fun r => ?_) ;; refine WL.ex (fun u$N => ?_) ;; refine WL.pure (fun er => ?_) ;; subst er ;; refine WL.fact (i := 0) rfl (fun h hb => Buf.slm hb) (fun hsl$N => ?_)
theorem denc_s (ρ : Hp) (v : Value) (vs : List Nat) {bs : List Nat} (e : encD vs = some bs) (hv : ROs ρ 1 v (vs.map ucell)) (hw : ∀ x ∈ vs, x < 18446744073709551616) (hl : vs.length ≤ 70000) :
    Fn Try.prog 21 #[v] ρ [] (fun r h => ∃ v, r = .tuple #[v, .bool true] ∧ Buf 1 v (bs.map bcell) h) := by
  have := denc_c ρ v vs hv hw hl
  rw [e] at this
  exact this
theorem denc_n (ρ : Hp) (v : Value) (vs : List Nat) (e : encD vs = none) (hv : ROs ρ 1 v (vs.map ucell)) (hw : ∀ x ∈ vs, x < 18446744073709551616) (hl : vs.length ≤ 70000) :
    Fn Try.prog 21 #[v] ρ [] (fun r h => ∃ v, r = .tuple #[v, .bool false] ∧ Buf 1 v (([] : List Nat).map bcell) h) := by
  have := denc_c ρ v vs hv hw hl
  rw [e] at this
  exact this
end Go.Proofs.Ytjibmfkhhljhcaa
