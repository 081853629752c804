/- Values by a list: what the document's own code tells. -/
import Derived.Test.YtjibmfkhhljhcaaStc
import Derived.Test.YtjibmfkhhljhcaaNum
import Derived.Test.YtjibmfkhhljhcaaTab
import Derived.Test.YtjibmfkhhljhcaaForpRef1
import Derived.Test.YtjibmfkhhljhcaaVintRf
import Derived.Test.YtjibmfkhhljhcaaHeldC
import Derived.Test.YtjibmfkhhljhcaaDict
set_option linter.unusedSimpArgs false
set_option linter.unusedVariables false
set_option maxRecDepth 20000
set_option maxHeartbeats 4000000
namespace Go.Proofs.Ytjibmfkhhljhcaa
open Go
attribute [local irreducible] W WL Fn Buf ROs SL eptr box Rd Src bndOK WD RB Reads In Mp encD decD encDw unl valsD valsF

theorem idx_at {ws : List Nat} {i x : Nat} (h : ws[i]? = some x) (hn : ¬ x ∈ ws.take i) : ws.idxOf x = i := by
  have hi := (List.getElem?_eq_some_iff.1 h).1
  have e : ws = ws.take i ++ x :: ws.drop (i + 1) := by
    conv => lhs; rw [← List.take_append_drop i ws, List.drop_eq_getElem_cons hi]
    have : ws[i] = x := by rw [List.getElem?_eq_getElem hi] at h; exact Option.some.inj h
    rw [this]
  have hl : (ws.take i).length = i := by simp; omega
  rw [e, List.idxOf_append, if_neg hn, hl]
  simp
-- CALL 45 refine WL.callV rfl rfl (fun x p d => place_in _ _ _ _ $RO (by assumption) (by first | assumption | omega)) ?_
-- CALL 45 refine WL.callV rfl rfl (fun x p d => place_out _ _ _ _ $RO (by assumption) (by first | assumption | omega)) ?_
theorem place_in (ρ : Hp) (v : Value) (ws : List Nat) (x : Nat) (hv : ROs ρ 1 v (ws.map ucell)) (hx : x ∈ ws) (hl : ws.length ≤ 70000) :
    Fn Try.prog 45 #[v, .int .u64 (x : Int)] ρ [] (Just (.int .i64 ((ws.idxOf x : Nat) : Int))) := by
  refine in45 rfl rfl ?_
  have sv := hv.slm
  refine W.seq ?_
  refine W.region ?_
  refine WL.as rfl rfl ?_
  refine WL.nil ?_
  refine W.seq ?_
  refine W.seq ?_
  refine W.region ?_
  refine WL.as rfl rfl ?_
  refine WL.nil ?_
  refine W.block ?_
  refine W.loopS (σ := Nat) (fun i => [(0, v), (1, .int .u64 (x : Int)), (5, .int .i64 (i : Int))]) (fun _ => []) (fun i => i ≤ ws.length ∧ ¬ x ∈ ws.take i) (fun i => ws.length - i) 0 ⟨rfl, rfl, rfl, trivial⟩ rfl ⟨Nat.zero_le _, by simp⟩ ?_
  intro i ⟨hi, hn⟩ next
  have hlt : i < ws.length := by
    rcases Nat.lt_or_ge i ws.length with h | h
    · exact h
    · rw [List.take_of_length_le h] at hn
      exact absurd hx hn
  obtain ⟨y, hy⟩ : ∃ y, ws[i]? = some y := ⟨_, List.getElem?_eq_getElem hlt⟩
  have hy1 : (ws.map ucell)[i]? = some (ucell y) := by rw [List.getElem?_map, hy]; rfl
  by_cases hxy : y = x
  · subst hxy
    have he := idx_at hy hn
    refine W.seq ?_
    refine W.seq ?_
    refine W.region ?_
    refine WL.mv rfl rfl ?_
    refine WL.mv rfl rfl ?_
    refine WL.len (T := Ty) rfl rfl (by assumption) rfl ?_
    refine WL.lss rfl rfl rfl ?_
    refine WL.nil ?_
    refine W.condpT rfl (by omega) ?_
    refine W.skip ?_
    refine W.seq ?_
    refine W.block ?_
    refine W.seq ?_
    refine W.region ?_
    refine WL.mv rfl rfl ?_
    refine WL.mv rfl rfl ?_
    refine WL.ix (T := Ty) rfl rfl rfl (by assumption) rfl rfl (by omega) (by first | omega | decide +kernel) ?_
    refine WL.ldKn (T := Ty) rfl rfl rfl rfl (by first | assumption | exact ROs.wide (by assumption)) (by assumption) ?_
    refine WL.mv rfl rfl ?_
    refine WL.eql rfl rfl rfl ?_
    refine WL.nil ?_
    refine W.condpT rfl (by omega) ?_
    refine W.seq ?_
    refine W.region ?_
    refine WL.mv rfl rfl ?_
    refine WL.as rfl rfl ?_
    refine WL.nil ?_
    exact W.ret1 rfl rfl (fun h p => ⟨by rw [he], p⟩)
  · refine W.seq ?_
    refine W.seq ?_
    refine W.region ?_
    refine WL.mv rfl rfl ?_
    refine WL.mv rfl rfl ?_
    refine WL.len (T := Ty) rfl rfl (by assumption) rfl ?_
    refine WL.lss rfl rfl rfl ?_
    refine WL.nil ?_
    refine W.condpT rfl (by omega) ?_
    refine W.skip ?_
    refine W.seq ?_
    refine W.block ?_
    refine W.seq ?_
    refine W.region ?_
    refine WL.mv rfl rfl ?_
    refine WL.mv rfl rfl ?_
    refine WL.ix (T := Ty) rfl rfl rfl (by assumption) rfl rfl (by omega) (by first | omega | decide +kernel) ?_
    refine WL.ldKn (T := Ty) rfl rfl rfl rfl (by first | assumption | exact ROs.wide (by assumption)) (by assumption) ?_
    refine WL.mv rfl rfl ?_
    refine WL.eql rfl rfl rfl ?_
    refine WL.nil ?_
    refine W.condpF rfl (by omega) ?_
    refine W.skip ?_
    refine W.inBlock ?_
    refine W.region ?_
    refine WL.mv rfl rfl ?_
    refine WL.addK rfl rfl rfl (wrap_i64 ⟨by omega, by omega⟩) ?_
    refine WL.as rfl rfl ?_
    refine WL.nil ?_
    refine W.sub ?_ (next (i + 1) ⟨by omega, fun hm => ?_⟩ (by omega))
    · exact ⟨rfl, rfl, rfl, trivial⟩
    · rw [List.take_add_one, hy] at hm
      rcases List.mem_append.1 hm with h | h
      · exact hn h
      · simp at h; exact hxy h.symm
theorem place_out (ρ : Hp) (v : Value) (ws : List Nat) (x : Nat) (hv : ROs ρ 1 v (ws.map ucell)) (hx : ¬ x ∈ ws) (hl : ws.length ≤ 70000) :
    Fn Try.prog 45 #[v, .int .u64 (x : Int)] ρ [] (Just (.int .i64 (-1))) := by
  refine in45 rfl rfl ?_
  have sv := hv.slm
  refine W.seq ?_
  refine W.region ?_
  refine WL.as rfl rfl ?_
  refine WL.nil ?_
  refine W.seq ?_
  refine W.seq ?_
  refine W.region ?_
  refine WL.as rfl rfl ?_
  refine WL.nil ?_
  refine W.block ?_
  refine W.loopS (σ := Nat) (fun i => [(0, v), (1, .int .u64 (x : Int)), (5, .int .i64 (i : Int))]) (fun _ => []) (fun i => i ≤ ws.length) (fun i => ws.length - i) 0 ⟨rfl, rfl, rfl, trivial⟩ rfl (Nat.zero_le _) ?_
  intro i hi next
  by_cases hlt : i < ws.length
  · obtain ⟨y, hy⟩ : ∃ y, ws[i]? = some y := ⟨_, List.getElem?_eq_getElem hlt⟩
    have hy1 : (ws.map ucell)[i]? = some (ucell y) := by rw [List.getElem?_map, hy]; rfl
    have hxy : ¬ y = x := fun e => hx (e ▸ List.mem_of_getElem? hy)
    refine W.seq ?_
    refine W.seq ?_
    refine W.region ?_
    refine WL.mv rfl rfl ?_
    refine WL.mv rfl rfl ?_
    refine WL.len (T := Ty) rfl rfl (by assumption) rfl ?_
    refine WL.lss rfl rfl rfl ?_
    refine WL.nil ?_
    refine W.condpT rfl (by omega) ?_
    refine W.skip ?_
    refine W.seq ?_
    refine W.block ?_
    refine W.seq ?_
    refine W.region ?_
    refine WL.mv rfl rfl ?_
    refine WL.mv rfl rfl ?_
    refine WL.ix (T := Ty) rfl rfl rfl (by assumption) rfl rfl (by omega) (by first | omega | decide +kernel) ?_
    refine WL.ldKn (T := Ty) rfl rfl rfl rfl (by first | assumption | exact ROs.wide (by assumption)) (by assumption) ?_
    refine WL.mv rfl rfl ?_
    refine WL.eql rfl rfl rfl ?_
    refine WL.nil ?_
    refine W.condpF rfl (by omega) ?_
    refine W.skip ?_
    refine W.inBlock ?_
    refine W.region ?_
    refine WL.mv rfl rfl ?_
    refine WL.addK rfl rfl rfl (wrap_i64 ⟨by omega, by omega⟩) ?_
    refine WL.as rfl rfl ?_
    refine WL.nil ?_
    refine W.sub ?_ (next (i + 1) (by omega) (by omega))
    exact ⟨rfl, rfl, rfl, trivial⟩
  · refine W.seq ?_
    refine W.seq ?_
    refine W.region ?_
    refine WL.mv rfl rfl ?_
    refine WL.mv rfl rfl ?_
    refine WL.len (T := Ty) rfl rfl (by assumption) rfl ?_
    refine WL.lss rfl rfl rfl ?_
    refine WL.nil ?_
    refine W.condpF rfl (by omega) ?_
    refine W.exit rfl ?_
    refine W.seq ?_
    refine W.region ?_
    refine WL.as rfl rfl ?_
    refine WL.nil ?_
    exact W.ret1 rfl rfl (fun h p => ⟨rfl, p⟩)
theorem unl_app2 : ∀ (l m ws : List Nat), unl ws (l ++ m) = (unl ws l).bind (fun w => unl w m)
  | [], m, ws => by rw [List.nil_append, unl_nil]; rfl
  | x :: l, m, ws => by
    rw [List.cons_append]
    by_cases h : x ∈ ws
    · rw [unl_cons_in h, unl_cons_in h]
      exact unl_app2 l m ws
    · rw [unl_cons_out h, unl_cons_out h]
      split
      · rfl
      · exact unl_app2 l m _
theorem places_grow {ws l : List Nat} {x : Nat} (h : ∀ y ∈ l, y ∈ ws) : placesD (ws ++ [x]) l = placesD ws l := by
  unfold placesD
  exact List.map_congr_left (fun y hy => idx_app (h y hy))
theorem rdict_c (ρ : Hp) (v : Value) (vs : List Nat) (hv : ROs ρ 1 v (vs.map ucell)) (hw : ∀ x ∈ vs, x < 18446744073709551616) (hl : vs.length ≤ 70000) :
    Fn Try.prog 24 #[v] ρ [] (RowB (encD vs)) := by
  refine in24 rfl rfl ?_
  have sv := hv.slm
  refine W.seq ?_
  refine W.region ?_
  refine WL.as rfl rfl ?_
  refine WL.as rfl rfl ?_
  refine WL.nil ?_
  refine W.seq ?_
  refine W.region ?_
  refine WL.as rfl rfl ?_
  refine WL.as rfl rfl ?_
  refine WL.nil ?_
  refine W.seq ?_
  refine W.seq ?_
  refine W.region ?_
  refine WL.as rfl rfl ?_
  refine WL.nil ?_
  refine W.block ?_
  refine W.nb (sz := 1) ?_
  refine W.nb (sz := 1) ?_
  refine W.loopS (σ := Nat × Value × Value × List Nat) (fun s => [(0, v), (4, s.2.1), (5, s.2.2.1), (6, .int .i64 (s.1 : Int))]) (fun s => [Buf 1 s.2.1 (s.2.2.2.map ucell), Buf 1 s.2.2.1 ((placesD s.2.2.2 (vs.take s.1)).map ucell)])
    (fun s => s.1 ≤ vs.length ∧ unl [] (vs.take s.1) = some s.2.2.2 ∧ s.2.2.2.length ≤ 256) (fun s => vs.length - s.1) (0, .slice none 0 0, .slice none 0 0, []) ⟨rfl, rfl, rfl, rfl, trivial⟩ rfl ⟨Nat.zero_le _, by rw [List.take_zero, unl_nil], by simp⟩ ?_
  rintro ⟨i, wv, av, ws⟩ ⟨h1, h2, h3⟩ next
  simp only [] at h1 h2 h3 next ⊢
  have hpl : (placesD ws (vs.take i)).length = i := by simp [placesD]; omega
  obtain ⟨_, hin, _, _, hwm⟩ := unl_ok _ _ _ h2 (by simp)
  refine W.fact (i := 0) rfl (fun h hb => Buf.slm hb) (fun hsw => ?_)
  refine W.fact (i := 1) rfl (fun h hb => Buf.slm hb) (fun hsa => ?_)
  by_cases hlt : i < vs.length
  · obtain ⟨x, hx⟩ : ∃ x, vs[i]? = some x := ⟨_, List.getElem?_eq_getElem hlt⟩
    have hx1 : (vs.map ucell)[i]? = some (ucell x) := by rw [List.getElem?_map, hx]; rfl
    have hxl := hw x (List.mem_of_getElem? hx)
    have htk : vs.take (i + 1) = vs.take i ++ [x] := by rw [List.take_add_one, hx]; rfl
    have hun : unl [] (vs.take (i + 1)) = unl ws [x] := by rw [htk, unl_app2, h2]; rfl
    by_cases hxi : x ∈ ws
    · rw [unl_cons_in hxi, unl_nil] at hun
      have hix := List.idxOf_lt_length_of_mem hxi
      refine W.seq ?_
      refine W.seq ?_
      refine W.region ?_
      refine WL.mv rfl rfl ?_
      refine WL.mv rfl rfl ?_
      refine WL.len (T := Ty) rfl rfl (by assumption) rfl ?_
      refine WL.lss rfl rfl rfl ?_
      refine WL.nil ?_
      refine W.condpT rfl (by omega) ?_
      refine W.skip ?_
      refine W.seq ?_
      refine W.block ?_
      refine W.seq ?_
      refine W.seq ?_
      refine W.region ?_
      refine WL.mv rfl rfl ?_
      refine WL.mv rfl rfl ?_
      refine WL.mv rfl rfl ?_
      refine WL.ix (T := Ty) rfl rfl rfl (by assumption) rfl rfl (by omega) (by first | omega | decide +kernel) ?_
      refine WL.ldKn (T := Ty) rfl rfl rfl rfl (by first | assumption | exact ROs.wide (by assumption)) (by assumption) ?_
      refine WL.callV rfl rfl (fun x p d => place_in _ _ _ _ (by first | assumption | exact ROs.wide (by assumption) | exact ROs.mono (by assumption) (eqh_at 0 rfl p d) | exact ros_at 0 rfl p d | exact ros_at 1 rfl p d | exact ros_at 2 rfl p d | exact ros_at 3 rfl p d | exact ros_at 4 rfl p d) (by assumption) (by first | assumption | omega)) ?_
      refine WL.lss rfl rfl rfl ?_
      refine WL.nil ?_
      refine W.condF rfl ?_
      refine W.skip ?_
      refine W.seq ?_
      refine W.region ?_
      refine WL.mv rfl rfl ?_
      refine WL.mv rfl rfl ?_
      refine WL.mv rfl rfl ?_
      refine WL.mv rfl rfl ?_
      refine WL.ix (T := Ty) rfl rfl rfl (by assumption) rfl rfl (by omega) (by first | omega | decide +kernel) ?_
      refine WL.ldKn (T := Ty) rfl rfl rfl rfl (by first | assumption | exact ROs.wide (by assumption)) (by assumption) ?_
      refine WL.callV rfl rfl (fun x p d => place_in _ _ _ _ (by first | assumption | exact ROs.wide (by assumption) | exact ROs.mono (by assumption) (eqh_at 0 rfl p d) | exact ros_at 0 rfl p d | exact ros_at 1 rfl p d | exact ros_at 2 rfl p d | exact ros_at 3 rfl p d | exact ros_at 4 rfl p d) (by assumption) (by first | assumption | omega)) ?_
      refine WL.cvK (T := Ty) rfl rfl rfl rfl (wrap_u64 ⟨by omega, by omega⟩) ?_
      refine WL.bsC (T := Ty) rfl rfl rfl rfl rfl rfl rfl (by repeat' first | exact CO.nil | apply CO.one (by first | rfl | exact SL.one (by assumption)) | apply CO.agg) rfl (by repeat' first | exact FL.nil | apply FL.cons) (fun u0 hu0 => ?_)
      refine WL.ap1 (T := Ty) (i := 1) rfl rfl rfl rfl rfl rfl rfl rfl (by assumption) (by first | rfl | assumption) (by first | omega | (simp; omega)) (by first | omega | (simp; omega)) (fun v' => (by repeat' first | exact FL.nil | apply FL.cons)) (fun u1 hu1 => ?_)
      refine WL.as rfl rfl ?_
      refine WL.nil ?_
      refine W.seq ?_
      refine W.region ?_
      refine WL.mv rfl rfl ?_
      refine WL.len (T := Ty) rfl rfl (by assumption) rfl ?_
      refine WL.gtr rfl rfl rfl ?_
      refine WL.nil ?_
      refine W.condpF rfl (by omega) ?_
      refine W.skip ?_
      refine W.inBlock ?_
      refine W.region ?_
      refine WL.mv rfl rfl ?_
      refine WL.addK rfl rfl rfl (wrap_i64 ⟨by omega, by omega⟩) ?_
      refine WL.as rfl rfl ?_
      refine WL.nil ?_
      refine W.sub ?_ (W.hs (fun h p => ?_) (next ⟨i + 1, wv, u1, ws⟩ ⟨by simp only []; omega, hun, h3⟩ (by simp only []; omega)))
      · exact ⟨rfl, rfl, rfl, rfl, trivial⟩
      · simp only []
        rw [htk]
        unfold placesD at p ⊢
        rw [List.map_append, List.map_append]
        exact p
    · have hxi2 : x ∈ ws ++ [x] := by simp
      have hix : (ws ++ [x]).idxOf x = ws.length := by rw [List.idxOf_append, if_neg hxi]; simp
      have hwl : (ws ++ [x]).length = ws.length + 1 := by simp
      have hml : (ws.map ucell).length = ws.length := by simp
      rw [unl_cons_out hxi, unl_nil] at hun
      by_cases hf : ws.length = 256
      · rw [if_pos hf] at hun
        have hnone : encD vs = none := by
          refine encD_none ?_
          rw [← List.take_append_drop (i + 1) vs, unl_app2, hun]; rfl
        refine W.seq ?_
        refine W.seq ?_
        refine W.region ?_
        refine WL.mv rfl rfl ?_
        refine WL.mv rfl rfl ?_
        refine WL.len (T := Ty) rfl rfl (by assumption) rfl ?_
        refine WL.lss rfl rfl rfl ?_
        refine WL.nil ?_
        refine W.condpT rfl (by omega) ?_
        refine W.skip ?_
        refine W.seq ?_
        refine W.block ?_
        refine W.seq ?_
        refine W.seq ?_
        refine W.region ?_
        refine WL.mv rfl rfl ?_
        refine WL.mv rfl rfl ?_
        refine WL.mv rfl rfl ?_
        refine WL.ix (T := Ty) rfl rfl rfl (by assumption) rfl rfl (by omega) (by first | omega | decide +kernel) ?_
        refine WL.ldKn (T := Ty) rfl rfl rfl rfl (by first | assumption | exact ROs.wide (by assumption)) (by assumption) ?_
        refine WL.callV rfl rfl (fun x p d => place_out _ _ _ _ (by first | assumption | exact ROs.wide (by assumption) | exact ROs.mono (by assumption) (eqh_at 0 rfl p d) | exact ros_at 0 rfl p d | exact ros_at 1 rfl p d | exact ros_at 2 rfl p d | exact ros_at 3 rfl p d | exact ros_at 4 rfl p d) (by assumption) (by first | assumption | omega)) ?_
        refine WL.lss rfl rfl rfl ?_
        refine WL.nil ?_
        refine W.condT rfl ?_
        refine W.region ?_
        refine WL.mv rfl rfl ?_
        refine WL.mv rfl rfl ?_
        refine WL.mv rfl rfl ?_
        refine WL.ix (T := Ty) rfl rfl rfl (by assumption) rfl rfl (by omega) (by first | omega | decide +kernel) ?_
        refine WL.ldKn (T := Ty) rfl rfl rfl rfl (by first | assumption | exact ROs.wide (by assumption)) (by assumption) ?_
        refine WL.bsC (T := Ty) rfl rfl rfl rfl rfl rfl rfl (by repeat' first | exact CO.nil | apply CO.one (by first | rfl | exact SL.one (by assumption)) | apply CO.agg) rfl (by repeat' first | exact FL.nil | apply FL.cons) (fun u0 hu0 => ?_)
        refine WL.ap1 (T := Ty) (i := 0) rfl rfl rfl rfl rfl rfl rfl rfl (by assumption) (by first | rfl | assumption) (by first | omega | (simp; omega)) (by first | omega | (simp; omega)) (fun v' => (by repeat' first | exact FL.nil | apply FL.cons)) (fun u1 hu1 => ?_)
        refine WL.as rfl rfl ?_
        refine WL.nil ?_
        refine W.seq ?_
        refine W.region ?_
        refine WL.mv rfl rfl ?_
        refine WL.mv rfl rfl ?_
        refine WL.mv rfl rfl ?_
        refine WL.mv rfl rfl ?_
        refine WL.ix (T := Ty) rfl rfl rfl (by assumption) rfl rfl (by omega) (by first | omega | decide +kernel) ?_
        refine WL.ldKn (T := Ty) rfl rfl rfl rfl (by first | assumption | exact ROs.wide (by assumption)) (by assumption) ?_
        rw [show [ucell x] = [x].map ucell from rfl, ← List.map_append]
        refine WL.callV rfl rfl (fun x p d => place_in _ _ _ _ (by first | assumption | exact ROs.wide (by assumption) | exact ROs.mono (by assumption) (eqh_at 0 rfl p d) | exact ros_at 0 rfl p d | exact ros_at 1 rfl p d | exact ros_at 2 rfl p d | exact ros_at 3 rfl p d | exact ros_at 4 rfl p d) (by assumption) (by first | assumption | omega)) ?_
        refine WL.cvK (T := Ty) rfl rfl rfl rfl (wrap_u64 ⟨by omega, by omega⟩) ?_
        refine WL.bsC (T := Ty) rfl rfl rfl rfl rfl rfl rfl (by repeat' first | exact CO.nil | apply CO.one (by first | rfl | exact SL.one (by assumption)) | apply CO.agg) rfl (by repeat' first | exact FL.nil | apply FL.cons) (fun u2 hu2 => ?_)
        refine WL.ap1 (T := Ty) (i := 1) rfl rfl rfl rfl rfl rfl rfl rfl (by assumption) (by first | rfl | assumption) (by first | omega | (simp; omega)) (by first | omega | (simp; omega)) (fun v' => (by repeat' first | exact FL.nil | apply FL.cons)) (fun u3 hu3 => ?_)
        refine WL.as rfl rfl ?_
        refine WL.nil ?_
        refine W.seq ?_
        refine W.region ?_
        refine WL.mv rfl rfl ?_
        refine WL.len (T := Ty) rfl rfl (by assumption) rfl ?_
        refine WL.gtr rfl rfl rfl ?_
        refine WL.nil ?_
        refine W.condpT rfl (by omega) ?_
        refine W.seq ?_
        refine W.region ?_
        refine WL.as rfl rfl ?_
        refine WL.as rfl rfl ?_
        refine WL.nil ?_
        refine W.drop 0 rfl (by repeat' first | exact FL.nil | apply FL.cons) ?_
        refine W.drop 0 rfl (by repeat' first | exact FL.nil | apply FL.cons) ?_
        refine W.nb (sz := 1) ?_
        exact W.ret2 rfl rfl rfl (fun h p => rowBnone hnone p)
      · rw [if_neg hf] at hun
        refine W.seq ?_
        refine W.seq ?_
        refine W.region ?_
        refine WL.mv rfl rfl ?_
        refine WL.mv rfl rfl ?_
        refine WL.len (T := Ty) rfl rfl (by assumption) rfl ?_
        refine WL.lss rfl rfl rfl ?_
        refine WL.nil ?_
        refine W.condpT rfl (by omega) ?_
        refine W.skip ?_
        refine W.seq ?_
        refine W.block ?_
        refine W.seq ?_
        refine W.seq ?_
        refine W.region ?_
        refine WL.mv rfl rfl ?_
        refine WL.mv rfl rfl ?_
        refine WL.mv rfl rfl ?_
        refine WL.ix (T := Ty) rfl rfl rfl (by assumption) rfl rfl (by omega) (by first | omega | decide +kernel) ?_
        refine WL.ldKn (T := Ty) rfl rfl rfl rfl (by first | assumption | exact ROs.wide (by assumption)) (by assumption) ?_
        refine WL.callV rfl rfl (fun x p d => place_out _ _ _ _ (by first | assumption | exact ROs.wide (by assumption) | exact ROs.mono (by assumption) (eqh_at 0 rfl p d) | exact ros_at 0 rfl p d | exact ros_at 1 rfl p d | exact ros_at 2 rfl p d | exact ros_at 3 rfl p d | exact ros_at 4 rfl p d) (by assumption) (by first | assumption | omega)) ?_
        refine WL.lss rfl rfl rfl ?_
        refine WL.nil ?_
        refine W.condT rfl ?_
        refine W.region ?_
        refine WL.mv rfl rfl ?_
        refine WL.mv rfl rfl ?_
        refine WL.mv rfl rfl ?_
        refine WL.ix (T := Ty) rfl rfl rfl (by assumption) rfl rfl (by omega) (by first | omega | decide +kernel) ?_
        refine WL.ldKn (T := Ty) rfl rfl rfl rfl (by first | assumption | exact ROs.wide (by assumption)) (by assumption) ?_
        refine WL.bsC (T := Ty) rfl rfl rfl rfl rfl rfl rfl (by repeat' first | exact CO.nil | apply CO.one (by first | rfl | exact SL.one (by assumption)) | apply CO.agg) rfl (by repeat' first | exact FL.nil | apply FL.cons) (fun u0 hu0 => ?_)
        refine WL.ap1 (T := Ty) (i := 0) rfl rfl rfl rfl rfl rfl rfl rfl (by assumption) (by first | rfl | assumption) (by first | omega | (simp; omega)) (by first | omega | (simp; omega)) (fun v' => (by repeat' first | exact FL.nil | apply FL.cons)) (fun u1 hu1 => ?_)
        refine WL.as rfl rfl ?_
        refine WL.nil ?_
        refine W.seq ?_
        refine W.region ?_
        refine WL.mv rfl rfl ?_
        refine WL.mv rfl rfl ?_
        refine WL.mv rfl rfl ?_
        refine WL.mv rfl rfl ?_
        refine WL.ix (T := Ty) rfl rfl rfl (by assumption) rfl rfl (by omega) (by first | omega | decide +kernel) ?_
        refine WL.ldKn (T := Ty) rfl rfl rfl rfl (by first | assumption | exact ROs.wide (by assumption)) (by assumption) ?_
        rw [show [ucell x] = [x].map ucell from rfl, ← List.map_append]
        refine WL.callV rfl rfl (fun x p d => place_in _ _ _ _ (by first | assumption | exact ROs.wide (by assumption) | exact ROs.mono (by assumption) (eqh_at 0 rfl p d) | exact ros_at 0 rfl p d | exact ros_at 1 rfl p d | exact ros_at 2 rfl p d | exact ros_at 3 rfl p d | exact ros_at 4 rfl p d) (by assumption) (by first | assumption | omega)) ?_
        refine WL.cvK (T := Ty) rfl rfl rfl rfl (wrap_u64 ⟨by omega, by omega⟩) ?_
        refine WL.bsC (T := Ty) rfl rfl rfl rfl rfl rfl rfl (by repeat' first | exact CO.nil | apply CO.one (by first | rfl | exact SL.one (by assumption)) | apply CO.agg) rfl (by repeat' first | exact FL.nil | apply FL.cons) (fun u2 hu2 => ?_)
        refine WL.ap1 (T := Ty) (i := 1) rfl rfl rfl rfl rfl rfl rfl rfl (by assumption) (by first | rfl | assumption) (by first | omega | (simp; omega)) (by first | omega | (simp; omega)) (fun v' => (by repeat' first | exact FL.nil | apply FL.cons)) (fun u3 hu3 => ?_)
        refine WL.as rfl rfl ?_
        refine WL.nil ?_
        refine W.seq ?_
        refine W.region ?_
        refine WL.mv rfl rfl ?_
        refine WL.len (T := Ty) rfl rfl (by assumption) rfl ?_
        refine WL.gtr rfl rfl rfl ?_
        refine WL.nil ?_
        refine W.condpF rfl (by omega) ?_
        refine W.skip ?_
        refine W.inBlock ?_
        refine W.region ?_
        refine WL.mv rfl rfl ?_
        refine WL.addK rfl rfl rfl (wrap_i64 ⟨by omega, by omega⟩) ?_
        refine WL.as rfl rfl ?_
        refine WL.nil ?_
        refine W.sub ?_ (W.hs (fun h p => ?_) (next ⟨i + 1, u1, u3, ws ++ [x]⟩ ⟨by simp only []; omega, hun, by simp only []; omega⟩ (by simp only []; omega)))
        · exact ⟨rfl, rfl, rfl, rfl, trivial⟩
        · simp only []
          rw [htk]
          rw [← places_grow (x := x) hin] at p
          simp only [placesD, List.map_append] at p ⊢
          exact p
  · have hie : i = vs.length := by omega
    rw [hie, List.take_length] at h2 ⊢
    by_cases h0 : vs = []
    · have hl0 : vs.length = 0 := by rw [h0]; rfl
      have he : encD vs = some [] := by rw [h0]; exact encD_nil
      refine W.seq ?_
      refine W.seq ?_
      refine W.region ?_
      refine WL.mv rfl rfl ?_
      refine WL.mv rfl rfl ?_
      refine WL.len (T := Ty) rfl rfl (by assumption) rfl ?_
      refine WL.lss rfl rfl rfl ?_
      refine WL.nil ?_
      refine W.condpF rfl (by omega) ?_
      refine W.exit rfl ?_
      refine W.seq ?_
      refine W.seq ?_
      refine W.region ?_
      refine WL.mv rfl rfl ?_
      refine WL.len (T := Ty) rfl rfl (by assumption) rfl ?_
      refine WL.eql rfl rfl rfl ?_
      refine WL.nil ?_
      refine W.condpT rfl (by omega) ?_
      refine W.seq ?_
      refine W.region ?_
      refine WL.as rfl rfl ?_
      refine WL.as rfl rfl ?_
      refine WL.nil ?_
      refine W.drop 0 rfl (by repeat' first | exact FL.nil | apply FL.cons) ?_
      refine W.drop 0 rfl (by repeat' first | exact FL.nil | apply FL.cons) ?_
      refine W.nb (sz := 1) ?_
      exact W.ret2 rfl rfl rfl (fun h p => rowBsome he p)
    · have hpos : 0 < vs.length := List.length_pos_iff.2 h0
      have he := encD_some h0 h2
      have hnil : ROs ρ 1 (.slice none 0 0) (([] : List Nat).map bcell) := ros_nil ρ 1
      have hnl : ([] : List Nat).length + 10 ≤ 140737488355328 := by decide
      have hw64 := wD_le ws.length
      have hpll : (placesD ws vs).length = vs.length := by simp [placesD]
      have hwp : 0 < ws.length := List.length_pos_iff.2 (unl_ne h0 h2)
      have ewd : lenB 64 ((ws.length : Int) - 1).toNat = wD ws.length := by unfold wD; congr 1; omega
      have hpv : ∀ y ∈ placesD ws vs, y < 18446744073709551616 := by
        intro y hy
        obtain ⟨x, hx, rfl⟩ := List.mem_map.1 hy
        have := List.idxOf_lt_length_of_mem (hin x (by rw [hie, List.take_length]; exact hx))
        omega
      refine W.seq ?_
      refine W.seq ?_
      refine W.region ?_
      refine WL.mv rfl rfl ?_
      refine WL.mv rfl rfl ?_
      refine WL.len (T := Ty) rfl rfl (by assumption) rfl ?_
      refine WL.lss rfl rfl rfl ?_
      refine WL.nil ?_
      refine W.condpF rfl (by omega) ?_
      refine W.exit rfl ?_
      refine W.seq ?_
      refine W.seq ?_
      refine W.region ?_
      refine WL.mv rfl rfl ?_
      refine WL.len (T := Ty) rfl rfl (by assumption) rfl ?_
      refine WL.eql rfl rfl rfl ?_
      refine WL.nil ?_
      refine W.condpF rfl (by omega) ?_
      refine W.skip ?_
      refine W.seq ?_
      refine W.region ?_
      refine WL.mv rfl rfl ?_
      refine WL.len (T := Ty) rfl rfl (by assumption) rfl ?_
      refine WL.cvK (T := Ty) rfl rfl rfl rfl (wrap_u64 ⟨by omega, by omega⟩) ?_
      refine WL.callF rfl rfl (fun x p d => rput_c _ _ _ _ (by first | assumption | exact ROs.wide (by assumption) | exact ROs.mono (by assumption) (eqh_at 0 rfl p d) | exact ros_at 0 rfl p d | exact ros_at 1 rfl p d | exact ros_at 2 rfl p d | exact ros_at 3 rfl p d | exact ros_at 4 rfl p d) (by first | assumption | omega) (by first | assumption | omega | (simp only [List.length_append]; omega))) (fun u0 => ?_)
      refine WL.fact (i := 0) rfl (fun h hb => Buf.slm hb) (fun hsl0 => ?_)
      refine WL.as rfl rfl ?_
      refine WL.nil ?_
      refine W.seq ?_
      refine W.seq ?_
      refine W.region ?_
      refine WL.as rfl rfl ?_
      refine WL.nil ?_
      refine W.block ?_
      refine W.loopS (σ := Nat × Value) (fun s => [(4, wv), (5, av), (7, s.2), (8, .int .i64 (s.1 : Int))]) (fun s => [Buf 1 s.2 ((vputF 9 ws.length ++ (ws.take s.1).flatMap (vputF 9)).map bcell), Buf 1 wv (ws.map ucell), Buf 1 av ((placesD ws vs).map ucell)])
        (fun s => s.1 ≤ ws.length) (fun s => ws.length - s.1) (0, u0) ⟨rfl, rfl, rfl, rfl, trivial⟩ (by simp) (Nat.zero_le _) ?_
      rintro ⟨i, o⟩ hi next
      simp only [] at hi next ⊢
      have hfl := flatput_len (ws.take i)
      rw [List.length_take, Nat.min_eq_left hi] at hfl
      have hv9 := vput_len 9 ws.length
      have hol : (vputF 9 ws.length ++ (ws.take i).flatMap (vputF 9)).length ≤ 2700 := by rw [List.length_append]; omega
      refine W.fact (i := 0) rfl (fun h hb => Buf.slm hb) (fun hso => ?_)
      by_cases hlt : i < ws.length
      · obtain ⟨x, hx⟩ : ∃ x, ws[i]? = some x := ⟨_, List.getElem?_eq_getElem hlt⟩
        have hx1 : (ws.map ucell)[i]? = some (ucell x) := by rw [List.getElem?_map, hx]; rfl
        have hxl : x < 18446744073709551616 := (hwm x (List.mem_of_getElem? hx)).elim (fun q => by cases q) (fun q => hw x (List.mem_of_mem_take q))
        refine W.seq ?_
        refine W.seq ?_
        refine W.region ?_
        refine WL.mv rfl rfl ?_
        refine WL.mv rfl rfl ?_
        refine WL.len (T := Ty) rfl rfl (by assumption) rfl ?_
        refine WL.lss rfl rfl rfl ?_
        refine WL.nil ?_
        refine W.condpT rfl (by omega) ?_
        refine W.skip ?_
        refine W.seq ?_
        refine W.block ?_
        refine W.region ?_
        refine WL.mv rfl rfl ?_
        refine WL.mv rfl rfl ?_
        refine WL.mv rfl rfl ?_
        refine WL.ix (T := Ty) rfl rfl rfl (by assumption) rfl rfl (by omega) (by first | omega | decide +kernel) ?_
        refine WL.ldEK (T := Ty) (j := 1) rfl rfl rfl rfl rfl (by assumption) (by omega) ?_
        refine WL.callF rfl rfl (fun x p d => rput_c _ _ _ _ (by first | assumption | exact ROs.wide (by assumption) | exact ROs.mono (by assumption) (eqh_at 0 rfl p d) | exact ros_at 0 rfl p d | exact ros_at 1 rfl p d | exact ros_at 2 rfl p d | exact ros_at 3 rfl p d | exact ros_at 4 rfl p d) (by first | assumption | omega) (by first | assumption | omega | (simp only [List.length_append]; omega))) (fun u1 => ?_)
        refine WL.fact (i := 0) rfl (fun h hb => Buf.slm hb) (fun hsl1 => ?_)
        refine WL.as rfl rfl ?_
        refine WL.nil ?_
        refine W.inBlock ?_
        refine W.region ?_
        refine WL.mv rfl rfl ?_
        refine WL.addK rfl rfl rfl (wrap_i64 ⟨by omega, by omega⟩) ?_
        refine WL.as rfl rfl ?_
        refine WL.nil ?_
        refine W.drop 1 rfl (by repeat' first | exact FL.nil | apply FL.cons) ?_
        refine W.sub ?_ (W.hs (fun h p => ?_) (next ⟨i + 1, u1⟩ (by simp only []; omega) (by simp only []; omega)))
        · exact ⟨rfl, rfl, rfl, rfl, trivial⟩
        · simp only []
          have e : vputF 9 ws.length ++ (ws.take (i + 1)).flatMap (vputF 9) = vputF 9 ws.length ++ (ws.take i).flatMap (vputF 9) ++ vputF 9 x := by rw [List.take_add_one, hx]; simp
          rw [e]
          exact p
      · have hie2 : i = ws.length := by omega
        have hhd : vputF 9 ws.length ++ (ws.take i).flatMap (vputF 9) = headD ws := by rw [hie2, List.take_length]; rfl
        rw [hhd] at hol hso ⊢
        refine W.seq ?_
        refine W.seq ?_
        refine W.region ?_
        refine WL.mv rfl rfl ?_
        refine WL.mv rfl rfl ?_
        refine WL.len (T := Ty) rfl rfl (by assumption) rfl ?_
        refine WL.lss rfl rfl rfl ?_
        refine WL.nil ?_
        refine W.condpF rfl (by omega) ?_
        refine W.exit rfl ?_
        refine W.seq ?_
        refine W.region ?_
        refine WL.mv rfl rfl ?_
        refine WL.mv rfl rfl ?_
        refine WL.mv rfl rfl ?_
        refine WL.len (T := Ty) rfl rfl (by assumption) rfl ?_
        refine WL.subK rfl rfl rfl (wrap_i64 ⟨by omega, by omega⟩) ?_
        refine WL.cvK (T := Ty) rfl rfl rfl rfl (wrap_u64 ⟨by omega, by omega⟩) ?_
        refine WL.callV rfl rfl (fun x p d => rwidth_i _ _ (by omega) (by omega)) ?_
        refine WL.callF rfl rfl (fun x p d => rpack_c _ _ _ _ _ _ (by first | assumption | exact ROs.wide (by assumption) | exact ROs.mono (by assumption) (eqh_at 0 rfl p d) | exact ros_at 0 rfl p d | exact ros_at 1 rfl p d | exact ros_at 2 rfl p d | exact ros_at 3 rfl p d | exact ros_at 4 rfl p d) (by first | assumption | exact ROs.wide (by assumption) | exact ROs.mono (by assumption) (eqh_at 0 rfl p d) | exact ros_at 0 rfl p d | exact ros_at 1 rfl p d | exact ros_at 2 rfl p d | exact ros_at 3 rfl p d | exact ros_at 4 rfl p d) (by first | assumption | omega) (by first | assumption | omega) (by first | assumption | omega) (by first | assumption | omega)) (fun u1 => ?_)
        refine WL.fact (i := 0) rfl (fun h hb => Buf.slm hb) (fun hsl1 => ?_)
        refine WL.as rfl rfl ?_
        refine WL.as rfl rfl ?_
        refine WL.nil ?_
        rw [ewd]
        refine W.drop 1 rfl (by repeat' first | exact FL.nil | apply FL.cons) ?_
        refine W.drop 1 rfl (by repeat' first | exact FL.nil | apply FL.cons) ?_
        refine W.drop 1 rfl (by repeat' first | exact FL.nil | apply FL.cons) ?_
        have e : headD ws ++ pack (bitsL (wD ws.length) (placesD ws vs)) = encDw ws vs := by unfold encDw; rfl
        rw [e]
        exact W.ret2 rfl rfl rfl (fun h p => rowBsome he p)
-- CALL 24 refine WL.callF rfl rfl (fun x p d => rdict_s _ _ _ (by assumption) $RO (by first | assumption | omega | decide) (by first | assumption | omega | decide)) (fun r => ?_) ;; refine WL.ex (fun u$N => ?_) ;; refine WL.pure (fun er => ?_) ;; subst er ;; refine WL.fact (i := 0) rfl (fun h hb => Buf.slm hb) (fun hsl$N => ?_)
-- CALL 24 refine WL.callF rfl rfl (fun x p d => rdict_n _ _ _ (by assumption) $RO (by first | assumption | omega | decide) (by first | assumption | omega | decide)) (fun r => ?_) ;; refine WL.ex (fun u$N => ?_) ;; refine WL.pure (fun er => ?_) ;; subst er ;; refine WL.fact (i := 0) rfl (fun h hb => Buf.slm hb) (fun hsl$N => ?_)
theorem rdict_s (ρ : Hp) (v : Value) (vs : List Nat) {bs : List Nat} (e : encD vs = some bs) (hv : ROs ρ 1 v (vs.map ucell)) (hw : ∀ x ∈ vs, x < 18446744073709551616) (hl : vs.length ≤ 70000) :
    Fn Try.prog 24 #[v] ρ [] (fun r h => ∃ v, r = .tuple #[v, .bool true] ∧ Buf 1 v (bs.map bcell) h) := by
  have := rdict_c ρ v vs hv hw hl
  rw [e] at this
  exact this
theorem rdict_n (ρ : Hp) (v : Value) (vs : List Nat) (e : encD vs = none) (hv : ROs ρ 1 v (vs.map ucell)) (hw : ∀ x ∈ vs, x < 18446744073709551616) (hl : vs.length ≤ 70000) :
    Fn Try.prog 24 #[v] ρ [] (fun r h => ∃ v, r = .tuple #[v, .bool false] ∧ Buf 1 v (([] : List Nat).map bcell) h) := by
  have := rdict_c ρ v vs hv hw hl
  rw [e] at this
  exact this
end Go.Proofs.Ytjibmfkhhljhcaa
