/- slices.Min, slices.Max of words, bytes.Equal: what they do. -/
import Derived.Test.YtjibmfkhhljhcaaStc
import Derived.Test.YtjibmfkhhljhcaaNum
import Derived.Test.YtjibmfkhhljhcaaTab
import Derived.Test.YtjibmfkhhljhcaaForpLaw
set_option linter.unusedSimpArgs false
set_option linter.unusedVariables false
set_option maxRecDepth 20000
set_option maxHeartbeats 4000000
namespace Go.Proofs.Ytjibmfkhhljhcaa
open Go
attribute [local irreducible] W WL Fn Buf ROs SL eptr box Rd Src bndOK WD RB Reads In

-- CALL 31 refine WL.callV rfl rfl (fun x p d => smin_c _ _ _ $RO (by first | assumption | omega) (by first | assumption | omega)) ?_
theorem smin_c (ρ : Hp) (v : Value) (vs : List Nat) (hv : ROs ρ 1 v (vs.map ucell)) (h0 : 0 < vs.length) (hl : vs.length ≤ 17592186044416) :
    Fn Try.prog 31 #[v] ρ [] (Just (.int .u64 (loF vs : Int))) := by
  refine in31 rfl rfl ?_
  have sv := hv.slm
  obtain ⟨x, hx⟩ : ∃ x, vs[0]? = some x := ⟨_, List.getElem?_eq_getElem h0⟩
  have hx1 : (vs.map ucell)[0]? = some (ucell x) := by rw [List.getElem?_map, hx]; rfl
  have hone : loI vs 1 = x := by
    cases vs with
    | nil => cases hx
    | cons y l => simp at hx; subst hx; exact loI_one _ _
  refine W.seq ?_
  refine W.region ?_
  refine WL.as rfl rfl ?_
  refine WL.nil ?_
  refine W.seq ?_
  refine W.seq ?_
  refine W.region ?_
  refine WL.mv rfl rfl ?_
  refine WL.len (T := Ty) rfl rfl (by assumption) rfl ?_
  refine WL.lss rfl rfl rfl ?_
  refine WL.nil ?_
  refine W.condpF rfl (by omega) ?_
  refine W.skip ?_
  refine W.seq ?_
  refine W.region ?_
  refine WL.mv rfl rfl ?_
  refine WL.ix (T := Ty) rfl rfl rfl (by assumption) rfl rfl (by omega) (by first | omega | decide +kernel) ?_
  refine WL.ldKn (T := Ty) rfl rfl rfl rfl (by first | assumption | exact ROs.wide (by assumption)) (by assumption) ?_
  refine WL.as rfl rfl ?_
  refine WL.nil ?_
  refine W.seq ?_
  refine W.seq ?_
  refine W.region ?_
  refine WL.as rfl rfl ?_
  refine WL.nil ?_
  refine W.block ?_
  refine W.loopS (σ := Nat) (fun i => [(0, v), (3, .int .u64 (loI vs i : Int)), (4, .int .i64 (i : Int))]) (fun _ => []) (fun i => i ≤ vs.length) (fun i => vs.length - i) 1 ⟨rfl, by rw [hone]; rfl, rfl, trivial⟩ rfl h0 ?_
  intro i hi next
  by_cases hlt : i < vs.length
  · obtain ⟨y, hy⟩ : ∃ y, vs[i]? = some y := ⟨_, List.getElem?_eq_getElem hlt⟩
    have hy1 : (vs.map ucell)[i]? = some (ucell y) := by rw [List.getElem?_map, hy]; rfl
    refine W.seq ?_
    refine W.seq ?_
    refine W.region ?_
    refine WL.mv rfl rfl ?_
    refine WL.mv rfl rfl ?_
    refine WL.len (T := Ty) rfl rfl (by assumption) rfl ?_
    refine WL.lss rfl rfl rfl ?_
    refine WL.nil ?_
    refine W.condpT rfl (by omega) ?_
    refine W.skip ?_
    refine W.seq ?_
    refine W.block ?_
    refine W.region ?_
    refine WL.mv rfl rfl ?_
    refine WL.mv rfl rfl ?_
    refine WL.mv rfl rfl ?_
    refine WL.ix (T := Ty) rfl rfl rfl (by assumption) rfl rfl (by omega) (by first | omega | decide +kernel) ?_
    refine WL.ldKn (T := Ty) rfl rfl rfl rfl (by first | assumption | exact ROs.wide (by assumption)) (by assumption) ?_
    refine WL.mn rfl rfl rfl ?_
    refine WL.as rfl rfl ?_
    refine WL.nil ?_
    refine W.inBlock ?_
    refine W.region ?_
    refine WL.mv rfl rfl ?_
    refine WL.addK rfl rfl rfl (wrap_i64 ⟨by omega, by omega⟩) ?_
    refine WL.as rfl rfl ?_
    refine WL.nil ?_
    refine W.sub ?_ (next (i + 1) (by omega) (by omega))
    exact ⟨rfl, by rw [loI_next hy]; exact congrArg (fun z => some (Value.int .u64 z)) (by omega), rfl, trivial⟩
  · have e : i = vs.length := by omega
    subst e
    refine W.seq ?_
    refine W.seq ?_
    refine W.region ?_
    refine WL.mv rfl rfl ?_
    refine WL.mv rfl rfl ?_
    refine WL.len (T := Ty) rfl rfl (by assumption) rfl ?_
    refine WL.lss rfl rfl rfl ?_
    refine WL.nil ?_
    refine W.condpF rfl (by omega) ?_
    refine W.exit rfl ?_
    refine W.seq ?_
    refine W.region ?_
    refine WL.mv rfl rfl ?_
    refine WL.as rfl rfl ?_
    refine WL.nil ?_
    exact W.ret1 rfl rfl (fun h p => ⟨by rw [loI_all], p⟩)
-- CALL 33 refine WL.callV rfl rfl (fun x p d => smax_c _ _ _ $RO (by first | assumption | omega) (by first | assumption | omega)) ?_
theorem smax_c (ρ : Hp) (v : Value) (vs : List Nat) (hv : ROs ρ 1 v (vs.map ucell)) (h0 : 0 < vs.length) (hl : vs.length ≤ 17592186044416) :
    Fn Try.prog 33 #[v] ρ [] (Just (.int .u64 (hiF vs : Int))) := by
  refine in33 rfl rfl ?_
  have sv := hv.slm
  obtain ⟨x, hx⟩ : ∃ x, vs[0]? = some x := ⟨_, List.getElem?_eq_getElem h0⟩
  have hx1 : (vs.map ucell)[0]? = some (ucell x) := by rw [List.getElem?_map, hx]; rfl
  have hone : hiI vs 1 = x := by
    cases vs with
    | nil => cases hx
    | cons y l => simp at hx; subst hx; exact hiI_one _ _
  refine W.seq ?_
  refine W.region ?_
  refine WL.as rfl rfl ?_
  refine WL.nil ?_
  refine W.seq ?_
  refine W.seq ?_
  refine W.region ?_
  refine WL.mv rfl rfl ?_
  refine WL.len (T := Ty) rfl rfl (by assumption) rfl ?_
  refine WL.lss rfl rfl rfl ?_
  refine WL.nil ?_
  refine W.condpF rfl (by omega) ?_
  refine W.skip ?_
  refine W.seq ?_
  refine W.region ?_
  refine WL.mv rfl rfl ?_
  refine WL.ix (T := Ty) rfl rfl rfl (by assumption) rfl rfl (by omega) (by first | omega | decide +kernel) ?_
  refine WL.ldKn (T := Ty) rfl rfl rfl rfl (by first | assumption | exact ROs.wide (by assumption)) (by assumption) ?_
  refine WL.as rfl rfl ?_
  refine WL.nil ?_
  refine W.seq ?_
  refine W.seq ?_
  refine W.region ?_
  refine WL.as rfl rfl ?_
  refine WL.nil ?_
  refine W.block ?_
  refine W.loopS (σ := Nat) (fun i => [(0, v), (3, .int .u64 (hiI vs i : Int)), (4, .int .i64 (i : Int))]) (fun _ => []) (fun i => i ≤ vs.length) (fun i => vs.length - i) 1 ⟨rfl, by rw [hone]; rfl, rfl, trivial⟩ rfl h0 ?_
  intro i hi next
  by_cases hlt : i < vs.length
  · obtain ⟨y, hy⟩ : ∃ y, vs[i]? = some y := ⟨_, List.getElem?_eq_getElem hlt⟩
    have hy1 : (vs.map ucell)[i]? = some (ucell y) := by rw [List.getElem?_map, hy]; rfl
    refine W.seq ?_
    refine W.seq ?_
    refine W.region ?_
    refine WL.mv rfl rfl ?_
    refine WL.mv rfl rfl ?_
    refine WL.len (T := Ty) rfl rfl (by assumption) rfl ?_
    refine WL.lss rfl rfl rfl ?_
    refine WL.nil ?_
    refine W.condpT rfl (by omega) ?_
    refine W.skip ?_
    refine W.seq ?_
    refine W.block ?_
    refine W.region ?_
    refine WL.mv rfl rfl ?_
    refine WL.mv rfl rfl ?_
    refine WL.mv rfl rfl ?_
    refine WL.ix (T := Ty) rfl rfl rfl (by assumption) rfl rfl (by omega) (by first | omega | decide +kernel) ?_
    refine WL.ldKn (T := Ty) rfl rfl rfl rfl (by first | assumption | exact ROs.wide (by assumption)) (by assumption) ?_
    refine WL.mx rfl rfl rfl ?_
    refine WL.as rfl rfl ?_
    refine WL.nil ?_
    refine W.inBlock ?_
    refine W.region ?_
    refine WL.mv rfl rfl ?_
    refine WL.addK rfl rfl rfl (wrap_i64 ⟨by omega, by omega⟩) ?_
    refine WL.as rfl rfl ?_
    refine WL.nil ?_
    refine W.sub ?_ (next (i + 1) (by omega) (by omega))
    exact ⟨rfl, by rw [hiI_next hy]; exact congrArg (fun z => some (Value.int .u64 z)) (by omega), rfl, trivial⟩
  · have e : i = vs.length := by omega
    subst e
    refine W.seq ?_
    refine W.seq ?_
    refine W.region ?_
    refine WL.mv rfl rfl ?_
    refine WL.mv rfl rfl ?_
    refine WL.len (T := Ty) rfl rfl (by assumption) rfl ?_
    refine WL.lss rfl rfl rfl ?_
    refine WL.nil ?_
    refine W.condpF rfl (by omega) ?_
    refine W.exit rfl ?_
    refine W.seq ?_
    refine W.region ?_
    refine WL.mv rfl rfl ?_
    refine WL.as rfl rfl ?_
    refine WL.nil ?_
    exact W.ret1 rfl rfl (fun h p => ⟨by rw [hiI_all], p⟩)
theorem strOf_go (s : ByteArray) : ∀ ns : List Nat, bytesN ((ns.map (fun (n : Nat) => (n : Int))).foldl (fun r n => r.push (UInt8.ofNat n.toNat)) s) = bytesN s ++ ns.map (· % 256)
  | [] => by simp
  | n :: ns => by
    rw [List.map_cons, List.foldl_cons, strOf_go]
    simp [bytesN]
theorem bytesN_strN (ns : List Nat) (h : ∀ x ∈ ns, x < 256) : bytesN (strN ns) = ns := by
  have e : ns.map (· % 256) = ns := by
    conv => rhs; rw [← List.map_id ns]
    exact List.map_congr_left (fun x hx => Nat.mod_eq_of_lt (h x hx))
  unfold strN strOf
  rw [strOf_go, e]
  simp [bytesN]
theorem strN_inj {a b : List Nat} (ha : ∀ x ∈ a, x < 256) (hb : ∀ x ∈ b, x < 256) (h : strN a = strN b) : a = b := by
  have h1 := bytesN_strN a ha
  rw [h, bytesN_strN b hb] at h1
  exact h1.symm
theorem strN_bne {a b : List Nat} (ha : ∀ x ∈ a, x < 256) (hb : ∀ x ∈ b, x < 256) (e : ¬ a = b) : ((strN a).toList == (strN b).toList) = false := by
  rw [beq_eq_false_iff_ne]
  intro h
  rw [ByteArray.toList_eq, ByteArray.toList_eq] at h
  refine e (strN_inj ha hb ?_)
  rw [ByteArray.ext_iff, ← Array.toList_inj]
  exact h
-- CALL 30 refine WL.callV rfl rfl (fun x p d => beq_t _ _ _ _ _ $RO $RO (by first | with_reducible rfl | assumption) (by assumption) (by assumption) (by first | assumption | omega) (by first | assumption | omega)) ?_
-- CALL 30 refine WL.callV rfl rfl (fun x p d => beq_f _ _ _ _ _ $RO $RO (by assumption) (by assumption) (by assumption) (by first | assumption | omega) (by first | assumption | omega)) ?_
theorem beq_c (ρ : Hp) (v w : Value) (xs ys : List Nat) (hv : ROs ρ 1 v (xs.map bcell)) (hw : ROs ρ 1 w (ys.map bcell)) (hx : ∀ x ∈ xs, x < 256) (hy : ∀ x ∈ ys, x < 256) (hlx : xs.length ≤ 140737488355328) (hly : ys.length ≤ 140737488355328) :
    Fn Try.prog 30 #[v, w] ρ [] (Just (.bool (decide (xs = ys)))) := by
  refine in30 rfl rfl ?_
  have sv := hv.slm
  have sw := hw.slm
  refine W.seq ?_
  refine W.region ?_
  refine WL.as rfl rfl ?_
  refine WL.nil ?_
  refine W.seq ?_
  refine W.region ?_
  refine WL.mv rfl rfl ?_
  refine WL.b2sRN (T := Ty) rfl rfl rfl rfl rfl rfl rfl (by assumption) ?_
  refine WL.mv rfl rfl ?_
  refine WL.b2sRN (T := Ty) rfl rfl rfl rfl rfl rfl rfl (by assumption) ?_
  refine WL.eqS rfl rfl rfl ?_
  refine WL.as rfl rfl ?_
  refine WL.nil ?_
  refine W.ret1 rfl rfl (fun h p => ⟨?_, p⟩)
  congr 1
  by_cases e : xs = ys
  · subst e; simp
  · rw [decide_eq_false e, beq_eq_false_iff_ne]
    intro h
    rw [ByteArray.toList_eq, ByteArray.toList_eq] at h
    refine e (strN_inj hx hy ?_)
    rw [ByteArray.ext_iff, ← Array.toList_inj]
    exact h
theorem beq_t (ρ : Hp) (v w : Value) (xs ys : List Nat) (hv : ROs ρ 1 v (xs.map bcell)) (hw : ROs ρ 1 w (ys.map bcell)) (e : xs = ys) (hx : ∀ x ∈ xs, x < 256) (hy : ∀ x ∈ ys, x < 256) (hlx : xs.length ≤ 140737488355328) (hly : ys.length ≤ 140737488355328) :
    Fn Try.prog 30 #[v, w] ρ [] (Just (.bool true)) := by
  have := beq_c ρ v w xs ys hv hw hx hy hlx hly
  rw [decide_eq_true e] at this
  exact this
theorem beq_f (ρ : Hp) (v w : Value) (xs ys : List Nat) (hv : ROs ρ 1 v (xs.map bcell)) (hw : ROs ρ 1 w (ys.map bcell)) (e : ¬ xs = ys) (hx : ∀ x ∈ xs, x < 256) (hy : ∀ x ∈ ys, x < 256) (hlx : xs.length ≤ 140737488355328) (hly : ys.length ≤ 140737488355328) :
    Fn Try.prog 30 #[v, w] ρ [] (Just (.bool false)) := by
  have := beq_c ρ v w xs ys hv hw hx hy hlx hly
  rw [decide_eq_false e] at this
  exact this
end Go.Proofs.Ytjibmfkhhljhcaa
