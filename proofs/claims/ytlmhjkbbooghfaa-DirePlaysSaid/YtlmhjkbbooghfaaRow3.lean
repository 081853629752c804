/- Rows over slices of slices of structs of two numbers. -/
import Derived.Test.YtlmhjkbbooghfaaRow2
set_option linter.unusedSimpArgs false
set_option linter.unusedVariables false
namespace Go.Proofs.Ytlmhjkbbooghfaa
open Go Go.ChangeShapes Go.WideShapes Go.RowKit
section
variable {H : Type} {enc : TypeId × Value → H} {P : Program} {W : World} {base : Nat} {held : Bool}
theorem wAll_mem {e : TypeId} : ∀ {l : List (DataW H)} {d : DataW H}, d ∈ l → ∀ n ∈ d.weights P e, n ∈ DataW.weightsAll P e l
  | d' :: r, d, hd, n, hn => by
    simp only [DataW.weightsAll, List.mem_append]
    rcases List.mem_cons.1 hd with rfl | h
    · exact Or.inl hn
    · exact Or.inr (wAll_mem h n hn)
theorem w_inner {ts : List TypeId} {ds : List (DataW H)} (h : (DataW.weightsEach P ts ds).all (· ≤ reachBytes) = true) {j : Nat} {t e q : TypeId} {elems spare e' sp' : List (DataW H)}
    (ht : ts[j]? = some t) (hd : ds[j]? = some (.slice elems spare)) (hu : P.underlying t = some (.slice e)) (hu2 : P.underlying e = some (.slice q)) (hx : DataW.slice e' sp' ∈ elems) : (e'.length + sp'.length) * P.bytesOf q ≤ reachBytes := by
  refine of_decide_eq_true (List.all_eq_true.1 h _ (DataW.weights_mem_each ht hd _ ?_))
  simp only [DataW.weights, hu, List.mem_cons, List.mem_append]
  exact Or.inr (Or.inl (wAll_mem hx _ (by simp [DataW.weights, hu2])))
theorem rows2_of {ts : List TypeId} {ds : List (DataW H)} {j : Nat} {t e q : TypeId} {f0 f1 : Field} {k0 k1 : IntKind} {a : Option Addr} {len cap : Nat} {d : DataW H} {ps : List MemPlace}
    (hsz : (DataW.weightsEach P ts ds).all (· ≤ reachBytes) = true) (htj : ts[j]? = some t) (hdj : ds[j]? = some d) (ht : P.underlying t = some (.slice e)) (he : P.underlying e = some (.slice q)) (hq : P.underlying q = some (.struct #[f0, f1]))
    (ce : P.cellsOf e = 1) (cq : P.cellsOf q = 2) (o0 : f0.offset = 0) (o1 : f1.offset = 1) (c0 : P.cellsOf f0.type = 1) (c1 : P.cellsOf f1.type = 1) (u0 : P.underlying f0.type = some (.int k0)) (u1 : P.underlying f1.type = some (.int k1)) {B C : Nat} (hB : P.bytesOf q = B) (hC : P.bytesOf e = C)
    (h : DataW.Trod enc P W base (fun _ => true) held t (.slice a len cap) d ps) :
    ∃ zs : List (Value × List (Int × Int)), ROs (heapOf W) 1 (.slice a len cap) (zs.map (·.1)) ∧ (∀ y ∈ zs, ROs (heapOf W) 2 y.1 (y.2.flatMap (twoC k0 k1)) ∧ (∀ q ∈ y.2, (Lit.int k0 q.1).wf = true ∧ (Lit.int k1 q.2).wf = true) ∧ y.2.length * B ≤ 140737488351232) ∧ zs.length * C ≤ 140737488351232 := by
  obtain ⟨fuel, hf⟩ := h
  rcases Go.Deep.open_slice1 ht ce hf with ⟨hcs, _⟩ | ⟨a', l, c, m, n, V, D, Pl, hcs, hb, hl, hm, hmm, hx, each⟩
  · simp [Value.cells] at hcs
    obtain ⟨rfl, rfl, rfl⟩ := hcs
    exact ⟨[], .inl ⟨rfl, rfl⟩, by simp, by simp⟩
  · simp [Value.cells] at hcs
    obtain ⟨rfl, rfl, rfl⟩ := hcs
    simp at hmm
    subst hmm
    obtain ⟨hx1, _⟩ := Prod.mk.inj hx
    have key : ∀ i, i < m → ∃ y : Value × List (Int × Int), V i = y.1 ∧ ROs (heapOf W) 2 y.1 (y.2.flatMap (twoC k0 k1)) ∧ (∀ q ∈ y.2, (Lit.int k0 q.1).wf = true ∧ (Lit.int k1 q.2).wf = true) ∧ (i < len → y.2.length * B ≤ 140737488351232) := by
      intro i hi
      obtain ⟨_, hi2⟩ := each i hi
      rcases Go.Deep.open_slice_pairs he hq cq o0 o1 c0 c1 hi2 with ⟨hcs, _⟩ | ⟨b2, l2, c2, m2, n2, V0, V1, D0, D1, P0, P1, hcs, _, _, _, _, hd2, _⟩
      · simp at hcs
        exact ⟨(.slice none 0 0, []), hcs, .inl ⟨rfl, rfl⟩, by simp, fun _ => by simp⟩
      · simp at hcs
        rw [hcs] at hi2
        obtain ⟨zs, hz⟩ := row2_of he hq cq o0 o1 c0 c1 u0 u1 hi2
        refine ⟨(.slice (some b2) l2 c2, zs.take l2), hcs, ros_of_row2 hz, wf_of_row2 hz, fun hlt => ?_⟩
        have hDi := (Prod.mk.inj hd2).1
        have hmem : D i ∈ (List.range len).map D := List.mem_map.2 ⟨i, List.mem_range.2 hlt, rfl⟩
        rw [hDi] at hmem
        rw [hx1] at hdj
        have := w_inner hsz htj hdj ht he hmem
        simp only [List.length_map, List.length_range] at this
        rw [hB] at this
        show (zs.take l2).length * B ≤ _
        rw [len_of_row2 hz]
        exact Nat.le_trans (Nat.mul_le_mul_right _ (Nat.le_add_right _ _)) this
    let f : Nat → Value × List (Int × Int) := fun i => if h : i < m then (key i h).choose else (.slice none 0 0, [])
    have hff : ∀ i, i < m → V i = (f i).1 ∧ ROs (heapOf W) 2 (f i).1 ((f i).2.flatMap (twoC k0 k1)) ∧ (∀ q ∈ (f i).2, (Lit.int k0 q.1).wf = true ∧ (Lit.int k1 q.2).wf = true) ∧ (i < len → (f i).2.length * B ≤ 140737488351232) := by
      intro i hi
      have := (key i hi).choose_spec
      simp only [f, dif_pos hi]
      exact this
    refine ⟨(List.range len).map f, ?_, ?_, ?_⟩
    · refine ros_of_cells hl hm (by simp) ?_ (by omega) ?_
      · intro h0
        by_cases hcap : m = 0
        · exact .inl hcap
        · right
          have h := (each 0 (by omega)).1
          rw [Addr.add_zero'] at h
          refine ⟨?_, _, h⟩
          cases hs : a'.spot with
          | none => rfl
          | some s =>
            unfold World.cell? at h
            cases hb : W.heap[a'.block]? with
            | none => simp [hb] at h
            | some o => cases o <;> simp [hb, hs] at h
      · intro i v hv
        rw [List.getElem?_map, List.getElem?_map] at hv
        by_cases hi : i < len
        · rw [List.getElem?_range hi] at hv
          simp at hv
          subst hv
          have hi' : i < m := by omega
          rw [← (hff i hi').1]
          exact (each i hi').1
        · rw [List.getElem?_eq_none (by simp; omega)] at hv
          cases hv
    · intro y hy
      obtain ⟨i, hi, rfl⟩ := List.mem_map.1 hy
      have hi' := List.mem_range.1 hi
      obtain ⟨_, g1, g2, g3⟩ := hff i (by omega)
      exact ⟨g1, g2, g3 hi'⟩
    · have hsl := sized_slice hsz htj (by rw [hdj, hx1]) ht
      rw [hC] at hsl
      simp only [List.length_map, List.length_range] at hsl ⊢
      exact Nat.le_trans (Nat.mul_le_mul_right _ (Nat.le_add_right _ _)) hsl
end
end Go.Proofs.Ytlmhjkbbooghfaa
