/- Rows over slices of structs of two numbers. -/
import Derived.Test.YtdpnpipninggeaaGreatDoorRow
import Derived.Deep.SlicePairs
set_option linter.unusedSimpArgs false
set_option linter.unusedVariables false
namespace Go.Proofs.YtdpnpipninggeaaGreatDoor
open Go Go.ChangeShapes Go.WideShapes Go.RowKit

def twoC (k0 k1 : IntKind) (q : Int × Int) : List Value := [.int k0 q.1, .int k1 q.2]
def IsRow2 (k0 k1 : IntKind) (w : World) (a : Option Addr) (len cap : Nat) (zs : List (Int × Int)) : Prop :=
  (a = none ∧ len = 0 ∧ cap = 0 ∧ zs = []) ∨
  ∃ x, a = some x ∧ len ≤ cap ∧ cap ≤ maxLen ∧ zs.length = cap ∧ (∀ i q, zs[i]? = some q → w.cell? (x.add (i * 2)) = some (.int k0 q.1) ∧ w.cell? (x.add (i * 2 + 1)) = some (.int k1 q.2)) ∧ ∀ q ∈ zs, (Lit.int k0 q.1).wf = true ∧ (Lit.int k1 q.2).wf = true
theorem two_len {k0 k1 : IntKind} : ∀ l : List (Int × Int), (l.flatMap (twoC k0 k1)).length = l.length * 2
  | [] => rfl
  | q :: l => by rw [List.flatMap_cons, List.length_append, two_len l]; simp [twoC]; omega
theorem two_get {k0 k1 : IntKind} : ∀ (l : List (Int × Int)) (j : Nat) (v : Value), (l.flatMap (twoC k0 k1))[j]? = some v → ∃ q, l[j / 2]? = some q ∧ ((j % 2 = 0 ∧ v = .int k0 q.1) ∨ (j % 2 = 1 ∧ v = .int k1 q.2))
  | [], j, v, h => by simp at h
  | q :: l, 0, v, h => ⟨q, rfl, .inl ⟨rfl, by simpa [twoC] using h.symm⟩⟩
  | q :: l, 1, v, h => ⟨q, rfl, .inr ⟨rfl, by simpa [twoC] using h.symm⟩⟩
  | q :: l, j + 2, v, h => by
    have h' : (l.flatMap (twoC k0 k1))[j]? = some v := by simpa [twoC] using h
    obtain ⟨q', h1, h2⟩ := two_get l j v h'
    exact ⟨q', by rw [show (j + 2) / 2 = j / 2 + 1 by omega]; exact h1, by rwa [show (j + 2) % 2 = j % 2 by omega]⟩
theorem ros_of_row2 {k0 k1 : IntKind} {w : World} {a : Option Addr} {len cap : Nat} {zs : List (Int × Int)} (h : IsRow2 k0 k1 w a len cap zs) :
    ROs (heapOf w) 2 (.slice a len cap) ((zs.take len).flatMap (twoC k0 k1)) := by
  rcases h with ⟨rfl, rfl, rfl, rfl⟩ | ⟨x, rfl, hl, hm, hz, hc, _⟩
  · exact .inl ⟨rfl, rfl⟩
  · refine ros_of_cells hl hm (by rw [two_len]; simp; omega) ?_ (by omega) ?_
    · intro h0
      by_cases hcap : cap = 0
      · exact .inl hcap
      · right
        have h := (hc 0 _ (List.getElem?_eq_getElem (by omega))).1
        rw [Nat.zero_mul, Addr.add_zero'] at h
        refine ⟨?_, _, h⟩
        cases hs : x.spot with
        | none => rfl
        | some s =>
          unfold World.cell? at h
          cases hb : w.heap[x.block]? with
          | none => simp [hb] at h
          | some o => cases o <;> simp [hb, hs] at h
    · intro i v hv
      obtain ⟨q, hq, hd⟩ := two_get _ _ _ hv
      rw [List.getElem?_take] at hq
      split at hq
      · obtain ⟨c0, c1⟩ := hc _ q hq
        rcases hd with ⟨he, rfl⟩ | ⟨he, rfl⟩
        · rw [show i / 2 * 2 = i by omega] at c0; exact c0
        · rw [show i / 2 * 2 + 1 = i by omega] at c1; exact c1
      · cases hq
theorem wf_of_row2 {k0 k1 : IntKind} {w : World} {a : Option Addr} {len cap : Nat} {zs : List (Int × Int)} (h : IsRow2 k0 k1 w a len cap zs) : ∀ q ∈ zs.take len, (Lit.int k0 q.1).wf = true ∧ (Lit.int k1 q.2).wf = true := by
  intro n hn
  rcases h with ⟨rfl, rfl, rfl, rfl⟩ | ⟨x, rfl, _, _, _, _, hw⟩
  · simp at hn
  · exact hw n (List.mem_of_mem_take hn)
theorem len_of_row2 {k0 k1 : IntKind} {w : World} {a : Option Addr} {len cap : Nat} {zs : List (Int × Int)} (h : IsRow2 k0 k1 w a len cap zs) : (zs.take len).length = len := by
  rcases h with ⟨rfl, rfl, rfl, rfl⟩ | ⟨x, rfl, hl, _, hz, _, _⟩
  · rfl
  · simp; omega
section
variable {H : Type} {enc : TypeId × Value → H} {P : Program} {W : World} {base : Nat} {spare : Nat → Bool} {held : Bool}
/-- the cells of a slice of pairs of numbers, as a list -/
theorem row2_of {t e : TypeId} {f0 f1 : Field} {k0 k1 : IntKind} {a : Option Addr} {len cap : Nat} {fuel : Nat} {x : DataW H × List MemPlace} (ht : P.underlying t = some (.slice e)) (he : P.underlying e = some (.struct #[f0, f1]))
    (ce : P.cellsOf e = 2) (o0 : f0.offset = 0) (o1 : f1.offset = 1) (c0 : P.cellsOf f0.type = 1) (c1 : P.cellsOf f1.type = 1) (u0 : P.underlying f0.type = some (.int k0)) (u1 : P.underlying f1.type = some (.int k1))
    (h : DataW.trod enc P W base (fun _ => true) held fuel t [.slice a len cap] = some x) : ∃ zs, IsRow2 k0 k1 W a len cap zs := by
  rcases Go.Deep.open_slice_pairs ht he ce o0 o1 c0 c1 h with ⟨hcs, _⟩ | ⟨b, l, c, m, n, V0, V1, D0, D1, P0, P1, hcs, _, hl, hm, hmm, _, hx⟩
  · simp at hcs
    obtain ⟨rfl, rfl, rfl⟩ := hcs
    exact ⟨[], .inl ⟨rfl, rfl, rfl, rfl⟩⟩
  · simp at hcs
    obtain ⟨rfl, rfl, rfl⟩ := hcs
    simp at hmm
    subst hmm
    have each : ∀ i, i < m → ∃ q : Int × Int, V0 i = .int k0 q.1 ∧ V1 i = .int k1 q.2 ∧ (Lit.int k0 q.1).wf = true ∧ (Lit.int k1 q.2).wf = true := by
      intro i hi
      obtain ⟨_, _, g0, g1⟩ := hx i hi
      obtain ⟨n0, e0, _, w0⟩ := DataW.trod_int u0 g0
      obtain ⟨n1, e1, _, w1⟩ := DataW.trod_int u1 g1
      simp at e0 e1
      exact ⟨(n0, n1), e0, e1, w0, w1⟩
    let f : Nat → Int × Int := fun i => if h : i < m then (each i h).choose else (0, 0)
    have hf : ∀ i, i < m → V0 i = .int k0 (f i).1 ∧ V1 i = .int k1 (f i).2 ∧ (Lit.int k0 (f i).1).wf = true ∧ (Lit.int k1 (f i).2).wf = true := by
      intro i hi
      have := (each i hi).choose_spec
      simp only [f, dif_pos hi]
      exact this
    refine ⟨(List.range m).map f, .inr ⟨b, rfl, hl, hm, by simp, fun i q hq => ?_, fun q hq => ?_⟩⟩
    · rw [List.getElem?_map] at hq
      by_cases hi : i < m
      · rw [List.getElem?_range hi] at hq
        simp at hq
        subst hq
        obtain ⟨g0, g1, _⟩ := hx i hi
        rw [(hf i hi).1] at g0
        rw [(hf i hi).2.1] at g1
        exact ⟨g0, g1⟩
      · rw [List.getElem?_eq_none (by simp; omega)] at hq
        cases hq
    · obtain ⟨i, hi, rfl⟩ := List.mem_map.1 hq
      exact (hf i (List.mem_range.1 hi)).2.2
/-- it is no longer than its weight allows -/
theorem sized_row2 {t e : TypeId} {f0 f1 : Field} {a : Option Addr} {len cap : Nat} {d : DataW H} {ps : List MemPlace} {ts : List TypeId} {ds : List (DataW H)} {j : Nat}
    (hsz : (DataW.weightsEach P ts ds).all (· ≤ reachBytes) = true) (ht : ts[j]? = some t) (hd : ds[j]? = some d) (hu : P.underlying t = some (.slice e)) (he : P.underlying e = some (.struct #[f0, f1]))
    (ce : P.cellsOf e = 2) (o0 : f0.offset = 0) (o1 : f1.offset = 1) (c0 : P.cellsOf f0.type = 1) (c1 : P.cellsOf f1.type = 1) {B : Nat} (hB : P.bytesOf e = B)
    (h : DataW.Trod enc P W base spare held t (.slice a len cap) d ps) : len * B ≤ 140737488351232 := by
  obtain ⟨fuel, hf⟩ := h
  rcases Go.Deep.open_slice_pairs hu he ce o0 o1 c0 c1 hf with ⟨hcs, _⟩ | ⟨b, l, c, m, n, V0, V1, D0, D1, P0, P1, hcs, _, hl, hm, hmm, hx, _⟩
  · simp [Value.cells] at hcs
    obtain ⟨rfl, rfl, rfl⟩ := hcs
    simp
  · simp [Value.cells] at hcs
    obtain ⟨rfl, rfl, rfl⟩ := hcs
    obtain ⟨hx, _⟩ := Prod.mk.inj hx
    subst hx
    have z := sized_slice hsz ht hd hu
    rw [hB] at z
    simp only [List.length_map, List.length_range] at z
    exact Nat.le_trans (Nat.mul_le_mul_right _ (Nat.le_add_right _ _)) z
end
end Go.Proofs.YtdpnpipninggeaaGreatDoor
