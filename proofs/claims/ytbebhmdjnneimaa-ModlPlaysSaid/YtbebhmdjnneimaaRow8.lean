/- Rows over slices of ops (structs of eight numbers). -/
import Derived.Test.YtbebhmdjnneimaaRow
import Derived.Test.YtbebhmdjnneimaaMdlRo
import Derived.Deep.SlicePairs
set_option linter.unusedSimpArgs false
set_option linter.unusedVariables false
namespace Go.Proofs.Ytbebhmdjnneimaa
open Go Go.ChangeShapes Go.WideShapes Go.RowKit
def OpWf (q : MOp) : Prop := (Lit.int .i64 q.kind).wf = true ∧ (Lit.int .i64 q.series).wf = true ∧ (Lit.int .i64 q.iter).wf = true ∧ (Lit.int .i64 q.t).wf = true ∧ (Lit.int .u64 q.v).wf = true ∧ (Lit.int .i64 q.lo).wf = true ∧ (Lit.int .i64 q.hi).wf = true ∧ (Lit.int .i64 q.n).wf = true
theorem op_len (q : MOp) : (opC q).length = 8 := rfl
def IsRow8 (w : World) (a : Option Addr) (len cap : Nat) (zs : List MOp) : Prop :=
  (a = none ∧ len = 0 ∧ cap = 0 ∧ zs = []) ∨
  ∃ x, a = some x ∧ len ≤ cap ∧ cap ≤ maxLen ∧ zs.length = cap ∧ (∀ i q, zs[i]? = some q → ∀ j v, (opC q)[j]? = some v → w.cell? (x.add (i * 8 + j)) = some v) ∧ ∀ q ∈ zs, OpWf q
theorem ops_len (l : List MOp) : (l.flatMap opC).length = l.length * 8 := flat_len op_len l
theorem ops_get : ∀ (l : List MOp) (j : Nat) (v : Value), (l.flatMap opC)[j]? = some v → ∃ q, l[j / 8]? = some q ∧ (opC q)[j % 8]? = some v
  | [], j, v, h => by simp at h
  | q :: l, j, v, h => by
    rw [List.flatMap_cons] at h
    by_cases hj : j < 8
    · rw [List.getElem?_append_left (by rw [op_len]; exact hj)] at h
      exact ⟨q, by rw [show j / 8 = 0 by omega]; rfl, by rw [show j % 8 = j by omega]; exact h⟩
    · rw [List.getElem?_append_right (by rw [op_len]; omega), op_len] at h
      obtain ⟨q', h1, h2⟩ := ops_get l (j - 8) v h
      exact ⟨q', by rw [show j / 8 = (j - 8) / 8 + 1 by omega]; exact h1, by rw [show j % 8 = (j - 8) % 8 by omega]; exact h2⟩
theorem ros_of_row8 {w : World} {a : Option Addr} {len cap : Nat} {zs : List MOp} (h : IsRow8 w a len cap zs) :
    ROs (heapOf w) 8 (.slice a len cap) ((zs.take len).flatMap opC) := by
  rcases h with ⟨rfl, rfl, rfl, rfl⟩ | ⟨x, rfl, hl, hm, hz, hc, _⟩
  · exact .inl ⟨rfl, rfl⟩
  · refine ros_of_cells hl hm (by rw [ops_len]; simp; omega) ?_ (by omega) ?_
    · intro h0
      by_cases hcap : cap = 0
      · exact .inl hcap
      · right
        have h := hc 0 _ (List.getElem?_eq_getElem (by omega)) 0 _ rfl
        rw [Nat.zero_mul, Nat.zero_add, Addr.add_zero'] at h
        refine ⟨?_, _, h⟩
        cases hs : x.spot with
        | none => rfl
        | some s =>
          unfold World.cell? at h
          cases hb : w.heap[x.block]? with
          | none => simp [hb] at h
          | some o => cases o <;> simp [hb, hs] at h
    · intro i v hv
      obtain ⟨q, hq, hd⟩ := ops_get _ _ _ hv
      rw [List.getElem?_take] at hq
      split at hq
      · have := hc _ q hq _ v hd
        rw [show i / 8 * 8 + i % 8 = i by omega] at this
        exact this
      · cases hq
theorem wf_of_row8 {w : World} {a : Option Addr} {len cap : Nat} {zs : List MOp} (h : IsRow8 w a len cap zs) : ∀ q ∈ zs.take len, OpWf q := by
  intro n hn
  rcases h with ⟨rfl, rfl, rfl, rfl⟩ | ⟨x, rfl, _, _, _, _, hw⟩
  · simp at hn
  · exact hw n (List.mem_of_mem_take hn)
theorem len_of_row8 {w : World} {a : Option Addr} {len cap : Nat} {zs : List MOp} (h : IsRow8 w a len cap zs) : (zs.take len).length = len := by
  rcases h with ⟨rfl, rfl, rfl, rfl⟩ | ⟨x, rfl, hl, _, hz, _, _⟩
  · rfl
  · simp; omega
section
variable {H : Type} {enc : TypeId × Value → H} {P : Program} {W : World} {base : Nat} {spare : Nat → Bool} {held : Bool}
theorem row8_of {t e : TypeId} {f0 f1 f2 f3 f4 f5 f6 f7 : Field} {a : Option Addr} {len cap : Nat} {fuel : Nat} {x : DataW H × List MemPlace} (ht : P.underlying t = some (.slice e)) (he : P.underlying e = some (.struct #[f0, f1, f2, f3, f4, f5, f6, f7]))
    (ce : P.cellsOf e = 8) (o0 : f0.offset = 0) (o1 : f1.offset = 1) (o2 : f2.offset = 2) (o3 : f3.offset = 3) (o4 : f4.offset = 4) (o5 : f5.offset = 5) (o6 : f6.offset = 6) (o7 : f7.offset = 7)
    (c0 : P.cellsOf f0.type = 1) (c1 : P.cellsOf f1.type = 1) (c2 : P.cellsOf f2.type = 1) (c3 : P.cellsOf f3.type = 1) (c4 : P.cellsOf f4.type = 1) (c5 : P.cellsOf f5.type = 1) (c6 : P.cellsOf f6.type = 1) (c7 : P.cellsOf f7.type = 1)
    (u0 : P.underlying f0.type = some (.int .i64)) (u1 : P.underlying f1.type = some (.int .i64)) (u2 : P.underlying f2.type = some (.int .i64)) (u3 : P.underlying f3.type = some (.int .i64)) (u4 : P.underlying f4.type = some (.int .u64)) (u5 : P.underlying f5.type = some (.int .i64)) (u6 : P.underlying f6.type = some (.int .i64)) (u7 : P.underlying f7.type = some (.int .i64))
    (h : DataW.trod enc P W base (fun _ => true) held fuel t [.slice a len cap] = some x) : ∃ zs, IsRow8 W a len cap zs := by
  rcases Go.Deep.open_slice ht h with ⟨hcs, _⟩ | ⟨b, l, c, m, n, D, Pl, hcs, _, hl, hm, hmm, _, hx⟩
  · simp at hcs
    obtain ⟨rfl, rfl, rfl⟩ := hcs
    exact ⟨[], .inl ⟨rfl, rfl, rfl, rfl⟩⟩
  · simp at hcs
    obtain ⟨rfl, rfl, rfl⟩ := hcs
    simp at hmm
    subst hmm
    have each : ∀ i, i < m → ∃ q : MOp, (∀ j v, (opC q)[j]? = some v → W.cell? (b.add (i * 8 + j)) = some v) ∧ OpWf q := by
      intro i hi
      obtain ⟨cs', h1, h2⟩ := hx i hi
      rw [ce] at h1
      obtain ⟨_, hlen, hcell⟩ := World.cells?_some h1
      obtain ⟨xs, k, hk, hxy, _, hxl, hf⟩ := DataW.trod_struct he h2
      match xs, hxl, cs', hlen with
      | [y0, y1, y2, y3, y4, y5, y6, y7], _, [v0, v1, v2, v3, v4, v5, v6, v7], _ =>
        have g0 := hf 0 f0 rfl
        have g1 := hf 1 f1 rfl
        have g2 := hf 2 f2 rfl
        have g3 := hf 3 f3 rfl
        have g4 := hf 4 f4 rfl
        have g5 := hf 5 f5 rfl
        have g6 := hf 6 f6 rfl
        have g7 := hf 7 f7 rfl
        simp [o0, o1, o2, o3, o4, o5, o6, o7, c0, c1, c2, c3, c4, c5, c6, c7] at g0 g1 g2 g3 g4 g5 g6 g7
        obtain ⟨n0, e0, _, w0⟩ := DataW.trod_int u0 g0
        obtain ⟨n1, e1, _, w1⟩ := DataW.trod_int u1 g1
        obtain ⟨n2, e2, _, w2⟩ := DataW.trod_int u2 g2
        obtain ⟨n3, e3, _, w3⟩ := DataW.trod_int u3 g3
        obtain ⟨n4, e4, _, w4⟩ := DataW.trod_int u4 g4
        obtain ⟨n5, e5, _, w5⟩ := DataW.trod_int u5 g5
        obtain ⟨n6, e6, _, w6⟩ := DataW.trod_int u6 g6
        obtain ⟨n7, e7, _, w7⟩ := DataW.trod_int u7 g7
        simp at e0 e1 e2 e3 e4 e5 e6 e7
        subst e0 e1 e2 e3 e4 e5 e6 e7
        refine ⟨⟨n0, n1, n2, n3, n4, n5, n6, n7⟩, fun j v hv => ?_, w0, w1, w2, w3, w4, w5, w6, w7⟩
        have hj : j < 8 := (List.getElem?_eq_some_iff.1 hv).1
        have h := hcell j (by first | omega | simpa using hj)
        rw [Go.Deep.add_add] at h
        rw [h]
        exact hv
    let f : Nat → MOp := fun i => if h : i < m then (each i h).choose else ⟨0, 0, 0, 0, 0, 0, 0, 0⟩
    have hf : ∀ i, i < m → (∀ j v, (opC (f i))[j]? = some v → W.cell? (b.add (i * 8 + j)) = some v) ∧ OpWf (f i) := by
      intro i hi
      have := (each i hi).choose_spec
      simp only [f, dif_pos hi]
      exact this
    refine ⟨(List.range m).map f, .inr ⟨b, rfl, hl, hm, by simp, fun i q hq => ?_, fun q hq => ?_⟩⟩
    · rw [List.getElem?_map] at hq
      by_cases hi : i < m
      · rw [List.getElem?_range hi] at hq
        simp at hq
        subst hq
        exact (hf i hi).1
      · rw [List.getElem?_eq_none (by simp; omega)] at hq
        cases hq
    · obtain ⟨i, hi, rfl⟩ := List.mem_map.1 hq
      exact (hf i (List.mem_range.1 hi)).2
theorem sized_row8 {t e : TypeId} {a : Option Addr} {len cap : Nat} {d : DataW H} {ps : List MemPlace} {ts : List TypeId} {ds : List (DataW H)} {j : Nat}
    (hsz : (DataW.weightsEach P ts ds).all (· ≤ reachBytes) = true) (ht : ts[j]? = some t) (hd : ds[j]? = some d) (hu : P.underlying t = some (.slice e)) {B : Nat} (hB : P.bytesOf e = B)
    (h : DataW.Trod enc P W base spare held t (.slice a len cap) d ps) : len * B ≤ 140737488351232 := by
  obtain ⟨fuel, hf⟩ := h
  rcases Go.Deep.open_slice hu hf with ⟨hcs, _⟩ | ⟨b, l, c, m, n, D, Pl, hcs, _, hl, hm, hmm, hx, _⟩
  · simp [Value.cells] at hcs
    obtain ⟨rfl, rfl, rfl⟩ := hcs
    simp
  · simp [Value.cells] at hcs
    obtain ⟨rfl, rfl, rfl⟩ := hcs
    obtain ⟨hx, _⟩ := Prod.mk.inj hx
    subst hx
    have z := sized_slice hsz ht hd hu
    rw [hB] at z
    simp only [List.length_map, List.length_range] at z
    exact Nat.le_trans (Nat.mul_le_mul_right _ (Nat.le_add_right _ _)) z
end
end Go.Proofs.Ytbebhmdjnneimaa
