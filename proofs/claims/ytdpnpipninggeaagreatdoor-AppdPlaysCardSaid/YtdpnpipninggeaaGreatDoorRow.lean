/- From what the logic says of a law to what its row asks. -/
import Derived.Test.YtdpnpipninggeaaGreatDoorApp
import Derived.SizedLaws
import Derived.ChangeSlices
import Derived.Below
set_option linter.unusedSimpArgs false
set_option linter.unusedVariables false
namespace Go.Proofs.YtdpnpipninggeaaGreatDoor
open Go Go.ChangeShapes Go.WideShapes Go.RowKit

def heapOf (w : World) : Hp := fun b => w.heap[b]?
theorem St.below {ρ : Hp} {w w' : World} {h' : Hp} (s : St ρ w nohp w' h') : Below w.heap.size w w' :=
  ⟨s.os, s.tape, s.output, s.size, fun k hk => s.rest k hk rfl⟩
theorem calls_of_fn {P : Program} {f : FuncId} {args : Array Value} {w : World} {Q : Value → HP} (h : Fn P f args (heapOf w) [] Q) (hq : ∀ r h, Q r h → r = .bool true) :
    Calls P f args w fun e w' => e = .returned (.bool true) ∧ Below w.heap.size w w' := by
  refine (h.2 w nohp (fun b o hb => by cases hb) (fun b o hb => hb) (dj_nohp _) emp_nohp).mono ?_
  rintro e w' ⟨r, h', rfl, s, q⟩
  rw [hq _ _ q]
  exact ⟨rfl, s.below⟩

def IsRow (k : IntKind) (w : World) (a : Option Addr) (len cap : Nat) (zs : List Int) : Prop :=
  (a = none ∧ len = 0 ∧ cap = 0 ∧ zs = []) ∨
  ∃ x, a = some x ∧ len ≤ cap ∧ cap ≤ maxLen ∧ zs.length = cap ∧ (∀ i, i < zs.length → w.cell? (x.add i) = some (.int k (zs.getD i 0))) ∧ ∀ n ∈ zs, (Lit.int k n).wf = true

theorem ros_of_cells {w : World} {x : Addr} {len cap sz : Nat} {cs : List Value} (hl : len ≤ cap) (hm : cap ≤ maxLen) (hn : cs.length = len * sz) (h0 : len = 0 → cap = 0 ∨ x.spot = none ∧ ∃ v, w.cell? x = some v) (hs : 0 < sz) (hc : ∀ i v, cs[i]? = some v → w.cell? (x.add i) = some v) :
    ROs (heapOf w) sz (.slice (some x) len cap) cs := by
  by_cases hz : len = 0
  · subst hz
    have hcs : cs = [] := List.eq_nil_of_length_eq_zero (by simpa using hn)
    subst hcs
    rcases h0 rfl with h | ⟨h, v, hv⟩
    · subst h; exact .inr (.inl ⟨x, rfl, rfl⟩)
    · obtain ⟨b, off, spot⟩ := x
      simp at h; subst h
      unfold World.cell? at hv
      cases hb : w.heap[b]? with
      | none => simp [hb] at hv
      | some o =>
        cases o <;> simp [hb] at hv
        rename_i buf T fr
        have hlt : off < buf.size := (Array.getElem?_eq_some_iff.1 hv).1
        exact .inr (.inr ⟨b, off, 0, cap, buf, T, fr, rfl, hb, by simp, by omega, hl, hm, by simp⟩)
  · have hpos : 0 < cs.length := by rw [hn]; exact Nat.mul_pos (by omega) hs
    have hx0 := hc 0 _ (List.getElem?_eq_getElem hpos)
    rw [Addr.add_zero'] at hx0
    obtain ⟨b, off, spot⟩ := x
    unfold World.cell? at hx0
    cases hb : w.heap[b]? with
    | none => simp [hb] at hx0
    | some o =>
      cases o <;> simp [hb] at hx0
      rename_i buf T fr
      obtain ⟨hsp, _⟩ := hx0
      subst hsp
      have each : ∀ i v, cs[i]? = some v → buf[off + i]? = some v := by
        intro i v hv
        have := hc i v hv
        rw [Addr.add_lit, World.cell?] at this
        simpa [hb] using this
      have hsize : off + cs.length ≤ buf.size := by
        have hlast : cs[cs.length - 1]? = some (cs[cs.length - 1]'(by omega)) := List.getElem?_eq_getElem (by omega)
        have := each _ _ hlast
        have := (Array.getElem?_eq_some_iff.1 this).1
        omega
      refine .inr (.inr ⟨b, off, len, cap, buf, T, fr, rfl, hb, hn, by rw [← hn]; exact hsize, hl, hm, ?_⟩)
      rw [← hn]
      apply List.ext_getElem?
      intro i
      rw [List.getElem?_take]
      by_cases hi : i < cs.length
      · rw [if_pos hi, List.getElem?_drop, List.getElem?_eq_getElem hi]
        have := each i _ (List.getElem?_eq_getElem hi)
        simpa using this
      · rw [if_neg hi, List.getElem?_eq_none (by omega)]

theorem ros_of_row {k : IntKind} {w : World} {a : Option Addr} {len cap : Nat} {zs : List Int} (h : IsRow k w a len cap zs) :
    ROs (heapOf w) 1 (.slice a len cap) ((zs.take len).map (Value.int k)) := by
  rcases h with ⟨rfl, rfl, rfl, rfl⟩ | ⟨x, rfl, hl, hm, hz, hc, _⟩
  · exact .inl ⟨rfl, rfl⟩
  · refine ros_of_cells hl hm (by simp; omega) ?_ (by omega) ?_
    · intro h0
      by_cases hcap : cap = 0
      · exact .inl hcap
      · right
        have h := hc 0 (by omega)
        rw [Addr.add_zero'] at h
        refine ⟨?_, _, h⟩
        cases hs : x.spot with
        | none => rfl
        | some s =>
          unfold World.cell? at h
          cases hb : w.heap[x.block]? with
          | none => simp [hb] at h
          | some o => cases o <;> simp [hb, hs] at h
    · intro i v hv
      rw [List.getElem?_map, List.getElem?_take] at hv
      split at hv
      · rename_i hi
        have hlt : i < zs.length := by omega
        rw [List.getElem?_eq_getElem hlt] at hv
        simp at hv
        subst hv
        have := hc i hlt
        simpa [List.getD, List.getElem?_eq_getElem hlt] using this
      · simp at hv
theorem wf_of_row {k : IntKind} {w : World} {a : Option Addr} {len cap : Nat} {zs : List Int} (h : IsRow k w a len cap zs) : ∀ n ∈ zs.take len, (Lit.int k n).wf = true := by
  intro n hn
  rcases h with ⟨rfl, rfl, rfl, rfl⟩ | ⟨x, rfl, _, _, _, _, hw⟩
  · simp at hn
  · exact hw n (List.mem_of_mem_take hn)
theorem len_of_row {k : IntKind} {w : World} {a : Option Addr} {len cap : Nat} {zs : List Int} (h : IsRow k w a len cap zs) : (zs.take len).length = len := by
  rcases h with ⟨rfl, rfl, rfl, rfl⟩ | ⟨x, rfl, hl, _, hz, _, _⟩
  · rfl
  · simp; omega

/-- a row's slice of whole numbers is no longer than its weight allows -/
theorem sized_row {H : Type} {enc : TypeId × Value → H} {P : Program} {W : World} {base : Nat} {spare : Nat → Bool} {held : Bool} {t e : TypeId} {k : IntKind} {a : Option Addr} {len cap : Nat} {d : DataW H} {ps : List MemPlace} {ts : List TypeId} {ds : List (DataW H)} {j : Nat}
    (hsz : (DataW.weightsEach P ts ds).all (· ≤ reachBytes) = true) (ht : ts[j]? = some t) (hd : ds[j]? = some d) (hu : P.underlying t = some (.slice e)) (he : P.underlying e = some (.int k)) (hc : P.cellsOf e = 1) {B : Nat} (hB : P.bytesOf e = B)
    (h : DataW.Trod enc P W base spare held t (.slice a len cap) d ps) : len * B ≤ 140737488351232 := by
  obtain ⟨fuel, hf⟩ := h
  rcases open_ints hu he hc hf with ⟨hcs, _⟩ | ⟨x, l, c, zs, hcs, _, hl, _, hz, hx, _, _⟩
  · simp [Value.cells] at hcs
    obtain ⟨rfl, rfl, rfl⟩ := hcs
    simp
  · simp [Value.cells] at hcs
    obtain ⟨rfl, rfl, rfl⟩ := hcs
    obtain ⟨hx, _⟩ := Prod.mk.inj hx
    subst hx
    have z := sized_slice hsz ht hd hu
    rw [hB] at z
    have hl2 : len ≤ zs.length := by
      rw [hz]
      split
      · exact hl
      · exact Nat.le_refl _
    have h1 : (lits (H := H) k (zs.take len)).length + (lits (H := H) k (zs.drop len)).length = zs.length := by
      simp [lits]; omega
    rw [h1] at z
    exact Nat.le_trans (Nat.mul_le_mul_right _ hl2) z

/- what a well-formed number is -/
theorem wf_u64 {n : Int} (h : (Lit.int .u64 n).wf = true) : 0 ≤ n ∧ n < 18446744073709551616 := by
  simp [Lit.wf, IntKind.min, IntKind.max, IntKind.signed, IntKind.bits] at h; omega
theorem wf_i64 {n : Int} (h : (Lit.int .i64 n).wf = true) : i64ok n := by
  simp [Lit.wf, IntKind.min, IntKind.max, IntKind.signed, IntKind.bits] at h; unfold i64ok; omega
end Go.Proofs.YtdpnpipninggeaaGreatDoor
