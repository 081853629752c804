/- Samples that come, and the bytes of their chunk. In plain Lean. -/
import Derived.Test.YtdpnpipninggeaaGreatDoorBitsLaw
import Derived.Test.YtdpnpipninggeaaGreatDoorMdlLaw
import Derived.Test.YtdpnpipninggeaaGreatDoorZig
set_option linter.unusedSimpArgs false
set_option linter.unusedVariables false
set_option maxRecDepth 20000
namespace Go.Proofs.YtdpnpipninggeaaGreatDoor
open Go
def tms (l : List Smp) : List Int := l.map (·.1)
def vls (l : List Smp) : List Nat := l.map fun s => s.2.toNat
def SmOK (l : List Smp) : Prop := ∀ s ∈ l, i64ok s.1 ∧ 0 ≤ s.2 ∧ s.2 < 18446744073709551616
def risB (l : List Smp) : Bool := decide (l.Pairwise fun a b => a.1 < b.1)
def tB (l : List Smp) : List Nat := pack (encTs (tms l))
def xB (l : List Smp) : List Nat := pack (encX (vls l))
def sB (l : List Smp) : List Nat := vputF 9 (tB l).length ++ tB l ++ xB l
def frsT (l : List Smp) : Int := (l.getD 0 (0, 0)).1
def lstT (l : List Smp) : Int := (l.getD (l.length - 1) (0, 0)).1
def hB (l : List Smp) : List Nat := ((1 :: vputF 9 l.length) ++ vputF 9 (zigF (frsT l))) ++ vputF 9 (zigF (lstT l)) ++ sB l
def be4 (c : Nat) : List Nat := [c / 16777216 % 256, c / 65536 % 256, c / 256 % 256, c % 256]
def chk (l : List Smp) : List Nat := hB l ++ be4 (sumR (hB l))
def mkOK (l : List Smp) : Bool := risB l && decide (l ≠ [])
def mkC (l : List Smp) : List Nat := if mkOK l = true then chk l else []
theorem tms_len (l : List Smp) : (tms l).length = l.length := by simp [tms]
theorem vls_len (l : List Smp) : (vls l).length = l.length := by simp [vls]
theorem SmOK.t {l : List Smp} (h : SmOK l) : ∀ x ∈ tms l, -9223372036854775808 ≤ x ∧ x ≤ 9223372036854775807 := by
  intro x hx
  obtain ⟨s, hs, rfl⟩ := List.mem_map.1 hx
  exact (h s hs).1
theorem SmOK.v {l : List Smp} (h : SmOK l) : ∀ x ∈ vls l, x < 18446744073709551616 := by
  intro x hx
  obtain ⟨s, hs, rfl⟩ := List.mem_map.1 hx
  have := h s hs
  show s.2.toNat < _
  omega
theorem SmOK.nil : SmOK [] := by intro s hs; simp at hs
theorem SmOK.snoc {l : List Smp} {s : Smp} (h : SmOK l) (hs : i64ok s.1 ∧ 0 ≤ s.2 ∧ s.2 < 18446744073709551616) : SmOK (l ++ [s]) := by
  intro x hx
  rcases List.mem_append.1 hx with hx | hx
  · exact h x hx
  · rw [List.mem_singleton.1 hx]; exact hs
theorem tB_lt (l : List Smp) : ∀ x ∈ tB l, x < 256 := pack_lt _ (encTs_bit _)
theorem xB_lt (l : List Smp) : ∀ x ∈ xB l, x < 256 := pack_lt _ (encX_bit _)
theorem tB_len (l : List Smp) : (tB l).length ≤ 9 * l.length + 9 := by
  have := encTs_len (tms l)
  rw [tms_len] at this
  unfold tB
  rw [pack_len]
  omega
theorem xB_len {l : List Smp} (h : SmOK l) : (xB l).length ≤ 10 * l.length + 1 := by
  have := encX_len (vls l) h.v
  rw [vls_len] at this
  unfold xB
  rw [pack_len]
  omega
theorem vp9_lt (u : Nat) (h : u < 18446744073709551616) : ∀ x ∈ vputF 9 u, x < 256 := vput_lt 9 u (Nat.lt_of_lt_of_le h (by decide +kernel))
theorem vput9_len (u : Nat) : 1 ≤ (vputF 9 u).length ∧ (vputF 9 u).length ≤ 10 := vput_len 9 u
theorem app_lt {a b : List Nat} (ha : ∀ x ∈ a, x < 256) (hb : ∀ x ∈ b, x < 256) : ∀ x ∈ a ++ b, x < 256 := by
  intro x hx
  rcases List.mem_append.1 hx with h | h
  · exact ha x h
  · exact hb x h
theorem sB_lt {l : List Smp} (hl : l.length ≤ 65535) : ∀ x ∈ sB l, x < 256 := by
  have := tB_len l
  exact app_lt (app_lt (vp9_lt _ (by omega)) (tB_lt l)) (xB_lt l)
theorem sB_len {l : List Smp} (h : SmOK l) : (sB l).length ≤ 19 * l.length + 20 := by
  have h1 := tB_len l
  have h2 := xB_len h
  have h3 := vput9_len (tB l).length
  unfold sB
  simp only [List.length_append]
  omega
theorem zig9 {n : Int} (h : i64ok n) : ∀ x ∈ vputF 9 (zigF n), x < 256 := vp9_lt _ (zig_lt n h)
theorem i64ok0 : i64ok 0 := by unfold i64ok; omega
theorem at_ok {l : List Smp} (h : SmOK l) (i : Nat) : i64ok (l.getD i (0, 0)).1 := by
  rw [List.getD_eq_getElem?_getD]
  cases hi : l[i]? with
  | none => exact i64ok0
  | some s => exact (h s (List.mem_of_getElem? hi)).1
theorem frs_ok {l : List Smp} (h : SmOK l) : i64ok (frsT l) := at_ok h 0
theorem lst_ok {l : List Smp} (h : SmOK l) : i64ok (lstT l) := at_ok h _
theorem hB_lt {l : List Smp} (h : SmOK l) (hl : l.length ≤ 65535) : ∀ x ∈ hB l, x < 256 := by
  refine app_lt (app_lt (app_lt ?_ (zig9 (frs_ok h))) (zig9 (lst_ok h))) (sB_lt hl)
  intro x hx
  rcases List.mem_cons.1 hx with rfl | hx
  · decide
  · exact vp9_lt _ (by omega) x hx
theorem hB_len {l : List Smp} (h : SmOK l) : (hB l).length ≤ 19 * l.length + 60 := by
  have h0 := sB_len h
  have h1 := vput9_len l.length
  have h2 := vput9_len (zigF (frsT l))
  have h3 := vput9_len (zigF (lstT l))
  unfold hB
  simp only [List.length_append, List.length_cons]
  omega
theorem be4_lt (c : Nat) : ∀ x ∈ be4 c, x < 256 := by
  intro x hx
  unfold be4 at hx
  simp only [List.mem_cons, List.mem_nil_iff, or_false] at hx
  rcases hx with rfl | rfl | rfl | rfl <;> exact Nat.mod_lt _ (by decide)
theorem be4_len (c : Nat) : (be4 c).length = 4 := rfl
theorem chk_lt {l : List Smp} (h : SmOK l) (hl : l.length ≤ 65535) : ∀ x ∈ chk l, x < 256 := app_lt (hB_lt h hl) (be4_lt _)
theorem chk_len {l : List Smp} (h : SmOK l) : (chk l).length ≤ 19 * l.length + 64 := by
  have := hB_len h
  unfold chk
  rw [List.length_append, be4_len]
  omega
/- whether a row rises -/
theorem ris_of {l : List Smp} (h : ∀ (i : Nat) (a b : Smp), l[i]? = some a → l[i + 1]? = some b → a.1 < b.1) : risB l = true := by
  unfold risB
  rw [decide_eq_true_iff, List.pairwise_iff_getElem]
  intro i j hi hj hij
  obtain ⟨k, rfl⟩ : ∃ k, j = i + 1 + k := ⟨j - (i + 1), by omega⟩
  clear hij
  induction k with
  | zero => exact h i _ _ (List.getElem?_eq_getElem hi) (List.getElem?_eq_getElem hj)
  | succ k ih =>
    have h1 := ih (by omega)
    have h2 := h (i + 1 + k) _ _ (List.getElem?_eq_getElem (by omega)) (List.getElem?_eq_getElem hj)
    exact Int.lt_trans h1 h2
theorem ris_not {l : List Smp} {i j : Nat} {a b : Smp} (ha : l[i]? = some a) (hb : l[j]? = some b) (hij : i < j) (h : b.1 ≤ a.1) : risB l = false := by
  unfold risB
  rw [decide_eq_false_iff_not, List.pairwise_iff_getElem]
  intro hp
  obtain ⟨hi, rfl⟩ := List.getElem?_eq_some_iff.1 ha
  obtain ⟨hj, rfl⟩ := List.getElem?_eq_some_iff.1 hb
  have := hp i j hi hj hij
  omega
theorem ris_lt {l : List Smp} (h : risB l = true) {i j : Nat} {a b : Smp} (ha : l[i]? = some a) (hb : l[j]? = some b) (hij : i < j) : a.1 < b.1 := by
  unfold risB at h
  rw [decide_eq_true_iff, List.pairwise_iff_getElem] at h
  obtain ⟨hi, rfl⟩ := List.getElem?_eq_some_iff.1 ha
  obtain ⟨hj, rfl⟩ := List.getElem?_eq_some_iff.1 hb
  exact h i j hi hj hij
theorem ris_snoc {l : List Smp} {s : Smp} (h : risB l = true) (hs : ∀ a ∈ l, a.1 < s.1) : risB (l ++ [s]) = true := by
  unfold risB at h ⊢
  rw [decide_eq_true_iff] at h ⊢
  rw [List.pairwise_append]
  refine ⟨h, by simp, fun a ha b hb => ?_⟩
  rw [List.mem_singleton.1 hb]
  exact hs a ha
theorem frs_le_lst {l : List Smp} (h : risB l = true) : frsT l ≤ lstT l := by
  unfold frsT lstT
  cases l with
  | nil => exact Int.le_refl _
  | cons x l =>
    cases l with
    | nil => exact Int.le_refl _
    | cons y l =>
      have := ris_lt (l := x :: y :: l) h (i := 0) (j := (y :: l).length) (a := x) (b := (x :: y :: l)[(y :: l).length]) rfl (List.getElem?_eq_getElem (by simp)) (by simp)
      rw [show (x :: y :: l).length - 1 = (y :: l).length by simp]
      rw [List.getD_eq_getElem?_getD, List.getD_eq_getElem?_getD, List.getElem?_eq_getElem (i := (y :: l).length) (by simp)]
      simp only [List.getElem?_cons_zero, Option.getD_some]
      omega
/- what a chunk's bytes are read as -/
theorem vg9 (u : Nat) (rest : List Nat) (h : u < 18446744073709551616) : vgetF 0 0 (vputF 9 u ++ rest) = (u, (vputF 9 u).length) := by
  have := vget_put 9 0 u 0 rest rfl (by simpa using h) (by omega)
  simpa using this
theorem chk_app (l : List Smp) : chk l = 1 :: (vputF 9 l.length ++ (vputF 9 (zigF (frsT l)) ++ (vputF 9 (zigF (lstT l)) ++ (sB l ++ be4 (sumR (hB l)))))) := by
  unfold chk hB
  simp only [List.append_assoc, List.cons_append]
def n1 (l : List Smp) : Nat := (vputF 9 l.length).length
def n2 (l : List Smp) : Nat := (vputF 9 (zigF (frsT l))).length
def n3 (l : List Smp) : Nat := (vputF 9 (zigF (lstT l))).length
theorem n_bnd (l : List Smp) : 1 ≤ n1 l ∧ n1 l ≤ 10 ∧ 1 ≤ n2 l ∧ n2 l ≤ 10 ∧ 1 ≤ n3 l ∧ n3 l ≤ 10 := ⟨(vput9_len _).1, (vput9_len _).2, (vput9_len _).1, (vput9_len _).2, (vput9_len _).1, (vput9_len _).2⟩
theorem chk_len' (l : List Smp) : (chk l).length = 1 + n1 l + n2 l + n3 l + (sB l).length + 4 := by
  rw [chk_app]
  simp only [List.length_cons, List.length_append, be4_len, n1, n2, n3]
  omega
theorem chk_get0 (l : List Smp) : (chk l)[0]? = some 1 := by rw [chk_app]; rfl
theorem drop_app {α : Type} {a b : List α} {n : Nat} (h : n = a.length) : (a ++ b).drop n = b := by subst h; exact List.drop_left
theorem take_app {α : Type} {a b : List α} {n : Nat} (h : n = a.length) : (a ++ b).take n = a := by subst h; exact List.take_left
theorem chk_d1 (l : List Smp) : (chk l).drop 1 = vputF 9 l.length ++ (vputF 9 (zigF (frsT l)) ++ (vputF 9 (zigF (lstT l)) ++ (sB l ++ be4 (sumR (hB l))))) := by rw [chk_app]; rfl
theorem chk_d2 (l : List Smp) : (chk l).drop (1 + n1 l) = vputF 9 (zigF (frsT l)) ++ (vputF 9 (zigF (lstT l)) ++ (sB l ++ be4 (sumR (hB l)))) := by
  rw [← List.drop_drop, chk_d1]; exact drop_app rfl
theorem chk_d3 (l : List Smp) : (chk l).drop (1 + n1 l + n2 l) = vputF 9 (zigF (lstT l)) ++ (sB l ++ be4 (sumR (hB l))) := by
  rw [← List.drop_drop, chk_d2]; exact drop_app rfl
theorem chk_d4 (l : List Smp) : (chk l).drop (1 + n1 l + n2 l + n3 l) = sB l ++ be4 (sumR (hB l)) := by
  rw [← List.drop_drop, chk_d3]; exact drop_app rfl
theorem chk_mid (l : List Smp) : ((chk l).drop (1 + n1 l + n2 l + n3 l)).take (sB l).length = sB l := by rw [chk_d4]; exact take_app rfl
theorem chk_g1 {l : List Smp} (hl : l.length ≤ 65535) : vgetF 0 0 ((chk l).drop 1) = (l.length, n1 l) := by rw [chk_d1]; exact vg9 _ _ (by omega)
theorem chk_g2 {l : List Smp} (h : SmOK l) : vgetF 0 0 ((chk l).drop (1 + n1 l)) = (zigF (frsT l), n2 l) := by rw [chk_d2]; exact vg9 _ _ (zig_lt _ (frs_ok h))
theorem chk_g3 {l : List Smp} (h : SmOK l) : vgetF 0 0 ((chk l).drop (1 + n1 l + n2 l)) = (zigF (lstT l), n3 l) := by rw [chk_d3]; exact vg9 _ _ (zig_lt _ (lst_ok h))
def na (l : List Smp) : Nat := (vputF 9 (tB l).length).length
theorem na_bnd (l : List Smp) : 1 ≤ na l ∧ na l ≤ 10 := vput9_len _
theorem sB_app (l : List Smp) : sB l = vputF 9 (tB l).length ++ (tB l ++ xB l) := by unfold sB; simp only [List.append_assoc]
theorem sB_len' (l : List Smp) : (sB l).length = na l + (tB l).length + (xB l).length := by rw [sB_app]; simp only [List.length_append, na]; omega
theorem sB_get {l : List Smp} (hl : l.length ≤ 65535) : vgetF 0 0 (sB l) = ((tB l).length, na l) := by
  have := tB_len l
  rw [sB_app]; exact vg9 _ _ (by omega)
theorem sB_t (l : List Smp) : ((sB l).drop (na l)).take (tB l).length = tB l := by
  unfold na; rw [sB_app, drop_app (a := vputF 9 (tB l).length) rfl]; exact take_app rfl
theorem sB_x (l : List Smp) : (sB l).drop (na l + (tB l).length) = xB l := by
  unfold na; rw [← List.drop_drop, sB_app, drop_app (a := vputF 9 (tB l).length) rfl]; exact drop_app rfl
theorem dec_t {l : List Smp} (h : SmOK l) (hl : l.length ≤ 65535) : decTs (tB l) ⟨0, false⟩ (l.length : Int) = some (tms l, ⟨(encTs (tms l)).length, false⟩) := by
  have := decTs_put (tms l) [] bok_nil h.t (by rw [tms_len]; exact hl)
  rw [tms_len, List.append_nil] at this
  exact this
theorem dec_x {l : List Smp} (h : SmOK l) (hl : l.length ≤ 65535) : decX (xB l) ⟨0, false⟩ (l.length : Int) = some (vls l, ⟨(encX (vls l)).length, false⟩) := by
  have := decX_encX (v := vls l) (ys := []) (n := (l.length : Int)) (by rw [vls_len]; unfold heldM; omega) h.v bok_nil
  rw [List.append_nil] at this
  exact this
theorem take_snoc {α : Type} {l : List α} {k : Nat} {x : α} (h : l[k]? = some x) : l.take k ++ [x] = l.take (k + 1) := by rw [List.take_add_one, h]; rfl
theorem tms_snoc (l : List Smp) (s : Smp) : tms (l ++ [s]) = tms l ++ [s.1] := by unfold tms; rw [List.map_append]; rfl
def vlI (l : List Smp) : List Int := l.map (·.2)
theorem vlI_len (l : List Smp) : (vlI l).length = l.length := by simp [vlI]
theorem tms_row {l : List Smp} {i : Nat} {s : Smp} (h : l[i]? = some s) : tms (l.take i) ++ [s.1] = tms (l.take (i + 1)) := by
  rw [← take_snoc h, tms_snoc]
theorem vlI_row {l : List Smp} {i : Nat} {s : Smp} (h : l[i]? = some s) : vlI (l.take i) ++ [s.2] = vlI (l.take (i + 1)) := by
  rw [← take_snoc h]; unfold vlI; rw [List.map_append]; rfl
/- an open list -/
structure Opn where
  any : Bool
  last : Int
  list : List Smp
def addO (o : Opn) (s : Smp) : Opn × Int := if o.any = true ∧ s.1 ≤ o.last then (o, 1) else (⟨true, s.1, o.list ++ [s]⟩, 0)
def clsO (o : Opn) : Opn := ⟨o.any, o.last, []⟩
/-- what is kept: a row that rises, the last of it known -/
def OpI (o : Opn) : Prop := SmOK o.list ∧ risB o.list = true ∧ (o.any = false → o.list = []) ∧ (∀ s ∈ o.list, s.1 ≤ o.last) ∧ i64ok o.last
theorem OpI.zero : OpI ⟨false, 0, []⟩ := ⟨SmOK.nil, rfl, fun _ => rfl, fun s hs => by simp at hs, i64ok0⟩
theorem OpI.add {o : Opn} (h : OpI o) {s : Smp} (hs : i64ok s.1 ∧ 0 ≤ s.2 ∧ s.2 < 18446744073709551616) : OpI (addO o s).1 := by
  unfold addO
  split
  · exact h
  · rename_i hc
    obtain ⟨h1, h2, h3, h4, h5⟩ := h
    have hb : ∀ a ∈ o.list, a.1 < s.1 := by
      intro a ha
      have := h4 a ha
      cases hany : o.any with
      | false => rw [h3 hany] at ha; simp at ha
      | true =>
        have : ¬ s.1 ≤ o.last := fun hh => hc ⟨hany, hh⟩
        omega
    refine ⟨h1.snoc hs, ris_snoc h2 hb, (by simp), fun a ha => ?_, hs.1⟩
    rcases List.mem_append.1 ha with ha | ha
    · have := hb a ha
      show a.1 ≤ s.1
      omega
    · rw [List.mem_singleton.1 ha]; exact Int.le_refl _
theorem OpI.cls {o : Opn} (h : OpI o) : OpI (clsO o) := ⟨SmOK.nil, rfl, fun _ => rfl, fun s hs => by simp [clsO] at hs, h.2.2.2.2⟩
end Go.Proofs.YtdpnpipninggeaaGreatDoor
