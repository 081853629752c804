/- One hand's history, plainly. -/
import Derived.Test.YtbebhmdjnneimaaHistLw2
set_option linter.unusedSimpArgs false
set_option linter.unusedVariables false
namespace Go.Proofs.Ytbebhmdjnneimaa
open Go
def mr (g : Nat → MOp) : Nat → Mdl × List Rst
  | 0 => (⟨[], [], 0⟩, [])
  | i + 1 => ((doM (mr g i).1 (g i)).1, (mr g i).2 ++ [(doM (mr g i).1 (g i)).2])
theorem mr_succ (g : Nat → MOp) (i : Nat) : mr g (i + 1) = ((doM (mr g i).1 (g i)).1, (mr g i).2 ++ [(doM (mr g i).1 (g i)).2]) := rfl
theorem mr_inv (g : Nat → MOp) : ∀ i, MInv i (mr g i).1
  | 0 => MInv.zero
  | i + 1 => doM_inv (mr_inv g i) _
theorem mr_len (g : Nat → MOp) : ∀ i, (mr g i).2.length = i
  | 0 => rfl
  | i + 1 => by rw [mr, List.length_append, mr_len g i]; rfl
theorem mr_get (g : Nat → MOp) : ∀ n i, i < n → (mr g n).2[i]? = some (doM (mr g i).1 (g i)).2
  | 0, i, h => by omega
  | n + 1, i, h => by
    rw [mr]
    by_cases e : i = n
    · subst e
      rw [List.getElem?_append_right (by rw [mr_len]; exact Nat.le_refl _), mr_len, Nat.sub_self]; rfl
    · rw [List.getElem?_append_left (by rw [mr_len]; omega)]
      exact mr_get g n i (by omega)
theorem rpl_mr {L : List (Evt × Value)} {o : List PK} {g : Nat → MOp} {n : Nat} (h : ∀ i, i < n → ∃ p q e w, o[i]? = some p ∧ cix L L.length p = some q ∧ L[q]? = some (e, w) ∧ e.op = g i) : ∀ j, j ≤ n → rpl L o j = mr g j
  | 0, _ => rfl
  | j + 1, hj => by
    obtain ⟨p, q, e, w, h1, h2, h3, h4⟩ := h j (by omega)
    have ih := rpl_mr h j (by omega)
    simp only [rpl, h1, h2, Option.bind_some, h3, h4, ih, mr]
structure One (g : Nat → MOp) (rs : Nat → Rst) (n : Nat) (L : List (Evt × Value)) (o : List PK) : Prop where
  lL : L.length = 2 * n
  lo : o.length = n
  pt : ∀ i, i < n → o[i]? = some (0, (i : Int))
  ca : ∀ i : Nat, i < n → ∃ w, L[2 * i]? = some (⟨1, 0, (i : Int), g i, ⟨0, 0, []⟩⟩, w)
  re : ∀ i : Nat, i < n → ∃ w, L[2 * i + 1]? = some (⟨2, 0, (i : Int), ⟨0, 0, 0, 0, 0, 0, 0, 0⟩, rs i⟩, w)
theorem One.nil (g : Nat → MOp) (rs : Nat → Rst) : One g rs 0 [] [] := ⟨rfl, rfl, fun i h => by omega, fun i h => by omega, fun i h => by omega⟩
theorem One.snoc {g : Nat → MOp} {rs : Nat → Rst} {n : Nat} {L : List (Evt × Value)} {o : List PK} (h : One g rs n L o) (u w : Value) :
    One g rs (n + 1) (L ++ [(⟨1, 0, (n : Int), g n, ⟨0, 0, []⟩⟩, u), (⟨2, 0, (n : Int), ⟨0, 0, 0, 0, 0, 0, 0, 0⟩, rs n⟩, w)]) (o ++ [(0, (n : Int))]) := by
  refine ⟨by rw [List.length_append, h.lL]; simp; omega, by rw [List.length_append, h.lo]; rfl, fun i hi => ?_, fun i hi => ?_, fun i hi => ?_⟩
  · by_cases e : i = n
    · subst e; rw [List.getElem?_append_right (by rw [h.lo]; exact Nat.le_refl _), h.lo, Nat.sub_self]; rfl
    · rw [List.getElem?_append_left (by rw [h.lo]; omega)]; exact h.pt i (by omega)
  · by_cases e : i = n
    · subst e; rw [List.getElem?_append_right (by rw [h.lL]; exact Nat.le_refl _), h.lL, Nat.sub_self]; exact ⟨u, rfl⟩
    · rw [List.getElem?_append_left (by rw [h.lL]; omega)]; exact h.ca i (by omega)
  · by_cases e : i = n
    · subst e; rw [List.getElem?_append_right (by rw [h.lL]; omega), h.lL, show 2 * i + 1 - 2 * i = 1 by omega]; exact ⟨w, rfl⟩
    · rw [List.getElem?_append_left (by rw [h.lL]; omega)]; exact h.re i (by omega)
theorem One.take {g : Nat → MOp} {rs : Nat → Rst} {n : Nat} {L : List (Evt × Value)} {o : List PK} (h : One g rs n L o) {k : Nat} (hk : k ≤ n) : One g rs k (L.take (2 * k)) (o.take k) := by
  refine ⟨by rw [List.length_take, h.lL]; omega, by rw [List.length_take, h.lo]; omega, fun i hi => ?_, fun i hi => ?_, fun i hi => ?_⟩
  · rw [List.getElem?_take_of_lt hi]; exact h.pt i (by omega)
  · rw [List.getElem?_take_of_lt (by omega)]; exact h.ca i (by omega)
  · rw [List.getElem?_take_of_lt (by omega)]; exact h.re i (by omega)
theorem One.turn {g : Nat → MOp} {rs : Nat → Rst} {n : Nat} {L : List (Evt × Value)} {o : List PK} (h : One g rs n L o) {k : Nat} (hk : k < n) (r : Rst) (w : Value) :
    One g (fun i => if i = k then r else rs i) n (L.set (2 * k + 1) (⟨2, 0, (k : Int), ⟨0, 0, 0, 0, 0, 0, 0, 0⟩, r⟩, w)) o := by
  refine ⟨by rw [List.length_set, h.lL], h.lo, h.pt, fun i hi => ?_, fun i hi => ?_⟩
  · rw [List.getElem?_set_ne (by omega)]; exact h.ca i hi
  · by_cases e : i = k
    · subst e; rw [List.getElem?_set_self (by rw [h.lL]; omega), if_pos rfl]; exact ⟨w, rfl⟩
    · rw [List.getElem?_set_ne (by omega), if_neg e]; exact h.re i hi
theorem One.at {g : Nat → MOp} {rs : Nat → Rst} {n : Nat} {L : List (Evt × Value)} {o : List PK} (h : One g rs n L o) {j : Nat} {e : Evt × Value} (he : L[j]? = some e) :
    (∃ i, i < n ∧ j = 2 * i ∧ e.1 = ⟨1, 0, (i : Int), g i, ⟨0, 0, []⟩⟩) ∨ ∃ i, i < n ∧ j = 2 * i + 1 ∧ e.1 = ⟨2, 0, (i : Int), ⟨0, 0, 0, 0, 0, 0, 0, 0⟩, rs i⟩ := by
  have hj := (List.getElem?_eq_some_iff.1 he).1
  rw [h.lL] at hj
  rcases Nat.mod_two_eq_zero_or_one j with hm | hm
  · obtain ⟨w, hw⟩ := h.ca (j / 2) (by omega)
    rw [show 2 * (j / 2) = j by omega, he] at hw
    exact .inl ⟨j / 2, by omega, by omega, by rw [Option.some.inj hw]⟩
  · obtain ⟨w, hw⟩ := h.re (j / 2) (by omega)
    rw [show 2 * (j / 2) + 1 = j by omega, he] at hw
    exact .inr ⟨j / 2, by omega, by omega, by rw [Option.some.inj hw]⟩
theorem One.cix {g : Nat → MOp} {rs : Nat → Rst} {n : Nat} {L : List (Evt × Value)} {o : List PK} (h : One g rs n L o) {i : Nat} (hi : i < n) : cix L L.length (0, (i : Int)) = some (2 * i) := by
  obtain ⟨w, hw⟩ := h.ca i hi
  obtain ⟨j, hj, _⟩ := cix_ex L (0, (i : Int)) L.length (2 * i) _ (by rw [h.lL]; omega) hw rfl rfl
  obtain ⟨_, e, he, hk, hp⟩ := cix_lt L _ _ j hj
  rcases h.at he with ⟨a, _, ha, e1⟩ | ⟨a, _, ha, e1⟩
  · rw [e1] at hp
    have := congrArg Prod.snd hp
    simp only [] at this
    rw [hj, ha]; congr 1; omega
  · rw [e1] at hk; cases hk
theorem pix_at {o : List PK} {n : Nat} (lo : o.length = n) (k : Nat → Int) (pt : ∀ i, i < n → o[i]? = some (k i, (i : Int))) {i m : Nat} (hi : i < m) (hm : m ≤ n) : pix o m (k i, (i : Int)) = some i := by
  cases hp : pix o m (k i, (i : Int)) with
  | none => exact absurd (pt i (by omega)) (pix_none o _ m hp i hi)
  | some j =>
    obtain ⟨h1, h2⟩ := pix_lt o _ _ j hp
    rw [pt j (by omega)] at h2
    have := congrArg Prod.snd (Option.some.inj h2)
    simp only [] at this
    congr 1; omega
theorem One.pix {g : Nat → MOp} {rs : Nat → Rst} {n : Nat} {L : List (Evt × Value)} {o : List PK} (h : One g rs n L o) {i : Nat} (hi : i < n) : pix o o.length (0, (i : Int)) = some i :=
  pix_at h.lo (fun _ => 0) h.pt (m := o.length) (by rw [h.lo]; exact hi) (by rw [h.lo]; exact Nat.le_refl _)
theorem One.rpl {g : Nat → MOp} {rs : Nat → Rst} {n : Nat} {L : List (Evt × Value)} {o : List PK} (h : One g rs n L o) : rpl L o o.length = mr g n := by
  rw [h.lo]
  refine rpl_mr (n := n) (fun i hi => ?_) n (Nat.le_refl _)
  obtain ⟨w, hw⟩ := h.ca i hi
  exact ⟨_, _, _, w, h.pt i hi, h.cix hi, hw, rfl⟩
theorem One.rep {g : Nat → MOp} {rs : Nat → Rst} {n : Nat} {L : List (Evt × Value)} {o : List PK} (h : One g rs n L o) {i : Nat} (hi : i < n) : evR L o (Go.Proofs.Ytbebhmdjnneimaa.rpl L o o.length).2 (2 * i + 1) = sameRst (rs i) (doM (mr g i).1 (g i)).2 := by
  obtain ⟨w, hw⟩ := h.re i hi
  rw [h.rpl]
  simp only [evR, hw]
  rw [if_pos trivial]
  simp only [repR, h.cix hi, h.pix hi, mr_get g n i hi]
  rw [decide_eq_false (by omega)]
  rfl
theorem One.no {g : Nat → MOp} {rs : Nat → Rst} {n : Nat} {L : List (Evt × Value)} {o : List PK} (h : One g rs n L o) {i : Nat} (hi : i < n) (hs : sameRst (rs i) (doM (mr g i).1 (g i)).2 = false) : chkH L o = false := by
  rw [chk_same]
  unfold chkR
  rw [allN_no (f := evR L o (Go.Proofs.Ytbebhmdjnneimaa.rpl L o o.length).2) (i := 2 * i + 1) (by rw [h.lL]; omega) (by rw [h.rep hi, hs]), Bool.and_false]
theorem One.yes {g : Nat → MOp} {rs : Nat → Rst} {n : Nat} {L : List (Evt × Value)} {o : List PK} (h : One g rs n L o) (hs : ∀ i, i < n → sameRst (rs i) (doM (mr g i).1 (g i)).2 = true) : chkH L o = true := by
  rw [chk_same]
  unfold chkR
  rw [Bool.and_eq_true, allN_iff, allN_iff]
  refine ⟨fun i hi => ?_, fun j hj => ?_⟩
  · rw [h.lo] at hi
    simp only [ordR, h.pt i hi, h.cix hi, h.pix hi, decide_true, Option.isSome_some, Bool.true_and]
    rw [allN_iff]
    intro k hk
    simp only [lateR, h.pt k (by omega), h.cix (show k < n by omega)]
    cases hr : rix L L.length (0, (i : Int)) with
    | none => rfl
    | some e =>
      obtain ⟨_, x, hx, hx2, hx3⟩ := rix_lt L _ _ e hr
      simp only [Bool.not_eq_true', decide_eq_false_iff_not]
      rcases h.at hx with ⟨a, _, ha, e1⟩ | ⟨a, _, ha, e1⟩
      · rw [e1] at hx2; cases hx2
      · rw [e1] at hx3
        have := congrArg Prod.snd hx3
        simp only [] at this
        omega
  · obtain ⟨e, he⟩ : ∃ e, L[j]? = some e := ⟨_, List.getElem?_eq_getElem hj⟩
    rcases h.at he with ⟨a, _, ha, e1⟩ | ⟨a, hlt, ha, e1⟩
    · simp only [evR, he, e1]
      rw [if_neg (by decide)]
    · rw [ha, h.rep hlt]; exact hs a hlt
theorem One.dup {g : Nat → MOp} {rs : Nat → Rst} {n : Nat} {L : List (Evt × Value)} {o : List PK} (h : One g rs n L o) {k : Nat} (hk : k < n) : chkH L (o ++ [(0, (k : Int))]) = false := by
  unfold chkH
  have hp : plo (o ++ [(0, (k : Int))]) (cks L L.length) (o ++ [(0, (k : Int))]).length = false := by
    cases e : plo (o ++ [(0, (k : Int))]) (cks L L.length) (o ++ [(0, (k : Int))]).length with
    | false => rfl
    | true =>
      have := ((plo_iff _ _ _).1 e n (by rw [List.length_append, h.lo]; simp) (0, (k : Int)) (by rw [List.getElem?_append_right (by rw [h.lo]; exact Nat.le_refl _), h.lo, Nat.sub_self]; rfl)).2
      exact absurd (by rw [List.getElem?_append_left (by rw [h.lo]; omega)]; exact h.pt k hk) (pix_none _ _ n this k hk)
  rw [hp]; rfl
/-- calls alone -/
structure Beg (g : Nat → MOp) (wh : Nat → Int) (n : Nat) (L : List (Evt × Value)) (o : List PK) : Prop where
  lL : L.length = n
  lo : o.length = n
  pt : ∀ i, i < n → o[i]? = some (wh i, (i : Int))
  ca : ∀ i : Nat, i < n → L[i]? = some (⟨1, wh i, (i : Int), g i, ⟨0, 0, []⟩⟩, .slice none 0 0)
theorem Beg.nil (g : Nat → MOp) (wh : Nat → Int) : Beg g wh 0 [] [] := ⟨rfl, rfl, fun i h => by omega, fun i h => by omega⟩
theorem Beg.snoc {g : Nat → MOp} {wh : Nat → Int} {n : Nat} {L : List (Evt × Value)} {o : List PK} (h : Beg g wh n L o) :
    Beg g wh (n + 1) (L ++ [(⟨1, wh n, (n : Int), g n, ⟨0, 0, []⟩⟩, .slice none 0 0)]) (o ++ [(wh n, (n : Int))]) := by
  refine ⟨by rw [List.length_append, h.lL]; rfl, by rw [List.length_append, h.lo]; rfl, fun i hi => ?_, fun i hi => ?_⟩
  · by_cases e : i = n
    · subst e; rw [List.getElem?_append_right (by rw [h.lo]; exact Nat.le_refl _), h.lo, Nat.sub_self]; rfl
    · rw [List.getElem?_append_left (by rw [h.lo]; omega)]; exact h.pt i (by omega)
  · by_cases e : i = n
    · subst e; rw [List.getElem?_append_right (by rw [h.lL]; exact Nat.le_refl _), h.lL, Nat.sub_self]; rfl
    · rw [List.getElem?_append_left (by rw [h.lL]; omega)]; exact h.ca i (by omega)
theorem Beg.cix {g : Nat → MOp} {wh : Nat → Int} {n : Nat} {L : List (Evt × Value)} {o : List PK} (h : Beg g wh n L o) {i : Nat} (hi : i < n) : cix L L.length (wh i, (i : Int)) = some i := by
  obtain ⟨j, hj, _⟩ := cix_ex L (wh i, (i : Int)) L.length i _ (by rw [h.lL]; omega) (h.ca i hi) rfl rfl
  obtain ⟨hl, e, he, hk, hp⟩ := cix_lt L _ _ j hj
  rw [h.lL] at hl
  rw [h.ca j hl] at he
  cases he
  have := congrArg Prod.snd hp
  simp only [] at this
  rw [hj]; congr 1; omega
theorem Beg.rpl {g : Nat → MOp} {wh : Nat → Int} {n : Nat} {L : List (Evt × Value)} {o : List PK} (h : Beg g wh n L o) {k : Nat} (hk : k ≤ n) : rpl L (o.take k) (o.take k).length = mr g k := by
  have hl : (o.take k).length = k := by rw [List.length_take, h.lo]; omega
  rw [hl]
  refine rpl_mr (n := k) (fun i hi => ?_) k (Nat.le_refl _)
  exact ⟨_, _, _, _, by rw [List.getElem?_take_of_lt hi]; exact h.pt i (by omega), h.cix (by omega), h.ca i (by omega), rfl⟩
end Go.Proofs.Ytbebhmdjnneimaa
