/- Histories, plainly. -/
import Derived.Test.YtbebhmdjnneimaaMdlRo
import Derived.Test.YtbebhmdjnneimaaMapP
set_option linter.unusedSimpArgs false
set_option linter.unusedVariables false
namespace Go.Proofs.Ytbebhmdjnneimaa
open Go
structure Evt where
  kind : Int
  who : Int
  n : Int
  op : MOp
  res : Rst
def evC (p : Evt × Value) : List Value := [.int .i64 p.1.kind, .int .i64 p.1.who, .int .i64 p.1.n, .int .i64 p.1.op.kind, .int .i64 p.1.op.series, .int .i64 p.1.op.iter, .int .i64 p.1.op.t, .int .u64 p.1.op.v, .int .i64 p.1.op.lo, .int .i64 p.1.op.hi, .int .i64 p.1.op.n, .int .i64 p.1.res.err, .int .i64 p.1.res.iter, p.2]
theorem ev_len (p : Evt × Value) : (evC p).length = 14 := rfl
theorem evs_cells (L : List (Evt × Value)) : (L.flatMap evC).length = L.length * 14 := flat_len ev_len L
/-- where each op was first called, after i events -/
def cks (l : List (Evt × Value)) : Nat → List (PK × Value)
  | 0 => []
  | i + 1 => match l[i]? with
    | none => cks l i
    | some e => if e.1.kind = 1 ∧ pget (cks l i) (e.1.who, e.1.n) = none then pset (cks l i) (e.1.who, e.1.n) (.int .i64 (i : Int)) else cks l i
/-- where each point stands, after i points -/
def pls (l : List PK) : Nat → List (PK × Value)
  | 0 => []
  | i + 1 => match l[i]? with
    | none => pls l i
    | some p => pset (pls l i) p (.int .i64 (i : Int))
/-- whether the first i points have a call each, and stand once -/
def plo (l : List PK) (m : List (PK × Value)) : Nat → Bool
  | 0 => true
  | i + 1 => match l[i]? with
    | none => plo l m i
    | some p => plo l m i && ((pget m p).isSome && !(pget (pls l i) p).isSome)
theorem plo_false {l : List PK} {m : List (PK × Value)} {i : Nat} (h : plo l m i = false) : ∀ k, plo l m (i + k) = false
  | 0 => h
  | k + 1 => by
    rw [show i + (k + 1) = (i + k) + 1 by omega]
    unfold plo
    rw [plo_false h k]
    split <;> simp
/-- the event at which an op was first called, of the first n -/
def cix (l : List (Evt × Value)) : Nat → PK → Option Nat
  | 0, _ => none
  | i + 1, p => match cix l i p with
    | some j => some j
    | none => match l[i]? with
      | some e => if e.1.kind = 1 ∧ (e.1.who, e.1.n) = p then some i else none
      | none => none
theorem cks_get (l : List (Evt × Value)) (p : PK) : ∀ n, pget (cks l n) p = (cix l n p).map (fun (i : Nat) => Value.int .i64 ((i : Nat) : Int))
  | 0 => rfl
  | n + 1 => by
    have ih := cks_get l p n
    unfold cks cix
    cases he : l[n]? with
    | none =>
      simp only []
      rw [ih]
      cases cix l n p <;> rfl
    | some e =>
      simp only []
      by_cases hk : e.1.kind = 1 ∧ pget (cks l n) (e.1.who, e.1.n) = none
      · rw [if_pos hk, pset_none _ _ _ hk.2, pget_snoc, ih]
        cases hc : cix l n p with
        | some j => rfl
        | none =>
          simp only [Option.map_none]
          by_cases hp : p = (e.1.who, e.1.n)
          · rw [if_pos hp, if_pos ⟨hk.1, hp.symm⟩]; rfl
          · rw [if_neg hp, if_neg (fun h => hp h.2.symm)]; rfl
      · rw [if_neg hk, ih]
        cases hc : cix l n p with
        | some j => rfl
        | none =>
          simp only [Option.map_none]
          rw [if_neg (fun h => hk ⟨h.1, by rw [h.2, ih, hc]; rfl⟩)]
          rfl
theorem cix_lt (l : List (Evt × Value)) (p : PK) : ∀ n i, cix l n p = some i → i < n ∧ ∃ e, l[i]? = some e ∧ e.1.kind = 1 ∧ (e.1.who, e.1.n) = p
  | 0, i, h => by cases h
  | n + 1, i, h => by
    unfold cix at h
    cases hc : cix l n p with
    | some j =>
      rw [hc] at h
      cases h
      have := cix_lt l p n i hc
      exact ⟨by omega, this.2⟩
    | none =>
      rw [hc] at h
      simp only [] at h
      cases he : l[n]? with
      | none => rw [he] at h; cases h
      | some e =>
        rw [he] at h
        simp only [] at h
        split at h
        · rename_i hk
          cases h
          exact ⟨by omega, e, he, hk.1, hk.2⟩
        · cases h
/-- what the first j points come to -/
def rpl (l : List (Evt × Value)) (o : List PK) : Nat → Mdl × List Rst
  | 0 => (⟨[], [], 0⟩, [])
  | j + 1 => match o[j]? with
    | none => rpl l o j
    | some p => match (cix l l.length p).bind (fun i => l[i]?) with
      | none => ((rpl l o j).1, (rpl l o j).2 ++ [⟨0, 0, []⟩])
      | some e => ((doM (rpl l o j).1 e.1.op).1, (rpl l o j).2 ++ [(doM (rpl l o j).1 e.1.op).2])
theorem rpl_inv (l : List (Evt × Value)) (o : List PK) : ∀ j, MInv j (rpl l o j).1
  | 0 => MInv.zero
  | j + 1 => by
    have ih := rpl_inv l o j
    unfold rpl
    split
    · exact ih.mono (by omega)
    · split
      · exact ih.mono (by omega)
      · exact doM_inv ih _
theorem rpl_len (l : List (Evt × Value)) (o : List PK) : ∀ j, j ≤ o.length → (rpl l o j).2.length = j
  | 0, _ => rfl
  | j + 1, h => by
    have ih := rpl_len l o j (by omega)
    obtain ⟨p, hp⟩ : ∃ p, o[j]? = some p := ⟨_, List.getElem?_eq_getElem (by omega)⟩
    unfold rpl
    rw [hp]
    simp only []
    split <;> simp [ih]
end Go.Proofs.Ytbebhmdjnneimaa
