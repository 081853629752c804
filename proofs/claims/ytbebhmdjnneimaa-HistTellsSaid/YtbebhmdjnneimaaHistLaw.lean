/- Histories, plainly. -/
import Derived.Test.YtbebhmdjnneimaaMdlRo
import Derived.Test.YtbebhmdjnneimaaMapP
set_option linter.unusedSimpArgs false
set_option linter.unusedVariables false
namespace Go.Proofs.Ytbebhmdjnneimaa
open Go
structure Evt where
 kind : Int
 who : Int
 n : Int
 op : MOp
 res : Rst
def evC (p : Evt × Value) : List Value := [.int .i64 p.1.kind, .int .i64 p.1.who, .int .i64 p.1.n, .int .i64 p.1.op.kind, .int .i64 p.1.op.series, .int .i64 p.1.op.iter, .int .i64 p.1.op.t, .int .u64 p.1.op.v, .int .i64 p.1.op.lo, .int .i64 p.1.op.hi, .int .i64 p.1.op.n, .int .i64 p.1.res.err, .int .i64 p.1.res.iter, p.2]
theorem ev_len (p : Evt × Value) : (evC p).length = 14 := rfl
theorem evs_cells (L : List (Evt × Value)) : (L.flatMap evC).length = L.length * 14 := flat_len ev_len L
/-- where each op was first called, after i events -/
def cks (l : List (Evt × Value)) : Nat → List (PK × Value)
 | 0 => []
 | i + 1 => match l[i]? with
  | none => cks l i
  | some e => if e.1.kind = 1 ∧ pget (cks l i) (e.1.who, e.1.n) = none then pset (cks l i) (e.1.who, e.1.n) (.int .i64 (i : Int)) else cks l i
/-- where each point stands, after i points -/
def pls (l : List PK) : Nat → List (PK × Value)
 | 0 => []
 | i + 1 => match l[i]? with
  | none => pls l i
  | some p => pset (pls l i) p (.int .i64 (i : Int))
/-- whether the first i points have a call each, and stand once -/
def plo (l : List PK) (m : List (PK × Value)) : Nat → Bool
 | 0 => true
 | i + 1 => match l[i]? with
  | none => plo l m i
  | some p => plo l m i && ((pget m p).isSome && !(pget (pls l i) p).isSome)
theorem plo_false {l : List PK} {m : List (PK × Value)} {i : Nat} (h : plo l m i = false) : ∀ k, plo l m (i + k) = false
 | 0 => h
 | k + 1 => by
  rw [show i + (k + 1) = (i + k) + 1 by omega]
  unfold plo
  rw [plo_false h k]
  split <;> simp
/-- the event at which an op was first called, of the first n -/
def cix (l : List (Evt × Value)) : Nat → PK → Option Nat
 | 0, _ => none
 | i + 1, p => match cix l i p with
  | some j => some j
  | none => match l[i]? with
   | some e => if e.1.kind = 1 ∧ (e.1.who, e.1.n) = p then some i else none
   | none => none
theorem cks_get (l : List (Evt × Value)) (p : PK) : ∀ n, pget (cks l n) p = (cix l n p).map (fun (i : Nat) => Value.int .i64 ((i : Nat) : Int))
 | 0 => rfl
 | n + 1 => by
  have ih := cks_get l p n
  unfold cks cix
  cases he : l[n]? with
  | none =>
   simp only []
   rw [ih]
   cases cix l n p <;> rfl
  | some e =>
   simp only []
   by_cases hk : e.1.kind = 1 ∧ pget (cks l n) (e.1.who, e.1.n) = none
   ·rw [if_pos hk, pset_none _ _ _ hk.2, pget_snoc, ih]
    cases hc : cix l n p with
    | some j => rfl
    | none =>
     simp only [Option.map_none]
     by_cases hp : p = (e.1.who, e.1.n)
     ·rw [if_pos hp, if_pos ⟨hk.1, hp.symm⟩]; rfl
     ·rw [if_neg hp, if_neg (fun h => hp h.2.symm)]; rfl
   ·rw [if_neg hk, ih]
    cases hc : cix l n p with
    | some j => rfl
    | none =>
     simp only [Option.map_none]
     rw [if_neg (fun h => hk ⟨h.1, by rw [h.2, ih, hc]; rfl⟩)]
     rfl
theorem cix_lt (l : List (Evt × Value)) (p : PK) : ∀ n i, cix l n p = some i → i < n ∧ ∃ e, l[i]? = some e ∧ e.1.kind = 1 ∧ (e.1.who, e.1.n) = p
 | 0, i, h => by cases h
 | n + 1, i, h => by
  unfold cix at h
  cases hc : cix l n p with
  | some j =>
   rw [hc] at h
   cases h
   have := cix_lt l p n i hc
   exact ⟨by omega, this.2⟩
  | none =>
   rw [hc] at h
   simp only [] at h
   cases he : l[n]? with
   | none => rw [he] at h; cases h
   | some e =>
    rw [he] at h
    simp only [] at h
    split at h
    ·rename_i hk
     cases h
     exact ⟨by omega, e, he, hk.1, hk.2⟩
    ·cases h
/-- what the first j points come to -/
def rpl (l : List (Evt × Value)) (o : List PK) : Nat → Mdl × List Rst
 | 0 => (⟨[], [], 0⟩, [])
 | j + 1 => match o[j]? with
  | none => rpl l o j
  | some p => match (cix l l.length p).bind (fun i => l[i]?) with
   | none => ((rpl l o j).1, (rpl l o j).2 ++ [⟨0, 0, []⟩])
   | some e => ((doM (rpl l o j).1 e.1.op).1, (rpl l o j).2 ++ [(doM (rpl l o j).1 e.1.op).2])
theorem rpl_inv (l : List (Evt × Value)) (o : List PK) : ∀ j, MInv j (rpl l o j).1
 | 0 => MInv.zero
 | j + 1 => by
  have ih := rpl_inv l o j
  unfold rpl
  split
  ·exact ih.mono (by omega)
  ·split
   ·exact ih.mono (by omega)
   ·exact doM_inv ih _
theorem rpl_len (l : List (Evt × Value)) (o : List PK) : ∀ j, j ≤ o.length → (rpl l o j).2.length = j
 | 0, _ => rfl
 | j + 1, h => by
  have ih := rpl_len l o j (by omega)
  obtain ⟨p, hp⟩ : ∃ p, o[j]? = some p := ⟨_, List.getElem?_eq_getElem (by omega)⟩
  unfold rpl
  rw [hp]
  simp only []
  split <;> simp [ih]
end Go.Proofs.Ytbebhmdjnneimaa
/- Whether a history stands in an order, plainly: two ways to say it, which are the same. -/
set_option linter.unusedSimpArgs false
set_option linter.unusedVariables false
namespace Go.Proofs.Ytbebhmdjnneimaa
open Go
def allN (f : Nat → Bool) : Nat → Bool
 | 0 => true
 | i + 1 => allN f i && f i
theorem allN_iff {f : Nat → Bool} : ∀ {n : Nat}, allN f n = true ↔ ∀ i, i < n → f i = true
 | 0 => ⟨fun _ i h => by omega, fun _ => rfl⟩
 | n + 1 => by
  rw [allN, Bool.and_eq_true, allN_iff (n := n)]
  constructor
  ·rintro ⟨h1, h2⟩ i hi
   by_cases e : i = n
   ·rw [e]; exact h2
   ·exact h1 i (by omega)
  ·intro h
   exact ⟨fun i hi => h i (by omega), h n (by omega)⟩
theorem allN_step {f : Nat → Bool} {n : Nat} (h : allN f n = true) (h2 : f n = true) : allN f (n + 1) = true := by rw [allN, h, h2]; rfl
theorem allN_no {f : Nat → Bool} {n i : Nat} (hi : i < n) (h : f i = false) : allN f n = false := by
 cases e : allN f n with
 | false => rfl
 | true => rw [allN_iff.1 e i hi] at h; cases h
/-- where a point first stands, of the first n -/
def pix (l : List PK) : Nat → PK → Option Nat
 | 0, _ => none
 | i + 1, p => match pix l i p with
  | some j => some j
  | none => match l[i]? with
   | some q => if q = p then some i else none
   | none => none
/-- where a reply first stands, of the first n -/
def rix (l : List (Evt × Value)) : Nat → PK → Option Nat
 | 0, _ => none
 | i + 1, p => match rix l i p with
  | some j => some j
  | none => match l[i]? with
   | some e => if e.1.kind = 2 ∧ (e.1.who, e.1.n) = p then some i else none
   | none => none
theorem pix_lt (l : List PK) (p : PK) : ∀ n i, pix l n p = some i → i < n ∧ l[i]? = some p
 | 0, i, h => by cases h
 | n + 1, i, h => by
  unfold pix at h
  cases hc : pix l n p with
  | some j =>
   rw [hc] at h
   cases h
   have := pix_lt l p n i hc
   exact ⟨by omega, this.2⟩
  | none =>
   rw [hc] at h
   simp only [] at h
   cases he : l[n]? with
   | none => rw [he] at h; cases h
   | some e =>
    rw [he] at h
    simp only [] at h
    split at h
    ·rename_i hk
     cases h
     exact ⟨by omega, by rw [he, hk]⟩
    ·cases h
theorem pix_more (l : List PK) (p : PK) (n i : Nat) (h : pix l n p = some i) : ∀ k, pix l (n + k) p = some i
 | 0 => h
 | k + 1 => by rw [show n + (k + 1) = (n + k) + 1 by omega, pix, pix_more l p n i h k]
theorem pix_none (l : List PK) (p : PK) : ∀ n, pix l n p = none → ∀ i, i < n → l[i]? ≠ some p
 | 0, _, i, hi => by omega
 | n + 1, h, i, hi => by
  unfold pix at h
  cases hc : pix l n p with
  | some j => rw [hc] at h; cases h
  | none =>
   rw [hc] at h
   simp only [] at h
   by_cases e : i = n
   ·subst e
    intro he
    rw [he] at h
    simp at h
   ·exact pix_none l p n hc i (by omega)
theorem rix_lt (l : List (Evt × Value)) (p : PK) : ∀ n i, rix l n p = some i → i < n ∧ ∃ e, l[i]? = some e ∧ e.1.kind = 2 ∧ (e.1.who, e.1.n) = p
 | 0, i, h => by cases h
 | n + 1, i, h => by
  unfold rix at h
  cases hc : rix l n p with
  | some j =>
   rw [hc] at h
   cases h
   have := rix_lt l p n i hc
   exact ⟨by omega, this.2⟩
  | none =>
   rw [hc] at h
   simp only [] at h
   cases he : l[n]? with
   | none => rw [he] at h; cases h
   | some e =>
    rw [he] at h
    simp only [] at h
    split at h
    ·rename_i hk
     cases h
     exact ⟨by omega, e, he, hk.1, hk.2⟩
    ·cases h
/-- the first reply is no later than any -/
theorem rix_le (l : List (Evt × Value)) (p : PK) : ∀ n i e, i < n → l[i]? = some e → e.1.kind = 2 → (e.1.who, e.1.n) = p → ∃ j, rix l n p = some j ∧ j ≤ i
 | 0, i, e, hi, _, _, _ => by omega
 | n + 1, i, e, hi, he, hk, hp => by
  by_cases hin : i = n
  ·subst hin
   cases hc : rix l i p with
   | some j =>
    have := rix_lt l p i j hc
    exact ⟨j, by rw [rix, hc], by omega⟩
   | none => exact ⟨i, by simp only [rix, hc, he]; rw [if_pos ⟨hk, hp⟩], Nat.le_refl _⟩
  ·obtain ⟨j, h1, h2⟩ := rix_le l p n i e (by omega) he hk hp
   exact ⟨j, by rw [rix, h1], h2⟩
theorem cix_ex (l : List (Evt × Value)) (p : PK) : ∀ n i e, i < n → l[i]? = some e → e.1.kind = 1 → (e.1.who, e.1.n) = p → ∃ j, cix l n p = some j ∧ j ≤ i
 | 0, i, e, hi, _, _, _ => by omega
 | n + 1, i, e, hi, he, hk, hp => by
  by_cases hin : i = n
  ·subst hin
   cases hc : cix l i p with
   | some j =>
    have := cix_lt l p i j hc
    exact ⟨j, by rw [cix, hc], by omega⟩
   | none => exact ⟨i, by simp only [cix, hc, he]; rw [if_pos ⟨hk, hp⟩], Nat.le_refl _⟩
  ·obtain ⟨j, h1, h2⟩ := cix_ex l p n i e (by omega) he hk hp
   exact ⟨j, by rw [cix, h1], h2⟩
/-- the map of places, as long as each stands once -/
theorem pls_get (l : List PK) (m : List (PK × Value)) : ∀ n, plo l m n = true → ∀ p, pget (pls l n) p = (pix l n p).map (fun (i : Nat) => Value.int .i64 ((i : Nat) : Int))
 | 0, _, p => rfl
 | n + 1, h, p => by
  unfold plo at h
  unfold pls pix
  cases he : l[n]? with
  | none =>
   rw [he] at h
   have ih := pls_get l m n h p
   simp only []
   rw [ih]
   cases pix l n p <;> rfl
  | some q =>
   rw [he] at h
   simp only [Bool.and_eq_true, Bool.not_eq_true'] at h
   have ih := pls_get l m n h.1 p
   have hq : pget (pls l n) q = none := by
    cases e : pget (pls l n) q with
    | none => rfl
    | some x => rw [e] at h; cases h.2.2
   simp only []
   rw [pset_none _ _ _ hq, pget_snoc, ih]
   cases hc : pix l n p with
   | some j => rfl
   | none =>
    simp only [Option.map_none]
    by_cases hp : p = q
    ·rw [if_pos hp, if_pos hp.symm]; rfl
    ·rw [if_neg hp, if_neg (fun h => hp h.symm)]; rfl
theorem plo_iff (l : List PK) (m : List (PK × Value)) : ∀ n, plo l m n = true ↔ ∀ i, i < n → ∀ p, l[i]? = some p → (pget m p).isSome = true ∧ pix l i p = none
 | 0 => ⟨fun _ i h => by omega, fun _ => rfl⟩
 | n + 1 => by
  have ih := plo_iff l m n
  unfold plo
  cases he : l[n]? with
  | none =>
   simp only []
   rw [ih]
   constructor
   ·intro h i hi p hp
    by_cases e : i = n
    ·subst e; rw [he] at hp; cases hp
    ·exact h i (by omega) p hp
   ·exact fun h i hi => h i (by omega)
  | some q =>
   simp only [Bool.and_eq_true, Bool.not_eq_true']
   constructor
   ·rintro ⟨h1, h2, h3⟩ i hi p hp
    by_cases e : i = n
    ·subst e
     rw [he] at hp
     cases hp
     refine ⟨h2, ?_⟩
     rw [pls_get l m i h1] at h3
     cases hx : pix l i q with
     | none => rfl
     | some j => rw [hx] at h3; cases h3
    ·exact ih.1 h1 i (by omega) p hp
   ·intro h
    have h1 := ih.2 fun i hi => h i (by omega)
    refine ⟨h1, (h n (by omega) q he).1, ?_⟩
    rw [pls_get l m n h1, (h n (by omega) q he).2]
    rfl
def ovr (e : Int) : Bool := decide (e = 9) || (decide (e = 6) || decide (e = 7))
/-- the last place of one that was answered, after i events -/
def far (l : List (Evt × Value)) (o : List PK) : Nat → Int
 | 0 => -1
 | i + 1 => match l[i]? with
  | none => far l o i
  | some e => if e.1.kind = 2 then (match pix o o.length (e.1.who, e.1.n) with | some a => max (far l o i) (a : Int) | none => far l o i) else far l o i
theorem far_gt (l : List (Evt × Value)) (o : List PK) (a : Nat) : ∀ i, (a : Int) < far l o i ↔ ∃ j e b, j < i ∧ l[j]? = some e ∧ e.1.kind = 2 ∧ pix o o.length (e.1.who, e.1.n) = some b ∧ a < b
 | 0 => ⟨fun h => by unfold far at h; omega, fun ⟨j, _, _, h, _⟩ => by omega⟩
 | i + 1 => by
  have ih := far_gt l o a i
  have up : (∃ j e b, j < i ∧ l[j]? = some e ∧ e.1.kind = 2 ∧ pix o o.length (e.1.who, e.1.n) = some b ∧ a < b) → ∃ j e b, j < i + 1 ∧ l[j]? = some e ∧ e.1.kind = 2 ∧ pix o o.length (e.1.who, e.1.n) = some b ∧ a < b :=
   fun ⟨j, e, b, h, r⟩ => ⟨j, e, b, by omega, r⟩
  have dn : (∃ j e b, j < i + 1 ∧ l[j]? = some e ∧ e.1.kind = 2 ∧ pix o o.length (e.1.who, e.1.n) = some b ∧ a < b) → (∃ j e b, j < i ∧ l[j]? = some e ∧ e.1.kind = 2 ∧ pix o o.length (e.1.who, e.1.n) = some b ∧ a < b) ∨ ∃ e b, l[i]? = some e ∧ e.1.kind = 2 ∧ pix o o.length (e.1.who, e.1.n) = some b ∧ a < b := by
   rintro ⟨j, e, b, h, h1, h2, h3, h4⟩
   by_cases hj : j = i
   ·subst hj; exact .inr ⟨e, b, h1, h2, h3, h4⟩
   ·exact .inl ⟨j, e, b, by omega, h1, h2, h3, h4⟩
  unfold far
  cases he : l[i]? with
  | none =>
   simp only []
   rw [ih]
   refine ⟨up, fun h => ?_⟩
   rcases dn h with h | ⟨e, b, h1, _⟩
   ·exact h
   ·rw [he] at h1; cases h1
  | some e =>
   simp only []
   by_cases hk : e.1.kind = 2
   ·rw [if_pos hk]
    cases hp : pix o o.length (e.1.who, e.1.n) with
    | none =>
     simp only []
     rw [ih]
     refine ⟨up, fun h => ?_⟩
     rcases dn h with h | ⟨e', b, h1, h2, h3, h4⟩
     ·exact h
     ·rw [he] at h1; cases h1; rw [hp] at h3; cases h3
    | some c =>
     simp only []
     constructor
     ·intro h
      by_cases hf : (a : Int) < far l o i
      ·exact up (ih.1 hf)
      ·exact ⟨i, e, c, by omega, he, hk, hp, by omega⟩
     ·intro h
      rcases dn h with h | ⟨e', b, h1, h2, h3, h4⟩
      ·have := ih.2 h; omega
      ·rw [he] at h1; cases h1; rw [hp] at h3; cases h3; omega
   ·rw [if_neg hk, ih]
    refine ⟨up, fun h => ?_⟩
    rcases dn h with h | ⟨e', b, h1, h2, h3, h4⟩
    ·exact h
    ·rw [he] at h1; cases h1; exact absurd h2 hk
/-- whether a reply is right -/
def repR (l : List (Evt × Value)) (o : List PK) (r : List Rst) (i : Nat) (e : Evt) : Bool :=
 (match cix l l.length (e.who, e.n) with | none => false | some c => !decide (i < c)) && (match pix o o.length (e.who, e.n) with | some a => (match r[a]? with | some x => sameRst e.res x | none => false) | none => ovr e.res.err)
def evH (l : List (Evt × Value)) (o : List PK) (r : List Rst) (i : Nat) : Bool :=
 match l[i]? with
 | none => true
 | some e =>
  if e.1.kind = 1 ∧ cix l l.length (e.1.who, e.1.n) = some i then (match pix o o.length (e.1.who, e.1.n) with | some a => !decide ((a : Int) < far l o i) | none => true)
  else if e.1.kind = 2 then repR l o r i e.1 else true
def chkH (l : List (Evt × Value)) (o : List PK) : Bool := plo o (cks l l.length) o.length && allN (evH l o (rpl l o o.length).2) l.length
def evR (l : List (Evt × Value)) (o : List PK) (r : List Rst) (i : Nat) : Bool :=
 match l[i]? with
 | none => true
 | some e => if e.1.kind = 2 then repR l o r i e.1 else true
def lateR (l : List (Evt × Value)) (o : List PK) (p : PK) (k : Nat) : Bool :=
 match o[k]? with
 | none => true
 | some q => match rix l l.length p with
  | none => true
  | some e => match cix l l.length q with
   | none => true
   | some c => !decide (e < c)
def ordR (l : List (Evt × Value)) (o : List PK) (i : Nat) : Bool :=
 match o[i]? with
 | none => true
 | some p => ((cix l l.length p).isSome && decide (pix o o.length p = some i)) && allN (lateR l o p) i
def chkR (l : List (Evt × Value)) (o : List PK) : Bool := allN (ordR l o) o.length && allN (evR l o (rpl l o o.length).2) l.length
theorem chk_same (l : List (Evt × Value)) (o : List PK) : chkH l o = chkR l o := by
 have key : chkH l o = true ↔ chkR l o = true := by
  unfold chkH chkR
  rw [Bool.and_eq_true, Bool.and_eq_true, plo_iff, allN_iff, allN_iff, allN_iff]
  constructor
  ·rintro ⟨h1, h2⟩
   have hat : ∀ i p, i < o.length → o[i]? = some p → pix o o.length p = some i := by
    intro i p hi hp
    have hn := (h1 i hi p hp).2
    have h3 : pix o (i + 1) p = some i := by simp only [pix, hn, hp, if_pos]
    have := pix_more o p (i + 1) i h3 (o.length - (i + 1))
    rwa [show i + 1 + (o.length - (i + 1)) = o.length by omega] at this
   refine ⟨fun i hi => ?_, fun i hi => ?_⟩
   ·unfold ordR
    cases hp : o[i]? with
    | none => rfl
    | some p =>
     have hc := (h1 i hi p hp).1
     rw [cks_get] at hc
     have hc : (cix l l.length p).isSome = true := by
      cases e : cix l l.length p with
      | none => rw [e] at hc; cases hc
      | some x => rfl
     simp only [hc, hat i p hi hp, Bool.true_and, decide_true]
     rw [allN_iff]
     intro k hk
     unfold lateR
     cases hq : o[k]? with
     | none => rfl
     | some q =>
      cases hr : rix l l.length p with
      | none => rfl
      | some e =>
       simp only []
       cases hcq : cix l l.length q with
       | none => rfl
       | some c =>
        simp only [Bool.not_eq_true', decide_eq_false_iff_not]
        intro hec
        obtain ⟨hcl, ev, hev, hkind, hpq⟩ := cix_lt l q _ c hcq
        have h3 := h2 c hcl
        unfold evH at h3
        rw [hev] at h3
        simp only [] at h3
        rw [hpq, if_pos ⟨hkind, hcq⟩, hat k q (by omega) hq] at h3
        simp only [Bool.not_eq_true', decide_eq_false_iff_not] at h3
        obtain ⟨_, ev2, hev2, hk2, hp2⟩ := rix_lt l p _ e hr
        exact h3 ((far_gt l o k c).2 ⟨e, ev2, i, hec, hev2, hk2, by rw [hp2]; exact hat i p hi hp, hk⟩)
   ·have h3 := h2 i hi
    unfold evH at h3
    unfold evR
    cases he : l[i]? with
    | none => rfl
    | some e =>
     rw [he] at h3
     simp only [] at h3 ⊢
     by_cases hk : e.1.kind = 2
     ·rw [if_neg (fun h => by rw [hk] at h; cases h.1), if_pos hk] at h3
      rw [if_pos hk]; exact h3
     ·rw [if_neg hk]
  ·rintro ⟨h1, h2⟩
   have hor : ∀ i p, i < o.length → o[i]? = some p → (cix l l.length p).isSome = true ∧ pix o o.length p = some i ∧ ∀ k, k < i → lateR l o p k = true := by
    intro i p hi hp
    have := h1 i hi
    unfold ordR at this
    rw [hp] at this
    simp only [Bool.and_eq_true, decide_eq_true_eq] at this
    exact ⟨this.1.1, this.1.2, allN_iff.1 this.2⟩
   refine ⟨fun i hi p hp => ?_, fun i hi => ?_⟩
   ·obtain ⟨hc, hat, _⟩ := hor i p hi hp
    refine ⟨?_, ?_⟩
    ·rw [cks_get]
     cases e : cix l l.length p with
     | none => rw [e] at hc; cases hc
     | some x => rfl
    ·cases e : pix o i p with
     | none => rfl
     | some j =>
      have h3 := (pix_lt o p i j e).1
      have := pix_more o p i j e (o.length - i)
      rw [show i + (o.length - i) = o.length by omega, hat] at this
      cases this
      omega
   ·have h3 := h2 i hi
    unfold evR at h3
    unfold evH
    cases he : l[i]? with
    | none => rfl
    | some e =>
     rw [he] at h3
     simp only [] at h3 ⊢
     by_cases hc : e.1.kind = 1 ∧ cix l l.length (e.1.who, e.1.n) = some i
     ·rw [if_pos hc]
      cases hp : pix o o.length (e.1.who, e.1.n) with
      | none => rfl
      | some a =>
       simp only [Bool.not_eq_true', decide_eq_false_iff_not]
       intro hf
       obtain ⟨j, ev, b, hj, hev, hk2, hpb, hab⟩ := (far_gt l o a i).1 hf
       obtain ⟨hb, hob⟩ := pix_lt _ _ _ _ hpb
       obtain ⟨ha, hoa⟩ := pix_lt _ _ _ _ hp
       obtain ⟨_, _, hl⟩ := hor b _ hb hob
       have := hl a hab
       unfold lateR at this
       obtain ⟨e2, hr, hle⟩ := rix_le l (ev.1.who, ev.1.n) l.length j ev (by omega) hev hk2 rfl
       simp only [hoa, hr, hc.2, Bool.not_eq_true', decide_eq_false_iff_not] at this
       omega
     ·rw [if_neg hc]
      exact h3
 cases h1 : chkH l o <;> cases h2 : chkR l o <;> first | rfl | (rw [key.1 h1] at h2; cases h2) | (rw [key.2 h2] at h1; cases h1)
end Go.Proofs.Ytbebhmdjnneimaa

/- One hand's history, plainly. -/
set_option linter.unusedSimpArgs false
set_option linter.unusedVariables false
namespace Go.Proofs.Ytbebhmdjnneimaa
open Go
def mr (g : Nat → MOp) : Nat → Mdl × List Rst
 | 0 => (⟨[], [], 0⟩, [])
 | i + 1 => ((doM (mr g i).1 (g i)).1, (mr g i).2 ++ [(doM (mr g i).1 (g i)).2])
theorem mr_len (g : Nat → MOp) : ∀ i, (mr g i).2.length = i
 | 0 => rfl
 | i + 1 => by rw [mr, List.length_append, mr_len g i]; rfl
theorem mr_get (g : Nat → MOp) : ∀ n i, i < n → (mr g n).2[i]? = some (doM (mr g i).1 (g i)).2
 | 0, i, h => by omega
 | n + 1, i, h => by
  rw [mr]
  by_cases e : i = n
  ·subst e
   rw [List.getElem?_append_right (by rw [mr_len]; exact Nat.le_refl _), mr_len, Nat.sub_self]; rfl
  ·rw [List.getElem?_append_left (by rw [mr_len]; omega)]
   exact mr_get g n i (by omega)
theorem rpl_mr {L : List (Evt × Value)} {o : List PK} {g : Nat → MOp} {n : Nat} (h : ∀ i, i < n → ∃ p q e w, o[i]? = some p ∧ cix L L.length p = some q ∧ L[q]? = some (e, w) ∧ e.op = g i) : ∀ j, j ≤ n → rpl L o j = mr g j
 | 0, _ => rfl
 | j + 1, hj => by
  obtain ⟨p, q, e, w, h1, h2, h3, h4⟩ := h j (by omega)
  have ih := rpl_mr h j (by omega)
  simp only [rpl, h1, h2, Option.bind_some, h3, h4, ih, mr]
structure One (g : Nat → MOp) (rs : Nat → Rst) (n : Nat) (L : List (Evt × Value)) (o : List PK) : Prop where
 lL : L.length = 2 * n
 lo : o.length = n
 pt : ∀ i, i < n → o[i]? = some (0, (i : Int))
 ca : ∀ i : Nat, i < n → ∃ w, L[2 * i]? = some (⟨1, 0, (i : Int), g i, ⟨0, 0, []⟩⟩, w)
 re : ∀ i : Nat, i < n → ∃ w, L[2 * i + 1]? = some (⟨2, 0, (i : Int), ⟨0, 0, 0, 0, 0, 0, 0, 0⟩, rs i⟩, w)
theorem One.nil (g : Nat → MOp) (rs : Nat → Rst) : One g rs 0 [] [] := ⟨rfl, rfl, fun i h => by omega, fun i h => by omega, fun i h => by omega⟩
theorem One.take {g : Nat → MOp} {rs : Nat → Rst} {n : Nat} {L : List (Evt × Value)} {o : List PK} (h : One g rs n L o) {k : Nat} (hk : k ≤ n) : One g rs k (L.take (2 * k)) (o.take k) := by
 refine ⟨by rw [List.length_take, h.lL]; omega, by rw [List.length_take, h.lo]; omega, fun i hi => ?_, fun i hi => ?_, fun i hi => ?_⟩
 ·rw [List.getElem?_take_of_lt hi]; exact h.pt i (by omega)
 ·rw [List.getElem?_take_of_lt (by omega)]; exact h.ca i (by omega)
 ·rw [List.getElem?_take_of_lt (by omega)]; exact h.re i (by omega)
theorem One.at {g : Nat → MOp} {rs : Nat → Rst} {n : Nat} {L : List (Evt × Value)} {o : List PK} (h : One g rs n L o) {j : Nat} {e : Evt × Value} (he : L[j]? = some e) :
  (∃ i, i < n ∧ j = 2 * i ∧ e.1 = ⟨1, 0, (i : Int), g i, ⟨0, 0, []⟩⟩) ∨ ∃ i, i < n ∧ j = 2 * i + 1 ∧ e.1 = ⟨2, 0, (i : Int), ⟨0, 0, 0, 0, 0, 0, 0, 0⟩, rs i⟩ := by
 have hj := (List.getElem?_eq_some_iff.1 he).1
 rw [h.lL] at hj
 rcases Nat.mod_two_eq_zero_or_one j with hm | hm
 ·obtain ⟨w, hw⟩ := h.ca (j / 2) (by omega)
  rw [show 2 * (j / 2) = j by omega, he] at hw
  exact .inl ⟨j / 2, by omega, by omega, by rw [Option.some.inj hw]⟩
 ·obtain ⟨w, hw⟩ := h.re (j / 2) (by omega)
  rw [show 2 * (j / 2) + 1 = j by omega, he] at hw
  exact .inr ⟨j / 2, by omega, by omega, by rw [Option.some.inj hw]⟩
theorem One.cix {g : Nat → MOp} {rs : Nat → Rst} {n : Nat} {L : List (Evt × Value)} {o : List PK} (h : One g rs n L o) {i : Nat} (hi : i < n) : cix L L.length (0, (i : Int)) = some (2 * i) := by
 obtain ⟨w, hw⟩ := h.ca i hi
 obtain ⟨j, hj, _⟩ := cix_ex L (0, (i : Int)) L.length (2 * i) _ (by rw [h.lL]; omega) hw rfl rfl
 obtain ⟨_, e, he, hk, hp⟩ := cix_lt L _ _ j hj
 rcases h.at he with ⟨a, _, ha, e1⟩ | ⟨a, _, ha, e1⟩
 ·rw [e1] at hp
  have := congrArg Prod.snd hp
  simp only [] at this
  rw [hj, ha]; congr 1; omega
 ·rw [e1] at hk; cases hk
theorem pix_at {o : List PK} {n : Nat} (lo : o.length = n) (k : Nat → Int) (pt : ∀ i, i < n → o[i]? = some (k i, (i : Int))) {i m : Nat} (hi : i < m) (hm : m ≤ n) : pix o m (k i, (i : Int)) = some i := by
 cases hp : pix o m (k i, (i : Int)) with
 | none => exact absurd (pt i (by omega)) (pix_none o _ m hp i hi)
 | some j =>
  obtain ⟨h1, h2⟩ := pix_lt o _ _ j hp
  rw [pt j (by omega)] at h2
  have := congrArg Prod.snd (Option.some.inj h2)
  simp only [] at this
  congr 1; omega
theorem One.pix {g : Nat → MOp} {rs : Nat → Rst} {n : Nat} {L : List (Evt × Value)} {o : List PK} (h : One g rs n L o) {i : Nat} (hi : i < n) : pix o o.length (0, (i : Int)) = some i :=
 pix_at h.lo (fun _ => 0) h.pt (m := o.length) (by rw [h.lo]; exact hi) (by rw [h.lo]; exact Nat.le_refl _)
theorem One.rpl {g : Nat → MOp} {rs : Nat → Rst} {n : Nat} {L : List (Evt × Value)} {o : List PK} (h : One g rs n L o) : rpl L o o.length = mr g n := by
 rw [h.lo]
 refine rpl_mr (n := n) (fun i hi => ?_) n (Nat.le_refl _)
 obtain ⟨w, hw⟩ := h.ca i hi
 exact ⟨_, _, _, w, h.pt i hi, h.cix hi, hw, rfl⟩
theorem One.rep {g : Nat → MOp} {rs : Nat → Rst} {n : Nat} {L : List (Evt × Value)} {o : List PK} (h : One g rs n L o) {i : Nat} (hi : i < n) : evR L o (Go.Proofs.Ytbebhmdjnneimaa.rpl L o o.length).2 (2 * i + 1) = sameRst (rs i) (doM (mr g i).1 (g i)).2 := by
 obtain ⟨w, hw⟩ := h.re i hi
 rw [h.rpl]
 simp only [evR, hw]
 rw [if_pos trivial]
 simp only [repR, h.cix hi, h.pix hi, mr_get g n i hi]
 rw [decide_eq_false (by omega)]
 rfl
theorem One.no {g : Nat → MOp} {rs : Nat → Rst} {n : Nat} {L : List (Evt × Value)} {o : List PK} (h : One g rs n L o) {i : Nat} (hi : i < n) (hs : sameRst (rs i) (doM (mr g i).1 (g i)).2 = false) : chkH L o = false := by
 rw [chk_same]
 unfold chkR
 rw [allN_no (f := evR L o (Go.Proofs.Ytbebhmdjnneimaa.rpl L o o.length).2) (i := 2 * i + 1) (by rw [h.lL]; omega) (by rw [h.rep hi, hs]), Bool.and_false]
/-- calls alone -/
structure Beg (g : Nat → MOp) (wh : Nat → Int) (n : Nat) (L : List (Evt × Value)) (o : List PK) : Prop where
 lL : L.length = n
 lo : o.length = n
 pt : ∀ i, i < n → o[i]? = some (wh i, (i : Int))
 ca : ∀ i : Nat, i < n → L[i]? = some (⟨1, wh i, (i : Int), g i, ⟨0, 0, []⟩⟩, .slice none 0 0)
theorem Beg.nil (g : Nat → MOp) (wh : Nat → Int) : Beg g wh 0 [] [] := ⟨rfl, rfl, fun i h => by omega, fun i h => by omega⟩
theorem Beg.cix {g : Nat → MOp} {wh : Nat → Int} {n : Nat} {L : List (Evt × Value)} {o : List PK} (h : Beg g wh n L o) {i : Nat} (hi : i < n) : cix L L.length (wh i, (i : Int)) = some i := by
 obtain ⟨j, hj, _⟩ := cix_ex L (wh i, (i : Int)) L.length i _ (by rw [h.lL]; omega) (h.ca i hi) rfl rfl
 obtain ⟨hl, e, he, hk, hp⟩ := cix_lt L _ _ j hj
 rw [h.lL] at hl
 rw [h.ca j hl] at he
 cases he
 have := congrArg Prod.snd hp
 simp only [] at this
 rw [hj]; congr 1; omega
theorem Beg.rpl {g : Nat → MOp} {wh : Nat → Int} {n : Nat} {L : List (Evt × Value)} {o : List PK} (h : Beg g wh n L o) {k : Nat} (hk : k ≤ n) : rpl L (o.take k) (o.take k).length = mr g k := by
 have hl : (o.take k).length = k := by rw [List.length_take, h.lo]; omega
 rw [hl]
 refine rpl_mr (n := k) (fun i hi => ?_) k (Nat.le_refl _)
 exact ⟨_, _, _, _, by rw [List.getElem?_take_of_lt hi]; exact h.pt i (by omega), h.cix (by omega), h.ca i (by omega), rfl⟩
end Go.Proofs.Ytbebhmdjnneimaa
