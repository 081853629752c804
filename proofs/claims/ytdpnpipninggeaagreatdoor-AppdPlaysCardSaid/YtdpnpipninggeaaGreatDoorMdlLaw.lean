/- One hand alone, in plain terms: what an op does to what there is, and what stays true. -/
import Derived.Test.YtdpnpipninggeaaGreatDoorRow2
set_option linter.unusedSimpArgs false
set_option linter.unusedVariables false
namespace Go.Proofs.YtdpnpipninggeaaGreatDoor
open Go
abbrev Smp := Int × Int
structure Ser where
  id : Int
  shut : Bool
  any : Bool
  last : Int
  list : List Smp
structure Itr where
  id : Int
  rest : List Smp
structure Mdl where
  ser : List Ser
  its : List Itr
  next : Int
structure MOp where
  kind : Int
  series : Int
  iter : Int
  t : Int
  v : Int
  lo : Int
  hi : Int
  n : Int
structure Rst where
  err : Int
  iter : Int
  list : List Smp
def within (l : List Smp) (f t : Int) : List Smp := l.filter fun s => decide (f ≤ s.1 ∧ s.1 ≤ t)
def serIx (l : List Ser) (id : Int) : Nat := l.findIdx fun s => decide (id ≤ s.id)
def serHas (l : List Ser) (id : Int) : Option Ser := match l[serIx l id]? with | some s => if s.id = id then some s else none | none => none
def itrIx (l : List Itr) (id : Int) : Nat := l.findIdx fun x => decide (x.id = id)
def badOp (o : MOp) : Bool := if 1 ≤ o.kind ∧ o.kind ≤ 5 then decide (o.series < 0 ∨ 16 ≤ o.series) else decide (o.kind ≠ 6 ∧ o.kind ≠ 7)
def nextN (o : MOp) (x : Itr) : Nat := (min (min (max o.n 0) 1000) (x.rest.length : Int)).toNat
def doI (m : Mdl) (o : MOp) : Mdl × Rst :=
  match m.its[itrIx m.its o.iter]? with
  | none => (m, ⟨3, 0, []⟩)
  | some x =>
    if o.kind = 7 then ({ m with its := m.its.take (itrIx m.its o.iter) ++ m.its.drop (itrIx m.its o.iter + 1) }, ⟨0, 0, []⟩)
    else ({ m with its := m.its.set (itrIx m.its o.iter) { x with rest := x.rest.drop (nextN o x) } }, ⟨0, 0, x.rest.take (nextN o x)⟩)
def doA (m : Mdl) (o : MOp) : Mdl × Rst :=
  match serHas m.ser o.series with
  | none => ({ m with ser := m.ser.take (serIx m.ser o.series) ++ [⟨o.series, false, true, o.t, [(o.t, o.v)]⟩] ++ m.ser.drop (serIx m.ser o.series) }, ⟨0, 0, []⟩)
  | some s =>
    if s.shut = true then (m, ⟨2, 0, []⟩)
    else if s.any = true ∧ o.t ≤ s.last then (m, ⟨1, 0, []⟩)
    else ({ m with ser := m.ser.set (serIx m.ser o.series) { s with any := true, last := o.t, list := s.list ++ [(o.t, o.v)] } }, ⟨0, 0, []⟩)
def doS (m : Mdl) (o : MOp) : Mdl × Rst :=
  match serHas m.ser o.series with
  | none => (m, ⟨3, 0, []⟩)
  | some s =>
    if o.kind = 2 then (m, ⟨0, 0, within s.list o.lo o.hi⟩)
    else if o.kind = 3 then
      if s.shut = true then (m, ⟨2, 0, []⟩)
      else ({ m with ser := m.ser.set (serIx m.ser o.series) { s with shut := true } }, ⟨0, 0, []⟩)
    else if o.kind = 4 then ({ m with ser := m.ser.take (serIx m.ser o.series) ++ m.ser.drop (serIx m.ser o.series + 1) }, ⟨0, 0, []⟩)
    else if 8 ≤ m.its.length then (m, ⟨5, 0, []⟩)
    else ({ m with next := m.next + 1, its := m.its ++ [⟨m.next + 1, within s.list o.lo o.hi⟩] }, ⟨0, m.next + 1, []⟩)
def doM (m : Mdl) (o : MOp) : Mdl × Rst :=
  if badOp o = true then (m, ⟨4, 0, []⟩)
  else if o.kind = 6 ∨ o.kind = 7 then doI m o
  else if o.kind = 1 then doA m o else doS m o
/- the same -/
def sameL (a b : List Smp) : Bool := decide (a = b)
def sameSer (a b : Ser) : Bool := decide (a.id = b.id) && (a.shut == b.shut) && (a.any == b.any) && decide (a.last = b.last) && sameL a.list b.list
def sameItr (a b : Itr) : Bool := decide (a.id = b.id) && sameL a.rest b.rest
def allB {α β : Type} (p : α → β → Bool) : List α → List β → Bool
  | [], [] => true
  | a :: l, b :: m => p a b && allB p l m
  | _, _ => false
def sameMdl (a b : Mdl) : Bool := decide (a.next = b.next) && allB sameSer a.ser b.ser && allB sameItr a.its b.its
def sameRst (a b : Rst) : Bool := decide (a.err = b.err) && decide (a.iter = b.iter) && sameL a.list b.list
/- what stays true -/
structure MInv (n : Nat) (m : Mdl) : Prop where
  srt : m.ser.Pairwise fun a b => a.id < b.id
  sers : m.ser.length ≤ n
  lens : ∀ s ∈ m.ser, s.list.length ≤ n
  its : m.its.length ≤ 8
  rests : ∀ x ∈ m.its, x.rest.length ≤ n
  next : 0 ≤ m.next ∧ m.next ≤ n
theorem MInv.zero : MInv 0 ⟨[], [], 0⟩ := ⟨List.Pairwise.nil, Nat.le_refl _, by simp, by simp, by simp, by simp⟩
theorem MInv.mono {n k : Nat} {m : Mdl} (h : MInv n m) (hk : n ≤ k) : MInv k m :=
  ⟨h.srt, Nat.le_trans h.sers hk, fun s hs => Nat.le_trans (h.lens s hs) hk, h.its, fun x hx => Nat.le_trans (h.rests x hx) hk, h.next.1, by have := h.next.2; omega⟩
end Go.Proofs.YtdpnpipninggeaaGreatDoor
