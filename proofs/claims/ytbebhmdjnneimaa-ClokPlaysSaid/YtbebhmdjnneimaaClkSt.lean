/- A script of a ring, plainly; what stays true of keys and pins. -/
import Derived.Test.YtbebhmdjnneimaaClkKey
import Derived.Test.YtbebhmdjnneimaaClkInv
set_option linter.unusedSimpArgs false
set_option linter.unusedVariables false
set_option maxRecDepth 20000
namespace Go.Proofs.Ytbebhmdjnneimaa
open Go
def stepP (c : Clk) (x : Int) : Option (Clk × List Ky × Bool) :=
 if x % (7 + 1) < 3 then admitP 1000000 c (keyP (x / 8))
 else if x % (7 + 1) < 5 then some ((touchP c (keyP (x / 8))).1, [], (touchP c (keyP (x / 8))).2)
 else if x % (7 + 1) < 7 then some ((pinP c (keyP (x / 8)) (x / 256 % (3 + 1) - 1 - x % (1 + 1))).1, [], (pinP c (keyP (x / 8)) (x / 256 % (3 + 1) - 1 - x % (1 + 1))).2)
 else if 0 < x / 256 % (3 + 1) then admitP 1000000 c (keyP (x / 8))
 else some ((dropP c (keyP (x / 8))).1, [], (dropP c (keyP (x / 8))).2)
theorem touch_mostS (c : Clk) (k : Ky) : (touchP c k).1.most = c.most := by
 rcases fnd_lt c.pages k with hf | ⟨i, p, hf, hp, hpk⟩
 ·rw [touch_no hf]
 ·rw [touch_at hf hp]; split <;> rfl
theorem pin_mostS (c : Clk) (k : Ky) (n : Int) : (pinP c k n).1.most = c.most := by
 rcases fnd_lt c.pages k with hf | ⟨i, p, hf, hp, hpk⟩
 ·rw [pin_no hf]
 ·rw [pin_at hf hp]; split <;> rfl
theorem drop_mostS (c : Clk) (k : Ky) : (dropP c k).1.most = c.most := by
 rcases fnd_lt c.pages k with hf | ⟨i, p, hf, hp, hpk⟩
 ·rw [drop_no hf]
 ·rw [drop_at hf]; rfl
theorem Bnd.goes {c : Clk} (h : Bnd c) {i : Nat} {p : Pg} (hp : c.pages[i]? = some p) : Bnd (goesP c i) := by
 have hW := h.w.goes hp
 have a1 := h.rs
 have a2 := h.ht
 have b1 := cnt_del_le (so := isRes) hp
 have b2 := cnt_del_le (so := isHot) hp
 refine ⟨hW.R, hW.m1, h.m2, hW.t1, hW.tm, ?_, hW.ts, ?_, hW.bk, hW.bn, hW.bt, hW.ky⟩
 ·show (cnt isRes (c.pages.take i ++ c.pages.drop (i + 1)) : Int) ≤ c.most; omega
 ·show (cnt isHot (c.pages.take i ++ c.pages.drop (i + 1)) : Int) ≤ c.most - c.target; omega
theorem Bnd.drop {c : Clk} (h : Bnd c) (k : Ky) : Bnd (dropP c k).1 := by
 rcases fnd_lt c.pages k with hf | ⟨i, p, hf, hp, hpk⟩
 ·rw [drop_no hf]; exact h
 ·rw [drop_at hf]; exact h.goes hp
theorem step_ex {c : Clk} (h : Bnd c) (x : Int) : ∃ d, stepP c x = some d ∧ Bnd d.1 ∧ d.1.most = c.most := by
 obtain ⟨d, hd⟩ := admit_ex (keyP (x / 8)) h.I
 have hA := h.admits (by decide) hd
 unfold stepP
 split
 ·exact ⟨d, hd, hA.b, hA.m⟩
 ·split
  ·exact ⟨_, rfl, h.touch _, touch_mostS _ _⟩
  ·split
   ·exact ⟨_, rfl, h.pin _ _, pin_mostS _ _ _⟩
   ·split
    ·exact ⟨d, hd, hA.b, hA.m⟩
    ·exact ⟨_, rfl, h.drop _, drop_mostS _ _⟩
/-- what hangs on key and pins of all pages -/
def AllP (so : Ky → Int → Prop) (c : Clk) : Prop := ∀ p ∈ c.pages, so p.key p.pins
theorem AllP.touch {so : Ky → Int → Prop} {c : Clk} (h : AllP so c) (k : Ky) : AllP so (touchP c k).1 := by
 rcases fnd_lt c.pages k with hf | ⟨i, p, hf, hp, hpk⟩
 ·rw [touch_no hf]; exact h
 ·rw [touch_at hf hp]
  split
  ·intro y hy
   rcases List.mem_or_eq_of_mem_set hy with hy | hy
   ·exact h y hy
   ·subst hy; exact h p (List.mem_of_getElem? hp)
  ·exact h
theorem AllP.goes {so : Ky → Int → Prop} {c : Clk} (h : AllP so c) (i : Nat) : AllP so (goesP c i) := by
 intro q hq
 rcases List.mem_append.1 hq with hq | hq
 ·exact h q (List.mem_of_mem_take hq)
 ·exact h q (List.mem_of_mem_drop hq)
theorem AllP.drop {so : Ky → Int → Prop} {c : Clk} (h : AllP so c) (k : Ky) : AllP so (dropP c k).1 := by
 rcases fnd_lt c.pages k with hf | ⟨i, p, hf, hp, hpk⟩
 ·rw [drop_no hf]; exact h
 ·rw [drop_at hf]; exact h.goes i
theorem AllP.admits {so : Ky → Int → Prop} {n : Nat} {c : Clk} {k : Ky} {d : Clk × List Ky × Bool} (h : AllP so c) (hk : so k 0) (e : admitP n c k = some d) : AllP so d.1 := by
 unfold admitP at e
 split at e
 ·cases e; exact h.touch k
 ·split at e
  ·cases e; exact h
  ·have hg : AllP so (goneP c (fndK c.pages k)) := by
    unfold goneP
    split
    ·exact h.goes _
    ·exact h
   cases hx : outL n (goneP c (fndK c.pages k)) [] with
   | none => rw [hx] at e; cases e
   | some r =>
    rw [hx] at e
    simp only [Option.bind_some] at e
    obtain ⟨c', hy, he⟩ := Option.map_eq_some_iff.1 e
    subst he
    refine coolL_I (cloAll so) n _ c' ?_ hy
    intro q hq
    rcases mem_comes.1 hq with e | hq
    ·rw [e]; exact hk
    ·exact outL_I (cloAll so) n _ [] r hg hx q hq
theorem AllP.pin {so so' : Ky → Int → Prop} {c : Clk} (h : AllP so c) (k : Ky) (n : Int) (h1 : ∀ x v, so x v → so' x v) (h2 : ∀ x v, so x v → so' x (max (IntKind.i64.wrap (v + n)) 0)) : AllP so' (pinP c k n).1 := by
 have h0 : AllP so' c := fun p hp => h1 _ _ (h p hp)
 rcases fnd_lt c.pages k with hf | ⟨i, p, hf, hp, hpk⟩
 ·rw [pin_no hf]; exact h0
 ·rw [pin_at hf hp]
  split
  ·intro y hy
   rcases List.mem_or_eq_of_mem_set hy with hy | hy
   ·exact h0 y hy
   ·subst hy; exact h2 _ _ (h p (List.mem_of_getElem? hp))
  ·exact h0
/-- few pins, keys of few -/
def PK (m : Int) (k : Ky) (v : Int) : Prop := k.a ≤ 1 ∧ 0 ≤ v ∧ v ≤ m
theorem wrap_small {v n : Int} (h1 : 0 ≤ v) (h2 : v ≤ 1000000) (h3 : -1000000 ≤ n) (h4 : n ≤ 1000000) : IntKind.i64.wrap (v + n) = v + n :=
 wrap_i64 ⟨by omega, by omega⟩
theorem PK.step {c d : Clk} {out : List Ky} {ok : Bool} {m x : Int} (h : AllP (PK m) c) (h0 : 0 ≤ m) (hm : m ≤ 1000) (e : stepP c x = some (d, out, ok)) : AllP (PK (m + 2)) d := by
 have up : ∀ k v, PK m k v → PK (m + 2) k v := fun k v h => ⟨h.1, h.2.1, by have := h.2.2; omega⟩
 have h' : AllP (PK (m + 2)) c := fun p hp => up _ _ (h p hp)
 have hk : PK (m + 2) (keyP (x / 8)) 0 := ⟨by unfold keyP; dsimp only; omega, by omega, by omega⟩
 unfold stepP at e
 split at e
 ·exact h'.admits hk e
 ·split at e
  ·cases e; exact h'.touch _
  ·split at e
   ·cases e
    refine h.pin _ _ up (fun k v hv => ?_)
    obtain ⟨a1, a2, a3⟩ := hv
    rw [wrap_small a2 (by omega) (by omega) (by omega)]
    refine ⟨a1, by omega, by omega⟩
   ·split at e
    ·exact h'.admits hk e
    ·cases e; exact h'.drop _
/-- the next ring of a script, and the ring behind all of it -/
def nextP (c : Clk) (x : Int) : Clk := ((stepP c x).map (·.1)).getD c
def clockP (m : Int) (l : List Int) : Clk := l.foldl nextP (newP (m % (7 + 1) + 1))
theorem newP_S {m : Int} (h1 : 1 ≤ m) (h2 : m ≤ 8) : newP m = ⟨m, 1, [], 0, 0, 0⟩ := by unfold newP; rw [show min (max m 1) 1000 = m by omega]
end Go.Proofs.Ytbebhmdjnneimaa
/- A ring of which all that are resident have pins; then one has none. -/
set_option linter.unusedSimpArgs false
set_option linter.unusedVariables false
set_option maxRecDepth 20000
namespace Go.Proofs.Ytbebhmdjnneimaa
open Go
/-- one alone has no pins -/
def One (f : Ky) (c : Clk) : Prop := ∀ p ∈ c.pages, p.kind = 3 ∨ 0 < p.pins ∨ p.key = f
/-- a page with a pin more -/
def upP (p : Pg) : Pg := if isRes p = true then { p with pins := p.pins + 1 } else p
def upA (c : Clk) (j : Nat) : Clk := { c with pages := (c.pages.take j).map upP ++ c.pages.drop j }
theorem cnt_take1 {so : Pg → Bool} {L : List Pg} {j : Nat} {p : Pg} (hp : L[j]? = some p) : cnt so (L.take (j + 1)) = cnt so (L.take j) + if so p = true then 1 else 0 := by
 unfold cnt
 rw [List.take_add_one, hp, Option.toList_some, List.countP_append, List.countP_singleton]
theorem cnt_take_le {so : Pg → Bool} (L : List Pg) (j : Nat) : cnt so (L.take j) ≤ cnt so L := by
 have : cnt so L = cnt so (L.take j) + cnt so (L.drop j) := by
  unfold cnt
  rw [← List.countP_append, List.take_append_drop]
 omega
end Go.Proofs.Ytbebhmdjnneimaa
