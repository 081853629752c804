/- A script of a ring, plainly; what stays true of keys and pins. -/
import Derived.Test.YtdpnpipninggeaaClkKey
import Derived.Test.YtdpnpipninggeaaClkInv
set_option linter.unusedSimpArgs false
set_option linter.unusedVariables false
set_option maxRecDepth 20000
namespace Go.Proofs.Ytdpnpipninggeaa
open Go
def stepP (c : Clk) (x : Int) : Option (Clk × List Ky × Bool) :=
 if x % (7 + 1) < 3 then admitP 1000000 c (keyP (x / 8))
 else if x % (7 + 1) < 5 then some ((touchP c (keyP (x / 8))).1, [], (touchP c (keyP (x / 8))).2)
 else if x % (7 + 1) < 7 then some ((pinP c (keyP (x / 8)) (x / 256 % (3 + 1) - 1 - x % (1 + 1))).1, [], (pinP c (keyP (x / 8)) (x / 256 % (3 + 1) - 1 - x % (1 + 1))).2)
 else if 0 < x / 256 % (3 + 1) then admitP 1000000 c (keyP (x / 8))
 else some ((dropP c (keyP (x / 8))).1, [], (dropP c (keyP (x / 8))).2)
theorem pin_mostS (c : Clk) (k : Ky) (n : Int) : (pinP c k n).1.most = c.most := by
 rcases fnd_lt c.pages k with hf | ⟨i, p, hf, hp, hpk⟩
 ·rw [pin_no hf]
 ·rw [pin_at hf hp]; split <;> rfl
theorem Bnd.goes {c : Clk} (h : Bnd c) {i : Nat} {p : Pg} (hp : c.pages[i]? = some p) : Bnd (goesP c i) := by
 have hW := h.w.goes hp
 have a1 := h.rs
 have a2 := h.ht
 have b1 := cnt_del_le (so := isRes) hp
 have b2 := cnt_del_le (so := isHot) hp
 refine ⟨hW.R, hW.m1, h.m2, hW.t1, hW.tm, ?_, hW.ts, ?_, hW.bk, hW.bn, hW.bt, hW.ky⟩
 ·show (cnt isRes (c.pages.take i ++ c.pages.drop (i + 1)) : Int) ≤ c.most; omega
 ·show (cnt isHot (c.pages.take i ++ c.pages.drop (i + 1)) : Int) ≤ c.most - c.target; omega
theorem Bnd.drop {c : Clk} (h : Bnd c) (k : Ky) : Bnd (dropP c k).1 := by
 rcases fnd_lt c.pages k with hf | ⟨i, p, hf, hp, hpk⟩
 ·rw [drop_no hf]; exact h
 ·rw [drop_at hf]; exact h.goes hp
/-- what hangs on key and pins of all pages -/
def AllP (so : Ky → Int → Prop) (c : Clk) : Prop := ∀ p ∈ c.pages, so p.key p.pins
theorem AllP.touch {so : Ky → Int → Prop} {c : Clk} (h : AllP so c) (k : Ky) : AllP so (touchP c k).1 := by
 rcases fnd_lt c.pages k with hf | ⟨i, p, hf, hp, hpk⟩
 ·rw [touch_no hf]; exact h
 ·rw [touch_at hf hp]
  split
  ·intro y hy
   rcases List.mem_or_eq_of_mem_set hy with hy | hy
   ·exact h y hy
   ·subst hy; exact h p (List.mem_of_getElem? hp)
  ·exact h
theorem AllP.goes {so : Ky → Int → Prop} {c : Clk} (h : AllP so c) (i : Nat) : AllP so (goesP c i) := by
 intro q hq
 rcases List.mem_append.1 hq with hq | hq
 ·exact h q (List.mem_of_mem_take hq)
 ·exact h q (List.mem_of_mem_drop hq)
theorem AllP.drop {so : Ky → Int → Prop} {c : Clk} (h : AllP so c) (k : Ky) : AllP so (dropP c k).1 := by
 rcases fnd_lt c.pages k with hf | ⟨i, p, hf, hp, hpk⟩
 ·rw [drop_no hf]; exact h
 ·rw [drop_at hf]; exact h.goes i
theorem AllP.admits {so : Ky → Int → Prop} {n : Nat} {c : Clk} {k : Ky} {d : Clk × List Ky × Bool} (h : AllP so c) (hk : so k 0) (e : admitP n c k = some d) : AllP so d.1 := by
 unfold admitP at e
 split at e
 ·cases e; exact h.touch k
 ·split at e
  ·cases e; exact h
  ·have hg : AllP so (goneP c (fndK c.pages k)) := by
    unfold goneP
    split
    ·exact h.goes _
    ·exact h
   cases hx : outL n (goneP c (fndK c.pages k)) [] with
   | none => rw [hx] at e; cases e
   | some r =>
    rw [hx] at e
    simp only [Option.bind_some] at e
    obtain ⟨c', hy, he⟩ := Option.map_eq_some_iff.1 e
    subst he
    refine coolL_I (cloAll so) n _ c' ?_ hy
    intro q hq
    rcases mem_comes.1 hq with e | hq
    ·rw [e]; exact hk
    ·exact outL_I (cloAll so) n _ [] r hg hx q hq
theorem AllP.pin {so so' : Ky → Int → Prop} {c : Clk} (h : AllP so c) (k : Ky) (n : Int) (h1 : ∀ x v, so x v → so' x v) (h2 : ∀ x v, so x v → so' x (max (IntKind.i64.wrap (v + n)) 0)) : AllP so' (pinP c k n).1 := by
 have h0 : AllP so' c := fun p hp => h1 _ _ (h p hp)
 rcases fnd_lt c.pages k with hf | ⟨i, p, hf, hp, hpk⟩
 ·rw [pin_no hf]; exact h0
 ·rw [pin_at hf hp]
  split
  ·intro y hy
   rcases List.mem_or_eq_of_mem_set hy with hy | hy
   ·exact h0 y hy
   ·subst hy; exact h2 _ _ (h p (List.mem_of_getElem? hp))
  ·exact h0
/-- few pins, keys of few -/
def PK (m : Int) (k : Ky) (v : Int) : Prop := k.a ≤ 1 ∧ 0 ≤ v ∧ v ≤ m
theorem wrap_small {v n : Int} (h1 : 0 ≤ v) (h2 : v ≤ 1000000) (h3 : -1000000 ≤ n) (h4 : n ≤ 1000000) : IntKind.i64.wrap (v + n) = v + n :=
 wrap_i64 ⟨by omega, by omega⟩
theorem PK.step {c d : Clk} {out : List Ky} {ok : Bool} {m x : Int} (h : AllP (PK m) c) (h0 : 0 ≤ m) (hm : m ≤ 1000) (e : stepP c x = some (d, out, ok)) : AllP (PK (m + 2)) d := by
 have up : ∀ k v, PK m k v → PK (m + 2) k v := fun k v h => ⟨h.1, h.2.1, by have := h.2.2; omega⟩
 have h' : AllP (PK (m + 2)) c := fun p hp => up _ _ (h p hp)
 have hk : PK (m + 2) (keyP (x / 8)) 0 := ⟨by unfold keyP; dsimp only; omega, by omega, by omega⟩
 unfold stepP at e
 split at e
 ·exact h'.admits hk e
 ·split at e
  ·cases e; exact h'.touch _
  ·split at e
   ·cases e
    refine h.pin _ _ up (fun k v hv => ?_)
    obtain ⟨a1, a2, a3⟩ := hv
    rw [wrap_small a2 (by omega) (by omega) (by omega)]
    refine ⟨a1, by omega, by omega⟩
   ·split at e
    ·exact h'.admits hk e
    ·cases e; exact h'.drop _
/-- the next ring of a script, and the ring behind all of it -/
def nextP (c : Clk) (x : Int) : Clk := ((stepP c x).map (·.1)).getD c
def clockP (m : Int) (l : List Int) : Clk := l.foldl nextP (newP (m % (7 + 1) + 1))
theorem newP_S {m : Int} (h1 : 1 ≤ m) (h2 : m ≤ 8) : newP m = ⟨m, 1, [], 0, 0, 0⟩ := by unfold newP; rw [show min (max m 1) 1000 = m by omega]
end Go.Proofs.Ytdpnpipninggeaa
/- A ring of which all that are resident have pins; then one has none. -/
set_option linter.unusedSimpArgs false
set_option linter.unusedVariables false
set_option maxRecDepth 20000
namespace Go.Proofs.Ytdpnpipninggeaa
open Go
theorem fnd_no {L : List Pg} {k : Ky} (h : ∀ p ∈ L, p.key ≠ k) : fndK L k = -1 := by
 rcases fnd_lt L k with e | ⟨i, p, _, hp, hk⟩
 ·exact e
 ·exact absurd hk (h p (List.mem_of_getElem? hp))
theorem admit_full {n : Nat} {c : Clk} {k : Ky} (hf : fndK c.pages k = -1) (h1 : c.most ≤ (cnt isRes c.pages : Int)) (h2 : cnt isFree c.pages = 0) : admitP n c k = some (c, [], false) := by
 unfold admitP
 rw [touch_no hf, if_neg (fun h => by cases h), if_pos ⟨h1, h2⟩]
/-- one alone has no pins -/
def One (f : Ky) (c : Clk) : Prop := ∀ p ∈ c.pages, p.kind = 3 ∨ 0 < p.pins ∨ p.key = f
theorem cloOne (f : Ky) : Clo (One f) where
 goes c i p h _ _ := by
  intro q hq
  rcases List.mem_append.1 hq with hq | hq
  ·exact h q (List.mem_of_mem_take hq)
  ·exact h q (List.mem_of_mem_drop hq)
 aim c d h := h
 set c i p q h hp e1 e2 e3 e4 := by
  intro y hy
  rcases List.mem_or_eq_of_mem_set hy with hy | hy
  ·exact h y hy
  ·subst hy
   rcases h p (List.mem_of_getElem? hp) with a | a | a
   ·exact .inl (e4 a)
   ·exact .inr (.inl (by rw [e2]; exact a))
   ·exact .inr (.inr (e1.trans a))
 hot c h _ := h
 cold c h _ := h
 test c h _ := h
theorem coldL_one {f : Ky} : ∀ (n : Nat) (c : Clk) (r : Clk × Ky), One f c → coldL n c = some r → r.2 = f
 | 0, c, r, _, e => by cases e
 | n + 1, c, r, h, e => by
  have S := cloOne f
  unfold coldL at e
  cases hx : freeL n c with
  | none => rw [hx] at e; cases e
  | some x =>
   rw [hx] at e
   simp only [Option.bind_some] at e
   have h' := freeL_I S n c x h hx
   split at e
   ·cases e
   ·rename_i p hp
    split at e
    ·exact coldL_one n { x with cold := onP x x.cold } r h' e
    ·rename_i hcf
     obtain ⟨k2, kp⟩ := isCold_of hcf
     split at e
     ·cases hy : coolL n { setP x x.cold { p with kind := 1, ref := false, trial := false } with cold := onP x x.cold } with
      | none => rw [hy] at e; cases e
      | some y =>
       rw [hy] at e
       exact coldL_one n y r (coolL_I S n _ y (S.setCold (q := { p with kind := 1, ref := false, trial := false }) h' hp rfl rfl (fun h => by cases h) (fun h => by rw [k2] at h; cases h)) hy) e
     ·split at e
      ·exact coldL_one n { setP x x.cold { p with ref := false, trial := true } with cold := onP x x.cold } r (S.setCold (q := { p with ref := false, trial := true }) h' hp rfl rfl (fun h => by rw [show p.kind = 3 from h] at k2; cases k2) (fun h => by rw [k2] at h; cases h)) e
      ·unfold putP at e
       rw [hp] at e
       simp only [] at e
       obtain ⟨y, _, he⟩ := Option.map_eq_some_iff.1 e
       subst he
       rcases h' p (List.mem_of_getElem? hp) with a | a | a
       ·omega
       ·omega
       ·exact a
/-- a page with a pin more -/
def upP (p : Pg) : Pg := if isRes p = true then { p with pins := p.pins + 1 } else p
def upA (c : Clk) (j : Nat) : Clk := { c with pages := (c.pages.take j).map upP ++ c.pages.drop j }
theorem off_cnt {c : Clk} {i : Nat} {q : Pg} (hq : c.pages[i]? = some q) (hr : isRes q = true) : cnt isRes (setP c i { q with pins := 0 }).pages = cnt isRes c.pages ∧ cnt isFree (setP c i { q with pins := 0 }).pages ≠ 0 := by
 refine ⟨cnt_set_eq hq rfl, ?_⟩
 have := cnt_set (so := isFree) (q := { q with pins := 0 }) hq
 have hfr : isFree { q with pins := 0 } = true := by
  unfold isFree
  rw [show isRes { q with pins := 0 } = isRes q from rfl, hr]; rfl
 rw [hfr, if_pos rfl] at this
 have h2 : (if isFree q = true then 1 else 0) ≤ cnt isFree c.pages := by
  split
  ·rename_i hf
   have : 0 < cnt isFree c.pages := List.countP_pos_iff.2 ⟨q, List.mem_of_getElem? hq, hf⟩
   omega
  ·exact Nat.zero_le _
 show cnt isFree (c.pages.set i { q with pins := 0 }) ≠ 0
 omega
end Go.Proofs.Ytdpnpipninggeaa
