/- A script of a ring, plainly; what stays true of keys and pins. -/
import Derived.Test.YtbebhmdjnneimaaClkKey
import Derived.Test.YtbebhmdjnneimaaClkInv
set_option linter.unusedSimpArgs false
set_option linter.unusedVariables false
set_option maxRecDepth 20000
namespace Go.Proofs.Ytbebhmdjnneimaa
open Go
def stepP (c : Clk) (x : Int) : Option (Clk × List Ky × Bool) :=
 if x % (7 + 1) < 3 then admitP 1000000 c (keyP (x / 8))
 else if x % (7 + 1) < 5 then some ((touchP c (keyP (x / 8))).1, [], (touchP c (keyP (x / 8))).2)
 else if x % (7 + 1) < 7 then some ((pinP c (keyP (x / 8)) (x / 256 % (3 + 1) - 1 - x % (1 + 1))).1, [], (pinP c (keyP (x / 8)) (x / 256 % (3 + 1) - 1 - x % (1 + 1))).2)
 else if 0 < x / 256 % (3 + 1) then admitP 1000000 c (keyP (x / 8))
 else some ((dropP c (keyP (x / 8))).1, [], (dropP c (keyP (x / 8))).2)
theorem touch_mostS (c : Clk) (k : Ky) : (touchP c k).1.most = c.most := by
 rcases fnd_lt c.pages k with hf | ⟨i, p, hf, hp, hpk⟩
 ·rw [touch_no hf]
 ·rw [touch_at hf hp]; split <;> rfl
theorem pin_mostS (c : Clk) (k : Ky) (n : Int) : (pinP c k n).1.most = c.most := by
 rcases fnd_lt c.pages k with hf | ⟨i, p, hf, hp, hpk⟩
 ·rw [pin_no hf]
 ·rw [pin_at hf hp]; split <;> rfl
theorem drop_mostS (c : Clk) (k : Ky) : (dropP c k).1.most = c.most := by
 rcases fnd_lt c.pages k with hf | ⟨i, p, hf, hp, hpk⟩
 ·rw [drop_no hf]
 ·rw [drop_at hf]; rfl
theorem Bnd.goes {c : Clk} (h : Bnd c) {i : Nat} {p : Pg} (hp : c.pages[i]? = some p) : Bnd (goesP c i) := by
 have hW := h.w.goes hp
 have a1 := h.rs
 have a2 := h.ht
 have b1 := cnt_del_le (so := isRes) hp
 have b2 := cnt_del_le (so := isHot) hp
 refine ⟨hW.R, hW.m1, h.m2, hW.t1, hW.tm, ?_, hW.ts, ?_, hW.bk, hW.bn, hW.bt, hW.ky⟩
 ·show (cnt isRes (c.pages.take i ++ c.pages.drop (i + 1)) : Int) ≤ c.most; omega
 ·show (cnt isHot (c.pages.take i ++ c.pages.drop (i + 1)) : Int) ≤ c.most - c.target; omega
theorem Bnd.drop {c : Clk} (h : Bnd c) (k : Ky) : Bnd (dropP c k).1 := by
 rcases fnd_lt c.pages k with hf | ⟨i, p, hf, hp, hpk⟩
 ·rw [drop_no hf]; exact h
 ·rw [drop_at hf]; exact h.goes hp
theorem step_ex {c : Clk} (h : Bnd c) (x : Int) : ∃ d, stepP c x = some d ∧ Bnd d.1 ∧ d.1.most = c.most := by
 obtain ⟨d, hd⟩ := admit_ex (keyP (x / 8)) h.I
 have hA := h.admits (by decide) hd
 unfold stepP
 split
 ·exact ⟨d, hd, hA.b, hA.m⟩
 ·split
  ·exact ⟨_, rfl, h.touch _, touch_mostS _ _⟩
  ·split
   ·exact ⟨_, rfl, h.pin _ _, pin_mostS _ _ _⟩
   ·split
    ·exact ⟨d, hd, hA.b, hA.m⟩
    ·exact ⟨_, rfl, h.drop _, drop_mostS _ _⟩
/-- what hangs on key and pins of all pages -/
def AllP (so : Ky → Int → Prop) (c : Clk) : Prop := ∀ p ∈ c.pages, so p.key p.pins
theorem AllP.touch {so : Ky → Int → Prop} {c : Clk} (h : AllP so c) (k : Ky) : AllP so (touchP c k).1 := by
 rcases fnd_lt c.pages k with hf | ⟨i, p, hf, hp, hpk⟩
 ·rw [touch_no hf]; exact h
 ·rw [touch_at hf hp]
  split
  ·intro y hy
   rcases List.mem_or_eq_of_mem_set hy with hy | hy
   ·exact h y hy
   ·subst hy; exact h p (List.mem_of_getElem? hp)
  ·exact h
theorem AllP.goes {so : Ky → Int → Prop} {c : Clk} (h : AllP so c) (i : Nat) : AllP so (goesP c i) := by
 intro q hq
 rcases List.mem_append.1 hq with hq | hq
 ·exact h q (List.mem_of_mem_take hq)
 ·exact h q (List.mem_of_mem_drop hq)
theorem AllP.drop {so : Ky → Int → Prop} {c : Clk} (h : AllP so c) (k : Ky) : AllP so (dropP c k).1 := by
 rcases fnd_lt c.pages k with hf | ⟨i, p, hf, hp, hpk⟩
 ·rw [drop_no hf]; exact h
 ·rw [drop_at hf]; exact h.goes i
theorem AllP.admits {so : Ky → Int → Prop} {n : Nat} {c : Clk} {k : Ky} {d : Clk × List Ky × Bool} (h : AllP so c) (hk : so k 0) (e : admitP n c k = some d) : AllP so d.1 := by
 unfold admitP at e
 split at e
 ·cases e; exact h.touch k
 ·split at e
  ·cases e; exact h
  ·have hg : AllP so (goneP c (fndK c.pages k)) := by
    unfold goneP
    split
    ·exact h.goes _
    ·exact h
   cases hx : outL n (goneP c (fndK c.pages k)) [] with
   | none => rw [hx] at e; cases e
   | some r =>
    rw [hx] at e
    simp only [Option.bind_some] at e
    obtain ⟨c', hy, he⟩ := Option.map_eq_some_iff.1 e
    subst he
    refine coolL_I (cloAll so) n _ c' ?_ hy
    intro q hq
    rcases mem_comes.1 hq with e | hq
    ·rw [e]; exact hk
    ·exact outL_I (cloAll so) n _ [] r hg hx q hq
theorem AllP.pin {so so' : Ky → Int → Prop} {c : Clk} (h : AllP so c) (k : Ky) (n : Int) (h1 : ∀ x v, so x v → so' x v) (h2 : ∀ x v, so x v → so' x (max (IntKind.i64.wrap (v + n)) 0)) : AllP so' (pinP c k n).1 := by
 have h0 : AllP so' c := fun p hp => h1 _ _ (h p hp)
 rcases fnd_lt c.pages k with hf | ⟨i, p, hf, hp, hpk⟩
 ·rw [pin_no hf]; exact h0
 ·rw [pin_at hf hp]
  split
  ·intro y hy
   rcases List.mem_or_eq_of_mem_set hy with hy | hy
   ·exact h0 y hy
   ·subst hy; exact h2 _ _ (h p (List.mem_of_getElem? hp))
  ·exact h0
/-- few pins, keys of few -/
def PK (m : Int) (k : Ky) (v : Int) : Prop := k.a ≤ 1 ∧ 0 ≤ v ∧ v ≤ m
theorem wrap_small {v n : Int} (h1 : 0 ≤ v) (h2 : v ≤ 1000000) (h3 : -1000000 ≤ n) (h4 : n ≤ 1000000) : IntKind.i64.wrap (v + n) = v + n :=
 wrap_i64 ⟨by omega, by omega⟩
theorem PK.step {c d : Clk} {out : List Ky} {ok : Bool} {m x : Int} (h : AllP (PK m) c) (h0 : 0 ≤ m) (hm : m ≤ 1000) (e : stepP c x = some (d, out, ok)) : AllP (PK (m + 2)) d := by
 have up : ∀ k v, PK m k v → PK (m + 2) k v := fun k v h => ⟨h.1, h.2.1, by have := h.2.2; omega⟩
 have h' : AllP (PK (m + 2)) c := fun p hp => up _ _ (h p hp)
 have hk : PK (m + 2) (keyP (x / 8)) 0 := ⟨by unfold keyP; dsimp only; omega, by omega, by omega⟩
 unfold stepP at e
 split at e
 ·exact h'.admits hk e
 ·split at e
  ·cases e; exact h'.touch _
  ·split at e
   ·cases e
    refine h.pin _ _ up (fun k v hv => ?_)
    obtain ⟨a1, a2, a3⟩ := hv
    rw [wrap_small a2 (by omega) (by omega) (by omega)]
    refine ⟨a1, by omega, by omega⟩
   ·split at e
    ·exact h'.admits hk e
    ·cases e; exact h'.drop _
/-- the next ring of a script, and the ring behind all of it -/
def nextP (c : Clk) (x : Int) : Clk := ((stepP c x).map (·.1)).getD c
theorem next_of {c : Clk} {x : Int} {d : Clk × List Ky × Bool} (e : stepP c x = some d) : nextP c x = d.1 := by unfold nextP; rw [e]; rfl
def clockP (m : Int) (l : List Int) : Clk := l.foldl nextP (newP (m % (7 + 1) + 1))
theorem clock_take {m : Int} {l : List Int} {i : Nat} {x : Int} (hx : l[i]? = some x) : clockP m (l.take (i + 1)) = nextP (clockP m (l.take i)) x := by
 unfold clockP
 rw [List.take_add_one, hx, Option.toList_some, List.foldl_append]; rfl
theorem newP_S {m : Int} (h1 : 1 ≤ m) (h2 : m ≤ 8) : newP m = ⟨m, 1, [], 0, 0, 0⟩ := by unfold newP; rw [show min (max m 1) 1000 = m by omega]
theorem clock_B (m : Int) (l : List Int) : Bnd (clockP m l) := by
 suffices ∀ (l : List Int) (c : Clk), Bnd c → Bnd (l.foldl nextP c) from this l _ (by rw [newP_S (by omega) (by omega)]; exact Bnd.new _ (by omega) (by omega))
 intro l
 induction l with
 | nil => exact fun c h => h
 | cons x l ih =>
  intro c h
  obtain ⟨d, hd, hb, _⟩ := step_ex h x
  rw [List.foldl_cons, next_of hd]
  exact ih _ hb
theorem clock_PK (m : Int) : ∀ (l : List Int), l.length ≤ 80 → AllP (PK 160) (clockP m l) := by
 suffices ∀ (l : List Int) (c : Clk) (v : Int), 0 ≤ v → v + 2 * l.length ≤ 160 → Bnd c → AllP (PK v) c → AllP (PK 160) (l.foldl nextP c) from fun l hl => this l _ 0 (by omega) (by omega) (by rw [newP_S (by omega) (by omega)]; exact Bnd.new _ (by omega) (by omega)) (fun p hp => by cases hp)
 intro l
 induction l with
 | nil => exact fun c v h0 hv hb h p hp => ⟨(h p hp).1, (h p hp).2.1, by have := (h p hp).2.2; simp at hv; omega⟩
 | cons x l ih =>
  intro c v h0 hv hb h
  obtain ⟨⟨d, out, ok⟩, hd, hb', _⟩ := step_ex hb x
  rw [List.foldl_cons, next_of hd]
  simp at hv
  exact ih _ (v + 2) (by omega) (by omega) hb' (PK.step h h0 (by omega) hd)
end Go.Proofs.Ytbebhmdjnneimaa
/- A ring of which all that are resident have pins; then one has none. -/
set_option linter.unusedSimpArgs false
set_option linter.unusedVariables false
set_option maxRecDepth 20000
namespace Go.Proofs.Ytbebhmdjnneimaa
open Go
theorem fnd_no {L : List Pg} {k : Ky} (h : ∀ p ∈ L, p.key ≠ k) : fndK L k = -1 := by
 rcases fnd_lt L k with e | ⟨i, p, _, hp, hk⟩
 ·exact e
 ·exact absurd hk (h p (List.mem_of_getElem? hp))
theorem admit_full {n : Nat} {c : Clk} {k : Ky} (hf : fndK c.pages k = -1) (h1 : c.most ≤ (cnt isRes c.pages : Int)) (h2 : cnt isFree c.pages = 0) : admitP n c k = some (c, [], false) := by
 unfold admitP
 rw [touch_no hf, if_neg (fun h => by cases h), if_pos ⟨h1, h2⟩]
theorem admit_room {n : Nat} {c : Clk} {k : Ky} {d : Clk × List Ky × Bool} (hf : fndK c.pages k = -1) (h1 : (cnt isRes c.pages : Int) < c.most) (hn : 0 < n) (e : admitP n c k = some d) : d.2.1 = [] ∧ d.2.2 = true := by
 obtain ⟨n, rfl⟩ : ∃ m, n = m + 1 := ⟨n - 1, by omega⟩
 unfold admitP at e
 rw [touch_no hf, if_neg (fun h => by cases h), if_neg (fun h => by omega)] at e
 unfold goneP at e
 rw [hf, if_neg (by omega), outL_s, if_neg (by omega)] at e
 simp only [Option.bind_some] at e
 obtain ⟨c', hy, he⟩ := Option.map_eq_some_iff.1 e
 subst he
 exact ⟨rfl, rfl⟩
/-- one alone has no pins -/
def One (f : Ky) (c : Clk) : Prop := ∀ p ∈ c.pages, p.kind = 3 ∨ 0 < p.pins ∨ p.key = f
theorem cloOne (f : Ky) : Clo (One f) where
 goes c i p h _ _ := by
  intro q hq
  rcases List.mem_append.1 hq with hq | hq
  ·exact h q (List.mem_of_mem_take hq)
  ·exact h q (List.mem_of_mem_drop hq)
 aim c d h := h
 set c i p q h hp e1 e2 e3 e4 := by
  intro y hy
  rcases List.mem_or_eq_of_mem_set hy with hy | hy
  ·exact h y hy
  ·subst hy
   rcases h p (List.mem_of_getElem? hp) with a | a | a
   ·exact .inl (e4 a)
   ·exact .inr (.inl (by rw [e2]; exact a))
   ·exact .inr (.inr (e1.trans a))
 hot c h _ := h
 cold c h _ := h
 test c h _ := h
theorem coldL_one {f : Ky} : ∀ (n : Nat) (c : Clk) (r : Clk × Ky), One f c → coldL n c = some r → r.2 = f
 | 0, c, r, _, e => by cases e
 | n + 1, c, r, h, e => by
  have S := cloOne f
  unfold coldL at e
  cases hx : freeL n c with
  | none => rw [hx] at e; cases e
  | some x =>
   rw [hx] at e
   simp only [Option.bind_some] at e
   have h' := freeL_I S n c x h hx
   split at e
   ·cases e
   ·rename_i p hp
    split at e
    ·exact coldL_one n { x with cold := onP x x.cold } r h' e
    ·rename_i hcf
     obtain ⟨k2, kp⟩ := isCold_of hcf
     split at e
     ·cases hy : coolL n { setP x x.cold { p with kind := 1, ref := false, trial := false } with cold := onP x x.cold } with
      | none => rw [hy] at e; cases e
      | some y =>
       rw [hy] at e
       exact coldL_one n y r (coolL_I S n _ y (S.setCold (q := { p with kind := 1, ref := false, trial := false }) h' hp rfl rfl (fun h => by cases h) (fun h => by rw [k2] at h; cases h)) hy) e
     ·split at e
      ·exact coldL_one n { setP x x.cold { p with ref := false, trial := true } with cold := onP x x.cold } r (S.setCold (q := { p with ref := false, trial := true }) h' hp rfl rfl (fun h => by rw [show p.kind = 3 from h] at k2; cases k2) (fun h => by rw [k2] at h; cases h)) e
      ·unfold putP at e
       rw [hp] at e
       simp only [] at e
       obtain ⟨y, _, he⟩ := Option.map_eq_some_iff.1 e
       subst he
       rcases h' p (List.mem_of_getElem? hp) with a | a | a
       ·omega
       ·omega
       ·exact a
theorem admit_one {c : Clk} {k f : Ky} {d : Clk × List Ky × Bool} (h : Bnd c) (hf : fndK c.pages k = -1) (h1 : c.most = (cnt isRes c.pages : Int)) (h2 : cnt isFree c.pages ≠ 0) (ho : One f c) (e : admitP 1000000 c k = some d) : d.2.1 = [f] ∧ d.2.2 = true := by
 unfold admitP at e
 rw [touch_no hf, if_neg (fun h => by cases h), if_neg (fun h => h2 h.2)] at e
 unfold goneP at e
 rw [hf, if_neg (by omega), show (1000000 : Nat) = 999999 + 1 from rfl, outL_s, if_pos (by omega)] at e
 have hlr : cnt isRef c.pages ≤ c.pages.length := List.countP_le_length
 have hw := way_le isCold c.pages c.cold
 have hln := h.len
 obtain ⟨r, e1, hc⟩ := coldL_ex 90000 999999 c h.R (by omega) (by have := h.m1; omega) h.tm h2 (by unfold coldM; split <;> omega) (by omega)
 have hk := coldL_one _ _ _ ho e1
 have hm : r.1.most = c.most := coldL_I (cloMost c.most) 999999 c r rfl e1
 rw [e1] at e
 simp only [Option.bind_some] at e
 rw [show (999999 : Nat) = 999998 + 1 from rfl, outL_s, if_neg (by omega)] at e
 simp only [Option.bind_some] at e
 obtain ⟨c', hy, he⟩ := Option.map_eq_some_iff.1 e
 subst he
 exact ⟨by show [] ++ [r.2] = [f]; rw [hk]; rfl, rfl⟩
/-- a page with a pin more -/
def upP (p : Pg) : Pg := if isRes p = true then { p with pins := p.pins + 1 } else p
def upA (c : Clk) (j : Nat) : Clk := { c with pages := (c.pages.take j).map upP ++ c.pages.drop j }
theorem upP_key (p : Pg) : (upP p).key = p.key := by unfold upP; split <;> rfl
theorem upP_kind (p : Pg) : (upP p).kind = p.kind := by unfold upP; split <;> rfl
theorem upP_res (p : Pg) : isRes (upP p) = isRes p := by unfold isRes; rw [upP_kind]
theorem upA_zero (c : Clk) : upA c 0 = c := by unfold upA; rfl
theorem upA_all (c : Clk) : upA c c.pages.length = { c with pages := c.pages.map upP } := by unfold upA; rw [List.take_length, List.drop_length, List.append_nil]
theorem upA_keys (c : Clk) (j : Nat) : (upA c j).pages.map Pg.key = c.pages.map Pg.key := by
 unfold upA
 dsimp only
 rw [List.map_append, List.map_map, show (Pg.key ∘ upP) = Pg.key from funext upP_key, ← List.map_append, List.take_append_drop]
theorem upA_get {c : Clk} {j : Nat} {p : Pg} (hp : c.pages[j]? = some p) : (upA c j).pages[j]? = some p := by
 have hl := (List.getElem?_eq_some_iff.1 hp).1
 unfold upA
 dsimp only
 rw [List.getElem?_append_right (by rw [List.length_map, List.length_take]; omega), List.length_map, List.length_take, List.getElem?_drop, show j + (j - min j c.pages.length) = j by omega, hp]
theorem upA_set {c : Clk} {j : Nat} {p : Pg} (hp : c.pages[j]? = some p) : setP (upA c j) j (upP p) = upA c (j + 1) := by
 have hl := (List.getElem?_eq_some_iff.1 hp).1
 unfold upA setP
 dsimp only
 congr 1
 have hd : c.pages.drop j = p :: c.pages.drop (j + 1) := by
  rw [List.drop_eq_getElem_cons hl]
  congr 1
  exact (List.getElem?_eq_some_iff.1 hp).2
 rw [hd, List.set_append_right _ _ (by rw [List.length_map, List.length_take]; omega), List.length_map, List.length_take, show j - min j c.pages.length = 0 by omega, List.set_cons_zero, List.take_add_one, hp, Option.toList_some, List.map_append, List.append_assoc]
 rfl
theorem upA_no {c : Clk} {j : Nat} {p : Pg} (hp : c.pages[j]? = some p) (hr : isRes p = false) : upA c (j + 1) = upA c j := by
 rw [← upA_set hp]
 have : upP p = p := by unfold upP; rw [hr, if_neg (by decide)]
 rw [this]
 unfold setP
 rw [set_self' (upA_get hp)]
theorem upA_pin {c : Clk} (hb : (c.pages.map Pg.key).Nodup) {j : Nat} {p : Pg} (hp : c.pages[j]? = some p) (hr : isRes p = true) (h0 : 0 ≤ p.pins) (h1 : p.pins ≤ 1000) : pinP (upA c j) p.key 1 = (upA c (j + 1), true) := by
 have hg := upA_get hp
 have hf := fnd_mem (L := (upA c j).pages) (by rw [upA_keys]; exact hb) hg
 rw [pin_at hf hg, hr, if_pos rfl, ← upA_set hp, wrap_small h0 (by omega) (by omega) (by omega)]
 unfold upP
 rw [hr, if_pos rfl, show max (p.pins + 1) 0 = p.pins + 1 by omega]
theorem up_free {L : List Pg} (h : ∀ p ∈ L, 0 ≤ p.pins) : cnt isFree (L.map upP) = 0 := by
 refine cnt_zero (fun q hq => ?_)
 obtain ⟨p, hp, e⟩ := List.mem_map.1 hq
 subst e
 cases hr : isRes p with
 | false => unfold isFree; rw [upP_res, hr]; rfl
 | true =>
  have := h p hp
  unfold isFree upP
  rw [hr, if_pos rfl]
  simp
  omega
theorem up_res (L : List Pg) : cnt isRes (L.map upP) = cnt isRes L := by
 unfold cnt
 rw [List.countP_map, show (isRes ∘ upP) = isRes from funext upP_res]
theorem cnt_take1 {so : Pg → Bool} {L : List Pg} {j : Nat} {p : Pg} (hp : L[j]? = some p) : cnt so (L.take (j + 1)) = cnt so (L.take j) + if so p = true then 1 else 0 := by
 unfold cnt
 rw [List.take_add_one, hp, Option.toList_some, List.countP_append, List.countP_singleton]
theorem cnt_take_le {so : Pg → Bool} (L : List Pg) (j : Nat) : cnt so (L.take j) ≤ cnt so L := by
 have : cnt so L = cnt so (L.take j) + cnt so (L.drop j) := by
  unfold cnt
  rw [← List.countP_append, List.take_append_drop]
 omega
/-- one page's pins taken -/
theorem pin_off {c : Clk} (hb : (c.pages.map Pg.key).Nodup) {i : Nat} {q : Pg} (hq : c.pages[i]? = some q) (hr : isRes q = true) (h0 : 0 ≤ q.pins) (h1 : q.pins ≤ 1000) : pinP c q.key (-q.pins) = (setP c i { q with pins := 0 }, true) := by
 rw [pin_at (fnd_mem hb hq) hq, hr, if_pos rfl, wrap_small h0 (by omega) (by omega) (by omega), show max (q.pins + -q.pins) 0 = 0 by omega]
theorem off_one {c : Clk} {i : Nat} {q : Pg} (hq : c.pages[i]? = some q) (h : ∀ p ∈ c.pages, p.kind = 3 ∨ 0 < p.pins) : One q.key (setP c i { q with pins := 0 }) := by
 intro y hy
 rcases List.mem_or_eq_of_mem_set hy with hy | hy
 ·rcases h y hy with a | a
  ·exact .inl a
  ·exact .inr (.inl a)
 ·subst hy; exact .inr (.inr rfl)
theorem off_cnt {c : Clk} {i : Nat} {q : Pg} (hq : c.pages[i]? = some q) (hr : isRes q = true) : cnt isRes (setP c i { q with pins := 0 }).pages = cnt isRes c.pages ∧ cnt isFree (setP c i { q with pins := 0 }).pages ≠ 0 := by
 refine ⟨cnt_set_eq hq rfl, ?_⟩
 have := cnt_set (so := isFree) (q := { q with pins := 0 }) hq
 have hfr : isFree { q with pins := 0 } = true := by
  unfold isFree
  rw [show isRes { q with pins := 0 } = isRes q from rfl, hr]; rfl
 rw [hfr, if_pos rfl] at this
 have h2 : (if isFree q = true then 1 else 0) ≤ cnt isFree c.pages := by
  split
  ·rename_i hf
   have : 0 < cnt isFree c.pages := List.countP_pos_iff.2 ⟨q, List.mem_of_getElem? hq, hf⟩
   omega
  ·exact Nat.zero_le _
 show cnt isFree (c.pages.set i { q with pins := 0 }) ≠ 0
 omega
end Go.Proofs.Ytbebhmdjnneimaa

/- A ring of which all that are resident have pins: what is known of it. -/
set_option linter.unusedSimpArgs false
set_option linter.unusedVariables false
set_option maxRecDepth 20000
namespace Go.Proofs.Ytbebhmdjnneimaa
open Go
def strK : Ky := ⟨9, 0, 0⟩
structure AllPin (c : Clk) (n : Nat) : Prop where
 b : Bnd c
 n : cnt isRes c.pages = n
 f : cnt isFree c.pages = 0
 s : fndK c.pages strK = -1
 k : ∀ p ∈ c.pages, p.key ≠ strK
 p : ∀ p ∈ c.pages, 0 ≤ p.pins ∧ p.pins ≤ 1000
 o : ∀ p ∈ c.pages, p.kind = 3 ∨ 0 < p.pins
theorem allPin {c : Clk} (hb : Bnd (upA c c.pages.length)) (h : AllP (PK 160) c) (hK : cnt badK c.pages = 0) : AllPin (upA c c.pages.length) (cnt isRes c.pages) := by
 rw [upA_all] at hb ⊢
 have hk : ∀ p ∈ c.pages.map upP, p.key ≠ strK := by
  intro q hq e
  obtain ⟨p, hp, rfl⟩ := List.mem_map.1 hq
  rw [upP_key] at e
  have := (h p hp).1
  rw [e] at this
  simp [strK] at this
 refine ⟨hb, up_res c.pages, up_free (fun p hp => (h p hp).2.1), fnd_no hk, hk, ?_, ?_⟩
 ·intro q hq
  obtain ⟨p, hp, rfl⟩ := List.mem_map.1 hq
  have a1 := (h p hp).2.1
  have a2 := (h p hp).2.2
  unfold upP
  split
  ·exact ⟨by dsimp only; omega, by dsimp only; omega⟩
  ·exact ⟨a1, by omega⟩
 ·intro q hq
  obtain ⟨p, hp, rfl⟩ := List.mem_map.1 hq
  have a1 := (h p hp).2.1
  have hk := allNot hK hp
  unfold upP
  split
  ·exact .inr (by dsimp only; omega)
  ·rename_i hr
   left
   unfold badK at hk
   unfold isRes at hr
   simp at hk hr
   omega
/-- one page's pins taken off a ring of which all have pins -/
theorem AllPin.off {c : Clk} {n i : Nat} {q : Pg} (h : AllPin c n) (hq : c.pages[i]? = some q) (hr : isRes q = true) :
  pinP c q.key (-q.pins) = (setP c i { q with pins := 0 }, true) ∧ Bnd (setP c i { q with pins := 0 }) ∧ fndK (setP c i { q with pins := 0 }).pages strK = -1 ∧ cnt isRes (setP c i { q with pins := 0 }).pages = n ∧ cnt isFree (setP c i { q with pins := 0 }).pages ≠ 0 ∧ One q.key (setP c i { q with pins := 0 }) := by
 have hp := h.p q (List.mem_of_getElem? hq)
 have e := pin_off h.b.ky hq hr hp.1 hp.2
 have hb := h.b.pin q.key (-q.pins)
 rw [e] at hb
 obtain ⟨c1, c2⟩ := off_cnt hq hr
 refine ⟨e, hb, fnd_no ?_, by rw [c1]; exact h.n, c2, off_one hq h.o⟩
 intro p hp
 rcases List.mem_or_eq_of_mem_set hp with hp | hp
 ·exact h.k p hp
 ·subst hp
  exact h.k q (List.mem_of_getElem? hq)
end Go.Proofs.Ytbebhmdjnneimaa
