/- What no turn makes so: the hand Cold, and all that comes. -/
import Derived.Test.YtbebhmdjnneimaaClkTm
import Derived.Test.YtbebhmdjnneimaaClk9
set_option linter.unusedSimpArgs false
set_option linter.unusedVariables false
set_option maxRecDepth 20000
namespace Go.Proofs.Ytbebhmdjnneimaa
open Go
/-- what no turn at all makes so -/
structure LessC (so : Pg → Bool) : Prop extends Less so where
 c1 : ∀ p : Pg, p.kind = 2 → p.pins = 0 → so { p with kind := 1, ref := false, trial := false } = true → so p = true
 c2 : ∀ p : Pg, so { p with ref := false, trial := true } = true → so p = true
 c3 : ∀ p : Pg, p.kind = 2 → p.pins = 0 → so { p with kind := 3 } = true → so p = true
theorem overL_less {so : Pg → Bool} (S : Less so) : ∀ (n : Nat) (c c' : Clk), overL n c = some c' → cnt so c'.pages ≤ cnt so c.pages
 | 0, c, c', e => by cases e
 | n + 1, c, c', e => by
  unfold overL at e
  split at e
  ·cases hx : testT n c with
   | none => rw [hx] at e; cases e
   | some x => rw [hx] at e; exact Nat.le_trans (overL_less S n x c' e) (testT_less S hx)
  ·cases e; exact Nat.le_refl _
theorem coldL_less {so : Pg → Bool} (S : LessC so) : ∀ (n : Nat) (c : Clk) (r : Clk × Ky), coldL n c = some r → cnt so r.1.pages ≤ cnt so c.pages
 | 0, c, r, e => by cases e
 | n + 1, c, r, e => by
  unfold coldL at e
  cases hx : freeL n c with
  | none => rw [hx] at e; cases e
  | some x =>
   rw [hx] at e
   simp only [Option.bind_some] at e
   refine Nat.le_trans ?_ (freeL_less S.toLess n c x hx)
   split at e
   ·cases e
   ·rename_i p hp
    split at e
    ·have := coldL_less S n _ r e; exact this
    ·rename_i hcf
     obtain ⟨k2, kp⟩ := isCold_of hcf
     split at e
     ·cases hy : coolL n { setP x x.cold { p with kind := 1, ref := false, trial := false } with cold := onP x x.cold } with
      | none => rw [hy] at e; cases e
      | some y =>
       rw [hy] at e
       exact Nat.le_trans (coldL_less S n y r e) (Nat.le_trans (coolL_less S.toLess n _ y hy) (cnt_set_le hp (S.c1 p k2 kp)))
     ·split at e
      ·exact Nat.le_trans (coldL_less S n _ r e) (cnt_set_le hp (S.c2 p))
      ·unfold putP at e
       rw [hp] at e
       simp only [] at e
       split at e
       ·cases hy : overL n { setP x x.cold { p with kind := 3 } with cold := onP x x.cold } with
        | none => rw [hy] at e; cases e
        | some y =>
         rw [hy] at e; cases e
         exact Nat.le_trans (overL_less S.toLess n _ y hy) (cnt_set_le hp (S.c3 p k2 kp))
       ·cases hy : overL n (goesP x x.cold) with
        | none => rw [hy] at e; cases e
        | some y =>
         rw [hy] at e; cases e
         exact Nat.le_trans (overL_less S.toLess n _ y hy) (cnt_del_le hp)
theorem outL_less {so : Pg → Bool} (S : LessC so) : ∀ (n : Nat) (c : Clk) (out : List Ky) (r : Clk × List Ky), outL n c out = some r → cnt so r.1.pages ≤ cnt so c.pages
 | 0, c, out, r, e => by cases e
 | n + 1, c, out, r, e => by
  unfold outL at e
  split at e
  ·cases hx : coldL n c with
   | none => rw [hx] at e; cases e
   | some x =>
    rw [hx] at e
    exact Nat.le_trans (outL_less S n x.1 _ r e) (coldL_less S n c x hx)
  ·cases e; exact Nat.le_refl _
/-- a page of no kind; with fewer pins than none; on trial with pins; resident under a name -/
def badK (p : Pg) : Bool := !(decide (p.kind = 1) || decide (p.kind = 2) || decide (p.kind = 3))
def badN (p : Pg) : Bool := decide (p.pins < 0)
def badT (p : Pg) : Bool := decide (p.kind = 3) && !decide (p.pins = 0)
def badX (x : Ky) (p : Pg) : Bool := decide (p.key = x) && !decide (p.kind = 3)
theorem lessK : LessC badK where
 r p h := h
 k p _ h := by cases h
 t p h := h
 c1 p _ _ h := by cases h
 c2 p h := h
 c3 p _ _ h := by cases h
theorem lessN : LessC badN where
 r p h := h
 k p _ h := h
 t p h := h
 c1 p _ _ h := h
 c2 p h := h
 c3 p _ _ h := h
theorem lessT : LessC badT where
 r p h := h
 k p _ h := by cases h
 t p h := h
 c1 p _ _ h := by cases h
 c2 p h := h
 c3 p _ kp h := by simp [badT, kp] at h
theorem lessX (x : Ky) : LessC (badX x) where
 r p h := h
 k p k1 h := by simp [badX, k1] at h ⊢; exact h
 t p h := h
 c1 p k2 _ h := by simp [badX, k2] at h ⊢; exact h
 c2 p h := h
 c3 p _ _ h := by simp [badX] at h
/-- the ring is as cool as it may be, behind cool -/
theorem coolL_end : ∀ (n : Nat) (c c' : Clk), coolL n c = some c' → (cnt isHot c'.pages : Int) ≤ c'.most - c'.target
 | 0, c, c', e => by cases e
 | n + 1, c, c', e => by
  unfold coolL at e
  split at e
  ·cases hx : hotT n c with
   | none => rw [hx] at e; cases e
   | some x => rw [hx] at e; exact coolL_end n x c' e
  ·cases e; omega
end Go.Proofs.Ytbebhmdjnneimaa
/- No page twice; a page with pins stays. -/
set_option linter.unusedSimpArgs false
set_option linter.unusedVariables false
set_option maxRecDepth 20000
namespace Go.Proofs.Ytbebhmdjnneimaa
open Go
theorem mem_del {l : List Pg} {i : Nat} {p q : Pg} (hp : l[i]? = some p) (hq : q ∈ l) (hne : q ≠ p) : q ∈ l.take i ++ l.drop (i + 1) := by
 have hl := List.getElem?_eq_some_iff.1 hp
 rw [← List.take_append_drop i l, List.drop_eq_getElem_cons hl.1, hl.2] at hq
 rcases List.mem_append.1 hq with h | h
 ·exact List.mem_append.2 (.inl h)
 ·rcases List.mem_cons.1 h with h | h
  ·exact absurd h hne
  ·exact List.mem_append.2 (.inr h)
theorem mem_set_or {l : List Pg} {i : Nat} {p q x : Pg} (hp : l[i]? = some p) (hx : x ∈ l) : x = p ∧ q ∈ l.set i q ∨ x ∈ l.set i q := by
 have hl := List.getElem?_eq_some_iff.1 hp
 obtain ⟨j, hj⟩ := List.mem_iff_getElem?.1 hx
 by_cases e : i = j
 ·subst e
  rw [hp] at hj
  exact .inl ⟨(Option.some.inj hj).symm, List.mem_iff_getElem?.2 ⟨i, List.getElem?_set_self hl.1⟩⟩
 ·exact .inr (List.mem_iff_getElem?.2 ⟨j, by rw [List.getElem?_set_ne e]; exact hj⟩)
/-- a page of that name has so many pins, and none on trial has any -/
structure Pinned (x : Ky) (v : Int) (c : Clk) : Prop where
 t : ∀ p ∈ c.pages, p.kind = 3 → p.pins = 0
 e : ∃ p ∈ c.pages, p.key = x ∧ p.pins = v
theorem cloPin (x : Ky) (v : Int) (hv : v ≠ 0) : Clo (Pinned x v) where
 goes c i p h hp ho := by
  obtain ⟨q, hq, hk, hn⟩ := h.e
  have hp0 : p.pins = 0 := by
   rcases ho with k3 | k0
   ·exact h.t p (List.mem_of_getElem? hp) k3
   ·exact k0
  refine ⟨fun r hr => ?_, q, mem_del hp hq (fun e => hv (by rw [← hn, e, hp0])), hk, hn⟩
  have : r ∈ c.pages := by
   rcases List.mem_append.1 hr with h | h
   ·exact List.mem_of_mem_take h
   ·exact List.mem_of_mem_drop h
  exact h.t r this
 aim c d h := ⟨h.t, h.e⟩
 set c i p q h hp e1 e2 e3 _ := by
  obtain ⟨r, hr, hk, hn⟩ := h.e
  refine ⟨fun y hy k3 => ?_, ?_⟩
  ·rcases List.mem_or_eq_of_mem_set hy with hy | hy
   ·exact h.t y hy k3
   ·subst hy
    rw [e2]
    rcases e3 k3 with k | k
    ·exact h.t p (List.mem_of_getElem? hp) k
    ·exact k
  ·rcases mem_set_or (q := q) hp hr with ⟨e, hm⟩ | hm
   ·exact ⟨q, hm, by rw [e1, ← e, hk], by rw [e2, ← e, hn]⟩
   ·exact ⟨r, hm, hk, hn⟩
 hot c h _ := ⟨h.t, h.e⟩
 cold c h _ := ⟨h.t, h.e⟩
 test c h _ := ⟨h.t, h.e⟩
theorem cloKeys : Clo (fun c => (c.pages.map Pg.key).Nodup) where
 goes c i p h hp _ := by
  show ((c.pages.take i ++ c.pages.drop (i + 1)).map Pg.key).Nodup
  rw [← List.eraseIdx_eq_take_drop_succ]
  exact h.sublist ((List.eraseIdx_sublist ..).map _)
 aim c d h := h
 set c i p q h hp e1 _ _ _ := by
  show ((c.pages.set i q).map Pg.key).Nodup
  have e : (c.pages.set i q).map Pg.key = c.pages.map Pg.key := by
   rw [List.map_set, e1]
   refine List.ext_getElem? fun j => ?_
   by_cases hj : i = j
   ·subst hj
    have hl := (List.getElem?_eq_some_iff.1 hp).1
    rw [List.getElem?_set_self (by rw [List.length_map]; exact hl), List.getElem?_map, hp]; rfl
   ·rw [List.getElem?_set_ne hj]
  rw [e]
  exact h
 hot c h _ := h
 cold c h _ := h
 test c h _ := h
end Go.Proofs.Ytbebhmdjnneimaa

/- What is put out is resident no more; tests are no more than may be. -/
set_option linter.unusedSimpArgs false
set_option linter.unusedVariables false
set_option maxRecDepth 20000
namespace Go.Proofs.Ytbebhmdjnneimaa
open Go
theorem overL_end : ∀ (n : Nat) (c c' : Clk), overL n c = some c' → (cnt isTest c'.pages : Int) ≤ c'.most
 | 0, c, c', e => by cases e
 | n + 1, c, c', e => by
  unfold overL at e
  split at e
  ·cases hx : testT n c with
   | none => rw [hx] at e; cases e
   | some x => rw [hx] at e; exact overL_end n x c' e
  ·cases e; omega
theorem key_uniq {l : List Pg} (h : (l.map Pg.key).Nodup) {i j : Nat} {p q : Pg} (hp : l[i]? = some p) (hq : l[j]? = some q) (e : q.key = p.key) : j = i := by
 have hi := List.getElem?_eq_some_iff.1 hp
 have hj := List.getElem?_eq_some_iff.1 hq
 have h1 : (l.map Pg.key)[i]? = some p.key := by rw [List.getElem?_map, hp]; rfl
 have h2 : (l.map Pg.key)[j]? = some p.key := by rw [List.getElem?_map, hq, ← e]; rfl
 exact ((List.getElem?_inj (by rw [List.length_map]; exact hj.1) h).1 (by rw [h1, h2]))
theorem cnt_zero {so : Pg → Bool} {l : List Pg} (h : ∀ p ∈ l, so p = false) : cnt so l = 0 := by
 unfold cnt
 exact List.countP_eq_zero.2 (fun p hp => by rw [h p hp]; decide)
theorem badX_set {l : List Pg} (h : (l.map Pg.key).Nodup) {i : Nat} {p : Pg} (hp : l[i]? = some p) : cnt (badX p.key) (l.set i { p with kind := 3 }) = 0 := by
 refine cnt_zero fun q hq => ?_
 obtain ⟨j, hj⟩ := List.mem_iff_getElem?.1 hq
 by_cases e : i = j
 ·subst e
  rw [List.getElem?_set_self (List.getElem?_eq_some_iff.1 hp).1] at hj
  rw [← Option.some.inj hj]
  simp [badX]
 ·rw [List.getElem?_set_ne e] at hj
  unfold badX
  rw [decide_eq_false (fun hk => e (key_uniq h hp hj hk).symm)]
  rfl
theorem badX_del {l : List Pg} (h : (l.map Pg.key).Nodup) {i : Nat} {p : Pg} (hp : l[i]? = some p) : cnt (badX p.key) (l.take i ++ l.drop (i + 1)) = 0 := by
 refine cnt_zero fun q hq => ?_
 unfold badX
 rw [decide_eq_false]
 ·rfl
 ·intro hk
  rcases List.mem_append.1 hq with hm | hm
  ·obtain ⟨j, hj⟩ := List.mem_iff_getElem?.1 hm
   rw [List.getElem?_take] at hj
   split at hj
   ·rename_i hlt
    have := key_uniq h hp hj hk
    omega
   ·cases hj
  ·obtain ⟨j, hj⟩ := List.mem_iff_getElem?.1 hm
   rw [List.getElem?_drop] at hj
   have := key_uniq h hp hj hk
   omega
/-- what the hand Cold puts out is resident no more, and tests are few -/
theorem coldL_out : ∀ (n : Nat) (c : Clk) (r : Clk × Ky), (c.pages.map Pg.key).Nodup → coldL n c = some r → cnt (badX r.2) r.1.pages = 0 ∧ (cnt isTest r.1.pages : Int) ≤ r.1.most
 | 0, c, r, _, e => by cases e
 | n + 1, c, r, h, e => by
  unfold coldL at e
  cases hx : freeL n c with
  | none => rw [hx] at e; cases e
  | some x =>
   rw [hx] at e
   simp only [Option.bind_some] at e
   have h' := freeL_I cloKeys n c x h hx
   split at e
   ·cases e
   ·rename_i p hp
    split at e
    ·have := coldL_out n { x with cold := onP x x.cold } r h' e; exact this
    ·rename_i hcf
     obtain ⟨k2, kp⟩ := isCold_of hcf
     split at e
     ·cases hy : coolL n { setP x x.cold { p with kind := 1, ref := false, trial := false } with cold := onP x x.cold } with
      | none => rw [hy] at e; cases e
      | some y =>
       rw [hy] at e
       exact coldL_out n y r (coolL_I cloKeys n _ y (cloKeys.setCold (q := { p with kind := 1, ref := false, trial := false }) h' hp rfl rfl (fun h => by cases h) (fun h => by rw [k2] at h; cases h)) hy) e
     ·split at e
      ·have := coldL_out n { setP x x.cold { p with ref := false, trial := true } with cold := onP x x.cold } r (cloKeys.setCold (q := { p with ref := false, trial := true }) h' hp rfl rfl (fun h => by rw [show p.kind = 3 from h] at k2; cases k2) (fun h => by rw [k2] at h; cases h)) e
       exact this
      ·unfold putP at e
       rw [hp] at e
       simp only [] at e
       split at e
       ·cases hy : overL n { setP x x.cold { p with kind := 3 } with cold := onP x x.cold } with
        | none => rw [hy] at e; cases e
        | some y =>
         rw [hy] at e; cases e
         refine ⟨?_, overL_end n _ y hy⟩
         have := overL_less (lessX p.key).toLess n _ y hy
         have b := badX_set h' hp
         have this : cnt (badX p.key) y.pages ≤ cnt (badX p.key) (x.pages.set x.cold { p with kind := 3 }) := this
         show cnt (badX p.key) y.pages = 0
         omega
       ·cases hy : overL n (goesP x x.cold) with
        | none => rw [hy] at e; cases e
        | some y =>
         rw [hy] at e; cases e
         refine ⟨?_, overL_end n _ y hy⟩
         have := overL_less (lessX p.key).toLess n _ y hy
         have b := badX_del h' hp
         have this : cnt (badX p.key) y.pages ≤ cnt (badX p.key) (x.pages.take x.cold ++ x.pages.drop (x.cold + 1)) := this
         show cnt (badX p.key) y.pages = 0
         omega
theorem outL_out : ∀ (n : Nat) (c : Clk) (out : List Ky) (r : Clk × List Ky), (c.pages.map Pg.key).Nodup → (∀ x ∈ out, cnt (badX x) c.pages = 0) → (cnt isTest c.pages : Int) ≤ c.most → outL n c out = some r → (∀ x ∈ r.2, cnt (badX x) r.1.pages = 0) ∧ (cnt isTest r.1.pages : Int) ≤ r.1.most
 | 0, c, out, r, _, _, _, e => by cases e
 | n + 1, c, out, r, h, ho, ht, e => by
  unfold outL at e
  split at e
  ·cases hx : coldL n c with
   | none => rw [hx] at e; cases e
   | some y =>
    rw [hx] at e
    obtain ⟨h1, h2⟩ := coldL_out n c y h hx
    refine outL_out n y.1 _ r (coldL_I cloKeys n c y h hx) (fun x hxm => ?_) h2 e
    rcases List.mem_append.1 hxm with hm | hm
    ·have := coldL_less (lessX x) n c y hx
     have := ho x hm
     omega
    ·rw [List.mem_singleton.1 hm]; exact h1
  ·cases e; exact ⟨ho, ht⟩
end Go.Proofs.Ytbebhmdjnneimaa

/- What is always true of a ring; a look and a pin leave it. -/
set_option linter.unusedSimpArgs false
set_option linter.unusedVariables false
set_option maxRecDepth 20000
namespace Go.Proofs.Ytbebhmdjnneimaa
open Go
structure Bnd (c : Clk) : Prop where
 R : ClkR c
 m1 : 1 ≤ c.most
 m2 : c.most ≤ 8
 t1 : 1 ≤ c.target
 tm : c.target ≤ c.most
 rs : (cnt isRes c.pages : Int) ≤ c.most
 ts : (cnt isTest c.pages : Int) ≤ c.most
 ht : (cnt isHot c.pages : Int) ≤ c.most - c.target
 bk : cnt badK c.pages = 0
 bn : cnt badN c.pages = 0
 bt : cnt badT c.pages = 0
 ky : (c.pages.map Pg.key).Nodup
theorem len_cnt : ∀ l : List Pg, l.length = cnt isRes l + cnt isTest l + cnt badK l
 | [] => rfl
 | p :: l => by
  have ih := len_cnt l
  unfold cnt at ih ⊢
  rw [List.length_cons, List.countP_cons, List.countP_cons, List.countP_cons, ih]
  by_cases h1 : p.kind = 1
  ·simp [isRes, isTest, badK, h1]; omega
  ·by_cases h2 : p.kind = 2
   ·simp [isRes, isTest, badK, h2]; omega
   ·by_cases h3 : p.kind = 3
    ·simp [isRes, isTest, badK, h3]; omega
    ·simp [isRes, isTest, badK, h1, h2, h3]; omega
theorem Bnd.len {c : Clk} (h : Bnd c) : c.pages.length ≤ 16 := by
 have := len_cnt c.pages
 have := h.bk
 have := h.rs
 have := h.ts
 have := h.m2
 omega
theorem Bnd.new (m : Int) (h1 : 1 ≤ m) (h2 : m ≤ 8) : Bnd ⟨m, 1, [], 0, 0, 0⟩ :=
 ⟨⟨.inl rfl, .inl rfl, .inl rfl⟩, h1, h2, by show (1 : Int) ≤ 1; decide, by show (1 : Int) ≤ m; omega, by show (0 : Int) ≤ m; omega, by show (0 : Int) ≤ m; omega, by show (0 : Int) ≤ m - 1; omega, rfl, rfl, rfl, List.nodup_nil⟩
theorem Bnd.B {c : Clk} (h : Bnd c) : ClkB c := by
 have hl := h.len
 have := h.m1
 have := h.m2
 have := h.t1
 have := h.tm
 obtain ⟨r1, r2, r3⟩ := h.R
 exact ⟨by omega, by omega, by omega, by omega, by omega, by omega, by omega, by omega⟩
/-- a page is told anew, of which kind and key are the same -/
theorem Bnd.set {c : Clk} (h : Bnd c) {i : Nat} {p q : Pg} (hp : c.pages[i]? = some p) (e1 : q.key = p.key) (e2 : q.kind = p.kind) (e3 : badN q = false) (e4 : badT q = false) : Bnd (setP c i q) := by
 have r := cnt_set_eq (so := isRes) (q := q) hp (by unfold isRes; rw [e2])
 have t := cnt_set_eq (so := isTest) (q := q) hp (by unfold isTest; rw [e2])
 have o := cnt_set_eq (so := isHot) (q := q) hp (by unfold isHot; rw [e2])
 have k := cnt_set_eq (so := badK) (q := q) hp (by unfold badK; rw [e2])
 have n := cnt_set_le (so := badN) (q := q) hp (fun h => by rw [e3] at h; cases h)
 have b := cnt_set_le (so := badT) (q := q) hp (fun h => by rw [e4] at h; cases h)
 have kk : ((c.pages.set i q).map Pg.key) = c.pages.map Pg.key := by
  rw [List.map_set, e1]
  refine List.ext_getElem? fun j => ?_
  by_cases hj : i = j
  ·subst hj
   rw [List.getElem?_set_self (by rw [List.length_map]; exact (List.getElem?_eq_some_iff.1 hp).1), List.getElem?_map, hp]; rfl
  ·rw [List.getElem?_set_ne hj]
 have hb := h.bn
 have hbt := h.bt
 refine ⟨⟨by rw [len_set]; exact h.R.h1, by rw [len_set]; exact h.R.h2, by rw [len_set]; exact h.R.h3⟩, h.m1, h.m2, h.t1, h.tm, ?_, ?_, ?_, ?_, ?_, ?_, ?_⟩
 ·show (cnt isRes (c.pages.set i q) : Int) ≤ c.most; rw [r]; exact h.rs
 ·show (cnt isTest (c.pages.set i q) : Int) ≤ c.most; rw [t]; exact h.ts
 ·show (cnt isHot (c.pages.set i q) : Int) ≤ c.most - c.target; rw [o]; exact h.ht
 ·show cnt badK (c.pages.set i q) = 0; rw [k]; exact h.bk
 ·show cnt badN (c.pages.set i q) = 0; omega
 ·show cnt badT (c.pages.set i q) = 0; omega
 ·show ((c.pages.set i q).map Pg.key).Nodup; rw [kk]; exact h.ky
theorem bad_of {so : Pg → Bool} {l : List Pg} (h : cnt so l = 0) {i : Nat} {p : Pg} (hp : l[i]? = some p) : so p = false := by
 cases e : so p with
 | false => rfl
 | true =>
  have : 0 < cnt so l := List.countP_pos_iff.2 ⟨p, List.mem_of_getElem? hp, e⟩
  omega
theorem Bnd.touch {c : Clk} (h : Bnd c) (k : Ky) : Bnd (touchP c k).1 := by
 rcases fnd_lt c.pages k with hf | ⟨i, p, hf, hp, _⟩
 ·rw [touch_no hf]; exact h
 ·rw [touch_at hf hp]
  split
  ·exact h.set (q := { p with ref := true }) hp rfl rfl (show badN p = false from bad_of h.bn hp) (show badT p = false from bad_of h.bt hp)
  ·exact h
theorem Bnd.pin {c : Clk} (h : Bnd c) (k : Ky) (n : Int) : Bnd (pinP c k n).1 := by
 rcases fnd_lt c.pages k with hf | ⟨i, p, hf, hp, _⟩
 ·rw [pin_no hf]; exact h
 ·rw [pin_at hf hp]
  split
  ·rename_i hr
   refine h.set hp rfl rfl ?_ ?_
   ·simp [badN]; omega
   ·unfold isRes at hr
    unfold badT
    have : p.kind ≠ 3 := by
     intro k3
     rw [k3] at hr
     cases hr
    rw [show decide (({ p with pins := max (IntKind.i64.wrap (p.pins + n)) 0 } : Pg).kind = 3) = false from decide_eq_false this]
    rfl
  ·exact h
end Go.Proofs.Ytbebhmdjnneimaa

/- What is always true of a ring: a page comes. -/
set_option linter.unusedSimpArgs false
set_option linter.unusedVariables false
set_option maxRecDepth 20000
namespace Go.Proofs.Ytbebhmdjnneimaa
open Go
/-- the same, but for how many are hot -/
structure BndW (c : Clk) : Prop where
 R : ClkR c
 m1 : 1 ≤ c.most
 t1 : 1 ≤ c.target
 tm : c.target ≤ c.most
 ts : (cnt isTest c.pages : Int) ≤ c.most
 bk : cnt badK c.pages = 0
 bn : cnt badN c.pages = 0
 bt : cnt badT c.pages = 0
 ky : (c.pages.map Pg.key).Nodup
theorem Bnd.w {c : Clk} (h : Bnd c) : BndW c := ⟨h.R, h.m1, h.t1, h.tm, h.ts, h.bk, h.bn, h.bt, h.ky⟩
theorem cloT1 : Clo (fun c => 1 ≤ c.most ∧ 1 ≤ c.target) where
 goes c i p h _ _ := h
 aim c d h := ⟨h.1, by show 1 ≤ min (max (c.target + d) 1) c.most; have := h.1; omega⟩
 set c i p q h _ _ _ _ _ := h
 hot c h _ := h
 cold c h _ := h
 test c h _ := h
theorem cloMost (m : Int) : Clo (fun c => c.most = m) := ⟨fun c i p h _ _ => h, fun c d h => h, fun c i p q h _ _ _ _ _ => h, fun c h _ => h, fun c h _ => h, fun c h _ => h⟩
theorem BndW.goes {c : Clk} (h : BndW c) {i : Nat} {p : Pg} (hp : c.pages[i]? = some p) : BndW (goesP c i) := by
 have hpl := (List.getElem?_eq_some_iff.1 hp).1
 have t := cnt_del_le (so := isTest) hp
 have k := cnt_del_le (so := badK) hp
 have n := cnt_del_le (so := badN) hp
 have b := cnt_del_le (so := badT) hp
 have h1 := h.ts
 have h2 := h.bk
 have h3 := h.bn
 have h4 := h.bt
 refine ⟨h.R.goes hpl, h.m1, h.t1, h.tm, ?_, ?_, ?_, ?_, ?_⟩
 ·show (cnt isTest (c.pages.take i ++ c.pages.drop (i + 1)) : Int) ≤ c.most; omega
 ·show cnt badK (c.pages.take i ++ c.pages.drop (i + 1)) = 0; omega
 ·show cnt badN (c.pages.take i ++ c.pages.drop (i + 1)) = 0; omega
 ·show cnt badT (c.pages.take i ++ c.pages.drop (i + 1)) = 0; omega
 ·show ((c.pages.take i ++ c.pages.drop (i + 1)).map Pg.key).Nodup
  rw [← List.eraseIdx_eq_take_drop_succ]
  exact h.ky.sublist ((List.eraseIdx_sublist ..).map _)
theorem BndW.aim {c : Clk} (h : BndW c) (d : Int) : BndW (aimP c d) :=
 ⟨cloR.aim _ _ h.R, h.m1, (cloT1.aim c d ⟨h.m1, h.t1⟩).2, cloT.aim c d h.tm, h.ts, h.bk, h.bn, h.bt, h.ky⟩
theorem BndW.out {n : Nat} {c : Clk} {r : Clk × List Ky} (h : BndW c) (e : outL n c [] = some r) : BndW r.1 ∧ (∀ x ∈ r.2, cnt (badX x) r.1.pages = 0) ∧ r.1.most = c.most := by
 have hm := outL_I (cloMost c.most) n c [] r rfl e
 obtain ⟨o1, o2⟩ := outL_out n c [] r h.ky (fun x hx => by cases hx) h.ts e
 have hT := outL_I cloT1 n c [] r ⟨h.m1, h.t1⟩ e
 have k := outL_less lessK n c [] r e
 have a := outL_less lessN n c [] r e
 have b := outL_less lessT n c [] r e
 have h2 := h.bk
 have h3 := h.bn
 have h4 := h.bt
 exact ⟨⟨outL_I cloR n c [] r h.R e, hT.1, hT.2, outL_I cloT n c [] r h.tm e, o2, by omega, by omega, by omega, outL_I cloKeys n c [] r h.ky e⟩, o1, hm⟩
end Go.Proofs.Ytbebhmdjnneimaa

/- What is always true of a ring: what is known when a page has come. -/
set_option linter.unusedSimpArgs false
set_option linter.unusedVariables false
set_option maxRecDepth 20000
namespace Go.Proofs.Ytbebhmdjnneimaa
open Go
/-- what hangs on a page's key and pins alone -/
theorem cloAll (so : Ky → Int → Prop) : Clo (fun c => ∀ p ∈ c.pages, so p.key p.pins) where
 goes c i p h _ _ := by
  intro q hq
  rcases List.mem_append.1 hq with hq | hq
  ·exact h q (List.mem_of_mem_take hq)
  ·exact h q (List.mem_of_mem_drop hq)
 aim c d h := h
 set c i p q h hp e1 e2 _ _ := by
  intro y hy
  rcases List.mem_or_eq_of_mem_set hy with hy | hy
  ·exact h y hy
  ·subst hy; rw [e1, e2]; exact h p (List.mem_of_getElem? hp)
 hot c h _ := h
 cold c h _ := h
 test c h _ := h
theorem fnd_none {L : List Pg} {k : Ky} (h : fndK L k = -1) : ∀ p ∈ L, p.key ≠ k := by
 intro p hp e
 unfold fndK idxF at h
 split at h
 ·omega
 ·rename_i hn
  exact hn (List.findIdx_lt_length_of_exists ⟨p, hp, by rw [e]; exact decide_eq_true rfl⟩)
theorem gone_no {c : Clk} {k : Ky} (hn : (c.pages.map Pg.key).Nodup) : ∀ p ∈ (goneP c (fndK c.pages k)).pages, p.key ≠ k := by
 unfold goneP
 rcases fnd_lt c.pages k with hf | ⟨i, p, hf, hp, hpk⟩
 ·rw [hf, if_neg (by omega)]; exact fnd_none hf
 ·rw [hf, if_pos (by omega), Int.toNat_natCast]
  intro q hq e
  have hz := badX_del hn hp
  rcases List.mem_append.1 hq with hm | hm
  ·obtain ⟨j, hj⟩ := List.mem_iff_getElem?.1 hm
   rw [List.getElem?_take] at hj
   split at hj
   ·rename_i hlt
    have := key_uniq hn hp hj (e.trans hpk.symm)
    omega
   ·cases hj
  ·obtain ⟨j, hj⟩ := List.mem_iff_getElem?.1 hm
   rw [List.getElem?_drop] at hj
   have := key_uniq hn hp hj (e.trans hpk.symm)
   omega
theorem gone_W {c : Clk} {k : Ky} (h : BndW c) : BndW (goneP c (fndK c.pages k)) := by
 unfold goneP
 rcases fnd_lt c.pages k with hf | ⟨i, p, hf, hp, hpk⟩
 ·rw [hf, if_neg (by omega)]; exact h
 ·rw [hf, if_pos (by omega), Int.toNat_natCast]
  exact (h.goes hp).aim 1
theorem gone_mem {c : Clk} {k : Ky} (hn : (c.pages.map Pg.key).Nodup) {q : Pg} (hq : q ∈ c.pages) (hk : q.key ≠ k) : q ∈ (goneP c (fndK c.pages k)).pages := by
 unfold goneP
 rcases fnd_lt c.pages k with hf | ⟨i, p, hf, hp, hpk⟩
 ·rw [hf, if_neg (by omega)]; exact hq
 ·rw [hf, if_pos (by omega), Int.toNat_natCast]
  exact mem_del hp hq (fun e => hk (by rw [e]; exact hpk))
/-- what is put out stood in the ring -/
theorem coldL_ky {so : Ky → Prop} : ∀ (n : Nat) (c : Clk) (r : Clk × Ky), (∀ p ∈ c.pages, so p.key) → coldL n c = some r → so r.2
 | 0, c, r, _, e => by cases e
 | n + 1, c, r, h, e => by
  have S := cloAll (fun k _ => so k)
  unfold coldL at e
  cases hx : freeL n c with
  | none => rw [hx] at e; cases e
  | some x =>
   rw [hx] at e
   simp only [Option.bind_some] at e
   have h' := freeL_I S n c x h hx
   split at e
   ·cases e
   ·rename_i p hp
    split at e
    ·exact coldL_ky n { x with cold := onP x x.cold } r h' e
    ·rename_i hcf
     obtain ⟨k2, kp⟩ := isCold_of hcf
     split at e
     ·cases hy : coolL n { setP x x.cold { p with kind := 1, ref := false, trial := false } with cold := onP x x.cold } with
      | none => rw [hy] at e; cases e
      | some y =>
       rw [hy] at e
       exact coldL_ky n y r (coolL_I S n _ y (S.setCold (q := { p with kind := 1, ref := false, trial := false }) h' hp rfl rfl (fun h => by cases h) (fun h => by rw [k2] at h; cases h)) hy) e
     ·split at e
      ·exact coldL_ky n { setP x x.cold { p with ref := false, trial := true } with cold := onP x x.cold } r (S.setCold (q := { p with ref := false, trial := true }) h' hp rfl rfl (fun h => by rw [show p.kind = 3 from h] at k2; cases k2) (fun h => by rw [k2] at h; cases h)) e
      ·unfold putP at e
       rw [hp] at e
       simp only [] at e
       obtain ⟨y, _, he⟩ := Option.map_eq_some_iff.1 e
       subst he
       exact h' p (List.mem_of_getElem? hp)
theorem outL_ky {so : Ky → Prop} : ∀ (n : Nat) (c : Clk) (out : List Ky) (r : Clk × List Ky), (∀ p ∈ c.pages, so p.key) → (∀ x ∈ out, so x) → outL n c out = some r → ∀ x ∈ r.2, so x
 | 0, c, out, r, _, _, e => by cases e
 | n + 1, c, out, r, h, ho, e => by
  unfold outL at e
  split at e
  ·cases hx : coldL n c with
   | none => rw [hx] at e; cases e
   | some y =>
    rw [hx] at e
    have h1 := coldL_ky n c y h hx
    refine outL_ky n y.1 _ r (coldL_I (cloAll (fun k _ => so k)) n c y h hx) (fun x hxm => ?_) e
    rcases List.mem_append.1 hxm with hm | hm
    ·exact ho x hm
    ·rw [List.mem_singleton.1 hm]; exact h1
  ·cases e; exact ho
theorem mem_comes {c : Clk} {p q : Pg} : q ∈ (comesP c p).pages ↔ q = p ∨ q ∈ c.pages := by
 unfold comesP
 by_cases h0 : c.pages.length = 0
 ·rw [if_pos h0, List.eq_nil_of_length_eq_zero h0]; simp
 ·rw [if_neg h0]
  dsimp only
  conv => rhs; rw [← List.take_append_drop c.hot c.pages]
  simp only [List.mem_append, List.mem_singleton]
  constructor
  ·rintro ((h | h) | h)
   ·exact .inr (.inl h)
   ·exact .inl h
   ·exact .inr (.inr h)
  ·rintro (h | (h | h))
   ·exact .inl (.inr h)
   ·exact .inl (.inl h)
   ·exact .inr h
theorem comes_nd {c : Clk} {p : Pg} (h : (c.pages.map Pg.key).Nodup) (hn : ∀ q ∈ c.pages, q.key ≠ p.key) : ((comesP c p).pages.map Pg.key).Nodup := by
 unfold comesP
 by_cases h0 : c.pages.length = 0
 ·rw [if_pos h0]; simp
 ·rw [if_neg h0]
  dsimp only
  have hp : (c.pages.take c.hot ++ [p] ++ c.pages.drop c.hot).Perm (p :: c.pages) := by
   rw [List.append_assoc]
   refine (List.perm_append_comm_assoc _ _ _).trans ?_
   rw [List.take_append_drop]
   exact List.Perm.refl _
  rw [(hp.map Pg.key).nodup_iff, List.map_cons, List.nodup_cons]
  refine ⟨fun hm => ?_, h⟩
  obtain ⟨q, hq, hk⟩ := List.mem_map.1 hm
  exact hn q hq hk
theorem keepX (x : Ky) : Keep (badX x) where
 e p h := by simp [badX, h]
 r p := rfl
 k p h := by simp [badX, h]
 t p := rfl
end Go.Proofs.Ytbebhmdjnneimaa

/- What is always true of a ring: a page comes. -/
set_option linter.unusedSimpArgs false
set_option linter.unusedVariables false
set_option maxRecDepth 20000
namespace Go.Proofs.Ytbebhmdjnneimaa
open Go
/-- pages with pins stay, but for one that is named -/
def Stay (c : Clk) (k : Ky) (d : Clk) : Prop := ∀ p ∈ c.pages, 0 < p.pins → p.key ≠ k → ∃ q ∈ d.pages, q.key = p.key ∧ q.pins = p.pins
structure Adm (c : Clk) (k : Ky) (d : Clk × List Ky × Bool) : Prop where
 b : Bnd d.1
 m : d.1.most = c.most
 no : d.2.2 = false → d = (c, [], false) ∧ ∀ p ∈ c.pages, p.kind = 3 ∨ 0 < p.pins
 is : d.2.2 = true → ∃ q ∈ d.1.pages, q.key = k ∧ q.kind ≠ 3
 out : ∀ x ∈ d.2.1, ∀ q ∈ d.1.pages, q.key = x → q.kind = 3
 st : Stay c k d.1
theorem Stay.set {c : Clk} {i : Nat} {p q : Pg} (hp : c.pages[i]? = some p) (e1 : q.key = p.key) (k : Ky) (e2 : q.pins = p.pins ∨ p.key = k) : Stay c k (setP c i q) := by
 intro x hx hx0 hxk
 rcases mem_set_or (q := q) hp hx with ⟨e, hm⟩ | hm
 ·rcases e2 with e2 | e2
  ·exact ⟨q, hm, by rw [e1, e], by rw [e2, e]⟩
  ·exact absurd (by rw [e]; exact e2) hxk
 ·exact ⟨x, hm, rfl, rfl⟩
theorem Stay.touch (c : Clk) (k : Ky) : Stay c k (touchP c k).1 := by
 rcases fnd_lt c.pages k with hf | ⟨i, p, hf, hp, hpk⟩
 ·rw [touch_no hf]; exact fun x hx _ _ => ⟨x, hx, rfl, rfl⟩
 ·rw [touch_at hf hp]
  split
  ·exact Stay.set (q := { p with ref := true }) hp rfl k (.inl rfl)
  ·exact fun x hx _ _ => ⟨x, hx, rfl, rfl⟩
theorem Stay.pin (c : Clk) (k : Ky) (n : Int) : Stay c k (pinP c k n).1 := by
 rcases fnd_lt c.pages k with hf | ⟨i, p, hf, hp, hpk⟩
 ·rw [pin_no hf]; exact fun x hx _ _ => ⟨x, hx, rfl, rfl⟩
 ·rw [pin_at hf hp]
  split
  ·exact Stay.set (q := { p with pins := max (IntKind.i64.wrap (p.pins + n)) 0 }) hp rfl k (.inr hpk)
  ·exact fun x hx _ _ => ⟨x, hx, rfl, rfl⟩
theorem Bnd.I {c : Clk} (h : Bnd c) : ClkI c := ⟨h.R, by have := h.len; omega, h.m1, h.tm, h.rs⟩
theorem allNot {so : Pg → Bool} {l : List Pg} (h : cnt so l = 0) {p : Pg} (hp : p ∈ l) : so p = false := by
 obtain ⟨i, hi⟩ := List.mem_iff_getElem?.1 hp
 exact bad_of h hi
theorem full_pin {c : Clk} (h : Bnd c) (hf : cnt isFree c.pages = 0) : ∀ p ∈ c.pages, p.kind = 3 ∨ 0 < p.pins := by
 intro p hp
 have h1 := allNot hf hp
 have h2 := allNot h.bk hp
 have h3 := allNot h.bn hp
 simp [isFree, isRes, badK, badN] at h1 h2 h3
 omega
theorem Bnd.admits {n : Nat} {c : Clk} {k : Ky} {d : Clk × List Ky × Bool} (h : Bnd c) (hn : 500000 ≤ n) (e : admitP n c k = some d) : Adm c k d := by
 unfold admitP at e
 by_cases ht : (touchP c k).2 = true
 ·rw [if_pos ht] at e
  cases e
  refine ⟨h.touch k, ?_, fun h => (by cases h), fun _ => ?_, (fun x hx => by cases hx), Stay.touch c k⟩
  ·rcases fnd_lt c.pages k with hf | ⟨i, p, hf, hp, hpk⟩
   ·rw [touch_no hf]
   ·rw [touch_at hf hp]; split <;> rfl
  ·rcases fnd_lt c.pages k with hf | ⟨i, p, hf, hp, hpk⟩
   ·rw [touch_no hf] at ht; cases ht
   ·rw [touch_at hf hp] at ht ⊢
    cases hr : isRes p with
    | false => rw [hr, if_neg (by decide)] at ht; cases ht
    | true =>
     rw [if_pos rfl]
     refine ⟨{ p with ref := true }, List.mem_iff_getElem?.2 ⟨i, List.getElem?_set_self (List.getElem?_eq_some_iff.1 hp).1⟩, hpk, ?_⟩
     intro k3
     rw [isRes, show p.kind = 3 from k3] at hr
     cases hr
 ·rw [if_neg ht] at e
  by_cases hfull : c.most ≤ (cnt isRes c.pages : Int) ∧ cnt isFree c.pages = 0
  ·rw [if_pos hfull] at e
   cases e
   exact ⟨h, rfl, fun _ => ⟨rfl, full_pin h hfull.2⟩, fun h => (by cases h), (fun x hx => by cases hx), fun x hx _ _ => ⟨x, hx, rfl, rfl⟩⟩
  ·rw [if_neg hfull] at e
   obtain ⟨hI, g1, g2, g3⟩ := gone_I (k := k) h.I (by simpa using ht)
   have hW := gone_W (k := k) h.w
   have hno := gone_no (k := k) h.ky
   have hst : Stay c k (goneP c (fndK c.pages k)) := fun x hx _ hk => ⟨x, gone_mem h.ky hx hk, rfl, rfl⟩
   generalize hc1 : goneP c (fndK c.pages k) = c1 at e hI g1 g2 g3 hW hno hst
   obtain ⟨r, hr, hlt⟩ := outL_ex (n := n) hI (by
    rw [g1, g2, g3]
    by_cases g : (cnt isRes c.pages : Int) < c.most
    ·exact .inl g
    ·exact .inr (fun g2 => hfull ⟨by omega, g2⟩)) hn
   rw [hr] at e
   simp only [Option.bind_some] at e
   obtain ⟨c', hy, he⟩ := Option.map_eq_some_iff.1 e
   subst he
   obtain ⟨hW2, ho, hm⟩ := hW.out hr
   have hno2 : ∀ p ∈ r.1.pages, p.key ≠ k := outL_I (cloAll (fun x _ => x ≠ k)) _ _ _ r hno hr
   have hox : ∀ x ∈ r.2, x ≠ k := outL_ky (so := fun x => x ≠ k) _ _ _ r hno (fun x hx => by cases hx) hr
   have hst2 : ∀ p ∈ c.pages, 0 < p.pins → p.key ≠ k → Pinned p.key p.pins r.1 := by
    intro p hp hp0 hpk
    obtain ⟨q, hq, q1, q2⟩ := hst p hp hp0 hpk
    refine outL_I (cloPin p.key p.pins (by omega)) _ _ _ r ⟨fun y hy k3 => ?_, q, hq, q1, q2⟩ hr
    have hb := allNot hW.bt hy
    simpa [badT, k3] using hb
   have hc0 : (newPg k (fndK c.pages k)).key = k := rfl
   have hc1 : (newPg k (fndK c.pages k)).pins = 0 := rfl
   have hc2 : (newPg k (fndK c.pages k)).kind = 1 ∨ (newPg k (fndK c.pages k)).kind = 2 := by unfold newPg; dsimp only; split; exact .inl rfl; exact .inr rfl
   generalize newPg k (fndK c.pages k) = np at hy hc0 hc1 hc2
   have cR := cnt_comes (so := isRes) r.1 np
   have cT := cnt_comes (so := isTest) r.1 np
   have cK := cnt_comes (so := badK) r.1 np
   have cN := cnt_comes (so := badN) r.1 np
   have cB := cnt_comes (so := badT) r.1 np
   have cX := fun x => cnt_comes (so := badX x) r.1 np
   have nR : isRes np = true := by unfold isRes; rcases hc2 with h | h <;> rw [h] <;> rfl
   have nT : isTest np = false := by unfold isTest; rcases hc2 with h | h <;> rw [h] <;> rfl
   have nK : badK np = false := by unfold badK; rcases hc2 with h | h <;> rw [h] <;> rfl
   have nN : badN np = false := by unfold badN; rw [hc1]; rfl
   have nB : badT np = false := by unfold badT; rcases hc2 with h | h <;> rw [h] <;> rfl
   have nX : ∀ x, x ≠ k → badX x np = false := by
    intro x hx
    unfold badX
    rw [hc0, decide_eq_false (fun h => hx h.symm)]; rfl
   have nXk : badX k np = true := by
    unfold badX
    rw [hc0, decide_eq_true rfl]
    rcases hc2 with h | h <;> rw [h] <;> rfl
   rw [nR, if_pos rfl] at cR
   rw [nT, if_neg (by decide)] at cT
   rw [nK, if_neg (by decide)] at cK
   rw [nN, if_neg (by decide)] at cN
   rw [nB, if_neg (by decide)] at cB
   have kR := coolL_keep keepRes n _ c' hy
   have kT := coolL_less lessTest n _ c' hy
   have kK := coolL_less lessK.toLess n _ c' hy
   have kN := coolL_less lessN.toLess n _ c' hy
   have kB := coolL_less lessT.toLess n _ c' hy
   have kH := coolL_end n _ c' hy
   have hR := coolL_I cloR n _ c' (hW2.R.comes np) hy
   have hT1 := coolL_I cloT1 n _ c' ⟨by rw [comes_most]; exact hW2.m1, by rw [comes_target]; exact hW2.t1⟩ hy
   have hT := coolL_I cloT n _ c' (by rw [comes_most, comes_target]; exact hW2.tm) hy
   have hM := coolL_I (cloMost r.1.most) n _ c' (comes_most r.1 np) hy
   have hKy := coolL_I cloKeys n _ c' (comes_nd hW2.ky (fun q hq => by rw [hc0]; exact hno2 q hq)) hy
   have h1 := h.m2
   have h2 := hW2.ts
   have h3 := hW2.bk
   have h4 := hW2.bn
   have h5 := hW2.bt
   refine ⟨⟨hR, hT1.1, by show c'.most ≤ 8; omega, hT1.2, hT, ?_, ?_, kH, ?_, ?_, ?_, hKy⟩, by show c'.most = c.most; omega, fun h => (by cases h), fun _ => ?_, ?_, ?_⟩
   ·show (cnt isRes c'.pages : Int) ≤ c'.most; omega
   ·show (cnt isTest c'.pages : Int) ≤ c'.most; omega
   ·show cnt badK c'.pages = 0; omega
   ·show cnt badN c'.pages = 0; omega
   ·show cnt badT c'.pages = 0; omega
   ·have k1 := coolL_keep (keepX k) n _ c' hy
    have k2 := cX k
    rw [nXk, if_pos rfl] at k2
    obtain ⟨q, hq, hb⟩ := cnt_pos (so := badX k) (l := c'.pages) (by omega)
    simp [badX] at hb
    exact ⟨q, hq, hb.1, hb.2⟩
   ·intro x hx q hq hk
    have k1 := coolL_less (lessX x).toLess n _ c' hy
    have k2 := cX x
    have k3 := ho x hx
    rw [nX x (hox x hx), if_neg (by decide)] at k2
    have := allNot (so := badX x) (l := c'.pages) (by omega) hq
    simpa [badX, hk] using this
   ·intro p hp hp0 hpk
    have hP := hst2 p hp hp0 hpk
    obtain ⟨q, hq, q1, q2⟩ := hP.e
    refine (coolL_I (cloPin p.key p.pins (by omega)) n _ c' ⟨fun y hy k3 => ?_, q, mem_comes.2 (.inr hq), q1, q2⟩ hy).e
    rcases mem_comes.1 hy with e | e
    ·rw [e]; exact hc1
    ·exact hP.t y e k3
end Go.Proofs.Ytbebhmdjnneimaa

/- What the document's ring is known of, kept by all that turns. -/
set_option linter.unusedSimpArgs false
set_option linter.unusedVariables false
set_option maxRecDepth 20000
namespace Go.Proofs.Ytbebhmdjnneimaa
open Go
structure RefG (c : Clk) : Prop where
 B : ClkB c
 R : ClkR c
 K : cnt badK c.pages = 0
 N : cnt badN c.pages = 0
theorem RefG.hotT {n : Nat} {c c' : Clk} (h : RefG c) (e : hotT n c = some c') : RefG c' :=
 ⟨(hotT_B h.B e).1, hotT_I cloR h.R e, Nat.le_zero.1 (h.K ▸ hotT_less lessK.toLess e), Nat.le_zero.1 (h.N ▸ hotT_less lessN.toLess e)⟩
theorem RefG.testT {n : Nat} {c c' : Clk} (h : RefG c) (e : testT n c = some c') : RefG c' :=
 ⟨(testT_B h.B e).1, testT_I cloR h.R e, Nat.le_zero.1 (h.K ▸ testT_less lessK.toLess e), Nat.le_zero.1 (h.N ▸ testT_less lessN.toLess e)⟩
theorem RefG.coolL {n : Nat} {c c' : Clk} (h : RefG c) (e : coolL n c = some c') : RefG c' :=
 ⟨(coolL_B n c c' h.B e).1, coolL_I cloR n c c' h.R e, Nat.le_zero.1 (h.K ▸ coolL_less lessK.toLess n c c' e), Nat.le_zero.1 (h.N ▸ coolL_less lessN.toLess n c c' e)⟩
theorem RefG.freeL {n : Nat} {c c' : Clk} (h : RefG c) (e : freeL n c = some c') : RefG c' :=
 ⟨(freeL_B n c c' h.B e).1, freeL_I cloR n c c' h.R e, Nat.le_zero.1 (h.K ▸ freeL_less lessK.toLess n c c' e), Nat.le_zero.1 (h.N ▸ freeL_less lessN.toLess n c c' e)⟩
theorem RefG.coldL {n : Nat} {c : Clk} {r : Clk × Ky} (h : RefG c) (e : coldL n c = some r) : RefG r.1 :=
 ⟨(coldL_B n c r h.B e).1, coldL_I cloR n c r h.R e, Nat.le_zero.1 (h.K ▸ coldL_less lessK n c r e), Nat.le_zero.1 (h.N ▸ coldL_less lessN n c r e)⟩
theorem RefG.outL {n : Nat} {c : Clk} {out : List Ky} {r : Clk × List Ky} (h : RefG c) (e : outL n c out = some r) : RefG r.1 :=
 ⟨(outL_B n c out r h.B e).1, outL_I cloR n c out r h.R e, Nat.le_zero.1 (h.K ▸ outL_less lessK n c out r e), Nat.le_zero.1 (h.N ▸ outL_less lessN n c out r e)⟩
theorem RefG.aim {c : Clk} (h : RefG c) (d : Int) : RefG (aimP c d) := ⟨h.B.aim d, cloR.aim c d h.R, h.K, h.N⟩
theorem RefG.goes {c : Clk} (h : RefG c) {i : Nat} {p : Pg} (hp : c.pages[i]? = some p) : RefG (goesP c i) :=
 ⟨h.B.goes i, h.R.goes (List.getElem?_eq_some_iff.1 hp).1, Nat.le_zero.1 (h.K ▸ cnt_del_le hp), Nat.le_zero.1 (h.N ▸ cnt_del_le hp)⟩
theorem RefG.set {c : Clk} (h : RefG c) {i : Nat} {p q : Pg} (hp : c.pages[i]? = some p) (e1 : badK q = false) (e2 : q.pins = p.pins) : RefG (setP c i q) :=
 ⟨h.B.set i q, ⟨by rw [len_set]; exact h.R.h1, by rw [len_set]; exact h.R.h2, by rw [len_set]; exact h.R.h3⟩,
  Nat.le_zero.1 (h.K ▸ cnt_set_le hp (fun hq => by rw [e1] at hq; cases hq)), Nat.le_zero.1 (h.N ▸ cnt_set_le hp (fun hq => by unfold badN at hq ⊢; rw [e2] at hq; exact hq))⟩
theorem RefG.hotS {c : Clk} (h : RefG c) (h0 : 0 < c.pages.length) : RefG { c with hot := onP c c.hot } :=
 ⟨h.B.hotS (onP_le h.B _ h.B.h1 h0), cloR.hot c h.R h0, h.K, h.N⟩
theorem RefG.coldS {c : Clk} (h : RefG c) (h0 : 0 < c.pages.length) : RefG { c with cold := onP c c.cold } :=
 ⟨h.B.coldS (onP_le h.B _ h.B.h2 h0), cloR.cold c h.R h0, h.K, h.N⟩
theorem RefG.testS {c : Clk} (h : RefG c) (h0 : 0 < c.pages.length) : RefG { c with test := onP c c.test } :=
 ⟨h.B.testS (onP_le h.B _ h.B.h3 h0), cloR.test c h.R h0, h.K, h.N⟩
theorem RefG.setHot {c : Clk} (h : RefG c) {i : Nat} {p q : Pg} (hp : c.pages[i]? = some p) (e1 : badK q = false) (e2 : q.pins = p.pins) : RefG { setP c i q with hot := onP c c.hot } := by
 have := (h.set hp e1 e2).hotS (by rw [len_set]; exact lt_of_get hp)
 rw [onP_set] at this
 exact this
theorem RefG.setCold {c : Clk} (h : RefG c) {i : Nat} {p q : Pg} (hp : c.pages[i]? = some p) (e1 : badK q = false) (e2 : q.pins = p.pins) : RefG { setP c i q with cold := onP c c.cold } := by
 have := (h.set hp e1 e2).coldS (by rw [len_set]; exact lt_of_get hp)
 rw [onP_set] at this
 exact this
theorem RefG.setTest {c : Clk} (h : RefG c) {i : Nat} {p q : Pg} (hp : c.pages[i]? = some p) (e1 : badK q = false) (e2 : q.pins = p.pins) (d : Int) : RefG { aimP (setP c i q) d with test := onP c c.test } := by
 have := ((h.set hp e1 e2).aim d).testS (by show 0 < (setP c i q).pages.length; rw [len_set]; exact lt_of_get hp)
 have e : onP (aimP (setP c i q) d) (aimP (setP c i q) d).test = onP c c.test := onP_set c i q c.test
 rw [e] at this
 exact this
theorem RefG.comes {c : Clk} (h : RefG c) (hl : c.pages.length ≤ 10000) {p : Pg} (e1 : badK p = false) (e2 : badN p = false) : RefG (comesP c p) := by
 have a1 := h.R.h1
 have a2 := h.R.h2
 have a3 := h.R.h3
 exact ⟨comes_B h.B (by omega) (by omega) (by omega) (by omega) p, h.R.comes p, by rw [cnt_comes, h.K, e1]; rfl, by rw [cnt_comes, h.N, e2]; rfl⟩
theorem RefG.kind {c : Clk} (h : RefG c) {i : Nat} {p : Pg} (hp : c.pages[i]? = some p) : p.kind = 1 ∨ p.kind = 2 ∨ p.kind = 3 := by
 have := bad_of h.K hp
 unfold badK at this
 simp at this
 omega
theorem RefG.pins {c : Clk} (h : RefG c) {i : Nat} {p : Pg} (hp : c.pages[i]? = some p) : 0 ≤ p.pins := by
 have := bad_of h.N hp
 unfold badN at this
 simp at this
 omega
theorem Bnd.G {c : Clk} (h : Bnd c) : RefG c := ⟨h.B, h.R, h.bk, h.bn⟩
theorem badK_1 {p : Pg} (h : p.kind = 1) : badK p = false := by unfold badK; simp [h]
theorem badK_2 {p : Pg} (h : p.kind = 2) : badK p = false := by unfold badK; simp [h]
theorem badK_3 {p : Pg} (h : p.kind = 3) : badK p = false := by unfold badK; simp [h]
/-- all that are of a kind -/
def isKd (k : Int) (p : Pg) : Bool := decide (p.kind = k)
theorem cnt_res (l : List Pg) : cnt isRes l = cnt (isKd 1) l + cnt (isKd 2) l := by
 induction l with
 | nil => rfl
 | cons p l ih =>
  unfold cnt at ih ⊢
  rw [List.countP_cons, List.countP_cons, List.countP_cons, ih]
  by_cases h1 : p.kind = 1
  ·simp [isRes, isKd, h1]; omega
  ·by_cases h2 : p.kind = 2
   ·simp [isRes, isKd, h2]; omega
   ·simp [isRes, isKd, h1, h2]
theorem cnt_ne {so : Pg → Bool} (l : List Pg) : decide (cnt so l ≠ 0) = l.any so := by
 induction l with
 | nil => rfl
 | cons p l ih =>
  rw [List.any_cons, ← ih]
  unfold cnt
  rw [List.countP_cons]
  cases so p <;> simp
end Go.Proofs.Ytbebhmdjnneimaa
