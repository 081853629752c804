/- There is fuel: the hands come to an end. -/
import Derived.Test.YtdpnpipninggeaaClkLw4
import Derived.Test.YtdpnpipninggeaaClk10
set_option linter.unusedSimpArgs false
set_option linter.unusedVariables false
set_option maxRecDepth 20000
namespace Go.Proofs.Ytdpnpipninggeaa
open Go
/-- the ring as a hand sees it -/
def rot (l : List Pg) (h : Nat) : List Pg := l.drop h ++ l.take h
def way (so : Pg → Bool) (l : List Pg) (h : Nat) : Nat := (rot l h).findIdx so
theorem rot_len (l : List Pg) (h : Nat) : (rot l h).length = l.length := by unfold rot; simp; omega
theorem way_le (so : Pg → Bool) (l : List Pg) (h : Nat) : way so l h ≤ l.length := by rw [← rot_len l h]; exact List.findIdx_le_length
theorem rot_cons {l : List Pg} {h : Nat} {p : Pg} (hp : l[h]? = some p) : rot l h = p :: (l.drop (h + 1) ++ l.take h) := by
 unfold rot
 have hl := (List.getElem?_eq_some_iff.1 hp)
 rw [List.drop_eq_getElem_cons hl.1, hl.2]; rfl
/-- the hand goes on over a page that was turned -/
theorem rot_on {l : List Pg} {h : Nat} {p q : Pg} (hp : l[h]? = some p) : rot (l.set h q) ((h + 1) % l.length) = (l.drop (h + 1) ++ l.take h) ++ [q] := by
 have hl := (List.getElem?_eq_some_iff.1 hp).1
 by_cases he : h + 1 = l.length
 ·rw [he, Nat.mod_self]
  unfold rot
  rw [List.drop_zero, List.take_zero, List.append_nil, ← he, List.drop_of_length_le (by omega), List.nil_append]
  have : l.set h q = l.take h ++ [q] ++ l.drop (h + 1) := by rw [List.set_eq_take_append_cons_drop, if_pos hl]; simp
  rw [this, List.drop_of_length_le (by omega), List.append_nil]
 ·rw [Nat.mod_eq_of_lt (by omega)]
  unfold rot
  have e : l.set h q = l.take h ++ [q] ++ l.drop (h + 1) := by rw [List.set_eq_take_append_cons_drop, if_pos hl]; simp
  have h1 : (l.take h ++ [q]).length = h + 1 := by simp; omega
  rw [e, List.drop_left' h1, List.take_left' h1, List.append_assoc]
theorem findIdx_app {so : Pg → Bool} {a b : List Pg} (h : ∃ x ∈ a, so x = true) : (a ++ b).findIdx so = a.findIdx so := by
 rw [List.findIdx_append, if_pos]
 obtain ⟨x, hx, hs⟩ := h
 exact List.findIdx_lt_length_of_exists ⟨x, hx, hs⟩
/-- a hand that goes on over a page that is not so is nearer to one that is -/
theorem way_on {so : Pg → Bool} {l : List Pg} {h : Nat} {p q : Pg} (hp : l[h]? = some p) (hn : so p = false) (hx : ∃ x ∈ l, so x = true) : way so l h = way so (l.set h q) ((h + 1) % l.length) + 1 := by
 unfold way
 rw [rot_cons hp, rot_on hp, List.findIdx_cons, hn]
 have hl := (List.getElem?_eq_some_iff.1 hp)
 rw [findIdx_app (a := l.drop (h + 1) ++ l.take h) (b := [q])]
 ·rfl
 ·obtain ⟨x, hx, hs⟩ := hx
  have hm : x ∈ rot l h := by
   unfold rot
   have := List.take_append_drop h l
   rw [← this] at hx
   simp only [List.mem_append] at hx ⊢
   exact hx.symm
  rw [rot_cons hp] at hm
  rcases List.mem_cons.1 hm with rfl | hm
  ·rw [hn] at hs; cases hs
  ·exact ⟨x, hm, hs⟩
theorem cnt_set {so : Pg → Bool} {l : List Pg} {h : Nat} {p q : Pg} (hp : l[h]? = some p) : cnt so (l.set h q) + (if so p = true then 1 else 0) = cnt so l + (if so q = true then 1 else 0) := by
 have hl := (List.getElem?_eq_some_iff.1 hp)
 have e : l.set h q = l.take h ++ q :: l.drop (h + 1) := by rw [List.set_eq_take_append_cons_drop, if_pos hl.1]
 have e2 : l = l.take h ++ p :: l.drop (h + 1) := by
  conv => lhs; rw [← List.take_append_drop h l, List.drop_eq_getElem_cons hl.1, hl.2]
 unfold cnt
 conv => rhs; rw [e2]
 rw [e, List.countP_append, List.countP_append, List.countP_cons, List.countP_cons]
 omega
theorem cnt_del {so : Pg → Bool} {l : List Pg} {h : Nat} {p : Pg} (hp : l[h]? = some p) : cnt so (l.take h ++ l.drop (h + 1)) + (if so p = true then 1 else 0) = cnt so l := by
 have hl := (List.getElem?_eq_some_iff.1 hp)
 have e2 : l = l.take h ++ p :: l.drop (h + 1) := by
  conv => lhs; rw [← List.take_append_drop h l, List.drop_eq_getElem_cons hl.1, hl.2]
 unfold cnt
 conv => rhs; rw [e2]
 rw [List.countP_append, List.countP_append, List.countP_cons]
 omega
theorem cnt_pos {so : Pg → Bool} {l : List Pg} (h : cnt so l ≠ 0) : ∃ x ∈ l, so x = true := by
 unfold cnt at h
 exact List.countP_pos_iff.1 (by omega)
def isHR (p : Pg) : Bool := decide (p.kind = 1) && p.ref
theorem hand_get {c : Clk} {h : Nat} (hR : h = 0 ∨ h < c.pages.length) (h0 : 0 < c.pages.length) : ∃ p, c.pages[h]? = some p := ⟨_, List.getElem?_eq_getElem (by omega)⟩
theorem cnt_len {so : Pg → Bool} {l : List Pg} (h : cnt so l ≠ 0) : 0 < l.length := by
 obtain ⟨x, hx, _⟩ := cnt_pos h
 exact List.length_pos_of_mem hx
/-- how far the hand Hot is from its end -/
def hotM (c : Clk) : Nat := (cnt isTest c.pages + cnt isHR c.pages) * 1001 + way isHot c.pages c.hot
theorem hotL_ex : ∀ (n : Nat) (c : Clk), ClkR c → c.pages.length ≤ 1000 → cnt isHot c.pages ≠ 0 → hotM c < n → ∃ c', hotL n c = some c' ∧ cnt isHot c'.pages + 1 = cnt isHot c.pages
 | 0, c, _, _, _, h => by omega
 | n + 1, c, hR, hl, h0, h => by
  obtain ⟨p, hp⟩ := hand_get hR.h1 (cnt_len h0)
  unfold hotL
  simp only [hp]
  by_cases k3 : p.kind = 3
  ·rw [if_pos k3]
   have hpl := (List.getElem?_eq_some_iff.1 hp).1
   have t1 : isTest p = true := by unfold isTest; rw [decide_eq_true k3]
   have t2 : isHot p = false := by unfold isHot; rw [decide_eq_false (by omega)]
   have t3 : isHR p = false := by unfold isHR; rw [decide_eq_false (by omega)]; rfl
   have d1 := cnt_del (so := isTest) hp
   have d2 := cnt_del (so := isHot) hp
   have d3 := cnt_del (so := isHR) hp
   rw [t1] at d1
   rw [t2] at d2
   rw [t3] at d3
   simp only [if_true, Bool.false_eq_true, if_false, Nat.add_zero] at d1 d2 d3
   have hg : (aimP (goesP c c.hot) (-1)).pages = c.pages.take c.hot ++ c.pages.drop (c.hot + 1) := rfl
   have hw := way_le isHot (aimP (goesP c c.hot) (-1)).pages (aimP (goesP c c.hot) (-1)).hot
   have hgl : (aimP (goesP c c.hot) (-1)).pages.length = c.pages.length - 1 := goes_len hpl
   obtain ⟨c', e, hc⟩ := hotL_ex n (aimP (goesP c c.hot) (-1)) (cloR.aim _ _ (hR.goes hpl)) (by omega) (by rw [hg, d2]; exact h0) (by
    unfold hotM at h ⊢
    rw [hg, d3]
    rw [hg] at hw hgl
    omega)
   exact ⟨c', e, by rw [hc, hg, d2]⟩
  ·rw [if_neg k3]
   by_cases k1 : p.kind = 1
   ·have t2 : isHot p = true := by unfold isHot; rw [decide_eq_true k1]
    cases hr : p.ref with
    | true =>
     rw [if_pos ⟨k1, rfl⟩]
     have s1 := cnt_set (so := isTest) (q := { p with ref := false }) hp
     have s2 := cnt_set (so := isHot) (q := { p with ref := false }) hp
     have s3 := cnt_set (so := isHR) (q := { p with ref := false }) hp
     have u1 : isTest { p with ref := false } = isTest p := rfl
     have u2 : isHot { p with ref := false } = isHot p := rfl
     have u3 : isHR { p with ref := false } = false := by unfold isHR; simp
     have u4 : isHR p = true := by unfold isHR; rw [decide_eq_true k1, hr]; rfl
     rw [u1] at s1
     rw [u2] at s2
     rw [u3, u4] at s3
     simp only [if_true, Bool.false_eq_true, if_false, Nat.add_zero] at s3
     have hw := way_le isHot (c.pages.set c.hot { p with ref := false }) (onP c c.hot)
     rw [List.length_set] at hw
     obtain ⟨c', e, hc⟩ := hotL_ex n { setP c c.hot { p with ref := false } with hot := onP c c.hot } (cloR.setHot (q := { p with ref := false }) hR hp rfl rfl (fun h => absurd h k3) (fun h => absurd h k3)) (by show (setP c c.hot _).pages.length ≤ 1000; rw [len_set]; exact hl) (by show cnt isHot (c.pages.set c.hot { p with ref := false }) ≠ 0; omega) (by
      unfold hotM at h ⊢
      show (cnt isTest (c.pages.set c.hot { p with ref := false }) + cnt isHR (c.pages.set c.hot { p with ref := false })) * 1001 + way isHot (c.pages.set c.hot { p with ref := false }) (onP c c.hot) < n
      omega)
     refine ⟨c', e, ?_⟩
     rw [hc]
     show cnt isHot (c.pages.set c.hot { p with ref := false }) = _
     omega
    | false =>
     rw [if_neg (fun h => by cases h.2), if_pos k1]
     have s2 := cnt_set (so := isHot) (q := { p with kind := 2, ref := false, trial := false }) hp
     have u2 : isHot { p with kind := 2, ref := false, trial := false } = false := rfl
     rw [u2, t2] at s2
     simp only [if_true, Bool.false_eq_true, if_false, Nat.add_zero] at s2
     exact ⟨_, rfl, s2⟩
   ·rw [if_neg (fun h => k1 h.1), if_neg k1]
    have t2 : isHot p = false := by unfold isHot; rw [decide_eq_false k1]
    have s1 := cnt_set (so := isTest) (q := { p with trial := false }) hp
    have s2 := cnt_set (so := isHot) (q := { p with trial := false }) hp
    have s3 := cnt_set (so := isHR) (q := { p with trial := false }) hp
    have u1 : isTest { p with trial := false } = isTest p := rfl
    have u2 : isHot { p with trial := false } = isHot p := rfl
    have u3 : isHR { p with trial := false } = isHR p := rfl
    rw [u1] at s1
    rw [u2] at s2
    rw [u3] at s3
    have hw := way_on (q := { p with trial := false }) hp t2 (cnt_pos h0)
    obtain ⟨c', e, hc⟩ := hotL_ex n { setP c c.hot { p with trial := false } with hot := onP c c.hot } (cloR.setHot (q := { p with trial := false }) hR hp rfl rfl (fun h => absurd h k3) (fun h => absurd h k3)) (by show (setP c c.hot _).pages.length ≤ 1000; rw [len_set]; exact hl) (by show cnt isHot (c.pages.set c.hot { p with trial := false }) ≠ 0; omega) (by
     unfold hotM at h ⊢
     show (cnt isTest (c.pages.set c.hot { p with trial := false }) + cnt isHR (c.pages.set c.hot { p with trial := false })) * 1001 + way isHot (c.pages.set c.hot { p with trial := false }) ((c.hot + 1) % c.pages.length) < n
     omega)
    refine ⟨c', e, ?_⟩
    rw [hc]
    show cnt isHot (c.pages.set c.hot { p with trial := false }) = _
    omega
end Go.Proofs.Ytdpnpipninggeaa
/- There is fuel: what is counted, and the other hands. -/
set_option linter.unusedSimpArgs false
set_option linter.unusedVariables false
set_option maxRecDepth 20000
namespace Go.Proofs.Ytdpnpipninggeaa
open Go
/-- what no turn of Hot or Test makes so -/
structure Less (so : Pg → Bool) : Prop where
 r : ∀ p : Pg, so { p with ref := false } = true → so p = true
 k : ∀ p : Pg, p.kind = 1 → so { p with kind := 2, ref := false, trial := false } = true → so p = true
 t : ∀ p : Pg, so { p with trial := false } = true → so p = true
/-- what no turn of Hot or Test turns -/
structure Keep (so : Pg → Bool) : Prop where
 e : ∀ p : Pg, p.kind = 3 → so p = false
 r : ∀ p : Pg, so { p with ref := false } = so p
 k : ∀ p : Pg, p.kind = 1 → so { p with kind := 2, ref := false, trial := false } = so p
 t : ∀ p : Pg, so { p with trial := false } = so p
theorem cnt_set_le {so : Pg → Bool} {l : List Pg} {h : Nat} {p q : Pg} (hp : l[h]? = some p) (hq : so q = true → so p = true) : cnt so (l.set h q) ≤ cnt so l := by
 have := cnt_set (so := so) (q := q) hp
 cases hq' : so q with
 | false => rw [hq'] at this; simp only [Bool.false_eq_true, if_false, Nat.add_zero] at this; omega
 | true => rw [hq', hq hq'] at this; simp only [if_true] at this; omega
theorem cnt_set_eq {so : Pg → Bool} {l : List Pg} {h : Nat} {p q : Pg} (hp : l[h]? = some p) (hq : so q = so p) : cnt so (l.set h q) = cnt so l := by
 have := cnt_set (so := so) (q := q) hp
 rw [hq] at this
 omega
theorem cnt_del_le {so : Pg → Bool} {l : List Pg} {h : Nat} {p : Pg} (hp : l[h]? = some p) : cnt so (l.take h ++ l.drop (h + 1)) ≤ cnt so l := by
 have := cnt_del (so := so) hp; omega
theorem cnt_del_eq {so : Pg → Bool} {l : List Pg} {h : Nat} {p : Pg} (hp : l[h]? = some p) (hq : so p = false) : cnt so (l.take h ++ l.drop (h + 1)) = cnt so l := by
 have := cnt_del (so := so) hp
 rw [hq] at this
 simpa using this
theorem hotL_less {so : Pg → Bool} (S : Less so) : ∀ (n : Nat) (c c' : Clk), hotL n c = some c' → cnt so c'.pages ≤ cnt so c.pages
 | 0, c, c', e => by cases e
 | n + 1, c, c', e => by
  unfold hotL at e
  split at e
  ·cases e
  ·rename_i p hp
   split at e
   ·exact Nat.le_trans (hotL_less S n _ c' e) (cnt_del_le hp)
   ·split at e
    ·exact Nat.le_trans (hotL_less S n _ c' e) (cnt_set_le hp (S.r p))
    ·split at e
     ·rename_i k1
      cases e
      exact cnt_set_le hp (S.k p k1)
     ·exact Nat.le_trans (hotL_less S n _ c' e) (cnt_set_le hp (S.t p))
theorem hotL_keep {so : Pg → Bool} (S : Keep so) : ∀ (n : Nat) (c c' : Clk), hotL n c = some c' → cnt so c'.pages = cnt so c.pages
 | 0, c, c', e => by cases e
 | n + 1, c, c', e => by
  unfold hotL at e
  split at e
  ·cases e
  ·rename_i p hp
   split at e
   ·rename_i k3
    exact (hotL_keep S n _ c' e).trans (cnt_del_eq hp (S.e p k3))
   ·split at e
    ·exact (hotL_keep S n _ c' e).trans (cnt_set_eq hp (S.r p))
    ·split at e
     ·rename_i k1
      cases e
      exact cnt_set_eq hp (S.k p k1)
     ·exact (hotL_keep S n _ c' e).trans (cnt_set_eq hp (S.t p))
theorem hotT_less {so : Pg → Bool} (S : Less so) {n : Nat} {c c' : Clk} (e : hotT n c = some c') : cnt so c'.pages ≤ cnt so c.pages := by
 unfold hotT at e
 split at e
 ·cases e; exact Nat.le_refl _
 ·exact hotL_less S n c c' e
theorem hotT_keep {so : Pg → Bool} (S : Keep so) {n : Nat} {c c' : Clk} (e : hotT n c = some c') : cnt so c'.pages = cnt so c.pages := by
 unfold hotT at e
 split at e
 ·cases e; rfl
 ·exact hotL_keep S n c c' e
theorem testL_less {so : Pg → Bool} (S : Less so) : ∀ (n : Nat) (c c' : Clk), testL n c = some c' → cnt so c'.pages ≤ cnt so c.pages
 | 0, c, c', e => by cases e
 | n + 1, c, c', e => by
  unfold testL at e
  split at e
  ·cases e
  ·rename_i p hp
   split at e
   ·cases e; exact cnt_del_le hp
   ·split at e
    ·exact Nat.le_trans (testL_less S n _ c' e) (cnt_set_le hp (S.t p))
    ·have := testL_less S n _ c' e; exact this
theorem testL_keep {so : Pg → Bool} (S : Keep so) : ∀ (n : Nat) (c c' : Clk), testL n c = some c' → cnt so c'.pages = cnt so c.pages
 | 0, c, c', e => by cases e
 | n + 1, c, c', e => by
  unfold testL at e
  split at e
  ·cases e
  ·rename_i p hp
   split at e
   ·rename_i k3
    cases e; exact cnt_del_eq hp (S.e p k3)
   ·split at e
    ·exact (testL_keep S n _ c' e).trans (cnt_set_eq hp (S.t p))
    ·have := testL_keep S n _ c' e; exact this
theorem testT_less {so : Pg → Bool} (S : Less so) {n : Nat} {c c' : Clk} (e : testT n c = some c') : cnt so c'.pages ≤ cnt so c.pages := by
 unfold testT at e
 split at e
 ·cases e; exact Nat.le_refl _
 ·exact testL_less S n c c' e
theorem testT_keep {so : Pg → Bool} (S : Keep so) {n : Nat} {c c' : Clk} (e : testT n c = some c') : cnt so c'.pages = cnt so c.pages := by
 unfold testT at e
 split at e
 ·cases e; rfl
 ·exact testL_keep S n c c' e
theorem coolL_less {so : Pg → Bool} (S : Less so) : ∀ (n : Nat) (c c' : Clk), coolL n c = some c' → cnt so c'.pages ≤ cnt so c.pages
 | 0, c, c', e => by cases e
 | n + 1, c, c', e => by
  unfold coolL at e
  split at e
  ·cases hx : hotT n c with
   | none => rw [hx] at e; cases e
   | some x => rw [hx] at e; exact Nat.le_trans (coolL_less S n x c' e) (hotT_less S hx)
  ·cases e; exact Nat.le_refl _
theorem coolL_keep {so : Pg → Bool} (S : Keep so) : ∀ (n : Nat) (c c' : Clk), coolL n c = some c' → cnt so c'.pages = cnt so c.pages
 | 0, c, c', e => by cases e
 | n + 1, c, c', e => by
  unfold coolL at e
  split at e
  ·cases hx : hotT n c with
   | none => rw [hx] at e; cases e
   | some x => rw [hx] at e; exact (coolL_keep S n x c' e).trans (hotT_keep S hx)
  ·cases e; rfl
theorem freeL_less {so : Pg → Bool} (S : Less so) : ∀ (n : Nat) (c c' : Clk), freeL n c = some c' → cnt so c'.pages ≤ cnt so c.pages
 | 0, c, c', e => by cases e
 | n + 1, c, c', e => by
  unfold freeL at e
  split at e
  ·cases hx : hotT n c with
   | none => rw [hx] at e; cases e
   | some x => rw [hx] at e; exact Nat.le_trans (freeL_less S n x c' e) (hotT_less S hx)
  ·cases e; exact Nat.le_refl _
theorem freeL_keep {so : Pg → Bool} (S : Keep so) : ∀ (n : Nat) (c c' : Clk), freeL n c = some c' → cnt so c'.pages = cnt so c.pages
 | 0, c, c', e => by cases e
 | n + 1, c, c', e => by
  unfold freeL at e
  split at e
  ·cases hx : hotT n c with
   | none => rw [hx] at e; cases e
   | some x => rw [hx] at e; exact (freeL_keep S n x c' e).trans (hotT_keep S hx)
  ·cases e; rfl
theorem overL_keep {so : Pg → Bool} (S : Keep so) : ∀ (n : Nat) (c c' : Clk), overL n c = some c' → cnt so c'.pages = cnt so c.pages
 | 0, c, c', e => by cases e
 | n + 1, c, c', e => by
  unfold overL at e
  split at e
  ·cases hx : testT n c with
   | none => rw [hx] at e; cases e
   | some x => rw [hx] at e; exact (overL_keep S n x c' e).trans (testT_keep S hx)
  ·cases e; rfl
def isRef (p : Pg) : Bool := p.ref
theorem lessRef : Less isRef := ⟨(fun p h => by cases h), (fun p _ h => by cases h), fun p h => h⟩
theorem lessTest : Less isTest := ⟨fun p h => h, (fun p _ h => by cases h), fun p h => h⟩
theorem keepRes : Keep isRes := ⟨(fun p h => by unfold isRes; rw [h]; rfl), fun p => rfl, (fun p h => by unfold isRes; rw [h]; rfl), fun p => rfl⟩
theorem keepFree : Keep isFree := ⟨(fun p h => by unfold isFree isRes; rw [h]; rfl), fun p => rfl, (fun p h => by unfold isFree isRes; rw [h]; rfl), fun p => rfl⟩
theorem hotT_ex {n : Nat} {c : Clk} (hR : ClkR c) (hl : c.pages.length ≤ 100) (hn : 300000 ≤ n) : ∃ c', hotT n c = some c' ∧ cnt isHot c'.pages = cnt isHot c.pages - 1 := by
 unfold hotT
 by_cases h0 : cnt isHot c.pages = 0
 ·rw [if_pos h0]; exact ⟨c, rfl, by omega⟩
 ·rw [if_neg h0]
  have h1 : cnt isTest c.pages ≤ c.pages.length := List.countP_le_length
  have h2 : cnt isHR c.pages ≤ c.pages.length := List.countP_le_length
  have h3 := way_le isHot c.pages c.hot
  obtain ⟨c', e, hc⟩ := hotL_ex n c hR (by omega) h0 (by unfold hotM; omega)
  exact ⟨c', e, by omega⟩
theorem coolL_ex : ∀ (m n : Nat) (c : Clk), ClkR c → c.pages.length ≤ 100 → c.target ≤ c.most → cnt isHot c.pages < m → 300000 + m ≤ n → (∀ c c' n, hotT n c = some c' → c.target ≤ c.most → c'.target ≤ c'.most) → ∃ c', coolL n c = some c'
 | 0, n, c, _, _, _, h, _, _ => by omega
 | m + 1, n, c, hR, hl, ht, h, hn, hT => by
  obtain ⟨n, rfl⟩ : ∃ k, n = k + 1 := ⟨n - 1, by omega⟩
  unfold coolL
  split
  ·rename_i hg
   obtain ⟨x, hx, hc⟩ := hotT_ex (n := n) hR hl (by omega)
   rw [hx]
   exact coolL_ex m n x (hotT_I cloR hR hx) (hotT_I (cloLen 100) hl hx) (hT _ _ _ hx ht) (by omega) (by omega) hT
  ·exact ⟨_, rfl⟩
theorem freeL_ex : ∀ (m n : Nat) (c : Clk), ClkR c → c.pages.length ≤ 100 → cnt isFree c.pages ≠ 0 → cnt isHot c.pages < m → 300000 + m ≤ n → ∃ c', freeL n c = some c' ∧ cnt isCold c'.pages ≠ 0
 | 0, n, c, _, _, _, h, _ => by omega
 | m + 1, n, c, hR, hl, hf, h, hn => by
  obtain ⟨n, rfl⟩ : ∃ k, n = k + 1 := ⟨n - 1, by omega⟩
  unfold freeL
  split
  ·rename_i hz
   obtain ⟨x, hx, hc⟩ := hotT_ex (n := n) hR hl (by omega)
   rw [hx]
   have h0 : cnt isHot c.pages ≠ 0 := by
    intro h0
    obtain ⟨p, hp, hs⟩ := cnt_pos hf
    have a1 : isHot p = false := by
     cases e : isHot p with
     | false => rfl
     | true =>
      have : 0 < cnt isHot c.pages := List.countP_pos_iff.2 ⟨p, hp, e⟩
      omega
    have a2 : isCold p = false := by
     cases e : isCold p with
     | false => rfl
     | true =>
      have : 0 < cnt isCold c.pages := List.countP_pos_iff.2 ⟨p, hp, e⟩
      omega
    unfold isFree isRes at hs
    unfold isHot at a1
    unfold isCold at a2
    rw [a1, Bool.false_or, a2] at hs
    cases hs
   exact freeL_ex m n x (hotT_I cloR hR hx) (hotT_I (cloLen 100) hl hx) (by rw [hotT_keep keepFree hx]; exact hf) (by omega) (by omega)
  ·rename_i hz
   exact ⟨_, rfl, hz⟩
end Go.Proofs.Ytdpnpipninggeaa

/- There is fuel: the hands Test and Cold; a page is put out. -/
set_option linter.unusedSimpArgs false
set_option linter.unusedVariables false
set_option maxRecDepth 20000
namespace Go.Proofs.Ytdpnpipninggeaa
open Go
theorem cloT : Clo (fun c => c.target ≤ c.most) where
 goes c i p h _ _ := h
 aim c d h := by show min (max (c.target + d) 1) c.most ≤ c.most; omega
 set c i p q h _ _ _ _ _ := h
 hot c h _ := h
 cold c h _ := h
 test c h _ := h
theorem set_self' {l : List Pg} {h : Nat} {p : Pg} (hp : l[h]? = some p) : l.set h p = l := by
 have hl := List.getElem?_eq_some_iff.1 hp
 refine List.ext_getElem? fun i => ?_
 by_cases e : h = i
 ·subst e; rw [List.getElem?_set_self hl.1, hp]
 ·rw [List.getElem?_set_ne e]
theorem testL_ex : ∀ (n : Nat) (c : Clk), ClkR c → cnt isTest c.pages ≠ 0 → way isTest c.pages c.test < n → ∃ c', testL n c = some c' ∧ cnt isTest c'.pages + 1 = cnt isTest c.pages
 | 0, c, _, _, h => by omega
 | n + 1, c, hR, h0, h => by
  obtain ⟨p, hp⟩ := hand_get hR.h3 (cnt_len h0)
  unfold testL
  simp only [hp]
  by_cases k3 : p.kind = 3
  ·rw [if_pos k3]
   have t1 : isTest p = true := by unfold isTest; rw [decide_eq_true k3]
   have d1 := cnt_del (so := isTest) hp
   rw [t1] at d1
   simp only [if_true] at d1
   exact ⟨_, rfl, d1⟩
  ·rw [if_neg k3]
   have t1 : isTest p = false := by unfold isTest; rw [decide_eq_false k3]
   by_cases k2 : p.kind = 2 ∧ p.trial = true
   ·rw [if_pos k2]
    have s1 := cnt_set_eq (so := isTest) (q := { p with trial := false }) hp rfl
    have hw := way_on (q := { p with trial := false }) hp t1 (cnt_pos h0)
    obtain ⟨c', e, hc⟩ := testL_ex n { aimP (setP c c.test { p with trial := false }) (-1) with test := onP c c.test } (cloR.setTest (q := { p with trial := false }) hR hp rfl rfl (fun h => absurd h k3) (fun h => absurd h k3) _) (by show cnt isTest (c.pages.set c.test { p with trial := false }) ≠ 0; omega) (by
     show way isTest (c.pages.set c.test { p with trial := false }) ((c.test + 1) % c.pages.length) < n
     omega)
    refine ⟨c', e, ?_⟩
    rw [hc]
    exact s1
   ·rw [if_neg k2]
    have hw := way_on (q := p) hp t1 (cnt_pos h0)
    rw [set_self' hp] at hw
    obtain ⟨c', e, hc⟩ := testL_ex n { c with test := onP c c.test } (cloR.test _ hR (lt_of_get hp)) h0 (by
     show way isTest c.pages ((c.test + 1) % c.pages.length) < n
     omega)
    exact ⟨c', e, hc⟩
theorem testT_ex {n : Nat} {c : Clk} (hR : ClkR c) (hl : c.pages.length ≤ 100) (hn : 101 ≤ n) : ∃ c', testT n c = some c' ∧ cnt isTest c'.pages = cnt isTest c.pages - 1 := by
 unfold testT
 by_cases h0 : cnt isTest c.pages = 0
 ·rw [if_pos h0]; exact ⟨c, rfl, by omega⟩
 ·rw [if_neg h0]
  have h3 := way_le isTest c.pages c.test
  obtain ⟨c', e, hc⟩ := testL_ex n c hR h0 (by omega)
  exact ⟨c', e, by omega⟩
theorem overL_ex : ∀ (m n : Nat) (c : Clk), ClkR c → c.pages.length ≤ 100 → 0 ≤ c.most → cnt isTest c.pages < m → 101 + m ≤ n → ∃ c', overL n c = some c' ∧ (cnt isTest c'.pages : Int) ≤ c.most
 | 0, n, c, _, _, _, h, _ => by omega
 | m + 1, n, c, hR, hl, h0, h, hn => by
  obtain ⟨n, rfl⟩ : ∃ k, n = k + 1 := ⟨n - 1, by omega⟩
  unfold overL
  split
  ·rename_i hg
   obtain ⟨x, hx, hc⟩ := testT_ex (n := n) hR hl (by omega)
   rw [hx]
   have hm : x.most = c.most := by
    have S : Clo (fun y => y.most = c.most) := ⟨fun c i p h _ _ => h, fun c d h => h, fun c i p q h _ _ _ _ _ => h, fun c h _ => h, fun c h _ => h, fun c h _ => h⟩
    exact testT_I S rfl hx
   obtain ⟨y, hy, hy2⟩ := overL_ex m n x (testT_I cloR hR hx) (testT_I (cloLen 100) hl hx) (by omega) (by omega) (by omega)
   exact ⟨y, hy, by omega⟩
  ·exact ⟨_, rfl, by omega⟩
/-- how far the hand Cold is from its end -/
def coldM (c : Clk) : Nat := cnt isRef c.pages * 201 + (if cnt isCold c.pages = 0 then 101 else way isCold c.pages c.cold)
theorem putP_ex {n : Nat} {c : Clk} {p : Pg} (hR : ClkR c) (hl : c.pages.length ≤ 100) (h0 : 0 ≤ c.most) (hp : c.pages[c.cold]? = some p) (hcf : isCold p = true) (hn : 300 ≤ n) : ∃ r, putP n c = some r ∧ cnt isRes r.1.pages + 1 = cnt isRes c.pages := by
 unfold putP
 rw [hp]
 dsimp only
 have k := isCold_of (p := p) (by rw [hcf]; decide)
 have r1 : isRes p = true := by unfold isRes; rw [decide_eq_true k.1]; exact Bool.or_true _
 have hpl := (List.getElem?_eq_some_iff.1 hp).1
 by_cases ht : p.trial = true
 ·rw [if_pos ht]
  have s1 := cnt_set (so := isRes) (q := { p with kind := 3 }) hp
  have u1 : isRes { p with kind := 3 } = false := rfl
  rw [u1, r1] at s1
  simp only [if_true, Bool.false_eq_true, if_false, Nat.add_zero] at s1
  have c3 : cnt isTest (setP c c.cold { p with kind := 3 }).pages ≤ (setP c c.cold { p with kind := 3 }).pages.length := List.countP_le_length
  rw [len_set] at c3
  obtain ⟨x, hx, _⟩ := overL_ex 101 n { setP c c.cold { p with kind := 3 } with cold := onP c c.cold } (cloR.setCold (q := { p with kind := 3 }) hR hp rfl rfl (fun _ => .inr k.2) (fun _ => rfl)) (by show (setP c c.cold _).pages.length ≤ 100; rw [len_set]; exact hl) h0 (by show cnt isTest (setP c c.cold { p with kind := 3 }).pages < 101; omega) (by omega)
  have hk := overL_keep keepRes n _ x hx
  exact ⟨(x, p.key), by rw [hx]; rfl, by show cnt isRes x.pages + 1 = _; rw [hk]; exact s1⟩
 ·rw [if_neg ht]
  have s1 := cnt_del (so := isRes) hp
  rw [r1] at s1
  simp only [if_true] at s1
  have c3 : cnt isTest (goesP c c.cold).pages ≤ (goesP c c.cold).pages.length := List.countP_le_length
  rw [goes_len hpl] at c3
  obtain ⟨x, hx, _⟩ := overL_ex 101 n (goesP c c.cold) (hR.goes hpl) (by rw [goes_len hpl]; omega) h0 (by omega) (by omega)
  have hk := overL_keep keepRes n _ x hx
  exact ⟨(x, p.key), by rw [hx]; rfl, by show cnt isRes x.pages + 1 = _; rw [hk]; exact s1⟩
theorem freeL_same {n : Nat} {c x : Clk} (h : cnt isCold c.pages ≠ 0) (e : freeL n c = some x) : x = c := by
 cases n with
 | zero => cases e
 | succ n =>
  unfold freeL at e
  rw [if_neg h] at e
  exact (Option.some.inj e).symm
theorem coldL_ex : ∀ (m n : Nat) (c : Clk), ClkR c → c.pages.length ≤ 100 → 0 ≤ c.most → c.target ≤ c.most → cnt isFree c.pages ≠ 0 → coldM c < m → 400000 + m ≤ n → ∃ r, coldL n c = some r ∧ cnt isRes r.1.pages + 1 = cnt isRes c.pages
 | 0, n, c, _, _, _, _, _, h, _ => by omega
 | m + 1, n, c, hR, hl, h0, ht, hf, h, hn => by
  obtain ⟨n, rfl⟩ : ∃ k, n = k + 1 := ⟨n - 1, by omega⟩
  unfold coldL
  have hh : cnt isHot c.pages ≤ c.pages.length := List.countP_le_length
  obtain ⟨x, hx, hxc⟩ := freeL_ex 101 n c hR hl hf (by omega) (by omega)
  rw [hx]
  simp only [Option.bind_some]
  have hR' := freeL_I cloR n c x hR hx
  have hl' := freeL_I (cloLen 100) n c x hl hx
  have ht' := freeL_I cloT n c x ht hx
  have hm : x.most = c.most := by
   have S : Clo (fun y => y.most = c.most) := ⟨fun c i p h _ _ => h, fun c d h => h, fun c i p q h _ _ _ _ _ => h, fun c h _ => h, fun c h _ => h, fun c h _ => h⟩
   exact freeL_I S n c x rfl hx
  have hf' : cnt isFree x.pages ≠ 0 := by rw [freeL_keep keepFree n c x hx]; exact hf
  have hres := freeL_keep keepRes n c x hx
  have href := freeL_less lessRef n c x hx
  have hM : cnt isRef x.pages * 201 + way isCold x.pages x.cold ≤ coldM c := by
   unfold coldM
   by_cases hz : cnt isCold c.pages = 0
   ·rw [if_pos hz]
    have := way_le isCold x.pages x.cold
    omega
   ·rw [if_neg hz, freeL_same hz hx]
    exact Nat.le_refl _
  obtain ⟨p, hp⟩ := hand_get hR'.h2 (cnt_len hxc)
  simp only [hp]
  have hpl := (List.getElem?_eq_some_iff.1 hp).1
  have hcm : ∀ y : Clk, coldM y ≤ cnt isRef y.pages * 201 + (if cnt isCold y.pages = 0 then 101 else way isCold y.pages y.cold) := fun y => Nat.le_refl _
  have hcl : ∀ y : Clk, y.pages.length ≤ 100 → coldM y ≤ cnt isRef y.pages * 201 + 101 := by
   intro y hy
   unfold coldM
   have := way_le isCold y.pages y.cold
   split <;> omega
  cases hcf : isCold p with
  | false =>
   rw [if_pos rfl]
   have hw := way_on (q := p) hp hcf (cnt_pos hxc)
   rw [set_self' hp] at hw
   obtain ⟨r, e, hc⟩ := coldL_ex m n { x with cold := onP x x.cold } (cloR.cold _ hR' (lt_of_get hp)) hl' (by show 0 ≤ x.most; omega) ht' hf' (by
    unfold coldM
    show cnt isRef x.pages * 201 + (if cnt isCold x.pages = 0 then 101 else way isCold x.pages ((x.cold + 1) % x.pages.length)) < m
    rw [if_neg hxc]
    omega) (by omega)
   exact ⟨r, e, by rw [hc]; exact hres⟩
  | true =>
   rw [if_neg (by decide)]
   have k := isCold_of (p := p) (by rw [hcf]; decide)
   have nk3 : p.kind ≠ 3 := by omega
   cases hr : p.ref with
   | false =>
    rw [if_neg (fun h => by cases h.1), if_neg (by decide)]
    obtain ⟨r, e, hc⟩ := putP_ex (n := n) hR' hl' (by omega) hp hcf (by omega)
    exact ⟨r, e, by rw [hc]; exact hres⟩
   | true =>
    have fr1 : isRef p = true := hr
    cases htr : p.trial with
    | false =>
     rw [if_neg (fun h => by cases h.2), if_pos rfl]
     have s1 := cnt_set (so := isRef) (q := { p with ref := false, trial := true }) hp
     have u1 : isRef { p with ref := false, trial := true } = false := rfl
     rw [u1, fr1] at s1
     simp only [if_true, Bool.false_eq_true, if_false, Nat.add_zero] at s1
     have s2 := cnt_set_eq (so := isFree) (q := { p with ref := false, trial := true }) hp rfl
     have s3 := cnt_set_eq (so := isRes) (q := { p with ref := false, trial := true }) hp rfl
     have hl2 : ({ setP x x.cold { p with ref := false, trial := true } with cold := onP x x.cold } : Clk).pages.length ≤ 100 := by show (setP x x.cold _).pages.length ≤ 100; rw [len_set]; exact hl'
     have hM2 := hcl _ hl2
     have hM3 : coldM { setP x x.cold { p with ref := false, trial := true } with cold := onP x x.cold } ≤ cnt isRef (x.pages.set x.cold { p with ref := false, trial := true }) * 201 + 101 := hM2
     obtain ⟨r, e, hc⟩ := coldL_ex m n { setP x x.cold { p with ref := false, trial := true } with cold := onP x x.cold } (cloR.setCold (q := { p with ref := false, trial := true }) hR' hp rfl rfl (fun h => absurd h nk3) (fun h => absurd h nk3)) hl2 (by show 0 ≤ x.most; omega) ht' (by show cnt isFree (x.pages.set x.cold { p with ref := false, trial := true }) ≠ 0; omega) (by omega) (by omega)
     exact ⟨r, e, by rw [hc]; show cnt isRes (x.pages.set x.cold { p with ref := false, trial := true }) = _; omega⟩
    | true =>
     rw [if_pos ⟨rfl, rfl⟩]
     have s1 := cnt_set (so := isRef) (q := { p with kind := 1, ref := false, trial := false }) hp
     have u1 : isRef { p with kind := 1, ref := false, trial := false } = false := rfl
     rw [u1, fr1] at s1
     simp only [if_true, Bool.false_eq_true, if_false, Nat.add_zero] at s1
     have s2 := cnt_set_eq (so := isFree) (q := { p with kind := 1, ref := false, trial := false }) hp (by unfold isFree isRes; rw [k.1]; rfl)
     have s3 := cnt_set_eq (so := isRes) (q := { p with kind := 1, ref := false, trial := false }) hp (by unfold isRes; rw [k.1]; rfl)
     have hl2 : ({ setP x x.cold { p with kind := 1, ref := false, trial := false } with cold := onP x x.cold } : Clk).pages.length ≤ 100 := by show (setP x x.cold _).pages.length ≤ 100; rw [len_set]; exact hl'
     have hR2 : ClkR { setP x x.cold { p with kind := 1, ref := false, trial := false } with cold := onP x x.cold } := cloR.setCold (q := { p with kind := 1, ref := false, trial := false }) hR' hp rfl rfl (fun h => by cases h) (fun h => absurd h nk3)
     have hh2 : cnt isHot (x.pages.set x.cold { p with kind := 1, ref := false, trial := false }) ≤ (x.pages.set x.cold { p with kind := 1, ref := false, trial := false }).length := List.countP_le_length
     rw [List.length_set] at hh2
     obtain ⟨y, hy⟩ := coolL_ex 101 n { setP x x.cold { p with kind := 1, ref := false, trial := false } with cold := onP x x.cold } hR2 hl2 ht' (by show cnt isHot (x.pages.set x.cold _) < 101; omega) (by omega) (fun c c' n e h => hotT_I cloT h e)
     rw [hy]
     simp only [Option.bind_some]
     have y1 := coolL_less lessRef n _ y hy
     have y2 := coolL_keep keepFree n _ y hy
     have y3 := coolL_keep keepRes n _ y hy
     have y4 := coolL_I (cloLen 100) n _ y hl2 hy
     have hM2 := hcl y y4
     have y1' : cnt isRef y.pages ≤ cnt isRef (x.pages.set x.cold { p with kind := 1, ref := false, trial := false }) := y1
     have y2' : cnt isFree y.pages = cnt isFree (x.pages.set x.cold { p with kind := 1, ref := false, trial := false }) := y2
     have y3' : cnt isRes y.pages = cnt isRes (x.pages.set x.cold { p with kind := 1, ref := false, trial := false }) := y3
     have hmy : y.most = x.most := by
      have S : Clo (fun z => z.most = x.most) := ⟨fun c i p h _ _ => h, fun c d h => h, fun c i p q h _ _ _ _ _ => h, fun c h _ => h, fun c h _ => h, fun c h _ => h⟩
      exact coolL_I S n { setP x x.cold { p with kind := 1, ref := false, trial := false } with cold := onP x x.cold } y rfl hy
     obtain ⟨r, e, hc⟩ := coldL_ex m n y (coolL_I cloR n _ y hR2 hy) y4 (by omega) (coolL_I cloT n { setP x x.cold { p with kind := 1, ref := false, trial := false } with cold := onP x x.cold } y ht' hy) (by omega) (by omega) (by omega)
     exact ⟨r, e, by omega⟩
end Go.Proofs.Ytdpnpipninggeaa

/- There is fuel: a page comes. -/
set_option linter.unusedSimpArgs false
set_option linter.unusedVariables false
set_option maxRecDepth 20000
namespace Go.Proofs.Ytdpnpipninggeaa
open Go
theorem ClkR.comes {c : Clk} (h : ClkR c) (p : Pg) : ClkR (comesP c p) := by
  obtain ⟨h1, h2, h3⟩ := h
  unfold comesP
  by_cases h0 : c.pages.length = 0
  · rw [if_pos h0]; exact ⟨.inl rfl, .inl rfl, .inl rfl⟩
  · rw [if_neg h0]
    have hl : (c.pages.take c.hot ++ [p] ++ c.pages.drop c.hot).length = c.pages.length + 1 := by simp; omega
    refine ⟨?_, ?_, ?_⟩
    all_goals
      show handC _ _ = 0 ∨ handC _ _ < (c.pages.take c.hot ++ [p] ++ c.pages.drop c.hot).length
      rw [hl]
      unfold handC
      split <;> omega
theorem comes_len (c : Clk) (p : Pg) (h : c.hot = 0 ∨ c.hot < c.pages.length) : (comesP c p).pages.length = c.pages.length + 1 := by
 unfold comesP
 by_cases h0 : c.pages.length = 0
 ·rw [if_pos h0]; simp [h0]
 ·rw [if_neg h0]; simp; omega
theorem cnt_comes {so : Pg → Bool} (c : Clk) (p : Pg) : cnt so (comesP c p).pages = cnt so c.pages + (if so p = true then 1 else 0) := by
 unfold comesP
 by_cases h0 : c.pages.length = 0
 ·rw [if_pos h0]
  have : c.pages = [] := List.eq_nil_of_length_eq_zero h0
  unfold cnt
  rw [this]
  simp [List.countP_cons]
 ·rw [if_neg h0]
  unfold cnt
  dsimp only
  conv => rhs; rw [← List.take_append_drop c.hot c.pages]
  rw [List.countP_append, List.countP_append, List.countP_append, List.countP_singleton]
  omega
theorem comes_most (c : Clk) (p : Pg) : (comesP c p).most = c.most := by unfold comesP; split <;> rfl
theorem comes_target (c : Clk) (p : Pg) : (comesP c p).target = c.target := by unfold comesP; split <;> rfl
/-- what is needed for a page to come -/
structure ClkI (c : Clk) : Prop where
 R : ClkR c
 ln : c.pages.length ≤ 99
 m1 : 1 ≤ c.most
 tm : c.target ≤ c.most
 rs : (cnt isRes c.pages : Int) ≤ c.most
theorem outL_ex {n : Nat} {c : Clk} (h : ClkI c) (hf : (cnt isRes c.pages : Int) < c.most ∨ cnt isFree c.pages ≠ 0) (hn : 500000 ≤ n) : ∃ r, outL n c [] = some r ∧ (cnt isRes r.1.pages : Int) < c.most := by
 obtain ⟨n, rfl⟩ : ∃ k, n = k + 1 := ⟨n - 1, by omega⟩
 rw [outL_s]
 by_cases hg : c.most ≤ (cnt isRes c.pages : Int)
 ·rw [if_pos hg]
  have hf' : cnt isFree c.pages ≠ 0 := by rcases hf with hf | hf; omega; exact hf
  have hlr : cnt isRef c.pages ≤ c.pages.length := List.countP_le_length
  have hw := way_le isCold c.pages c.cold
  have hln := h.ln
  obtain ⟨r, e, hc⟩ := coldL_ex 90000 n c h.R (by omega) (by have := h.m1; omega) h.tm hf' (by unfold coldM; split <;> omega) (by omega)
  rw [e]
  simp only [Option.bind_some]
  have hm : r.1.most = c.most := by
   have S : Clo (fun z => z.most = c.most) := ⟨fun c i p h _ _ => h, fun c d h => h, fun c i p q h _ _ _ _ _ => h, fun c h _ => h, fun c h _ => h, fun c h _ => h⟩
   exact coldL_I S n c r rfl e
  have hrs := h.rs
  obtain ⟨n, rfl⟩ : ∃ k, n = k + 1 := ⟨n - 1, by omega⟩
  refine ⟨(r.1, [] ++ [r.2]), ?_, by show (cnt isRes r.1.pages : Int) < c.most; omega⟩
  rw [outL_s, if_neg (by omega)]
 ·rw [if_neg hg]
  exact ⟨(c, []), rfl, by show (cnt isRes c.pages : Int) < c.most; omega⟩
theorem gone_I {c : Clk} {k : Ky} (h : ClkI c) (ht : (touchP c k).2 = false) : ClkI (goneP c (fndK c.pages k)) ∧ cnt isRes (goneP c (fndK c.pages k)).pages = cnt isRes c.pages ∧ cnt isFree (goneP c (fndK c.pages k)).pages = cnt isFree c.pages ∧ (goneP c (fndK c.pages k)).most = c.most := by
 unfold goneP
 rcases fnd_lt c.pages k with hf | ⟨i, p, hf, hp, hpk⟩
 ·rw [hf, if_neg (by omega)]; exact ⟨h, rfl, rfl, rfl⟩
 ·rw [hf, if_pos (by omega), Int.toNat_natCast]
  rw [touch_at hf hp] at ht
  have hr : isRes p = false := by
   cases e : isRes p with
   | false => rfl
   | true => rw [e, if_pos rfl] at ht; cases ht
  have hfr : isFree p = false := by unfold isFree; rw [hr]; rfl
  have hpl := (List.getElem?_eq_some_iff.1 hp).1
  have e1 : cnt isRes (aimP (goesP c i) 1).pages = cnt isRes c.pages := cnt_del_eq hp hr
  have e2 : cnt isFree (aimP (goesP c i) 1).pages = cnt isFree c.pages := cnt_del_eq hp hfr
  refine ⟨⟨cloR.aim _ _ (h.R.goes hpl), ?_, h.m1, ?_, ?_⟩, e1, e2, rfl⟩
  ·show (goesP c i).pages.length ≤ 99
   rw [goes_len hpl]; have := h.ln; omega
  ·show min (max (c.target + 1) 1) c.most ≤ c.most
   omega
  ·rw [e1]; exact h.rs
theorem admit_ex {c : Clk} (k : Ky) (h : ClkI c) : ∃ d, admitP 1000000 c k = some d := by
 unfold admitP
 by_cases ht : (touchP c k).2 = true
 ·rw [if_pos ht]; exact ⟨_, rfl⟩
 ·rw [if_neg ht]
  by_cases hfull : c.most ≤ (cnt isRes c.pages : Int) ∧ cnt isFree c.pages = 0
  ·rw [if_pos hfull]; exact ⟨_, rfl⟩
  ·rw [if_neg hfull]
   obtain ⟨hI, e1, e2, e3⟩ := gone_I (k := k) h (by simpa using ht)
   obtain ⟨r, hr, hlt⟩ := outL_ex (n := 1000000) hI (by
    rw [e1, e2, e3]
    by_cases g : (cnt isRes c.pages : Int) < c.most
    ·exact .inl g
    ·exact .inr (fun g2 => hfull ⟨by omega, g2⟩)) (by decide)
   rw [hr]
   simp only [Option.bind_some]
   have hR := outL_I cloR _ _ _ r hI.R hr
   have hl := outL_I (cloLen 99) _ _ _ r hI.ln hr
   have htm := outL_I cloT _ _ _ r hI.tm hr
   have hh : cnt isHot (comesP r.1 (newPg k (fndK c.pages k))).pages ≤ (comesP r.1 (newPg k (fndK c.pages k))).pages.length := List.countP_le_length
   have hcl := comes_len r.1 (newPg k (fndK c.pages k)) hR.h1
   obtain ⟨c', e⟩ := coolL_ex 101 1000000 (comesP r.1 (newPg k (fndK c.pages k))) (hR.comes _) (by omega) (by rw [comes_most, comes_target]; exact htm) (by omega) (by decide) (fun c c' n e h => hotT_I cloT h e)
   rw [e]
   exact ⟨_, rfl⟩
end Go.Proofs.Ytdpnpipninggeaa
