/- The bounds of a ring stay, whatever turns. -/
import Derived.Test.YtdpnpipninggeaaClkLaw
set_option linter.unusedSimpArgs false
set_option linter.unusedVariables false
namespace Go.Proofs.Ytdpnpipninggeaa
open Go
theorem ClkB.set {c : Clk} (h : ClkB c) (i : Nat) (p : Pg) : ClkB (setP c i p) := ⟨h.m1, h.m2, h.t1, h.t2, by unfold setP; dsimp only; rw [List.length_set]; exact h.ln, h.h1, h.h2, h.h3⟩
theorem ClkB.hotS {c : Clk} (h : ClkB c) {x : Nat} (hx : x ≤ 1000000) : ClkB { c with hot := x } := ⟨h.m1, h.m2, h.t1, h.t2, h.ln, hx, h.h2, h.h3⟩
theorem ClkB.coldS {c : Clk} (h : ClkB c) {x : Nat} (hx : x ≤ 1000000) : ClkB { c with cold := x } := ⟨h.m1, h.m2, h.t1, h.t2, h.ln, h.h1, hx, h.h3⟩
theorem ClkB.testS {c : Clk} (h : ClkB c) {x : Nat} (hx : x ≤ 1000000) : ClkB { c with test := x } := ⟨h.m1, h.m2, h.t1, h.t2, h.ln, h.h1, h.h2, hx⟩
theorem lt_of_get {α : Type} {l : List α} {i : Nat} {x : α} (h : l[i]? = some x) : 0 < l.length := Nat.lt_of_le_of_lt (Nat.zero_le _) (List.getElem?_eq_some_iff.1 h).1
theorem hotL_B : ∀ (n : Nat) (c c' : Clk), ClkB c → hotL n c = some c' → ClkB c' ∧ c'.most = c.most
 | 0, c, c', h, e => by cases e
 | n + 1, c, c', h, e => by
  unfold hotL at e
  split at e
  ·cases e
  ·rename_i p hp
   have h0 := lt_of_get hp
   have hon := onP_le h c.hot h.h1 h0
   split at e
   ·obtain ⟨a', b'⟩ := hotL_B n _ c' ((h.goes _).aim _) e; exact ⟨a', b'⟩
   ·split at e
    ·obtain ⟨a', b'⟩ := hotL_B n _ c' ((h.set _ _).hotS hon) e; exact ⟨a', b'⟩
    ·split at e
     ·cases e; exact ⟨(h.set _ _).hotS hon, rfl⟩
     ·obtain ⟨a', b'⟩ := hotL_B n _ c' ((h.set _ _).hotS hon) e; exact ⟨a', b'⟩
theorem hotT_B {n : Nat} {c c' : Clk} (h : ClkB c) (e : hotT n c = some c') : ClkB c' ∧ c'.most = c.most := by
 unfold hotT at e
 split at e
 ·cases e; exact ⟨h, rfl⟩
 ·exact hotL_B n c c' h e
theorem testL_B : ∀ (n : Nat) (c c' : Clk), ClkB c → testL n c = some c' → ClkB c' ∧ c'.most = c.most
 | 0, c, c', h, e => by cases e
 | n + 1, c, c', h, e => by
  unfold testL at e
  split at e
  ·cases e
  ·rename_i p hp
   have h0 := lt_of_get hp
   have hon := onP_le h c.test h.h3 h0
   split at e
   ·cases e; exact ⟨(h.goes _).aim _, rfl⟩
   ·split at e
    ·obtain ⟨a', b'⟩ := testL_B n _ c' (((h.set _ _).aim _).testS hon) e; exact ⟨a', b'⟩
    ·obtain ⟨a', b'⟩ := testL_B n _ c' (h.testS hon) e; exact ⟨a', b'⟩
theorem testT_B {n : Nat} {c c' : Clk} (h : ClkB c) (e : testT n c = some c') : ClkB c' ∧ c'.most = c.most := by
 unfold testT at e
 split at e
 ·cases e; exact ⟨h, rfl⟩
 ·exact testL_B n c c' h e
theorem coolL_B : ∀ (n : Nat) (c c' : Clk), ClkB c → coolL n c = some c' → ClkB c' ∧ c'.most = c.most
 | 0, c, c', h, e => by cases e
 | n + 1, c, c', h, e => by
  unfold coolL at e
  split at e
  ·cases hx : hotT n c with
   | none => rw [hx] at e; cases e
   | some x =>
    rw [hx] at e
    obtain ⟨a, b⟩ := hotT_B h hx
    obtain ⟨a2, b2⟩ := coolL_B n x c' a e
    exact ⟨a2, b2.trans b⟩
  ·cases e; exact ⟨h, rfl⟩
theorem freeL_B : ∀ (n : Nat) (c c' : Clk), ClkB c → freeL n c = some c' → ClkB c' ∧ c'.most = c.most
 | 0, c, c', h, e => by cases e
 | n + 1, c, c', h, e => by
  unfold freeL at e
  split at e
  ·cases hx : hotT n c with
   | none => rw [hx] at e; cases e
   | some x =>
    rw [hx] at e
    obtain ⟨a, b⟩ := hotT_B h hx
    obtain ⟨a2, b2⟩ := freeL_B n x c' a e
    exact ⟨a2, b2.trans b⟩
  ·cases e; exact ⟨h, rfl⟩
theorem overL_B : ∀ (n : Nat) (c c' : Clk), ClkB c → overL n c = some c' → ClkB c' ∧ c'.most = c.most
 | 0, c, c', h, e => by cases e
 | n + 1, c, c', h, e => by
  unfold overL at e
  split at e
  ·cases hx : testT n c with
   | none => rw [hx] at e; cases e
   | some x =>
    rw [hx] at e
    obtain ⟨a, b⟩ := testT_B h hx
    obtain ⟨a2, b2⟩ := overL_B n x c' a e
    exact ⟨a2, b2.trans b⟩
  ·cases e; exact ⟨h, rfl⟩
theorem putP_B {n : Nat} {c : Clk} {r : Clk × Ky} (h : ClkB c) (e : putP n c = some r) : ClkB r.1 ∧ r.1.most = c.most := by
 unfold putP at e
 split at e
 ·cases e
 ·rename_i p hp
  have h0 := lt_of_get hp
  have hon := onP_le h c.cold h.h2 h0
  split at e
  ·cases hx : overL n { setP c c.cold { p with kind := 3 } with cold := onP c c.cold } with
   | none => rw [hx] at e; cases e
   | some x =>
    rw [hx] at e; cases e
    obtain ⟨a', b'⟩ := overL_B n _ x ((h.set _ _).coldS hon) hx; exact ⟨a', b'⟩
  ·cases hx : overL n (goesP c c.cold) with
   | none => rw [hx] at e; cases e
   | some x =>
    rw [hx] at e; cases e
    obtain ⟨a', b'⟩ := overL_B n _ x (h.goes _) hx; exact ⟨a', b'⟩
theorem coldL_B : ∀ (n : Nat) (c : Clk) (r : Clk × Ky), ClkB c → coldL n c = some r → ClkB r.1 ∧ r.1.most = c.most
 | 0, c, r, h, e => by cases e
 | n + 1, c, r, h, e => by
  unfold coldL at e
  cases hx : freeL n c with
  | none => rw [hx] at e; cases e
  | some x =>
   rw [hx] at e
   simp only [Option.bind_some] at e
   obtain ⟨h', hm⟩ := freeL_B n c x h hx
   rw [← hm]
   split at e
   ·cases e
   ·rename_i p hp
    have h0 := lt_of_get hp
    have hon := onP_le h' x.cold h'.h2 h0
    split at e
    ·obtain ⟨a', b'⟩ := coldL_B n _ r (h'.coldS hon) e; exact ⟨a', b'⟩
    ·split at e
     ·cases hy : coolL n { setP x x.cold { p with kind := 1, ref := false, trial := false } with cold := onP x x.cold } with
      | none => rw [hy] at e; cases e
      | some y =>
       rw [hy] at e
       obtain ⟨a, b⟩ := coolL_B n _ y ((h'.set _ _).coldS hon) hy
       obtain ⟨a2, b2⟩ := coldL_B n y r a e
       exact ⟨a2, b2.trans b⟩
     ·split at e
      ·obtain ⟨a', b'⟩ := coldL_B n _ r ((h'.set _ _).coldS hon) e; exact ⟨a', b'⟩
      ·exact putP_B h' e
end Go.Proofs.Ytdpnpipninggeaa
/- What stays true of a ring, whatever turns: one induction for all. -/
set_option linter.unusedSimpArgs false
set_option linter.unusedVariables false
namespace Go.Proofs.Ytdpnpipninggeaa
open Go
theorem onP_set (c : Clk) (i : Nat) (p : Pg) (x : Nat) : onP (setP c i p) x = onP c x := by unfold onP setP; dsimp only; rw [List.length_set]
/-- what each single step leaves true -/
structure Clo (I : Clk → Prop) : Prop where
 goes : ∀ c i p, I c → c.pages[i]? = some p → (p.kind = 3 ∨ p.pins = 0) → I (goesP c i)
 aim : ∀ c d, I c → I (aimP c d)
 set : ∀ c i p q, I c → c.pages[i]? = some p → q.key = p.key → q.pins = p.pins → (q.kind = 3 → p.kind = 3 ∨ p.pins = 0) → (p.kind = 3 → q.kind = 3) → I (setP c i q)
 hot : ∀ c, I c → 0 < c.pages.length → I { c with hot := onP c c.hot }
 cold : ∀ c, I c → 0 < c.pages.length → I { c with cold := onP c c.cold }
 test : ∀ c, I c → 0 < c.pages.length → I { c with test := onP c c.test }
variable {I : Clk → Prop}
theorem len_set (c : Clk) (i : Nat) (p : Pg) : (setP c i p).pages.length = c.pages.length := by unfold setP; dsimp only; rw [List.length_set]
theorem Clo.setHot (S : Clo I) {c : Clk} {i : Nat} {p q : Pg} (h : I c) (hp : c.pages[i]? = some p) (e1 : q.key = p.key) (e2 : q.pins = p.pins) (e3 : q.kind = 3 → p.kind = 3 ∨ p.pins = 0) (e4 : p.kind = 3 → q.kind = 3) : I { setP c i q with hot := onP c c.hot } := by
 have := S.hot _ (S.set c i p q h hp e1 e2 e3 e4) (by rw [len_set]; exact lt_of_get hp)
 rw [onP_set] at this
 exact this
theorem Clo.setCold (S : Clo I) {c : Clk} {i : Nat} {p q : Pg} (h : I c) (hp : c.pages[i]? = some p) (e1 : q.key = p.key) (e2 : q.pins = p.pins) (e3 : q.kind = 3 → p.kind = 3 ∨ p.pins = 0) (e4 : p.kind = 3 → q.kind = 3) : I { setP c i q with cold := onP c c.cold } := by
 have := S.cold _ (S.set c i p q h hp e1 e2 e3 e4) (by rw [len_set]; exact lt_of_get hp)
 rw [onP_set] at this
 exact this
theorem Clo.setTest (S : Clo I) {c : Clk} {i : Nat} {p q : Pg} (h : I c) (hp : c.pages[i]? = some p) (e1 : q.key = p.key) (e2 : q.pins = p.pins) (e3 : q.kind = 3 → p.kind = 3 ∨ p.pins = 0) (e4 : p.kind = 3 → q.kind = 3) (d : Int) : I { aimP (setP c i q) d with test := onP c c.test } := by
 have := S.test _ (S.aim _ d (S.set c i p q h hp e1 e2 e3 e4)) (by show 0 < (setP c i q).pages.length; rw [len_set]; exact lt_of_get hp)
 have e : onP (aimP (setP c i q) d) (aimP (setP c i q) d).test = onP c c.test := onP_set c i q c.test
 rw [e] at this
 exact this
theorem hotL_I (S : Clo I) : ∀ (n : Nat) (c c' : Clk), I c → hotL n c = some c' → I c'
 | 0, c, c', h, e => by cases e
 | n + 1, c, c', h, e => by
  unfold hotL at e
  split at e
  ·cases e
  ·rename_i p hp
   split at e
   ·rename_i k3
    exact hotL_I S n _ c' (S.aim _ _ (S.goes _ _ _ h hp (.inl k3))) e
   ·rename_i k3
    split at e
    ·rename_i k1
     exact hotL_I S n _ c' (S.setHot (q := { p with ref := false }) h hp rfl rfl (fun h => absurd h k3) (fun h => absurd h k3)) e
    ·split at e
     ·cases e; exact S.setHot (q := { p with kind := 2, ref := false, trial := false }) h hp rfl rfl (fun h => by cases h) (fun h => absurd h k3)
     ·exact hotL_I S n _ c' (S.setHot (q := { p with trial := false }) h hp rfl rfl (fun h => absurd h k3) (fun h => absurd h k3)) e
theorem hotT_I (S : Clo I) {n : Nat} {c c' : Clk} (h : I c) (e : hotT n c = some c') : I c' := by
 unfold hotT at e
 split at e
 ·cases e; exact h
 ·exact hotL_I S n c c' h e
theorem testL_I (S : Clo I) : ∀ (n : Nat) (c c' : Clk), I c → testL n c = some c' → I c'
 | 0, c, c', h, e => by cases e
 | n + 1, c, c', h, e => by
  unfold testL at e
  split at e
  ·cases e
  ·rename_i p hp
   split at e
   ·rename_i k3
    cases e
    exact S.aim _ _ (S.goes _ _ _ h hp (.inl k3))
   ·rename_i k3
    split at e
    ·exact testL_I S n _ c' (S.setTest (q := { p with trial := false }) h hp rfl rfl (fun h => absurd h k3) (fun h => absurd h k3) _) e
    ·exact testL_I S n _ c' (S.test _ h (lt_of_get hp)) e
theorem testT_I (S : Clo I) {n : Nat} {c c' : Clk} (h : I c) (e : testT n c = some c') : I c' := by
 unfold testT at e
 split at e
 ·cases e; exact h
 ·exact testL_I S n c c' h e
theorem coolL_I (S : Clo I) : ∀ (n : Nat) (c c' : Clk), I c → coolL n c = some c' → I c'
 | 0, c, c', h, e => by cases e
 | n + 1, c, c', h, e => by
  unfold coolL at e
  split at e
  ·cases hx : hotT n c with
   | none => rw [hx] at e; cases e
   | some x => rw [hx] at e; exact coolL_I S n x c' (hotT_I S h hx) e
  ·cases e; exact h
theorem freeL_I (S : Clo I) : ∀ (n : Nat) (c c' : Clk), I c → freeL n c = some c' → I c'
 | 0, c, c', h, e => by cases e
 | n + 1, c, c', h, e => by
  unfold freeL at e
  split at e
  ·cases hx : hotT n c with
   | none => rw [hx] at e; cases e
   | some x => rw [hx] at e; exact freeL_I S n x c' (hotT_I S h hx) e
  ·cases e; exact h
theorem overL_I (S : Clo I) : ∀ (n : Nat) (c c' : Clk), I c → overL n c = some c' → I c'
 | 0, c, c', h, e => by cases e
 | n + 1, c, c', h, e => by
  unfold overL at e
  split at e
  ·cases hx : testT n c with
   | none => rw [hx] at e; cases e
   | some x => rw [hx] at e; exact overL_I S n x c' (testT_I S h hx) e
  ·cases e; exact h
theorem putP_I (S : Clo I) {n : Nat} {c : Clk} {r : Clk × Ky} (h : I c) (hf : ∀ p, c.pages[c.cold]? = some p → p.pins = 0 ∧ p.kind ≠ 3) (e : putP n c = some r) : I r.1 := by
 unfold putP at e
 split at e
 ·cases e
 ·rename_i p hp
  split at e
  ·cases hx : overL n { setP c c.cold { p with kind := 3 } with cold := onP c c.cold } with
   | none => rw [hx] at e; cases e
   | some x =>
    rw [hx] at e; cases e
    exact overL_I S n _ x (S.setCold (q := { p with kind := 3 }) h hp rfl rfl (fun _ => .inr (hf p hp).1) (fun _ => rfl)) hx
  ·cases hx : overL n (goesP c c.cold) with
   | none => rw [hx] at e; cases e
   | some x =>
    rw [hx] at e; cases e
    exact overL_I S n _ x (S.goes _ _ _ h hp (.inr (hf p hp).1)) hx
theorem isCold_of {p : Pg} (h : ¬isCold p = false) : p.kind = 2 ∧ p.pins = 0 := by
 unfold isCold at h
 simpa using h
theorem coldL_I (S : Clo I) : ∀ (n : Nat) (c : Clk) (r : Clk × Ky), I c → coldL n c = some r → I r.1
 | 0, c, r, h, e => by cases e
 | n + 1, c, r, h, e => by
  unfold coldL at e
  cases hx : freeL n c with
  | none => rw [hx] at e; cases e
  | some x =>
   rw [hx] at e
   simp only [Option.bind_some] at e
   have h' := freeL_I S n c x h hx
   split at e
   ·cases e
   ·rename_i p hp
    split at e
    ·exact coldL_I S n _ r (S.cold _ h' (lt_of_get hp)) e
    ·rename_i hcf
     obtain ⟨k2, kp⟩ := isCold_of hcf
     split at e
     ·cases hy : coolL n { setP x x.cold { p with kind := 1, ref := false, trial := false } with cold := onP x x.cold } with
      | none => rw [hy] at e; cases e
      | some y =>
       rw [hy] at e
       exact coldL_I S n y r (coolL_I S n _ y (S.setCold (q := { p with kind := 1, ref := false, trial := false }) h' hp rfl rfl (fun h => by cases h) (fun h => by rw [k2] at h; cases h)) hy) e
     ·split at e
      ·exact coldL_I S n _ r (S.setCold (q := { p with ref := false, trial := true }) h' hp rfl rfl (fun h => by rw [show p.kind = 3 from h] at k2; cases k2) (fun h => by rw [k2] at h; cases h)) e
      ·exact putP_I S h' (fun q hq => by rw [hp] at hq; cases hq; exact ⟨kp, by omega⟩) e
/-- the hands stand in the ring -/
structure ClkR (c : Clk) : Prop where
 h1 : c.hot = 0 ∨ c.hot < c.pages.length
 h2 : c.cold = 0 ∨ c.cold < c.pages.length
 h3 : c.test = 0 ∨ c.test < c.pages.length
theorem handG_in (n i h : Nat) : handG n i h = 0 ∨ handG n i h < n := by unfold handG; split <;> split <;> omega
theorem goes_len {c : Clk} {i : Nat} (h : i < c.pages.length) : (goesP c i).pages.length = c.pages.length - 1 := by unfold goesP; dsimp only; exact del_len' _ _ h
theorem cloR : Clo ClkR where
 goes c i p h hp _ := by
  have hl := goes_len (List.getElem?_eq_some_iff.1 hp).1
  refine ⟨?_, ?_, ?_⟩ <;> rw [hl] <;> exact handG_in _ _ _
 aim c d h := ⟨h.h1, h.h2, h.h3⟩
 set c i p q h _ _ _ _ _ := ⟨by rw [len_set]; exact h.h1, by rw [len_set]; exact h.h2, by rw [len_set]; exact h.h3⟩
 hot c h h0 := ⟨.inr (Nat.mod_lt _ h0), h.h2, h.h3⟩
 cold c h h0 := ⟨h.h1, .inr (Nat.mod_lt _ h0), h.h3⟩
 test c h h0 := ⟨h.h1, h.h2, .inr (Nat.mod_lt _ h0)⟩
theorem ClkR.goes {c : Clk} (h : ClkR c) {i : Nat} (hi : i < c.pages.length) : ClkR (goesP c i) := by
 have hl := goes_len hi
 refine ⟨?_, ?_, ?_⟩ <;> rw [hl] <;> exact handG_in _ _ _
theorem cloLen (m : Nat) : Clo (fun c => c.pages.length ≤ m) where
 goes c i p h hp _ := by
  have hl := goes_len (List.getElem?_eq_some_iff.1 hp).1
  show (goesP c i).pages.length ≤ m
  rw [hl]
  exact Nat.le_trans (Nat.sub_le _ _) h
 aim c d h := h
 set c i p q h _ _ _ _ _ := by show (setP c i q).pages.length ≤ m; rw [len_set]; exact h
 hot c h h0 := h
 cold c h h0 := h
 test c h h0 := h
end Go.Proofs.Ytdpnpipninggeaa
