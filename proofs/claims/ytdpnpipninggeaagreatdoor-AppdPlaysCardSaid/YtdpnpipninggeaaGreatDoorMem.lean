/- The rules for memory, over whatever program: variables, slices that a function owns or reads, calls. -/
import Derived.Test.YtdpnpipninggeaaGreatDoorRul
import Derived.Laws.AppendOwn
import Derived.Laws.MakeOwn
set_option linter.unusedSimpArgs false
set_option linter.unusedVariables false
namespace Go.Proofs.YtdpnpipninggeaaGreatDoor
open Go

/- what a step does to the state -/
theorem St.change {ρ : Hp} {w0 : World} {h0 : Hp} {w w' : World} {a c a' : Hp} (s : St ρ w0 h0 w (join a c)) (d : Dj a c)
    (hdom : ∀ n, a' n ≠ none → a n ≠ none ∨ w.heap.size ≤ n) (hown : ∀ n o, a' n = some o → w'.heap[n]? = some o)
    (hrest : ∀ n, n < w.heap.size → a n = none → w'.heap[n]? = w.heap[n]?) (hsize : w.heap.size ≤ w'.heap.size)
    (hos : w'.os = w.os) (htape : w'.tape = w.tape) (hout : w'.output = w.output) : Dj a' c ∧ St ρ w0 h0 w' (join a' c) := by
  have cl : ∀ n o, c n = some o → n < w.heap.size ∧ a n = none ∧ w.heap[n]? = some o := by
    intro n o hc
    have hj : join a c n = some o := join_right d hc
    have hw := s.own n o hj
    refine ⟨heap_lt hw, ?_, hw⟩
    rcases d n with h | h
    · exact h
    · rw [h] at hc; cases hc
  have dd : Dj a' c := by
    intro n
    by_cases ha : a' n = none
    · exact .inl ha
    · right
      cases hc : c n with
      | none => rfl
      | some o =>
        obtain ⟨h1, h2, _⟩ := cl n o hc
        rcases hdom n ha with h | h
        · exact absurd h2 h
        · omega
  have rl : ∀ n o, ρ n = some o → n < w.heap.size ∧ a n = none ∧ w.heap[n]? = some o := by
    intro n o hr
    have hw := s.ro n o hr
    refine ⟨heap_lt hw, ?_, hw⟩
    rcases s.dj n with h | h
    · rw [h] at hr; cases hr
    · exact (join_none.1 h).1
  refine ⟨dd, ⟨hos.trans s.os, htape.trans s.tape, hout.trans s.output, Nat.le_trans s.size hsize, ?_, ?_, ?_, ?_, ?_⟩⟩
  · intro b o hb
    rcases join_some hb with h | h
    · exact hown b o h
    · obtain ⟨h1, h2, h3⟩ := cl b o h
      rw [hrest b h1 h2]; exact h3
  · intro b o hb
    obtain ⟨h1, h2, h3⟩ := rl b o hb
    rw [hrest b h1 h2]; exact h3
  · intro n
    cases hr : ρ n with
    | none => exact .inl rfl
    | some o =>
      right
      obtain ⟨h1, h2, _⟩ := rl n o hr
      refine join_none.2 ⟨?_, ?_⟩
      · cases ha : a' n with
        | none => rfl
        | some x =>
          rcases hdom n (by simp [ha]) with h | h
          · exact absurd h2 h
          · omega
      · rcases s.dj n with h | h
        · rw [h] at hr; cases hr
        · exact (join_none.1 h).2
  · intro b hb h0b
    have hlt : b < w.heap.size := Nat.lt_of_lt_of_le hb s.size
    have ha : a b = none := by
      cases ha : a b with
      | none => rfl
      | some x =>
        have : join a c b ≠ none := by simp [join, ha]
        rcases s.dom b this with h | h
        · exact absurd h0b h
        · omega
    rw [hrest b hlt ha, s.rest b hb h0b]
  · intro b hb
    rcases join_ne hb with h | h
    · rcases hdom b h with h' | h'
      · exact s.dom b (by intro e; exact h' (join_none.1 e).1)
      · exact .inr (Nat.le_trans s.size h')
    · exact s.dom b (by intro e; exact h (join_none.1 e).2)

theorem St.draw {ρ : Hp} {w0 : World} {h0 : Hp} {w : World} {h : Hp} (s : St ρ w0 h0 w h) : St ρ w0 h0 w.drew h :=
  ⟨s.os, s.tape, s.output, s.size, s.own, s.ro, s.dj, s.rest, s.dom⟩

def one (b : Nat) (o : Obj) : Hp := fun n => if n = b then some o else none
theorem pts_one (b : Nat) (o : Obj) : pts b o (one b o) := ⟨by simp [one], fun n h => by simp [one, h]⟩
theorem pts_eq {b : Nat} {o : Obj} {h : Hp} (p : pts b o h) : h = one b o := by
  funext n
  by_cases e : n = b
  · subst e; simp [one, p.1]
  · simp [one, e, p.2 n e]

/-- a new block -/
theorem St.new {ρ : Hp} {w0 : World} {h0 : Hp} {w : World} {h : Hp} (s : St ρ w0 h0 w h) (o : Obj) :
    Dj (one w.heap.size o) h ∧ St ρ w0 h0 (w.alloc o) (join (one w.heap.size o) h) := by
  have s' : St ρ w0 h0 w (join nohp h) := by rw [join_nohp']; exact s
  refine s'.change (dj_nohp' h) ?_ ?_ ?_ ?_ rfl rfl rfl
  · intro n hn
    right
    by_cases e : n = w.heap.size
    · omega
    · simp [one, e] at hn
  · intro n x hx
    by_cases e : n = w.heap.size
    · subst e; simp [one] at hx; subst hx; show (w.heap.push _)[_]? = _; simp
    · simp [one, e] at hx
  · intro n hn _
    show (w.heap.push o)[n]? = _
    simp [Array.getElem?_push, Nat.ne_of_lt hn]
  · simp

/- parts of memory that are met -/
/-- a variable, or what a pointer points to: its cells -/
def box (b : Nat) (c : List Value) (T : TypeId) : HP := pts b (.cells c.toArray T (0, 0))

/-- a slice's value, and how many elements it has -/
def SL (v : Value) (n : Nat) : Prop := (v = .slice none 0 0 ∧ n = 0) ∨ ∃ a c, v = .slice (some a) n c
/-- a slice whose cells lie in a part that is read -/
def ROs (ρ : Hp) (sz : Nat) (v : Value) (cs : List Value) : Prop :=
  (v = .slice none 0 0 ∧ cs = []) ∨ (∃ a, v = .slice (some a) 0 0 ∧ cs = []) ∨ ∃ b off n c buf T fr, v = .slice (some ⟨b, off, none⟩) n c ∧ ρ b = some (.cells buf T fr) ∧ cs.length = n * sz ∧ off + n * sz ≤ buf.size ∧ n ≤ c ∧ c ≤ maxLen ∧ (buf.toList.drop off).take (n * sz) = cs
/-- a slice that is owned, the room behind it, too -/
def Buf (sz : Nat) (v : Value) (cs : List Value) : HP := fun h =>
  (v = .slice none 0 0 ∧ cs = [] ∧ emp h) ∨ ∃ b off n c buf T fr, v = .slice (some ⟨b, off, none⟩) n c ∧ cs.length = n * sz ∧ off + c * sz ≤ buf.size ∧ n ≤ c ∧ c ≤ maxLen ∧
    (fr.1 = fr.2 ∨ buf.size ≤ fr.1) ∧ (buf.toList.drop off).take (n * sz) = cs ∧ pts b (.cells buf T fr) h

theorem frOK {n : Nat} {fr : Nat × Nat} (h : fr.1 = fr.2 ∨ n ≤ fr.1) {i : Nat} (hi : i < n) : ¬ (fr.1 ≤ i ∧ i < fr.2) := by rcases h with h | h <;> omega
def vaddr : Value → Addr
  | .slice (some a) _ _ => a
  | _ => default
def eptr (v : Value) (k : Nat) : Value := .pointer (some ((vaddr v).add k))

theorem add_add (a : Addr) (i j : Nat) : (a.add i).add j = a.add (i + j) := by
  unfold Addr.add
  by_cases h : i = 0
  · subst h; simp
  · by_cases h' : j = 0
    · subst h'; simp
    · simp [h, h', Nat.add_assoc]

theorem ROs.sl {ρ : Hp} {sz : Nat} {v : Value} {cs : List Value} (h : ROs ρ sz v cs) {n : Nat} (hn : cs.length = n * sz) (hs : 0 < sz) : SL v n := by
  have zero : cs = [] → n = 0 := by
    rintro rfl
    rcases Nat.mul_eq_zero.1 (by simpa using hn.symm) with h | h
    · exact h
    · omega
  rcases h with ⟨rfl, h0⟩ | ⟨a, rfl, h0⟩ | ⟨b, off, m, c, buf, T, fr, rfl, _, hl, _⟩
  · exact .inl ⟨rfl, zero h0⟩
  · have := zero h0
    subst this
    exact .inr ⟨a, 0, rfl⟩
  · right
    have : m = n := by
      rw [hl] at hn
      exact Nat.eq_of_mul_eq_mul_right hs hn
    subst this
    exact ⟨_, c, rfl⟩
theorem Buf.sl {sz : Nat} {v : Value} {cs : List Value} {hp : Hp} (h : Buf sz v cs hp) {n : Nat} (hn : cs.length = n * sz) (hs : 0 < sz) : SL v n := by
  rcases h with ⟨rfl, rfl, _⟩ | ⟨b, off, m, c, buf, T, fr, rfl, hl, _⟩
  · left; refine ⟨rfl, ?_⟩
    rcases Nat.mul_eq_zero.1 (by simpa using hn.symm) with h | h
    · exact h
    · omega
  · right
    have : m = n := by
      rw [hl] at hn
      exact Nat.eq_of_mul_eq_mul_right hs hn
    subst this
    exact ⟨_, c, rfl⟩
/-- what is owned may be read -/
theorem Buf.ro {sz : Nat} {v : Value} {cs : List Value} {h : Hp} (hb : Buf sz v cs h) : ROs h sz v cs := by
  rcases hb with ⟨rfl, rfl, _⟩ | ⟨b, off, n, c, buf, T, fr, rfl, hl, hc, hnc, hm, _, ht, hp⟩
  · exact .inl ⟨rfl, rfl⟩
  · have : n * sz ≤ c * sz := Nat.mul_le_mul_right _ hnc
    exact .inr (.inr ⟨b, off, n, c, buf, T, fr, rfl, hp.1, hl, by omega, hnc, hm, ht⟩)
theorem ROs.mono {ρ ρ' : Hp} {sz : Nat} {v : Value} {cs : List Value} (h : ROs ρ sz v cs) (hs : ∀ b o, ρ b = some o → ρ' b = some o) : ROs ρ' sz v cs := by
  rcases h with ⟨rfl, rfl⟩ | ⟨a, rfl, rfl⟩ | ⟨b, off, n, c, buf, T, fr, rfl, hp, rest⟩
  · exact .inl ⟨rfl, rfl⟩
  · exact .inr (.inl ⟨a, rfl, rfl⟩)
  · exact .inr (.inr ⟨b, off, n, c, buf, T, fr, rfl, hs _ _ hp, rest⟩)

/-- a cell of a slice that is read -/
theorem ROs.cell {ρ : Hp} {sz : Nat} {v : Value} {cs : List Value} (h : ROs ρ sz v cs) {w : World} (hw : ∀ b o, ρ b = some o → w.heap[b]? = some o) {k : Nat} {x : Value} (hk : cs[k]? = some x) :
    w.cell? ((vaddr v).add k) = some x := by
  rcases h with ⟨rfl, rfl⟩ | ⟨a, rfl, rfl⟩ | ⟨b, off, n, c, buf, T, fr, rfl, hp, hl, hn, _, _, ht⟩
  · simp at hk
  · simp at hk
  · simp only [vaddr, Addr.add_lit, World.cell?, hw b _ hp]
    rw [← ht, List.getElem?_take] at hk
    split at hk
    · simpa [List.getElem?_drop] using hk
    · cases hk

section
variable {P : Program} {fn : Func} {ρ : Hp} {Q : Value → HP} {k : List Item} {md : Bool} {X : World → Hp → Act → World → Prop} {env : Env} {Hs : List HP} {ops : Array Oper} {l : List Oper}
variable {d : Tmp} {ty : TypeId} {pos : String} {aft : Array Edge}

/-- an operation that reads the state -/
theorem WL.rd {o : Oper} {v : Value} (hg : o.guard = none) (hd : o.dst = some d) (hn : Nat.ble (d + 1) fn.ntmps = true)
    (hr : ∀ (f : Operand → Value) w h, (∀ b o, h b = some o → w.heap[b]? = some o) → (∀ b o, ρ b = some o → w.heap[b]? = some o) → sepl Hs h → (∀ x v, ev env x = some v → f x = v) → (execOp f o).run P w = .ok (.value v) w)
    (h : WL false P fn ρ X ops l ((d, v) :: env) Hs) : WL false P fn ρ X ops (o :: l) env Hs := by
  intro w0 h0 w hh a s p e
  refine wpList_plain hg fun K hK => ?_
  unfold Oper.wp
  rw [hr a.eval w hh s.own s.ro p (fun x v hx => e.eval hx), Oper.upon_value, hd]
  exact hK _ _ (h w0 h0 w hh _ s p (e.put (Nat.le_of_ble_eq_true hn) v))

/-- an operation that turns the state, and gives a value that is not told -/
theorem WL.turns {o : Oper} (hg : o.guard = none) (hd : o.dst = some d) (hn : Nat.ble (d + 1) fn.ntmps = true) {ok : Value → List HP → Prop}
    (hr : ∀ (f : Operand → Value) w0 h0 w h, St ρ w0 h0 w h → sepl Hs h → (∀ x v, ev env x = some v → f x = v) → ∃ v w' h' Hs', (execOp f o).run P w = .ok (.value v) w' ∧ St ρ w0 h0 w' h' ∧ sepl Hs' h' ∧ ok v Hs')
    (h : ∀ v Hs', ok v Hs' → WL false P fn ρ X ops l ((d, v) :: env) Hs') : WL false P fn ρ X ops (o :: l) env Hs := by
  intro w0 h0 w hh a s p e
  refine wpList_plain hg fun K hK => ?_
  obtain ⟨v, w', h', Hs', hrun, s', p', hok⟩ := hr a.eval w0 h0 w hh s p (fun x v hx => e.eval hx)
  unfold Oper.wp
  rw [hrun, Oper.upon_value, hd]
  exact hK _ _ (h v Hs' hok w0 h0 w' h' _ s' p' (e.put (Nat.le_of_ble_eq_true hn) v))

/-- an operation that turns the state, and gives no value -/
theorem WL.does {o : Oper} {Hs' : List HP} (hg : o.guard = none) (hd : o.dst = none)
    (hr : ∀ (f : Operand → Value) w0 h0 w h, St ρ w0 h0 w h → sepl Hs h → (∀ x v, ev env x = some v → f x = v) → ∃ w' h', (execOp f o).run P w = .ok .skip w' ∧ St ρ w0 h0 w' h' ∧ sepl Hs' h')
    (h : WL false P fn ρ X ops l env Hs') : WL false P fn ρ X ops (o :: l) env Hs := by
  intro w0 h0 w hh a s p e
  refine wpList_plain hg fun K hK => ?_
  obtain ⟨w', h', hrun, s', p'⟩ := hr a.eval w0 h0 w hh s p (fun x v hx => e.eval hx)
  unfold Oper.wp
  rw [hrun, Oper.upon_skip, hd]
  exact hK _ _ (h w0 h0 w' h' _ s' p' (e.none _))

/- parts and facts -/
theorem WL.hs {Hs' : List HP} (hs : ∀ h, sepl Hs h → sepl Hs' h) (h : WL false P fn ρ X ops l env Hs') : WL false P fn ρ X ops l env Hs :=
  fun w0 h0 w hh a s p e => h w0 h0 w hh a s (hs _ p) e
theorem WL.sub {env' : Env} (hs : Subs env env') (h : WL md P fn ρ X ops l env' Hs) : WL md P fn ρ X ops l env Hs := by
  cases md with
  | false => exact fun w0 h0 w hh a s p e => h w0 h0 w hh a s p (e.sub hs.look)
  | true => exact fun a e => h a (e.sub hs.look)
theorem WL.ex {α : Type} {p : α → HP} (h : ∀ x, WL false P fn ρ X ops l env (p x :: Hs)) : WL false P fn ρ X ops l env ((fun h => ∃ x, p x h) :: Hs) := by
  rintro w0 h0 w hh a s ⟨x, y, ⟨z, hz⟩, hy, d, rfl⟩ e
  exact h z w0 h0 w _ a s ⟨x, y, hz, hy, d, rfl⟩ e
theorem WL.pure {φ : Prop} {p : HP} (h : φ → WL false P fn ρ X ops l env (p :: Hs)) : WL false P fn ρ X ops l env ((fun h => φ ∧ p h) :: Hs) := by
  rintro w0 h0 w hh a s ⟨x, y, ⟨hz, hx⟩, hy, d, rfl⟩ e
  exact h hz w0 h0 w _ a s ⟨x, y, hx, hy, d, rfl⟩ e
theorem WL.open {m : List HP} (h : WL false P fn ρ X ops l env (m ++ Hs)) : WL false P fn ρ X ops l env (sepl m :: Hs) :=
  fun w0 h0 w hh a s p e => h w0 h0 w hh a s (sepl_append.2 p) e
theorem WL.fact {i : Nat} {p : HP} {φ : Prop} (hi : Hs[i]? = some p) (hp : ∀ h, p h → φ) (h : φ → WL false P fn ρ X ops l env Hs) : WL false P fn ρ X ops l env Hs := by
  intro w0 h0 w hh a s q e
  obtain ⟨x, _, hx, _⟩ := sepl_at hi q
  exact h (hp _ hx) w0 h0 w hh a s q e
theorem W.ex {α : Type} {p : α → HP} (h : ∀ x, W P fn ρ Q k env (p x :: Hs)) : W P fn ρ Q k env ((fun h => ∃ x, p x h) :: Hs) := by
  rintro w0 h0 w hh a s ⟨x, y, ⟨z, hz⟩, hy, d, rfl⟩ e
  exact h z w0 h0 w _ a s ⟨x, y, hz, hy, d, rfl⟩ e
theorem W.pure {φ : Prop} {p : HP} (h : φ → W P fn ρ Q k env (p :: Hs)) : W P fn ρ Q k env ((fun h => φ ∧ p h) :: Hs) := by
  rintro w0 h0 w hh a s ⟨x, y, ⟨hz, hx⟩, hy, d, rfl⟩ e
  exact h hz w0 h0 w _ a s ⟨x, y, hx, hy, d, rfl⟩ e
theorem W.open {m : List HP} (h : W P fn ρ Q k env (m ++ Hs)) : W P fn ρ Q k env (sepl m :: Hs) :=
  fun w0 h0 w hh a s p e => h w0 h0 w hh a s (sepl_append.2 p) e
theorem W.fact {i : Nat} {p : HP} {φ : Prop} (hi : Hs[i]? = some p) (hp : ∀ h, p h → φ) (h : φ → W P fn ρ Q k env Hs) : W P fn ρ Q k env Hs := by
  intro w0 h0 w hh a s q e
  obtain ⟨x, _, hx, _⟩ := sepl_at hi q
  exact h (hp _ hx) w0 h0 w hh a s q e
theorem W.condp {c : Operand} {x y : Code} {p : Prop} [Decidable p] (hc : ev env c = some (.bool (decide p)))
    (h1 : p → W P fn ρ Q (.code x :: k) env Hs) (h2 : ¬ p → W P fn ρ Q (.code y :: k) env Hs) : W P fn ρ Q (.code (.cond c x y) :: k) env Hs :=
  W.cond hc (fun h => h1 (of_decide_eq_true h)) (fun h => h2 (of_decide_eq_false h))
theorem W.condpT {c : Operand} {x y : Code} {p : Prop} [Decidable p] (hc : ev env c = some (.bool (decide p))) (hp : p)
    (h1 : W P fn ρ Q (.code x :: k) env Hs) : W P fn ρ Q (.code (.cond c x y) :: k) env Hs := W.condp hc (fun _ => h1) (fun h => absurd hp h)
theorem W.condpF {c : Operand} {x y : Code} {p : Prop} [Decidable p] (hc : ev env c = some (.bool (decide p))) (hp : ¬ p)
    (h1 : W P fn ρ Q (.code y :: k) env Hs) : W P fn ρ Q (.code (.cond c x y) :: k) env Hs := W.condp hc (fun h => absurd h hp) (fun _ => h1)

/- calls -/
theorem WL.call {g : FuncId} {xs : List Operand} {ts : Array TypeId} {vs : List Value} {H1 H2 : List HP} {Q1 : Value → HP}
    (hn : Nat.ble (d + 1) fn.ntmps = true)
    (hv : xs.mapM (ev env) = some vs) (hc : Fn P g vs.toArray ρ H1 Q1) (hH : ∀ h, sepl Hs h → sepl (H1 ++ H2) h)
    (h : ∀ r, WL false P fn ρ X ops l ((d, r) :: env) (Q1 r :: H2)) :
    WL false P fn ρ X ops (⟨some d, .call { callee := .value (.func g), args := xs.toArray, argTypes := ts }, ty, pos, aft, none⟩ :: l) env Hs := by
  intro w0 h0 w hh a s p e
  refine wpList_plain rfl fun K hK => ?_
  obtain ⟨x, y, hx, hy, dd, rfl⟩ := sepl_append.1 (hH _ p)
  have hargs : xs.map a.eval = vs := by
    clear hc hH h p
    induction xs generalizing vs with
    | nil => simp at hv; simp [hv]
    | cons z xs ih =>
      simp only [List.mapM_cons, Option.bind_eq_bind, Option.bind_eq_some_iff] at hv
      obtain ⟨v, h1, vs', h2, h3⟩ := hv
      simp at h3
      subst h3
      simp [e.eval h1, ih h2]
  unfold Oper.wp
  have hrun : (execOp a.eval ⟨some d, .call { callee := .value (.func g), args := xs.toArray, argTypes := ts }, ty, pos, aft, none⟩).run P w = .ok (.enter g vs.toArray) w := by
    obtain ⟨⟨G, hG, hnm, hb⟩, _⟩ := hc
    have hb' : G.body.isNone = false := by cases hq : G.body <;> simp [hq] at hb ⊢
    have h1 : a.eval (.func g) = .func (.func g) #[] #[] := rfl
    simp only [execOp, resolve, h1, Deferred.ofValue, invoke, callFunc, List.map_toArray, hargs, Sem.run_bind, Sem.run_pure, Result.andThen_ok, run_program, hG, hnm, hb']
    simp
  rw [hrun, Oper.upon_enter]
  have hdx : Dj ρ x := (dj_join_right.1 s.dj).1
  refine (hc.2 w x (fun b o hb => s.own b o (join_left hb)) s.ro hdx hx).mono ?_
  rintro _ w' ⟨r, x', rfl, s', hq⟩
  have hch := s.change dd s'.dom s'.own s'.rest s'.size s'.os s'.tape s'.output
  exact hK _ _ (h r w0 h0 w' _ _ hch.2 ⟨x', y, hq, hy, hch.1, rfl⟩ (e.put (Nat.le_of_ble_eq_true hn) r))

/-- a function that is entered with more to read: what the caller owns besides -/
theorem Fn.frame {f : FuncId} {args : Array Value} {H1 : List HP} {Q1 : Value → HP} {p : HP} (hok : FnOK P f)
    (h : ∀ x, p x → Dj ρ x → Fn P f args (join ρ x) H1 Q1) : Fn P f args ρ (p :: H1) (fun r => sep p (Q1 r)) := by
  refine ⟨hok, ?_⟩
  intro w hh ho hr hd ⟨x, y, hx, hy, dd, e⟩
  subst e
  have d1 := dj_join_right.1 hd
  have hro : ∀ b o, join ρ x b = some o → w.heap[b]? = some o := by
    intro b o hb
    rcases join_some hb with h | h
    · exact hr b o h
    · exact ho b o (join_left h)
  have hdd : Dj (join ρ x) y := dj_join_left.2 ⟨d1.2, dd⟩
  refine ((h x hx d1.1).2 w y (fun b o hb => ho b o (join_right dd hb)) hro hdd hy).mono ?_
  rintro _ w' ⟨r, y', rfl, s, hq⟩
  have s0 : St ρ w (join x y) w (join y x) := by rw [← join_comm dd]; exact .start ho hr hd
  have hch := s0.change dd.symm s.dom s.own s.rest s.size s.os s.tape s.output
  refine ⟨r, join y' x, rfl, hch.2, ?_⟩
  exact sep_comm ⟨y', x, hq, hx, hch.1, rfl⟩
end
end Go.Proofs.YtdpnpipninggeaaGreatDoor
