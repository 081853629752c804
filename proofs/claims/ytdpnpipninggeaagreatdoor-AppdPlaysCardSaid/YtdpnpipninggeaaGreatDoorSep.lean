/- A small logic of parts of memory over the model's machine: what a function owns, what it reads, and the rules by which its code is gone through. No condition: all of it holds over any program. -/
import Derived.Calls
import Derived.Tactics
import Derived.Laws.Sem
import Derived.Laws.World
import Derived.Laws.Cells
import Derived.Laws.CopyRow
import Derived.Laws.Append
import Derived.Orders
set_option linter.unusedSimpArgs false
set_option linter.unusedVariables false
namespace Go.Proofs.YtdpnpipninggeaaGreatDoor
open Go

/- parts of memory -/
abbrev Hp := Nat → Option Obj
def join (a b : Hp) : Hp := fun n => (a n).or (b n)
def Dj (a b : Hp) : Prop := ∀ n, a n = none ∨ b n = none
abbrev HP := Hp → Prop
def emp : HP := fun h => ∀ n, h n = none
def pts (b : Nat) (o : Obj) : HP := fun h => h b = some o ∧ ∀ n, n ≠ b → h n = none
def sep (p q : HP) : HP := fun h => ∃ a b, p a ∧ q b ∧ Dj a b ∧ h = join a b
def sepl : List HP → HP
  | [] => emp
  | p :: l => sep p (sepl l)
def nohp : Hp := fun _ => none

theorem emp_eq {h : Hp} (e : emp h) : h = nohp := funext e
theorem emp_nohp : emp nohp := fun _ => rfl
theorem Dj.symm {a b : Hp} (h : Dj a b) : Dj b a := fun n => (h n).symm
theorem dj_nohp (a : Hp) : Dj a nohp := fun _ => .inr rfl
theorem dj_nohp' (a : Hp) : Dj nohp a := fun _ => .inl rfl
theorem join_nohp (a : Hp) : join a nohp = a := by funext n; simp [join, nohp]
theorem join_nohp' (a : Hp) : join nohp a = a := by funext n; simp [join, nohp]
theorem join_comm {a b : Hp} (h : Dj a b) : join a b = join b a := by
  funext n; rcases h n with h | h <;> simp [join, h]
theorem join_assoc (a b c : Hp) : join (join a b) c = join a (join b c) := by
  funext n; simp [join, Option.or_assoc]
theorem dj_join_left {a b c : Hp} : Dj (join a b) c ↔ Dj a c ∧ Dj b c := by
  constructor
  · intro h
    refine ⟨fun n => ?_, fun n => ?_⟩ <;> rcases h n with h | h
    · simp [join] at h; exact .inl h.1
    · exact .inr h
    · simp [join] at h; exact .inl h.2
    · exact .inr h
  · rintro ⟨h, k⟩ n
    rcases h n with h | h
    · rcases k n with k | k
      · left; simp [join, h, k]
      · exact .inr k
    · exact .inr h
theorem dj_join_right {a b c : Hp} : Dj a (join b c) ↔ Dj a b ∧ Dj a c := by
  constructor
  · intro h; have := dj_join_left.1 h.symm; exact ⟨this.1.symm, this.2.symm⟩
  · rintro ⟨h, k⟩; exact (dj_join_left.2 ⟨h.symm, k.symm⟩).symm
theorem join_left {a b : Hp} {n : Nat} {o : Obj} (h : a n = some o) : join a b n = some o := by simp [join, h]
theorem join_right {a b : Hp} {n : Nat} {o : Obj} (d : Dj a b) (h : b n = some o) : join a b n = some o := by
  rcases d n with d | d
  · simp [join, d, h]
  · rw [d] at h; cases h
theorem join_none {a b : Hp} {n : Nat} : join a b n = none ↔ a n = none ∧ b n = none := by simp [join]
theorem join_some {a b : Hp} {n : Nat} {o : Obj} (h : join a b n = some o) : a n = some o ∨ b n = some o := by
  unfold join at h
  cases ha : a n with
  | some x => simp [ha] at h; exact .inl (by rw [h])
  | none => simp [ha] at h; exact .inr h
theorem join_ne {a b : Hp} {n : Nat} (h : join a b n ≠ none) : a n ≠ none ∨ b n ≠ none := by
  by_cases ha : a n = none
  · right; intro hb; exact h (join_none.2 ⟨ha, hb⟩)
  · exact .inl ha

theorem sep_comm {p q : HP} {h : Hp} (s : sep p q h) : sep q p h := by
  obtain ⟨a, b, ha, hb, d, rfl⟩ := s
  exact ⟨b, a, hb, ha, d.symm, join_comm d⟩
theorem sep_assoc {p q r : HP} {h : Hp} : sep (sep p q) r h ↔ sep p (sep q r) h := by
  constructor
  · rintro ⟨_, c, ⟨a, b, ha, hb, d, rfl⟩, hc, d', rfl⟩
    have := dj_join_left.1 d'
    exact ⟨a, join b c, ha, ⟨b, c, hb, hc, this.2, rfl⟩, dj_join_right.2 ⟨d, this.1⟩, join_assoc _ _ _⟩
  · rintro ⟨a, _, ha, ⟨b, c, hb, hc, d, rfl⟩, d', rfl⟩
    have := dj_join_right.1 d'
    exact ⟨join a b, c, ⟨a, b, ha, hb, this.1, rfl⟩, hc, dj_join_left.2 ⟨this.2, d⟩, (join_assoc _ _ _).symm⟩
theorem sep_emp {p : HP} {h : Hp} : sep p emp h ↔ p h := by
  constructor
  · rintro ⟨a, b, ha, hb, _, rfl⟩; rw [emp_eq hb, join_nohp]; exact ha
  · intro k; exact ⟨h, nohp, k, emp_nohp, dj_nohp _, (join_nohp _).symm⟩
theorem sep_mono {p q p' q' : HP} {h : Hp} (hp : ∀ h, p h → p' h) (hq : ∀ h, q h → q' h) (s : sep p q h) : sep p' q' h := by
  obtain ⟨a, b, ha, hb, d, rfl⟩ := s
  exact ⟨a, b, hp _ ha, hq _ hb, d, rfl⟩
theorem sep_left_comm {p q r : HP} {h : Hp} (s : sep p (sep q r) h) : sep q (sep p r) h :=
  sep_assoc.1 (sep_mono (fun _ x => sep_comm x) (fun _ x => x) (sep_assoc.2 s))
theorem sepl_append {l m : List HP} {h : Hp} : sepl (l ++ m) h ↔ sep (sepl l) (sepl m) h := by
  induction l generalizing h with
  | nil => exact ⟨fun k => sep_comm (sep_emp.2 k), fun k => sep_emp.1 (sep_comm k)⟩
  | cons p l ih =>
    constructor
    · intro k; exact sep_assoc.2 (sep_mono (fun _ x => x) (fun _ x => ih.1 x) k)
    · intro k; exact sep_mono (fun _ x => x) (fun _ x => ih.2 x) (sep_assoc.1 k)
theorem sepl_perm {l m : List HP} (hp : l.Perm m) : ∀ {h : Hp}, sepl l h → sepl m h := by
  induction hp with
  | nil => exact fun k => k
  | cons p _ ih => exact fun k => sep_mono (fun _ x => x) (fun _ x => ih x) k
  | swap p q l => exact fun k => sep_left_comm k
  | trans _ _ ih1 ih2 => exact fun k => ih2 (ih1 k)
theorem sepl_one {p : HP} {h : Hp} : sepl [p] h ↔ p h := sep_emp

/-- the part at a place of the list: it, what is left, and what may stand in its place -/
theorem sepl_at {l : List HP} {i : Nat} {p : HP} (hi : l[i]? = some p) {h : Hp} (s : sepl l h) :
    ∃ a c, p a ∧ Dj a c ∧ h = join a c ∧ sepl (l.eraseIdx i) c ∧ ∀ (p' : HP) a', p' a' → Dj a' c → sepl (l.set i p') (join a' c) := by
  induction l generalizing i h with
  | nil => cases hi
  | cons q l ih =>
    obtain ⟨x, y, hx, hy, d, rfl⟩ := s
    cases i with
    | zero =>
      simp at hi; subst hi
      exact ⟨x, y, hx, d, rfl, hy, fun p' a' hp' d' => ⟨a', y, hp', hy, d', rfl⟩⟩
    | succ i =>
      obtain ⟨a, c, ha, dac, rfl, he, hc⟩ := ih (by simpa using hi) hy
      have d1 := dj_join_right.1 d
      refine ⟨a, join x c, ha, dj_join_right.2 ⟨d1.1.symm, dac⟩, ?_, ⟨x, c, hx, he, d1.2, rfl⟩, fun p' a' hp' d' => ?_⟩
      · rw [← join_assoc, join_comm d1.1, join_assoc]
      · have d2 := dj_join_right.1 d'
        refine ⟨x, join a' c, hx, hc p' a' hp' d2.2, dj_join_right.2 ⟨d2.1.symm, d1.2⟩, ?_⟩
        rw [← join_assoc, ← join_assoc, join_comm d2.1]

/- the state of a call under way: 'w0' and 'h0' as it began, 'ρ' what is read alone -/
structure St (ρ : Hp) (w0 : World) (h0 : Hp) (w : World) (h : Hp) : Prop where
  os : w.os = w0.os
  tape : w.tape = w0.tape
  output : w.output = w0.output
  size : w0.heap.size ≤ w.heap.size
  own : ∀ b o, h b = some o → w.heap[b]? = some o
  ro : ∀ b o, ρ b = some o → w.heap[b]? = some o
  dj : Dj ρ h
  rest : ∀ b, b < w0.heap.size → h0 b = none → w.heap[b]? = w0.heap[b]?
  dom : ∀ b, h b ≠ none → h0 b ≠ none ∨ w0.heap.size ≤ b

def FnOK (P : Program) (f : FuncId) : Prop := ∃ G, P.funcs[f]? = some G ∧ (G.name == "runtime.NumGoroutine") = false ∧ G.body.isSome = true
def Fn (P : Program) (f : FuncId) (args : Array Value) (ρ : Hp) (Hs : List HP) (Q : Value → HP) : Prop :=
  FnOK P f ∧ ∀ w h, (∀ b o, h b = some o → w.heap[b]? = some o) → (∀ b o, ρ b = some o → w.heap[b]? = some o) → Dj ρ h → sepl Hs h →
    Calls P f args w fun e w' => ∃ r h', e = .returned r ∧ St ρ w h w' h' ∧ Q r h'

theorem heap_lt {w : World} {b : Nat} {o : Obj} (h : w.heap[b]? = some o) : b < w.heap.size := (Array.getElem?_eq_some_iff.1 h).1

theorem Fn.mono {P : Program} {f : FuncId} {args : Array Value} {ρ : Hp} {Hs : List HP} {Q Q' : Value → HP} (h : Fn P f args ρ Hs Q)
    (hq : ∀ r h, Q r h → Q' r h) : Fn P f args ρ Hs Q' :=
  ⟨h.1, fun w h1 a b c d => (h.2 w h1 a b c d).mono fun _ _ ⟨r, h', e, s, q⟩ => ⟨r, h', e, s, hq _ _ q⟩⟩

/- what is known of a frame -/
abbrev Env := List (Nat × Value)
def look : Env → Nat → Option Value
  | [], _ => none
  | (s, v) :: l, t => bif Nat.beq s t then some v else look l t
structure EnvOK (n : Nat) (env : Env) (a : Act) : Prop where
  size : a.tmps.size = n
  defers : a.defers = []
  at' : ∀ t v, look env t = some v → a.tmps[t]? = some v

def ev (env : Env) : Operand → Option Value
  | .tmp t => look env t
  | .const v => some v
  | .global g => some (.pointer (some ⟨g, 0, none⟩))
  | .func f => some (.func (.func f) #[] #[])

theorem EnvOK.eval {n : Nat} {env : Env} {a : Act} (h : EnvOK n env a) {x : Operand} {v : Value} (e : ev env x = some v) : a.eval x = v := by
  cases x with
  | tmp t => have := h.at' t v e; simp [Act.eval, this]
  | const u => simpa [ev, Act.eval] using e
  | global g => simpa [ev, Act.eval] using e
  | func f => simpa [ev, Act.eval] using e

theorem EnvOK.put {n : Nat} {env : Env} {a : Act} (h : EnvOK n env a) {d : Nat} (hd : d < n) (v : Value) : EnvOK n ((d, v) :: env) (a.put (some d) v) := by
  refine ⟨by simp [Act.put, h.size], h.defers, fun t u ht => ?_⟩
  simp only [look] at ht
  cases hb : Nat.beq d t with
  | true =>
    have : d = t := Nat.eq_of_beq_eq_true hb
    subst this
    simp [hb] at ht
    subst ht
    simp [Act.put, h.size, hd]
  | false =>
    have : d ≠ t := fun e => by subst e; simp at hb
    simp [hb] at ht
    simp [Act.put, this, h.at' t u ht]

theorem EnvOK.none {n : Nat} {env : Env} {a : Act} (h : EnvOK n env a) (v : Value) : EnvOK n env (a.put none v) := h

theorem EnvOK.sub {n : Nat} {env env' : Env} {a : Act} (h : EnvOK n env a) (hs : ∀ t v, look env' t = some v → look env t = some v) : EnvOK n env' a :=
  ⟨h.size, h.defers, fun t v ht => h.at' t v (hs t v ht)⟩

/-- a smaller environment, each of whose rows reads so in the greater one -/
def Subs (env : Env) : Env → Prop
  | [] => True
  | p :: l => look env p.1 = some p.2 ∧ Subs env l
theorem Subs.look {env env' : Env} (h : Subs env env') : ∀ t v, look env' t = some v → look env t = some v := by
  induction env' with
  | nil => intro t v ht; cases ht
  | cons p l ih =>
    intro t v ht
    simp only [Proofs.YtdpnpipninggeaaGreatDoor.look] at ht
    cases hb : Nat.beq p.1 t with
    | true =>
      have : p.1 = t := Nat.eq_of_beq_eq_true hb
      simp [hb] at ht
      rw [← this, ← ht]; exact h.1
    | false => simp [hb] at ht; exact ih h.2 t v ht

/- the machine from a list of items on -/
def Run (P : Program) (fn : Func) (k : List Item) (R : Ending → World → Prop) (a : Act) (w : World) : Prop :=
  ∀ (b : Frame) (cs : List Frame), P.funcs[b.fn]? = some fn → b.kind = .normal →
    ∃ e w' fr, R e w' ∧ Comes P (lone (b.at a k) cs w) (lone fr cs w') e ∧ fr.fn = b.fn ∧ fr.leaving P w' e

section
variable {P : Program} {fn : Func} {k : List Item} {R : Ending → World → Prop} {a : Act} {w : World}

theorem Run.step {k' : List Item} {a' : Act} {w' : World} (hs : ∀ (b : Frame) (cs : List Frame), Steps P (lone (b.at a k) cs w) (lone (b.at a' k') cs w')) (h : Run P fn k' R a' w') : Run P fn k R a w := by
  intro b cs hf hk
  obtain ⟨e, w'', fr, hR, hc, hfn, hl⟩ := h b cs hf hk
  exact ⟨e, w'', fr, hR, .of_steps (hs b cs) hc, hfn, hl⟩

theorem Run.seq {x y : Code} (h : Run P fn (.code x :: .code y :: k) R a w) : Run P fn (.code (.seq x y) :: k) R a w :=
  .step (fun _ _ => .one step_seq) h
theorem Run.skip (h : Run P fn k R a w) : Run P fn (.code .skip :: k) R a w := .step (fun _ _ => .one step_skip) h
theorem Run.block {id : Nat} {c : Code} (h : Run P fn (.code c :: .inBlock id :: k) R a w) : Run P fn (.code (.block id c) :: k) R a w :=
  .step (fun _ _ => .one step_block) h
theorem Run.inBlock {id : Nat} (h : Run P fn k R a w) : Run P fn (.inBlock id :: k) R a w := .step (fun _ _ => .one step_inBlock) h
theorem Run.loop {c : Code} (h : Run P fn (.code c :: .inLoop c :: k) R a w) : Run P fn (.code (.loop c) :: k) R a w :=
  .step (fun _ _ => .one step_loop) h
theorem Run.inLoop {c : Code} (h : Run P fn (.code c :: .inLoop c :: k) R a w) : Run P fn (.inLoop c :: k) R a w :=
  .step (fun _ _ => .one step_inLoop) h
theorem Run.exit {id : Nat} {k' : List Item} (hk : exitTo id k = some k') (h : Run P fn k' R a w) : Run P fn (.code (.exit id) :: k) R a w :=
  .step (fun _ _ => .one (step_exit hk)) h
theorem Run.cond {c : Operand} {x y : Code} {t : Bool} (hc : a.eval c = .bool t) (h : Run P fn (.code (if t then x else y) :: k) R a w) :
    Run P fn (.code (.cond c x y) :: k) R a w := .step (fun _ _ => .one (step_cond hc)) h

theorem Run.ret {v : Value} (hd : a.defers = []) (hr : (results fn a.tmps).run P w = .ok v w) (hR : R (.returned v) w) : Run P fn (.code .ret :: k) R a w := by
  intro b cs hf hk
  exact ⟨.returned v, w, _, hR, .one step_ret, rfl, rfl, hd, hk, fn, hf, hr⟩
theorem Run.stop {v : Value} (hd : a.defers = []) (hr : (results fn a.tmps).run P w = .ok v w) (hR : R (.returned v) w) : Run P fn [] R a w := by
  intro b cs hf hk
  exact ⟨.returned v, w, _, hR, .one step_end, rfl, rfl, hd, hk, fn, hf, hr⟩

/-- a piece of code whose walk ends in the normal way alone -/
def onNormal (K : Act → World → Prop) : Exit → Act → World → Prop
  | .normal, a, w => K a w
  | _, _, _ => False
theorem Run.of_wp {c : Code} {K : Act → World → Prop} (h : c.wp P (onNormal K) a w) (hK : ∀ a w, K a w → Run P fn k R a w) : Run P fn (.code c :: k) R a w := by
  intro b cs hf hk
  obtain ⟨e, a', w', hq, harr⟩ := h b k cs
  cases e with
  | normal =>
    obtain ⟨e, w'', fr, hR, hc, hfn, hl⟩ := hK _ _ hq b cs hf hk
    exact ⟨e, w'', fr, hR, .of_steps harr hc, hfn, hl⟩
  | _ => exact hq.elim
end

theorem calls_of_run {P : Program} {f : FuncId} {fn : Func} {c : Code} {args : Array Value} {w : World} {R : Ending → World → Prop}
    (hf : P.funcs[f]? = some fn) (hb : fn.body = some c)
    (h : Run P fn [.code c] R { tmps := args ++ Array.replicate (fn.ntmps - args.size) undef, defers := [] } w) : Calls P f args w R := by
  intro cs
  let b : Frame := { (default : Frame) with fn := f, kind := .normal }
  have henter : Frame.enter P f args .normal = b.at { tmps := args ++ Array.replicate (fn.ntmps - args.size) undef, defers := [] } [.code c] := by
    simp [Frame.enter, Frame.at, hf, hb, b]
  obtain ⟨e, w', fr, hR, hc, hfn, hl⟩ := h b cs hf rfl
  rw [henter]
  exact ⟨e, w', fr, hR, hc, hfn, hl⟩

/- the judgement -/
def Post (ρ : Hp) (w0 : World) (h0 : Hp) (Q : Value → HP) : Ending → World → Prop :=
  fun e w' => ∃ r h', e = .returned r ∧ St ρ w0 h0 w' h' ∧ Q r h'

/-- from the items 'k' on, with what is known of the frame and the parts of memory, the call ends as 'Q' says -/
def W (P : Program) (fn : Func) (ρ : Hp) (Q : Value → HP) (k : List Item) (env : Env) (Hs : List HP) : Prop :=
  ∀ w0 h0 w h a, St ρ w0 h0 w h → sepl Hs h → EnvOK fn.ntmps env a → Run P fn k (Post ρ w0 h0 Q) a w

/-- operations that each yield a value in every world in which what is read lies as it does -/
def yl (P : Program) (ops : Array Oper) (ρ : Hp) (Y : Act → Prop) : List Oper → Act → Prop
  | [], a => Y a
  | o :: l, a => ∃ v, ((Region.wanted o (yielded ops a.tmps) = true ∧ ∀ w : World, (∀ b o, ρ b = some o → w.heap[b]? = some o) → (execOp a.eval o).run P w = .ok (.value v) w) ∨ (Region.wanted o (yielded ops a.tmps) = false ∧ v = undef)) ∧ yl P ops ρ Y l (a.put o.dst v)

/-- the same inside a region: 'l' the operations that are left, 'X' what is asked behind them; with 'm' each operation only yields a value -/
def WL (m : Bool) (P : Program) (fn : Func) (ρ : Hp) (X : World → Hp → Act → World → Prop) (ops : Array Oper) (l : List Oper) (env : Env) (Hs : List HP) : Prop :=
  if m then ∀ a, EnvOK fn.ntmps env a → yl P ops ρ (fun a => ∀ w0 h0 w, X w0 h0 a w) l a
  else ∀ w0 h0 w h a, St ρ w0 h0 w h → sepl Hs h → EnvOK fn.ntmps env a → wpList P ops (onNormal fun a w => X w0 h0 a w) l a w
/-- what is asked behind a region: that the rest of the call ends as it should -/
def runK (P : Program) (fn : Func) (ρ : Hp) (Q : Value → HP) (k : List Item) : World → Hp → Act → World → Prop :=
  fun w0 h0 a w => Run P fn k (Post ρ w0 h0 Q) a w

section
variable {P : Program} {fn : Func} {ρ : Hp} {Q : Value → HP} {k : List Item} {env : Env} {Hs : List HP} {ops : Array Oper} {l : List Oper}

theorem W.seq {x y : Code} (h : W P fn ρ Q (.code x :: .code y :: k) env Hs) : W P fn ρ Q (.code (.seq x y) :: k) env Hs :=
  fun w0 h0 w hh a s p e => .seq (h w0 h0 w hh a s p e)
theorem W.skip (h : W P fn ρ Q k env Hs) : W P fn ρ Q (.code .skip :: k) env Hs := fun w0 h0 w hh a s p e => .skip (h w0 h0 w hh a s p e)
theorem W.block {id : Nat} {c : Code} (h : W P fn ρ Q (.code c :: .inBlock id :: k) env Hs) : W P fn ρ Q (.code (.block id c) :: k) env Hs :=
  fun w0 h0 w hh a s p e => .block (h w0 h0 w hh a s p e)
theorem W.inBlock {id : Nat} (h : W P fn ρ Q k env Hs) : W P fn ρ Q (.inBlock id :: k) env Hs := fun w0 h0 w hh a s p e => .inBlock (h w0 h0 w hh a s p e)
theorem W.loop {c : Code} (h : W P fn ρ Q (.code c :: .inLoop c :: k) env Hs) : W P fn ρ Q (.code (.loop c) :: k) env Hs :=
  fun w0 h0 w hh a s p e => .loop (h w0 h0 w hh a s p e)
theorem W.inLoop {c : Code} (h : W P fn ρ Q (.code c :: .inLoop c :: k) env Hs) : W P fn ρ Q (.inLoop c :: k) env Hs :=
  fun w0 h0 w hh a s p e => .inLoop (h w0 h0 w hh a s p e)
theorem W.exit {id : Nat} {k' : List Item} (hk : exitTo id k = some k') (h : W P fn ρ Q k' env Hs) : W P fn ρ Q (.code (.exit id) :: k) env Hs :=
  fun w0 h0 w hh a s p e => .exit hk (h w0 h0 w hh a s p e)
theorem W.cond {c : Operand} {x y : Code} {t : Bool} (hc : ev env c = some (.bool t))
    (h1 : t = true → W P fn ρ Q (.code x :: k) env Hs) (h2 : t = false → W P fn ρ Q (.code y :: k) env Hs) : W P fn ρ Q (.code (.cond c x y) :: k) env Hs := by
  intro w0 h0 w hh a s p e
  refine .cond (e.eval hc) ?_
  cases t with
  | true => exact h1 rfl w0 h0 w hh a s p e
  | false => exact h2 rfl w0 h0 w hh a s p e
theorem W.condT {c : Operand} {x y : Code} (hc : ev env c = some (.bool true)) (h1 : W P fn ρ Q (.code x :: k) env Hs) : W P fn ρ Q (.code (.cond c x y) :: k) env Hs :=
  W.cond hc (fun _ => h1) (fun h => by cases h)
theorem W.condF {c : Operand} {x y : Code} (hc : ev env c = some (.bool false)) (h1 : W P fn ρ Q (.code y :: k) env Hs) : W P fn ρ Q (.code (.cond c x y) :: k) env Hs :=
  W.cond hc (fun h => by cases h) (fun _ => h1)
theorem W.sub {env' : Env} (hs : Subs env env') (h : W P fn ρ Q k env' Hs) : W P fn ρ Q k env Hs :=
  fun w0 h0 w hh a s p e => h w0 h0 w hh a s p (e.sub hs.look)
theorem W.hs {Hs' : List HP} (hs : ∀ h, sepl Hs h → sepl Hs' h) (h : W P fn ρ Q k env Hs') : W P fn ρ Q k env Hs :=
  fun w0 h0 w hh a s p e => h w0 h0 w hh a s (hs _ p) e
theorem W.post {Q' : Value → HP} (hq : ∀ r h, Q' r h → Q r h) (h : W P fn ρ Q' k env Hs) : W P fn ρ Q k env Hs := by
  intro w0 h0 w hh a s p e b cs hf hk
  obtain ⟨e', w', fr, ⟨r, h', he, hs, hQ⟩, hc, hfn, hl⟩ := h w0 h0 w hh a s p e b cs hf hk
  exact ⟨e', w', fr, ⟨r, h', he, hs, hq _ _ hQ⟩, hc, hfn, hl⟩

theorem ret_one {t : Tmp} (hr : fn.results = #[.tmp t]) {v : Value} (hv : look env t = some v) {a : Act} (e : EnvOK fn.ntmps env a) (w : World) :
    (results fn a.tmps).run P w = .ok v w := by
  have := e.at' t v hv
  simp [results, hr, this]
theorem ret_none (hr : fn.results = #[]) (a : Act) (w : World) : (results fn a.tmps).run P w = .ok (.tuple #[]) w := by
  simp [results, hr]
theorem ret_two {t u : Tmp} (hr : fn.results = #[.tmp t, .tmp u]) {v x : Value} (hv : look env t = some v) (hx : look env u = some x) {a : Act} (e : EnvOK fn.ntmps env a) (w : World) :
    (results fn a.tmps).run P w = .ok (.tuple #[v, x]) w := by
  have h1 := e.at' t v hv
  have h2 := e.at' u x hx
  simp [results, hr, h1, h2]
theorem ret_three {t u s : Tmp} (hr : fn.results = #[.tmp t, .tmp u, .tmp s]) {v x y : Value} (hv : look env t = some v) (hx : look env u = some x) (hy : look env s = some y) {a : Act} (e : EnvOK fn.ntmps env a) (w : World) :
    (results fn a.tmps).run P w = .ok (.tuple #[v, x, y]) w := by
  have h1 := e.at' t v hv
  have h2 := e.at' u x hx
  have h3 := e.at' s y hy
  simp [results, hr, h1, h2, h3]

theorem W.ret1 {t : Tmp} (hr : fn.results = #[.tmp t]) {v : Value} (hv : look env t = some v) (h : ∀ h, sepl Hs h → Q v h) : W P fn ρ Q (.code .ret :: k) env Hs :=
  fun _ _ w hh _ s p e => .ret e.defers (ret_one hr hv e w) ⟨v, hh, rfl, s, h _ p⟩
theorem W.ret2 {t u : Tmp} (hr : fn.results = #[.tmp t, .tmp u]) {v x : Value} (hv : look env t = some v) (hx : look env u = some x) (h : ∀ h, sepl Hs h → Q (.tuple #[v, x]) h) : W P fn ρ Q (.code .ret :: k) env Hs :=
  fun _ _ w hh _ s p e => .ret e.defers (ret_two hr hv hx e w) ⟨_, hh, rfl, s, h _ p⟩
theorem W.ret3 {t u s : Tmp} (hr : fn.results = #[.tmp t, .tmp u, .tmp s]) {v x y : Value} (hv : look env t = some v) (hx : look env u = some x) (hy : look env s = some y) (h : ∀ h, sepl Hs h → Q (.tuple #[v, x, y]) h) : W P fn ρ Q (.code .ret :: k) env Hs :=
  fun _ _ w hh _ s p e => .ret e.defers (ret_three hr hv hx hy e w) ⟨_, hh, rfl, s, h _ p⟩
theorem W.stop0 (hr : fn.results = #[]) (h : ∀ h, sepl Hs h → Q (.tuple #[]) h) : W P fn ρ Q [] env Hs :=
  fun _ _ w hh a s p e => .stop e.defers (ret_none hr a w) ⟨_, hh, rfl, s, h _ p⟩

theorem W.region {id : Nat} {l : List Oper} (h : WL false P fn ρ (runK P fn ρ Q k) l.toArray l env Hs) : W P fn ρ Q (.code (.region id l.toArray false) :: k) env Hs := by
  intro w0 h0 w hh a s p e
  exact .of_wp (wp_region_lit (h w0 h0 w hh a s p e)) fun _ _ x => x

theorem WL.nil (h : W P fn ρ Q k env Hs) : WL false P fn ρ (runK P fn ρ Q k) ops [] env Hs := fun w0 h0 w hh a s p e => h w0 h0 w hh a s p e

theorem St.start {w : World} {h : Hp} (ho : ∀ b o, h b = some o → w.heap[b]? = some o) (hr : ∀ b o, ρ b = some o → w.heap[b]? = some o) (hd : Dj ρ h) : St ρ w h w h :=
  ⟨rfl, rfl, rfl, Nat.le_refl _, ho, hr, hd, fun _ _ _ => rfl, fun _ x => .inl x⟩

/-- the call of a function by its code; the arguments lie in the first slots -/
def argEnv : Nat → List Value → Env
  | _, [] => []
  | n, v :: l => (n, v) :: argEnv (n + 1) l
theorem look_argEnv (l : List Value) : ∀ n t, look (argEnv n l) t = if n ≤ t then l[t - n]? else none := by
  induction l with
  | nil => intro n t; simp [argEnv, look]
  | cons v l ih =>
    intro n t
    simp only [argEnv, look, ih]
    cases hb : Nat.beq n t with
    | true =>
      have : n = t := Nat.eq_of_beq_eq_true hb
      subst this
      simp
    | false =>
      have hne : n ≠ t := fun e => by subst e; simp at hb
      simp only [cond_false]
      by_cases h : n ≤ t
      · rw [if_pos (by omega), if_pos h, show t - n = t - (n + 1) + 1 by omega]
        simp
      · rw [if_neg (by omega), if_neg h]

theorem Fn.of_code {f : FuncId} {c : Code} {args : List Value} (hf : P.funcs[f]? = some fn) (hb : fn.body = some c) (hnm : (fn.name == "runtime.NumGoroutine") = false) (hn : Nat.ble args.length fn.ntmps = true)
    (h : W P fn ρ Q [.code c] (argEnv 0 args) Hs) : Fn P f args.toArray ρ Hs Q := by
  have hn := Nat.le_of_ble_eq_true hn
  refine ⟨⟨fn, hf, hnm, by simp [hb]⟩, ?_⟩
  intro w hh ho hr hd hp
  refine calls_of_run hf hb (h w hh w hh _ (.start ho hr hd) hp ⟨?_, rfl, fun t v ht => ?_⟩)
  · simp; omega
  · rw [look_argEnv, if_pos (by omega)] at ht
    have hlt : t < args.length := by
      rcases Nat.lt_or_ge t args.length with h | h
      · exact h
      · simp [List.getElem?_eq_none h] at ht
    simp only [Nat.sub_zero] at ht
    simp [Array.getElem?_append, hlt]
    simpa [List.getElem?_eq_getElem hlt] using ht
end
end Go.Proofs.YtdpnpipninggeaaGreatDoor
