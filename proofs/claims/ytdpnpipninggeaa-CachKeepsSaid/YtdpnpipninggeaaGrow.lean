/- Loops in which more and more is read only; rows of structs of one width. -/
import Derived.Test.YtdpnpipninggeaaInn
set_option linter.unusedSimpArgs false
set_option linter.unusedVariables false
namespace Go.Proofs.Ytdpnpipninggeaa
open Go
section
variable {P : Program} {T : Tab P} {fn : Func} {ρ σ : Hp} {Q : Value → HP} {k : List Item} {md : Bool} {X : World → Hp → Act → World → Prop} {env : Env} {Hs : List HP} {ops : Array Oper} {l : List Oper}
variable {d : Tmp} {ty : TypeId} {pos : String} {aft : Array Edge}
/-- a long list of operations is written out -/
theorem W.regionL {id : Nat} {b : Bool} {l l' : List Oper} (hF : FL l l') (h : W P fn ρ Q (.code (.region id l'.toArray b) :: k) env Hs) : W P fn ρ Q (.code (.region id l.toArray b) :: k) env Hs := by
  rw [hF.eq]; exact h
abbrev Le (a b : Hp) : Prop := ∀ n o, a n = some o → b n = some o
theorem Le.refl (a : Hp) : Le a a := fun _ _ h => h
theorem Le.trans {a b c : Hp} (h : Le a b) (h' : Le b c) : Le a c := fun n o x => h' n o (h n o x)
/-- a loop, its state told by 's'; what is read may grow -/
theorem W.loopR {σ : Type} {c : Code} (E : σ → Env) (H : σ → List HP) (inv : σ → Hp → Prop) (μ : σ → Nat) (s0 : σ) (hE : Subs env (E s0)) (hH : Hs = H s0) (h0 : inv s0 ρ)
    (step : ∀ s ρ1, Le ρ ρ1 → inv s ρ1 → (∀ s' ρ2, Le ρ1 ρ2 → inv s' ρ2 → μ s' < μ s → W P fn ρ2 Q (.inLoop c :: k) (E s') (H s')) → W P fn ρ1 Q (.code c :: .inLoop c :: k) (E s) (H s)) :
    W P fn ρ Q (.code (.loop c) :: k) env Hs := by
  subst hH
  refine W.loop (W.sub hE ?_)
  have key : ∀ n s ρ1, Le ρ ρ1 → μ s = n → inv s ρ1 → W P fn ρ1 Q (.code c :: .inLoop c :: k) (E s) (H s) := by
    intro n
    induction n using Nat.strongRecOn with
    | _ n ih =>
      intro s ρ1 le hs hi
      exact step s ρ1 le hi fun s' ρ2 le2 hi' hlt => W.inLoop (ih (μ s') (hs ▸ hlt) s' ρ2 (le.trans le2) rfl hi')
  exact key _ s0 ρ (Le.refl _) rfl h0
/-- what follows is proved once, whatever more is read by then -/
theorem W.cutG {τ : Type} {c : Item} (E : τ → Env) (H : τ → List HP) (inv : τ → Hp → Prop) (tail : ∀ s ρ', Le ρ ρ' → inv s ρ' → W P fn ρ' Q k (E s) (H s))
    (h : (∀ s ρ', Le ρ ρ' → inv s ρ' → W P fn ρ' Q k (E s) (H s)) → W P fn ρ Q (c :: k) env Hs) : W P fn ρ Q (c :: k) env Hs := h tail
theorem W.cutG2 {τ : Type} {c d : Item} (E : τ → Env) (H : τ → List HP) (inv : τ → Hp → Prop) (tail : ∀ s ρ', Le ρ ρ' → inv s ρ' → W P fn ρ' Q k (E s) (H s))
    (h : (∀ s ρ', Le ρ ρ' → inv s ρ' → W P fn ρ' Q k (E s) (H s)) → W P fn ρ Q (c :: d :: k) env Hs) : W P fn ρ Q (c :: d :: k) env Hs := h tail
theorem cell_ret {rt : TypeId} {b j : Nat} {c : List Value} {Ty : TypeId} {ti : TyI} {w0 : World} {h0 : Hp} {w : World} {hh : Hp} (s : St ρ w0 h0 w hh) (p : sepl Hs hh) (ht : T.tt rt = some ti) (h1 : oneCellT ti.desc = false)
    (hH : nthH Hs j = some (box b c Ty)) (hl : Nat.beq c.length ti.size = true) : (loadVar rt ⟨b, 0, none⟩).run P w = .ok (.agg c.toArray) w ∧ ∃ z, sepl (Hs.eraseIdx j) z ∧ St ρ w0 h0 w z := by
  have hH' : Hs[j]? = some (box b c Ty) := by rw [← nthH_eq]; exact hH
  obtain ⟨y, z, hy, dd, rfl, herase, _⟩ := sepl_at hH' p
  refine ⟨loadN (T := T) ht h1 (Nat.eq_of_beq_eq_true hl) (fun i v hi => by
    rw [Addr.add_lit, Nat.zero_add, box_cell hy (fun b o hb => s.own b o (join_left hb))]
    exact hi), z, herase, s.part dd⟩
/-- a result that stands in a variable of its own, which goes -/
theorem W.retC {t : Tmp} {rt : TypeId} {b j : Nat} {c : List Value} {Ty : TypeId} {ti : TyI} (hr : fn.results = #[.cell t rt]) (hv : look env t = some (.pointer (some ⟨b, 0, none⟩))) (ht : T.tt rt = some ti) (h1 : oneCellT ti.desc = false)
    (hH : nthH Hs j = some (box b c Ty)) (hl : Nat.beq c.length ti.size = true) (h : ∀ h, sepl (Hs.eraseIdx j) h → Q (.agg c.toArray) h) : W P fn ρ Q (.code .ret :: k) env Hs := by
  intro _ _ w hh a s p e
  obtain ⟨hld, z, hz, sz⟩ := cell_ret s p ht h1 hH hl
  refine .ret e.defers (v := .agg c.toArray) ?_ ⟨_, _, rfl, sz, h _ hz⟩
  have := e.at' t _ hv
  simp [results, hr, this, asAddr, hld]
/-- and one more behind it -/
theorem W.retC2 {t u : Tmp} {rt : TypeId} {b j : Nat} {c : List Value} {v : Value} {Ty : TypeId} {ti : TyI} (hr : fn.results = #[.cell t rt, .tmp u]) (hv : look env t = some (.pointer (some ⟨b, 0, none⟩))) (hu : look env u = some v) (ht : T.tt rt = some ti) (h1 : oneCellT ti.desc = false)
    (hH : nthH Hs j = some (box b c Ty)) (hl : Nat.beq c.length ti.size = true) (h : ∀ h, sepl (Hs.eraseIdx j) h → Q (.tuple #[.agg c.toArray, v]) h) : W P fn ρ Q (.code .ret :: k) env Hs := by
  intro _ _ w hh a s p e
  obtain ⟨hld, z, hz, sz⟩ := cell_ret s p ht h1 hH hl
  refine .ret e.defers (v := .tuple #[.agg c.toArray, v]) ?_ ⟨_, _, rfl, sz, h _ hz⟩
  have g1 := e.at' t _ hv
  have g2 := e.at' u _ hu
  simp [results, hr, g1, g2, asAddr, hld]
end
/- rows of one width -/
theorem flat_len {α : Type} {f : α → List Value} {k : Nat} (hk : ∀ a, (f a).length = k) : ∀ L : List α, (L.flatMap f).length = L.length * k
  | [] => by simp
  | a :: L => by rw [List.flatMap_cons, List.length_append, hk, flat_len hk L, List.length_cons, Nat.add_mul, Nat.one_mul, Nat.add_comm]
theorem flat_split {α : Type} {f : α → List Value} {k : Nat} (hk : ∀ a, (f a).length = k) {L : List α} {i : Nat} {a : α} (h : L[i]? = some a) :
    L.flatMap f = (L.take i).flatMap f ++ (f a ++ (L.drop (i + 1)).flatMap f) ∧ ((L.take i).flatMap f).length = i * k := by
  have hi := (List.getElem?_eq_some_iff.1 h).1
  have e : L = L.take i ++ a :: L.drop (i + 1) := by
    conv => lhs; rw [← List.take_append_drop i L, List.drop_eq_getElem_cons hi]
    rw [show L[i] = a from by rw [List.getElem?_eq_getElem hi] at h; exact Option.some.inj h]
  constructor
  · conv => lhs; rw [e]
    rw [List.flatMap_append, List.flatMap_cons]
  · rw [flat_len hk, List.length_take, Nat.min_eq_left (by omega)]
theorem flat_get {α : Type} {f : α → List Value} {k : Nat} (hk : ∀ a, (f a).length = k) {L : List α} {i j : Nat} {a : α} {v : Value} (h : L[i]? = some a) (hv : (f a)[j]? = some v) : (L.flatMap f)[i * k + j]? = some v := by
  obtain ⟨e, hl⟩ := flat_split hk h
  have hj := (List.getElem?_eq_some_iff.1 hv).1
  rw [e, List.getElem?_append_right (by omega), hl, Nat.add_sub_cancel_left, List.getElem?_append_left hj, hv]
theorem flat_row {α : Type} {f : α → List Value} {k : Nat} (hk : ∀ a, (f a).length = k) {L : List α} {i : Nat} {a : α} (h : L[i]? = some a) : ((L.flatMap f).drop (i * k)).take k = f a := by
  obtain ⟨e, hl⟩ := flat_split hk h
  rw [e, ← hl, List.drop_left, ← hk a, List.take_left]
theorem set_row {α : Type} {L : List α} {i : Nat} (a : α) (h : i < L.length) : L.set i a = L.take i ++ a :: L.drop (i + 1) := by
  rw [List.set_eq_take_append_cons_drop, if_pos h]
theorem flat_set {α : Type} {f : α → List Value} {k : Nat} (hk : ∀ a, (f a).length = k) {L : List α} {i j : Nat} {a b : α} {v : Value} (h : L[i]? = some a) (hj : j < k) (hb : (f a).set j v = f b) :
    (L.flatMap f).set (i * k + j) v = (L.set i b).flatMap f := by
  have hi := (List.getElem?_eq_some_iff.1 h).1
  obtain ⟨e, hl⟩ := flat_split hk h
  rw [set_row b hi, List.flatMap_append, List.flatMap_cons, e, List.set_append_right _ _ (by omega), hl, Nat.add_sub_cancel_left, List.set_append_left _ _ (by rw [hk]; exact hj), hb]
end Go.Proofs.Ytdpnpipninggeaa
