/- Loops in which more and more is read only; rows of structs of one width. -/
import Derived.Test.YtdpnpipninggeaaDoorInn
import Derived.Test.YtdpnpipninggeaaDoorStc
import Derived.Test.YtdpnpipninggeaaDoorMdlLaw
import Derived.Test.YtdpnpipninggeaaDoorNum
import Derived.Test.YtdpnpipninggeaaDoorTab
import Derived.Test.YtdpnpipninggeaaDoorStEq
set_option linter.unusedSimpArgs false
set_option linter.unusedVariables false
namespace Go.Proofs.YtdpnpipninggeaaDoor
open Go
section
variable {P : Program} {T : Tab P} {fn : Func} {ρ σ : Hp} {Q : Value → HP} {k : List Item} {md : Bool} {X : World → Hp → Act → World → Prop} {env : Env} {Hs : List HP} {ops : Array Oper} {l : List Oper}
variable {d : Tmp} {ty : TypeId} {pos : String} {aft : Array Edge}
/-- a long list of operations is written out -/
theorem W.regionL {id : Nat} {b : Bool} {l l' : List Oper} (hF : FL l l') (h : W P fn ρ Q (.code (.region id l'.toArray b) :: k) env Hs) : W P fn ρ Q (.code (.region id l.toArray b) :: k) env Hs := by
  rw [hF.eq]; exact h
abbrev Le (a b : Hp) : Prop := ∀ n o, a n = some o → b n = some o
theorem Le.refl (a : Hp) : Le a a := fun _ _ h => h
theorem Le.trans {a b c : Hp} (h : Le a b) (h' : Le b c) : Le a c := fun n o x => h' n o (h n o x)
/-- a loop, its state told by 's'; what is read may grow -/
theorem W.loopR {σ : Type} {c : Code} (E : σ → Env) (H : σ → List HP) (inv : σ → Hp → Prop) (μ : σ → Nat) (s0 : σ) (hE : Subs env (E s0)) (hH : Hs = H s0) (h0 : inv s0 ρ)
    (step : ∀ s ρ1, Le ρ ρ1 → inv s ρ1 → (∀ s' ρ2, Le ρ1 ρ2 → inv s' ρ2 → μ s' < μ s → W P fn ρ2 Q (.inLoop c :: k) (E s') (H s')) → W P fn ρ1 Q (.code c :: .inLoop c :: k) (E s) (H s)) :
    W P fn ρ Q (.code (.loop c) :: k) env Hs := by
  subst hH
  refine W.loop (W.sub hE ?_)
  have key : ∀ n s ρ1, Le ρ ρ1 → μ s = n → inv s ρ1 → W P fn ρ1 Q (.code c :: .inLoop c :: k) (E s) (H s) := by
    intro n
    induction n using Nat.strongRecOn with
    | _ n ih =>
      intro s ρ1 le hs hi
      exact step s ρ1 le hi fun s' ρ2 le2 hi' hlt => W.inLoop (ih (μ s') (hs ▸ hlt) s' ρ2 (le.trans le2) rfl hi')
  exact key _ s0 ρ (Le.refl _) rfl h0
theorem cell_ret {rt : TypeId} {b j : Nat} {c : List Value} {Ty : TypeId} {ti : TyI} {w0 : World} {h0 : Hp} {w : World} {hh : Hp} (s : St ρ w0 h0 w hh) (p : sepl Hs hh) (ht : T.tt rt = some ti) (h1 : oneCellT ti.desc = false)
    (hH : nthH Hs j = some (box b c Ty)) (hl : Nat.beq c.length ti.size = true) : (loadVar rt ⟨b, 0, none⟩).run P w = .ok (.agg c.toArray) w ∧ ∃ z, sepl (Hs.eraseIdx j) z ∧ St ρ w0 h0 w z := by
  have hH' : Hs[j]? = some (box b c Ty) := by rw [← nthH_eq]; exact hH
  obtain ⟨y, z, hy, dd, rfl, herase, _⟩ := sepl_at hH' p
  refine ⟨loadN (T := T) ht h1 (Nat.eq_of_beq_eq_true hl) (fun i v hi => by
    rw [Addr.add_lit, Nat.zero_add, box_cell hy (fun b o hb => s.own b o (join_left hb))]
    exact hi), z, herase, s.part dd⟩
/-- a result that stands in a variable of its own, which goes -/
theorem W.retC {t : Tmp} {rt : TypeId} {b j : Nat} {c : List Value} {Ty : TypeId} {ti : TyI} (hr : fn.results = #[.cell t rt]) (hv : look env t = some (.pointer (some ⟨b, 0, none⟩))) (ht : T.tt rt = some ti) (h1 : oneCellT ti.desc = false)
    (hH : nthH Hs j = some (box b c Ty)) (hl : Nat.beq c.length ti.size = true) (h : ∀ h, sepl (Hs.eraseIdx j) h → Q (.agg c.toArray) h) : W P fn ρ Q (.code .ret :: k) env Hs := by
  intro _ _ w hh a s p e
  obtain ⟨hld, z, hz, sz⟩ := cell_ret s p ht h1 hH hl
  refine .ret e.defers (v := .agg c.toArray) ?_ ⟨_, _, rfl, sz, h _ hz⟩
  have := e.at' t _ hv
  simp [results, hr, this, asAddr, hld]
/-- and one more behind it -/
theorem W.retC2 {t u : Tmp} {rt : TypeId} {b j : Nat} {c : List Value} {v : Value} {Ty : TypeId} {ti : TyI} (hr : fn.results = #[.cell t rt, .tmp u]) (hv : look env t = some (.pointer (some ⟨b, 0, none⟩))) (hu : look env u = some v) (ht : T.tt rt = some ti) (h1 : oneCellT ti.desc = false)
    (hH : nthH Hs j = some (box b c Ty)) (hl : Nat.beq c.length ti.size = true) (h : ∀ h, sepl (Hs.eraseIdx j) h → Q (.tuple #[.agg c.toArray, v]) h) : W P fn ρ Q (.code .ret :: k) env Hs := by
  intro _ _ w hh a s p e
  obtain ⟨hld, z, hz, sz⟩ := cell_ret s p ht h1 hH hl
  refine .ret e.defers (v := .tuple #[.agg c.toArray, v]) ?_ ⟨_, _, rfl, sz, h _ hz⟩
  have g1 := e.at' t _ hv
  have g2 := e.at' u _ hu
  simp [results, hr, g1, g2, asAddr, hld]
end
/- rows of one width -/
theorem flat_len {α : Type} {f : α → List Value} {k : Nat} (hk : ∀ a, (f a).length = k) : ∀ L : List α, (L.flatMap f).length = L.length * k
  | [] => by simp
  | a :: L => by rw [List.flatMap_cons, List.length_append, hk, flat_len hk L, List.length_cons, Nat.add_mul, Nat.one_mul, Nat.add_comm]
theorem flat_split {α : Type} {f : α → List Value} {k : Nat} (hk : ∀ a, (f a).length = k) {L : List α} {i : Nat} {a : α} (h : L[i]? = some a) :
    L.flatMap f = (L.take i).flatMap f ++ (f a ++ (L.drop (i + 1)).flatMap f) ∧ ((L.take i).flatMap f).length = i * k := by
  have hi := (List.getElem?_eq_some_iff.1 h).1
  have e : L = L.take i ++ a :: L.drop (i + 1) := by
    conv => lhs; rw [← List.take_append_drop i L, List.drop_eq_getElem_cons hi]
    rw [show L[i] = a from by rw [List.getElem?_eq_getElem hi] at h; exact Option.some.inj h]
  constructor
  · conv => lhs; rw [e]
    rw [List.flatMap_append, List.flatMap_cons]
  · rw [flat_len hk, List.length_take, Nat.min_eq_left (by omega)]
theorem flat_get {α : Type} {f : α → List Value} {k : Nat} (hk : ∀ a, (f a).length = k) {L : List α} {i j : Nat} {a : α} {v : Value} (h : L[i]? = some a) (hv : (f a)[j]? = some v) : (L.flatMap f)[i * k + j]? = some v := by
  obtain ⟨e, hl⟩ := flat_split hk h
  have hj := (List.getElem?_eq_some_iff.1 hv).1
  rw [e, List.getElem?_append_right (by omega), hl, Nat.add_sub_cancel_left, List.getElem?_append_left hj, hv]
theorem flat_row {α : Type} {f : α → List Value} {k : Nat} (hk : ∀ a, (f a).length = k) {L : List α} {i : Nat} {a : α} (h : L[i]? = some a) : ((L.flatMap f).drop (i * k)).take k = f a := by
  obtain ⟨e, hl⟩ := flat_split hk h
  rw [e, ← hl, List.drop_left, ← hk a, List.take_left]
theorem set_row {α : Type} {L : List α} {i : Nat} (a : α) (h : i < L.length) : L.set i a = L.take i ++ a :: L.drop (i + 1) := by
  rw [List.set_eq_take_append_cons_drop, if_pos h]
theorem flat_set {α : Type} {f : α → List Value} {k : Nat} (hk : ∀ a, (f a).length = k) {L : List α} {i j : Nat} {a b : α} {v : Value} (h : L[i]? = some a) (hj : j < k) (hb : (f a).set j v = f b) :
    (L.flatMap f).set (i * k + j) v = (L.set i b).flatMap f := by
  have hi := (List.getElem?_eq_some_iff.1 h).1
  obtain ⟨e, hl⟩ := flat_split hk h
  rw [set_row b hi, List.flatMap_append, List.flatMap_cons, e, List.set_append_right _ _ (by omega), hl, Nat.add_sub_cancel_left, List.set_append_left _ _ (by rw [hk]; exact hj), hb]
end Go.Proofs.YtdpnpipninggeaaDoor
/- Rows of parts: one part for each element of a list; and parts that are told anew. Over whatever program. -/
set_option linter.unusedSimpArgs false
set_option linter.unusedVariables false
namespace Go.Proofs.YtdpnpipninggeaaDoor
open Go
def Own {α : Type} (f : α → HP) (L : List α) : HP := sepl (L.map f)
theorem erase_map {α β : Type} (f : α → β) : ∀ (L : List α) (i : Nat), (L.map f).eraseIdx i = (L.eraseIdx i).map f
  | [], _ => rfl
  | a :: L, 0 => rfl
  | a :: L, i + 1 => by simp [erase_map f L i]
theorem flat_take {α : Type} {f : α → List Value} {k : Nat} (hk : ∀ a, (f a).length = k) (L : List α) (i : Nat) : (L.flatMap f).take (i * k) = (L.take i).flatMap f := by
  rcases Nat.le_total i L.length with h | h
  · conv => lhs; rw [← List.take_append_drop i L, List.flatMap_append]
    rw [List.take_left' (by rw [flat_len hk, List.length_take, Nat.min_eq_left h])]
  · rw [List.take_of_length_le h, List.take_of_length_le (by rw [flat_len hk]; exact Nat.mul_le_mul_right _ h)]
theorem flat_drop {α : Type} {f : α → List Value} {k : Nat} (hk : ∀ a, (f a).length = k) (L : List α) (i : Nat) : (L.flatMap f).drop (i * k) = (L.drop i).flatMap f := by
  rcases Nat.le_total i L.length with h | h
  · conv => lhs; rw [← List.take_append_drop i L, List.flatMap_append]
    rw [List.drop_left' (by rw [flat_len hk, List.length_take, Nat.min_eq_left h])]
  · rw [List.drop_of_length_le h, List.drop_of_length_le (by rw [flat_len hk]; exact Nat.mul_le_mul_right _ h)]
    rfl
theorem own_out {α : Type} {f : α → HP} {L : List α} {i : Nat} {a : α} (h : L[i]? = some a) {x : Hp} (o : Own f L x) : sepl [f a, Own f (L.eraseIdx i)] x := by
  have hn : nthH (L.map f) i = some (f a) := by rw [nthH_eq, List.getElem?_map, h]; rfl
  have := sepl_perm (perm_out hn) o
  obtain ⟨y, z, hy, hz, d, rfl⟩ := this
  refine ⟨y, z, hy, sepl_one.2 ?_, d, rfl⟩
  unfold Own
  rw [erase_map] at hz
  exact hz
theorem own_mem {α : Type} {f : α → HP} {L : List α} {a : α} (h : a ∈ L) {x : Hp} (o : Own f L x) : ∃ y, f a y ∧ ∀ b o, y b = some o → x b = some o := by
  obtain ⟨i, hi⟩ := List.mem_iff_getElem?.1 h
  obtain ⟨y, z, hy, hz, d, rfl⟩ := own_out hi o
  exact ⟨y, hy, fun b o hb => join_left hb⟩
/-- what is owned may be read -/
def Rds {α : Type} (g : Hp → α → Prop) (h : Hp) (L : List α) : Prop := ∀ a ∈ L, g h a
theorem own_rd {α : Type} {f : α → HP} {g : Hp → α → Prop} (hg : ∀ a y, f a y → g y a) (hm : ∀ a y z, g y a → (∀ b o, y b = some o → z b = some o) → g z a) {L : List α} {x : Hp} (o : Own f L x) : Rds g x L := by
  intro a ha
  obtain ⟨y, hy, le⟩ := own_mem ha o
  exact hm a y x (hg a y hy) le
abbrev nilV : Value := .slice none 0 0
abbrev pt (b off : Nat) : Value := .pointer (some ⟨b, off, none⟩)
theorem slZ : SL nilV 0 := by unfold SL; exact .inl ⟨rfl, rfl⟩
/-- parts that are picked out of others; what is not picked goes -/
inductive Sel : List HP → List HP → Prop
  | nil {Hs : List HP} : Sel Hs []
  | cons {Hs Hs' : List HP} {p : HP} (j : Nat) (hj : nthH Hs j = some p) (h : Sel (Hs.eraseIdx j) Hs') : Sel Hs (p :: Hs')
inductive Pick (p : HP) : List HP → List HP → Prop
  | h {Hs : List HP} : Pick p (p :: Hs) Hs
  | t {q : HP} {Hs H0 : List HP} (h : Pick p Hs H0) : Pick p (q :: Hs) (q :: H0)
theorem Pick.ix {p : HP} {Hs H0 : List HP} (h : Pick p Hs H0) : ∃ j, nthH Hs j = some p ∧ Hs.eraseIdx j = H0 := by
  induction h with
  | h => exact ⟨0, rfl, rfl⟩
  | t _ ih =>
    obtain ⟨j, h1, h2⟩ := ih
    exact ⟨j + 1, h1, by rw [List.eraseIdx_cons_succ, h2]⟩
theorem Sel.k {p : HP} {Hs H0 Hs' : List HP} (h1 : Pick p Hs H0) (h2 : Sel H0 Hs') : Sel Hs (p :: Hs') := by
  obtain ⟨j, e1, e2⟩ := h1.ix
  subst e2
  exact Sel.cons j e1 h2
theorem Sel.sep {Hs Hs' : List HP} (h : Sel Hs Hs') : ∀ x, sepl Hs x → ∃ y z, sepl Hs' y ∧ Dj y z ∧ x = join y z := by
  induction h with
  | nil => exact fun x _ => ⟨nohp, x, emp_nohp, dj_nohp' _, (join_nohp' x).symm⟩
  | @cons Hs Hs' p j hj h ih =>
    intro x s
    obtain ⟨a, b, ha, hb, d, rfl⟩ := sepl_perm (perm_out hj) s
    obtain ⟨y, z, hy, d2, rfl⟩ := ih b hb
    have dd := dj_join_right.1 d
    exact ⟨join a y, z, ⟨a, y, ha, hy, dd.1, rfl⟩, dj_join_left.2 ⟨dd.2, d2⟩, (join_assoc _ _ _).symm⟩
/-- parts that are taken out of others, and what is left -/
inductive Take : List HP → List HP → List HP → Prop
  | nil {Hs : List HP} : Take Hs [] Hs
  | cons {Hs H1 H0 : List HP} {p : HP} (j : Nat) (hj : nthH Hs j = some p) (h : Take (Hs.eraseIdx j) H1 H0) : Take Hs (p :: H1) H0
theorem Take.sep {Hs H1 H0 : List HP} (h : Take Hs H1 H0) : ∀ x, sepl Hs x → sepl (H0 ++ H1) x := by
  have perm : Hs.Perm (H1 ++ H0) := by
    induction h with
    | nil => exact List.Perm.refl _
    | @cons Hs H1 H0 p j hj h ih => exact (perm_out hj).trans (List.Perm.cons p ih)
  exact fun x s => sepl_perm (perm.trans List.perm_append_comm) s
section
variable {P : Program} {T : Tab P} {fn : Func} {ρ σ : Hp} {Q : Value → HP} {k : List Item} {md : Bool} {X : World → Hp → Act → World → Prop} {env : Env} {Hs : List HP} {ops : Array Oper} {l : List Oper}
theorem parts_at {j : Nat} {p : HP} {ps Hs' : List HP} (hj : nthH Hs j = some p) (hp : ∀ h, p h → sepl ps h) (hF : FL (ps ++ Hs.eraseIdx j) Hs') : ∀ h, sepl Hs h → sepl Hs' h := by
  intro h s
  rw [← hF.eq]
  obtain ⟨y, z, hy, hz, d, rfl⟩ := sepl_perm (perm_out hj) s
  exact sepl_append.2 ⟨y, z, hp _ hy, hz, d, rfl⟩
/-- a part is told in parts, which stand ahead -/
theorem W.parts (j : Nat) {p : HP} {ps Hs' : List HP} (hj : nthH Hs j = some p) (hp : ∀ h, p h → sepl ps h) (hF : FL (ps ++ Hs.eraseIdx j) Hs') (h : W P fn ρ Q k env Hs') : W P fn ρ Q k env Hs :=
  .hs (parts_at hj hp hF) h
theorem WL.parts (j : Nat) {p : HP} {ps Hs' : List HP} (hj : nthH Hs j = some p) (hp : ∀ h, p h → sepl ps h) (hF : FL (ps ++ Hs.eraseIdx j) Hs') (h : WL false P fn ρ X ops l env Hs') : WL false P fn ρ X ops l env Hs :=
  .hs (parts_at hj hp hF) h
/-- parts are put in another order, or told anew -/
theorem W.two (p q : HP) {r : HP} {Hr : List HP} (h0 : Hs = p :: q :: Hr) (hp : ∀ h, sepl [p, q] h → r h) (h : W P fn ρ Q k env (r :: Hr)) : W P fn ρ Q k env Hs := by
  subst h0
  refine .hs (fun h s => ?_) h
  obtain ⟨y, z, hy, ⟨y2, z2, hy2, hz2, d2, rfl⟩, d, rfl⟩ := s
  have dd := dj_join_right.1 d
  exact ⟨join y y2, z2, hp _ ⟨y, y2, hy, sepl_one.2 hy2, dd.1, rfl⟩, hz2, dj_join_left.2 ⟨dd.2, d2⟩, (join_assoc _ _ _).symm⟩
theorem WL.two (p q : HP) {r : HP} {Hr : List HP} (h0 : Hs = p :: q :: Hr) (hp : ∀ h, sepl [p, q] h → r h) (h : WL false P fn ρ X ops l env (r :: Hr)) : WL false P fn ρ X ops l env Hs := by
  subst h0
  refine .hs (fun h s => ?_) h
  obtain ⟨y, z, hy, ⟨y2, z2, hy2, hz2, d2, rfl⟩, d, rfl⟩ := s
  have dd := dj_join_right.1 d
  exact ⟨join y y2, z2, hp _ ⟨y, y2, hy, sepl_one.2 hy2, dd.1, rfl⟩, hz2, dj_join_left.2 ⟨dd.2, d2⟩, (join_assoc _ _ _).symm⟩
theorem W.fit {Hs' : List HP} (hs : Sel Hs Hs') (h : W P fn ρ Q k env Hs') : W P fn ρ Q k env Hs := by
  intro w0 h0 w hh a s p e
  obtain ⟨y, z, hy, d, rfl⟩ := hs.sep _ p
  exact h w0 h0 w y a (by rw [join_comm d] at s; exact s.part d.symm) hy e
theorem WL.fit {Hs' : List HP} (hs : Sel Hs Hs') (h : WL false P fn ρ X ops l env Hs') : WL false P fn ρ X ops l env Hs := by
  intro w0 h0 w hh a s p e
  obtain ⟨y, z, hy, d, rfl⟩ := hs.sep _ p
  exact h w0 h0 w y a (by rw [join_comm d] at s; exact s.part d.symm) hy e
/-- one element more, of a struct's cells, which was just built -/
theorem WL.apS {d : Tmp} {ty : TypeId} {pos : String} {aft : Array Edge} {x y : Operand} {t E : TypeId} {v u : Value} {cs news : List Value} {i n : Nat} {eD : TypeDesc} {eS eB : Nat} {eZ : Value} {eC : Bool} {a b : Nat} {z : Value} {c : Bool} {Hr : List HP} {Hs' : Value → List HP} (hn : Nat.ble (d + 1) fn.ntmps = true)
    (hx : ev env x = some v) (hy : ev env y = some u) (ht : T.tt t = some ⟨.slice E, a, b, z, c⟩) (he : T.tt E = some ⟨eD, eS, eB, eZ, eC⟩) (hz : Nat.beq eZ.cells.toList.length eS = true) (h0 : Nat.ble 1 eS = true)
    (hs : Hs = Buf eS u news :: Hr) (hH : nthH Hr i = some (Buf eS v cs)) (hu : SL u 1) (hm : Nat.beq news.length eS = true) (hl : cs.length = n * eS) (h1 : AO news) (hb : (n + 1) * eB ≤ 140737488355328) (hM : n + 1 ≤ 140737488355328)
    (hF : ∀ v', FL (Hr.set i (Buf eS v' (cs ++ news))) (Hs' v'))
    (h : ∀ v', SL v' (n + 1) → WL false P fn ρ X ops l ((d, v') :: env) (Hs' v')) : WL false P fn ρ X ops (⟨some d, .call { callee := .builtin .append, args := #[x, y], argTypes := #[t, t] }, ty, pos, aft, none⟩ :: l) env Hs := by
  subst hs
  rw [nthH_eq] at hH
  refine WL.ap (T := T) (i := i + 1) (n := n) (m := 1) (news := news) (Hs' := fun v' => Buf eS u news :: Hr.set i (Buf eS v' (cs ++ news))) hn hx hy ht he hz h0 (by simpa using hH) (.own 0 (by simp)) hu hl (by rw [Nat.one_mul]; exact Nat.eq_of_beq_eq_true hm) h1.all hb (by unfold maxLen; omega) (fun v' => by simpa using FL.rfl _) (fun v' hv' => ?_)
  refine WL.drop 0 rfl (FL.rfl _) ?_
  simp only [List.eraseIdx_cons_zero]
  rw [(hF v').eq]
  exact h v' hv'
/-- cuts of a row of one width that is read -/
theorem WL.slDf {d : Tmp} {ty : TypeId} {pos : String} {aft : Array Edge} {α : Type} {f : α → List Value} {L : List α} {x y : Operand} {t E : TypeId} {v : Value} {k : Nat} {K : IntKind} {eD : TypeDesc} {eS eB : Nat} {eZ : Value} {eC : Bool} {a b : Nat} {z : Value} {c : Bool} (hn : Nat.ble (d + 1) fn.ntmps = true)
    (hx : ev env x = some v) (hy : ev env y = some (.int K ((k : Nat) : Int))) (ht : T.tt t = some ⟨.slice E, a, b, z, c⟩) (he : T.tt E = some ⟨eD, eS, eB, eZ, eC⟩) (h0 : Nat.ble 1 eS = true) (hR : ROs ρ eS v (L.flatMap f)) (hk : ∀ a, (f a).length = eS) (h2 : k ≤ L.length)
    (h : ∀ u, SL u (L.drop k).length → ROs ρ eS u ((L.drop k).flatMap f) → WL md P fn ρ X ops l ((d, u) :: env) Hs) :
    WL md P fn ρ X ops (⟨some d, .slice t x (some y) none none, ty, pos, aft, none⟩ :: l) env Hs :=
  .slR (T := T) (n := L.length) (lo := k) (hi := L.length) hn hx (.atN hy) .no ht he h0 hR (flat_len hk L) h2 (Nat.le_refl _) (fun u hu hr => h u (by simpa using hu) (by
    have e : ((L.flatMap f).drop (k * eS)).take ((L.length - k) * eS) = (L.drop k).flatMap f := by
      rw [flat_drop hk, List.take_of_length_le (by rw [flat_len hk, List.length_drop]; exact Nat.le_refl _)]
    rw [← e]; exact hr))
theorem WL.slTf {d : Tmp} {ty : TypeId} {pos : String} {aft : Array Edge} {α : Type} {f : α → List Value} {L : List α} {x y : Operand} {t E : TypeId} {v : Value} {k : Nat} {K : IntKind} {eD : TypeDesc} {eS eB : Nat} {eZ : Value} {eC : Bool} {a b : Nat} {z : Value} {c : Bool} (hn : Nat.ble (d + 1) fn.ntmps = true)
    (hx : ev env x = some v) (hy : ev env y = some (.int K ((k : Nat) : Int))) (ht : T.tt t = some ⟨.slice E, a, b, z, c⟩) (he : T.tt E = some ⟨eD, eS, eB, eZ, eC⟩) (h0 : Nat.ble 1 eS = true) (hR : ROs ρ eS v (L.flatMap f)) (hk : ∀ a, (f a).length = eS) (h2 : k ≤ L.length)
    (h : ∀ u, SL u (L.take k).length → ROs ρ eS u ((L.take k).flatMap f) → WL md P fn ρ X ops l ((d, u) :: env) Hs) :
    WL md P fn ρ X ops (⟨some d, .slice t x none (some y) none, ty, pos, aft, none⟩ :: l) env Hs :=
  .slR (T := T) (n := L.length) (lo := 0) (hi := k) hn hx .no (.atN hy) ht he h0 hR (flat_len hk L) (Nat.zero_le _) h2 (fun u hu hr => h u (by simpa [Nat.min_eq_left h2] using hu) (by
    have e : ((L.flatMap f).drop (0 * eS)).take ((k - 0) * eS) = (L.take k).flatMap f := by rw [Nat.zero_mul, List.drop_zero, Nat.sub_zero, flat_take hk]
    rw [← e]; exact hr))
/-- a part of which something is told that is not named yet -/
theorem W.opens {α : Type} (j : Nat) {p : HP} {φ : α → Prop} {ps : α → List HP} {Hr : List HP} (hj : nthH Hs j = some p) (hp : ∀ h, p h → ∃ x, φ x ∧ sepl (ps x) h) (hF : FL (Hs.eraseIdx j) Hr) (h : ∀ x, φ x → W P fn ρ Q k env (ps x ++ Hr)) : W P fn ρ Q k env Hs := by
  intro w0 h0 w hh a s q e
  rw [← hF.eq] at h
  obtain ⟨y, z, hy, hz, d, rfl⟩ := sepl_perm (perm_out hj) q
  obtain ⟨x, hx, hps⟩ := hp _ hy
  exact h x hx w0 h0 w _ a s (sepl_append.2 ⟨y, z, hps, hz, d, rfl⟩) e
theorem WL.opens {α : Type} (j : Nat) {p : HP} {φ : α → Prop} {ps : α → List HP} {Hr : List HP} (hj : nthH Hs j = some p) (hp : ∀ h, p h → ∃ x, φ x ∧ sepl (ps x) h) (hF : FL (Hs.eraseIdx j) Hr) (h : ∀ x, φ x → WL false P fn ρ X ops l env (ps x ++ Hr)) : WL false P fn ρ X ops l env Hs := by
  intro w0 h0 w hh a s q e
  rw [← hF.eq] at h
  obtain ⟨y, z, hy, hz, d, rfl⟩ := sepl_perm (perm_out hj) q
  obtain ⟨x, hx, hps⟩ := hp _ hy
  exact h x hx w0 h0 w _ a s (sepl_append.2 ⟨y, z, hps, hz, d, rfl⟩) e
/-- a whole struct of a slice that is owned and written out -/
theorem WL.ldAEF {d : Tmp} {ty : TypeId} {pos : String} {aft : Array Edge} {x : Operand} {t : TypeId} {i j sz : Nat} {u : Value} {cs vs : List Value} {ti : TyI} (hn : Nat.ble (d + 1) fn.ntmps = true) (hx : ev env x = some (eptr u i))
    (ht : T.tt t = some ti) (h1 : oneCellT ti.desc = false) (hH : nthH Hs j = some (Buf sz u cs)) (hF : FL ((cs.drop i).take ti.size) vs) (hl : vs.length = ti.size)
    (h : WL false P fn ρ X ops l ((d, .agg vs.toArray) :: env) Hs) : WL false P fn ρ X ops (⟨some d, .load t x, ty, pos, aft, none⟩ :: l) env Hs :=
  .ldAE (T := T) hn hx ht h1 (by rw [← nthH_eq]; exact hH) hF.eq hl h
/-- what a call gave, in two parts, stays one's own -/
theorem WL.nilSS {n fuel : Nat} {listed : Array Bool} {p q : HP} {H2 : List HP} (h : WD P fn ρ σ X ops n fuel listed env (p :: q :: H2)) : WL false P fn ρ (opX P ρ σ X ops n fuel listed) ops [] env (p :: q :: eqh σ :: H2) :=
  .nilO (H2 := p :: q :: H2) (fun _ z => sep_left_comm (sep_mono (fun _ y => y) (fun _ y => sep_left_comm y) z)) h
end
end Go.Proofs.YtdpnpipninggeaaDoor

/- How what one hand has lies in memory: read, and owned. -/
set_option linter.unusedSimpArgs false
set_option linter.unusedVariables false
namespace Go.Proofs.YtdpnpipninggeaaDoor
open Go
abbrev smC : Smp → List Value := twoC .i64 .u64
theorem sm_len (q : Smp) : (smC q).length = 2 := rfl
theorem sm_one (l : List Smp) : ∀ q ∈ l.flatMap smC, q.oneCell' = true := by
  intro q hq
  obtain ⟨x, _, hx⟩ := List.mem_flatMap.1 hq
  simp only [smC, twoC, List.mem_cons, List.mem_nil_iff, or_false] at hx
  rcases hx with rfl | rfl <;> rfl
def serC (p : Ser × Value) : List Value := [.int .i64 p.1.id, .bool p.1.shut, .bool p.1.any, .int .i64 p.1.last, p.2]
def itrC (p : Itr × Value) : List Value := [.int .i64 p.1.id, p.2]
def opC (o : MOp) : List Value := [.int .i64 o.kind, .int .i64 o.series, .int .i64 o.iter, .int .i64 o.t, .int .u64 o.v, .int .i64 o.lo, .int .i64 o.hi, .int .i64 o.n]
theorem ser_len (p : Ser × Value) : (serC p).length = 5 := rfl
theorem itr_len (p : Itr × Value) : (itrC p).length = 2 := rfl
def rdSer (h : Hp) (p : Ser × Value) : Prop := ROs h 2 p.2 (p.1.list.flatMap smC)
def rdItr (h : Hp) (p : Itr × Value) : Prop := ROs h 2 p.2 (p.1.rest.flatMap smC)
def owSer (p : Ser × Value) : HP := Buf 2 p.2 (p.1.list.flatMap smC)
def owItr (p : Itr × Value) : HP := Buf 2 p.2 (p.1.rest.flatMap smC)
def mdlV (sv iv : Value) (n : Int) : Value := .agg #[sv, iv, .int .i64 n]
def rstV (r : Rst) (lv : Value) : Value := .agg #[.int .i64 r.err, .int .i64 r.iter, lv]
def RMdl (h : Hp) (v : Value) (m : Mdl) : Prop :=
  ∃ sv iv L K, v = mdlV sv iv m.next ∧ L.map Prod.fst = m.ser ∧ K.map Prod.fst = m.its ∧ ROs h 5 sv (L.flatMap serC) ∧ ROs h 2 iv (K.flatMap itrC) ∧ Rds rdSer h L ∧ Rds rdItr h K
def OMdl (v : Value) (m : Mdl) : HP := fun h =>
  ∃ sv iv L K, v = mdlV sv iv m.next ∧ L.map Prod.fst = m.ser ∧ K.map Prod.fst = m.its ∧ sepl [Buf 5 sv (L.flatMap serC), Buf 2 iv (K.flatMap itrC), Own owSer L, Own owItr K] h
def RRst (h : Hp) (v : Value) (r : Rst) : Prop := ∃ lv, v = rstV r lv ∧ ROs h 2 lv (r.list.flatMap smC)
def ORst (v : Value) (r : Rst) : HP := fun h => ∃ lv, v = rstV r lv ∧ Buf 2 lv (r.list.flatMap smC) h
/-- a model in a variable -/
def PMdl (b : Nat) (T : TypeId) (m : Mdl) : HP := fun h =>
  ∃ sv iv L K, L.map Prod.fst = m.ser ∧ K.map Prod.fst = m.its ∧ sepl [box b [sv, iv, .int .i64 m.next] T, Buf 5 sv (L.flatMap serC), Buf 2 iv (K.flatMap itrC), Own owSer L, Own owItr K] h
theorem RMdl.mono {h h' : Hp} {v : Value} {m : Mdl} (r : RMdl h v m) (le : ∀ b o, h b = some o → h' b = some o) : RMdl h' v m := by
  obtain ⟨sv, iv, L, K, e, e1, e2, r1, r2, r3, r4⟩ := r
  exact ⟨sv, iv, L, K, e, e1, e2, r1.mono le, r2.mono le, fun a ha => (r3 a ha).mono le, fun a ha => (r4 a ha).mono le⟩
theorem RMdl.wide {h x : Hp} {v : Value} {m : Mdl} (r : RMdl h v m) : RMdl (join h x) v m := r.mono fun _ _ => join_left
theorem RRst.mono {h h' : Hp} {v : Value} {r : Rst} (q : RRst h v r) (le : ∀ b o, h b = some o → h' b = some o) : RRst h' v r := by
  obtain ⟨lv, e, q⟩ := q
  exact ⟨lv, e, q.mono le⟩
theorem RRst.wide {h x : Hp} {v : Value} {r : Rst} (q : RRst h v r) : RRst (join h x) v r := q.mono fun _ _ => join_left
theorem owSer_rd {L : List (Ser × Value)} {h : Hp} (o : Own owSer L h) : Rds rdSer h L := own_rd (g := rdSer) (fun a y hy => Buf.ro hy) (fun a y z g le => ROs.mono g le) o
theorem owItr_rd {L : List (Itr × Value)} {h : Hp} (o : Own owItr L h) : Rds rdItr h L := own_rd (g := rdItr) (fun a y hy => Buf.ro hy) (fun a y z g le => ROs.mono g le) o
theorem OMdl.ro {v : Value} {m : Mdl} {h : Hp} (o : OMdl v m h) : RMdl h v m := by
  obtain ⟨sv, iv, L, K, e, e1, e2, x1, y1, h1, ⟨x2, y2, h2, ⟨x3, y3, h3, ⟨x4, y4, h4, h5, d4, rfl⟩, d3, rfl⟩, d2, rfl⟩, d1, rfl⟩ := o
  have l4 : ∀ b o, x4 b = some o → join x1 (join x2 (join x3 (join x4 y4))) b = some o := fun b o hb => join_right d1 (join_right d2 (join_right d3 (join_left hb)))
  have l3 : ∀ b o, x3 b = some o → join x1 (join x2 (join x3 (join x4 y4))) b = some o := fun b o hb => join_right d1 (join_right d2 (join_left hb))
  have l2 : ∀ b o, x2 b = some o → join x1 (join x2 (join x3 (join x4 y4))) b = some o := fun b o hb => join_right d1 (join_left hb)
  exact ⟨sv, iv, L, K, e, e1, e2, (Buf.ro h1).mono fun _ _ => join_left, (Buf.ro h2).mono l2, fun a ha => ROs.mono (owSer_rd h3 a ha) l3, fun a ha => ROs.mono (owItr_rd h4 a ha) l4⟩
theorem ORst.ro {v : Value} {r : Rst} {h : Hp} (o : ORst v r h) : RRst h v r := by
  obtain ⟨lv, e, q⟩ := o
  exact ⟨lv, e, Buf.ro q⟩
def doSA (m : Mdl) (o : MOp) : Mdl × Rst := if o.kind = 1 then doA m o else doS m o
theorem ORst.shape {v : Value} {r : Rst} {h : Hp} (o : ORst v r h) : ∃ lv, v = .agg #[.int .i64 r.err, .int .i64 r.iter, lv] ∧ SL lv r.list.length := by
  obtain ⟨lv, e, q⟩ := o
  exact ⟨lv, e, q.sl (flat_len sm_len _) (by omega)⟩
end Go.Proofs.YtdpnpipninggeaaDoor

/- slices.Clone and slices.Clip of series, iterators, pages, samples: what they do. -/
set_option linter.unusedSimpArgs false
set_option linter.unusedVariables false
set_option maxRecDepth 20000
namespace Go.Proofs.YtdpnpipninggeaaDoor
open Go
attribute [local irreducible] W WL Fn Buf ROs SL eptr box Rd Src bndOK WD RB

theorem ros_isNil {ρ : Hp} {sz : Nat} {v : Value} {cs : List Value} (hv : ROs ρ sz v cs) (hn : isNil v = true) : cs = [] := by
  unfold ROs at hv
  rcases hv with ⟨_, h⟩ | ⟨a, rfl, h⟩ | ⟨b, off, m, c, buf, T, fr, rfl, _⟩
  · exact h
  · exact h
  · simp [isNil] at hn
theorem cloneM_c (ρ : Hp) (v : Value) (cs : List Value) (n : Nat) (hv : ROs ρ 2 v cs) (hl : cs.length = n * 2) (h1 : ∀ q ∈ cs, q.oneCell' = true) (hb : n ≤ 100000000000) :
    Fn Tryd.prog 18 #[v] ρ [] (fun r => Buf 2 r cs) := by
  refine in18 rfl rfl ?_
  have hs : SL v n := hv.sl hl (by omega)
  refine W.seq (W.region (WL.as rfl rfl (WL.nil (W.seq (W.seq (W.region (WL.mv rfl rfl ?_)))))))
  refine WL.eqN (T := Ty) rfl rfl (by assumption) rfl ?_
  refine WL.nil ?_
  refine W.cond rfl (fun hnil => ?_) (fun _ => ?_)
  · refine W.seq ?_
    refine W.region (WL.as rfl rfl (WL.nil (W.nb (sz := 2) ?_)))
    refine W.ret1 rfl rfl (fun h p => ?_)
    rw [ros_isNil hv hnil]
    exact sepl_one.1 p
  · refine W.skip ?_
    refine W.seq (W.region ?_)
    refine WL.bsC (T := Ty) rfl rfl rfl rfl rfl rfl rfl (by repeat' first | exact CO.nil | apply CO.one (by first | rfl | exact SL.one (by assumption)) | apply CO.agg) rfl (by repeat' constructor) (fun u0 hu0 => ?_)
    refine WL.mv rfl rfl ?_
    refine WL.ap (T := Ty) (i := 0) (n := 0) rfl rfl rfl rfl rfl rfl rfl rfl (by first | exact .ro (by assumption) | exact .ro (ROs.wide (by assumption)) | exact .eqJ 0 rfl (by assumption) | exact .own 0 rfl | exact .own 1 rfl | exact .own 2 rfl | exact .own 3 rfl | exact .own 4 rfl | exact .own 5 rfl) (by first | assumption | exact ROs.slm (by assumption)) rfl (by assumption) (by assumption) (by first | omega | (simp; omega) | (simp only [List.length_drop, List.length_take]; omega)) (by unfold maxLen; first | omega | (simp only [List.length_drop, List.length_take]; omega)) (fun v' => (by repeat' constructor)) (fun u1 hu1 => ?_)
    refine WL.as rfl rfl (WL.nil ?_)
    exact W.ret1 rfl rfl (fun h p => sepl_one.1 p)
theorem clipM_c (ρ : Hp) (v : Value) (cs : List Value) (n : Nat) (hl : cs.length = n * 2) :
    Fn Tryd.prog 17 #[v] ρ [Buf 2 v cs] (fun r => Buf 2 r cs) := by
  refine in17 rfl rfl ?_
  refine W.fact (i := 0) rfl (fun h hb => hb.sl hl (by omega)) fun hs => ?_
  refine W.seq (W.region (WL.as rfl rfl (WL.nil (W.seq (W.region (WL.mv rfl rfl (WL.mv rfl rfl ?_)))))))
  refine WL.len (T := Ty) rfl rfl (by assumption) rfl ?_
  refine WL.mv rfl rfl ?_
  refine WL.len (T := Ty) rfl rfl (by assumption) rfl ?_
  refine WL.clip (T := Ty) rfl rfl rfl rfl rfl rfl rfl (j := 0) rfl hl (fun u => by repeat' first | exact FL.nil | apply FL.cons) (fun u hu => ?_)
  refine WL.as rfl rfl (WL.nil ?_)
  exact W.ret1 rfl rfl (fun h p => sepl_one.1 p)
end Go.Proofs.YtdpnpipninggeaaDoor

/- modl: a model of its own memory. -/
set_option linter.unusedSimpArgs false
set_option linter.unusedVariables false
set_option maxRecDepth 20000
set_option maxHeartbeats 4000000
namespace Go.Proofs.YtdpnpipninggeaaDoor
open Go
attribute [local irreducible] W WL Fn Buf ROs SL eptr box Rd Src bndOK WD RB Reads In Own twoC
theorem ser_cells (L : List (Ser × Value)) : (L.flatMap serC).length = L.length * 5 := flat_len ser_len L
theorem itr_cells (L : List (Itr × Value)) : (L.flatMap itrC).length = L.length * 2 := flat_len itr_len L
theorem sms_cells (l : List Smp) : (l.flatMap smC).length = l.length * 2 := flat_len sm_len l
theorem OMdl.shape {v : Value} {m : Mdl} {h : Hp} (o : OMdl v m h) : ∃ sv iv, v = .agg #[sv, iv, .int .i64 m.next] ∧ SL sv m.ser.length ∧ SL iv m.its.length := by
 obtain ⟨sv, iv, L, K, e, e1, e2, x1, y1, h1, ⟨x2, y2, h2, _⟩, _⟩ := o
 exact ⟨sv, iv, e, h1.sl (by rw [ser_cells, ← e1, List.length_map]) (by omega), h2.sl (by rw [itr_cells, ← e2, List.length_map]) (by omega)⟩
end Go.Proofs.YtdpnpipninggeaaDoor

/- What is the same: rows of samples, as the program and the document's answer ask it. -/
set_option linter.unusedSimpArgs false
set_option linter.unusedVariables false
set_option maxRecDepth 20000
set_option maxHeartbeats 4000000
namespace Go.Proofs.YtdpnpipninggeaaDoor
open Go
attribute [local irreducible] W WL Fn Buf ROs SL eptr box Rd Src bndOK WD RB Reads In Own
theorem take_eq_succ {α : Type} {L M : List α} {i : Nat} {a : α} (h : L.take i = M.take i) (ha : L[i]? = some a) (hb : M[i]? = some a) : L.take (i + 1) = M.take (i + 1) := by
 rw [List.take_add_one, List.take_add_one, h, ha, hb]
theorem ne_of_get {α : Type} {L M : List α} {i : Nat} {a b : α} (ha : L[i]? = some a) (hb : M[i]? = some b) (h : a ≠ b) : L ≠ M := by
 intro e; subst e; rw [ha] at hb; exact h (Option.some.inj hb)
theorem smp_dec (q q' : Smp) : (decide (q.1 = q'.1) && (decide (q.2 = q'.2) && true)) = decide (q = q') := by
 rw [Bool.and_true, ← Bool.decide_and]
 exact decide_eq_decide.2 ⟨fun h => Prod.ext h.1 h.2, fun h => by subst h; exact ⟨rfl, rfl⟩⟩
theorem refM_c (ρ : Hp) (v v' : Value) (l l' : List Smp) (hv : ROs ρ 2 v (l.flatMap smC)) (hv' : ROs ρ 2 v' (l'.flatMap smC)) (hb : l.length ≤ 100000000) :
  Fn Tryd.prog 11 #[v, v'] ρ [] (Just (.bool (sameL l l'))) := by
 refine in11 rfl rfl ?_
 have sv : SL v l.length := hv.sl (sms_cells l) (by omega)
 have sv' : SL v' l'.length := hv'.sl (sms_cells l') (by omega)
 by_cases hl : l.length = l'.length
 ·refine W.seq ?_
  refine W.region (WL.as rfl rfl (WL.nil (W.seq (W.seq (W.region (WL.mv rfl rfl ?_))))))
  refine WL.len (T := Ty) rfl rfl (by assumption) rfl ?_
  refine WL.mv rfl rfl ?_
  refine WL.len (T := Ty) rfl rfl (by assumption) rfl ?_
  refine WL.neq rfl rfl rfl (WL.nil (W.condpF rfl (by omega) (W.skip (W.seq (W.seq (W.region (WL.as rfl rfl (WL.nil (W.block ?_)))))))))
  refine W.loopS (σ := Nat) (fun i => [(0, v), (1, v'), (5, .int .i64 (i : Int))]) (fun _ => []) (fun i => i ≤ l.length ∧ l.take i = l'.take i) (fun i => l.length - i) 0 ⟨rfl, rfl, rfl, trivial⟩ rfl ⟨Nat.zero_le _, rfl⟩ ?_
  intro i ⟨hi, ht⟩ next
  by_cases hc : i < l.length
  ·obtain ⟨q, hq⟩ : ∃ q, l[i]? = some q := ⟨_, List.getElem?_eq_getElem hc⟩
   obtain ⟨q', hq'⟩ : ∃ q, l'[i]? = some q := ⟨_, List.getElem?_eq_getElem (by omega)⟩
   have hr : ((l.flatMap smC).drop (((i : Nat) : Int).toNat * 2)).take 2 = [.int .i64 q.1, .int .u64 q.2] := flat_row sm_len hq
   have hr' : ((l'.flatMap smC).drop (((i : Nat) : Int).toNat * 2)).take 2 = [.int .i64 q'.1, .int .u64 q'.2] := flat_row sm_len hq'
   refine W.seq (W.seq (W.region (WL.mv rfl rfl (WL.mv rfl rfl ?_))))
   refine WL.len (T := Ty) rfl rfl (by assumption) rfl ?_
   refine WL.lss rfl rfl rfl (WL.nil (W.condpT rfl (by omega) (W.skip (W.seq (W.block (W.seq ?_))))))
   refine W.drawA 9 rfl (fun σ0 hσ0 dσ0 => ?_)
   refine WD.takeL 0 rfl (by decide +kernel) (WL.mv rfl rfl (WL.nilT (WD.takeL 1 rfl (by decide +kernel) (WL.mv rfl rfl (WL.nilT (WD.takeL 2 rfl (by decide +kernel) ?_))))))
   refine WL.ix (T := Ty) rfl rfl rfl (by assumption) rfl rfl (by omega) (by first | omega | decide +kernel) ?_
   refine WL.nilT (WD.takeL 3 rfl (by decide +kernel) ?_)
   refine WL.ldAR (T := Ty) rfl rfl rfl rfl (by first | assumption | exact ROs.wide (by assumption)) (by assumption) rfl ?_
   refine WL.nilT (WD.takeL 4 rfl (by decide +kernel) (WL.mv rfl rfl (WL.nilT (WD.takeL 5 rfl (by decide +kernel) (WL.mv rfl rfl (WL.nilT (WD.takeL 6 rfl (by decide +kernel) ?_)))))))
   refine WL.ix (T := Ty) rfl rfl rfl (by assumption) rfl rfl (by omega) (by first | omega | decide +kernel) ?_
   refine WL.nilT (WD.takeL 7 rfl (by decide +kernel) ?_)
   refine WL.ldAR (T := Ty) rfl rfl rfl rfl (by first | assumption | exact ROs.wide (by assumption)) (by assumption) rfl ?_
   refine WL.nilT (WD.takeL 8 rfl (by decide +kernel) ?_)
   refine WL.neF (T := Ty) rfl rfl rfl rfl (by repeat' first | exact FE.nil | apply FE.int (by decide) rfl rfl rfl rfl | apply FE.bool (by decide) rfl rfl rfl rfl | apply FE.sub (by decide) rfl (by kernel_rfl) rfl rfl) (by kernel_rfl) (by kernel_rfl) ?_
   refine WL.nilT ?_
   refine WD.doneF hσ0 (by decide +kernel) (by repeat' constructor) ?_
   rw [smp_dec]
   by_cases hqq : q = q'
   ·rw [decide_eq_true hqq]
    refine W.condF rfl (W.skip (W.inBlock (W.region (WL.mv rfl rfl (WL.addK rfl rfl rfl (wrap_i64 ⟨by omega, by omega⟩) (WL.as rfl rfl (WL.nil ?_)))))))
    refine W.sub ?_ (next (i + 1) ⟨by omega, take_eq_succ ht hq (hqq ▸ hq')⟩ (by omega))
    exact ⟨rfl, rfl, rfl, trivial⟩
   ·rw [decide_eq_false hqq]
    refine W.condT rfl (W.seq (W.region (WL.as rfl rfl (WL.nil ?_))))
    exact W.ret1 rfl rfl (fun h p => ⟨by rw [sameL, decide_eq_false (ne_of_get hq hq' hqq)], p⟩)
  ·have hll : l = l' := by rw [List.take_of_length_le (by omega), List.take_of_length_le (by omega)] at ht; exact ht
   refine W.seq (W.seq (W.region (WL.mv rfl rfl (WL.mv rfl rfl ?_))))
   refine WL.len (T := Ty) rfl rfl (by assumption) rfl ?_
   refine WL.lss rfl rfl rfl (WL.nil (W.condpF rfl (by omega) (W.exit rfl (W.seq (W.region (WL.as rfl rfl (WL.nil ?_)))))))
   exact W.ret1 rfl rfl (fun h p => ⟨by rw [sameL, decide_eq_true hll], p⟩)
 ·refine W.seq ?_
  refine W.region (WL.as rfl rfl (WL.nil (W.seq (W.seq (W.region (WL.mv rfl rfl ?_))))))
  refine WL.len (T := Ty) rfl rfl (by assumption) rfl ?_
  refine WL.mv rfl rfl ?_
  refine WL.len (T := Ty) rfl rfl (by assumption) rfl ?_
  refine WL.neq rfl rfl rfl (WL.nil (W.condpT rfl (by omega) (W.seq (W.region (WL.as rfl rfl (WL.nil ?_))))))
  exact W.ret1 rfl rfl (fun h p => ⟨by rw [sameL, decide_eq_false (fun e => hl (by rw [e]))], p⟩)
end Go.Proofs.YtdpnpipninggeaaDoor

/- Rows of samples, where it is known whether they are the same. -/
set_option linter.unusedSimpArgs false
set_option linter.unusedVariables false
set_option maxRecDepth 20000
set_option maxHeartbeats 4000000
namespace Go.Proofs.YtdpnpipninggeaaDoor
open Go
attribute [local irreducible] W WL Fn Buf ROs SL eptr box Rd Src bndOK WD RB Reads In Own sameL
theorem refM_e (ρ : Hp) (v v' : Value) (l l' : List Smp) (z : Bool) (hv : ROs ρ 2 v (l.flatMap smC)) (hv' : ROs ρ 2 v' (l'.flatMap smC)) (hb : l.length ≤ 100000000) (hz : sameL l l' = z) :
    Fn Tryd.prog 11 #[v, v'] ρ [] (Just (.bool z)) := Fn.val (congrArg Value.bool hz) (refM_c ρ v v' l l' hv hv' hb)
end Go.Proofs.YtdpnpipninggeaaDoor

/- A part is brought to the front. -/
set_option linter.unusedSimpArgs false
set_option linter.unusedVariables false
namespace Go.Proofs.YtdpnpipninggeaaDoor
open Go
theorem Sel.refl' : ∀ L : List HP, Sel L L
  | [] => .nil
  | p :: L => .cons 0 (by rw [nthH_eq]; rfl) (by simpa using Sel.refl' L)
section
variable {P : Program} {T : Tab P} {fn : Func} {ρ : Hp} {X : World → Hp → Act → World → Prop} {env : Env} {Hs : List HP} {ops : Array Oper} {l : List Oper}
theorem WL.bring (j : Nat) {p : HP} {H' : List HP} (hj : nthH Hs j = some p) (hF : FL (p :: Hs.eraseIdx j) H') (h : WL false P fn ρ X ops l env H') : WL false P fn ρ X ops l env Hs := by
  have := hF.eq
  subst this
  exact WL.fit (Sel.cons j hj (Sel.refl' _)) h
end
end Go.Proofs.YtdpnpipninggeaaDoor

/- Three results, of which the first stands in a variable of its own. -/
set_option linter.unusedSimpArgs false
set_option linter.unusedVariables false
namespace Go.Proofs.YtdpnpipninggeaaDoor
open Go
section
variable {P : Program} {T : Tab P} {fn : Func} {ρ : Hp} {Q : Value → HP} {k : List Item} {env : Env} {Hs : List HP}
theorem W.retC3 {t u s' : Tmp} {rt : TypeId} {b j : Nat} {c : List Value} {v x : Value} {Ty : TypeId} {ti : TyI} (hr : fn.results = #[.cell t rt, .tmp u, .tmp s']) (hv : look env t = some (.pointer (some ⟨b, 0, none⟩))) (hu : look env u = some v) (hs : look env s' = some x) (ht : T.tt rt = some ti) (h1 : oneCellT ti.desc = false)
    (hH : nthH Hs j = some (box b c Ty)) (hl : Nat.beq c.length ti.size = true) (h : ∀ h, sepl (Hs.eraseIdx j) h → Q (.tuple #[.agg c.toArray, v, x]) h) : W P fn ρ Q (.code .ret :: k) env Hs := by
  intro _ _ w hh a s p e
  obtain ⟨hld, z, hz, sz⟩ := cell_ret s p ht h1 hH hl
  refine .ret e.defers (v := .tuple #[.agg c.toArray, v, x]) ?_ ⟨_, _, rfl, sz, h _ hz⟩
  have g1 := e.at' t _ hv
  have g2 := e.at' u _ hu
  have g3 := e.at' s' _ hs
  simp [results, hr, g1, g2, g3, asAddr, hld]
end
end Go.Proofs.YtdpnpipninggeaaDoor
