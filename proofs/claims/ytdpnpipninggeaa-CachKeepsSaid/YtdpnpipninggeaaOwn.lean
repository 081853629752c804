/- Rows of parts: one part for each element of a list; and parts that are told anew. Over whatever program. -/
import Derived.Test.YtdpnpipninggeaaGrow
import Derived.Test.YtdpnpipninggeaaStc
set_option linter.unusedSimpArgs false
set_option linter.unusedVariables false
namespace Go.Proofs.Ytdpnpipninggeaa
open Go
def Own {α : Type} (f : α → HP) (L : List α) : HP := sepl (L.map f)
theorem erase_map {α β : Type} (f : α → β) : ∀ (L : List α) (i : Nat), (L.map f).eraseIdx i = (L.eraseIdx i).map f
  | [], _ => rfl
  | a :: L, 0 => rfl
  | a :: L, i + 1 => by simp [erase_map f L i]
theorem flat_take {α : Type} {f : α → List Value} {k : Nat} (hk : ∀ a, (f a).length = k) (L : List α) (i : Nat) : (L.flatMap f).take (i * k) = (L.take i).flatMap f := by
  rcases Nat.le_total i L.length with h | h
  · conv => lhs; rw [← List.take_append_drop i L, List.flatMap_append]
    rw [List.take_left' (by rw [flat_len hk, List.length_take, Nat.min_eq_left h])]
  · rw [List.take_of_length_le h, List.take_of_length_le (by rw [flat_len hk]; exact Nat.mul_le_mul_right _ h)]
theorem flat_drop {α : Type} {f : α → List Value} {k : Nat} (hk : ∀ a, (f a).length = k) (L : List α) (i : Nat) : (L.flatMap f).drop (i * k) = (L.drop i).flatMap f := by
  rcases Nat.le_total i L.length with h | h
  · conv => lhs; rw [← List.take_append_drop i L, List.flatMap_append]
    rw [List.drop_left' (by rw [flat_len hk, List.length_take, Nat.min_eq_left h])]
  · rw [List.drop_of_length_le h, List.drop_of_length_le (by rw [flat_len hk]; exact Nat.mul_le_mul_right _ h)]
    rfl
theorem flat_del {α : Type} {f : α → List Value} {k : Nat} (hk : ∀ a, (f a).length = k) (L : List α) (i j : Nat) : (L.flatMap f).take (i * k) ++ (L.flatMap f).drop (j * k) = (L.take i ++ L.drop j).flatMap f := by
  rw [flat_take hk, flat_drop hk, List.flatMap_append]
theorem own_out {α : Type} {f : α → HP} {L : List α} {i : Nat} {a : α} (h : L[i]? = some a) {x : Hp} (o : Own f L x) : sepl [f a, Own f (L.eraseIdx i)] x := by
  have hn : nthH (L.map f) i = some (f a) := by rw [nthH_eq, List.getElem?_map, h]; rfl
  have := sepl_perm (perm_out hn) o
  obtain ⟨y, z, hy, hz, d, rfl⟩ := this
  refine ⟨y, z, hy, sepl_one.2 ?_, d, rfl⟩
  unfold Own
  rw [erase_map] at hz
  exact hz
theorem own_mem {α : Type} {f : α → HP} {L : List α} {a : α} (h : a ∈ L) {x : Hp} (o : Own f L x) : ∃ y, f a y ∧ ∀ b o, y b = some o → x b = some o := by
  obtain ⟨i, hi⟩ := List.mem_iff_getElem?.1 h
  obtain ⟨y, z, hy, hz, d, rfl⟩ := own_out hi o
  exact ⟨y, hy, fun b o hb => join_left hb⟩
/-- what is owned may be read -/
def Rds {α : Type} (g : Hp → α → Prop) (h : Hp) (L : List α) : Prop := ∀ a ∈ L, g h a
theorem own_rd {α : Type} {f : α → HP} {g : Hp → α → Prop} (hg : ∀ a y, f a y → g y a) (hm : ∀ a y z, g y a → (∀ b o, y b = some o → z b = some o) → g z a) {L : List α} {x : Hp} (o : Own f L x) : Rds g x L := by
  intro a ha
  obtain ⟨y, hy, le⟩ := own_mem ha o
  exact hm a y x (hg a y hy) le
abbrev nilV : Value := .slice none 0 0
abbrev pt (b off : Nat) : Value := .pointer (some ⟨b, off, none⟩)
theorem slZ : SL nilV 0 := by unfold SL; exact .inl ⟨rfl, rfl⟩
/-- parts that are picked out of others; what is not picked goes -/
inductive Sel : List HP → List HP → Prop
  | nil {Hs : List HP} : Sel Hs []
  | cons {Hs Hs' : List HP} {p : HP} (j : Nat) (hj : nthH Hs j = some p) (h : Sel (Hs.eraseIdx j) Hs') : Sel Hs (p :: Hs')
inductive Pick (p : HP) : List HP → List HP → Prop
  | h {Hs : List HP} : Pick p (p :: Hs) Hs
  | t {q : HP} {Hs H0 : List HP} (h : Pick p Hs H0) : Pick p (q :: Hs) (q :: H0)
theorem Pick.ix {p : HP} {Hs H0 : List HP} (h : Pick p Hs H0) : ∃ j, nthH Hs j = some p ∧ Hs.eraseIdx j = H0 := by
  induction h with
  | h => exact ⟨0, rfl, rfl⟩
  | t _ ih =>
    obtain ⟨j, h1, h2⟩ := ih
    exact ⟨j + 1, h1, by rw [List.eraseIdx_cons_succ, h2]⟩
theorem Sel.k {p : HP} {Hs H0 Hs' : List HP} (h1 : Pick p Hs H0) (h2 : Sel H0 Hs') : Sel Hs (p :: Hs') := by
  obtain ⟨j, e1, e2⟩ := h1.ix
  subst e2
  exact Sel.cons j e1 h2
theorem Sel.sep {Hs Hs' : List HP} (h : Sel Hs Hs') : ∀ x, sepl Hs x → ∃ y z, sepl Hs' y ∧ Dj y z ∧ x = join y z := by
  induction h with
  | nil => exact fun x _ => ⟨nohp, x, emp_nohp, dj_nohp' _, (join_nohp' x).symm⟩
  | @cons Hs Hs' p j hj h ih =>
    intro x s
    obtain ⟨a, b, ha, hb, d, rfl⟩ := sepl_perm (perm_out hj) s
    obtain ⟨y, z, hy, d2, rfl⟩ := ih b hb
    have dd := dj_join_right.1 d
    exact ⟨join a y, z, ⟨a, y, ha, hy, dd.1, rfl⟩, dj_join_left.2 ⟨dd.2, d2⟩, (join_assoc _ _ _).symm⟩
/-- parts that are taken out of others, and what is left -/
inductive Take : List HP → List HP → List HP → Prop
  | nil {Hs : List HP} : Take Hs [] Hs
  | cons {Hs H1 H0 : List HP} {p : HP} (j : Nat) (hj : nthH Hs j = some p) (h : Take (Hs.eraseIdx j) H1 H0) : Take Hs (p :: H1) H0
theorem Take.sep {Hs H1 H0 : List HP} (h : Take Hs H1 H0) : ∀ x, sepl Hs x → sepl (H0 ++ H1) x := by
  have perm : Hs.Perm (H1 ++ H0) := by
    induction h with
    | nil => exact List.Perm.refl _
    | @cons Hs H1 H0 p j hj h ih => exact (perm_out hj).trans (List.Perm.cons p ih)
  exact fun x s => sepl_perm (perm.trans List.perm_append_comm) s
section
variable {P : Program} {T : Tab P} {fn : Func} {ρ σ : Hp} {Q : Value → HP} {k : List Item} {md : Bool} {X : World → Hp → Act → World → Prop} {env : Env} {Hs : List HP} {ops : Array Oper} {l : List Oper}
theorem parts_at {j : Nat} {p : HP} {ps Hs' : List HP} (hj : nthH Hs j = some p) (hp : ∀ h, p h → sepl ps h) (hF : FL (ps ++ Hs.eraseIdx j) Hs') : ∀ h, sepl Hs h → sepl Hs' h := by
  intro h s
  rw [← hF.eq]
  obtain ⟨y, z, hy, hz, d, rfl⟩ := sepl_perm (perm_out hj) s
  exact sepl_append.2 ⟨y, z, hp _ hy, hz, d, rfl⟩
/-- a part is told in parts, which stand ahead -/
theorem W.parts (j : Nat) {p : HP} {ps Hs' : List HP} (hj : nthH Hs j = some p) (hp : ∀ h, p h → sepl ps h) (hF : FL (ps ++ Hs.eraseIdx j) Hs') (h : W P fn ρ Q k env Hs') : W P fn ρ Q k env Hs :=
  .hs (parts_at hj hp hF) h
theorem WL.parts (j : Nat) {p : HP} {ps Hs' : List HP} (hj : nthH Hs j = some p) (hp : ∀ h, p h → sepl ps h) (hF : FL (ps ++ Hs.eraseIdx j) Hs') (h : WL false P fn ρ X ops l env Hs') : WL false P fn ρ X ops l env Hs :=
  .hs (parts_at hj hp hF) h
/-- parts are put in another order, or told anew -/
theorem W.two (p q : HP) {r : HP} {Hr : List HP} (h0 : Hs = p :: q :: Hr) (hp : ∀ h, sepl [p, q] h → r h) (h : W P fn ρ Q k env (r :: Hr)) : W P fn ρ Q k env Hs := by
  subst h0
  refine .hs (fun h s => ?_) h
  obtain ⟨y, z, hy, ⟨y2, z2, hy2, hz2, d2, rfl⟩, d, rfl⟩ := s
  have dd := dj_join_right.1 d
  exact ⟨join y y2, z2, hp _ ⟨y, y2, hy, sepl_one.2 hy2, dd.1, rfl⟩, hz2, dj_join_left.2 ⟨dd.2, d2⟩, (join_assoc _ _ _).symm⟩
theorem WL.two (p q : HP) {r : HP} {Hr : List HP} (h0 : Hs = p :: q :: Hr) (hp : ∀ h, sepl [p, q] h → r h) (h : WL false P fn ρ X ops l env (r :: Hr)) : WL false P fn ρ X ops l env Hs := by
  subst h0
  refine .hs (fun h s => ?_) h
  obtain ⟨y, z, hy, ⟨y2, z2, hy2, hz2, d2, rfl⟩, d, rfl⟩ := s
  have dd := dj_join_right.1 d
  exact ⟨join y y2, z2, hp _ ⟨y, y2, hy, sepl_one.2 hy2, dd.1, rfl⟩, hz2, dj_join_left.2 ⟨dd.2, d2⟩, (join_assoc _ _ _).symm⟩
theorem W.fit {Hs' : List HP} (hs : Sel Hs Hs') (h : W P fn ρ Q k env Hs') : W P fn ρ Q k env Hs := by
  intro w0 h0 w hh a s p e
  obtain ⟨y, z, hy, d, rfl⟩ := hs.sep _ p
  exact h w0 h0 w y a (by rw [join_comm d] at s; exact s.part d.symm) hy e
theorem WL.fit {Hs' : List HP} (hs : Sel Hs Hs') (h : WL false P fn ρ X ops l env Hs') : WL false P fn ρ X ops l env Hs := by
  intro w0 h0 w hh a s p e
  obtain ⟨y, z, hy, d, rfl⟩ := hs.sep _ p
  exact h w0 h0 w y a (by rw [join_comm d] at s; exact s.part d.symm) hy e
/-- one element more, of a struct's cells, which was just built -/
theorem WL.apS {d : Tmp} {ty : TypeId} {pos : String} {aft : Array Edge} {x y : Operand} {t E : TypeId} {v u : Value} {cs news : List Value} {i n : Nat} {eD : TypeDesc} {eS eB : Nat} {eZ : Value} {eC : Bool} {a b : Nat} {z : Value} {c : Bool} {Hr : List HP} {Hs' : Value → List HP} (hn : Nat.ble (d + 1) fn.ntmps = true)
    (hx : ev env x = some v) (hy : ev env y = some u) (ht : T.tt t = some ⟨.slice E, a, b, z, c⟩) (he : T.tt E = some ⟨eD, eS, eB, eZ, eC⟩) (hz : Nat.beq eZ.cells.toList.length eS = true) (h0 : Nat.ble 1 eS = true)
    (hs : Hs = Buf eS u news :: Hr) (hH : nthH Hr i = some (Buf eS v cs)) (hu : SL u 1) (hm : Nat.beq news.length eS = true) (hl : cs.length = n * eS) (h1 : AO news) (hb : (n + 1) * eB ≤ 140737488355328) (hM : n + 1 ≤ 140737488355328)
    (hF : ∀ v', FL (Hr.set i (Buf eS v' (cs ++ news))) (Hs' v'))
    (h : ∀ v', SL v' (n + 1) → WL false P fn ρ X ops l ((d, v') :: env) (Hs' v')) : WL false P fn ρ X ops (⟨some d, .call { callee := .builtin .append, args := #[x, y], argTypes := #[t, t] }, ty, pos, aft, none⟩ :: l) env Hs := by
  subst hs
  rw [nthH_eq] at hH
  refine WL.ap (T := T) (i := i + 1) (n := n) (m := 1) (news := news) (Hs' := fun v' => Buf eS u news :: Hr.set i (Buf eS v' (cs ++ news))) hn hx hy ht he hz h0 (by simpa using hH) (.own 0 (by simp)) hu hl (by rw [Nat.one_mul]; exact Nat.eq_of_beq_eq_true hm) h1.all hb (by unfold maxLen; omega) (fun v' => by simpa using FL.rfl _) (fun v' hv' => ?_)
  refine WL.drop 0 rfl (FL.rfl _) ?_
  simp only [List.eraseIdx_cons_zero]
  rw [(hF v').eq]
  exact h v' hv'
/-- a call that takes some parts, and gives a new one -/
theorem WL.callTk {d : Tmp} {ty : TypeId} {pos : String} {aft : Array Edge} {g : FuncId} {xs : List Operand} {ts : Array TypeId} {vs : List Value} {H0 H1 H2 : List HP} {q : Value → HP} (hT : Take Hs H1 H0) (hn : Nat.ble (d + 1) fn.ntmps = true)
    (hv : xs.mapM (ev env) = some vs) (hc : ∀ x, sepl H0 x → Dj ρ x → Fn P g vs.toArray (join ρ x) H1 q) (hF : FL H0 H2)
    (h : ∀ r, WL false P fn ρ X ops l ((d, r) :: env) (q r :: H2)) :
    WL false P fn ρ X ops (⟨some d, .call { callee := .value (.func g), args := xs.toArray, argTypes := ts }, ty, pos, aft, none⟩ :: l) env Hs := by
  have hF := hF.eq
  subst hF
  exact .callG (H0 := H0) (H1 := H1) hn hv hc hT.sep h
/-- cuts of a row of one width that is read -/
theorem WL.slDf {d : Tmp} {ty : TypeId} {pos : String} {aft : Array Edge} {α : Type} {f : α → List Value} {L : List α} {x y : Operand} {t E : TypeId} {v : Value} {k : Nat} {K : IntKind} {eD : TypeDesc} {eS eB : Nat} {eZ : Value} {eC : Bool} {a b : Nat} {z : Value} {c : Bool} (hn : Nat.ble (d + 1) fn.ntmps = true)
    (hx : ev env x = some v) (hy : ev env y = some (.int K ((k : Nat) : Int))) (ht : T.tt t = some ⟨.slice E, a, b, z, c⟩) (he : T.tt E = some ⟨eD, eS, eB, eZ, eC⟩) (h0 : Nat.ble 1 eS = true) (hR : ROs ρ eS v (L.flatMap f)) (hk : ∀ a, (f a).length = eS) (h2 : k ≤ L.length)
    (h : ∀ u, SL u (L.drop k).length → ROs ρ eS u ((L.drop k).flatMap f) → WL md P fn ρ X ops l ((d, u) :: env) Hs) :
    WL md P fn ρ X ops (⟨some d, .slice t x (some y) none none, ty, pos, aft, none⟩ :: l) env Hs :=
  .slR (T := T) (n := L.length) (lo := k) (hi := L.length) hn hx (.atN hy) .no ht he h0 hR (flat_len hk L) h2 (Nat.le_refl _) (fun u hu hr => h u (by simpa using hu) (by
    have e : ((L.flatMap f).drop (k * eS)).take ((L.length - k) * eS) = (L.drop k).flatMap f := by
      rw [flat_drop hk, List.take_of_length_le (by rw [flat_len hk, List.length_drop]; exact Nat.le_refl _)]
    rw [← e]; exact hr))
theorem WL.slTf {d : Tmp} {ty : TypeId} {pos : String} {aft : Array Edge} {α : Type} {f : α → List Value} {L : List α} {x y : Operand} {t E : TypeId} {v : Value} {k : Nat} {K : IntKind} {eD : TypeDesc} {eS eB : Nat} {eZ : Value} {eC : Bool} {a b : Nat} {z : Value} {c : Bool} (hn : Nat.ble (d + 1) fn.ntmps = true)
    (hx : ev env x = some v) (hy : ev env y = some (.int K ((k : Nat) : Int))) (ht : T.tt t = some ⟨.slice E, a, b, z, c⟩) (he : T.tt E = some ⟨eD, eS, eB, eZ, eC⟩) (h0 : Nat.ble 1 eS = true) (hR : ROs ρ eS v (L.flatMap f)) (hk : ∀ a, (f a).length = eS) (h2 : k ≤ L.length)
    (h : ∀ u, SL u (L.take k).length → ROs ρ eS u ((L.take k).flatMap f) → WL md P fn ρ X ops l ((d, u) :: env) Hs) :
    WL md P fn ρ X ops (⟨some d, .slice t x none (some y) none, ty, pos, aft, none⟩ :: l) env Hs :=
  .slR (T := T) (n := L.length) (lo := 0) (hi := k) hn hx .no (.atN hy) ht he h0 hR (flat_len hk L) (Nat.zero_le _) h2 (fun u hu hr => h u (by simpa [Nat.min_eq_left h2] using hu) (by
    have e : ((L.flatMap f).drop (0 * eS)).take ((k - 0) * eS) = (L.take k).flatMap f := by rw [Nat.zero_mul, List.drop_zero, Nat.sub_zero, flat_take hk]
    rw [← e]; exact hr))
/-- a part of which something is told that is not named yet -/
theorem W.opens {α : Type} (j : Nat) {p : HP} {φ : α → Prop} {ps : α → List HP} {Hr : List HP} (hj : nthH Hs j = some p) (hp : ∀ h, p h → ∃ x, φ x ∧ sepl (ps x) h) (hF : FL (Hs.eraseIdx j) Hr) (h : ∀ x, φ x → W P fn ρ Q k env (ps x ++ Hr)) : W P fn ρ Q k env Hs := by
  intro w0 h0 w hh a s q e
  rw [← hF.eq] at h
  obtain ⟨y, z, hy, hz, d, rfl⟩ := sepl_perm (perm_out hj) q
  obtain ⟨x, hx, hps⟩ := hp _ hy
  exact h x hx w0 h0 w _ a s (sepl_append.2 ⟨y, z, hps, hz, d, rfl⟩) e
theorem WL.opens {α : Type} (j : Nat) {p : HP} {φ : α → Prop} {ps : α → List HP} {Hr : List HP} (hj : nthH Hs j = some p) (hp : ∀ h, p h → ∃ x, φ x ∧ sepl (ps x) h) (hF : FL (Hs.eraseIdx j) Hr) (h : ∀ x, φ x → WL false P fn ρ X ops l env (ps x ++ Hr)) : WL false P fn ρ X ops l env Hs := by
  intro w0 h0 w hh a s q e
  rw [← hF.eq] at h
  obtain ⟨y, z, hy, hz, d, rfl⟩ := sepl_perm (perm_out hj) q
  obtain ⟨x, hx, hps⟩ := hp _ hy
  exact h x hx w0 h0 w _ a s (sepl_append.2 ⟨y, z, hps, hz, d, rfl⟩) e
/-- a whole struct of a slice that is owned and written out -/
theorem WL.ldAEF {d : Tmp} {ty : TypeId} {pos : String} {aft : Array Edge} {x : Operand} {t : TypeId} {i j sz : Nat} {u : Value} {cs vs : List Value} {ti : TyI} (hn : Nat.ble (d + 1) fn.ntmps = true) (hx : ev env x = some (eptr u i))
    (ht : T.tt t = some ti) (h1 : oneCellT ti.desc = false) (hH : nthH Hs j = some (Buf sz u cs)) (hF : FL ((cs.drop i).take ti.size) vs) (hl : vs.length = ti.size)
    (h : WL false P fn ρ X ops l ((d, .agg vs.toArray) :: env) Hs) : WL false P fn ρ X ops (⟨some d, .load t x, ty, pos, aft, none⟩ :: l) env Hs :=
  .ldAE (T := T) hn hx ht h1 (by rw [← nthH_eq]; exact hH) hF.eq hl h
/-- what a call gave, in two parts, stays one's own -/
theorem WL.nilSS {n fuel : Nat} {listed : Array Bool} {p q : HP} {H2 : List HP} (h : WD P fn ρ σ X ops n fuel listed env (p :: q :: H2)) : WL false P fn ρ (opX P ρ σ X ops n fuel listed) ops [] env (p :: q :: eqh σ :: H2) :=
  .nilO (H2 := p :: q :: H2) (fun _ z => sep_left_comm (sep_mono (fun _ y => y) (fun _ y => sep_left_comm y) z)) h
end
end Go.Proofs.Ytdpnpipninggeaa
