/- Maps whose keys are structs of two numbers: what is made, looked up, set. Over whatever program. -/
import Derived.Test.YtbebhmdjnneimaaStEq
import Derived.Test.YtbebhmdjnneimaaMaps
import Derived.MapKept
import Derived.WideKeyRuns
set_option linter.unusedSimpArgs false
set_option linter.unusedVariables false
namespace Go.Proofs.Ytbebhmdjnneimaa
open Go
abbrev PK := Int × Int
def pkV (K : IntKind) (a : PK) : Value := .agg #[.int K a.1, .int K a.2]
/-- what stands under a key -/
def pget : List (PK × Value) → PK → Option Value
  | [], _ => none
  | p :: l, k => if k = p.1 then some p.2 else pget l k
def pset : List (PK × Value) → PK → Value → List (PK × Value)
  | [], k, v => [(k, v)]
  | p :: l, k, v => if k = p.1 then (k, v) :: l else p :: pset l k v
def pfind : List (PK × Value) → PK → Nat → Option (Nat × Value)
  | [], _, _ => none
  | p :: l, k, i => if k = p.1 then some (i, p.2) else pfind l k (i + 1)
theorem pfind_get : ∀ (l : List (PK × Value)) (k : PK) (i : Nat), (pfind l k i).map (·.2) = pget l k
  | [], _, _ => rfl
  | p :: l, k, i => by
    unfold pfind pget
    split
    · rfl
    · exact pfind_get l k (i + 1)
theorem pset_none : ∀ (l : List (PK × Value)) (k : PK) (v : Value), pget l k = none → pset l k v = l ++ [(k, v)]
  | [], _, _, _ => rfl
  | p :: l, k, v, h => by
    unfold pget at h
    split at h
    · cases h
    · rename_i hn
      rw [pset, if_neg hn, pset_none l k v h]; rfl
theorem pget_snoc : ∀ (l : List (PK × Value)) (k : PK) (v : Value) (q : PK), pget (l ++ [(k, v)]) q = match pget l q with | some x => some x | none => if q = k then some v else none
  | [], k, v, q => by simp [pget]
  | p :: l, k, v, q => by
    rw [List.cons_append, pget, pget]
    split
    · rfl
    · exact pget_snoc l k v q
/-- a map's entries -/
def PV (K : IntKind) (l : List (PK × Value)) (es : List MapEntry) : Prop := es.map (fun e => (e.key, e.val)) = l.map (fun p => (pkV K p.1, p.2))
theorem pv_cons {K : IntKind} {p : PK × Value} {l : List (PK × Value)} {es : List MapEntry} (h : PV K (p :: l) es) : ∃ e es', es = e :: es' ∧ e.key = pkV K p.1 ∧ e.val = p.2 ∧ PV K l es' := by
  unfold PV at h
  cases es with
  | nil => cases h
  | cons e es' =>
    simp only [List.map_cons, List.cons.injEq, Prod.mk.injEq] at h
    exact ⟨e, es', rfl, h.1.1, h.1.2, h.2⟩
theorem pv_nil {K : IntKind} {es : List MapEntry} (h : PV K [] es) : es = [] := by
  unfold PV at h
  simpa using h
theorem pfind_ge : ∀ (l : List (PK × Value)) (k : PK) (i j : Nat) (v : Value), pfind l k i = some (j, v) → i ≤ j
  | [], _, _, _, _, h => by cases h
  | p :: l, k, i, j, v, h => by
    unfold pfind at h
    split at h
    · have := congrArg Prod.fst (Option.some.inj h); simp only [] at this; omega
    · have := pfind_ge l k (i + 1) j v h; omega
theorem pv_set (K : IntKind) (k : PK) (v : Value) : ∀ (l : List (PK × Value)) (es : List MapEntry) (i j : Nat) (u : Value), PV K l es → pfind l k i = some (j, u) →
    PV K (pset l k v) (es.modify (j - i) fun e => { e with key := pkV K k, val := v }) ∧ ∃ e, es[j - i]? = some e ∧ e.key = pkV K k
  | [], es, i, j, u, h, hf => by cases hf
  | p :: l, es, i, j, u, h, hf => by
    obtain ⟨e, es', rfl, hk, hv, h'⟩ := pv_cons h
    unfold pfind at hf
    split at hf
    · rename_i hp
      have hj := congrArg Prod.fst (Option.some.inj hf)
      simp only [] at hj
      subst hj
      rw [pset, if_pos hp, Nat.sub_self]
      refine ⟨?_, e, rfl, by rw [hk, hp]⟩
      unfold PV at h' ⊢
      simp [h']
    · rename_i hp
      have hge := pfind_ge _ _ _ _ _ hf
      obtain ⟨h1, e2, h2, h3⟩ := pv_set K k v l es' (i + 1) j u h' hf
      rw [pset, if_neg hp, show j - i = (j - (i + 1)) + 1 by omega]
      refine ⟨?_, e2, by simpa using h2, h3⟩
      unfold PV at h1 ⊢
      simp [h1, hk, hv]
/-- a map: its entries, in the order in which they came -/
def Pm (K : IntKind) (b : Nat) (l : List (PK × Value)) : HP := fun h => ∃ es clock, PV K l es.toList ∧ pts b (.map es clock) h
theorem In.pm {ρ : Hp} {K : IntKind} {b : Nat} {l : List (PK × Value)} (h : In ρ (Pm K b l)) : ∃ es clock, PV K l es.toList ∧ ρ b = some (.map es clock) := by
  obtain ⟨x, ⟨es, clock, hk, hp⟩, hx⟩ := h
  exact ⟨es, clock, hk, hx _ _ hp.1⟩
section
variable {P : Program} {T : Tab P} {fn : Func} {ρ σ : Hp} {Q : Value → HP} {k : List Item} {md : Bool} {X : World → Hp → Act → World → Prop} {env : Env} {Hs : List HP} {ops : Array Oper} {l : List Oper}
variable {d : Tmp} {ty : TypeId} {pos : String} {aft : Array Edge} {n fuel : Nat} {listed : Array Bool}
/-- a type of keys: a struct of two numbers of one kind -/
structure PkT (T : Tab P) (kt : TypeId) (K : IntKind) (f0 f1 : Field) : Prop where
  tt : ∃ s1 s2 z c, T.tt kt = some ⟨.struct #[f0, f1], s1, s2, z, c⟩
  n0 : f0.name ≠ "_"
  n1 : f1.name ≠ "_"
  o0 : f0.offset = 0
  o1 : f1.offset = 1
  t0 : ∃ q, T.tt f0.type = some q ∧ q.desc = .int K
  t1 : ∃ q, T.tt f1.type = some q ∧ q.desc = .int K
  hs : P.stoodInHeld kt = false
theorem PkT.und {kt : TypeId} {K : IntKind} {f0 f1 : Field} (h : PkT T kt K f0 f1) : P.underlying kt = some (.struct #[f0, f1]) := by
  obtain ⟨s1, s2, z, c, ht⟩ := h.tt
  exact T.und ht
theorem PkT.eq {kt : TypeId} {K : IntKind} {f0 f1 : Field} (h : PkT T kt K f0 f1) (a b : PK) (w : World) : (Op.equal kt (pkV K a) (pkV K b)).run P w = .ok (decide (a = b)) w := by
  have hu := h.und
  have hfs : P.fieldsOf kt = #[f0, f1] := by simp [Program.fieldsOf, hu]
  obtain ⟨q0, t0, d0⟩ := h.t0
  obtain ⟨q1, t1, d1⟩ := h.t1
  have hF := FE.int (n := 0) (cs := [.int K a.1, .int K a.2]) (cs' := [.int K b.1, .int K b.2]) h.n0 t0 d0 (by rw [h.o0]; rfl) (by rw [h.o0]; rfl) (FE.int h.n1 t1 d1 (by rw [h.o1]; rfl) (by rw [h.o1]; rfl) FE.nil)
  have hst := run_equalIn_struct (P := P) (w := w) 9999 kt #[.int K a.1, .int K a.2] #[.int K b.1, .int K b.2] (by rw [hfs]; exact hu) h.hs
  rw [hfs] at hst
  have hr := hst.trans (hF.run 9999 (by omega) w)
  have e : (decide (a = b)) = (decide (a.1 = b.1) && (decide (a.2 = b.2) && true)) := by
    obtain ⟨a1, a2⟩ := a
    obtain ⟨b1, b2⟩ := b
    simp [Prod.mk.injEq]
  rw [e]
  exact hr
theorem PkT.check {kt : TypeId} {K : IntKind} {f0 f1 : Field} (h : PkT T kt K f0 f1) (a : PK) (em : Bool) (w : World) : (Instr.checkKey em 10000 kt (pkV K a)).run P w = .ok () w := by
  have hu := h.und
  obtain ⟨q0, t0, d0⟩ := h.t0
  obtain ⟨q1, t1, d1⟩ := h.t1
  have u0 := T.und t0
  have u1 := T.und t1
  rw [d0] at u0
  rw [d1] at u1
  have k0 : P.plainKey f0.type = true := by simp [Program.plainKey, u0]
  have k1 : P.plainKey f1.type = true := by simp [Program.plainKey, u1]
  have p0 := run_part_plain w k0 (xs := #[Value.int K a.1, Value.int K a.2]) (off := f0.offset) (v := .int K a.1) (by rw [h.o0]; rfl)
  have p1 := run_part_plain w k1 (xs := #[Value.int K a.1, Value.int K a.2]) (off := f1.offset) (v := .int K a.2) (by rw [h.o1]; rfl)
  have c0' : ∀ n, (Instr.checkKey em (n + 1) f0.type (.int K a.1)).run P w = .ok () w := fun n => by simp [Instr.checkKey, run_underlying u0]
  have c1' : ∀ n, (Instr.checkKey em (n + 1) f1.type (.int K a.2)).run P w = .ok () w := fun n => by simp [Instr.checkKey, run_underlying u1]
  have c0 := c0' 9998
  have c1 := c1' 9998
  have n0 := h.n0
  have n1 := h.n1
  unfold pkV
  rw [Instr.checkKey]
  simp [run_underlying hu, n0, n1, p0, p1, c0, c1, Result.andThen]
theorem PkT.ask {kt : TypeId} {K : IntKind} {f0 f1 : Field} (h : PkT T kt K f0 f1) (k : PK) (w : World) : ∀ (l : List (PK × Value)) (es : List MapEntry) (i : Nat), PV K l es → (Instr.findAsking kt (pkV K k) es i).run P w = .ok (pfind l k i) w
  | [], es, i, hv => by rw [pv_nil hv]; simp [Instr.findAsking, pfind]
  | p :: l, es, i, hv => by
    obtain ⟨e, es', rfl, hk, hv', h'⟩ := pv_cons hv
    have he := h.eq k p.1 w
    rw [Instr.findAsking, hk, pfind]
    by_cases hp : k = p.1
    · rw [if_pos hp]
      simp [he, decide_eq_true hp, hv', Result.andThen]
    · rw [if_neg hp]
      simp [he, decide_eq_false hp, Result.andThen, h.ask k w l es' (i + 1) h']
theorem PkT.find {kt : TypeId} {K : IntKind} {f0 f1 : Field} (h : PkT T kt K f0 f1) (k : PK) (w : World) {l : List (PK × Value)} {es : List MapEntry} (hv : PV K l es) : (Instr.findKey kt (pkV K k) es).run P w = .ok (pfind l k 0) w := by
  rw [run_findKey_eq w (by rw [h.und])]
  exact h.ask k w l es 0 hv
theorem WL.mkPm (K : IntKind) {t : TypeId} (hn : Nat.ble (d + 1) fn.ntmps = true)
    (h : ∀ b, WL false P fn ρ X ops l ((d, .map (some b)) :: env) (Pm K b [] :: Hs)) : WL false P fn ρ X ops (⟨some d, .makeMap t none, ty, pos, aft, none⟩ :: l) env Hs :=
  .turns (ok := fun v Hs' => ∃ b, v = .map (some b) ∧ Hs' = Pm K b [] :: Hs) rfl rfl hn (fun f w0 h0 w hh s p e => by
    have hb := s.new (.map #[] 0)
    refine ⟨_, _, _, Pm K w.heap.size [] :: Hs, ?_, hb.2, ⟨one w.heap.size (.map #[] 0), hh, ⟨#[], 0, rfl, pts_one _ _⟩, p, hb.1, rfl⟩, w.heap.size, rfl, rfl⟩
    simp [execOp, mkMap_run]) (fun v Hs' ⟨b, hv, hH⟩ => by subst hv; subst hH; exact h b)
theorem plook_run {w : World} {t kt et : TypeId} {K : IntKind} {b : Nat} {kvs : List (PK × Value)} {es : Array MapEntry} {clock : Nat} {q : PK} {ok : Bool} {f0 f1 : Field} {ei : TyI} {s1 s2 : Nat} {z : Value} {c : Bool}
    (ht : T.tt t = some ⟨.map kt et, s1, s2, z, c⟩) (hk : PkT T kt K f0 f1) (he : T.tt et = some ei) (hb : w.heap[b]? = some (.map es clock)) (hkv : PV K kvs es.toList) :
    (Instr.lookup t (.map (some b)) (pkV K q) ok).run P w = .ok (lookV ei.zero (pget kvs q) ok) w := by
  have hu := T.und ht
  have hf := hk.find q w hkv
  have hck := fun em => hk.check q em w
  have hz := T.runZ he (w := w)
  have hg := pfind_get kvs q 0
  cases hl : pfind kvs q 0 with
  | none =>
    rw [hl] at hf hg
    have hg' : pget kvs q = none := hg.symm
    rw [hg']
    cases ok <;> simp [Instr.lookup, run_underlying hu, MapKept.run_getObj_map hb, hck, hf, hz, Result.andThen, lookV]
  | some r =>
    rw [hl] at hf hg
    have hg' : pget kvs q = some r.2 := hg.symm
    rw [hg']
    cases ok <;> simp [Instr.lookup, run_underlying hu, MapKept.run_getObj_map hb, hck, hf, Result.andThen, lookV]
/-- a map that is read is looked into -/
theorem WL.luPR {x y : Operand} {t kt et : TypeId} {K : IntKind} {b : Nat} {kvs : List (PK × Value)} {q : PK} {ok : Bool} {f0 f1 : Field} {ei : TyI} {s1 s2 : Nat} {z : Value} {c : Bool} {v : Value} (hn : Nat.ble (d + 1) fn.ntmps = true)
    (hx : ev env x = some (.map (some b))) (hy : ev env y = some (pkV K q)) (ht : T.tt t = some ⟨.map kt et, s1, s2, z, c⟩) (hk : PkT T kt K f0 f1) (he : T.tt et = some ei)
    (hR : In ρ (Pm K b kvs)) (hv : lookV ei.zero (pget kvs q) ok = v)
    (h : WL md P fn ρ X ops l ((d, v) :: env) Hs) : WL md P fn ρ X ops (⟨some d, .lookup t x y ok, ty, pos, aft, none⟩ :: l) env Hs :=
  .rdR rfl rfl hn (fun f w hr e => by
    obtain ⟨es, clock, hkv, hb⟩ := hR.pm
    subst hv
    simp only [execOp, e _ _ hx, e _ _ hy]
    simp [plook_run (T := T) ht hk he (hr b _ hb) hkv]) h
/-- a map that is owned is looked into -/
theorem WL.luPO {x y : Operand} {t kt et : TypeId} {K : IntKind} {b j : Nat} {kvs : List (PK × Value)} {q : PK} {ok : Bool} {f0 f1 : Field} {ei : TyI} {s1 s2 : Nat} {z : Value} {c : Bool} {v : Value} (hn : Nat.ble (d + 1) fn.ntmps = true)
    (hx : ev env x = some (.map (some b))) (hy : ev env y = some (pkV K q)) (ht : T.tt t = some ⟨.map kt et, s1, s2, z, c⟩) (hk : PkT T kt K f0 f1) (he : T.tt et = some ei)
    (hH : nthH Hs j = some (Pm K b kvs)) (hv : lookV ei.zero (pget kvs q) ok = v)
    (h : WL false P fn ρ X ops l ((d, v) :: env) Hs) : WL false P fn ρ X ops (⟨some d, .lookup t x y ok, ty, pos, aft, none⟩ :: l) env Hs :=
  .rd rfl rfl hn (fun f w h ho hr p e => by
    have hH' : Hs[j]? = some (Pm K b kvs) := by rw [← nthH_eq]; exact hH
    obtain ⟨a, r, ⟨es, clock, hkv, hp⟩, dd, rfl, _⟩ := sepl_at hH' p
    subst hv
    simp only [execOp, e _ _ hx, e _ _ hy]
    simp [plook_run (T := T) ht hk he (ho b _ (join_left hp.1)) hkv]) h
/-- a map is set at a key -/
theorem WL.muPO {m x y : Operand} {t kt et : TypeId} {K : IntKind} {b j : Nat} {kvs kvs' : List (PK × Value)} {q : PK} {u : Value} {f0 f1 : Field} {s1 s2 : Nat} {z : Value} {c : Bool} {Hs' : List HP}
    (hm : ev env m = some (.map (some b))) (hx : ev env x = some (pkV K q)) (hy : ev env y = some u) (ht : T.tt t = some ⟨.map kt et, s1, s2, z, c⟩) (hk : PkT T kt K f0 f1)
    (hH : nthH Hs j = some (Pm K b kvs)) (hs : pset kvs q u = kvs') (hF : FL (Hs.set j (Pm K b kvs')) Hs')
    (h : WL false P fn ρ X ops l env Hs') : WL false P fn ρ X ops (⟨none, .mapUpdate t m x y, ty, pos, aft, none⟩ :: l) env Hs :=
  .does rfl rfl (fun f w0 h0 w hh s p e => by
    have hF := hF.eq
    subst hF hs
    have hH' : Hs[j]? = some (Pm K b kvs) := by rw [← nthH_eq]; exact hH
    obtain ⟨a, r, ⟨es, clock, hkv, hp⟩, dd, rfl, _, hset⟩ := sepl_at hH' p
    have ea := pts_eq hp
    subst ea
    have hw : w.heap[b]? = some (.map es clock) := s.own b _ (join_left (by simp [one]))
    have hu := T.und ht
    have hf := hk.find q w hkv
    have hck := fun em => hk.check q em w
    have hlt := (Array.getElem?_eq_some_iff.1 hw).1
    have main : ∀ o : Obj, Dj (one b o) r ∧ St ρ w0 h0 { w with heap := w.heap.setIfInBounds b o } (join (one b o) r) := by
      intro o
      refine s.change dd ?_ ?_ ?_ (by simp) rfl rfl rfl
      · intro n hn
        left
        by_cases e : n = b
        · subst e; simp [one]
        · simp [one, e] at hn
      · intro n x hx
        by_cases e : n = b
        · subst e
          simp [one] at hx
          subst hx
          simp [hlt]
        · simp [one, e] at hx
      · intro n _ hn
        have : n ≠ b := by intro e; subst e; simp [one] at hn
        simp [Array.getElem?_setIfInBounds, Ne.symm this]
    have hg := pfind_get kvs q 0
    cases hl : pfind kvs q 0 with
    | none =>
      rw [hl] at hf hg
      have hg' : pget kvs q = none := hg.symm
      have hm' := main (.map (es.push { key := pkV K q, val := u, born := clock }) (clock + 1))
      refine ⟨_, _, ?_, hm'.2, hset _ _ ⟨es.push { key := pkV K q, val := u, born := clock }, clock + 1, ?_, pts_one _ _⟩ hm'.1⟩
      · simp only [execOp, e _ _ hm, e _ _ hx, e _ _ hy]
        simp [Instr.mapUpdate, run_underlying hu, MapKept.run_getObj_map hw, hck, hf, MapKept.run_setObj_map _ hw, Result.andThen]
      · rw [pset_none _ _ _ hg']
        unfold PV at hkv ⊢
        simp [hkv]
    | some i =>
      rw [hl] at hf
      obtain ⟨i, v0⟩ := i
      obtain ⟨h1, e2, h2, h3⟩ := pv_set K q u kvs es.toList 0 i v0 hkv hl
      rw [Nat.sub_zero] at h1 h2
      have hsb : Instr.sameBits 10000 (pkV K q) (pkV K q) = true := by simp [pkV, Instr.sameBits]
      have hm' := main (.map (es.modify i fun e => { e with key := pkV K q, val := u }) clock)
      refine ⟨_, _, ?_, hm'.2, hset _ _ ⟨es.modify i fun e => { e with key := pkV K q, val := u }, clock, ?_, pts_one _ _⟩ hm'.1⟩
      · have h2' : es[i]? = some e2 := by simpa using h2
        simp only [execOp, e _ _ hm, e _ _ hx, e _ _ hy]
        simp [Instr.mapUpdate, run_underlying hu, MapKept.run_getObj_map hw, hck, hf, h2', h3, Instr.keyThatStays, hsb, MapKept.run_setObj_map _ hw, Result.andThen]
      · rw [Array.toList_modify]
        exact h1) h
end
end Go.Proofs.Ytbebhmdjnneimaa
