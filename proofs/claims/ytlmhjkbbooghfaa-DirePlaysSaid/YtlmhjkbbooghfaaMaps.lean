/- Maps whose keys are whole numbers: what is made, looked up, set. Over whatever program. -/
import Derived.Test.YtlmhjkbbooghfaaStc
import Derived.MapKept
set_option linter.unusedSimpArgs false
set_option linter.unusedVariables false
namespace Go.Proofs.Ytlmhjkbbooghfaa
open Go
/-- what stands under a key -/
def kget : List (Int × Value) → Int → Option Value
  | [], _ => none
  | p :: l, k => if k = p.1 then some p.2 else kget l k
def kset : List (Int × Value) → Int → Value → List (Int × Value)
  | [], k, v => [(k, v)]
  | p :: l, k, v => if k = p.1 then (k, v) :: l else p :: kset l k v
def lfind : List (Int × Value) → Int → Nat → Option (Nat × Value)
  | [], _, _ => none
  | p :: l, k, i => if k = p.1 then some (i, p.2) else lfind l k (i + 1)
theorem lfind_get : ∀ (l : List (Int × Value)) (k : Int) (i : Nat), (lfind l k i).map (·.2) = kget l k
  | [], _, _ => rfl
  | p :: l, k, i => by
    unfold lfind kget
    split
    · rfl
    · exact lfind_get l k (i + 1)
theorem kset_none : ∀ (l : List (Int × Value)) (k : Int) (v : Value), kget l k = none → kset l k v = l ++ [(k, v)]
  | [], _, _, _ => rfl
  | p :: l, k, v, h => by
    unfold kget at h
    split at h
    · cases h
    · rename_i hn
      rw [kset, if_neg hn, kset_none l k v h]; rfl
theorem kget_snoc : ∀ (l : List (Int × Value)) (k : Int) (v : Value) (q : Int), kget (l ++ [(k, v)]) q = match kget l q with | some x => some x | none => if q = k then some v else none
  | [], k, v, q => by simp [kget]
  | p :: l, k, v, q => by
    rw [List.cons_append, kget, kget]
    split
    · rfl
    · exact kget_snoc l k v q
/-- a map's entries -/
def KV (K : IntKind) (l : List (Int × Value)) (es : List MapEntry) : Prop := es.map (fun e => (e.key, e.val)) = l.map (fun p => (Value.int K p.1, p.2))
theorem kv_cons {K : IntKind} {p : Int × Value} {l : List (Int × Value)} {es : List MapEntry} (h : KV K (p :: l) es) : ∃ e es', es = e :: es' ∧ e.key = .int K p.1 ∧ e.val = p.2 ∧ KV K l es' := by
  unfold KV at h
  cases es with
  | nil => cases h
  | cons e es' =>
    simp only [List.map_cons, List.cons.injEq, Prod.mk.injEq] at h
    exact ⟨e, es', rfl, h.1.1, h.1.2, h.2⟩
theorem kv_nil {K : IntKind} {es : List MapEntry} (h : KV K [] es) : es = [] := by
  unfold KV at h
  simpa using h
theorem find_int (K K' : IntKind) (k : Int) : ∀ (l : List (Int × Value)) (es : List MapEntry) (i : Nat), KV K l es → Instr.findNow (.int K') (.int K k) es i = some (lfind l k i)
  | [], es, i, h => by rw [kv_nil h]; rfl
  | p :: l, es, i, h => by
    obtain ⟨e, es', rfl, hk, hv, h'⟩ := kv_cons h
    rw [Instr.findNow, hk, Instr.sameNow, if_pos rfl, lfind]
    by_cases hp : k = p.1
    · rw [if_pos hp]
      have : (k == p.1) = true := by simp [hp]
      rw [this, hv]
    · rw [if_neg hp]
      have : (k == p.1) = false := by simp [hp]
      rw [this]
      exact find_int K K' k l es' (i + 1) h'
theorem lfind_ge : ∀ (l : List (Int × Value)) (k : Int) (i j : Nat) (v : Value), lfind l k i = some (j, v) → i ≤ j
  | [], _, _, _, _, h => by cases h
  | p :: l, k, i, j, v, h => by
    unfold lfind at h
    split at h
    · have := congrArg Prod.fst (Option.some.inj h); simp only [] at this; omega
    · have := lfind_ge l k (i + 1) j v h; omega
theorem kv_set (K : IntKind) (k : Int) (v : Value) : ∀ (l : List (Int × Value)) (es : List MapEntry) (i j : Nat) (u : Value), KV K l es → lfind l k i = some (j, u) →
    KV K (kset l k v) (es.modify (j - i) fun e => { e with key := .int K k, val := v }) ∧ ∃ e, es[j - i]? = some e ∧ e.key = .int K k
  | [], es, i, j, u, h, hf => by cases hf
  | p :: l, es, i, j, u, h, hf => by
    obtain ⟨e, es', rfl, hk, hv, h'⟩ := kv_cons h
    unfold lfind at hf
    split at hf
    · rename_i hp
      have hj := congrArg Prod.fst (Option.some.inj hf)
      simp only [] at hj
      subst hj
      rw [kset, if_pos hp, Nat.sub_self]
      refine ⟨?_, e, rfl, by rw [hk, hp]⟩
      unfold KV at h' ⊢
      simp [h']
    · rename_i hp
      have hge := lfind_ge _ _ _ _ _ hf
      obtain ⟨h1, e2, h2, h3⟩ := kv_set K k v l es' (i + 1) j u h' hf
      rw [kset, if_neg hp, show j - i = (j - (i + 1)) + 1 by omega]
      refine ⟨?_, e2, by simpa using h2, h3⟩
      unfold KV at h1 ⊢
      simp [h1, hk, hv]
/-- a map: its entries, in the order in which they came -/
def Mp (K : IntKind) (b : Nat) (l : List (Int × Value)) : HP := fun h => ∃ es clock, KV K l es.toList ∧ pts b (.map es clock) h
theorem In.mp {ρ : Hp} {K : IntKind} {b : Nat} {l : List (Int × Value)} (h : In ρ (Mp K b l)) : ∃ es clock, KV K l es.toList ∧ ρ b = some (.map es clock) := by
  obtain ⟨x, ⟨es, clock, hk, hp⟩, hx⟩ := h
  exact ⟨es, clock, hk, hx _ _ hp.1⟩
section
variable {P : Program} {T : Tab P} {fn : Func} {ρ σ : Hp} {Q : Value → HP} {k : List Item} {md : Bool} {X : World → Hp → Act → World → Prop} {env : Env} {Hs : List HP} {ops : Array Oper} {l : List Oper}
variable {d : Tmp} {ty : TypeId} {pos : String} {aft : Array Edge} {n fuel : Nat} {listed : Array Bool}
theorem mkMap_run (t : TypeId) (w : World) : (Instr.makeMap t none).run P w = .ok (.map (some w.heap.size)) (w.alloc (.map #[] 0)) := rfl
theorem checkKey_one {w : World} {kt : TypeId} {K : IntKind} {q : Int} (hu : P.underlying kt = some (.int K)) (em : Bool) (n : Nat) : (Instr.checkKey em (n + 1) kt (.int K q)).run P w = .ok () w := by
  simp [Instr.checkKey, run_underlying hu]
theorem checkKey_int {w : World} {kt : TypeId} {K : IntKind} {q : Int} (hu : P.underlying kt = some (.int K)) (em : Bool) : (Instr.checkKey em 10000 kt (.int K q)).run P w = .ok () w := checkKey_one hu em 9999
theorem WL.mkMap (K : IntKind) {t : TypeId} (hn : Nat.ble (d + 1) fn.ntmps = true)
    (h : ∀ b, WL false P fn ρ X ops l ((d, .map (some b)) :: env) (Mp K b [] :: Hs)) : WL false P fn ρ X ops (⟨some d, .makeMap t none, ty, pos, aft, none⟩ :: l) env Hs :=
  .turns (ok := fun v Hs' => ∃ b, v = .map (some b) ∧ Hs' = Mp K b [] :: Hs) rfl rfl hn (fun f w0 h0 w hh s p e => by
    have hb := s.new (.map #[] 0)
    refine ⟨_, _, _, Mp K w.heap.size [] :: Hs, ?_, hb.2, ⟨one w.heap.size (.map #[] 0), hh, ⟨#[], 0, rfl, pts_one _ _⟩, p, hb.1, rfl⟩, w.heap.size, rfl, rfl⟩
    simp [execOp, mkMap_run]) (fun v Hs' ⟨b, hv, hH⟩ => by subst hv; subst hH; exact h b)
/-- what a look-up gives -/
def lookV (z : Value) (o : Option Value) (commaOk : Bool) : Value := if commaOk then .tuple #[o.getD z, .bool o.isSome] else o.getD z
theorem look_run {w : World} {t kt et : TypeId} {K : IntKind} {b : Nat} {kvs : List (Int × Value)} {es : Array MapEntry} {clock : Nat} {q : Int} {ok : Bool} {ki ei : TyI} {s1 s2 : Nat} {z : Value} {c : Bool}
    (ht : T.tt t = some ⟨.map kt et, s1, s2, z, c⟩) (hk : T.tt kt = some ki) (hK : ki.desc = .int K) (he : T.tt et = some ei) (hb : w.heap[b]? = some (.map es clock)) (hkv : KV K kvs es.toList) :
    (Instr.lookup t (.map (some b)) (.int K q) ok).run P w = .ok (lookV ei.zero (kget kvs q) ok) w := by
  have hu := T.und ht
  have huk := T.und hk
  rw [hK] at huk
  have hf := MapKept.run_findKey (w := w) huk (find_int K K q kvs es.toList 0 hkv)
  have hz := T.runZ he (w := w)
  have hg := lfind_get kvs q 0
  cases hl : lfind kvs q 0 with
  | none =>
    rw [hl] at hf hg
    have hg' : kget kvs q = none := hg.symm
    rw [hg']
    cases ok <;> simp [Instr.lookup, run_underlying hu, MapKept.run_getObj_map hb, checkKey_int huk, hf, hz, Result.andThen, lookV]
  | some r =>
    rw [hl] at hf hg
    have hg' : kget kvs q = some r.2 := hg.symm
    rw [hg']
    cases ok <;> simp [Instr.lookup, run_underlying hu, MapKept.run_getObj_map hb, checkKey_int huk, hf, Result.andThen, lookV]
/-- a map that is read is looked into -/
theorem WL.luR {x y : Operand} {t kt et : TypeId} {K : IntKind} {b : Nat} {kvs : List (Int × Value)} {q : Int} {ok : Bool} {ki ei : TyI} {s1 s2 : Nat} {z : Value} {c : Bool} {v : Value} (hn : Nat.ble (d + 1) fn.ntmps = true)
    (hx : ev env x = some (.map (some b))) (hy : ev env y = some (.int K q)) (ht : T.tt t = some ⟨.map kt et, s1, s2, z, c⟩) (hk : T.tt kt = some ki) (hK : ki.desc = .int K) (he : T.tt et = some ei)
    (hR : In ρ (Mp K b kvs)) (hv : lookV ei.zero (kget kvs q) ok = v)
    (h : WL md P fn ρ X ops l ((d, v) :: env) Hs) : WL md P fn ρ X ops (⟨some d, .lookup t x y ok, ty, pos, aft, none⟩ :: l) env Hs :=
  .rdR rfl rfl hn (fun f w hr e => by
    obtain ⟨es, clock, hkv, hb⟩ := hR.mp
    subst hv
    simp only [execOp, e _ _ hx, e _ _ hy]
    simp [look_run (T := T) ht hk hK he (hr b _ hb) hkv]) h
/-- a map that is owned is looked into -/
theorem WL.luO {x y : Operand} {t kt et : TypeId} {K : IntKind} {b j : Nat} {kvs : List (Int × Value)} {q : Int} {ok : Bool} {ki ei : TyI} {s1 s2 : Nat} {z : Value} {c : Bool} {v : Value} (hn : Nat.ble (d + 1) fn.ntmps = true)
    (hx : ev env x = some (.map (some b))) (hy : ev env y = some (.int K q)) (ht : T.tt t = some ⟨.map kt et, s1, s2, z, c⟩) (hk : T.tt kt = some ki) (hK : ki.desc = .int K) (he : T.tt et = some ei)
    (hH : nthH Hs j = some (Mp K b kvs)) (hv : lookV ei.zero (kget kvs q) ok = v)
    (h : WL false P fn ρ X ops l ((d, v) :: env) Hs) : WL false P fn ρ X ops (⟨some d, .lookup t x y ok, ty, pos, aft, none⟩ :: l) env Hs :=
  .rd rfl rfl hn (fun f w h ho hr p e => by
    have hH' : Hs[j]? = some (Mp K b kvs) := by rw [← nthH_eq]; exact hH
    obtain ⟨a, r, ⟨es, clock, hkv, hp⟩, dd, rfl, _⟩ := sepl_at hH' p
    subst hv
    simp only [execOp, e _ _ hx, e _ _ hy]
    simp [look_run (T := T) ht hk hK he (ho b _ (join_left hp.1)) hkv]) h
/-- a map is set at a key -/
theorem WL.muO {m x y : Operand} {t kt et : TypeId} {K : IntKind} {b j : Nat} {kvs kvs' : List (Int × Value)} {q : Int} {u : Value} {ki : TyI} {s1 s2 : Nat} {z : Value} {c : Bool} {Hs' : List HP}
    (hm : ev env m = some (.map (some b))) (hx : ev env x = some (.int K q)) (hy : ev env y = some u) (ht : T.tt t = some ⟨.map kt et, s1, s2, z, c⟩) (hk : T.tt kt = some ki) (hK : ki.desc = .int K)
    (hH : nthH Hs j = some (Mp K b kvs)) (hs : kset kvs q u = kvs') (hF : FL (Hs.set j (Mp K b kvs')) Hs')
    (h : WL false P fn ρ X ops l env Hs') : WL false P fn ρ X ops (⟨none, .mapUpdate t m x y, ty, pos, aft, none⟩ :: l) env Hs :=
  .does rfl rfl (fun f w0 h0 w hh s p e => by
    have hF := hF.eq
    subst hF hs
    have hH' : Hs[j]? = some (Mp K b kvs) := by rw [← nthH_eq]; exact hH
    obtain ⟨a, r, ⟨es, clock, hkv, hp⟩, dd, rfl, _, hset⟩ := sepl_at hH' p
    have ea := pts_eq hp
    subst ea
    have hw : w.heap[b]? = some (.map es clock) := s.own b _ (join_left (by simp [one]))
    have hu := T.und ht
    have huk := T.und hk
    rw [hK] at huk
    have hf := MapKept.run_findKey (w := w) huk (find_int K K q kvs es.toList 0 hkv)
    have hlt := (Array.getElem?_eq_some_iff.1 hw).1
    have main : ∀ o : Obj, Dj (one b o) r ∧ St ρ w0 h0 { w with heap := w.heap.setIfInBounds b o } (join (one b o) r) := by
      intro o
      refine s.change dd ?_ ?_ ?_ (by simp) rfl rfl rfl
      · intro n hn
        left
        by_cases e : n = b
        · subst e; simp [one]
        · simp [one, e] at hn
      · intro n x hx
        by_cases e : n = b
        · subst e
          simp [one] at hx
          subst hx
          simp [hlt]
        · simp [one, e] at hx
      · intro n _ hn
        have : n ≠ b := by intro e; subst e; simp [one] at hn
        simp [Array.getElem?_setIfInBounds, Ne.symm this]
    have hg := lfind_get kvs q 0
    cases hl : lfind kvs q 0 with
    | none =>
      rw [hl] at hf hg
      have hg' : kget kvs q = none := hg.symm
      have hm' := main (.map (es.push { key := .int K q, val := u, born := clock }) (clock + 1))
      refine ⟨_, _, ?_, hm'.2, hset _ _ ⟨es.push { key := .int K q, val := u, born := clock }, clock + 1, ?_, pts_one _ _⟩ hm'.1⟩
      · simp only [execOp, e _ _ hm, e _ _ hx, e _ _ hy]
        simp [Instr.mapUpdate, run_underlying hu, MapKept.run_getObj_map hw, checkKey_int huk, hf, MapKept.run_setObj_map _ hw, Result.andThen]
      · rw [kset_none _ _ _ hg']
        unfold KV at hkv ⊢
        simp [hkv]
    | some i =>
      rw [hl] at hf
      obtain ⟨i, v0⟩ := i
      obtain ⟨h1, e2, h2, h3⟩ := kv_set K q u kvs es.toList 0 i v0 hkv hl
      rw [Nat.sub_zero] at h1 h2
      have hm' := main (.map (es.modify i fun e => { e with key := .int K q, val := u }) clock)
      refine ⟨_, _, ?_, hm'.2, hset _ _ ⟨es.modify i fun e => { e with key := .int K q, val := u }, clock, ?_, pts_one _ _⟩ hm'.1⟩
      · have h2' : es[i]? = some e2 := by simpa using h2
        simp only [execOp, e _ _ hm, e _ _ hx, e _ _ hy]
        simp [Instr.mapUpdate, run_underlying hu, MapKept.run_getObj_map hw, checkKey_int huk, hf, h2', h3, Instr.keyThatStays, Instr.sameBits, MapKept.run_setObj_map _ hw, Result.andThen]
      · rw [Array.toList_modify]
        exact h1) h
end
end Go.Proofs.Ytlmhjkbbooghfaa
