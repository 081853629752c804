/- Maps whose keys are whole numbers: what is made, looked up, set. Over whatever program. -/
import Derived.Test.YtdpnpipninggeaaStc
import Derived.MapKept
import Derived.Test.YtdpnpipninggeaaStEq
import Derived.Test.YtdpnpipninggeaaClkLaw
import Derived.WideKeyRuns
set_option linter.unusedSimpArgs false
set_option linter.unusedVariables false
namespace Go.Proofs.Ytdpnpipninggeaa
open Go
/-- what stands under a key -/
def kget : List (Int × Value) → Int → Option Value
  | [], _ => none
  | p :: l, k => if k = p.1 then some p.2 else kget l k
def kset : List (Int × Value) → Int → Value → List (Int × Value)
  | [], k, v => [(k, v)]
  | p :: l, k, v => if k = p.1 then (k, v) :: l else p :: kset l k v
def lfind : List (Int × Value) → Int → Nat → Option (Nat × Value)
  | [], _, _ => none
  | p :: l, k, i => if k = p.1 then some (i, p.2) else lfind l k (i + 1)
theorem lfind_get : ∀ (l : List (Int × Value)) (k : Int) (i : Nat), (lfind l k i).map (·.2) = kget l k
  | [], _, _ => rfl
  | p :: l, k, i => by
    unfold lfind kget
    split
    · rfl
    · exact lfind_get l k (i + 1)
theorem kset_none : ∀ (l : List (Int × Value)) (k : Int) (v : Value), kget l k = none → kset l k v = l ++ [(k, v)]
  | [], _, _, _ => rfl
  | p :: l, k, v, h => by
    unfold kget at h
    split at h
    · cases h
    · rename_i hn
      rw [kset, if_neg hn, kset_none l k v h]; rfl
/-- a map's entries -/
def KV (K : IntKind) (l : List (Int × Value)) (es : List MapEntry) : Prop := es.map (fun e => (e.key, e.val)) = l.map (fun p => (Value.int K p.1, p.2))
theorem kv_cons {K : IntKind} {p : Int × Value} {l : List (Int × Value)} {es : List MapEntry} (h : KV K (p :: l) es) : ∃ e es', es = e :: es' ∧ e.key = .int K p.1 ∧ e.val = p.2 ∧ KV K l es' := by
  unfold KV at h
  cases es with
  | nil => cases h
  | cons e es' =>
    simp only [List.map_cons, List.cons.injEq, Prod.mk.injEq] at h
    exact ⟨e, es', rfl, h.1.1, h.1.2, h.2⟩
theorem kv_nil {K : IntKind} {es : List MapEntry} (h : KV K [] es) : es = [] := by
  unfold KV at h
  simpa using h
theorem find_int (K K' : IntKind) (k : Int) : ∀ (l : List (Int × Value)) (es : List MapEntry) (i : Nat), KV K l es → Instr.findNow (.int K') (.int K k) es i = some (lfind l k i)
  | [], es, i, h => by rw [kv_nil h]; rfl
  | p :: l, es, i, h => by
    obtain ⟨e, es', rfl, hk, hv, h'⟩ := kv_cons h
    rw [Instr.findNow, hk, Instr.sameNow, if_pos rfl, lfind]
    by_cases hp : k = p.1
    · rw [if_pos hp]
      have : (k == p.1) = true := by simp [hp]
      rw [this, hv]
    · rw [if_neg hp]
      have : (k == p.1) = false := by simp [hp]
      rw [this]
      exact find_int K K' k l es' (i + 1) h'
theorem lfind_ge : ∀ (l : List (Int × Value)) (k : Int) (i j : Nat) (v : Value), lfind l k i = some (j, v) → i ≤ j
  | [], _, _, _, _, h => by cases h
  | p :: l, k, i, j, v, h => by
    unfold lfind at h
    split at h
    · have := congrArg Prod.fst (Option.some.inj h); simp only [] at this; omega
    · have := lfind_ge l k (i + 1) j v h; omega
theorem kv_set (K : IntKind) (k : Int) (v : Value) : ∀ (l : List (Int × Value)) (es : List MapEntry) (i j : Nat) (u : Value), KV K l es → lfind l k i = some (j, u) →
    KV K (kset l k v) (es.modify (j - i) fun e => { e with key := .int K k, val := v }) ∧ ∃ e, es[j - i]? = some e ∧ e.key = .int K k
  | [], es, i, j, u, h, hf => by cases hf
  | p :: l, es, i, j, u, h, hf => by
    obtain ⟨e, es', rfl, hk, hv, h'⟩ := kv_cons h
    unfold lfind at hf
    split at hf
    · rename_i hp
      have hj := congrArg Prod.fst (Option.some.inj hf)
      simp only [] at hj
      subst hj
      rw [kset, if_pos hp, Nat.sub_self]
      refine ⟨?_, e, rfl, by rw [hk, hp]⟩
      unfold KV at h' ⊢
      simp [h']
    · rename_i hp
      have hge := lfind_ge _ _ _ _ _ hf
      obtain ⟨h1, e2, h2, h3⟩ := kv_set K k v l es' (i + 1) j u h' hf
      rw [kset, if_neg hp, show j - i = (j - (i + 1)) + 1 by omega]
      refine ⟨?_, e2, by simpa using h2, h3⟩
      unfold KV at h1 ⊢
      simp [h1, hk, hv]
/-- a map: its entries, in the order in which they came -/
def Mp (K : IntKind) (b : Nat) (l : List (Int × Value)) : HP := fun h => ∃ es clock, KV K l es.toList ∧ pts b (.map es clock) h
theorem In.mp {ρ : Hp} {K : IntKind} {b : Nat} {l : List (Int × Value)} (h : In ρ (Mp K b l)) : ∃ es clock, KV K l es.toList ∧ ρ b = some (.map es clock) := by
  obtain ⟨x, ⟨es, clock, hk, hp⟩, hx⟩ := h
  exact ⟨es, clock, hk, hx _ _ hp.1⟩
section
variable {P : Program} {T : Tab P} {fn : Func} {ρ σ : Hp} {Q : Value → HP} {k : List Item} {md : Bool} {X : World → Hp → Act → World → Prop} {env : Env} {Hs : List HP} {ops : Array Oper} {l : List Oper}
variable {d : Tmp} {ty : TypeId} {pos : String} {aft : Array Edge} {n fuel : Nat} {listed : Array Bool}
theorem mkMap_run (t : TypeId) (w : World) : (Instr.makeMap t none).run P w = .ok (.map (some w.heap.size)) (w.alloc (.map #[] 0)) := rfl
theorem checkKey_one {w : World} {kt : TypeId} {K : IntKind} {q : Int} (hu : P.underlying kt = some (.int K)) (em : Bool) (n : Nat) : (Instr.checkKey em (n + 1) kt (.int K q)).run P w = .ok () w := by
  simp [Instr.checkKey, run_underlying hu]
theorem checkKey_int {w : World} {kt : TypeId} {K : IntKind} {q : Int} (hu : P.underlying kt = some (.int K)) (em : Bool) : (Instr.checkKey em 10000 kt (.int K q)).run P w = .ok () w := checkKey_one hu em 9999
/-- what a look-up gives -/
def lookV (z : Value) (o : Option Value) (commaOk : Bool) : Value := if commaOk then .tuple #[o.getD z, .bool o.isSome] else o.getD z
theorem look_run {w : World} {t kt et : TypeId} {K : IntKind} {b : Nat} {kvs : List (Int × Value)} {es : Array MapEntry} {clock : Nat} {q : Int} {ok : Bool} {ki ei : TyI} {s1 s2 : Nat} {z : Value} {c : Bool}
    (ht : T.tt t = some ⟨.map kt et, s1, s2, z, c⟩) (hk : T.tt kt = some ki) (hK : ki.desc = .int K) (he : T.tt et = some ei) (hb : w.heap[b]? = some (.map es clock)) (hkv : KV K kvs es.toList) :
    (Instr.lookup t (.map (some b)) (.int K q) ok).run P w = .ok (lookV ei.zero (kget kvs q) ok) w := by
  have hu := T.und ht
  have huk := T.und hk
  rw [hK] at huk
  have hf := MapKept.run_findKey (w := w) huk (find_int K K q kvs es.toList 0 hkv)
  have hz := T.runZ he (w := w)
  have hg := lfind_get kvs q 0
  cases hl : lfind kvs q 0 with
  | none =>
    rw [hl] at hf hg
    have hg' : kget kvs q = none := hg.symm
    rw [hg']
    cases ok <;> simp [Instr.lookup, run_underlying hu, MapKept.run_getObj_map hb, checkKey_int huk, hf, hz, Result.andThen, lookV]
  | some r =>
    rw [hl] at hf hg
    have hg' : kget kvs q = some r.2 := hg.symm
    rw [hg']
    cases ok <;> simp [Instr.lookup, run_underlying hu, MapKept.run_getObj_map hb, checkKey_int huk, hf, Result.andThen, lookV]
/-- a map that is read is looked into -/
theorem WL.luR {x y : Operand} {t kt et : TypeId} {K : IntKind} {b : Nat} {kvs : List (Int × Value)} {q : Int} {ok : Bool} {ki ei : TyI} {s1 s2 : Nat} {z : Value} {c : Bool} {v : Value} (hn : Nat.ble (d + 1) fn.ntmps = true)
    (hx : ev env x = some (.map (some b))) (hy : ev env y = some (.int K q)) (ht : T.tt t = some ⟨.map kt et, s1, s2, z, c⟩) (hk : T.tt kt = some ki) (hK : ki.desc = .int K) (he : T.tt et = some ei)
    (hR : In ρ (Mp K b kvs)) (hv : lookV ei.zero (kget kvs q) ok = v)
    (h : WL md P fn ρ X ops l ((d, v) :: env) Hs) : WL md P fn ρ X ops (⟨some d, .lookup t x y ok, ty, pos, aft, none⟩ :: l) env Hs :=
  .rdR rfl rfl hn (fun f w hr e => by
    obtain ⟨es, clock, hkv, hb⟩ := hR.mp
    subst hv
    simp only [execOp, e _ _ hx, e _ _ hy]
    simp [look_run (T := T) ht hk hK he (hr b _ hb) hkv]) h
/-- a map that is owned is looked into -/
theorem WL.luO {x y : Operand} {t kt et : TypeId} {K : IntKind} {b j : Nat} {kvs : List (Int × Value)} {q : Int} {ok : Bool} {ki ei : TyI} {s1 s2 : Nat} {z : Value} {c : Bool} {v : Value} (hn : Nat.ble (d + 1) fn.ntmps = true)
    (hx : ev env x = some (.map (some b))) (hy : ev env y = some (.int K q)) (ht : T.tt t = some ⟨.map kt et, s1, s2, z, c⟩) (hk : T.tt kt = some ki) (hK : ki.desc = .int K) (he : T.tt et = some ei)
    (hH : nthH Hs j = some (Mp K b kvs)) (hv : lookV ei.zero (kget kvs q) ok = v)
    (h : WL false P fn ρ X ops l ((d, v) :: env) Hs) : WL false P fn ρ X ops (⟨some d, .lookup t x y ok, ty, pos, aft, none⟩ :: l) env Hs :=
  .rd rfl rfl hn (fun f w h ho hr p e => by
    have hH' : Hs[j]? = some (Mp K b kvs) := by rw [← nthH_eq]; exact hH
    obtain ⟨a, r, ⟨es, clock, hkv, hp⟩, dd, rfl, _⟩ := sepl_at hH' p
    subst hv
    simp only [execOp, e _ _ hx, e _ _ hy]
    simp [look_run (T := T) ht hk hK he (ho b _ (join_left hp.1)) hkv]) h
/-- a map is set at a key -/
theorem WL.muO {m x y : Operand} {t kt et : TypeId} {K : IntKind} {b j : Nat} {kvs kvs' : List (Int × Value)} {q : Int} {u : Value} {ki : TyI} {s1 s2 : Nat} {z : Value} {c : Bool} {Hs' : List HP}
    (hm : ev env m = some (.map (some b))) (hx : ev env x = some (.int K q)) (hy : ev env y = some u) (ht : T.tt t = some ⟨.map kt et, s1, s2, z, c⟩) (hk : T.tt kt = some ki) (hK : ki.desc = .int K)
    (hH : nthH Hs j = some (Mp K b kvs)) (hs : kset kvs q u = kvs') (hF : FL (Hs.set j (Mp K b kvs')) Hs')
    (h : WL false P fn ρ X ops l env Hs') : WL false P fn ρ X ops (⟨none, .mapUpdate t m x y, ty, pos, aft, none⟩ :: l) env Hs :=
  .does rfl rfl (fun f w0 h0 w hh s p e => by
    have hF := hF.eq
    subst hF hs
    have hH' : Hs[j]? = some (Mp K b kvs) := by rw [← nthH_eq]; exact hH
    obtain ⟨a, r, ⟨es, clock, hkv, hp⟩, dd, rfl, _, hset⟩ := sepl_at hH' p
    have ea := pts_eq hp
    subst ea
    have hw : w.heap[b]? = some (.map es clock) := s.own b _ (join_left (by simp [one]))
    have hu := T.und ht
    have huk := T.und hk
    rw [hK] at huk
    have hf := MapKept.run_findKey (w := w) huk (find_int K K q kvs es.toList 0 hkv)
    have hlt := (Array.getElem?_eq_some_iff.1 hw).1
    have main : ∀ o : Obj, Dj (one b o) r ∧ St ρ w0 h0 { w with heap := w.heap.setIfInBounds b o } (join (one b o) r) := by
      intro o
      refine s.change dd ?_ ?_ ?_ (by simp) rfl rfl rfl
      · intro n hn
        left
        by_cases e : n = b
        · subst e; simp [one]
        · simp [one, e] at hn
      · intro n x hx
        by_cases e : n = b
        · subst e
          simp [one] at hx
          subst hx
          simp [hlt]
        · simp [one, e] at hx
      · intro n _ hn
        have : n ≠ b := by intro e; subst e; simp [one] at hn
        simp [Array.getElem?_setIfInBounds, Ne.symm this]
    have hg := lfind_get kvs q 0
    cases hl : lfind kvs q 0 with
    | none =>
      rw [hl] at hf hg
      have hg' : kget kvs q = none := hg.symm
      have hm' := main (.map (es.push { key := .int K q, val := u, born := clock }) (clock + 1))
      refine ⟨_, _, ?_, hm'.2, hset _ _ ⟨es.push { key := .int K q, val := u, born := clock }, clock + 1, ?_, pts_one _ _⟩ hm'.1⟩
      · simp only [execOp, e _ _ hm, e _ _ hx, e _ _ hy]
        simp [Instr.mapUpdate, run_underlying hu, MapKept.run_getObj_map hw, checkKey_int huk, hf, MapKept.run_setObj_map _ hw, Result.andThen]
      · rw [kset_none _ _ _ hg']
        unfold KV at hkv ⊢
        simp [hkv]
    | some i =>
      rw [hl] at hf
      obtain ⟨i, v0⟩ := i
      obtain ⟨h1, e2, h2, h3⟩ := kv_set K q u kvs es.toList 0 i v0 hkv hl
      rw [Nat.sub_zero] at h1 h2
      have hm' := main (.map (es.modify i fun e => { e with key := .int K q, val := u }) clock)
      refine ⟨_, _, ?_, hm'.2, hset _ _ ⟨es.modify i fun e => { e with key := .int K q, val := u }, clock, ?_, pts_one _ _⟩ hm'.1⟩
      · have h2' : es[i]? = some e2 := by simpa using h2
        simp only [execOp, e _ _ hm, e _ _ hx, e _ _ hy]
        simp [Instr.mapUpdate, run_underlying hu, MapKept.run_getObj_map hw, checkKey_int huk, hf, h2', h3, Instr.keyThatStays, Instr.sameBits, MapKept.run_setObj_map _ hw, Result.andThen]
      · rw [Array.toList_modify]
        exact h1) h
end
end Go.Proofs.Ytdpnpipninggeaa
/- Maps whose keys are whole numbers: what is deleted. Over whatever program. -/
set_option linter.unusedSimpArgs false
set_option linter.unusedVariables false
namespace Go.Proofs.Ytdpnpipninggeaa
open Go
def kdel : List (Int × Value) → Int → List (Int × Value)
  | [], _ => []
  | p :: l, k => if k = p.1 then l else p :: kdel l k
theorem kv_del (K : IntKind) (k : Int) : ∀ (l : List (Int × Value)) (es : List MapEntry) (i j : Nat) (u : Value), KV K l es → lfind l k i = some (j, u) → KV K (kdel l k) (es.eraseIdx (j - i)) ∧ j - i < es.length
  | [], es, i, j, u, h, hf => by cases hf
  | p :: l, es, i, j, u, h, hf => by
    obtain ⟨e, es', rfl, hk, hv, h'⟩ := kv_cons h
    unfold lfind at hf
    split at hf
    · rename_i hp
      have hj := congrArg Prod.fst (Option.some.inj hf)
      simp only [] at hj
      subst hj
      rw [kdel, if_pos hp, Nat.sub_self]
      exact ⟨h', by simp⟩
    · rename_i hp
      have hge := lfind_ge _ _ _ _ _ hf
      obtain ⟨h1, h2⟩ := kv_del K k l es' (i + 1) j u h' hf
      rw [kdel, if_neg hp, show j - i = (j - (i + 1)) + 1 by omega]
      refine ⟨?_, by simp only [List.length_cons]; omega⟩
      unfold KV at h1 ⊢
      simp [h1, hk, hv]
theorem kdel_none : ∀ (l : List (Int × Value)) (k : Int), kget l k = none → kdel l k = l
  | [], _, _ => rfl
  | p :: l, k, h => by
    unfold kget at h
    split at h
    · cases h
    · rename_i hn
      rw [kdel, if_neg hn, kdel_none l k h]
section
variable {P : Program} {T : Tab P} {fn : Func} {ρ σ : Hp} {Q : Value → HP} {k : List Item} {md : Bool} {X : World → Hp → Act → World → Prop} {env : Env} {Hs : List HP} {ops : Array Oper} {l : List Oper}
variable {d : Tmp} {ty : TypeId} {pos : String} {aft : Array Edge} {n fuel : Nat} {listed : Array Bool}
theorem WL.doesV {o : Oper} {Hs' : List HP} {v : Value} (hg : o.guard = none) (hd : o.dst = none)
    (hr : ∀ (f : Operand → Value) w0 h0 w h, St ρ w0 h0 w h → sepl Hs h → (∀ x v, ev env x = some v → f x = v) → ∃ w' h', (execOp f o).run P w = .ok (.value v) w' ∧ St ρ w0 h0 w' h' ∧ sepl Hs' h')
    (h : WL false P fn ρ X ops l env Hs') : WL false P fn ρ X ops (o :: l) env Hs := by
  intro w0 h0 w hh a s p e
  refine wpList_plain hg fun K hK => ?_
  obtain ⟨w', h', hrun, s', p'⟩ := hr a.eval w0 h0 w hh s p (fun x v hx => e.eval hx)
  unfold Oper.wp
  rw [hrun, Oper.upon_value, hd]
  exact hK _ _ (h w0 h0 w' h' _ s' p' (e.none _))
/-- a key of a map is deleted -/
theorem WL.delO {m x : Operand} {t t2 kt et : TypeId} {K : IntKind} {b j : Nat} {kvs kvs' : List (Int × Value)} {q : Int} {ki : TyI} {s1 s2 : Nat} {z : Value} {c : Bool} {Hs' : List HP}
    (hm : ev env m = some (.map (some b))) (hx : ev env x = some (.int K q)) (ht : T.tt t = some ⟨.map kt et, s1, s2, z, c⟩) (hk : T.tt kt = some ki) (hK : ki.desc = .int K)
    (hH : nthH Hs j = some (Mp K b kvs)) (hs : kdel kvs q = kvs') (hF : FL (Hs.set j (Mp K b kvs')) Hs')
    (h : WL false P fn ρ X ops l env Hs') : WL false P fn ρ X ops (⟨none, .call { callee := .builtin .delete, args := #[m, x], argTypes := #[t, t2] }, ty, pos, aft, none⟩ :: l) env Hs :=
  .doesV (v := .tuple #[]) rfl rfl (fun f w0 h0 w hh s p e => by
    have hF := hF.eq
    subst hF hs
    have hH' : Hs[j]? = some (Mp K b kvs) := by rw [← nthH_eq]; exact hH
    obtain ⟨a, r, ⟨es, clock, hkv, hp⟩, dd, rfl, _, hset⟩ := sepl_at hH' p
    have ea := pts_eq hp
    subst ea
    have hw : w.heap[b]? = some (.map es clock) := s.own b _ (join_left (by simp [one]))
    have hu := T.und ht
    have huk := T.und hk
    rw [hK] at huk
    have hf := MapKept.run_findKey (w := w) huk (find_int K K q kvs es.toList 0 hkv)
    have hlt := (Array.getElem?_eq_some_iff.1 hw).1
    have main : ∀ o : Obj, Dj (one b o) r ∧ St ρ w0 h0 { w with heap := w.heap.setIfInBounds b o } (join (one b o) r) := by
      intro o
      refine s.change dd ?_ ?_ ?_ (by simp) rfl rfl rfl
      · intro n hn
        left
        by_cases e : n = b
        · subst e; simp [one]
        · simp [one, e] at hn
      · intro n x hx
        by_cases e : n = b
        · subst e
          simp [one] at hx
          subst hx
          simp [hlt]
        · simp [one, e] at hx
      · intro n _ hn
        have : n ≠ b := by intro e; subst e; simp [one] at hn
        simp [Array.getElem?_setIfInBounds, Ne.symm this]
    have hg := lfind_get kvs q 0
    cases hl : lfind kvs q 0 with
    | none =>
      rw [hl] at hf hg
      have hg' : kget kvs q = none := hg.symm
      have hm' := main (.map es clock)
      refine ⟨_, _, ?_, hm'.2, hset _ _ ⟨es, clock, by rw [kdel_none _ _ hg']; exact hkv, pts_one _ _⟩ hm'.1⟩
      simp only [execOp, e _ _ hm, e _ _ hx]
      simp [resolve, invoke, builtin, e _ _ hm, e _ _ hx, Builtin.delete_, run_underlying hu, MapKept.run_getObj_map hw, checkKey_int huk, hf, MapKept.run_setObj_map _ hw, Result.andThen]
    | some i =>
      rw [hl] at hf
      obtain ⟨i, v0⟩ := i
      obtain ⟨h1, h2⟩ := kv_del K q kvs es.toList 0 i v0 hkv hl
      rw [Nat.sub_zero] at h1 h2
      have hm' := main (.map (es.eraseIdxIfInBounds i) clock)
      have h2' : i < es.size := by simpa using h2
      refine ⟨_, _, ?_, hm'.2, hset _ _ ⟨es.eraseIdxIfInBounds i, clock, ?_, pts_one _ _⟩ hm'.1⟩
      · simp only [execOp, e _ _ hm, e _ _ hx]
        simp [resolve, invoke, builtin, e _ _ hm, e _ _ hx, Builtin.delete_, run_underlying hu, MapKept.run_getObj_map hw, checkKey_int huk, hf, MapKept.run_setObj_map _ hw, Result.andThen]
      · rw [Array.eraseIdxIfInBounds, dif_pos h2', Array.toList_eraseIdx]
        exact h1) h
end
end Go.Proofs.Ytdpnpipninggeaa

/- Maps whose keys are structs of three numbers: what is made, looked up, set, deleted, and how many there are. Over whatever program. -/
set_option linter.unusedSimpArgs false
set_option linter.unusedVariables false
namespace Go.Proofs.Ytdpnpipninggeaa
open Go
def qkV (K : IntKind) (a : Ky) : Value := .agg #[.int K a.a, .int K a.b, .int K a.c]
/-- what stands under a key -/
def qget : List (Ky × Value) → Ky → Option Value
  | [], _ => none
  | p :: l, k => if k = p.1 then some p.2 else qget l k
def qset : List (Ky × Value) → Ky → Value → List (Ky × Value)
  | [], k, v => [(k, v)]
  | p :: l, k, v => if k = p.1 then (k, v) :: l else p :: qset l k v
def qfind : List (Ky × Value) → Ky → Nat → Option (Nat × Value)
  | [], _, _ => none
  | p :: l, k, i => if k = p.1 then some (i, p.2) else qfind l k (i + 1)
theorem qfind_get : ∀ (l : List (Ky × Value)) (k : Ky) (i : Nat), (qfind l k i).map (·.2) = qget l k
  | [], _, _ => rfl
  | p :: l, k, i => by
    unfold qfind qget
    split
    · rfl
    · exact qfind_get l k (i + 1)
theorem qset_none : ∀ (l : List (Ky × Value)) (k : Ky) (v : Value), qget l k = none → qset l k v = l ++ [(k, v)]
  | [], _, _, _ => rfl
  | p :: l, k, v, h => by
    unfold qget at h
    split at h
    · cases h
    · rename_i hn
      rw [qset, if_neg hn, qset_none l k v h]; rfl
/-- a map's entries -/
def QV (K : IntKind) (l : List (Ky × Value)) (es : List MapEntry) : Prop := es.map (fun e => (e.key, e.val)) = l.map (fun p => (qkV K p.1, p.2))
theorem qv_cons {K : IntKind} {p : Ky × Value} {l : List (Ky × Value)} {es : List MapEntry} (h : QV K (p :: l) es) : ∃ e es', es = e :: es' ∧ e.key = qkV K p.1 ∧ e.val = p.2 ∧ QV K l es' := by
  unfold QV at h
  cases es with
  | nil => cases h
  | cons e es' =>
    simp only [List.map_cons, List.cons.injEq, Prod.mk.injEq] at h
    exact ⟨e, es', rfl, h.1.1, h.1.2, h.2⟩
theorem qv_nil {K : IntKind} {es : List MapEntry} (h : QV K [] es) : es = [] := by
  unfold QV at h
  simpa using h
theorem qfind_ge : ∀ (l : List (Ky × Value)) (k : Ky) (i j : Nat) (v : Value), qfind l k i = some (j, v) → i ≤ j
  | [], _, _, _, _, h => by cases h
  | p :: l, k, i, j, v, h => by
    unfold qfind at h
    split at h
    · have := congrArg Prod.fst (Option.some.inj h); simp only [] at this; omega
    · have := qfind_ge l k (i + 1) j v h; omega
theorem qv_set (K : IntKind) (k : Ky) (v : Value) : ∀ (l : List (Ky × Value)) (es : List MapEntry) (i j : Nat) (u : Value), QV K l es → qfind l k i = some (j, u) →
    QV K (qset l k v) (es.modify (j - i) fun e => { e with key := qkV K k, val := v }) ∧ ∃ e, es[j - i]? = some e ∧ e.key = qkV K k
  | [], es, i, j, u, h, hf => by cases hf
  | p :: l, es, i, j, u, h, hf => by
    obtain ⟨e, es', rfl, hk, hv, h'⟩ := qv_cons h
    unfold qfind at hf
    split at hf
    · rename_i hp
      have hj := congrArg Prod.fst (Option.some.inj hf)
      simp only [] at hj
      subst hj
      rw [qset, if_pos hp, Nat.sub_self]
      refine ⟨?_, e, rfl, by rw [hk, hp]⟩
      unfold QV at h' ⊢
      simp [h']
    · rename_i hp
      have hge := qfind_ge _ _ _ _ _ hf
      obtain ⟨h1, e2, h2, h3⟩ := qv_set K k v l es' (i + 1) j u h' hf
      rw [qset, if_neg hp, show j - i = (j - (i + 1)) + 1 by omega]
      refine ⟨?_, e2, by simpa using h2, h3⟩
      unfold QV at h1 ⊢
      simp [h1, hk, hv]
/-- a map: its entries, in the order in which they came -/
def Qm (K : IntKind) (b : Nat) (l : List (Ky × Value)) : HP := fun h => ∃ es clock, QV K l es.toList ∧ pts b (.map es clock) h
theorem In.qm {ρ : Hp} {K : IntKind} {b : Nat} {l : List (Ky × Value)} (h : In ρ (Qm K b l)) : ∃ es clock, QV K l es.toList ∧ ρ b = some (.map es clock) := by
  obtain ⟨x, ⟨es, clock, hk, hp⟩, hx⟩ := h
  exact ⟨es, clock, hk, hx _ _ hp.1⟩
def qdel : List (Ky × Value) → Ky → List (Ky × Value)
  | [], _ => []
  | p :: l, k => if k = p.1 then l else p :: qdel l k
theorem qget_set_same : ∀ (l : List (Ky × Value)) (k : Ky) (v : Value), qget (qset l k v) k = some v
  | [], k, v => by simp [qset, qget]
  | p :: l, k, v => by
    unfold qset
    split
    · simp [qget]
    · rename_i h
      rw [qget, if_neg h, qget_set_same l k v]
theorem qget_set_other {k q : Ky} (hq : q ≠ k) (v : Value) : ∀ l : List (Ky × Value), qget (qset l k v) q = qget l q
  | [] => by simp [qset, qget, hq]
  | p :: l => by
    unfold qset
    split
    · rename_i h
      simp only [qget]
      rw [if_neg hq, if_neg (fun e => hq (e.trans h.symm))]
    · simp only [qget]
      split
      · rfl
      · exact qget_set_other hq v l
theorem qget_mem {l : List (Ky × Value)} {q : Ky} (h : ¬ q ∈ l.map (·.1)) : qget l q = none := by
  induction l with
  | nil => rfl
  | cons p l ih =>
    simp only [List.map_cons, List.mem_cons, not_or] at h
    rw [qget, if_neg h.1, ih h.2]
theorem qdel_keys : ∀ (l : List (Ky × Value)) (k q : Ky), q ∈ (qdel l k).map (·.1) → q ∈ l.map (·.1)
  | [], _, _, h => h
  | p :: l, k, q, h => by
    unfold qdel at h
    split at h
    · exact List.mem_cons_of_mem _ h
    · simp only [List.map_cons, List.mem_cons] at h ⊢
      exact h.imp_right (qdel_keys l k q)
theorem qset_keys : ∀ (l : List (Ky × Value)) (k q : Ky) (v : Value), q ∈ (qset l k v).map (·.1) → q = k ∨ q ∈ l.map (·.1)
  | [], k, q, v, h => by simp [qset] at h; exact .inl h
  | p :: l, k, q, v, h => by
    unfold qset at h
    split at h
    · rename_i hk
      simp only [List.map_cons, List.mem_cons] at h ⊢
      rcases h with h | h
      · exact .inl h
      · exact .inr (.inr h)
    · simp only [List.map_cons, List.mem_cons] at h ⊢
      rcases h with h | h
      · exact .inr (.inl h)
      · exact (qset_keys l k q v h).imp_right .inr
theorem qdel_nodup : ∀ (l : List (Ky × Value)) (k : Ky), (l.map (·.1)).Nodup → ((qdel l k).map (·.1)).Nodup
  | [], _, h => h
  | p :: l, k, h => by
    simp only [List.map_cons, List.nodup_cons] at h
    unfold qdel
    split
    · exact h.2
    · simp only [List.map_cons, List.nodup_cons]
      exact ⟨fun hm => h.1 (qdel_keys l k _ hm), qdel_nodup l k h.2⟩
theorem qset_nodup : ∀ (l : List (Ky × Value)) (k : Ky) (v : Value), (l.map (·.1)).Nodup → ((qset l k v).map (·.1)).Nodup
  | [], k, v, _ => by simp [qset]
  | p :: l, k, v, h => by
    simp only [List.map_cons, List.nodup_cons] at h
    unfold qset
    split
    · rename_i hk
      simp only [List.map_cons, List.nodup_cons]
      exact ⟨by rw [hk]; exact h.1, h.2⟩
    · rename_i hk
      simp only [List.map_cons, List.nodup_cons]
      refine ⟨fun hm => ?_, qset_nodup l k v h.2⟩
      rcases qset_keys l k _ v hm with e | e
      · exact hk e.symm
      · exact h.1 e
theorem qget_del_other {k q : Ky} (hq : q ≠ k) : ∀ l : List (Ky × Value), qget (qdel l k) q = qget l q
  | [] => rfl
  | p :: l => by
    unfold qdel
    split
    · rename_i hk
      rw [qget, if_neg (fun e => hq (e.trans hk.symm))]
    · rw [qget, qget]
      split
      · rfl
      · exact qget_del_other hq l
theorem qv_del (K : IntKind) (k : Ky) : ∀ (l : List (Ky × Value)) (es : List MapEntry) (i j : Nat) (u : Value), QV K l es → qfind l k i = some (j, u) → QV K (qdel l k) (es.eraseIdx (j - i)) ∧ j - i < es.length
  | [], es, i, j, u, h, hf => by cases hf
  | p :: l, es, i, j, u, h, hf => by
    obtain ⟨e, es', rfl, hk, hv, h'⟩ := qv_cons h
    unfold qfind at hf
    split at hf
    · rename_i hp
      have hj := congrArg Prod.fst (Option.some.inj hf)
      simp only [] at hj
      subst hj
      rw [qdel, if_pos hp, Nat.sub_self]
      exact ⟨h', by simp⟩
    · rename_i hp
      have hge := qfind_ge _ _ _ _ _ hf
      obtain ⟨h1, h2⟩ := qv_del K k l es' (i + 1) j u h' hf
      rw [qdel, if_neg hp, show j - i = (j - (i + 1)) + 1 by omega]
      refine ⟨?_, by simp only [List.length_cons]; omega⟩
      unfold QV at h1 ⊢
      simp [h1, hk, hv]
theorem qdel_none : ∀ (l : List (Ky × Value)) (k : Ky), qget l k = none → qdel l k = l
  | [], _, _ => rfl
  | p :: l, k, h => by
    unfold qget at h
    split at h
    · cases h
    · rename_i hn
      rw [qdel, if_neg hn, qdel_none l k h]
section
variable {P : Program} {T : Tab P} {fn : Func} {ρ σ : Hp} {Q : Value → HP} {k : List Item} {md : Bool} {X : World → Hp → Act → World → Prop} {env : Env} {Hs : List HP} {ops : Array Oper} {l : List Oper}
variable {d : Tmp} {ty : TypeId} {pos : String} {aft : Array Edge} {n fuel : Nat} {listed : Array Bool}
/-- a type of keys: a struct of three numbers of one kind -/
structure QkT (T : Tab P) (kt : TypeId) (K : IntKind) (f0 f1 f2 : Field) : Prop where
  tt : ∃ s1 s2 z c, T.tt kt = some ⟨.struct #[f0, f1, f2], s1, s2, z, c⟩
  n0 : f0.name ≠ "_"
  n1 : f1.name ≠ "_"
  n2 : f2.name ≠ "_"
  o0 : f0.offset = 0
  o1 : f1.offset = 1
  o2 : f2.offset = 2
  t0 : ∃ q, T.tt f0.type = some q ∧ q.desc = .int K
  t1 : ∃ q, T.tt f1.type = some q ∧ q.desc = .int K
  t2 : ∃ q, T.tt f2.type = some q ∧ q.desc = .int K
  hs : P.stoodInHeld kt = false
theorem QkT.und {kt : TypeId} {K : IntKind} {f0 f1 f2 : Field} (h : QkT T kt K f0 f1 f2) : P.underlying kt = some (.struct #[f0, f1, f2]) := by
  obtain ⟨s1, s2, z, c, ht⟩ := h.tt
  exact T.und ht
theorem QkT.eq {kt : TypeId} {K : IntKind} {f0 f1 f2 : Field} (h : QkT T kt K f0 f1 f2) (a b : Ky) (w : World) : (Op.equal kt (qkV K a) (qkV K b)).run P w = .ok (decide (a = b)) w := by
  have hu := h.und
  have hfs : P.fieldsOf kt = #[f0, f1, f2] := by simp [Program.fieldsOf, hu]
  obtain ⟨q0, t0, d0⟩ := h.t0
  obtain ⟨q1, t1, d1⟩ := h.t1
  obtain ⟨q2, t2, d2⟩ := h.t2
  have hF := FE.int (n := 0) (cs := [.int K a.a, .int K a.b, .int K a.c]) (cs' := [.int K b.a, .int K b.b, .int K b.c]) h.n0 t0 d0 (by rw [h.o0]; rfl) (by rw [h.o0]; rfl) (FE.int h.n1 t1 d1 (by rw [h.o1]; rfl) (by rw [h.o1]; rfl) (FE.int h.n2 t2 d2 (by rw [h.o2]; rfl) (by rw [h.o2]; rfl) FE.nil))
  have hst := run_equalIn_struct (P := P) (w := w) 9999 kt #[.int K a.a, .int K a.b, .int K a.c] #[.int K b.a, .int K b.b, .int K b.c] (by rw [hfs]; exact hu) h.hs
  rw [hfs] at hst
  have hr := hst.trans (hF.run 9999 (by omega) w)
  have e : (decide (a = b)) = (decide (a.a = b.a) && (decide (a.b = b.b) && (decide (a.c = b.c) && true))) := by
    obtain ⟨a1, a2, a3⟩ := a
    obtain ⟨b1, b2, b3⟩ := b
    rw [Bool.eq_iff_iff]
    simp [Ky.mk.injEq]
  rw [e]
  exact hr
theorem QkT.check {kt : TypeId} {K : IntKind} {f0 f1 f2 : Field} (h : QkT T kt K f0 f1 f2) (a : Ky) (em : Bool) (w : World) : (Instr.checkKey em 10000 kt (qkV K a)).run P w = .ok () w := by
  have hu := h.und
  obtain ⟨q0, t0, d0⟩ := h.t0
  obtain ⟨q1, t1, d1⟩ := h.t1
  obtain ⟨q2, t2, d2⟩ := h.t2
  have u0 := T.und t0
  have u1 := T.und t1
  have u2 := T.und t2
  rw [d0] at u0
  rw [d1] at u1
  rw [d2] at u2
  have k0 : P.plainKey f0.type = true := by simp [Program.plainKey, u0]
  have k1 : P.plainKey f1.type = true := by simp [Program.plainKey, u1]
  have k2 : P.plainKey f2.type = true := by simp [Program.plainKey, u2]
  have p0 := run_part_plain w k0 (xs := #[Value.int K a.a, Value.int K a.b, Value.int K a.c]) (off := f0.offset) (v := .int K a.a) (by rw [h.o0]; rfl)
  have p1 := run_part_plain w k1 (xs := #[Value.int K a.a, Value.int K a.b, Value.int K a.c]) (off := f1.offset) (v := .int K a.b) (by rw [h.o1]; rfl)
  have p2 := run_part_plain w k2 (xs := #[Value.int K a.a, Value.int K a.b, Value.int K a.c]) (off := f2.offset) (v := .int K a.c) (by rw [h.o2]; rfl)
  have c0' : ∀ n, (Instr.checkKey em (n + 1) f0.type (.int K a.a)).run P w = .ok () w := fun n => by simp [Instr.checkKey, run_underlying u0]
  have c1' : ∀ n, (Instr.checkKey em (n + 1) f1.type (.int K a.b)).run P w = .ok () w := fun n => by simp [Instr.checkKey, run_underlying u1]
  have c2' : ∀ n, (Instr.checkKey em (n + 1) f2.type (.int K a.c)).run P w = .ok () w := fun n => by simp [Instr.checkKey, run_underlying u2]
  have c0 := c0' 9998
  have c1 := c1' 9998
  have c2 := c2' 9998
  have n0 := h.n0
  have n1 := h.n1
  have n2 := h.n2
  unfold qkV
  rw [Instr.checkKey]
  simp [run_underlying hu, n0, n1, n2, p0, p1, p2, c0, c1, c2, Result.andThen]
theorem QkT.ask {kt : TypeId} {K : IntKind} {f0 f1 f2 : Field} (h : QkT T kt K f0 f1 f2) (k : Ky) (w : World) : ∀ (l : List (Ky × Value)) (es : List MapEntry) (i : Nat), QV K l es → (Instr.findAsking kt (qkV K k) es i).run P w = .ok (qfind l k i) w
  | [], es, i, hv => by rw [qv_nil hv]; simp [Instr.findAsking, qfind]
  | p :: l, es, i, hv => by
    obtain ⟨e, es', rfl, hk, hv', h'⟩ := qv_cons hv
    have he := h.eq k p.1 w
    rw [Instr.findAsking, hk, qfind]
    by_cases hp : k = p.1
    · rw [if_pos hp]
      simp [he, decide_eq_true hp, hv', Result.andThen]
    · rw [if_neg hp]
      simp [he, decide_eq_false hp, Result.andThen, h.ask k w l es' (i + 1) h']
theorem QkT.find {kt : TypeId} {K : IntKind} {f0 f1 f2 : Field} (h : QkT T kt K f0 f1 f2) (k : Ky) (w : World) {l : List (Ky × Value)} {es : List MapEntry} (hv : QV K l es) : (Instr.findKey kt (qkV K k) es).run P w = .ok (qfind l k 0) w := by
  rw [run_findKey_eq w (by rw [h.und])]
  exact h.ask k w l es 0 hv
theorem WL.mkQm (K : IntKind) {t : TypeId} (hn : Nat.ble (d + 1) fn.ntmps = true)
    (h : ∀ b, WL false P fn ρ X ops l ((d, .map (some b)) :: env) (Qm K b [] :: Hs)) : WL false P fn ρ X ops (⟨some d, .makeMap t none, ty, pos, aft, none⟩ :: l) env Hs :=
  .turns (ok := fun v Hs' => ∃ b, v = .map (some b) ∧ Hs' = Qm K b [] :: Hs) rfl rfl hn (fun f w0 h0 w hh s p e => by
    have hb := s.new (.map #[] 0)
    refine ⟨_, _, _, Qm K w.heap.size [] :: Hs, ?_, hb.2, ⟨one w.heap.size (.map #[] 0), hh, ⟨#[], 0, rfl, pts_one _ _⟩, p, hb.1, rfl⟩, w.heap.size, rfl, rfl⟩
    simp [execOp, mkMap_run]) (fun v Hs' ⟨b, hv, hH⟩ => by subst hv; subst hH; exact h b)
theorem qlook_run {w : World} {t kt et : TypeId} {K : IntKind} {b : Nat} {kvs : List (Ky × Value)} {es : Array MapEntry} {clock : Nat} {q : Ky} {ok : Bool} {f0 f1 f2 : Field} {ei : TyI} {s1 s2 : Nat} {z : Value} {c : Bool}
    (ht : T.tt t = some ⟨.map kt et, s1, s2, z, c⟩) (hk : QkT T kt K f0 f1 f2) (he : T.tt et = some ei) (hb : w.heap[b]? = some (.map es clock)) (hkv : QV K kvs es.toList) :
    (Instr.lookup t (.map (some b)) (qkV K q) ok).run P w = .ok (lookV ei.zero (qget kvs q) ok) w := by
  have hu := T.und ht
  have hf := hk.find q w hkv
  have hck := fun em => hk.check q em w
  have hz := T.runZ he (w := w)
  have hg := qfind_get kvs q 0
  cases hl : qfind kvs q 0 with
  | none =>
    rw [hl] at hf hg
    have hg' : qget kvs q = none := hg.symm
    rw [hg']
    cases ok <;> simp [Instr.lookup, run_underlying hu, MapKept.run_getObj_map hb, hck, hf, hz, Result.andThen, lookV]
  | some r =>
    rw [hl] at hf hg
    have hg' : qget kvs q = some r.2 := hg.symm
    rw [hg']
    cases ok <;> simp [Instr.lookup, run_underlying hu, MapKept.run_getObj_map hb, hck, hf, Result.andThen, lookV]
/-- a map that is read is looked into -/
theorem WL.luQR {x y : Operand} {t kt et : TypeId} {K : IntKind} {b : Nat} {kvs : List (Ky × Value)} {q : Ky} {ok : Bool} {f0 f1 f2 : Field} {ei : TyI} {s1 s2 : Nat} {z : Value} {c : Bool} {v : Value} (hn : Nat.ble (d + 1) fn.ntmps = true)
    (hx : ev env x = some (.map (some b))) (hy : ev env y = some (qkV K q)) (ht : T.tt t = some ⟨.map kt et, s1, s2, z, c⟩) (hk : QkT T kt K f0 f1 f2) (he : T.tt et = some ei)
    (hR : In ρ (Qm K b kvs)) (hv : lookV ei.zero (qget kvs q) ok = v)
    (h : WL md P fn ρ X ops l ((d, v) :: env) Hs) : WL md P fn ρ X ops (⟨some d, .lookup t x y ok, ty, pos, aft, none⟩ :: l) env Hs :=
  .rdR rfl rfl hn (fun f w hr e => by
    obtain ⟨es, clock, hkv, hb⟩ := hR.qm
    subst hv
    simp only [execOp, e _ _ hx, e _ _ hy]
    simp [qlook_run (T := T) ht hk he (hr b _ hb) hkv]) h
/-- a map that is owned is looked into -/
theorem WL.luQO {x y : Operand} {t kt et : TypeId} {K : IntKind} {b j : Nat} {kvs : List (Ky × Value)} {q : Ky} {ok : Bool} {f0 f1 f2 : Field} {ei : TyI} {s1 s2 : Nat} {z : Value} {c : Bool} {v : Value} (hn : Nat.ble (d + 1) fn.ntmps = true)
    (hx : ev env x = some (.map (some b))) (hy : ev env y = some (qkV K q)) (ht : T.tt t = some ⟨.map kt et, s1, s2, z, c⟩) (hk : QkT T kt K f0 f1 f2) (he : T.tt et = some ei)
    (hH : nthH Hs j = some (Qm K b kvs)) (hv : lookV ei.zero (qget kvs q) ok = v)
    (h : WL false P fn ρ X ops l ((d, v) :: env) Hs) : WL false P fn ρ X ops (⟨some d, .lookup t x y ok, ty, pos, aft, none⟩ :: l) env Hs :=
  .rd rfl rfl hn (fun f w h ho hr p e => by
    have hH' : Hs[j]? = some (Qm K b kvs) := by rw [← nthH_eq]; exact hH
    obtain ⟨a, r, ⟨es, clock, hkv, hp⟩, dd, rfl, _⟩ := sepl_at hH' p
    subst hv
    simp only [execOp, e _ _ hx, e _ _ hy]
    simp [qlook_run (T := T) ht hk he (ho b _ (join_left hp.1)) hkv]) h
/-- a map is set at a key -/
theorem WL.muQO {m x y : Operand} {t kt et : TypeId} {K : IntKind} {b j : Nat} {kvs kvs' : List (Ky × Value)} {q : Ky} {u : Value} {f0 f1 f2 : Field} {s1 s2 : Nat} {z : Value} {c : Bool} {Hs' : List HP}
    (hm : ev env m = some (.map (some b))) (hx : ev env x = some (qkV K q)) (hy : ev env y = some u) (ht : T.tt t = some ⟨.map kt et, s1, s2, z, c⟩) (hk : QkT T kt K f0 f1 f2)
    (hH : nthH Hs j = some (Qm K b kvs)) (hs : qset kvs q u = kvs') (hF : FL (Hs.set j (Qm K b kvs')) Hs')
    (h : WL false P fn ρ X ops l env Hs') : WL false P fn ρ X ops (⟨none, .mapUpdate t m x y, ty, pos, aft, none⟩ :: l) env Hs :=
  .does rfl rfl (fun f w0 h0 w hh s p e => by
    have hF := hF.eq
    subst hF hs
    have hH' : Hs[j]? = some (Qm K b kvs) := by rw [← nthH_eq]; exact hH
    obtain ⟨a, r, ⟨es, clock, hkv, hp⟩, dd, rfl, _, hset⟩ := sepl_at hH' p
    have ea := pts_eq hp
    subst ea
    have hw : w.heap[b]? = some (.map es clock) := s.own b _ (join_left (by simp [one]))
    have hu := T.und ht
    have hf := hk.find q w hkv
    have hck := fun em => hk.check q em w
    have hlt := (Array.getElem?_eq_some_iff.1 hw).1
    have main : ∀ o : Obj, Dj (one b o) r ∧ St ρ w0 h0 { w with heap := w.heap.setIfInBounds b o } (join (one b o) r) := by
      intro o
      refine s.change dd ?_ ?_ ?_ (by simp) rfl rfl rfl
      · intro n hn
        left
        by_cases e : n = b
        · subst e; simp [one]
        · simp [one, e] at hn
      · intro n x hx
        by_cases e : n = b
        · subst e
          simp [one] at hx
          subst hx
          simp [hlt]
        · simp [one, e] at hx
      · intro n _ hn
        have : n ≠ b := by intro e; subst e; simp [one] at hn
        simp [Array.getElem?_setIfInBounds, Ne.symm this]
    have hg := qfind_get kvs q 0
    cases hl : qfind kvs q 0 with
    | none =>
      rw [hl] at hf hg
      have hg' : qget kvs q = none := hg.symm
      have hm' := main (.map (es.push { key := qkV K q, val := u, born := clock }) (clock + 1))
      refine ⟨_, _, ?_, hm'.2, hset _ _ ⟨es.push { key := qkV K q, val := u, born := clock }, clock + 1, ?_, pts_one _ _⟩ hm'.1⟩
      · simp only [execOp, e _ _ hm, e _ _ hx, e _ _ hy]
        simp [Instr.mapUpdate, run_underlying hu, MapKept.run_getObj_map hw, hck, hf, MapKept.run_setObj_map _ hw, Result.andThen]
      · rw [qset_none _ _ _ hg']
        unfold QV at hkv ⊢
        simp [hkv]
    | some i =>
      rw [hl] at hf
      obtain ⟨i, v0⟩ := i
      obtain ⟨h1, e2, h2, h3⟩ := qv_set K q u kvs es.toList 0 i v0 hkv hl
      rw [Nat.sub_zero] at h1 h2
      have hsb : Instr.sameBits 10000 (qkV K q) (qkV K q) = true := by simp [qkV, Instr.sameBits]
      have hm' := main (.map (es.modify i fun e => { e with key := qkV K q, val := u }) clock)
      refine ⟨_, _, ?_, hm'.2, hset _ _ ⟨es.modify i fun e => { e with key := qkV K q, val := u }, clock, ?_, pts_one _ _⟩ hm'.1⟩
      · have h2' : es[i]? = some e2 := by simpa using h2
        simp only [execOp, e _ _ hm, e _ _ hx, e _ _ hy]
        simp [Instr.mapUpdate, run_underlying hu, MapKept.run_getObj_map hw, hck, hf, h2', h3, Instr.keyThatStays, hsb, MapKept.run_setObj_map _ hw, Result.andThen]
      · rw [Array.toList_modify]
        exact h1) h
/-- a key of a map is deleted -/
theorem WL.delQ {m x : Operand} {t t2 kt et : TypeId} {K : IntKind} {b j : Nat} {kvs kvs' : List (Ky × Value)} {q : Ky} {f0 f1 f2 : Field} {s1 s2 : Nat} {z : Value} {c : Bool} {Hs' : List HP}
    (hm : ev env m = some (.map (some b))) (hx : ev env x = some (qkV K q)) (ht : T.tt t = some ⟨.map kt et, s1, s2, z, c⟩) (hk : QkT T kt K f0 f1 f2)
    (hH : nthH Hs j = some (Qm K b kvs)) (hs : qdel kvs q = kvs') (hF : FL (Hs.set j (Qm K b kvs')) Hs')
    (h : WL false P fn ρ X ops l env Hs') : WL false P fn ρ X ops (⟨none, .call { callee := .builtin .delete, args := #[m, x], argTypes := #[t, t2] }, ty, pos, aft, none⟩ :: l) env Hs :=
  .doesV (v := .tuple #[]) rfl rfl (fun f w0 h0 w hh s p e => by
    have hF := hF.eq
    subst hF hs
    have hH' : Hs[j]? = some (Qm K b kvs) := by rw [← nthH_eq]; exact hH
    obtain ⟨a, r, ⟨es, clock, hkv, hp⟩, dd, rfl, _, hset⟩ := sepl_at hH' p
    have ea := pts_eq hp
    subst ea
    have hw : w.heap[b]? = some (.map es clock) := s.own b _ (join_left (by simp [one]))
    have hu := T.und ht
    have hf := hk.find q w hkv
    have hck := fun em => hk.check q em w
    have hlt := (Array.getElem?_eq_some_iff.1 hw).1
    have main : ∀ o : Obj, Dj (one b o) r ∧ St ρ w0 h0 { w with heap := w.heap.setIfInBounds b o } (join (one b o) r) := by
      intro o
      refine s.change dd ?_ ?_ ?_ (by simp) rfl rfl rfl
      · intro n hn
        left
        by_cases e : n = b
        · subst e; simp [one]
        · simp [one, e] at hn
      · intro n x hx
        by_cases e : n = b
        · subst e
          simp [one] at hx
          subst hx
          simp [hlt]
        · simp [one, e] at hx
      · intro n _ hn
        have : n ≠ b := by intro e; subst e; simp [one] at hn
        simp [Array.getElem?_setIfInBounds, Ne.symm this]
    have hg := qfind_get kvs q 0
    cases hl : qfind kvs q 0 with
    | none =>
      rw [hl] at hf hg
      have hg' : qget kvs q = none := hg.symm
      have hm' := main (.map es clock)
      refine ⟨_, _, ?_, hm'.2, hset _ _ ⟨es, clock, by rw [qdel_none _ _ hg']; exact hkv, pts_one _ _⟩ hm'.1⟩
      simp only [execOp, e _ _ hm, e _ _ hx]
      simp [resolve, invoke, builtin, e _ _ hm, e _ _ hx, Builtin.delete_, run_underlying hu, MapKept.run_getObj_map hw, hck, hf, MapKept.run_setObj_map _ hw, Result.andThen]
    | some i =>
      rw [hl] at hf
      obtain ⟨i, v0⟩ := i
      obtain ⟨h1, h2⟩ := qv_del K q kvs es.toList 0 i v0 hkv hl
      rw [Nat.sub_zero] at h1 h2
      have hm' := main (.map (es.eraseIdxIfInBounds i) clock)
      have h2' : i < es.size := by simpa using h2
      refine ⟨_, _, ?_, hm'.2, hset _ _ ⟨es.eraseIdxIfInBounds i, clock, ?_, pts_one _ _⟩ hm'.1⟩
      · simp only [execOp, e _ _ hm, e _ _ hx]
        simp [resolve, invoke, builtin, e _ _ hm, e _ _ hx, Builtin.delete_, run_underlying hu, MapKept.run_getObj_map hw, hck, hf, MapKept.run_setObj_map _ hw, Result.andThen]
      · rw [Array.eraseIdxIfInBounds, dif_pos h2', Array.toList_eraseIdx]
        exact h1) h
theorem QV.len {K : IntKind} {l : List (Ky × Value)} {es : List MapEntry} (h : QV K l es) : es.length = l.length := by
  have := congrArg List.length h
  simpa using this
/-- how many keys an owned map has -/
theorem WL.lenQ {x : Operand} {t kt et : TypeId} {K : IntKind} {b j : Nat} {kvs : List (Ky × Value)} {s1 s2 : Nat} {z : Value} {c : Bool} (hn : Nat.ble (d + 1) fn.ntmps = true)
    (hx : ev env x = some (.map (some b))) (ht : T.tt t = some ⟨.map kt et, s1, s2, z, c⟩) (hH : nthH Hs j = some (Qm K b kvs))
    (h : WL false P fn ρ X ops l ((d, .int .i64 ((kvs.length : Nat) : Int)) :: env) Hs) : WL false P fn ρ X ops (⟨some d, .call { callee := .builtin .len, args := #[x], argTypes := #[t] }, ty, pos, aft, none⟩ :: l) env Hs :=
  .rd rfl rfl hn (fun f w h ho hr p e => by
    have hH' : Hs[j]? = some (Qm K b kvs) := by rw [← nthH_eq]; exact hH
    obtain ⟨a, r, ⟨es, clock, hkv, hp⟩, dd, rfl, _⟩ := sepl_at hH' p
    have hb := ho b _ (join_left hp.1)
    have hu := T.und ht
    have hl : es.size = kvs.length := by rw [← hkv.len]; simp
    simp only [execOp, resolve, invoke, builtin]
    simp [e _ _ hx, Builtin.len_, run_underlying hu, MapKept.run_getObj_map hb, goInt, Result.andThen, hl]) h
end
end Go.Proofs.Ytdpnpipninggeaa

/- Maps by structs of three numbers: a key in a literal. -/
set_option linter.unusedSimpArgs false
set_option linter.unusedVariables false
namespace Go.Proofs.Ytdpnpipninggeaa
open Go
variable {P : Program} {T : Tab P} {fn : Func} {ρ σ : Hp} {Q : Value → HP} {k : List Item} {md : Bool} {X : World → Hp → Act → World → Prop} {env : Env} {Hs : List HP} {ops : Array Oper} {l : List Oper}
variable {d : Tmp} {ty : TypeId} {pos : String} {aft : Array Edge} {n fuel : Nat} {listed : Array Bool}
theorem lookS {z v : Value} {o : Option Value} (h : o = some v) : lookV z o false = v := by subst h; rfl
/-- a made map is given a key -/
theorem WL.inQO {m x y : Operand} {t kt et : TypeId} {K : IntKind} {b j : Nat} {kvs kvs' : List (Ky × Value)} {q : Ky} {u : Value} {f0 f1 f2 : Field} {s1 s2 : Nat} {z : Value} {c : Bool} {Hs' : List HP}
    (hm : ev env m = some (.map (some b))) (hx : ev env x = some (qkV K q)) (hy : ev env y = some u) (ht : T.tt t = some ⟨.map kt et, s1, s2, z, c⟩) (hk : QkT T kt K f0 f1 f2)
    (hH : nthH Hs j = some (Qm K b kvs)) (hs : qset kvs q u = kvs') (hF : FL (Hs.set j (Qm K b kvs')) Hs')
    (h : WL false P fn ρ X ops l env Hs') : WL false P fn ρ X ops (⟨none, .insert t m x y, ty, pos, aft, none⟩ :: l) env Hs :=
  .does rfl rfl (fun f w0 h0 w hh s p e => by
    have hF := hF.eq
    subst hF hs
    have hH' : Hs[j]? = some (Qm K b kvs) := by rw [← nthH_eq]; exact hH
    obtain ⟨a, r, ⟨es, clock, hkv, hp⟩, dd, rfl, _, hset⟩ := sepl_at hH' p
    have ea := pts_eq hp
    subst ea
    have hw : w.heap[b]? = some (.map es clock) := s.own b _ (join_left (by simp [one]))
    have hu := T.und ht
    have hf := hk.find q w hkv
    have hck := fun em => hk.check q em w
    have hlt := (Array.getElem?_eq_some_iff.1 hw).1
    have main : ∀ o : Obj, Dj (one b o) r ∧ St ρ w0 h0 { w with heap := w.heap.setIfInBounds b o } (join (one b o) r) := by
      intro o
      refine s.change dd ?_ ?_ ?_ (by simp) rfl rfl rfl
      · intro n hn
        left
        by_cases e : n = b
        · subst e; simp [one]
        · simp [one, e] at hn
      · intro n x hx
        by_cases e : n = b
        · subst e
          simp [one] at hx
          subst hx
          simp [hlt]
        · simp [one, e] at hx
      · intro n _ hn
        have : n ≠ b := by intro e; subst e; simp [one] at hn
        simp [Array.getElem?_setIfInBounds, Ne.symm this]
    have hg := qfind_get kvs q 0
    cases hl : qfind kvs q 0 with
    | none =>
      rw [hl] at hf hg
      have hg' : qget kvs q = none := hg.symm
      have hm' := main (.map (es.push { key := qkV K q, val := u, born := clock }) (clock + 1))
      refine ⟨_, _, ?_, hm'.2, hset _ _ ⟨es.push { key := qkV K q, val := u, born := clock }, clock + 1, ?_, pts_one _ _⟩ hm'.1⟩
      · simp only [execOp, e _ _ hm, e _ _ hx, e _ _ hy]
        simp [Instr.mapUpdate, run_underlying hu, MapKept.run_getObj_map hw, hck, hf, MapKept.run_setObj_map _ hw, Result.andThen]
      · rw [qset_none _ _ _ hg']
        unfold QV at hkv ⊢
        simp [hkv]
    | some i =>
      rw [hl] at hf
      obtain ⟨i, v0⟩ := i
      obtain ⟨h1, e2, h2, h3⟩ := qv_set K q u kvs es.toList 0 i v0 hkv hl
      rw [Nat.sub_zero] at h1 h2
      have hsb : Instr.sameBits 10000 (qkV K q) (qkV K q) = true := by simp [qkV, Instr.sameBits]
      have hm' := main (.map (es.modify i fun e => { e with key := qkV K q, val := u }) clock)
      refine ⟨_, _, ?_, hm'.2, hset _ _ ⟨es.modify i fun e => { e with key := qkV K q, val := u }, clock, ?_, pts_one _ _⟩ hm'.1⟩
      · have h2' : es[i]? = some e2 := by simpa using h2
        simp only [execOp, e _ _ hm, e _ _ hx, e _ _ hy]
        simp [Instr.mapUpdate, run_underlying hu, MapKept.run_getObj_map hw, hck, hf, h2', h3, Instr.keyThatStays, hsb, MapKept.run_setObj_map _ hw, Result.andThen]
      · rw [Array.toList_modify]
        exact h1) h
end Go.Proofs.Ytdpnpipninggeaa
