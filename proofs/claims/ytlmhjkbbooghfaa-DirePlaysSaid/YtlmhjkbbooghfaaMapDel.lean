/- Maps whose keys are whole numbers: what is deleted. Over whatever program. -/
import Derived.Test.YtlmhjkbbooghfaaMaps
set_option linter.unusedSimpArgs false
set_option linter.unusedVariables false
namespace Go.Proofs.Ytlmhjkbbooghfaa
open Go
def kdel : List (Int × Value) → Int → List (Int × Value)
  | [], _ => []
  | p :: l, k => if k = p.1 then l else p :: kdel l k
theorem kget_nil (q : Int) : kget [] q = none := rfl
theorem kget_set_same : ∀ (l : List (Int × Value)) (k : Int) (v : Value), kget (kset l k v) k = some v
  | [], k, v => by simp [kset, kget]
  | p :: l, k, v => by
    unfold kset
    split
    · simp [kget]
    · rename_i h
      rw [kget, if_neg h, kget_set_same l k v]
theorem kget_set_other {k q : Int} (hq : q ≠ k) (v : Value) : ∀ l : List (Int × Value), kget (kset l k v) q = kget l q
  | [] => by simp [kset, kget, hq]
  | p :: l => by
    unfold kset
    split
    · rename_i h
      simp only [kget]
      rw [if_neg hq, if_neg (by omega)]
    · simp only [kget]
      split
      · rfl
      · exact kget_set_other hq v l
theorem kget_mem {l : List (Int × Value)} {q : Int} (h : ¬ q ∈ l.map (·.1)) : kget l q = none := by
  induction l with
  | nil => rfl
  | cons p l ih =>
    simp only [List.map_cons, List.mem_cons, not_or] at h
    rw [kget, if_neg h.1, ih h.2]
theorem kdel_keys : ∀ (l : List (Int × Value)) (k q : Int), q ∈ (kdel l k).map (·.1) → q ∈ l.map (·.1)
  | [], _, _, h => h
  | p :: l, k, q, h => by
    unfold kdel at h
    split at h
    · exact List.mem_cons_of_mem _ h
    · simp only [List.map_cons, List.mem_cons] at h ⊢
      exact h.imp_right (kdel_keys l k q)
theorem kset_keys : ∀ (l : List (Int × Value)) (k q : Int) (v : Value), q ∈ (kset l k v).map (·.1) → q = k ∨ q ∈ l.map (·.1)
  | [], k, q, v, h => by simp [kset] at h; exact .inl h
  | p :: l, k, q, v, h => by
    unfold kset at h
    split at h
    · rename_i hk
      simp only [List.map_cons, List.mem_cons] at h ⊢
      rcases h with h | h
      · exact .inl h
      · exact .inr (.inr h)
    · simp only [List.map_cons, List.mem_cons] at h ⊢
      rcases h with h | h
      · exact .inr (.inl h)
      · exact (kset_keys l k q v h).imp_right .inr
theorem kdel_nodup : ∀ (l : List (Int × Value)) (k : Int), (l.map (·.1)).Nodup → ((kdel l k).map (·.1)).Nodup
  | [], _, h => h
  | p :: l, k, h => by
    simp only [List.map_cons, List.nodup_cons] at h
    unfold kdel
    split
    · exact h.2
    · simp only [List.map_cons, List.nodup_cons]
      exact ⟨fun hm => h.1 (kdel_keys l k _ hm), kdel_nodup l k h.2⟩
theorem kset_nodup : ∀ (l : List (Int × Value)) (k : Int) (v : Value), (l.map (·.1)).Nodup → ((kset l k v).map (·.1)).Nodup
  | [], k, v, _ => by simp [kset]
  | p :: l, k, v, h => by
    simp only [List.map_cons, List.nodup_cons] at h
    unfold kset
    split
    · rename_i hk
      simp only [List.map_cons, List.nodup_cons]
      exact ⟨by rw [hk]; exact h.1, h.2⟩
    · rename_i hk
      simp only [List.map_cons, List.nodup_cons]
      refine ⟨fun hm => ?_, kset_nodup l k v h.2⟩
      rcases kset_keys l k _ v hm with e | e
      · exact hk e.symm
      · exact h.1 e
theorem kget_del_same : ∀ (l : List (Int × Value)) (k : Int), (l.map (·.1)).Nodup → kget (kdel l k) k = none
  | [], _, _ => rfl
  | p :: l, k, h => by
    simp only [List.map_cons, List.nodup_cons] at h
    unfold kdel
    split
    · rename_i hk
      exact kget_mem (by rw [hk]; exact h.1)
    · rename_i hk
      rw [kget, if_neg hk, kget_del_same l k h.2]
theorem kget_del_other {k q : Int} (hq : q ≠ k) : ∀ l : List (Int × Value), kget (kdel l k) q = kget l q
  | [] => rfl
  | p :: l => by
    unfold kdel
    split
    · rename_i hk
      rw [kget, if_neg (by omega)]
    · rw [kget, kget]
      split
      · rfl
      · exact kget_del_other hq l
theorem kv_del (K : IntKind) (k : Int) : ∀ (l : List (Int × Value)) (es : List MapEntry) (i j : Nat) (u : Value), KV K l es → lfind l k i = some (j, u) → KV K (kdel l k) (es.eraseIdx (j - i)) ∧ j - i < es.length
  | [], es, i, j, u, h, hf => by cases hf
  | p :: l, es, i, j, u, h, hf => by
    obtain ⟨e, es', rfl, hk, hv, h'⟩ := kv_cons h
    unfold lfind at hf
    split at hf
    · rename_i hp
      have hj := congrArg Prod.fst (Option.some.inj hf)
      simp only [] at hj
      subst hj
      rw [kdel, if_pos hp, Nat.sub_self]
      exact ⟨h', by simp⟩
    · rename_i hp
      have hge := lfind_ge _ _ _ _ _ hf
      obtain ⟨h1, h2⟩ := kv_del K k l es' (i + 1) j u h' hf
      rw [kdel, if_neg hp, show j - i = (j - (i + 1)) + 1 by omega]
      refine ⟨?_, by simp only [List.length_cons]; omega⟩
      unfold KV at h1 ⊢
      simp [h1, hk, hv]
theorem kdel_none : ∀ (l : List (Int × Value)) (k : Int), kget l k = none → kdel l k = l
  | [], _, _ => rfl
  | p :: l, k, h => by
    unfold kget at h
    split at h
    · cases h
    · rename_i hn
      rw [kdel, if_neg hn, kdel_none l k h]
section
variable {P : Program} {T : Tab P} {fn : Func} {ρ σ : Hp} {Q : Value → HP} {k : List Item} {md : Bool} {X : World → Hp → Act → World → Prop} {env : Env} {Hs : List HP} {ops : Array Oper} {l : List Oper}
variable {d : Tmp} {ty : TypeId} {pos : String} {aft : Array Edge} {n fuel : Nat} {listed : Array Bool}
theorem WL.doesV {o : Oper} {Hs' : List HP} {v : Value} (hg : o.guard = none) (hd : o.dst = none)
    (hr : ∀ (f : Operand → Value) w0 h0 w h, St ρ w0 h0 w h → sepl Hs h → (∀ x v, ev env x = some v → f x = v) → ∃ w' h', (execOp f o).run P w = .ok (.value v) w' ∧ St ρ w0 h0 w' h' ∧ sepl Hs' h')
    (h : WL false P fn ρ X ops l env Hs') : WL false P fn ρ X ops (o :: l) env Hs := by
  intro w0 h0 w hh a s p e
  refine wpList_plain hg fun K hK => ?_
  obtain ⟨w', h', hrun, s', p'⟩ := hr a.eval w0 h0 w hh s p (fun x v hx => e.eval hx)
  unfold Oper.wp
  rw [hrun, Oper.upon_value, hd]
  exact hK _ _ (h w0 h0 w' h' _ s' p' (e.none _))
/-- a key of a map is deleted -/
theorem WL.delO {m x : Operand} {t t2 kt et : TypeId} {K : IntKind} {b j : Nat} {kvs kvs' : List (Int × Value)} {q : Int} {ki : TyI} {s1 s2 : Nat} {z : Value} {c : Bool} {Hs' : List HP}
    (hm : ev env m = some (.map (some b))) (hx : ev env x = some (.int K q)) (ht : T.tt t = some ⟨.map kt et, s1, s2, z, c⟩) (hk : T.tt kt = some ki) (hK : ki.desc = .int K)
    (hH : nthH Hs j = some (Mp K b kvs)) (hs : kdel kvs q = kvs') (hF : FL (Hs.set j (Mp K b kvs')) Hs')
    (h : WL false P fn ρ X ops l env Hs') : WL false P fn ρ X ops (⟨none, .call { callee := .builtin .delete, args := #[m, x], argTypes := #[t, t2] }, ty, pos, aft, none⟩ :: l) env Hs :=
  .doesV (v := .tuple #[]) rfl rfl (fun f w0 h0 w hh s p e => by
    have hF := hF.eq
    subst hF hs
    have hH' : Hs[j]? = some (Mp K b kvs) := by rw [← nthH_eq]; exact hH
    obtain ⟨a, r, ⟨es, clock, hkv, hp⟩, dd, rfl, _, hset⟩ := sepl_at hH' p
    have ea := pts_eq hp
    subst ea
    have hw : w.heap[b]? = some (.map es clock) := s.own b _ (join_left (by simp [one]))
    have hu := T.und ht
    have huk := T.und hk
    rw [hK] at huk
    have hf := MapKept.run_findKey (w := w) huk (find_int K K q kvs es.toList 0 hkv)
    have hlt := (Array.getElem?_eq_some_iff.1 hw).1
    have main : ∀ o : Obj, Dj (one b o) r ∧ St ρ w0 h0 { w with heap := w.heap.setIfInBounds b o } (join (one b o) r) := by
      intro o
      refine s.change dd ?_ ?_ ?_ (by simp) rfl rfl rfl
      · intro n hn
        left
        by_cases e : n = b
        · subst e; simp [one]
        · simp [one, e] at hn
      · intro n x hx
        by_cases e : n = b
        · subst e
          simp [one] at hx
          subst hx
          simp [hlt]
        · simp [one, e] at hx
      · intro n _ hn
        have : n ≠ b := by intro e; subst e; simp [one] at hn
        simp [Array.getElem?_setIfInBounds, Ne.symm this]
    have hg := lfind_get kvs q 0
    cases hl : lfind kvs q 0 with
    | none =>
      rw [hl] at hf hg
      have hg' : kget kvs q = none := hg.symm
      have hm' := main (.map es clock)
      refine ⟨_, _, ?_, hm'.2, hset _ _ ⟨es, clock, by rw [kdel_none _ _ hg']; exact hkv, pts_one _ _⟩ hm'.1⟩
      simp only [execOp, e _ _ hm, e _ _ hx]
      simp [resolve, invoke, builtin, e _ _ hm, e _ _ hx, Builtin.delete_, run_underlying hu, MapKept.run_getObj_map hw, checkKey_int huk, hf, MapKept.run_setObj_map _ hw, Result.andThen]
    | some i =>
      rw [hl] at hf
      obtain ⟨i, v0⟩ := i
      obtain ⟨h1, h2⟩ := kv_del K q kvs es.toList 0 i v0 hkv hl
      rw [Nat.sub_zero] at h1 h2
      have hm' := main (.map (es.eraseIdxIfInBounds i) clock)
      have h2' : i < es.size := by simpa using h2
      refine ⟨_, _, ?_, hm'.2, hset _ _ ⟨es.eraseIdxIfInBounds i, clock, ?_, pts_one _ _⟩ hm'.1⟩
      · simp only [execOp, e _ _ hm, e _ _ hx]
        simp [resolve, invoke, builtin, e _ _ hm, e _ _ hx, Builtin.delete_, run_underlying hu, MapKept.run_getObj_map hw, checkKey_int huk, hf, MapKept.run_setObj_map _ hw, Result.andThen]
      · rw [Array.eraseIdxIfInBounds, dif_pos h2', Array.toList_eraseIdx]
        exact h1) h
end
end Go.Proofs.Ytlmhjkbbooghfaa
