/- Values by a list: the bytes of values, and the values of bytes. In plain Lean. -/
import Derived.Test.YtjibmfkhhljhcaaForpLaw
set_option linter.unusedSimpArgs false
set_option linter.unusedVariables false
namespace Go.Proofs.Ytjibmfkhhljhcaa
open Go
/-- the values that are unlike, 256 at most -/
def unl : List Nat → List Nat → Option (List Nat)
  | ws, [] => some ws
  | ws, x :: l => if x ∈ ws then unl ws l else if ws.length = 256 then none else unl (ws ++ [x]) l
theorem unl_ok : ∀ (l ws r : List Nat), unl ws l = some r → ws.length ≤ 256 → (∃ t, r = ws ++ t) ∧ (∀ x ∈ l, x ∈ r) ∧ r.length ≤ 256 ∧ r.length ≤ ws.length + l.length ∧ (∀ x ∈ r, x ∈ ws ∨ x ∈ l)
  | [], ws, r, h, hw => by
    have e := Option.some.inj h
    subst e
    exact ⟨⟨[], by simp⟩, by simp, hw, by simp, fun x hx => .inl hx⟩
  | x :: l, ws, r, h, hw => by
    unfold unl at h
    split at h
    · rename_i hx
      obtain ⟨⟨t, ht⟩, h2, h3, h4, h5⟩ := unl_ok l ws r h hw
      refine ⟨⟨t, ht⟩, ?_, h3, by simp; omega, fun y hy => (h5 y hy).imp_right (fun q => by simp [q])⟩
      intro y hy
      rcases List.mem_cons.1 hy with rfl | hy
      · rw [ht]; simp [hx]
      · exact h2 y hy
    · split at h
      · cases h
      · rename_i hx hn
        obtain ⟨⟨t, ht⟩, h2, h3, h4, h5⟩ := unl_ok l (ws ++ [x]) r h (by simp; omega)
        refine ⟨⟨x :: t, by rw [ht]; simp⟩, ?_, h3, by simp at h4 ⊢; omega, ?_⟩
        · intro y hy
          rcases List.mem_cons.1 hy with rfl | hy
          · rw [ht]; simp
          · exact h2 y hy
        · intro y hy
          rcases h5 y hy with q | q
          · rcases List.mem_append.1 q with q | q
            · exact .inl q
            · right; simp at q; simp [q]
          · exact .inr (by simp [q])
theorem unl_some : ∀ (l ws : List Nat), ws.length + l.length ≤ 256 → ∃ r, unl ws l = some r
  | [], ws, _ => ⟨ws, rfl⟩
  | x :: l, ws, h => by
    simp only [List.length_cons] at h
    unfold unl
    split
    · exact unl_some l ws (by omega)
    · rw [if_neg (by omega)]
      exact unl_some l (ws ++ [x]) (by simp; omega)
theorem idx_app {ws t : List Nat} {x : Nat} (h : x ∈ ws) : (ws ++ t).idxOf x = ws.idxOf x := by
  rw [List.idxOf_append, if_pos h]
/-- the width of a place among so many -/
def wD (k : Nat) : Nat := lenB 64 (k - 1)
theorem wD_le (k : Nat) : wD k ≤ 64 := lenB_up _ _
def headD (ws : List Nat) : List Nat := vputF 9 ws.length ++ ws.flatMap (vputF 9)
def placesD (ws v : List Nat) : List Nat := v.map (fun x => ws.idxOf x)
/-- the bytes of values -/
def encDw (ws v : List Nat) : List Nat := headD ws ++ pack (bitsL (wD ws.length) (placesD ws v))
def encD (v : List Nat) : Option (List Nat) :=
  match unl [] v with
  | none => none
  | some ws => if v = [] then some [] else some (encDw ws v)
theorem encD_nil : encD [] = some [] := rfl
theorem encD_some {v ws : List Nat} (hv : v ≠ []) (h : unl [] v = some ws) : encD v = some (encDw ws v) := by unfold encD; rw [h]; simp [hv]
theorem encD_none {v : List Nat} (h : unl [] v = none) : encD v = none := by unfold encD; rw [h]
theorem flatput_len : ∀ ws : List Nat, (ws.flatMap (vputF 9)).length ≤ 10 * ws.length
  | [] => by simp
  | x :: l => by
    have h1 := vput_len 9 x
    have h2 := flatput_len l
    simp only [List.flatMap_cons, List.length_append, List.length_cons]; omega
theorem headD_len (ws : List Nat) : (headD ws).length ≤ 10 + 10 * ws.length := by
  have h1 := vput_len 9 ws.length
  have h2 := flatput_len ws
  unfold headD
  rw [List.length_append]; omega
theorem headD_lt {ws : List Nat} (hl : ws.length ≤ 256) (hw : ∀ x ∈ ws, x < 18446744073709551616) : ∀ x ∈ headD ws, x < 256 := by
  intro x hx
  rcases List.mem_append.1 hx with h | h
  · exact vput9_lt (by omega) x h
  · obtain ⟨y, hy, h⟩ := List.mem_flatMap.1 h
    exact vput9_lt (hw y hy) x h
theorem encDw_len (ws v : List Nat) (hl : ws.length ≤ 256) : (encDw ws v).length ≤ 2600 + 8 * v.length := by
  have h1 := headD_len ws
  have h2 := pack_len (bitsL (wD ws.length) (placesD ws v))
  have h3 := bitsL_len (wD ws.length) (placesD ws v)
  have h4 := wD_le ws.length
  have h5 : (placesD ws v).length = v.length := by simp [placesD]
  have h6 : v.length * wD ws.length ≤ v.length * 64 := Nat.mul_le_mul_left _ h4
  unfold encDw
  rw [List.length_append]
  rw [h5] at h3
  omega
theorem encDw_lt {ws v : List Nat} (hl : ws.length ≤ 256) (hw : ∀ x ∈ ws, x < 18446744073709551616) : ∀ x ∈ encDw ws v, x < 256 := by
  intro x hx
  rcases List.mem_append.1 hx with h | h
  · exact headD_lt hl hw x h
  · exact pack_lt _ (bitsL_bit _ _) x h
theorem encD_ok {v bs : List Nat} (h : encD v = some bs) (hw : ∀ x ∈ v, x < 18446744073709551616) : bs.length ≤ 2600 + 8 * v.length ∧ ∀ x ∈ bs, x < 256 := by
  unfold encD at h
  cases hu : unl [] v with
  | none => rw [hu] at h; cases h
  | some ws =>
    rw [hu] at h
    simp only [] at h
    obtain ⟨_, h2, h3, _, h5⟩ := unl_ok _ _ _ hu (by simp)
    have hw' : ∀ x ∈ ws, x < 18446744073709551616 := fun x hx => (h5 x hx).elim (fun q => by cases q) (hw x)
    split at h
    · have e := Option.some.inj h
      subst e
      simp
    · have e := Option.some.inj h
      subst e
      exact ⟨encDw_len ws v h3, encDw_lt h3 hw'⟩
/-- the values that are unlike, of bytes -/
def valsF : Nat → List Nat → List Nat → Option (List Nat × List Nat)
  | 0, bs, out => some (out, bs)
  | k + 1, bs, out => if (vgetF 0 0 bs).2 = 0 then none else valsF k (bs.drop (vgetF 0 0 bs).2) (out ++ [(vgetF 0 0 bs).1])
def valsD (bs : List Nat) : Option (List Nat × List Nat) :=
  if (vgetF 0 0 bs).2 = 0 ∨ (vgetF 0 0 bs).1 = 0 ∨ 256 < (vgetF 0 0 bs).1 then none else valsF (vgetF 0 0 bs).1 (bs.drop (vgetF 0 0 bs).2) []
theorem valsF_len : ∀ (k : Nat) (bs out : List Nat) (r : List Nat × List Nat), valsF k bs out = some r → r.1.length = out.length + k ∧ r.2.length ≤ bs.length ∧ ((∀ x ∈ bs, x < 256) → (∀ x ∈ out, x < 18446744073709551616) → (∀ x ∈ r.1, x < 18446744073709551616) ∧ ∀ x ∈ r.2, x < 256)
  | 0, bs, out, r, h => by
    have e := Option.some.inj h
    subst e
    exact ⟨rfl, Nat.le_refl _, fun h1 h2 => ⟨h2, h1⟩⟩
  | k + 1, bs, out, r, h => by
    unfold valsF at h
    split at h
    · cases h
    · obtain ⟨h1, h2, h3⟩ := valsF_len k _ _ r h
      refine ⟨by rw [h1]; simp; omega, Nat.le_trans h2 (by simp), fun q1 q2 => h3 (fun x hx => q1 x (List.mem_of_mem_drop hx)) (fun x hx => ?_)⟩
      rcases List.mem_append.1 hx with h | h
      · exact q2 x h
      · simp at h; rw [h]; exact vget_bound _ 0 0 (by decide) (by decide) q1
theorem valsF_put : ∀ (ws rest out : List Nat), (∀ x ∈ ws, x < 18446744073709551616) → valsF ws.length (ws.flatMap (vputF 9) ++ rest) out = some (out ++ ws, rest)
  | [], rest, out, _ => by simp [valsF]
  | x :: ws, rest, out, h => by
    have hx := h x (by simp)
    have hl := vput_len 9 x
    rw [List.length_cons, valsF, List.flatMap_cons, List.append_assoc, vget9 x _ hx]
    simp only []
    rw [if_neg (by omega), List.drop_left, valsF_put ws rest _ (fun y hy => h y (by simp [hy]))]
    simp
theorem valsD_put {ws rest : List Nat} (h0 : ws ≠ []) (hl : ws.length ≤ 256) (hw : ∀ x ∈ ws, x < 18446744073709551616) : valsD (headD ws ++ rest) = some (ws, rest) := by
  have hpos : 0 < ws.length := List.length_pos_iff.2 h0
  have hl9 := vput_len 9 ws.length
  unfold valsD headD
  rw [List.append_assoc, vget9 _ _ (by omega)]
  simp only []
  rw [if_neg (by omega), List.drop_left, valsF_put ws rest [] hw]
  simp
/-- the values that stand at places -/
def pickD (ws ats : List Nat) : List Nat := ats.map (fun a => ws.getD a 0)
def decD (bs : List Nat) (n : Int) : Option (List Nat) :=
  if heldM n = 0 then (if bs = [] then some [] else none)
  else match valsD bs with
  | none => none
  | some r =>
    if (∀ a ∈ numI r.2 (wD r.1.length) (heldM n), a < r.1.length) ∧ encD (pickD r.1 (numI r.2 (wD r.1.length) (heldM n))) = some bs then some (pickD r.1 (numI r.2 (wD r.1.length) (heldM n))) else none
theorem unl_ne {v ws : List Nat} (hv : v ≠ []) (h : unl [] v = some ws) : ws ≠ [] := by
  cases v with
  | nil => exact absurd rfl hv
  | cons x l =>
    have := (unl_ok _ _ _ h (by simp)).2.1 x (by simp)
    intro e
    rw [e] at this
    cases this
/-- bytes that have too few bits are no values -/
theorem decD_short {bs out ws rest : List Nat} {m : Nat} (hv : valsD bs = some (ws, rest)) (hl : out.length = m) (hm : 0 < m) (hw : ∀ x ∈ out, x < 18446744073709551616) (hs : 8 * rest.length < m * wD ws.length) : encD out ≠ some bs := by
  intro e
  have hne : out ≠ [] := by intro h; rw [h] at hl; simp at hl; omega
  cases hu : unl [] out with
  | none => rw [encD_none hu] at e; cases e
  | some ws' =>
    rw [encD_some hne hu] at e
    have e := Option.some.inj e
    obtain ⟨_, _, h3, _, h5⟩ := unl_ok _ _ _ hu (by simp)
    have hw' : ∀ x ∈ ws', x < 18446744073709551616 := fun x hx => (h5 x hx).elim (fun q => by cases q) (hw x)
    rw [← e, encDw, valsD_put (unl_ne hne hu) h3 hw'] at hv
    have e1 := congrArg Prod.fst (Option.some.inj hv)
    have e2 := congrArg Prod.snd (Option.some.inj hv)
    simp only [] at e1 e2
    subst e1
    have h6 := pack_len (bitsL (wD ws'.length) (placesD ws' out))
    have h7 := bitsL_len (wD ws'.length) (placesD ws' out)
    have h8 : (placesD ws' out).length = m := by simp [placesD, hl]
    rw [h8] at h7
    rw [← e2] at hs
    omega
theorem wD_val {k i : Nat} (hk : k ≤ 256) (h : i < k) : i < 2 ^ wD k := by
  have := (lenB_le 64 (k - 1) (wD k) (by show _ < 18446744073709551616; omega)).1 (Nat.le_refl _)
  omega
theorem decD_encD {v bs : List Nat} {n : Int} (hn : v.length = heldM n) (hw : ∀ x ∈ v, x < 18446744073709551616) (he : encD v = some bs) : decD bs n = some v := by
  unfold decD
  by_cases h0 : v = []
  · subst h0
    rw [encD_nil] at he
    rw [if_pos (by rw [← hn]; rfl), if_pos (Option.some.inj he).symm]
  · have hpos : 0 < v.length := List.length_pos_iff.2 h0
    rw [if_neg (by omega)]
    cases hu : unl [] v with
    | none => rw [encD_none hu] at he; cases he
    | some ws =>
      have he0 := he
      rw [encD_some h0 hu] at he
      have he := Option.some.inj he
      obtain ⟨_, h2, h3, _, h5⟩ := unl_ok _ _ _ hu (by simp)
      have hw' : ∀ x ∈ ws, x < 18446744073709551616 := fun x hx => (h5 x hx).elim (fun q => by cases q) (hw x)
      have hvd : valsD bs = some (ws, pack (bitsL (wD ws.length) (placesD ws v))) := by
        rw [← he, encDw]; exact valsD_put (unl_ne h0 hu) h3 hw'
      rw [hvd]
      simp only []
      have hpl : (placesD ws v).length = v.length := by simp [placesD]
      have hnum : numI (pack (bitsL (wD ws.length) (placesD ws v))) (wD ws.length) (heldM n) = placesD ws v := by
        unfold numI
        rw [← hn, ← hpl]
        refine map_range_eq _ _ (fun i x hx => rdV_bits _ (fun y hy => ?_) hx)
        obtain ⟨z, hz, rfl⟩ := List.mem_map.1 hy
        exact wD_val h3 (List.idxOf_lt_length_of_mem (h2 z hz))
      have hpick : pickD ws (placesD ws v) = v := by
        unfold pickD placesD
        rw [List.map_map]
        conv => rhs; rw [← List.map_id v]
        refine List.map_congr_left (fun x hx => ?_)
        have hm := h2 x hx
        simp only [Function.comp, List.getD, id]
        rw [List.getElem?_eq_getElem (List.idxOf_lt_length_of_mem hm)]
        simp
      have hall : ∀ a ∈ placesD ws v, a < ws.length := by
        intro a ha
        obtain ⟨z, hz, rfl⟩ := List.mem_map.1 ha
        exact List.idxOf_lt_length_of_mem (h2 z hz)
      rw [hnum, hpick, if_pos ⟨hall, he0⟩]
theorem pickD_lt {ws ats : List Nat} (hw : ∀ x ∈ ws, x < 18446744073709551616) : ∀ x ∈ pickD ws ats, x < 18446744073709551616 := by
  intro x hx
  obtain ⟨a, _, rfl⟩ := List.mem_map.1 hx
  simp only [List.getD]
  cases h : ws[a]? with
  | none => simp
  | some y => exact hw y (List.mem_of_getElem? h)
theorem decD_ok {bs : List Nat} {n : Int} {o : List Nat} (hb : ∀ x ∈ bs, x < 256) (h : decD bs n = some o) : o.length = heldM n ∧ ∀ x ∈ o, x < 18446744073709551616 := by
  unfold decD at h
  split at h
  · rename_i h0
    split at h
    · have e := Option.some.inj h; subst e; exact ⟨by rw [h0]; rfl, by simp⟩
    · cases h
  · split at h
    · cases h
    · rename_i r hr
      split at h
      · have e := Option.some.inj h; subst e
        refine ⟨by simp [pickD, numI_len], pickD_lt ?_⟩
        unfold valsD at hr
        split at hr
        · cases hr
        · exact ((valsF_len _ _ _ r hr).2.2 (fun x hx => hb x (List.mem_of_mem_drop hx)) (by simp)).1
      · cases h
/-- the map of places -/
def kvF : Nat → List Nat → List (Int × Value)
  | _, [] => []
  | i, x :: l => ((x : Int), .int .i64 (i : Int)) :: kvF (i + 1) l
theorem kvF_snoc : ∀ (ws : List Nat) (i x : Nat), kvF i (ws ++ [x]) = kvF i ws ++ [((x : Int), .int .i64 ((i + ws.length : Nat) : Int))]
  | [], i, x => by simp [kvF]
  | y :: l, i, x => by
    rw [List.cons_append, kvF, kvF_snoc l (i + 1) x, kvF, List.cons_append, List.length_cons]
    congr 6
    omega
end Go.Proofs.Ytjibmfkhhljhcaa
