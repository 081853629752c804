/- One hand alone, in plain terms: what an iterator tells. -/
import Derived.Test.YtbebhmdjnneimaaMdlLaw
set_option linter.unusedSimpArgs false
set_option linter.unusedVariables false
namespace Go.Proofs.Ytbebhmdjnneimaa
open Go
def findI (l : List Itr) (id : Int) : Option Itr := l.find? fun x => decide (x.id = id)
theorem get_findIdx {α : Type} (p : α → Bool) : ∀ l : List α, l[l.findIdx p]? = l.find? p
  | [] => rfl
  | a :: l => by
    rw [List.findIdx_cons, List.find?_cons]
    cases h : p a with
    | true => simp
    | false => simpa [h] using get_findIdx p l
theorem findI_get (l : List Itr) (id : Int) : l[itrIx l id]? = findI l id := get_findIdx _ l
theorem findI_id {l : List Itr} {id : Int} {x : Itr} (h : findI l id = some x) : x.id = id := by
  have := List.find?_some h
  simpa using this
theorem findI_mem {l : List Itr} {id : Int} {x : Itr} (h : findI l id = some x) : x ∈ l := List.mem_of_find?_eq_some h
theorem findI_app {l m : List Itr} {id : Int} {x : Itr} (h : findI l id = some x) : findI (l ++ m) id = some x := by
  unfold findI at h ⊢
  rw [List.find?_append, h]; rfl
theorem findI_new {l : List Itr} {id : Int} (r : List Smp) (h : ∀ x ∈ l, x.id ≠ id) : findI (l ++ [⟨id, r⟩]) id = some ⟨id, r⟩ := by
  unfold findI
  rw [List.find?_append, List.find?_eq_none.2 (fun x hx => by simp [h x hx])]
  simp
theorem findI_set_other : ∀ {l : List Itr} {i : Nat} {id : Int} {x y : Itr}, l[i]? = some y → y.id ≠ id → x.id ≠ id → findI (l.set i x) id = findI l id
  | [], _, _, _, _, h, _, _ => by cases h
  | a :: l, 0, id, x, y, h, hy, hx => by
    have : a = y := Option.some.inj h
    subst this
    simp [findI, hy, hx]
  | a :: l, i + 1, id, x, y, h, hy, hx => by
    have ih := findI_set_other (l := l) (i := i) (x := x) (by simpa using h) hy hx
    unfold findI at ih ⊢
    rw [List.set_cons_succ, List.find?_cons, List.find?_cons, ih]
theorem findI_del_other : ∀ {l : List Itr} {i : Nat} {id : Int} {y : Itr}, l[i]? = some y → y.id ≠ id → findI (l.take i ++ l.drop (i + 1)) id = findI l id
  | [], _, _, _, h, _ => by cases h
  | a :: l, 0, id, y, h, hy => by
    have : a = y := Option.some.inj h
    subst this
    simp [findI, hy]
  | a :: l, i + 1, id, y, h, hy => by
    have ih := findI_del_other (l := l) (i := i) (by simpa using h) hy
    unfold findI at ih ⊢
    rw [List.take_succ_cons, List.drop_succ_cons, List.cons_append, List.find?_cons, List.find?_cons, ih]
theorem findI_set_self : ∀ {l : List Itr} {id : Int} {x : Itr} (r : List Smp), findI l id = some x → findI (l.set (itrIx l id) { x with rest := r }) id = some { x with rest := r }
  | [], _, _, _, h => by cases h
  | a :: l, id, x, r, h => by
    by_cases ha : a.id = id
    · have hx : a = x := by simpa [findI, ha] using h
      subst hx
      have e : itrIx (a :: l) id = 0 := by simp [itrIx, List.findIdx_cons, ha]
      rw [e]
      simp [findI, ha]
    · have h' : findI l id = some x := by simpa [findI, ha] using h
      have ih := findI_set_self r h'
      have e : itrIx (a :: l) id = itrIx l id + 1 := by simp [itrIx, List.findIdx_cons, ha]
      rw [e, List.set_cons_succ]
      unfold findI at ih ⊢
      rw [List.find?_cons]
      simpa [ha] using ih
def Ids (m : Mdl) : Prop := ∀ x ∈ m.its, x.id ≤ m.next
theorem doM_ids {m : Mdl} (h : Ids m) (o : MOp) : Ids (doM m o).1 := by
  unfold doM
  split
  · exact h
  · split
    · unfold doI
      split
      · exact h
      · rename_i x hx
        split
        · exact fun y hy => h y (mem_del_of hy)
        · intro y hy
          rcases mem_set_of hy with rfl | hy
          · exact h x (List.mem_of_getElem? hx)
          · exact h y hy
    · split
      · unfold doA
        split
        · exact h
        · split
          · exact h
          · split <;> exact h
      · unfold doS
        split
        · exact h
        · split
          · exact h
          · split
            · split <;> exact h
            · split
              · exact h
              · split
                · exact h
                · intro y hy
                  simp only [List.mem_append, List.mem_singleton] at hy
                  rcases hy with hy | rfl
                  · have := h y hy; simp only []; omega
                  · exact Int.le_refl _
/-- an op that is not of an iterator leaves it as it is -/
theorem keepI {m : Mdl} {id : Int} {x : Itr} (h : findI m.its id = some x) (o : MOp) (ho : o.iter ≠ id) : findI (doM m o).1.its id = some x := by
  unfold doM
  split
  · exact h
  · split
    · unfold doI
      rw [findI_get]
      cases hf : findI m.its o.iter with
      | none => exact h
      | some y =>
        have hy := findI_id hf
        have hg : m.its[itrIx m.its o.iter]? = some y := by rw [findI_get, hf]
        dsimp only
        split
        · rw [findI_del_other hg (by rw [hy]; exact ho)]; exact h
        · rw [findI_set_other hg (by rw [hy]; exact ho) (by simp only []; rw [hy]; exact ho)]; exact h
    · split
      · unfold doA
        split
        · exact h
        · split
          · exact h
          · split <;> exact h
      · unfold doS
        split
        · exact h
        · split
          · exact h
          · split
            · split <;> exact h
            · split
              · exact h
              · split
                · exact h
                · exact findI_app h
/-- a step of it -/
theorem stepI {m : Mdl} {id : Int} {x : Itr} (h : findI m.its id = some x) (s t v lo hi n : Int) :
    (doM m ⟨6, s, id, t, v, lo, hi, n⟩).2 = ⟨0, 0, x.rest.take (nextN ⟨6, s, id, t, v, lo, hi, n⟩ x)⟩ ∧ findI (doM m ⟨6, s, id, t, v, lo, hi, n⟩).1.its id = some { x with rest := x.rest.drop (nextN ⟨6, s, id, t, v, lo, hi, n⟩ x) } := by
  have e : doM m ⟨6, s, id, t, v, lo, hi, n⟩ = doI m ⟨6, s, id, t, v, lo, hi, n⟩ := by
    unfold doM
    rw [if_neg (by simp [badOp]), if_pos (.inl rfl)]
  have hg : m.its[itrIx m.its id]? = some x := by rw [findI_get, h]
  rw [e]
  unfold doI
  simp only [hg]
  rw [if_neg (by decide)]
  exact ⟨rfl, findI_set_self _ h⟩
/-- what is opened is what would be read -/
theorem openI {m : Mdl} (hids : Ids m) {s : Int} (h0 : 0 ≤ s) (h3 : s ≤ 3) (f t : Int) :
    ((doM m ⟨5, s, 0, 0, 0, f, t, 0⟩).2.err ≠ 0 ∧ ((doM m ⟨5, s, 0, 0, 0, f, t, 0⟩).2.err = (doM m ⟨2, s, 0, 0, 0, f, t, 0⟩).2.err ∨ (doM m ⟨5, s, 0, 0, 0, f, t, 0⟩).2.err = 5)) ∨
    ((doM m ⟨5, s, 0, 0, 0, f, t, 0⟩).2.err = 0 ∧ (doM m ⟨2, s, 0, 0, 0, f, t, 0⟩).2.err = 0 ∧ findI (doM m ⟨5, s, 0, 0, 0, f, t, 0⟩).1.its (doM m ⟨5, s, 0, 0, 0, f, t, 0⟩).2.iter = some ⟨(doM m ⟨5, s, 0, 0, 0, f, t, 0⟩).2.iter, (doM m ⟨2, s, 0, 0, 0, f, t, 0⟩).2.list⟩) := by
  have b5 : badOp ⟨5, s, 0, 0, 0, f, t, 0⟩ = false := by simp [badOp]; omega
  have b2 : badOp ⟨2, s, 0, 0, 0, f, t, 0⟩ = false := by simp [badOp]; omega
  have e5 : doM m ⟨5, s, 0, 0, 0, f, t, 0⟩ = doS m ⟨5, s, 0, 0, 0, f, t, 0⟩ := by
    unfold doM
    rw [if_neg (by rw [b5]; decide), if_neg (by simp), if_neg (by simp)]
  have e2 : doM m ⟨2, s, 0, 0, 0, f, t, 0⟩ = doS m ⟨2, s, 0, 0, 0, f, t, 0⟩ := by
    unfold doM
    rw [if_neg (by rw [b2]; decide), if_neg (by simp), if_neg (by simp)]
  rw [e5, e2]
  unfold doS
  simp only []
  cases hh : serHas m.ser s with
  | none => left; simp
  | some y =>
    simp only []
    by_cases h8 : 8 ≤ m.its.length
    · left; simp [h8]
    · right
      simp [h8]
      exact findI_new _ (fun x hx => by have := hids x hx; omega)
end Go.Proofs.Ytbebhmdjnneimaa
