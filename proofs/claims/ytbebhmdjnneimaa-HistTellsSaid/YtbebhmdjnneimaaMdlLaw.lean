/- One hand alone, in plain terms: what an op does to what there is, and what stays true. -/
import Derived.Test.YtbebhmdjnneimaaRow2
set_option linter.unusedSimpArgs false
set_option linter.unusedVariables false
namespace Go.Proofs.Ytbebhmdjnneimaa
open Go
abbrev Smp := Int × Int
structure Ser where
  id : Int
  shut : Bool
  any : Bool
  last : Int
  list : List Smp
structure Itr where
  id : Int
  rest : List Smp
structure Mdl where
  ser : List Ser
  its : List Itr
  next : Int
structure MOp where
  kind : Int
  series : Int
  iter : Int
  t : Int
  v : Int
  lo : Int
  hi : Int
  n : Int
structure Rst where
  err : Int
  iter : Int
  list : List Smp
def within (l : List Smp) (f t : Int) : List Smp := l.filter fun s => decide (f ≤ s.1 ∧ s.1 ≤ t)
def serIx (l : List Ser) (id : Int) : Nat := l.findIdx fun s => decide (id ≤ s.id)
def serHas (l : List Ser) (id : Int) : Option Ser := match l[serIx l id]? with | some s => if s.id = id then some s else none | none => none
def itrIx (l : List Itr) (id : Int) : Nat := l.findIdx fun x => decide (x.id = id)
def badOp (o : MOp) : Bool := if 1 ≤ o.kind ∧ o.kind ≤ 5 then decide (o.series < 0 ∨ 16 ≤ o.series) else decide (o.kind ≠ 6 ∧ o.kind ≠ 7)
def nextN (o : MOp) (x : Itr) : Nat := (min (min (max o.n 0) 1000) (x.rest.length : Int)).toNat
def doI (m : Mdl) (o : MOp) : Mdl × Rst :=
  match m.its[itrIx m.its o.iter]? with
  | none => (m, ⟨3, 0, []⟩)
  | some x =>
    if o.kind = 7 then ({ m with its := m.its.take (itrIx m.its o.iter) ++ m.its.drop (itrIx m.its o.iter + 1) }, ⟨0, 0, []⟩)
    else ({ m with its := m.its.set (itrIx m.its o.iter) { x with rest := x.rest.drop (nextN o x) } }, ⟨0, 0, x.rest.take (nextN o x)⟩)
def doA (m : Mdl) (o : MOp) : Mdl × Rst :=
  match serHas m.ser o.series with
  | none => ({ m with ser := m.ser.take (serIx m.ser o.series) ++ [⟨o.series, false, true, o.t, [(o.t, o.v)]⟩] ++ m.ser.drop (serIx m.ser o.series) }, ⟨0, 0, []⟩)
  | some s =>
    if s.shut = true then (m, ⟨2, 0, []⟩)
    else if s.any = true ∧ o.t ≤ s.last then (m, ⟨1, 0, []⟩)
    else ({ m with ser := m.ser.set (serIx m.ser o.series) { s with any := true, last := o.t, list := s.list ++ [(o.t, o.v)] } }, ⟨0, 0, []⟩)
def doS (m : Mdl) (o : MOp) : Mdl × Rst :=
  match serHas m.ser o.series with
  | none => (m, ⟨3, 0, []⟩)
  | some s =>
    if o.kind = 2 then (m, ⟨0, 0, within s.list o.lo o.hi⟩)
    else if o.kind = 3 then
      if s.shut = true then (m, ⟨2, 0, []⟩)
      else ({ m with ser := m.ser.set (serIx m.ser o.series) { s with shut := true } }, ⟨0, 0, []⟩)
    else if o.kind = 4 then ({ m with ser := m.ser.take (serIx m.ser o.series) ++ m.ser.drop (serIx m.ser o.series + 1) }, ⟨0, 0, []⟩)
    else if 8 ≤ m.its.length then (m, ⟨5, 0, []⟩)
    else ({ m with next := m.next + 1, its := m.its ++ [⟨m.next + 1, within s.list o.lo o.hi⟩] }, ⟨0, m.next + 1, []⟩)
def doM (m : Mdl) (o : MOp) : Mdl × Rst :=
  if badOp o = true then (m, ⟨4, 0, []⟩)
  else if o.kind = 6 ∨ o.kind = 7 then doI m o
  else if o.kind = 1 then doA m o else doS m o
/- the same -/
def sameL (a b : List Smp) : Bool := decide (a = b)
def sameSer (a b : Ser) : Bool := decide (a.id = b.id) && (a.shut == b.shut) && (a.any == b.any) && decide (a.last = b.last) && sameL a.list b.list
def sameItr (a b : Itr) : Bool := decide (a.id = b.id) && sameL a.rest b.rest
def allB {α β : Type} (p : α → β → Bool) : List α → List β → Bool
  | [], [] => true
  | a :: l, b :: m => p a b && allB p l m
  | _, _ => false
def sameMdl (a b : Mdl) : Bool := decide (a.next = b.next) && allB sameSer a.ser b.ser && allB sameItr a.its b.its
def sameRst (a b : Rst) : Bool := decide (a.err = b.err) && decide (a.iter = b.iter) && sameL a.list b.list
theorem sameL_refl (a : List Smp) : sameL a a = true := by simp [sameL]
theorem sameSer_refl (a : Ser) : sameSer a a = true := by simp [sameSer, sameL_refl]
theorem sameItr_refl (a : Itr) : sameItr a a = true := by simp [sameItr, sameL_refl]
theorem allB_refl {α : Type} {p : α → α → Bool} (h : ∀ a, p a a = true) : ∀ l : List α, allB p l l = true
  | [] => rfl
  | a :: l => by simp [allB, h a, allB_refl h l]
theorem sameMdl_refl (a : Mdl) : sameMdl a a = true := by simp [sameMdl, allB_refl sameSer_refl, allB_refl sameItr_refl]
theorem sameRst_refl (a : Rst) : sameRst a a = true := by simp [sameRst, sameL_refl]
/- what stays true -/
structure MInv (n : Nat) (m : Mdl) : Prop where
  srt : m.ser.Pairwise fun a b => a.id < b.id
  sers : m.ser.length ≤ n
  lens : ∀ s ∈ m.ser, s.list.length ≤ n
  its : m.its.length ≤ 8
  rests : ∀ x ∈ m.its, x.rest.length ≤ n
  next : 0 ≤ m.next ∧ m.next ≤ n
theorem MInv.zero : MInv 0 ⟨[], [], 0⟩ := ⟨List.Pairwise.nil, Nat.le_refl _, by simp, by simp, by simp, by simp⟩
theorem MInv.mono {n k : Nat} {m : Mdl} (h : MInv n m) (hk : n ≤ k) : MInv k m :=
  ⟨h.srt, Nat.le_trans h.sers hk, fun s hs => Nat.le_trans (h.lens s hs) hk, h.its, fun x hx => Nat.le_trans (h.rests x hx) hk, h.next.1, by have := h.next.2; omega⟩
theorem within_len (l : List Smp) (f t : Int) : (within l f t).length ≤ l.length := List.length_filter_le _ _
theorem serIx_le (l : List Ser) (id : Int) : serIx l id ≤ l.length := List.findIdx_le_length
theorem serHas_some {l : List Ser} {id : Int} {s : Ser} (h : serHas l id = some s) : l[serIx l id]? = some s ∧ s.id = id := by
  unfold serHas at h
  cases hg : l[serIx l id]? with
  | none => simp [hg] at h
  | some x =>
    simp only [hg] at h
    split at h
    · have := Option.some.inj h; subst this; exact ⟨rfl, by assumption⟩
    · cases h
theorem serHas_none {l : List Ser} {id : Int} {s : Ser} (h : serHas l id = none) (hg : l[serIx l id]? = some s) : s.id ≠ id := by
  unfold serHas at h
  simp only [hg] at h
  split at h
  · cases h
  · assumption
theorem ser_before {l : List Ser} {id : Int} {j : Nat} {s : Ser} (hj : j < serIx l id) (hs : l[j]? = some s) : s.id < id := by
  have := List.not_of_lt_findIdx hj
  have hl := (List.getElem?_eq_some_iff.1 hs)
  rw [hl.2] at this
  simpa using this
theorem ser_here {l : List Ser} {id : Int} {s : Ser} (hs : l[serIx l id]? = some s) : id ≤ s.id := by
  have hl := (List.getElem?_eq_some_iff.1 hs)
  have := List.findIdx_getElem (w := hl.1)
  have h2 : l[serIx l id]'hl.1 = s := hl.2
  unfold serIx at h2
  rw [h2] at this
  simpa using this
theorem pw_set {l : List Ser} {i : Nat} {s x : Ser} (h : l.Pairwise fun a b => a.id < b.id) (hs : l[i]? = some s) (hx : x.id = s.id) : (l.set i x).Pairwise fun a b => a.id < b.id := by
  rw [List.pairwise_iff_getElem] at h ⊢
  intro a b ha hb hab
  simp only [List.length_set] at ha hb
  have hl := List.getElem?_eq_some_iff.1 hs
  have := h a b ha hb hab
  rw [List.getElem_set, List.getElem_set]
  split <;> split
  · omega
  · rename_i h1 h2; subst h1; rw [hl.2] at this; rw [hx]; exact this
  · rename_i h1 h2; subst h2; rw [hl.2] at this; rw [hx]; exact this
  · exact this
theorem pw_del {l : List Ser} (i : Nat) (h : l.Pairwise fun a b => a.id < b.id) : (l.take i ++ l.drop (i + 1)).Pairwise fun a b => a.id < b.id := by
  rw [← List.eraseIdx_eq_take_drop_succ]
  exact h.sublist (List.eraseIdx_sublist ..)
theorem pw_ins {l : List Ser} {id : Int} {x : Ser} (h : l.Pairwise fun a b => a.id < b.id) (hn : serHas l id = none) (hx : x.id = id) : (l.take (serIx l id) ++ [x] ++ l.drop (serIx l id)).Pairwise fun a b => a.id < b.id := by
  have h1 : ∀ a ∈ l.take (serIx l id), a.id < id := by
    intro a ha
    obtain ⟨j, hj⟩ := List.mem_iff_getElem?.1 ha
    rw [List.getElem?_take] at hj
    split at hj
    · exact ser_before (by assumption) hj
    · cases hj
  have h2 : ∀ a ∈ l.drop (serIx l id), id < a.id := by
    intro a ha
    obtain ⟨j, hj⟩ := List.mem_iff_getElem?.1 ha
    rw [List.getElem?_drop] at hj
    obtain ⟨s, hs⟩ : ∃ s, l[serIx l id]? = some s := ⟨_, List.getElem?_eq_getElem (by have := (List.getElem?_eq_some_iff.1 hj).1; omega)⟩
    have e1 := ser_here hs
    have e2 := serHas_none hn hs
    by_cases hj0 : j = 0
    · subst hj0; rw [Nat.add_zero, hs] at hj; rw [← Option.some.inj hj]; omega
    · have hl := List.getElem?_eq_some_iff.1 hs
      have hl' := List.getElem?_eq_some_iff.1 hj
      have := (List.pairwise_iff_getElem.1 h) _ _ hl.1 hl'.1 (by omega)
      rw [hl.2, hl'.2] at this
      omega
  rw [List.append_assoc, List.pairwise_append]
  refine ⟨h.sublist (List.take_sublist ..), ?_, ?_⟩
  · rw [List.singleton_append, List.pairwise_cons]
    exact ⟨fun a ha => by rw [hx]; exact h2 a ha, h.sublist (List.drop_sublist ..)⟩
  · intro a ha b hb
    have ha' := h1 a ha
    rcases List.mem_append.1 hb with hb | hb
    · rw [List.mem_singleton.1 hb, hx]; exact ha'
    · have := h2 b hb; omega
theorem mem_set_of {α : Type} {l : List α} {i : Nat} {x y : α} (h : y ∈ l.set i x) : y = x ∨ y ∈ l := by
  obtain ⟨j, hj⟩ := List.mem_iff_getElem?.1 h
  rw [List.getElem?_set] at hj
  split at hj
  · split at hj
    · exact .inl (Option.some.inj hj).symm
    · cases hj
  · exact .inr (List.mem_of_getElem? hj)
theorem mem_del_of {α : Type} {l : List α} {i : Nat} {y : α} (h : y ∈ l.take i ++ l.drop (i + 1)) : y ∈ l := by
  rcases List.mem_append.1 h with h | h
  · exact List.mem_of_mem_take h
  · exact List.mem_of_mem_drop h
theorem del_len {α : Type} (l : List α) (i : Nat) : (l.take i ++ l.drop (i + 1)).length ≤ l.length := by simp; omega
theorem doI_inv {n : Nat} {m : Mdl} (h : MInv n m) (o : MOp) : MInv (n + 1) (doI m o).1 := by
  unfold doI
  have h' := h.mono (Nat.le_succ n)
  split
  · exact h'
  · rename_i x hx
    have hm := List.mem_of_getElem? hx
    split
    · exact ⟨h'.srt, h'.sers, h'.lens, Nat.le_trans (del_len _ _) h'.its, fun y hy => h'.rests y (mem_del_of hy), h'.next⟩
    · refine ⟨h'.srt, h'.sers, h'.lens, by simpa using h'.its, fun y hy => ?_, h'.next⟩
      rcases mem_set_of hy with rfl | hy
      · have := h'.rests x hm; simp; omega
      · exact h'.rests y hy
theorem doA_inv {n : Nat} {m : Mdl} (h : MInv n m) (o : MOp) : MInv (n + 1) (doA m o).1 := by
  unfold doA
  have h' := h.mono (Nat.le_succ n)
  split
  · rename_i hn
    refine ⟨pw_ins h.srt hn rfl, ?_, fun s hs => ?_, h'.its, h'.rests, h'.next⟩
    · have := h.sers; have := serIx_le m.ser o.series; simp; omega
    · simp only [List.mem_append, List.mem_singleton] at hs
      rcases hs with (hs | rfl) | hs
      · exact h'.lens s (List.mem_of_mem_take hs)
      · simp
      · exact h'.lens s (List.mem_of_mem_drop hs)
  · rename_i s hs
    obtain ⟨hg, hid⟩ := serHas_some hs
    have hm := List.mem_of_getElem? hg
    split
    · exact h'
    · split
      · exact h'
      · refine ⟨pw_set h.srt hg rfl, by simpa using h'.sers, fun y hy => ?_, h'.its, h'.rests, h'.next⟩
        rcases mem_set_of hy with rfl | hy
        · have := h.lens s hm; simp; omega
        · exact h'.lens y hy
theorem doS_inv {n : Nat} {m : Mdl} (h : MInv n m) (o : MOp) : MInv (n + 1) (doS m o).1 := by
  unfold doS
  have h' := h.mono (Nat.le_succ n)
  split
  · exact h'
  · rename_i s hs
    obtain ⟨hg, hid⟩ := serHas_some hs
    have hm := List.mem_of_getElem? hg
    split
    · exact h'
    · split
      · split
        · exact h'
        · refine ⟨pw_set h.srt hg rfl, by simpa using h'.sers, fun y hy => ?_, h'.its, h'.rests, h'.next⟩
          rcases mem_set_of hy with rfl | hy
          · exact h'.lens s hm
          · exact h'.lens y hy
      · split
        · exact ⟨pw_del _ h.srt, Nat.le_trans (del_len _ _) h'.sers, fun y hy => h'.lens y (mem_del_of hy), h'.its, h'.rests, h'.next⟩
        · split
          · exact h'
          · refine ⟨h'.srt, h'.sers, h'.lens, by simp; omega, fun y hy => ?_, by have := h.next; simp; omega⟩
            simp only [List.mem_append, List.mem_singleton] at hy
            rcases hy with hy | rfl
            · exact h'.rests y hy
            · exact Nat.le_trans (within_len _ _ _) (h'.lens s hm)
theorem doM_inv {n : Nat} {m : Mdl} (h : MInv n m) (o : MOp) : MInv (n + 1) (doM m o).1 := by
  unfold doM
  split
  · exact h.mono (Nat.le_succ n)
  · split
    · exact doI_inv h o
    · split
      · exact doA_inv h o
      · exact doS_inv h o
theorem rst_len {n : Nat} {m : Mdl} (h : MInv n m) (o : MOp) : (doM m o).2.list.length ≤ n := by
  unfold doM
  split
  · simp
  · split
    · unfold doI
      split
      · simp
      · rename_i x hx
        have := h.rests x (List.mem_of_getElem? hx)
        split
        · simp
        · simp; omega
    · split
      · unfold doA
        split
        · simp
        · split
          · simp
          · split <;> simp
      · unfold doS
        split
        · simp
        · rename_i s hs
          have := h.lens s (List.mem_of_getElem? (serHas_some hs).1)
          have := within_len s.list o.lo o.hi
          split
          · simp only []; omega
          · split
            · split <;> simp
            · split
              · simp
              · split <;> simp
/-- where a series stands, found by its number -/
theorem ser_find {l : List Ser} {id : Int} (h : l.Pairwise fun a b => a.id < b.id) : l.findIdx (fun s => decide (s.id = id)) = if (serHas l id).isSome then serIx l id else l.length := by
  cases hh : serHas l id with
  | some s =>
    obtain ⟨hg, hid⟩ := serHas_some hh
    have hl := List.getElem?_eq_some_iff.1 hg
    simp only [Option.isSome_some, if_true]
    rw [List.findIdx_eq hl.1]
    refine ⟨by rw [hl.2]; simp [hid], fun j hj => ?_⟩
    have h1 := hl.1
    have := ser_before hj (List.getElem?_eq_getElem (by omega))
    simp; omega
  | none =>
    simp only [Option.isSome_none, Bool.false_eq_true, if_false]
    refine List.findIdx_eq_length_of_false fun s hs => ?_
    obtain ⟨j, hj⟩ := List.mem_iff_getElem?.1 hs
    have hl := List.getElem?_eq_some_iff.1 hj
    simp only [decide_eq_false_iff_not]
    rcases Nat.lt_trichotomy j (serIx l id) with h1 | h1 | h1
    · have := ser_before h1 hj; omega
    · subst h1; exact serHas_none hh hj
    · have h2 := hl.1
      obtain ⟨x, hx⟩ : ∃ x, l[serIx l id]? = some x := ⟨_, List.getElem?_eq_getElem (by omega)⟩
      have hl' := List.getElem?_eq_some_iff.1 hx
      have := (List.pairwise_iff_getElem.1 h) _ _ hl'.1 hl.1 h1
      rw [hl.2, hl'.2] at this
      have := ser_here hx
      omega
end Go.Proofs.Ytbebhmdjnneimaa
