/- Values by their least: the bytes of values, and the values of bytes. In plain Lean. -/
import Derived.Test.YtjibmfkhhljhcaaBitsLaw
import Derived.Test.YtjibmfkhhljhcaaRunlLaw
import Derived.Test.YtjibmfkhhljhcaaIxT
set_option linter.unusedSimpArgs false
set_option linter.unusedVariables false
namespace Go.Proofs.Ytjibmfkhhljhcaa
open Go
/-- the least, and the greatest, of the first 'i' values -/
def loI (v : List Nat) (i : Nat) : Nat := (v.take i).foldl min (v.headD 0)
def hiI (v : List Nat) (i : Nat) : Nat := (v.take i).foldl max (v.headD 0)
def loF (v : List Nat) : Nat := v.foldl min (v.headD 0)
def hiF (v : List Nat) : Nat := v.foldl max (v.headD 0)
theorem loI_all (v : List Nat) : loI v v.length = loF v := by unfold loI loF; rw [List.take_length]
theorem hiI_all (v : List Nat) : hiI v v.length = hiF v := by unfold hiI hiF; rw [List.take_length]
theorem loI_zero (v : List Nat) : loI v 0 = v.headD 0 := rfl
theorem hiI_zero (v : List Nat) : hiI v 0 = v.headD 0 := rfl
theorem loI_one (x : Nat) (l : List Nat) : loI (x :: l) 1 = x := by simp [loI]
theorem hiI_one (x : Nat) (l : List Nat) : hiI (x :: l) 1 = x := by simp [hiI]
theorem loI_next {v : List Nat} {i x : Nat} (h : v[i]? = some x) : loI v (i + 1) = min (loI v i) x := by
  unfold loI; rw [List.take_add_one, h]; simp
theorem hiI_next {v : List Nat} {i x : Nat} (h : v[i]? = some x) : hiI v (i + 1) = max (hiI v i) x := by
  unfold hiI; rw [List.take_add_one, h]; simp
theorem foldmin_le : ∀ (l : List Nat) (a : Nat), l.foldl min a ≤ a ∧ ∀ x ∈ l, l.foldl min a ≤ x
  | [], a => by simp
  | y :: l, a => by
    have h := foldmin_le l (min a y)
    simp only [List.foldl_cons, List.mem_cons]
    refine ⟨by omega, fun x hx => ?_⟩
    rcases hx with rfl | hx
    · omega
    · exact h.2 x hx
theorem foldmax_le : ∀ (l : List Nat) (a : Nat), a ≤ l.foldl max a ∧ ∀ x ∈ l, x ≤ l.foldl max a
  | [], a => by simp
  | y :: l, a => by
    have h := foldmax_le l (max a y)
    simp only [List.foldl_cons, List.mem_cons]
    refine ⟨by omega, fun x hx => ?_⟩
    rcases hx with rfl | hx
    · omega
    · exact h.2 x hx
theorem foldmax_lt (m : Nat) : ∀ (l : List Nat) (a : Nat), a < m → (∀ x ∈ l, x < m) → l.foldl max a < m
  | [], a, h, _ => h
  | y :: l, a, h, hl => foldmax_lt m l (max a y) (by have := hl y (by simp); omega) (fun x hx => hl x (by simp [hx]))
theorem head_lt {v : List Nat} (hw : ∀ x ∈ v, x < 18446744073709551616) : v.headD 0 < 18446744073709551616 := by
  cases v with
  | nil => decide
  | cons x l => exact hw x (by simp)
theorem loI_lt {v : List Nat} (hw : ∀ x ∈ v, x < 18446744073709551616) (i : Nat) : loI v i < 18446744073709551616 :=
  Nat.lt_of_le_of_lt (foldmin_le _ _).1 (head_lt hw)
theorem hiI_lt {v : List Nat} (hw : ∀ x ∈ v, x < 18446744073709551616) (i : Nat) : hiI v i < 18446744073709551616 :=
  foldmax_lt _ _ _ (head_lt hw) (fun x hx => hw x (List.mem_of_mem_take hx))
theorem loF_lt {v : List Nat} (hw : ∀ x ∈ v, x < 18446744073709551616) : loF v < 18446744073709551616 := by rw [← loI_all]; exact loI_lt hw _
theorem hiF_lt {v : List Nat} (hw : ∀ x ∈ v, x < 18446744073709551616) : hiF v < 18446744073709551616 := by rw [← hiI_all]; exact hiI_lt hw _
theorem loF_le {v : List Nat} {x : Nat} (h : x ∈ v) : loF v ≤ x := (foldmin_le _ _).2 x h
theorem le_hiF {v : List Nat} {x : Nat} (h : x ∈ v) : x ≤ hiF v := (foldmax_le _ _).2 x h
theorem loF_hiF (v : List Nat) : loF v ≤ hiF v := Nat.le_trans (foldmin_le v (v.headD 0)).1 (foldmax_le v (v.headD 0)).1
/-- how wide the values are -/
def wF (v : List Nat) : Nat := lenB 64 (hiF v - loF v)
theorem wF_le (v : List Nat) : wF v ≤ 64 := lenB_up _ _
theorem wF_val {v : List Nat} (hw : ∀ x ∈ v, x < 18446744073709551616) {x : Nat} (h : x ∈ v) : x - loF v < 2 ^ wF v := by
  have h1 := le_hiF h
  have h2 := hiF_lt hw
  have h3 := (lenB_le 64 (hiF v - loF v) (wF v) (by show _ < 18446744073709551616; omega)).1 (Nat.le_refl _)
  omega
/-- numbers, each in so many bits -/
def bitsL (w : Nat) (l : List Nat) : List Nat := l.flatMap (fun x => bitsOf x w)
theorem bitsL_len (w : Nat) : ∀ l : List Nat, (bitsL w l).length = l.length * w
  | [] => by simp [bitsL]
  | x :: l => by
    have := bitsL_len w l
    unfold bitsL at this ⊢
    rw [List.flatMap_cons, List.length_append, this, bitsOf_len, List.length_cons, Nat.succ_mul]
    omega
theorem bitsL_bit (w : Nat) : ∀ l : List Nat, ∀ d ∈ bitsL w l, d < 2
  | [] => by simp [bitsL]
  | x :: l => by
    unfold bitsL
    rw [List.flatMap_cons]
    exact bok_app (bitsOf_bit _ _) (bitsL_bit w l)
theorem bitsL_snoc (w : Nat) (l : List Nat) (x : Nat) : bitsL w (l ++ [x]) = bitsL w l ++ bitsOf x w := by simp [bitsL]
theorem bitsL_app (w : Nat) (l m : List Nat) : bitsL w (l ++ m) = bitsL w l ++ bitsL w m := by simp [bitsL]
def lessF (v : List Nat) : List Nat := v.map (· - loF v)
/-- the bytes of values -/
def encFp (v : List Nat) : List Nat := if v = [] then [] else vputF 9 (loF v) ++ [wF v] ++ pack (bitsL (wF v) (lessF v))
theorem encFp_nil : encFp [] = [] := rfl
theorem encFp_ne {v : List Nat} (h : v ≠ []) : encFp v = vputF 9 (loF v) ++ [wF v] ++ pack (bitsL (wF v) (lessF v)) := by unfold encFp; rw [if_neg h]
theorem encFp_len (v : List Nat) : (encFp v).length ≤ 12 + 8 * v.length := by
  by_cases h : v = []
  · subst h; simp [encFp_nil]
  · have h1 := vput_len 9 (loF v)
    have h2 := pack_len (bitsL (wF v) (lessF v))
    have h3 := bitsL_len (wF v) (lessF v)
    have h4 := wF_le v
    have h5 : (lessF v).length = v.length := by simp [lessF]
    have h6 : v.length * wF v ≤ v.length * 64 := Nat.mul_le_mul_left _ h4
    rw [encFp_ne h]
    simp only [List.length_append, List.length_cons, List.length_nil]
    rw [h5] at h3
    omega
theorem encFp_lt {v : List Nat} (hw : ∀ x ∈ v, x < 18446744073709551616) : ∀ x ∈ encFp v, x < 256 := by
  by_cases h : v = []
  · subst h; simp [encFp_nil]
  · rw [encFp_ne h]
    intro x hx
    have h4 := wF_le v
    rcases List.mem_append.1 hx with hx | hx
    · rcases List.mem_append.1 hx with hx | hx
      · exact vput9_lt (loF_lt hw) x hx
      · simp at hx; omega
    · exact pack_lt _ (bitsL_bit _ _) x hx
/-- the number that stands at a place: 0 where there are no bits any more -/
def rdV (bs : List Nat) (w i : Nat) : Nat := if (i + 1) * w ≤ 8 * bs.length then getV bs (i * w) w else 0
theorem rdV_lt (bs : List Nat) (w i : Nat) : rdV bs w i < 2 ^ w := by
  unfold rdV
  split
  · exact getV_lt _ _ _
  · exact Nat.pow_pos (by decide)
def rowI (lo : Nat) (bs : List Nat) (w m : Nat) : List Nat := (List.range m).map (fun i => (lo + rdV bs w i) % 18446744073709551616)
def numI (bs : List Nat) (w m : Nat) : List Nat := (List.range m).map (rdV bs w)
theorem rowI_zero (lo : Nat) (bs : List Nat) (w : Nat) : rowI lo bs w 0 = [] := rfl
theorem numI_zero (bs : List Nat) (w : Nat) : numI bs w 0 = [] := rfl
theorem rowI_next (lo : Nat) (bs : List Nat) (w m : Nat) : rowI lo bs w (m + 1) = rowI lo bs w m ++ [(lo + rdV bs w m) % 18446744073709551616] := by simp [rowI, List.range_succ]
theorem numI_next (bs : List Nat) (w m : Nat) : numI bs w (m + 1) = numI bs w m ++ [rdV bs w m] := by simp [numI, List.range_succ]
theorem rowI_len (lo : Nat) (bs : List Nat) (w m : Nat) : (rowI lo bs w m).length = m := by simp [rowI]
theorem numI_len (bs : List Nat) (w m : Nat) : (numI bs w m).length = m := by simp [numI]
theorem rowI_lt (lo : Nat) (bs : List Nat) (w m : Nat) : ∀ x ∈ rowI lo bs w m, x < 18446744073709551616 := by
  intro x hx
  obtain ⟨i, _, rfl⟩ := List.mem_map.1 hx
  exact Nat.mod_lt _ (by decide)
/-- where a reader stands behind 'i' numbers of 'w' bits -/
def RdAt (bs : List Nat) (w i : Nat) (s : RdSt) : Prop := (s.bad = false ∧ s.at' = i * w ∧ i * w ≤ 8 * bs.length) ∨ (s.bad = true ∧ 8 * bs.length < i * w ∧ s.at' ≤ 8 * bs.length)
theorem RdAt.at' {bs : List Nat} {w i : Nat} {s : RdSt} (h : RdAt bs w i s) : s.at' ≤ 8 * bs.length := by
  rcases h with ⟨_, h, h'⟩ | ⟨_, _, h⟩ <;> omega
theorem rdAt_zero (bs : List Nat) (w : Nat) : RdAt bs w 0 ⟨0, false⟩ := .inl ⟨rfl, by simp, by simp⟩
theorem rdAt_next {bs : List Nat} {w i : Nat} {s : RdSt} (hw : w ≤ 64) (h : RdAt bs w i s) : (getF bs s (w : Int)).1 = rdV bs w i ∧ RdAt bs w (i + 1) (getF bs s (w : Int)).2 := by
  have hh : heldF (w : Int) = w := by unfold heldF; omega
  obtain ⟨a, bad⟩ := s
  have e : (i + 1) * w = i * w + w := Nat.succ_mul i w
  rcases h with ⟨h1, h2, h3⟩ | ⟨h1, h2, h3⟩
  · simp only [] at h1 h2
    subst h1 h2
    unfold getF leftF rdV
    rw [hh]
    by_cases hc : (i + 1) * w ≤ 8 * bs.length
    · rw [if_neg (by simp; omega), if_pos hc]
      exact ⟨rfl, .inl ⟨rfl, e.symm, hc⟩⟩
    · rw [if_pos (by simp; omega), if_neg hc]
      exact ⟨rfl, .inr ⟨rfl, by omega, h3⟩⟩
  · simp only [] at h1 h3
    subst h1
    unfold getF rdV
    rw [if_pos (by simp), if_neg (by omega)]
    exact ⟨rfl, .inr ⟨rfl, by omega, h3⟩⟩
theorem rdAt_bad {bs : List Nat} {w i : Nat} {s : RdSt} (h : RdAt bs w i s) : s.bad = true ↔ 8 * bs.length < i * w := by
  rcases h with ⟨h1, h2, h3⟩ | ⟨h1, h2, h3⟩ <;> simp [h1] <;> omega
/-- the values of bytes -/
def decFp (bs : List Nat) (n : Int) : Option (List Nat) :=
  if heldM n = 0 then (if bs = [] then some [] else none)
  else if (vgetF 0 0 bs).2 = 0 ∨ bs.length ≤ (vgetF 0 0 bs).2 ∨ 64 < bs.getD (vgetF 0 0 bs).2 0 then none
  else if encFp (rowI (vgetF 0 0 bs).1 (bs.drop ((vgetF 0 0 bs).2 + 1)) (bs.getD (vgetF 0 0 bs).2 0) (heldM n)) = bs then some (rowI (vgetF 0 0 bs).1 (bs.drop ((vgetF 0 0 bs).2 + 1)) (bs.getD (vgetF 0 0 bs).2 0) (heldM n)) else none
theorem heldF_nat64 (n : Nat) (h : n ≤ 64) : heldF (n : Int) = n := by unfold heldF; omega
/-- how told values begin -/
theorem encFp_head {v : List Nat} (hv : v ≠ []) (hw : ∀ x ∈ v, x < 18446744073709551616) :
    vgetF 0 0 (encFp v) = (loF v, (vputF 9 (loF v)).length) ∧ (vputF 9 (loF v)).length < (encFp v).length ∧ (encFp v).getD (vputF 9 (loF v)).length 0 = wF v ∧ (encFp v).drop ((vputF 9 (loF v)).length + 1) = pack (bitsL (wF v) (lessF v)) := by
  rw [encFp_ne hv]
  refine ⟨?_, ?_, ?_, ?_⟩
  · rw [List.append_assoc]; exact vget9 _ _ (loF_lt hw)
  · simp
  · simp [List.getD, List.append_assoc]
  · rw [show (vputF 9 (loF v)).length + 1 = (vputF 9 (loF v) ++ [wF v]).length by simp, List.drop_left]
/-- bytes that have too few bits are no values -/
theorem dec_short {bs out : List Nat} {lo a w m : Nat} (hg : vgetF 0 0 bs = (lo, a)) (hwd : bs.getD a 0 = w) (hl : out.length = m) (hm : 0 < m) (hw : ∀ x ∈ out, x < 18446744073709551616)
    (hs : 8 * (bs.drop (a + 1)).length < m * w) : encFp out ≠ bs := by
  intro e
  have hne : out ≠ [] := by intro h; rw [h] at hl; simp at hl; omega
  obtain ⟨h1, h2, h3, h4⟩ := encFp_head hne hw
  rw [e] at h1 h2 h3 h4
  rw [hg] at h1
  have ea := congrArg Prod.snd h1
  simp only [] at ea
  rw [← ea, hwd] at h3
  rw [← ea] at h4
  have h5 := pack_len (bitsL (wF out) (lessF out))
  have h6 := bitsL_len (wF out) (lessF out)
  have h7 : (lessF out).length = m := by simp [lessF, hl]
  rw [h7, ← h3] at h6
  rw [← h3] at h5
  rw [h4, ← h3] at hs
  omega
theorem map_range_eq (v : List Nat) (f : Nat → Nat) (h : ∀ i x, v[i]? = some x → f i = x) : (List.range v.length).map f = v := by
  apply List.ext_getElem?
  intro i
  rw [List.getElem?_map]
  by_cases hi : i < v.length
  · rw [List.getElem?_range hi, List.getElem?_eq_getElem hi]
    simp
    exact h i _ (List.getElem?_eq_getElem hi)
  · rw [List.getElem?_eq_none (by simp; omega), List.getElem?_eq_none (by omega)]; rfl
/-- numbers that were put are read -/
theorem rdV_bits {w : Nat} (l : List Nat) (hl : ∀ x ∈ l, x < 2 ^ w) {i x : Nat} (h : l[i]? = some x) : rdV (pack (bitsL w l)) w i = x := by
  have hi := (List.getElem?_eq_some_iff.1 h).1
  have hp := pack_len (bitsL w l)
  have hb := bitsL_len w l
  have hm : (i + 1) * w ≤ l.length * w := Nat.mul_le_mul_right _ hi
  unfold rdV
  rw [if_pos (by omega)]
  have e : bitsL w l = bitsL w (l.take i) ++ bitsOf x w ++ bitsL w (l.drop (i + 1)) := by
    conv => lhs; rw [← List.take_append_drop i l, bitsL_app]
    rw [List.drop_eq_getElem_cons hi]
    have : l[i] = x := by rw [List.getElem?_eq_getElem hi] at h; exact Option.some.inj h
    rw [this]
    simp [bitsL]
  have e2 : i * w = (bitsL w (l.take i)).length := by rw [bitsL_len]; simp; rw [Nat.min_eq_left (by omega)]
  rw [e, e2, getV_bits _ _ x w (bitsL_bit _ _) (bitsL_bit _ _), Nat.mod_eq_of_lt (hl x (List.mem_of_getElem? h))]
theorem decFp_encFp {v : List Nat} {n : Int} (hn : v.length = heldM n) (hw : ∀ x ∈ v, x < 18446744073709551616) : decFp (encFp v) n = some v := by
  unfold decFp
  by_cases h0 : v = []
  · subst h0
    rw [if_pos (by rw [← hn]; rfl)]
    rfl
  · have hpos : 0 < v.length := List.length_pos_iff.2 h0
    obtain ⟨h1, h2, h3, h4⟩ := encFp_head h0 hw
    have h5 := vput_len 9 (loF v)
    have h6 := wF_le v
    rw [if_neg (by omega), h1]
    simp only []
    rw [h3, h4, if_neg (by omega)]
    have hlen : (lessF v).length = v.length := by simp [lessF]
    have e : rowI (loF v) (pack (bitsL (wF v) (lessF v))) (wF v) (heldM n) = v := by
      unfold rowI
      rw [← hn]
      refine map_range_eq v _ (fun i x hx => ?_)
      have hm := List.mem_of_getElem? hx
      have hlo := loF_le hm
      have hx2 : (lessF v)[i]? = some (x - loF v) := by simp [lessF, hx]
      rw [rdV_bits (lessF v) (fun y hy => by
        obtain ⟨z, hz, rfl⟩ := List.mem_map.1 hy
        exact wF_val hw hz) hx2]
      have := hw x hm
      rw [Nat.mod_eq_of_lt (by omega)]
      omega
    rw [e, if_pos rfl]
theorem decFp_ok {bs : List Nat} {n : Int} {o : List Nat} (h : decFp bs n = some o) : o.length = heldM n ∧ ∀ x ∈ o, x < 18446744073709551616 := by
  unfold decFp at h
  split at h
  · rename_i h0
    split at h
    · have e := Option.some.inj h; subst e; exact ⟨by rw [h0]; rfl, by simp⟩
    · cases h
  · split at h
    · cases h
    · split at h
      · have e := Option.some.inj h; subst e
        exact ⟨rowI_len _ _ _ _, rowI_lt _ _ _ _⟩
      · cases h
/-- what is moved by one number -/
theorem foldmin_add (c : Nat) : ∀ (l : List Nat) (a : Nat), (l.map (· + c)).foldl min (a + c) = l.foldl min a + c
  | [], a => rfl
  | x :: l, a => by
    simp only [List.map_cons, List.foldl_cons]
    rw [show min (a + c) (x + c) = min a x + c by omega, foldmin_add c l]
theorem foldmax_add (c : Nat) : ∀ (l : List Nat) (a : Nat), (l.map (· + c)).foldl max (a + c) = l.foldl max a + c
  | [], a => rfl
  | x :: l, a => by
    simp only [List.map_cons, List.foldl_cons]
    rw [show max (a + c) (x + c) = max a x + c by omega, foldmax_add c l]
theorem loF_add (c : Nat) {v : List Nat} (h : v ≠ []) : loF (v.map (· + c)) = loF v + c := by
  cases v with
  | nil => exact absurd rfl h
  | cons x l => exact foldmin_add c (x :: l) x
theorem hiF_add (c : Nat) {v : List Nat} (h : v ≠ []) : hiF (v.map (· + c)) = hiF v + c := by
  cases v with
  | nil => exact absurd rfl h
  | cons x l => exact foldmax_add c (x :: l) x
theorem wF_add (c : Nat) {v : List Nat} (h : v ≠ []) : wF (v.map (· + c)) = wF v := by
  unfold wF; rw [loF_add c h, hiF_add c h, Nat.add_sub_add_right]
theorem lessF_add (c : Nat) {v : List Nat} (h : v ≠ []) : lessF (v.map (· + c)) = lessF v := by
  unfold lessF
  rw [loF_add c h, List.map_map]
  refine List.map_congr_left (fun x _ => ?_)
  simp; omega
end Go.Proofs.Ytjibmfkhhljhcaa
