/- The plain law of ModlEdges: one series, sealed, and its iterators. -/
import Derived.Test.YtbebhmdjnneimaaMdlIt
set_option linter.unusedSimpArgs false
set_option linter.unusedVariables false
namespace Go.Proofs.Ytbebhmdjnneimaa
open Go
def eS0 (t : Int) : Ser := ⟨5, false, true, t, [(t, 1)]⟩
def eS1 (t : Int) : Ser := ⟨5, true, true, t, [(t, 1)]⟩
def eM (t : Int) (j : Nat) : Mdl := ⟨[eS1 t], (List.range j).map (fun (i : Nat) => (⟨((i : Nat) : Int) + 1, [(t, 1)]⟩ : Itr)), (j : Int)⟩
theorem e_app (t : Int) : doM ⟨[], [], 0⟩ ⟨1, 5, 0, t, 1, 0, 0, 0⟩ = (⟨[eS0 t], [], 0⟩, ⟨0, 0, []⟩) := rfl
theorem e_seal (t : Int) : doM ⟨[eS0 t], [], 0⟩ ⟨3, 5, 0, 0, 0, 0, 0, 0⟩ = (⟨[eS1 t], [], 0⟩, ⟨0, 0, []⟩) := rfl
theorem e_app2 (t x : Int) : doM ⟨[eS1 t], [], 0⟩ ⟨1, 5, 0, x, 0, 0, 0, 0⟩ = (⟨[eS1 t], [], 0⟩, ⟨2, 0, []⟩) := rfl
theorem e_seal2 (t : Int) : doM ⟨[eS1 t], [], 0⟩ ⟨3, 5, 0, 0, 0, 0, 0, 0⟩ = (⟨[eS1 t], [], 0⟩, ⟨2, 0, []⟩) := rfl
theorem e_within (t : Int) : within [(t, 1)] t t = [(t, 1)] := by simp [within]
theorem e_read (t : Int) : doM ⟨[eS1 t], [], 0⟩ ⟨2, 5, 0, 0, 0, t, t, 0⟩ = (⟨[eS1 t], [], 0⟩, ⟨0, 0, [(t, 1)]⟩) := by
  have h : doM ⟨[eS1 t], [], 0⟩ ⟨2, 5, 0, 0, 0, t, t, 0⟩ = (⟨[eS1 t], [], 0⟩, ⟨0, 0, within [(t, 1)] t t⟩) := rfl
  rw [h, e_within]
theorem e_openG (t lo hi : Int) (its : List Itr) (nx : Int) (h : its.length < 8) : doM ⟨[eS1 t], its, nx⟩ ⟨5, 5, 0, 0, 0, lo, hi, 0⟩ = (⟨[eS1 t], its ++ [⟨nx + 1, within [(t, 1)] lo hi⟩], nx + 1⟩, ⟨0, nx + 1, []⟩) := by
  have h1 : doM ⟨[eS1 t], its, nx⟩ ⟨5, 5, 0, 0, 0, lo, hi, 0⟩ = if 8 ≤ its.length then (⟨[eS1 t], its, nx⟩, ⟨5, 0, []⟩) else (⟨[eS1 t], its ++ [⟨nx + 1, within [(t, 1)] lo hi⟩], nx + 1⟩, ⟨0, nx + 1, []⟩) := rfl
  rw [h1, if_neg (by omega)]
theorem e_full (t lo hi : Int) (its : List Itr) (nx : Int) (h : 8 ≤ its.length) : doM ⟨[eS1 t], its, nx⟩ ⟨5, 5, 0, 0, 0, lo, hi, 0⟩ = (⟨[eS1 t], its, nx⟩, ⟨5, 0, []⟩) := by
  have h1 : doM ⟨[eS1 t], its, nx⟩ ⟨5, 5, 0, 0, 0, lo, hi, 0⟩ = if 8 ≤ its.length then (⟨[eS1 t], its, nx⟩, ⟨5, 0, []⟩) else (⟨[eS1 t], its ++ [⟨nx + 1, within [(t, 1)] lo hi⟩], nx + 1⟩, ⟨0, nx + 1, []⟩) := rfl
  rw [h1, if_pos h]
theorem eM_len (t : Int) (j : Nat) : (eM t j).its.length = j := by simp [eM]
theorem e_open (t : Int) (j : Nat) (h : j < 8) : doM (eM t j) ⟨5, 5, 0, 0, 0, t, t, 0⟩ = (eM t (j + 1), ⟨0, (j : Int) + 1, []⟩) := by
  have := e_openG t t t (eM t j).its j (by rw [eM_len]; exact h)
  rw [e_within] at this
  rw [show eM t j = ⟨[eS1 t], (eM t j).its, (j : Int)⟩ from rfl, this]
  simp [eM, List.range_succ]
theorem e_open8 (t : Int) : doM (eM t 8) ⟨5, 5, 0, 0, 0, t, t, 0⟩ = (eM t 8, ⟨5, 0, []⟩) := e_full t t t _ _ (by simp)
theorem e_ix (t c : Int) (j : Nat) (hc : 1 ≤ c) : itrIx (eM t j).its c = if c ≤ (j : Int) then (c - 1).toNat else j := by
  unfold itrIx eM
  simp only []
  split
  · rename_i h
    have hlt : (c - 1).toNat < ((List.range j).map (fun (i : Nat) => (⟨((i : Nat) : Int) + 1, [(t, 1)]⟩ : Itr))).length := by simp; omega
    rw [List.findIdx_eq hlt]
    constructor
    · simp; omega
    · intro k hk
      simp
      omega
  · rename_i h
    rw [List.findIdx_eq_length.2]
    · simp
    · intro x hx
      obtain ⟨i, hi, rfl⟩ := List.mem_map.1 hx
      rw [List.mem_range] at hi
      simp
      omega
theorem e_close (t c : Int) (j : Nat) (hc : 1 ≤ c) (h : c ≤ (j : Int)) : ∃ its : List Itr, its.length + 1 = j ∧ doM (eM t j) ⟨7, 0, c, 0, 0, 0, 0, 0⟩ = (⟨[eS1 t], its, (j : Int)⟩, ⟨0, 0, []⟩) := by
  have h1 : doM (eM t j) ⟨7, 0, c, 0, 0, 0, 0, 0⟩ = doI (eM t j) ⟨7, 0, c, 0, 0, 0, 0, 0⟩ := rfl
  have hx := e_ix t c j hc
  rw [if_pos h] at hx
  rw [h1]
  unfold doI
  simp only [hx]
  have hl := eM_len t j
  obtain ⟨x, hg⟩ : ∃ x, (eM t j).its[(c - 1).toNat]? = some x := ⟨_, List.getElem?_eq_getElem (by omega)⟩
  rw [hg]
  refine ⟨(eM t j).its.take (c - 1).toNat ++ (eM t j).its.drop ((c - 1).toNat + 1), ?_, rfl⟩
  rw [List.length_append, List.length_take, List.length_drop, hl]
  omega
theorem e_close0 (t c : Int) (j : Nat) (hc : 1 ≤ c) (h : ¬ c ≤ (j : Int)) : doM (eM t j) ⟨7, 0, c, 0, 0, 0, 0, 0⟩ = (eM t j, ⟨3, 0, []⟩) := by
  have h1 : doM (eM t j) ⟨7, 0, c, 0, 0, 0, 0, 0⟩ = doI (eM t j) ⟨7, 0, c, 0, 0, 0, 0, 0⟩ := rfl
  have hx := e_ix t c j hc
  rw [if_neg h] at hx
  rw [h1]
  unfold doI
  simp only [hx]
  rw [List.getElem?_eq_none (by rw [eM_len]; exact Nat.le_refl _)]
theorem e_del (t : Int) (its : List Itr) (nx : Int) : doM ⟨[eS1 t], its, nx⟩ ⟨4, 5, 0, 0, 0, 0, 0, 0⟩ = (⟨[], its, nx⟩, ⟨0, 0, []⟩) := rfl
theorem e_new (x : Int) (its : List Itr) (nx : Int) : doM ⟨[], its, nx⟩ ⟨1, 5, 0, x, 0, 0, 0, 0⟩ = (⟨[⟨5, false, true, x, [(x, 0)]⟩], its, nx⟩, ⟨0, 0, []⟩) := rfl
end Go.Proofs.Ytbebhmdjnneimaa
