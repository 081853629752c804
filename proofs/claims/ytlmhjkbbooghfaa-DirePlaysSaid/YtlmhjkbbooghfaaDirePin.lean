/- DirePlays: what holds of all slots, of what the law keeps beside them, and of the flags. In plain Lean. -/
import Derived.Test.YtlmhjkbbooghfaaDireL
import Derived.Test.YtlmhjkbbooghfaaMapDel
set_option linter.unusedSimpArgs false
set_option linter.unusedVariables false
namespace Go.Proofs.Ytlmhjkbbooghfaa
open Go
def Alike (ρ : Hp) (p : Plc) (s : Slo) : Prop := (s.there = p.s.there ∧ s.sealed = p.s.sealed ∧ s.life = p.s.life ∧ s.ver = p.s.ver ∧ s.any = p.s.any ∧ s.last = p.s.last) ∧
  ∃ (l : List (Int × Int)) (ps : List Prt), ROs ρ 2 p.s.lv (l.flatMap smC) ∧ ROs ρ 2 s.lv (l.flatMap smC) ∧ ROs ρ 5 p.s.cv (ps.flatMap paC) ∧ ROs ρ 5 s.cv (ps.flatMap paC) ∧ l.length ≤ 8796093022208 ∧ ps.length ≤ 140737488355
theorem Alike.mono {ρ ρ' : Hp} {p : Plc} {s : Slo} (h : Alike ρ p s) (le : Le ρ ρ') : Alike ρ' p s := by
  obtain ⟨h1, l, ps, a, b, c, d, e, f⟩ := h
  exact ⟨h1, l, ps, a.mono le, b.mono le, c.mono le, d.mono le, e, f⟩
def PInv (n : Nat) (L : List Plc) (S : List Slo) (kvs : List (Int × Value)) (ρ : Hp) : Prop :=
  L.length = 16 ∧ S.length = 16 ∧ (kvs.map (·.1)).Nodup ∧ (∀ q : Int, q < 0 ∨ 16 ≤ q → kget kvs q = none) ∧
  ∀ (j : Nat) p s, L[j]? = some p → S[j]? = some s → Alike ρ p s ∧ 0 ≤ p.s.ver ∧ p.s.ver ≤ n ∧ (p.taken = true → p.s.ver % 2 = 1 ∧ kget kvs (j : Int) = some (.int .i64 p.who)) ∧ (p.taken = false → p.s.ver % 2 = 0 ∧ kget kvs (j : Int) = none)
theorem PInv.mono {n n' : Nat} {L : List Plc} {S : List Slo} {kvs : List (Int × Value)} {ρ ρ' : Hp} (h : PInv n L S kvs ρ) (hn : n ≤ n') (le : Le ρ ρ') : PInv n' L S kvs ρ' := by
  obtain ⟨a, b, c, d, e⟩ := h
  refine ⟨a, b, c, d, fun j p s hp hs => ?_⟩
  obtain ⟨g1, g2, g3, g4⟩ := e j p s hp hs
  exact ⟨g1.mono le, g2, by omega, g4⟩
theorem set_get2 {α : Type} {L : List α} {i j : Nat} {q p : α} (h : (L.set i q)[j]? = some p) : (i = j ∧ p = q) ∨ (i ≠ j ∧ L[j]? = some p) := by
  rw [List.getElem?_set] at h
  by_cases e : i = j
  · rw [if_pos e] at h
    split at h
    · exact .inl ⟨e, (Option.some.inj h).symm⟩
    · cases h
  · rw [if_neg e] at h
    exact .inr ⟨e, h⟩
theorem PInv.set {n : Nat} {L : List Plc} {S : List Slo} {kvs kvs' : List (Int × Value)} {ρ ρ' : Hp} (h : PInv n L S kvs ρ) (le : Le ρ ρ') {j : Nat} (hj : j < 16) {q : Plc} {t : Slo} (hq : Alike ρ' q t) (h0 : 0 ≤ q.s.ver) (h1 : q.s.ver ≤ n + 1)
    (hn : (kvs'.map (·.1)).Nodup) (ho : ∀ x : Int, x ≠ (j : Int) → kget kvs' x = kget kvs x) (ht : q.taken = true → q.s.ver % 2 = 1 ∧ kget kvs' (j : Int) = some (.int .i64 q.who)) (hf : q.taken = false → q.s.ver % 2 = 0 ∧ kget kvs' (j : Int) = none) :
    PInv (n + 1) (L.set j q) (S.set j t) kvs' ρ' := by
  obtain ⟨a, b, c, d, e⟩ := h
  refine ⟨by rw [List.length_set, a], by rw [List.length_set, b], hn, fun x hx => by rw [ho x (by omega)]; exact d x hx, fun i p s hp hs => ?_⟩
  rcases set_get2 hp with ⟨rfl, rfl⟩ | ⟨hne, hp⟩
  · rcases set_get2 hs with ⟨_, rfl⟩ | ⟨hne, _⟩
    · exact ⟨hq, h0, by omega, ht, hf⟩
    · exact absurd rfl hne
  · rcases set_get2 hs with ⟨rfl, _⟩ | ⟨_, hs⟩
    · exact absurd rfl hne
    · obtain ⟨g1, g2, g3, g4, g5⟩ := e i p s hp hs
      have hx := ho (i : Int) (by omega)
      exact ⟨g1.mono le, g2, by omega, by rw [hx]; exact g4, by rw [hx]; exact g5⟩
theorem sloC_len (s : Slo) : (sloC s).length = 8 := rfl
theorem slo_row {S : List Slo} {j : Nat} {s : Slo} (h : S[j]? = some s) : ((S.flatMap sloC).drop (0 + ((j : Nat) : Int).toNat * 8)).take 8 = sloC s := by
  rw [Nat.zero_add]; exact flat_row sloC_len h
theorem slo_get {S : List Slo} {j : Nat} {s : Slo} (h : S[j]? = some s) (k : Nat) {v : Value} (hv : (sloC s)[k]? = some v) : (S.flatMap sloC)[0 + ((j : Nat) : Int).toNat * 8 + k]? = some v := by
  rw [Nat.zero_add]; exact flat_get sloC_len h hv
theorem slo_set {S : List Slo} {j : Nat} {s t : Slo} (h : S[j]? = some s) (k : Nat) {v : Value} (hk : k < 8) (hb : (sloC s).set k v = sloC t) : (S.flatMap sloC).set (0 + ((j : Nat) : Int).toNat * 8 + k) v = (S.set j t).flatMap sloC := by
  rw [Nat.zero_add]; exact flat_set sloC_len h hk hb
theorem slo_put {S : List Slo} {j : Nat} (t : Slo) (h : j < S.length) : (S.flatMap sloC).take (0 + ((j : Nat) : Int).toNat * 8) ++ sloC t ++ (S.flatMap sloC).drop (0 + ((j : Nat) : Int).toNat * 8 + (sloC t).length) = (S.set j t).flatMap sloC := by
  rw [Nat.zero_add]; exact flat_put sloC_len h
theorem slo_in {S : List Slo} (h : S.length = 16) : (S.flatMap sloC).length = 128 := by rw [flat_len sloC_len, h]
end Go.Proofs.Ytlmhjkbbooghfaa
