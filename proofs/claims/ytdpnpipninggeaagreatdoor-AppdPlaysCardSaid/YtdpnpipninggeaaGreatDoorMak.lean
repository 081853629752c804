/- The rules for what is made: variables, structs, slices; append, cuts, conversions of bytes; over whatever program. -/
import Derived.Test.YtdpnpipninggeaaGreatDoorOps
import Derived.Laws.BytesString
import Derived.Lib.ConvBytes
set_option linter.unusedSimpArgs false
set_option linter.unusedVariables false
namespace Go.Proofs.YtdpnpipninggeaaGreatDoor
open Go

/-- a list written out -/
inductive FL {α : Type} : List α → List α → Prop
  | nil : FL [] []
  | cons {x : α} {xs ys : List α} : FL xs ys → FL (x :: xs) (x :: ys)
theorem FL.eq {α : Type} {xs ys : List α} (h : FL xs ys) : xs = ys := by
  induction h with
  | nil => rfl
  | cons _ ih => rw [ih]

class ZeroL {P : Program} (T : Tab P) (t : TypeId) (cs : outParam (List Value)) : Prop where
  ok : ∃ ti, T.tt t = some ti ∧ ti.zero.cells.toList = cs

section
variable {P : Program} {T : Tab P} {fn : Func} {ρ : Hp} {Q : Value → HP} {k : List Item} {md : Bool} {X : World → Hp → Act → World → Prop} {env : Env} {Hs : List HP} {ops : Array Oper} {l : List Oper}
variable {d : Tmp} {ty : TypeId} {pos : String} {aft : Array Edge}

theorem new_box {w0 : World} {h0 : Hp} {w : World} {h : Hp} (s : St ρ w0 h0 w h) (p : sepl Hs h) (c : List Value) (Ty : TypeId) :
    St ρ w0 h0 (w.alloc (.cells c.toArray Ty)) (join (one w.heap.size (.cells c.toArray Ty)) h) ∧ sepl (box w.heap.size c Ty :: Hs) (join (one w.heap.size (.cells c.toArray Ty)) h) := by
  have hn := s.new (.cells c.toArray Ty)
  exact ⟨hn.2, _, _, pts_one _ _, p, hn.1, rfl⟩

theorem WL.al {t : TypeId} {cs : List Value} [hz : ZeroL T t cs] (hn : Nat.ble (d + 1) fn.ntmps = true)
    (h : ∀ b, WL false P fn ρ X ops l ((d, .pointer (some ⟨b, 0, none⟩)) :: env) (box b cs t :: Hs)) : WL false P fn ρ X ops (⟨some d, .alloc t, ty, pos, aft, none⟩ :: l) env Hs :=
  .turns (ok := fun v Hs' => ∃ b, v = .pointer (some ⟨b, 0, none⟩) ∧ Hs' = box b cs t :: Hs) rfl rfl hn (fun f w0 h0 w hh s p e => by
    obtain ⟨ti, ht, hc⟩ := hz.ok
    have hb := new_box s p cs t
    refine ⟨_, _, _, _, ?_, hb.1, hb.2, w.heap.size, rfl, rfl⟩
    subst hc
    simp [execOp, Instr.alloc, T.runZ ht, newVar, newRow]) (fun v Hs' ⟨b, hv, hH⟩ => by subst hv; subst hH; exact h b)
theorem WL.bx {t : TypeId} {x : Operand} {v : Value} {cs : List Value} (hn : Nat.ble (d + 1) fn.ntmps = true) (hx : ev env x = some v) (hv : v.cells.toList = cs)
    (h : ∀ b, WL false P fn ρ X ops l ((d, .pointer (some ⟨b, 0, none⟩)) :: env) (box b cs t :: Hs)) : WL false P fn ρ X ops (⟨some d, .box t x, ty, pos, aft, none⟩ :: l) env Hs :=
  .turns (ok := fun v Hs' => ∃ b, v = .pointer (some ⟨b, 0, none⟩) ∧ Hs' = box b cs t :: Hs) rfl rfl hn (fun f w0 h0 w hh s p e => by
    have hb := new_box s p cs t
    refine ⟨_, _, _, _, ?_, hb.1, hb.2, w.heap.size, rfl, rfl⟩
    subst hv
    simp [execOp, e _ _ hx, Instr.box, newVar, newRow]) (fun v Hs' ⟨b, hv, hH⟩ => by subst hv; subst hH; exact h b)

/- what is built -/
def put1 (cs : List Value) (off : Nat) : List Value → List Value
  | [] => cs
  | v :: vs => put1 (cs.set off v) (off + 1) vs
def fillL (place : Nat → Option (Nat × Nat)) (cs : List Value) : List (Nat × Value) → Option (List Value)
  | [] => some cs
  | (i, v) :: r => match place i with
    | none => none
    | some (off, size) => bif Nat.beq v.cells.toList.length size && Nat.ble (off + size) cs.length then fillL place (put1 cs off v.cells.toList) r else none
theorem put1_length (vs : List Value) : ∀ (cs : List Value) (off : Nat), (put1 cs off vs).length = cs.length := by
  induction vs with
  | nil => intro cs off; rfl
  | cons v vs ih => intro cs off; simp [put1, ih]
theorem put1_foldl (vs : List Value) : ∀ (cs : Array Value) (off i : Nat), ((vs.zipIdx i).foldl (fun cs (c, j) => cs.setIfInBounds (off + j) c) cs) = (put1 cs.toList (off + i) vs).toArray := by
  induction vs with
  | nil => intro cs off i; simp [put1]
  | cons v vs ih =>
    intro cs off i
    simp only [List.zipIdx_cons, List.foldl_cons, ih, put1, Array.toList_setIfInBounds]
    rfl
theorem fill_of_fillL {place : Nat → Option (Nat × Nat)} : ∀ (ps : List (Nat × Value)) (cs out : List Value), fillL place cs ps = some out → Instr.fill place cs.toArray ps = some out.toArray
  | [], cs, out, h => by simp [fillL] at h; subst h; rfl
  | (i, v) :: r, cs, out, h => by
    simp only [fillL] at h
    unfold Instr.fill
    cases hp : place i with
    | none => simp [hp] at h
    | some p =>
      obtain ⟨off, size⟩ := p
      simp only [hp] at h ⊢
      cases hc : (Nat.beq v.cells.toList.length size && Nat.ble (off + size) cs.length) with
      | false => rw [hc] at h; simp at h
      | true =>
        simp only [hc, cond_true] at h
        simp only [Bool.and_eq_true] at hc
        have h1 := Nat.eq_of_beq_eq_true hc.1
        have h2 := Nat.le_of_ble_eq_true hc.2
        simp only [Array.length_toList] at h1
        rw [if_neg (by simp [h1]; omega)]
        have hz : v.cells.zipIdx.foldl (fun cs (x : Value × Nat) => cs.setIfInBounds (off + x.2) x.1) cs.toArray = (put1 cs off v.cells.toList).toArray := by
          have := put1_foldl v.cells.toList cs.toArray off 0
          simp only [Nat.add_zero] at this
          rw [← this, ← Array.foldl_toList, Array.toList_zipIdx]
        have hz' : (v.cells.zipIdx.foldl (fun cs (c, j) => cs.setIfInBounds (off + j) c) cs.toArray) = (put1 cs off v.cells.toList).toArray := hz
        rw [hz']
        exact fill_of_fillL r _ out h

def placesL (T : Tab P) : List Field → Option (List (Nat × Nat))
  | [] => some []
  | f :: fs => match T.tt f.type, placesL T fs with
    | some i, some r => some ((f.offset, i.size) :: r)
    | _, _ => none
theorem run_placesL (w : World) : ∀ (fs : List Field) (r : List (Nat × Nat)), placesL T fs = some r → (fs.mapM fun f => Prod.mk f.offset <$> sizeOf f.type).run P w = .ok r w
  | [], r, h => by simp [placesL] at h; subst h; simp
  | f :: fs, r, h => by
    simp only [placesL] at h
    cases ht : T.tt f.type with
    | none => simp [ht] at h
    | some i =>
      cases hr : placesL T fs with
      | none => simp [ht, hr] at h
      | some r' =>
        simp [ht, hr] at h
        subst h
        simp [List.mapM_cons, T.runS ht, run_placesL w fs r' hr]
def evParts (env : Env) : List (Nat × Operand) → Option (List (Nat × Value))
  | [] => some []
  | (i, x) :: r => match ev env x, evParts env r with
    | some v, some r' => some ((i, v) :: r')
    | _, _ => none
theorem evParts_map {env : Env} {f : Operand → Value} (e : ∀ x v, ev env x = some v → f x = v) : ∀ (ps : List (Nat × Operand)) (r : List (Nat × Value)), evParts env ps = some r → ps.map (fun p => (p.1, f p.2)) = r
  | [], r, h => by simp [evParts] at h; subst h; rfl
  | (i, x) :: ps, r, h => by
    simp only [evParts] at h
    cases hx : ev env x with
    | none => simp [hx] at h
    | some v =>
      cases hr : evParts env ps with
      | none => simp [hx, hr] at h
      | some r' =>
        simp [hx, hr] at h
        subst h
        simp [e _ _ hx, evParts_map e ps r' hr]
theorem WL.bd {t : TypeId} {ps : List (Nat × Operand)} {vs : List (Nat × Value)} {fs : List Field} {pl : List (Nat × Nat)} {a b : Nat} {z : Value} {c : Bool} {out out' : List Value} (hn : Nat.ble (d + 1) fn.ntmps = true)
    (ht : T.tt t = some ⟨.struct fs.toArray, a, b, z, c⟩) (hp : placesL T fs = some pl) (hv : evParts env ps = some vs) (hf : fillL (fun i => pl[i]?) z.cells.toList vs = some out) (hF : FL out out')
    (h : WL md P fn ρ X ops l ((d, .agg out'.toArray) :: env) Hs) : WL md P fn ρ X ops (⟨some d, .build t ps.toArray, ty, pos, aft, none⟩ :: l) env Hs :=
  .val rfl rfl hn (fun f w e => by
    have hF := hF.eq
    subst hF
    have hfill := fill_of_fillL vs _ _ hf
    have hpl := run_placesL (T := T) w fs pl hp
    have hm := evParts_map e ps vs hv
    simp only [Array.toArray_toList] at hfill
    simp [execOp, Instr.build, T.runZ ht, T.runU ht, hpl, hm, hfill]) h
/-- an array, each of whose parts is one cell, or the zero value -/
theorem WL.bdA {t e : TypeId} {N : Nat} {ps : List (Nat × Operand)} {vs : List (Nat × Value)} {eD : TypeDesc} {eS eB : Nat} {eZ : Value} {eC : Bool} {a b : Nat} {z : Value} {c : Bool} {out out' : List Value} (hn : Nat.ble (d + 1) fn.ntmps = true)
    (ht : T.tt t = some ⟨.array N e, a, b, z, c⟩) (he : T.tt e = some ⟨eD, eS, eB, eZ, eC⟩) (hv : evParts env ps = some vs) (hf : fillL (fun i => some (i * eS, eS)) z.cells.toList vs = some out) (hF : FL out out')
    (h : WL md P fn ρ X ops l ((d, .agg out'.toArray) :: env) Hs) : WL md P fn ρ X ops (⟨some d, .build t ps.toArray, ty, pos, aft, none⟩ :: l) env Hs :=
  .val rfl rfl hn (fun f w e => by
    have hF := hF.eq
    subst hF
    have hfill := fill_of_fillL vs _ _ hf
    have hm := evParts_map e ps vs hv
    simp only [Array.toArray_toList] at hfill
    simp [execOp, Instr.build, T.runZ ht, T.runU ht, T.runS he, hm, hfill]) h
def zerosL (z : List Value) : Nat → List Value
  | 0 => []
  | n + 1 => z ++ zerosL z n
theorem zerosL_length (z : List Value) (n : Nat) : (zerosL z n).length = n * z.length := by
  induction n with
  | zero => simp [zerosL]
  | succ n ih => simp [zerosL, ih, Nat.succ_mul, Nat.add_comm]
theorem zerosL_get (z : List Value) (n : Nat) : ∀ i, i < n * z.length → (zerosL z n)[i]? = z[i % z.length]? := by
  induction n with
  | zero => intro i h; simp at h
  | succ n ih =>
    intro i h
    simp only [zerosL, List.getElem?_append]
    by_cases hi : i < z.length
    · rw [if_pos hi, Nat.mod_eq_of_lt hi]
    · rw [if_neg hi, ih (i - z.length) (by rw [Nat.succ_mul] at h; omega)]
      rw [Nat.mod_eq_sub_mod (Nat.le_of_not_lt hi)]
theorem zeros_eq (z : Value) (n : Nat) : (Array.range (n * z.cells.size)).map (fun i => z.cells[i % z.cells.size]!) = (zerosL z.cells.toList n).toArray := by
  apply Array.ext'
  apply List.ext_getElem?
  intro i
  simp only [Array.toList_map, Array.toList_range, List.getElem?_map, List.getElem?_range']
  by_cases hi : i < n * z.cells.size
  · have h0 : 0 < z.cells.size := by
      rcases Nat.eq_zero_or_pos z.cells.size with h | h
      · simp [h] at hi
      · exact h
    have hm : i % z.cells.size < z.cells.size := Nat.mod_lt _ h0
    rw [zerosL_get _ _ _ (by simpa using hi)]
    simp [hi, List.getElem?_range, hm]
  · have : (zerosL z.cells.toList n).length ≤ i := by rw [zerosL_length]; simpa using hi
    rw [List.getElem?_eq_none this]
    simp [List.getElem?_eq_none (show (List.range (n * z.cells.size)).length ≤ i by simpa using hi)]
theorem zeroCells_eq (z : Array Value) (n : Nat) : Builtin.zeroCells z n = (zerosL z.toList n).toArray := by
  have := zeros_eq (.agg z) n
  simpa [Builtin.zeroCells, Value.cells] using this

/-- a new slice's block is owned -/
theorem buf_new {w : World} {sz n c : Nat} {cs rest : List Value} {Ty : TypeId} {fr : Nat × Nat} (hl : cs.length = n * sz) (hr : (cs ++ rest).length = c * sz) (hnc : n ≤ c) (hc : c ≤ maxLen) (hfr : c * sz ≤ fr.1 ∨ fr = (0, 0)) :
    Buf sz (.slice (some ⟨w.heap.size, 0, none⟩) n c) cs (one w.heap.size (.cells (cs ++ rest).toArray Ty fr)) := by
  refine .inr ⟨w.heap.size, 0, n, c, _, Ty, fr, rfl, hl, by simp at hr ⊢; omega, hnc, hc, ?_, ?_, pts_one _ _⟩
  · rcases hfr with h | h
    · right; simp at hr ⊢; omega
    · subst h; simp
  · simp [← hl]

theorem WL.bs {t E : TypeId} {n : Nat} {ps : List (Nat × Operand)} {vs : List (Nat × Value)} {eD : TypeDesc} {eS eB : Nat} {eZ : Value} {eC : Bool} {a b : Nat} {z : Value} {c : Bool} {out out' : List Value} (hn : Nat.ble (d + 1) fn.ntmps = true)
    (ht : T.tt t = some ⟨.slice E, a, b, z, c⟩) (he : T.tt E = some ⟨eD, eS, eB, eZ, eC⟩) (hsz : Nat.beq eZ.cells.toList.length eS = true) (hN : Nat.ble (n * eS) 16777216 = true) (hN' : Nat.ble n 16777216 = true) (hv : evParts env ps = some vs)
    (hf : fillL (fun i => some (i * eS, eS)) (zerosL eZ.cells.toList n) vs = some out) (hF : FL out out')
    (h : ∀ v, SL v n → WL false P fn ρ X ops l ((d, v) :: env) (Buf eS v out' :: Hs)) : WL false P fn ρ X ops (⟨some d, .buildSlice t n ps.toArray, ty, pos, aft, none⟩ :: l) env Hs :=
  .turns (ok := fun v Hs' => SL v n ∧ Hs' = Buf eS v out' :: Hs) rfl rfl hn (fun f w0 h0 w hh s p e => by
    have hF := hF.eq
    subst hF
    have hsz := Nat.eq_of_beq_eq_true hsz
    have hN := Nat.le_of_ble_eq_true hN
    have hN' := Nat.le_of_ble_eq_true hN'
    have hfill := fill_of_fillL vs _ _ hf
    have hm := evParts_map e ps vs hv
    have hol : out.length = n * eS := by
      have hkeep : ∀ (vs : List (Nat × Value)) (cs out : List Value), fillL (fun i => some (i * eS, eS)) cs vs = some out → out.length = cs.length := by
        intro vs
        induction vs with
        | nil => intro cs out h; simp [fillL] at h; rw [h]
        | cons q r ih =>
          intro cs out h
          simp only [fillL] at h
          cases hc : (Nat.beq q.2.cells.toList.length eS && Nat.ble (q.1 * eS + eS) cs.length) with
          | false => rw [hc] at h; simp at h
          | true => simp only [hc, cond_true] at h; rw [ih _ _ h, put1_length]
      rw [hkeep _ _ _ hf, zerosL_length, hsz]
    have hnew := s.new (.cells out.toArray E)
    have hbuf := buf_new (w := w) (sz := eS) (n := n) (c := n) (cs := out) (rest := []) (Ty := E) (fr := (0, 0)) hol (by simpa using hol) (Nat.le_refl _) (by unfold maxLen; omega) (.inr rfl)
    simp only [List.append_nil] at hbuf
    refine ⟨.slice (some ⟨w.heap.size, 0, none⟩) n n, _, _, Buf eS (.slice (some ⟨w.heap.size, 0, none⟩) n n) out :: Hs, ?_, hnew.2, ⟨_, _, hbuf, p, hnew.1, rfl⟩, .inr ⟨_, _, rfl⟩, rfl⟩
    have hz := zeros_eq eZ n
    simp only [Array.length_toList] at hsz
    rw [hsz] at hz
    by_cases h00 : n * eS = 0
    · have ho : zerosL eZ.cells.toList n = [] := List.eq_nil_of_length_eq_zero (by rw [zerosL_length]; simpa [hsz] using h00)
      rw [ho] at hfill
      have hr0 : (Array.range (n * eS)).map (fun i => (#[] : Array Value)[i % (#[] : Array Value).size]!) = #[] := by rw [h00, Array.range_zero', Array.map_empty]
      have hlt : ¬ (n * eS > 2 ^ 24) := by omega
      simp only [execOp, Instr.buildSlice, Sem.run_bind, T.runU ht, T.runS he, Result.andThen_ok, if_neg hlt, if_pos h00, Sem.run_pure, hr0]
      have hm' : (ps.toArray.map fun x => (x.1, f x.2)).toList = vs := by simpa using hm
      simp [hm', hm, hfill, newRow]
    · simp [execOp, Instr.buildSlice, T.runU ht, T.runS he, T.runZ he, hm, show ¬ (16777216 < n * eS) by omega, h00, hsz, hz, hfill, newRow]) (fun v Hs' ⟨hv, hH⟩ => by subst hH; exact h v hv)
end
end Go.Proofs.YtdpnpipninggeaaGreatDoor
