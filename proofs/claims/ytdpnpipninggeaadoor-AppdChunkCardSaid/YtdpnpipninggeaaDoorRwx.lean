/- Rows whose room is told: what stands behind a slice's end, too. Over whatever program. -/
import Derived.Test.YtdpnpipninggeaaDoorGrow
set_option linter.unusedSimpArgs false
set_option linter.unusedVariables false
namespace Go.Proofs.YtdpnpipninggeaaDoor
open Go
/-- a row, all of it -/
def Rw (b : Nat) (T : TypeId) (c : List Value) : HP := fun h => ∃ fr : Nat × Nat, (fr.1 = fr.2 ∨ c.length ≤ fr.1) ∧ pts b (.cells c.toArray T fr) h
abbrev slv (b off n c : Nat) : Value := .slice (some ⟨b, off, none⟩) n c
theorem rwBuf {sz b off n c : Nat} {T : TypeId} {buf cs : List Value} {h : Hp} (hl : cs.length = n * sz) (hc : off + c * sz ≤ buf.length) (hn : n ≤ c) (hm : c ≤ maxLen) (ht : (buf.drop off).take (n * sz) = cs) (hr : Rw b T buf h) : Buf sz (slv b off n c) cs h := by
  obtain ⟨fr, hfr, hp⟩ := hr
  exact .inr ⟨b, off, n, c, buf.toArray, T, fr, rfl, hl, by simpa using hc, hn, hm, by simpa using hfr, by simpa using ht, hp⟩
section
variable {P : Program} {T : Tab P} {fn : Func} {ρ σ : Hp} {Q : Value → HP} {k : List Item} {md : Bool} {X : World → Hp → Act → World → Prop} {env : Env} {Hs : List HP} {ops : Array Oper} {l : List Oper}
variable {d : Tmp} {ty : TypeId} {pos : String} {aft : Array Edge}
theorem bound_run {w : World} {K : IntKind} {m y : Nat} {c : BoundsCode} (h : m ≤ y) : (Instr.sliceBound (.int K (m : Int)) y c).run P w = .ok m w := by
  have h1 : (m : Int) ≤ (y : Int) := by omega
  simp [Instr.sliceBound, asIntOf, h1]
theorem bounds_run {w : World} {len cap lo hi mx : Nat} {A B C : Option Value} (hA : (A = none ∧ lo = 0) ∨ ∃ K, A = some (.int K (lo : Int))) (hB : (B = none ∧ hi = len ∧ C = none) ∨ ∃ K, B = some (.int K (hi : Int)))
    (hC : (C = none ∧ mx = cap) ∨ ∃ K, C = some (.int K (mx : Int))) (h1 : lo ≤ hi) (h2 : hi ≤ mx) (h3 : mx ≤ cap) : (Instr.sliceBounds true len cap A B C).run P w = .ok (lo, hi, mx) w := by
  rcases hC with ⟨rfl, rfl⟩ | ⟨Kc, rfl⟩ <;> rcases hB with ⟨rfl, rfl, hc⟩ | ⟨Kb, rfl⟩ <;> rcases hA with ⟨rfl, rfl⟩ | ⟨Ka, rfl⟩ <;>
    first
    | cases hc; done
    | simp [Instr.sliceBounds, bound_run (P := P) h1, bound_run (P := P) h2, bound_run (P := P) h3, Result.andThen]
/-- a cut, told -/
theorem WL.slX {x : Operand} {A B C : Option Operand} {t E : TypeId} {b off n c lo hi mx : Nat} {eD : TypeDesc} {eS eB : Nat} {eZ : Value} {eC : Bool} {a q : Nat} {z : Value} {cc : Bool} (hn : Nat.ble (d + 1) fn.ntmps = true)
    (hx : ev env x = some (slv b off n c)) (hA : bndOK env A lo 0) (hB : (B = none ∧ hi = n ∧ C = none) ∨ ∃ y K, B = some y ∧ ev env y = some (.int K (hi : Int))) (hC : bndOK env C mx c) (ht : T.tt t = some ⟨.slice E, a, q, z, cc⟩) (he : T.tt E = some ⟨eD, eS, eB, eZ, eC⟩)
    (h1 : lo ≤ hi) (h2 : hi ≤ mx) (h3 : mx ≤ c)
    (h : WL md P fn ρ X ops l ((d, .slice (some ⟨b, if mx = lo then off else off + lo * eS, none⟩) (hi - lo) (mx - lo)) :: env) Hs) : WL md P fn ρ X ops (⟨some d, .slice t x A B C, ty, pos, aft, none⟩ :: l) env Hs :=
  .val rfl rfl hn (fun f w e => by
    have ka : (A.map f = none ∧ lo = 0) ∨ ∃ K, A.map f = some (.int K (lo : Int)) := by
      rcases hA with ⟨rfl, h⟩ | ⟨y, K, rfl, h⟩
      · exact .inl ⟨rfl, h⟩
      · exact .inr ⟨K, by simp [e _ _ h]⟩
    have kc : (C.map f = none ∧ mx = c) ∨ ∃ K, C.map f = some (.int K (mx : Int)) := by
      rcases hC with ⟨rfl, h⟩ | ⟨y, K, rfl, h⟩
      · exact .inl ⟨rfl, h⟩
      · exact .inr ⟨K, by simp [e _ _ h]⟩
    have kb : (B.map f = none ∧ hi = n ∧ C.map f = none) ∨ ∃ K, B.map f = some (.int K (hi : Int)) := by
      rcases hB with ⟨rfl, h, rfl⟩ | ⟨y, K, rfl, h⟩
      · exact .inl ⟨rfl, h, rfl⟩
      · exact .inr ⟨K, by simp [e _ _ h]⟩
    have hb := bounds_run (P := P) (w := w) ka kb kc h1 h2 h3
    by_cases hml : mx = lo
    · simp [execOp, e _ _ hx, Instr.sliceAt, Instr.slice, hb, T.runU ht, T.runS he, hml, Result.andThen]
    · simp [execOp, e _ _ hx, Instr.sliceAt, Instr.slice, hb, T.runU ht, T.runS he, hml, Result.andThen, Addr.add_lit]) h
/-- 's[:hi]', 's[:hi:mx]' -/
theorem WL.slX0 {x : Operand} {A B C : Option Operand} {t E : TypeId} {b off n c hi mx : Nat} {eD : TypeDesc} {eS eB : Nat} {eZ : Value} {eC : Bool} {a q : Nat} {z : Value} {cc : Bool} (hn : Nat.ble (d + 1) fn.ntmps = true)
    (hx : ev env x = some (slv b off n c)) (hA : bndOK env A 0 0) (hB : (B = none ∧ hi = n ∧ C = none) ∨ ∃ y K, B = some y ∧ ev env y = some (.int K (hi : Int))) (hC : bndOK env C mx c) (ht : T.tt t = some ⟨.slice E, a, q, z, cc⟩) (he : T.tt E = some ⟨eD, eS, eB, eZ, eC⟩)
    (h2 : hi ≤ mx) (h3 : mx ≤ c)
    (h : WL md P fn ρ X ops l ((d, slv b off hi mx) :: env) Hs) : WL md P fn ρ X ops (⟨some d, .slice t x A B C, ty, pos, aft, none⟩ :: l) env Hs :=
  .slX (T := T) hn hx hA hB hC ht he (Nat.zero_le _) h2 h3 (by simpa using h)
/-- 's[lo:..]', short of the room's end -/
theorem WL.slXp {x : Operand} {A B C : Option Operand} {t E : TypeId} {b off n c lo hi mx : Nat} {eD : TypeDesc} {eS eB : Nat} {eZ : Value} {eC : Bool} {a q : Nat} {z : Value} {cc : Bool} (hn : Nat.ble (d + 1) fn.ntmps = true)
    (hx : ev env x = some (slv b off n c)) (hA : bndOK env A lo 0) (hB : (B = none ∧ hi = n ∧ C = none) ∨ ∃ y K, B = some y ∧ ev env y = some (.int K (hi : Int))) (hC : bndOK env C mx c) (ht : T.tt t = some ⟨.slice E, a, q, z, cc⟩) (he : T.tt E = some ⟨eD, eS, eB, eZ, eC⟩)
    (h1 : lo ≤ hi) (h2 : hi ≤ mx) (h3 : mx ≤ c) (h4 : lo < mx)
    (h : WL md P fn ρ X ops l ((d, slv b (off + lo * eS) (hi - lo) (mx - lo)) :: env) Hs) : WL md P fn ρ X ops (⟨some d, .slice t x A B C, ty, pos, aft, none⟩ :: l) env Hs :=
  .slX (T := T) hn hx hA hB hC ht he h1 h2 h3 (by rw [if_neg (by omega)]; exact h)
/-- 's[c:..]', at the room's end -/
theorem WL.slXe {x : Operand} {A B C : Option Operand} {t E : TypeId} {b off n c lo hi mx : Nat} {eD : TypeDesc} {eS eB : Nat} {eZ : Value} {eC : Bool} {a q : Nat} {z : Value} {cc : Bool} (hn : Nat.ble (d + 1) fn.ntmps = true)
    (hx : ev env x = some (slv b off n c)) (hA : bndOK env A lo 0) (hB : (B = none ∧ hi = n ∧ C = none) ∨ ∃ y K, B = some y ∧ ev env y = some (.int K (hi : Int))) (hC : bndOK env C mx c) (ht : T.tt t = some ⟨.slice E, a, q, z, cc⟩) (he : T.tt E = some ⟨eD, eS, eB, eZ, eC⟩)
    (h1 : lo ≤ hi) (h2 : hi ≤ mx) (h3 : mx ≤ c) (h4 : lo = mx)
    (h : WL md P fn ρ X ops l ((d, slv b off 0 0) :: env) Hs) : WL md P fn ρ X ops (⟨some d, .slice t x A B C, ty, pos, aft, none⟩ :: l) env Hs :=
  .slX (T := T) hn hx hA hB hC ht he h1 h2 h3 (by subst h4; rw [if_pos rfl, show hi = lo by omega, Nat.sub_self]; exact h)
/-- cells of a row are written over -/
def over (buf : List Value) (at' : Nat) (vs : List Value) : List Value := buf.take at' ++ vs ++ buf.drop (at' + vs.length)
theorem over_len {buf vs : List Value} {k : Nat} (h : k + vs.length ≤ buf.length) : (over buf k vs).length = buf.length := by
  unfold over; simp; omega
theorem over_get {buf vs : List Value} {k : Nat} (h : k + vs.length ≤ buf.length) (p : Nat) : (over buf k vs)[p]? = if p < k then buf[p]? else if p < k + vs.length then vs[p - k]? else buf[p]? := by
  have hk : (buf.take k).length = k := by simp; omega
  unfold over
  rw [List.append_assoc]
  by_cases h1 : p < k
  · rw [if_pos h1, List.getElem?_append_left (by omega), List.getElem?_take, if_pos h1]
  · rw [if_neg h1, List.getElem?_append_right (by omega), hk]
    by_cases h2 : p < k + vs.length
    · rw [if_pos h2, List.getElem?_append_left (by omega)]
    · rw [if_neg h2, List.getElem?_append_right (by omega), List.getElem?_drop]
      congr 1
      omega
theorem rw_store {w0 : World} {h0 : Hp} {w : World} {b off : Nat} {Ty : TypeId} {buf vs : List Value} {y : Hp} {x : Hp} (s : St ρ w0 h0 w (join x y)) (dd : Dj x y) (hr : Rw b Ty buf x) (hl : off + vs.length ≤ buf.length) (h1 : ∀ q ∈ vs, q.oneCell' = true) :
    ∃ w' x', (storeCells ⟨b, off, none⟩ vs).run P w = .ok () w' ∧ Dj x' y ∧ St ρ w0 h0 w' (join x' y) ∧ Rw b Ty (over buf off vs) x' := by
  obtain ⟨fr, hfr, hp⟩ := hr
  have ep := pts_eq hp
  subst ep
  have hw : w.heap[b]? = some (.cells buf.toArray Ty fr) := s.own b _ (join_left (by simp [one]))
  have hst := run_storeCells_un (P := P) b off Ty fr vs 0 buf.toArray w hw (by simpa using hl) (fun m h h' => frOK hfr (by omega)) h1
  simp only [Nat.add_zero] at hst
  have hch : Dj (one b (.cells (over buf off vs).toArray Ty fr)) y ∧ St ρ w0 h0 (w.setRow b (over buf off vs).toArray) (join (one b (.cells (over buf off vs).toArray Ty fr)) y) := by
    refine s.change dd ?_ ?_ ?_ (by simp [World.setRow]) rfl rfl rfl
    · intro n hn
      left
      by_cases e : n = b
      · subst e; simp [one]
      · simp [one, e] at hn
    · intro n o ho
      by_cases e : n = b
      · subst e; simp [one] at ho; subst ho; exact setRow_heap w n buf.toArray _ Ty fr hw
      · simp [one, e] at ho
    · intro n _ hn
      refine setRow_other w b n _ (fun e => ?_)
      subst e
      simp [one] at hn
  exact ⟨_, _, by simpa [over] using hst, hch.1, hch.2, fr, by rw [over_len hl]; exact hfr, pts_one _ _⟩
/-- a whole struct is stored in an element of a slice that is owned -/
theorem WL.stAE {x y : Operand} {t : TypeId} {i j sz : Nat} {u : Value} {cs vs : List Value} {ti : TyI} {Hs' : List HP} (hx : ev env x = some (eptr u i)) (hy : ev env y = some (.agg vs.toArray))
    (ht : T.tt t = some ti) (hsz : vs.length = ti.size) (h1 : ∀ q ∈ vs, q.oneCell' = true) (hH : nthH Hs j = some (Buf sz u cs)) (hl : i + vs.length ≤ cs.length) (h0 : 0 < vs.length)
    (hF : FL (Hs.set j (Buf sz u (cs.take i ++ vs ++ cs.drop (i + vs.length)))) Hs')
    (h : WL false P fn ρ X ops l env Hs') : WL false P fn ρ X ops (⟨none, .store t x y, ty, pos, aft, none⟩ :: l) env Hs :=
  .does (Hs' := Hs') rfl rfl (fun f w0 h0' w hh s p e => by
    have hF := hF.eq
    subst hF
    have hH' : Hs[j]? = some (Buf sz u cs) := by rw [← nthH_eq]; exact hH
    obtain ⟨a, z, ha, dd, rfl, _, hset⟩ := sepl_at hH' p
    rcases ha with ⟨rfl, rfl, _⟩ | ⟨b, off, n, c, buf, Ty, fr, rfl, hln, hc, hnc, hm, hfr, htk, hp⟩
    · rw [List.length_nil] at hl; omega
    · have hle : n * sz ≤ c * sz := Nat.mul_le_mul_right _ hnc
      have hr : Rw b Ty buf.toList a := ⟨fr, by simpa using hfr, hp⟩
      have hcs : cs.length = n * sz := hln
      obtain ⟨w', x', hst, hd', hs', hr'⟩ := rw_store (P := P) (off := off + i) (vs := vs) s dd hr (by simp; omega) h1
      refine ⟨w', join x' z, ?_, hs', hset _ _ ?_ hd'⟩
      · have hcell : vs.toArray.toList = vs := rfl
        have hadd : (⟨b, off, none⟩ : Addr).add i = ⟨b, off + i, none⟩ := by simp [Addr.add_lit]
        simp only [execOp, e _ _ hx, e _ _ hy, eptr, vaddr, hadd]
        simp [Instr.storeAt, Instr.sureAddr, storeVar, Value.cells, T.runS ht, hsz, hst]
      · have hlen : (over buf.toList (off + i) vs).length = buf.toList.length := over_len (by simp; omega)
        refine rwBuf (n := n) (by simp only [List.length_append, List.length_take, List.length_drop]; omega) (by rw [hlen]; simpa using hc) hnc hm ?_ hr'
        rw [← htk]
        have hol : (over ((buf.toList.drop off).take (n * sz)) i vs).length = ((buf.toList.drop off).take (n * sz)).length := over_len (by rw [htk]; exact hl)
        show ((over buf.toList (off + i) vs).drop off).take (n * sz) = over ((buf.toList.drop off).take (n * sz)) i vs
        apply List.ext_getElem?
        intro q
        rw [over_get (by rw [htk]; exact hl), List.getElem?_take]
        by_cases hq : q < n * sz
        · rw [if_pos hq, List.getElem?_drop, over_get (by simp; omega)]
          simp only [List.getElem?_take, List.getElem?_drop, if_pos hq]
          by_cases h3 : q < i
          · rw [if_pos (by omega), if_pos h3]
          · rw [if_neg (by omega), if_neg h3]
            by_cases h4 : q < i + vs.length
            · rw [if_pos (by omega), if_pos h4]
              congr 1
              omega
            · rw [if_neg (by omega), if_neg h4]
        · rw [if_neg hq]
          simp only [List.getElem?_take, if_neg hq]
          split
          · rfl
          · split
            · rename_i h3 h4
              omega
            · rfl) h
end
end Go.Proofs.YtdpnpipninggeaaDoor
