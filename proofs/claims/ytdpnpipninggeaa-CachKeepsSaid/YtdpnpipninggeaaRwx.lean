/- Rows whose room is told: what stands behind a slice's end, too. Over whatever program. -/
import Derived.Test.YtdpnpipninggeaaGrow
set_option linter.unusedSimpArgs false
set_option linter.unusedVariables false
namespace Go.Proofs.Ytdpnpipninggeaa
open Go
/-- a row, all of it -/
def Rw (b : Nat) (T : TypeId) (c : List Value) : HP := fun h => ∃ fr : Nat × Nat, (fr.1 = fr.2 ∨ c.length ≤ fr.1) ∧ pts b (.cells c.toArray T fr) h
abbrev slv (b off n c : Nat) : Value := .slice (some ⟨b, off, none⟩) n c
theorem bufRw {sz : Nat} {v : Value} {cs : List Value} {h : Hp} (hb : Buf sz v cs h) : (v = .slice none 0 0 ∧ cs = [] ∧ emp h) ∨
    ∃ b off n c T buf, v = slv b off n c ∧ cs.length = n * sz ∧ off + c * sz ≤ buf.length ∧ n ≤ c ∧ c ≤ maxLen ∧ (buf.drop off).take (n * sz) = cs ∧ Rw b T buf h := by
  rcases hb with h0 | ⟨b, off, n, c, buf, T, fr, rfl, hl, hc, hn, hm, hfr, htk, hp⟩
  · exact .inl h0
  · exact .inr ⟨b, off, n, c, T, buf.toList, rfl, hl, by simpa using hc, hn, hm, htk, fr, by simpa using hfr, by simpa using hp⟩
theorem rwBuf {sz b off n c : Nat} {T : TypeId} {buf cs : List Value} {h : Hp} (hl : cs.length = n * sz) (hc : off + c * sz ≤ buf.length) (hn : n ≤ c) (hm : c ≤ maxLen) (ht : (buf.drop off).take (n * sz) = cs) (hr : Rw b T buf h) : Buf sz (slv b off n c) cs h := by
  obtain ⟨fr, hfr, hp⟩ := hr
  exact .inr ⟨b, off, n, c, buf.toArray, T, fr, rfl, hl, by simpa using hc, hn, hm, by simpa using hfr, by simpa using ht, hp⟩
section
variable {P : Program} {T : Tab P} {fn : Func} {ρ σ : Hp} {Q : Value → HP} {k : List Item} {md : Bool} {X : World → Hp → Act → World → Prop} {env : Env} {Hs : List HP} {ops : Array Oper} {l : List Oper}
variable {d : Tmp} {ty : TypeId} {pos : String} {aft : Array Edge}
/-- an owned slice is nil, or a cut of a row that is told -/
theorem W.bufCases {sz : Nat} {v : Value} {cs : List Value} (h1 : v = .slice none 0 0 → cs = [] → W P fn ρ Q k env Hs)
    (h2 : ∀ b off n c Ty buf, v = slv b off n c → cs.length = n * sz → off + c * sz ≤ buf.length → n ≤ c → c ≤ maxLen → (buf.drop off).take (n * sz) = cs → W P fn ρ Q k env (Rw b Ty buf :: Hs)) : W P fn ρ Q k env (Buf sz v cs :: Hs) := by
  intro w0 h0 w hh a s p e
  obtain ⟨x, y, hx, hy, dd, rfl⟩ := p
  rcases bufRw hx with ⟨hv, hcs, he⟩ | ⟨b, off, n, c, Ty, buf, hv, hl, hc, hn, hm, ht, hr⟩
  · have := emp_eq he
    subst this
    rw [join_nohp'] at s
    exact h1 hv hcs w0 h0 w y a s hy e
  · exact h2 b off n c Ty buf hv hl hc hn hm ht w0 h0 w (join x y) a s ⟨x, y, hr, hy, dd, rfl⟩ e
theorem bound_run {w : World} {K : IntKind} {m y : Nat} {c : BoundsCode} (h : m ≤ y) : (Instr.sliceBound (.int K (m : Int)) y c).run P w = .ok m w := by
  have h1 : (m : Int) ≤ (y : Int) := by omega
  simp [Instr.sliceBound, asIntOf, h1]
theorem bounds_run {w : World} {len cap lo hi mx : Nat} {A B C : Option Value} (hA : (A = none ∧ lo = 0) ∨ ∃ K, A = some (.int K (lo : Int))) (hB : (B = none ∧ hi = len ∧ C = none) ∨ ∃ K, B = some (.int K (hi : Int)))
    (hC : (C = none ∧ mx = cap) ∨ ∃ K, C = some (.int K (mx : Int))) (h1 : lo ≤ hi) (h2 : hi ≤ mx) (h3 : mx ≤ cap) : (Instr.sliceBounds true len cap A B C).run P w = .ok (lo, hi, mx) w := by
  rcases hC with ⟨rfl, rfl⟩ | ⟨Kc, rfl⟩ <;> rcases hB with ⟨rfl, rfl, hc⟩ | ⟨Kb, rfl⟩ <;> rcases hA with ⟨rfl, rfl⟩ | ⟨Ka, rfl⟩ <;>
    first
    | cases hc; done
    | simp [Instr.sliceBounds, bound_run (P := P) h1, bound_run (P := P) h2, bound_run (P := P) h3, Result.andThen]
/-- a cut, told -/
theorem WL.slX {x : Operand} {A B C : Option Operand} {t E : TypeId} {b off n c lo hi mx : Nat} {eD : TypeDesc} {eS eB : Nat} {eZ : Value} {eC : Bool} {a q : Nat} {z : Value} {cc : Bool} (hn : Nat.ble (d + 1) fn.ntmps = true)
    (hx : ev env x = some (slv b off n c)) (hA : bndOK env A lo 0) (hB : (B = none ∧ hi = n ∧ C = none) ∨ ∃ y K, B = some y ∧ ev env y = some (.int K (hi : Int))) (hC : bndOK env C mx c) (ht : T.tt t = some ⟨.slice E, a, q, z, cc⟩) (he : T.tt E = some ⟨eD, eS, eB, eZ, eC⟩)
    (h1 : lo ≤ hi) (h2 : hi ≤ mx) (h3 : mx ≤ c)
    (h : WL md P fn ρ X ops l ((d, .slice (some ⟨b, if mx = lo then off else off + lo * eS, none⟩) (hi - lo) (mx - lo)) :: env) Hs) : WL md P fn ρ X ops (⟨some d, .slice t x A B C, ty, pos, aft, none⟩ :: l) env Hs :=
  .val rfl rfl hn (fun f w e => by
    have ka : (A.map f = none ∧ lo = 0) ∨ ∃ K, A.map f = some (.int K (lo : Int)) := by
      rcases hA with ⟨rfl, h⟩ | ⟨y, K, rfl, h⟩
      · exact .inl ⟨rfl, h⟩
      · exact .inr ⟨K, by simp [e _ _ h]⟩
    have kc : (C.map f = none ∧ mx = c) ∨ ∃ K, C.map f = some (.int K (mx : Int)) := by
      rcases hC with ⟨rfl, h⟩ | ⟨y, K, rfl, h⟩
      · exact .inl ⟨rfl, h⟩
      · exact .inr ⟨K, by simp [e _ _ h]⟩
    have kb : (B.map f = none ∧ hi = n ∧ C.map f = none) ∨ ∃ K, B.map f = some (.int K (hi : Int)) := by
      rcases hB with ⟨rfl, h, rfl⟩ | ⟨y, K, rfl, h⟩
      · exact .inl ⟨rfl, h, rfl⟩
      · exact .inr ⟨K, by simp [e _ _ h]⟩
    have hb := bounds_run (P := P) (w := w) ka kb kc h1 h2 h3
    by_cases hml : mx = lo
    · simp [execOp, e _ _ hx, Instr.sliceAt, Instr.slice, hb, T.runU ht, T.runS he, hml, Result.andThen]
    · simp [execOp, e _ _ hx, Instr.sliceAt, Instr.slice, hb, T.runU ht, T.runS he, hml, Result.andThen, Addr.add_lit]) h
/-- 's[:hi]', 's[:hi:mx]' -/
theorem WL.slX0 {x : Operand} {A B C : Option Operand} {t E : TypeId} {b off n c hi mx : Nat} {eD : TypeDesc} {eS eB : Nat} {eZ : Value} {eC : Bool} {a q : Nat} {z : Value} {cc : Bool} (hn : Nat.ble (d + 1) fn.ntmps = true)
    (hx : ev env x = some (slv b off n c)) (hA : bndOK env A 0 0) (hB : (B = none ∧ hi = n ∧ C = none) ∨ ∃ y K, B = some y ∧ ev env y = some (.int K (hi : Int))) (hC : bndOK env C mx c) (ht : T.tt t = some ⟨.slice E, a, q, z, cc⟩) (he : T.tt E = some ⟨eD, eS, eB, eZ, eC⟩)
    (h2 : hi ≤ mx) (h3 : mx ≤ c)
    (h : WL md P fn ρ X ops l ((d, slv b off hi mx) :: env) Hs) : WL md P fn ρ X ops (⟨some d, .slice t x A B C, ty, pos, aft, none⟩ :: l) env Hs :=
  .slX (T := T) hn hx hA hB hC ht he (Nat.zero_le _) h2 h3 (by simpa using h)
/-- 's[lo:..]', short of the room's end -/
theorem WL.slXp {x : Operand} {A B C : Option Operand} {t E : TypeId} {b off n c lo hi mx : Nat} {eD : TypeDesc} {eS eB : Nat} {eZ : Value} {eC : Bool} {a q : Nat} {z : Value} {cc : Bool} (hn : Nat.ble (d + 1) fn.ntmps = true)
    (hx : ev env x = some (slv b off n c)) (hA : bndOK env A lo 0) (hB : (B = none ∧ hi = n ∧ C = none) ∨ ∃ y K, B = some y ∧ ev env y = some (.int K (hi : Int))) (hC : bndOK env C mx c) (ht : T.tt t = some ⟨.slice E, a, q, z, cc⟩) (he : T.tt E = some ⟨eD, eS, eB, eZ, eC⟩)
    (h1 : lo ≤ hi) (h2 : hi ≤ mx) (h3 : mx ≤ c) (h4 : lo < mx)
    (h : WL md P fn ρ X ops l ((d, slv b (off + lo * eS) (hi - lo) (mx - lo)) :: env) Hs) : WL md P fn ρ X ops (⟨some d, .slice t x A B C, ty, pos, aft, none⟩ :: l) env Hs :=
  .slX (T := T) hn hx hA hB hC ht he h1 h2 h3 (by rw [if_neg (by omega)]; exact h)
/-- 's[c:..]', at the room's end -/
theorem WL.slXe {x : Operand} {A B C : Option Operand} {t E : TypeId} {b off n c lo hi mx : Nat} {eD : TypeDesc} {eS eB : Nat} {eZ : Value} {eC : Bool} {a q : Nat} {z : Value} {cc : Bool} (hn : Nat.ble (d + 1) fn.ntmps = true)
    (hx : ev env x = some (slv b off n c)) (hA : bndOK env A lo 0) (hB : (B = none ∧ hi = n ∧ C = none) ∨ ∃ y K, B = some y ∧ ev env y = some (.int K (hi : Int))) (hC : bndOK env C mx c) (ht : T.tt t = some ⟨.slice E, a, q, z, cc⟩) (he : T.tt E = some ⟨eD, eS, eB, eZ, eC⟩)
    (h1 : lo ≤ hi) (h2 : hi ≤ mx) (h3 : mx ≤ c) (h4 : lo = mx)
    (h : WL md P fn ρ X ops l ((d, slv b off 0 0) :: env) Hs) : WL md P fn ρ X ops (⟨some d, .slice t x A B C, ty, pos, aft, none⟩ :: l) env Hs :=
  .slX (T := T) hn hx hA hB hC ht he h1 h2 h3 (by subst h4; rw [if_pos rfl, show hi = lo by omega, Nat.sub_self]; exact h)
/-- cells of a row are written over -/
def over (buf : List Value) (at' : Nat) (vs : List Value) : List Value := buf.take at' ++ vs ++ buf.drop (at' + vs.length)
theorem over_len {buf vs : List Value} {k : Nat} (h : k + vs.length ≤ buf.length) : (over buf k vs).length = buf.length := by
  unfold over; simp; omega
theorem over_get {buf vs : List Value} {k : Nat} (h : k + vs.length ≤ buf.length) (p : Nat) : (over buf k vs)[p]? = if p < k then buf[p]? else if p < k + vs.length then vs[p - k]? else buf[p]? := by
  have hk : (buf.take k).length = k := by simp; omega
  unfold over
  rw [List.append_assoc]
  by_cases h1 : p < k
  · rw [if_pos h1, List.getElem?_append_left (by omega), List.getElem?_take, if_pos h1]
  · rw [if_neg h1, List.getElem?_append_right (by omega), hk]
    by_cases h2 : p < k + vs.length
    · rw [if_pos h2, List.getElem?_append_left (by omega)]
    · rw [if_neg h2, List.getElem?_append_right (by omega), List.getElem?_drop]
      congr 1
      omega
theorem zerosL_one {z : List Value} (hz : ∀ q ∈ z, q.oneCell' = true) (m : Nat) : ∀ q ∈ zerosL z m, q.oneCell' = true := by
  intro q hq
  obtain ⟨i, hi⟩ := List.mem_iff_getElem?.1 hq
  have hlt := (List.getElem?_eq_some_iff.1 hi).1
  rw [zerosL_length] at hlt
  rw [zerosL_get _ _ _ hlt] at hi
  exact hz q (List.mem_of_getElem? hi)
/-- what a deletion leaves -/
theorem del_list {buf cs zs : List Value} {off a b n k2 : Nat} (hc : (buf.drop off).take n = cs) (hn : cs.length = n) (hab : a ≤ b) (hbn : b ≤ n) (hk : k2 = off + (a + (n - b))) (hz : k2 + zs.length ≤ buf.length) (ho : off + n ≤ buf.length) :
    ((over (over buf (off + a) (cs.drop b)) k2 zs).drop off).take (a + (n - b)) = cs.take a ++ cs.drop b := by
  have hdl : (cs.drop b).length = n - b := by simp [hn]
  have h1 : off + a + (cs.drop b).length ≤ buf.length := by rw [hdl]; omega
  have hol := over_len h1
  have hcg : ∀ p, p < n → cs[p]? = buf[off + p]? := by
    intro p hp
    rw [← hc, List.getElem?_take, if_pos hp, List.getElem?_drop]
  apply List.ext_getElem?
  intro p
  rw [List.getElem?_take]
  by_cases hp : p < a + (n - b)
  · rw [if_pos hp, List.getElem?_drop, over_get (by rw [hol]; exact hz), if_pos (by omega), over_get h1]
    by_cases hpa : p < a
    · rw [if_pos (by omega), List.getElem?_append_left (by simp [hn]; omega), List.getElem?_take, if_pos hpa, hcg p (by omega)]
    · rw [if_neg (by omega), if_pos (by rw [hdl]; omega), List.getElem?_append_right (by simp [hn]; omega)]
      congr 1
      simp [hn]
      omega
  · rw [if_neg hp, List.getElem?_eq_none (by simp [hn]; omega)]
theorem rw_store {w0 : World} {h0 : Hp} {w : World} {b off : Nat} {Ty : TypeId} {buf vs : List Value} {y : Hp} {x : Hp} (s : St ρ w0 h0 w (join x y)) (dd : Dj x y) (hr : Rw b Ty buf x) (hl : off + vs.length ≤ buf.length) (h1 : ∀ q ∈ vs, q.oneCell' = true) :
    ∃ w' x', (storeCells ⟨b, off, none⟩ vs).run P w = .ok () w' ∧ Dj x' y ∧ St ρ w0 h0 w' (join x' y) ∧ Rw b Ty (over buf off vs) x' := by
  obtain ⟨fr, hfr, hp⟩ := hr
  have ep := pts_eq hp
  subst ep
  have hw : w.heap[b]? = some (.cells buf.toArray Ty fr) := s.own b _ (join_left (by simp [one]))
  have hst := run_storeCells_un (P := P) b off Ty fr vs 0 buf.toArray w hw (by simpa using hl) (fun m h h' => frOK hfr (by omega)) h1
  simp only [Nat.add_zero] at hst
  have hch : Dj (one b (.cells (over buf off vs).toArray Ty fr)) y ∧ St ρ w0 h0 (w.setRow b (over buf off vs).toArray) (join (one b (.cells (over buf off vs).toArray Ty fr)) y) := by
    refine s.change dd ?_ ?_ ?_ (by simp [World.setRow]) rfl rfl rfl
    · intro n hn
      left
      by_cases e : n = b
      · subst e; simp [one]
      · simp [one, e] at hn
    · intro n o ho
      by_cases e : n = b
      · subst e; simp [one] at ho; subst ho; exact setRow_heap w n buf.toArray _ Ty fr hw
      · simp [one, e] at ho
    · intro n _ hn
      refine setRow_other w b n _ (fun e => ?_)
      subst e
      simp [one] at hn
  exact ⟨_, _, by simpa [over] using hst, hch.1, hch.2, fr, by rw [over_len hl]; exact hfr, pts_one _ _⟩
theorem rw_cells {w : World} {b off : Nat} {Ty : TypeId} {buf : List Value} {x : Hp} (hr : Rw b Ty buf x) (hw : ∀ n o, x n = some o → w.heap[n]? = some o) (k : Nat) (j : Nat) (v : Value) (hv : ((buf.drop off).take k)[j]? = some v) : w.cell? ((⟨b, off, none⟩ : Addr).add j) = some v := by
  obtain ⟨fr, hfr, hp⟩ := hr
  rw [Addr.add_lit, World.cell?, hw b _ hp.1]
  rw [List.getElem?_take] at hv
  split at hv
  · simpa [List.getElem?_drop] using hv
  · cases hv
/-- an append into the room behind, of cells of the same row -/
theorem WL.apX {x y : Operand} {t E : TypeId} {b off n c off2 m c2 j : Nat} {buf : List Value} {Ty : TypeId} {eD : TypeDesc} {eS eB : Nat} {eZ : Value} {eC : Bool} {a q : Nat} {z : Value} {cc : Bool} {Hs' : List HP} (hn : Nat.ble (d + 1) fn.ntmps = true)
    (hx : ev env x = some (slv b off n c)) (hy : ev env y = some (slv b off2 m c2)) (ht : T.tt t = some ⟨.slice E, a, q, z, cc⟩) (he : T.tt E = some ⟨eD, eS, eB, eZ, eC⟩)
    (hH : nthH Hs j = some (Rw b Ty buf)) (hroom : n + m ≤ c) (hl : off + c * eS ≤ buf.length) (hl2 : off2 + m * eS ≤ buf.length) (h1 : ∀ q ∈ (buf.drop off2).take (m * eS), q.oneCell' = true)
    (hF : FL (Hs.set j (Rw b Ty (over buf (off + n * eS) ((buf.drop off2).take (m * eS))))) Hs')
    (h : WL false P fn ρ X ops l ((d, slv b off (n + m) c) :: env) Hs') : WL false P fn ρ X ops (⟨some d, .call { callee := .builtin .append, args := #[x, y], argTypes := #[t, t] }, ty, pos, aft, none⟩ :: l) env Hs :=
  .turns (ok := fun v' Hs'' => v' = slv b off (n + m) c ∧ Hs'' = Hs') rfl rfl hn (fun f w0 h0' w hh s p e => by
    have hF := hF.eq
    subst hF
    have hH' : Hs[j]? = some (Rw b Ty buf) := by rw [← nthH_eq]; exact hH
    obtain ⟨A, C, hA, dd, rfl, _, hset⟩ := sepl_at hH' p
    have hle : (n + m) * eS ≤ c * eS := Nat.mul_le_mul_right _ hroom
    have hml : ((buf.drop off2).take (m * eS)).length = m * eS := by simp; omega
    have hcell := rw_cells (off := off2) hA (fun b o hb => s.own b o (join_left hb)) (m * eS)
    have hf := run_firstCells_some (P := P) w eS m ⟨b, off2, none⟩ m c2 _ hml hcell
    obtain ⟨w', x', hst, hd', hs', hr'⟩ := rw_store (P := P) (off := off + n * eS) (vs := (buf.drop off2).take (m * eS)) s dd hA (by rw [hml, Nat.add_assoc, ← Nat.add_mul]; omega) h1
    obtain ⟨_, I, hI, hIs, hIb, hIz, _⟩ := T.ok E _ he
    refine ⟨slv b off (n + m) c, w', _, _, ?_, hs', hset _ _ hr' hd', rfl, rfl⟩
    have hu := T.und ht
    simp [execOp, resolve, invoke, builtin, e _ _ hx, e _ _ hy, Builtin.append_, run_underlying hu, sizeOf, typeInfo, hI, hIs, Builtin.lenOf, hroom, hf, Addr.add_lit, hst]) (fun v' Hs'' ⟨hv, hH⟩ => by subst hv; subst hH; exact h)
theorem WL.doesW {o : Oper} {Hs' : List HP} {v : Value} (hg : o.guard = none) (hd : o.dst = none)
    (hr : ∀ (f : Operand → Value) w0 h0 w h, St ρ w0 h0 w h → sepl Hs h → (∀ x v, ev env x = some v → f x = v) → ∃ w' h', (execOp f o).run P w = .ok (.value v) w' ∧ St ρ w0 h0 w' h' ∧ sepl Hs' h')
    (h : WL false P fn ρ X ops l env Hs') : WL false P fn ρ X ops (o :: l) env Hs := by
  intro w0 h0 w hh a s p e
  refine wpList_plain hg fun K hK => ?_
  obtain ⟨w', h', hrun, s', p'⟩ := hr a.eval w0 h0 w hh s p (fun x v hx => e.eval hx)
  unfold Oper.wp
  rw [hrun, Oper.upon_value, hd]
  exact hK _ _ (h w0 h0 w' h' _ s' p' (e.none _))
/-- cells are cleared -/
theorem WL.clrX {x : Operand} {t E : TypeId} {b off m c j : Nat} {buf : List Value} {Ty : TypeId} {eD : TypeDesc} {eS eB : Nat} {eZ : Value} {eC : Bool} {a q : Nat} {z : Value} {cc : Bool} {ts : Array TypeId} {Hs' : List HP}
    (hx : ev env x = some (slv b off m c)) (hts : ts[0]? = some t) (ht : T.tt t = some ⟨.slice E, a, q, z, cc⟩) (he : T.tt E = some ⟨eD, eS, eB, eZ, eC⟩) (hz : Nat.beq eZ.cells.toList.length eS = true)
    (hH : nthH Hs j = some (Rw b Ty buf)) (hl : off + m * eS ≤ buf.length) (h1 : ∀ q ∈ zerosL eZ.cells.toList m, q.oneCell' = true)
    (hF : FL (Hs.set j (Rw b Ty (over buf off (zerosL eZ.cells.toList m)))) Hs')
    (h : WL false P fn ρ X ops l env Hs') : WL false P fn ρ X ops (⟨none, .call { callee := .builtin .clear, args := #[x], argTypes := ts }, ty, pos, aft, none⟩ :: l) env Hs :=
  .doesW (v := .tuple #[]) rfl rfl (fun f w0 h0' w hh s p e => by
    have hF := hF.eq
    subst hF
    have hz := Nat.eq_of_beq_eq_true hz
    have hH' : Hs[j]? = some (Rw b Ty buf) := by rw [← nthH_eq]; exact hH
    obtain ⟨A, C, hA, dd, rfl, _, hset⟩ := sepl_at hH' p
    have hzl : (zerosL eZ.cells.toList m).length = m * eS := by rw [zerosL_length, hz]
    have hu := T.und ht
    by_cases hm : m = 0
    · subst hm
      have e0 : over buf off (zerosL eZ.cells.toList 0) = buf := by simp [over, zerosL]
      refine ⟨w, join A C, ?_, s, by rw [e0]; exact hset _ _ hA dd⟩
      simp [execOp, resolve, invoke, builtin, e _ _ hx, Builtin.clear_, hts, run_underlying hu]
    · obtain ⟨w', x', hst, hd', hs', hr'⟩ := rw_store (P := P) (off := off) (vs := zerosL eZ.cells.toList m) s dd hA (by rw [hzl]; omega) h1
      refine ⟨w', _, ?_, hs', hset _ _ hr' hd'⟩
      have hzr := T.runZ he (w := w)
      have hzc : (Builtin.zeroCells eZ.cells m).toList = zerosL eZ.cells.toList m := by rw [zeroCells_eq]
      simp [execOp, resolve, invoke, builtin, e _ _ hx, Builtin.clear_, hts, run_underlying hu, hm, hzr, hzc, hst, Result.andThen]) h
/-- a whole struct is stored in an element of a slice that is owned -/
theorem WL.stAE {x y : Operand} {t : TypeId} {i j sz : Nat} {u : Value} {cs vs : List Value} {ti : TyI} {Hs' : List HP} (hx : ev env x = some (eptr u i)) (hy : ev env y = some (.agg vs.toArray))
    (ht : T.tt t = some ti) (hsz : vs.length = ti.size) (h1 : ∀ q ∈ vs, q.oneCell' = true) (hH : nthH Hs j = some (Buf sz u cs)) (hl : i + vs.length ≤ cs.length) (h0 : 0 < vs.length)
    (hF : FL (Hs.set j (Buf sz u (cs.take i ++ vs ++ cs.drop (i + vs.length)))) Hs')
    (h : WL false P fn ρ X ops l env Hs') : WL false P fn ρ X ops (⟨none, .store t x y, ty, pos, aft, none⟩ :: l) env Hs :=
  .does (Hs' := Hs') rfl rfl (fun f w0 h0' w hh s p e => by
    have hF := hF.eq
    subst hF
    have hH' : Hs[j]? = some (Buf sz u cs) := by rw [← nthH_eq]; exact hH
    obtain ⟨a, z, ha, dd, rfl, _, hset⟩ := sepl_at hH' p
    rcases ha with ⟨rfl, rfl, _⟩ | ⟨b, off, n, c, buf, Ty, fr, rfl, hln, hc, hnc, hm, hfr, htk, hp⟩
    · rw [List.length_nil] at hl; omega
    · have hle : n * sz ≤ c * sz := Nat.mul_le_mul_right _ hnc
      have hr : Rw b Ty buf.toList a := ⟨fr, by simpa using hfr, hp⟩
      have hcs : cs.length = n * sz := hln
      obtain ⟨w', x', hst, hd', hs', hr'⟩ := rw_store (P := P) (off := off + i) (vs := vs) s dd hr (by simp; omega) h1
      refine ⟨w', join x' z, ?_, hs', hset _ _ ?_ hd'⟩
      · have hcell : vs.toArray.toList = vs := rfl
        have hadd : (⟨b, off, none⟩ : Addr).add i = ⟨b, off + i, none⟩ := by simp [Addr.add_lit]
        simp only [execOp, e _ _ hx, e _ _ hy, eptr, vaddr, hadd]
        simp [Instr.storeAt, Instr.sureAddr, storeVar, Value.cells, T.runS ht, hsz, hst]
      · have hlen : (over buf.toList (off + i) vs).length = buf.toList.length := over_len (by simp; omega)
        refine rwBuf (n := n) (by simp only [List.length_append, List.length_take, List.length_drop]; omega) (by rw [hlen]; simpa using hc) hnc hm ?_ hr'
        rw [← htk]
        have hol : (over ((buf.toList.drop off).take (n * sz)) i vs).length = ((buf.toList.drop off).take (n * sz)).length := over_len (by rw [htk]; exact hl)
        show ((over buf.toList (off + i) vs).drop off).take (n * sz) = over ((buf.toList.drop off).take (n * sz)) i vs
        apply List.ext_getElem?
        intro q
        rw [over_get (by rw [htk]; exact hl), List.getElem?_take]
        by_cases hq : q < n * sz
        · rw [if_pos hq, List.getElem?_drop, over_get (by simp; omega)]
          simp only [List.getElem?_take, List.getElem?_drop, if_pos hq]
          by_cases h3 : q < i
          · rw [if_pos (by omega), if_pos h3]
          · rw [if_neg (by omega), if_neg h3]
            by_cases h4 : q < i + vs.length
            · rw [if_pos (by omega), if_pos h4]
              congr 1
              omega
            · rw [if_neg (by omega), if_neg h4]
        · rw [if_neg hq]
          simp only [List.getElem?_take, if_neg hq]
          split
          · rfl
          · split
            · rename_i h3 h4
              omega
            · rfl) h
end
end Go.Proofs.Ytdpnpipninggeaa
