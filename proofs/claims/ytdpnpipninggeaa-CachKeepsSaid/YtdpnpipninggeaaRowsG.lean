/- Rows whose room is told: zeros appended beyond the room. Over whatever program. -/
import Derived.Test.YtdpnpipninggeaaRwx
import Derived.Test.YtdpnpipninggeaaApz
import Derived.Lib.Overlaps
set_option linter.unusedSimpArgs false
set_option linter.unusedVariables false
namespace Go.Proofs.Ytdpnpipninggeaa
open Go
section
variable {P : Program} {T : Tab P} {fn : Func} {ρ σ : Hp} {Q : Value → HP} {k : List Item} {md : Bool} {X : World → Hp → Act → World → Prop} {env : Env} {Hs : List HP} {ops : Array Oper} {l : List Oper}
variable {d : Tmp} {ty : TypeId} {pos : String} {aft : Array Edge}
/-- zeros are appended beyond the room: a new row; the old one stays -/
theorem WL.apG {x y : Operand} {t E ti : TypeId} {tii : TyI} {b off n c m j : Nat} {buf : List Value} {Te : TypeId} {eD : TypeDesc} {eS eB : Nat} {eZ : Value} {eC : Bool} {a q : Nat} {z : Value} {cc : Bool} (hnt : Nat.ble (d + 1) fn.ntmps = true)
    (hx : ev env x = some (slv b off n c)) (hy : ev env y = some (.int .i64 (m : Int))) (ht : T.tt t = some ⟨.slice E, a, q, z, cc⟩) (he : T.tt E = some ⟨eD, eS, eB, eZ, eC⟩) (hti : T.tt ti = some tii) (hdk : tii.desc = .int .i64)
    (hz : Nat.beq eZ.cells.toList.length eS = true) (h0 : Nat.ble 1 eS = true)
    (hH : nthH Hs j = some (Rw b Te buf)) (hl : off + n * eS ≤ buf.length) (hnc : n ≤ c) (hg : c < n + m) (hb : (n + m) * eB ≤ 140737488355328) (hM : n + m ≤ maxLen)
    (h : ∀ b' c' rest, n + m ≤ c' → c' ≤ maxLen → rest.length = (c' - (n + m)) * eS → WL false P fn ρ X ops l ((d, slv b' 0 (n + m) c') :: env) (Rw b' E ((buf.drop off).take (n * eS) ++ zerosL eZ.cells.toList m ++ rest) :: Hs)) :
    WL false P fn ρ X ops (⟨some d, .call { callee := .builtin .append, args := #[x, y], argTypes := #[t, ti] }, ty, pos, aft, none⟩ :: l) env Hs :=
  .turns (ok := fun v' Hs'' => ∃ b' c' rest, n + m ≤ c' ∧ c' ≤ maxLen ∧ rest.length = (c' - (n + m)) * eS ∧ v' = slv b' 0 (n + m) c' ∧ Hs'' = Rw b' E ((buf.drop off).take (n * eS) ++ zerosL eZ.cells.toList m ++ rest) :: Hs) rfl rfl hnt (fun f w0 h0' w hh s p e => by
    have hz := Nat.eq_of_beq_eq_true hz
    have h0 := Nat.le_of_ble_eq_true h0
    have hH' : Hs[j]? = some (Rw b Te buf) := by rw [← nthH_eq]; exact hH
    obtain ⟨A, C, hA, dd, rfl, _, _⟩ := sepl_at hH' p
    have hti' : P.underlying ti = some (.int .i64) := by rw [T.und hti, hdk]
    have hwr : IntKind.i64.wrap (m : Int) = m := wrap_i64 ⟨by omega, by unfold maxLen at hM; omega⟩
    obtain ⟨news, hnews⟩ : ∃ news, news = zerosL eZ.cells.toList m := ⟨_, rfl⟩
    have hzn : Builtin.zeroCells eZ.cells m = news.toArray := by rw [zeroCells_eq, hnews]
    have hneg : ¬ ((m : Int) < 0) := by omega
    have hbm : ¬ ((281474976710656 : Int) < (m : Int) * (eB : Int)) := by
      rw [← Int.natCast_mul]
      rw [Nat.add_mul] at hb
      omega
    obtain ⟨_, I, hI, hIs, hIb, hIz, _⟩ := T.ok E _ he
    have hu' := T.und ht
    have hM' : n + m ≤ 9223372036854775807 := by unfold maxLen at hM; omega
    obtain ⟨cs, hcs⟩ : ∃ cs, cs = (buf.drop off).take (n * eS) := ⟨_, rfl⟩
    have hcl : cs.length = n * eS := by rw [hcs]; simp; omega
    have hcell := rw_cells (off := off) hA (fun b o hb => s.own b o (join_left hb)) (n * eS)
    rw [← hcs] at hcell
    have hge := grownCap_ge w (n + m) c E
    have hcm := grownCap_le_maxLen w (n + m) c E hM
    have hnew := s.draw.new (.cells (cs.toArray ++ news.toArray ++ Builtin.zeroCells eZ.cells (grownCap w (n + m) c E - (n + m))) E)
    obtain ⟨rest, hrest⟩ : ∃ rest, rest = zerosL eZ.cells.toList (grownCap w (n + m) c E - (n + m)) := ⟨_, rfl⟩
    have hro : (Obj.cells (cs.toArray ++ news.toArray ++ Builtin.zeroCells eZ.cells (grownCap w (n + m) c E - (n + m))) E) = Obj.cells (cs ++ news ++ rest).toArray E (0, 0) := by
      rw [zeroCells_eq, ← hrest]
      simp
    rw [hro] at hnew
    refine ⟨slv w.heap.size 0 (n + m) (grownCap w (n + m) c E), _, _, Rw w.heap.size E (cs ++ news ++ rest) :: Hs, ?_, hnew.2, ⟨_, _, ⟨(0, 0), .inl rfl, pts_one _ _⟩, p, hnew.1, rfl⟩, w.heap.size, grownCap w (n + m) c E, rest, hge, hcm, by rw [hrest, zerosL_length, hz], rfl, by rw [hcs, hnews]⟩
    have hm0 : ¬ m = 0 := by omega
    have hms : ¬ (m = 0 ∨ eS = 0) := by omega
    have hmz : ¬ m * eS = 0 := fun h => hms (Nat.mul_eq_zero.1 h)
    have hroom : ¬ n + m ≤ c := by omega
    have h63' : ¬ (9223372036854775807 < ((n : Int) + (m : Int))) := by omega
    have h48' : ¬ (281474976710656 < Builtin.nextslicecap (n + m) c * eB) := by
      have := growslice_fits (need := n + m) (old := c) (bytes := eB) (by omega) hb
      omega
    have hfo := run_firstCells_some (P := P) w.drew eS n ⟨b, off, none⟩ n c cs hcl (by simpa using hcell)
    have hzr : Builtin.zeroCells eZ.cells (grownCap w (n + m) c E - (n + m)) = rest.toArray := by rw [zeroCells_eq, hrest]
    simp [execOp, resolve, invoke, builtin, e _ _ hx, e _ _ hy, Builtin.append_, run_underlying hu', run_underlying hti', sizeOf, typeInfo, zeroValue, hI, hIs, hIb, hIz, asInt, asIntOf, hwr, hneg, hbm, hms, hmz, hm0, hroom, h63', h48', Question.forced, hfo, newRow, hzn]
    refine ⟨rfl, ?_⟩
    show w.drew.alloc (Obj.cells (cs.toArray ++ (news.toArray ++ Builtin.zeroCells eZ.cells (grownCap w (n + m) c E - (n + m)))) E) = _
    rw [hzr]
    congr 2
    simp) (fun v' Hs'' ⟨b', c', rest, g1, g2, g3, hv, hH⟩ => by subst hv; subst hH; exact h b' c' rest g1 g2 g3)
/-- a slice is built, its row told -/
theorem WL.bsX {t E : TypeId} {n : Nat} {ps : List (Nat × Operand)} {vs : List (Nat × Value)} {eD : TypeDesc} {eS eB : Nat} {eZ : Value} {eC : Bool} {a b : Nat} {z : Value} {c : Bool} {out out' : List Value} (hn : Nat.ble (d + 1) fn.ntmps = true)
    (ht : T.tt t = some ⟨.slice E, a, b, z, c⟩) (he : T.tt E = some ⟨eD, eS, eB, eZ, eC⟩) (hsz : Nat.beq eZ.cells.toList.length eS = true) (hN : Nat.ble (n * eS) 16777216 = true) (hN' : Nat.ble n 16777216 = true) (hv : evParts env ps = some vs)
    (hf : fillL (fun i => some (i * eS, eS)) (zerosL eZ.cells.toList n) vs = some out) (hF : FL out out')
    (h : ∀ b', WL false P fn ρ X ops l ((d, slv b' 0 n n) :: env) (box b' out' E :: Hs)) : WL false P fn ρ X ops (⟨some d, .buildSlice t n ps.toArray, ty, pos, aft, none⟩ :: l) env Hs :=
  .turns (ok := fun v Hs' => ∃ b', v = slv b' 0 n n ∧ Hs' = box b' out' E :: Hs) rfl rfl hn (fun f w0 h0 w hh s p e => by
    have hF := hF.eq
    subst hF
    have hsz := Nat.eq_of_beq_eq_true hsz
    have hN := Nat.le_of_ble_eq_true hN
    have hN' := Nat.le_of_ble_eq_true hN'
    have hfill := fill_of_fillL vs _ _ hf
    have hm := evParts_map e ps vs hv
    have hol : out.length = n * eS := by
      have hkeep : ∀ (vs : List (Nat × Value)) (cs out : List Value), fillL (fun i => some (i * eS, eS)) cs vs = some out → out.length = cs.length := by
        intro vs
        induction vs with
        | nil => intro cs out h; simp [fillL] at h; rw [h]
        | cons q r ih =>
          intro cs out h
          simp only [fillL] at h
          cases hc : (Nat.beq q.2.cells.toList.length eS && Nat.ble (q.1 * eS + eS) cs.length) with
          | false => rw [hc] at h; simp at h
          | true => simp only [hc, cond_true] at h; rw [ih _ _ h, put1_length]
      rw [hkeep _ _ _ hf, zerosL_length, hsz]
    have hnew := s.new (.cells out.toArray E)
    refine ⟨slv w.heap.size 0 n n, _, _, box w.heap.size out E :: Hs, ?_, hnew.2, ⟨_, _, pts_one _ _, p, hnew.1, rfl⟩, w.heap.size, rfl, rfl⟩
    have hz := zeros_eq eZ n
    simp only [Array.length_toList] at hsz
    rw [hsz] at hz
    by_cases h00 : n * eS = 0
    · have ho : zerosL eZ.cells.toList n = [] := List.eq_nil_of_length_eq_zero (by rw [zerosL_length]; simpa [hsz] using h00)
      rw [ho] at hfill
      have hr0 : (Array.range (n * eS)).map (fun i => (#[] : Array Value)[i % (#[] : Array Value).size]!) = #[] := by rw [h00, Array.range_zero', Array.map_empty]
      have hlt : ¬ (n * eS > 2 ^ 24) := by omega
      simp only [execOp, Instr.buildSlice, Sem.run_bind, T.runU ht, T.runS he, Result.andThen_ok, if_neg hlt, if_pos h00, Sem.run_pure, hr0]
      have hm' : (ps.toArray.map fun x => (x.1, f x.2)).toList = vs := by simpa using hm
      simp [hm', hm, hfill, newRow]
    · simp [execOp, Instr.buildSlice, T.runU ht, T.runS he, T.runZ he, hm, show ¬ (16777216 < n * eS) by omega, h00, hsz, hz, hfill, newRow]) (fun v Hs' ⟨b', hv, hH⟩ => by subst hv; subst hH; exact h b')
/-- slices.overlaps of two rows apart: the first is a built one, the second is not empty -/
theorem WL.ovX {g : FuncId} {G : Func} {x y : Operand} {ts : Array TypeId} {b1 n1 c1 b2 o2 n2 c2 j1 j2 : Nat} {cs buf : List Value} {E1 T2 tS tR E : TypeId} {eD : TypeDesc} {eS eB : Nat} {eZ : Value} {eC : Bool} {a q : Nat} {z : Value} {cc : Bool} (hn : Nat.ble (d + 1) fn.ntmps = true)
    (hx : ev env x = some (slv b1 0 n1 c1)) (hy : ev env y = some (slv b2 o2 n2 c2)) (hG : P.funcs[g]? = some G) (hnm : (G.name == "runtime.NumGoroutine") = false) (hbd : G.body.isNone = true)
    (hfn : Extern.findNext G = none) (hfd : Extern.find G = some (Extern.SlicesOverlaps.overlaps #[tS, tS] #[tR])) (ht : T.tt tS = some ⟨.slice E, a, q, z, cc⟩) (he : T.tt E = some ⟨eD, eS, eB, eZ, eC⟩)
    (hH1 : nthH Hs j1 = some (box b1 cs E1)) (hH2 : nthH (Hs.eraseIdx j1) j2 = some (Rw b2 T2 buf)) (hc : 0 < cs.length) (hbuf : buf.length ≠ 0)
    (h : WL false P fn ρ X ops l ((d, .bool false) :: env) Hs) : WL false P fn ρ X ops (⟨some d, .call { callee := .value (.func g), args := #[x, y], argTypes := ts }, ty, pos, aft, none⟩ :: l) env Hs :=
  .rd rfl rfl hn (fun f w hh ho hr p e => by
    have hE1 : Hs[j1]? = some (box b1 cs E1) := by rw [← nthH_eq]; exact hH1
    obtain ⟨A, C, hA, dAC, rfl, herase, _⟩ := sepl_at hE1 p
    have hE2 : (Hs.eraseIdx j1)[j2]? = some (Rw b2 T2 buf) := by rw [← nthH_eq]; exact hH2
    obtain ⟨B, D, ⟨fr, hfr, hB⟩, _, rfl, _, _⟩ := sepl_at hE2 herase
    have w1 : w.heap[b1]? = some (.cells cs.toArray E1 (0, 0)) := ho b1 _ (join_left hA.1)
    have w2 : w.heap[b2]? = some (.cells buf.toArray T2 fr) := ho b2 _ (join_right dAC (join_left hB.1))
    have hne : b1 ≠ b2 := by
      intro eq
      subst eq
      rcases dAC b1 with h | h
      · rw [hA.1] at h; cases h
      · rw [join_left hB.1] at h; cases h
    have hz := T.runS he
    have hov := Go.Lib.run_overlaps_apart (P := P) w tS tR E (T.und ht) eS (T.runS he) ⟨b1, 0, none⟩ ⟨b2, o2, none⟩ n1 c1 n2 c2 hne E1 T2 cs.length buf.length (by simp [World.shape?, w1]) (by simp [World.shape?, w2]) hbuf (by simp [World.frozen?, w1]) (by simp [World.frozen?, w1])
    have hef : f (.func g) = .func (.func g) #[] #[] := e _ _ rfl
    simp [execOp, resolve, hef, Deferred.ofValue, invoke, callFunc, e _ _ hx, e _ _ hy, run_program, hG, beq_eq_false_iff_ne.1 hnm, Option.isNone_iff_eq_none.1 hbd, hfn, hfd, hov]) h
theorem box_ro {b sz n : Nat} {c : List Value} {E : TypeId} {h : Hp} (hb : box b c E h) (hl : c.length = n * sz) (hm : n ≤ maxLen) : ROs h sz (slv b 0 n n) c :=
  .inr (.inr ⟨b, 0, n, n, c.toArray, E, (0, 0), rfl, hb.1, hl, by simp [hl], Nat.le_refl _, hm, by simp [← hl]⟩)
/-- nil, cut from its beginning -/
theorem WL.slZ {x : Operand} {A B C : Option Operand} {t E : TypeId} {eD : TypeDesc} {eS eB : Nat} {eZ : Value} {eC : Bool} {a q : Nat} {z : Value} {cc : Bool} (hn : Nat.ble (d + 1) fn.ntmps = true)
    (hx : ev env x = some (.slice none 0 0)) (hA : bndOK env A 0 0) (hB : (B = none ∧ C = none) ∨ ∃ y K, B = some y ∧ ev env y = some (.int K 0)) (hC : bndOK env C 0 0) (ht : T.tt t = some ⟨.slice E, a, q, z, cc⟩) (he : T.tt E = some ⟨eD, eS, eB, eZ, eC⟩)
    (h : WL md P fn ρ X ops l ((d, .slice none 0 0) :: env) Hs) : WL md P fn ρ X ops (⟨some d, .slice t x A B C, ty, pos, aft, none⟩ :: l) env Hs :=
  .val rfl rfl hn (fun f w e => by
    have ka : (A.map f = none ∧ (0 : Nat) = 0) ∨ ∃ K, A.map f = some (.int K ((0 : Nat) : Int)) := by
      rcases hA with ⟨rfl, h⟩ | ⟨y, K, rfl, h⟩
      · exact .inl ⟨rfl, rfl⟩
      · exact .inr ⟨K, by simp [e _ _ h]⟩
    have kc : (C.map f = none ∧ (0 : Nat) = 0) ∨ ∃ K, C.map f = some (.int K ((0 : Nat) : Int)) := by
      rcases hC with ⟨rfl, h⟩ | ⟨y, K, rfl, h⟩
      · exact .inl ⟨rfl, rfl⟩
      · exact .inr ⟨K, by simp [e _ _ h]⟩
    have kb : (B.map f = none ∧ (0 : Nat) = 0 ∧ C.map f = none) ∨ ∃ K, B.map f = some (.int K ((0 : Nat) : Int)) := by
      rcases hB with ⟨rfl, rfl⟩ | ⟨y, K, rfl, h⟩
      · exact .inl ⟨rfl, rfl, rfl⟩
      · exact .inr ⟨K, by simp [e _ _ h]⟩
    have hb := bounds_run (P := P) (w := w) ka kb kc (Nat.le_refl _) (Nat.le_refl _) (Nat.le_refl _)
    simp [execOp, e _ _ hx, Instr.sliceAt, Instr.slice, hb, T.runU ht, T.runS he, Result.andThen]) h
/- copies whose count is taken -/
theorem WL.cpXd {x y : Operand} {t E : TypeId} {b off n c off2 m c2 j : Nat} {buf : List Value} {Ty : TypeId} {eD : TypeDesc} {eS eB : Nat} {eZ : Value} {eC : Bool} {a q : Nat} {z : Value} {cc : Bool} {ts : Array TypeId} {Hs' : List HP} (hnt : Nat.ble (d + 1) fn.ntmps = true)
    (hx : ev env x = some (slv b off n c)) (hy : ev env y = some (slv b off2 m c2)) (hts : ts[0]? = some t) (ht : T.tt t = some ⟨.slice E, a, q, z, cc⟩) (he : T.tt E = some ⟨eD, eS, eB, eZ, eC⟩)
    (hH : nthH Hs j = some (Rw b Ty buf)) (hl : off + (min m n) * eS ≤ buf.length) (hl2 : off2 + (min m n) * eS ≤ buf.length) (h1 : ∀ q ∈ (buf.drop off2).take ((min m n) * eS), q.oneCell' = true)
    (hF : FL (Hs.set j (Rw b Ty (over buf off ((buf.drop off2).take ((min m n) * eS))))) Hs')
    (h : WL false P fn ρ X ops l ((d, goInt (min m n)) :: env) Hs') : WL false P fn ρ X ops (⟨some d, .call { callee := .builtin .copy, args := #[x, y], argTypes := ts }, ty, pos, aft, none⟩ :: l) env Hs :=
  .turns (ok := fun v' Hs'' => v' = goInt (min m n) ∧ Hs'' = Hs') rfl rfl hnt (fun f w0 h0' w hh s p e => by
    have hF := hF.eq
    subst hF
    have hH' : Hs[j]? = some (Rw b Ty buf) := by rw [← nthH_eq]; exact hH
    obtain ⟨A, C, hA, dd, rfl, _, hset⟩ := sepl_at hH' p
    have hml : ((buf.drop off2).take ((min m n) * eS)).length = (min m n) * eS := by simp; omega
    have hcell := rw_cells (off := off2) hA (fun b o hb => s.own b o (join_left hb)) ((min m n) * eS)
    have hf := run_firstCells_some (P := P) w eS (min m n) ⟨b, off2, none⟩ m c2 _ hml hcell
    obtain ⟨w', x', hst, hd', hs', hr'⟩ := rw_store (P := P) (off := off) (vs := (buf.drop off2).take ((min m n) * eS)) s dd hA (by rw [hml]; exact hl) h1
    have hu := T.und ht
    have hmin : Nat.min m n = min m n := rfl
    refine ⟨goInt (min m n), w', _, _, ?_, hs', hset _ _ hr' hd', rfl, rfl⟩
    simp [execOp, resolve, invoke, builtin, e _ _ hx, e _ _ hy, Builtin.copy_, hts, run_underlying hu, T.runS he, Builtin.lenOf, hmin, hf, hst, Result.andThen]
    try (congr 1; omega)) (fun v' Hs'' ⟨hv, hH⟩ => by subst hv; subst hH; exact h)
theorem WL.cpSd {x y : Operand} {t E : TypeId} {b off n c m j : Nat} {u : Value} {buf news : List Value} {Ty : TypeId} {eD : TypeDesc} {eS eB : Nat} {eZ : Value} {eC : Bool} {a q : Nat} {z : Value} {cc : Bool} {ts : Array TypeId} {Hs' : List HP} (hnt : Nat.ble (d + 1) fn.ntmps = true)
    (hx : ev env x = some (slv b off n c)) (hy : ev env y = some u) (hts : ts[0]? = some t) (ht : T.tt t = some ⟨.slice E, a, q, z, cc⟩) (he : T.tt E = some ⟨eD, eS, eB, eZ, eC⟩)
    (hH : nthH Hs j = some (Rw b Ty buf)) (hR : Src ρ (Hs.eraseIdx j) eS u news) (hu : SL u m) (hm : news.length = m * eS) (hmn : m ≤ n) (hl : off + m * eS ≤ buf.length) (h1 : ∀ q ∈ news, q.oneCell' = true)
    (hF : FL (Hs.set j (Rw b Ty (over buf off news))) Hs')
    (h : WL false P fn ρ X ops l ((d, goInt m) :: env) Hs') : WL false P fn ρ X ops (⟨some d, .call { callee := .builtin .copy, args := #[x, y], argTypes := ts }, ty, pos, aft, none⟩ :: l) env Hs :=
  .turns (ok := fun v' Hs'' => v' = goInt m ∧ Hs'' = Hs') rfl rfl hnt (fun f w0 h0' w hh s p e => by
    have hF := hF.eq
    subst hF
    have hH' : Hs[j]? = some (Rw b Ty buf) := by rw [← nthH_eq]; exact hH
    obtain ⟨A, C, hA, dd, rfl, herase, hset⟩ := sepl_at hH' p
    obtain ⟨yy, hyy, hwy⟩ := hR.at (w := w) (fun b o hb => s.own b o (join_right dd hb)) s.ro herase
    obtain ⟨w', x', hst, hd', hs', hr'⟩ := rw_store (P := P) (off := off) (vs := news) s dd hA (by rw [hm]; exact hl) h1
    have huT := T.und ht
    have hmin : Nat.min m n = m := Nat.min_eq_left hmn
    refine ⟨goInt m, w', _, _, ?_, hs', hset _ _ hr' hd', rfl, rfl⟩
    rcases hu.src with ⟨rfl, rfl⟩ | ⟨c', hu2⟩
    · have hn0 : news = [] := List.eq_nil_of_length_eq_zero (by simpa using hm)
      subst hn0
      have hf : (Builtin.firstCells eS 0 (.slice none 0 0)).run P w = .ok #[] w := by simp [Builtin.firstCells]
      simp [execOp, resolve, invoke, builtin, e _ _ hx, e _ _ hy, Builtin.copy_, hts, run_underlying huT, T.runS he, Builtin.lenOf, hmin, hf, hst, Result.andThen]
    · have hf := run_firstCells_some (P := P) w eS m (vaddr u) m c' news hm (fun j q hq => hyy.cell hwy hq)
      rw [hu2] at hy
      simp [execOp, resolve, invoke, builtin, e _ _ hx, e _ _ hy, Builtin.copy_, hts, run_underlying huT, T.runS he, Builtin.lenOf, hmin, hf, hst, Result.andThen]) (fun v' Hs'' ⟨hv, hH⟩ => by subst hv; subst hH; exact h)
theorem WL.cpYd {x y : Operand} {t E : TypeId} {b off n c m j : Nat} {b2 off2 c2 j2 : Nat} {buf buf2 news : List Value} {Ty Ty2 : TypeId} {eD : TypeDesc} {eS eB : Nat} {eZ : Value} {eC : Bool} {a q : Nat} {z : Value} {cc : Bool} {ts : Array TypeId} {Hs' : List HP} (hnt : Nat.ble (d + 1) fn.ntmps = true)
    (hx : ev env x = some (slv b off n c)) (hy : ev env y = some (slv b2 off2 m c2)) (hts : ts[0]? = some t) (ht : T.tt t = some ⟨.slice E, a, q, z, cc⟩) (he : T.tt E = some ⟨eD, eS, eB, eZ, eC⟩)
    (hH : nthH Hs j = some (Rw b Ty buf)) (hH2 : nthH (Hs.eraseIdx j) j2 = some (Rw b2 Ty2 buf2)) (hnews : (buf2.drop off2).take (m * eS) = news) (hl2 : off2 + m * eS ≤ buf2.length) (hmn : m ≤ n) (hl : off + m * eS ≤ buf.length) (h1 : ∀ q ∈ news, q.oneCell' = true)
    (hF : FL (Hs.set j (Rw b Ty (over buf off news))) Hs')
    (h : WL false P fn ρ X ops l ((d, goInt m) :: env) Hs') : WL false P fn ρ X ops (⟨some d, .call { callee := .builtin .copy, args := #[x, y], argTypes := ts }, ty, pos, aft, none⟩ :: l) env Hs :=
  .turns (ok := fun v' Hs'' => v' = goInt m ∧ Hs'' = Hs') rfl rfl hnt (fun f w0 h0' w hh s p e => by
    have hF := hF.eq
    subst hF
    have hH' : Hs[j]? = some (Rw b Ty buf) := by rw [← nthH_eq]; exact hH
    obtain ⟨A, C, hA, dd, rfl, herase, hset⟩ := sepl_at hH' p
    have hm : news.length = m * eS := by rw [← hnews]; simp; omega
    have hE' : (Hs.eraseIdx j)[j2]? = some (Rw b2 Ty2 buf2) := by rw [← nthH_eq]; exact hH2
    obtain ⟨B, D, hB, _, hC, _, _⟩ := sepl_at hE' herase
    have hcell := rw_cells (off := off2) hB (fun b o hb => s.own b o (join_right dd (by rw [hC]; exact join_left hb))) (m * eS)
    rw [hnews] at hcell
    obtain ⟨w', x', hst, hd', hs', hr'⟩ := rw_store (P := P) (off := off) (vs := news) s dd hA (by rw [hm]; exact hl) h1
    have huT := T.und ht
    have hmin : Nat.min m n = m := Nat.min_eq_left hmn
    refine ⟨goInt m, w', _, _, ?_, hs', hset _ _ hr' hd', rfl, rfl⟩
    have hf := run_firstCells_some (P := P) w eS m ⟨b2, off2, none⟩ m c2 news hm hcell
    simp [execOp, resolve, invoke, builtin, e _ _ hx, e _ _ hy, Builtin.copy_, hts, run_underlying huT, T.runS he, Builtin.lenOf, hmin, hf, hst, Result.andThen]) (fun v' Hs'' ⟨hv, hH⟩ => by subst hv; subst hH; exact h)
/-- where this stands in the context, a slice that is built is told as a row of its own -/
def UseX : Prop := True
theorem useX : UseX := trivial
theorem WL.bsXh (hu : UseX) {t E : TypeId} {n : Nat} {ps : List (Nat × Operand)} {vs : List (Nat × Value)} {eD : TypeDesc} {eS eB : Nat} {eZ : Value} {eC : Bool} {a b : Nat} {z : Value} {c : Bool} {out out' : List Value} (hn : Nat.ble (d + 1) fn.ntmps = true)
    (ht : T.tt t = some ⟨.slice E, a, b, z, c⟩) (he : T.tt E = some ⟨eD, eS, eB, eZ, eC⟩) (hsz : Nat.beq eZ.cells.toList.length eS = true) (hN : Nat.ble (n * eS) 16777216 = true) (hN' : Nat.ble n 16777216 = true) (hv : evParts env ps = some vs)
    (hf : fillL (fun i => some (i * eS, eS)) (zerosL eZ.cells.toList n) vs = some out) (hF : FL out out')
    (h : ∀ b', WL false P fn ρ X ops l ((d, slv b' 0 n n) :: env) (box b' out' E :: Hs)) : WL false P fn ρ X ops (⟨some d, .buildSlice t n ps.toArray, ty, pos, aft, none⟩ :: l) env Hs :=
  .bsX (T := T) hn ht he hsz hN hN' hv hf hF h
end
end Go.Proofs.Ytdpnpipninggeaa
