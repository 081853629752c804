/- append of so many zero values, over whatever program. -/
import Derived.Test.YtdpnpipninggeaaDoorStc
set_option linter.unusedSimpArgs false
set_option linter.unusedVariables false
namespace Go.Proofs.YtdpnpipninggeaaDoor
open Go
section
variable {P : Program} {T : Tab P} {fn : Func} {ρ : Hp} {Q : Value → HP} {k : List Item} {md : Bool} {X : World → Hp → Act → World → Prop} {env : Env} {Hs : List HP} {ops : Array Oper} {l : List Oper}
variable {d : Tmp} {ty : TypeId} {pos : String} {aft : Array Edge}
theorem run_appendZ {t E ti : TypeId} {ei tii : TyI} {a b : Nat} {z : Value} {c : Bool} (ht : T.tt t = some ⟨.slice E, a, b, z, c⟩) (he : T.tt E = some ei) (hti : T.tt ti = some tii) (hdk : tii.desc = .int .i64) (hz : ei.zero.cells.toList.length = ei.size) (h0 : 0 < ei.size)
    {w0 : World} {h0' : Hp} {w : World} {v : Value} {cs : List Value} {x y : Hp} (s : St ρ w0 h0' w (join x y)) (dd : Dj x y) (hv : Buf ei.size v cs x)
    {n : Nat} (hn : cs.length = n * ei.size) {m : Nat} {news : List Value} (hnews : news = zerosL ei.zero.cells.toList m) (h1 : ∀ q ∈ news, q.oneCell' = true)
    (hb : (n + m) * ei.bytes ≤ 140737488355328) (hM : n + m ≤ maxLen) (tyr : TypeId) :
    ∃ v' w' x', (Builtin.append_ #[t, ti] tyr #[v, .int .i64 (m : Int)]).run P w = .ok v' w' ∧ Dj x' y ∧ St ρ w0 h0' w' (join x' y) ∧ Buf ei.size v' (cs ++ news) x' := by
  have hm : news.length = m * ei.size := by rw [hnews, zerosL_length, hz]
  have hti' : P.underlying ti = some (.int .i64) := by rw [T.und hti, hdk]
  have hwr : IntKind.i64.wrap (m : Int) = m := wrap_i64 ⟨by omega, by unfold maxLen at hM; omega⟩
  have hzn : Builtin.zeroCells ei.zero.cells m = news.toArray := by rw [zeroCells_eq, hnews]
  have hneg : ¬ ((m : Int) < 0) := by omega
  have hbm : ¬ ((281474976710656 : Int) < (m : Int) * (ei.bytes : Int)) := by
    rw [← Int.natCast_mul]
    rw [Nat.add_mul] at hb
    omega

  obtain ⟨_, I, hI, hIs, hIb, hIz, _⟩ := T.ok E ei he
  have hu' := T.und ht
  have hM' : n + m ≤ 9223372036854775807 := by unfold maxLen at hM; omega
  have hzc : ei.zero.cells.size = ei.size := by simpa using hz
  have fresh : ∀ (olds : List Value) (old : Nat), olds = cs → old < n + m →
      ∃ x', Dj x' y ∧ St ρ w0 h0' (w.drew.alloc (.cells (cs.toArray ++ news.toArray ++ Builtin.zeroCells ei.zero.cells (grownCap w (n + m) old E - (n + m))) E)) (join x' y) ∧ Buf ei.size (.slice (some ⟨w.heap.size, 0, none⟩) (n + m) (grownCap w (n + m) old E)) (cs ++ news) x' := by
    intro olds old _ hold
    have hge := grownCap_ge w (n + m) old E
    have hcm := grownCap_le_maxLen w (n + m) old E hM
    have hnew := s.draw.new (.cells (cs.toArray ++ news.toArray ++ Builtin.zeroCells ei.zero.cells (grownCap w (n + m) old E - (n + m))) E)
    have hd := dj_join_right.1 hnew.1
    have hst := hnew.2
    refine ⟨_, hd.2, ?_, ?_⟩
    · -- the old row is let go
      refine ⟨hst.os, hst.tape, hst.output, hst.size, fun b o hb => ?_, hst.ro, ?_, hst.rest, fun b hb => ?_⟩
      · rcases join_some hb with h | h
        · exact hst.own b o (join_left h)
        · exact hst.own b o (join_right hnew.1 (join_right dd h))
      · have := dj_join_right.1 hst.dj
        have := dj_join_right.1 this.2
        exact dj_join_right.2 ⟨(dj_join_right.1 hst.dj).1, this.2⟩
      · refine hst.dom b ?_
        rcases join_ne hb with h | h
        · intro e; exact h (join_none.1 e).1
        · intro e; exact h (join_none.1 (join_none.1 e).2).2
    · rw [zeroCells_eq]
      have := buf_new (w := w.drew) (sz := ei.size) (n := n + m) (c := grownCap w (n + m) old E) (cs := cs ++ news) (rest := zerosL ei.zero.cells.toList (grownCap w (n + m) old E - (n + m))) (Ty := E) (fr := (0, 0))
        (by simp [hn, hm, Nat.add_mul]) (by rw [List.length_append, zerosL_length, hz]; simp only [List.length_append, hn, hm, ← Nat.add_mul]; congr 1; omega) hge hcm (.inr rfl)
      simpa using this
  rcases hv with ⟨rfl, rfl, hx⟩ | ⟨bl, off, n', cp, buf, Ty, fr, rfl, hl, hcp, hncp, hcm, hfr, htk, hp⟩
  · -- from nil
    have hn0 : n = 0 := by
      rcases Nat.mul_eq_zero.1 (by simpa using hn.symm) with h | h
      · exact h
      · omega
    subst hn0
    by_cases hm0 : m = 0
    · subst hm0
      have : news = [] := List.eq_nil_of_length_eq_zero (by simpa using hm)
      subst this
      refine ⟨.slice none 0 0, w, x, ?_, dd, s, .inl ⟨rfl, rfl, hx⟩⟩
      have hw0 : IntKind.i64.wrap 0 = 0 := by decide
      simp [Builtin.append_, run_underlying hu', run_underlying hti', sizeOf, typeInfo, hI, asInt, asIntOf, hw0]
    · obtain ⟨x', h1, h2, h3⟩ := fresh [] 0 rfl (by omega)
      simp only [Nat.zero_add, Array.empty_append, List.nil_append] at h1 h2 h3
      refine ⟨.slice (some ⟨w.heap.size, 0, none⟩) m (grownCap w m 0 E), _, x', ?_, h1, h2, h3⟩
      have h63' : ¬ (9223372036854775807 < (m : Int)) := by omega
      have h48' : ¬ (281474976710656 < Builtin.nextslicecap m 0 * ei.bytes) := by rw [nextslicecap_zero (by omega)]; simp only [Nat.zero_add] at hb; omega
      have hms : ¬ (m = 0 ∨ ei.size = 0) := by omega
      have hmz : ¬ m * ei.size = 0 := fun h => hms (Nat.mul_eq_zero.1 h)
      simp [Builtin.append_, run_underlying hu', run_underlying hti', sizeOf, typeInfo, zeroValue, hI, hIs, hIb, hIz, asInt, asIntOf, hwr, hneg, hbm, hm0, hms, hmz, h63', h48', Question.forced, run_firstCells_none, newRow, grownCap, hzn]
  · have hnn : n' = n := Nat.eq_of_mul_eq_mul_right h0 (by rw [← hl, hn])
    subst hnn
    have hle : n' * ei.size ≤ cp * ei.size := Nat.mul_le_mul_right _ hncp
    have hw : w.heap[bl]? = some (.cells buf Ty fr) := s.own bl _ (join_left hp.1)
    by_cases hroom : n' + m ≤ cp
    · -- in place
      have hfit : (n' + m) * ei.size ≤ cp * ei.size := Nat.mul_le_mul_right _ hroom
      rw [Nat.add_mul, ← hm] at hfit
      have hst := run_storeCells_un (P := P) bl (off + n' * ei.size) Ty fr news 0 buf w hw (by omega) (fun i h h' => frOK hfr (by omega)) h1
      have ep := pts_eq hp
      subst ep
      obtain ⟨row, hrow⟩ : ∃ row, row = (buf.toList.take (off + n' * ei.size) ++ news ++ buf.toList.drop (off + n' * ei.size + news.length)).toArray := ⟨_, rfl⟩
      simp only [Nat.add_zero] at hst
      rw [← hrow] at hst
      have hch : Dj (one bl (.cells row Ty fr)) y ∧ St ρ w0 h0' (w.setRow bl row) (join (one bl (.cells row Ty fr)) y) := by
        refine s.change dd ?_ ?_ ?_ (by simp) rfl rfl rfl
        · intro i hi
          left
          by_cases e : i = bl
          · subst e; simp [one]
          · simp [one, e] at hi
        · intro i o ho
          by_cases e : i = bl
          · subst e; simp [one] at ho; subst ho; exact setRow_heap w i buf _ Ty fr hw
          · simp [one, e] at ho
        · intro i _ hi
          refine setRow_other w bl i _ (fun e => ?_)
          subst e
          simp [one] at hi
      refine ⟨.slice (some ⟨bl, off, none⟩) (n' + m) cp, _, _, ?_, hch.1, hch.2, ?_⟩
      · by_cases hm0 : m = 0
        · have hnn : news = [] := List.eq_nil_of_length_eq_zero (by rw [hm, hm0]; simp)
          subst hm0
          have hw0 : IntKind.i64.wrap 0 = 0 := by decide
          rw [hnn] at hst
          simp [Builtin.append_, run_underlying hu', run_underlying hti', sizeOf, typeInfo, hI, hIs, asInt, asIntOf, hw0, hncp, Addr.add_lit, hst]
        · have hms : ¬ (m = 0 ∨ ei.size = 0) := by omega
          have hmz : ¬ m * ei.size = 0 := fun h => hms (Nat.mul_eq_zero.1 h)
          simp [Builtin.append_, run_underlying hu', run_underlying hti', sizeOf, typeInfo, zeroValue, hI, hIs, hIb, hIz, asInt, asIntOf, hwr, hneg, hbm, hms, hmz, hm0, hroom, hzn, Addr.add_lit, hst]
      · refine .inr ⟨bl, off, n' + m, cp, _, Ty, fr, rfl, by simp [hn, hm, Nat.add_mul], ?_, hroom, hcm, ?_, ?_, pts_one _ _⟩
        · rw [hrow]; simp only [List.size_toArray, List.length_append, List.length_take, List.length_drop, Array.length_toList]; omega
        · refine hfr.imp id (fun h => ?_)
          rw [hrow]; simp only [List.size_toArray, List.length_append, List.length_take, List.length_drop, Array.length_toList]; omega
        · have e1 : (buf.toList.take (off + n' * ei.size)).drop off = cs := by
            rw [List.drop_take, Nat.add_sub_cancel_left]; exact htk
          have hlt : (buf.toList.take (off + n' * ei.size)).length = off + n' * ei.size := by simp; omega
          rw [hrow]
          simp only []
          rw [List.append_assoc, List.drop_append_of_le_length (by rw [hlt]; omega), e1, ← List.append_assoc]
          rw [List.take_append_of_le_length (by simp [hn, hm, Nat.add_mul])]
          rw [List.take_of_length_le (by simp [hn, hm, Nat.add_mul])]
    · -- a new row
      have holds : ∀ j q, cs[j]? = some q → w.cell? ((⟨bl, off, none⟩ : Addr).add j) = some q := by
        intro j q hq
        rw [Addr.add_lit, World.cell?, hw]
        rw [← htk, List.getElem?_take] at hq
        split at hq
        · simpa [List.getElem?_drop] using hq
        · cases hq
      obtain ⟨x', h1, h2, h3⟩ := fresh cs cp rfl (by omega)
      refine ⟨.slice (some ⟨w.heap.size, 0, none⟩) (n' + m) (grownCap w (n' + m) cp E), _, x', ?_, h1, h2, h3⟩
      have hm0 : ¬ m = 0 := by omega
      have hms : ¬ (m = 0 ∨ ei.size = 0) := by omega
      have hmz : ¬ m * ei.size = 0 := fun h => hms (Nat.mul_eq_zero.1 h)
      have h63' : ¬ (9223372036854775807 < ((n' : Int) + (m : Int))) := by omega
      have h48' : ¬ (281474976710656 < Builtin.nextslicecap (n' + m) cp * ei.bytes) := by
        have := growslice_fits (need := n' + m) (old := cp) (bytes := ei.bytes) (by omega) hb
        omega
      have hfo := run_firstCells_some (P := P) w.drew ei.size n' ⟨bl, off, none⟩ n' cp cs hn (by simpa using holds)
      simp [Builtin.append_, run_underlying hu', run_underlying hti', sizeOf, typeInfo, zeroValue, hI, hIs, hIb, hIz, asInt, asIntOf, hwr, hneg, hbm, hms, hmz, hm0, hroom, h63', h48', Question.forced, hfo, newRow, grownCap, hzn]
      congr 2
      apply Array.ext'
      simp [List.append_assoc]
theorem zerosL_map {α : Type} {f : α → Value} {q : α} {z : List Value} (hz : z = [f q]) : ∀ m : Nat, zerosL z m = (List.replicate m q).map f
  | 0 => rfl
  | m + 1 => by rw [zerosL, zerosL_map hz m, hz]; rfl
/-- so many zero values behind an owned row -/
theorem WL.apZ {α : Type} [Inhabited α] {f : α → Value} {L : List α} {x y : Operand} {t E tI : TypeId} {v : Value} {tii : TyI} {i m : Nat} {eD : TypeDesc} {eB : Nat} {eZ : Value} {eC : Bool} {a b : Nat} {z : Value} {c : Bool} {Hs' : Value → List HP} (hn : Nat.ble (d + 1) fn.ntmps = true)
    (hx : ev env x = some v) (hy : ev env y = some (.int .i64 ((m : Nat) : Int))) (ht : T.tt t = some ⟨.slice E, a, b, z, c⟩) (he : T.tt E = some ⟨eD, 1, eB, eZ, eC⟩) (hti : T.tt tI = some tii) (hdk : tii.desc = .int .i64) (hq : eZ.cells.toList = [f default])
    (hH : nthH Hs i = some (Buf 1 v (L.map f))) (hf : ∀ a, (f a).oneCell' = true) (hb : (L.length + m) * eB ≤ 140737488355328) (hM : L.length + m ≤ 140737488355328)
    (hF : ∀ v', FL (Hs.set i (Buf 1 v' ((L ++ List.replicate m default).map f))) (Hs' v'))
    (h : ∀ v', SL v' (L ++ List.replicate m default).length → WL false P fn ρ X ops l ((d, v') :: env) (Hs' v')) : WL false P fn ρ X ops (⟨some d, .call { callee := .builtin .append, args := #[x, y], argTypes := #[t, tI] }, ty, pos, aft, none⟩ :: l) env Hs :=
  .turns (ok := fun v' Hs'' => SL v' (L ++ List.replicate m default).length ∧ Hs'' = Hs' v') rfl rfl hn (fun f' w0 h0' w hh s p e => by
    rw [nthH_eq] at hH
    obtain ⟨A, C, hA, dd, rfl, herase, hset⟩ := sepl_at hH p
    obtain ⟨v', w', x', hrun, hd', hs', hb'⟩ := run_appendZ (T := T) ht he hti hdk (by rw [hq]; rfl) Nat.one_pos s dd hA (n := L.length) (by simp) (m := m) rfl (by
      intro q hq'
      rw [zerosL_map hq] at hq'
      obtain ⟨a, _, rfl⟩ := List.mem_map.1 hq'
      exact hf a) hb (by unfold maxLen; omega) ty
    rw [zerosL_map hq, ← List.map_append] at hb'
    refine ⟨v', w', _, _, ?_, hs', hset _ _ hb' hd', hb'.slm, (hF v').eq⟩
    simp [execOp, resolve, invoke, builtin, e _ _ hx, e _ _ hy, hrun]) (fun v' Hs'' ⟨hv, hH⟩ => by subst hH; exact h v' hv)
end
end Go.Proofs.YtdpnpipninggeaaDoor
