/- The rules for append, cuts of slices, make, and bytes and strings, over whatever program. -/
import Derived.Test.YtdpnpipninggeaaGreatDoorMak
set_option linter.unusedSimpArgs false
set_option linter.unusedVariables false
namespace Go.Proofs.YtdpnpipninggeaaGreatDoor
open Go

theorem run_storeCells_un {P : Program} (g o : Nat) (t : TypeId) (fr : Nat × Nat) : ∀ (vs : List Value) (i : Nat) (cur : Array Value) (w : World), w.heap[g]? = some (.cells cur t fr) → o + i + vs.length ≤ cur.size →
    (∀ m, o + i ≤ m → m < o + i + vs.length → ¬ (fr.1 ≤ m ∧ m < fr.2)) → (∀ v ∈ vs, v.oneCell' = true) →
    (storeCells ⟨g, o, none⟩ vs i).run P w = .ok () (w.setRow g (cur.toList.take (o + i) ++ vs ++ cur.toList.drop (o + i + vs.length)).toArray)
  | [], i, cur, w, hg, _, _, _ => by
    simp only [storeCells, List.append_nil, List.length_nil, Nat.add_zero, List.take_append_drop, Array.toArray_toList]
    rw [setRow_self w g cur t fr hg]
    rfl
  | v :: rest, i, cur, w, hg, hl, hf, h1 => by
    have hi : o + i < cur.size := by simp at hl; omega
    have hadd : (⟨g, o, none⟩ : Addr).add i = ⟨g, o + i, none⟩ := Addr.add_lit g o i
    have hcell : w.cell? ⟨g, o + i, none⟩ = some cur[o + i] := by simp [World.cell?, hg, hi]
    have hfro : w.frozen? ⟨g, o + i, none⟩ = false := by
      have := hf (o + i) (Nat.le_refl _) (by simp)
      simp only [World.frozen?, hg]
      simpa using this
    have hst : (store ((⟨g, o, none⟩ : Addr).add i) v).run P w = .ok () (w.setRow g (cur.setIfInBounds (o + i) v)) := by
      rw [hadd, run_store P w _ v _ (h1 v (by simp)), hcell]
      simp [hfro, setCell_eq_setRow w g (o + i) cur t fr v hg]
    have ih := run_storeCells_un (P := P) g o t fr rest (i + 1) (cur.setIfInBounds (o + i) v) (w.setRow g (cur.setIfInBounds (o + i) v)) (setRow_heap w g cur _ t _ hg) (by simp at hl ⊢; omega)
      (fun m h h' => hf m (by omega) (by simp at h' ⊢; omega)) (fun x hx => h1 x (by simp [hx]))
    simp only [storeCells, Sem.run_bind, hst, Result.andThen_ok, ih, setRow_setRow]
    congr 3
    have e := list_seg_step cur.toList (o + i) v rest (by simp at hl ⊢; omega)
    simpa [Array.toList_setIfInBounds, Nat.add_assoc] using e

/-- a slice's value at a source: its address and what is read there -/
theorem SL.src {v : Value} {n : Nat} (h : SL v n) : (v = .slice none 0 0 ∧ n = 0) ∨ ∃ c, v = .slice (some (vaddr v)) n c := by
  rcases h with h | ⟨a, c, rfl⟩
  · exact .inl h
  · exact .inr ⟨c, rfl⟩

section
variable {P : Program} {T : Tab P} {fn : Func} {ρ : Hp} {Q : Value → HP} {k : List Item} {md : Bool} {X : World → Hp → Act → World → Prop} {env : Env} {Hs : List HP} {ops : Array Oper} {l : List Oper}
variable {d : Tmp} {ty : TypeId} {pos : String} {aft : Array Edge}

def Rd (sz : Nat) (v : Value) (cs : List Value) : HP := fun h => ROs h sz v cs
/-- where a slice that is only read lies: among what is read, or in a part that is owned -/
def Src (ρ : Hp) (Hs : List HP) (sz : Nat) (u : Value) (cs : List Value) : Prop :=
  ∀ (w : World) (h : Hp), (∀ b o, h b = some o → w.heap[b]? = some o) → (∀ b o, ρ b = some o → w.heap[b]? = some o) → sepl Hs h → ∃ y, ROs y sz u cs ∧ ∀ b o, y b = some o → w.heap[b]? = some o
theorem Src.ro {sz : Nat} {u : Value} {cs : List Value} (h : ROs ρ sz u cs) : Src ρ Hs sz u cs := fun _ _ _ hr _ => ⟨ρ, h, hr⟩
theorem Src.part {sz : Nat} {u : Value} {cs : List Value} (j : Nat) {q : HP} (h1 : Hs[j]? = some q) (h2 : ∀ h, q h → ROs h sz u cs) : Src ρ Hs sz u cs := fun w h ho _ p => by
  obtain ⟨y, z, hy, _, rfl, _⟩ := sepl_at h1 p
  exact ⟨y, h2 _ hy, fun b o hb => ho b o (join_left hb)⟩
theorem Src.both {sz : Nat} {u : Value} {cs : List Value} (j : Nat) {q : HP} (h1 : Hs[j]? = some q) (h2 : ∀ h, q h → ROs (join ρ h) sz u cs) : Src ρ Hs sz u cs := fun w h ho hr p => by
  obtain ⟨y, z, hy, _, rfl, _⟩ := sepl_at h1 p
  refine ⟨_, h2 _ hy, fun b o hb => ?_⟩
  rcases join_some hb with h | h
  · exact hr b o h
  · exact ho b o (join_left h)
theorem Src.own {sz : Nat} {u : Value} {cs : List Value} (j : Nat) (h : Hs[j]? = some (Buf sz u cs)) : Src ρ Hs sz u cs := .part j h fun _ hb => Buf.ro hb
theorem Src.rd {sz : Nat} {u : Value} {cs : List Value} (j : Nat) (h : Hs[j]? = some (Rd sz u cs)) : Src ρ Hs sz u cs := .part j h fun _ hb => hb
theorem Src.cut {sz : Nat} {u : Value} {cs : List Value} {q : HP} (j : Nat) (h : Hs[j]? = some (fun h => q h ∧ ROs h sz u cs)) : Src ρ Hs sz u cs := .part j h fun _ hb => hb.2
/-- what a source gives in a state: a part of memory in which the slice reads so -/
theorem Src.at {sz : Nat} {u : Value} {cs : List Value} (hs : Src ρ Hs sz u cs) {w : World} {h : Hp} (ho : ∀ b o, h b = some o → w.heap[b]? = some o) (hr : ∀ b o, ρ b = some o → w.heap[b]? = some o) (p : sepl Hs h) :
    ∃ y, ROs y sz u cs ∧ ∀ b o, y b = some o → w.heap[b]? = some o := hs w h ho hr p

/- append -/
theorem run_append {t E : TypeId} {ei : TyI} {a b : Nat} {z : Value} {c : Bool} (ht : T.tt t = some ⟨.slice E, a, b, z, c⟩) (he : T.tt E = some ei) (hz : ei.zero.cells.toList.length = ei.size) (h0 : 0 < ei.size)
    {w0 : World} {h0' : Hp} {w : World} {v : Value} {cs : List Value} {x y : Hp} (s : St ρ w0 h0' w (join x y)) (dd : Dj x y) (hv : Buf ei.size v cs x)
    {n : Nat} (hn : cs.length = n * ei.size) {u : Value} {m : Nat} (hu : SL u m) {news : List Value} (hm : news.length = m * ei.size) (hread : ∀ j q, news[j]? = some q → w.cell? ((vaddr u).add j) = some q) (h1 : ∀ q ∈ news, q.oneCell' = true)
    (hb : (n + m) * ei.bytes ≤ 140737488355328) (hM : n + m ≤ maxLen) (tyr : TypeId) :
    ∃ v' w' x', (Builtin.append_ #[t, t] tyr #[v, u]).run P w = .ok v' w' ∧ Dj x' y ∧ St ρ w0 h0' w' (join x' y) ∧ Buf ei.size v' (cs ++ news) x' := by
  obtain ⟨_, I, hI, hIs, hIb, hIz, _⟩ := T.ok E ei he
  have hu' := T.und ht
  have hM' : n + m ≤ 9223372036854775807 := by unfold maxLen at hM; omega
  have hzc : ei.zero.cells.size = ei.size := by simpa using hz
  have fresh : ∀ (olds : List Value) (old : Nat), olds = cs → old < n + m →
      ∃ x', Dj x' y ∧ St ρ w0 h0' (w.drew.alloc (.cells (cs.toArray ++ news.toArray ++ Builtin.zeroCells ei.zero.cells (grownCap w (n + m) old E - (n + m))) E)) (join x' y) ∧ Buf ei.size (.slice (some ⟨w.heap.size, 0, none⟩) (n + m) (grownCap w (n + m) old E)) (cs ++ news) x' := by
    intro olds old _ hold
    have hge := grownCap_ge w (n + m) old E
    have hcm := grownCap_le_maxLen w (n + m) old E hM
    have hnew := s.draw.new (.cells (cs.toArray ++ news.toArray ++ Builtin.zeroCells ei.zero.cells (grownCap w (n + m) old E - (n + m))) E)
    have hd := dj_join_right.1 hnew.1
    have hst := hnew.2
    refine ⟨_, hd.2, ?_, ?_⟩
    · -- the old row is let go
      refine ⟨hst.os, hst.tape, hst.output, hst.size, fun b o hb => ?_, hst.ro, ?_, hst.rest, fun b hb => ?_⟩
      · rcases join_some hb with h | h
        · exact hst.own b o (join_left h)
        · exact hst.own b o (join_right hnew.1 (join_right dd h))
      · have := dj_join_right.1 hst.dj
        have := dj_join_right.1 this.2
        exact dj_join_right.2 ⟨(dj_join_right.1 hst.dj).1, this.2⟩
      · refine hst.dom b ?_
        rcases join_ne hb with h | h
        · intro e; exact h (join_none.1 e).1
        · intro e; exact h (join_none.1 (join_none.1 e).2).2
    · rw [zeroCells_eq]
      have := buf_new (w := w.drew) (sz := ei.size) (n := n + m) (c := grownCap w (n + m) old E) (cs := cs ++ news) (rest := zerosL ei.zero.cells.toList (grownCap w (n + m) old E - (n + m))) (Ty := E) (fr := (0, 0))
        (by simp [hn, hm, Nat.add_mul]) (by rw [List.length_append, zerosL_length, hz]; simp only [List.length_append, hn, hm, ← Nat.add_mul]; congr 1; omega) hge hcm (.inr rfl)
      simpa using this
  rcases hv with ⟨rfl, rfl, hx⟩ | ⟨bl, off, n', cp, buf, Ty, fr, rfl, hl, hcp, hncp, hcm, hfr, htk, hp⟩
  · -- from nil
    have hn0 : n = 0 := by
      rcases Nat.mul_eq_zero.1 (by simpa using hn.symm) with h | h
      · exact h
      · omega
    subst hn0
    rcases hu.src with ⟨rfl, rfl⟩ | ⟨c', hu⟩
    · have : news = [] := List.eq_nil_of_length_eq_zero (by simpa using hm)
      subst this
      refine ⟨.slice none 0 0, w, x, ?_, dd, s, .inl ⟨rfl, rfl, hx⟩⟩
      simp [Builtin.append_, run_underlying hu', sizeOf, typeInfo, hI, Builtin.lenOf, Builtin.firstCells]
    · by_cases hm0 : m = 0
      · subst hm0
        have : news = [] := List.eq_nil_of_length_eq_zero (by simpa using hm)
        subst this
        refine ⟨.slice none 0 0, w, x, ?_, dd, s, .inl ⟨rfl, rfl, hx⟩⟩
        rw [hu]
        simp [Builtin.append_, run_underlying hu', sizeOf, typeInfo, hI, Builtin.lenOf, Builtin.firstCells, loadCells, loadCellsFrom]
      · have hr := run_append_nil (P := P) w t tyr E I ei.zero hu' hI hIz (vaddr u) m c' news (by rw [hm, hIs]) hread (by omega) (by omega) (by rw [hIb]; simp only [Nat.zero_add] at hb; omega)
        obtain ⟨x', h1, h2, h3⟩ := fresh [] 0 rfl (by omega)
        simp only [Nat.zero_add, Array.empty_append, List.nil_append] at h1 h2 h3
        refine ⟨.slice (some ⟨w.heap.size, 0, none⟩) m (grownCap w m 0 E), _, x', ?_, h1, h2, h3⟩
        rw [hu]; exact hr
  · have hnn : n' = n := Nat.eq_of_mul_eq_mul_right h0 (by rw [← hl, hn])
    subst hnn
    have hle : n' * ei.size ≤ cp * ei.size := Nat.mul_le_mul_right _ hncp
    have hw : w.heap[bl]? = some (.cells buf Ty fr) := s.own bl _ (join_left hp.1)
    by_cases hroom : n' + m ≤ cp
    · -- in place
      have hfit : (n' + m) * ei.size ≤ cp * ei.size := Nat.mul_le_mul_right _ hroom
      rw [Nat.add_mul, ← hm] at hfit
      have hst := run_storeCells_un (P := P) bl (off + n' * ei.size) Ty fr news 0 buf w hw (by omega) (fun i h h' => frOK hfr (by omega)) h1
      have ep := pts_eq hp
      subst ep
      obtain ⟨row, hrow⟩ : ∃ row, row = (buf.toList.take (off + n' * ei.size) ++ news ++ buf.toList.drop (off + n' * ei.size + news.length)).toArray := ⟨_, rfl⟩
      simp only [Nat.add_zero] at hst
      rw [← hrow] at hst
      have hch : Dj (one bl (.cells row Ty fr)) y ∧ St ρ w0 h0' (w.setRow bl row) (join (one bl (.cells row Ty fr)) y) := by
        refine s.change dd ?_ ?_ ?_ (by simp) rfl rfl rfl
        · intro i hi
          left
          by_cases e : i = bl
          · subst e; simp [one]
          · simp [one, e] at hi
        · intro i o ho
          by_cases e : i = bl
          · subst e; simp [one] at ho; subst ho; exact setRow_heap w i buf _ Ty fr hw
          · simp [one, e] at ho
        · intro i _ hi
          refine setRow_other w bl i _ (fun e => ?_)
          subst e
          simp [one] at hi
      refine ⟨.slice (some ⟨bl, off, none⟩) (n' + m) cp, _, _, ?_, hch.1, hch.2, ?_⟩
      · have hrun : ∀ base q, u = .slice base m q → (Builtin.firstCells ei.size m u).run P w = .ok news.toArray w →
            (Builtin.append_ #[t, t] tyr #[.slice (some ⟨bl, off, none⟩) n' cp, u]).run P w = .ok (.slice (some ⟨bl, off, none⟩) (n' + m) cp) (w.setRow bl row) := by
          intro base q hub hfc
          have hlen : (Builtin.lenOf u).run P w = .ok m w := by rw [hub]; rfl
          simp [Builtin.append_, run_underlying hu', sizeOf, typeInfo, hI, hIs, hlen, hroom, hfc, Addr.add_lit, hst]
        rcases hu.src with ⟨rfl, rfl⟩ | ⟨c', hu2⟩
        · have : news = [] := List.eq_nil_of_length_eq_zero (by simpa using hm)
          subst this
          exact hrun none 0 rfl (by simp [Builtin.firstCells])
        · have hf := run_firstCells_some (P := P) w ei.size m (vaddr u) m c' news hm hread
          refine hrun (some (vaddr u)) c' hu2 ?_
          rw [hu2]; exact hf
      · refine .inr ⟨bl, off, n' + m, cp, _, Ty, fr, rfl, by simp [hn, hm, Nat.add_mul], ?_, hroom, hcm, ?_, ?_, pts_one _ _⟩
        · rw [hrow]; simp only [List.size_toArray, List.length_append, List.length_take, List.length_drop, Array.length_toList]; omega
        · refine hfr.imp id (fun h => ?_)
          rw [hrow]; simp only [List.size_toArray, List.length_append, List.length_take, List.length_drop, Array.length_toList]; omega
        · have e1 : (buf.toList.take (off + n' * ei.size)).drop off = cs := by
            rw [List.drop_take, Nat.add_sub_cancel_left]; exact htk
          have hlt : (buf.toList.take (off + n' * ei.size)).length = off + n' * ei.size := by simp; omega
          rw [hrow]
          simp only []
          rw [List.append_assoc, List.drop_append_of_le_length (by rw [hlt]; omega), e1, ← List.append_assoc]
          rw [List.take_append_of_le_length (by simp [hn, hm, Nat.add_mul])]
          rw [List.take_of_length_le (by simp [hn, hm, Nat.add_mul])]
    · -- a new row
      have holds : ∀ j q, cs[j]? = some q → w.cell? ((⟨bl, off, none⟩ : Addr).add j) = some q := by
        intro j q hq
        rw [Addr.add_lit, World.cell?, hw]
        rw [← htk, List.getElem?_take] at hq
        split at hq
        · simpa [List.getElem?_drop] using hq
        · cases hq
      rcases hu.src with ⟨rfl, rfl⟩ | ⟨c', hu⟩
      · omega
      · have hr := run_append_grow (P := P) w t tyr E I ei.zero hu' hI hIz ⟨bl, off, none⟩ n' cp cs (by rw [hn, hIs]) holds (vaddr u) m c' news (by rw [hm, hIs]) hread (by omega) (by omega) (growslice_fits (by omega) (by rw [hIb]; exact hb))
        obtain ⟨x', h1, h2, h3⟩ := fresh cs cp rfl (by omega)
        refine ⟨.slice (some ⟨w.heap.size, 0, none⟩) (n' + m) (grownCap w (n' + m) cp E), _, x', ?_, h1, h2, h3⟩
        rw [hu]; exact hr

theorem WL.nb {sz : Nat} (h : WL false P fn ρ X ops l env (Buf sz (.slice none 0 0) [] :: Hs)) : WL false P fn ρ X ops l env Hs :=
  .hs (Hs' := Buf sz (.slice none 0 0) [] :: Hs) (fun h p => (show sep (Buf sz (.slice none 0 0) []) (sepl Hs) h from ⟨nohp, h, .inl ⟨rfl, rfl, emp_nohp⟩, p, dj_nohp' _, (join_nohp' _).symm⟩)) h
theorem W.nb {sz : Nat} (h : W P fn ρ Q k env (Buf sz (.slice none 0 0) [] :: Hs)) : W P fn ρ Q k env Hs :=
  .hs (Hs' := Buf sz (.slice none 0 0) [] :: Hs) (fun h p => (show sep (Buf sz (.slice none 0 0) []) (sepl Hs) h from ⟨nohp, h, .inl ⟨rfl, rfl, emp_nohp⟩, p, dj_nohp' _, (join_nohp' _).symm⟩)) h

theorem St.part {w0 : World} {h0 : Hp} {w : World} {a c : Hp} (s : St ρ w0 h0 w (join a c)) (dd : Dj a c) : St ρ w0 h0 w c :=
  ⟨s.os, s.tape, s.output, s.size, fun b o h => s.own b o (join_right dd h), s.ro, (dj_join_right.1 s.dj).2, s.rest, fun b h => s.dom b (fun e => h (join_none.1 e).2)⟩
/-- what is no longer wanted -/
theorem W.drop (i : Nat) {p : HP} {Hs' : List HP} (hi : Hs[i]? = some p) (hF : FL (Hs.eraseIdx i) Hs') (h : W P fn ρ Q k env Hs') : W P fn ρ Q k env Hs := by
  have := hF.eq
  subst this
  intro w0 h0 w hh a s q e
  obtain ⟨A, C, _, dd, rfl, he, _⟩ := sepl_at hi q
  exact h w0 h0 w C a (s.part dd) he e
theorem WL.drop (i : Nat) {p : HP} {Hs' : List HP} (hi : Hs[i]? = some p) (hF : FL (Hs.eraseIdx i) Hs') (h : WL false P fn ρ X ops l env Hs') : WL false P fn ρ X ops l env Hs := by
  have := hF.eq
  subst this
  intro w0 h0 w hh a s q e
  obtain ⟨A, C, _, dd, rfl, he, _⟩ := sepl_at hi q
  exact h w0 h0 w C a (s.part dd) he e
theorem W.perm {Hs' : List HP} (hp : Hs.Perm Hs') (h : W P fn ρ Q k env Hs') : W P fn ρ Q k env Hs := .hs (fun _ => sepl_perm hp) h
theorem WL.perm {Hs' : List HP} (hp : Hs.Perm Hs') (h : WL false P fn ρ X ops l env Hs') : WL false P fn ρ X ops l env Hs := .hs (fun _ => sepl_perm hp) h

/-- a loop, its state told by 's' -/
theorem W.loopS {σ : Type} {c : Code} (E : σ → Env) (H : σ → List HP) (inv : σ → Prop) (μ : σ → Nat) (s0 : σ) (hE : Subs env (E s0)) (hH : Hs = H s0) (h0 : inv s0)
    (step : ∀ s, inv s → (∀ s', inv s' → μ s' < μ s → W P fn ρ Q (.inLoop c :: k) (E s') (H s')) → W P fn ρ Q (.code c :: .inLoop c :: k) (E s) (H s)) :
    W P fn ρ Q (.code (.loop c) :: k) env Hs := by
  subst hH
  refine W.loop (W.sub hE ?_)
  have key : ∀ n s, μ s = n → inv s → W P fn ρ Q (.code c :: .inLoop c :: k) (E s) (H s) := by
    intro n
    induction n using Nat.strongRecOn with
    | _ n ih =>
      intro s hs hi
      exact step s hi fun s' hi' hlt => W.inLoop (ih (μ s') (hs ▸ hlt) s' rfl hi')
  exact key _ s0 rfl h0

theorem WL.ap {x y : Operand} {t E : TypeId} {v u : Value} {cs news : List Value} {i n m : Nat} {eD : TypeDesc} {eS eB : Nat} {eZ : Value} {eC : Bool} {a b : Nat} {z : Value} {c : Bool} {Hs' : Value → List HP} (hn : Nat.ble (d + 1) fn.ntmps = true)
    (hx : ev env x = some v) (hy : ev env y = some u) (ht : T.tt t = some ⟨.slice E, a, b, z, c⟩) (he : T.tt E = some ⟨eD, eS, eB, eZ, eC⟩) (hz : Nat.beq eZ.cells.toList.length eS = true) (h0 : Nat.ble 1 eS = true)
    (hH : Hs[i]? = some (Buf eS v cs)) (hR : Src ρ (Hs.eraseIdx i) eS u news) (hu : SL u m) (hl : cs.length = n * eS) (hm : news.length = m * eS) (h1 : ∀ q ∈ news, q.oneCell' = true)
    (hb : (n + m) * eB ≤ 140737488355328) (hM : n + m ≤ maxLen)
    (hF : ∀ v', FL (Hs.set i (Buf eS v' (cs ++ news))) (Hs' v'))
    (h : ∀ v', SL v' (n + m) → WL false P fn ρ X ops l ((d, v') :: env) (Hs' v')) : WL false P fn ρ X ops (⟨some d, .call { callee := .builtin .append, args := #[x, y], argTypes := #[t, t] }, ty, pos, aft, none⟩ :: l) env Hs :=
  .turns (ok := fun v' Hs'' => SL v' (n + m) ∧ Hs'' = Hs' v') rfl rfl hn (fun f w0 h0' w hh s p e => by
    obtain ⟨A, C, hA, dd, rfl, herase, hset⟩ := sepl_at hH p
    obtain ⟨yy, hyy, hwy⟩ := hR.at (w := w) (fun b o hb => s.own b o (join_right dd hb)) s.ro herase
    have hz := Nat.eq_of_beq_eq_true hz
    obtain ⟨v', w', x', hrun, hd', hs', hb'⟩ := run_append (T := T) ht he hz (Nat.le_of_ble_eq_true h0) s dd hA hl hu hm (fun j q hq => hyy.cell hwy hq) h1 hb hM ty
    refine ⟨v', w', _, _, ?_, hs', hset _ _ hb' hd', ?_, (hF v').eq⟩
    · simp [execOp, resolve, invoke, builtin, e _ _ hx, e _ _ hy, hrun]
    · exact hb'.sl (by simp [hl, hm, Nat.add_mul]) (Nat.le_of_ble_eq_true h0)) (fun v' Hs'' ⟨hv, hH⟩ => by subst hH; exact h v' hv)

/- cuts -/
theorem ROs.cutAt {hp : Hp} {sz : Nat} {v : Value} {cs : List Value} (h : ROs hp sz v cs) {n : Nat} (hn : cs.length = n * sz) (hs : 0 < sz) {lo hi : Nat} (h1 : lo ≤ hi) (h2 : hi ≤ n) :
    ∃ u, (∀ (P : Program) (T : Tab P) (t E : TypeId) (ei : TyI) (a b : Nat) (z : Value) (c : Bool) (w : World), T.tt t = some ⟨.slice E, a, b, z, c⟩ → T.tt E = some ei → ei.size = sz → ∀ (A B : Option Value),
        (A = none ∧ lo = 0 ∨ ∃ K, A = some (.int K lo)) → (B = none ∧ hi = n ∨ ∃ K, B = some (.int K hi)) → (Instr.sliceAt t v A B none).run P w = .ok u w) ∧ SL u (hi - lo) ∧ ROs hp sz u ((cs.drop (lo * sz)).take ((hi - lo) * sz)) := by
  rcases h with ⟨rfl, rfl⟩ | ⟨ad, rfl, rfl⟩ | ⟨bl, off, n', cp, buf, Ty, fr, rfl, hp', hl, hle, hncp, hcm, htk⟩
  · have hn0 : n = 0 := by
      rcases Nat.mul_eq_zero.1 (by simpa using hn.symm) with h | h
      · exact h
      · omega
    subst hn0
    have : hi = 0 := by omega
    subst this
    have : lo = 0 := by omega
    subst this
    refine ⟨.slice none 0 0, ?_, .inl ⟨rfl, rfl⟩, .inl ⟨rfl, by simp⟩⟩
    intro P T t E ei a b z c w ht he hes A B hA hB
    rcases hA with ⟨rfl, _⟩ | ⟨K, rfl⟩ <;> rcases hB with ⟨rfl, _⟩ | ⟨K', rfl⟩ <;>
      simp [Instr.sliceAt, Instr.slice, Instr.sliceBounds, Instr.sliceBound, asIntOf, T.runU ht, T.runS he]
  · have hn0 : n = 0 := by
      rcases Nat.mul_eq_zero.1 (by simpa using hn.symm) with h | h
      · exact h
      · omega
    subst hn0
    have : hi = 0 := by omega
    subst this
    have : lo = 0 := by omega
    subst this
    refine ⟨.slice (some ad) 0 0, ?_, .inr ⟨_, _, rfl⟩, .inr (.inl ⟨ad, rfl, by simp⟩)⟩
    intro P T t E ei a b z c w ht he hes A B hA hB
    rcases hA with ⟨rfl, _⟩ | ⟨K, rfl⟩ <;> rcases hB with ⟨rfl, _⟩ | ⟨K', rfl⟩ <;>
      simp [Instr.sliceAt, Instr.slice, Instr.sliceBounds, Instr.sliceBound, asIntOf, T.runU ht, T.runS he]
  · have hnn : n' = n := Nat.eq_of_mul_eq_mul_right hs (by rw [← hl, hn])
    subst hnn
    refine ⟨.slice (some (if cp = lo then ⟨bl, off, none⟩ else ⟨bl, off + lo * sz, none⟩)) (hi - lo) (cp - lo), ?_, ?_, ?_⟩
    · intro P T t E ei a b z c w ht he hes A B hA hB
      have hb : hi ≤ cp := by omega
      have hc' : lo ≤ n' := by omega
      have e1 : ¬ hi < lo := by omega
      have e2 : ¬ cp < hi := by omega
      have e3 : ¬ n' < lo := by omega
      rcases hA with ⟨rfl, hA0⟩ | ⟨K, rfl⟩ <;> rcases hB with ⟨rfl, hB0⟩ | ⟨K', rfl⟩
      · subst hA0; subst hB0
        by_cases hc : cp = 0 <;> simp [Instr.sliceAt, Instr.slice, Instr.sliceBounds, Instr.sliceBound, asIntOf, T.runU ht, T.runS he, hes, hc, Addr.add_lit]
      · subst hA0
        by_cases hc : cp = 0
        · have : hi = 0 := by omega
          subst this; subst hc
          simp [Instr.sliceAt, Instr.slice, Instr.sliceBounds, Instr.sliceBound, asIntOf, T.runU ht, T.runS he, hes, Addr.add_lit]
        · simp [Instr.sliceAt, Instr.slice, Instr.sliceBounds, Instr.sliceBound, asIntOf, T.runU ht, T.runS he, hes, hb, e2, hc, Addr.add_lit]
      · subst hB0
        by_cases hc : cp = lo
        · subst hc; simp [Instr.sliceAt, Instr.slice, Instr.sliceBounds, Instr.sliceBound, asIntOf, T.runU ht, T.runS he, hes, h1, e1, Addr.add_lit]
        · simp [Instr.sliceAt, Instr.slice, Instr.sliceBounds, Instr.sliceBound, asIntOf, T.runU ht, T.runS he, hes, h1, e1, hc, Addr.add_lit]
      · by_cases hc : cp = lo
        · subst hc; simp [Instr.sliceAt, Instr.slice, Instr.sliceBounds, Instr.sliceBound, asIntOf, T.runU ht, T.runS he, hes, h1, hb, e1, e2, Addr.add_lit]
        · simp [Instr.sliceAt, Instr.slice, Instr.sliceBounds, Instr.sliceBound, asIntOf, T.runU ht, T.runS he, hes, h1, hb, e1, e2, hc, Addr.add_lit]
    · right
      exact ⟨_, _, rfl⟩
    · right; right
      have hm : hi * sz ≤ n' * sz := Nat.mul_le_mul_right _ h2
      have hlm : lo * sz ≤ hi * sz := Nat.mul_le_mul_right _ h1
      have hsub : (hi - lo) * sz = hi * sz - lo * sz := Nat.sub_mul _ _ _
      have hlen : ((cs.drop (lo * sz)).take ((hi - lo) * sz)).length = (hi - lo) * sz := by simp [hn]; omega
      by_cases hc : cp = lo
      · have hhl : hi = lo := by omega
        refine ⟨bl, off, hi - lo, cp - lo, buf, Ty, fr, by rw [if_pos hc], hp', hlen, by omega, by omega, by omega, ?_⟩
        subst hhl; simp
      · refine ⟨bl, off + lo * sz, hi - lo, cp - lo, buf, Ty, fr, by rw [if_neg hc], hp', hlen, by omega, by omega, by omega, ?_⟩
        rw [← htk, List.drop_take, List.drop_drop, List.take_take]
        congr 1
        omega

def bndOK (env : Env) (o : Option Operand) (m dflt : Nat) : Prop := (o = none ∧ m = dflt) ∨ ∃ x K, o = some x ∧ ev env x = some (.int K (m : Int))
theorem bndOK.no {m : Nat} : bndOK env none m m := .inl ⟨rfl, rfl⟩
theorem bndOK.at {x : Operand} {K : IntKind} {i : Int} {dflt : Nat} (h : ev env x = some (.int K i)) (h0 : 0 ≤ i) : bndOK env (some x) i.toNat dflt := .inr ⟨x, K, rfl, by rw [h, Int.toNat_of_nonneg h0]⟩
theorem bndOK.atN {x : Operand} {K : IntKind} {m : Nat} {dflt : Nat} (h : ev env x = some (.int K (m : Int))) : bndOK env (some x) m dflt := .inr ⟨x, K, rfl, h⟩

theorem WL.slR {x : Operand} {A B : Option Operand} {t E : TypeId} {v : Value} {cs : List Value} {n lo hi : Nat} {eD : TypeDesc} {eS eB : Nat} {eZ : Value} {eC : Bool} {a b : Nat} {z : Value} {c : Bool} (hn : Nat.ble (d + 1) fn.ntmps = true)
    (hx : ev env x = some v) (hA : bndOK env A lo 0) (hB : bndOK env B hi n) (ht : T.tt t = some ⟨.slice E, a, b, z, c⟩) (he : T.tt E = some ⟨eD, eS, eB, eZ, eC⟩) (h0 : Nat.ble 1 eS = true)
    (hR : ROs ρ eS v cs) (hl : cs.length = n * eS) (h1 : lo ≤ hi) (h2 : hi ≤ n)
    (h : ∀ u, SL u (hi - lo) → ROs ρ eS u ((cs.drop (lo * eS)).take ((hi - lo) * eS)) → WL md P fn ρ X ops l ((d, u) :: env) Hs) :
    WL md P fn ρ X ops (⟨some d, .slice t x A B none, ty, pos, aft, none⟩ :: l) env Hs := by
  obtain ⟨u, hrun, hsl, hro⟩ := hR.cutAt hl (Nat.le_of_ble_eq_true h0) h1 h2
  refine .val rfl rfl hn (fun f w e => ?_) (h u hsl hro)
  have := hrun P T t E _ a b z c w ht he rfl (A.map f) (B.map f)
    (by rcases hA with ⟨rfl, h⟩ | ⟨y, K, rfl, h⟩
        · exact .inl ⟨rfl, h⟩
        · exact .inr ⟨K, by simp [e _ _ h]⟩)
    (by rcases hB with ⟨rfl, h⟩ | ⟨y, K, rfl, h⟩
        · exact .inl ⟨rfl, h⟩
        · exact .inr ⟨K, by simp [e _ _ h]⟩)
  simp [execOp, e _ _ hx, this]
/-- 's[:len(s):len(s)]' of what is owned -/
theorem Buf.clip {sz : Nat} {v : Value} {cs : List Value} {hp : Hp} (h : Buf sz v cs hp) {n : Nat} (hn : cs.length = n * sz) (hs : 0 < sz) :
    ∃ u, (∀ (P : Program) (T : Tab P) (t E : TypeId) (ei : TyI) (a b : Nat) (z : Value) (c : Bool) (w : World), T.tt t = some ⟨.slice E, a, b, z, c⟩ → T.tt E = some ei → ei.size = sz → ∀ (K K' : IntKind),
        (Instr.sliceAt t v none (some (.int K n)) (some (.int K' n))).run P w = .ok u w) ∧ SL u n ∧ Buf sz u cs hp := by
  rcases h with ⟨rfl, rfl, hx⟩ | ⟨bl, off, n', cp, buf, Ty, fr, rfl, hl, hcp, hncp, hcm, hfr, htk, hp'⟩
  · have hn0 : n = 0 := by
      rcases Nat.mul_eq_zero.1 (by simpa using hn.symm) with h | h
      · exact h
      · omega
    subst hn0
    refine ⟨.slice none 0 0, ?_, .inl ⟨rfl, rfl⟩, .inl ⟨rfl, rfl, hx⟩⟩
    intro P T t E ei a b z c w ht he hes K K'
    simp [Instr.sliceAt, Instr.slice, Instr.sliceBounds, Instr.sliceBound, asIntOf, T.runU ht, T.runS he]
  · have hnn : n' = n := Nat.eq_of_mul_eq_mul_right hs (by rw [← hl, hn])
    subst hnn
    have hle : n' * sz ≤ cp * sz := Nat.mul_le_mul_right _ hncp
    refine ⟨.slice (some ⟨bl, off, none⟩) n' n', ?_, .inr ⟨_, _, rfl⟩, .inr ⟨bl, off, n', n', buf, Ty, fr, rfl, hl, by omega, Nat.le_refl _, by omega, hfr, htk, hp'⟩⟩
    intro P T t E ei a b z c w ht he hes K K'
    have hcp' : ¬ cp < n' := by omega
    by_cases hc : n' = 0
    · subst hc; simp [Instr.sliceAt, Instr.slice, Instr.sliceBounds, Instr.sliceBound, asIntOf, T.runU ht, T.runS he, hes]
    · simp [Instr.sliceAt, Instr.slice, Instr.sliceBounds, Instr.sliceBound, asIntOf, T.runU ht, T.runS he, hes, hncp, hcp', hc, Addr.add_lit]
theorem WL.clip {x y y' : Operand} {t E : TypeId} {v : Value} {cs : List Value} {j n : Nat} {K K' : IntKind} {eD : TypeDesc} {eS eB : Nat} {eZ : Value} {eC : Bool} {a b : Nat} {z : Value} {c : Bool} {Hs' : Value → List HP} (hn : Nat.ble (d + 1) fn.ntmps = true)
    (hx : ev env x = some v) (hy : ev env y = some (.int K (n : Int))) (hy' : ev env y' = some (.int K' (n : Int))) (ht : T.tt t = some ⟨.slice E, a, b, z, c⟩) (he : T.tt E = some ⟨eD, eS, eB, eZ, eC⟩) (h0 : Nat.ble 1 eS = true)
    (hH : Hs[j]? = some (Buf eS v cs)) (hl : cs.length = n * eS) (hF : ∀ u, FL (Hs.set j (Buf eS u cs)) (Hs' u))
    (h : ∀ u, SL u n → WL false P fn ρ X ops l ((d, u) :: env) (Hs' u)) :
    WL false P fn ρ X ops (⟨some d, .slice t x none (some y) (some y'), ty, pos, aft, none⟩ :: l) env Hs :=
  .turns (ok := fun u Hs'' => SL u n ∧ Hs'' = Hs' u) rfl rfl hn (fun f w0 h0' w hh s p e => by
    obtain ⟨X, C, hX, dd, rfl, _, hset⟩ := sepl_at hH p
    obtain ⟨u, hrun, hsl, hb⟩ := hX.clip hl (Nat.le_of_ble_eq_true h0)
    exact ⟨u, w, _, _, by simp [execOp, e _ _ hx, e _ _ hy, e _ _ hy', hrun P T t E _ a b z c w ht he rfl K K'], s, hset _ _ hb dd, hsl, (hF u).eq⟩) (fun u Hs'' ⟨hu, hH'⟩ => by subst hH'; exact h u hu)

/- bytes and strings -/
def bv (n : Nat) : Value := .int .u8 n
def bvs (s : ByteArray) : List Value := s.data.toList.map fun b => .int .u8 b.toNat
def strOf (ns : List Int) : ByteArray := ns.foldl (fun r n => r.push (UInt8.ofNat n.toNat)) ByteArray.empty
theorem WL.b2s {x : Operand} {S t E : TypeId} {u : Value} {ns : List Int} {si : TyI} {eD : TypeDesc} {eS eB : Nat} {eZ : Value} {eC : Bool} {a b : Nat} {z : Value} {c : Bool} (hn : Nat.ble (d + 1) fn.ntmps = true) (hx : ev env x = some u) (hs : T.tt t = some si) (hS : si.desc = .string)
    (ht : T.tt S = some ⟨.slice E, a, b, z, c⟩) (he : T.tt E = some ⟨eD, eS, eB, eZ, eC⟩) (hE : eD = .int .u8) (hR : Src ρ Hs 1 u (ns.map (Value.int .u8)))
    (h : WL false P fn ρ X ops l ((d, .string (strOf ns)) :: env) Hs) : WL false P fn ρ X ops (⟨some d, .convert S t x, ty, pos, aft, none⟩ :: l) env Hs :=
  .rd rfl rfl hn (fun f w hh ho hr p e => by
    obtain ⟨y, hy, hw⟩ := hR.at ho hr p
    have hsl := hy.sl (n := ns.length) (by simp) (by omega)
    have hu := T.und ht
    have hue : P.underlying E = some (.int .u8) := by rw [T.und he, hE]
    have hus : P.underlying t = some .string := by rw [T.und hs, hS]
    rcases hsl.src with ⟨rfl, h0⟩ | ⟨c', hu'⟩
    · have : ns = [] := List.eq_nil_of_length_eq_zero h0
      subst this
      simp [execOp, e _ _ hx, run_convert_bytes_string w S t E none 0 0 hu hue hus, Conv.bytesToString, strOf]
    · have hlc : (loadCells (vaddr u) ns.length).run P w = .ok (ns.map (Value.int .u8)).toArray w := by
        have := run_loadCells_list (P := P) w (vaddr u) (ns.map (Value.int .u8)) (fun j q hq => hy.cell hw hq)
        simpa using this
      have hbs := run_bytesToString (P := P) w (vaddr u) ns.length c' ns hlc
      simp only [execOp, e _ _ hx]
      rw [hu']
      simp [run_convert_bytes_string w S t E (some (vaddr u)) ns.length c' hu hue hus, hbs, strOf]) h
theorem WL.mk {x y : Operand} {t E : TypeId} {n : Nat} {K K' : IntKind} {eD : TypeDesc} {eS eB : Nat} {eZ : Value} {eC : Bool} {a b : Nat} {z : Value} {c : Bool} (hn : Nat.ble (d + 1) fn.ntmps = true) (hx : ev env x = some (.int K (n : Int))) (hy : ev env y = some (.int K' (n : Int)))
    (ht : T.tt t = some ⟨.slice E, a, b, z, c⟩) (he : T.tt E = some ⟨eD, eS, eB, eZ, eC⟩) (hz : Nat.beq eZ.cells.toList.length eS = true) (hb : n * eB ≤ 281474976710656) (hM : n ≤ maxLen) (h0 : Nat.ble 1 eS = true)
    (h : ∀ v, SL v n → WL false P fn ρ X ops l ((d, v) :: env) (Buf eS v (zerosL eZ.cells.toList n) :: Hs)) : WL false P fn ρ X ops (⟨some d, .makeSlice t x y, ty, pos, aft, none⟩ :: l) env Hs :=
  .turns (ok := fun v Hs' => SL v n ∧ Hs' = Buf eS v (zerosL eZ.cells.toList n) :: Hs) rfl rfl hn (fun f w0 h0' w hh s p e => by
    have hz := Nat.eq_of_beq_eq_true hz
    obtain ⟨_, I, hI, hIs, hIb, hIz, _⟩ := T.ok E _ he
    have hzz := zeros_eq eZ n
    simp only [Array.length_toList] at hz
    rw [hz] at hzz
    have hw : IntKind.i64.wrap (n : Int) = n := wrap_i64 ⟨by omega, by unfold maxLen at hM; omega⟩
    have hnew := s.new (.cells (zerosL eZ.cells.toList n).toArray E)
    have hbuf := buf_new (w := w) (sz := eS) (n := n) (c := n) (cs := zerosL eZ.cells.toList n) (rest := []) (Ty := E) (fr := (0, 0)) (by rw [zerosL_length]; simp [hz]) (by simp [zerosL_length, hz]) (Nat.le_refl _) hM (.inr rfl)
    simp only [List.append_nil] at hbuf
    refine ⟨.slice (some ⟨w.heap.size, 0, none⟩) n n, _, _, Buf eS (.slice (some ⟨w.heap.size, 0, none⟩) n n) (zerosL eZ.cells.toList n) :: Hs, ?_, hnew.2, ⟨_, _, hbuf, p, hnew.1, rfl⟩, .inr ⟨_, _, rfl⟩, rfl⟩
    have h48 : ¬ (281474976710656 < eB * n) := by rw [Nat.mul_comm] at hb; omega
    have h48' : ¬ ((281474976710656 : Int) < (eB : Int) * (n : Int)) := by
      rw [← Int.natCast_mul]
      omega
    have hneg : ¬ ((n : Int) < 0) := by omega
    by_cases h00 : n * eS = 0
    · have hn0 : n = 0 := by
        rcases Nat.mul_eq_zero.1 h00 with h | h
        · exact h
        · have := Nat.le_of_ble_eq_true h0; omega
      subst hn0
      have hr0 : (Array.range 0).map (fun i => (#[] : Array Value)[i % (#[] : Array Value).size]!) = #[] := by rw [Array.range_zero', Array.map_empty]
      have hw0 : IntKind.i64.wrap 0 = 0 := by decide
      simp [execOp, e _ _ hx, e _ _ hy, Instr.makeSlice, T.runU ht, T.runS he, typeInfo, hI, hIb, asInt, asIntOf, hw0, newRow, zerosL, Array.range_zero']
    · simp only [execOp, e _ _ hx, e _ _ hy, Instr.makeSlice, Sem.run_bind, T.runU ht, T.runS he, T.runZ he, Result.andThen_ok, asInt, asIntOf, Sem.run_pure, hw]
      have h00' : ¬ (n = 0 ∨ eS = 0) := fun h => h00 (Nat.mul_eq_zero.2 h)
      simp [typeInfo, hI, hIb, h48', hneg, T.runS he, T.runZ he, h00', hz, hzz, newRow]
      exact fun h => absurd h h00) (fun v Hs' ⟨hv, hH⟩ => by subst hH; exact h v hv)
end

end Go.Proofs.YtdpnpipninggeaaGreatDoor
