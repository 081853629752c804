/- What is read, told of any part: and regions whose order is open, all that the caller has being read in them. Over whatever program. -/
import Derived.Test.YtdpnpipninggeaaGreatDoorArr
set_option linter.unusedSimpArgs false
set_option linter.unusedVariables false
namespace Go.Proofs.YtdpnpipninggeaaGreatDoor
open Go

/-- a part that lies in what is read -/
def In (ρ : Hp) (p : HP) : Prop := ∃ h, p h ∧ ∀ b o, h b = some o → ρ b = some o
theorem In.mono {ρ ρ' : Hp} {p : HP} (h : In ρ p) (hs : ∀ b o, ρ b = some o → ρ' b = some o) : In ρ' p := by
  obtain ⟨x, hp, hx⟩ := h
  exact ⟨x, hp, fun b o hb => hs b o (hx b o hb)⟩
theorem In.wide {ρ x : Hp} {p : HP} (h : In ρ p) : In (join ρ x) p := h.mono (fun _ _ => join_left)
theorem In.imp {ρ : Hp} {p q : HP} (h : In ρ p) (hq : ∀ h, p h → q h) : In ρ q := by
  obtain ⟨x, hp, hx⟩ := h
  exact ⟨x, hq _ hp, hx⟩
theorem in_at {ρ x : Hp} {Hs : List HP} {q : HP} (j : Nat) (hi : Hs[j]? = some q) (p : sepl Hs x) (d : Dj ρ x) : In (join ρ x) q := by
  obtain ⟨y, z, hy, _, rfl, _⟩ := sepl_at hi p
  exact ⟨y, hy, fun b o hb => join_right d (join_left hb)⟩
theorem In.rb {ρ : Hp} {b : Nat} {c : List Value} {Ty : TypeId} (h : In ρ (box b c Ty)) : RB ρ b c Ty := by
  obtain ⟨x, hp, hx⟩ := h
  exact hx _ _ hp.1
theorem In.ros {ρ : Hp} {sz : Nat} {v : Value} {cs : List Value} (h : In ρ (Buf sz v cs)) : ROs ρ sz v cs := by
  obtain ⟨x, hp, hx⟩ := h
  exact (Buf.ro hp).mono hx
theorem In.ex {ρ : Hp} {α : Type} {p : α → HP} (h : In ρ (fun h => ∃ x, p x h)) : ∃ x, In ρ (p x) := by
  obtain ⟨y, ⟨x, hp⟩, hx⟩ := h
  exact ⟨x, y, hp, hx⟩
theorem In.and {ρ : Hp} {φ : Prop} {p : HP} (h : In ρ (fun h => φ ∧ p h)) : φ ∧ In ρ p := by
  obtain ⟨y, ⟨hφ, hp⟩, hx⟩ := h
  exact ⟨hφ, y, hp, hx⟩
theorem In.head {ρ : Hp} {p : HP} {l : List HP} (h : In ρ (sepl (p :: l))) : In ρ p ∧ In ρ (sepl l) := by
  obtain ⟨y, ⟨a, b, ha, hb, d, rfl⟩, hx⟩ := h
  exact ⟨⟨a, ha, fun b o hb => hx b o (join_left hb)⟩, ⟨b, hb, fun b o hb => hx b o (join_right d hb)⟩⟩
theorem In.eqh {ρ ρ' σ : Hp} (h : In ρ' (eqh σ)) (le : ∀ b o, ρ b = some o → ρ' b = some o) : ∀ b o, join ρ σ b = some o → ρ' b = some o := by
  obtain ⟨x, hx, hle⟩ := h
  have : x = σ := hx
  subst this
  exact fun b o hb => (join_some hb).elim (le b o) (hle b o)
/-- what is read of two parts that are one -/
theorem In.two {ρ : Hp} {p q : HP} (h : In ρ (sep p q)) : In ρ p ∧ In ρ q := by
  obtain ⟨y, ⟨a, b, ha, hb, d, rfl⟩, hx⟩ := h
  exact ⟨⟨a, ha, fun b o hb => hx b o (join_left hb)⟩, ⟨b, hb, fun b o hb => hx b o (join_right d hb)⟩⟩

theorem perm_out {p : HP} : ∀ {Hs : List HP} {j : Nat}, nthH Hs j = some p → Hs.Perm (p :: Hs.eraseIdx j)
  | [], _, h => by cases h
  | q :: Hs, 0, h => by
    have : q = p := Option.some.inj h
    subst this
    exact List.Perm.refl _
  | q :: Hs, j + 1, h => by
    have ih := perm_out (Hs := Hs) (j := j) h
    exact (List.Perm.cons q ih).trans (List.Perm.swap p q _)
theorem perm_in {p q : HP} : ∀ {Hs : List HP} {j : Nat}, nthH Hs j = some q → (p :: Hs.eraseIdx j).Perm (Hs.set j p)
  | [], _, h => by cases h
  | r :: Hs, 0, h => List.Perm.refl _
  | r :: Hs, j + 1, h => (List.Perm.swap r p _).trans (List.Perm.cons r (perm_in (Hs := Hs) (j := j) h))
def keepM : List Bool → List HP → List HP
  | true :: m, _ :: l => keepM m l
  | false :: m, p :: l => p :: keepM m l
  | [], l => l
  | _, [] => []
def takeM : List Bool → List HP → List HP
  | true :: m, p :: l => p :: takeM m l
  | false :: m, _ :: l => takeM m l
  | [], _ => []
  | _, [] => []
theorem perm_mask : ∀ (m : List Bool) (l : List HP), l.Perm (keepM m l ++ takeM m l)
  | true :: m, p :: l => by
    simp only [keepM, takeM]
    exact (List.Perm.cons p (perm_mask m l)).trans List.perm_middle.symm
  | false :: m, p :: l => by
    simp only [keepM, takeM, List.cons_append]
    exact List.Perm.cons p (perm_mask m l)
  | [], l => by simp [keepM, takeM]
  | true :: _, [] => by simp [keepM, takeM]
  | false :: _, [] => by simp [keepM, takeM]

section
variable {P : Program} {T : Tab P} {fn : Func} {ρ σ : Hp} {Q : Value → HP} {k : List Item} {md : Bool} {X : World → Hp → Act → World → Prop} {env : Env} {Hs : List HP} {ops : Array Oper} {l : List Oper}
variable {d : Tmp} {ty : TypeId} {pos : String} {aft : Array Edge} {n fuel : Nat} {listed : Array Bool}

/-- a region whose order is open: nobody in it turns what the function has -/
theorem W.drawA (n : Nat) {id : Nat} {l : List Oper} (hm : P.follows .mixedOrders = true)
    (h : ∀ σ, sepl Hs σ → Dj ρ σ → WD P fn ρ σ (runK P fn ρ Q k) l.toArray n l.length (Array.replicate l.length false) env []) : W P fn ρ Q (.code (.region id l.toArray true) :: k) env Hs :=
  W.draw n Hs [] hm (fun h p => by rw [List.append_nil]; exact p) h
/-- the same; the parts of the mask are turned in it -/
theorem W.drawP (n : Nat) (m : List Bool) {H0 H1 : List HP} {id : Nat} {l : List Oper} (hm : P.follows .mixedOrders = true) (h0 : FL (keepM m Hs) H0) (h1 : FL (takeM m Hs) H1)
    (h : ∀ σ, sepl H0 σ → Dj ρ σ → WD P fn ρ σ (runK P fn ρ Q k) l.toArray n l.length (Array.replicate l.length false) env H1) : W P fn ρ Q (.code (.region id l.toArray true) :: k) env Hs :=
  W.draw n H0 H1 hm (fun h p => by rw [← h0.eq, ← h1.eq]; exact sepl_perm (perm_mask m Hs) p) h
/-- a call that turns one part, and gives this value -/
theorem WL.callM (j : Nat) {g : FuncId} {xs : List Operand} {ts : Array TypeId} {vs : List Value} {p p' : HP} {v : Value} {Hs' : List HP} (hn : Nat.ble (d + 1) fn.ntmps = true)
    (hv : xs.mapM (ev env) = some vs) (hH : nthH Hs j = some p) (hc : ∀ x, sepl (Hs.eraseIdx j) x → Dj ρ x → Fn P g vs.toArray (join ρ x) [p] (fun r h => r = v ∧ p' h)) (hF : FL (Hs.set j p') Hs')
    (h : WL false P fn ρ X ops l ((d, v) :: env) Hs') :
    WL false P fn ρ X ops (⟨some d, .call { callee := .value (.func g), args := xs.toArray, argTypes := ts }, ty, pos, aft, none⟩ :: l) env Hs := by
  have hF := hF.eq
  subst hF
  exact .callG (H0 := Hs.eraseIdx j) (H1 := [p]) hn hv hc (fun h q => sepl_perm ((perm_out hH).trans (by
      have : (p :: Hs.eraseIdx j) = [p] ++ Hs.eraseIdx j := rfl
      rw [this]; exact List.perm_append_comm)) q)
    (fun r => WL.pure (p := p') (fun e => by
      subst e
      exact WL.hs (fun h q => sepl_perm (perm_in hH) q) h))
/-- a call that takes one part, and gives a new one -/
theorem WL.callP (j : Nat) {g : FuncId} {xs : List Operand} {ts : Array TypeId} {vs : List Value} {p : HP} {q : Value → HP} {Hs' : List HP} (hn : Nat.ble (d + 1) fn.ntmps = true)
    (hv : xs.mapM (ev env) = some vs) (hH : nthH Hs j = some p) (hc : ∀ x, sepl (Hs.eraseIdx j) x → Dj ρ x → Fn P g vs.toArray (join ρ x) [p] q) (hF : FL (Hs.eraseIdx j) Hs')
    (h : ∀ r, WL false P fn ρ X ops l ((d, r) :: env) (q r :: Hs')) :
    WL false P fn ρ X ops (⟨some d, .call { callee := .value (.func g), args := xs.toArray, argTypes := ts }, ty, pos, aft, none⟩ :: l) env Hs := by
  have hF := hF.eq
  subst hF
  exact .callG (H0 := Hs.eraseIdx j) (H1 := [p]) hn hv hc (fun h q => sepl_perm ((perm_out hH).trans (by
      have : (p :: Hs.eraseIdx j) = [p] ++ Hs.eraseIdx j := rfl
      rw [this]; exact List.perm_append_comm)) q) h
/-- what a call gave is read from here on, beside all that was -/
theorem WL.nilH {p : HP} {H0 H2 : List HP} (hσ : sepl H0 σ) (h : ∀ σ', sepl (p :: H0) σ' → Dj ρ σ' → (∀ b o, join ρ σ b = some o → join ρ σ' b = some o) → WD P fn ρ σ' X ops n fuel listed env H2) :
    WL false P fn ρ (opX P ρ σ X ops n fuel listed) ops [] env (p :: eqh σ :: H2) :=
  .nilG (fun σ' hs hd hl => h σ' (by
    obtain ⟨x, y, hx, hy, dd, rfl⟩ := hs
    have : x = σ := hx
    subst this
    exact ⟨y, x, sepl_one.1 hy, hσ, dd.symm, join_comm dd⟩) hd hl)
/-- an element of a slice that is read -/
theorem WL.ldK {x : Operand} {t : TypeId} {i k sz : Nat} {u v : Value} {cs : List Value} {ti : TyI} (hn : Nat.ble (d + 1) fn.ntmps = true) (hx : ev env x = some (eptr u i))
    (ht : T.tt t = some ti) (h1 : oneCellT ti.desc = true) (hR : ROs ρ sz u cs) (hc : cs[k]? = some v) (hi : i = k)
    (h : WL md P fn ρ X ops l ((d, v) :: env) Hs) : WL md P fn ρ X ops (⟨some d, .load t x, ty, pos, aft, none⟩ :: l) env Hs :=
  .ldR (T := T) hn hx ht h1 hR (by rw [hi]; exact hc) h
theorem WD.doneF {H0 H' : List HP} (hσ : sepl H0 σ) (hB : (headDone n listed && Region.seqB .any ops 0 n listed && Nat.beq ops.size n) = true) (hF : FL (H0 ++ Hs) H') (h : W P fn ρ Q k env H') : WD P fn ρ σ (runK P fn ρ Q k) ops n 0 listed env Hs :=
  WD.doneH hσ hB (by rw [hF.eq]; exact h)
theorem WD.lastG {ol : List Oper} {H0 H' : List HP} (hσ : sepl H0 σ) (hB : (headDone n listed && Region.seqB .any ol.toArray fuel n listed) = true) (hL : FL (ol.drop n) l) (hfu : Nat.beq l.length fuel = true) (hF : FL (H0 ++ Hs) H')
    (h : WL false P fn ρ X ol.toArray l env H') : WD P fn ρ σ X ol.toArray n fuel listed env Hs :=
  WD.lastF hσ hB hL hfu (by rw [hF.eq]; exact h)
/-- one element more, which was just built -/
theorem WL.ap1 {x y : Operand} {t E : TypeId} {v u q : Value} {cs : List Value} {i : Nat} {eD : TypeDesc} {eB : Nat} {eZ : Value} {eC : Bool} {a b : Nat} {z : Value} {c : Bool} {Hr : List HP} {Hs' : Value → List HP} (hn : Nat.ble (d + 1) fn.ntmps = true)
    (hx : ev env x = some v) (hy : ev env y = some u) (ht : T.tt t = some ⟨.slice E, a, b, z, c⟩) (he : T.tt E = some ⟨eD, 1, eB, eZ, eC⟩) (hz : Nat.beq eZ.cells.toList.length 1 = true)
    (h0 : Hs = Buf 1 u [q] :: Hr) (hH : nthH Hr i = some (Buf 1 v cs)) (hu : SL u 1) (h1 : q.oneCell' = true) (hb : (cs.length + 1) * eB ≤ 140737488355328) (hM : cs.length + 1 ≤ 140737488355328)
    (hF : ∀ v', FL (Hr.set i (Buf 1 v' (cs ++ [q]))) (Hs' v'))
    (h : ∀ v', SL v' (cs.length + 1) → WL false P fn ρ X ops l ((d, v') :: env) (Hs' v')) : WL false P fn ρ X ops (⟨some d, .call { callee := .builtin .append, args := #[x, y], argTypes := #[t, t] }, ty, pos, aft, none⟩ :: l) env Hs := by
  subst h0
  rw [nthH_eq] at hH
  refine WL.ap (T := T) (i := i + 1) (n := cs.length) (m := 1) (news := [q]) (Hs' := fun v' => Buf 1 u [q] :: Hr.set i (Buf 1 v' (cs ++ [q]))) hn hx hy ht he hz rfl (by simpa using hH) (.own 0 (by simp)) hu (by simp) (by simp) (by simpa using h1) hb (by unfold maxLen; omega) (fun v' => by simpa using FL.rfl _) (fun v' hv' => ?_)
  refine WL.drop 0 rfl (FL.rfl _) ?_
  simp only [List.eraseIdx_cons_zero]
  rw [(hF v').eq]
  exact h v' hv'
def ucell (n : Nat) : Value := .int .u64 n
theorem Buf.slm {α : Type} {f : α → Value} {v : Value} {L : List α} {h : Hp} (hb : Buf 1 v (L.map f) h) : SL v L.length := hb.sl (by simp) (by omega)
theorem ROs.slm {α : Type} {f : α → Value} {v : Value} {L : List α} {h : Hp} (hb : ROs h 1 v (L.map f)) : SL v L.length := hb.sl (by simp) (by omega)
theorem WL.ldRM {α : Type} [Inhabited α] {f : α → Value} {L : List α} {x : Operand} {t : TypeId} {i : Nat} {u : Value} {ti : TyI} (hn : Nat.ble (d + 1) fn.ntmps = true) (hx : ev env x = some (eptr u i))
    (ht : T.tt t = some ti) (h1 : oneCellT ti.desc = true) (hR : ROs ρ 1 u (L.map f)) (hi : i < L.length)
    (h : WL md P fn ρ X ops l ((d, f (L.getD i default)) :: env) Hs) : WL md P fn ρ X ops (⟨some d, .load t x, ty, pos, aft, none⟩ :: l) env Hs :=
  .ldR (T := T) hn hx ht h1 hR (by simp [List.getD, List.getElem?_eq_getElem hi]) h
theorem WL.ldRn {f : Nat → Value} {L : List Nat} {x : Operand} {t : TypeId} {k : Nat} {u : Value} {ti : TyI} (hn : Nat.ble (d + 1) fn.ntmps = true) (hx : ev env x = some (eptr u (((k : Nat) : Int).toNat * 1)))
    (ht : T.tt t = some ti) (h1 : oneCellT ti.desc = true) (hR : ROs ρ 1 u (L.map f)) (hi : k < L.length)
    (h : WL md P fn ρ X ops l ((d, f (L.getD k 0)) :: env) Hs) : WL md P fn ρ X ops (⟨some d, .load t x, ty, pos, aft, none⟩ :: l) env Hs :=
  .ldR (T := T) hn hx ht h1 hR (by simp [List.getD, List.getElem?_eq_getElem hi]) h
theorem WL.ldRz {f : Int → Value} {L : List Int} {x : Operand} {t : TypeId} {k : Nat} {u : Value} {ti : TyI} (hn : Nat.ble (d + 1) fn.ntmps = true) (hx : ev env x = some (eptr u (((k : Nat) : Int).toNat * 1)))
    (ht : T.tt t = some ti) (h1 : oneCellT ti.desc = true) (hR : ROs ρ 1 u (L.map f)) (hi : k < L.length)
    (h : WL md P fn ρ X ops l ((d, f (L.getD k 0)) :: env) Hs) : WL md P fn ρ X ops (⟨some d, .load t x, ty, pos, aft, none⟩ :: l) env Hs :=
  .ldR (T := T) hn hx ht h1 hR (by simp [List.getD, List.getElem?_eq_getElem hi]) h
theorem WL.neST {x y : Operand} {t t' : TypeId} {p q : ByteArray} (hn : Nat.ble (d + 1) fn.ntmps = true) (hx : ev env x = some (.string p)) (hy : ev env y = some (.string q)) (he : p = q)
    (h : WL md P fn ρ X ops l ((d, .bool false) :: env) Hs) : WL md P fn ρ X ops (⟨some d, .binOp .neq t x y t', ty, pos, aft, none⟩ :: l) env Hs :=
  .neS hn hx hy (by subst he; simpa using h)
/-- what follows behind the next two items, proved once -/
theorem W.cut2 {τ : Type} {c d : Item} (E : τ → Env) (H : τ → List HP) (inv : τ → Prop) (tail : ∀ s, inv s → W P fn ρ Q k (E s) (H s)) (h : (∀ s, inv s → W P fn ρ Q k (E s) (H s)) → W P fn ρ Q (c :: d :: k) env Hs) : W P fn ρ Q (c :: d :: k) env Hs := h tail
/-- the cells of what is built, told of values that are not written out -/
inductive CO : List (Nat × Value) → List (Nat × List Value) → Prop
  | nil : CO [] []
  | one {i : Nat} {v : Value} {l m} (h : v.oneCell' = true) (r : CO l m) : CO ((i, v) :: l) ((i, [v]) :: m)
  | agg {i : Nat} {cs : List Value} {l m} (r : CO l m) : CO ((i, .agg cs.toArray) :: l) ((i, cs) :: m)
def fillC (place : Nat → Option (Nat × Nat)) (cs : List Value) : List (Nat × List Value) → Option (List Value)
  | [] => some cs
  | (i, v) :: r => match place i with
    | none => none
    | some (off, size) => bif Nat.beq v.length size && Nat.ble (off + size) cs.length then fillC place (put1 cs off v) r else none
theorem CO.fill {place : Nat → Option (Nat × Nat)} : ∀ {vs : List (Nat × Value)} {ws : List (Nat × List Value)} (h : CO vs ws) (cs : List Value), fillL place cs vs = fillC place cs ws := by
  intro vs ws h
  induction h with
  | nil => intro cs; rfl
  | @one i v l m h1 r ih =>
    intro cs
    simp only [fillL, fillC, cells_one h1, ih]
    rfl
  | @agg i c l m r ih =>
    intro cs
    simp only [fillL, fillC, ih]
    rfl
theorem WL.bdC {t : TypeId} {ps : List (Nat × Operand)} {vs : List (Nat × Value)} {ws : List (Nat × List Value)} {fs : List Field} {pl : List (Nat × Nat)} {a b : Nat} {z : Value} {c : Bool} {out out' : List Value} (hn : Nat.ble (d + 1) fn.ntmps = true)
    (ht : T.tt t = some ⟨.struct fs.toArray, a, b, z, c⟩) (hp : placesL T fs = some pl) (hv : evParts env ps = some vs) (hc : CO vs ws) (hf : fillC (fun i => pl[i]?) z.cells.toList ws = some out) (hF : FL out out')
    (h : WL md P fn ρ X ops l ((d, .agg out'.toArray) :: env) Hs) : WL md P fn ρ X ops (⟨some d, .build t ps.toArray, ty, pos, aft, none⟩ :: l) env Hs :=
  .bd (T := T) hn ht hp hv (by rw [hc.fill]; exact hf) hF h
theorem WL.bsC {t E : TypeId} {n : Nat} {ps : List (Nat × Operand)} {vs : List (Nat × Value)} {ws : List (Nat × List Value)} {eD : TypeDesc} {eS eB : Nat} {eZ : Value} {eC : Bool} {a b : Nat} {z : Value} {c : Bool} {out out' : List Value} (hn : Nat.ble (d + 1) fn.ntmps = true)
    (ht : T.tt t = some ⟨.slice E, a, b, z, c⟩) (he : T.tt E = some ⟨eD, eS, eB, eZ, eC⟩) (hsz : Nat.beq eZ.cells.toList.length eS = true) (hN : Nat.ble (n * eS) 16777216 = true) (hN' : Nat.ble n 16777216 = true) (hv : evParts env ps = some vs) (hc : CO vs ws)
    (hf : fillC (fun i => some (i * eS, eS)) (zerosL eZ.cells.toList n) ws = some out) (hF : FL out out')
    (h : ∀ v, SL v n → WL false P fn ρ X ops l ((d, v) :: env) (Buf eS v out' :: Hs)) : WL false P fn ρ X ops (⟨some d, .buildSlice t n ps.toArray, ty, pos, aft, none⟩ :: l) env Hs :=
  .bs (T := T) hn ht he hsz hN hN' hv (by rw [hc.fill]; exact hf) hF h
theorem WL.bxF {t : TypeId} {x : Operand} {v : Value} {cs : List Value} (hn : Nat.ble (d + 1) fn.ntmps = true) (hx : ev env x = some v) (hv : FL v.cells.toList cs)
    (h : ∀ b, WL false P fn ρ X ops l ((d, .pointer (some ⟨b, 0, none⟩)) :: env) (box b cs t :: Hs)) : WL false P fn ρ X ops (⟨some d, .box t x, ty, pos, aft, none⟩ :: l) env Hs :=
  .bx hn hx hv.eq h
theorem WL.ldKn {x : Operand} {t : TypeId} {k : Nat} {u v : Value} {cs : List Value} {ti : TyI} (hn : Nat.ble (d + 1) fn.ntmps = true) (hx : ev env x = some (eptr u (((k : Nat) : Int).toNat * 1)))
    (ht : T.tt t = some ti) (h1 : oneCellT ti.desc = true) (hR : ROs ρ 1 u cs) (hc : cs[k]? = some v)
    (h : WL md P fn ρ X ops l ((d, v) :: env) Hs) : WL md P fn ρ X ops (⟨some d, .load t x, ty, pos, aft, none⟩ :: l) env Hs :=
  .ldR (T := T) hn hx ht h1 hR (by simpa using hc) h
theorem WL.ldEK {x : Operand} {t : TypeId} {i j k : Nat} {u v : Value} {cs : List Value} {ti : TyI} (hn : Nat.ble (d + 1) fn.ntmps = true) (hx : ev env x = some (eptr u i))
    (ht : T.tt t = some ti) (h1 : oneCellT ti.desc = true) (hH : nthH Hs j = some (Buf 1 u cs)) (hc : cs[k]? = some v) (hi : i = k)
    (h : WL false P fn ρ X ops l ((d, v) :: env) Hs) : WL false P fn ρ X ops (⟨some d, .load t x, ty, pos, aft, none⟩ :: l) env Hs :=
  .ldE (T := T) hn hx ht h1 (by rw [← nthH_eq]; exact hH) (by rw [hi]; exact hc) h
/-- a row of words that there may be, as it is given back -/
def RowR (o : Option (List Nat)) : Value → HP := fun r h => ∃ v, r = .tuple #[v, .bool o.isSome] ∧ Buf 1 v ((o.getD []).map ucell) h
/-- a row of numbers, told as a list of plain ones -/
theorem WL.reC {α : Type} (f : α → Value) (ns : List α) {u : Value} {Hr : List HP} (h0 : Hs = Buf 1 u (ns.map f) :: Hr) (h : WL false P fn ρ X ops l env (Buf 1 u (ns.map f) :: Hr)) : WL false P fn ρ X ops l env Hs := by
  subst h0
  exact h
theorem one_map {α : Type} {f : α → Value} (hf : ∀ a, (f a).oneCell' = true) (M : List α) : ∀ q ∈ M.map f, q.oneCell' = true := by
  intro q hq
  obtain ⟨n, _, rfl⟩ := List.mem_map.1 hq
  exact hf n
/-- rows appended to rows -/
theorem WL.apN {α : Type} {f : α → Value} {M : List α} {x y : Operand} {t E : TypeId} {v u : Value} {i : Nat} {eD : TypeDesc} {eB : Nat} {eZ : Value} {eC : Bool} {a b : Nat} {z : Value} {c : Bool} {Hs' : Value → List HP} (hn : Nat.ble (d + 1) fn.ntmps = true)
    (hx : ev env x = some v) (hy : ev env y = some u) (ht : T.tt t = some ⟨.slice E, a, b, z, c⟩) (he : T.tt E = some ⟨eD, 1, eB, eZ, eC⟩) (hz : Nat.beq eZ.cells.toList.length 1 = true)
    (hH : nthH Hs i = some (Buf 1 v [])) (hR : Src ρ (Hs.eraseIdx i) 1 u (M.map f)) (hu : SL u M.length) (hf : ∀ a, (f a).oneCell' = true) (hb : M.length * eB ≤ 140737488355328) (hM : M.length ≤ 140737488355328)
    (hF : ∀ v', FL (Hs.set i (Buf 1 v' (M.map f))) (Hs' v'))
    (h : ∀ v', SL v' M.length → WL false P fn ρ X ops l ((d, v') :: env) (Hs' v')) : WL false P fn ρ X ops (⟨some d, .call { callee := .builtin .append, args := #[x, y], argTypes := #[t, t] }, ty, pos, aft, none⟩ :: l) env Hs := by
  rw [nthH_eq] at hH
  refine WL.ap (T := T) (i := i) (n := 0) (m := M.length) (news := M.map f) (Hs' := Hs') hn hx hy ht he hz rfl hH hR hu (by simp) (by simp) (one_map hf M) (by rw [Nat.zero_add]; exact hb) (by unfold maxLen; omega) (fun v' => by simpa using hF v') (fun v' hv' => h v' (by simpa using hv'))
theorem WL.apMM {α : Type} {f : α → Value} {L M : List α} {x y : Operand} {t E : TypeId} {v u : Value} {i : Nat} {eD : TypeDesc} {eB : Nat} {eZ : Value} {eC : Bool} {a b : Nat} {z : Value} {c : Bool} {Hs' : Value → List HP} (hn : Nat.ble (d + 1) fn.ntmps = true)
    (hx : ev env x = some v) (hy : ev env y = some u) (ht : T.tt t = some ⟨.slice E, a, b, z, c⟩) (he : T.tt E = some ⟨eD, 1, eB, eZ, eC⟩) (hz : Nat.beq eZ.cells.toList.length 1 = true)
    (hH : nthH Hs i = some (Buf 1 v (L.map f))) (hR : Src ρ (Hs.eraseIdx i) 1 u (M.map f)) (hu : SL u M.length) (hf : ∀ a, (f a).oneCell' = true) (hb : (L.length + M.length) * eB ≤ 140737488355328) (hM : L.length + M.length ≤ 140737488355328)
    (hF : ∀ v', FL (Hs.set i (Buf 1 v' ((L ++ M).map f))) (Hs' v'))
    (h : ∀ v', SL v' (L ++ M).length → WL false P fn ρ X ops l ((d, v') :: env) (Hs' v')) : WL false P fn ρ X ops (⟨some d, .call { callee := .builtin .append, args := #[x, y], argTypes := #[t, t] }, ty, pos, aft, none⟩ :: l) env Hs := by
  rw [nthH_eq] at hH
  refine WL.ap (T := T) (i := i) (n := L.length) (m := M.length) (news := M.map f) (Hs' := Hs') hn hx hy ht he hz rfl hH hR hu (by simp) (by simp) (one_map hf M) hb (by unfold maxLen; omega) (fun v' => by rw [← List.map_append]; exact hF v') (fun v' hv' => h v' (by simpa using hv'))
theorem WL.apQ {α : Type} {f : α → Value} {L : List α} {q : α} {x y : Operand} {t E : TypeId} {v u : Value} {i : Nat} {eD : TypeDesc} {eB : Nat} {eZ : Value} {eC : Bool} {a b : Nat} {z : Value} {c : Bool} {Hs' : Value → List HP} (hn : Nat.ble (d + 1) fn.ntmps = true)
    (hx : ev env x = some v) (hy : ev env y = some u) (ht : T.tt t = some ⟨.slice E, a, b, z, c⟩) (he : T.tt E = some ⟨eD, 1, eB, eZ, eC⟩) (hz : Nat.beq eZ.cells.toList.length 1 = true)
    (hH : nthH Hs i = some (Buf 1 v (L.map f))) (hR : Src ρ (Hs.eraseIdx i) 1 u [f q]) (hu : SL u 1) (hf : ∀ a, (f a).oneCell' = true) (hb : (L.length + 1) * eB ≤ 140737488355328) (hM : L.length + 1 ≤ 140737488355328)
    (hF : ∀ v', FL (Hs.set i (Buf 1 v' ((L ++ [q]).map f))) (Hs' v'))
    (h : ∀ v', SL v' (L ++ [q]).length → WL false P fn ρ X ops l ((d, v') :: env) (Hs' v')) : WL false P fn ρ X ops (⟨some d, .call { callee := .builtin .append, args := #[x, y], argTypes := #[t, t] }, ty, pos, aft, none⟩ :: l) env Hs :=
  .apMM (T := T) (M := [q]) hn hx hy ht he hz hH hR hu hf hb hM hF h
/-- cuts of a slice that is read -/
theorem WL.slDn {α : Type} {f : α → Value} {L : List α} {x y : Operand} {t E : TypeId} {v : Value} {k : Nat} {K : IntKind} {eD : TypeDesc} {eB : Nat} {eZ : Value} {eC : Bool} {a b : Nat} {z : Value} {c : Bool} (hn : Nat.ble (d + 1) fn.ntmps = true)
    (hx : ev env x = some v) (hy : ev env y = some (.int K ((k : Nat) : Int))) (ht : T.tt t = some ⟨.slice E, a, b, z, c⟩) (he : T.tt E = some ⟨eD, 1, eB, eZ, eC⟩) (hR : ROs ρ 1 v (L.map f)) (h2 : k ≤ L.length)
    (h : ∀ u, SL u (L.drop k).length → ROs ρ 1 u ((L.drop k).map f) → WL md P fn ρ X ops l ((d, u) :: env) Hs) :
    WL md P fn ρ X ops (⟨some d, .slice t x (some y) none none, ty, pos, aft, none⟩ :: l) env Hs :=
  .slR (T := T) (n := L.length) (lo := k) (hi := L.length) hn hx (.atN hy) .no ht he rfl hR (by simp) h2 (Nat.le_refl _) (fun u hu hr => h u (by simpa using hu) (by
    have e : ((L.map f).drop (k * 1)).take ((L.length - k) * 1) = (L.drop k).map f := by
      rw [Nat.mul_one, Nat.mul_one, ← List.map_drop, List.take_of_length_le (by simp)]
    rw [← e]; exact hr))
end
end Go.Proofs.YtdpnpipninggeaaGreatDoor
