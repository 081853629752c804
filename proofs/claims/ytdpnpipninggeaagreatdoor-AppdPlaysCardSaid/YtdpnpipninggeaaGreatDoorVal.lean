/- Calls that only yield a value, what is read in the memory of a caller, parts that a region reads from some operation on, and stores of whole structs. Over whatever program. -/
import Derived.Test.YtdpnpipninggeaaGreatDoorDraw
import Derived.Test.YtdpnpipninggeaaGreatDoorRow
set_option linter.unusedSimpArgs false
set_option linter.unusedVariables false
namespace Go.Proofs.YtdpnpipninggeaaGreatDoor
open Go

def nthV : List Value → Nat → Option Value
  | [], _ => none
  | v :: _, 0 => some v
  | _ :: vs, n + 1 => nthV vs n
theorem nthV_eq : ∀ (vs : List Value) (i : Nat), nthV vs i = vs[i]?
  | [], _ => rfl
  | _ :: _, 0 => rfl
  | _ :: vs, n + 1 => by simpa [nthV] using nthV_eq vs n
theorem FL.rfl {α : Type} : ∀ l : List α, FL l l
  | [] => .nil
  | _ :: l => .cons (FL.rfl l)
def nthO : List Oper → Nat → Option Oper
  | [], _ => none
  | v :: _, 0 => some v
  | _ :: vs, n + 1 => nthO vs n
theorem nthO_eq : ∀ (vs : List Oper) (i : Nat), nthO vs i = vs[i]?
  | [], _ => rfl
  | _ :: _, 0 => rfl
  | _ :: vs, n + 1 => by simpa [nthO] using nthO_eq vs n
def nthH : List HP → Nat → Option HP
  | [], _ => none
  | v :: _, 0 => some v
  | _ :: vs, n + 1 => nthH vs n
theorem nthH_eq : ∀ (vs : List HP) (i : Nat), nthH vs i = vs[i]?
  | [], _ => rfl
  | _ :: _, 0 => rfl
  | _ :: vs, n + 1 => by simpa [nthH] using nthH_eq vs n
/-- a byte, as a value -/
def bcell (n : Nat) : Value := .int .u8 n
theorem one_bcell (l : List Nat) : ∀ q ∈ l.map bcell, q.oneCell' = true := by
  intro q hq; obtain ⟨n, _, rfl⟩ := List.mem_map.1 hq; rfl
/-- a string of these bytes -/
def strN (ns : List Nat) : ByteArray := strOf (ns.map (fun (n : Nat) => (n : Int)))
/-- a call that yields this value, and leaves nothing behind -/
def Just (v : Value) : Value → HP := fun r h => r = v ∧ emp h
theorem Fn.val {P : Program} {g : FuncId} {as : Array Value} {ρ : Hp} {Hs : List HP} {v v' : Value} (e : v = v') (h : Fn P g as ρ Hs (Just v)) : Fn P g as ρ Hs (Just v') := e ▸ h
/-- a variable's cells where they are only read -/
def RB (ρ : Hp) (b : Nat) (c : List Value) (Ty : TypeId) : Prop := ρ b = some (.cells c.toArray Ty (0, 0))

theorem ros_at {ρ x : Hp} {Hs : List HP} {sz : Nat} {v : Value} {cs : List Value} (j : Nat) (hi : Hs[j]? = some (Buf sz v cs)) (p : sepl Hs x) (d : Dj ρ x) : ROs (join ρ x) sz v cs := by
  obtain ⟨y, z, hy, _, rfl, _⟩ := sepl_at hi p
  exact (Buf.ro hy).mono (fun b o hb => join_right d (join_left hb))
theorem rb_at {ρ x : Hp} {Hs : List HP} {b : Nat} {c : List Value} {Ty : TypeId} (j : Nat) (hi : Hs[j]? = some (box b c Ty)) (p : sepl Hs x) (d : Dj ρ x) : RB (join ρ x) b c Ty := by
  obtain ⟨y, z, hy, _, rfl, _⟩ := sepl_at hi p
  exact join_right d (join_left hy.1)
theorem eqh_at {ρ x σ : Hp} {Hs : List HP} (j : Nat) (hi : Hs[j]? = some (eqh σ)) (p : sepl Hs x) (d : Dj ρ x) : ∀ b o, join ρ σ b = some o → join ρ x b = some o := by
  obtain ⟨y, z, hy, _, rfl, _⟩ := sepl_at hi p
  have : y = σ := hy
  subst this
  intro b o hb
  rcases join_some hb with h | h
  · exact join_left h
  · exact join_right d (join_left h)
theorem ROs.wide {ρ x : Hp} {sz : Nat} {v : Value} {cs : List Value} (h : ROs ρ sz v cs) : ROs (join ρ x) sz v cs := h.mono (fun _ _ => join_left)
theorem RB.wide {ρ x : Hp} {b : Nat} {c : List Value} {Ty : TypeId} (h : RB ρ b c Ty) : RB (join ρ x) b c Ty := join_left h

section
variable {P : Program} {T : Tab P} {fn : Func} {ρ σ : Hp} {Q : Value → HP} {k : List Item} {md : Bool} {X : World → Hp → Act → World → Prop} {env : Env} {Hs : List HP} {ops : Array Oper} {l : List Oper}
variable {d : Tmp} {ty : TypeId} {pos : String} {aft : Array Edge} {n fuel : Nat} {listed : Array Bool}

/-- a call that owns nothing as it begins: all that the caller has is read -/
theorem WL.callF {g : FuncId} {xs : List Operand} {ts : Array TypeId} {vs : List Value} {Q1 : Value → HP} (hn : Nat.ble (d + 1) fn.ntmps = true)
    (hv : xs.mapM (ev env) = some vs) (hc : ∀ x, sepl Hs x → Dj ρ x → Fn P g vs.toArray (join ρ x) [] Q1)
    (h : ∀ r, WL false P fn ρ X ops l ((d, r) :: env) (Q1 r :: Hs)) :
    WL false P fn ρ X ops (⟨some d, .call { callee := .value (.func g), args := xs.toArray, argTypes := ts }, ty, pos, aft, none⟩ :: l) env Hs := by
  intro w0 h0 w hh a s p e
  have hok : FnOK P g := (hc hh p s.dj).1
  have hC : Fn P g vs.toArray ρ [sepl Hs] (fun r => sep (sepl Hs) (Q1 r)) := Fn.frame hok hc
  exact WL.call (H1 := [sepl Hs]) (H2 := []) hn hv hC (fun h p => sepl_one.2 p) (fun r => .hs (Hs' := Q1 r :: Hs) (fun h p => sep_comm (sepl_one.1 p)) (h r)) w0 h0 w hh a s p e
theorem WL.callV {g : FuncId} {xs : List Operand} {ts : Array TypeId} {vs : List Value} {v : Value} (hn : Nat.ble (d + 1) fn.ntmps = true)
    (hv : xs.mapM (ev env) = some vs) (hc : ∀ x, sepl Hs x → Dj ρ x → Fn P g vs.toArray (join ρ x) [] (Just v))
    (h : WL false P fn ρ X ops l ((d, v) :: env) Hs) :
    WL false P fn ρ X ops (⟨some d, .call { callee := .value (.func g), args := xs.toArray, argTypes := ts }, ty, pos, aft, none⟩ :: l) env Hs :=
  .callF hn hv hc (fun r => WL.pure (p := emp) (fun e => by
    subst e
    exact WL.hs (fun h p => by obtain ⟨x, y, hx, hy, dd, rfl⟩ := p; rw [emp_eq hx, join_nohp']; exact hy) h))
/-- a call that owns parts 'H1' and reads the others 'H0' -/
theorem WL.callG {g : FuncId} {xs : List Operand} {ts : Array TypeId} {vs : List Value} {H0 H1 : List HP} {Q1 : Value → HP} (hn : Nat.ble (d + 1) fn.ntmps = true)
    (hv : xs.mapM (ev env) = some vs) (hc : ∀ x, sepl H0 x → Dj ρ x → Fn P g vs.toArray (join ρ x) H1 Q1) (hH : ∀ h, sepl Hs h → sepl (H0 ++ H1) h)
    (h : ∀ r, WL false P fn ρ X ops l ((d, r) :: env) (Q1 r :: H0)) :
    WL false P fn ρ X ops (⟨some d, .call { callee := .value (.func g), args := xs.toArray, argTypes := ts }, ty, pos, aft, none⟩ :: l) env Hs := by
  intro w0 h0 w hh a s p e
  obtain ⟨x, y, hx, hy, dd, rfl⟩ := sepl_append.1 (hH _ p)
  have hok : FnOK P g := (hc x hx (dj_join_right.1 s.dj).1).1
  have hC : Fn P g vs.toArray ρ (sepl H0 :: H1) (fun r => sep (sepl H0) (Q1 r)) := Fn.frame hok hc
  refine WL.call (H1 := sepl H0 :: H1) (H2 := []) hn hv hC (fun h p => ?_) (fun r => .hs (Hs' := Q1 r :: H0) (fun h p => sep_comm (sepl_one.1 p)) (h r)) w0 h0 w _ a s p e
  rw [List.append_nil]
  exact sepl_append.1 (hH _ p)

/- reads in what is only read -/
theorem WL.ldB {x : Operand} {t : TypeId} {b off : Nat} {c : List Value} {Ty : TypeId} {v : Value} {ti : TyI} (hn : Nat.ble (d + 1) fn.ntmps = true) (hx : ev env x = some (.pointer (some ⟨b, off, none⟩)))
    (ht : T.tt t = some ti) (h1 : oneCellT ti.desc = true) (hR : RB ρ b c Ty) (hc : c[off]? = some v)
    (h : WL md P fn ρ X ops l ((d, v) :: env) Hs) : WL md P fn ρ X ops (⟨some d, .load t x, ty, pos, aft, none⟩ :: l) env Hs :=
  .rdR rfl rfl hn (fun f w hr e => by
    have hcell : w.cell? ⟨b, off, none⟩ = some v := by simp [World.cell?, hr b _ hR, hc]
    simp [execOp, e _ _ hx, Instr.loadAt, Instr.sureAddr, load1 ht h1 hcell]) h
theorem WL.ldAB {x : Operand} {t : TypeId} {b off : Nat} {c : List Value} {Ty : TypeId} {cs : List Value} {ti : TyI} (hn : Nat.ble (d + 1) fn.ntmps = true) (hx : ev env x = some (.pointer (some ⟨b, off, none⟩)))
    (ht : T.tt t = some ti) (h1 : oneCellT ti.desc = false) (hR : RB ρ b c Ty) (hc : (c.drop off).take ti.size = cs) (hl : off + ti.size ≤ c.length)
    (h : WL md P fn ρ X ops l ((d, .agg cs.toArray) :: env) Hs) : WL md P fn ρ X ops (⟨some d, .load t x, ty, pos, aft, none⟩ :: l) env Hs :=
  .rdR rfl rfl hn (fun f w hr e => by
    subst hc
    have hr := loadN (T := T) ht h1 (w := w) (a := ⟨b, off, none⟩) (cs := (c.drop off).take ti.size) (by simp; omega) (fun i v hi => by
      rw [Addr.add_lit]
      rw [List.getElem?_take] at hi
      split at hi
      · simpa [World.cell?, hr b _ hR, List.getElem?_drop] using hi
      · cases hi)
    simp [execOp, e _ _ hx, Instr.loadAt, Instr.sureAddr, hr]) h
theorem WL.b2sR {x : Operand} {S t E : TypeId} {u : Value} {ns : List Int} {si : TyI} {eD : TypeDesc} {eS eB : Nat} {eZ : Value} {eC : Bool} {a b : Nat} {z : Value} {c : Bool} (hn : Nat.ble (d + 1) fn.ntmps = true) (hx : ev env x = some u) (hs : T.tt t = some si) (hS : si.desc = .string)
    (ht : T.tt S = some ⟨.slice E, a, b, z, c⟩) (he : T.tt E = some ⟨eD, eS, eB, eZ, eC⟩) (hE : eD = .int .u8) (hR : ROs ρ 1 u (ns.map (Value.int .u8)))
    (h : WL md P fn ρ X ops l ((d, .string (strOf ns)) :: env) Hs) : WL md P fn ρ X ops (⟨some d, .convert S t x, ty, pos, aft, none⟩ :: l) env Hs :=
  .rdR rfl rfl hn (fun f w hr e => by
    have hsl := hR.sl (n := ns.length) (by simp) (by omega)
    have hu := T.und ht
    have hue : P.underlying E = some (.int .u8) := by rw [T.und he, hE]
    have hus : P.underlying t = some .string := by rw [T.und hs, hS]
    rcases hsl.src with ⟨rfl, h0⟩ | ⟨c', hu'⟩
    · have : ns = [] := List.eq_nil_of_length_eq_zero h0
      subst this
      simp [execOp, e _ _ hx, run_convert_bytes_string w S t E none 0 0 hu hue hus, Conv.bytesToString, strOf]
    · have hlc : (loadCells (vaddr u) ns.length).run P w = .ok (ns.map (Value.int .u8)).toArray w := by
        have := run_loadCells_list (P := P) w (vaddr u) (ns.map (Value.int .u8)) (fun j q hq => hR.cell hr hq)
        simpa using this
      have hbs := run_bytesToString (P := P) w (vaddr u) ns.length c' ns hlc
      simp only [execOp, e _ _ hx]
      rw [hu']
      simp [run_convert_bytes_string w S t E (some (vaddr u)) ns.length c' hu hue hus, hbs, strOf]) h

/- a whole struct is stored -/
theorem WL.stA {x y : Operand} {t : TypeId} {b off j : Nat} {c c' : List Value} {Ty : TypeId} {cs : List Value} {ti : TyI} {Hs' : List HP} (hx : ev env x = some (.pointer (some ⟨b, off, none⟩))) (hy : ev env y = some (.agg cs.toArray))
    (ht : T.tt t = some ti) (hsz : cs.length = ti.size) (h1 : ∀ q ∈ cs, q.oneCell' = true) (hH : Hs[j]? = some (box b c Ty)) (hl : off + cs.length ≤ c.length)
    (hc' : FL (c.take off ++ cs ++ c.drop (off + cs.length)) c') (hF : FL (Hs.set j (box b c' Ty)) Hs')
    (h : WL false P fn ρ X ops l env Hs') : WL false P fn ρ X ops (⟨none, .store t x y, ty, pos, aft, none⟩ :: l) env Hs :=
  .does (Hs' := Hs') rfl rfl (fun f w0 h0 w hh s p e => by
    obtain ⟨a, z, ha, dd, rfl, _, hset⟩ := sepl_at hH p
    have hF := hF.eq
    have hc' := hc'.eq
    subst hF
    subst hc'
    have ea := pts_eq ha
    subst ea
    have hw : w.heap[b]? = some (.cells c.toArray Ty (0, 0)) := s.own b _ (join_left (by simp [one]))
    have hst := run_storeCells_un (P := P) b off Ty (0, 0) cs 0 c.toArray w hw (by simpa using hl) (fun m _ _ h => by omega) h1
    simp only [Nat.add_zero] at hst
    have hch : Dj (one b (.cells (c.take off ++ cs ++ c.drop (off + cs.length)).toArray Ty (0, 0))) z ∧ St ρ w0 h0 (w.setRow b (c.take off ++ cs ++ c.drop (off + cs.length)).toArray) (join (one b (.cells (c.take off ++ cs ++ c.drop (off + cs.length)).toArray Ty (0, 0))) z) := by
      refine s.change dd ?_ ?_ ?_ (by simp [World.setRow]) rfl rfl rfl
      · intro n hn
        left
        by_cases e : n = b
        · subst e; simp [one]
        · simp [one, e] at hn
      · intro n o ho
        by_cases e : n = b
        · subst e; simp [one] at ho; subst ho; rw [List.append_assoc]; exact setRow_heap w n c.toArray _ Ty (0, 0) hw
        · simp [one, e] at ho
      · intro n _ hn
        refine setRow_other w b n _ (fun e => ?_)
        subst e
        simp [one] at hn
    refine ⟨w.setRow b (c.take off ++ cs ++ c.drop (off + cs.length)).toArray, _, ?_, hch.2, ?_⟩
    · simp [execOp, e _ _ hx, e _ _ hy, Instr.storeAt, Instr.sureAddr, storeVar, Value.cells, T.runS ht, hsz]
      simp [hsz] at hst
      rw [hst]
      rfl
    · exact hset _ _ (pts_one _ _) hch.1) h

/-- what a call gave is read by nobody's turning from here on -/
theorem WD.grow {p : HP} (h : ∀ σ', sepl [eqh σ, p] σ' → Dj ρ σ' → (∀ b o, join ρ σ b = some o → join ρ σ' b = some o) → WD P fn ρ σ' X ops n fuel listed env Hs) : WD P fn ρ σ X ops n fuel listed env (p :: Hs) := by
  intro w0 h0 w hh a s q e
  obtain ⟨x, y, hx, ⟨u, v, hu, hv, duv, rfl⟩, dd, rfl⟩ := q
  have : x = σ := hx
  subst this
  have d1 := dj_join_right.1 dd
  have hdj := s.dj
  have d2 : Dj ρ (join x u) := by
    have a1 := dj_join_right.1 hdj
    exact dj_join_right.2 ⟨a1.1, (dj_join_right.1 a1.2).1⟩
  have hle : ∀ b o, join ρ x b = some o → join ρ (join x u) b = some o := by
    intro b o hb
    rcases join_some hb with h | h
    · exact join_left h
    · exact join_right d2 (join_left h)
  have key := h (join x u) ⟨x, u, rfl, sepl_one.2 hu, d1.1, rfl⟩ d2 hle w0 h0 w (join x (join u v)) a s
    ⟨join x u, v, rfl, hv, dj_join_left.2 ⟨d1.2, duv⟩, (join_assoc x u v).symm⟩ e
  have weaken : ∀ fuel listed a w, wpAnyT P .any ops (onNormal fun a w => X w0 h0 a w) (stays ρ (join x u)) n fuel listed a w → wpAnyT P .any ops (onNormal fun a w => X w0 h0 a w) (stays ρ x) n fuel listed a w := by
    intro fuel
    induction fuel with
    | zero => exact fun _ _ _ h => h
    | succ f ih =>
      intro listed a w h
      unfold wpAnyT at h ⊢
      split
      · rename_i hd; rw [if_pos hd] at h; exact h
      · rename_i hd; rw [if_neg hd] at h; exact ⟨h.1, fun i hi => wpOp_mono (fun a' w' h' => ⟨fun b o hb => h'.1 b o (hle b o hb), ih _ _ _ h'.2⟩) (h.2 i hi)⟩
  exact weaken _ _ _ _ key
theorem WD.hs {H2 : List HP} (hs : ∀ h, sepl Hs h → sepl H2 h) (h : WD P fn ρ σ X ops n fuel listed env H2) : WD P fn ρ σ X ops n fuel listed env Hs :=
  fun w0 h0 w hh a s p e => h w0 h0 w hh a s (sep_mono (fun _ x => x) hs p) e
theorem WD.sub {env' : Env} (hs : Subs env env') (h : WD P fn ρ σ X ops n fuel listed env' Hs) : WD P fn ρ σ X ops n fuel listed env Hs :=
  fun w0 h0 w hh a s p e => h w0 h0 w hh a s p (e.sub hs.look)
theorem WD.ex {α : Type} {p : α → HP} (h : ∀ x, WD P fn ρ σ X ops n fuel listed env (p x :: Hs)) : WD P fn ρ σ X ops n fuel listed env ((fun h => ∃ x, p x h) :: Hs) := by
  rintro w0 h0 w hh a s ⟨u, v, hu, ⟨x, y, ⟨z, hz⟩, hy, dd, rfl⟩, d', rfl⟩ e
  exact h z w0 h0 w _ a s ⟨u, _, hu, ⟨x, y, hz, hy, dd, rfl⟩, d', rfl⟩ e
theorem WD.fact {i : Nat} {p : HP} {φ : Prop} (hi : Hs[i]? = some p) (hp : ∀ h, p h → φ) (h : φ → WD P fn ρ σ X ops n fuel listed env Hs) : WD P fn ρ σ X ops n fuel listed env Hs := by
  rintro w0 h0 w hh a s ⟨u, v, hu, hv, d', rfl⟩ e
  obtain ⟨x, y, hx, _, _, _⟩ := sepl_at hi hv
  exact h (hp _ hx) w0 h0 w _ a s ⟨u, v, hu, hv, d', rfl⟩ e
/-- nothing is left -/
theorem WD.done (hr : headDone n listed = true) (hB : Region.seqB .any ops 0 n listed = true) (hl : ops.size = n) {H1 : List HP} (hH : ∀ h, sepl (eqh σ :: Hs) h → sepl H1 h) (h : W P fn ρ Q k env H1) : WD P fn ρ σ (runK P fn ρ Q k) ops n 0 listed env Hs := by
  refine WD.last (l := []) (H0 := [eqh σ]) (sepl_one.2 rfl) (by rw [hr, hB]; rfl) ?_ rfl (WL.hs hH (WL.nil h))
  simp [← hl]

theorem WL.extL {x : Operand} {vs : List Value} {i : Nat} {v : Value} (hn : Nat.ble (d + 1) fn.ntmps = true) (hx : ev env x = some (.tuple vs.toArray)) (hv : nthV vs i = some v)
    (h : WL md P fn ρ X ops l ((d, v) :: env) Hs) : WL md P fn ρ X ops (⟨some d, .extract x i, ty, pos, aft, none⟩ :: l) env Hs :=
  .ext hn hx (by rw [List.getElem?_toArray, ← nthV_eq]; exact hv) h

/- strings -/
theorem WL.b2sN {x : Operand} {S t E : TypeId} {u : Value} {ns : List Nat} {si : TyI} {eD : TypeDesc} {eS eB : Nat} {eZ : Value} {eC : Bool} {a b : Nat} {z : Value} {c : Bool} (hn : Nat.ble (d + 1) fn.ntmps = true) (hx : ev env x = some u) (hs : T.tt t = some si) (hS : si.desc = .string)
    (ht : T.tt S = some ⟨.slice E, a, b, z, c⟩) (he : T.tt E = some ⟨eD, eS, eB, eZ, eC⟩) (hE : eD = .int .u8) (hR : Src ρ Hs 1 u (ns.map bcell))
    (h : WL false P fn ρ X ops l ((d, .string (strN ns)) :: env) Hs) : WL false P fn ρ X ops (⟨some d, .convert S t x, ty, pos, aft, none⟩ :: l) env Hs :=
  .b2s (T := T) (ns := ns.map (fun (n : Nat) => (n : Int))) hn hx hs hS ht he hE (by rw [List.map_map]; exact hR) h
theorem WL.b2sRN {x : Operand} {S t E : TypeId} {u : Value} {ns : List Nat} {si : TyI} {eD : TypeDesc} {eS eB : Nat} {eZ : Value} {eC : Bool} {a b : Nat} {z : Value} {c : Bool} (hn : Nat.ble (d + 1) fn.ntmps = true) (hx : ev env x = some u) (hs : T.tt t = some si) (hS : si.desc = .string)
    (ht : T.tt S = some ⟨.slice E, a, b, z, c⟩) (he : T.tt E = some ⟨eD, eS, eB, eZ, eC⟩) (hE : eD = .int .u8) (hR : ROs ρ 1 u (ns.map bcell))
    (h : WL md P fn ρ X ops l ((d, .string (strN ns)) :: env) Hs) : WL md P fn ρ X ops (⟨some d, .convert S t x, ty, pos, aft, none⟩ :: l) env Hs :=
  .b2sR (T := T) (ns := ns.map (fun (n : Nat) => (n : Int))) hn hx hs hS ht he hE (by rw [List.map_map]; exact hR) h
/-- a variable, its cells written out -/
theorem WL.alF {t : TypeId} {dd : TypeDesc} {a b : Nat} {z : Value} {c : Bool} {cs : List Value} (hn : Nat.ble (d + 1) fn.ntmps = true) (ht : T.tt t = some ⟨dd, a, b, z, c⟩) (hF : FL z.cells.toList cs)
    (h : ∀ b, WL false P fn ρ X ops l ((d, .pointer (some ⟨b, 0, none⟩)) :: env) (box b cs t :: Hs)) : WL false P fn ρ X ops (⟨some d, .alloc t, ty, pos, aft, none⟩ :: l) env Hs :=
  .al (T := T) (hz := ⟨_, ht, hF.eq⟩) hn h

/- the same, told of lists -/
theorem WD.takeL {ol : List Oper} (i : Nat) {o : Oper} (hi : nthO ol i = some o) (hB : (decide (i < n) && sinkD .any ol.toArray n && Region.noSelect ol.toArray && Region.free .any ol.toArray listed i && (Region.ready .any ol.toArray listed).contains i) = true)
    (h : WL true P fn (join ρ σ) (takeX P fn ρ σ X ol.toArray n fuel (listed.setIfInBounds i true) Hs) ol.toArray [o] env Hs) : WD P fn ρ σ X ol.toArray n (fuel + 1) listed env Hs :=
  .take i (by rw [List.getElem?_toArray, ← nthO_eq]; exact hi) hB h
theorem WD.oneL {ol : List Oper} (i : Nat) {o : Oper} (hi : nthO ol i = some o) (hB : (!headDone n listed && decide (Region.ready .any ol.toArray listed = [i])) = true)
    (h : WL false P fn ρ (opX P ρ σ X ol.toArray n fuel (listed.setIfInBounds i true)) ol.toArray [o] env (eqh σ :: Hs)) : WD P fn ρ σ X ol.toArray n (fuel + 1) listed env Hs :=
  .one i (by rw [List.getElem?_toArray, ← nthO_eq]; exact hi) hB h
theorem WD.twoL {ol : List Oper} (i j : Nat) {o q : Oper} (hi : nthO ol i = some o) (hj : nthO ol j = some q) (hB : (!headDone n listed && decide (Region.ready .any ol.toArray listed = [i, j])) = true)
    (h : WL false P fn ρ (opX P ρ σ X ol.toArray n fuel (listed.setIfInBounds i true)) ol.toArray [o] env (eqh σ :: Hs))
    (h' : WL false P fn ρ (opX P ρ σ X ol.toArray n fuel (listed.setIfInBounds j true)) ol.toArray [q] env (eqh σ :: Hs)) : WD P fn ρ σ X ol.toArray n (fuel + 1) listed env Hs :=
  .two i j (by rw [List.getElem?_toArray, ← nthO_eq]; exact hi) (by rw [List.getElem?_toArray, ← nthO_eq]; exact hj) hB h h'
theorem WD.doneH {H0 : List HP} (hσ : sepl H0 σ) (hB : (headDone n listed && Region.seqB .any ops 0 n listed && Nat.beq ops.size n) = true) (h : W P fn ρ Q k env (H0 ++ Hs)) : WD P fn ρ σ (runK P fn ρ Q k) ops n 0 listed env Hs := by
  simp only [Bool.and_eq_true] at hB
  have hl := Nat.eq_of_beq_eq_true hB.2
  refine WD.last (l := []) hσ (by simp [hB.1]) ?_ rfl (WL.nil h)
  simp [← hl]
theorem WL.ldN {x : Operand} {t : TypeId} {b off j : Nat} {c : List Value} {Ty : TypeId} {v : Value} {ti : TyI} (hn : Nat.ble (d + 1) fn.ntmps = true) (hx : ev env x = some (.pointer (some ⟨b, off, none⟩)))
    (ht : T.tt t = some ti) (h1 : oneCellT ti.desc = true) (hH : nthH Hs j = some (box b c Ty)) (hc : nthV c off = some v)
    (h : WL false P fn ρ X ops l ((d, v) :: env) Hs) : WL false P fn ρ X ops (⟨some d, .load t x, ty, pos, aft, none⟩ :: l) env Hs :=
  .ld (T := T) hn hx ht h1 (by rw [← nthH_eq]; exact hH) (by rw [← nthV_eq]; exact hc) h
theorem WL.ldBN {x : Operand} {t : TypeId} {b off : Nat} {c : List Value} {Ty : TypeId} {v : Value} {ti : TyI} (hn : Nat.ble (d + 1) fn.ntmps = true) (hx : ev env x = some (.pointer (some ⟨b, off, none⟩)))
    (ht : T.tt t = some ti) (h1 : oneCellT ti.desc = true) (hR : RB ρ b c Ty) (hc : nthV c off = some v)
    (h : WL md P fn ρ X ops l ((d, v) :: env) Hs) : WL md P fn ρ X ops (⟨some d, .load t x, ty, pos, aft, none⟩ :: l) env Hs :=
  .ldB (T := T) hn hx ht h1 hR (by rw [← nthV_eq]; exact hc) h
theorem WL.stF {x y : Operand} {t : TypeId} {b off j : Nat} {c c' : List Value} {Ty : TypeId} {v : Value} {ti : TyI} {Hs' : List HP} (hx : ev env x = some (.pointer (some ⟨b, off, none⟩))) (hy : ev env y = some v)
    (ht : T.tt t = some ti) (hsz : ti.size = 1) (hv : v.oneCell' = true) (hH : nthH Hs j = some (box b c Ty)) (hl : Nat.blt off c.length = true) (hc : FL (c.set off v) c') (hF : FL (Hs.set j (box b c' Ty)) Hs')
    (h : WL false P fn ρ X ops l env Hs') : WL false P fn ρ X ops (⟨none, .store t x y, ty, pos, aft, none⟩ :: l) env Hs :=
  .st (T := T) hx hy ht hsz hv (by rw [← nthH_eq]; exact hH) (Nat.le_of_ble_eq_true hl) (by rw [hc.eq, hF.eq]; exact h)

/-- a call whose value alone counts -/
theorem WL.callT {g : FuncId} {xs : List Operand} {ts : Array TypeId} {vs : List Value} {v : Value} (hn : Nat.ble (d + 1) fn.ntmps = true)
    (hv : xs.mapM (ev env) = some vs) (hc : ∀ x, sepl Hs x → Dj ρ x → Fn P g vs.toArray (join ρ x) [] (fun r _ => r = v))
    (h : WL false P fn ρ X ops l ((d, v) :: env) Hs) :
    WL false P fn ρ X ops (⟨some d, .call { callee := .value (.func g), args := xs.toArray, argTypes := ts }, ty, pos, aft, none⟩ :: l) env Hs :=
  .callF hn hv hc (fun r => WL.fact (i := 0) rfl (fun _ p => p) (fun e => by
    subst e
    exact WL.drop 0 rfl (by simp; exact FL.rfl Hs) h))
def nthF : List Field → Nat → Option Field
  | [], _ => none
  | v :: _, 0 => some v
  | _ :: vs, n + 1 => nthF vs n
theorem nthF_eq : ∀ (vs : List Field) (i : Nat), nthF vs i = vs[i]?
  | [], _ => rfl
  | _ :: _, 0 => rfl
  | _ :: vs, n + 1 => by simpa [nthF] using nthF_eq vs n
theorem WL.faN {x : Operand} {t : TypeId} {i : Nat} {b off off' : Nat} {fs : List Field} {F : Field} {fi : TyI} {z : Value} {a a' : Nat} {c : Bool} (hn : Nat.ble (d + 1) fn.ntmps = true) (hx : ev env x = some (.pointer (some ⟨b, off, none⟩)))
    (ht : T.tt t = some ⟨.struct fs.toArray, a, a', z, c⟩) (hF : nthF fs i = some F) (hf : T.tt F.type = some fi) (hsz : Nat.beq fi.size 0 = false) (ho : off + F.offset = off')
    (h : WL md P fn ρ X ops l ((d, .pointer (some ⟨b, off', none⟩)) :: env) Hs) : WL md P fn ρ X ops (⟨some d, .fieldAddr t x i, ty, pos, aft, none⟩ :: l) env Hs := by
  subst ho
  exact .fa (T := T) hn hx ht (by rw [List.getElem?_toArray, ← nthF_eq]; exact hF) hf hsz h
theorem WL.faEN {x : Operand} {t : TypeId} {i j off' : Nat} {v : Value} {fs : List Field} {F : Field} {fi : TyI} {z : Value} {a a' : Nat} {c : Bool} (hn : Nat.ble (d + 1) fn.ntmps = true) (hx : ev env x = some (eptr v j))
    (ht : T.tt t = some ⟨.struct fs.toArray, a, a', z, c⟩) (hF : nthF fs i = some F) (hf : T.tt F.type = some fi) (hsz : Nat.beq fi.size 0 = false) (ho : F.offset = off')
    (h : WL md P fn ρ X ops l ((d, eptr v (j + off')) :: env) Hs) : WL md P fn ρ X ops (⟨some d, .fieldAddr t x i, ty, pos, aft, none⟩ :: l) env Hs := by
  subst ho
  exact .faE (T := T) hn hx ht (by rw [List.getElem?_toArray, ← nthF_eq]; exact hF) hf hsz h

/- cuts of strings -/
def bytesN (s : ByteArray) : List Nat := s.data.toList.map (fun b => b.toNat)
theorem RB.mono {ρ' : Hp} {b : Nat} {c : List Value} {Ty : TypeId} (h : RB ρ b c Ty) (hs : ∀ b o, ρ b = some o → ρ' b = some o) : RB ρ' b c Ty := hs _ _ h
/-- what a call gave is read from here on -/
theorem WL.nilG {p : HP} {H2 : List HP} (h : ∀ σ', sepl [eqh σ, p] σ' → Dj ρ σ' → (∀ b o, join ρ σ b = some o → join ρ σ' b = some o) → WD P fn ρ σ' X ops n fuel listed env H2) : WL false P fn ρ (opX P ρ σ X ops n fuel listed) ops [] env (p :: eqh σ :: H2) :=
  .nilO (H2 := p :: H2) (fun _ q => sep_left_comm q) (.grow h)
theorem Src.eqJ {sz : Nat} {u : Value} {cs : List Value} (j : Nat) (h1 : Hs[j]? = some (eqh σ)) (h2 : ROs (join ρ σ) sz u cs) : Src ρ Hs sz u cs :=
  .both j h1 fun h e => by
    have : h = σ := e
    subst this
    exact h2
theorem WL.nilE {H2 : List HP} (h : WD P fn ρ σ X ops n fuel listed env H2) : WL false P fn ρ (opX P ρ σ X ops n fuel listed) ops [] env (eqh σ :: H2) := .nilO (fun _ q => q) h
theorem WL.nilS {p : HP} {H2 : List HP} (h : WD P fn ρ σ X ops n fuel listed env (p :: H2)) : WL false P fn ρ (opX P ρ σ X ops n fuel listed) ops [] env (p :: eqh σ :: H2) := .nilO (H2 := p :: H2) (fun _ q => sep_left_comm q) h
/-- what follows is proved once, for all states in which the item ahead may leave -/
theorem W.cut {τ : Type} {c : Item} (E : τ → Env) (H : τ → List HP) (inv : τ → Prop) (tail : ∀ s, inv s → W P fn ρ Q k (E s) (H s)) (h : (∀ s, inv s → W P fn ρ Q k (E s) (H s)) → W P fn ρ Q (c :: k) env Hs) : W P fn ρ Q (c :: k) env Hs := h tail
/-- what these slices read, whoever of the caller's parts holds them -/
def Reads (ρ : Hp) (rows : List (Value × List Nat)) : HP := fun h => Dj ρ h → ∀ r ∈ rows, ROs (join ρ h) 1 r.1 (r.2.map bcell)
theorem W.swap {p q : HP} {H2 : List HP} (h : W P fn ρ Q k env (q :: p :: H2)) : W P fn ρ Q k env (p :: q :: H2) := .hs (Hs' := q :: p :: H2) (fun _ x => sep_left_comm x) h
theorem WL.stEF {x y : Operand} {t : TypeId} {i j sz : Nat} {u v : Value} {cs cs' : List Value} {ti : TyI} {Hs' : List HP} (hx : ev env x = some (eptr u i)) (hy : ev env y = some v)
    (ht : T.tt t = some ti) (hsz : ti.size = 1) (hv : v.oneCell' = true) (hH : Hs[j]? = some (Buf sz u cs)) (hl : i < cs.length) (hc : cs.set i v = cs') (hF : FL (Hs.set j (Buf sz u cs')) Hs')
    (h : WL false P fn ρ X ops l env Hs') : WL false P fn ρ X ops (⟨none, .store t x y, ty, pos, aft, none⟩ :: l) env Hs :=
  .stE (T := T) hx hy ht hsz hv hH hl (by rw [hc, hF.eq]; exact h)
/- a slice of values of one cell each, whatever they are -/
theorem cells_one {v : Value} (hv : v.oneCell' = true) : v.cells = #[v] := by cases v <;> first | rfl | (simp [Value.oneCell'] at hv)
theorem SL.one {v : Value} {n : Nat} (h : SL v n) : v.oneCell' = true := by
  rcases h with ⟨rfl, _⟩ | ⟨a, c, rfl⟩ <;> rfl
end
end Go.Proofs.YtdpnpipninggeaaGreatDoor
