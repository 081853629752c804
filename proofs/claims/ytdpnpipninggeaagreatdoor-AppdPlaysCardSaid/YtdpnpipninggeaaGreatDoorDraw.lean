/- A region whose order is open: what only yields a value is taken first; of the rest each that may come up comes up; what waits for all others comes last. Over whatever program. -/
import Derived.Test.YtdpnpipninggeaaGreatDoorApp
import Derived.OrdersHeld
import Derived.StillTail
set_option linter.unusedSimpArgs false
set_option linter.unusedVariables false
namespace Go.Proofs.YtdpnpipninggeaaGreatDoor
open Go

def headDone (n : Nat) (listed : Array Bool) : Bool := (List.range n).all fun i => listed.getD i false
theorem headDone_false {n i : Nat} {listed : Array Bool} (hi : i < n) (h : listed.getD i false = false) : headDone n listed = false := by
  unfold headDone
  rw [List.all_eq_false]
  exact ⟨i, List.mem_range.2 hi, by simp only [h]; decide⟩
/-- what stands from 'n' on waits for all that stands ahead of it -/
def sinkD (md : Region.Mode) (ops : Array Oper) (n : Nat) : Bool := (List.range ops.size).all fun j => decide (j < n) || (List.range n).all fun i => Region.waitsFor md ops j i

section
variable {P : Program} {ops : Array Oper} {Q : Exit → Act → World → Prop} {md : Region.Mode} {S : World → Prop} {n : Nat}

theorem sinkD_spec (h : sinkD md ops n = true) {listed : Array Bool} {j : Nat} (hj : j ∈ Region.ready md ops listed) : j < n ∨ headDone n listed = true := by
  obtain ⟨_, oj, hoj, hall⟩ := mem_ready.1 hj
  have hlt : j < ops.size := (Array.getElem?_eq_some_iff.1 hoj).1
  have h1 := List.all_eq_true.1 h j (List.mem_range.2 hlt)
  simp only [Bool.or_eq_true, decide_eq_true_eq] at h1
  rcases h1 with h1 | h1
  · exact .inl h1
  · right
    unfold headDone
    rw [List.all_eq_true]
    intro i hi
    obtain ⟨o', ho', e, he, hb, hon⟩ := Region.waitsFor_spec (List.all_eq_true.1 h1 i hi)
    have : o' = oj := Option.some.inj (ho'.symm.trans hoj)
    subst this
    have := hall e he hb
    rw [hon] at this
    exact this

def wpAnyT (P : Program) (md : Region.Mode) (ops : Array Oper) (Q : Exit → Act → World → Prop) (S : World → Prop) (n : Nat) : Nat → Array Bool → Act → World → Prop
  | 0, listed, a, w => Region.ready md ops listed = [] ∧ Q .normal a w
  | fuel + 1, listed, a, w =>
    if headDone n listed then wpAny P md ops Q (fuel + 1) listed a w
    else (Region.ready md ops listed = [] → Q .normal a w) ∧ ∀ i ∈ Region.ready md ops listed, wpOp P ops Q i (fun a' w' => S w' ∧ wpAnyT P md ops Q S n fuel (listed.setIfInBounds i true) a' w') a w

theorem wpAny_of_T : ∀ (fuel : Nat) (listed : Array Bool) (a : Act) (w : World), wpAnyT P md ops Q S n fuel listed a w → wpAny P md ops Q fuel listed a w
  | 0, _, _, _, h => h
  | fuel + 1, listed, a, w, h => by
    unfold wpAnyT at h
    split at h
    · exact h
    · exact ⟨h.1, fun i hi => wpOp_mono (fun a' w' h' => wpAny_of_T fuel _ a' w' h'.2) (h.2 i hi)⟩

theorem wpAnyT_first {i : Nat} {oi : Oper} {v : Value} (hi : ops[i]? = some oi) (hin : i < n) (hsk : sinkD md ops n = true) (hsel : ∀ (j : Nat) (o : Oper) cs b, ops[j]? = some o → o.op ≠ .select cs b)
    (hQ : ∀ c a w, Q (.panic c) (a.put oi.dst v) w → Q (.panic c) a w) :
    ∀ (fuel : Nat) (listed : Array Bool) (a : Act) (w : World),
      (∀ j oj, ops[j]? = some oj → j ≠ i → listed.getD j true = false → (∀ e ∈ oj.after, Region.binds md e = true → e.on ≠ i) → oi.apart ops oj = true) →
      i ∈ Region.ready md ops listed → YieldsIf P ops S oi v a → S w →
      wpAnyT P md ops Q S n fuel (listed.setIfInBounds i true) (a.put oi.dst v) w → wpAnyT P md ops Q S n (fuel + 1) listed a w := by
  intro fuel
  induction fuel with
  | zero =>
    intro listed a w _ hr hy hS H
    have hun := getD_both (mem_ready.1 hr).1
    unfold wpAnyT
    rw [if_neg (by rw [headDone_false hin hun]; decide)]
    refine ⟨fun h => (by rw [h] at hr; cases hr), fun j hj => ?_⟩
    by_cases hji : j = i
    · subst hji; exact hy.wpOp hi hS ⟨hS, H⟩
    · have := ready_mono hj hji
      rw [H.1] at this
      cases this
  | succ fuel ih =>
    intro listed a w hfree hr hy hS H
    have hun := getD_both (mem_ready.1 hr).1
    unfold wpAnyT
    rw [if_neg (by rw [headDone_false hin hun]; decide)]
    refine ⟨fun h => (by rw [h] at hr; cases hr), fun j hj => ?_⟩
    by_cases hji : j = i
    · subst hji; exact hy.wpOp hi hS ⟨hS, H⟩
    · have hjn : j < n := by
        rcases sinkD_spec hsk hj with h | h
        · exact h
        · rw [headDone_false hin hun] at h; cases h
      obtain ⟨hjun, oj, hoj, hall⟩ := mem_ready.1 hj
      have hset : headDone n (listed.setIfInBounds i true) = false := headDone_false hjn (by rw [getD_set_ne false (Ne.symm hji)]; exact getD_both hjun)
      unfold wpAnyT at H
      rw [if_neg (by rw [hset]; decide)] at H
      have h1 := H.2 j (ready_mono hj hji)
      have hnot : ∀ e ∈ oj.after, Region.binds md e = true → e.on ≠ i := fun e he hb heq => by
        have h1 := hall e he hb
        rw [heq, hun] at h1
        cases h1
      have h2 := wpOp_putIf hoj (hfree j oj hoj hji hjun hnot) (fun cs b => hsel i oi cs b hi) (fun cs b => hsel j oj cs b hoj) hQ hy h1
      have hfree' : ∀ k ok, ops[k]? = some ok → k ≠ i → (listed.setIfInBounds j true).getD k true = false →
          (∀ e ∈ ok.after, Region.binds md e = true → e.on ≠ i) → oi.apart ops ok = true := fun k ok hk hki hunk hno => by
        refine hfree k ok hk hki ?_ hno
        by_cases hjk : j = k
        · subst hjk; exact hjun
        · rw [getD_set_ne true hjk] at hunk; exact hunk
      refine wpOp_mono (fun a' w' h3 => ⟨h3.2.1, ih (listed.setIfInBounds j true) a' w' hfree' (ready_mono hr (Ne.symm hji)) h3.1 h3.2.1 ?_⟩) h2
      rw [Array.setIfInBounds_comm _ _ hji]
      exact h3.2.2
end

theorem wp_onNormal {P : Program} {o : Oper} {a : Act} {w : World} {K : Act → World → Prop} {K1 K2 : Act → World → Prop} (h : o.wp P a w K (onNormal K1)) : o.wp P a w K (onNormal K2) := by
  unfold Oper.wp at *
  generalize (execOp a.eval o).run P w = r at *
  cases r with
  | ok n w' =>
    cases n <;> simp only [Oper.upon] at h ⊢ <;> first | exact h | skip
  | halt x w' =>
    cases x <;> simp only [Oper.upon] at h ⊢
    case panic u => exact h.elim

def eqh (σ : Hp) : HP := fun h => h = σ

section
variable {P : Program} {fn : Func} {ρ σ : Hp} {Q : Value → HP} {k : List Item} {X : World → Hp → Act → World → Prop} {env : Env} {Hs : List HP} {ops : Array Oper} {l : List Oper}
variable {n fuel : Nat} {listed : Array Bool}

def stays (ρ σ : Hp) : World → Prop := fun w => ∀ b o, join ρ σ b = some o → w.heap[b]? = some o
/-- the region from the operations that have come up on; 'σ': what nobody in it turns -/
def WD (P : Program) (fn : Func) (ρ σ : Hp) (X : World → Hp → Act → World → Prop) (ops : Array Oper) (n fuel : Nat) (listed : Array Bool) (env : Env) (Hs : List HP) : Prop :=
  ∀ w0 h0 w h a, St ρ w0 h0 w h → sepl (eqh σ :: Hs) h → EnvOK fn.ntmps env a → wpAnyT P .any ops (onNormal fun a w => X w0 h0 a w) (stays ρ σ) n fuel listed a w

theorem stays_of {w0 : World} {h0 : Hp} {w : World} {h : Hp} (s : St ρ w0 h0 w h) (p : sepl (eqh σ :: Hs) h) : stays ρ σ w := by
  obtain ⟨x, y, hx, _, dd, rfl⟩ := p
  have : x = σ := hx
  subst this
  intro b o hb
  rcases join_some hb with h | h
  · exact s.ro b o h
  · exact s.own b o (join_left h)

def takeX (P : Program) (fn : Func) (ρ σ : Hp) (X : World → Hp → Act → World → Prop) (ops : Array Oper) (n fuel : Nat) (listed : Array Bool) (Hs : List HP) : World → Hp → Act → World → Prop :=
  fun w0 h0 a w => ∀ h, St ρ w0 h0 w h → sepl (eqh σ :: Hs) h → wpAnyT P .any ops (onNormal fun a w => X w0 h0 a w) (stays ρ σ) n fuel listed a w
def opX (P : Program) (ρ σ : Hp) (X : World → Hp → Act → World → Prop) (ops : Array Oper) (n fuel : Nat) (listed : Array Bool) : World → Hp → Act → World → Prop :=
  fun w0 h0 a w => stays ρ σ w ∧ wpAnyT P .any ops (onNormal fun a w => X w0 h0 a w) (stays ρ σ) n fuel listed a w

theorem WD.take (i : Nat) {o : Oper} (hi : ops[i]? = some o) (hB : (decide (i < n) && sinkD .any ops n && Region.noSelect ops && Region.free .any ops listed i && (Region.ready .any ops listed).contains i) = true)
    (h : WL true P fn (join ρ σ) (takeX P fn ρ σ X ops n fuel (listed.setIfInBounds i true) Hs) ops [o] env Hs) : WD P fn ρ σ X ops n (fuel + 1) listed env Hs := by
  simp only [Bool.and_eq_true, decide_eq_true_eq] at hB
  obtain ⟨⟨⟨⟨hin, hsk⟩, hsel⟩, hf⟩, hr⟩ := hB
  intro w0 h0 w hh a s p e
  obtain ⟨v, hv, hrest⟩ := h a e
  have hS := stays_of s p
  exact wpAnyT_first hi hin hsk (Region.noSelect_spec hsel) (fun c a w h => h.elim) fuel listed a w (Region.free_spec hi hf) (by simpa using hr) (hv.imp (fun ⟨h1, h2⟩ => ⟨h1, fun w hw => h2 w hw⟩) id) hS (hrest w0 h0 w hh s p)
theorem WL.nilT (h : WD P fn ρ σ X ops n fuel listed env Hs) : WL true P fn (join ρ σ) (takeX P fn ρ σ X ops n fuel listed Hs) ops [] env Hs :=
  fun a e w0 h0 w hh s p => h w0 h0 w hh a s p e

/-- whichever of those that may come up comes up -/
theorem WD.all (rs : List Nat) (hd : headDone n listed = false) (hr : Region.ready .any ops listed = rs) (hne : rs.isEmpty = false)
    (h : ∀ i ∈ rs, ∃ o, ops[i]? = some o ∧ WL false P fn ρ (opX P ρ σ X ops n fuel (listed.setIfInBounds i true)) ops [o] env (eqh σ :: Hs)) : WD P fn ρ σ X ops n (fuel + 1) listed env Hs := by
  intro w0 h0 w hh a s p e
  unfold wpAnyT
  rw [if_neg (by rw [hd]; decide)]
  refine ⟨fun h0 => (by rw [hr] at h0; rw [h0] at hne; cases hne), fun i hi => ?_⟩
  obtain ⟨o, ho, hw⟩ := h i (hr ▸ hi)
  have hl := hw w0 h0 w hh a s p e
  unfold wpOp
  simp only [ho]
  unfold wpList at hl
  split
  · rename_i hwant
    rw [if_pos hwant] at hl
    rcases hl with hl | ⟨_, _, _, hx⟩
    · exact .inl (wp_onNormal hl)
    · exact hx.elim
  · rename_i hwant
    rw [if_neg hwant] at hl
    exact hl
theorem WD.one (i : Nat) {o : Oper} (hi : ops[i]? = some o) (hB : (!headDone n listed && decide (Region.ready .any ops listed = [i])) = true)
    (h : WL false P fn ρ (opX P ρ σ X ops n fuel (listed.setIfInBounds i true)) ops [o] env (eqh σ :: Hs)) : WD P fn ρ σ X ops n (fuel + 1) listed env Hs := by
  simp only [Bool.and_eq_true, decide_eq_true_eq, Bool.not_eq_true'] at hB
  exact WD.all [i] hB.1 hB.2 rfl (fun j hj => by
    have : j = i := by simpa using hj
    subst this
    exact ⟨o, hi, h⟩)
theorem WD.two (i j : Nat) {o q : Oper} (hi : ops[i]? = some o) (hj : ops[j]? = some q) (hB : (!headDone n listed && decide (Region.ready .any ops listed = [i, j])) = true)
    (h : WL false P fn ρ (opX P ρ σ X ops n fuel (listed.setIfInBounds i true)) ops [o] env (eqh σ :: Hs))
    (h' : WL false P fn ρ (opX P ρ σ X ops n fuel (listed.setIfInBounds j true)) ops [q] env (eqh σ :: Hs)) : WD P fn ρ σ X ops n (fuel + 1) listed env Hs := by
  simp only [Bool.and_eq_true, decide_eq_true_eq, Bool.not_eq_true'] at hB
  exact WD.all [i, j] hB.1 hB.2 rfl (fun m hm => by
    simp only [List.mem_cons, List.not_mem_nil, or_false] at hm
    rcases hm with rfl | rfl
    · exact ⟨o, hi, h⟩
    · exact ⟨q, hj, h'⟩)
theorem WL.nilO {H2 : List HP} (hH : ∀ h, sepl Hs h → sepl (eqh σ :: H2) h) (h : WD P fn ρ σ X ops n fuel listed env H2) : WL false P fn ρ (opX P ρ σ X ops n fuel listed) ops [] env Hs :=
  fun w0 h0 w hh a s p e => ⟨stays_of s (hH _ p), h w0 h0 w hh a s (hH _ p) e⟩

/-- all that stands ahead of the last has come up -/
theorem WD.last {H0 : List HP} (hσ : sepl H0 σ) (hB : (headDone n listed && Region.seqB .any ops fuel n listed) = true) (hl : l = ops.toList.drop n) (hfu : l.length = fuel)
    (h : WL false P fn ρ X ops l env (H0 ++ Hs)) : WD P fn ρ σ X ops n fuel listed env Hs := by
  simp only [Bool.and_eq_true] at hB
  intro w0 h0 w hh a s p e
  have p' : sepl (H0 ++ Hs) hh := by
    obtain ⟨x, y, hx, hy, dd, rfl⟩ := p
    have : x = σ := hx
    subst this
    exact sepl_append.2 ⟨x, y, hσ, hy, dd, rfl⟩
  have hw := h w0 h0 w hh a s p' e
  have hany := wpAny_of_seq (md := .any) (P := P) (ops := ops) l n listed a w (fun j => by subst hl; simp [List.getElem?_drop]) (by rw [hfu]; exact hB.2) hw
  rw [hfu] at hany
  cases fuel with
  | zero => exact hany
  | succ f =>
    unfold wpAnyT
    rw [if_pos hB.1]
    exact hany

/-- a region whose order is open: 'H0' the parts that nobody in it turns -/
theorem W.draw (n : Nat) (H0 H1 : List HP) {id : Nat} {l : List Oper} (hm : P.follows .mixedOrders = true) (hH : ∀ h, sepl Hs h → sepl (H0 ++ H1) h)
    (h : ∀ σ, sepl H0 σ → Dj ρ σ → WD P fn ρ σ (runK P fn ρ Q k) l.toArray n l.length (Array.replicate l.length false) env H1) : W P fn ρ Q (.code (.region id l.toArray true) :: k) env Hs := by
  intro w0 h0 w hh a s p e
  refine .of_wp (K := fun a w => Run P fn k (Post ρ w0 h0 Q) a w) (wp_region_any hm (wpAny_of_T (n := n) (S := fun _ => True) _ _ _ _ ?_)) fun _ _ x => x
  obtain ⟨x, y, hx, hy, dd, rfl⟩ := sepl_append.1 (hH _ p)
  have key := h x hx (dj_join_right.1 s.dj).1 w0 h0 w.drew _ a s.draw ⟨x, y, rfl, hy, dd, rfl⟩ e
  have weaken : ∀ fuel listed a w, wpAnyT P .any l.toArray (onNormal fun a w => runK P fn ρ Q k w0 h0 a w) (stays ρ x) n fuel listed a w → wpAnyT P .any l.toArray (onNormal fun a w => Run P fn k (Post ρ w0 h0 Q) a w) (fun _ => True) n fuel listed a w := by
    intro fuel
    induction fuel with
    | zero => exact fun _ _ _ h => h
    | succ f ih =>
      intro listed a w h
      unfold wpAnyT at h ⊢
      split
      · rename_i hd; rw [if_pos hd] at h; exact h
      · rename_i hd; rw [if_neg hd] at h; exact ⟨h.1, fun i hi => wpOp_mono (fun a' w' h' => ⟨trivial, ih _ _ _ h'.2⟩) (h.2 i hi)⟩
  have := weaken _ _ _ _ key
  simpa using this
end
end Go.Proofs.YtdpnpipninggeaaGreatDoor
