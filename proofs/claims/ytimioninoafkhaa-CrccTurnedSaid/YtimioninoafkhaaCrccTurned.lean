/- CrccTurned. -/
import Derived.Test.YtimioninoafkhaaArr
import Derived.Test.YtimioninoafkhaaNum
import Derived.Test.YtimioninoafkhaaTab
import Derived.Test.YtimioninoafkhaaCrccAwake
import Derived.Test.YtimioninoafkhaaCrccLinear
import Derived.Test.YtimioninoafkhaaCrccTurnLaw
set_option linter.unusedSimpArgs false
set_option linter.unusedVariables false
set_option maxRecDepth 20000
set_option maxHeartbeats 8000000
namespace Go.Proofs.Ytimioninoafkhaa
open Go
attribute [local irreducible] W WL Fn Buf ROs SL eptr box Rd Src bndOK WD RB Reads

section
variable {P : Program} {T : Tab P} {fn : Func} {ρ σ : Hp} {md : Bool} {X : World → Hp → Act → World → Prop} {env : Env} {Hs : List HP} {ops : Array Oper} {l : List Oper}
variable {d : Tmp} {ty : TypeId} {pos : String} {aft : Array Edge}
theorem WL.eqBT {x y : Operand} {t t' : TypeId} {p q : Bool} {z : Value} {a b : Nat} {c : Bool} (hn : Nat.ble (d + 1) fn.ntmps = true) (hx : ev env x = some (.bool p)) (hy : ev env y = some (.bool q))
    (ht : T.tt t = some ⟨.bool, a, b, z, c⟩) (hpq : p = q)
    (h : WL md P fn ρ X ops l ((d, .bool true) :: env) Hs) : WL md P fn ρ X ops (⟨some d, .binOp .eql t x y t', ty, pos, aft, none⟩ :: l) env Hs :=
  .eqB (T := T) hn hx hy ht (by subst hpq; simpa using h)
end
theorem one_bit (q : Nat) (h : q < 8) : IntKind.u8.wrap (1 * 2 ^ min ((q : Int)).toNat IntKind.u8.bits) = ((2 ^ q : Nat) : Int) ∧ 2 ^ q < 256 ∧ 2 ^ q ≠ 0 := by
  rcases (by omega : q = 0 ∨ q = 1 ∨ q = 2 ∨ q = 3 ∨ q = 4 ∨ q = 5 ∨ q = 6 ∨ q = 7) with rfl | rfl | rfl | rfl | rfl | rfl | rfl | rfl <;> decide
theorem byte_of (t : Int) (i : Nat) (h : i ≤ 3) : IntKind.u8.wrap (t / 2 ^ min ((8 * (i : Int)).toNat) IntKind.i64.bits) = ((byteAt t i : Nat) : Int) := by
  have e : (8 * (i : Int)).toNat = 8 * i := by omega
  have e2 : min (8 * i) IntKind.i64.bits = 8 * i := by simp [IntKind.bits]; omega
  rw [e, e2]
  unfold byteAt
  have h0 := Int.emod_nonneg (t / 2 ^ (8 * i)) (b := 256) (by decide)
  rw [Int.toNat_of_nonneg h0]
  simp [IntKind.wrap, IntKind.bits, IntKind.signed]

theorem CrccTurned_fn (ρ : Hp) (v0 : Value) (z0 : List Int) (r0 : ROs ρ 1 v0 (z0.map (Value.int .u8))) (m0 : ∀ n ∈ z0, (Lit.int .u8 n).wf = true) (y0 : z0.length * 1 ≤ 140737488351232) (a1 : Int) (w1 : (Lit.int .i64 a1).wf = true) (a2 : Int) (w2 : (Lit.int .i64 a2).wf = true) :
    Fn Try.prog 6 #[v0, .int .i64 a1, .int .i64 a2] ρ [] (fun r _ => r = .bool true) := by
  obtain ⟨bs, hbs, hlen, hlt⟩ := bytes_of m0
  rw [hbs] at r0
  refine in6 rfl rfl ?_
  have hs0 : SL v0 bs.length := r0.sl (by simp) (by omega)
  by_cases hbig : 300 < bs.length ∨ bs.length = 0
  · rcases hbig with hbig | hbig
    all_goals
      first
        | (refine W.seq ?_; refine W.region ?_; refine WL.as rfl rfl ?_; refine WL.nil ?_; refine W.seq ?_; refine W.seq ?_; refine W.region ?_; refine WL.mv rfl rfl ?_; refine WL.len (T := Ty) rfl rfl (by assumption) rfl ?_; refine WL.gtr rfl rfl rfl ?_; refine WL.mv rfl rfl ?_; refine WL.gF rfl rfl (by omega) ?_; refine WL.mv rfl rfl ?_; refine WL.gF rfl rfl (by omega) ?_; refine WL.len (T := Ty) rfl rfl (by assumption) rfl ?_; refine WL.gF rfl rfl (by omega) ?_; refine WL.eql rfl rfl rfl ?_; refine WL.pickFp rfl rfl (by omega) rfl ?_; refine WL.nil ?_; refine W.condpT rfl (by omega) ?_; refine W.seq ?_; refine W.region ?_)
        | (refine W.seq ?_; refine W.region ?_; refine WL.as rfl rfl ?_; refine WL.nil ?_; refine W.seq ?_; refine W.seq ?_; refine W.region ?_; refine WL.mv rfl rfl ?_; refine WL.len (T := Ty) rfl rfl (by assumption) rfl ?_; refine WL.gtr rfl rfl rfl ?_; refine WL.mv rfl rfl ?_; refine WL.gdFn rfl rfl rfl rfl rfl (by omega) ?_; refine WL.gdFn rfl rfl rfl rfl rfl (by omega) ?_; refine WL.gdFn rfl rfl rfl rfl rfl (by omega) ?_; refine WL.pickTp rfl rfl (by omega) rfl ?_; refine WL.nil ?_; refine W.condT rfl ?_; refine W.seq ?_; refine W.region ?_)
      refine WL.callT rfl rfl (fun x p d => awake3_c _) ?_
      refine WL.as rfl rfl ?_
      refine WL.nil ?_
      exact W.ret1 rfl rfl (fun h p => rfl)
  · have hb1 : bs.length ≤ 300 := by omega
    have hb2 : 0 < bs.length := by omega
    obtain ⟨k, hk, hkl⟩ : ∃ k : Nat, a1 % (65535 + 1) % (8 * (bs.length : Int)) = (k : Int) ∧ k < 8 * bs.length := by
      have h1 := Int.emod_nonneg (a1 % (65535 + 1)) (b := 8 * (bs.length : Int)) (by omega)
      have h2 := Int.emod_lt_of_pos (a1 % (65535 + 1)) (b := 8 * (bs.length : Int)) (by omega)
      exact ⟨(a1 % (65535 + 1) % (8 * (bs.length : Int))).toNat, by omega, by omega⟩
    obtain ⟨p, hp, hpl⟩ : ∃ p : Nat, p = k / 8 ∧ p < bs.length := ⟨k / 8, rfl, by omega⟩
    obtain ⟨w, hw⟩ : ∃ w, bs[p]? = some w := ⟨_, List.getElem?_eq_getElem hpl⟩
    have hw8 := hlt w (List.mem_of_getElem? hw)
    obtain ⟨hbit, hbit8, hbit0⟩ := one_bit (k % 8) (by omega)
    refine W.seq ?_
    refine W.region ?_
    refine WL.as rfl rfl ?_
    refine WL.nil ?_
    refine W.seq ?_
    refine W.seq ?_
    refine W.region ?_
    refine WL.mv rfl rfl ?_
    refine WL.len (T := Ty) rfl rfl (by assumption) rfl ?_
    refine WL.gtr rfl rfl rfl ?_
    refine WL.mv rfl rfl ?_
    refine WL.gF rfl rfl (by omega) ?_
    refine WL.mv rfl rfl ?_
    refine WL.gF rfl rfl (by omega) ?_
    refine WL.len (T := Ty) rfl rfl (by assumption) rfl ?_
    refine WL.gF rfl rfl (by omega) ?_
    refine WL.eql rfl rfl rfl ?_
    refine WL.pickFp rfl rfl (by omega) rfl ?_
    refine WL.nil ?_
    refine W.condpF rfl (by omega) ?_
    refine W.skip ?_
    refine W.seq ?_
    refine W.region ?_
    refine WL.callT (v := AG tblL) rfl rfl (fun x p d => table_c _) ?_
    refine WL.alX (T := Ty) (cs := (List.replicate 256 0).map ucell) rfl rfl (by simp [Value.cells, ucell]) (fun b => ?_)
    refine WL.stW (T := Ty) (j := 0) (cs := tblL.map ucell) rfl rfl rfl (by rw [tbl_len]; rfl) (one_ucell _) rfl (by rw [tbl_len, zero_len]) (by repeat' first | exact FL.nil | apply FL.cons) ?_
    refine WL.nil ?_
    refine W.seq ?_
    refine W.region ?_
    refine WL.mv rfl rfl ?_
    refine WL.andI rfl rfl rfl (by decide) ?_
    refine WL.mv rfl rfl ?_
    refine WL.len (T := Ty) rfl rfl (by assumption) rfl ?_
    refine WL.mulK rfl rfl rfl (wrap_i64 ⟨by omega, by omega⟩) ?_
    refine WL.remI rfl rfl rfl (by omega) (by omega) ?_
    refine WL.as rfl rfl ?_
    refine WL.nil ?_
    refine W.seq ?_
    refine W.region ?_
    refine WL.bs (T := Ty) rfl rfl rfl rfl rfl rfl rfl rfl (by repeat' first | exact FL.nil | apply FL.cons) (fun _ _ => ?_)
    refine WL.mv rfl rfl ?_
    rw [hk]
    refine WL.ap (T := Ty) (i := 0) (n := 0) rfl rfl rfl rfl rfl rfl rfl rfl (.ro r0) hs0 rfl (by simp) (one_bcell bs) (by show (0 + _) * 1 ≤ _; omega) (by unfold maxLen; omega) (fun v' => by repeat' first | exact FL.nil | apply FL.cons) (fun x hsx => ?_)
    rw [Nat.zero_add] at hsx
    refine WL.as rfl rfl ?_
    refine WL.nil ?_
    refine W.seq ?_
    refine W.region ?_
    refine WL.mv rfl rfl ?_
    refine WL.mv rfl rfl ?_
    refine WL.quoI rfl rfl rfl (by omega) (by omega) (by omega) ?_
    refine WL.mv rfl rfl ?_
    refine WL.mv rfl rfl ?_
    refine WL.quoI rfl rfl rfl (by omega) (by omega) (by omega) ?_
    refine WL.ix (T := Ty) rfl rfl rfl (by assumption) rfl rfl (by omega) (by omega) ?_
    refine WL.ldE (T := Ty) (j := 0) (v := bcell w) rfl rfl rfl rfl rfl (by rw [show ((k : Int) / 8).toNat * 1 = p by omega]; simp [hw]) ?_
    unfold bcell
    refine WL.mv rfl rfl ?_
    refine WL.andI rfl rfl rfl (by decide) ?_
    refine WL.cvK (T := Ty) rfl rfl rfl rfl (wrap_u64 ⟨by omega, by omega⟩) ?_
    refine WL.shlS rfl rfl rfl (by omega) rfl rfl ?_
    refine WL.xor rfl rfl rfl ?_
    refine WL.ix (T := Ty) rfl rfl rfl (by assumption) rfl rfl (by omega) (by omega) ?_
    have hts := turn_set bs p [] w (2 ^ (k % 8)) (by simpa using hw)
    rw [turn_nil] at hts
    simp only [List.length_nil, Nat.add_zero, List.nil_append] at hts
    refine WL.stEF (T := Ty) (j := 0) (cs' := (turnF bs p [2 ^ (k % 8)]).map bcell) rfl rfl rfl rfl rfl rfl (by simp; omega) (by
      rw [show ((k : Int) / 8).toNat * 1 = p by omega, show (k : Int) % (7 + 1) = ((k % 8 : Nat) : Int) by omega, hbit, xor_u8 _ _ hw8 hbit8, ← hts, List.map_set]
      rfl) (by repeat' first | exact FL.nil | apply FL.cons) ?_
    refine WL.nil ?_
    refine W.seq ?_
    refine W.region ?_
    refine WL.bs (T := Ty) rfl rfl rfl rfl rfl rfl rfl rfl (by repeat' first | exact FL.nil | apply FL.cons) (fun _ _ => ?_)
    refine WL.mv rfl rfl ?_
    refine WL.ap (T := Ty) (i := 0) (n := 0) rfl rfl rfl rfl rfl rfl rfl rfl (.ro r0) hs0 rfl (by simp) (one_bcell bs) (by show (0 + _) * 1 ≤ _; omega) (by unfold maxLen; omega) (fun v' => by repeat' first | exact FL.nil | apply FL.cons) (fun y hsy => ?_)
    rw [Nat.zero_add] at hsy
    refine WL.as rfl rfl ?_
    refine WL.nil ?_
    refine W.seq ?_
    refine W.region ?_
    refine WL.as rfl rfl ?_
    refine WL.nil ?_
    refine W.seq ?_
    refine W.seq ?_
    refine W.region ?_
    refine WL.as rfl rfl ?_
    refine WL.nil ?_
    refine W.block ?_
    refine W.loopS (σ := Nat × Bool) (fun s => [(0, v0), (2, .int .i64 a2), (7, .pointer (some ⟨b, 0, none⟩)), (8, .int .i64 (k : Int)), (9, x), (10, y), (11, .bool s.2), (12, .int .i64 (s.1 : Int))])
      (fun s => [Buf 1 y ((turnF bs p (bytesTo a2 s.1)).map bcell), Buf 1 x ((turnF bs p [2 ^ (k % 8)]).map bcell), box b (tblL.map ucell) 26])
      (fun s => s.1 ≤ 4 ∧ p + s.1 ≤ bs.length ∧ (s.2 = true ↔ ∃ c ∈ bytesTo a2 s.1, c ≠ 0)) (fun s => 4 - s.1) (0, false) ⟨rfl, rfl, rfl, rfl, rfl, rfl, rfl, rfl, trivial⟩ (by simp [bytesTo, turn_nil]) ⟨by simp, by simp; omega, by simp [bytesTo]⟩ ?_
    rintro ⟨i, f⟩ ⟨h1, h2, h3⟩ next
    simp only [] at h1 h2 h3 next ⊢
    by_cases hgo : i < 4 ∧ p + i < bs.length
    · obtain ⟨h4, hpi⟩ := hgo
      obtain ⟨u, hu⟩ : ∃ u, bs[p + i]? = some u := ⟨_, List.getElem?_eq_getElem hpi⟩
      have hu8 := hlt u (List.mem_of_getElem? hu)
      have hby := byte_of a2 i (by omega)
      have hby8 := byteAt_lt a2 i
      have hg := turn_get bs p (bytesTo a2 i) u (by rw [bytesTo_len]; exact hu)
      have hts2 := turn_set bs p (bytesTo a2 i) u (byteAt a2 i) (by rw [bytesTo_len]; exact hu)
      rw [bytesTo_len] at hg hts2
      rw [← bytesTo_succ] at hts2
      refine W.seq ?_
      refine W.seq ?_
      refine W.region ?_
      refine WL.mv rfl rfl ?_
      refine WL.lss rfl rfl rfl ?_
      refine WL.mv rfl rfl ?_
      refine WL.gT rfl rfl (by omega) ?_
      refine WL.mv rfl rfl ?_
      refine WL.gT rfl rfl (by omega) ?_
      refine WL.quoI rfl rfl rfl (by omega) (by omega) (by omega) ?_
      refine WL.gT rfl rfl (by omega) ?_
      refine WL.mv rfl rfl ?_
      refine WL.gT rfl rfl (by omega) ?_
      refine WL.addK rfl rfl rfl (wrap_i64 ⟨by omega, by omega⟩) ?_
      refine WL.gT rfl rfl (by omega) ?_
      refine WL.mv rfl rfl ?_
      refine WL.gT rfl rfl (by omega) ?_
      refine WL.len (T := Ty) rfl rfl (by assumption) rfl ?_
      refine WL.gT rfl rfl (by omega) ?_
      refine WL.lss rfl rfl rfl ?_
      refine WL.pickTp rfl rfl (by omega) rfl ?_
      refine WL.nil ?_
      refine W.condpT rfl (by omega) ?_
      refine W.skip ?_
      refine W.seq ?_
      refine W.block ?_
      refine W.seq ?_
      refine W.region ?_
      refine WL.mv rfl rfl ?_
      refine WL.mv rfl rfl ?_
      refine WL.mulK rfl rfl rfl (wrap_i64 ⟨by omega, by omega⟩) ?_
      refine WL.cvK (T := Ty) rfl rfl rfl rfl (wrap_u64 ⟨by omega, by omega⟩) ?_
      refine WL.shrS rfl rfl rfl (by omega) rfl ?_
      refine WL.cv (T := Ty) rfl rfl rfl rfl ?_
      refine WL.as rfl rfl ?_
      refine WL.nil ?_
      refine W.seq ?_
      refine W.region ?_
      refine WL.mv rfl rfl ?_
      refine WL.mv rfl rfl ?_
      refine WL.quoI rfl rfl rfl (by omega) (by omega) (by omega) ?_
      refine WL.mv rfl rfl ?_
      refine WL.addK rfl rfl rfl (wrap_i64 ⟨by omega, by omega⟩) ?_
      refine WL.mv rfl rfl ?_
      refine WL.mv rfl rfl ?_
      refine WL.quoI rfl rfl rfl (by omega) (by omega) (by omega) ?_
      refine WL.mv rfl rfl ?_
      refine WL.addK rfl rfl rfl (wrap_i64 ⟨by omega, by omega⟩) ?_
      refine WL.ix (T := Ty) rfl rfl rfl (by assumption) rfl rfl (by omega) (by omega) ?_
      refine WL.ldE (T := Ty) (j := 0) (v := bcell u) rfl rfl rfl rfl rfl (by rw [show ((k : Int) / 8 + (i : Int)).toNat * 1 = p + i by omega]; simp [hg]) ?_
      unfold bcell
      refine WL.mv rfl rfl ?_
      refine WL.xor rfl rfl rfl ?_
      refine WL.ix (T := Ty) rfl rfl rfl (by assumption) rfl rfl (by omega) (by omega) ?_
      refine WL.stEF (T := Ty) (j := 0) (cs' := (turnF bs p (bytesTo a2 (i + 1))).map bcell) rfl rfl rfl rfl rfl rfl (by rw [List.length_map, turn_len _ _ _ (by rw [bytesTo_len]; omega)]; omega) (by
        rw [show ((k : Int) / 8 + (i : Int)).toNat * 1 = p + i by omega, hby, xor_u8 _ _ hu8 hby8, ← hts2, List.map_set]
        rfl) (by repeat' first | exact FL.nil | apply FL.cons) ?_
      cases f
      · refine WL.nil ?_
        refine W.region ?_
        refine WL.mv rfl rfl ?_
        refine WL.mv rfl rfl ?_
        refine WL.gY rfl rfl ?_
        refine WL.mv rfl rfl ?_
        refine WL.gY rfl rfl ?_
        refine WL.neq rfl rfl rfl ?_
        refine WL.pickF rfl rfl rfl ?_
        refine WL.as rfl rfl ?_
        refine WL.nil ?_
        refine W.inBlock ?_
        refine W.region ?_
        refine WL.mv rfl rfl ?_
        refine WL.addK rfl rfl rfl (wrap_i64 ⟨by omega, by omega⟩) ?_
        refine WL.as rfl rfl ?_
        refine WL.nil ?_
        rw [hby]
        refine W.sub ?_ (next ⟨i + 1, decide (¬ ((byteAt a2 i : Nat) : Int) = 0)⟩ ⟨by simp; omega, by simp; omega, ?_⟩ (by simp; omega))
        · exact ⟨rfl, rfl, rfl, rfl, rfl, rfl, rfl, rfl, trivial⟩
        · rw [bytesTo_succ]
          have h0 : ∀ c ∈ bytesTo a2 i, c = 0 := fun c hc => by
            cases Nat.eq_zero_or_pos c with
            | inl h => exact h
            | inr h => exact absurd (h3.2 ⟨c, hc, by omega⟩) (by decide)
          constructor
          · intro hh
            exact ⟨byteAt a2 i, by simp, fun e => by simp [e] at hh⟩
          · rintro ⟨c, hc, hc0⟩
            rcases List.mem_append.1 hc with hc | hc
            · exact absurd (h0 c hc) hc0
            · simp at hc
              subst hc
              simp
              omega
      · refine WL.nil ?_
        refine W.region ?_
        refine WL.mv rfl rfl ?_
        refine WL.mv rfl rfl ?_
        refine WL.gdN rfl rfl rfl rfl rfl rfl ?_
        refine WL.gdN rfl rfl rfl rfl rfl rfl ?_
        refine WL.pickT rfl rfl rfl ?_
        refine WL.as rfl rfl ?_
        refine WL.nil ?_
        refine W.inBlock ?_
        refine W.region ?_
        refine WL.mv rfl rfl ?_
        refine WL.addK rfl rfl rfl (wrap_i64 ⟨by omega, by omega⟩) ?_
        refine WL.as rfl rfl ?_
        refine WL.nil ?_
        refine W.sub ?_ (next ⟨i + 1, true⟩ ⟨by simp; omega, by simp; omega, ?_⟩ (by simp; omega))
        · exact ⟨rfl, rfl, rfl, rfl, rfl, rfl, rfl, rfl, trivial⟩
        · obtain ⟨c, hc, hc0⟩ := h3.1 rfl
          rw [bytesTo_succ]
          exact ⟨fun _ => ⟨c, by simp [hc], hc0⟩, fun _ => rfl⟩
    · have hyl : (turnF bs p (bytesTo a2 i)).length = bs.length := turn_len _ _ _ (by rw [bytesTo_len]; omega)
      have hy := sum_turn bs p (bytesTo a2 i) (by rw [bytesTo_len]; omega) (by rw [bytesTo_len]; omega) hlt (bytesTo_lt a2 i)
      have hx := sum_turn bs p [2 ^ (k % 8)] (by simp; omega) (by simp) hlt (by simp; exact hbit8)
      have hcase : i = 4 ∨ (i < 4 ∧ p + i = bs.length) := by omega
      have hxne : sumR (turnF bs p [2 ^ (k % 8)]) ≠ sumR bs := fun e => hbit0 (hx.1 e _ (by simp))
      have hx8 := turn_lt bs p [2 ^ (k % 8)] hlt (by simp; exact hbit8)
      have hy8 := turn_lt bs p (bytesTo a2 i) hlt (bytesTo_lt a2 i)
      have hxl : (turnF bs p [2 ^ (k % 8)]).length = bs.length := turn_len _ _ _ (by simp; omega)
      have hyf : sumR (turnF bs p (bytesTo a2 i)) = sumR bs ↔ f = false := by
        rw [hy]
        cases f with
        | false =>
          refine ⟨fun _ => rfl, fun _ c hc => ?_⟩
          cases Nat.eq_zero_or_pos c with
          | inl h => exact h
          | inr h => exact absurd (h3.2 ⟨c, hc, by omega⟩) (by decide)
        | true =>
          obtain ⟨c, hc, hc0⟩ := h3.1 rfl
          exact ⟨fun h => absurd (h c hc) hc0, fun h => by cases h⟩
      generalize turnF bs p (bytesTo a2 i) = Y at hyl hy hyf hy8
      generalize turnF bs p [2 ^ (k % 8)] = X at hx hxne hx8 hxl hts
      rcases hcase with hc | ⟨hc, hc'⟩
      all_goals
        first
          | (refine W.seq ?_; refine W.seq ?_; refine W.region ?_; refine WL.mv rfl rfl ?_; refine WL.lss rfl rfl rfl ?_; refine WL.mv rfl rfl ?_; refine WL.gT rfl rfl (by omega) ?_; refine WL.mv rfl rfl ?_; refine WL.gT rfl rfl (by omega) ?_; refine WL.quoI rfl rfl rfl (by omega) (by omega) (by omega) ?_; refine WL.gT rfl rfl (by omega) ?_; refine WL.mv rfl rfl ?_; refine WL.gT rfl rfl (by omega) ?_; refine WL.addK rfl rfl rfl (wrap_i64 ⟨by omega, by omega⟩) ?_; refine WL.gT rfl rfl (by omega) ?_; refine WL.mv rfl rfl ?_; refine WL.gT rfl rfl (by omega) ?_; refine WL.len (T := Ty) rfl rfl (by assumption) rfl ?_; refine WL.gT rfl rfl (by omega) ?_; refine WL.lss rfl rfl rfl ?_; refine WL.pickTp rfl rfl (by omega) rfl ?_; refine WL.nil ?_; refine W.condpF rfl (by omega) ?_; refine W.exit rfl ?_; refine W.seq ?_)
          | (refine W.seq ?_; refine W.seq ?_; refine W.region ?_; refine WL.mv rfl rfl ?_; refine WL.lss rfl rfl rfl ?_; refine WL.mv rfl rfl ?_; refine WL.gdTn rfl rfl rfl rfl rfl (by omega) ?_; refine WL.gdTn rfl rfl rfl rfl rfl (by omega) ?_; refine WL.gdTn rfl rfl rfl rfl rfl (by omega) ?_; refine WL.gdTn rfl rfl rfl rfl rfl (by omega) ?_; refine WL.gdTn rfl rfl rfl rfl rfl (by omega) ?_; refine WL.gdTn rfl rfl rfl rfl rfl (by omega) ?_; refine WL.gdTn rfl rfl rfl rfl rfl (by omega) ?_; refine WL.pickFp rfl rfl (by omega) rfl ?_; refine WL.nil ?_; refine W.condF rfl ?_; refine W.exit rfl ?_; refine W.seq ?_)
        refine W.draw 23 [Buf 1 y (Y.map bcell), Buf 1 x (X.map bcell), box b (tblL.map ucell) 26] [] rfl (fun h p => p) (fun σ hσ dσ => ?_)
        have ry := ros_at (ρ := ρ) 0 rfl hσ dσ
        have rx := ros_at (ρ := ρ) 1 rfl hσ dσ
        have rb := rb_at (ρ := ρ) 2 rfl hσ dσ
        refine WD.takeL 0 rfl (by decide +kernel) ?_
        refine WL.ldWB (T := Ty) rfl rfl rfl rfl rb (by rw [tbl_len]; rfl) ?_
        refine WL.nilT ?_
        refine WD.takeL 1 rfl (by decide +kernel) ?_
        refine WL.mv rfl rfl ?_
        refine WL.nilT ?_
        refine WD.takeL 3 rfl (by decide +kernel) ?_
        refine WL.ldWB (T := Ty) rfl rfl rfl rfl rb (by rw [tbl_len]; rfl) ?_
        refine WL.nilT ?_
        refine WD.takeL 4 rfl (by decide +kernel) ?_
        refine WL.mv rfl rfl ?_
        refine WL.nilT ?_
        refine WD.oneL 2 rfl (by decide +kernel) ?_
        skip
        refine WL.callT (v := .int .u32 (sumR X : Int)) rfl rfl (fun u p d => sumL_c _ x X (rx.mono (eqh_at 0 rfl p d)) hx8 (by omega)) ?_
        refine WL.nilE ?_
        refine WD.oneL 5 rfl (by decide +kernel) ?_
        skip
        refine WL.callT (v := .int .u32 (sumR bs : Int)) rfl rfl (fun u p d => sumL_c _ v0 bs r0.wide hlt (by omega)) ?_
        refine WL.nilE ?_
        refine WD.takeL 6 rfl (by decide +kernel) ?_
        refine WL.neq rfl rfl rfl ?_
        refine WL.nilT ?_
        refine WD.takeL 7 rfl (by decide +kernel) ?_
        refine WL.mv rfl rfl ?_
        refine WL.nilT ?_
        refine WD.takeL 8 rfl (by decide +kernel) ?_
        refine WL.gT rfl rfl (by omega) ?_
        refine WL.ldWB (T := Ty) rfl rfl rfl rfl rb (by rw [tbl_len]; rfl) ?_
        refine WL.nilT ?_
        refine WD.takeL 9 rfl (by decide +kernel) ?_
        refine WL.gT rfl rfl (by omega) ?_
        refine WL.mv rfl rfl ?_
        refine WL.nilT ?_
        refine WD.takeL 11 rfl (by decide +kernel) ?_
        refine WL.gT rfl rfl (by omega) ?_
        refine WL.ldWB (T := Ty) rfl rfl rfl rfl rb (by rw [tbl_len]; rfl) ?_
        refine WL.nilT ?_
        refine WD.takeL 12 rfl (by decide +kernel) ?_
        refine WL.gT rfl rfl (by omega) ?_
        refine WL.mv rfl rfl ?_
        refine WL.nilT ?_
        refine WD.takeL 15 rfl (by decide +kernel) ?_
        refine WL.gT rfl rfl (by omega) ?_
        refine WL.mv rfl rfl ?_
        refine WL.nilT ?_
        refine WD.takeL 16 rfl (by decide +kernel) ?_
        refine WL.gT rfl rfl (by omega) ?_
        refine WL.not rfl rfl ?_
        refine WL.nilT ?_
        refine WD.oneL 10 rfl (by decide +kernel) ?_
        refine WL.gT rfl rfl (by omega) ?_
        refine WL.callT (v := .int .u32 (sumR Y : Int)) rfl rfl (fun u p d => sumL_c _ y Y (ry.mono (eqh_at 0 rfl p d)) hy8 (by omega)) ?_
        refine WL.nilE ?_
        refine WD.oneL 13 rfl (by decide +kernel) ?_
        refine WL.gT rfl rfl (by omega) ?_
        refine WL.callT (v := .int .u32 (sumR bs : Int)) rfl rfl (fun u p d => sumL_c _ v0 bs r0.wide hlt (by omega)) ?_
        refine WL.nilE ?_
        refine WD.takeL 14 rfl (by decide +kernel) ?_
        refine WL.gT rfl rfl (by omega) ?_
        refine WL.eql rfl rfl rfl ?_
        refine WL.nilT ?_
        refine WD.takeL 17 rfl (by decide +kernel) ?_
        refine WL.gT rfl rfl (by omega) ?_
        refine WL.eqB (T := Ty) rfl rfl rfl rfl ?_
        refine WL.nilT ?_
        refine WD.takeL 18 rfl (by decide +kernel) ?_
        refine WL.pickTp rfl rfl (by omega) rfl ?_
        refine WL.nilT ?_
        refine WD.takeL 19 rfl (by decide +kernel) ?_
        refine WL.mv rfl rfl ?_
        refine WL.nilT ?_
        have he : (decide (((sumR Y : Nat) : Int) = ((sumR bs : Nat) : Int)) == !f) = true := by
          cases f with
          | false => simp [hyf.2 rfl]
          | true =>
            have : sumR Y ≠ sumR bs := fun e => by have := hyf.1 e; cases this
            simp [Int.ofNat_inj, this]
        rw [he]
        skip
        refine WD.oneL 20 rfl (by decide +kernel) ?_
        refine WL.gY rfl rfl ?_
        refine WL.callT rfl rfl (fun x p d => awake3_c _) ?_
        refine WL.nilE ?_
        refine WD.takeL 21 rfl (by decide +kernel) ?_
        refine WL.pickT rfl rfl rfl ?_
        refine WL.nilT ?_
        refine WD.takeL 22 rfl (by decide +kernel) ?_
        refine WL.as rfl rfl ?_
        refine WL.nilT ?_
        refine WD.doneH hσ (by decide +kernel) ?_
        exact W.ret1 rfl rfl (fun h p => rfl)
end Go.Proofs.Ytimioninoafkhaa
