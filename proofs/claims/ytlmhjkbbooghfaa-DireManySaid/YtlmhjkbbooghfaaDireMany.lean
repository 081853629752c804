/- DireMany. -/
import Derived.Test.YtlmhjkbbooghfaaStc
import Derived.Test.YtlmhjkbbooghfaaNum
import Derived.Test.YtlmhjkbbooghfaaTab
import Derived.Test.YtlmhjkbbooghfaaDireAwake
import Derived.Test.YtlmhjkbbooghfaaClos
set_option linter.unusedSimpArgs false
set_option linter.unusedVariables false
set_option maxRecDepth 20000
set_option maxHeartbeats 4000000
namespace Go.Proofs.Ytlmhjkbbooghfaa
open Go
attribute [local irreducible] W WL Fn Buf ROs SL eptr box Rd Src bndOK WD RB Reads In dirC dirZ
theorem by_c (ρ : Hp) (b : Nat) (v0 : Value) (z0 : List Int) (hB : RB ρ b [v0] 22) (r0 : ROs ρ 1 v0 (z0.map (Value.int .i64))) (m0 : ∀ n ∈ z0, (Lit.int .i64 n).wf = true) (id : Nat) (hi : id < 16) :
    ∃ w : Int, (0 ≤ w ∧ w < 8) ∧ Fn Try.prog 21 #[.int .i64 (id : Int), pt b 0] ρ [] (Just (.int .i64 w)) := by
  have s0 := r0.slm
  by_cases hlt : id < z0.length
  · obtain ⟨x, hx⟩ : ∃ x, z0[id]? = some x := ⟨_, List.getElem?_eq_getElem hlt⟩
    have hx1 : (z0.map (Value.int .i64))[id]? = some (.int .i64 x) := by rw [List.getElem?_map, hx]; rfl
    refine ⟨x % (7 + 1), by omega, ?_⟩
    refine in21 rfl rfl ?_
    refine W.seq ?_
    refine W.region ?_
    refine WL.as rfl rfl ?_
    refine WL.nil ?_
    refine W.seq ?_
    refine W.seq ?_
    refine W.region ?_
    refine WL.mv rfl rfl ?_
    refine WL.ldBN (T := Ty) rfl rfl rfl rfl (by first | assumption | exact RB.wide (by assumption) | exact In.rb (by assumption)) rfl ?_
    refine WL.len (T := Ty) rfl rfl (by assumption) rfl ?_
    refine WL.lss rfl rfl rfl ?_
    refine WL.nil ?_
    refine W.condpT rfl (by omega) ?_
    refine W.seq ?_
    refine W.region ?_
    refine WL.ldBN (T := Ty) rfl rfl rfl rfl (by first | assumption | exact RB.wide (by assumption) | exact In.rb (by assumption)) rfl ?_
    refine WL.mv rfl rfl ?_
    refine WL.ix (T := Ty) rfl rfl rfl (by assumption) rfl rfl (by omega) (by first | omega | decide +kernel) ?_
    refine WL.ldKn (T := Ty) rfl rfl rfl rfl (by first | assumption | exact ROs.wide (by assumption)) (by assumption) ?_
    refine WL.andI rfl rfl rfl (by decide) ?_
    refine WL.as rfl rfl ?_
    refine WL.nil ?_
    exact W.ret1 rfl rfl (fun h p => ⟨rfl, p⟩)
  · refine ⟨id % (7 + 1), by omega, ?_⟩
    refine in21 rfl rfl ?_
    refine W.seq ?_
    refine W.region ?_
    refine WL.as rfl rfl ?_
    refine WL.nil ?_
    refine W.seq ?_
    refine W.seq ?_
    refine W.region ?_
    refine WL.mv rfl rfl ?_
    refine WL.ldBN (T := Ty) rfl rfl rfl rfl (by first | assumption | exact RB.wide (by assumption) | exact In.rb (by assumption)) rfl ?_
    refine WL.len (T := Ty) rfl rfl (by assumption) rfl ?_
    refine WL.lss rfl rfl rfl ?_
    refine WL.nil ?_
    refine W.condpF rfl (by omega) ?_
    refine W.skip ?_
    refine W.seq ?_
    refine W.region ?_
    refine WL.mv rfl rfl ?_
    refine WL.andI rfl rfl rfl (by decide) ?_
    refine WL.as rfl rfl ?_
    refine WL.nil ?_
    exact W.ret1 rfl rfl (fun h p => ⟨rfl, p⟩)
theorem set_get {α : Type} {L : List α} {i j : Nat} {q p : α} (h : (L.set i q)[j]? = some p) : (i = j ∧ p = q) ∨ (i ≠ j ∧ L[j]? = some p) := by
  rw [List.getElem?_set] at h
  by_cases e : i = j
  · rw [if_pos e] at h
    split at h
    · exact .inl ⟨e, (Option.some.inj h).symm⟩
    · cases h
  · rw [if_neg e] at h
    exact .inr ⟨e, h⟩
theorem DireMany_fn (ρ : Hp) (v0 : Value) (z0 : List Int) (r0 : ROs ρ 1 v0 (z0.map (Value.int .i64))) (m0 : ∀ n ∈ z0, (Lit.int .i64 n).wf = true) (y0 : z0.length * 8 ≤ 140737488351232) (a1 : Int) (w1 : (Lit.int .i64 a1).wf = true) :
    Fn Try.prog 5 #[v0, .int .i64 a1] ρ [] (fun r _ => r = .bool true) := by
  have s0 := r0.slm
  have hw1 := wf_i64 w1
  refine in5 rfl rfl ?_
  refine W.seq ?_
  refine W.region ?_
  refine WL.bx rfl rfl (cs := [v0]) (by unfold SL at s0; rcases s0 with ⟨rfl, _⟩ | ⟨a, c, rfl⟩ <;> rfl) (fun b0 => ?_)
  refine WL.as rfl rfl ?_
  refine WL.nil ?_
  refine W.freeze 0 rfl (by repeat' first | exact FL.nil | apply FL.cons) (fun ρ1 le1 hin => ?_)
  have hB := hin.rb
  have r1 := r0.mono le1
  have hbyE := fun id hi => by_c ρ1 b0 v0 z0 hB r1 m0 id hi
  obtain ⟨f, hf⟩ : ∃ f : Nat → Int, ∀ id, id < 16 → (0 ≤ f id ∧ f id < 8) ∧ Fn Try.prog 21 #[.int .i64 (id : Int), pt b0 0] ρ1 [] (Just (.int .i64 (f id))) :=
    ⟨fun id => if h : id < 16 then (hbyE id h).choose else 0, fun id h => by simp only [dif_pos h]; exact (hbyE id h).choose_spec⟩
  refine W.seq ?_
  refine W.region ?_
  refine WL.callF rfl rfl (fun x p d => new_z _) (fun r => ?_)
  refine WL.ex (fun b1 => ?_)
  refine WL.pure (fun er => ?_)
  subst er
  refine WL.as rfl rfl ?_
  refine WL.nil ?_
  refine W.seq ?_
  refine W.seq ?_
  refine W.region ?_
  refine WL.mv rfl rfl ?_
  refine WL.eqP (T := Ty) rfl rfl rfl ?_
  refine WL.nil ?_
  refine W.condF rfl ?_
  refine W.skip ?_
  refine W.seq ?_
  refine W.region ?_
  refine WL.mkF rfl rfl ?_
  refine WL.as rfl rfl ?_
  refine WL.nil ?_
  refine W.seq ?_
  refine W.seq ?_
  refine W.region ?_
  refine WL.as rfl rfl ?_
  refine WL.nil ?_
  refine W.block ?_
  refine W.cut2 (τ := List Pz) (fun L => [(1, .int .i64 a1), (4, .bool false), (5, pt b1 0), (6, .func (.func 21) #[] [pt b0 0].toArray)]) (fun L => [box b1 (dirZ L) TD])
    (fun L => L.length = 16 ∧ ∀ (j : Nat) p, L[j]? = some p → p.taken = true ∧ p.ver = 1 ∧ p.who = f j) ?_ (fun cut => ?_)
  · intro L ⟨h16, hL⟩
    refine W.seq ?_
    refine W.seq ?_
    refine W.region ?_
    refine WL.as rfl rfl ?_
    refine WL.nil ?_
    refine W.block ?_
    refine W.cut2 (τ := Nat) (fun _ => [(1, .int .i64 a1), (4, .bool false), (5, pt b1 0), (6, .func (.func 21) #[] [pt b0 0].toArray)]) (fun _ => [box b1 (dirZ L) TD]) (fun _ => True) ?_ (fun cut2 => ?_)
    · intro _ _
      refine W.seq ?_
      refine W.seq ?_
      refine W.region ?_
      refine WL.as rfl rfl ?_
      refine WL.nil ?_
      refine W.block ?_
      refine W.loopS (σ := Nat × List Pz) (fun s => [(1, .int .i64 a1), (4, .bool false), (5, pt b1 0), (6, .func (.func 21) #[] [pt b0 0].toArray), (11, .int .i64 (s.1 : Int))]) (fun s => [box b1 (dirZ s.2) TD])
        (fun s => s.1 ≤ 16 ∧ s.2.length = 16 ∧ ∀ (j : Nat) p, s.2[j]? = some p → (∀ k, k < s.1 → ((k : Int) * 5 + a1 % 16) % 16 ≠ (j : Int)) → p.taken = true ∧ p.ver = 1 ∧ p.who = f j) (fun s => 16 - s.1) (0, L) ⟨rfl, rfl, rfl, rfl, rfl, trivial⟩ rfl ⟨Nat.zero_le _, h16, fun j p h _ => hL j p h⟩ ?_
      rintro ⟨i, M⟩ ⟨hi, hM16, hM⟩ next
      simp only [] at hi hM16 hM next ⊢
      by_cases hlt : i < 16
      · obtain ⟨id, hid, hid16⟩ : ∃ id : Nat, ((i : Int) * 5 + a1 % (15 + 1)) % (15 + 1) = (id : Int) ∧ id < 16 := ⟨(((i : Int) * 5 + a1 % (15 + 1)) % (15 + 1)).toNat, by omega, by omega⟩
        obtain ⟨p, hp⟩ : ∃ p, M[id]? = some p := ⟨_, List.getElem?_eq_getElem (by omega)⟩
        obtain ⟨t1, t2, t3⟩ := hM id p hp (fun k hk => by omega)
        refine W.seq ?_
        refine W.seq ?_
        refine W.region ?_
        refine WL.mv rfl rfl ?_
        refine WL.lss rfl rfl rfl ?_
        refine WL.nil ?_
        refine W.condpT rfl (by omega) ?_
        refine W.skip ?_
        refine W.seq ?_
        refine W.block ?_
        refine W.seq ?_
        refine W.region ?_
        refine WL.mv rfl rfl ?_
        refine WL.mulK rfl rfl rfl (wrap_i64 ⟨by omega, by omega⟩) ?_
        refine WL.mv rfl rfl ?_
        refine WL.andI rfl rfl rfl (by decide) ?_
        refine WL.addK rfl rfl rfl (wrap_i64 ⟨by omega, by omega⟩) ?_
        refine WL.andI rfl rfl rfl (by decide) ?_
        refine WL.as rfl rfl ?_
        refine WL.nil ?_
        refine W.seq ?_
        refine W.seq ?_
        refine W.region ?_
        refine WL.mv rfl rfl ?_
        refine WL.mv rfl rfl ?_
        rw [hid]
        refine WL.callV rfl rfl (fun x p d => flag_zin _ _ _ _ _ (by first | assumption | exact RB.wide (by assumption) | exact In.rb (by assumption) | exact rb_at 0 rfl p d | exact rb_at 1 rfl p d | exact rb_at 2 rfl p d | exact rb_at 3 rfl p d | exact rb_at 4 rfl p d | exact rb_at 5 rfl p d) (by first | assumption | rfl) (by first | assumption | omega | decide) (by first | assumption | rfl)) ?_
        refine WL.mv rfl rfl ?_
        refine WL.extL rfl rfl rfl ?_
        refine WL.extL rfl rfl rfl ?_
        refine WL.as rfl rfl ?_
        refine WL.as rfl rfl ?_
        refine WL.nil ?_
        refine W.seq ?_
        refine W.region ?_
        refine WL.mv rfl rfl ?_
        refine WL.not rfl rfl ?_
        refine WL.mv rfl rfl ?_
        refine WL.gY rfl rfl ?_
        refine WL.mv rfl rfl ?_
        refine WL.gY rfl rfl ?_
        refine WL.mv rfl rfl ?_
        refine WL.gY rfl rfl ?_
        refine WL.mv rfl rfl ?_
        refine WL.gY rfl rfl ?_
        refine WL.callC rfl rfl rfl (hf id hid16).2 ?_
        refine WL.gY rfl rfl ?_
        refine WL.neq rfl rfl rfl ?_
        refine WL.pickF rfl rfl rfl ?_
        refine WL.mv rfl rfl ?_
        refine WL.gF rfl rfl (by omega) ?_
        refine WL.mv rfl rfl ?_
        refine WL.gF rfl rfl (by omega) ?_
        refine WL.mv rfl rfl ?_
        refine WL.gF rfl rfl (by omega) ?_
        refine WL.mv rfl rfl ?_
        refine WL.gF rfl rfl (by omega) ?_
        refine WL.mv rfl rfl ?_
        refine WL.gF rfl rfl (by omega) ?_
        refine WL.callC rfl rfl rfl (hf id hid16).2 ?_
        have u1 : p.ver < 9223372036854775807 := by omega
        have u2 : 0 ≤ p.ver := by omega
        have u3 : 0 ≤ p.ver + 1 := by omega
        have u4 : (p.ver + 1) % 2 = 0 := by omega
        have u5 : (M.set id ⟨false, false, (id : Int) + 1, p.ver + 1, false, 0, false, 0⟩).length = 16 := by rw [List.length_set, hM16]
        have hp2 : (M.set id ⟨false, false, (id : Int) + 1, p.ver + 1, false, 0, false, 0⟩)[id]? = some ⟨false, false, (id : Int) + 1, p.ver + 1, false, 0, false, 0⟩ := by rw [List.getElem?_set_self (by omega)]
        refine WL.gF rfl rfl (by omega) ?_
        refine WL.mv rfl rfl ?_
        refine WL.gF rfl rfl (by omega) ?_
        refine WL.addK rfl rfl rfl (wrap_i64 ⟨by omega, by omega⟩) ?_
        refine WL.gF rfl rfl (by omega) ?_
        refine WL.bdC (T := Ty) rfl rfl rfl rfl (by repeat' first | exact CO.nil | apply CO.one (by first | rfl | exact SL.one (by assumption)) | apply CO.agg) rfl (by repeat' first | exact FL.nil | apply FL.cons) ?_
        refine WL.gF rfl rfl (by omega) ?_
        refine WL.callM 0 rfl rfl rfl (fun x p d => leave_z _ _ _ _ _ _ _ _ _ _ _ _ (by first | assumption | rfl) (by first | assumption | rfl) (by first | assumption | omega | decide) (by first | assumption | rfl) (by first | assumption | rfl) (by first | assumption | omega | decide) (by first | assumption | omega | decide)) (by repeat' first | exact FL.nil | apply FL.cons) ?_
        refine WL.gF rfl rfl (by omega) ?_
        refine WL.not rfl rfl ?_
        refine WL.pickFp rfl rfl (by omega) rfl ?_
        refine WL.nil ?_
        refine W.condF rfl ?_
        refine W.skip ?_
        refine W.seq ?_
        refine W.region ?_
        refine WL.mv rfl rfl ?_
        refine WL.mv rfl rfl ?_
        refine WL.callV rfl rfl (fun x p d => look_zin _ _ _ _ _ (by first | assumption | exact RB.wide (by assumption) | exact In.rb (by assumption) | exact rb_at 0 rfl p d | exact rb_at 1 rfl p d | exact rb_at 2 rfl p d | exact rb_at 3 rfl p d | exact rb_at 4 rfl p d | exact rb_at 5 rfl p d) (by first | assumption | rfl) (by first | assumption | rfl) (by first | assumption | omega | decide) (by first | assumption | omega | decide) (by first | assumption | omega | decide)) ?_
        refine WL.mv rfl rfl ?_
        refine WL.extL rfl rfl rfl ?_
        refine WL.extL rfl rfl rfl ?_
        refine WL.alF (T := Ty) rfl rfl (by repeat' first | exact FL.nil | apply FL.cons) (fun b6 => ?_)
        refine WL.stAO (T := Ty) (j := 0) rfl rfl rfl rfl (by repeat' first | exact AO.nil | apply AO.cons (by first | rfl | exact SL.one (by assumption))) rfl rfl (by repeat' first | exact FL.nil | apply FL.cons) (by repeat' first | exact FL.nil | apply FL.cons) ?_
        refine WL.as rfl rfl ?_
        refine WL.nil ?_
        refine W.seq ?_
        refine W.region ?_
        refine WL.mv rfl rfl ?_
        refine WL.not rfl rfl ?_
        refine WL.mv rfl rfl ?_
        refine WL.gY rfl rfl ?_
        refine WL.faN (T := Ty) (off' := 3) rfl rfl rfl rfl rfl rfl rfl ?_
        refine WL.gY rfl rfl ?_
        refine WL.ldN (T := Ty) (j := 0) rfl rfl rfl rfl rfl rfl ?_
        refine WL.gY rfl rfl ?_
        refine WL.neq rfl rfl rfl ?_
        refine WL.pickF rfl rfl rfl ?_
        refine WL.mv rfl rfl ?_
        simp only []
        refine WL.gF rfl rfl (by omega) ?_
        refine WL.faN (T := Ty) (off' := 2) rfl rfl rfl rfl rfl rfl rfl ?_
        refine WL.gF rfl rfl (by omega) ?_
        refine WL.ldN (T := Ty) (j := 0) rfl rfl rfl rfl rfl rfl ?_
        refine WL.gF rfl rfl (by omega) ?_
        refine WL.mv rfl rfl ?_
        refine WL.gF rfl rfl (by omega) ?_
        refine WL.addK rfl rfl rfl (wrap_i64 ⟨by omega, by omega⟩) ?_
        refine WL.gF rfl rfl (by omega) ?_
        refine WL.neq rfl rfl rfl ?_
        refine WL.pickFp rfl rfl (by omega) rfl ?_
        refine WL.nil ?_
        refine W.condpF rfl (by omega) ?_
        refine W.skip ?_
        refine W.inBlock ?_
        refine W.region ?_
        refine WL.mv rfl rfl ?_
        refine WL.addK rfl rfl rfl (wrap_i64 ⟨by omega, by omega⟩) ?_
        refine WL.as rfl rfl ?_
        refine WL.nil ?_
        refine W.drop 0 rfl (by repeat' first | exact FL.nil | apply FL.cons) ?_
        refine W.sub ?_ (next ⟨i + 1, M.set id ⟨false, false, (id : Int) + 1, p.ver + 1, false, 0, false, 0⟩⟩ ⟨by simp only []; omega, u5, fun j q hq hk => ?_⟩ (by simp only []; omega))
        · exact ⟨rfl, rfl, rfl, rfl, rfl, trivial⟩
        · simp only [] at hq hk
          rcases set_get hq with ⟨rfl, _⟩ | ⟨_, hq⟩
          · exact absurd (by simpa using hid) (hk i (by omega))
          · exact hM j q hq (fun k hk2 => hk k (by omega))
      · refine W.seq ?_
        refine W.seq ?_
        refine W.region ?_
        refine WL.mv rfl rfl ?_
        refine WL.lss rfl rfl rfl ?_
        refine WL.nil ?_
        refine W.condpF rfl (by omega) ?_
        refine W.exit rfl ?_
        refine W.seq ?_
        refine W.region ?_
        refine WL.callT rfl rfl (fun x p d => awake18_c _) ?_
        refine WL.as rfl rfl ?_
        refine WL.nil ?_
        exact W.ret1 rfl rfl (fun h p => rfl)
    · refine W.loopS (σ := Nat) (fun i => [(1, .int .i64 a1), (4, .bool false), (5, pt b1 0), (6, .func (.func 21) #[] [pt b0 0].toArray), (8, .int .i64 (i : Int))]) (fun _ => [box b1 (dirZ L) TD])
        (fun i => i ≤ 16) (fun i => 16 - i) 0 ⟨rfl, rfl, rfl, rfl, rfl, trivial⟩ rfl (by decide) ?_
      intro i hi next
      by_cases hlt : i < 16
      · obtain ⟨p, hp⟩ : ∃ p, L[i]? = some p := ⟨_, List.getElem?_eq_getElem (by omega)⟩
        obtain ⟨t1, t2, t3⟩ := hL i p hp
        have t4 : 0 ≤ p.ver := by omega
        have t5 : p.ver % 2 = 1 := by omega
        refine W.seq ?_
        refine W.seq ?_
        refine W.region ?_
        refine WL.mv rfl rfl ?_
        refine WL.lss rfl rfl rfl ?_
        refine WL.nil ?_
        refine W.condpT rfl (by omega) ?_
        refine W.skip ?_
        refine W.seq ?_
        refine W.block ?_
        refine W.seq ?_
        refine W.region ?_
        refine WL.mv rfl rfl ?_
        refine WL.mv rfl rfl ?_
        refine WL.callV rfl rfl (fun x p d => look_zno _ _ _ _ _ (by first | assumption | exact RB.wide (by assumption) | exact In.rb (by assumption) | exact rb_at 0 rfl p d | exact rb_at 1 rfl p d | exact rb_at 2 rfl p d | exact rb_at 3 rfl p d | exact rb_at 4 rfl p d | exact rb_at 5 rfl p d) (by first | assumption | rfl) (by first | assumption | omega | decide) (by first | assumption | omega | decide) (by first | assumption | omega | decide)) ?_
        refine WL.mv rfl rfl ?_
        refine WL.extL rfl rfl rfl ?_
        refine WL.extL rfl rfl rfl ?_
        refine WL.alF (T := Ty) rfl rfl (by repeat' first | exact FL.nil | apply FL.cons) (fun b2 => ?_)
        refine WL.stAO (T := Ty) (j := 0) rfl rfl rfl rfl (by repeat' first | exact AO.nil | apply AO.cons (by first | rfl | exact SL.one (by assumption))) rfl rfl (by repeat' first | exact FL.nil | apply FL.cons) (by repeat' first | exact FL.nil | apply FL.cons) ?_
        refine WL.as rfl rfl ?_
        refine WL.nil ?_
        refine W.seq ?_
        refine W.region ?_
        refine WL.mv rfl rfl ?_
        refine WL.mv rfl rfl ?_
        refine WL.gY rfl rfl ?_
        refine WL.mv rfl rfl ?_
        refine WL.gY rfl rfl ?_
        refine WL.mv rfl rfl ?_
        refine WL.gY rfl rfl ?_
        refine WL.mv rfl rfl ?_
        refine WL.gY rfl rfl ?_
        refine WL.mv rfl rfl ?_
        refine WL.gY rfl rfl ?_
        refine WL.callC rfl rfl rfl (hf i hlt).2 ?_
        refine WL.gY rfl rfl ?_
        refine WL.callV rfl rfl (fun x p d => take_zno _ _ _ _ _ _ (by first | assumption | exact RB.wide (by assumption) | exact In.rb (by assumption) | exact rb_at 0 rfl p d | exact rb_at 1 rfl p d | exact rb_at 2 rfl p d | exact rb_at 3 rfl p d | exact rb_at 4 rfl p d | exact rb_at 5 rfl p d) (by first | assumption | rfl) (by first | assumption | omega | decide) (by first | assumption | rfl)) ?_
        refine WL.pickF rfl rfl rfl ?_
        refine WL.nil ?_
        refine W.condF rfl ?_
        refine W.skip ?_
        refine W.inBlock ?_
        refine W.region ?_
        refine WL.mv rfl rfl ?_
        refine WL.addK rfl rfl rfl (wrap_i64 ⟨by omega, by omega⟩) ?_
        refine WL.as rfl rfl ?_
        refine WL.nil ?_
        refine W.drop 0 rfl (by repeat' first | exact FL.nil | apply FL.cons) ?_
        refine W.sub ?_ (next (i + 1) (by omega) (by omega))
        exact ⟨rfl, rfl, rfl, rfl, rfl, trivial⟩
      · refine W.seq ?_
        refine W.seq ?_
        refine W.region ?_
        refine WL.mv rfl rfl ?_
        refine WL.lss rfl rfl rfl ?_
        refine WL.nil ?_
        refine W.condpF rfl (by omega) ?_
        refine W.exit rfl ?_
        refine W.sub ?_ (cut2 0 trivial)
        exact ⟨rfl, rfl, rfl, rfl, trivial⟩
  · refine W.loopS (σ := Nat × List Pz) (fun s => [(1, .int .i64 a1), (4, .bool false), (5, pt b1 0), (6, .func (.func 21) #[] [pt b0 0].toArray), (7, .int .i64 (s.1 : Int))]) (fun s => [box b1 (dirZ s.2) TD])
      (fun s => s.1 ≤ 16 ∧ s.2.length = 16 ∧ ∀ (j : Nat) p, s.2[j]? = some p → (j < s.1 → p.taken = true ∧ p.ver = 1 ∧ p.who = f j) ∧ (s.1 ≤ j → p.taken = false ∧ p.ver = 0)) (fun s => 16 - s.1) (0, List.replicate 16 zeroP) ⟨rfl, rfl, rfl, rfl, rfl, trivial⟩ rfl ⟨by decide, rfl, fun j p h => by
        have := List.eq_of_mem_replicate (List.mem_of_getElem? h)
        subst this
        exact ⟨fun h => by omega, fun _ => ⟨rfl, rfl⟩⟩⟩ ?_
    rintro ⟨i, L⟩ ⟨hi, h16, hL⟩ next
    simp only [] at hi h16 hL next ⊢
    by_cases hlt : i < 16
    · obtain ⟨p, hp⟩ : ∃ p, L[i]? = some p := ⟨_, List.getElem?_eq_getElem (by omega)⟩
      obtain ⟨t1, t2⟩ := (hL i p hp).2 (Nat.le_refl _)
      refine W.seq ?_
      refine W.seq ?_
      refine W.region ?_
      refine WL.mv rfl rfl ?_
      refine WL.lss rfl rfl rfl ?_
      refine WL.nil ?_
      refine W.condpT rfl (by omega) ?_
      refine W.skip ?_
      refine W.seq ?_
      refine W.block ?_
      refine W.seq ?_
      refine W.region ?_
      refine WL.mv rfl rfl ?_
      refine WL.mv rfl rfl ?_
      refine WL.mv rfl rfl ?_
      refine WL.mv rfl rfl ?_
      refine WL.callC rfl rfl rfl (hf i hlt).2 ?_
      have u1 : p.ver < 9223372036854775807 := by omega
      have u2 : 0 ≤ p.ver := by omega
      refine WL.callM 0 rfl rfl rfl (fun x p d => take_z _ _ _ _ _ _ (by first | assumption | rfl) (by first | assumption | rfl) (by first | assumption | omega | decide) (by first | assumption | rfl) (by first | assumption | omega | decide) (by first | assumption | omega | decide)) (by repeat' first | exact FL.nil | apply FL.cons) ?_
      refine WL.not rfl rfl ?_
      refine WL.nil ?_
      refine W.condF rfl ?_
      refine W.skip ?_
      refine W.inBlock ?_
      refine W.region ?_
      refine WL.mv rfl rfl ?_
      refine WL.addK rfl rfl rfl (wrap_i64 ⟨by omega, by omega⟩) ?_
      refine WL.as rfl rfl ?_
      refine WL.nil ?_
      refine W.sub ?_ (next ⟨i + 1, L.set i { p with ver := p.ver + 1, taken := true, who := f i }⟩ ⟨by simp only []; omega, by simp only []; rw [List.length_set, h16], fun j q hq => ?_⟩ (by simp only []; omega))
      · exact ⟨rfl, rfl, rfl, rfl, rfl, trivial⟩
      · simp only [] at hq ⊢
        rcases set_get hq with ⟨rfl, rfl⟩ | ⟨_, hq⟩
        · exact ⟨fun _ => ⟨rfl, by simp only []; omega, rfl⟩, fun _ => by omega⟩
        · obtain ⟨g1, g2⟩ := hL j q hq
          exact ⟨fun h => g1 (by omega), fun h => g2 (by omega)⟩
    · refine W.seq ?_
      refine W.seq ?_
      refine W.region ?_
      refine WL.mv rfl rfl ?_
      refine WL.lss rfl rfl rfl ?_
      refine WL.nil ?_
      refine W.condpF rfl (by omega) ?_
      refine W.exit rfl ?_
      refine W.sub ?_ (cut L ⟨h16, fun j p h => (hL j p h).1 (by have := (List.getElem?_eq_some_iff.1 h).1; omega)⟩)
      exact ⟨rfl, rfl, rfl, rfl, trivial⟩
end Go.Proofs.Ytlmhjkbbooghfaa
