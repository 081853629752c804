/- DireVers. -/
import Derived.Test.YtlmhjkbbooghfaaStc
import Derived.Test.YtlmhjkbbooghfaaNum
import Derived.Test.YtlmhjkbbooghfaaTab
import Derived.Test.YtlmhjkbbooghfaaDireAwake
set_option linter.unusedSimpArgs false
set_option linter.unusedVariables false
set_option maxRecDepth 20000
set_option maxHeartbeats 4000000
namespace Go.Proofs.Ytlmhjkbbooghfaa
open Go
attribute [local irreducible] W WL Fn Buf ROs SL eptr box Rd Src bndOK WD RB Reads In dirC dirZ
def veC (p : Pz) : Value := .int .i64 p.ver
def liC (p : Pz) : Value := .int .i64 p.life
theorem ve_at {L : List Pz} {i : Nat} {p : Pz} (h : L[i]? = some p) : (L.map veC)[0 + ((i : Nat) : Int).toNat * 1]? = some (.int .i64 p.ver) := by
  rw [show 0 + ((i : Nat) : Int).toNat * 1 = i by omega, List.getElem?_map, h]; rfl
theorem li_at {L : List Pz} {i : Nat} {p : Pz} (h : L[i]? = some p) : (L.map liC)[0 + ((i : Nat) : Int).toNat * 1]? = some (.int .i64 p.life) := by
  rw [show 0 + ((i : Nat) : Int).toNat * 1 = i by omega, List.getElem?_map, h]; rfl
abbrev TA : TypeId := 25
theorem DireVers_fn (ρ : Hp) (v0 : Value) (z0 : List Int) (r0 : ROs ρ 1 v0 (z0.map (Value.int .i64))) (m0 : ∀ n ∈ z0, (Lit.int .i64 n).wf = true) (y0 : z0.length * 8 ≤ 140737488351232) :
    Fn Try.prog 3 #[v0] ρ [] (fun r _ => r = .bool true) := by
  have s0 := r0.slm
  refine in3 rfl rfl ?_
  refine W.seq ?_
  refine W.region ?_
  refine WL.as rfl rfl ?_
  refine WL.nil ?_
  refine W.seq ?_
  refine W.region ?_
  refine WL.callF rfl rfl (fun x p d => new_z _) (fun r => ?_)
  refine WL.ex (fun b0 => ?_)
  refine WL.pure (fun er => ?_)
  subst er
  refine WL.as rfl rfl ?_
  refine WL.nil ?_
  refine W.seq ?_
  refine W.seq ?_
  refine W.region ?_
  refine WL.mv rfl rfl ?_
  refine WL.eqP (T := Ty) rfl rfl rfl ?_
  refine WL.nil ?_
  refine W.condF rfl ?_
  refine W.skip ?_
  refine W.seq ?_
  refine W.region ?_
  refine WL.alF (T := Ty) rfl rfl (by repeat' first | exact FL.nil | apply FL.cons) (fun b1 => ?_)
  refine WL.alF (T := Ty) rfl rfl (by repeat' first | exact FL.nil | apply FL.cons) (fun b2 => ?_)
  refine WL.nil ?_
  refine W.seq ?_
  refine W.seq ?_
  refine W.region ?_
  refine WL.as rfl rfl ?_
  refine WL.nil ?_
  refine W.block ?_
  refine W.cut2 (τ := List Pz) (fun L => [(2, .bool false), (3, pt b0 0), (4, pt b1 0), (5, pt b2 0)]) (fun L => [box b2 (L.map liC) TA, box b1 (L.map veC) TA, box b0 (dirZ L) TD]) (fun L => L.length = 16 ∧ ∀ p ∈ L, 0 ≤ p.ver ∧ p.ver % 2 = 0) ?_ (fun cut0 => ?_)
  · intro L ⟨h16, hL⟩
    refine W.seq ?_
    refine W.seq ?_
    refine W.region ?_
    refine WL.mv rfl rfl ?_
    refine WL.nil ?_
    refine W.block ?_
    refine W.loopS (σ := Nat) (fun i => [(2, .bool false), (3, pt b0 0), (4, pt b1 0), (5, pt b2 0), (125, .int .i64 (i : Int))]) (fun _ => [box b2 (L.map liC) TA, box b1 (L.map veC) TA, box b0 (dirZ L) TD])
      (fun i => i ≤ 16) (fun i => 16 - i) 0 ⟨rfl, rfl, rfl, rfl, rfl, trivial⟩ rfl (Nat.zero_le _) ?_
    intro i hi next
    by_cases hlt : i < 16
    · obtain ⟨p, hp⟩ : ∃ p, L[i]? = some p := ⟨_, List.getElem?_eq_getElem (by omega)⟩
      obtain ⟨t2, t4⟩ := hL p (List.mem_of_getElem? hp)
      have hve := ve_at hp
      have hli := li_at hp
      refine W.seq ?_
      refine W.region ?_
      refine WL.lss rfl rfl rfl ?_
      refine WL.nil ?_
      refine W.seq ?_
      refine W.condpT rfl (by omega) ?_
      refine W.skip ?_
      refine W.seq ?_
      refine W.block ?_
      refine W.seq ?_
      refine W.region ?_
      refine WL.mv rfl rfl ?_
      refine WL.as rfl rfl ?_
      refine WL.nil ?_
      refine W.seq ?_
      refine W.region ?_
      refine WL.mv rfl rfl ?_
      refine WL.mv rfl rfl ?_
      refine WL.callV rfl rfl (fun x p d => look_zin _ _ _ _ _ (by first | assumption | exact RB.wide (by assumption) | exact In.rb (by assumption) | exact rb_at 0 rfl p d | exact rb_at 1 rfl p d | exact rb_at 2 rfl p d | exact rb_at 3 rfl p d | exact rb_at 4 rfl p d | exact rb_at 5 rfl p d) (by first | assumption | rfl) (by first | assumption | rfl) (by first | assumption | omega | decide) (by first | assumption | omega | decide) (by first | assumption | omega | decide)) ?_
      refine WL.mv rfl rfl ?_
      refine WL.extL rfl rfl rfl ?_
      refine WL.extL rfl rfl rfl ?_
      refine WL.alF (T := Ty) rfl rfl (by repeat' first | exact FL.nil | apply FL.cons) (fun b3 => ?_)
      refine WL.stAO (T := Ty) (j := 0) rfl rfl rfl rfl (by repeat' first | exact AO.nil | apply AO.cons (by first | rfl | exact SL.one (by assumption))) rfl rfl (by repeat' first | exact FL.nil | apply FL.cons) (by repeat' first | exact FL.nil | apply FL.cons) ?_
      refine WL.as rfl rfl ?_
      refine WL.nil ?_
      refine W.seq ?_
      refine W.drawA 18 rfl (fun σ0 hσ0 dσ0 => ?_)
      have fσ0_0 := rb_at 0 rfl hσ0 dσ0
      have fσ0_1 := rb_at 1 rfl hσ0 dσ0
      have fσ0_2 := rb_at 2 rfl hσ0 dσ0
      have fσ0_3 := rb_at 3 rfl hσ0 dσ0
      refine WD.takeL 0 rfl (by decide +kernel) ?_
      refine WL.mv rfl rfl ?_
      refine WL.nilT ?_
      refine WD.takeL 1 rfl (by decide +kernel) ?_
      refine WL.not rfl rfl ?_
      refine WL.nilT ?_
      refine WD.takeL 2 rfl (by decide +kernel) ?_
      refine WL.mv rfl rfl ?_
      refine WL.nilT ?_
      refine WD.takeL 3 rfl (by decide +kernel) ?_
      refine WL.gY rfl rfl ?_
      refine WL.faN (T := Ty) (off' := 3) rfl rfl rfl rfl rfl rfl rfl ?_
      refine WL.nilT ?_
      refine WD.takeL 4 rfl (by decide +kernel) ?_
      refine WL.gY rfl rfl ?_
      refine WL.ldBN (T := Ty) rfl rfl rfl rfl (by first | assumption | exact RB.wide (by assumption) | exact In.rb (by assumption)) rfl ?_
      refine WL.nilT ?_
      refine WD.takeL 5 rfl (by decide +kernel) ?_
      refine WL.gY rfl rfl ?_
      refine WL.mv rfl rfl ?_
      refine WL.nilT ?_
      refine WD.takeL 6 rfl (by decide +kernel) ?_
      refine WL.gY rfl rfl ?_
      refine WL.ixA (T := Ty) rfl rfl rfl rfl rfl (by omega) (by first | omega | decide +kernel) ?_
      refine WL.nilT ?_
      refine WD.takeL 7 rfl (by decide +kernel) ?_
      refine WL.gY rfl rfl ?_
      refine WL.ldB (T := Ty) rfl rfl rfl rfl (by first | assumption | exact RB.wide (by assumption) | exact In.rb (by assumption)) (by assumption) ?_
      refine WL.nilT ?_
      refine WD.takeL 8 rfl (by decide +kernel) ?_
      refine WL.gY rfl rfl ?_
      refine WL.neq rfl rfl rfl ?_
      refine WL.nilT ?_
      refine WD.takeL 9 rfl (by decide +kernel) ?_
      refine WL.pickF rfl rfl rfl ?_
      refine WL.nilT ?_
      refine WD.takeL 10 rfl (by decide +kernel) ?_
      refine WL.mv rfl rfl ?_
      refine WL.nilT ?_
      refine WD.takeL 11 rfl (by decide +kernel) ?_
      refine WL.gF rfl rfl (by omega) ?_
      refine WL.faN (T := Ty) (off' := 2) rfl rfl rfl rfl rfl rfl rfl ?_
      refine WL.nilT ?_
      refine WD.takeL 12 rfl (by decide +kernel) ?_
      refine WL.gF rfl rfl (by omega) ?_
      refine WL.ldBN (T := Ty) rfl rfl rfl rfl (by first | assumption | exact RB.wide (by assumption) | exact In.rb (by assumption)) rfl ?_
      refine WL.nilT ?_
      refine WD.takeL 13 rfl (by decide +kernel) ?_
      refine WL.gF rfl rfl (by omega) ?_
      refine WL.mv rfl rfl ?_
      refine WL.nilT ?_
      refine WD.takeL 14 rfl (by decide +kernel) ?_
      refine WL.gF rfl rfl (by omega) ?_
      refine WL.ixA (T := Ty) rfl rfl rfl rfl rfl (by omega) (by first | omega | decide +kernel) ?_
      refine WL.nilT ?_
      refine WD.takeL 15 rfl (by decide +kernel) ?_
      refine WL.gF rfl rfl (by omega) ?_
      refine WL.ldB (T := Ty) rfl rfl rfl rfl (by first | assumption | exact RB.wide (by assumption) | exact In.rb (by assumption)) (by assumption) ?_
      refine WL.nilT ?_
      refine WD.takeL 16 rfl (by decide +kernel) ?_
      refine WL.gF rfl rfl (by omega) ?_
      refine WL.neq rfl rfl rfl ?_
      refine WL.nilT ?_
      refine WD.takeL 17 rfl (by decide +kernel) ?_
      refine WL.pickFp rfl rfl (by omega) rfl ?_
      refine WL.nilT ?_
      refine WD.doneF hσ0 (by decide +kernel) (by repeat' first | exact FL.nil | apply FL.cons) ?_
      refine W.condpF rfl (by omega) ?_
      refine W.skip ?_
      refine W.inBlock ?_
      refine W.region ?_
      refine WL.addK rfl rfl rfl (wrap_i64 ⟨by omega, by omega⟩) ?_
      refine WL.mv rfl rfl ?_
      refine WL.nil ?_
      refine W.drop 0 rfl (by repeat' first | exact FL.nil | apply FL.cons) ?_
      refine W.sub ?_ (next (i + 1) (by omega) (by omega))
      exact ⟨rfl, rfl, rfl, rfl, rfl, trivial⟩
    · refine W.seq ?_
      refine W.region ?_
      refine WL.lss rfl rfl rfl ?_
      refine WL.nil ?_
      refine W.seq ?_
      refine W.condpF rfl (by omega) ?_
      refine W.exit rfl ?_
      refine W.seq ?_
      refine W.region ?_
      refine WL.callT rfl rfl (fun x p d => awake18_c _) ?_
      refine WL.as rfl rfl ?_
      refine WL.nil ?_
      exact W.ret1 rfl rfl (fun h p => rfl)
  refine W.loopS (σ := Nat × List Pz) (fun s => [(0, v0), (2, .bool false), (3, pt b0 0), (4, pt b1 0), (5, pt b2 0), (6, .int .i64 (s.1 : Int))])
    (fun s => [box b2 (s.2.map liC) TA, box b1 (s.2.map veC) TA, box b0 (dirZ s.2) TD])
    (fun s => s.1 ≤ 60 ∧ s.2.length = 16 ∧ ∀ p ∈ s.2, p.taken = false ∧ 0 ≤ p.ver ∧ p.ver ≤ 2 * s.1 ∧ p.ver % 2 = 0) (fun s => 60 - s.1) (0, List.replicate 16 zeroP) ⟨rfl, rfl, rfl, rfl, rfl, rfl, trivial⟩ rfl ⟨by decide, rfl, by
      intro p hp
      rw [List.eq_of_mem_replicate hp]
      exact ⟨rfl, by decide, by decide, by decide⟩⟩ ?_
  rintro ⟨i, L⟩ ⟨hi, h16, hL⟩ next
  simp only [] at hi h16 hL next ⊢
  by_cases hc : i < z0.length ∧ i < 60
  · obtain ⟨hlt, h60⟩ := hc
    obtain ⟨x, hx⟩ : ∃ x, z0[i]? = some x := ⟨_, List.getElem?_eq_getElem hlt⟩
    have hx1 : (z0.map (Value.int .i64))[i]? = some (.int .i64 x) := by rw [List.getElem?_map, hx]; rfl
    have hxw := wf_i64 (m0 x (List.mem_of_getElem? hx))
    obtain ⟨id, hid, hid16⟩ : ∃ id : Nat, x % (15 + 1) = (id : Int) ∧ id < 16 := ⟨(x % (15 + 1)).toNat, by omega, by omega⟩
    obtain ⟨p, hp⟩ : ∃ p, L[id]? = some p := ⟨_, List.getElem?_eq_getElem (by omega)⟩
    obtain ⟨t1, t2, t3, t4⟩ := hL p (List.mem_of_getElem? hp)
    have hve := ve_at hp
    have hli := li_at hp
    refine W.seq ?_
    refine W.seq ?_
    refine W.region ?_
    refine WL.mv rfl rfl ?_
    refine WL.mv rfl rfl ?_
    refine WL.len (T := Ty) rfl rfl (by assumption) rfl ?_
    refine WL.lss rfl rfl rfl ?_
    refine WL.mv rfl rfl ?_
    refine WL.gT rfl rfl (by omega) ?_
    refine WL.mv rfl rfl ?_
    refine WL.gT rfl rfl (by omega) ?_
    refine WL.lss rfl rfl rfl ?_
    refine WL.pickTp rfl rfl (by omega) rfl ?_
    refine WL.nil ?_
    refine W.condpT rfl (by omega) ?_
    refine W.skip ?_
    refine W.seq ?_
    refine W.block ?_
    refine W.seq ?_
    refine W.drawA 12 rfl (fun σ0 hσ0 dσ0 => ?_)
    have fσ0_0 := rb_at 0 rfl hσ0 dσ0
    have fσ0_1 := rb_at 1 rfl hσ0 dσ0
    have fσ0_2 := rb_at 2 rfl hσ0 dσ0
    refine WD.takeL 0 rfl (by decide +kernel) ?_
    refine WL.mv rfl rfl ?_
    refine WL.nilT ?_
    refine WD.takeL 1 rfl (by decide +kernel) ?_
    refine WL.mv rfl rfl ?_
    refine WL.nilT ?_
    refine WD.takeL 2 rfl (by decide +kernel) ?_
    refine WL.ix (T := Ty) rfl rfl rfl (by assumption) rfl rfl (by omega) (by first | omega | decide +kernel) ?_
    refine WL.nilT ?_
    refine WD.takeL 3 rfl (by decide +kernel) ?_
    refine WL.ldKn (T := Ty) rfl rfl rfl rfl (by first | assumption | exact ROs.wide (by assumption)) (by assumption) ?_
    refine WL.nilT ?_
    refine WD.takeL 4 rfl (by decide +kernel) ?_
    refine WL.andI rfl rfl rfl (by decide) ?_
    refine WL.nilT ?_
    refine WD.takeL 5 rfl (by decide +kernel) ?_
    refine WL.mv rfl rfl ?_
    refine WL.nilT ?_
    refine WD.takeL 6 rfl (by decide +kernel) ?_
    refine WL.mv rfl rfl ?_
    refine WL.nilT ?_
    refine WD.takeL 7 rfl (by decide +kernel) ?_
    refine WL.ix (T := Ty) rfl rfl rfl (by assumption) rfl rfl (by omega) (by first | omega | decide +kernel) ?_
    refine WL.nilT ?_
    refine WD.takeL 8 rfl (by decide +kernel) ?_
    refine WL.ldKn (T := Ty) rfl rfl rfl rfl (by first | assumption | exact ROs.wide (by assumption)) (by assumption) ?_
    refine WL.nilT ?_
    refine WD.takeL 9 rfl (by decide +kernel) ?_
    refine WL.shrS (c := 16) rfl rfl rfl (by omega) (by decide) ?_
    refine WL.nilT ?_
    refine WD.takeL 10 rfl (by decide +kernel) ?_
    refine WL.andI rfl rfl rfl (by decide) ?_
    refine WL.nilT ?_
    refine WD.takeL 11 rfl (by decide +kernel) ?_
    refine WL.as rfl rfl ?_
    refine WL.nilT ?_
    refine WD.lastG hσ0 (by decide +kernel) (by repeat' first | exact FL.nil | apply FL.cons) rfl (by repeat' first | exact FL.nil | apply FL.cons) ?_
    refine WL.as rfl rfl ?_
    refine WL.nil ?_
    refine W.seq ?_
    refine W.region ?_
    refine WL.mv rfl rfl ?_
    refine WL.mv rfl rfl ?_
    rw [hid]
    obtain ⟨w, hw⟩ : ∃ w, x / 16 % (7 + 1) = w := ⟨_, rfl⟩
    have hwb : 0 ≤ w ∧ w < 8 := by omega
    rw [hw]
    obtain ⟨P1, hP1⟩ : ∃ P1 : Pz, P1 = ⟨p.there, p.sealed, p.life, p.ver + 1, p.any, p.last, true, w⟩ := ⟨_, rfl⟩
    have hp1 : (L.set id { p with ver := p.ver + 1, taken := true, who := w })[id]? = some { p with ver := p.ver + 1, taken := true, who := w } := by rw [List.getElem?_set_self (by omega)]
    have l1 : (L.set id { p with ver := p.ver + 1, taken := true, who := w }).length = 16 := by rw [List.length_set, h16]
    have hne : true = false ∨ w ≠ w + 1 := .inr (by omega)
    refine WL.callV rfl rfl (fun x p d => look_zin _ _ _ _ _ (by first | assumption | exact RB.wide (by assumption) | exact In.rb (by assumption) | exact rb_at 0 rfl p d | exact rb_at 1 rfl p d | exact rb_at 2 rfl p d | exact rb_at 3 rfl p d | exact rb_at 4 rfl p d | exact rb_at 5 rfl p d) (by first | assumption | rfl) (by first | assumption | rfl) (by first | assumption | omega | decide) (by first | assumption | omega | decide) (by first | assumption | omega | decide)) ?_
    refine WL.mv rfl rfl ?_
    refine WL.extL rfl rfl rfl ?_
    refine WL.extL rfl rfl rfl ?_
    refine WL.alF (T := Ty) rfl rfl (by repeat' first | exact FL.nil | apply FL.cons) (fun b3 => ?_)
    refine WL.stAO (T := Ty) (j := 0) rfl rfl rfl rfl (by repeat' first | exact AO.nil | apply AO.cons (by first | rfl | exact SL.one (by assumption))) rfl rfl (by repeat' first | exact FL.nil | apply FL.cons) (by repeat' first | exact FL.nil | apply FL.cons) ?_
    refine WL.as rfl rfl ?_
    refine WL.nil ?_
    refine W.seq ?_
    refine W.seq ?_
    refine W.cut (τ := Nat) (fun b3 => [(0, v0), (2, .bool false), (3, pt b0 0), (4, pt b1 0), (5, pt b2 0), (6, .int .i64 (i : Int)), (7, .int .i64 (id : Int)), (8, .int .i64 w), (9, pt b3 0), (82, .bool false)])
      (fun b3 => [box b3 (sloZ p.there p.sealed p.life p.ver p.any p.last) 32, box b2 (L.map liC) TA, box b1 (L.map veC) TA, box b0 (dirZ (L.set id { p with ver := p.ver + 1, taken := true, who := w })) TD]) (fun _ => True) ?_ (fun cut => ?_)
    · intro b3 _
      refine W.condF rfl ?_
      refine W.skip ?_
      refine W.seq ?_
      refine W.region ?_
      refine WL.mv rfl rfl ?_
      refine WL.mv rfl rfl ?_
      refine WL.ix (T := Ty) rfl rfl rfl (by assumption) rfl rfl (by omega) (by first | omega | decide +kernel) ?_
      refine WL.ldKn (T := Ty) rfl rfl rfl rfl (by first | assumption | exact ROs.wide (by assumption)) (by assumption) ?_
      refine WL.shrS (c := 128) rfl rfl rfl (by omega) (by decide) ?_
      refine WL.andI rfl rfl rfl (by decide) ?_
      refine WL.faN (T := Ty) (off' := 2) rfl rfl rfl rfl rfl rfl rfl ?_
      refine WL.stF (T := Ty) (j := 0) rfl rfl rfl rfl rfl rfl rfl (by repeat' first | exact FL.nil | apply FL.cons) (by repeat' first | exact FL.nil | apply FL.cons) ?_
      refine WL.nil ?_
      refine W.seq ?_
      refine W.seq ?_
      refine W.region ?_
      refine WL.mv rfl rfl ?_
      refine WL.mv rfl rfl ?_
      refine WL.ix (T := Ty) rfl rfl rfl (by assumption) rfl rfl (by omega) (by first | omega | decide +kernel) ?_
      refine WL.ldKn (T := Ty) rfl rfl rfl rfl (by first | assumption | exact ROs.wide (by assumption)) (by assumption) ?_
      refine WL.shrS (c := 32768) rfl rfl rfl (by omega) (by decide) ?_
      refine WL.andI rfl rfl rfl (by decide) ?_
      refine WL.eql rfl rfl rfl ?_
      refine WL.nil ?_
      refine W.cut (τ := Int) (fun y => [(0, v0), (2, .bool false), (3, pt b0 0), (4, pt b1 0), (5, pt b2 0), (6, .int .i64 (i : Int)), (7, .int .i64 (id : Int)), (8, .int .i64 w), (9, pt b3 0)])
        (fun y => [box b3 (sloZ p.there p.sealed y p.ver p.any p.last) 32, box b2 (L.map liC) TA, box b1 (L.map veC) TA, box b0 (dirZ (L.set id { p with ver := p.ver + 1, taken := true, who := w })) TD]) (fun _ => True) ?_ (fun cut2 => ?_)
      · intro y _
        have hv1 : 0 ≤ p.ver + 1 := by omega
        have hv2 : p.ver + 1 < 9223372036854775807 := by omega
        have hp2 : ((L.set id { p with ver := p.ver + 1, taken := true, who := w }).set id ⟨p.there, p.sealed, y, p.ver + 1 + 1, p.any, p.last, false, 0⟩)[id]? = some ⟨p.there, p.sealed, y, p.ver + 1 + 1, p.any, p.last, false, 0⟩ := by rw [List.getElem?_set_self (by omega)]
        have e2 : (L.map liC).set (0 + ((id : Nat) : Int).toNat * 1) (.int .i64 y) = (L.set id ⟨p.there, p.sealed, y, p.ver + 1 + 1, p.any, p.last, false, 0⟩).map liC := by
          rw [List.map_set, show 0 + ((id : Nat) : Int).toNat * 1 = id by omega]; rfl
        have e1 : (L.map veC).set (0 + ((id : Nat) : Int).toNat * 1) (.int .i64 (p.ver + 2)) = (L.set id ⟨p.there, p.sealed, y, p.ver + 1 + 1, p.any, p.last, false, 0⟩).map veC := by
          rw [List.map_set, show 0 + ((id : Nat) : Int).toNat * 1 = id by omega, show p.ver + 2 = p.ver + 1 + 1 by omega]; rfl
        refine W.seq ?_
        refine W.region ?_
        refine WL.faN (T := Ty) (off' := 3) rfl rfl rfl rfl rfl rfl rfl ?_
        refine WL.stF (T := Ty) (j := 0) rfl rfl rfl rfl rfl rfl rfl (by repeat' first | exact FL.nil | apply FL.cons) (by repeat' first | exact FL.nil | apply FL.cons) ?_
        refine WL.nil ?_
        refine W.seq ?_
        refine W.seq ?_
        refine W.region ?_
        refine WL.mv rfl rfl ?_
        refine WL.mv rfl rfl ?_
        refine WL.mv rfl rfl ?_
        refine WL.ldAF (T := Ty) (j := 0) rfl rfl rfl rfl rfl rfl (by repeat' first | exact FL.nil | apply FL.cons) ?_
        refine WL.callM 3 rfl rfl rfl (fun x p d => leave_z _ _ _ _ _ _ _ _ _ _ _ _ (by first | assumption | rfl) (by first | assumption | rfl) (by first | assumption | omega | decide) (by first | assumption | rfl) (by first | assumption | rfl) (by first | assumption | omega | decide) (by first | assumption | omega | decide)) (by repeat' first | exact FL.nil | apply FL.cons) ?_
        refine WL.not rfl rfl ?_
        refine WL.mv rfl rfl ?_
        refine WL.gY rfl rfl ?_
        refine WL.mv rfl rfl ?_
        refine WL.gY rfl rfl ?_
        refine WL.mv rfl rfl ?_
        refine WL.gY rfl rfl ?_
        refine WL.mv rfl rfl ?_
        refine WL.gY rfl rfl ?_
        refine WL.ldAF (T := Ty) (j := 0) rfl rfl rfl rfl rfl rfl (by repeat' first | exact FL.nil | apply FL.cons) ?_
        refine WL.gY rfl rfl ?_
        refine WL.callV rfl rfl (fun x p d => leave_zno _ _ _ _ _ _ _ _ _ _ _ _ (by first | assumption | exact RB.wide (by assumption) | exact In.rb (by assumption) | exact rb_at 0 rfl p d | exact rb_at 1 rfl p d | exact rb_at 2 rfl p d | exact rb_at 3 rfl p d | exact rb_at 4 rfl p d | exact rb_at 5 rfl p d) (by first | assumption | rfl) (by first | assumption | omega | decide) (by first | assumption | exact .inl (by assumption) | exact .inr (by first | omega | decide) | exact .inl rfl)) ?_
        refine WL.pickF rfl rfl rfl ?_
        refine WL.nil ?_
        refine W.condF rfl ?_
        refine W.skip ?_
        refine W.cut (τ := Nat) (fun _ => [(0, v0), (2, .bool false), (3, pt b0 0), (4, pt b1 0), (5, pt b2 0), (6, .int .i64 (i : Int))])
          (fun _ => [box b2 ((L.set id ⟨p.there, p.sealed, y, p.ver + 1 + 1, p.any, p.last, false, 0⟩).map liC) TA, box b1 ((L.set id ⟨p.there, p.sealed, y, p.ver + 1 + 1, p.any, p.last, false, 0⟩).map veC) TA,
            box b0 (dirZ (L.set id ⟨p.there, p.sealed, y, p.ver + 1 + 1, p.any, p.last, false, 0⟩)) TD]) (fun _ => True) ?_ (fun cut3 => ?_)
        · intro _ _
          refine W.inBlock ?_
          refine W.region ?_
          refine WL.mv rfl rfl ?_
          refine WL.addK rfl rfl rfl (wrap_i64 ⟨by omega, by omega⟩) ?_
          refine WL.as rfl rfl ?_
          refine WL.nil ?_
          refine W.sub ?_ (next ⟨i + 1, L.set id ⟨p.there, p.sealed, y, p.ver + 1 + 1, p.any, p.last, false, 0⟩⟩ ⟨by simp only []; omega, by simp only []; rw [List.length_set, h16], fun q hq => ?_⟩ (by simp only []; omega))
          · exact ⟨rfl, rfl, rfl, rfl, rfl, rfl, trivial⟩
          · simp only [] at hq ⊢
            rcases List.mem_or_eq_of_mem_set hq with hq | rfl
            · obtain ⟨g1, g2, g3, g4⟩ := hL q hq
              exact ⟨g1, g2, by omega, g4⟩
            · exact ⟨rfl, by simp only []; omega, by simp only []; omega, by simp only []; omega⟩
        · refine W.drawP 10 [true, true, true, true] rfl (by repeat' first | exact FL.nil | apply FL.cons) (by repeat' first | exact FL.nil | apply FL.cons) (fun σ1 hσ1 dσ1 => ?_)
          refine WD.takeL 0 rfl (by decide +kernel) ?_
          refine WL.mv rfl rfl ?_
          refine WL.nilT ?_
          refine WD.takeL 1 rfl (by decide +kernel) ?_
          refine WL.mv rfl rfl ?_
          refine WL.nilT ?_
          refine WD.takeL 2 rfl (by decide +kernel) ?_
          refine WL.mv rfl rfl ?_
          refine WL.nilT ?_
          refine WD.takeL 3 rfl (by decide +kernel) ?_
          refine WL.ixA (T := Ty) rfl rfl rfl rfl rfl (by omega) (by first | omega | decide +kernel) ?_
          refine WL.nilT ?_
          refine WD.takeL 6 rfl (by decide +kernel) ?_
          refine WL.faN (T := Ty) (off' := 2) rfl rfl rfl rfl rfl rfl rfl ?_
          refine WL.nilT ?_
          refine WD.twoL 4 7 rfl rfl (by decide +kernel) ?_ ?_
          · refine WL.ld (T := Ty) (j := 3) rfl rfl rfl rfl rfl (by assumption) ?_
            refine WL.nilE ?_
            refine WD.takeL 5 rfl (by decide +kernel) ?_
            refine WL.addK rfl rfl rfl (wrap_i64 ⟨by omega, by omega⟩) ?_
            refine WL.nilT ?_
            refine WD.takeL 8 rfl (by decide +kernel) ?_
            refine WL.ixA (T := Ty) rfl rfl rfl rfl rfl (by omega) (by first | omega | decide +kernel) ?_
            refine WL.nilT ?_
            refine WD.twoL 7 9 rfl rfl (by decide +kernel) ?_ ?_
            · refine WL.ldN (T := Ty) (j := 1) rfl rfl rfl rfl rfl rfl ?_
              refine WL.nilE ?_
              refine WD.oneL 9 rfl (by decide +kernel) ?_
              refine WL.stX (T := Ty) (j := 3) rfl rfl rfl rfl rfl rfl (by first | assumption | (simp; omega)) rfl (by repeat' first | exact FL.nil | apply FL.cons) ?_
              refine WL.nilE ?_
              refine WD.lastG hσ1 (by decide +kernel) (by repeat' first | exact FL.nil | apply FL.cons) rfl (by repeat' first | exact FL.nil | apply FL.cons) ?_
              refine WL.ixA (T := Ty) rfl rfl rfl rfl rfl (by omega) (by first | omega | decide +kernel) ?_
              refine WL.stX (T := Ty) (j := 1) rfl rfl rfl rfl rfl rfl (by first | assumption | (simp; omega)) rfl (by repeat' first | exact FL.nil | apply FL.cons) ?_
              refine WL.nil ?_
              refine W.drop 0 rfl (by repeat' first | exact FL.nil | apply FL.cons) ?_
              rw [e2, e1, List.set_set]
              refine W.sub ?_ (cut3 0 trivial)
              exact ⟨rfl, rfl, rfl, rfl, rfl, rfl, trivial⟩
            · refine WL.stX (T := Ty) (j := 3) rfl rfl rfl rfl rfl rfl (by first | assumption | (simp; omega)) rfl (by repeat' first | exact FL.nil | apply FL.cons) ?_
              refine WL.nilE ?_
              refine WD.oneL 7 rfl (by decide +kernel) ?_
              refine WL.ldN (T := Ty) (j := 1) rfl rfl rfl rfl rfl rfl ?_
              refine WL.nilE ?_
              refine WD.lastG hσ1 (by decide +kernel) (by repeat' first | exact FL.nil | apply FL.cons) rfl (by repeat' first | exact FL.nil | apply FL.cons) ?_
              refine WL.ixA (T := Ty) rfl rfl rfl rfl rfl (by omega) (by first | omega | decide +kernel) ?_
              refine WL.stX (T := Ty) (j := 1) rfl rfl rfl rfl rfl rfl (by first | assumption | (simp; omega)) rfl (by repeat' first | exact FL.nil | apply FL.cons) ?_
              refine WL.nil ?_
              refine W.drop 0 rfl (by repeat' first | exact FL.nil | apply FL.cons) ?_
              rw [e2, e1, List.set_set]
              refine W.sub ?_ (cut3 0 trivial)
              exact ⟨rfl, rfl, rfl, rfl, rfl, rfl, trivial⟩
          · refine WL.ldN (T := Ty) (j := 1) rfl rfl rfl rfl rfl rfl ?_
            refine WL.nilE ?_
            refine WD.oneL 4 rfl (by decide +kernel) ?_
            refine WL.ld (T := Ty) (j := 3) rfl rfl rfl rfl rfl (by assumption) ?_
            refine WL.nilE ?_
            refine WD.takeL 5 rfl (by decide +kernel) ?_
            refine WL.addK rfl rfl rfl (wrap_i64 ⟨by omega, by omega⟩) ?_
            refine WL.nilT ?_
            refine WD.takeL 8 rfl (by decide +kernel) ?_
            refine WL.ixA (T := Ty) rfl rfl rfl rfl rfl (by omega) (by first | omega | decide +kernel) ?_
            refine WL.nilT ?_
            refine WD.oneL 9 rfl (by decide +kernel) ?_
            refine WL.stX (T := Ty) (j := 3) rfl rfl rfl rfl rfl rfl (by first | assumption | (simp; omega)) rfl (by repeat' first | exact FL.nil | apply FL.cons) ?_
            refine WL.nilE ?_
            refine WD.lastG hσ1 (by decide +kernel) (by repeat' first | exact FL.nil | apply FL.cons) rfl (by repeat' first | exact FL.nil | apply FL.cons) ?_
            refine WL.ixA (T := Ty) rfl rfl rfl rfl rfl (by omega) (by first | omega | decide +kernel) ?_
            refine WL.stX (T := Ty) (j := 1) rfl rfl rfl rfl rfl rfl (by first | assumption | (simp; omega)) rfl (by repeat' first | exact FL.nil | apply FL.cons) ?_
            refine WL.nil ?_
            refine W.drop 0 rfl (by repeat' first | exact FL.nil | apply FL.cons) ?_
            rw [e2, e1, List.set_set]
            refine W.sub ?_ (cut3 0 trivial)
            exact ⟨rfl, rfl, rfl, rfl, rfl, rfl, trivial⟩
      · refine W.condp rfl (fun hc => ?_) (fun hc => ?_)
        · refine W.region ?_
          refine WL.mv rfl rfl ?_
          refine WL.ixA (T := Ty) rfl rfl rfl rfl rfl (by omega) (by first | omega | decide +kernel) ?_
          refine WL.ld (T := Ty) (j := 1) rfl rfl rfl rfl rfl (by assumption) ?_
          refine WL.faN (T := Ty) (off' := 2) rfl rfl rfl rfl rfl rfl rfl ?_
          refine WL.stF (T := Ty) (j := 0) rfl rfl rfl rfl rfl rfl rfl (by repeat' first | exact FL.nil | apply FL.cons) (by repeat' first | exact FL.nil | apply FL.cons) ?_
          refine WL.nil ?_
          refine W.sub ?_ (cut2 p.life trivial)
          exact ⟨rfl, rfl, rfl, rfl, rfl, rfl, rfl, rfl, rfl, trivial⟩
        · refine W.skip ?_
          refine W.sub ?_ (cut2 (x / 128 % (255 + 1)) trivial)
          exact ⟨rfl, rfl, rfl, rfl, rfl, rfl, rfl, rfl, rfl, trivial⟩
    · refine W.drawP 39 [true, true, true, true] rfl (by repeat' first | exact FL.nil | apply FL.cons) (by repeat' first | exact FL.nil | apply FL.cons) (fun σ1 hσ1 dσ1 => ?_)
      refine WD.takeL 0 rfl (by decide +kernel) ?_
      refine WL.mv rfl rfl ?_
      refine WL.nilT ?_
      refine WD.takeL 1 rfl (by decide +kernel) ?_
      refine WL.not rfl rfl ?_
      refine WL.nilT ?_
      refine WD.takeL 2 rfl (by decide +kernel) ?_
      refine WL.mv rfl rfl ?_
      refine WL.nilT ?_
      refine WD.takeL 3 rfl (by decide +kernel) ?_
      refine WL.gY rfl rfl ?_
      refine WL.faN (T := Ty) (off' := 3) rfl rfl rfl rfl rfl rfl rfl ?_
      refine WL.nilT ?_
      refine WD.takeL 5 rfl (by decide +kernel) ?_
      refine WL.gY rfl rfl ?_
      refine WL.mv rfl rfl ?_
      refine WL.nilT ?_
      refine WD.takeL 6 rfl (by decide +kernel) ?_
      refine WL.gY rfl rfl ?_
      refine WL.ixA (T := Ty) rfl rfl rfl rfl rfl (by omega) (by first | omega | decide +kernel) ?_
      refine WL.nilT ?_
      refine WD.twoL 4 7 rfl rfl (by decide +kernel) ?_ ?_
      · refine WL.gY rfl rfl ?_
        refine WL.ldN (T := Ty) (j := 1) rfl rfl rfl rfl rfl rfl ?_
        refine WL.nilE ?_
        refine WD.oneL 7 rfl (by decide +kernel) ?_
        refine WL.gY rfl rfl ?_
        refine WL.ld (T := Ty) (j := 3) rfl rfl rfl rfl rfl (by assumption) ?_
        refine WL.nilE ?_
        refine WD.takeL 8 rfl (by decide +kernel) ?_
        refine WL.gY rfl rfl ?_
        refine WL.neq rfl rfl rfl ?_
        refine WL.nilT ?_
        refine WD.takeL 9 rfl (by decide +kernel) ?_
        refine WL.pickF rfl rfl rfl ?_
        refine WL.nilT ?_
        refine WD.takeL 10 rfl (by decide +kernel) ?_
        refine WL.mv rfl rfl ?_
        refine WL.nilT ?_
        refine WD.takeL 11 rfl (by decide +kernel) ?_
        refine WL.gF rfl rfl (by omega) ?_
        refine WL.faN (T := Ty) (off' := 2) rfl rfl rfl rfl rfl rfl rfl ?_
        refine WL.nilT ?_
        refine WD.takeL 13 rfl (by decide +kernel) ?_
        refine WL.gF rfl rfl (by omega) ?_
        refine WL.mv rfl rfl ?_
        refine WL.nilT ?_
        refine WD.takeL 14 rfl (by decide +kernel) ?_
        refine WL.gF rfl rfl (by omega) ?_
        refine WL.ixA (T := Ty) rfl rfl rfl rfl rfl (by omega) (by first | omega | decide +kernel) ?_
        refine WL.nilT ?_
        refine WD.twoL 12 15 rfl rfl (by decide +kernel) ?_ ?_
        · refine WL.gF rfl rfl (by omega) ?_
          refine WL.ldN (T := Ty) (j := 1) rfl rfl rfl rfl rfl rfl ?_
          refine WL.nilE ?_
          refine WD.oneL 15 rfl (by decide +kernel) ?_
          refine WL.gF rfl rfl (by omega) ?_
          refine WL.ld (T := Ty) (j := 2) rfl rfl rfl rfl rfl (by assumption) ?_
          refine WL.nilE ?_
          refine WD.takeL 16 rfl (by decide +kernel) ?_
          refine WL.gF rfl rfl (by omega) ?_
          refine WL.neq rfl rfl rfl ?_
          refine WL.nilT ?_
          refine WD.takeL 17 rfl (by decide +kernel) ?_
          refine WL.pickFp rfl rfl (by omega) rfl ?_
          refine WL.nilT ?_
          refine WD.takeL 18 rfl (by decide +kernel) ?_
          refine WL.mv rfl rfl ?_
          refine WL.nilT ?_
          refine WD.takeL 19 rfl (by decide +kernel) ?_
          refine WL.gF rfl rfl (by omega) ?_
          refine WL.mv rfl rfl ?_
          refine WL.nilT ?_
          refine WD.takeL 20 rfl (by decide +kernel) ?_
          refine WL.gF rfl rfl (by omega) ?_
          refine WL.mv rfl rfl ?_
          refine WL.nilT ?_
          refine WD.takeL 21 rfl (by decide +kernel) ?_
          refine WL.gF rfl rfl (by omega) ?_
          refine WL.mv rfl rfl ?_
          refine WL.nilT ?_
          refine WD.oneL 22 rfl (by decide +kernel) ?_
          refine WL.gF rfl rfl (by omega) ?_
          refine WL.callM 4 rfl rfl rfl (fun x p d => take_z _ _ _ _ _ _ (by first | assumption | rfl) (by first | assumption | rfl) (by first | assumption | omega | decide) (by first | assumption | rfl) (by first | assumption | omega | decide) (by first | assumption | omega | decide)) (by repeat' first | exact FL.nil | apply FL.cons) ?_
          refine WL.nilE ?_
          refine WD.takeL 23 rfl (by decide +kernel) ?_
          refine WL.gF rfl rfl (by omega) ?_
          refine WL.not rfl rfl ?_
          refine WL.nilT ?_
          refine WD.takeL 24 rfl (by decide +kernel) ?_
          refine WL.pickFp rfl rfl (by omega) rfl ?_
          refine WL.nilT ?_
          refine WD.takeL 25 rfl (by decide +kernel) ?_
          refine WL.mv rfl rfl ?_
          refine WL.nilT ?_
          refine WD.takeL 26 rfl (by decide +kernel) ?_
          refine WL.gY rfl rfl ?_
          refine WL.mv rfl rfl ?_
          refine WL.nilT ?_
          refine WD.takeL 27 rfl (by decide +kernel) ?_
          refine WL.gY rfl rfl ?_
          refine WL.mv rfl rfl ?_
          refine WL.nilT ?_
          refine WD.takeL 28 rfl (by decide +kernel) ?_
          refine WL.gY rfl rfl ?_
          refine WL.mv rfl rfl ?_
          refine WL.nilT ?_
          refine WD.oneL 29 rfl (by decide +kernel) ?_
          refine WL.gY rfl rfl ?_
          refine WL.callV rfl rfl (fun x p d => take_zno _ _ _ _ _ _ (by first | assumption | exact RB.wide (by assumption) | exact In.rb (by assumption) | exact rb_at 0 rfl p d | exact rb_at 1 rfl p d | exact rb_at 2 rfl p d | exact rb_at 3 rfl p d | exact rb_at 4 rfl p d | exact rb_at 5 rfl p d) (by first | assumption | rfl) (by first | assumption | omega | decide) (by first | assumption | rfl)) ?_
          refine WL.nilE ?_
          refine WD.takeL 30 rfl (by decide +kernel) ?_
          refine WL.pickF rfl rfl rfl ?_
          refine WL.nilT ?_
          refine WD.takeL 31 rfl (by decide +kernel) ?_
          refine WL.mv rfl rfl ?_
          refine WL.nilT ?_
          refine WD.takeL 32 rfl (by decide +kernel) ?_
          refine WL.gY rfl rfl ?_
          refine WL.mv rfl rfl ?_
          refine WL.nilT ?_
          refine WD.takeL 33 rfl (by decide +kernel) ?_
          refine WL.gY rfl rfl ?_
          refine WL.mv rfl rfl ?_
          refine WL.nilT ?_
          refine WD.takeL 34 rfl (by decide +kernel) ?_
          refine WL.gY rfl rfl ?_
          refine WL.mv rfl rfl ?_
          refine WL.nilT ?_
          refine WD.takeL 35 rfl (by decide +kernel) ?_
          refine WL.gY rfl rfl ?_
          refine WL.addK rfl rfl rfl (wrap_i64 ⟨by omega, by omega⟩) ?_
          refine WL.nilT ?_
          refine WD.oneL 36 rfl (by decide +kernel) ?_
          refine WL.gY rfl rfl ?_
          refine WL.ldAF (T := Ty) (j := 1) rfl rfl rfl rfl rfl rfl (by repeat' first | exact FL.nil | apply FL.cons) ?_
          refine WL.nilE ?_
          refine WD.oneL 37 rfl (by decide +kernel) ?_
          refine WL.gY rfl rfl ?_
          refine WL.callV rfl rfl (fun x p d => leave_zno _ _ _ _ _ _ _ _ _ _ _ _ (by first | assumption | exact RB.wide (by assumption) | exact In.rb (by assumption) | exact rb_at 0 rfl p d | exact rb_at 1 rfl p d | exact rb_at 2 rfl p d | exact rb_at 3 rfl p d | exact rb_at 4 rfl p d | exact rb_at 5 rfl p d) (by first | assumption | rfl) (by first | assumption | omega | decide) (by first | assumption | exact .inl (by assumption) | exact .inr (by first | omega | decide) | exact .inl rfl)) ?_
          refine WL.nilE ?_
          refine WD.takeL 38 rfl (by decide +kernel) ?_
          refine WL.pickF rfl rfl rfl ?_
          refine WL.nilT ?_
          refine WD.doneF hσ1 (by decide +kernel) (by repeat' first | exact FL.nil | apply FL.cons) ?_
          refine W.sub ?_ (cut b3 trivial)
          exact ⟨rfl, rfl, rfl, rfl, rfl, rfl, rfl, rfl, rfl, rfl, trivial⟩
        · refine WL.gF rfl rfl (by omega) ?_
          refine WL.ld (T := Ty) (j := 2) rfl rfl rfl rfl rfl (by assumption) ?_
          refine WL.nilE ?_
          refine WD.oneL 12 rfl (by decide +kernel) ?_
          refine WL.gF rfl rfl (by omega) ?_
          refine WL.ldN (T := Ty) (j := 1) rfl rfl rfl rfl rfl rfl ?_
          refine WL.nilE ?_
          refine WD.takeL 16 rfl (by decide +kernel) ?_
          refine WL.gF rfl rfl (by omega) ?_
          refine WL.neq rfl rfl rfl ?_
          refine WL.nilT ?_
          refine WD.takeL 17 rfl (by decide +kernel) ?_
          refine WL.pickFp rfl rfl (by omega) rfl ?_
          refine WL.nilT ?_
          refine WD.takeL 18 rfl (by decide +kernel) ?_
          refine WL.mv rfl rfl ?_
          refine WL.nilT ?_
          refine WD.takeL 19 rfl (by decide +kernel) ?_
          refine WL.gF rfl rfl (by omega) ?_
          refine WL.mv rfl rfl ?_
          refine WL.nilT ?_
          refine WD.takeL 20 rfl (by decide +kernel) ?_
          refine WL.gF rfl rfl (by omega) ?_
          refine WL.mv rfl rfl ?_
          refine WL.nilT ?_
          refine WD.takeL 21 rfl (by decide +kernel) ?_
          refine WL.gF rfl rfl (by omega) ?_
          refine WL.mv rfl rfl ?_
          refine WL.nilT ?_
          refine WD.oneL 22 rfl (by decide +kernel) ?_
          refine WL.gF rfl rfl (by omega) ?_
          refine WL.callM 4 rfl rfl rfl (fun x p d => take_z _ _ _ _ _ _ (by first | assumption | rfl) (by first | assumption | rfl) (by first | assumption | omega | decide) (by first | assumption | rfl) (by first | assumption | omega | decide) (by first | assumption | omega | decide)) (by repeat' first | exact FL.nil | apply FL.cons) ?_
          refine WL.nilE ?_
          refine WD.takeL 23 rfl (by decide +kernel) ?_
          refine WL.gF rfl rfl (by omega) ?_
          refine WL.not rfl rfl ?_
          refine WL.nilT ?_
          refine WD.takeL 24 rfl (by decide +kernel) ?_
          refine WL.pickFp rfl rfl (by omega) rfl ?_
          refine WL.nilT ?_
          refine WD.takeL 25 rfl (by decide +kernel) ?_
          refine WL.mv rfl rfl ?_
          refine WL.nilT ?_
          refine WD.takeL 26 rfl (by decide +kernel) ?_
          refine WL.gY rfl rfl ?_
          refine WL.mv rfl rfl ?_
          refine WL.nilT ?_
          refine WD.takeL 27 rfl (by decide +kernel) ?_
          refine WL.gY rfl rfl ?_
          refine WL.mv rfl rfl ?_
          refine WL.nilT ?_
          refine WD.takeL 28 rfl (by decide +kernel) ?_
          refine WL.gY rfl rfl ?_
          refine WL.mv rfl rfl ?_
          refine WL.nilT ?_
          refine WD.oneL 29 rfl (by decide +kernel) ?_
          refine WL.gY rfl rfl ?_
          refine WL.callV rfl rfl (fun x p d => take_zno _ _ _ _ _ _ (by first | assumption | exact RB.wide (by assumption) | exact In.rb (by assumption) | exact rb_at 0 rfl p d | exact rb_at 1 rfl p d | exact rb_at 2 rfl p d | exact rb_at 3 rfl p d | exact rb_at 4 rfl p d | exact rb_at 5 rfl p d) (by first | assumption | rfl) (by first | assumption | omega | decide) (by first | assumption | rfl)) ?_
          refine WL.nilE ?_
          refine WD.takeL 30 rfl (by decide +kernel) ?_
          refine WL.pickF rfl rfl rfl ?_
          refine WL.nilT ?_
          refine WD.takeL 31 rfl (by decide +kernel) ?_
          refine WL.mv rfl rfl ?_
          refine WL.nilT ?_
          refine WD.takeL 32 rfl (by decide +kernel) ?_
          refine WL.gY rfl rfl ?_
          refine WL.mv rfl rfl ?_
          refine WL.nilT ?_
          refine WD.takeL 33 rfl (by decide +kernel) ?_
          refine WL.gY rfl rfl ?_
          refine WL.mv rfl rfl ?_
          refine WL.nilT ?_
          refine WD.takeL 34 rfl (by decide +kernel) ?_
          refine WL.gY rfl rfl ?_
          refine WL.mv rfl rfl ?_
          refine WL.nilT ?_
          refine WD.takeL 35 rfl (by decide +kernel) ?_
          refine WL.gY rfl rfl ?_
          refine WL.addK rfl rfl rfl (wrap_i64 ⟨by omega, by omega⟩) ?_
          refine WL.nilT ?_
          refine WD.oneL 36 rfl (by decide +kernel) ?_
          refine WL.gY rfl rfl ?_
          refine WL.ldAF (T := Ty) (j := 1) rfl rfl rfl rfl rfl rfl (by repeat' first | exact FL.nil | apply FL.cons) ?_
          refine WL.nilE ?_
          refine WD.oneL 37 rfl (by decide +kernel) ?_
          refine WL.gY rfl rfl ?_
          refine WL.callV rfl rfl (fun x p d => leave_zno _ _ _ _ _ _ _ _ _ _ _ _ (by first | assumption | exact RB.wide (by assumption) | exact In.rb (by assumption) | exact rb_at 0 rfl p d | exact rb_at 1 rfl p d | exact rb_at 2 rfl p d | exact rb_at 3 rfl p d | exact rb_at 4 rfl p d | exact rb_at 5 rfl p d) (by first | assumption | rfl) (by first | assumption | omega | decide) (by first | assumption | exact .inl (by assumption) | exact .inr (by first | omega | decide) | exact .inl rfl)) ?_
          refine WL.nilE ?_
          refine WD.takeL 38 rfl (by decide +kernel) ?_
          refine WL.pickF rfl rfl rfl ?_
          refine WL.nilT ?_
          refine WD.doneF hσ1 (by decide +kernel) (by repeat' first | exact FL.nil | apply FL.cons) ?_
          refine W.sub ?_ (cut b3 trivial)
          exact ⟨rfl, rfl, rfl, rfl, rfl, rfl, rfl, rfl, rfl, rfl, trivial⟩
      · refine WL.gY rfl rfl ?_
        refine WL.ld (T := Ty) (j := 3) rfl rfl rfl rfl rfl (by assumption) ?_
        refine WL.nilE ?_
        refine WD.oneL 4 rfl (by decide +kernel) ?_
        refine WL.gY rfl rfl ?_
        refine WL.ldN (T := Ty) (j := 1) rfl rfl rfl rfl rfl rfl ?_
        refine WL.nilE ?_
        refine WD.takeL 8 rfl (by decide +kernel) ?_
        refine WL.gY rfl rfl ?_
        refine WL.neq rfl rfl rfl ?_
        refine WL.nilT ?_
        refine WD.takeL 9 rfl (by decide +kernel) ?_
        refine WL.pickF rfl rfl rfl ?_
        refine WL.nilT ?_
        refine WD.takeL 10 rfl (by decide +kernel) ?_
        refine WL.mv rfl rfl ?_
        refine WL.nilT ?_
        refine WD.takeL 11 rfl (by decide +kernel) ?_
        refine WL.gF rfl rfl (by omega) ?_
        refine WL.faN (T := Ty) (off' := 2) rfl rfl rfl rfl rfl rfl rfl ?_
        refine WL.nilT ?_
        refine WD.takeL 13 rfl (by decide +kernel) ?_
        refine WL.gF rfl rfl (by omega) ?_
        refine WL.mv rfl rfl ?_
        refine WL.nilT ?_
        refine WD.takeL 14 rfl (by decide +kernel) ?_
        refine WL.gF rfl rfl (by omega) ?_
        refine WL.ixA (T := Ty) rfl rfl rfl rfl rfl (by omega) (by first | omega | decide +kernel) ?_
        refine WL.nilT ?_
        refine WD.twoL 12 15 rfl rfl (by decide +kernel) ?_ ?_
        · refine WL.gF rfl rfl (by omega) ?_
          refine WL.ldN (T := Ty) (j := 1) rfl rfl rfl rfl rfl rfl ?_
          refine WL.nilE ?_
          refine WD.oneL 15 rfl (by decide +kernel) ?_
          refine WL.gF rfl rfl (by omega) ?_
          refine WL.ld (T := Ty) (j := 2) rfl rfl rfl rfl rfl (by assumption) ?_
          refine WL.nilE ?_
          refine WD.takeL 16 rfl (by decide +kernel) ?_
          refine WL.gF rfl rfl (by omega) ?_
          refine WL.neq rfl rfl rfl ?_
          refine WL.nilT ?_
          refine WD.takeL 17 rfl (by decide +kernel) ?_
          refine WL.pickFp rfl rfl (by omega) rfl ?_
          refine WL.nilT ?_
          refine WD.takeL 18 rfl (by decide +kernel) ?_
          refine WL.mv rfl rfl ?_
          refine WL.nilT ?_
          refine WD.takeL 19 rfl (by decide +kernel) ?_
          refine WL.gF rfl rfl (by omega) ?_
          refine WL.mv rfl rfl ?_
          refine WL.nilT ?_
          refine WD.takeL 20 rfl (by decide +kernel) ?_
          refine WL.gF rfl rfl (by omega) ?_
          refine WL.mv rfl rfl ?_
          refine WL.nilT ?_
          refine WD.takeL 21 rfl (by decide +kernel) ?_
          refine WL.gF rfl rfl (by omega) ?_
          refine WL.mv rfl rfl ?_
          refine WL.nilT ?_
          refine WD.oneL 22 rfl (by decide +kernel) ?_
          refine WL.gF rfl rfl (by omega) ?_
          refine WL.callM 4 rfl rfl rfl (fun x p d => take_z _ _ _ _ _ _ (by first | assumption | rfl) (by first | assumption | rfl) (by first | assumption | omega | decide) (by first | assumption | rfl) (by first | assumption | omega | decide) (by first | assumption | omega | decide)) (by repeat' first | exact FL.nil | apply FL.cons) ?_
          refine WL.nilE ?_
          refine WD.takeL 23 rfl (by decide +kernel) ?_
          refine WL.gF rfl rfl (by omega) ?_
          refine WL.not rfl rfl ?_
          refine WL.nilT ?_
          refine WD.takeL 24 rfl (by decide +kernel) ?_
          refine WL.pickFp rfl rfl (by omega) rfl ?_
          refine WL.nilT ?_
          refine WD.takeL 25 rfl (by decide +kernel) ?_
          refine WL.mv rfl rfl ?_
          refine WL.nilT ?_
          refine WD.takeL 26 rfl (by decide +kernel) ?_
          refine WL.gY rfl rfl ?_
          refine WL.mv rfl rfl ?_
          refine WL.nilT ?_
          refine WD.takeL 27 rfl (by decide +kernel) ?_
          refine WL.gY rfl rfl ?_
          refine WL.mv rfl rfl ?_
          refine WL.nilT ?_
          refine WD.takeL 28 rfl (by decide +kernel) ?_
          refine WL.gY rfl rfl ?_
          refine WL.mv rfl rfl ?_
          refine WL.nilT ?_
          refine WD.oneL 29 rfl (by decide +kernel) ?_
          refine WL.gY rfl rfl ?_
          refine WL.callV rfl rfl (fun x p d => take_zno _ _ _ _ _ _ (by first | assumption | exact RB.wide (by assumption) | exact In.rb (by assumption) | exact rb_at 0 rfl p d | exact rb_at 1 rfl p d | exact rb_at 2 rfl p d | exact rb_at 3 rfl p d | exact rb_at 4 rfl p d | exact rb_at 5 rfl p d) (by first | assumption | rfl) (by first | assumption | omega | decide) (by first | assumption | rfl)) ?_
          refine WL.nilE ?_
          refine WD.takeL 30 rfl (by decide +kernel) ?_
          refine WL.pickF rfl rfl rfl ?_
          refine WL.nilT ?_
          refine WD.takeL 31 rfl (by decide +kernel) ?_
          refine WL.mv rfl rfl ?_
          refine WL.nilT ?_
          refine WD.takeL 32 rfl (by decide +kernel) ?_
          refine WL.gY rfl rfl ?_
          refine WL.mv rfl rfl ?_
          refine WL.nilT ?_
          refine WD.takeL 33 rfl (by decide +kernel) ?_
          refine WL.gY rfl rfl ?_
          refine WL.mv rfl rfl ?_
          refine WL.nilT ?_
          refine WD.takeL 34 rfl (by decide +kernel) ?_
          refine WL.gY rfl rfl ?_
          refine WL.mv rfl rfl ?_
          refine WL.nilT ?_
          refine WD.takeL 35 rfl (by decide +kernel) ?_
          refine WL.gY rfl rfl ?_
          refine WL.addK rfl rfl rfl (wrap_i64 ⟨by omega, by omega⟩) ?_
          refine WL.nilT ?_
          refine WD.oneL 36 rfl (by decide +kernel) ?_
          refine WL.gY rfl rfl ?_
          refine WL.ldAF (T := Ty) (j := 1) rfl rfl rfl rfl rfl rfl (by repeat' first | exact FL.nil | apply FL.cons) ?_
          refine WL.nilE ?_
          refine WD.oneL 37 rfl (by decide +kernel) ?_
          refine WL.gY rfl rfl ?_
          refine WL.callV rfl rfl (fun x p d => leave_zno _ _ _ _ _ _ _ _ _ _ _ _ (by first | assumption | exact RB.wide (by assumption) | exact In.rb (by assumption) | exact rb_at 0 rfl p d | exact rb_at 1 rfl p d | exact rb_at 2 rfl p d | exact rb_at 3 rfl p d | exact rb_at 4 rfl p d | exact rb_at 5 rfl p d) (by first | assumption | rfl) (by first | assumption | omega | decide) (by first | assumption | exact .inl (by assumption) | exact .inr (by first | omega | decide) | exact .inl rfl)) ?_
          refine WL.nilE ?_
          refine WD.takeL 38 rfl (by decide +kernel) ?_
          refine WL.pickF rfl rfl rfl ?_
          refine WL.nilT ?_
          refine WD.doneF hσ1 (by decide +kernel) (by repeat' first | exact FL.nil | apply FL.cons) ?_
          refine W.sub ?_ (cut b3 trivial)
          exact ⟨rfl, rfl, rfl, rfl, rfl, rfl, rfl, rfl, rfl, rfl, trivial⟩
        · refine WL.gF rfl rfl (by omega) ?_
          refine WL.ld (T := Ty) (j := 2) rfl rfl rfl rfl rfl (by assumption) ?_
          refine WL.nilE ?_
          refine WD.oneL 12 rfl (by decide +kernel) ?_
          refine WL.gF rfl rfl (by omega) ?_
          refine WL.ldN (T := Ty) (j := 1) rfl rfl rfl rfl rfl rfl ?_
          refine WL.nilE ?_
          refine WD.takeL 16 rfl (by decide +kernel) ?_
          refine WL.gF rfl rfl (by omega) ?_
          refine WL.neq rfl rfl rfl ?_
          refine WL.nilT ?_
          refine WD.takeL 17 rfl (by decide +kernel) ?_
          refine WL.pickFp rfl rfl (by omega) rfl ?_
          refine WL.nilT ?_
          refine WD.takeL 18 rfl (by decide +kernel) ?_
          refine WL.mv rfl rfl ?_
          refine WL.nilT ?_
          refine WD.takeL 19 rfl (by decide +kernel) ?_
          refine WL.gF rfl rfl (by omega) ?_
          refine WL.mv rfl rfl ?_
          refine WL.nilT ?_
          refine WD.takeL 20 rfl (by decide +kernel) ?_
          refine WL.gF rfl rfl (by omega) ?_
          refine WL.mv rfl rfl ?_
          refine WL.nilT ?_
          refine WD.takeL 21 rfl (by decide +kernel) ?_
          refine WL.gF rfl rfl (by omega) ?_
          refine WL.mv rfl rfl ?_
          refine WL.nilT ?_
          refine WD.oneL 22 rfl (by decide +kernel) ?_
          refine WL.gF rfl rfl (by omega) ?_
          refine WL.callM 4 rfl rfl rfl (fun x p d => take_z _ _ _ _ _ _ (by first | assumption | rfl) (by first | assumption | rfl) (by first | assumption | omega | decide) (by first | assumption | rfl) (by first | assumption | omega | decide) (by first | assumption | omega | decide)) (by repeat' first | exact FL.nil | apply FL.cons) ?_
          refine WL.nilE ?_
          refine WD.takeL 23 rfl (by decide +kernel) ?_
          refine WL.gF rfl rfl (by omega) ?_
          refine WL.not rfl rfl ?_
          refine WL.nilT ?_
          refine WD.takeL 24 rfl (by decide +kernel) ?_
          refine WL.pickFp rfl rfl (by omega) rfl ?_
          refine WL.nilT ?_
          refine WD.takeL 25 rfl (by decide +kernel) ?_
          refine WL.mv rfl rfl ?_
          refine WL.nilT ?_
          refine WD.takeL 26 rfl (by decide +kernel) ?_
          refine WL.gY rfl rfl ?_
          refine WL.mv rfl rfl ?_
          refine WL.nilT ?_
          refine WD.takeL 27 rfl (by decide +kernel) ?_
          refine WL.gY rfl rfl ?_
          refine WL.mv rfl rfl ?_
          refine WL.nilT ?_
          refine WD.takeL 28 rfl (by decide +kernel) ?_
          refine WL.gY rfl rfl ?_
          refine WL.mv rfl rfl ?_
          refine WL.nilT ?_
          refine WD.oneL 29 rfl (by decide +kernel) ?_
          refine WL.gY rfl rfl ?_
          refine WL.callV rfl rfl (fun x p d => take_zno _ _ _ _ _ _ (by first | assumption | exact RB.wide (by assumption) | exact In.rb (by assumption) | exact rb_at 0 rfl p d | exact rb_at 1 rfl p d | exact rb_at 2 rfl p d | exact rb_at 3 rfl p d | exact rb_at 4 rfl p d | exact rb_at 5 rfl p d) (by first | assumption | rfl) (by first | assumption | omega | decide) (by first | assumption | rfl)) ?_
          refine WL.nilE ?_
          refine WD.takeL 30 rfl (by decide +kernel) ?_
          refine WL.pickF rfl rfl rfl ?_
          refine WL.nilT ?_
          refine WD.takeL 31 rfl (by decide +kernel) ?_
          refine WL.mv rfl rfl ?_
          refine WL.nilT ?_
          refine WD.takeL 32 rfl (by decide +kernel) ?_
          refine WL.gY rfl rfl ?_
          refine WL.mv rfl rfl ?_
          refine WL.nilT ?_
          refine WD.takeL 33 rfl (by decide +kernel) ?_
          refine WL.gY rfl rfl ?_
          refine WL.mv rfl rfl ?_
          refine WL.nilT ?_
          refine WD.takeL 34 rfl (by decide +kernel) ?_
          refine WL.gY rfl rfl ?_
          refine WL.mv rfl rfl ?_
          refine WL.nilT ?_
          refine WD.takeL 35 rfl (by decide +kernel) ?_
          refine WL.gY rfl rfl ?_
          refine WL.addK rfl rfl rfl (wrap_i64 ⟨by omega, by omega⟩) ?_
          refine WL.nilT ?_
          refine WD.oneL 36 rfl (by decide +kernel) ?_
          refine WL.gY rfl rfl ?_
          refine WL.ldAF (T := Ty) (j := 1) rfl rfl rfl rfl rfl rfl (by repeat' first | exact FL.nil | apply FL.cons) ?_
          refine WL.nilE ?_
          refine WD.oneL 37 rfl (by decide +kernel) ?_
          refine WL.gY rfl rfl ?_
          refine WL.callV rfl rfl (fun x p d => leave_zno _ _ _ _ _ _ _ _ _ _ _ _ (by first | assumption | exact RB.wide (by assumption) | exact In.rb (by assumption) | exact rb_at 0 rfl p d | exact rb_at 1 rfl p d | exact rb_at 2 rfl p d | exact rb_at 3 rfl p d | exact rb_at 4 rfl p d | exact rb_at 5 rfl p d) (by first | assumption | rfl) (by first | assumption | omega | decide) (by first | assumption | exact .inl (by assumption) | exact .inr (by first | omega | decide) | exact .inl rfl)) ?_
          refine WL.nilE ?_
          refine WD.takeL 38 rfl (by decide +kernel) ?_
          refine WL.pickF rfl rfl rfl ?_
          refine WL.nilT ?_
          refine WD.doneF hσ1 (by decide +kernel) (by repeat' first | exact FL.nil | apply FL.cons) ?_
          refine W.sub ?_ (cut b3 trivial)
          exact ⟨rfl, rfl, rfl, rfl, rfl, rfl, rfl, rfl, rfl, rfl, trivial⟩
  · rcases (by omega : ¬ i < z0.length ∨ (i < z0.length ∧ ¬ i < 60)) with hlt | ⟨hlt, h60⟩
    · refine W.seq ?_
      refine W.seq ?_
      refine W.region ?_
      refine WL.mv rfl rfl ?_
      refine WL.mv rfl rfl ?_
      refine WL.len (T := Ty) rfl rfl (by assumption) rfl ?_
      refine WL.lss rfl rfl rfl ?_
      refine WL.mv rfl rfl ?_
      refine WL.gdTn rfl rfl rfl rfl rfl (by omega) ?_
      refine WL.gdTn rfl rfl rfl rfl rfl (by omega) ?_
      refine WL.pickFp rfl rfl (by omega) rfl ?_
      refine WL.nil ?_
      refine W.condF rfl ?_
      refine W.exit rfl ?_
      refine W.sub ?_ (cut0 L ⟨h16, fun p hp => ⟨(hL p hp).2.1, (hL p hp).2.2.2⟩⟩)
      exact ⟨rfl, rfl, rfl, rfl, trivial⟩
    · refine W.seq ?_
      refine W.seq ?_
      refine W.region ?_
      refine WL.mv rfl rfl ?_
      refine WL.mv rfl rfl ?_
      refine WL.len (T := Ty) rfl rfl (by assumption) rfl ?_
      refine WL.lss rfl rfl rfl ?_
      refine WL.mv rfl rfl ?_
      refine WL.gT rfl rfl (by omega) ?_
      refine WL.mv rfl rfl ?_
      refine WL.gT rfl rfl (by omega) ?_
      refine WL.lss rfl rfl rfl ?_
      refine WL.pickTp rfl rfl (by omega) rfl ?_
      refine WL.nil ?_
      refine W.condpF rfl (by omega) ?_
      refine W.exit rfl ?_
      refine W.sub ?_ (cut0 L ⟨h16, fun p hp => ⟨(hL p hp).2.1, (hL p hp).2.2.2⟩⟩)
      exact ⟨rfl, rfl, rfl, rfl, trivial⟩
end Go.Proofs.Ytlmhjkbbooghfaa
