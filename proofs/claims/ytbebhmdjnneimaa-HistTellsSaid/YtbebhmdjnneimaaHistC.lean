/- hist: where each op was first called. -/
import Derived.Test.YtbebhmdjnneimaaStc
import Derived.Test.YtbebhmdjnneimaaNum
import Derived.Test.YtbebhmdjnneimaaTab
import Derived.Test.YtbebhmdjnneimaaHistLaw
set_option linter.unusedSimpArgs false
set_option linter.unusedVariables false
set_option maxRecDepth 20000
set_option maxHeartbeats 4000000
namespace Go.Proofs.Ytbebhmdjnneimaa
open Go
attribute [local irreducible] W WL Fn Buf ROs SL eptr box Rd Src bndOK WD RB Reads In Own Pm
theorem pkT63 : ∃ f0 f1, PkT Ty 63 .i64 f0 f1 := ⟨_, _, ⟨_, _, _, _, rfl⟩, by decide, by decide, rfl, rfl, ⟨_, rfl, rfl⟩, ⟨_, rfl, rfl⟩, by kernel_rfl⟩
theorem calls_open {r : Value} {l : List (PK × Value)} {h : Hp} (q : ∃ b, r = .map (some b) ∧ Pm .i64 b l h) : ∃ b, r = .map (some b) ∧ sepl [Pm .i64 b l] h := by
 obtain ⟨b, e, o⟩ := q
 exact ⟨b, e, sepl_one.2 o⟩
theorem calls_c (ρ : Hp) (v : Value) (L : List (Evt × Value)) (r0 : ROs ρ 14 v (L.flatMap evC)) (h0 : ∀ p ∈ L, SL p.2 p.1.res.list.length) (hl : L.length ≤ 1000) :
    Fn Try.prog 60 #[v] ρ [] (fun r h => ∃ b, r = .map (some b) ∧ Pm .i64 b (cks L L.length) h) := by
  have s0 : SL v L.length := r0.sl (evs_cells L) (by omega)
  refine in60 rfl rfl ?_
  refine W.seq (W.region (WL.as rfl rfl (WL.nil (W.seq (W.region ?_)))))
  refine WL.mkPm .i64 rfl (fun b => ?_)
  refine WL.as rfl rfl (WL.nil (W.seq (W.seq (W.region (WL.mv rfl rfl ?_)))))
  refine WL.len (T := Ty) rfl rfl (by assumption) rfl ?_
  refine WL.mv rfl rfl (WL.nil (W.block ?_))
  refine W.loopR (σ := Nat) (fun i => [(3, .map (some b)), (10, v), (11, .int .i64 (L.length : Int)), (12, .int .i64 (i : Int))]) (fun i => [Pm .i64 b (cks L i)]) (fun i ρ' => i ≤ L.length) (fun i => L.length - i)
    0 ⟨rfl, rfl, rfl, rfl, trivial⟩ rfl (Nat.zero_le _) ?_
  intro i ρ1 le1 hi next
  replace r0 := r0.mono le1
  by_cases hc : i < L.length
  · obtain ⟨⟨e, w⟩, he⟩ : ∃ e, L[i]? = some e := ⟨_, List.getElem?_eq_getElem hc⟩
    have l1 := evs_cells L
    have hrow : ((L.flatMap evC).drop (((i : Nat) : Int).toNat * 14)).take 14 = evC (e, w) := flat_row ev_len he
    have sw := h0 _ (List.mem_of_getElem? he)
    dsimp only at sw
    obtain ⟨f0, f1, hpk⟩ := pkT63 
    have hstep : cks L (i + 1) = if e.kind = 1 ∧ pget (cks L i) (e.who, e.n) = none then pset (cks L i) (e.who, e.n) (.int .i64 (i : Int)) else cks L i := by simp only [cks, he]
    unfold evC at hrow
    dsimp only at hrow
    refine W.seq (W.region (WL.lss rfl rfl rfl (WL.nil (W.seq (W.condpT rfl (by omega) (W.skip (W.seq (W.block (W.seq (W.region (WL.mv rfl rfl ?_)))))))))))
    refine WL.ix (T := Ty) rfl rfl rfl (by assumption) rfl rfl (by omega) (by first | omega | decide +kernel) ?_
    refine WL.ldAR (T := Ty) rfl rfl rfl rfl (by first | assumption | exact ROs.wide (by assumption)) (by assumption) rfl ?_
    refine WL.alF (T := Ty) rfl rfl (by repeat' constructor) (fun b0 => ?_)
    refine WL.as rfl rfl ?_
    refine WL.stAO (T := Ty) (j := 0) rfl rfl rfl rfl (by repeat' first | exact AO.nil | apply AO.cons (by first | rfl | exact SL.one (by assumption))) rfl rfl (by repeat' constructor) (by repeat' constructor) ?_
    refine WL.nil (W.seq (W.region (WL.faN (T := Ty) (off' := 1) rfl rfl rfl rfl rfl rfl rfl (WL.ldN (T := Ty) (j := 0) rfl rfl rfl rfl rfl rfl (WL.faN (T := Ty) (off' := 2) rfl rfl rfl rfl rfl rfl rfl (WL.ldN (T := Ty) (j := 0) rfl rfl rfl rfl rfl rfl ?_))))))
    refine WL.bdC (T := Ty) rfl rfl rfl rfl (by repeat' first | exact CO.nil | apply CO.one (by first | rfl | exact SL.one (by assumption)) | apply CO.agg) rfl (by repeat' constructor) ?_
    refine WL.alF (T := Ty) rfl rfl (by repeat' constructor) (fun b1 => ?_)
    refine WL.stAO (T := Ty) (j := 0) rfl rfl rfl rfl (by repeat' first | exact AO.nil | apply AO.cons (by first | rfl | exact SL.one (by assumption))) rfl rfl (by repeat' constructor) (by repeat' constructor) ?_
    refine WL.nil (W.seq (W.region (WL.mv rfl rfl ?_)))
    refine WL.ldAF (T := Ty) (j := 0) rfl rfl rfl rfl rfl rfl (by repeat' constructor) ?_
    by_cases hk : e.kind = 1
    · cases hg : pget (cks L i) (e.who, e.n) with
      | none =>
        rw [if_pos ⟨hk, hg⟩] at hstep
        refine WL.luPO (T := Ty) (K := .i64) (q := (e.who, e.n)) (kvs := cks L i) (j := 2) rfl rfl rfl rfl hpk rfl rfl (by rw [hg]) ?_
        refine WL.mv rfl rfl (WL.extL rfl rfl rfl (WL.extL rfl rfl rfl (WL.as rfl rfl (WL.as rfl rfl (WL.nil (W.seq (W.region (WL.faN (T := Ty) (off' := 0) rfl rfl rfl rfl rfl rfl rfl (WL.ldN (T := Ty) (j := 1) rfl rfl rfl rfl rfl rfl (WL.eql rfl rfl rfl (WL.mv rfl rfl (WL.gT rfl rfl (by omega) (WL.mv rfl rfl ?_)))))))))))))
        refine WL.gT rfl rfl (by omega) (WL.not rfl rfl (WL.pickTp rfl rfl (by omega) rfl (WL.nil (W.condT rfl (W.region (WL.mv rfl rfl ?_))))))
        refine WL.ldAF (T := Ty) (j := 0) rfl rfl rfl rfl rfl rfl (by repeat' constructor) ?_
        refine WL.mv rfl rfl ?_
        refine WL.muPO (T := Ty) (K := .i64) (q := (e.who, e.n)) (kvs := cks L i) (kvs' := cks L (i + 1)) (j := 2) rfl rfl rfl rfl hpk rfl hstep.symm (by repeat' constructor) ?_
        refine WL.nil (W.inBlock (W.region (WL.addK rfl rfl rfl (wrap_i64 ⟨by omega, by omega⟩) (WL.mv rfl rfl (WL.nil ?_)))))
        refine W.fit (Hs' := [Pm .i64 b _]) (by (repeat' first | exact Sel.nil | apply Sel.k | exact Pick.h | apply Pick.t)) (W.sub ?_ (next (i + 1) ρ1 (Le.refl _) hc (by omega)))
        exact ⟨rfl, rfl, rfl, rfl, trivial⟩
      | some u =>
        rw [if_neg (fun h => by rw [hg] at h; cases h.2)] at hstep
        refine WL.luPO (T := Ty) (K := .i64) (q := (e.who, e.n)) (kvs := cks L i) (j := 2) rfl rfl rfl rfl hpk rfl rfl (by rw [hg]) ?_
        rw [← hstep]
        refine WL.mv rfl rfl (WL.extL rfl rfl rfl (WL.extL rfl rfl rfl (WL.as rfl rfl (WL.as rfl rfl (WL.nil (W.seq (W.region (WL.faN (T := Ty) (off' := 0) rfl rfl rfl rfl rfl rfl rfl (WL.ldN (T := Ty) (j := 1) rfl rfl rfl rfl rfl rfl (WL.eql rfl rfl rfl (WL.mv rfl rfl (WL.gT rfl rfl (by omega) (WL.mv rfl rfl ?_)))))))))))))
        refine WL.gT rfl rfl (by omega) (WL.not rfl rfl (WL.pickTp rfl rfl (by omega) rfl (WL.nil (W.condF rfl (W.skip (W.inBlock (W.region (WL.addK rfl rfl rfl (wrap_i64 ⟨by omega, by omega⟩) (WL.mv rfl rfl (WL.nil ?_))))))))))
        refine W.fit (Hs' := [Pm .i64 b _]) (by (repeat' first | exact Sel.nil | apply Sel.k | exact Pick.h | apply Pick.t)) (W.sub ?_ (next (i + 1) ρ1 (Le.refl _) hc (by omega)))
        exact ⟨rfl, rfl, rfl, rfl, trivial⟩
    · rw [if_neg (fun h => hk h.1)] at hstep
      refine WL.luPO (T := Ty) (K := .i64) (q := (e.who, e.n)) (kvs := cks L i) (j := 2) rfl rfl rfl rfl hpk rfl rfl rfl ?_
      rw [← hstep]
      refine WL.mv rfl rfl (WL.extL rfl rfl rfl (WL.extL rfl rfl rfl (WL.as rfl rfl (WL.as rfl rfl (WL.nil (W.seq (W.region (WL.faN (T := Ty) (off' := 0) rfl rfl rfl rfl rfl rfl rfl (WL.ldN (T := Ty) (j := 1) rfl rfl rfl rfl rfl rfl (WL.eql rfl rfl rfl (WL.mv rfl rfl (WL.gdTn rfl rfl rfl rfl rfl (by omega) (WL.gdTn rfl rfl rfl rfl rfl (by omega) ?_)))))))))))))
      refine WL.pickFp rfl rfl (by omega) rfl (WL.nil (W.condF rfl (W.skip (W.inBlock (W.region (WL.addK rfl rfl rfl (wrap_i64 ⟨by omega, by omega⟩) (WL.mv rfl rfl (WL.nil ?_))))))))
      refine W.fit (Hs' := [Pm .i64 b _]) (by (repeat' first | exact Sel.nil | apply Sel.k | exact Pick.h | apply Pick.t)) (W.sub ?_ (next (i + 1) ρ1 (Le.refl _) hc (by omega)))
      exact ⟨rfl, rfl, rfl, rfl, trivial⟩
  · have hiL : i = L.length := by omega
    subst hiL
    refine W.seq (W.region (WL.lss rfl rfl rfl (WL.nil (W.seq (W.condpF rfl (by omega) (W.exit rfl (W.seq (W.region (WL.mv rfl rfl (WL.as rfl rfl (WL.nil ?_)))))))))))
    exact W.ret1 rfl rfl (fun h q => ⟨b, rfl, sepl_one.1 q⟩)
theorem places_c (ρ : Hp) (v : Value) (L : List PK) (bc : Nat) (m : List (PK × Value)) (r0 : ROs ρ 2 v (L.flatMap (twoC .i64 .i64))) (hm : In ρ (Pm .i64 bc m)) (hl : L.length ≤ 1000) :
    Fn Try.prog 62 #[v, .map (some bc)] ρ [] (fun r h => (plo L m L.length = true ∧ ∃ b, r = .tuple #[.map (some b), .bool true] ∧ Pm .i64 b (pls L L.length) h) ∨ (plo L m L.length = false ∧ Just (.tuple #[.map none, .bool false]) r h)) := by
  have l1 : (L.flatMap (twoC .i64 .i64)).length = L.length * 2 := two_len L
  have s0 : SL v L.length := r0.sl l1 (by omega)
  obtain ⟨f0, f1, hpk⟩ := pkT63
  refine in62 rfl rfl ?_
  refine W.seq (W.region (WL.as rfl rfl (WL.as rfl rfl (WL.nil (W.seq (W.region ?_))))))
  refine WL.mkPm .i64 rfl (fun b => ?_)
  refine WL.as rfl rfl (WL.nil (W.seq (W.seq (W.region (WL.mv rfl rfl ?_)))))
  refine WL.len (T := Ty) rfl rfl (by assumption) rfl ?_
  refine WL.mv rfl rfl (WL.nil (W.block ?_))
  refine W.loopR (σ := Nat) (fun i => [(1, .map (some bc)), (6, .map (some b)), (14, v), (15, .int .i64 (L.length : Int)), (16, .int .i64 (i : Int))]) (fun i => [Pm .i64 b (pls L i)]) (fun i ρ' => i ≤ L.length ∧ plo L m i = true) (fun i => L.length - i)
    0 ⟨rfl, rfl, rfl, rfl, rfl, trivial⟩ rfl ⟨Nat.zero_le _, rfl⟩ ?_
  rintro i ρ1 le1 ⟨hi, hok⟩ next
  replace r0 := r0.mono le1
  replace hm := hm.mono le1
  by_cases hc : i < L.length
  · obtain ⟨p, hp⟩ : ∃ p, L[i]? = some p := ⟨_, List.getElem?_eq_getElem hc⟩
    have hrow : ((L.flatMap (twoC .i64 .i64)).drop (((i : Nat) : Int).toNat * 2)).take 2 = twoC .i64 .i64 p := flat_row (k := 2) (fun _ => rfl) hp
    unfold twoC at hrow
    have hstep : pls L (i + 1) = pset (pls L i) p (.int .i64 (i : Int)) := by simp only [pls, hp]
    have hsok : plo L m (i + 1) = (plo L m i && ((pget m p).isSome && !(pget (pls L i) p).isSome)) := by simp only [plo, hp]
    refine W.seq (W.region (WL.lss rfl rfl rfl (WL.nil (W.seq (W.condpT rfl (by omega) (W.skip (W.seq (W.block (W.seq (W.region (WL.mv rfl rfl ?_)))))))))))
    refine WL.ix (T := Ty) rfl rfl rfl (by assumption) rfl rfl (by omega) (by first | omega | decide +kernel) ?_
    refine WL.ldAR (T := Ty) rfl rfl rfl rfl (by first | assumption | exact ROs.wide (by assumption)) (by assumption) rfl ?_
    refine WL.alF (T := Ty) rfl rfl (by repeat' constructor) (fun b0 => ?_)
    refine WL.as rfl rfl ?_
    refine WL.stAO (T := Ty) (j := 0) rfl rfl rfl rfl (by repeat' first | exact AO.nil | apply AO.cons (by first | rfl | exact SL.one (by assumption))) rfl rfl (by repeat' constructor) (by repeat' constructor) ?_
    refine WL.nil (W.seq (W.region (WL.mv rfl rfl ?_)))
    refine WL.ldAF (T := Ty) (j := 0) rfl rfl rfl rfl rfl rfl (by repeat' constructor) ?_
    cases h1 : pget m p with
    | none =>
      cases h2 : pget (pls L i) p with
      | none =>
        have hf : plo L m L.length = false := by
          have := plo_false (l := L) (m := m) (i := i + 1) (by rw [hsok, h1, h2]; simp) (L.length - (i + 1))
          rwa [show i + 1 + (L.length - (i + 1)) = L.length by omega] at this
        refine WL.luPO (T := Ty) (K := .i64) (q := p) (kvs := pls L i) (j := 1) rfl rfl rfl rfl hpk rfl rfl (by rw [h2]) ?_
        refine WL.mv rfl rfl (WL.extL rfl rfl rfl (WL.extL rfl rfl rfl (WL.as rfl rfl (WL.as rfl rfl (WL.nil (W.seq (W.seq (W.region (WL.mv rfl rfl ?_)))))))))
        refine WL.ldAF (T := Ty) (j := 0) rfl rfl rfl rfl rfl rfl (by repeat' constructor) ?_
        refine WL.luPR (T := Ty) (K := .i64) (q := p) (kvs := m) rfl rfl rfl rfl hpk rfl hm (by rw [h1]) ?_
        refine WL.mv rfl rfl (WL.extL rfl rfl rfl (WL.extL rfl rfl rfl (WL.as rfl rfl (WL.as rfl rfl (WL.nil (W.seq (W.region (WL.mv rfl rfl (WL.not rfl rfl (WL.mv rfl rfl (WL.gdN rfl rfl rfl rfl rfl rfl (WL.pickT rfl rfl rfl (WL.nil ?_)))))))))))))
        refine W.condT rfl (W.seq (W.region (WL.as rfl rfl (WL.as rfl rfl (WL.nil ?_)))))
        exact W.fit (Hs' := []) (by (repeat' first | exact Sel.nil | apply Sel.k | exact Pick.h | apply Pick.t)) (W.ret2 rfl rfl rfl (fun h q => .inr ⟨hf, rfl, q⟩))
      | some u =>
        have hf : plo L m L.length = false := by
          have := plo_false (l := L) (m := m) (i := i + 1) (by rw [hsok, h1, h2]; simp) (L.length - (i + 1))
          rwa [show i + 1 + (L.length - (i + 1)) = L.length by omega] at this
        refine WL.luPO (T := Ty) (K := .i64) (q := p) (kvs := pls L i) (j := 1) rfl rfl rfl rfl hpk rfl rfl (by rw [h2]) ?_
        refine WL.mv rfl rfl (WL.extL rfl rfl rfl (WL.extL rfl rfl rfl (WL.as rfl rfl (WL.as rfl rfl (WL.nil (W.seq (W.seq (W.region (WL.mv rfl rfl ?_)))))))))
        refine WL.ldAF (T := Ty) (j := 0) rfl rfl rfl rfl rfl rfl (by repeat' constructor) ?_
        refine WL.luPR (T := Ty) (K := .i64) (q := p) (kvs := m) rfl rfl rfl rfl hpk rfl hm (by rw [h1]) ?_
        refine WL.mv rfl rfl (WL.extL rfl rfl rfl (WL.extL rfl rfl rfl (WL.as rfl rfl (WL.as rfl rfl (WL.nil (W.seq (W.region (WL.mv rfl rfl (WL.not rfl rfl (WL.mv rfl rfl (WL.gdN rfl rfl rfl rfl rfl rfl (WL.pickT rfl rfl rfl (WL.nil ?_)))))))))))))
        refine W.condT rfl (W.seq (W.region (WL.as rfl rfl (WL.as rfl rfl (WL.nil ?_)))))
        exact W.fit (Hs' := []) (by (repeat' first | exact Sel.nil | apply Sel.k | exact Pick.h | apply Pick.t)) (W.ret2 rfl rfl rfl (fun h q => .inr ⟨hf, rfl, q⟩))
    | some u1 =>
      cases h2 : pget (pls L i) p with
      | none =>
        refine WL.luPO (T := Ty) (K := .i64) (q := p) (kvs := pls L i) (j := 1) rfl rfl rfl rfl hpk rfl rfl (by rw [h2]) ?_
        refine WL.mv rfl rfl (WL.extL rfl rfl rfl (WL.extL rfl rfl rfl (WL.as rfl rfl (WL.as rfl rfl (WL.nil (W.seq (W.seq (W.region (WL.mv rfl rfl ?_)))))))))
        refine WL.ldAF (T := Ty) (j := 0) rfl rfl rfl rfl rfl rfl (by repeat' constructor) ?_
        refine WL.luPR (T := Ty) (K := .i64) (q := p) (kvs := m) rfl rfl rfl rfl hpk rfl hm (by rw [h1]) ?_
        refine WL.mv rfl rfl (WL.extL rfl rfl rfl (WL.extL rfl rfl rfl (WL.as rfl rfl (WL.as rfl rfl (WL.nil (W.seq (W.region (WL.mv rfl rfl (WL.not rfl rfl (WL.mv rfl rfl (WL.gY rfl rfl (WL.mv rfl rfl (WL.pickF rfl rfl rfl ?_)))))))))))))
        refine WL.nil (W.condF rfl (W.skip (W.region (WL.mv rfl rfl ?_))))
        refine WL.ldAF (T := Ty) (j := 0) rfl rfl rfl rfl rfl rfl (by repeat' constructor) ?_
        refine WL.mv rfl rfl ?_
        refine WL.muPO (T := Ty) (K := .i64) (q := p) (kvs := pls L i) (kvs' := pls L (i + 1)) (j := 1) rfl rfl rfl rfl hpk rfl hstep.symm (by repeat' constructor) ?_
        refine WL.nil (W.inBlock (W.region (WL.addK rfl rfl rfl (wrap_i64 ⟨by omega, by omega⟩) (WL.mv rfl rfl (WL.nil ?_)))))
        refine W.fit (Hs' := [Pm .i64 b _]) (by (repeat' first | exact Sel.nil | apply Sel.k | exact Pick.h | apply Pick.t)) (W.sub ?_ (next (i + 1) ρ1 (Le.refl _) ⟨hc, by rw [hsok, hok, h1, h2]; rfl⟩ (by omega)))
        exact ⟨rfl, rfl, rfl, rfl, rfl, trivial⟩
      | some u =>
        have hf : plo L m L.length = false := by
          have := plo_false (l := L) (m := m) (i := i + 1) (by rw [hsok, h1, h2]; simp) (L.length - (i + 1))
          rwa [show i + 1 + (L.length - (i + 1)) = L.length by omega] at this
        refine WL.luPO (T := Ty) (K := .i64) (q := p) (kvs := pls L i) (j := 1) rfl rfl rfl rfl hpk rfl rfl (by rw [h2]) ?_
        refine WL.mv rfl rfl (WL.extL rfl rfl rfl (WL.extL rfl rfl rfl (WL.as rfl rfl (WL.as rfl rfl (WL.nil (W.seq (W.seq (W.region (WL.mv rfl rfl ?_)))))))))
        refine WL.ldAF (T := Ty) (j := 0) rfl rfl rfl rfl rfl rfl (by repeat' constructor) ?_
        refine WL.luPR (T := Ty) (K := .i64) (q := p) (kvs := m) rfl rfl rfl rfl hpk rfl hm (by rw [h1]) ?_
        refine WL.mv rfl rfl (WL.extL rfl rfl rfl (WL.extL rfl rfl rfl (WL.as rfl rfl (WL.as rfl rfl (WL.nil (W.seq (W.region (WL.mv rfl rfl (WL.not rfl rfl (WL.mv rfl rfl (WL.gY rfl rfl (WL.mv rfl rfl (WL.pickF rfl rfl rfl ?_)))))))))))))
        refine WL.nil (W.condT rfl (W.seq (W.region (WL.as rfl rfl (WL.as rfl rfl (WL.nil ?_))))))
        exact W.fit (Hs' := []) (by (repeat' first | exact Sel.nil | apply Sel.k | exact Pick.h | apply Pick.t)) (W.ret2 rfl rfl rfl (fun h q => .inr ⟨hf, rfl, q⟩))
  · have hiL : i = L.length := by omega
    subst hiL
    refine W.seq (W.region (WL.lss rfl rfl rfl (WL.nil (W.seq (W.condpF rfl (by omega) (W.exit rfl (W.seq (W.region (WL.mv rfl rfl (WL.as rfl rfl (WL.as rfl rfl (WL.nil ?_))))))))))))
    exact W.ret2 rfl rfl rfl (fun h q => .inl ⟨hok, b, rfl, sepl_one.1 q⟩)
end Go.Proofs.Ytbebhmdjnneimaa
