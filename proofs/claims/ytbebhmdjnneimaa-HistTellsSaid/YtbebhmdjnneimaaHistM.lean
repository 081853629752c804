/- The document's Check. -/
import Derived.Test.YtbebhmdjnneimaaStc
import Derived.Test.YtbebhmdjnneimaaNum
import Derived.Test.YtbebhmdjnneimaaTab
import Derived.Test.YtbebhmdjnneimaaHistE
import Derived.Test.YtbebhmdjnneimaaMdlRx
set_option linter.unusedSimpArgs false
set_option linter.unusedVariables false
set_option maxRecDepth 20000
set_option maxHeartbeats 4000000
namespace Go.Proofs.Ytbebhmdjnneimaa
open Go
theorem sameRst_comm (a b : Rst) : sameRst a b = sameRst b a := by
 unfold sameRst sameL
 have e1 : decide (a.err = b.err) = decide (b.err = a.err) := by congr 1; exact propext eq_comm
 have e2 : decide (a.iter = b.iter) = decide (b.iter = a.iter) := by congr 1; exact propext eq_comm
 have e3 : decide (a.list = b.list) = decide (b.list = a.list) := by congr 1; exact propext eq_comm
 rw [e1, e2, e3]
theorem pix_ex (l : List PK) (p : PK) : ∀ n i, i < n → l[i]? = some p → ∃ j, pix l n p = some j ∧ j ≤ i
 | 0, i, hi, _ => by omega
 | n + 1, i, hi, he => by
  by_cases hin : i = n
  ·subst hin
   cases hc : pix l i p with
   | some j =>
    have := pix_lt l p i j hc
    exact ⟨j, by rw [pix, hc], by omega⟩
   | none => exact ⟨i, by simp only [pix, hc, he, if_true], Nat.le_refl _⟩
  ·obtain ⟨j, h1, h2⟩ := pix_ex l p n i (by omega) he
   exact ⟨j, by rw [pix, h1], h2⟩
theorem repM_no1 {l : List (Evt × Value)} {o : List PK} {r : List Rst} {i : Nat} {e : Evt} (h : cix l l.length (e.who, e.n) = none) : repR l o r i e = false := by simp only [repR, h, Bool.false_and]
theorem repM_no2 {l : List (Evt × Value)} {o : List PK} {r : List Rst} {i c : Nat} {e : Evt} (h : cix l l.length (e.who, e.n) = some c) (hc : i < c) : repR l o r i e = false := by simp only [repR, h, decide_eq_true hc, Bool.not_true, Bool.false_and]
theorem repM_out {l : List (Evt × Value)} {o : List PK} {r : List Rst} {i c : Nat} {e : Evt} (h : cix l l.length (e.who, e.n) = some c) (hc : ¬i < c) (hp : pix o o.length (e.who, e.n) = none) : repR l o r i e = ovr e.res.err := by simp only [repR, h, decide_eq_false hc, hp, Bool.not_false, Bool.true_and]
theorem repM_in {l : List (Evt × Value)} {o : List PK} {r : List Rst} {i c a : Nat} {e : Evt} {x : Rst} (h : cix l l.length (e.who, e.n) = some c) (hc : ¬i < c) (hp : pix o o.length (e.who, e.n) = some a) (hr : r[a]? = some x) : repR l o r i e = sameRst x e.res := by rw [sameRst_comm]; simp only [repR, h, decide_eq_false hc, hp, hr, Bool.not_false, Bool.true_and]
theorem evR_rep {l : List (Evt × Value)} {o : List PK} {r : List Rst} {i : Nat} {e : Evt} {w : Value} (he : l[i]? = some (e, w)) (hk : e.kind = 2) : evR l o r i = repR l o r i e := by
 simp only [evR, he]; rw [if_pos hk]
theorem evR_oth {l : List (Evt × Value)} {o : List PK} {r : List Rst} {i : Nat} {e : Evt} {w : Value} (he : l[i]? = some (e, w)) (hk : e.kind ≠ 2) : evR l o r i = true := by
 simp only [evR, he]; rw [if_neg hk]
theorem ordR_no {l : List (Evt × Value)} {o : List PK} {i : Nat} {p : PK} (hp : o[i]? = some p) (h : cix l l.length p = none) : ordR l o i = false := by
 simp only [ordR, hp, h]; rfl
theorem ordR_no2 {l : List (Evt × Value)} {o : List PK} {i : Nat} {p : PK} (hp : o[i]? = some p) (h : pix o o.length p ≠ some i) : ordR l o i = false := by
 simp only [ordR, hp, decide_eq_false h, Bool.and_false, Bool.false_and]
theorem ordR_at {l : List (Evt × Value)} {o : List PK} {i c : Nat} {p : PK} (hp : o[i]? = some p) (h : cix l l.length p = some c) (h2 : pix o o.length p = some i) : ordR l o i = allN (lateR l o p) i := by
 simp only [ordR, hp, h, h2, decide_true]; rfl
theorem late_n {l : List (Evt × Value)} {o : List PK} {p : PK} {k : Nat} (h : rix l l.length p = none) : lateR l o p k = true := by
 unfold lateR
 split
 ·rfl
 ·rw [h]
theorem late_s {l : List (Evt × Value)} {o : List PK} {p q : PK} {k e c : Nat} (h : rix l l.length p = some e) (hq : o[k]? = some q) (hc : cix l l.length q = some c) : lateR l o p k = !decide (e < c) := by simp only [lateR, hq, h, hc]
theorem late_m {l : List (Evt × Value)} {o : List PK} {p q : PK} {k : Nat} (hq : o[k]? = some q) (hc : cix l l.length q = none) : lateR l o p k = true := by
 simp only [lateR, hq, hc]
 split <;> rfl
theorem rpl_lens (l : List (Evt × Value)) (o : List PK) : ∀ j, j ≤ 100000000 → ∀ x ∈ (rpl l o j).2, x.list.length ≤ 100000000
 | 0, _, x, hx => by cases hx
 | j + 1, hj, x, hx => by
  have ih := rpl_lens l o j (by omega)
  have hI := rpl_inv l o j
  unfold rpl at hx
  split at hx
  ·exact ih x hx
  ·split at hx
   ·rcases List.mem_append.1 hx with h | h
    ·exact ih x h
    ·rw [List.mem_singleton.1 h]; simp
   ·rcases List.mem_append.1 hx with h | h
    ·exact ih x h
    ·rw [List.mem_singleton.1 h]
     exact Nat.le_trans (rst_len hI _) (by omega)
theorem own_rstM {ρ : Hp} {R : List (Rst × Value)} (h : In ρ (Own owRst R)) : ∀ p ∈ R, ROs ρ 2 p.2 (p.1.list.flatMap smC) := by
 obtain ⟨x, hp, hx⟩ := h
 intro p hm
 obtain ⟨y, hy, le⟩ := own_mem hm hp
 exact (Buf.ro hy).mono (fun b o hb => hx b o (le b o hb))
attribute [local irreducible] W WL Fn Buf ROs SL eptr box Rd Src bndOK WD RB Reads In Own Pm doM cix pix rix rpl allN evR repR ordR lateR ovr
theorem rcheck_c (ρ : Hp) (v w : Value) (L : List (Evt × Value)) (o : List PK) (r0 : ROs ρ 14 v (L.flatMap evC)) (h0 : ∀ p ∈ L, ROs ρ 2 p.2 (p.1.res.list.flatMap smC) ∧ p.1.res.list.length ≤ 100000) (hl : L.length ≤ 1000) (r1 : ROs ρ 2 w (o.flatMap (twoC .i64 .i64))) (hl1 : o.length ≤ 1000) :
    Fn Try.prog 29 #[v, w] ρ [] (Just (.bool (chkR L o))) := by
  have s0 : SL v L.length := r0.sl (evs_cells L) (by omega)
  have s1 : SL w o.length := r1.sl (two_len o) (by omega)
  have hs : ∀ p ∈ L, SL p.2 p.1.res.list.length := fun p hp => (h0 p hp).1.sl (flat_len sm_len _) (by omega)
  refine in29 rfl rfl ?_
  refine W.seq (W.region (WL.as rfl rfl (WL.nil (W.seq (W.region (WL.mv rfl rfl (WL.mv rfl rfl ?_)))))))
  refine WL.callF rfl rfl (fun x p d => rreplay_c _ _ _ _ _ (by first | assumption | exact ROs.wide (by assumption) | exact ROs.mono (by assumption) (eqh_at 0 rfl p d) | exact ros_at 0 rfl p d | exact ros_at 1 rfl p d | exact ros_at 2 rfl p d | exact ros_at 3 rfl p d | exact ros_at 4 rfl p d) (by assumption) (by first | assumption | omega) (by first | assumption | exact ROs.wide (by assumption) | exact ROs.mono (by assumption) (eqh_at 0 rfl p d) | exact ros_at 0 rfl p d | exact ros_at 1 rfl p d | exact ros_at 2 rfl p d | exact ros_at 3 rfl p d | exact ros_at 4 rfl p d) (by first | assumption | omega)) (fun r0 => ?_)
  refine WL.opens (α := (Value × Value × Value × List (Rst × Value))) (φ := fun x => r0 = .tuple #[.agg #[x.1, x.2.1, .int .i64 _], x.2.2.1] ∧ x.2.2.2.map Prod.fst = _ ∧ SL x.1 _ ∧ SL x.2.1 _ ∧ SL x.2.2.1 x.2.2.2.length ∧ (∀ p ∈ x.2.2.2, SL p.2 p.1.list.length)) (ps := fun x => [OMdl (.agg #[x.1, x.2.1, .int .i64 _]) _, Buf 3 x.2.2.1 (x.2.2.2.flatMap rstC), Own owRst x.2.2.2]) 0 rfl (fun h q => RepR.open q) (by repeat' constructor) ?_
  rintro ⟨sv0, iv0, u0, R0⟩ ⟨es0, er0, sa0, sb0, sc0, sd0⟩
  subst es0
  dsimp only [List.cons_append, List.nil_append] at er0 sa0 sb0 sc0 ⊢
  refine WL.mv rfl rfl (WL.extL rfl rfl rfl (WL.extL rfl rfl rfl ?_))
  refine WL.alF (T := Ty) rfl rfl (by repeat' constructor) (fun b1 => ?_)
  refine WL.stAO (T := Ty) (j := 0) rfl rfl rfl rfl (by repeat' first | exact AO.nil | apply AO.cons (by first | rfl | exact SL.one (by assumption))) rfl rfl (by repeat' constructor) (by repeat' constructor) ?_
  refine WL.as rfl rfl (WL.nil (W.seq (W.seq (W.region (WL.as rfl rfl (WL.nil (W.block ?_)))))))
  refine W.freezeAll (fun ρ2 le2 hin => ?_)
  have rr := (hin 2 _ rfl).ros
  have rR := own_rstM (hin 3 _ rfl)
  have hRl : R0.length = o.length := by have := congrArg List.length er0; rw [List.length_map, rpl_len L o o.length (Nat.le_refl _)] at this; exact this
  replace r0 := r0.mono le2
  replace r1 := r1.mono le2
  have hrl := rpl_lens L o o.length (by omega)
  generalize hr : (rpl L o o.length).2 = r at er0 hrl
  have hcv : chkR L o = (allN (ordR L o) o.length && allN (evR L o r) L.length) := by unfold chkR; rw [hr]
  rw [hcv]
  have l0 := evs_cells L
  have l1 := two_len (k0 := .i64) (k1 := .i64) o
  have l2 := rst_cells R0
  refine W.loopR (σ := Nat) (fun i => [(0, v), (1, w), (6, u0), (7, .int .i64 (i : Int))]) (fun i => []) (fun i ρ' => i ≤ o.length ∧ allN (ordR L o) i = true) (fun i => o.length - i)
    0 ⟨rfl, rfl, rfl, rfl, trivial⟩ rfl ⟨Nat.zero_le _, by unfold allN; rfl⟩ ?_
  rintro i ρ3 le3 ⟨hi, hok⟩ next
  replace rr := rr.mono le3
  replace r0 := r0.mono le3
  replace r1 := r1.mono le3
  by_cases hc : i < o.length
  · obtain ⟨p, hp⟩ : ∃ p, o[i]? = some p := ⟨_, List.getElem?_eq_getElem hc⟩
    have g0 : (o.flatMap (twoC .i64 .i64))[((i : Nat) : Int).toNat * 2 + 0]? = some (.int .i64 p.1) := flat_get (k := 2) (fun _ => rfl) hp rfl
    have g1 : (o.flatMap (twoC .i64 .i64))[((i : Nat) : Int).toNat * 2 + 1]? = some (.int .i64 p.2) := flat_get (k := 2) (fun _ => rfl) hp rfl
    have nx := fun (h1 : ordR L o i = true) => next (i + 1)
    have no : ordR L o i = false → (allN (ordR L o) o.length && allN (evR L o r) L.length) = false := fun h => by rw [allN_no hc h]; rfl
    cases hcx : cix L L.length p with
    | none =>
      have hcx' : cix L L.length (p.1, p.2) = none := hcx
      refine W.seq (W.seq (W.region (WL.mv rfl rfl (WL.mv rfl rfl ?_))))
      refine WL.len (T := Ty) rfl rfl (by assumption) rfl ?_
      refine WL.lss rfl rfl rfl (WL.nil (W.condpT rfl (by omega) (W.skip (W.seq (W.block (W.seq (W.seq ?_)))))))
      refine W.drawA 29 rfl (fun σ0 hσ0 dσ0 => ?_)
      refine WD.takeL 0 rfl (by decide +kernel) (WL.mv rfl rfl (WL.nilT (WD.takeL 1 rfl (by decide +kernel) (WL.mv rfl rfl (WL.nilT (WD.takeL 2 rfl (by decide +kernel) (WL.mv rfl rfl (WL.nilT (WD.takeL 3 rfl (by decide +kernel) ?_)))))))))
      refine WL.ix (T := Ty) rfl rfl rfl (by assumption) rfl rfl (by omega) (by first | omega | decide +kernel) ?_
      refine WL.nilT (WD.takeL 4 rfl (by decide +kernel) (WL.faEN (T := Ty) (off' := 0) rfl rfl rfl rfl rfl rfl rfl (WL.nilT (WD.takeL 5 rfl (by decide +kernel) ?_))))
      refine WL.ldR (T := Ty) rfl rfl rfl rfl (by first | assumption | exact ROs.wide (by assumption)) (by assumption) ?_
      refine WL.nilT (WD.takeL 6 rfl (by decide +kernel) (WL.mv rfl rfl (WL.nilT (WD.takeL 7 rfl (by decide +kernel) (WL.mv rfl rfl (WL.nilT (WD.takeL 8 rfl (by decide +kernel) ?_)))))))
      refine WL.ix (T := Ty) rfl rfl rfl (by assumption) rfl rfl (by omega) (by first | omega | decide +kernel) ?_
      refine WL.nilT (WD.takeL 9 rfl (by decide +kernel) (WL.faEN (T := Ty) (off' := 1) rfl rfl rfl rfl rfl rfl rfl (WL.nilT (WD.takeL 10 rfl (by decide +kernel) ?_))))
      refine WL.ldR (T := Ty) rfl rfl rfl rfl (by first | assumption | exact ROs.wide (by assumption)) (by assumption) ?_
      refine WL.nilT (WD.oneL 11 rfl (by decide +kernel) ?_)
      refine WL.callV rfl rfl (fun x p d => rcall_n _ _ _ _ _ (by first | assumption | exact ROs.wide (by assumption) | exact ROs.mono (by assumption) (eqh_at 0 rfl p d) | exact ros_at 0 rfl p d | exact ros_at 1 rfl p d | exact ros_at 2 rfl p d | exact ros_at 3 rfl p d | exact ros_at 4 rfl p d) (by first | assumption | omega) (by assumption)) ?_
      refine WL.nilE (WD.takeL 12 rfl (by decide +kernel) (WL.lss rfl rfl rfl (WL.nilT (WD.takeL 13 rfl (by decide +kernel) (WL.mv rfl rfl (WL.nilT (WD.takeL 14 rfl (by decide +kernel) (WL.gdN rfl rfl rfl rfl rfl rfl (WL.nilT (WD.takeL 15 rfl (by decide +kernel) (WL.gdN rfl rfl rfl rfl rfl rfl (WL.nilT (WD.takeL 16 rfl (by decide +kernel) ?_)))))))))))))
      refine WL.gdN rfl rfl rfl rfl rfl rfl (WL.nilT (WD.takeL 17 rfl (by decide +kernel) (WL.gdN rfl rfl rfl rfl rfl rfl (WL.nilT (WD.takeL 18 rfl (by decide +kernel) (WL.gdN rfl rfl rfl rfl rfl rfl (WL.nilT (WD.takeL 19 rfl (by decide +kernel) (WL.gdN rfl rfl rfl rfl rfl rfl (WL.nilT (WD.takeL 20 rfl (by decide +kernel) (WL.gdN rfl rfl rfl rfl rfl rfl (WL.nilT ?_)))))))))))))
      refine WD.takeL 21 rfl (by decide +kernel) (WL.gdN rfl rfl rfl rfl rfl rfl (WL.nilT (WD.takeL 22 rfl (by decide +kernel) (WL.gdN rfl rfl rfl rfl rfl rfl (WL.nilT (WD.takeL 23 rfl (by decide +kernel) (WL.gdN rfl rfl rfl rfl rfl rfl (WL.nilT (WD.takeL 24 rfl (by decide +kernel) (WL.gdN rfl rfl rfl rfl rfl rfl (WL.nilT (WD.takeL 26 rfl (by decide +kernel) (WL.gdN rfl rfl rfl rfl rfl rfl ?_)))))))))))))
      refine WL.nilT (WD.takeL 25 rfl (by decide +kernel) (WL.gdN rfl rfl rfl rfl rfl rfl (WL.nilT (WD.takeL 27 rfl (by decide +kernel) (WL.gdN rfl rfl rfl rfl rfl rfl (WL.nilT (WD.takeL 28 rfl (by decide +kernel) (WL.pickT rfl rfl rfl (WL.nilT ?_)))))))))
      refine WD.doneF hσ0 (by decide +kernel) (by repeat' constructor) ?_
      refine W.condT rfl (W.seq (W.region (WL.as rfl rfl (WL.nil ?_))))
      exact W.fit (Hs' := []) (by (repeat' first | exact Sel.nil | apply Sel.k | exact Pick.h | apply Pick.t)) (W.ret1 rfl rfl (fun h q => ⟨by rw [no (ordR_no hp hcx)], q⟩))
    | some c =>
      have hcx' : cix L L.length (p.1, p.2) = some c := hcx
      obtain ⟨j, hj, hji⟩ := pix_ex o p o.length i hc hp
      have hj' : pix o o.length (p.1, p.2) = some j := hj
      by_cases hne : j = i
      · subst hne
        have hat := ordR_at hp hcx hj
        refine W.seq (W.seq (W.region (WL.mv rfl rfl (WL.mv rfl rfl ?_))))
        refine WL.len (T := Ty) rfl rfl (by assumption) rfl ?_
        refine WL.lss rfl rfl rfl (WL.nil (W.condpT rfl (by omega) (W.skip (W.seq (W.block (W.seq (W.seq ?_)))))))
        refine W.cutG (τ := Unit) (fun s => [(0, v), (1, w), (6, u0), (7, .int .i64 (j : Int)), (55, .bool false)]) (fun s => []) (fun s ρ' => True) ?_ (fun cut => ?_)
        · rintro _ ρ4 le4 _
          refine W.condF rfl (W.skip (W.seq (W.region (WL.as rfl rfl (WL.nil (W.block ?_))))))
          refine W.loopR (σ := Nat) (fun k => [(0, v), (1, w), (6, u0), (7, .int .i64 (j : Int)), (8, .int .i64 (k : Int))]) (fun i => []) (fun k ρ' => k ≤ j ∧ allN (lateR L o p) k = true) (fun k => j - k)
            0 ⟨rfl, rfl, rfl, rfl, rfl, trivial⟩ rfl ⟨Nat.zero_le _, by unfold allN; rfl⟩ ?_
          rintro k ρ5 le5 ⟨hk, hok2⟩ next2
          replace r0 := (r0.mono le4).mono le5
          replace r1 := (r1.mono le4).mono le5
          by_cases hc2 : k < j
          · obtain ⟨q, hq⟩ : ∃ p, o[k]? = some p := ⟨_, List.getElem?_eq_getElem (by omega)⟩
            have m0 : (o.flatMap (twoC .i64 .i64))[((k : Nat) : Int).toNat * 2 + 0]? = some (.int .i64 q.1) := flat_get (k := 2) (fun _ => rfl) hq rfl
            have m1 : (o.flatMap (twoC .i64 .i64))[((k : Nat) : Int).toNat * 2 + 1]? = some (.int .i64 q.2) := flat_get (k := 2) (fun _ => rfl) hq rfl
            have nx2 := fun (h1 : lateR L o p k = true) => next2 (k + 1) ρ5 (Le.refl _) ⟨hc2, allN_step hok2 h1⟩ (by omega)
            have no2 : lateR L o p k = false → (allN (ordR L o) o.length && allN (evR L o r) L.length) = false := fun h => no (by rw [hat]; exact allN_no hc2 h)
            cases hrx : rix L L.length p with
            | none =>
              have hrx' : rix L L.length (p.1, p.2) = none := hrx
              refine W.seq (W.seq (W.region (WL.mv rfl rfl (WL.mv rfl rfl (WL.lss rfl rfl rfl (WL.nil (W.condpT rfl (by omega) (W.skip (W.seq (W.block (W.seq ?_)))))))))))
              refine W.drawA 12 rfl (fun σ0 hσ0 dσ0 => ?_)
              refine WD.takeL 0 rfl (by decide +kernel) (WL.mv rfl rfl (WL.nilT (WD.takeL 1 rfl (by decide +kernel) (WL.mv rfl rfl (WL.nilT (WD.takeL 2 rfl (by decide +kernel) (WL.mv rfl rfl (WL.nilT (WD.takeL 3 rfl (by decide +kernel) ?_)))))))))
              refine WL.ix (T := Ty) rfl rfl rfl (by assumption) rfl rfl (by omega) (by first | omega | decide +kernel) ?_
              refine WL.nilT (WD.takeL 4 rfl (by decide +kernel) (WL.faEN (T := Ty) (off' := 0) rfl rfl rfl rfl rfl rfl rfl (WL.nilT (WD.takeL 5 rfl (by decide +kernel) ?_))))
              refine WL.ldR (T := Ty) rfl rfl rfl rfl (by first | assumption | exact ROs.wide (by assumption)) (by assumption) ?_
              refine WL.nilT (WD.takeL 6 rfl (by decide +kernel) (WL.mv rfl rfl (WL.nilT (WD.takeL 7 rfl (by decide +kernel) (WL.mv rfl rfl (WL.nilT (WD.takeL 8 rfl (by decide +kernel) ?_)))))))
              refine WL.ix (T := Ty) rfl rfl rfl (by assumption) rfl rfl (by omega) (by first | omega | decide +kernel) ?_
              refine WL.nilT (WD.takeL 9 rfl (by decide +kernel) (WL.faEN (T := Ty) (off' := 1) rfl rfl rfl rfl rfl rfl rfl (WL.nilT (WD.takeL 10 rfl (by decide +kernel) ?_))))
              refine WL.ldR (T := Ty) rfl rfl rfl rfl (by first | assumption | exact ROs.wide (by assumption)) (by assumption) ?_
              refine WL.nilT (WD.oneL 11 rfl (by decide +kernel) ?_)
              refine WL.callV rfl rfl (fun x p d => rreply_n _ _ _ _ _ (by first | assumption | exact ROs.wide (by assumption) | exact ROs.mono (by assumption) (eqh_at 0 rfl p d) | exact ros_at 0 rfl p d | exact ros_at 1 rfl p d | exact ros_at 2 rfl p d | exact ros_at 3 rfl p d | exact ros_at 4 rfl p d) (by first | assumption | omega) (by assumption)) ?_
              refine WL.nilE ?_
              refine WD.lastG hσ0 (by decide +kernel) (by repeat' constructor) rfl (by repeat' constructor) ?_
              refine WL.as rfl rfl (WL.nil (W.seq ?_))
              refine W.drawA 18 rfl (fun σ1 hσ1 dσ1 => ?_)
              refine WD.takeL 0 rfl (by decide +kernel) (WL.mv rfl rfl (WL.nilT (WD.takeL 1 rfl (by decide +kernel) (WL.geq rfl rfl rfl (WL.nilT (WD.takeL 2 rfl (by decide +kernel) (WL.mv rfl rfl (WL.nilT (WD.takeL 3 rfl (by decide +kernel) (WL.gdN rfl rfl rfl rfl rfl rfl (WL.nilT (WD.takeL 4 rfl (by decide +kernel) (WL.gdN rfl rfl rfl rfl rfl rfl ?_)))))))))))))
              refine WL.nilT (WD.takeL 5 rfl (by decide +kernel) (WL.gdN rfl rfl rfl rfl rfl rfl (WL.nilT (WD.takeL 6 rfl (by decide +kernel) (WL.gdN rfl rfl rfl rfl rfl rfl (WL.nilT (WD.takeL 7 rfl (by decide +kernel) (WL.gdN rfl rfl rfl rfl rfl rfl (WL.nilT (WD.takeL 8 rfl (by decide +kernel) (WL.gdN rfl rfl rfl rfl rfl rfl (WL.nilT (WD.takeL 9 rfl (by decide +kernel) ?_)))))))))))))
              refine WL.gdN rfl rfl rfl rfl rfl rfl (WL.nilT (WD.takeL 10 rfl (by decide +kernel) (WL.gdN rfl rfl rfl rfl rfl rfl (WL.nilT (WD.takeL 11 rfl (by decide +kernel) (WL.gdN rfl rfl rfl rfl rfl rfl (WL.nilT (WD.takeL 12 rfl (by decide +kernel) (WL.gdN rfl rfl rfl rfl rfl rfl (WL.nilT (WD.takeL 13 rfl (by decide +kernel) (WL.gdN rfl rfl rfl rfl rfl rfl (WL.nilT ?_)))))))))))))
              refine WD.takeL 14 rfl (by decide +kernel) (WL.gdN rfl rfl rfl rfl rfl rfl (WL.nilT (WD.takeL 15 rfl (by decide +kernel) (WL.gdN rfl rfl rfl rfl rfl rfl (WL.nilT (WD.takeL 16 rfl (by decide +kernel) (WL.gdN rfl rfl rfl rfl rfl rfl (WL.nilT (WD.takeL 17 rfl (by decide +kernel) (WL.pickF rfl rfl rfl (WL.nilT ?_)))))))))))
              refine WD.doneF hσ1 (by decide +kernel) (by repeat' constructor) ?_
              refine W.condF rfl (W.skip (W.inBlock (W.region (WL.mv rfl rfl (WL.addK rfl rfl rfl (wrap_i64 ⟨by omega, by omega⟩) (WL.as rfl rfl (WL.nil ?_)))))))
              refine W.fit (Hs' := []) (by (repeat' first | exact Sel.nil | apply Sel.k | exact Pick.h | apply Pick.t)) (W.sub ?_ (nx2 (late_n hrx)))
              exact ⟨rfl, rfl, rfl, rfl, rfl, trivial⟩
            | some e =>
              have hrx' : rix L L.length (p.1, p.2) = some e := hrx
              refine W.seq (W.seq (W.region (WL.mv rfl rfl (WL.mv rfl rfl (WL.lss rfl rfl rfl (WL.nil (W.condpT rfl (by omega) (W.skip (W.seq (W.block (W.seq ?_)))))))))))
              refine W.cutG (τ := Unit) (fun s => [(0, v), (1, w), (6, u0), (7, .int .i64 (j : Int)), (8, .int .i64 (k : Int)), (9, .int .i64 (e : Int))]) (fun s => []) (fun s ρ' => ρ' = ρ5) ?_ (fun cut2 => ?_)
              · rintro _ _ _ rfl
                cases hqx : cix L L.length q with
                | none =>
                  have hqx' : cix L L.length (q.1, q.2) = none := hqx
                  refine W.seq ?_
                  refine W.drawA 18 rfl (fun σ0 hσ0 dσ0 => ?_)
                  refine WD.takeL 0 rfl (by decide +kernel) (WL.mv rfl rfl (WL.nilT (WD.takeL 1 rfl (by decide +kernel) (WL.geq rfl rfl rfl (WL.nilT (WD.takeL 2 rfl (by decide +kernel) (WL.mv rfl rfl (WL.nilT (WD.takeL 3 rfl (by decide +kernel) (WL.gY rfl rfl (WL.mv rfl rfl (WL.nilT (WD.takeL 4 rfl (by decide +kernel) ?_)))))))))))))
                  refine WL.gY rfl rfl (WL.mv rfl rfl (WL.nilT (WD.takeL 5 rfl (by decide +kernel) (WL.gY rfl rfl (WL.mv rfl rfl (WL.nilT (WD.takeL 6 rfl (by decide +kernel) (WL.gY rfl rfl (WL.mv rfl rfl (WL.nilT (WD.takeL 7 rfl (by decide +kernel) (WL.gY rfl rfl ?_))))))))))))
                  refine WL.ix (T := Ty) rfl rfl rfl (by assumption) rfl rfl (by omega) (by first | omega | decide +kernel) ?_
                  refine WL.nilT (WD.takeL 8 rfl (by decide +kernel) (WL.gY rfl rfl (WL.faEN (T := Ty) (off' := 0) rfl rfl rfl rfl rfl rfl rfl (WL.nilT (WD.takeL 9 rfl (by decide +kernel) (WL.gY rfl rfl ?_))))))
                  refine WL.ldR (T := Ty) rfl rfl rfl rfl (by first | assumption | exact ROs.wide (by assumption)) (by assumption) ?_
                  refine WL.nilT (WD.takeL 10 rfl (by decide +kernel) (WL.gY rfl rfl (WL.mv rfl rfl (WL.nilT (WD.takeL 11 rfl (by decide +kernel) (WL.gY rfl rfl (WL.mv rfl rfl (WL.nilT (WD.takeL 12 rfl (by decide +kernel) (WL.gY rfl rfl ?_))))))))))
                  refine WL.ix (T := Ty) rfl rfl rfl (by assumption) rfl rfl (by omega) (by first | omega | decide +kernel) ?_
                  refine WL.nilT (WD.takeL 13 rfl (by decide +kernel) (WL.gY rfl rfl (WL.faEN (T := Ty) (off' := 1) rfl rfl rfl rfl rfl rfl rfl (WL.nilT (WD.takeL 14 rfl (by decide +kernel) (WL.gY rfl rfl ?_))))))
                  refine WL.ldR (T := Ty) rfl rfl rfl rfl (by first | assumption | exact ROs.wide (by assumption)) (by assumption) ?_
                  refine WL.nilT (WD.oneL 15 rfl (by decide +kernel) (WL.gY rfl rfl ?_))
                  refine WL.callV rfl rfl (fun x p d => rcall_n _ _ _ _ _ (by first | assumption | exact ROs.wide (by assumption) | exact ROs.mono (by assumption) (eqh_at 0 rfl p d) | exact ros_at 0 rfl p d | exact ros_at 1 rfl p d | exact ros_at 2 rfl p d | exact ros_at 3 rfl p d | exact ros_at 4 rfl p d) (by first | assumption | omega) (by assumption)) ?_
                  refine WL.nilE (WD.takeL 16 rfl (by decide +kernel) (WL.gY rfl rfl (WL.lss rfl rfl rfl (WL.nilT (WD.takeL 17 rfl (by decide +kernel) (WL.pickT rfl rfl rfl (WL.nilT ?_)))))))
                  refine WD.doneF hσ0 (by decide +kernel) (by repeat' constructor) ?_
                  refine W.condF rfl (W.skip (W.inBlock (W.region (WL.mv rfl rfl (WL.addK rfl rfl rfl (wrap_i64 ⟨by omega, by omega⟩) (WL.as rfl rfl (WL.nil ?_)))))))
                  refine W.fit (Hs' := []) (by (repeat' first | exact Sel.nil | apply Sel.k | exact Pick.h | apply Pick.t)) (W.sub ?_ (nx2 (late_m hq hqx)))
                  exact ⟨rfl, rfl, rfl, rfl, rfl, trivial⟩
                | some d =>
                  have hqx' : cix L L.length (q.1, q.2) = some d := hqx
                  by_cases hed : e < d
                  · refine W.seq ?_
                    refine W.drawA 18 rfl (fun σ0 hσ0 dσ0 => ?_)
                    refine WD.takeL 0 rfl (by decide +kernel) (WL.mv rfl rfl (WL.nilT (WD.takeL 1 rfl (by decide +kernel) (WL.geq rfl rfl rfl (WL.nilT (WD.takeL 2 rfl (by decide +kernel) (WL.mv rfl rfl (WL.nilT (WD.takeL 3 rfl (by decide +kernel) (WL.gY rfl rfl (WL.mv rfl rfl (WL.nilT (WD.takeL 4 rfl (by decide +kernel) ?_)))))))))))))
                    refine WL.gY rfl rfl (WL.mv rfl rfl (WL.nilT (WD.takeL 5 rfl (by decide +kernel) (WL.gY rfl rfl (WL.mv rfl rfl (WL.nilT (WD.takeL 6 rfl (by decide +kernel) (WL.gY rfl rfl (WL.mv rfl rfl (WL.nilT (WD.takeL 7 rfl (by decide +kernel) (WL.gY rfl rfl ?_))))))))))))
                    refine WL.ix (T := Ty) rfl rfl rfl (by assumption) rfl rfl (by omega) (by first | omega | decide +kernel) ?_
                    refine WL.nilT (WD.takeL 8 rfl (by decide +kernel) (WL.gY rfl rfl (WL.faEN (T := Ty) (off' := 0) rfl rfl rfl rfl rfl rfl rfl (WL.nilT (WD.takeL 9 rfl (by decide +kernel) (WL.gY rfl rfl ?_))))))
                    refine WL.ldR (T := Ty) rfl rfl rfl rfl (by first | assumption | exact ROs.wide (by assumption)) (by assumption) ?_
                    refine WL.nilT (WD.takeL 10 rfl (by decide +kernel) (WL.gY rfl rfl (WL.mv rfl rfl (WL.nilT (WD.takeL 11 rfl (by decide +kernel) (WL.gY rfl rfl (WL.mv rfl rfl (WL.nilT (WD.takeL 12 rfl (by decide +kernel) (WL.gY rfl rfl ?_))))))))))
                    refine WL.ix (T := Ty) rfl rfl rfl (by assumption) rfl rfl (by omega) (by first | omega | decide +kernel) ?_
                    refine WL.nilT (WD.takeL 13 rfl (by decide +kernel) (WL.gY rfl rfl (WL.faEN (T := Ty) (off' := 1) rfl rfl rfl rfl rfl rfl rfl (WL.nilT (WD.takeL 14 rfl (by decide +kernel) (WL.gY rfl rfl ?_))))))
                    refine WL.ldR (T := Ty) rfl rfl rfl rfl (by first | assumption | exact ROs.wide (by assumption)) (by assumption) ?_
                    refine WL.nilT (WD.oneL 15 rfl (by decide +kernel) (WL.gY rfl rfl ?_))
                    refine WL.callV rfl rfl (fun x p d => rcall_s _ _ _ _ _ _ (by first | assumption | exact ROs.wide (by assumption) | exact ROs.mono (by assumption) (eqh_at 0 rfl p d) | exact ros_at 0 rfl p d | exact ros_at 1 rfl p d | exact ros_at 2 rfl p d | exact ros_at 3 rfl p d | exact ros_at 4 rfl p d) (by first | assumption | omega) (by assumption)) ?_
                    refine WL.nilE (WD.takeL 16 rfl (by decide +kernel) (WL.gY rfl rfl (WL.lss rfl rfl rfl (WL.nilT (WD.takeL 17 rfl (by decide +kernel) (WL.pickT rfl rfl rfl (WL.nilT ?_)))))))
                    refine WD.doneF hσ0 (by decide +kernel) (by repeat' constructor) ?_
                    refine W.condpT rfl (by omega) (W.seq (W.region (WL.as rfl rfl (WL.nil ?_))))
                    exact W.fit (Hs' := []) (by (repeat' first | exact Sel.nil | apply Sel.k | exact Pick.h | apply Pick.t)) (W.ret1 rfl rfl (fun h q => ⟨by rw [no2 (by rw [late_s hrx hq hqx, decide_eq_true hed]; rfl)], q⟩))
                  · refine W.seq ?_
                    refine W.drawA 18 rfl (fun σ0 hσ0 dσ0 => ?_)
                    refine WD.takeL 0 rfl (by decide +kernel) (WL.mv rfl rfl (WL.nilT (WD.takeL 1 rfl (by decide +kernel) (WL.geq rfl rfl rfl (WL.nilT (WD.takeL 2 rfl (by decide +kernel) (WL.mv rfl rfl (WL.nilT (WD.takeL 3 rfl (by decide +kernel) (WL.gY rfl rfl (WL.mv rfl rfl (WL.nilT (WD.takeL 4 rfl (by decide +kernel) ?_)))))))))))))
                    refine WL.gY rfl rfl (WL.mv rfl rfl (WL.nilT (WD.takeL 5 rfl (by decide +kernel) (WL.gY rfl rfl (WL.mv rfl rfl (WL.nilT (WD.takeL 6 rfl (by decide +kernel) (WL.gY rfl rfl (WL.mv rfl rfl (WL.nilT (WD.takeL 7 rfl (by decide +kernel) (WL.gY rfl rfl ?_))))))))))))
                    refine WL.ix (T := Ty) rfl rfl rfl (by assumption) rfl rfl (by omega) (by first | omega | decide +kernel) ?_
                    refine WL.nilT (WD.takeL 8 rfl (by decide +kernel) (WL.gY rfl rfl (WL.faEN (T := Ty) (off' := 0) rfl rfl rfl rfl rfl rfl rfl (WL.nilT (WD.takeL 9 rfl (by decide +kernel) (WL.gY rfl rfl ?_))))))
                    refine WL.ldR (T := Ty) rfl rfl rfl rfl (by first | assumption | exact ROs.wide (by assumption)) (by assumption) ?_
                    refine WL.nilT (WD.takeL 10 rfl (by decide +kernel) (WL.gY rfl rfl (WL.mv rfl rfl (WL.nilT (WD.takeL 11 rfl (by decide +kernel) (WL.gY rfl rfl (WL.mv rfl rfl (WL.nilT (WD.takeL 12 rfl (by decide +kernel) (WL.gY rfl rfl ?_))))))))))
                    refine WL.ix (T := Ty) rfl rfl rfl (by assumption) rfl rfl (by omega) (by first | omega | decide +kernel) ?_
                    refine WL.nilT (WD.takeL 13 rfl (by decide +kernel) (WL.gY rfl rfl (WL.faEN (T := Ty) (off' := 1) rfl rfl rfl rfl rfl rfl rfl (WL.nilT (WD.takeL 14 rfl (by decide +kernel) (WL.gY rfl rfl ?_))))))
                    refine WL.ldR (T := Ty) rfl rfl rfl rfl (by first | assumption | exact ROs.wide (by assumption)) (by assumption) ?_
                    refine WL.nilT (WD.oneL 15 rfl (by decide +kernel) (WL.gY rfl rfl ?_))
                    refine WL.callV rfl rfl (fun x p d => rcall_s _ _ _ _ _ _ (by first | assumption | exact ROs.wide (by assumption) | exact ROs.mono (by assumption) (eqh_at 0 rfl p d) | exact ros_at 0 rfl p d | exact ros_at 1 rfl p d | exact ros_at 2 rfl p d | exact ros_at 3 rfl p d | exact ros_at 4 rfl p d) (by first | assumption | omega) (by assumption)) ?_
                    refine WL.nilE (WD.takeL 16 rfl (by decide +kernel) (WL.gY rfl rfl (WL.lss rfl rfl rfl (WL.nilT (WD.takeL 17 rfl (by decide +kernel) (WL.pickT rfl rfl rfl (WL.nilT ?_)))))))
                    refine WD.doneF hσ0 (by decide +kernel) (by repeat' constructor) ?_
                    refine W.condpF rfl (by omega) (W.skip (W.inBlock (W.region (WL.mv rfl rfl (WL.addK rfl rfl rfl (wrap_i64 ⟨by omega, by omega⟩) (WL.as rfl rfl (WL.nil ?_)))))))
                    refine W.fit (Hs' := []) (by (repeat' first | exact Sel.nil | apply Sel.k | exact Pick.h | apply Pick.t)) (W.sub ?_ (nx2 (by rw [late_s hrx hq hqx, decide_eq_false hed]; rfl)))
                    exact ⟨rfl, rfl, rfl, rfl, rfl, trivial⟩
              · refine W.drawA 12 rfl (fun σ0 hσ0 dσ0 => ?_)
                refine WD.takeL 0 rfl (by decide +kernel) (WL.mv rfl rfl (WL.nilT (WD.takeL 1 rfl (by decide +kernel) (WL.mv rfl rfl (WL.nilT (WD.takeL 2 rfl (by decide +kernel) (WL.mv rfl rfl (WL.nilT (WD.takeL 3 rfl (by decide +kernel) ?_)))))))))
                refine WL.ix (T := Ty) rfl rfl rfl (by assumption) rfl rfl (by omega) (by first | omega | decide +kernel) ?_
                refine WL.nilT (WD.takeL 4 rfl (by decide +kernel) (WL.faEN (T := Ty) (off' := 0) rfl rfl rfl rfl rfl rfl rfl (WL.nilT (WD.takeL 5 rfl (by decide +kernel) ?_))))
                refine WL.ldR (T := Ty) rfl rfl rfl rfl (by first | assumption | exact ROs.wide (by assumption)) (by assumption) ?_
                refine WL.nilT (WD.takeL 6 rfl (by decide +kernel) (WL.mv rfl rfl (WL.nilT (WD.takeL 7 rfl (by decide +kernel) (WL.mv rfl rfl (WL.nilT (WD.takeL 8 rfl (by decide +kernel) ?_)))))))
                refine WL.ix (T := Ty) rfl rfl rfl (by assumption) rfl rfl (by omega) (by first | omega | decide +kernel) ?_
                refine WL.nilT (WD.takeL 9 rfl (by decide +kernel) (WL.faEN (T := Ty) (off' := 1) rfl rfl rfl rfl rfl rfl rfl (WL.nilT (WD.takeL 10 rfl (by decide +kernel) ?_))))
                refine WL.ldR (T := Ty) rfl rfl rfl rfl (by first | assumption | exact ROs.wide (by assumption)) (by assumption) ?_
                refine WL.nilT (WD.oneL 11 rfl (by decide +kernel) ?_)
                refine WL.callV rfl rfl (fun x p d => rreply_s _ _ _ _ _ _ (by first | assumption | exact ROs.wide (by assumption) | exact ROs.mono (by assumption) (eqh_at 0 rfl p d) | exact ros_at 0 rfl p d | exact ros_at 1 rfl p d | exact ros_at 2 rfl p d | exact ros_at 3 rfl p d | exact ros_at 4 rfl p d) (by first | assumption | omega) (by assumption)) ?_
                refine WL.nilE ?_
                refine WD.lastG hσ0 (by decide +kernel) (by repeat' constructor) rfl (by repeat' constructor) ?_
                refine WL.as rfl rfl (WL.nil ?_)
                refine W.fit (Hs' := []) (by (repeat' first | exact Sel.nil | apply Sel.k | exact Pick.h | apply Pick.t)) (W.sub ?_ (cut2 () ρ5 (Le.refl _) rfl))
                exact ⟨rfl, rfl, rfl, rfl, rfl, rfl, trivial⟩
          · have hkj : k = j := by omega
            subst hkj
            refine W.seq (W.seq (W.region (WL.mv rfl rfl (WL.mv rfl rfl (WL.lss rfl rfl rfl (WL.nil (W.condpF rfl (by omega) (W.exit rfl (W.inBlock (W.region (WL.mv rfl rfl (WL.addK rfl rfl rfl (wrap_i64 ⟨by omega, by omega⟩) (WL.as rfl rfl ?_)))))))))))))
            refine WL.nil ?_
            refine W.fit (Hs' := []) (by (repeat' first | exact Sel.nil | apply Sel.k | exact Pick.h | apply Pick.t)) (W.sub ?_ (next (k + 1) ρ5 (le4.trans le5) ⟨hc, allN_step hok (by rw [hat]; exact hok2)⟩ (by omega)))
            exact ⟨rfl, rfl, rfl, rfl, trivial⟩
        · refine W.drawA 29 rfl (fun σ0 hσ0 dσ0 => ?_)
          refine WD.takeL 0 rfl (by decide +kernel) (WL.mv rfl rfl (WL.nilT (WD.takeL 1 rfl (by decide +kernel) (WL.mv rfl rfl (WL.nilT (WD.takeL 2 rfl (by decide +kernel) (WL.mv rfl rfl (WL.nilT (WD.takeL 3 rfl (by decide +kernel) ?_)))))))))
          refine WL.ix (T := Ty) rfl rfl rfl (by assumption) rfl rfl (by omega) (by first | omega | decide +kernel) ?_
          refine WL.nilT (WD.takeL 4 rfl (by decide +kernel) (WL.faEN (T := Ty) (off' := 0) rfl rfl rfl rfl rfl rfl rfl (WL.nilT (WD.takeL 5 rfl (by decide +kernel) ?_))))
          refine WL.ldR (T := Ty) rfl rfl rfl rfl (by first | assumption | exact ROs.wide (by assumption)) (by assumption) ?_
          refine WL.nilT (WD.takeL 6 rfl (by decide +kernel) (WL.mv rfl rfl (WL.nilT (WD.takeL 7 rfl (by decide +kernel) (WL.mv rfl rfl (WL.nilT (WD.takeL 8 rfl (by decide +kernel) ?_)))))))
          refine WL.ix (T := Ty) rfl rfl rfl (by assumption) rfl rfl (by omega) (by first | omega | decide +kernel) ?_
          refine WL.nilT (WD.takeL 9 rfl (by decide +kernel) (WL.faEN (T := Ty) (off' := 1) rfl rfl rfl rfl rfl rfl rfl (WL.nilT (WD.takeL 10 rfl (by decide +kernel) ?_))))
          refine WL.ldR (T := Ty) rfl rfl rfl rfl (by first | assumption | exact ROs.wide (by assumption)) (by assumption) ?_
          refine WL.nilT (WD.oneL 11 rfl (by decide +kernel) ?_)
          refine WL.callV rfl rfl (fun x p d => rcall_s _ _ _ _ _ _ (by first | assumption | exact ROs.wide (by assumption) | exact ROs.mono (by assumption) (eqh_at 0 rfl p d) | exact ros_at 0 rfl p d | exact ros_at 1 rfl p d | exact ros_at 2 rfl p d | exact ros_at 3 rfl p d | exact ros_at 4 rfl p d) (by first | assumption | omega) (by assumption)) ?_
          refine WL.nilE (WD.takeL 12 rfl (by decide +kernel) (WL.lss rfl rfl rfl (WL.nilT (WD.takeL 13 rfl (by decide +kernel) (WL.mv rfl rfl (WL.nilT (WD.takeL 14 rfl (by decide +kernel) (WL.gY rfl rfl (WL.mv rfl rfl (WL.nilT (WD.takeL 15 rfl (by decide +kernel) (WL.gY rfl rfl (WL.mv rfl rfl ?_)))))))))))))
          refine WL.nilT (WD.takeL 16 rfl (by decide +kernel) (WL.gY rfl rfl (WL.mv rfl rfl (WL.nilT (WD.takeL 17 rfl (by decide +kernel) (WL.gY rfl rfl ?_))))))
          refine WL.ix (T := Ty) rfl rfl rfl (by assumption) rfl rfl (by omega) (by first | omega | decide +kernel) ?_
          refine WL.nilT (WD.takeL 18 rfl (by decide +kernel) (WL.gY rfl rfl (WL.faEN (T := Ty) (off' := 0) rfl rfl rfl rfl rfl rfl rfl (WL.nilT (WD.takeL 19 rfl (by decide +kernel) (WL.gY rfl rfl ?_))))))
          refine WL.ldR (T := Ty) rfl rfl rfl rfl (by first | assumption | exact ROs.wide (by assumption)) (by assumption) ?_
          refine WL.nilT (WD.takeL 20 rfl (by decide +kernel) (WL.gY rfl rfl (WL.mv rfl rfl (WL.nilT (WD.takeL 21 rfl (by decide +kernel) (WL.gY rfl rfl (WL.mv rfl rfl (WL.nilT (WD.takeL 22 rfl (by decide +kernel) (WL.gY rfl rfl ?_))))))))))
          refine WL.ix (T := Ty) rfl rfl rfl (by assumption) rfl rfl (by omega) (by first | omega | decide +kernel) ?_
          refine WL.nilT (WD.takeL 23 rfl (by decide +kernel) (WL.gY rfl rfl (WL.faEN (T := Ty) (off' := 1) rfl rfl rfl rfl rfl rfl rfl (WL.nilT (WD.takeL 24 rfl (by decide +kernel) (WL.gY rfl rfl ?_))))))
          refine WL.ldR (T := Ty) rfl rfl rfl rfl (by first | assumption | exact ROs.wide (by assumption)) (by assumption) ?_
          refine WL.nilT (WD.takeL 26 rfl (by decide +kernel) (WL.gY rfl rfl (WL.mv rfl rfl (WL.nilT (WD.oneL 25 rfl (by decide +kernel) (WL.gY rfl rfl ?_))))))
          refine WL.callV rfl rfl (fun x p d => rpoint_s _ _ _ _ _ _ (by first | assumption | exact ROs.wide (by assumption) | exact ROs.mono (by assumption) (eqh_at 0 rfl p d) | exact ros_at 0 rfl p d | exact ros_at 1 rfl p d | exact ros_at 2 rfl p d | exact ros_at 3 rfl p d | exact ros_at 4 rfl p d) (by first | assumption | omega) (by assumption)) ?_
          refine WL.nilE (WD.takeL 27 rfl (by decide +kernel) (WL.gY rfl rfl (WL.neq rfl rfl rfl (WL.nilT (WD.takeL 28 rfl (by decide +kernel) (WL.pickF rfl rfl rfl (WL.nilT ?_)))))))
          refine WD.doneF hσ0 (by decide +kernel) (by repeat' constructor) ?_
          refine W.fit (Hs' := []) (by (repeat' first | exact Sel.nil | apply Sel.k | exact Pick.h | apply Pick.t)) (W.sub ?_ (cut () ρ3 (Le.refl _) trivial))
          exact ⟨rfl, rfl, rfl, rfl, by rw [show decide (((j : Nat) : Int) ≠ ((j : Nat) : Int)) = false by simp]; rfl, trivial⟩
      · refine W.seq ?_
        refine W.seq (W.region (WL.mv rfl rfl (WL.mv rfl rfl ?_)))
        refine WL.len (T := Ty) rfl rfl (by assumption) rfl ?_
        refine WL.lss rfl rfl rfl (WL.nil (W.condpT rfl (by omega) (W.skip (W.seq (W.block (W.seq (W.seq ?_)))))))
        refine W.drawA 29 rfl (fun σ0 hσ0 dσ0 => ?_)
        refine WD.takeL 0 rfl (by decide +kernel) (WL.mv rfl rfl (WL.nilT (WD.takeL 1 rfl (by decide +kernel) (WL.mv rfl rfl (WL.nilT (WD.takeL 2 rfl (by decide +kernel) (WL.mv rfl rfl (WL.nilT (WD.takeL 3 rfl (by decide +kernel) ?_)))))))))
        refine WL.ix (T := Ty) rfl rfl rfl (by assumption) rfl rfl (by omega) (by first | omega | decide +kernel) ?_
        refine WL.nilT (WD.takeL 4 rfl (by decide +kernel) (WL.faEN (T := Ty) (off' := 0) rfl rfl rfl rfl rfl rfl rfl (WL.nilT (WD.takeL 5 rfl (by decide +kernel) ?_))))
        refine WL.ldR (T := Ty) rfl rfl rfl rfl (by first | assumption | exact ROs.wide (by assumption)) (by assumption) ?_
        refine WL.nilT (WD.takeL 6 rfl (by decide +kernel) (WL.mv rfl rfl (WL.nilT (WD.takeL 7 rfl (by decide +kernel) (WL.mv rfl rfl (WL.nilT (WD.takeL 8 rfl (by decide +kernel) ?_)))))))
        refine WL.ix (T := Ty) rfl rfl rfl (by assumption) rfl rfl (by omega) (by first | omega | decide +kernel) ?_
        refine WL.nilT (WD.takeL 9 rfl (by decide +kernel) (WL.faEN (T := Ty) (off' := 1) rfl rfl rfl rfl rfl rfl rfl (WL.nilT (WD.takeL 10 rfl (by decide +kernel) ?_))))
        refine WL.ldR (T := Ty) rfl rfl rfl rfl (by first | assumption | exact ROs.wide (by assumption)) (by assumption) ?_
        refine WL.nilT (WD.oneL 11 rfl (by decide +kernel) ?_)
        refine WL.callV rfl rfl (fun x p d => rcall_s _ _ _ _ _ _ (by first | assumption | exact ROs.wide (by assumption) | exact ROs.mono (by assumption) (eqh_at 0 rfl p d) | exact ros_at 0 rfl p d | exact ros_at 1 rfl p d | exact ros_at 2 rfl p d | exact ros_at 3 rfl p d | exact ros_at 4 rfl p d) (by first | assumption | omega) (by assumption)) ?_
        refine WL.nilE (WD.takeL 12 rfl (by decide +kernel) (WL.lss rfl rfl rfl (WL.nilT (WD.takeL 13 rfl (by decide +kernel) (WL.mv rfl rfl (WL.nilT (WD.takeL 14 rfl (by decide +kernel) (WL.gY rfl rfl (WL.mv rfl rfl (WL.nilT (WD.takeL 15 rfl (by decide +kernel) (WL.gY rfl rfl (WL.mv rfl rfl ?_)))))))))))))
        refine WL.nilT (WD.takeL 16 rfl (by decide +kernel) (WL.gY rfl rfl (WL.mv rfl rfl (WL.nilT (WD.takeL 17 rfl (by decide +kernel) (WL.gY rfl rfl ?_))))))
        refine WL.ix (T := Ty) rfl rfl rfl (by assumption) rfl rfl (by omega) (by first | omega | decide +kernel) ?_
        refine WL.nilT (WD.takeL 18 rfl (by decide +kernel) (WL.gY rfl rfl (WL.faEN (T := Ty) (off' := 0) rfl rfl rfl rfl rfl rfl rfl (WL.nilT (WD.takeL 19 rfl (by decide +kernel) (WL.gY rfl rfl ?_))))))
        refine WL.ldR (T := Ty) rfl rfl rfl rfl (by first | assumption | exact ROs.wide (by assumption)) (by assumption) ?_
        refine WL.nilT (WD.takeL 20 rfl (by decide +kernel) (WL.gY rfl rfl (WL.mv rfl rfl (WL.nilT (WD.takeL 21 rfl (by decide +kernel) (WL.gY rfl rfl (WL.mv rfl rfl (WL.nilT (WD.takeL 22 rfl (by decide +kernel) (WL.gY rfl rfl ?_))))))))))
        refine WL.ix (T := Ty) rfl rfl rfl (by assumption) rfl rfl (by omega) (by first | omega | decide +kernel) ?_
        refine WL.nilT (WD.takeL 23 rfl (by decide +kernel) (WL.gY rfl rfl (WL.faEN (T := Ty) (off' := 1) rfl rfl rfl rfl rfl rfl rfl (WL.nilT (WD.takeL 24 rfl (by decide +kernel) (WL.gY rfl rfl ?_))))))
        refine WL.ldR (T := Ty) rfl rfl rfl rfl (by first | assumption | exact ROs.wide (by assumption)) (by assumption) ?_
        refine WL.nilT (WD.takeL 26 rfl (by decide +kernel) (WL.gY rfl rfl (WL.mv rfl rfl (WL.nilT (WD.oneL 25 rfl (by decide +kernel) (WL.gY rfl rfl ?_))))))
        refine WL.callV rfl rfl (fun x p d => rpoint_s _ _ _ _ _ _ (by first | assumption | exact ROs.wide (by assumption) | exact ROs.mono (by assumption) (eqh_at 0 rfl p d) | exact ros_at 0 rfl p d | exact ros_at 1 rfl p d | exact ros_at 2 rfl p d | exact ros_at 3 rfl p d | exact ros_at 4 rfl p d) (by first | assumption | omega) (by assumption)) ?_
        refine WL.nilE (WD.takeL 27 rfl (by decide +kernel) (WL.gY rfl rfl (WL.neq rfl rfl rfl (WL.nilT (WD.takeL 28 rfl (by decide +kernel) (WL.pickF rfl rfl rfl (WL.nilT ?_)))))))
        refine WD.doneF hσ0 (by decide +kernel) (by repeat' constructor) ?_
        refine W.condpT rfl (by omega) (W.seq (W.region (WL.as rfl rfl (WL.nil ?_))))
        exact W.fit (Hs' := []) (by (repeat' first | exact Sel.nil | apply Sel.k | exact Pick.h | apply Pick.t)) (W.ret1 rfl rfl (fun h q => ⟨by rw [no (ordR_no2 hp (fun h => hne (Option.some.inj (hj.symm.trans h))))], q⟩))
  · have hio : i = o.length := by omega
    subst hio
    rw [hok, Bool.true_and]
    refine W.seq (W.seq (W.region (WL.mv rfl rfl (WL.mv rfl rfl ?_))))
    refine WL.len (T := Ty) rfl rfl (by assumption) rfl ?_
    refine WL.lss rfl rfl rfl (WL.nil (W.condpF rfl (by omega) (W.exit rfl (W.seq (W.seq (W.region (WL.as rfl rfl (WL.nil (W.block ?_)))))))))
    refine W.loopR (σ := Nat) (fun i => [(0, v), (1, w), (6, u0), (10, .int .i64 (i : Int))]) (fun i => []) (fun i ρ' => i ≤ L.length ∧ allN (evR L o r) i = true) (fun i => L.length - i)
      0 ⟨rfl, rfl, rfl, rfl, trivial⟩ rfl ⟨Nat.zero_le _, by unfold allN; rfl⟩ ?_
    rintro i ρ4 le4 ⟨hi, hok2⟩ next2
    replace rr := rr.mono le4
    replace r0 := r0.mono le4
    replace r1 := r1.mono le4
    by_cases hc2 : i < L.length
    · obtain ⟨⟨e, lv⟩, he⟩ : ∃ e, L[i]? = some e := ⟨_, List.getElem?_eq_getElem hc2⟩
      have hrow : ((L.flatMap evC).drop (((i : Nat) : Int).toNat * 14)).take 14 = evC (e, lv) := flat_row ev_len he
      have hmem := List.mem_of_getElem? he
      have sw := hs _ hmem
      have r4 := ((((h0 _ hmem).1.mono le2).mono le3).mono le4)
      have r5 := (h0 _ hmem).2
      dsimp only at sw r4 r5
      unfold evC at hrow
      dsimp only at hrow
      have nx2 := fun (h1 : evR L o r i = true) => next2 (i + 1) ρ4 (Le.refl _) ⟨hc2, allN_step hok2 h1⟩ (by omega)
      have no2 : evR L o r i = false → allN (evR L o r) L.length = false := fun h => allN_no hc2 h
      by_cases hk : e.kind = 2
      · cases hcx : cix L L.length (e.who, e.n) with
        | none =>
          refine W.seq (W.seq (W.region (WL.mv rfl rfl (WL.mv rfl rfl ?_))))
          refine WL.len (T := Ty) rfl rfl (by assumption) rfl ?_
          refine WL.lss rfl rfl rfl (WL.nil (W.condpT rfl (by omega) (W.skip (W.seq (W.block (W.seq (W.region (WL.mv rfl rfl (WL.mv rfl rfl ?_)))))))))
          refine WL.ix (T := Ty) rfl rfl rfl (by assumption) rfl rfl (by omega) (by first | omega | decide +kernel) ?_
          refine WL.ldAR (T := Ty) rfl rfl rfl rfl (by first | assumption | exact ROs.wide (by assumption)) (by assumption) rfl ?_
          refine WL.alF (T := Ty) rfl rfl (by repeat' constructor) (fun b2 => ?_)
          refine WL.stAO (T := Ty) (j := 0) rfl rfl rfl rfl (by repeat' first | exact AO.nil | apply AO.cons (by first | rfl | exact SL.one (by assumption))) rfl rfl (by repeat' constructor) (by repeat' constructor) ?_
          refine WL.nil (W.seq (W.seq (W.region (WL.faN (T := Ty) (off' := 0) rfl rfl rfl rfl rfl rfl rfl (WL.ldN (T := Ty) (j := 0) rfl rfl rfl rfl rfl rfl (WL.neq rfl rfl rfl (WL.nil (W.condpF rfl (by omega) (W.skip (W.seq (W.region (WL.mv rfl rfl (WL.faN (T := Ty) (off' := 1) rfl rfl rfl rfl rfl rfl rfl ?_)))))))))))))
          refine WL.ldN (T := Ty) (j := 0) rfl rfl rfl rfl rfl rfl (WL.faN (T := Ty) (off' := 2) rfl rfl rfl rfl rfl rfl rfl (WL.ldN (T := Ty) (j := 0) rfl rfl rfl rfl rfl rfl ?_))
          refine WL.callV rfl rfl (fun x p d => rcall_n _ _ _ _ _ (by first | assumption | exact ROs.wide (by assumption) | exact ROs.mono (by assumption) (eqh_at 0 rfl p d) | exact ros_at 0 rfl p d | exact ros_at 1 rfl p d | exact ros_at 2 rfl p d | exact ros_at 3 rfl p d | exact ros_at 4 rfl p d) (by first | assumption | omega) (by assumption)) ?_
          refine WL.as rfl rfl (WL.nil (W.seq (W.seq (W.region (WL.mv rfl rfl (WL.lss rfl rfl rfl (WL.mv rfl rfl (WL.gdN rfl rfl rfl rfl rfl rfl (WL.gdN rfl rfl rfl rfl rfl rfl (WL.gdN rfl rfl rfl rfl rfl rfl (WL.pickT rfl rfl rfl (WL.nil (W.condT rfl ?_)))))))))))))
          refine W.seq (W.region (WL.as rfl rfl (WL.nil ?_)))
          exact W.fit (Hs' := []) (by (repeat' first | exact Sel.nil | apply Sel.k | exact Pick.h | apply Pick.t)) (W.ret1 rfl rfl (fun h q => ⟨by rw [no2 (by rw [evR_rep he hk]; exact repM_no1 hcx)], q⟩))
        | some c =>
          by_cases hgt : i < c
          · refine W.seq ?_
            refine W.seq (W.region (WL.mv rfl rfl (WL.mv rfl rfl ?_)))
            refine WL.len (T := Ty) rfl rfl (by assumption) rfl ?_
            refine WL.lss rfl rfl rfl (WL.nil (W.condpT rfl (by omega) (W.skip (W.seq (W.block (W.seq (W.region (WL.mv rfl rfl (WL.mv rfl rfl ?_)))))))))
            refine WL.ix (T := Ty) rfl rfl rfl (by assumption) rfl rfl (by omega) (by first | omega | decide +kernel) ?_
            refine WL.ldAR (T := Ty) rfl rfl rfl rfl (by first | assumption | exact ROs.wide (by assumption)) (by assumption) rfl ?_
            refine WL.alF (T := Ty) rfl rfl (by repeat' constructor) (fun b2 => ?_)
            refine WL.stAO (T := Ty) (j := 0) rfl rfl rfl rfl (by repeat' first | exact AO.nil | apply AO.cons (by first | rfl | exact SL.one (by assumption))) rfl rfl (by repeat' constructor) (by repeat' constructor) ?_
            refine WL.nil (W.seq (W.seq (W.region (WL.faN (T := Ty) (off' := 0) rfl rfl rfl rfl rfl rfl rfl (WL.ldN (T := Ty) (j := 0) rfl rfl rfl rfl rfl rfl (WL.neq rfl rfl rfl (WL.nil (W.condpF rfl (by omega) (W.skip (W.seq (W.region (WL.mv rfl rfl (WL.faN (T := Ty) (off' := 1) rfl rfl rfl rfl rfl rfl rfl ?_)))))))))))))
            refine WL.ldN (T := Ty) (j := 0) rfl rfl rfl rfl rfl rfl (WL.faN (T := Ty) (off' := 2) rfl rfl rfl rfl rfl rfl rfl (WL.ldN (T := Ty) (j := 0) rfl rfl rfl rfl rfl rfl ?_))
            refine WL.callV rfl rfl (fun x p d => rcall_s _ _ _ _ _ _ (by first | assumption | exact ROs.wide (by assumption) | exact ROs.mono (by assumption) (eqh_at 0 rfl p d) | exact ros_at 0 rfl p d | exact ros_at 1 rfl p d | exact ros_at 2 rfl p d | exact ros_at 3 rfl p d | exact ros_at 4 rfl p d) (by first | assumption | omega) (by assumption)) ?_
            refine WL.as rfl rfl (WL.nil (W.seq (W.seq (W.region (WL.mv rfl rfl (WL.lss rfl rfl rfl (WL.mv rfl rfl (WL.gY rfl rfl (WL.mv rfl rfl (WL.gY rfl rfl (WL.mv rfl rfl (WL.gY rfl rfl (WL.gtr rfl rfl rfl ?_)))))))))))))
            refine WL.pickF rfl rfl rfl (WL.nil (W.condpT rfl (by omega) (W.seq (W.region (WL.as rfl rfl (WL.nil ?_))))))
            exact W.fit (Hs' := []) (by (repeat' first | exact Sel.nil | apply Sel.k | exact Pick.h | apply Pick.t)) (W.ret1 rfl rfl (fun h q => ⟨by rw [no2 (by rw [evR_rep he hk]; exact repM_no2 hcx hgt)], q⟩))
          · have r1h := PLift.up r1
            clear r1
            refine W.seq (W.seq (W.region (WL.mv rfl rfl (WL.mv rfl rfl ?_))))
            refine WL.len (T := Ty) rfl rfl (by assumption) rfl ?_
            refine WL.lss rfl rfl rfl (WL.nil (W.condpT rfl (by omega) (W.skip (W.seq (W.block (W.seq (W.region (WL.mv rfl rfl (WL.mv rfl rfl ?_)))))))))
            refine WL.ix (T := Ty) rfl rfl rfl (by assumption) rfl rfl (by omega) (by first | omega | decide +kernel) ?_
            refine WL.ldAR (T := Ty) rfl rfl rfl rfl (by first | assumption | exact ROs.wide (by assumption)) (by assumption) rfl ?_
            refine WL.alF (T := Ty) rfl rfl (by repeat' constructor) (fun b2 => ?_)
            refine WL.stAO (T := Ty) (j := 0) rfl rfl rfl rfl (by repeat' first | exact AO.nil | apply AO.cons (by first | rfl | exact SL.one (by assumption))) rfl rfl (by repeat' constructor) (by repeat' constructor) ?_
            refine WL.nil (W.seq (W.seq (W.region (WL.faN (T := Ty) (off' := 0) rfl rfl rfl rfl rfl rfl rfl (WL.ldN (T := Ty) (j := 0) rfl rfl rfl rfl rfl rfl (WL.neq rfl rfl rfl (WL.nil (W.condpF rfl (by omega) (W.skip (W.seq (W.region (WL.mv rfl rfl (WL.faN (T := Ty) (off' := 1) rfl rfl rfl rfl rfl rfl rfl ?_)))))))))))))
            refine WL.ldN (T := Ty) (j := 0) rfl rfl rfl rfl rfl rfl (WL.faN (T := Ty) (off' := 2) rfl rfl rfl rfl rfl rfl rfl (WL.ldN (T := Ty) (j := 0) rfl rfl rfl rfl rfl rfl ?_))
            refine WL.callV rfl rfl (fun x p d => rcall_s _ _ _ _ _ _ (by first | assumption | exact ROs.wide (by assumption) | exact ROs.mono (by assumption) (eqh_at 0 rfl p d) | exact ros_at 0 rfl p d | exact ros_at 1 rfl p d | exact ros_at 2 rfl p d | exact ros_at 3 rfl p d | exact ros_at 4 rfl p d) (by first | assumption | omega) (by assumption)) ?_
            refine WL.as rfl rfl (WL.nil (W.seq (W.seq (W.region (WL.mv rfl rfl (WL.lss rfl rfl rfl (WL.mv rfl rfl (WL.gY rfl rfl (WL.mv rfl rfl (WL.gY rfl rfl (WL.mv rfl rfl (WL.gY rfl rfl (WL.gtr rfl rfl rfl ?_)))))))))))))
            refine WL.pickF rfl rfl rfl (WL.nil (W.condpF rfl (by omega) (W.skip (W.seq (W.region (WL.mv rfl rfl (WL.faN (T := Ty) (off' := 1) rfl rfl rfl rfl rfl rfl rfl (WL.ldN (T := Ty) (j := 0) rfl rfl rfl rfl rfl rfl (WL.faN (T := Ty) (off' := 2) rfl rfl rfl rfl rfl rfl rfl (WL.ldN (T := Ty) (j := 0) rfl rfl rfl rfl rfl rfl ?_))))))))))
            have r1 := r1h.down
            clear r1h
            refine WL.callV rfl rfl (fun x p d => rpoint_c _ _ _ _ _ (by first | assumption | exact ROs.wide (by assumption)) (by first | assumption | omega)) ?_
            refine WL.as rfl rfl (WL.nil (W.seq ?_))
            refine W.cutG (τ := Bool) (fun s => [(0, v), (1, w), (6, u0), (10, .int .i64 (i : Int)), (11, pt b2 0), (13, .int .i64 (ixV (pix o o.length (e.who, e.n)))), (14, .bool s)]) (fun s => [box b2 [.int .i64 e.kind, .int .i64 e.who, .int .i64 e.n, .int .i64 e.op.kind, .int .i64 e.op.series, .int .i64 e.op.iter, .int .i64 e.op.t, .int .u64 e.op.v, .int .i64 e.op.lo, .int .i64 e.op.hi, .int .i64 e.op.n, .int .i64 e.res.err, .int .i64 e.res.iter, lv] 61]) (fun s ρ' => ρ' = ρ4 ∧ ovr e.res.err = s) ?_ (fun cut => ?_)
            · rintro b _ _ ⟨rfl, hov⟩
              cases hpx : pix o o.length (e.who, e.n) with
              | none =>
                have hix : ixV none = -1 := rfl
                rw [hix]
                cases b with
                | false =>
                  refine W.seq ?_
                  refine W.drawA 20 rfl (fun σ0 hσ0 dσ0 => ?_)
                  have fσ0_0 := rb_at 0 rfl hσ0 dσ0
                  refine WD.takeL 0 rfl (by decide +kernel) (WL.mv rfl rfl (WL.nilT (WD.takeL 1 rfl (by decide +kernel) (WL.geq rfl rfl rfl (WL.nilT (WD.takeL 2 rfl (by decide +kernel) (WL.mv rfl rfl (WL.nilT (WD.takeL 3 rfl (by decide +kernel) (WL.gdN rfl rfl rfl rfl rfl rfl (WL.nilT (WD.takeL 4 rfl (by decide +kernel) (WL.gdN rfl rfl rfl rfl rfl rfl ?_)))))))))))))
                  refine WL.nilT (WD.takeL 5 rfl (by decide +kernel) (WL.gdN rfl rfl rfl rfl rfl rfl (WL.nilT (WD.takeL 6 rfl (by decide +kernel) (WL.gdN rfl rfl rfl rfl rfl rfl (WL.nilT (WD.takeL 7 rfl (by decide +kernel) (WL.gdN rfl rfl rfl rfl rfl rfl (WL.nilT (WD.takeL 8 rfl (by decide +kernel) (WL.gdN rfl rfl rfl rfl rfl rfl (WL.nilT (WD.takeL 9 rfl (by decide +kernel) ?_)))))))))))))
                  refine WL.gdN rfl rfl rfl rfl rfl rfl (WL.nilT (WD.takeL 10 rfl (by decide +kernel) (WL.gdN rfl rfl rfl rfl rfl rfl (WL.nilT (WD.takeL 11 rfl (by decide +kernel) (WL.pickF rfl rfl rfl (WL.nilT (WD.takeL 12 rfl (by decide +kernel) (WL.mv rfl rfl (WL.nilT (WD.takeL 13 rfl (by decide +kernel) (WL.gY rfl rfl (WL.mv rfl rfl ?_)))))))))))))
                  refine WL.nilT (WD.takeL 14 rfl (by decide +kernel) (WL.gY rfl rfl (WL.lss rfl rfl rfl (WL.nilT (WD.takeL 15 rfl (by decide +kernel) (WL.gY rfl rfl (WL.mv rfl rfl (WL.nilT (WD.takeL 16 rfl (by decide +kernel) (WL.gY rfl rfl (WL.mv rfl rfl (WL.nilT (WD.takeL 17 rfl (by decide +kernel) ?_)))))))))))))
                  refine WL.gY rfl rfl (WL.not rfl rfl (WL.nilT (WD.takeL 18 rfl (by decide +kernel) (WL.gY rfl rfl (WL.pickT rfl rfl rfl (WL.nilT (WD.takeL 19 rfl (by decide +kernel) (WL.pickF rfl rfl rfl (WL.nilT ?_)))))))))
                  refine WD.doneF hσ0 (by decide +kernel) (by repeat' constructor) ?_
                  refine W.condT rfl (W.seq (W.region (WL.as rfl rfl (WL.nil ?_))))
                  exact W.fit (Hs' := []) (by (repeat' first | exact Sel.nil | apply Sel.k | exact Pick.h | apply Pick.t)) (W.ret1 rfl rfl (fun h q => ⟨by rw [no2 (by rw [evR_rep he hk, repM_out hcx hgt hpx, hov])], q⟩))
                | true =>
                  refine W.seq ?_
                  refine W.drawA 20 rfl (fun σ0 hσ0 dσ0 => ?_)
                  have fσ0_0 := rb_at 0 rfl hσ0 dσ0
                  refine WD.takeL 0 rfl (by decide +kernel) (WL.mv rfl rfl (WL.nilT (WD.takeL 1 rfl (by decide +kernel) (WL.geq rfl rfl rfl (WL.nilT (WD.takeL 2 rfl (by decide +kernel) (WL.mv rfl rfl (WL.nilT (WD.takeL 3 rfl (by decide +kernel) (WL.gdN rfl rfl rfl rfl rfl rfl (WL.nilT (WD.takeL 4 rfl (by decide +kernel) (WL.gdN rfl rfl rfl rfl rfl rfl ?_)))))))))))))
                  refine WL.nilT (WD.takeL 5 rfl (by decide +kernel) (WL.gdN rfl rfl rfl rfl rfl rfl (WL.nilT (WD.takeL 6 rfl (by decide +kernel) (WL.gdN rfl rfl rfl rfl rfl rfl (WL.nilT (WD.takeL 7 rfl (by decide +kernel) (WL.gdN rfl rfl rfl rfl rfl rfl (WL.nilT (WD.takeL 8 rfl (by decide +kernel) (WL.gdN rfl rfl rfl rfl rfl rfl (WL.nilT (WD.takeL 9 rfl (by decide +kernel) ?_)))))))))))))
                  refine WL.gdN rfl rfl rfl rfl rfl rfl (WL.nilT (WD.takeL 10 rfl (by decide +kernel) (WL.gdN rfl rfl rfl rfl rfl rfl (WL.nilT (WD.takeL 11 rfl (by decide +kernel) (WL.pickF rfl rfl rfl (WL.nilT (WD.takeL 12 rfl (by decide +kernel) (WL.mv rfl rfl (WL.nilT (WD.takeL 13 rfl (by decide +kernel) (WL.gY rfl rfl (WL.mv rfl rfl ?_)))))))))))))
                  refine WL.nilT (WD.takeL 14 rfl (by decide +kernel) (WL.gY rfl rfl (WL.lss rfl rfl rfl (WL.nilT (WD.takeL 15 rfl (by decide +kernel) (WL.gY rfl rfl (WL.mv rfl rfl (WL.nilT (WD.takeL 16 rfl (by decide +kernel) (WL.gY rfl rfl (WL.mv rfl rfl (WL.nilT (WD.takeL 17 rfl (by decide +kernel) ?_)))))))))))))
                  refine WL.gY rfl rfl (WL.not rfl rfl (WL.nilT (WD.takeL 18 rfl (by decide +kernel) (WL.gY rfl rfl (WL.pickT rfl rfl rfl (WL.nilT (WD.takeL 19 rfl (by decide +kernel) (WL.pickF rfl rfl rfl (WL.nilT ?_)))))))))
                  refine WD.doneF hσ0 (by decide +kernel) (by repeat' constructor) ?_
                  refine W.condF rfl (W.skip (W.inBlock (W.region (WL.mv rfl rfl (WL.addK rfl rfl rfl (wrap_i64 ⟨by omega, by omega⟩) (WL.as rfl rfl (WL.nil ?_)))))))
                  refine W.fit (Hs' := []) (by (repeat' first | exact Sel.nil | apply Sel.k | exact Pick.h | apply Pick.t)) (W.sub ?_ (nx2 (by rw [evR_rep he hk, repM_out hcx hgt hpx, hov])))
                  exact ⟨rfl, rfl, rfl, rfl, trivial⟩
              | some a =>
                have hix : ixV (some a) = ((a : Nat) : Int) := rfl
                rw [hix]
                obtain ⟨ha, hoa⟩ := pix_lt _ _ _ _ hpx
                obtain ⟨⟨x, xl⟩, hx⟩ : ∃ x, R0[a]? = some x := ⟨_, List.getElem?_eq_getElem (by omega)⟩
                have hrx : r[a]? = some x := by rw [← er0, List.getElem?_map, hx]; rfl
                have hrow2 : ((R0.flatMap rstC).drop (((a : Nat) : Int).toNat * 3)).take 3 = rstC (x, xl) := flat_row (k := 3) (f := rstC) (fun _ => rfl) hx
                unfold rstC at hrow2
                dsimp only at hrow2
                have hxr := rR _ (List.mem_of_getElem? hx)
                have hxl : x.list.length ≤ 100000000 := hrl x (List.mem_of_getElem? hrx)
                have hq1 : RRst _ (.agg #[.int .i64 e.res.err, .int .i64 e.res.iter, lv]) e.res := ⟨lv, rfl, r4⟩
                have hq2 : RRst _ (.agg #[.int .i64 x.err, .int .i64 x.iter, xl]) x := ⟨xl, rfl, (hxr.mono le3).mono le4⟩
                have sx : SL xl x.list.length := hxr.sl (flat_len sm_len _) (by omega)
                cases hsm : sameRst x e.res with
                | false =>
                  cases b with
                  | false =>
                    refine W.seq ?_
                    refine W.drawA 20 rfl (fun σ0 hσ0 dσ0 => ?_)
                    have fσ0_0 := rb_at 0 rfl hσ0 dσ0
                    refine WD.takeL 0 rfl (by decide +kernel) (WL.mv rfl rfl (WL.nilT (WD.takeL 1 rfl (by decide +kernel) (WL.geq rfl rfl rfl (WL.nilT (WD.takeL 2 rfl (by decide +kernel) (WL.mv rfl rfl (WL.nilT (WD.takeL 3 rfl (by decide +kernel) (WL.gY rfl rfl (WL.mv rfl rfl (WL.nilT (WD.takeL 4 rfl (by decide +kernel) ?_)))))))))))))
                    refine WL.gY rfl rfl (WL.mv rfl rfl (WL.nilT (WD.takeL 5 rfl (by decide +kernel) (WL.gY rfl rfl ?_))))
                    refine WL.ix (T := Ty) rfl rfl rfl (by assumption) rfl rfl (by omega) (by first | omega | decide +kernel) ?_
                    refine WL.nilT (WD.takeL 6 rfl (by decide +kernel) (WL.gY rfl rfl ?_))
                    refine WL.ldAR (T := Ty) rfl rfl rfl rfl (by first | assumption | exact ROs.wide (by assumption)) (by assumption) rfl ?_
                    refine WL.nilT (WD.takeL 7 rfl (by decide +kernel) (WL.gY rfl rfl (WL.faN (T := Ty) (off' := 11) rfl rfl rfl rfl rfl rfl rfl (WL.nilT (WD.takeL 8 rfl (by decide +kernel) (WL.gY rfl rfl ?_))))))
                    refine WL.ldABF (T := Ty) rfl rfl rfl rfl (by first | assumption | exact RB.wide (by assumption) | exact In.rb (by assumption)) rfl (by repeat' constructor) ?_
                    refine WL.nilT (WD.oneL 9 rfl (by decide +kernel) (WL.gY rfl rfl ?_))
                    refine WL.callV rfl rfl (fun x p d => rsameR_e _ _ _ _ _ _ (by first | assumption | exact RRst.wide (by assumption) | exact RRst.mono (by assumption) (eqh_at 0 rfl p d) | exact RRst.mono (In.rrst (by assumption)) (eqh_at 0 rfl p d) | exact (in_at 0 rfl p d).rrst | exact (in_at 1 rfl p d).rrst | exact (in_at 2 rfl p d).rrst | exact (in_at 3 rfl p d).rrst | exact (in_at 4 rfl p d).rrst | exact (in_at 5 rfl p d).rrst | exact (in_at 6 rfl p d).rrst | exact (in_at 7 rfl p d).rrst | exact (in_at 8 rfl p d).rrst | exact (in_at 9 rfl p d).rrst | exact (in_at 10 rfl p d).rrst | exact (in_at 11 rfl p d).rrst | exact (in_at 12 rfl p d).rrst | exact (in_at 13 rfl p d).rrst | exact (in_at 14 rfl p d).rrst | exact (in_at 15 rfl p d).rrst | exact (in_at 16 rfl p d).rrst | exact (in_at 17 rfl p d).rrst | exact (in_at 18 rfl p d).rrst | exact (in_at 19 rfl p d).rrst | exact (in_at 20 rfl p d).rrst | exact (in_at 21 rfl p d).rrst | exact (in_at 22 rfl p d).rrst | exact (in_at 23 rfl p d).rrst | exact (in_at 24 rfl p d).rrst | exact (in_at 25 rfl p d).rrst | exact (in_at 26 rfl p d).rrst | exact (in_at 27 rfl p d).rrst | exact (in_at 28 rfl p d).rrst | exact (in_at 29 rfl p d).rrst) (by first | assumption | exact RRst.wide (by assumption) | exact RRst.mono (by assumption) (eqh_at 0 rfl p d) | exact RRst.mono (In.rrst (by assumption)) (eqh_at 0 rfl p d) | exact (in_at 0 rfl p d).rrst | exact (in_at 1 rfl p d).rrst | exact (in_at 2 rfl p d).rrst | exact (in_at 3 rfl p d).rrst | exact (in_at 4 rfl p d).rrst | exact (in_at 5 rfl p d).rrst | exact (in_at 6 rfl p d).rrst | exact (in_at 7 rfl p d).rrst | exact (in_at 8 rfl p d).rrst | exact (in_at 9 rfl p d).rrst | exact (in_at 10 rfl p d).rrst | exact (in_at 11 rfl p d).rrst | exact (in_at 12 rfl p d).rrst | exact (in_at 13 rfl p d).rrst | exact (in_at 14 rfl p d).rrst | exact (in_at 15 rfl p d).rrst | exact (in_at 16 rfl p d).rrst | exact (in_at 17 rfl p d).rrst | exact (in_at 18 rfl p d).rrst | exact (in_at 19 rfl p d).rrst | exact (in_at 20 rfl p d).rrst | exact (in_at 21 rfl p d).rrst | exact (in_at 22 rfl p d).rrst | exact (in_at 23 rfl p d).rrst | exact (in_at 24 rfl p d).rrst | exact (in_at 25 rfl p d).rrst | exact (in_at 26 rfl p d).rrst | exact (in_at 27 rfl p d).rrst | exact (in_at 28 rfl p d).rrst | exact (in_at 29 rfl p d).rrst) (by first | assumption | omega | decide) (by assumption)) ?_
                    refine WL.nilE (WD.takeL 10 rfl (by decide +kernel) (WL.gY rfl rfl (WL.not rfl rfl (WL.nilT (WD.takeL 11 rfl (by decide +kernel) (WL.pickT rfl rfl rfl (WL.nilT (WD.takeL 12 rfl (by decide +kernel) (WL.mv rfl rfl (WL.nilT (WD.takeL 13 rfl (by decide +kernel) (WL.gdN rfl rfl rfl rfl rfl rfl (WL.nilT ?_)))))))))))))
                    refine WD.takeL 14 rfl (by decide +kernel) (WL.gdN rfl rfl rfl rfl rfl rfl (WL.nilT (WD.takeL 15 rfl (by decide +kernel) (WL.gdN rfl rfl rfl rfl rfl rfl (WL.nilT (WD.takeL 16 rfl (by decide +kernel) (WL.gdU rfl rfl rfl rfl rfl (WL.nilT (WD.takeL 17 rfl (by decide +kernel) (WL.gdU rfl rfl rfl rfl rfl (WL.nilT (WD.takeL 18 rfl (by decide +kernel) (WL.gdN rfl rfl rfl rfl rfl rfl ?_)))))))))))))
                    refine WL.nilT (WD.takeL 19 rfl (by decide +kernel) (WL.pickT rfl rfl rfl (WL.nilT ?_)))
                    refine WD.doneF hσ0 (by decide +kernel) (by repeat' constructor) ?_
                    refine W.condT rfl (W.seq (W.region (WL.as rfl rfl (WL.nil ?_))))
                    exact W.fit (Hs' := []) (by (repeat' first | exact Sel.nil | apply Sel.k | exact Pick.h | apply Pick.t)) (W.ret1 rfl rfl (fun h q => ⟨by rw [no2 (by rw [evR_rep he hk, repM_in hcx hgt hpx hrx, hsm])], q⟩))
                  | true =>
                    refine W.seq ?_
                    refine W.drawA 20 rfl (fun σ0 hσ0 dσ0 => ?_)
                    have fσ0_0 := rb_at 0 rfl hσ0 dσ0
                    refine WD.takeL 0 rfl (by decide +kernel) (WL.mv rfl rfl (WL.nilT (WD.takeL 1 rfl (by decide +kernel) (WL.geq rfl rfl rfl (WL.nilT (WD.takeL 2 rfl (by decide +kernel) (WL.mv rfl rfl (WL.nilT (WD.takeL 3 rfl (by decide +kernel) (WL.gY rfl rfl (WL.mv rfl rfl (WL.nilT (WD.takeL 4 rfl (by decide +kernel) ?_)))))))))))))
                    refine WL.gY rfl rfl (WL.mv rfl rfl (WL.nilT (WD.takeL 5 rfl (by decide +kernel) (WL.gY rfl rfl ?_))))
                    refine WL.ix (T := Ty) rfl rfl rfl (by assumption) rfl rfl (by omega) (by first | omega | decide +kernel) ?_
                    refine WL.nilT (WD.takeL 6 rfl (by decide +kernel) (WL.gY rfl rfl ?_))
                    refine WL.ldAR (T := Ty) rfl rfl rfl rfl (by first | assumption | exact ROs.wide (by assumption)) (by assumption) rfl ?_
                    refine WL.nilT (WD.takeL 7 rfl (by decide +kernel) (WL.gY rfl rfl (WL.faN (T := Ty) (off' := 11) rfl rfl rfl rfl rfl rfl rfl (WL.nilT (WD.takeL 8 rfl (by decide +kernel) (WL.gY rfl rfl ?_))))))
                    refine WL.ldABF (T := Ty) rfl rfl rfl rfl (by first | assumption | exact RB.wide (by assumption) | exact In.rb (by assumption)) rfl (by repeat' constructor) ?_
                    refine WL.nilT (WD.oneL 9 rfl (by decide +kernel) (WL.gY rfl rfl ?_))
                    refine WL.callV rfl rfl (fun x p d => rsameR_e _ _ _ _ _ _ (by first | assumption | exact RRst.wide (by assumption) | exact RRst.mono (by assumption) (eqh_at 0 rfl p d) | exact RRst.mono (In.rrst (by assumption)) (eqh_at 0 rfl p d) | exact (in_at 0 rfl p d).rrst | exact (in_at 1 rfl p d).rrst | exact (in_at 2 rfl p d).rrst | exact (in_at 3 rfl p d).rrst | exact (in_at 4 rfl p d).rrst | exact (in_at 5 rfl p d).rrst | exact (in_at 6 rfl p d).rrst | exact (in_at 7 rfl p d).rrst | exact (in_at 8 rfl p d).rrst | exact (in_at 9 rfl p d).rrst | exact (in_at 10 rfl p d).rrst | exact (in_at 11 rfl p d).rrst | exact (in_at 12 rfl p d).rrst | exact (in_at 13 rfl p d).rrst | exact (in_at 14 rfl p d).rrst | exact (in_at 15 rfl p d).rrst | exact (in_at 16 rfl p d).rrst | exact (in_at 17 rfl p d).rrst | exact (in_at 18 rfl p d).rrst | exact (in_at 19 rfl p d).rrst | exact (in_at 20 rfl p d).rrst | exact (in_at 21 rfl p d).rrst | exact (in_at 22 rfl p d).rrst | exact (in_at 23 rfl p d).rrst | exact (in_at 24 rfl p d).rrst | exact (in_at 25 rfl p d).rrst | exact (in_at 26 rfl p d).rrst | exact (in_at 27 rfl p d).rrst | exact (in_at 28 rfl p d).rrst | exact (in_at 29 rfl p d).rrst) (by first | assumption | exact RRst.wide (by assumption) | exact RRst.mono (by assumption) (eqh_at 0 rfl p d) | exact RRst.mono (In.rrst (by assumption)) (eqh_at 0 rfl p d) | exact (in_at 0 rfl p d).rrst | exact (in_at 1 rfl p d).rrst | exact (in_at 2 rfl p d).rrst | exact (in_at 3 rfl p d).rrst | exact (in_at 4 rfl p d).rrst | exact (in_at 5 rfl p d).rrst | exact (in_at 6 rfl p d).rrst | exact (in_at 7 rfl p d).rrst | exact (in_at 8 rfl p d).rrst | exact (in_at 9 rfl p d).rrst | exact (in_at 10 rfl p d).rrst | exact (in_at 11 rfl p d).rrst | exact (in_at 12 rfl p d).rrst | exact (in_at 13 rfl p d).rrst | exact (in_at 14 rfl p d).rrst | exact (in_at 15 rfl p d).rrst | exact (in_at 16 rfl p d).rrst | exact (in_at 17 rfl p d).rrst | exact (in_at 18 rfl p d).rrst | exact (in_at 19 rfl p d).rrst | exact (in_at 20 rfl p d).rrst | exact (in_at 21 rfl p d).rrst | exact (in_at 22 rfl p d).rrst | exact (in_at 23 rfl p d).rrst | exact (in_at 24 rfl p d).rrst | exact (in_at 25 rfl p d).rrst | exact (in_at 26 rfl p d).rrst | exact (in_at 27 rfl p d).rrst | exact (in_at 28 rfl p d).rrst | exact (in_at 29 rfl p d).rrst) (by first | assumption | omega | decide) (by assumption)) ?_
                    refine WL.nilE (WD.takeL 10 rfl (by decide +kernel) (WL.gY rfl rfl (WL.not rfl rfl (WL.nilT (WD.takeL 11 rfl (by decide +kernel) (WL.pickT rfl rfl rfl (WL.nilT (WD.takeL 12 rfl (by decide +kernel) (WL.mv rfl rfl (WL.nilT (WD.takeL 13 rfl (by decide +kernel) (WL.gdN rfl rfl rfl rfl rfl rfl (WL.nilT ?_)))))))))))))
                    refine WD.takeL 14 rfl (by decide +kernel) (WL.gdN rfl rfl rfl rfl rfl rfl (WL.nilT (WD.takeL 15 rfl (by decide +kernel) (WL.gdN rfl rfl rfl rfl rfl rfl (WL.nilT (WD.takeL 16 rfl (by decide +kernel) (WL.gdU rfl rfl rfl rfl rfl (WL.nilT (WD.takeL 17 rfl (by decide +kernel) (WL.gdU rfl rfl rfl rfl rfl (WL.nilT (WD.takeL 18 rfl (by decide +kernel) (WL.gdN rfl rfl rfl rfl rfl rfl ?_)))))))))))))
                    refine WL.nilT (WD.takeL 19 rfl (by decide +kernel) (WL.pickT rfl rfl rfl (WL.nilT ?_)))
                    refine WD.doneF hσ0 (by decide +kernel) (by repeat' constructor) ?_
                    refine W.condT rfl (W.seq (W.region (WL.as rfl rfl (WL.nil ?_))))
                    exact W.fit (Hs' := []) (by (repeat' first | exact Sel.nil | apply Sel.k | exact Pick.h | apply Pick.t)) (W.ret1 rfl rfl (fun h q => ⟨by rw [no2 (by rw [evR_rep he hk, repM_in hcx hgt hpx hrx, hsm])], q⟩))
                | true =>
                  refine W.seq ?_
                  refine W.drawA 20 rfl (fun σ0 hσ0 dσ0 => ?_)
                  have fσ0_0 := rb_at 0 rfl hσ0 dσ0
                  refine WD.takeL 0 rfl (by decide +kernel) (WL.mv rfl rfl (WL.nilT (WD.takeL 1 rfl (by decide +kernel) (WL.geq rfl rfl rfl (WL.nilT (WD.takeL 2 rfl (by decide +kernel) (WL.mv rfl rfl (WL.nilT (WD.takeL 3 rfl (by decide +kernel) (WL.gY rfl rfl (WL.mv rfl rfl (WL.nilT (WD.takeL 4 rfl (by decide +kernel) ?_)))))))))))))
                  refine WL.gY rfl rfl (WL.mv rfl rfl (WL.nilT (WD.takeL 5 rfl (by decide +kernel) (WL.gY rfl rfl ?_))))
                  refine WL.ix (T := Ty) rfl rfl rfl (by assumption) rfl rfl (by omega) (by first | omega | decide +kernel) ?_
                  refine WL.nilT (WD.takeL 6 rfl (by decide +kernel) (WL.gY rfl rfl ?_))
                  refine WL.ldAR (T := Ty) rfl rfl rfl rfl (by first | assumption | exact ROs.wide (by assumption)) (by assumption) rfl ?_
                  refine WL.nilT (WD.takeL 7 rfl (by decide +kernel) (WL.gY rfl rfl (WL.faN (T := Ty) (off' := 11) rfl rfl rfl rfl rfl rfl rfl (WL.nilT (WD.takeL 8 rfl (by decide +kernel) (WL.gY rfl rfl ?_))))))
                  refine WL.ldABF (T := Ty) rfl rfl rfl rfl (by first | assumption | exact RB.wide (by assumption) | exact In.rb (by assumption)) rfl (by repeat' constructor) ?_
                  refine WL.nilT (WD.oneL 9 rfl (by decide +kernel) (WL.gY rfl rfl ?_))
                  refine WL.callV rfl rfl (fun x p d => rsameR_e _ _ _ _ _ _ (by first | assumption | exact RRst.wide (by assumption) | exact RRst.mono (by assumption) (eqh_at 0 rfl p d) | exact RRst.mono (In.rrst (by assumption)) (eqh_at 0 rfl p d) | exact (in_at 0 rfl p d).rrst | exact (in_at 1 rfl p d).rrst | exact (in_at 2 rfl p d).rrst | exact (in_at 3 rfl p d).rrst | exact (in_at 4 rfl p d).rrst | exact (in_at 5 rfl p d).rrst | exact (in_at 6 rfl p d).rrst | exact (in_at 7 rfl p d).rrst | exact (in_at 8 rfl p d).rrst | exact (in_at 9 rfl p d).rrst | exact (in_at 10 rfl p d).rrst | exact (in_at 11 rfl p d).rrst | exact (in_at 12 rfl p d).rrst | exact (in_at 13 rfl p d).rrst | exact (in_at 14 rfl p d).rrst | exact (in_at 15 rfl p d).rrst | exact (in_at 16 rfl p d).rrst | exact (in_at 17 rfl p d).rrst | exact (in_at 18 rfl p d).rrst | exact (in_at 19 rfl p d).rrst | exact (in_at 20 rfl p d).rrst | exact (in_at 21 rfl p d).rrst | exact (in_at 22 rfl p d).rrst | exact (in_at 23 rfl p d).rrst | exact (in_at 24 rfl p d).rrst | exact (in_at 25 rfl p d).rrst | exact (in_at 26 rfl p d).rrst | exact (in_at 27 rfl p d).rrst | exact (in_at 28 rfl p d).rrst | exact (in_at 29 rfl p d).rrst) (by first | assumption | exact RRst.wide (by assumption) | exact RRst.mono (by assumption) (eqh_at 0 rfl p d) | exact RRst.mono (In.rrst (by assumption)) (eqh_at 0 rfl p d) | exact (in_at 0 rfl p d).rrst | exact (in_at 1 rfl p d).rrst | exact (in_at 2 rfl p d).rrst | exact (in_at 3 rfl p d).rrst | exact (in_at 4 rfl p d).rrst | exact (in_at 5 rfl p d).rrst | exact (in_at 6 rfl p d).rrst | exact (in_at 7 rfl p d).rrst | exact (in_at 8 rfl p d).rrst | exact (in_at 9 rfl p d).rrst | exact (in_at 10 rfl p d).rrst | exact (in_at 11 rfl p d).rrst | exact (in_at 12 rfl p d).rrst | exact (in_at 13 rfl p d).rrst | exact (in_at 14 rfl p d).rrst | exact (in_at 15 rfl p d).rrst | exact (in_at 16 rfl p d).rrst | exact (in_at 17 rfl p d).rrst | exact (in_at 18 rfl p d).rrst | exact (in_at 19 rfl p d).rrst | exact (in_at 20 rfl p d).rrst | exact (in_at 21 rfl p d).rrst | exact (in_at 22 rfl p d).rrst | exact (in_at 23 rfl p d).rrst | exact (in_at 24 rfl p d).rrst | exact (in_at 25 rfl p d).rrst | exact (in_at 26 rfl p d).rrst | exact (in_at 27 rfl p d).rrst | exact (in_at 28 rfl p d).rrst | exact (in_at 29 rfl p d).rrst) (by first | assumption | omega | decide) (by assumption)) ?_
                  refine WL.nilE (WD.takeL 10 rfl (by decide +kernel) (WL.gY rfl rfl (WL.not rfl rfl (WL.nilT (WD.takeL 11 rfl (by decide +kernel) (WL.pickT rfl rfl rfl (WL.nilT (WD.takeL 12 rfl (by decide +kernel) (WL.mv rfl rfl (WL.nilT (WD.takeL 13 rfl (by decide +kernel) (WL.gY rfl rfl (WL.mv rfl rfl ?_)))))))))))))
                  refine WL.nilT (WD.takeL 14 rfl (by decide +kernel) (WL.gY rfl rfl (WL.lss rfl rfl rfl (WL.nilT (WD.takeL 15 rfl (by decide +kernel) (WL.gY rfl rfl (WL.mv rfl rfl (WL.nilT (WD.takeL 16 rfl (by decide +kernel) (WL.gdN rfl rfl rfl rfl rfl rfl (WL.nilT (WD.takeL 17 rfl (by decide +kernel) (WL.gdN rfl rfl rfl rfl rfl rfl ?_)))))))))))))
                  refine WL.nilT (WD.takeL 18 rfl (by decide +kernel) (WL.gY rfl rfl (WL.pickF rfl rfl rfl (WL.nilT (WD.takeL 19 rfl (by decide +kernel) (WL.pickF rfl rfl rfl (WL.nilT ?_)))))))
                  refine WD.doneF hσ0 (by decide +kernel) (by repeat' constructor) ?_
                  refine W.condF rfl (W.skip (W.inBlock (W.region (WL.mv rfl rfl (WL.addK rfl rfl rfl (wrap_i64 ⟨by omega, by omega⟩) (WL.as rfl rfl (WL.nil ?_)))))))
                  refine W.fit (Hs' := []) (by (repeat' first | exact Sel.nil | apply Sel.k | exact Pick.h | apply Pick.t)) (W.sub ?_ (nx2 (by rw [evR_rep he hk, repM_in hcx hgt hpx hrx, hsm])))
                  exact ⟨rfl, rfl, rfl, rfl, trivial⟩
            · by_cases h9 : e.res.err = 9
              · have hv : ovr e.res.err = true := by rw [h9]; unfold ovr; rfl
                refine W.region (WL.faN (T := Ty) (off' := 11) rfl rfl rfl rfl rfl rfl rfl (WL.faN (T := Ty) (off' := 11) rfl rfl rfl rfl rfl rfl rfl (WL.ldN (T := Ty) (j := 0) rfl rfl rfl rfl rfl rfl (WL.eql rfl rfl rfl (WL.mv rfl rfl (WL.gdFn rfl rfl rfl rfl rfl (by omega) (WL.gdFn rfl rfl rfl rfl rfl (by omega) (WL.gdFn rfl rfl rfl rfl rfl (by omega) (WL.gdFn rfl rfl rfl rfl rfl (by omega) (WL.pickTp rfl rfl (by omega) rfl (WL.mv rfl rfl (WL.gdN rfl rfl rfl rfl rfl rfl (WL.gdN rfl rfl rfl rfl rfl rfl ?_)))))))))))))
                refine WL.gdN rfl rfl rfl rfl rfl rfl (WL.gdN rfl rfl rfl rfl rfl rfl (WL.pickT rfl rfl rfl (WL.as rfl rfl (WL.nil ?_))))
                refine W.fit (by (repeat' first | exact Sel.nil | apply Sel.k | exact Pick.h | apply Pick.t)) (W.sub ?_ (cut true ρ4 (Le.refl _) ⟨rfl, hv⟩))
                exact ⟨rfl, rfl, rfl, rfl, rfl, rfl, by rw [decide_eq_true h9]; rfl, trivial⟩
              · by_cases h6 : e.res.err = 6
                · have hv : ovr e.res.err = true := by rw [h6]; unfold ovr; rfl
                  refine W.region (WL.faN (T := Ty) (off' := 11) rfl rfl rfl rfl rfl rfl rfl (WL.faN (T := Ty) (off' := 11) rfl rfl rfl rfl rfl rfl rfl (WL.ldN (T := Ty) (j := 0) rfl rfl rfl rfl rfl rfl (WL.eql rfl rfl rfl (WL.mv rfl rfl (WL.gF rfl rfl (by omega) (WL.faN (T := Ty) (off' := 11) rfl rfl rfl rfl rfl rfl rfl (WL.gF rfl rfl (by omega) (WL.faN (T := Ty) (off' := 11) rfl rfl rfl rfl rfl rfl rfl (WL.gF rfl rfl (by omega) (WL.ldN (T := Ty) (j := 0) rfl rfl rfl rfl rfl rfl (WL.gF rfl rfl (by omega) (WL.eql rfl rfl rfl ?_)))))))))))))
                  refine WL.pickFp rfl rfl (by omega) rfl (WL.mv rfl rfl (WL.gdFn rfl rfl rfl rfl rfl (by omega) (WL.gdFn rfl rfl rfl rfl rfl (by omega) (WL.gdFn rfl rfl rfl rfl rfl (by omega) (WL.gdFn rfl rfl rfl rfl rfl (by omega) (WL.pickTp rfl rfl (by omega) rfl (WL.as rfl rfl (WL.nil ?_))))))))
                  refine W.fit (by (repeat' first | exact Sel.nil | apply Sel.k | exact Pick.h | apply Pick.t)) (W.sub ?_ (cut true ρ4 (Le.refl _) ⟨rfl, hv⟩))
                  exact ⟨rfl, rfl, rfl, rfl, rfl, rfl, by rw [decide_eq_true h6]; rfl, trivial⟩
                · have hv : ovr e.res.err = decide (e.res.err = 7) := by unfold ovr; rw [decide_eq_false h9, decide_eq_false h6]; rfl
                  refine W.region (WL.faN (T := Ty) (off' := 11) rfl rfl rfl rfl rfl rfl rfl (WL.faN (T := Ty) (off' := 11) rfl rfl rfl rfl rfl rfl rfl (WL.ldN (T := Ty) (j := 0) rfl rfl rfl rfl rfl rfl (WL.eql rfl rfl rfl (WL.mv rfl rfl (WL.gF rfl rfl (by omega) (WL.faN (T := Ty) (off' := 11) rfl rfl rfl rfl rfl rfl rfl (WL.gF rfl rfl (by omega) (WL.faN (T := Ty) (off' := 11) rfl rfl rfl rfl rfl rfl rfl (WL.gF rfl rfl (by omega) (WL.ldN (T := Ty) (j := 0) rfl rfl rfl rfl rfl rfl (WL.gF rfl rfl (by omega) (WL.eql rfl rfl rfl ?_)))))))))))))
                  refine WL.pickFp rfl rfl (by omega) rfl (WL.mv rfl rfl (WL.gF rfl rfl (by omega) (WL.faN (T := Ty) (off' := 11) rfl rfl rfl rfl rfl rfl rfl (WL.gF rfl rfl (by omega) (WL.faN (T := Ty) (off' := 11) rfl rfl rfl rfl rfl rfl rfl (WL.gF rfl rfl (by omega) (WL.ldN (T := Ty) (j := 0) rfl rfl rfl rfl rfl rfl (WL.gF rfl rfl (by omega) (WL.eql rfl rfl rfl (WL.pickFp rfl rfl (by omega) rfl (WL.as rfl rfl (WL.nil ?_))))))))))))
                  refine W.fit (by (repeat' first | exact Sel.nil | apply Sel.k | exact Pick.h | apply Pick.t)) (W.sub ?_ (cut _ ρ4 (Le.refl _) ⟨rfl, hv⟩))
                  exact ⟨rfl, rfl, rfl, rfl, rfl, rfl, rfl, trivial⟩
      · refine W.seq ?_
        refine W.seq (W.region (WL.mv rfl rfl (WL.mv rfl rfl ?_)))
        refine WL.len (T := Ty) rfl rfl (by assumption) rfl ?_
        refine WL.lss rfl rfl rfl (WL.nil (W.condpT rfl (by omega) (W.skip (W.seq (W.block (W.seq (W.region (WL.mv rfl rfl (WL.mv rfl rfl ?_)))))))))
        refine WL.ix (T := Ty) rfl rfl rfl (by assumption) rfl rfl (by omega) (by first | omega | decide +kernel) ?_
        refine WL.ldAR (T := Ty) rfl rfl rfl rfl (by first | assumption | exact ROs.wide (by assumption)) (by assumption) rfl ?_
        refine WL.alF (T := Ty) rfl rfl (by repeat' constructor) (fun b2 => ?_)
        refine WL.stAO (T := Ty) (j := 0) rfl rfl rfl rfl (by repeat' first | exact AO.nil | apply AO.cons (by first | rfl | exact SL.one (by assumption))) rfl rfl (by repeat' constructor) (by repeat' constructor) ?_
        refine WL.nil (W.seq (W.seq (W.region (WL.faN (T := Ty) (off' := 0) rfl rfl rfl rfl rfl rfl rfl (WL.ldN (T := Ty) (j := 0) rfl rfl rfl rfl rfl rfl (WL.neq rfl rfl rfl (WL.nil (W.condpT rfl (by omega) (W.exit rfl (W.region (WL.mv rfl rfl (WL.addK rfl rfl rfl (wrap_i64 ⟨by omega, by omega⟩) (WL.as rfl rfl ?_)))))))))))))
        refine WL.nil ?_
        refine W.fit (Hs' := []) (by (repeat' first | exact Sel.nil | apply Sel.k | exact Pick.h | apply Pick.t)) (W.sub ?_ (nx2 (evR_oth he hk)))
        exact ⟨rfl, rfl, rfl, rfl, trivial⟩
    · have hiL : i = L.length := by omega
      subst hiL
      refine W.seq (W.seq (W.region (WL.mv rfl rfl (WL.mv rfl rfl ?_))))
      refine WL.len (T := Ty) rfl rfl (by assumption) rfl ?_
      refine WL.lss rfl rfl rfl (WL.nil (W.condpF rfl (by omega) (W.exit rfl (W.seq (W.region (WL.as rfl rfl (WL.nil ?_)))))))
      exact W.ret1 rfl rfl (fun h q => ⟨by rw [hok2], q⟩)
end Go.Proofs.Ytbebhmdjnneimaa
