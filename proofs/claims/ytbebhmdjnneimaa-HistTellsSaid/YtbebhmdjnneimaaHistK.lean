/- hist.Check. -/
import Derived.Test.YtbebhmdjnneimaaStc
import Derived.Test.YtbebhmdjnneimaaNum
import Derived.Test.YtbebhmdjnneimaaTab
import Derived.Test.YtbebhmdjnneimaaHistR
import Derived.Test.YtbebhmdjnneimaaHistLaw
import Derived.Test.YtbebhmdjnneimaaMdlRx
set_option linter.unusedSimpArgs false
set_option linter.unusedVariables false
set_option maxRecDepth 20000
set_option maxHeartbeats 4000000
namespace Go.Proofs.Ytbebhmdjnneimaa
open Go
theorem repR_no1 {l : List (Evt × Value)} {o : List PK} {r : List Rst} {i : Nat} {e : Evt} (h : cix l l.length (e.who, e.n) = none) : repR l o r i e = false := by simp only [repR, h, Bool.false_and]
theorem repR_no2 {l : List (Evt × Value)} {o : List PK} {r : List Rst} {i c : Nat} {e : Evt} (h : cix l l.length (e.who, e.n) = some c) (hc : i < c) : repR l o r i e = false := by simp only [repR, h, decide_eq_true hc, Bool.not_true, Bool.false_and]
theorem repR_out {l : List (Evt × Value)} {o : List PK} {r : List Rst} {i c : Nat} {e : Evt} (h : cix l l.length (e.who, e.n) = some c) (hc : ¬i < c) (hp : pix o o.length (e.who, e.n) = none) : repR l o r i e = ovr e.res.err := by simp only [repR, h, decide_eq_false hc, hp, Bool.not_false, Bool.true_and]
theorem repR_in {l : List (Evt × Value)} {o : List PK} {r : List Rst} {i c a : Nat} {e : Evt} {x : Rst} (h : cix l l.length (e.who, e.n) = some c) (hc : ¬i < c) (hp : pix o o.length (e.who, e.n) = some a) (hr : r[a]? = some x) : repR l o r i e = sameRst e.res x := by simp only [repR, h, decide_eq_false hc, hp, hr, Bool.not_false, Bool.true_and]
theorem evH_call0 {l : List (Evt × Value)} {o : List PK} {r : List Rst} {i : Nat} {e : Evt} {w : Value} (he : l[i]? = some (e, w)) (hk : e.kind = 1) (h : cix l l.length (e.who, e.n) = some i) (hp : pix o o.length (e.who, e.n) = none) : evH l o r i = true := by
 simp only [evH, he]; rw [if_pos ⟨hk, h⟩]; simp only [hp]
theorem evH_calla {l : List (Evt × Value)} {o : List PK} {r : List Rst} {i a : Nat} {e : Evt} {w : Value} (he : l[i]? = some (e, w)) (hk : e.kind = 1) (h : cix l l.length (e.who, e.n) = some i) (hp : pix o o.length (e.who, e.n) = some a) : evH l o r i = !decide ((a : Int) < far l o i) := by
 simp only [evH, he]; rw [if_pos ⟨hk, h⟩]; simp only [hp]
theorem evH_rep {l : List (Evt × Value)} {o : List PK} {r : List Rst} {i : Nat} {e : Evt} {w : Value} (he : l[i]? = some (e, w)) (hk : e.kind = 2) : evH l o r i = repR l o r i e := by
 simp only [evH, he]; rw [if_neg (fun h => absurd h.1 (by omega)), if_pos hk]
theorem evH_oth {l : List (Evt × Value)} {o : List PK} {r : List Rst} {i : Nat} {e : Evt} {w : Value} (he : l[i]? = some (e, w)) (hk : e.kind ≠ 2) (h : e.kind = 1 → cix l l.length (e.who, e.n) ≠ some i) : evH l o r i = true := by
 simp only [evH, he]; rw [if_neg (fun g => h g.1 g.2), if_neg hk]
theorem far_in {l : List (Evt × Value)} {o : List PK} {i a : Nat} {e : Evt} {w : Value} (he : l[i]? = some (e, w)) (hk : e.kind = 2) (hp : pix o o.length (e.who, e.n) = some a) : far l o (i + 1) = max (far l o i) (a : Int) := by
 simp only [far, he]; rw [if_pos hk]; simp only [hp]
theorem far_out {l : List (Evt × Value)} {o : List PK} {i : Nat} {e : Evt} {w : Value} (he : l[i]? = some (e, w)) (hp : pix o o.length (e.who, e.n) = none) : far l o (i + 1) = far l o i := by
 simp only [far, he, hp]; split <;> rfl
theorem far_no {l : List (Evt × Value)} {o : List PK} {i : Nat} {e : Evt} {w : Value} (he : l[i]? = some (e, w)) (hk : e.kind ≠ 2) : far l o (i + 1) = far l o i := by
 simp only [far, he]; rw [if_neg hk]
attribute [local irreducible] W WL Fn Buf ROs SL eptr box Rd Src bndOK WD RB Reads In Own Pm doM cix pix rpl cks pls plo far allN evH repR
theorem over_c (ρ : Hp) (e : Int) : Fn Try.prog 63 #[.int .i64 e] ρ [] (Just (.bool (ovr e))) := by
 refine in63 rfl rfl ?_
 by_cases h9 : e = 9
 ·have hv : ovr e = true := by subst h9; rfl
  rw [hv]
  refine W.seq (W.region (WL.as rfl rfl (WL.nil (W.seq (W.region (WL.mv rfl rfl (WL.eql rfl rfl rfl (WL.mv rfl rfl (WL.gdFn rfl rfl rfl rfl rfl (by omega) (WL.gdFn rfl rfl rfl rfl rfl (by omega) (WL.pickTp rfl rfl (by omega) rfl (WL.mv rfl rfl (WL.gdN rfl rfl rfl rfl rfl rfl ?_)))))))))))))
  refine WL.gdN rfl rfl rfl rfl rfl rfl (WL.pickT rfl rfl rfl (WL.as rfl rfl (WL.nil ?_)))
  exact W.ret1 rfl rfl (fun h q => ⟨by simp [h9], q⟩)
 ·by_cases h6 : e = 6
  ·have hv : ovr e = true := by subst h6; rfl
   rw [hv]
   refine W.seq (W.region (WL.as rfl rfl (WL.nil (W.seq (W.region (WL.mv rfl rfl (WL.eql rfl rfl rfl (WL.mv rfl rfl (WL.gF rfl rfl (by omega) (WL.mv rfl rfl (WL.gF rfl rfl (by omega) (WL.eql rfl rfl rfl (WL.pickFp rfl rfl (by omega) rfl ?_)))))))))))))
   refine WL.mv rfl rfl (WL.gdFn rfl rfl rfl rfl rfl (by omega) (WL.gdFn rfl rfl rfl rfl rfl (by omega) (WL.pickTp rfl rfl (by omega) rfl (WL.as rfl rfl (WL.nil ?_)))))
   exact W.ret1 rfl rfl (fun h q => ⟨by simp [h6], q⟩)
  ·have hv : ovr e = decide (e = 7) := by unfold ovr; rw [decide_eq_false h9, decide_eq_false h6]; rfl
   rw [hv]
   refine W.seq (W.region (WL.as rfl rfl (WL.nil (W.seq (W.region (WL.mv rfl rfl (WL.eql rfl rfl rfl (WL.mv rfl rfl (WL.gF rfl rfl (by omega) (WL.mv rfl rfl (WL.gF rfl rfl (by omega) (WL.eql rfl rfl rfl (WL.pickFp rfl rfl (by omega) rfl ?_)))))))))))))
   refine WL.mv rfl rfl (WL.gF rfl rfl (by omega) (WL.mv rfl rfl (WL.gF rfl rfl (by omega) (WL.eql rfl rfl rfl (WL.pickFp rfl rfl (by omega) rfl (WL.as rfl rfl (WL.nil ?_)))))))
   exact W.ret1 rfl rfl (fun h q => ⟨rfl, q⟩)
theorem over_e (ρ : Hp) (e : Int) (c : Bool) (h : ovr e = c) : Fn Try.prog 63 #[.int .i64 e] ρ [] (Just (.bool c)) := h ▸ over_c ρ e
theorem places_t (ρ : Hp) (v : Value) (L : List PK) (bc : Nat) (m : List (PK × Value)) (r0 : ROs ρ 2 v (L.flatMap (twoC .i64 .i64))) (hm : In ρ (Pm .i64 bc m)) (hl : L.length ≤ 1000) (hp : plo L m L.length = true) :
  Fn Try.prog 62 #[v, .map (some bc)] ρ [] (fun r h => ∃ b, r = .tuple #[.map (some b), .bool true] ∧ sepl [Pm .i64 b (pls L L.length)] h) :=
 (places_c ρ v L bc m r0 hm hl).mono (fun r h q => by
  rcases q with ⟨_, b, e, o⟩ | ⟨e, _⟩
  ·exact ⟨b, e, sepl_one.2 o⟩
  ·rw [hp] at e; cases e)
theorem places_n (ρ : Hp) (v : Value) (L : List PK) (bc : Nat) (m : List (PK × Value)) (r0 : ROs ρ 2 v (L.flatMap (twoC .i64 .i64))) (hm : In ρ (Pm .i64 bc m)) (hl : L.length ≤ 1000) (hp : plo L m L.length = false) :
  Fn Try.prog 62 #[v, .map (some bc)] ρ [] (Just (.tuple #[.map none, .bool false])) :=
 (places_c ρ v L bc m r0 hm hl).mono (fun r h q => by
  rcases q with ⟨e, _⟩ | ⟨_, e⟩
  ·rw [hp] at e; cases e
  ·exact e)
theorem places_open {r : Value} {l : List (PK × Value)} {h : Hp} (q : ∃ b, r = .tuple #[.map (some b), .bool true] ∧ sepl [Pm .i64 b l] h) : ∃ b, r = .tuple #[.map (some b), .bool true] ∧ sepl [Pm .i64 b l] h := q
theorem own_rst {ρ : Hp} {R : List (Rst × Value)} (h : In ρ (Own owRst R)) : ∀ p ∈ R, ROs ρ 2 p.2 (p.1.list.flatMap smC) := by
 unfold In at h
 obtain ⟨x, hp, hx⟩ := h
 intro p hm
 obtain ⟨y, hy, le⟩ := own_mem hm hp
 exact (Buf.ro hy).mono (fun b o hb => hx b o (le b o hb))
theorem check_c (ρ : Hp) (v w : Value) (L : List (Evt × Value)) (o : List PK) (r0 : ROs ρ 14 v (L.flatMap evC)) (h0 : ∀ p ∈ L, ROs ρ 2 p.2 (p.1.res.list.flatMap smC) ∧ p.1.res.list.length ≤ 100000) (hl : L.length ≤ 1000) (r1 : ROs ρ 2 w (o.flatMap (twoC .i64 .i64))) (hl1 : o.length ≤ 1000) :
    Fn Try.prog 28 #[v, w] ρ [] (Just (.bool (chkH L o))) := by
  have s0 : SL v L.length := r0.sl (evs_cells L) (by omega)
  have s1 : SL w o.length := r1.sl (two_len o) (by omega)
  have hs : ∀ p ∈ L, SL p.2 p.1.res.list.length := fun p hp => (h0 p hp).1.sl (flat_len sm_len _) (by omega)
  refine in28 rfl rfl ?_
  refine W.seq (W.region (WL.as rfl rfl (WL.nil (W.seq (W.region (WL.mv rfl rfl ?_))))))
  refine WL.callF rfl rfl (fun x p d => calls_c _ _ _ (by first | assumption | exact ROs.wide (by assumption) | exact ROs.mono (by assumption) (eqh_at 0 rfl p d) | exact ros_at 0 rfl p d | exact ros_at 1 rfl p d | exact ros_at 2 rfl p d | exact ros_at 3 rfl p d | exact ros_at 4 rfl p d) (by assumption) (by assumption)) (fun r0 => ?_)
  refine WL.opens (α := Nat) (φ := fun x => r0 = .map (some x)) (ps := fun x => [Pm .i64 x _]) 0 rfl (fun h q => calls_open q) (by repeat' constructor) ?_
  rintro b0 es0
  subst es0
  dsimp only [List.cons_append, List.nil_append]
  refine WL.as rfl rfl (WL.nil (W.seq (W.region (WL.mv rfl rfl (WL.mv rfl rfl ?_)))))
  cases hpl : plo o (cks L L.length) o.length with
  | false =>
    have hv : chkH L o = false := by unfold chkH; rw [hpl]; rfl
    rw [hv]
    refine WL.callV rfl rfl (fun x p d => places_n _ _ _ _ _ (by first | assumption | exact ROs.wide (by assumption)) (by first | exact in_at 0 rfl p d) hl1 hpl) ?_
    refine WL.mv rfl rfl (WL.extL rfl rfl rfl (WL.extL rfl rfl rfl (WL.as rfl rfl (WL.as rfl rfl (WL.nil (W.seq (W.seq (W.region (WL.mv rfl rfl (WL.not rfl rfl (WL.nil (W.condT rfl (W.seq ?_)))))))))))))
    refine W.region (WL.as rfl rfl (WL.nil ?_))
    exact W.fit (Hs' := []) (by (repeat' first | exact Sel.nil | apply Sel.k | exact Pick.h | apply Pick.t)) (W.ret1 rfl rfl (fun h q => ⟨rfl, q⟩))
  | true =>
    refine WL.callF rfl rfl (fun x p d => places_t _ _ _ _ _ (by first | assumption | exact ROs.wide (by assumption)) (by first | exact in_at 0 rfl p d) hl1 hpl) (fun r => ?_)
    refine WL.opens (α := Nat) (φ := fun x => r = .tuple #[.map (some x), .bool true]) (ps := fun x => [Pm .i64 x _]) 0 rfl (fun h q => places_open q) (by repeat' constructor) ?_
    rintro bs es
    subst es
    dsimp only [List.cons_append, List.nil_append]
    refine WL.mv rfl rfl (WL.extL rfl rfl rfl (WL.extL rfl rfl rfl (WL.as rfl rfl (WL.as rfl rfl (WL.nil (W.seq (W.seq (W.region (WL.mv rfl rfl (WL.not rfl rfl (WL.nil (W.condF rfl (W.skip ?_)))))))))))))
    refine W.seq (W.region (WL.mv rfl rfl (WL.mv rfl rfl ?_)))
    refine WL.callF rfl rfl (fun x p d => replay_c _ _ _ _ _ (by first | assumption | exact ROs.wide (by assumption) | exact ROs.mono (by assumption) (eqh_at 0 rfl p d) | exact ros_at 0 rfl p d | exact ros_at 1 rfl p d | exact ros_at 2 rfl p d | exact ros_at 3 rfl p d | exact ros_at 4 rfl p d) (by assumption) (by first | assumption | omega) (by first | assumption | exact ROs.wide (by assumption) | exact ROs.mono (by assumption) (eqh_at 0 rfl p d) | exact ros_at 0 rfl p d | exact ros_at 1 rfl p d | exact ros_at 2 rfl p d | exact ros_at 3 rfl p d | exact ros_at 4 rfl p d) (by first | assumption | omega)) (fun r1 => ?_)
    refine WL.opens (α := (Value × Value × Value × List (Rst × Value))) (φ := fun x => r1 = .tuple #[.agg #[x.1, x.2.1, .int .i64 _], x.2.2.1] ∧ x.2.2.2.map Prod.fst = _ ∧ SL x.1 _ ∧ SL x.2.1 _ ∧ SL x.2.2.1 x.2.2.2.length ∧ (∀ p ∈ x.2.2.2, SL p.2 p.1.list.length)) (ps := fun x => [OMdl (.agg #[x.1, x.2.1, .int .i64 _]) _, Buf 3 x.2.2.1 (x.2.2.2.flatMap rstC), Own owRst x.2.2.2]) 0 rfl (fun h q => RepR.open q) (by repeat' constructor) ?_
    rintro ⟨sv1, iv1, u1, R1⟩ ⟨es1, er1, sa1, sb1, sc1, sd1⟩
    subst es1
    dsimp only [List.cons_append, List.nil_append] at er1 sa1 sb1 sc1 ⊢
    refine WL.mv rfl rfl (WL.extL rfl rfl rfl (WL.extL rfl rfl rfl ?_))
    refine WL.alF (T := Ty) rfl rfl (by repeat' constructor) (fun b2 => ?_)
    refine WL.stAO (T := Ty) (j := 0) rfl rfl rfl rfl (by repeat' first | exact AO.nil | apply AO.cons (by first | rfl | exact SL.one (by assumption))) rfl rfl (by repeat' constructor) (by repeat' constructor) ?_
    refine WL.as rfl rfl (WL.nil (W.seq (W.region (WL.as rfl rfl (WL.nil (W.seq (W.seq (W.region (WL.mv rfl rfl ?_)))))))))
    refine WL.len (T := Ty) rfl rfl (by assumption) rfl ?_
    refine WL.mv rfl rfl (WL.nil (W.block ?_))
    refine W.freezeAll (fun ρ2 le2 hin => ?_)
    have hm1 := hin 5 _ rfl
    have hm2 := hin 4 _ rfl
    have rr := (hin 2 _ rfl).ros
    have rR := own_rst (hin 3 _ rfl)
    have hRl : R1.length = o.length := by have := congrArg List.length er1; rw [List.length_map, rpl_len L o o.length (Nat.le_refl _)] at this; exact this
    have hgc : ∀ p, pget (cks L L.length) p = (cix L L.length p).map (fun (i : Nat) => Value.int .i64 ((i : Nat) : Int)) := fun p => cks_get L p _
    have hgp : ∀ p, pget (pls o o.length) p = (pix o o.length p).map (fun (i : Nat) => Value.int .i64 ((i : Nat) : Int)) := fun p => pls_get o _ _ hpl p
    have hcv : chkH L o = allN (evH L o (rpl L o o.length).2) L.length := by unfold chkH; rw [hpl, Bool.true_and]
    rw [hcv]
    generalize hr : (rpl L o o.length).2 = r at er1
    obtain ⟨f0, f1, hpk⟩ := pkT63
    have l2 := rst_cells R1
    have hf0 : far L o 0 = -1 := by unfold far; rfl
    refine W.loopR (σ := Nat) (fun i => [(5, .map (some b0)), (6, .map (some bs)), (9, u1), (10, .int .i64 (far L o i)), (34, v), (35, .int .i64 (L.length : Int)), (36, .int .i64 (i : Int))]) (fun i => []) (fun i ρ' => i ≤ L.length ∧ allN (evH L o r) i = true) (fun i => L.length - i)
      0 ⟨rfl, rfl, rfl, by rw [hf0]; rfl, rfl, rfl, rfl, trivial⟩ rfl ⟨Nat.zero_le _, by unfold allN; rfl⟩ ?_
    rintro i ρ3 le3 ⟨hi, hok⟩ next
    replace hm1 := hm1.mono le3
    replace hm2 := hm2.mono le3
    replace rr := rr.mono le3
    replace r0 := (r0.mono le2).mono le3
    by_cases hc : i < L.length
    · obtain ⟨⟨e, lv⟩, he⟩ : ∃ e, L[i]? = some e := ⟨_, List.getElem?_eq_getElem hc⟩
      have l1 := evs_cells L
      have hrow : ((L.flatMap evC).drop (((i : Nat) : Int).toNat * 14)).take 14 = evC (e, lv) := flat_row ev_len he
      have hmem := List.mem_of_getElem? he
      have sw := hs _ hmem
      have r4 := (((h0 _ hmem).1.mono le2).mono le3)
      have r5 := (h0 _ hmem).2
      dsimp only at sw r4 r5
      unfold evC at hrow
      dsimp only at hrow
      have nx := fun (h1 : evH L o r i = true) => next (i + 1) ρ3 (Le.refl _) ⟨hc, allN_step hok h1⟩ (by omega)
      have no : evH L o r i = false → allN (evH L o r) L.length = false := fun h => allN_no hc h
      -- TREE
      refine W.seq (W.region (WL.lss rfl rfl rfl (WL.nil (W.seq (W.condpT rfl (by omega) (W.skip (W.seq (W.block (W.seq (W.region (WL.mv rfl rfl ?_)))))))))))
      refine WL.ix (T := Ty) rfl rfl rfl (by assumption) rfl rfl (by omega) (by first | omega | decide +kernel) ?_
      refine WL.ldAR (T := Ty) rfl rfl rfl rfl (by first | assumption | exact ROs.wide (by assumption)) (by assumption) rfl ?_
      refine WL.alF (T := Ty) rfl rfl (by repeat' constructor) (fun b3 => ?_)
      refine WL.as rfl rfl ?_
      refine WL.stAO (T := Ty) (j := 0) rfl rfl rfl rfl (by repeat' first | exact AO.nil | apply AO.cons (by first | rfl | exact SL.one (by assumption))) rfl rfl (by repeat' constructor) (by repeat' constructor) ?_
      refine WL.nil (W.seq (W.region (WL.faN (T := Ty) (off' := 1) rfl rfl rfl rfl rfl rfl rfl (WL.ldN (T := Ty) (j := 0) rfl rfl rfl rfl rfl rfl (WL.faN (T := Ty) (off' := 2) rfl rfl rfl rfl rfl rfl rfl (WL.ldN (T := Ty) (j := 0) rfl rfl rfl rfl rfl rfl ?_))))))
      refine WL.bdC (T := Ty) rfl rfl rfl rfl (by repeat' first | exact CO.nil | apply CO.one (by first | rfl | exact SL.one (by assumption)) | apply CO.agg) rfl (by repeat' constructor) ?_
      refine WL.alF (T := Ty) rfl rfl (by repeat' constructor) (fun b4 => ?_)
      refine WL.stAO (T := Ty) (j := 0) rfl rfl rfl rfl (by repeat' first | exact AO.nil | apply AO.cons (by first | rfl | exact SL.one (by assumption))) rfl rfl (by repeat' constructor) (by repeat' constructor) ?_
      refine WL.nil (W.seq (W.region (WL.mv rfl rfl ?_)))
      refine WL.ldAF (T := Ty) (j := 0) rfl rfl rfl rfl rfl rfl (by repeat' constructor) ?_
      cases hpx : pix o o.length (e.who, e.n) with
      | none =>
        refine WL.luPR (T := Ty) (K := .i64) (q := (e.who, e.n)) (kvs := pls o o.length) rfl rfl rfl rfl hpk rfl hm2 (by rw [hgp, hpx]) ?_
        by_cases hk : e.kind = 1
        · obtain ⟨c, hcx, hci⟩ := cix_ex L (e.who, e.n) L.length i _ hc he hk rfl
          refine WL.mv rfl rfl (WL.extL rfl rfl rfl (WL.extL rfl rfl rfl (WL.as rfl rfl (WL.as rfl rfl (WL.nil (W.block (W.seq (W.region (WL.faN (T := Ty) (off' := 0) rfl rfl rfl rfl rfl rfl rfl (WL.ldN (T := Ty) (j := 1) rfl rfl rfl rfl rfl rfl (WL.eql rfl rfl rfl (WL.mv rfl rfl (WL.gT rfl rfl (by omega) ?_)))))))))))))
          refine WL.mv rfl rfl (WL.gT rfl rfl (by omega) ?_)
          refine WL.ldAF (T := Ty) (j := 0) rfl rfl rfl rfl rfl rfl (by repeat' constructor) ?_
          refine WL.gT rfl rfl (by omega) ?_
          refine WL.luPR (T := Ty) (K := .i64) (q := (e.who, e.n)) (kvs := cks L L.length) rfl rfl rfl rfl hpk rfl hm1 (by rw [hgc, hcx]) ?_
          by_cases hce : c = i
          · subst hce
            refine WL.gT rfl rfl (by omega) (WL.mv rfl rfl (WL.gT rfl rfl (by omega) (WL.eql rfl rfl rfl (WL.pickTp rfl rfl (by omega) rfl (WL.as rfl rfl (WL.nil (W.condpT rfl (by omega) (W.seq (W.region (WL.mv rfl rfl (WL.mv rfl rfl (WL.gdN rfl rfl rfl rfl rfl rfl (WL.gdN rfl rfl rfl rfl rfl rfl ?_)))))))))))))
            refine WL.gdN rfl rfl rfl rfl rfl rfl (WL.pickF rfl rfl rfl (WL.nil (W.condF rfl (W.skip (W.inBlock (W.inBlock (W.region (WL.addK rfl rfl rfl (wrap_i64 ⟨by omega, by omega⟩) (WL.mv rfl rfl (WL.nil ?_))))))))))
            refine W.fit (Hs' := []) (by (repeat' first | exact Sel.nil | apply Sel.k | exact Pick.h | apply Pick.t)) (W.sub ?_ (nx (evH_call0 he hk hcx hpx)))
            exact ⟨rfl, rfl, rfl, by rw [far_no he (by omega)]; rfl, rfl, rfl, rfl, trivial⟩
          · refine WL.gT rfl rfl (by omega) ?_
            refine WL.mv rfl rfl (WL.gT rfl rfl (by omega) (WL.eql rfl rfl rfl (WL.pickTp rfl rfl (by omega) rfl (WL.as rfl rfl (WL.nil (W.condpF rfl (by omega) (W.seq (W.region (WL.faN (T := Ty) (off' := 0) rfl rfl rfl rfl rfl rfl rfl (WL.ldN (T := Ty) (j := 1) rfl rfl rfl rfl rfl rfl (WL.eql rfl rfl rfl (WL.as rfl rfl (WL.nil ?_)))))))))))))
            refine W.condpF rfl (by omega) (W.skip (W.inBlock (W.inBlock (W.region (WL.addK rfl rfl rfl (wrap_i64 ⟨by omega, by omega⟩) (WL.mv rfl rfl (WL.nil ?_)))))))
            refine W.fit (Hs' := []) (by (repeat' first | exact Sel.nil | apply Sel.k | exact Pick.h | apply Pick.t)) (W.sub ?_ (nx (evH_oth he (by omega) (fun _ h => hce (Option.some.inj (hcx.symm.trans h))))))
            exact ⟨rfl, rfl, rfl, by rw [far_no he (by omega)]; rfl, rfl, rfl, rfl, trivial⟩
        · by_cases hk2 : e.kind = 2
          · refine WL.mv rfl rfl ?_
            refine WL.extL rfl rfl rfl (WL.extL rfl rfl rfl (WL.as rfl rfl (WL.as rfl rfl (WL.nil (W.block (W.seq (W.region (WL.faN (T := Ty) (off' := 0) rfl rfl rfl rfl rfl rfl rfl (WL.ldN (T := Ty) (j := 1) rfl rfl rfl rfl rfl rfl (WL.eql rfl rfl rfl (WL.mv rfl rfl (WL.gdTn rfl rfl rfl rfl rfl (by omega) (WL.gdTn rfl rfl rfl rfl rfl (by omega) ?_)))))))))))))
            refine WL.gdTn rfl rfl rfl rfl rfl (by omega) (WL.gdTn rfl rfl rfl rfl rfl (by omega) (WL.gdTn rfl rfl rfl rfl rfl (by omega) (WL.pickFp rfl rfl (by omega) rfl (WL.as rfl rfl (WL.nil (W.condF rfl (W.seq (W.region (WL.faN (T := Ty) (off' := 0) rfl rfl rfl rfl rfl rfl rfl (WL.ldN (T := Ty) (j := 1) rfl rfl rfl rfl rfl rfl (WL.eql rfl rfl rfl (WL.as rfl rfl (WL.nil ?_)))))))))))))
            refine W.condpT rfl (by omega) (W.seq (W.seq (W.region (WL.mv rfl rfl ?_))))
            refine WL.ldAF (T := Ty) (j := 0) rfl rfl rfl rfl rfl rfl (by repeat' constructor) ?_
            cases hcx : cix L L.length (e.who, e.n) with
            | none =>
              refine WL.luPR (T := Ty) (K := .i64) (q := (e.who, e.n)) (kvs := cks L L.length) rfl rfl rfl rfl hpk rfl hm1 (by rw [hgc, hcx]) ?_
              refine WL.mv rfl rfl (WL.extL rfl rfl rfl (WL.extL rfl rfl rfl (WL.as rfl rfl (WL.as rfl rfl (WL.nil (W.seq (W.region (WL.mv rfl rfl (WL.not rfl rfl (WL.mv rfl rfl (WL.gdN rfl rfl rfl rfl rfl rfl (WL.gdN rfl rfl rfl rfl rfl rfl (WL.gdN rfl rfl rfl rfl rfl rfl ?_)))))))))))))
              refine WL.pickT rfl rfl rfl (WL.nil (W.condT rfl (W.seq (W.region (WL.as rfl rfl (WL.nil ?_))))))
              exact W.fit (Hs' := []) (by (repeat' first | exact Sel.nil | apply Sel.k | exact Pick.h | apply Pick.t)) (W.ret1 rfl rfl (fun h q => ⟨by rw [no (by rw [evH_rep he hk2]; exact repR_no1 hcx)], q⟩))
            | some c =>
              refine WL.luPR (T := Ty) (K := .i64) (q := (e.who, e.n)) (kvs := cks L L.length) rfl rfl rfl rfl hpk rfl hm1 (by rw [hgc, hcx]) ?_
              by_cases hgt : i < c
              · refine WL.mv rfl rfl ?_
                refine WL.extL rfl rfl rfl (WL.extL rfl rfl rfl (WL.as rfl rfl (WL.as rfl rfl (WL.nil (W.seq (W.region (WL.mv rfl rfl (WL.not rfl rfl (WL.mv rfl rfl (WL.gY rfl rfl (WL.mv rfl rfl (WL.gY rfl rfl (WL.mv rfl rfl ?_)))))))))))))
                refine WL.gY rfl rfl (WL.gtr rfl rfl rfl (WL.pickF rfl rfl rfl (WL.nil (W.condpT rfl (by omega) (W.seq (W.region (WL.as rfl rfl (WL.nil ?_))))))))
                exact W.fit (Hs' := []) (by (repeat' first | exact Sel.nil | apply Sel.k | exact Pick.h | apply Pick.t)) (W.ret1 rfl rfl (fun h q => ⟨by rw [no (by rw [evH_rep he hk2]; exact repR_no2 hcx hgt)], q⟩))
              · skip
                cases hov : ovr e.res.err with
                | false =>
                  refine WL.mv rfl rfl (WL.extL rfl rfl rfl (WL.extL rfl rfl rfl (WL.as rfl rfl (WL.as rfl rfl (WL.nil (W.seq (W.region (WL.mv rfl rfl (WL.not rfl rfl (WL.mv rfl rfl (WL.gY rfl rfl (WL.mv rfl rfl (WL.gY rfl rfl ?_)))))))))))))
                  refine WL.mv rfl rfl (WL.gY rfl rfl (WL.gtr rfl rfl rfl (WL.pickF rfl rfl rfl (WL.nil (W.condpF rfl (by omega) (W.skip (W.seq (W.seq ?_))))))))
                  refine W.drawA 22 rfl (fun σ0 hσ0 dσ0 => ?_)
                  have fσ0_0 := rb_at 0 rfl hσ0 dσ0
                  have fσ0_1 := rb_at 1 rfl hσ0 dσ0
                  refine WD.takeL 0 rfl (by decide +kernel) (WL.mv rfl rfl (WL.nilT (WD.takeL 1 rfl (by decide +kernel) (WL.mv rfl rfl (WL.nilT (WD.takeL 2 rfl (by decide +kernel) (WL.gdN rfl rfl rfl rfl rfl rfl (WL.nilT (WD.takeL 3 rfl (by decide +kernel) (WL.gdN rfl rfl rfl rfl rfl rfl (WL.nilT (WD.takeL 4 rfl (by decide +kernel) (WL.gdN rfl rfl rfl rfl rfl rfl ?_)))))))))))))
                  refine WL.nilT (WD.takeL 5 rfl (by decide +kernel) (WL.gdN rfl rfl rfl rfl rfl rfl (WL.nilT (WD.takeL 6 rfl (by decide +kernel) (WL.gdN rfl rfl rfl rfl rfl rfl (WL.nilT (WD.takeL 7 rfl (by decide +kernel) (WL.gdN rfl rfl rfl rfl rfl rfl (WL.nilT (WD.takeL 8 rfl (by decide +kernel) (WL.gdN rfl rfl rfl rfl rfl rfl (WL.nilT (WD.takeL 9 rfl (by decide +kernel) ?_)))))))))))))
                  refine WL.gdN rfl rfl rfl rfl rfl rfl (WL.nilT (WD.takeL 10 rfl (by decide +kernel) (WL.pickF rfl rfl rfl (WL.nilT (WD.takeL 11 rfl (by decide +kernel) (WL.mv rfl rfl (WL.nilT (WD.takeL 12 rfl (by decide +kernel) (WL.gY rfl rfl (WL.mv rfl rfl (WL.nilT (WD.takeL 13 rfl (by decide +kernel) (WL.gY rfl rfl ?_)))))))))))))
                  refine WL.not rfl rfl (WL.nilT (WD.takeL 14 rfl (by decide +kernel) (WL.gY rfl rfl (WL.mv rfl rfl (WL.nilT (WD.takeL 15 rfl (by decide +kernel) (WL.gY rfl rfl (WL.faN (T := Ty) (off' := 11) rfl rfl rfl rfl rfl rfl rfl (WL.nilT (WD.takeL 16 rfl (by decide +kernel) (WL.gY rfl rfl (WL.faN (T := Ty) (off' := 11) rfl rfl rfl rfl rfl rfl rfl (WL.nilT ?_)))))))))))))
                  refine WD.takeL 17 rfl (by decide +kernel) (WL.gY rfl rfl ?_)
                  refine WL.ldBN (T := Ty) rfl rfl rfl rfl (by first | assumption | exact RB.wide (by assumption) | exact In.rb (by assumption)) rfl ?_
                  refine WL.nilT (WD.oneL 18 rfl (by decide +kernel) (WL.gY rfl rfl ?_))
                  refine WL.callV rfl rfl (fun x p d => over_e _ _ _ (by assumption)) ?_
                  refine WL.nilE (WD.takeL 19 rfl (by decide +kernel) (WL.gY rfl rfl (WL.not rfl rfl (WL.nilT (WD.takeL 20 rfl (by decide +kernel) (WL.gY rfl rfl (WL.pickT rfl rfl rfl (WL.nilT (WD.takeL 21 rfl (by decide +kernel) (WL.pickF rfl rfl rfl (WL.nilT ?_)))))))))))
                  refine WD.doneF hσ0 (by decide +kernel) (by repeat' constructor) ?_
                  refine W.condT rfl (W.seq (W.region (WL.as rfl rfl (WL.nil ?_))))
                  exact W.fit (Hs' := []) (by (repeat' first | exact Sel.nil | apply Sel.k | exact Pick.h | apply Pick.t)) (W.ret1 rfl rfl (fun h q => ⟨by rw [no (by rw [evH_rep he hk2, repR_out hcx hgt hpx, hov])], q⟩))
                | true =>
                  refine WL.mv rfl rfl (WL.extL rfl rfl rfl (WL.extL rfl rfl rfl (WL.as rfl rfl (WL.as rfl rfl (WL.nil (W.seq (W.region (WL.mv rfl rfl (WL.not rfl rfl (WL.mv rfl rfl (WL.gY rfl rfl (WL.mv rfl rfl (WL.gY rfl rfl ?_)))))))))))))
                  refine WL.mv rfl rfl (WL.gY rfl rfl (WL.gtr rfl rfl rfl (WL.pickF rfl rfl rfl (WL.nil (W.condpF rfl (by omega) (W.skip (W.seq (W.seq ?_))))))))
                  refine W.drawA 22 rfl (fun σ0 hσ0 dσ0 => ?_)
                  have fσ0_0 := rb_at 0 rfl hσ0 dσ0
                  have fσ0_1 := rb_at 1 rfl hσ0 dσ0
                  refine WD.takeL 0 rfl (by decide +kernel) (WL.mv rfl rfl (WL.nilT (WD.takeL 1 rfl (by decide +kernel) (WL.mv rfl rfl (WL.nilT (WD.takeL 2 rfl (by decide +kernel) (WL.gdN rfl rfl rfl rfl rfl rfl (WL.nilT (WD.takeL 3 rfl (by decide +kernel) (WL.gdN rfl rfl rfl rfl rfl rfl (WL.nilT (WD.takeL 4 rfl (by decide +kernel) (WL.gdN rfl rfl rfl rfl rfl rfl ?_)))))))))))))
                  refine WL.nilT (WD.takeL 5 rfl (by decide +kernel) (WL.gdN rfl rfl rfl rfl rfl rfl (WL.nilT (WD.takeL 6 rfl (by decide +kernel) (WL.gdN rfl rfl rfl rfl rfl rfl (WL.nilT (WD.takeL 7 rfl (by decide +kernel) (WL.gdN rfl rfl rfl rfl rfl rfl (WL.nilT (WD.takeL 8 rfl (by decide +kernel) (WL.gdN rfl rfl rfl rfl rfl rfl (WL.nilT (WD.takeL 9 rfl (by decide +kernel) ?_)))))))))))))
                  refine WL.gdN rfl rfl rfl rfl rfl rfl (WL.nilT (WD.takeL 10 rfl (by decide +kernel) (WL.pickF rfl rfl rfl (WL.nilT (WD.takeL 11 rfl (by decide +kernel) (WL.mv rfl rfl (WL.nilT (WD.takeL 12 rfl (by decide +kernel) (WL.gY rfl rfl (WL.mv rfl rfl (WL.nilT (WD.takeL 13 rfl (by decide +kernel) (WL.gY rfl rfl ?_)))))))))))))
                  refine WL.not rfl rfl (WL.nilT (WD.takeL 14 rfl (by decide +kernel) (WL.gY rfl rfl (WL.mv rfl rfl (WL.nilT (WD.takeL 15 rfl (by decide +kernel) (WL.gY rfl rfl (WL.faN (T := Ty) (off' := 11) rfl rfl rfl rfl rfl rfl rfl (WL.nilT (WD.takeL 16 rfl (by decide +kernel) (WL.gY rfl rfl (WL.faN (T := Ty) (off' := 11) rfl rfl rfl rfl rfl rfl rfl (WL.nilT ?_)))))))))))))
                  refine WD.takeL 17 rfl (by decide +kernel) (WL.gY rfl rfl ?_)
                  refine WL.ldBN (T := Ty) rfl rfl rfl rfl (by first | assumption | exact RB.wide (by assumption) | exact In.rb (by assumption)) rfl ?_
                  refine WL.nilT (WD.oneL 18 rfl (by decide +kernel) (WL.gY rfl rfl ?_))
                  refine WL.callV rfl rfl (fun x p d => over_e _ _ _ (by assumption)) ?_
                  refine WL.nilE (WD.takeL 19 rfl (by decide +kernel) (WL.gY rfl rfl (WL.not rfl rfl (WL.nilT (WD.takeL 20 rfl (by decide +kernel) (WL.gY rfl rfl (WL.pickT rfl rfl rfl (WL.nilT (WD.takeL 21 rfl (by decide +kernel) (WL.pickF rfl rfl rfl (WL.nilT ?_)))))))))))
                  refine WD.doneF hσ0 (by decide +kernel) (by repeat' constructor) ?_
                  refine W.condF rfl (W.skip (W.seq (W.region (WL.mv rfl rfl (WL.nil (W.condF rfl (W.skip (W.inBlock (W.inBlock (W.region (WL.addK rfl rfl rfl (wrap_i64 ⟨by omega, by omega⟩) (WL.mv rfl rfl (WL.nil ?_)))))))))))))
                  refine W.fit (Hs' := []) (by (repeat' first | exact Sel.nil | apply Sel.k | exact Pick.h | apply Pick.t)) (W.sub ?_ (nx (by rw [evH_rep he hk2, repR_out hcx hgt hpx, hov])))
                  exact ⟨rfl, rfl, rfl, by rw [far_out he hpx]; rfl, rfl, rfl, rfl, trivial⟩
          · refine WL.mv rfl rfl ?_
            refine WL.extL rfl rfl rfl (WL.extL rfl rfl rfl (WL.as rfl rfl (WL.as rfl rfl (WL.nil (W.block (W.seq (W.region (WL.faN (T := Ty) (off' := 0) rfl rfl rfl rfl rfl rfl rfl (WL.ldN (T := Ty) (j := 1) rfl rfl rfl rfl rfl rfl (WL.eql rfl rfl rfl (WL.mv rfl rfl (WL.gdTn rfl rfl rfl rfl rfl (by omega) (WL.gdTn rfl rfl rfl rfl rfl (by omega) ?_)))))))))))))
            refine WL.gdTn rfl rfl rfl rfl rfl (by omega) (WL.gdTn rfl rfl rfl rfl rfl (by omega) (WL.gdTn rfl rfl rfl rfl rfl (by omega) (WL.pickFp rfl rfl (by omega) rfl (WL.as rfl rfl (WL.nil (W.condF rfl (W.seq (W.region (WL.faN (T := Ty) (off' := 0) rfl rfl rfl rfl rfl rfl rfl (WL.ldN (T := Ty) (j := 1) rfl rfl rfl rfl rfl rfl (WL.eql rfl rfl rfl (WL.as rfl rfl (WL.nil ?_)))))))))))))
            refine W.condpF rfl (by omega) (W.skip (W.inBlock (W.inBlock (W.region (WL.addK rfl rfl rfl (wrap_i64 ⟨by omega, by omega⟩) (WL.mv rfl rfl (WL.nil ?_)))))))
            refine W.fit (Hs' := []) (by (repeat' first | exact Sel.nil | apply Sel.k | exact Pick.h | apply Pick.t)) (W.sub ?_ (nx (evH_oth he hk2 (fun h => absurd h hk))))
            exact ⟨rfl, rfl, rfl, by rw [far_no he hk2]; rfl, rfl, rfl, rfl, trivial⟩
      | some a =>
        obtain ⟨ha, hoa⟩ := pix_lt _ _ _ _ hpx
        obtain ⟨⟨x, xl⟩, hx⟩ : ∃ x, R1[a]? = some x := ⟨_, List.getElem?_eq_getElem (by omega)⟩
        have hrx : r[a]? = some x := by rw [← er1, List.getElem?_map, hx]; rfl
        have hrow2 : ((R1.flatMap rstC).drop (((a : Nat) : Int).toNat * 3)).take 3 = rstC (x, xl) := flat_row (k := 3) (f := rstC) (fun _ => rfl) hx
        unfold rstC at hrow2
        dsimp only at hrow2
        have hq1 : RRst ρ3 (.agg #[.int .i64 e.res.err, .int .i64 e.res.iter, lv]) e.res := ⟨lv, rfl, r4⟩
        have hq2 : RRst ρ3 (.agg #[.int .i64 x.err, .int .i64 x.iter, xl]) x := ⟨xl, rfl, (rR _ (List.mem_of_getElem? hx)).mono le3⟩
        have sx : SL xl x.list.length := (rR _ (List.mem_of_getElem? hx)).sl (flat_len sm_len _) (by omega)
        refine WL.luPR (T := Ty) (K := .i64) (q := (e.who, e.n)) (kvs := pls o o.length) rfl rfl rfl rfl hpk rfl hm2 (by rw [hgp, hpx]) ?_
        by_cases hk : e.kind = 1
        · obtain ⟨c, hcx, hci⟩ := cix_ex L (e.who, e.n) L.length i _ hc he hk rfl
          refine WL.mv rfl rfl (WL.extL rfl rfl rfl (WL.extL rfl rfl rfl (WL.as rfl rfl (WL.as rfl rfl (WL.nil (W.block (W.seq (W.region (WL.faN (T := Ty) (off' := 0) rfl rfl rfl rfl rfl rfl rfl (WL.ldN (T := Ty) (j := 1) rfl rfl rfl rfl rfl rfl (WL.eql rfl rfl rfl (WL.mv rfl rfl (WL.gT rfl rfl (by omega) ?_)))))))))))))
          refine WL.mv rfl rfl (WL.gT rfl rfl (by omega) ?_)
          refine WL.ldAF (T := Ty) (j := 0) rfl rfl rfl rfl rfl rfl (by repeat' constructor) ?_
          refine WL.gT rfl rfl (by omega) ?_
          refine WL.luPR (T := Ty) (K := .i64) (q := (e.who, e.n)) (kvs := cks L L.length) rfl rfl rfl rfl hpk rfl hm1 (by rw [hgc, hcx]) ?_
          by_cases hce : c = i
          · subst hce
            by_cases hlt : (a : Int) < far L o c
            · refine WL.gT rfl rfl (by omega) ?_
              refine WL.mv rfl rfl (WL.gT rfl rfl (by omega) (WL.eql rfl rfl rfl (WL.pickTp rfl rfl (by omega) rfl (WL.as rfl rfl (WL.nil (W.condpT rfl (by omega) (W.seq (W.region (WL.mv rfl rfl (WL.mv rfl rfl (WL.gY rfl rfl (WL.mv rfl rfl (WL.gY rfl rfl ?_)))))))))))))
              refine WL.mv rfl rfl (WL.gY rfl rfl (WL.lss rfl rfl rfl (WL.pickT rfl rfl rfl (WL.nil (W.condpT rfl (by omega) (W.seq (W.region (WL.as rfl rfl (WL.nil ?_)))))))))
              exact W.fit (Hs' := []) (by (repeat' first | exact Sel.nil | apply Sel.k | exact Pick.h | apply Pick.t)) (W.ret1 rfl rfl (fun h q => ⟨by rw [no (by rw [evH_calla he hk hcx hpx, decide_eq_true hlt]; rfl)], q⟩))
            · refine WL.gT rfl rfl (by omega) ?_
              refine WL.mv rfl rfl (WL.gT rfl rfl (by omega) (WL.eql rfl rfl rfl (WL.pickTp rfl rfl (by omega) rfl (WL.as rfl rfl (WL.nil (W.condpT rfl (by omega) (W.seq (W.region (WL.mv rfl rfl (WL.mv rfl rfl (WL.gY rfl rfl (WL.mv rfl rfl (WL.gY rfl rfl ?_)))))))))))))
              refine WL.mv rfl rfl (WL.gY rfl rfl (WL.lss rfl rfl rfl (WL.pickT rfl rfl rfl (WL.nil (W.condpF rfl (by omega) (W.skip (W.inBlock (W.inBlock (W.region (WL.addK rfl rfl rfl (wrap_i64 ⟨by omega, by omega⟩) (WL.mv rfl rfl (WL.nil ?_))))))))))))
              refine W.fit (Hs' := []) (by (repeat' first | exact Sel.nil | apply Sel.k | exact Pick.h | apply Pick.t)) (W.sub ?_ (nx (by rw [evH_calla he hk hcx hpx, decide_eq_false hlt]; rfl)))
              exact ⟨rfl, rfl, rfl, by rw [far_no he (by omega)]; rfl, rfl, rfl, rfl, trivial⟩
          · refine WL.gT rfl rfl (by omega) ?_
            refine WL.mv rfl rfl (WL.gT rfl rfl (by omega) (WL.eql rfl rfl rfl (WL.pickTp rfl rfl (by omega) rfl (WL.as rfl rfl (WL.nil (W.condpF rfl (by omega) (W.seq (W.region (WL.faN (T := Ty) (off' := 0) rfl rfl rfl rfl rfl rfl rfl (WL.ldN (T := Ty) (j := 1) rfl rfl rfl rfl rfl rfl (WL.eql rfl rfl rfl (WL.as rfl rfl (WL.nil ?_)))))))))))))
            refine W.condpF rfl (by omega) (W.skip (W.inBlock (W.inBlock (W.region (WL.addK rfl rfl rfl (wrap_i64 ⟨by omega, by omega⟩) (WL.mv rfl rfl (WL.nil ?_)))))))
            refine W.fit (Hs' := []) (by (repeat' first | exact Sel.nil | apply Sel.k | exact Pick.h | apply Pick.t)) (W.sub ?_ (nx (evH_oth he (by omega) (fun _ h => hce (Option.some.inj (hcx.symm.trans h))))))
            exact ⟨rfl, rfl, rfl, by rw [far_no he (by omega)]; rfl, rfl, rfl, rfl, trivial⟩
        · by_cases hk2 : e.kind = 2
          · refine WL.mv rfl rfl ?_
            refine WL.extL rfl rfl rfl (WL.extL rfl rfl rfl (WL.as rfl rfl (WL.as rfl rfl (WL.nil (W.block (W.seq (W.region (WL.faN (T := Ty) (off' := 0) rfl rfl rfl rfl rfl rfl rfl (WL.ldN (T := Ty) (j := 1) rfl rfl rfl rfl rfl rfl (WL.eql rfl rfl rfl (WL.mv rfl rfl (WL.gdTn rfl rfl rfl rfl rfl (by omega) (WL.gdTn rfl rfl rfl rfl rfl (by omega) ?_)))))))))))))
            refine WL.gdTn rfl rfl rfl rfl rfl (by omega) (WL.gdTn rfl rfl rfl rfl rfl (by omega) (WL.gdTn rfl rfl rfl rfl rfl (by omega) (WL.pickFp rfl rfl (by omega) rfl (WL.as rfl rfl (WL.nil (W.condF rfl (W.seq (W.region (WL.faN (T := Ty) (off' := 0) rfl rfl rfl rfl rfl rfl rfl (WL.ldN (T := Ty) (j := 1) rfl rfl rfl rfl rfl rfl (WL.eql rfl rfl rfl (WL.as rfl rfl (WL.nil ?_)))))))))))))
            refine W.condpT rfl (by omega) (W.seq (W.seq (W.region (WL.mv rfl rfl ?_))))
            refine WL.ldAF (T := Ty) (j := 0) rfl rfl rfl rfl rfl rfl (by repeat' constructor) ?_
            cases hcx : cix L L.length (e.who, e.n) with
            | none =>
              refine WL.luPR (T := Ty) (K := .i64) (q := (e.who, e.n)) (kvs := cks L L.length) rfl rfl rfl rfl hpk rfl hm1 (by rw [hgc, hcx]) ?_
              refine WL.mv rfl rfl (WL.extL rfl rfl rfl (WL.extL rfl rfl rfl (WL.as rfl rfl (WL.as rfl rfl (WL.nil (W.seq (W.region (WL.mv rfl rfl (WL.not rfl rfl (WL.mv rfl rfl (WL.gdN rfl rfl rfl rfl rfl rfl (WL.gdN rfl rfl rfl rfl rfl rfl (WL.gdN rfl rfl rfl rfl rfl rfl ?_)))))))))))))
              refine WL.pickT rfl rfl rfl (WL.nil (W.condT rfl (W.seq (W.region (WL.as rfl rfl (WL.nil ?_))))))
              exact W.fit (Hs' := []) (by (repeat' first | exact Sel.nil | apply Sel.k | exact Pick.h | apply Pick.t)) (W.ret1 rfl rfl (fun h q => ⟨by rw [no (by rw [evH_rep he hk2]; exact repR_no1 hcx)], q⟩))
            | some c =>
              refine WL.luPR (T := Ty) (K := .i64) (q := (e.who, e.n)) (kvs := cks L L.length) rfl rfl rfl rfl hpk rfl hm1 (by rw [hgc, hcx]) ?_
              by_cases hgt : i < c
              · refine WL.mv rfl rfl ?_
                refine WL.extL rfl rfl rfl (WL.extL rfl rfl rfl (WL.as rfl rfl (WL.as rfl rfl (WL.nil (W.seq (W.region (WL.mv rfl rfl (WL.not rfl rfl (WL.mv rfl rfl (WL.gY rfl rfl (WL.mv rfl rfl (WL.gY rfl rfl (WL.mv rfl rfl ?_)))))))))))))
                refine WL.gY rfl rfl (WL.gtr rfl rfl rfl (WL.pickF rfl rfl rfl (WL.nil (W.condpT rfl (by omega) (W.seq (W.region (WL.as rfl rfl (WL.nil ?_))))))))
                exact W.fit (Hs' := []) (by (repeat' first | exact Sel.nil | apply Sel.k | exact Pick.h | apply Pick.t)) (W.ret1 rfl rfl (fun h q => ⟨by rw [no (by rw [evH_rep he hk2]; exact repR_no2 hcx hgt)], q⟩))
              · skip
                cases hsm : sameRst e.res x with
                | false =>
                  refine WL.mv rfl rfl (WL.extL rfl rfl rfl (WL.extL rfl rfl rfl (WL.as rfl rfl (WL.as rfl rfl (WL.nil (W.seq (W.region (WL.mv rfl rfl (WL.not rfl rfl (WL.mv rfl rfl (WL.gY rfl rfl (WL.mv rfl rfl (WL.gY rfl rfl ?_)))))))))))))
                  refine WL.mv rfl rfl (WL.gY rfl rfl (WL.gtr rfl rfl rfl (WL.pickF rfl rfl rfl (WL.nil (W.condpF rfl (by omega) (W.skip (W.seq (W.seq ?_))))))))
                  refine W.drawA 22 rfl (fun σ0 hσ0 dσ0 => ?_)
                  have fσ0_0 := rb_at 0 rfl hσ0 dσ0
                  have fσ0_1 := rb_at 1 rfl hσ0 dσ0
                  refine WD.takeL 0 rfl (by decide +kernel) (WL.mv rfl rfl (WL.nilT (WD.takeL 1 rfl (by decide +kernel) (WL.mv rfl rfl (WL.nilT (WD.takeL 2 rfl (by decide +kernel) (WL.gY rfl rfl (WL.faN (T := Ty) (off' := 11) rfl rfl rfl rfl rfl rfl rfl (WL.nilT (WD.takeL 3 rfl (by decide +kernel) (WL.gY rfl rfl ?_)))))))))))
                  refine WL.ldABF (T := Ty) rfl rfl rfl rfl (by first | assumption | exact RB.wide (by assumption) | exact In.rb (by assumption)) rfl (by repeat' constructor) ?_
                  refine WL.nilT (WD.takeL 4 rfl (by decide +kernel) (WL.gY rfl rfl (WL.mv rfl rfl (WL.nilT (WD.takeL 5 rfl (by decide +kernel) (WL.gY rfl rfl (WL.mv rfl rfl (WL.nilT (WD.takeL 6 rfl (by decide +kernel) (WL.gY rfl rfl ?_))))))))))
                  refine WL.ix (T := Ty) rfl rfl rfl (by assumption) rfl rfl (by omega) (by first | omega | decide +kernel) ?_
                  refine WL.nilT (WD.takeL 7 rfl (by decide +kernel) (WL.gY rfl rfl ?_))
                  refine WL.ldAR (T := Ty) rfl rfl rfl rfl (by first | assumption | exact ROs.wide (by assumption)) (by assumption) rfl ?_
                  refine WL.nilT (WD.oneL 8 rfl (by decide +kernel) (WL.gY rfl rfl ?_))
                  refine WL.callV rfl rfl (fun x p d => sameR_e _ _ _ _ _ _ (by first | assumption | exact RRst.wide (by assumption) | exact RRst.mono (by assumption) (eqh_at 0 rfl p d) | exact RRst.mono (In.rrst (by assumption)) (eqh_at 0 rfl p d) | exact (in_at 0 rfl p d).rrst | exact (in_at 1 rfl p d).rrst | exact (in_at 2 rfl p d).rrst | exact (in_at 3 rfl p d).rrst | exact (in_at 4 rfl p d).rrst | exact (in_at 5 rfl p d).rrst | exact (in_at 6 rfl p d).rrst | exact (in_at 7 rfl p d).rrst | exact (in_at 8 rfl p d).rrst | exact (in_at 9 rfl p d).rrst | exact (in_at 10 rfl p d).rrst | exact (in_at 11 rfl p d).rrst | exact (in_at 12 rfl p d).rrst | exact (in_at 13 rfl p d).rrst | exact (in_at 14 rfl p d).rrst | exact (in_at 15 rfl p d).rrst | exact (in_at 16 rfl p d).rrst | exact (in_at 17 rfl p d).rrst | exact (in_at 18 rfl p d).rrst | exact (in_at 19 rfl p d).rrst | exact (in_at 20 rfl p d).rrst | exact (in_at 21 rfl p d).rrst | exact (in_at 22 rfl p d).rrst | exact (in_at 23 rfl p d).rrst | exact (in_at 24 rfl p d).rrst | exact (in_at 25 rfl p d).rrst | exact (in_at 26 rfl p d).rrst | exact (in_at 27 rfl p d).rrst | exact (in_at 28 rfl p d).rrst | exact (in_at 29 rfl p d).rrst) (by first | assumption | exact RRst.wide (by assumption) | exact RRst.mono (by assumption) (eqh_at 0 rfl p d) | exact RRst.mono (In.rrst (by assumption)) (eqh_at 0 rfl p d) | exact (in_at 0 rfl p d).rrst | exact (in_at 1 rfl p d).rrst | exact (in_at 2 rfl p d).rrst | exact (in_at 3 rfl p d).rrst | exact (in_at 4 rfl p d).rrst | exact (in_at 5 rfl p d).rrst | exact (in_at 6 rfl p d).rrst | exact (in_at 7 rfl p d).rrst | exact (in_at 8 rfl p d).rrst | exact (in_at 9 rfl p d).rrst | exact (in_at 10 rfl p d).rrst | exact (in_at 11 rfl p d).rrst | exact (in_at 12 rfl p d).rrst | exact (in_at 13 rfl p d).rrst | exact (in_at 14 rfl p d).rrst | exact (in_at 15 rfl p d).rrst | exact (in_at 16 rfl p d).rrst | exact (in_at 17 rfl p d).rrst | exact (in_at 18 rfl p d).rrst | exact (in_at 19 rfl p d).rrst | exact (in_at 20 rfl p d).rrst | exact (in_at 21 rfl p d).rrst | exact (in_at 22 rfl p d).rrst | exact (in_at 23 rfl p d).rrst | exact (in_at 24 rfl p d).rrst | exact (in_at 25 rfl p d).rrst | exact (in_at 26 rfl p d).rrst | exact (in_at 27 rfl p d).rrst | exact (in_at 28 rfl p d).rrst | exact (in_at 29 rfl p d).rrst) (by first | assumption | omega | decide) (by assumption)) ?_
                  refine WL.nilE (WD.takeL 9 rfl (by decide +kernel) (WL.gY rfl rfl (WL.not rfl rfl (WL.nilT (WD.takeL 10 rfl (by decide +kernel) (WL.pickT rfl rfl rfl (WL.nilT (WD.takeL 11 rfl (by decide +kernel) (WL.mv rfl rfl (WL.nilT (WD.takeL 12 rfl (by decide +kernel) (WL.gdN rfl rfl rfl rfl rfl rfl (WL.nilT ?_)))))))))))))
                  refine WD.takeL 13 rfl (by decide +kernel) (WL.gdN rfl rfl rfl rfl rfl rfl (WL.nilT (WD.takeL 14 rfl (by decide +kernel) (WL.gdN rfl rfl rfl rfl rfl rfl (WL.nilT (WD.takeL 15 rfl (by decide +kernel) (WL.gdU rfl rfl rfl rfl rfl (WL.nilT (WD.takeL 16 rfl (by decide +kernel) (WL.gdU rfl rfl rfl rfl rfl (WL.nilT (WD.takeL 17 rfl (by decide +kernel) (WL.gdU rfl rfl rfl rfl rfl ?_)))))))))))))
                  refine WL.nilT (WD.takeL 18 rfl (by decide +kernel) (WL.gdU rfl rfl rfl rfl rfl (WL.nilT (WD.takeL 19 rfl (by decide +kernel) (WL.gdU rfl rfl rfl rfl rfl (WL.nilT (WD.takeL 20 rfl (by decide +kernel) (WL.gdN rfl rfl rfl rfl rfl rfl (WL.nilT (WD.takeL 21 rfl (by decide +kernel) (WL.pickT rfl rfl rfl (WL.nilT ?_))))))))))))
                  refine WD.doneF hσ0 (by decide +kernel) (by repeat' constructor) ?_
                  refine W.condT rfl (W.seq (W.region (WL.as rfl rfl (WL.nil ?_))))
                  exact W.fit (Hs' := []) (by (repeat' first | exact Sel.nil | apply Sel.k | exact Pick.h | apply Pick.t)) (W.ret1 rfl rfl (fun h q => ⟨by rw [no (by rw [evH_rep he hk2, repR_in hcx hgt hpx hrx, hsm])], q⟩))
                | true =>
                  refine WL.mv rfl rfl (WL.extL rfl rfl rfl (WL.extL rfl rfl rfl (WL.as rfl rfl (WL.as rfl rfl (WL.nil (W.seq (W.region (WL.mv rfl rfl (WL.not rfl rfl (WL.mv rfl rfl (WL.gY rfl rfl (WL.mv rfl rfl (WL.gY rfl rfl ?_)))))))))))))
                  refine WL.mv rfl rfl (WL.gY rfl rfl (WL.gtr rfl rfl rfl (WL.pickF rfl rfl rfl (WL.nil (W.condpF rfl (by omega) (W.skip (W.seq (W.seq ?_))))))))
                  refine W.drawA 22 rfl (fun σ0 hσ0 dσ0 => ?_)
                  have fσ0_0 := rb_at 0 rfl hσ0 dσ0
                  have fσ0_1 := rb_at 1 rfl hσ0 dσ0
                  refine WD.takeL 0 rfl (by decide +kernel) (WL.mv rfl rfl (WL.nilT (WD.takeL 1 rfl (by decide +kernel) (WL.mv rfl rfl (WL.nilT (WD.takeL 2 rfl (by decide +kernel) (WL.gY rfl rfl (WL.faN (T := Ty) (off' := 11) rfl rfl rfl rfl rfl rfl rfl (WL.nilT (WD.takeL 3 rfl (by decide +kernel) (WL.gY rfl rfl ?_)))))))))))
                  refine WL.ldABF (T := Ty) rfl rfl rfl rfl (by first | assumption | exact RB.wide (by assumption) | exact In.rb (by assumption)) rfl (by repeat' constructor) ?_
                  refine WL.nilT (WD.takeL 4 rfl (by decide +kernel) (WL.gY rfl rfl (WL.mv rfl rfl (WL.nilT (WD.takeL 5 rfl (by decide +kernel) (WL.gY rfl rfl (WL.mv rfl rfl (WL.nilT (WD.takeL 6 rfl (by decide +kernel) (WL.gY rfl rfl ?_))))))))))
                  refine WL.ix (T := Ty) rfl rfl rfl (by assumption) rfl rfl (by omega) (by first | omega | decide +kernel) ?_
                  refine WL.nilT (WD.takeL 7 rfl (by decide +kernel) (WL.gY rfl rfl ?_))
                  refine WL.ldAR (T := Ty) rfl rfl rfl rfl (by first | assumption | exact ROs.wide (by assumption)) (by assumption) rfl ?_
                  refine WL.nilT (WD.oneL 8 rfl (by decide +kernel) (WL.gY rfl rfl ?_))
                  refine WL.callV rfl rfl (fun x p d => sameR_e _ _ _ _ _ _ (by first | assumption | exact RRst.wide (by assumption) | exact RRst.mono (by assumption) (eqh_at 0 rfl p d) | exact RRst.mono (In.rrst (by assumption)) (eqh_at 0 rfl p d) | exact (in_at 0 rfl p d).rrst | exact (in_at 1 rfl p d).rrst | exact (in_at 2 rfl p d).rrst | exact (in_at 3 rfl p d).rrst | exact (in_at 4 rfl p d).rrst | exact (in_at 5 rfl p d).rrst | exact (in_at 6 rfl p d).rrst | exact (in_at 7 rfl p d).rrst | exact (in_at 8 rfl p d).rrst | exact (in_at 9 rfl p d).rrst | exact (in_at 10 rfl p d).rrst | exact (in_at 11 rfl p d).rrst | exact (in_at 12 rfl p d).rrst | exact (in_at 13 rfl p d).rrst | exact (in_at 14 rfl p d).rrst | exact (in_at 15 rfl p d).rrst | exact (in_at 16 rfl p d).rrst | exact (in_at 17 rfl p d).rrst | exact (in_at 18 rfl p d).rrst | exact (in_at 19 rfl p d).rrst | exact (in_at 20 rfl p d).rrst | exact (in_at 21 rfl p d).rrst | exact (in_at 22 rfl p d).rrst | exact (in_at 23 rfl p d).rrst | exact (in_at 24 rfl p d).rrst | exact (in_at 25 rfl p d).rrst | exact (in_at 26 rfl p d).rrst | exact (in_at 27 rfl p d).rrst | exact (in_at 28 rfl p d).rrst | exact (in_at 29 rfl p d).rrst) (by first | assumption | exact RRst.wide (by assumption) | exact RRst.mono (by assumption) (eqh_at 0 rfl p d) | exact RRst.mono (In.rrst (by assumption)) (eqh_at 0 rfl p d) | exact (in_at 0 rfl p d).rrst | exact (in_at 1 rfl p d).rrst | exact (in_at 2 rfl p d).rrst | exact (in_at 3 rfl p d).rrst | exact (in_at 4 rfl p d).rrst | exact (in_at 5 rfl p d).rrst | exact (in_at 6 rfl p d).rrst | exact (in_at 7 rfl p d).rrst | exact (in_at 8 rfl p d).rrst | exact (in_at 9 rfl p d).rrst | exact (in_at 10 rfl p d).rrst | exact (in_at 11 rfl p d).rrst | exact (in_at 12 rfl p d).rrst | exact (in_at 13 rfl p d).rrst | exact (in_at 14 rfl p d).rrst | exact (in_at 15 rfl p d).rrst | exact (in_at 16 rfl p d).rrst | exact (in_at 17 rfl p d).rrst | exact (in_at 18 rfl p d).rrst | exact (in_at 19 rfl p d).rrst | exact (in_at 20 rfl p d).rrst | exact (in_at 21 rfl p d).rrst | exact (in_at 22 rfl p d).rrst | exact (in_at 23 rfl p d).rrst | exact (in_at 24 rfl p d).rrst | exact (in_at 25 rfl p d).rrst | exact (in_at 26 rfl p d).rrst | exact (in_at 27 rfl p d).rrst | exact (in_at 28 rfl p d).rrst | exact (in_at 29 rfl p d).rrst) (by first | assumption | omega | decide) (by assumption)) ?_
                  refine WL.nilE (WD.takeL 9 rfl (by decide +kernel) (WL.gY rfl rfl (WL.not rfl rfl (WL.nilT (WD.takeL 10 rfl (by decide +kernel) (WL.pickT rfl rfl rfl (WL.nilT (WD.takeL 11 rfl (by decide +kernel) (WL.mv rfl rfl (WL.nilT (WD.takeL 12 rfl (by decide +kernel) (WL.gY rfl rfl (WL.mv rfl rfl ?_)))))))))))))
                  refine WL.nilT (WD.takeL 13 rfl (by decide +kernel) (WL.gY rfl rfl (WL.not rfl rfl (WL.nilT (WD.takeL 14 rfl (by decide +kernel) (WL.gY rfl rfl (WL.mv rfl rfl (WL.nilT (WD.takeL 15 rfl (by decide +kernel) (WL.gdN rfl rfl rfl rfl rfl rfl (WL.nilT (WD.takeL 16 rfl (by decide +kernel) (WL.gdN rfl rfl rfl rfl rfl rfl ?_)))))))))))))
                  refine WL.nilT (WD.takeL 17 rfl (by decide +kernel) (WL.gdN rfl rfl rfl rfl rfl rfl (WL.nilT (WD.takeL 18 rfl (by decide +kernel) (WL.gdN rfl rfl rfl rfl rfl rfl (WL.nilT (WD.takeL 19 rfl (by decide +kernel) (WL.gdN rfl rfl rfl rfl rfl rfl (WL.nilT (WD.takeL 20 rfl (by decide +kernel) (WL.gY rfl rfl (WL.pickF rfl rfl rfl (WL.nilT ?_)))))))))))))
                  refine WD.takeL 21 rfl (by decide +kernel) (WL.pickF rfl rfl rfl (WL.nilT ?_))
                  refine WD.doneF hσ0 (by decide +kernel) (by repeat' constructor) ?_
                  refine W.condF rfl (W.skip (W.seq (W.region (WL.mv rfl rfl (WL.nil (W.condT rfl (W.region (WL.mv rfl rfl (WL.mv rfl rfl (WL.mx rfl rfl rfl (WL.as rfl rfl (WL.nil (W.inBlock ?_)))))))))))))
                  refine W.inBlock (W.region (WL.addK rfl rfl rfl (wrap_i64 ⟨by omega, by omega⟩) (WL.mv rfl rfl (WL.nil ?_))))
                  refine W.fit (Hs' := []) (by (repeat' first | exact Sel.nil | apply Sel.k | exact Pick.h | apply Pick.t)) (W.sub ?_ (nx (by rw [evH_rep he hk2, repR_in hcx hgt hpx hrx, hsm])))
                  exact ⟨rfl, rfl, rfl, by rw [far_in he hk2 hpx]; rfl, rfl, rfl, rfl, trivial⟩
          · refine WL.mv rfl rfl ?_
            refine WL.extL rfl rfl rfl (WL.extL rfl rfl rfl (WL.as rfl rfl (WL.as rfl rfl (WL.nil (W.block (W.seq (W.region (WL.faN (T := Ty) (off' := 0) rfl rfl rfl rfl rfl rfl rfl (WL.ldN (T := Ty) (j := 1) rfl rfl rfl rfl rfl rfl (WL.eql rfl rfl rfl (WL.mv rfl rfl (WL.gdTn rfl rfl rfl rfl rfl (by omega) (WL.gdTn rfl rfl rfl rfl rfl (by omega) ?_)))))))))))))
            refine WL.gdTn rfl rfl rfl rfl rfl (by omega) (WL.gdTn rfl rfl rfl rfl rfl (by omega) (WL.gdTn rfl rfl rfl rfl rfl (by omega) (WL.pickFp rfl rfl (by omega) rfl (WL.as rfl rfl (WL.nil (W.condF rfl (W.seq (W.region (WL.faN (T := Ty) (off' := 0) rfl rfl rfl rfl rfl rfl rfl (WL.ldN (T := Ty) (j := 1) rfl rfl rfl rfl rfl rfl (WL.eql rfl rfl rfl (WL.as rfl rfl (WL.nil ?_)))))))))))))
            refine W.condpF rfl (by omega) (W.skip (W.inBlock (W.inBlock (W.region (WL.addK rfl rfl rfl (wrap_i64 ⟨by omega, by omega⟩) (WL.mv rfl rfl (WL.nil ?_)))))))
            refine W.fit (Hs' := []) (by (repeat' first | exact Sel.nil | apply Sel.k | exact Pick.h | apply Pick.t)) (W.sub ?_ (nx (evH_oth he hk2 (fun h => absurd h hk))))
            exact ⟨rfl, rfl, rfl, by rw [far_no he hk2]; rfl, rfl, rfl, rfl, trivial⟩
      -- END
    · have hiL : i = L.length := by omega
      subst hiL
      refine W.seq (W.region (WL.lss rfl rfl rfl (WL.nil (W.seq (W.condpF rfl (by omega) (W.exit rfl (W.seq (W.region (WL.as rfl rfl (WL.nil ?_))))))))))
      exact W.ret1 rfl rfl (fun h q => ⟨by rw [hok], q⟩)
end Go.Proofs.Ytbebhmdjnneimaa
