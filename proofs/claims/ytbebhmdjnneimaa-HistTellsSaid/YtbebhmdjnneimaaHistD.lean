/- The document's search among events and points. -/
import Derived.Test.YtbebhmdjnneimaaStc
import Derived.Test.YtbebhmdjnneimaaNum
import Derived.Test.YtbebhmdjnneimaaTab
import Derived.Test.YtbebhmdjnneimaaHistLaw
set_option linter.unusedSimpArgs false
set_option linter.unusedVariables false
set_option maxRecDepth 20000
set_option maxHeartbeats 4000000
namespace Go.Proofs.Ytbebhmdjnneimaa
open Go
attribute [local irreducible] W WL Fn Buf ROs SL eptr box Rd Src bndOK WD RB Reads In Own Pm cix rix pix
def ixV : Option Nat → Int
 | none => -1
 | some i => (i : Int)
theorem cix_step {l : List (Evt × Value)} {i : Nat} {p : PK} {e : Evt} {w : Value} (h : cix l i p = none) (he : l[i]? = some (e, w)) (hn : ¬(e.kind = 1 ∧ (e.who, e.n) = p)) : cix l (i + 1) p = none := by
 simp only [cix, h, he]; rw [if_neg hn]
theorem cix_hit {l : List (Evt × Value)} {i n : Nat} {p : PK} {e : Evt} {w : Value} (h : cix l i p = none) (he : l[i]? = some (e, w)) (hn : e.kind = 1 ∧ (e.who, e.n) = p) : ∀ k, cix l (i + 1 + k) p = some i
 | 0 => by simp only [Nat.add_zero, cix, h, he]; rw [if_pos hn]
 | k + 1 => by rw [show i + 1 + (k + 1) = (i + 1 + k) + 1 by omega, cix, cix_hit (n := n) h he hn k]
theorem rix_step {l : List (Evt × Value)} {i : Nat} {p : PK} {e : Evt} {w : Value} (h : rix l i p = none) (he : l[i]? = some (e, w)) (hn : ¬(e.kind = 2 ∧ (e.who, e.n) = p)) : rix l (i + 1) p = none := by
 simp only [rix, h, he]; rw [if_neg hn]
theorem rix_hit {l : List (Evt × Value)} {i n : Nat} {p : PK} {e : Evt} {w : Value} (h : rix l i p = none) (he : l[i]? = some (e, w)) (hn : e.kind = 2 ∧ (e.who, e.n) = p) : ∀ k, rix l (i + 1 + k) p = some i
 | 0 => by simp only [Nat.add_zero, rix, h, he]; rw [if_pos hn]
 | k + 1 => by rw [show i + 1 + (k + 1) = (i + 1 + k) + 1 by omega, rix, rix_hit (n := n) h he hn k]
theorem pix_step {l : List PK} {i : Nat} {p q : PK} (h : pix l i p = none) (he : l[i]? = some q) (hn : ¬(q = p)) : pix l (i + 1) p = none := by
 simp only [pix, h, he]; rw [if_neg hn]
theorem pix_hit {l : List PK} {i n : Nat} {p q : PK} (h : pix l i p = none) (he : l[i]? = some q) (hn : q = p) : ∀ k, pix l (i + 1 + k) p = some i
 | 0 => by simp only [Nat.add_zero, pix, h, he]; rw [if_pos hn]
 | k + 1 => by rw [show i + 1 + (k + 1) = (i + 1 + k) + 1 by omega, pix, pix_hit (n := n) h he hn k]
theorem rcall_c (ρ : Hp) (v : Value) (L : List (Evt × Value)) (who n : Int) (r0 : ROs ρ 14 v (L.flatMap evC)) (hl : L.length ≤ 1000) :
    Fn Try.prog 61 #[v, .int .i64 who, .int .i64 n] ρ [] (Just (.int .i64 (ixV (cix L L.length (who, n))))) := by
  have s0 : SL v L.length := r0.sl (evs_cells L) (by omega)
  refine in61 rfl rfl ?_
  refine W.seq (W.region (WL.as rfl rfl (WL.nil (W.seq (W.seq (W.region (WL.as rfl rfl (WL.nil (W.block ?_)))))))))
  refine W.loopR (σ := Nat) (fun i => [(0, v), (1, .int .i64 who), (2, .int .i64 n), (7, .int .i64 (i : Int))]) (fun i => []) (fun i ρ' => i ≤ L.length ∧ cix L i (who, n) = none) (fun i => L.length - i)
    0 ⟨rfl, rfl, rfl, rfl, trivial⟩ rfl ⟨Nat.zero_le _, by unfold cix; rfl⟩ ?_
  rintro i ρ1 le1 ⟨hi, hn⟩ next
  replace r0 := r0.mono le1
  by_cases hc : i < L.length
  · obtain ⟨⟨e, w⟩, he⟩ : ∃ e, L[i]? = some e := ⟨_, List.getElem?_eq_getElem hc⟩
    have l1 := evs_cells L
    have g0 : (L.flatMap evC)[((i : Nat) : Int).toNat * 14 + 0]? = some (.int .i64 e.kind) := flat_get ev_len he rfl
    have g1 : (L.flatMap evC)[((i : Nat) : Int).toNat * 14 + 1]? = some (.int .i64 e.who) := flat_get ev_len he rfl
    have g2 : (L.flatMap evC)[((i : Nat) : Int).toNat * 14 + 2]? = some (.int .i64 e.n) := flat_get ev_len he rfl
    have no : ∀ (h : ¬(e.kind = 1 ∧ (e.who, e.n) = (who, n))), cix L (i + 1) (who, n) = none := fun h => cix_step hn he h
    by_cases hk : e.kind = 1
    · by_cases hw : e.who = who
      · by_cases hnn : e.n = n
        · have hit := cix_hit (n := 0) hn he ⟨hk, by rw [hw, hnn]⟩ (L.length - (i + 1))
          rw [show i + 1 + (L.length - (i + 1)) = L.length by omega] at hit
          refine W.seq (W.seq (W.region (WL.mv rfl rfl (WL.mv rfl rfl ?_))))
          refine WL.len (T := Ty) rfl rfl (by assumption) rfl ?_
          refine WL.lss rfl rfl rfl (WL.nil (W.condpT rfl (by omega) (W.skip (W.seq (W.block (W.seq (W.region (WL.mv rfl rfl (WL.mv rfl rfl ?_)))))))))
          refine WL.ix (T := Ty) rfl rfl rfl (by assumption) rfl rfl (by omega) (by first | omega | decide +kernel) ?_
          refine WL.faEN (T := Ty) (off' := 0) rfl rfl rfl rfl rfl rfl rfl ?_
          refine WL.ldR (T := Ty) rfl rfl rfl rfl (by first | assumption | exact ROs.wide (by assumption)) (by assumption) ?_
          refine WL.eql rfl rfl rfl (WL.mv rfl rfl (WL.gT rfl rfl (by omega) (WL.mv rfl rfl (WL.gT rfl rfl (by omega) (WL.mv rfl rfl (WL.gT rfl rfl (by omega) ?_))))))
          refine WL.ix (T := Ty) rfl rfl rfl (by assumption) rfl rfl (by omega) (by first | omega | decide +kernel) ?_
          refine WL.gT rfl rfl (by omega) (WL.faEN (T := Ty) (off' := 1) rfl rfl rfl rfl rfl rfl rfl (WL.gT rfl rfl (by omega) ?_))
          refine WL.ldR (T := Ty) rfl rfl rfl rfl (by first | assumption | exact ROs.wide (by assumption)) (by assumption) ?_
          refine WL.gT rfl rfl (by omega) (WL.mv rfl rfl (WL.gT rfl rfl (by omega) (WL.eql rfl rfl rfl (WL.pickTp rfl rfl (by omega) rfl (WL.mv rfl rfl (WL.gT rfl rfl (by omega) (WL.mv rfl rfl (WL.gT rfl rfl (by omega) (WL.mv rfl rfl (WL.gT rfl rfl (by omega) ?_))))))))))
          refine WL.ix (T := Ty) rfl rfl rfl (by assumption) rfl rfl (by omega) (by first | omega | decide +kernel) ?_
          refine WL.gT rfl rfl (by omega) (WL.faEN (T := Ty) (off' := 2) rfl rfl rfl rfl rfl rfl rfl (WL.gT rfl rfl (by omega) ?_))
          refine WL.ldR (T := Ty) rfl rfl rfl rfl (by first | assumption | exact ROs.wide (by assumption)) (by assumption) ?_
          refine WL.gT rfl rfl (by omega) (WL.mv rfl rfl (WL.gT rfl rfl (by omega) (WL.eql rfl rfl rfl (WL.pickTp rfl rfl (by omega) rfl (WL.nil (W.condpT rfl (by omega) (W.seq (W.region (WL.mv rfl rfl (WL.as rfl rfl (WL.nil ?_)))))))))))
          exact W.ret1 rfl rfl (fun h q => by rw [hit]; exact ⟨rfl, q⟩)
        · refine W.seq ?_
          refine W.seq (W.region (WL.mv rfl rfl (WL.mv rfl rfl ?_)))
          refine WL.len (T := Ty) rfl rfl (by assumption) rfl ?_
          refine WL.lss rfl rfl rfl (WL.nil (W.condpT rfl (by omega) (W.skip (W.seq (W.block (W.seq (W.region (WL.mv rfl rfl (WL.mv rfl rfl ?_)))))))))
          refine WL.ix (T := Ty) rfl rfl rfl (by assumption) rfl rfl (by omega) (by first | omega | decide +kernel) ?_
          refine WL.faEN (T := Ty) (off' := 0) rfl rfl rfl rfl rfl rfl rfl ?_
          refine WL.ldR (T := Ty) rfl rfl rfl rfl (by first | assumption | exact ROs.wide (by assumption)) (by assumption) ?_
          refine WL.eql rfl rfl rfl (WL.mv rfl rfl (WL.gT rfl rfl (by omega) (WL.mv rfl rfl (WL.gT rfl rfl (by omega) (WL.mv rfl rfl (WL.gT rfl rfl (by omega) ?_))))))
          refine WL.ix (T := Ty) rfl rfl rfl (by assumption) rfl rfl (by omega) (by first | omega | decide +kernel) ?_
          refine WL.gT rfl rfl (by omega) (WL.faEN (T := Ty) (off' := 1) rfl rfl rfl rfl rfl rfl rfl (WL.gT rfl rfl (by omega) ?_))
          refine WL.ldR (T := Ty) rfl rfl rfl rfl (by first | assumption | exact ROs.wide (by assumption)) (by assumption) ?_
          refine WL.gT rfl rfl (by omega) (WL.mv rfl rfl (WL.gT rfl rfl (by omega) (WL.eql rfl rfl rfl (WL.pickTp rfl rfl (by omega) rfl (WL.mv rfl rfl (WL.gT rfl rfl (by omega) (WL.mv rfl rfl (WL.gT rfl rfl (by omega) (WL.mv rfl rfl (WL.gT rfl rfl (by omega) ?_))))))))))
          refine WL.ix (T := Ty) rfl rfl rfl (by assumption) rfl rfl (by omega) (by first | omega | decide +kernel) ?_
          refine WL.gT rfl rfl (by omega) (WL.faEN (T := Ty) (off' := 2) rfl rfl rfl rfl rfl rfl rfl (WL.gT rfl rfl (by omega) ?_))
          refine WL.ldR (T := Ty) rfl rfl rfl rfl (by first | assumption | exact ROs.wide (by assumption)) (by assumption) ?_
          refine WL.gT rfl rfl (by omega) (WL.mv rfl rfl (WL.gT rfl rfl (by omega) (WL.eql rfl rfl rfl (WL.pickTp rfl rfl (by omega) rfl (WL.nil (W.condpF rfl (by omega) (W.skip (W.inBlock (W.region (WL.mv rfl rfl (WL.addK rfl rfl rfl (wrap_i64 ⟨by omega, by omega⟩) (WL.as rfl rfl (WL.nil ?_)))))))))))))
          refine W.fit (Hs' := []) (by (repeat' first | exact Sel.nil | apply Sel.k | exact Pick.h | apply Pick.t)) (W.sub ?_ (next (i + 1) ρ1 (Le.refl _) ⟨hc, no (fun h => hnn (congrArg Prod.snd h.2))⟩ (by omega)))
          exact ⟨rfl, rfl, rfl, rfl, trivial⟩
      · refine W.seq ?_
        refine W.seq (W.region (WL.mv rfl rfl (WL.mv rfl rfl ?_)))
        refine WL.len (T := Ty) rfl rfl (by assumption) rfl ?_
        refine WL.lss rfl rfl rfl (WL.nil (W.condpT rfl (by omega) (W.skip (W.seq (W.block (W.seq (W.region (WL.mv rfl rfl (WL.mv rfl rfl ?_)))))))))
        refine WL.ix (T := Ty) rfl rfl rfl (by assumption) rfl rfl (by omega) (by first | omega | decide +kernel) ?_
        refine WL.faEN (T := Ty) (off' := 0) rfl rfl rfl rfl rfl rfl rfl ?_
        refine WL.ldR (T := Ty) rfl rfl rfl rfl (by first | assumption | exact ROs.wide (by assumption)) (by assumption) ?_
        refine WL.eql rfl rfl rfl (WL.mv rfl rfl (WL.gT rfl rfl (by omega) (WL.mv rfl rfl (WL.gT rfl rfl (by omega) (WL.mv rfl rfl (WL.gT rfl rfl (by omega) ?_))))))
        refine WL.ix (T := Ty) rfl rfl rfl (by assumption) rfl rfl (by omega) (by first | omega | decide +kernel) ?_
        refine WL.gT rfl rfl (by omega) (WL.faEN (T := Ty) (off' := 1) rfl rfl rfl rfl rfl rfl rfl (WL.gT rfl rfl (by omega) ?_))
        refine WL.ldR (T := Ty) rfl rfl rfl rfl (by first | assumption | exact ROs.wide (by assumption)) (by assumption) ?_
        refine WL.gT rfl rfl (by omega) (WL.mv rfl rfl (WL.gT rfl rfl (by omega) (WL.eql rfl rfl rfl (WL.pickTp rfl rfl (by omega) rfl (WL.mv rfl rfl (WL.gdTn rfl rfl rfl rfl rfl (by omega) (WL.gdTn rfl rfl rfl rfl rfl (by omega) (WL.gdTn rfl rfl rfl rfl rfl (by omega) (WL.gdTn rfl rfl rfl rfl rfl (by omega) (WL.gdTn rfl rfl rfl rfl rfl (by omega) (WL.gdTn rfl rfl rfl rfl rfl (by omega) (WL.gdTn rfl rfl rfl rfl rfl (by omega) (WL.pickFp rfl rfl (by omega) rfl ?_)))))))))))))
        refine WL.nil (W.condF rfl (W.skip (W.inBlock (W.region (WL.mv rfl rfl (WL.addK rfl rfl rfl (wrap_i64 ⟨by omega, by omega⟩) (WL.as rfl rfl (WL.nil ?_))))))))
        refine W.fit (Hs' := []) (by (repeat' first | exact Sel.nil | apply Sel.k | exact Pick.h | apply Pick.t)) (W.sub ?_ (next (i + 1) ρ1 (Le.refl _) ⟨hc, no (fun h => hw (congrArg Prod.fst h.2))⟩ (by omega)))
        exact ⟨rfl, rfl, rfl, rfl, trivial⟩
    · refine W.seq ?_
      refine W.seq (W.region (WL.mv rfl rfl (WL.mv rfl rfl ?_)))
      refine WL.len (T := Ty) rfl rfl (by assumption) rfl ?_
      refine WL.lss rfl rfl rfl (WL.nil (W.condpT rfl (by omega) (W.skip (W.seq (W.block (W.seq (W.region (WL.mv rfl rfl (WL.mv rfl rfl ?_)))))))))
      refine WL.ix (T := Ty) rfl rfl rfl (by assumption) rfl rfl (by omega) (by first | omega | decide +kernel) ?_
      refine WL.faEN (T := Ty) (off' := 0) rfl rfl rfl rfl rfl rfl rfl ?_
      refine WL.ldR (T := Ty) rfl rfl rfl rfl (by first | assumption | exact ROs.wide (by assumption)) (by assumption) ?_
      refine WL.eql rfl rfl rfl (WL.mv rfl rfl (WL.gdTn rfl rfl rfl rfl rfl (by omega) (WL.gdTn rfl rfl rfl rfl rfl (by omega) (WL.gdTn rfl rfl rfl rfl rfl (by omega) (WL.gdTn rfl rfl rfl rfl rfl (by omega) (WL.gdTn rfl rfl rfl rfl rfl (by omega) (WL.gdTn rfl rfl rfl rfl rfl (by omega) (WL.gdTn rfl rfl rfl rfl rfl (by omega) (WL.pickFp rfl rfl (by omega) rfl (WL.mv rfl rfl (WL.gdN rfl rfl rfl rfl rfl rfl (WL.gdN rfl rfl rfl rfl rfl rfl (WL.gdN rfl rfl rfl rfl rfl rfl ?_)))))))))))))
      refine WL.gdN rfl rfl rfl rfl rfl rfl (WL.gdN rfl rfl rfl rfl rfl rfl (WL.gdN rfl rfl rfl rfl rfl rfl (WL.gdN rfl rfl rfl rfl rfl rfl (WL.pickF rfl rfl rfl (WL.nil (W.condF rfl (W.skip (W.inBlock (W.region (WL.mv rfl rfl (WL.addK rfl rfl rfl (wrap_i64 ⟨by omega, by omega⟩) (WL.as rfl rfl (WL.nil ?_)))))))))))))
      refine W.fit (Hs' := []) (by (repeat' first | exact Sel.nil | apply Sel.k | exact Pick.h | apply Pick.t)) (W.sub ?_ (next (i + 1) ρ1 (Le.refl _) ⟨hc, no (fun h => hk h.1)⟩ (by omega)))
      exact ⟨rfl, rfl, rfl, rfl, trivial⟩
  · have hiL : i = L.length := by omega
    subst hiL
    refine W.seq (W.seq (W.region (WL.mv rfl rfl (WL.mv rfl rfl ?_))))
    refine WL.len (T := Ty) rfl rfl (by assumption) rfl ?_
    refine WL.lss rfl rfl rfl (WL.nil (W.condpF rfl (by omega) (W.exit rfl (W.seq (W.region (WL.as rfl rfl (WL.nil ?_)))))))
    exact W.ret1 rfl rfl (fun h q => by rw [hn]; exact ⟨rfl, q⟩)
theorem rreply_c (ρ : Hp) (v : Value) (L : List (Evt × Value)) (who n : Int) (r0 : ROs ρ 14 v (L.flatMap evC)) (hl : L.length ≤ 1000) :
    Fn Try.prog 65 #[v, .int .i64 who, .int .i64 n] ρ [] (Just (.int .i64 (ixV (rix L L.length (who, n))))) := by
  have s0 : SL v L.length := r0.sl (evs_cells L) (by omega)
  refine in65 rfl rfl ?_
  refine W.seq (W.region (WL.as rfl rfl (WL.nil (W.seq (W.seq (W.region (WL.as rfl rfl (WL.nil (W.block ?_)))))))))
  refine W.loopR (σ := Nat) (fun i => [(0, v), (1, .int .i64 who), (2, .int .i64 n), (7, .int .i64 (i : Int))]) (fun i => []) (fun i ρ' => i ≤ L.length ∧ rix L i (who, n) = none) (fun i => L.length - i)
    0 ⟨rfl, rfl, rfl, rfl, trivial⟩ rfl ⟨Nat.zero_le _, by unfold rix; rfl⟩ ?_
  rintro i ρ1 le1 ⟨hi, hn⟩ next
  replace r0 := r0.mono le1
  by_cases hc : i < L.length
  · obtain ⟨⟨e, w⟩, he⟩ : ∃ e, L[i]? = some e := ⟨_, List.getElem?_eq_getElem hc⟩
    have l1 := evs_cells L
    have g0 : (L.flatMap evC)[((i : Nat) : Int).toNat * 14 + 0]? = some (.int .i64 e.kind) := flat_get ev_len he rfl
    have g1 : (L.flatMap evC)[((i : Nat) : Int).toNat * 14 + 1]? = some (.int .i64 e.who) := flat_get ev_len he rfl
    have g2 : (L.flatMap evC)[((i : Nat) : Int).toNat * 14 + 2]? = some (.int .i64 e.n) := flat_get ev_len he rfl
    have no : ∀ (h : ¬(e.kind = 2 ∧ (e.who, e.n) = (who, n))), rix L (i + 1) (who, n) = none := fun h => rix_step hn he h
    by_cases hk : e.kind = 2
    · by_cases hw : e.who = who
      · by_cases hnn : e.n = n
        · have hit := rix_hit (n := 0) hn he ⟨hk, by rw [hw, hnn]⟩ (L.length - (i + 1))
          rw [show i + 1 + (L.length - (i + 1)) = L.length by omega] at hit
          refine W.seq (W.seq (W.region (WL.mv rfl rfl (WL.mv rfl rfl ?_))))
          refine WL.len (T := Ty) rfl rfl (by assumption) rfl ?_
          refine WL.lss rfl rfl rfl (WL.nil (W.condpT rfl (by omega) (W.skip (W.seq (W.block (W.seq (W.region (WL.mv rfl rfl (WL.mv rfl rfl ?_)))))))))
          refine WL.ix (T := Ty) rfl rfl rfl (by assumption) rfl rfl (by omega) (by first | omega | decide +kernel) ?_
          refine WL.faEN (T := Ty) (off' := 0) rfl rfl rfl rfl rfl rfl rfl ?_
          refine WL.ldR (T := Ty) rfl rfl rfl rfl (by first | assumption | exact ROs.wide (by assumption)) (by assumption) ?_
          refine WL.eql rfl rfl rfl (WL.mv rfl rfl (WL.gT rfl rfl (by omega) (WL.mv rfl rfl (WL.gT rfl rfl (by omega) (WL.mv rfl rfl (WL.gT rfl rfl (by omega) ?_))))))
          refine WL.ix (T := Ty) rfl rfl rfl (by assumption) rfl rfl (by omega) (by first | omega | decide +kernel) ?_
          refine WL.gT rfl rfl (by omega) (WL.faEN (T := Ty) (off' := 1) rfl rfl rfl rfl rfl rfl rfl (WL.gT rfl rfl (by omega) ?_))
          refine WL.ldR (T := Ty) rfl rfl rfl rfl (by first | assumption | exact ROs.wide (by assumption)) (by assumption) ?_
          refine WL.gT rfl rfl (by omega) (WL.mv rfl rfl (WL.gT rfl rfl (by omega) (WL.eql rfl rfl rfl (WL.pickTp rfl rfl (by omega) rfl (WL.mv rfl rfl (WL.gT rfl rfl (by omega) (WL.mv rfl rfl (WL.gT rfl rfl (by omega) (WL.mv rfl rfl (WL.gT rfl rfl (by omega) ?_))))))))))
          refine WL.ix (T := Ty) rfl rfl rfl (by assumption) rfl rfl (by omega) (by first | omega | decide +kernel) ?_
          refine WL.gT rfl rfl (by omega) (WL.faEN (T := Ty) (off' := 2) rfl rfl rfl rfl rfl rfl rfl (WL.gT rfl rfl (by omega) ?_))
          refine WL.ldR (T := Ty) rfl rfl rfl rfl (by first | assumption | exact ROs.wide (by assumption)) (by assumption) ?_
          refine WL.gT rfl rfl (by omega) (WL.mv rfl rfl (WL.gT rfl rfl (by omega) (WL.eql rfl rfl rfl (WL.pickTp rfl rfl (by omega) rfl (WL.nil (W.condpT rfl (by omega) (W.seq (W.region (WL.mv rfl rfl (WL.as rfl rfl (WL.nil ?_)))))))))))
          exact W.ret1 rfl rfl (fun h q => by rw [hit]; exact ⟨rfl, q⟩)
        · refine W.seq ?_
          refine W.seq (W.region (WL.mv rfl rfl (WL.mv rfl rfl ?_)))
          refine WL.len (T := Ty) rfl rfl (by assumption) rfl ?_
          refine WL.lss rfl rfl rfl (WL.nil (W.condpT rfl (by omega) (W.skip (W.seq (W.block (W.seq (W.region (WL.mv rfl rfl (WL.mv rfl rfl ?_)))))))))
          refine WL.ix (T := Ty) rfl rfl rfl (by assumption) rfl rfl (by omega) (by first | omega | decide +kernel) ?_
          refine WL.faEN (T := Ty) (off' := 0) rfl rfl rfl rfl rfl rfl rfl ?_
          refine WL.ldR (T := Ty) rfl rfl rfl rfl (by first | assumption | exact ROs.wide (by assumption)) (by assumption) ?_
          refine WL.eql rfl rfl rfl (WL.mv rfl rfl (WL.gT rfl rfl (by omega) (WL.mv rfl rfl (WL.gT rfl rfl (by omega) (WL.mv rfl rfl (WL.gT rfl rfl (by omega) ?_))))))
          refine WL.ix (T := Ty) rfl rfl rfl (by assumption) rfl rfl (by omega) (by first | omega | decide +kernel) ?_
          refine WL.gT rfl rfl (by omega) (WL.faEN (T := Ty) (off' := 1) rfl rfl rfl rfl rfl rfl rfl (WL.gT rfl rfl (by omega) ?_))
          refine WL.ldR (T := Ty) rfl rfl rfl rfl (by first | assumption | exact ROs.wide (by assumption)) (by assumption) ?_
          refine WL.gT rfl rfl (by omega) (WL.mv rfl rfl (WL.gT rfl rfl (by omega) (WL.eql rfl rfl rfl (WL.pickTp rfl rfl (by omega) rfl (WL.mv rfl rfl (WL.gT rfl rfl (by omega) (WL.mv rfl rfl (WL.gT rfl rfl (by omega) (WL.mv rfl rfl (WL.gT rfl rfl (by omega) ?_))))))))))
          refine WL.ix (T := Ty) rfl rfl rfl (by assumption) rfl rfl (by omega) (by first | omega | decide +kernel) ?_
          refine WL.gT rfl rfl (by omega) (WL.faEN (T := Ty) (off' := 2) rfl rfl rfl rfl rfl rfl rfl (WL.gT rfl rfl (by omega) ?_))
          refine WL.ldR (T := Ty) rfl rfl rfl rfl (by first | assumption | exact ROs.wide (by assumption)) (by assumption) ?_
          refine WL.gT rfl rfl (by omega) (WL.mv rfl rfl (WL.gT rfl rfl (by omega) (WL.eql rfl rfl rfl (WL.pickTp rfl rfl (by omega) rfl (WL.nil (W.condpF rfl (by omega) (W.skip (W.inBlock (W.region (WL.mv rfl rfl (WL.addK rfl rfl rfl (wrap_i64 ⟨by omega, by omega⟩) (WL.as rfl rfl (WL.nil ?_)))))))))))))
          refine W.fit (Hs' := []) (by (repeat' first | exact Sel.nil | apply Sel.k | exact Pick.h | apply Pick.t)) (W.sub ?_ (next (i + 1) ρ1 (Le.refl _) ⟨hc, no (fun h => hnn (congrArg Prod.snd h.2))⟩ (by omega)))
          exact ⟨rfl, rfl, rfl, rfl, trivial⟩
      · refine W.seq ?_
        refine W.seq (W.region (WL.mv rfl rfl (WL.mv rfl rfl ?_)))
        refine WL.len (T := Ty) rfl rfl (by assumption) rfl ?_
        refine WL.lss rfl rfl rfl (WL.nil (W.condpT rfl (by omega) (W.skip (W.seq (W.block (W.seq (W.region (WL.mv rfl rfl (WL.mv rfl rfl ?_)))))))))
        refine WL.ix (T := Ty) rfl rfl rfl (by assumption) rfl rfl (by omega) (by first | omega | decide +kernel) ?_
        refine WL.faEN (T := Ty) (off' := 0) rfl rfl rfl rfl rfl rfl rfl ?_
        refine WL.ldR (T := Ty) rfl rfl rfl rfl (by first | assumption | exact ROs.wide (by assumption)) (by assumption) ?_
        refine WL.eql rfl rfl rfl (WL.mv rfl rfl (WL.gT rfl rfl (by omega) (WL.mv rfl rfl (WL.gT rfl rfl (by omega) (WL.mv rfl rfl (WL.gT rfl rfl (by omega) ?_))))))
        refine WL.ix (T := Ty) rfl rfl rfl (by assumption) rfl rfl (by omega) (by first | omega | decide +kernel) ?_
        refine WL.gT rfl rfl (by omega) (WL.faEN (T := Ty) (off' := 1) rfl rfl rfl rfl rfl rfl rfl (WL.gT rfl rfl (by omega) ?_))
        refine WL.ldR (T := Ty) rfl rfl rfl rfl (by first | assumption | exact ROs.wide (by assumption)) (by assumption) ?_
        refine WL.gT rfl rfl (by omega) (WL.mv rfl rfl (WL.gT rfl rfl (by omega) (WL.eql rfl rfl rfl (WL.pickTp rfl rfl (by omega) rfl (WL.mv rfl rfl (WL.gdTn rfl rfl rfl rfl rfl (by omega) (WL.gdTn rfl rfl rfl rfl rfl (by omega) (WL.gdTn rfl rfl rfl rfl rfl (by omega) (WL.gdTn rfl rfl rfl rfl rfl (by omega) (WL.gdTn rfl rfl rfl rfl rfl (by omega) (WL.gdTn rfl rfl rfl rfl rfl (by omega) (WL.gdTn rfl rfl rfl rfl rfl (by omega) (WL.pickFp rfl rfl (by omega) rfl ?_)))))))))))))
        refine WL.nil (W.condF rfl (W.skip (W.inBlock (W.region (WL.mv rfl rfl (WL.addK rfl rfl rfl (wrap_i64 ⟨by omega, by omega⟩) (WL.as rfl rfl (WL.nil ?_))))))))
        refine W.fit (Hs' := []) (by (repeat' first | exact Sel.nil | apply Sel.k | exact Pick.h | apply Pick.t)) (W.sub ?_ (next (i + 1) ρ1 (Le.refl _) ⟨hc, no (fun h => hw (congrArg Prod.fst h.2))⟩ (by omega)))
        exact ⟨rfl, rfl, rfl, rfl, trivial⟩
    · refine W.seq ?_
      refine W.seq (W.region (WL.mv rfl rfl (WL.mv rfl rfl ?_)))
      refine WL.len (T := Ty) rfl rfl (by assumption) rfl ?_
      refine WL.lss rfl rfl rfl (WL.nil (W.condpT rfl (by omega) (W.skip (W.seq (W.block (W.seq (W.region (WL.mv rfl rfl (WL.mv rfl rfl ?_)))))))))
      refine WL.ix (T := Ty) rfl rfl rfl (by assumption) rfl rfl (by omega) (by first | omega | decide +kernel) ?_
      refine WL.faEN (T := Ty) (off' := 0) rfl rfl rfl rfl rfl rfl rfl ?_
      refine WL.ldR (T := Ty) rfl rfl rfl rfl (by first | assumption | exact ROs.wide (by assumption)) (by assumption) ?_
      refine WL.eql rfl rfl rfl (WL.mv rfl rfl (WL.gdTn rfl rfl rfl rfl rfl (by omega) (WL.gdTn rfl rfl rfl rfl rfl (by omega) (WL.gdTn rfl rfl rfl rfl rfl (by omega) (WL.gdTn rfl rfl rfl rfl rfl (by omega) (WL.gdTn rfl rfl rfl rfl rfl (by omega) (WL.gdTn rfl rfl rfl rfl rfl (by omega) (WL.gdTn rfl rfl rfl rfl rfl (by omega) (WL.pickFp rfl rfl (by omega) rfl (WL.mv rfl rfl (WL.gdN rfl rfl rfl rfl rfl rfl (WL.gdN rfl rfl rfl rfl rfl rfl (WL.gdN rfl rfl rfl rfl rfl rfl ?_)))))))))))))
      refine WL.gdN rfl rfl rfl rfl rfl rfl (WL.gdN rfl rfl rfl rfl rfl rfl (WL.gdN rfl rfl rfl rfl rfl rfl (WL.gdN rfl rfl rfl rfl rfl rfl (WL.pickF rfl rfl rfl (WL.nil (W.condF rfl (W.skip (W.inBlock (W.region (WL.mv rfl rfl (WL.addK rfl rfl rfl (wrap_i64 ⟨by omega, by omega⟩) (WL.as rfl rfl (WL.nil ?_)))))))))))))
      refine W.fit (Hs' := []) (by (repeat' first | exact Sel.nil | apply Sel.k | exact Pick.h | apply Pick.t)) (W.sub ?_ (next (i + 1) ρ1 (Le.refl _) ⟨hc, no (fun h => hk h.1)⟩ (by omega)))
      exact ⟨rfl, rfl, rfl, rfl, trivial⟩
  · have hiL : i = L.length := by omega
    subst hiL
    refine W.seq (W.seq (W.region (WL.mv rfl rfl (WL.mv rfl rfl ?_))))
    refine WL.len (T := Ty) rfl rfl (by assumption) rfl ?_
    refine WL.lss rfl rfl rfl (WL.nil (W.condpF rfl (by omega) (W.exit rfl (W.seq (W.region (WL.as rfl rfl (WL.nil ?_)))))))
    exact W.ret1 rfl rfl (fun h q => by rw [hn]; exact ⟨rfl, q⟩)
theorem rpoint_c (ρ : Hp) (v : Value) (L : List PK) (who n : Int) (r0 : ROs ρ 2 v (L.flatMap (twoC .i64 .i64))) (hl : L.length ≤ 1000) :
    Fn Try.prog 64 #[v, .int .i64 who, .int .i64 n] ρ [] (Just (.int .i64 (ixV (pix L L.length (who, n))))) := by
  have s0 : SL v L.length := r0.sl (two_len (k0 := .i64) (k1 := .i64) L) (by omega)
  refine in64 rfl rfl ?_
  refine W.seq (W.region (WL.as rfl rfl (WL.nil (W.seq (W.seq (W.region (WL.as rfl rfl (WL.nil (W.block ?_)))))))))
  refine W.loopR (σ := Nat) (fun i => [(0, v), (1, .int .i64 who), (2, .int .i64 n), (7, .int .i64 (i : Int))]) (fun i => []) (fun i ρ' => i ≤ L.length ∧ pix L i (who, n) = none) (fun i => L.length - i)
    0 ⟨rfl, rfl, rfl, rfl, trivial⟩ rfl ⟨Nat.zero_le _, by unfold pix; rfl⟩ ?_
  rintro i ρ1 le1 ⟨hi, hn⟩ next
  replace r0 := r0.mono le1
  by_cases hc : i < L.length
  · obtain ⟨e, he⟩ : ∃ e, L[i]? = some e := ⟨_, List.getElem?_eq_getElem hc⟩
    have l1 := two_len (k0 := .i64) (k1 := .i64) L
    have g0 : (L.flatMap (twoC .i64 .i64))[((i : Nat) : Int).toNat * 2 + 0]? = some (.int .i64 e.1) := flat_get (k := 2) (fun _ => rfl) he rfl
    have g1 : (L.flatMap (twoC .i64 .i64))[((i : Nat) : Int).toNat * 2 + 1]? = some (.int .i64 e.2) := flat_get (k := 2) (fun _ => rfl) he rfl
    have no : ∀ (h : ¬(e = (who, n))), pix L (i + 1) (who, n) = none := fun h => pix_step hn he h
    by_cases hw : e.1 = who
    · by_cases hnn : e.2 = n
      · have hit := pix_hit (n := 0) hn he (show e = (who, n) by rw [← hw, ← hnn]) (L.length - (i + 1))
        rw [show i + 1 + (L.length - (i + 1)) = L.length by omega] at hit
        refine W.seq (W.seq (W.region (WL.mv rfl rfl (WL.mv rfl rfl ?_))))
        refine WL.len (T := Ty) rfl rfl (by assumption) rfl ?_
        refine WL.lss rfl rfl rfl (WL.nil (W.condpT rfl (by omega) (W.skip (W.seq (W.block (W.seq (W.region (WL.mv rfl rfl (WL.mv rfl rfl ?_)))))))))
        refine WL.ix (T := Ty) rfl rfl rfl (by assumption) rfl rfl (by omega) (by first | omega | decide +kernel) ?_
        refine WL.faEN (T := Ty) (off' := 0) rfl rfl rfl rfl rfl rfl rfl ?_
        refine WL.ldR (T := Ty) rfl rfl rfl rfl (by first | assumption | exact ROs.wide (by assumption)) (by assumption) ?_
        refine WL.mv rfl rfl (WL.eql rfl rfl rfl (WL.mv rfl rfl (WL.gT rfl rfl (by omega) (WL.mv rfl rfl (WL.gT rfl rfl (by omega) (WL.mv rfl rfl (WL.gT rfl rfl (by omega) ?_)))))))
        refine WL.ix (T := Ty) rfl rfl rfl (by assumption) rfl rfl (by omega) (by first | omega | decide +kernel) ?_
        refine WL.gT rfl rfl (by omega) (WL.faEN (T := Ty) (off' := 1) rfl rfl rfl rfl rfl rfl rfl (WL.gT rfl rfl (by omega) ?_))
        refine WL.ldR (T := Ty) rfl rfl rfl rfl (by first | assumption | exact ROs.wide (by assumption)) (by assumption) ?_
        refine WL.gT rfl rfl (by omega) (WL.mv rfl rfl (WL.gT rfl rfl (by omega) (WL.eql rfl rfl rfl (WL.pickTp rfl rfl (by omega) rfl (WL.nil (W.condpT rfl (by omega) (W.seq (W.region (WL.mv rfl rfl (WL.as rfl rfl (WL.nil ?_)))))))))))
        exact W.ret1 rfl rfl (fun h q => by rw [hit]; exact ⟨rfl, q⟩)
      · refine W.seq ?_
        refine W.seq (W.region (WL.mv rfl rfl (WL.mv rfl rfl ?_)))
        refine WL.len (T := Ty) rfl rfl (by assumption) rfl ?_
        refine WL.lss rfl rfl rfl (WL.nil (W.condpT rfl (by omega) (W.skip (W.seq (W.block (W.seq (W.region (WL.mv rfl rfl (WL.mv rfl rfl ?_)))))))))
        refine WL.ix (T := Ty) rfl rfl rfl (by assumption) rfl rfl (by omega) (by first | omega | decide +kernel) ?_
        refine WL.faEN (T := Ty) (off' := 0) rfl rfl rfl rfl rfl rfl rfl ?_
        refine WL.ldR (T := Ty) rfl rfl rfl rfl (by first | assumption | exact ROs.wide (by assumption)) (by assumption) ?_
        refine WL.mv rfl rfl (WL.eql rfl rfl rfl (WL.mv rfl rfl (WL.gT rfl rfl (by omega) (WL.mv rfl rfl (WL.gT rfl rfl (by omega) (WL.mv rfl rfl (WL.gT rfl rfl (by omega) ?_)))))))
        refine WL.ix (T := Ty) rfl rfl rfl (by assumption) rfl rfl (by omega) (by first | omega | decide +kernel) ?_
        refine WL.gT rfl rfl (by omega) (WL.faEN (T := Ty) (off' := 1) rfl rfl rfl rfl rfl rfl rfl (WL.gT rfl rfl (by omega) ?_))
        refine WL.ldR (T := Ty) rfl rfl rfl rfl (by first | assumption | exact ROs.wide (by assumption)) (by assumption) ?_
        refine WL.gT rfl rfl (by omega) (WL.mv rfl rfl (WL.gT rfl rfl (by omega) (WL.eql rfl rfl rfl (WL.pickTp rfl rfl (by omega) rfl (WL.nil (W.condpF rfl (by omega) (W.skip (W.inBlock (W.region (WL.mv rfl rfl (WL.addK rfl rfl rfl (wrap_i64 ⟨by omega, by omega⟩) (WL.as rfl rfl (WL.nil ?_)))))))))))))
        refine W.fit (Hs' := []) (by (repeat' first | exact Sel.nil | apply Sel.k | exact Pick.h | apply Pick.t)) (W.sub ?_ (next (i + 1) ρ1 (Le.refl _) ⟨hc, no (fun h => hnn (congrArg Prod.snd h))⟩ (by omega)))
        exact ⟨rfl, rfl, rfl, rfl, trivial⟩
    · refine W.seq ?_
      refine W.seq (W.region (WL.mv rfl rfl (WL.mv rfl rfl ?_)))
      refine WL.len (T := Ty) rfl rfl (by assumption) rfl ?_
      refine WL.lss rfl rfl rfl (WL.nil (W.condpT rfl (by omega) (W.skip (W.seq (W.block (W.seq (W.region (WL.mv rfl rfl (WL.mv rfl rfl ?_)))))))))
      refine WL.ix (T := Ty) rfl rfl rfl (by assumption) rfl rfl (by omega) (by first | omega | decide +kernel) ?_
      refine WL.faEN (T := Ty) (off' := 0) rfl rfl rfl rfl rfl rfl rfl ?_
      refine WL.ldR (T := Ty) rfl rfl rfl rfl (by first | assumption | exact ROs.wide (by assumption)) (by assumption) ?_
      refine WL.mv rfl rfl (WL.eql rfl rfl rfl (WL.mv rfl rfl (WL.gdTn rfl rfl rfl rfl rfl (by omega) (WL.gdTn rfl rfl rfl rfl rfl (by omega) (WL.gdTn rfl rfl rfl rfl rfl (by omega) (WL.gdTn rfl rfl rfl rfl rfl (by omega) (WL.gdTn rfl rfl rfl rfl rfl (by omega) (WL.gdTn rfl rfl rfl rfl rfl (by omega) (WL.gdTn rfl rfl rfl rfl rfl (by omega) (WL.pickFp rfl rfl (by omega) rfl (WL.nil (W.condF rfl (W.skip ?_)))))))))))))
      refine W.inBlock (W.region (WL.mv rfl rfl (WL.addK rfl rfl rfl (wrap_i64 ⟨by omega, by omega⟩) (WL.as rfl rfl (WL.nil ?_)))))
      refine W.fit (Hs' := []) (by (repeat' first | exact Sel.nil | apply Sel.k | exact Pick.h | apply Pick.t)) (W.sub ?_ (next (i + 1) ρ1 (Le.refl _) ⟨hc, no (fun h => hw (congrArg Prod.fst h))⟩ (by omega)))
      exact ⟨rfl, rfl, rfl, rfl, trivial⟩
  · have hiL : i = L.length := by omega
    subst hiL
    refine W.seq (W.seq (W.region (WL.mv rfl rfl (WL.mv rfl rfl ?_))))
    refine WL.len (T := Ty) rfl rfl (by assumption) rfl ?_
    refine WL.lss rfl rfl rfl (WL.nil (W.condpF rfl (by omega) (W.exit rfl (W.seq (W.region (WL.as rfl rfl (WL.nil ?_)))))))
    exact W.ret1 rfl rfl (fun h q => by rw [hn]; exact ⟨rfl, q⟩)
theorem rcall_s (ρ : Hp) (v : Value) (L : List (Evt × Value)) (who n : Int) (c : Nat) (r0 : ROs ρ 14 v (L.flatMap evC)) (hl : L.length ≤ 1000) (h : cix L L.length (who, n) = some c) :
  Fn Try.prog 61 #[v, .int .i64 who, .int .i64 n] ρ [] (Just (.int .i64 (c : Int))) := Fn.val (by rw [h]; rfl) (rcall_c ρ v L who n r0 hl)
theorem rcall_n (ρ : Hp) (v : Value) (L : List (Evt × Value)) (who n : Int) (r0 : ROs ρ 14 v (L.flatMap evC)) (hl : L.length ≤ 1000) (h : cix L L.length (who, n) = none) :
  Fn Try.prog 61 #[v, .int .i64 who, .int .i64 n] ρ [] (Just (.int .i64 (-1))) := Fn.val (by rw [h]; rfl) (rcall_c ρ v L who n r0 hl)
theorem rreply_s (ρ : Hp) (v : Value) (L : List (Evt × Value)) (who n : Int) (c : Nat) (r0 : ROs ρ 14 v (L.flatMap evC)) (hl : L.length ≤ 1000) (h : rix L L.length (who, n) = some c) :
  Fn Try.prog 65 #[v, .int .i64 who, .int .i64 n] ρ [] (Just (.int .i64 (c : Int))) := Fn.val (by rw [h]; rfl) (rreply_c ρ v L who n r0 hl)
theorem rreply_n (ρ : Hp) (v : Value) (L : List (Evt × Value)) (who n : Int) (r0 : ROs ρ 14 v (L.flatMap evC)) (hl : L.length ≤ 1000) (h : rix L L.length (who, n) = none) :
  Fn Try.prog 65 #[v, .int .i64 who, .int .i64 n] ρ [] (Just (.int .i64 (-1))) := Fn.val (by rw [h]; rfl) (rreply_c ρ v L who n r0 hl)
theorem rpoint_s (ρ : Hp) (v : Value) (L : List PK) (who n : Int) (c : Nat) (r0 : ROs ρ 2 v (L.flatMap (twoC .i64 .i64))) (hl : L.length ≤ 1000) (h : pix L L.length (who, n) = some c) :
  Fn Try.prog 64 #[v, .int .i64 who, .int .i64 n] ρ [] (Just (.int .i64 (c : Int))) := Fn.val (by rw [h]; rfl) (rpoint_c ρ v L who n r0 hl)
end Go.Proofs.Ytbebhmdjnneimaa
