/- One hand alone, as the document has it: copies, spans, where a series or an iterator stands. -/
import Derived.Test.YtbebhmdjnneimaaStc
import Derived.Test.YtbebhmdjnneimaaNum
import Derived.Test.YtbebhmdjnneimaaTab
import Derived.Test.YtbebhmdjnneimaaModl7
import Derived.Test.YtbebhmdjnneimaaModl3
set_option linter.unusedSimpArgs false
set_option linter.unusedVariables false
set_option maxRecDepth 20000
set_option maxHeartbeats 4000000
namespace Go.Proofs.Ytbebhmdjnneimaa
open Go
attribute [local irreducible] W WL Fn Buf ROs SL eptr box Rd Src bndOK WD RB Reads In Own
theorem ownR_c (ρ : Hp) (v : Value) (l : List Smp) (hv : ROs ρ 2 v (l.flatMap smC)) (hb : l.length ≤ 100000000) :
  Fn Try.prog 53 #[v] ρ [] (fun r => Buf 2 r (l.flatMap smC)) := by
 refine in53 rfl rfl ?_
 have sv : SL v l.length := hv.sl (sms_cells l) (by omega)
 have hl := sms_cells l
 have h1 := sm_one l
 refine W.seq (W.region (WL.as rfl rfl (WL.nil (W.seq (W.region ?_)))))
 refine WL.bsC (T := Ty) rfl rfl rfl rfl rfl rfl rfl (by repeat' first | exact CO.nil | apply CO.one (by first | rfl | exact SL.one (by assumption)) | apply CO.agg) rfl (by repeat' constructor) (fun u0 hu0 => ?_)
 refine WL.mv rfl rfl ?_
 refine WL.ap (T := Ty) (i := 0) (n := 0) rfl rfl rfl rfl rfl rfl rfl rfl (by first | exact .ro (by assumption) | exact .ro (ROs.wide (by assumption)) | exact .eqJ 0 rfl (by assumption) | exact .own 0 rfl | exact .own 1 rfl | exact .own 2 rfl | exact .own 3 rfl | exact .own 4 rfl | exact .own 5 rfl) (by first | assumption | exact ROs.slm (by assumption)) rfl (by assumption) (by assumption) (by first | omega | (simp; omega)) (by unfold maxLen; omega) (fun v' => (by repeat' constructor)) (fun u1 hu1 => ?_)
 refine WL.as rfl rfl (WL.nil ?_)
 exact W.fit (by (repeat' first | exact Sel.nil | refine Sel.cons 0 rfl ?_ | refine Sel.cons 1 rfl ?_ | refine Sel.cons 2 rfl ?_ | refine Sel.cons 3 rfl ?_ | refine Sel.cons 4 rfl ?_ | refine Sel.cons 5 rfl ?_ | refine Sel.cons 6 rfl ?_ | refine Sel.cons 7 rfl ?_ | refine Sel.cons 8 rfl ?_)) (W.ret1 rfl rfl (fun h p => sepl_one.1 p))
theorem rwithin_c (ρ : Hp) (v : Value) (l : List Smp) (f t : Int) (hv : ROs ρ 2 v (l.flatMap smC)) (hb : l.length ≤ 100000000) :
    Fn Try.prog 54 #[v, .int .i64 f, .int .i64 t] ρ [] (fun r => Buf 2 r ((within l f t).flatMap smC)) := by
  refine in54 rfl rfl ?_
  have sv : SL v l.length := hv.sl (sms_cells l) (by omega)
  refine W.seq (W.region (WL.as rfl rfl (WL.nil (W.seq (W.region (WL.as rfl rfl (WL.nil (W.seq (W.seq (W.region (WL.as rfl rfl (WL.nil (W.block ?_)))))))))))))
  refine W.nb (sz := 2) ?_
  refine W.loopS (σ := Nat × Value) (fun s => [(0, v), (1, .int .i64 f), (2, .int .i64 t), (7, s.2), (8, .int .i64 (s.1 : Int))])
    (fun s => [Buf 2 s.2 ((within (l.take s.1) f t).flatMap smC)]) (fun s => s.1 ≤ l.length ∧ SL s.2 (within (l.take s.1) f t).length) (fun s => l.length - s.1) (0, nilV) ⟨rfl, rfl, rfl, rfl, rfl, trivial⟩ rfl ⟨Nat.zero_le _, slZ⟩ ?_
  rintro ⟨k, u⟩ ⟨hk, su⟩ next
  simp only [] at hk su next ⊢
  by_cases hc : k < l.length
  · obtain ⟨q, hq⟩ : ∃ q, l[k]? = some q := ⟨_, List.getElem?_eq_getElem hc⟩
    have hr : ((l.flatMap smC).drop (((k : Nat) : Int).toNat * 2)).take 2 = [.int .i64 q.1, .int .u64 q.2] := flat_row sm_len hq
    have h0 : (l.flatMap smC)[((k : Nat) : Int).toNat * 2 + 0]? = some (.int .i64 q.1) := flat_get sm_len hq rfl
    have hwl := within_len (l.take k) f t
    have htk : (l.take k).length ≤ l.length := by rw [List.length_take]; omega
    have hcl := sms_cells (within (l.take k) f t)
    have hts := take_snoc hq
    by_cases hin : f ≤ q.1 ∧ q.1 ≤ t
    · have hw := within_snoc (l.take k) q f t
      rw [if_pos hin, ← hts] at hw
      have hw2 : (within (l.take (k + 1)) f t).flatMap smC = (within (l.take k) f t).flatMap smC ++ [.int .i64 q.1, .int .u64 q.2] := by rw [hw, List.flatMap_append]; rfl
      obtain ⟨hin1, hin2⟩ := hin
      refine W.seq (W.seq (W.region (WL.mv rfl rfl (WL.mv rfl rfl ?_))))
      refine WL.len (T := Ty) rfl rfl (by assumption) rfl ?_
      refine WL.lss rfl rfl rfl (WL.nil (W.condpT rfl (by omega) (W.skip (W.seq (W.block (W.seq (W.region (WL.mv rfl rfl (WL.mv rfl rfl ?_)))))))))
      refine WL.ix (T := Ty) rfl rfl rfl (by assumption) rfl rfl (by omega) (by first | omega | decide +kernel) ?_
      refine WL.faEN (T := Ty) (off' := 0) rfl rfl rfl rfl rfl rfl rfl ?_
      refine WL.ldR (T := Ty) rfl rfl rfl rfl (by first | assumption | exact ROs.wide (by assumption)) (by assumption) ?_
      refine WL.mv rfl rfl (WL.geq rfl rfl rfl (WL.mv rfl rfl (WL.gT rfl rfl (by omega) (WL.mv rfl rfl (WL.gT rfl rfl (by omega) (WL.mv rfl rfl (WL.gT rfl rfl (by omega) ?_)))))))
      refine WL.ix (T := Ty) rfl rfl rfl (by assumption) rfl rfl (by omega) (by first | omega | decide +kernel) ?_
      refine WL.gT rfl rfl (by omega) (WL.faEN (T := Ty) (off' := 0) rfl rfl rfl rfl rfl rfl rfl (WL.gT rfl rfl (by omega) ?_))
      refine WL.ldR (T := Ty) rfl rfl rfl rfl (by first | assumption | exact ROs.wide (by assumption)) (by assumption) ?_
      refine WL.gT rfl rfl (by omega) (WL.mv rfl rfl (WL.gT rfl rfl (by omega) (WL.leq rfl rfl rfl (WL.pickTp rfl rfl (by omega) rfl (WL.nil (W.condpT rfl (by omega) (W.region (WL.mv rfl rfl (WL.mv rfl rfl (WL.mv rfl rfl ?_))))))))))
      refine WL.ix (T := Ty) rfl rfl rfl (by assumption) rfl rfl (by omega) (by first | omega | decide +kernel) ?_
      refine WL.ldAR (T := Ty) rfl rfl rfl rfl (by first | assumption | exact ROs.wide (by assumption)) (by assumption) rfl ?_
      refine WL.bsC (T := Ty) rfl rfl rfl rfl rfl rfl rfl (by repeat' first | exact CO.nil | apply CO.one (by first | rfl | exact SL.one (by assumption)) | apply CO.agg) rfl (by repeat' constructor) (fun u0 hu0 => ?_)
      refine WL.apS (T := Ty) (i := 0) rfl rfl rfl rfl rfl rfl rfl rfl rfl (by first | rfl | assumption) rfl (by assumption) (by repeat' first | exact AO.nil | apply AO.cons (by first | rfl | exact SL.one (by assumption))) (by first | omega | (simp; omega)) (by first | omega | (simp; omega)) (fun v' => (by repeat' constructor)) (fun u1 hu1 => ?_)
      refine WL.as rfl rfl (WL.nil (W.inBlock (W.region (WL.mv rfl rfl (WL.addK rfl rfl rfl (wrap_i64 ⟨by omega, by omega⟩) (WL.as rfl rfl (WL.nil ?_)))))))
      rw [← hw2]
      refine W.fit (by (repeat' first | exact Sel.nil | refine Sel.cons 0 rfl ?_ | refine Sel.cons 1 rfl ?_ | refine Sel.cons 2 rfl ?_ | refine Sel.cons 3 rfl ?_ | refine Sel.cons 4 rfl ?_ | refine Sel.cons 5 rfl ?_ | refine Sel.cons 6 rfl ?_ | refine Sel.cons 7 rfl ?_ | refine Sel.cons 8 rfl ?_)) (W.sub ?_ (next ⟨k + 1, _⟩ ⟨by simp only []; omega, by simp only []; rw [hw, List.length_append]; assumption⟩ (by simp only []; omega)))
      exact ⟨rfl, rfl, rfl, rfl, rfl, trivial⟩
    · have hw := within_snoc (l.take k) q f t
      rw [if_neg hin, ← hts, List.append_nil] at hw
      by_cases h1 : f ≤ q.1
      · refine W.seq ?_
        refine W.seq (W.region (WL.mv rfl rfl (WL.mv rfl rfl ?_)))
        refine WL.len (T := Ty) rfl rfl (by assumption) rfl ?_
        refine WL.lss rfl rfl rfl (WL.nil (W.condpT rfl (by omega) (W.skip (W.seq (W.block (W.seq (W.region (WL.mv rfl rfl (WL.mv rfl rfl ?_)))))))))
        refine WL.ix (T := Ty) rfl rfl rfl (by assumption) rfl rfl (by omega) (by first | omega | decide +kernel) ?_
        refine WL.faEN (T := Ty) (off' := 0) rfl rfl rfl rfl rfl rfl rfl ?_
        refine WL.ldR (T := Ty) rfl rfl rfl rfl (by first | assumption | exact ROs.wide (by assumption)) (by assumption) ?_
        refine WL.mv rfl rfl (WL.geq rfl rfl rfl (WL.mv rfl rfl (WL.gT rfl rfl (by omega) (WL.mv rfl rfl (WL.gT rfl rfl (by omega) (WL.mv rfl rfl (WL.gT rfl rfl (by omega) ?_)))))))
        refine WL.ix (T := Ty) rfl rfl rfl (by assumption) rfl rfl (by omega) (by first | omega | decide +kernel) ?_
        refine WL.gT rfl rfl (by omega) (WL.faEN (T := Ty) (off' := 0) rfl rfl rfl rfl rfl rfl rfl (WL.gT rfl rfl (by omega) ?_))
        refine WL.ldR (T := Ty) rfl rfl rfl rfl (by first | assumption | exact ROs.wide (by assumption)) (by assumption) ?_
        refine WL.gT rfl rfl (by omega) (WL.mv rfl rfl (WL.gT rfl rfl (by omega) (WL.leq rfl rfl rfl (WL.pickTp rfl rfl (by omega) rfl (WL.nil (W.condpF rfl (by omega) (W.skip (W.inBlock (W.region (WL.mv rfl rfl (WL.addK rfl rfl rfl (wrap_i64 ⟨by omega, by omega⟩) (WL.as rfl rfl (WL.nil ?_)))))))))))))
        rw [← hw] at su ⊢
        refine W.fit (by (repeat' first | exact Sel.nil | refine Sel.cons 0 rfl ?_ | refine Sel.cons 1 rfl ?_ | refine Sel.cons 2 rfl ?_ | refine Sel.cons 3 rfl ?_ | refine Sel.cons 4 rfl ?_ | refine Sel.cons 5 rfl ?_ | refine Sel.cons 6 rfl ?_ | refine Sel.cons 7 rfl ?_ | refine Sel.cons 8 rfl ?_)) (W.sub ?_ (next ⟨k + 1, _⟩ ⟨by simp only []; omega, su⟩ (by simp only []; omega)))
        exact ⟨rfl, rfl, rfl, rfl, rfl, trivial⟩
      · refine W.seq ?_
        refine W.seq (W.region (WL.mv rfl rfl (WL.mv rfl rfl ?_)))
        refine WL.len (T := Ty) rfl rfl (by assumption) rfl ?_
        refine WL.lss rfl rfl rfl (WL.nil (W.condpT rfl (by omega) (W.skip (W.seq (W.block (W.seq (W.region (WL.mv rfl rfl (WL.mv rfl rfl ?_)))))))))
        refine WL.ix (T := Ty) rfl rfl rfl (by assumption) rfl rfl (by omega) (by first | omega | decide +kernel) ?_
        refine WL.faEN (T := Ty) (off' := 0) rfl rfl rfl rfl rfl rfl rfl ?_
        refine WL.ldR (T := Ty) rfl rfl rfl rfl (by first | assumption | exact ROs.wide (by assumption)) (by assumption) ?_
        refine WL.mv rfl rfl (WL.geq rfl rfl rfl (WL.mv rfl rfl (WL.gdTn rfl rfl rfl rfl rfl (by omega) (WL.gdTn rfl rfl rfl rfl rfl (by omega) (WL.gdTn rfl rfl rfl rfl rfl (by omega) (WL.gdTn rfl rfl rfl rfl rfl (by omega) (WL.gdTn rfl rfl rfl rfl rfl (by omega) (WL.gdTn rfl rfl rfl rfl rfl (by omega) (WL.gdTn rfl rfl rfl rfl rfl (by omega) (WL.pickFp rfl rfl (by omega) rfl (WL.nil (W.condF rfl (W.skip ?_)))))))))))))
        refine W.inBlock (W.region (WL.mv rfl rfl (WL.addK rfl rfl rfl (wrap_i64 ⟨by omega, by omega⟩) (WL.as rfl rfl (WL.nil ?_)))))
        rw [← hw] at su ⊢
        refine W.fit (by (repeat' first | exact Sel.nil | refine Sel.cons 0 rfl ?_ | refine Sel.cons 1 rfl ?_ | refine Sel.cons 2 rfl ?_ | refine Sel.cons 3 rfl ?_ | refine Sel.cons 4 rfl ?_ | refine Sel.cons 5 rfl ?_ | refine Sel.cons 6 rfl ?_ | refine Sel.cons 7 rfl ?_ | refine Sel.cons 8 rfl ?_)) (W.sub ?_ (next ⟨k + 1, _⟩ ⟨by simp only []; omega, su⟩ (by simp only []; omega)))
        exact ⟨rfl, rfl, rfl, rfl, rfl, trivial⟩
  · have hkk : k = l.length := by omega
    subst hkk
    rw [List.take_length] at su ⊢
    refine W.seq (W.seq (W.region (WL.mv rfl rfl (WL.mv rfl rfl ?_))))
    refine WL.len (T := Ty) rfl rfl (by assumption) rfl ?_
    refine WL.lss rfl rfl rfl (WL.nil (W.condpF rfl (by omega) (W.exit rfl (W.seq (W.region (WL.mv rfl rfl (WL.as rfl rfl (WL.nil ?_))))))))
    exact W.fit (by (repeat' first | exact Sel.nil | refine Sel.cons 0 rfl ?_ | refine Sel.cons 1 rfl ?_ | refine Sel.cons 2 rfl ?_ | refine Sel.cons 3 rfl ?_ | refine Sel.cons 4 rfl ?_ | refine Sel.cons 5 rfl ?_ | refine Sel.cons 6 rfl ?_ | refine Sel.cons 7 rfl ?_ | refine Sel.cons 8 rfl ?_)) (W.ret1 rfl rfl (fun h p => sepl_one.1 p))
theorem atR_c (ρ : Hp) (v : Value) (m : Mdl) (id : Int) (hm : RMdl ρ v m) (hl : m.ser.length ≤ 100000000) :
  Fn Try.prog 50 #[v, .int .i64 id] ρ [] (Just (.int .i64 (idxF (fun s => decide (s.id = id)) m.ser))) := by
 refine in50 rfl rfl ?_
 obtain ⟨sv, iv, L, K, rfl, e1, e2, r1, r2, r3, r4⟩ := hm.cells
 have sL : SL sv L.length := r1.sl (ser_cells L) (by omega)
 have hlen : L.length = m.ser.length := by rw [← e1, List.length_map]
 refine W.seq (W.region ?_)
 refine WL.bxF rfl rfl (by repeat' constructor) (fun b0 => ?_)
 refine WL.as rfl rfl (WL.nil (W.seq (W.seq (W.region (WL.as rfl rfl (WL.nil (W.block ?_)))))))
 refine W.loopS (σ := Nat) (fun i => [(1, .int .i64 id), (2, pt b0 0), (5, .int .i64 (i : Int))]) (fun _ => [box b0 [sv, iv, .int .i64 m.next] 31]) (fun i => i ≤ L.length ∧ ∀ b ∈ m.ser.take i, decide (b.id = id) = false) (fun i => L.length - i) 0 ⟨rfl, rfl, rfl, trivial⟩ rfl ⟨Nat.zero_le _, by simp⟩ ?_
 intro i ⟨hi, hn⟩ next
 by_cases hc : i < L.length
 ·obtain ⟨⟨s, u⟩, ha⟩ : ∃ a, L[i]? = some a := ⟨_, List.getElem?_eq_getElem hc⟩
  have hs := map_fst_get e1 ha
  have hg : (L.flatMap serC)[((i : Nat) : Int).toNat * 5 + 0]? = some (.int .i64 s.id) := flat_get ser_len ha rfl
  by_cases he : s.id = id
  ·have e := idx_hit (p := fun s : Ser => decide (s.id = id)) hs (decide_eq_true he) hn
   refine W.seq (W.seq (W.region (WL.mv rfl rfl (WL.faN (T := Ty) (off' := 0) rfl rfl rfl rfl rfl rfl rfl (WL.ldN (T := Ty) (j := 0) rfl rfl rfl rfl rfl rfl ?_)))))
   refine WL.len (T := Ty) rfl rfl (by assumption) rfl ?_
   refine WL.lss rfl rfl rfl (WL.nil (W.condpT rfl (by omega) (W.skip (W.seq (W.block (W.seq (W.region (WL.faN (T := Ty) (off' := 0) rfl rfl rfl rfl rfl rfl rfl (WL.ldN (T := Ty) (j := 0) rfl rfl rfl rfl rfl rfl (WL.mv rfl rfl ?_))))))))))
   refine WL.ix (T := Ty) rfl rfl rfl (by assumption) rfl rfl (by omega) (by first | omega | decide +kernel) ?_
   refine WL.faEN (T := Ty) (off' := 0) rfl rfl rfl rfl rfl rfl rfl ?_
   refine WL.ldR (T := Ty) rfl rfl rfl rfl (by first | assumption | exact ROs.wide (by assumption)) (by assumption) ?_
   refine WL.mv rfl rfl (WL.eql rfl rfl rfl (WL.nil (W.condpT rfl (by omega) (W.seq (W.region (WL.mv rfl rfl (WL.as rfl rfl (WL.nil ?_))))))))
   exact W.fit (Hs' := []) (by (repeat' first | exact Sel.nil | refine Sel.cons 0 rfl ?_ | refine Sel.cons 1 rfl ?_ | refine Sel.cons 2 rfl ?_ | refine Sel.cons 3 rfl ?_ | refine Sel.cons 4 rfl ?_ | refine Sel.cons 5 rfl ?_ | refine Sel.cons 6 rfl ?_ | refine Sel.cons 7 rfl ?_ | refine Sel.cons 8 rfl ?_)) (W.ret1 rfl rfl (fun h q => ⟨by rw [e], q⟩))
  ·refine W.seq ?_
   refine W.seq (W.region (WL.mv rfl rfl (WL.faN (T := Ty) (off' := 0) rfl rfl rfl rfl rfl rfl rfl (WL.ldN (T := Ty) (j := 0) rfl rfl rfl rfl rfl rfl ?_))))
   refine WL.len (T := Ty) rfl rfl (by assumption) rfl ?_
   refine WL.lss rfl rfl rfl (WL.nil (W.condpT rfl (by omega) (W.skip (W.seq (W.block (W.seq (W.region (WL.faN (T := Ty) (off' := 0) rfl rfl rfl rfl rfl rfl rfl (WL.ldN (T := Ty) (j := 0) rfl rfl rfl rfl rfl rfl (WL.mv rfl rfl ?_))))))))))
   refine WL.ix (T := Ty) rfl rfl rfl (by assumption) rfl rfl (by omega) (by first | omega | decide +kernel) ?_
   refine WL.faEN (T := Ty) (off' := 0) rfl rfl rfl rfl rfl rfl rfl ?_
   refine WL.ldR (T := Ty) rfl rfl rfl rfl (by first | assumption | exact ROs.wide (by assumption)) (by assumption) ?_
   refine WL.mv rfl rfl (WL.eql rfl rfl rfl (WL.nil (W.condpF rfl (by omega) (W.skip (W.inBlock (W.region (WL.mv rfl rfl (WL.addK rfl rfl rfl (wrap_i64 ⟨by omega, by omega⟩) (WL.as rfl rfl (WL.nil ?_))))))))))
   refine W.fit (by (repeat' first | exact Sel.nil | refine Sel.cons 0 rfl ?_ | refine Sel.cons 1 rfl ?_ | refine Sel.cons 2 rfl ?_ | refine Sel.cons 3 rfl ?_ | refine Sel.cons 4 rfl ?_ | refine Sel.cons 5 rfl ?_ | refine Sel.cons 6 rfl ?_ | refine Sel.cons 7 rfl ?_ | refine Sel.cons 8 rfl ?_)) (W.sub ?_ (next (i + 1) ⟨by omega, fun b hm => ?_⟩ (by omega)))
   ·exact ⟨rfl, rfl, rfl, trivial⟩
   ·rw [List.take_add_one, hs] at hm
    rcases List.mem_append.1 hm with h | h
    ·exact hn b h
    ·simp at h; rw [h]; exact decide_eq_false he
 ·have e := idx_miss (p := fun s : Ser => decide (s.id = id)) (L := m.ser) (by rw [show i = m.ser.length by omega, List.take_length] at hn; exact hn)
  refine W.seq (W.seq (W.region (WL.mv rfl rfl (WL.faN (T := Ty) (off' := 0) rfl rfl rfl rfl rfl rfl rfl (WL.ldN (T := Ty) (j := 0) rfl rfl rfl rfl rfl rfl ?_)))))
  refine WL.len (T := Ty) rfl rfl (by assumption) rfl ?_
  refine WL.lss rfl rfl rfl (WL.nil (W.condpF rfl (by omega) (W.exit rfl (W.seq (W.region (WL.as rfl rfl (WL.nil ?_)))))))
  exact W.fit (Hs' := []) (by (repeat' first | exact Sel.nil | refine Sel.cons 0 rfl ?_ | refine Sel.cons 1 rfl ?_ | refine Sel.cons 2 rfl ?_ | refine Sel.cons 3 rfl ?_ | refine Sel.cons 4 rfl ?_ | refine Sel.cons 5 rfl ?_ | refine Sel.cons 6 rfl ?_ | refine Sel.cons 7 rfl ?_ | refine Sel.cons 8 rfl ?_)) (W.ret1 rfl rfl (fun h q => ⟨by rw [e], q⟩))
theorem iterR_c (ρ : Hp) (v : Value) (m : Mdl) (id : Int) (hm : RMdl ρ v m) (hl : m.its.length ≤ 100000000) :
  Fn Try.prog 51 #[v, .int .i64 id] ρ [] (Just (.int .i64 (idxF (fun s => decide (s.id = id)) m.its))) := by
 refine in51 rfl rfl ?_
 obtain ⟨sv, iv, L, K, rfl, e1, e2, r1, r2, r3, r4⟩ := hm.cells
 have sL : SL iv K.length := r2.sl (itr_cells K) (by omega)
 have hlen : K.length = m.its.length := by rw [← e2, List.length_map]
 refine W.seq (W.region ?_)
 refine WL.bxF rfl rfl (by repeat' constructor) (fun b0 => ?_)
 refine WL.as rfl rfl (WL.nil (W.seq (W.seq (W.region (WL.as rfl rfl (WL.nil (W.block ?_)))))))
 refine W.loopS (σ := Nat) (fun i => [(1, .int .i64 id), (2, pt b0 0), (5, .int .i64 (i : Int))]) (fun _ => [box b0 [sv, iv, .int .i64 m.next] 31]) (fun i => i ≤ K.length ∧ ∀ b ∈ m.its.take i, decide (b.id = id) = false) (fun i => K.length - i) 0 ⟨rfl, rfl, rfl, trivial⟩ rfl ⟨Nat.zero_le _, by simp⟩ ?_
 intro i ⟨hi, hn⟩ next
 by_cases hc : i < K.length
 ·obtain ⟨⟨s, u⟩, ha⟩ : ∃ a, K[i]? = some a := ⟨_, List.getElem?_eq_getElem hc⟩
  have hs := map_fst_get e2 ha
  have hg : (K.flatMap itrC)[((i : Nat) : Int).toNat * 2 + 0]? = some (.int .i64 s.id) := flat_get itr_len ha rfl
  by_cases he : s.id = id
  ·have e := idx_hit (p := fun s : Itr => decide (s.id = id)) hs (decide_eq_true he) hn
   refine W.seq (W.seq (W.region (WL.mv rfl rfl (WL.faN (T := Ty) (off' := 1) rfl rfl rfl rfl rfl rfl rfl (WL.ldN (T := Ty) (j := 0) rfl rfl rfl rfl rfl rfl ?_)))))
   refine WL.len (T := Ty) rfl rfl (by assumption) rfl ?_
   refine WL.lss rfl rfl rfl (WL.nil (W.condpT rfl (by omega) (W.skip (W.seq (W.block (W.seq (W.region (WL.faN (T := Ty) (off' := 1) rfl rfl rfl rfl rfl rfl rfl (WL.ldN (T := Ty) (j := 0) rfl rfl rfl rfl rfl rfl (WL.mv rfl rfl ?_))))))))))
   refine WL.ix (T := Ty) rfl rfl rfl (by assumption) rfl rfl (by omega) (by first | omega | decide +kernel) ?_
   refine WL.faEN (T := Ty) (off' := 0) rfl rfl rfl rfl rfl rfl rfl ?_
   refine WL.ldR (T := Ty) rfl rfl rfl rfl (by first | assumption | exact ROs.wide (by assumption)) (by assumption) ?_
   refine WL.mv rfl rfl (WL.eql rfl rfl rfl (WL.nil (W.condpT rfl (by omega) (W.seq (W.region (WL.mv rfl rfl (WL.as rfl rfl (WL.nil ?_))))))))
   exact W.fit (Hs' := []) (by (repeat' first | exact Sel.nil | refine Sel.cons 0 rfl ?_ | refine Sel.cons 1 rfl ?_ | refine Sel.cons 2 rfl ?_ | refine Sel.cons 3 rfl ?_ | refine Sel.cons 4 rfl ?_ | refine Sel.cons 5 rfl ?_ | refine Sel.cons 6 rfl ?_ | refine Sel.cons 7 rfl ?_ | refine Sel.cons 8 rfl ?_)) (W.ret1 rfl rfl (fun h q => ⟨by rw [e], q⟩))
  ·refine W.seq ?_
   refine W.seq (W.region (WL.mv rfl rfl (WL.faN (T := Ty) (off' := 1) rfl rfl rfl rfl rfl rfl rfl (WL.ldN (T := Ty) (j := 0) rfl rfl rfl rfl rfl rfl ?_))))
   refine WL.len (T := Ty) rfl rfl (by assumption) rfl ?_
   refine WL.lss rfl rfl rfl (WL.nil (W.condpT rfl (by omega) (W.skip (W.seq (W.block (W.seq (W.region (WL.faN (T := Ty) (off' := 1) rfl rfl rfl rfl rfl rfl rfl (WL.ldN (T := Ty) (j := 0) rfl rfl rfl rfl rfl rfl (WL.mv rfl rfl ?_))))))))))
   refine WL.ix (T := Ty) rfl rfl rfl (by assumption) rfl rfl (by omega) (by first | omega | decide +kernel) ?_
   refine WL.faEN (T := Ty) (off' := 0) rfl rfl rfl rfl rfl rfl rfl ?_
   refine WL.ldR (T := Ty) rfl rfl rfl rfl (by first | assumption | exact ROs.wide (by assumption)) (by assumption) ?_
   refine WL.mv rfl rfl (WL.eql rfl rfl rfl (WL.nil (W.condpF rfl (by omega) (W.skip (W.inBlock (W.region (WL.mv rfl rfl (WL.addK rfl rfl rfl (wrap_i64 ⟨by omega, by omega⟩) (WL.as rfl rfl (WL.nil ?_))))))))))
   refine W.fit (by (repeat' first | exact Sel.nil | refine Sel.cons 0 rfl ?_ | refine Sel.cons 1 rfl ?_ | refine Sel.cons 2 rfl ?_ | refine Sel.cons 3 rfl ?_ | refine Sel.cons 4 rfl ?_ | refine Sel.cons 5 rfl ?_ | refine Sel.cons 6 rfl ?_ | refine Sel.cons 7 rfl ?_ | refine Sel.cons 8 rfl ?_)) (W.sub ?_ (next (i + 1) ⟨by omega, fun b hm => ?_⟩ (by omega)))
   ·exact ⟨rfl, rfl, rfl, trivial⟩
   ·rw [List.take_add_one, hs] at hm
    rcases List.mem_append.1 hm with h | h
    ·exact hn b h
    ·simp at h; rw [h]; exact decide_eq_false he
 ·have e := idx_miss (p := fun s : Itr => decide (s.id = id)) (L := m.its) (by rw [show i = m.its.length by omega, List.take_length] at hn; exact hn)
  refine W.seq (W.seq (W.region (WL.mv rfl rfl (WL.faN (T := Ty) (off' := 1) rfl rfl rfl rfl rfl rfl rfl (WL.ldN (T := Ty) (j := 0) rfl rfl rfl rfl rfl rfl ?_)))))
  refine WL.len (T := Ty) rfl rfl (by assumption) rfl ?_
  refine WL.lss rfl rfl rfl (WL.nil (W.condpF rfl (by omega) (W.exit rfl (W.seq (W.region (WL.as rfl rfl (WL.nil ?_)))))))
  exact W.fit (Hs' := []) (by (repeat' first | exact Sel.nil | refine Sel.cons 0 rfl ?_ | refine Sel.cons 1 rfl ?_ | refine Sel.cons 2 rfl ?_ | refine Sel.cons 3 rfl ?_ | refine Sel.cons 4 rfl ?_ | refine Sel.cons 5 rfl ?_ | refine Sel.cons 6 rfl ?_ | refine Sel.cons 7 rfl ?_ | refine Sel.cons 8 rfl ?_)) (W.ret1 rfl rfl (fun h q => ⟨by rw [e], q⟩))
end Go.Proofs.Ytbebhmdjnneimaa
