/- One hand alone, as the document has it: what is the same. -/
import Derived.Test.YtbebhmdjnneimaaStc
import Derived.Test.YtbebhmdjnneimaaNum
import Derived.Test.YtbebhmdjnneimaaTab
import Derived.Test.YtbebhmdjnneimaaModl7
set_option linter.unusedSimpArgs false
set_option linter.unusedVariables false
set_option maxRecDepth 20000
set_option maxHeartbeats 4000000
namespace Go.Proofs.Ytbebhmdjnneimaa
open Go
attribute [local irreducible] W WL Fn Buf ROs SL eptr box Rd Src bndOK WD RB Reads In Own sameL
theorem rsameR_c (ρ : Hp) (v v' : Value) (a b : Rst) (ha : RRst ρ v a) (hb : RRst ρ v' b) (hl : a.list.length ≤ 100000000) :
  Fn Try.prog 21 #[v, v'] ρ [] (Just (.bool (sameRst a b))) := by
 refine in21 rfl rfl ?_
 obtain ⟨u, rfl, ru⟩ := ha
 obtain ⟨u', rfl, ru'⟩ := hb
 unfold rstV
 obtain ⟨z, hz⟩ : ∃ z, sameRst a b = z := ⟨_, rfl⟩
 rw [hz]
 unfold sameRst at hz
 by_cases h1 : a.err = b.err
 ·rw [decide_eq_true h1, Bool.true_and] at hz
  by_cases h2 : a.iter = b.iter
  ·rw [decide_eq_true h2, Bool.true_and] at hz
   refine W.seq (W.region ?_)
   refine WL.bxF rfl rfl (by repeat' constructor) (fun b0 => ?_)
   refine WL.bxF rfl rfl (by repeat' constructor) (fun b1 => ?_)
   refine WL.as rfl rfl (WL.nil (W.seq (W.region (WL.faN (T := Ty) (off' := 0) rfl rfl rfl rfl rfl rfl rfl (WL.ldN (T := Ty) (j := 1) rfl rfl rfl rfl rfl rfl (WL.faN (T := Ty) (off' := 0) rfl rfl rfl rfl rfl rfl rfl (WL.ldN (T := Ty) (j := 0) rfl rfl rfl rfl rfl rfl (WL.eql rfl rfl rfl (WL.mv rfl rfl (WL.gT rfl rfl (by omega) (WL.faN (T := Ty) (off' := 1) rfl rfl rfl rfl rfl rfl rfl (WL.gT rfl rfl (by omega) (WL.ldN (T := Ty) (j := 1) rfl rfl rfl rfl rfl rfl ?_)))))))))))))
   refine WL.gT rfl rfl (by omega) (WL.faN (T := Ty) (off' := 1) rfl rfl rfl rfl rfl rfl rfl (WL.gT rfl rfl (by omega) (WL.ldN (T := Ty) (j := 0) rfl rfl rfl rfl rfl rfl (WL.gT rfl rfl (by omega) (WL.eql rfl rfl rfl (WL.pickTp rfl rfl (by omega) rfl (WL.mv rfl rfl (WL.gT rfl rfl (by omega) (WL.faN (T := Ty) (off' := 2) rfl rfl rfl rfl rfl rfl rfl (WL.gT rfl rfl (by omega) (WL.ldN (T := Ty) (j := 1) rfl rfl rfl rfl rfl rfl (WL.gT rfl rfl (by omega) (WL.faN (T := Ty) (off' := 2) rfl rfl rfl rfl rfl rfl rfl ?_)))))))))))))
   refine WL.gT rfl rfl (by omega) (WL.ldN (T := Ty) (j := 0) rfl rfl rfl rfl rfl rfl (WL.gT rfl rfl (by omega) ?_))
   refine WL.callV rfl rfl (fun x p d => refM_c _ _ _ _ _ (by first | assumption | exact ROs.wide (by assumption) | exact ROs.mono (by assumption) (eqh_at 0 rfl p d) | exact ros_at 0 rfl p d | exact ros_at 1 rfl p d | exact ros_at 2 rfl p d | exact ros_at 3 rfl p d | exact ros_at 4 rfl p d) (by first | assumption | exact ROs.wide (by assumption) | exact ROs.mono (by assumption) (eqh_at 0 rfl p d) | exact ros_at 0 rfl p d | exact ros_at 1 rfl p d | exact ros_at 2 rfl p d | exact ros_at 3 rfl p d | exact ros_at 4 rfl p d) (by first | assumption | omega)) ?_
   refine WL.pickTp rfl rfl (by omega) rfl (WL.as rfl rfl (WL.nil ?_))
   rw [hz]
   skip
   exact W.fit (Hs' := []) (by (repeat' first | exact Sel.nil | apply Sel.k | exact Pick.h | apply Pick.t)) (W.ret1 rfl rfl (fun h q => ⟨rfl, q⟩))
  ·rw [decide_eq_false h2] at hz
   simp only [Bool.false_and] at hz
   subst hz
   refine W.seq (W.region ?_)
   refine WL.bxF rfl rfl (by repeat' constructor) (fun b0 => ?_)
   refine WL.bxF rfl rfl (by repeat' constructor) (fun b1 => ?_)
   refine WL.as rfl rfl (WL.nil (W.seq (W.region (WL.faN (T := Ty) (off' := 0) rfl rfl rfl rfl rfl rfl rfl (WL.ldN (T := Ty) (j := 1) rfl rfl rfl rfl rfl rfl (WL.faN (T := Ty) (off' := 0) rfl rfl rfl rfl rfl rfl rfl (WL.ldN (T := Ty) (j := 0) rfl rfl rfl rfl rfl rfl (WL.eql rfl rfl rfl (WL.mv rfl rfl (WL.gT rfl rfl (by omega) (WL.faN (T := Ty) (off' := 1) rfl rfl rfl rfl rfl rfl rfl (WL.gT rfl rfl (by omega) (WL.ldN (T := Ty) (j := 1) rfl rfl rfl rfl rfl rfl ?_)))))))))))))
   refine WL.gT rfl rfl (by omega) (WL.faN (T := Ty) (off' := 1) rfl rfl rfl rfl rfl rfl rfl (WL.gT rfl rfl (by omega) (WL.ldN (T := Ty) (j := 0) rfl rfl rfl rfl rfl rfl (WL.gT rfl rfl (by omega) (WL.eql rfl rfl rfl (WL.pickTp rfl rfl (by omega) rfl (WL.mv rfl rfl (WL.gdTn rfl rfl rfl rfl rfl (by omega) (WL.gdTn rfl rfl rfl rfl rfl (by omega) (WL.gdTn rfl rfl rfl rfl rfl (by omega) (WL.gdTn rfl rfl rfl rfl rfl (by omega) (WL.gdTn rfl rfl rfl rfl rfl (by omega) (WL.pickFp rfl rfl (by omega) rfl ?_)))))))))))))
   refine WL.as rfl rfl (WL.nil ?_)
   exact W.fit (Hs' := []) (by (repeat' first | exact Sel.nil | apply Sel.k | exact Pick.h | apply Pick.t)) (W.ret1 rfl rfl (fun h q => ⟨rfl, q⟩))
 ·rw [decide_eq_false h1] at hz
  simp only [Bool.false_and] at hz
  subst hz
  refine W.seq (W.region ?_)
  refine WL.bxF rfl rfl (by repeat' constructor) (fun b0 => ?_)
  refine WL.bxF rfl rfl (by repeat' constructor) (fun b1 => ?_)
  refine WL.as rfl rfl (WL.nil (W.seq (W.region (WL.faN (T := Ty) (off' := 0) rfl rfl rfl rfl rfl rfl rfl (WL.ldN (T := Ty) (j := 1) rfl rfl rfl rfl rfl rfl (WL.faN (T := Ty) (off' := 0) rfl rfl rfl rfl rfl rfl rfl (WL.ldN (T := Ty) (j := 0) rfl rfl rfl rfl rfl rfl (WL.eql rfl rfl rfl (WL.mv rfl rfl (WL.gdTn rfl rfl rfl rfl rfl (by omega) (WL.gdTn rfl rfl rfl rfl rfl (by omega) (WL.gdTn rfl rfl rfl rfl rfl (by omega) (WL.gdTn rfl rfl rfl rfl rfl (by omega) ?_)))))))))))))
  refine WL.gdTn rfl rfl rfl rfl rfl (by omega) (WL.pickFp rfl rfl (by omega) rfl (WL.mv rfl rfl (WL.gdN rfl rfl rfl rfl rfl rfl (WL.gdN rfl rfl rfl rfl rfl rfl (WL.gdN rfl rfl rfl rfl rfl rfl (WL.gdN rfl rfl rfl rfl rfl rfl (WL.gdN rfl rfl rfl rfl rfl rfl (WL.pickF rfl rfl rfl (WL.as rfl rfl (WL.nil ?_))))))))))
  exact W.fit (Hs' := []) (by (repeat' first | exact Sel.nil | apply Sel.k | exact Pick.h | apply Pick.t)) (W.ret1 rfl rfl (fun h q => ⟨rfl, q⟩))
theorem rsame_c (ρ : Hp) (v v' : Value) (m m' : Mdl) (n : Nat) (hm : RMdl ρ v m) (hm' : RMdl ρ v' m') (hI : MInv n m) (hb : n ≤ 1000000) :
  Fn Try.prog 16 #[v, v'] ρ [] (Just (.bool (sameMdl m m'))) := by
 refine in16 rfl rfl ?_
 obtain ⟨sv, iv, L, K, rfl, e1, e2, r1, r2, r3, r4⟩ := hm.cells
 obtain ⟨sv', iv', L', K', rfl, e1', e2', r1', r2', r3', r4'⟩ := hm'.cells
 have sL : SL sv L.length := r1.sl (ser_cells L) (by omega)
 have sL' : SL sv' L'.length := r1'.sl (ser_cells L') (by omega)
 have sK : SL iv K.length := r2.sl (itr_cells K) (by omega)
 have sK' : SL iv' K'.length := r2'.sl (itr_cells K') (by omega)
 have g1 : ∀ p ∈ L, p.1.list.length ≤ n := fun p hp => hI.lens p.1 (by rw [← e1]; exact List.mem_map_of_mem hp)
 have g2 : ∀ p ∈ K, p.1.rest.length ≤ n := fun p hp => hI.rests p.1 (by rw [← e2]; exact List.mem_map_of_mem hp)
 have g3 : L.length ≤ n := by have := hI.sers; rw [← e1, List.length_map] at this; exact this
 have g4 : K.length ≤ 8 := by have := hI.its; rw [← e2, List.length_map] at this; exact this
 obtain ⟨z, hz⟩ : ∃ z, sameMdl m m' = z := ⟨_, rfl⟩
 rw [hz]
 unfold sameMdl at hz
 rw [← e1, ← e2, ← e1', ← e2'] at hz
 by_cases h1 : m.next = m'.next
 ·rw [decide_eq_true h1, Bool.true_and] at hz
  by_cases h2 : L.length = L'.length
  ·by_cases h3 : K.length = K'.length
   ·refine W.seq ?_
    refine W.region ?_
    refine WL.bxF rfl rfl (by repeat' constructor) (fun b0 => ?_)
    refine WL.bxF rfl rfl (by repeat' constructor) (fun b1 => ?_)
    refine WL.as rfl rfl (WL.nil (W.seq (W.seq (W.region (WL.faN (T := Ty) (off' := 2) rfl rfl rfl rfl rfl rfl rfl (WL.ldN (T := Ty) (j := 1) rfl rfl rfl rfl rfl rfl (WL.faN (T := Ty) (off' := 2) rfl rfl rfl rfl rfl rfl rfl (WL.ldN (T := Ty) (j := 0) rfl rfl rfl rfl rfl rfl (WL.neq rfl rfl rfl (WL.mv rfl rfl (WL.gF rfl rfl (by omega) (WL.faN (T := Ty) (off' := 0) rfl rfl rfl rfl rfl rfl rfl (WL.gF rfl rfl (by omega) ?_)))))))))))))
    refine WL.ldN (T := Ty) (j := 1) rfl rfl rfl rfl rfl rfl (WL.gF rfl rfl (by omega) ?_)
    refine WL.len (T := Ty) rfl rfl (by assumption) rfl ?_
    refine WL.gF rfl rfl (by omega) (WL.faN (T := Ty) (off' := 0) rfl rfl rfl rfl rfl rfl rfl (WL.gF rfl rfl (by omega) (WL.ldN (T := Ty) (j := 0) rfl rfl rfl rfl rfl rfl (WL.gF rfl rfl (by omega) ?_))))
    refine WL.len (T := Ty) rfl rfl (by assumption) rfl ?_
    refine WL.gF rfl rfl (by omega) (WL.neq rfl rfl rfl (WL.pickFp rfl rfl (by omega) rfl (WL.mv rfl rfl (WL.gF rfl rfl (by omega) (WL.faN (T := Ty) (off' := 1) rfl rfl rfl rfl rfl rfl rfl (WL.gF rfl rfl (by omega) (WL.ldN (T := Ty) (j := 1) rfl rfl rfl rfl rfl rfl (WL.gF rfl rfl (by omega) ?_))))))))
    refine WL.len (T := Ty) rfl rfl (by assumption) rfl ?_
    refine WL.gF rfl rfl (by omega) (WL.faN (T := Ty) (off' := 1) rfl rfl rfl rfl rfl rfl rfl (WL.gF rfl rfl (by omega) (WL.ldN (T := Ty) (j := 0) rfl rfl rfl rfl rfl rfl (WL.gF rfl rfl (by omega) ?_))))
    refine WL.len (T := Ty) rfl rfl (by assumption) rfl ?_
    refine WL.gF rfl rfl (by omega) (WL.neq rfl rfl rfl (WL.pickFp rfl rfl (by omega) rfl (WL.nil (W.condpF rfl (by omega) (W.skip (W.seq (W.seq (W.region (WL.as rfl rfl (WL.nil (W.block ?_)))))))))))
    refine W.loopS (σ := Nat) (fun i => [(2, pt b0 0), (3, pt b1 0), (4, .bool false), (5, .int .i64 (i : Int))]) (fun _ => [box b1 [sv', iv', .int .i64 m'.next] 31, box b0 [sv, iv, .int .i64 m.next] 31]) (fun i => i ≤ L.length ∧ allB sameSer (L.map Prod.fst) (L'.map Prod.fst) = allB sameSer ((L.drop i).map Prod.fst) ((L'.drop i).map Prod.fst)) (fun i => L.length - i) 0 ⟨rfl, rfl, rfl, rfl, trivial⟩ rfl ⟨Nat.zero_le _, rfl⟩ ?_
    intro i ⟨hi, hA⟩ next
    by_cases hlt : i < L.length
    ·obtain ⟨⟨a, u⟩, ha⟩ : ∃ a, L[i]? = some a := ⟨_, List.getElem?_eq_getElem hlt⟩
     obtain ⟨⟨b, u'⟩, hb'⟩ : ∃ b, L'[i]? = some b := ⟨_, List.getElem?_eq_getElem (by omega)⟩
     have hr : ((L.flatMap serC).drop (((i : Nat) : Int).toNat * 5)).take 5 = [.int .i64 a.id, .bool a.shut, .bool a.any, .int .i64 a.last, u] := flat_row ser_len ha
     have hr' : ((L'.flatMap serC).drop (((i : Nat) : Int).toNat * 5)).take 5 = [.int .i64 b.id, .bool b.shut, .bool b.any, .int .i64 b.last, u'] := flat_row ser_len hb'
     have ru : ROs ρ 2 u (a.list.flatMap smC) := r3 _ (List.mem_of_getElem? ha)
     have ru' : ROs ρ 2 u' (b.list.flatMap smC) := r3' _ (List.mem_of_getElem? hb')
     have su : SL u a.list.length := ru.sl (sms_cells _) (by omega)
     have su' : SL u' b.list.length := ru'.sl (sms_cells _) (by omega)
     have hla := g1 _ (List.mem_of_getElem? ha)
     dsimp only at hla
     rw [drop_cons ha, drop_cons hb', List.map_cons, List.map_cons, allB] at hA
     refine W.seq (W.seq (W.region (WL.mv rfl rfl (WL.faN (T := Ty) (off' := 0) rfl rfl rfl rfl rfl rfl rfl (WL.ldN (T := Ty) (j := 1) rfl rfl rfl rfl rfl rfl ?_)))))
     refine WL.len (T := Ty) rfl rfl (by assumption) rfl ?_
     refine WL.lss rfl rfl rfl (WL.nil (W.condpT rfl (by omega) (W.skip (W.seq (W.block (W.seq ?_))))))
     refine W.cut (τ := Nat × Nat) (fun s => [(2, pt b0 0), (3, pt b1 0), (4, .bool false), (5, .int .i64 (i : Int)), (6, pt s.1 0), (7, pt s.2 0)]) (fun s => [box s.1 [.int .i64 a.id, .bool a.shut, .bool a.any, .int .i64 a.last, u] 43, box s.2 [.int .i64 b.id, .bool b.shut, .bool b.any, .int .i64 b.last, u'] 43, box b1 [sv', iv', .int .i64 m'.next] 31, box b0 [sv, iv, .int .i64 m.next] 31]) (fun _ => True) ?_ (fun cut => ?_)
     ·rintro ⟨b6, b7⟩ _
      dsimp only
      cases hs : sameSer a b with
      | true =>
       unfold sameSer at hs
       simp only [Bool.and_eq_true, decide_eq_true_eq] at hs
       obtain ⟨⟨⟨⟨c1, c2⟩, c3⟩, c4⟩, c5⟩ := hs
       refine W.seq (W.region (WL.faN (T := Ty) (off' := 0) rfl rfl rfl rfl rfl rfl rfl (WL.ldN (T := Ty) (j := 0) rfl rfl rfl rfl rfl rfl (WL.faN (T := Ty) (off' := 0) rfl rfl rfl rfl rfl rfl rfl (WL.ldN (T := Ty) (j := 1) rfl rfl rfl rfl rfl rfl (WL.neq rfl rfl rfl (WL.mv rfl rfl (WL.gF rfl rfl (by omega) (WL.faN (T := Ty) (off' := 1) rfl rfl rfl rfl rfl rfl rfl (WL.gF rfl rfl (by omega) (WL.ldN (T := Ty) (j := 0) rfl rfl rfl rfl rfl rfl (WL.gF rfl rfl (by omega) (WL.faN (T := Ty) (off' := 1) rfl rfl rfl rfl rfl rfl rfl ?_)))))))))))))
       refine WL.gF rfl rfl (by omega) (WL.ldN (T := Ty) (j := 1) rfl rfl rfl rfl rfl rfl (WL.gF rfl rfl (by omega) (WL.neB (T := Ty) rfl rfl rfl rfl (WL.pickFp rfl rfl (by omega) rfl (WL.mv rfl rfl ?_)))))
       rw [c2]
       refine WL.gY rfl rfl (WL.faN (T := Ty) (off' := 2) rfl rfl rfl rfl rfl rfl rfl (WL.gY rfl rfl (WL.ldN (T := Ty) (j := 0) rfl rfl rfl rfl rfl rfl (WL.gY rfl rfl (WL.faN (T := Ty) (off' := 2) rfl rfl rfl rfl rfl rfl rfl (WL.gY rfl rfl (WL.ldN (T := Ty) (j := 1) rfl rfl rfl rfl rfl rfl (WL.gY rfl rfl (WL.neB (T := Ty) rfl rfl rfl rfl (WL.pickF rfl rfl rfl (WL.mv rfl rfl ?_)))))))))))
       rw [c3]
       refine WL.gY rfl rfl (WL.faN (T := Ty) (off' := 3) rfl rfl rfl rfl rfl rfl rfl (WL.gY rfl rfl (WL.ldN (T := Ty) (j := 0) rfl rfl rfl rfl rfl rfl (WL.gY rfl rfl (WL.faN (T := Ty) (off' := 3) rfl rfl rfl rfl rfl rfl rfl (WL.gY rfl rfl (WL.ldN (T := Ty) (j := 1) rfl rfl rfl rfl rfl rfl (WL.gY rfl rfl (WL.neq rfl rfl rfl (WL.pickF rfl rfl rfl (WL.mv rfl rfl (WL.gF rfl rfl (by omega) (WL.faN (T := Ty) (off' := 4) rfl rfl rfl rfl rfl rfl rfl ?_)))))))))))))
       refine WL.gF rfl rfl (by omega) (WL.ldN (T := Ty) (j := 0) rfl rfl rfl rfl rfl rfl (WL.gF rfl rfl (by omega) (WL.faN (T := Ty) (off' := 4) rfl rfl rfl rfl rfl rfl rfl (WL.gF rfl rfl (by omega) (WL.ldN (T := Ty) (j := 1) rfl rfl rfl rfl rfl rfl (WL.gF rfl rfl (by omega) ?_))))))
       refine WL.callV rfl rfl (fun x p d => refM_c _ _ _ _ _ (by first | assumption | exact ROs.wide (by assumption) | exact ROs.mono (by assumption) (eqh_at 0 rfl p d) | exact ros_at 0 rfl p d | exact ros_at 1 rfl p d | exact ros_at 2 rfl p d | exact ros_at 3 rfl p d | exact ros_at 4 rfl p d) (by first | assumption | exact ROs.wide (by assumption) | exact ROs.mono (by assumption) (eqh_at 0 rfl p d) | exact ros_at 0 rfl p d | exact ros_at 1 rfl p d | exact ros_at 2 rfl p d | exact ros_at 3 rfl p d | exact ros_at 4 rfl p d) (by first | assumption | omega)) ?_
       refine WL.gF rfl rfl (by omega) (WL.not rfl rfl (WL.pickFp rfl rfl (by omega) rfl (WL.nil ?_)))
       rw [c5]
       refine W.condF rfl (W.skip (W.inBlock (W.region (WL.mv rfl rfl (WL.addK rfl rfl rfl (wrap_i64 ⟨by omega, by omega⟩) (WL.as rfl rfl (WL.nil ?_)))))))
       have hA' : allB sameSer (L.map Prod.fst) (L'.map Prod.fst) = allB sameSer ((L.drop (i + 1)).map Prod.fst) ((L'.drop (i + 1)).map Prod.fst) := by
        rw [hA, show sameSer a b = true by unfold sameSer; rw [decide_eq_true c1, c2, c3, decide_eq_true c4, c5]; rfl, Bool.true_and]
       refine W.fit (by (repeat' first | exact Sel.nil | apply Sel.k | exact Pick.h | apply Pick.t)) (W.sub ?_ (next (i + 1) ⟨by omega, hA'⟩ (by omega)))
       exact ⟨rfl, rfl, rfl, rfl, trivial⟩
      | false =>
       have e : allB sameSer (L.map Prod.fst) (L'.map Prod.fst) = false := by rw [hA, hs]; rfl
       rw [e] at hz
       simp only [Bool.false_and] at hz
       subst hz
       unfold sameSer at hs
       by_cases c1 : a.id = b.id
       ·rw [decide_eq_true c1, Bool.true_and] at hs
        cases c2 : (a.shut == b.shut) with
        | false =>
         refine W.seq (W.region (WL.faN (T := Ty) (off' := 0) rfl rfl rfl rfl rfl rfl rfl (WL.ldN (T := Ty) (j := 0) rfl rfl rfl rfl rfl rfl (WL.faN (T := Ty) (off' := 0) rfl rfl rfl rfl rfl rfl rfl (WL.ldN (T := Ty) (j := 1) rfl rfl rfl rfl rfl rfl (WL.neq rfl rfl rfl (WL.mv rfl rfl (WL.gF rfl rfl (by omega) (WL.faN (T := Ty) (off' := 1) rfl rfl rfl rfl rfl rfl rfl (WL.gF rfl rfl (by omega) (WL.ldN (T := Ty) (j := 0) rfl rfl rfl rfl rfl rfl (WL.gF rfl rfl (by omega) (WL.faN (T := Ty) (off' := 1) rfl rfl rfl rfl rfl rfl rfl ?_)))))))))))))
         refine WL.gF rfl rfl (by omega) (WL.ldN (T := Ty) (j := 1) rfl rfl rfl rfl rfl rfl (WL.gF rfl rfl (by omega) (WL.neB (T := Ty) rfl rfl rfl rfl (WL.pickFp rfl rfl (by omega) rfl (WL.mv rfl rfl ?_)))))
         rw [c2]
         refine WL.gdN rfl rfl rfl rfl rfl rfl (WL.gdN rfl rfl rfl rfl rfl rfl (WL.gdN rfl rfl rfl rfl rfl rfl (WL.gdN rfl rfl rfl rfl rfl rfl (WL.gdN rfl rfl rfl rfl rfl rfl (WL.pickT rfl rfl rfl (WL.mv rfl rfl (WL.gdN rfl rfl rfl rfl rfl rfl (WL.gdN rfl rfl rfl rfl rfl rfl (WL.gdN rfl rfl rfl rfl rfl rfl (WL.gdN rfl rfl rfl rfl rfl rfl (WL.gdN rfl rfl rfl rfl rfl rfl (WL.pickT rfl rfl rfl (WL.mv rfl rfl ?_)))))))))))))
         refine WL.gdN rfl rfl rfl rfl rfl rfl (WL.gdN rfl rfl rfl rfl rfl rfl (WL.gdN rfl rfl rfl rfl rfl rfl (WL.gdN rfl rfl rfl rfl rfl rfl (WL.gdN rfl rfl rfl rfl rfl rfl (WL.gdN rfl rfl rfl rfl rfl rfl (WL.pickT rfl rfl rfl (WL.nil (W.condT rfl (W.seq (W.region (WL.as rfl rfl (WL.nil ?_))))))))))))
         exact W.fit (Hs' := []) (by (repeat' first | exact Sel.nil | apply Sel.k | exact Pick.h | apply Pick.t)) (W.ret1 rfl rfl (fun h q => ⟨rfl, q⟩))
        | true =>
         rw [c2, Bool.true_and] at hs
         cases c3 : (a.any == b.any) with
         | false =>
          refine W.seq (W.region (WL.faN (T := Ty) (off' := 0) rfl rfl rfl rfl rfl rfl rfl (WL.ldN (T := Ty) (j := 0) rfl rfl rfl rfl rfl rfl (WL.faN (T := Ty) (off' := 0) rfl rfl rfl rfl rfl rfl rfl (WL.ldN (T := Ty) (j := 1) rfl rfl rfl rfl rfl rfl (WL.neq rfl rfl rfl (WL.mv rfl rfl (WL.gF rfl rfl (by omega) (WL.faN (T := Ty) (off' := 1) rfl rfl rfl rfl rfl rfl rfl (WL.gF rfl rfl (by omega) (WL.ldN (T := Ty) (j := 0) rfl rfl rfl rfl rfl rfl (WL.gF rfl rfl (by omega) (WL.faN (T := Ty) (off' := 1) rfl rfl rfl rfl rfl rfl rfl ?_)))))))))))))
          refine WL.gF rfl rfl (by omega) (WL.ldN (T := Ty) (j := 1) rfl rfl rfl rfl rfl rfl (WL.gF rfl rfl (by omega) (WL.neB (T := Ty) rfl rfl rfl rfl (WL.pickFp rfl rfl (by omega) rfl (WL.mv rfl rfl ?_)))))
          rw [c2]
          refine WL.gY rfl rfl (WL.faN (T := Ty) (off' := 2) rfl rfl rfl rfl rfl rfl rfl (WL.gY rfl rfl (WL.ldN (T := Ty) (j := 0) rfl rfl rfl rfl rfl rfl (WL.gY rfl rfl (WL.faN (T := Ty) (off' := 2) rfl rfl rfl rfl rfl rfl rfl (WL.gY rfl rfl (WL.ldN (T := Ty) (j := 1) rfl rfl rfl rfl rfl rfl (WL.gY rfl rfl (WL.neB (T := Ty) rfl rfl rfl rfl (WL.pickF rfl rfl rfl (WL.mv rfl rfl ?_)))))))))))
          rw [c3]
          refine WL.gdN rfl rfl rfl rfl rfl rfl (WL.gdN rfl rfl rfl rfl rfl rfl (WL.gdN rfl rfl rfl rfl rfl rfl (WL.gdN rfl rfl rfl rfl rfl rfl (WL.gdN rfl rfl rfl rfl rfl rfl (WL.pickT rfl rfl rfl (WL.mv rfl rfl (WL.gdN rfl rfl rfl rfl rfl rfl (WL.gdN rfl rfl rfl rfl rfl rfl (WL.gdN rfl rfl rfl rfl rfl rfl (WL.gdN rfl rfl rfl rfl rfl rfl (WL.gdN rfl rfl rfl rfl rfl rfl (WL.gdN rfl rfl rfl rfl rfl rfl (WL.pickT rfl rfl rfl ?_)))))))))))))
          refine WL.nil (W.condT rfl (W.seq (W.region (WL.as rfl rfl (WL.nil ?_)))))
          exact W.fit (Hs' := []) (by (repeat' first | exact Sel.nil | apply Sel.k | exact Pick.h | apply Pick.t)) (W.ret1 rfl rfl (fun h q => ⟨rfl, q⟩))
         | true =>
          rw [c3, Bool.true_and] at hs
          by_cases c4 : a.last = b.last
          ·rw [decide_eq_true c4, Bool.true_and] at hs
           refine W.seq (W.region (WL.faN (T := Ty) (off' := 0) rfl rfl rfl rfl rfl rfl rfl (WL.ldN (T := Ty) (j := 0) rfl rfl rfl rfl rfl rfl (WL.faN (T := Ty) (off' := 0) rfl rfl rfl rfl rfl rfl rfl (WL.ldN (T := Ty) (j := 1) rfl rfl rfl rfl rfl rfl (WL.neq rfl rfl rfl (WL.mv rfl rfl (WL.gF rfl rfl (by omega) (WL.faN (T := Ty) (off' := 1) rfl rfl rfl rfl rfl rfl rfl (WL.gF rfl rfl (by omega) (WL.ldN (T := Ty) (j := 0) rfl rfl rfl rfl rfl rfl (WL.gF rfl rfl (by omega) (WL.faN (T := Ty) (off' := 1) rfl rfl rfl rfl rfl rfl rfl ?_)))))))))))))
           refine WL.gF rfl rfl (by omega) (WL.ldN (T := Ty) (j := 1) rfl rfl rfl rfl rfl rfl (WL.gF rfl rfl (by omega) (WL.neB (T := Ty) rfl rfl rfl rfl (WL.pickFp rfl rfl (by omega) rfl (WL.mv rfl rfl ?_)))))
           rw [c2]
           refine WL.gY rfl rfl (WL.faN (T := Ty) (off' := 2) rfl rfl rfl rfl rfl rfl rfl (WL.gY rfl rfl (WL.ldN (T := Ty) (j := 0) rfl rfl rfl rfl rfl rfl (WL.gY rfl rfl (WL.faN (T := Ty) (off' := 2) rfl rfl rfl rfl rfl rfl rfl (WL.gY rfl rfl (WL.ldN (T := Ty) (j := 1) rfl rfl rfl rfl rfl rfl (WL.gY rfl rfl (WL.neB (T := Ty) rfl rfl rfl rfl (WL.pickF rfl rfl rfl (WL.mv rfl rfl ?_)))))))))))
           rw [c3]
           refine WL.gY rfl rfl (WL.faN (T := Ty) (off' := 3) rfl rfl rfl rfl rfl rfl rfl (WL.gY rfl rfl (WL.ldN (T := Ty) (j := 0) rfl rfl rfl rfl rfl rfl (WL.gY rfl rfl (WL.faN (T := Ty) (off' := 3) rfl rfl rfl rfl rfl rfl rfl (WL.gY rfl rfl (WL.ldN (T := Ty) (j := 1) rfl rfl rfl rfl rfl rfl (WL.gY rfl rfl (WL.neq rfl rfl rfl (WL.pickF rfl rfl rfl (WL.mv rfl rfl (WL.gF rfl rfl (by omega) (WL.faN (T := Ty) (off' := 4) rfl rfl rfl rfl rfl rfl rfl ?_)))))))))))))
           refine WL.gF rfl rfl (by omega) (WL.ldN (T := Ty) (j := 0) rfl rfl rfl rfl rfl rfl (WL.gF rfl rfl (by omega) (WL.faN (T := Ty) (off' := 4) rfl rfl rfl rfl rfl rfl rfl (WL.gF rfl rfl (by omega) (WL.ldN (T := Ty) (j := 1) rfl rfl rfl rfl rfl rfl (WL.gF rfl rfl (by omega) ?_))))))
           refine WL.callV rfl rfl (fun x p d => refM_c _ _ _ _ _ (by first | assumption | exact ROs.wide (by assumption) | exact ROs.mono (by assumption) (eqh_at 0 rfl p d) | exact ros_at 0 rfl p d | exact ros_at 1 rfl p d | exact ros_at 2 rfl p d | exact ros_at 3 rfl p d | exact ros_at 4 rfl p d) (by first | assumption | exact ROs.wide (by assumption) | exact ROs.mono (by assumption) (eqh_at 0 rfl p d) | exact ros_at 0 rfl p d | exact ros_at 1 rfl p d | exact ros_at 2 rfl p d | exact ros_at 3 rfl p d | exact ros_at 4 rfl p d) (by first | assumption | omega)) ?_
           refine WL.gF rfl rfl (by omega) (WL.not rfl rfl (WL.pickFp rfl rfl (by omega) rfl (WL.nil ?_)))
           rw [hs]
           refine W.condT rfl (W.seq (W.region (WL.as rfl rfl (WL.nil ?_))))
           exact W.fit (Hs' := []) (by (repeat' first | exact Sel.nil | apply Sel.k | exact Pick.h | apply Pick.t)) (W.ret1 rfl rfl (fun h q => ⟨rfl, q⟩))
          ·refine W.seq ?_
           refine W.region (WL.faN (T := Ty) (off' := 0) rfl rfl rfl rfl rfl rfl rfl (WL.ldN (T := Ty) (j := 0) rfl rfl rfl rfl rfl rfl (WL.faN (T := Ty) (off' := 0) rfl rfl rfl rfl rfl rfl rfl (WL.ldN (T := Ty) (j := 1) rfl rfl rfl rfl rfl rfl (WL.neq rfl rfl rfl (WL.mv rfl rfl (WL.gF rfl rfl (by omega) (WL.faN (T := Ty) (off' := 1) rfl rfl rfl rfl rfl rfl rfl (WL.gF rfl rfl (by omega) (WL.ldN (T := Ty) (j := 0) rfl rfl rfl rfl rfl rfl (WL.gF rfl rfl (by omega) (WL.faN (T := Ty) (off' := 1) rfl rfl rfl rfl rfl rfl rfl (WL.gF rfl rfl (by omega) ?_)))))))))))))
           refine WL.ldN (T := Ty) (j := 1) rfl rfl rfl rfl rfl rfl (WL.gF rfl rfl (by omega) (WL.neB (T := Ty) rfl rfl rfl rfl (WL.pickFp rfl rfl (by omega) rfl (WL.mv rfl rfl ?_))))
           rw [c2]
           refine WL.gY rfl rfl (WL.faN (T := Ty) (off' := 2) rfl rfl rfl rfl rfl rfl rfl (WL.gY rfl rfl (WL.ldN (T := Ty) (j := 0) rfl rfl rfl rfl rfl rfl (WL.gY rfl rfl (WL.faN (T := Ty) (off' := 2) rfl rfl rfl rfl rfl rfl rfl (WL.gY rfl rfl (WL.ldN (T := Ty) (j := 1) rfl rfl rfl rfl rfl rfl (WL.gY rfl rfl (WL.neB (T := Ty) rfl rfl rfl rfl (WL.pickF rfl rfl rfl (WL.mv rfl rfl ?_)))))))))))
           rw [c3]
           refine WL.gY rfl rfl (WL.faN (T := Ty) (off' := 3) rfl rfl rfl rfl rfl rfl rfl (WL.gY rfl rfl (WL.ldN (T := Ty) (j := 0) rfl rfl rfl rfl rfl rfl (WL.gY rfl rfl (WL.faN (T := Ty) (off' := 3) rfl rfl rfl rfl rfl rfl rfl (WL.gY rfl rfl (WL.ldN (T := Ty) (j := 1) rfl rfl rfl rfl rfl rfl (WL.gY rfl rfl (WL.neq rfl rfl rfl (WL.pickF rfl rfl rfl (WL.mv rfl rfl (WL.gdFn rfl rfl rfl rfl rfl (by omega) (WL.gdFn rfl rfl rfl rfl rfl (by omega) ?_)))))))))))))
           refine WL.gdFn rfl rfl rfl rfl rfl (by omega) (WL.gdFn rfl rfl rfl rfl rfl (by omega) (WL.gdFn rfl rfl rfl rfl rfl (by omega) (WL.gdFn rfl rfl rfl rfl rfl (by omega) (WL.pickTp rfl rfl (by omega) rfl (WL.nil (W.condT rfl (W.seq (W.region (WL.as rfl rfl (WL.nil ?_))))))))))
           exact W.fit (Hs' := []) (by (repeat' first | exact Sel.nil | apply Sel.k | exact Pick.h | apply Pick.t)) (W.ret1 rfl rfl (fun h q => ⟨rfl, q⟩))
       ·refine W.seq ?_
        refine W.region (WL.faN (T := Ty) (off' := 0) rfl rfl rfl rfl rfl rfl rfl (WL.ldN (T := Ty) (j := 0) rfl rfl rfl rfl rfl rfl (WL.faN (T := Ty) (off' := 0) rfl rfl rfl rfl rfl rfl rfl (WL.ldN (T := Ty) (j := 1) rfl rfl rfl rfl rfl rfl (WL.neq rfl rfl rfl (WL.mv rfl rfl (WL.gdFn rfl rfl rfl rfl rfl (by omega) (WL.gdFn rfl rfl rfl rfl rfl (by omega) (WL.gdFn rfl rfl rfl rfl rfl (by omega) (WL.gdFn rfl rfl rfl rfl rfl (by omega) (WL.gdFn rfl rfl rfl rfl rfl (by omega) (WL.pickTp rfl rfl (by omega) rfl (WL.mv rfl rfl ?_)))))))))))))
        refine WL.gdN rfl rfl rfl rfl rfl rfl (WL.gdN rfl rfl rfl rfl rfl rfl (WL.gdN rfl rfl rfl rfl rfl rfl (WL.gdN rfl rfl rfl rfl rfl rfl (WL.gdN rfl rfl rfl rfl rfl rfl (WL.pickT rfl rfl rfl (WL.mv rfl rfl (WL.gdN rfl rfl rfl rfl rfl rfl (WL.gdN rfl rfl rfl rfl rfl rfl (WL.gdN rfl rfl rfl rfl rfl rfl (WL.gdN rfl rfl rfl rfl rfl rfl (WL.gdN rfl rfl rfl rfl rfl rfl (WL.pickT rfl rfl rfl (WL.mv rfl rfl ?_)))))))))))))
        refine WL.gdN rfl rfl rfl rfl rfl rfl (WL.gdN rfl rfl rfl rfl rfl rfl (WL.gdN rfl rfl rfl rfl rfl rfl (WL.gdN rfl rfl rfl rfl rfl rfl (WL.gdN rfl rfl rfl rfl rfl rfl (WL.gdN rfl rfl rfl rfl rfl rfl (WL.pickT rfl rfl rfl (WL.nil (W.condT rfl (W.seq (W.region (WL.as rfl rfl (WL.nil ?_))))))))))))
        exact W.fit (Hs' := []) (by (repeat' first | exact Sel.nil | apply Sel.k | exact Pick.h | apply Pick.t)) (W.ret1 rfl rfl (fun h q => ⟨rfl, q⟩))
     ·refine W.drawA 13 rfl (fun σ0 hσ0 dσ0 => ?_)
      have fσ0_0 := rb_at 0 rfl hσ0 dσ0
      have fσ0_1 := rb_at 1 rfl hσ0 dσ0
      refine WD.takeL 0 rfl (by decide +kernel) (WL.faN (T := Ty) (off' := 0) rfl rfl rfl rfl rfl rfl rfl (WL.nilT (WD.takeL 1 rfl (by decide +kernel) ?_)))
      refine WL.ldBN (T := Ty) rfl rfl rfl rfl (by first | assumption | exact RB.wide (by assumption) | exact In.rb (by assumption)) rfl ?_
      refine WL.nilT (WD.takeL 2 rfl (by decide +kernel) (WL.mv rfl rfl (WL.nilT (WD.takeL 3 rfl (by decide +kernel) ?_))))
      refine WL.ix (T := Ty) rfl rfl rfl (by assumption) rfl rfl (by omega) (by first | omega | decide +kernel) ?_
      refine WL.nilT (WD.takeL 4 rfl (by decide +kernel) ?_)
      refine WL.ldAR (T := Ty) rfl rfl rfl rfl (by first | assumption | exact ROs.wide (by assumption)) (by assumption) rfl ?_
      refine WL.nilT (WD.takeL 5 rfl (by decide +kernel) (WL.faN (T := Ty) (off' := 0) rfl rfl rfl rfl rfl rfl rfl (WL.nilT (WD.takeL 6 rfl (by decide +kernel) ?_))))
      refine WL.ldBN (T := Ty) rfl rfl rfl rfl (by first | assumption | exact RB.wide (by assumption) | exact In.rb (by assumption)) rfl ?_
      refine WL.nilT (WD.takeL 7 rfl (by decide +kernel) (WL.mv rfl rfl (WL.nilT (WD.takeL 8 rfl (by decide +kernel) ?_))))
      refine WL.ix (T := Ty) rfl rfl rfl (by assumption) rfl rfl (by omega) (by first | omega | decide +kernel) ?_
      refine WL.nilT (WD.takeL 9 rfl (by decide +kernel) ?_)
      refine WL.ldAR (T := Ty) rfl rfl rfl rfl (by first | assumption | exact ROs.wide (by assumption)) (by assumption) rfl ?_
      refine WL.nilT ?_
      refine WD.twoL 10 11 rfl rfl (by decide +kernel) ?_ ?_
      ·refine WL.alF (T := Ty) rfl rfl (by repeat' constructor) (fun b2 => ?_)
       refine WL.nilS (WD.oneL 11 rfl (by decide +kernel) ?_)
       refine WL.alF (T := Ty) rfl rfl (by repeat' constructor) (fun b3 => ?_)
       refine WL.nilS (WD.oneL 12 rfl (by decide +kernel) ?_)
       refine WL.stAO (T := Ty) (j := 2) rfl rfl rfl rfl (by repeat' first | exact AO.nil | apply AO.cons (by first | rfl | exact SL.one (by assumption))) rfl rfl (by repeat' constructor) (by repeat' constructor) ?_
       refine WL.nilE ?_
       refine WD.lastG hσ0 (by decide +kernel) (by repeat' constructor) rfl (by repeat' constructor) ?_
       refine WL.stAO (T := Ty) (j := 2) rfl rfl rfl rfl (by repeat' first | exact AO.nil | apply AO.cons (by first | rfl | exact SL.one (by assumption))) rfl rfl (by repeat' constructor) (by repeat' constructor) ?_
       refine WL.nil ?_
       refine W.fit (by (repeat' first | exact Sel.nil | apply Sel.k | exact Pick.h | apply Pick.t)) (W.sub ?_ (cut ⟨_, _⟩ trivial))
       exact ⟨rfl, rfl, rfl, rfl, rfl, rfl, trivial⟩
      ·refine WL.alF (T := Ty) rfl rfl (by repeat' constructor) (fun b2 => ?_)
       refine WL.nilS (WD.oneL 10 rfl (by decide +kernel) ?_)
       refine WL.alF (T := Ty) rfl rfl (by repeat' constructor) (fun b3 => ?_)
       refine WL.nilS (WD.oneL 12 rfl (by decide +kernel) ?_)
       refine WL.stAO (T := Ty) (j := 1) rfl rfl rfl rfl (by repeat' first | exact AO.nil | apply AO.cons (by first | rfl | exact SL.one (by assumption))) rfl rfl (by repeat' constructor) (by repeat' constructor) ?_
       refine WL.nilE ?_
       refine WD.lastG hσ0 (by decide +kernel) (by repeat' constructor) rfl (by repeat' constructor) ?_
       refine WL.stAO (T := Ty) (j := 3) rfl rfl rfl rfl (by repeat' first | exact AO.nil | apply AO.cons (by first | rfl | exact SL.one (by assumption))) rfl rfl (by repeat' constructor) (by repeat' constructor) ?_
       refine WL.nil ?_
       refine W.fit (by (repeat' first | exact Sel.nil | apply Sel.k | exact Pick.h | apply Pick.t)) (W.sub ?_ (cut ⟨_, _⟩ trivial))
       exact ⟨rfl, rfl, rfl, rfl, rfl, rfl, trivial⟩
    ·skip
     have e : allB sameSer (L.map Prod.fst) (L'.map Prod.fst) = true := by
      rw [hA, List.drop_of_length_le (by omega), List.drop_of_length_le (by omega)]; rfl
     rw [e, Bool.true_and] at hz
     refine W.seq (W.seq (W.region (WL.mv rfl rfl (WL.faN (T := Ty) (off' := 0) rfl rfl rfl rfl rfl rfl rfl (WL.ldN (T := Ty) (j := 1) rfl rfl rfl rfl rfl rfl ?_)))))
     refine WL.len (T := Ty) rfl rfl (by assumption) rfl ?_
     refine WL.lss rfl rfl rfl (WL.nil (W.condpF rfl (by omega) (W.exit rfl (W.seq (W.seq (W.region (WL.as rfl rfl (WL.nil (W.block ?_)))))))))
     refine W.loopS (σ := Nat) (fun i => [(2, pt b0 0), (3, pt b1 0), (4, .bool false), (8, .int .i64 (i : Int))]) (fun _ => [box b1 [sv', iv', .int .i64 m'.next] 31, box b0 [sv, iv, .int .i64 m.next] 31]) (fun i => i ≤ K.length ∧ allB sameItr (K.map Prod.fst) (K'.map Prod.fst) = allB sameItr ((K.drop i).map Prod.fst) ((K'.drop i).map Prod.fst)) (fun i => K.length - i) 0 ⟨rfl, rfl, rfl, rfl, trivial⟩ rfl ⟨Nat.zero_le _, rfl⟩ ?_
     clear next hlt hA hi i
     intro i ⟨hi, hA⟩ next
     by_cases hlt : i < K.length
     ·obtain ⟨⟨a, u⟩, ha⟩ : ∃ a, K[i]? = some a := ⟨_, List.getElem?_eq_getElem hlt⟩
      obtain ⟨⟨b, u'⟩, hb'⟩ : ∃ b, K'[i]? = some b := ⟨_, List.getElem?_eq_getElem (by omega)⟩
      have d1 : (K.flatMap itrC)[((i : Nat) : Int).toNat * 2 + 0]? = some (.int .i64 a.id) := flat_get itr_len ha rfl
      have d2 : (K.flatMap itrC)[((i : Nat) : Int).toNat * 2 + 1]? = some u := flat_get itr_len ha rfl
      have d3 : (K'.flatMap itrC)[((i : Nat) : Int).toNat * 2 + 0]? = some (.int .i64 b.id) := flat_get itr_len hb' rfl
      have d4 : (K'.flatMap itrC)[((i : Nat) : Int).toNat * 2 + 1]? = some u' := flat_get itr_len hb' rfl
      have ru : ROs ρ 2 u (a.rest.flatMap smC) := r4 _ (List.mem_of_getElem? ha)
      have ru' : ROs ρ 2 u' (b.rest.flatMap smC) := r4' _ (List.mem_of_getElem? hb')
      have hla := g2 _ (List.mem_of_getElem? ha)
      dsimp only at hla
      rw [drop_cons ha, drop_cons hb', List.map_cons, List.map_cons, allB] at hA
      unfold sameItr at hA
      by_cases c1 : a.id = b.id
      ·rw [decide_eq_true c1, Bool.true_and] at hA
       cases c5 : sameL a.rest b.rest with
       | true =>
        rw [c5, Bool.true_and] at hA
        refine W.seq (W.seq (W.region (WL.mv rfl rfl (WL.faN (T := Ty) (off' := 1) rfl rfl rfl rfl rfl rfl rfl (WL.ldN (T := Ty) (j := 1) rfl rfl rfl rfl rfl rfl ?_)))))
        refine WL.len (T := Ty) rfl rfl (by assumption) rfl ?_
        refine WL.lss rfl rfl rfl (WL.nil (W.condpT rfl (by omega) (W.skip (W.seq (W.block (W.seq ?_))))))
        refine W.drawA 29 rfl (fun σ0 hσ0 dσ0 => ?_)
        have fσ0_0 := rb_at 0 rfl hσ0 dσ0
        have fσ0_1 := rb_at 1 rfl hσ0 dσ0
        refine WD.takeL 0 rfl (by decide +kernel) (WL.faN (T := Ty) (off' := 1) rfl rfl rfl rfl rfl rfl rfl (WL.nilT (WD.takeL 1 rfl (by decide +kernel) ?_)))
        refine WL.ldBN (T := Ty) rfl rfl rfl rfl (by first | assumption | exact RB.wide (by assumption) | exact In.rb (by assumption)) rfl ?_
        refine WL.nilT (WD.takeL 2 rfl (by decide +kernel) (WL.mv rfl rfl (WL.nilT (WD.takeL 3 rfl (by decide +kernel) ?_))))
        refine WL.ix (T := Ty) rfl rfl rfl (by assumption) rfl rfl (by omega) (by first | omega | decide +kernel) ?_
        refine WL.nilT (WD.takeL 4 rfl (by decide +kernel) (WL.faEN (T := Ty) (off' := 0) rfl rfl rfl rfl rfl rfl rfl (WL.nilT (WD.takeL 5 rfl (by decide +kernel) ?_))))
        refine WL.ldR (T := Ty) rfl rfl rfl rfl (by first | assumption | exact ROs.wide (by assumption)) (by assumption) ?_
        refine WL.nilT (WD.takeL 6 rfl (by decide +kernel) (WL.faN (T := Ty) (off' := 1) rfl rfl rfl rfl rfl rfl rfl (WL.nilT (WD.takeL 7 rfl (by decide +kernel) ?_))))
        refine WL.ldBN (T := Ty) rfl rfl rfl rfl (by first | assumption | exact RB.wide (by assumption) | exact In.rb (by assumption)) rfl ?_
        refine WL.nilT (WD.takeL 8 rfl (by decide +kernel) (WL.mv rfl rfl (WL.nilT (WD.takeL 9 rfl (by decide +kernel) ?_))))
        refine WL.ix (T := Ty) rfl rfl rfl (by assumption) rfl rfl (by omega) (by first | omega | decide +kernel) ?_
        refine WL.nilT (WD.takeL 10 rfl (by decide +kernel) (WL.faEN (T := Ty) (off' := 0) rfl rfl rfl rfl rfl rfl rfl (WL.nilT (WD.takeL 11 rfl (by decide +kernel) ?_))))
        refine WL.ldR (T := Ty) rfl rfl rfl rfl (by first | assumption | exact ROs.wide (by assumption)) (by assumption) ?_
        refine WL.nilT (WD.takeL 12 rfl (by decide +kernel) (WL.neq rfl rfl rfl (WL.nilT (WD.takeL 13 rfl (by decide +kernel) (WL.mv rfl rfl (WL.nilT (WD.takeL 14 rfl (by decide +kernel) (WL.gF rfl rfl (by omega) (WL.faN (T := Ty) (off' := 1) rfl rfl rfl rfl rfl rfl rfl (WL.nilT (WD.takeL 15 rfl (by decide +kernel) (WL.gF rfl rfl (by omega) ?_))))))))))))
        refine WL.ldBN (T := Ty) rfl rfl rfl rfl (by first | assumption | exact RB.wide (by assumption) | exact In.rb (by assumption)) rfl ?_
        refine WL.nilT (WD.takeL 16 rfl (by decide +kernel) (WL.gF rfl rfl (by omega) (WL.mv rfl rfl (WL.nilT (WD.takeL 17 rfl (by decide +kernel) (WL.gF rfl rfl (by omega) ?_))))))
        refine WL.ix (T := Ty) rfl rfl rfl (by assumption) rfl rfl (by omega) (by first | omega | decide +kernel) ?_
        refine WL.nilT (WD.takeL 18 rfl (by decide +kernel) (WL.gF rfl rfl (by omega) (WL.faEN (T := Ty) (off' := 1) rfl rfl rfl rfl rfl rfl rfl (WL.nilT (WD.takeL 19 rfl (by decide +kernel) (WL.gF rfl rfl (by omega) ?_))))))
        refine WL.ldR (T := Ty) rfl rfl rfl rfl (by first | assumption | exact ROs.wide (by assumption)) (by assumption) ?_
        refine WL.nilT (WD.takeL 20 rfl (by decide +kernel) (WL.gF rfl rfl (by omega) (WL.faN (T := Ty) (off' := 1) rfl rfl rfl rfl rfl rfl rfl (WL.nilT (WD.takeL 21 rfl (by decide +kernel) (WL.gF rfl rfl (by omega) ?_))))))
        refine WL.ldBN (T := Ty) rfl rfl rfl rfl (by first | assumption | exact RB.wide (by assumption) | exact In.rb (by assumption)) rfl ?_
        refine WL.nilT (WD.takeL 22 rfl (by decide +kernel) (WL.gF rfl rfl (by omega) (WL.mv rfl rfl (WL.nilT (WD.takeL 23 rfl (by decide +kernel) (WL.gF rfl rfl (by omega) ?_))))))
        refine WL.ix (T := Ty) rfl rfl rfl (by assumption) rfl rfl (by omega) (by first | omega | decide +kernel) ?_
        refine WL.nilT (WD.takeL 24 rfl (by decide +kernel) (WL.gF rfl rfl (by omega) (WL.faEN (T := Ty) (off' := 1) rfl rfl rfl rfl rfl rfl rfl (WL.nilT (WD.takeL 25 rfl (by decide +kernel) (WL.gF rfl rfl (by omega) ?_))))))
        refine WL.ldR (T := Ty) rfl rfl rfl rfl (by first | assumption | exact ROs.wide (by assumption)) (by assumption) ?_
        refine WL.nilT (WD.oneL 26 rfl (by decide +kernel) (WL.gF rfl rfl (by omega) ?_))
        refine WL.callV rfl rfl (fun x p d => refM_c _ _ _ _ _ (by first | assumption | exact ROs.wide (by assumption) | exact ROs.mono (by assumption) (eqh_at 0 rfl p d) | exact ros_at 0 rfl p d | exact ros_at 1 rfl p d | exact ros_at 2 rfl p d | exact ros_at 3 rfl p d | exact ros_at 4 rfl p d) (by first | assumption | exact ROs.wide (by assumption) | exact ROs.mono (by assumption) (eqh_at 0 rfl p d) | exact ros_at 0 rfl p d | exact ros_at 1 rfl p d | exact ros_at 2 rfl p d | exact ros_at 3 rfl p d | exact ros_at 4 rfl p d) (by first | assumption | omega)) ?_
        refine WL.nilE (WD.takeL 27 rfl (by decide +kernel) (WL.gF rfl rfl (by omega) (WL.not rfl rfl (WL.nilT (WD.takeL 28 rfl (by decide +kernel) (WL.pickFp rfl rfl (by omega) rfl (WL.nilT ?_)))))))
        refine WD.doneF hσ0 (by decide +kernel) (by repeat' constructor) ?_
        rw [c5]
        refine W.condF rfl (W.skip (W.inBlock (W.region (WL.mv rfl rfl (WL.addK rfl rfl rfl (wrap_i64 ⟨by omega, by omega⟩) (WL.as rfl rfl (WL.nil ?_)))))))
        refine W.fit (by (repeat' first | exact Sel.nil | apply Sel.k | exact Pick.h | apply Pick.t)) (W.sub ?_ (next (i + 1) ⟨by omega, hA⟩ (by omega)))
        exact ⟨rfl, rfl, rfl, rfl, trivial⟩
       | false =>
        rw [c5, Bool.false_and] at hA
        rw [show allB sameItr (K.map Prod.fst) (K'.map Prod.fst) = false from hA] at hz
        subst hz
        refine W.seq (W.seq (W.region (WL.mv rfl rfl (WL.faN (T := Ty) (off' := 1) rfl rfl rfl rfl rfl rfl rfl (WL.ldN (T := Ty) (j := 1) rfl rfl rfl rfl rfl rfl ?_)))))
        refine WL.len (T := Ty) rfl rfl (by assumption) rfl ?_
        refine WL.lss rfl rfl rfl (WL.nil (W.condpT rfl (by omega) (W.skip (W.seq (W.block (W.seq ?_))))))
        refine W.drawA 29 rfl (fun σ0 hσ0 dσ0 => ?_)
        have fσ0_0 := rb_at 0 rfl hσ0 dσ0
        have fσ0_1 := rb_at 1 rfl hσ0 dσ0
        refine WD.takeL 0 rfl (by decide +kernel) (WL.faN (T := Ty) (off' := 1) rfl rfl rfl rfl rfl rfl rfl (WL.nilT (WD.takeL 1 rfl (by decide +kernel) ?_)))
        refine WL.ldBN (T := Ty) rfl rfl rfl rfl (by first | assumption | exact RB.wide (by assumption) | exact In.rb (by assumption)) rfl ?_
        refine WL.nilT (WD.takeL 2 rfl (by decide +kernel) (WL.mv rfl rfl (WL.nilT (WD.takeL 3 rfl (by decide +kernel) ?_))))
        refine WL.ix (T := Ty) rfl rfl rfl (by assumption) rfl rfl (by omega) (by first | omega | decide +kernel) ?_
        refine WL.nilT (WD.takeL 4 rfl (by decide +kernel) (WL.faEN (T := Ty) (off' := 0) rfl rfl rfl rfl rfl rfl rfl (WL.nilT (WD.takeL 5 rfl (by decide +kernel) ?_))))
        refine WL.ldR (T := Ty) rfl rfl rfl rfl (by first | assumption | exact ROs.wide (by assumption)) (by assumption) ?_
        refine WL.nilT (WD.takeL 6 rfl (by decide +kernel) (WL.faN (T := Ty) (off' := 1) rfl rfl rfl rfl rfl rfl rfl (WL.nilT (WD.takeL 7 rfl (by decide +kernel) ?_))))
        refine WL.ldBN (T := Ty) rfl rfl rfl rfl (by first | assumption | exact RB.wide (by assumption) | exact In.rb (by assumption)) rfl ?_
        refine WL.nilT (WD.takeL 8 rfl (by decide +kernel) (WL.mv rfl rfl (WL.nilT (WD.takeL 9 rfl (by decide +kernel) ?_))))
        refine WL.ix (T := Ty) rfl rfl rfl (by assumption) rfl rfl (by omega) (by first | omega | decide +kernel) ?_
        refine WL.nilT (WD.takeL 10 rfl (by decide +kernel) (WL.faEN (T := Ty) (off' := 0) rfl rfl rfl rfl rfl rfl rfl (WL.nilT (WD.takeL 11 rfl (by decide +kernel) ?_))))
        refine WL.ldR (T := Ty) rfl rfl rfl rfl (by first | assumption | exact ROs.wide (by assumption)) (by assumption) ?_
        refine WL.nilT (WD.takeL 12 rfl (by decide +kernel) (WL.neq rfl rfl rfl (WL.nilT (WD.takeL 13 rfl (by decide +kernel) (WL.mv rfl rfl (WL.nilT (WD.takeL 14 rfl (by decide +kernel) (WL.gF rfl rfl (by omega) (WL.faN (T := Ty) (off' := 1) rfl rfl rfl rfl rfl rfl rfl (WL.nilT (WD.takeL 15 rfl (by decide +kernel) (WL.gF rfl rfl (by omega) ?_))))))))))))
        refine WL.ldBN (T := Ty) rfl rfl rfl rfl (by first | assumption | exact RB.wide (by assumption) | exact In.rb (by assumption)) rfl ?_
        refine WL.nilT (WD.takeL 16 rfl (by decide +kernel) (WL.gF rfl rfl (by omega) (WL.mv rfl rfl (WL.nilT (WD.takeL 17 rfl (by decide +kernel) (WL.gF rfl rfl (by omega) ?_))))))
        refine WL.ix (T := Ty) rfl rfl rfl (by assumption) rfl rfl (by omega) (by first | omega | decide +kernel) ?_
        refine WL.nilT (WD.takeL 18 rfl (by decide +kernel) (WL.gF rfl rfl (by omega) (WL.faEN (T := Ty) (off' := 1) rfl rfl rfl rfl rfl rfl rfl (WL.nilT (WD.takeL 19 rfl (by decide +kernel) (WL.gF rfl rfl (by omega) ?_))))))
        refine WL.ldR (T := Ty) rfl rfl rfl rfl (by first | assumption | exact ROs.wide (by assumption)) (by assumption) ?_
        refine WL.nilT (WD.takeL 20 rfl (by decide +kernel) (WL.gF rfl rfl (by omega) (WL.faN (T := Ty) (off' := 1) rfl rfl rfl rfl rfl rfl rfl (WL.nilT (WD.takeL 21 rfl (by decide +kernel) (WL.gF rfl rfl (by omega) ?_))))))
        refine WL.ldBN (T := Ty) rfl rfl rfl rfl (by first | assumption | exact RB.wide (by assumption) | exact In.rb (by assumption)) rfl ?_
        refine WL.nilT (WD.takeL 22 rfl (by decide +kernel) (WL.gF rfl rfl (by omega) (WL.mv rfl rfl (WL.nilT (WD.takeL 23 rfl (by decide +kernel) (WL.gF rfl rfl (by omega) ?_))))))
        refine WL.ix (T := Ty) rfl rfl rfl (by assumption) rfl rfl (by omega) (by first | omega | decide +kernel) ?_
        refine WL.nilT (WD.takeL 24 rfl (by decide +kernel) (WL.gF rfl rfl (by omega) (WL.faEN (T := Ty) (off' := 1) rfl rfl rfl rfl rfl rfl rfl (WL.nilT (WD.takeL 25 rfl (by decide +kernel) (WL.gF rfl rfl (by omega) ?_))))))
        refine WL.ldR (T := Ty) rfl rfl rfl rfl (by first | assumption | exact ROs.wide (by assumption)) (by assumption) ?_
        refine WL.nilT (WD.oneL 26 rfl (by decide +kernel) (WL.gF rfl rfl (by omega) ?_))
        refine WL.callV rfl rfl (fun x p d => refM_c _ _ _ _ _ (by first | assumption | exact ROs.wide (by assumption) | exact ROs.mono (by assumption) (eqh_at 0 rfl p d) | exact ros_at 0 rfl p d | exact ros_at 1 rfl p d | exact ros_at 2 rfl p d | exact ros_at 3 rfl p d | exact ros_at 4 rfl p d) (by first | assumption | exact ROs.wide (by assumption) | exact ROs.mono (by assumption) (eqh_at 0 rfl p d) | exact ros_at 0 rfl p d | exact ros_at 1 rfl p d | exact ros_at 2 rfl p d | exact ros_at 3 rfl p d | exact ros_at 4 rfl p d) (by first | assumption | omega)) ?_
        refine WL.nilE (WD.takeL 27 rfl (by decide +kernel) (WL.gF rfl rfl (by omega) (WL.not rfl rfl (WL.nilT (WD.takeL 28 rfl (by decide +kernel) (WL.pickFp rfl rfl (by omega) rfl (WL.nilT ?_)))))))
        refine WD.doneF hσ0 (by decide +kernel) (by repeat' constructor) ?_
        rw [c5]
        refine W.condT rfl (W.seq (W.region (WL.as rfl rfl (WL.nil ?_))))
        exact W.fit (Hs' := []) (by (repeat' first | exact Sel.nil | apply Sel.k | exact Pick.h | apply Pick.t)) (W.ret1 rfl rfl (fun h q => ⟨rfl, q⟩))
      ·rw [decide_eq_false c1] at hA
       rw [show allB sameItr (K.map Prod.fst) (K'.map Prod.fst) = false by rw [show allB sameItr (K.map Prod.fst) (K'.map Prod.fst) = _ from hA]; rfl] at hz
       subst hz
       refine W.seq (W.seq (W.region (WL.mv rfl rfl (WL.faN (T := Ty) (off' := 1) rfl rfl rfl rfl rfl rfl rfl (WL.ldN (T := Ty) (j := 1) rfl rfl rfl rfl rfl rfl ?_)))))
       refine WL.len (T := Ty) rfl rfl (by assumption) rfl ?_
       refine WL.lss rfl rfl rfl (WL.nil (W.condpT rfl (by omega) (W.skip (W.seq (W.block (W.seq ?_))))))
       refine W.drawA 29 rfl (fun σ0 hσ0 dσ0 => ?_)
       have fσ0_0 := rb_at 0 rfl hσ0 dσ0
       have fσ0_1 := rb_at 1 rfl hσ0 dσ0
       refine WD.takeL 0 rfl (by decide +kernel) (WL.faN (T := Ty) (off' := 1) rfl rfl rfl rfl rfl rfl rfl (WL.nilT (WD.takeL 1 rfl (by decide +kernel) ?_)))
       refine WL.ldBN (T := Ty) rfl rfl rfl rfl (by first | assumption | exact RB.wide (by assumption) | exact In.rb (by assumption)) rfl ?_
       refine WL.nilT (WD.takeL 2 rfl (by decide +kernel) (WL.mv rfl rfl (WL.nilT (WD.takeL 3 rfl (by decide +kernel) ?_))))
       refine WL.ix (T := Ty) rfl rfl rfl (by assumption) rfl rfl (by omega) (by first | omega | decide +kernel) ?_
       refine WL.nilT (WD.takeL 4 rfl (by decide +kernel) (WL.faEN (T := Ty) (off' := 0) rfl rfl rfl rfl rfl rfl rfl (WL.nilT (WD.takeL 5 rfl (by decide +kernel) ?_))))
       refine WL.ldR (T := Ty) rfl rfl rfl rfl (by first | assumption | exact ROs.wide (by assumption)) (by assumption) ?_
       refine WL.nilT (WD.takeL 6 rfl (by decide +kernel) (WL.faN (T := Ty) (off' := 1) rfl rfl rfl rfl rfl rfl rfl (WL.nilT (WD.takeL 7 rfl (by decide +kernel) ?_))))
       refine WL.ldBN (T := Ty) rfl rfl rfl rfl (by first | assumption | exact RB.wide (by assumption) | exact In.rb (by assumption)) rfl ?_
       refine WL.nilT (WD.takeL 8 rfl (by decide +kernel) (WL.mv rfl rfl (WL.nilT (WD.takeL 9 rfl (by decide +kernel) ?_))))
       refine WL.ix (T := Ty) rfl rfl rfl (by assumption) rfl rfl (by omega) (by first | omega | decide +kernel) ?_
       refine WL.nilT (WD.takeL 10 rfl (by decide +kernel) (WL.faEN (T := Ty) (off' := 0) rfl rfl rfl rfl rfl rfl rfl (WL.nilT (WD.takeL 11 rfl (by decide +kernel) ?_))))
       refine WL.ldR (T := Ty) rfl rfl rfl rfl (by first | assumption | exact ROs.wide (by assumption)) (by assumption) ?_
       refine WL.nilT (WD.takeL 12 rfl (by decide +kernel) (WL.neq rfl rfl rfl (WL.nilT (WD.takeL 13 rfl (by decide +kernel) (WL.mv rfl rfl (WL.nilT (WD.takeL 14 rfl (by decide +kernel) (WL.gdFn rfl rfl rfl rfl rfl (by omega) (WL.nilT (WD.takeL 15 rfl (by decide +kernel) (WL.gdFn rfl rfl rfl rfl rfl (by omega) (WL.nilT (WD.takeL 16 rfl (by decide +kernel) ?_)))))))))))))
       refine WL.gdFn rfl rfl rfl rfl rfl (by omega) (WL.nilT (WD.takeL 17 rfl (by decide +kernel) (WL.gdFn rfl rfl rfl rfl rfl (by omega) (WL.nilT (WD.takeL 18 rfl (by decide +kernel) (WL.gdFn rfl rfl rfl rfl rfl (by omega) (WL.nilT (WD.takeL 19 rfl (by decide +kernel) (WL.gdFn rfl rfl rfl rfl rfl (by omega) (WL.nilT (WD.takeL 20 rfl (by decide +kernel) (WL.gdFn rfl rfl rfl rfl rfl (by omega) (WL.nilT ?_)))))))))))))
       refine WD.takeL 21 rfl (by decide +kernel) (WL.gdFn rfl rfl rfl rfl rfl (by omega) (WL.nilT (WD.takeL 22 rfl (by decide +kernel) (WL.gdFn rfl rfl rfl rfl rfl (by omega) (WL.nilT (WD.takeL 23 rfl (by decide +kernel) (WL.gdFn rfl rfl rfl rfl rfl (by omega) (WL.nilT (WD.takeL 24 rfl (by decide +kernel) (WL.gdFn rfl rfl rfl rfl rfl (by omega) (WL.nilT (WD.takeL 25 rfl (by decide +kernel) (WL.gdFn rfl rfl rfl rfl rfl (by omega) ?_)))))))))))))
       refine WL.nilT (WD.takeL 26 rfl (by decide +kernel) (WL.gdFn rfl rfl rfl rfl rfl (by omega) (WL.nilT (WD.takeL 27 rfl (by decide +kernel) (WL.gdFn rfl rfl rfl rfl rfl (by omega) (WL.nilT (WD.takeL 28 rfl (by decide +kernel) (WL.pickTp rfl rfl (by omega) rfl (WL.nilT ?_)))))))))
       refine WD.doneF hσ0 (by decide +kernel) (by repeat' constructor) ?_
       refine W.condT rfl (W.seq (W.region (WL.as rfl rfl (WL.nil ?_))))
       exact W.fit (Hs' := []) (by (repeat' first | exact Sel.nil | apply Sel.k | exact Pick.h | apply Pick.t)) (W.ret1 rfl rfl (fun h q => ⟨rfl, q⟩))
     ·rw [show allB sameItr (K.map Prod.fst) (K'.map Prod.fst) = true by
       rw [hA, List.drop_of_length_le (by omega), List.drop_of_length_le (by omega)]; rfl] at hz
      subst hz
      refine W.seq (W.seq (W.region (WL.mv rfl rfl (WL.faN (T := Ty) (off' := 1) rfl rfl rfl rfl rfl rfl rfl (WL.ldN (T := Ty) (j := 1) rfl rfl rfl rfl rfl rfl ?_)))))
      refine WL.len (T := Ty) rfl rfl (by assumption) rfl ?_
      refine WL.lss rfl rfl rfl (WL.nil (W.condpF rfl (by omega) (W.exit rfl (W.seq (W.region (WL.as rfl rfl (WL.nil ?_)))))))
      exact W.fit (Hs' := []) (by (repeat' first | exact Sel.nil | apply Sel.k | exact Pick.h | apply Pick.t)) (W.ret1 rfl rfl (fun h q => ⟨rfl, q⟩))
   ·rw [allB_len (p := sameItr) (by rw [List.length_map, List.length_map]; exact h3), Bool.and_false] at hz
    subst hz
    refine W.seq (W.region ?_)
    refine WL.bxF rfl rfl (by repeat' constructor) (fun b0 => ?_)
    refine WL.bxF rfl rfl (by repeat' constructor) (fun b1 => ?_)
    refine WL.as rfl rfl (WL.nil (W.seq (W.seq (W.region (WL.faN (T := Ty) (off' := 2) rfl rfl rfl rfl rfl rfl rfl (WL.ldN (T := Ty) (j := 1) rfl rfl rfl rfl rfl rfl (WL.faN (T := Ty) (off' := 2) rfl rfl rfl rfl rfl rfl rfl (WL.ldN (T := Ty) (j := 0) rfl rfl rfl rfl rfl rfl (WL.neq rfl rfl rfl (WL.mv rfl rfl (WL.gF rfl rfl (by omega) (WL.faN (T := Ty) (off' := 0) rfl rfl rfl rfl rfl rfl rfl (WL.gF rfl rfl (by omega) ?_)))))))))))))
    refine WL.ldN (T := Ty) (j := 1) rfl rfl rfl rfl rfl rfl (WL.gF rfl rfl (by omega) ?_)
    refine WL.len (T := Ty) rfl rfl (by assumption) rfl ?_
    refine WL.gF rfl rfl (by omega) (WL.faN (T := Ty) (off' := 0) rfl rfl rfl rfl rfl rfl rfl (WL.gF rfl rfl (by omega) (WL.ldN (T := Ty) (j := 0) rfl rfl rfl rfl rfl rfl (WL.gF rfl rfl (by omega) ?_))))
    refine WL.len (T := Ty) rfl rfl (by assumption) rfl ?_
    refine WL.gF rfl rfl (by omega) (WL.neq rfl rfl rfl (WL.pickFp rfl rfl (by omega) rfl (WL.mv rfl rfl (WL.gF rfl rfl (by omega) (WL.faN (T := Ty) (off' := 1) rfl rfl rfl rfl rfl rfl rfl (WL.gF rfl rfl (by omega) (WL.ldN (T := Ty) (j := 1) rfl rfl rfl rfl rfl rfl (WL.gF rfl rfl (by omega) ?_))))))))
    refine WL.len (T := Ty) rfl rfl (by assumption) rfl ?_
    refine WL.gF rfl rfl (by omega) (WL.faN (T := Ty) (off' := 1) rfl rfl rfl rfl rfl rfl rfl (WL.gF rfl rfl (by omega) (WL.ldN (T := Ty) (j := 0) rfl rfl rfl rfl rfl rfl (WL.gF rfl rfl (by omega) ?_))))
    refine WL.len (T := Ty) rfl rfl (by assumption) rfl ?_
    refine WL.gF rfl rfl (by omega) (WL.neq rfl rfl rfl (WL.pickFp rfl rfl (by omega) rfl (WL.nil (W.condpT rfl (by omega) (W.seq (W.region (WL.as rfl rfl (WL.nil ?_))))))))
    exact W.fit (Hs' := []) (by (repeat' first | exact Sel.nil | apply Sel.k | exact Pick.h | apply Pick.t)) (W.ret1 rfl rfl (fun h q => ⟨rfl, q⟩))
  ·rw [allB_len (p := sameSer) (by rw [List.length_map, List.length_map]; exact h2)] at hz
   simp only [Bool.false_and] at hz
   subst hz
   refine W.seq (W.region ?_)
   refine WL.bxF rfl rfl (by repeat' constructor) (fun b0 => ?_)
   refine WL.bxF rfl rfl (by repeat' constructor) (fun b1 => ?_)
   refine WL.as rfl rfl (WL.nil (W.seq (W.seq (W.region (WL.faN (T := Ty) (off' := 2) rfl rfl rfl rfl rfl rfl rfl (WL.ldN (T := Ty) (j := 1) rfl rfl rfl rfl rfl rfl (WL.faN (T := Ty) (off' := 2) rfl rfl rfl rfl rfl rfl rfl (WL.ldN (T := Ty) (j := 0) rfl rfl rfl rfl rfl rfl (WL.neq rfl rfl rfl (WL.mv rfl rfl (WL.gF rfl rfl (by omega) (WL.faN (T := Ty) (off' := 0) rfl rfl rfl rfl rfl rfl rfl (WL.gF rfl rfl (by omega) ?_)))))))))))))
   refine WL.ldN (T := Ty) (j := 1) rfl rfl rfl rfl rfl rfl (WL.gF rfl rfl (by omega) ?_)
   refine WL.len (T := Ty) rfl rfl (by assumption) rfl ?_
   refine WL.gF rfl rfl (by omega) (WL.faN (T := Ty) (off' := 0) rfl rfl rfl rfl rfl rfl rfl (WL.gF rfl rfl (by omega) (WL.ldN (T := Ty) (j := 0) rfl rfl rfl rfl rfl rfl (WL.gF rfl rfl (by omega) ?_))))
   refine WL.len (T := Ty) rfl rfl (by assumption) rfl ?_
   refine WL.gF rfl rfl (by omega) (WL.neq rfl rfl rfl (WL.pickFp rfl rfl (by omega) rfl (WL.mv rfl rfl (WL.gdFn rfl rfl rfl rfl rfl (by omega) (WL.gdFn rfl rfl rfl rfl rfl (by omega) (WL.gdFn rfl rfl rfl rfl rfl (by omega) (WL.gdFn rfl rfl rfl rfl rfl (by omega) (WL.gdFn rfl rfl rfl rfl rfl (by omega) (WL.gdFn rfl rfl rfl rfl rfl (by omega) (WL.gdFn rfl rfl rfl rfl rfl (by omega) (WL.pickTp rfl rfl (by omega) rfl (WL.nil (W.condT rfl ?_)))))))))))))
   refine W.seq (W.region (WL.as rfl rfl (WL.nil ?_)))
   exact W.fit (Hs' := []) (by (repeat' first | exact Sel.nil | apply Sel.k | exact Pick.h | apply Pick.t)) (W.ret1 rfl rfl (fun h q => ⟨rfl, q⟩))
 ·rw [decide_eq_false h1] at hz
  simp only [Bool.false_and] at hz
  subst hz
  refine W.seq (W.region ?_)
  refine WL.bxF rfl rfl (by repeat' constructor) (fun b0 => ?_)
  refine WL.bxF rfl rfl (by repeat' constructor) (fun b1 => ?_)
  refine WL.as rfl rfl (WL.nil (W.seq (W.seq (W.region (WL.faN (T := Ty) (off' := 2) rfl rfl rfl rfl rfl rfl rfl (WL.ldN (T := Ty) (j := 1) rfl rfl rfl rfl rfl rfl (WL.faN (T := Ty) (off' := 2) rfl rfl rfl rfl rfl rfl rfl (WL.ldN (T := Ty) (j := 0) rfl rfl rfl rfl rfl rfl (WL.neq rfl rfl rfl (WL.mv rfl rfl (WL.gdFn rfl rfl rfl rfl rfl (by omega) (WL.gdFn rfl rfl rfl rfl rfl (by omega) (WL.gdFn rfl rfl rfl rfl rfl (by omega) ?_)))))))))))))
  refine WL.gdFn rfl rfl rfl rfl rfl (by omega) (WL.gdFn rfl rfl rfl rfl rfl (by omega) (WL.gdFn rfl rfl rfl rfl rfl (by omega) (WL.gdFn rfl rfl rfl rfl rfl (by omega) (WL.pickTp rfl rfl (by omega) rfl (WL.mv rfl rfl (WL.gdN rfl rfl rfl rfl rfl rfl (WL.gdN rfl rfl rfl rfl rfl rfl (WL.gdN rfl rfl rfl rfl rfl rfl (WL.gdN rfl rfl rfl rfl rfl rfl (WL.gdN rfl rfl rfl rfl rfl rfl (WL.gdN rfl rfl rfl rfl rfl rfl (WL.gdN rfl rfl rfl rfl rfl rfl (WL.pickT rfl rfl rfl ?_)))))))))))))
  refine WL.nil (W.condT rfl (W.seq (W.region (WL.as rfl rfl (WL.nil ?_)))))
  exact W.fit (Hs' := []) (by (repeat' first | exact Sel.nil | apply Sel.k | exact Pick.h | apply Pick.t)) (W.ret1 rfl rfl (fun h q => ⟨rfl, q⟩))
end Go.Proofs.Ytbebhmdjnneimaa
