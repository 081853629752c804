/- One hand alone, as the document has it: one op. -/
import Derived.Test.YtbebhmdjnneimaaStc
import Derived.Test.YtbebhmdjnneimaaNum
import Derived.Test.YtbebhmdjnneimaaTab
import Derived.Test.YtbebhmdjnneimaaMref2
import Derived.Test.YtbebhmdjnneimaaModl6
set_option linter.unusedSimpArgs false
set_option linter.unusedVariables false
set_option maxRecDepth 20000
set_option maxHeartbeats 4000000
namespace Go.Proofs.Ytbebhmdjnneimaa
open Go
attribute [local irreducible] W WL Fn Buf ROs SL eptr box Rd Src bndOK WD RB Reads In Own
theorem dor_of {M : Mdl} {R : Rst} {sv iv lv : Value} {L : List (Ser × Value)} {K : List (Itr × Value)} (e1 : L.map Prod.fst = M.ser) (e2 : K.map Prod.fst = M.its) {h : Hp}
  (q : sepl [Buf 2 lv (R.list.flatMap smC), Buf 5 sv (L.flatMap serC), Buf 2 iv (K.flatMap itrC), Own owSer L, Own owItr K] h) : DoR M R (.tuple #[.agg #[sv, iv, .int .i64 M.next], .agg #[.int .i64 R.err, .int .i64 R.iter, lv]]) h := by
 obtain ⟨x, y, hx, hy, d, rfl⟩ := q
 exact ⟨_, _, rfl, y, x, ⟨sv, iv, L, K, rfl, e1, e2, hy⟩, sepl_one.2 ⟨lv, rfl, hx⟩, d.symm, join_comm d⟩
theorem dor_err {m : Mdl} {e : Int} {v : Value} {h : Hp} (q : sepl [OMdl v m, Buf 2 nilV []] h) : DoR m ⟨e, 0, []⟩ (.tuple #[v, .agg #[.int .i64 e, .int .i64 0, nilV]]) h := by
 obtain ⟨x, y, hx, hy, d, rfl⟩ := q
 exact ⟨_, _, rfl, x, y, hx, sepl_one.2 ⟨nilV, rfl, sepl_one.1 hy⟩, d, rfl⟩
theorem at_some {m : Mdl} {id : Int} {s : Ser} (hs : m.ser.Pairwise fun a b => a.id < b.id) (h : serHas m.ser id = some s) : idxF (fun s : Ser => decide (s.id = id)) m.ser = (serIx m.ser id : Nat) := by
 unfold idxF
 rw [ser_find hs, h]
 simp only [Option.isSome_some, if_true]
 rw [if_pos (List.getElem?_eq_some_iff.1 (serHas_some h).1).1]
theorem at_none {m : Mdl} {id : Int} (hs : m.ser.Pairwise fun a b => a.id < b.id) (h : serHas m.ser id = none) : idxF (fun s : Ser => decide (s.id = id)) m.ser = -1 := by
 unfold idxF
 rw [ser_find hs, h]
 simp
theorem doR_c (ρ : Hp) (v : Value) (n : Nat) (m : Mdl) (o : MOp) (hm : RMdl ρ v m) (hI : MInv n m) (hn : n ≤ 1000000) :
    Fn Try.prog 20 #[v, .agg (opC o).toArray] ρ [] (DoR (doM m o).1 (doM m o).2) := by
  refine in20 rfl rfl ?_
  obtain ⟨sv, iv, L, K, rfl, e1, e2, r1, r2, r3, r4⟩ := hm.cells
  have q1 := hI.sers
  have q2 := hI.lens
  have q3 := hI.rests
  have q4 : m.its.length ≤ n + 8 := by have := hI.its; omega
  have z1 : m.ser.length ≤ n + 8 := by omega
  have z2 : ∀ s ∈ m.ser, s.list.length ≤ n + 8 := fun s hs => by have := q2 s hs; omega
  have z3 : ∀ x ∈ m.its, x.rest.length ≤ n + 8 := fun s hs => by have := q3 s hs; omega
  have z4 : n + 8 ≤ 100000000 := by omega
  have z5 : SL sv m.ser.length := r1.sl (by rw [ser_cells, ← e1, List.length_map]) (by omega)
  have z6 : SL iv m.its.length := r2.sl (by rw [itr_cells, ← e2, List.length_map]) (by omega)
  refine W.seq (W.region ?_)
  refine WL.bxF rfl rfl (by repeat' constructor) (fun b0 => ?_)
  refine WL.bxF rfl rfl (by repeat' constructor) (fun b1 => ?_)
  refine WL.alF (T := Ty) rfl rfl (by repeat' constructor) (fun b2 => ?_)
  refine WL.alF (T := Ty) rfl rfl (by repeat' constructor) (fun b3 => ?_)
  refine WL.nil (W.seq (W.region ?_))
  refine WL.ldAF (T := Ty) (j := 3) rfl rfl rfl rfl rfl rfl (by repeat' constructor) ?_
  refine WL.callF rfl rfl (fun x p d => copied_c _ _ _ _ (by first | assumption | exact RMdl.wide (by assumption) | exact RMdl.mono (by assumption) (eqh_at 0 rfl p d) | exact (in_at 0 rfl p d).rmdl | exact (in_at 1 rfl p d).rmdl | exact (in_at 2 rfl p d).rmdl | exact (in_at 3 rfl p d).rmdl | exact (in_at 4 rfl p d).rmdl | exact (in_at 5 rfl p d).rmdl) (by assumption) (by assumption) (by assumption) (by assumption) (by assumption)) (fun u4 => ?_)
  refine WL.fact (i := 0) rfl (fun h hb => OMdl.shape hb) (fun hs4 => ?_)
  obtain ⟨sv4, iv4, es4, sa4, sb4⟩ := hs4
  subst es4
  refine WL.stAO (T := Ty) (j := 4) rfl rfl rfl rfl (by repeat' first | exact AO.nil | apply AO.cons (by first | rfl | exact SL.one (by assumption))) rfl rfl (by repeat' constructor) (by repeat' constructor) ?_
  refine WL.nil (W.seq (W.region ?_))
  refine WL.ldAF (T := Ty) (j := 4) rfl rfl rfl rfl rfl rfl (by repeat' constructor) ?_
  refine WL.faN (T := Ty) (off' := 1) rfl rfl rfl rfl rfl rfl rfl (WL.ldN (T := Ty) (j := 3) rfl rfl rfl rfl rfl rfl ?_)
  refine WL.callV rfl rfl (fun x p d => atR_c _ _ _ _ (by first | assumption | exact RMdl.wide (by assumption) | exact RMdl.mono (by assumption) (eqh_at 0 rfl p d) | exact (in_at 0 rfl p d).rmdl | exact (in_at 1 rfl p d).rmdl | exact (in_at 2 rfl p d).rmdl | exact (in_at 3 rfl p d).rmdl | exact (in_at 4 rfl p d).rmdl | exact (in_at 5 rfl p d).rmdl) (by first | assumption | omega)) ?_
  refine WL.as rfl rfl (WL.nil (W.seq ?_))
  refine W.cut (τ := Bool) (fun nm => [(2, pt b0 0), (3, pt b1 0), (4, pt b2 0), (5, pt b3 0), (6, .int .i64 (idxF (fun s => decide (s.id = o.series)) m.ser)), (7, .bool nm)])
    (fun _ => [box b0 [sv4, iv4, .int .i64 m.next] 31, box b1 (opC o) 24, box b2 [nilV, nilV, .int .i64 0] 31, box b3 [.int .i64 0, .int .i64 0, nilV] 34, OMdl (.agg #[sv4, iv4, .int .i64 m.next]) m]) (fun nm => nm = decide (0 ≤ o.series ∧ o.series ≤ 15)) ?_ (fun cut => ?_)
  · intro nm hnm
    by_cases hk : 1 ≤ o.kind ∧ o.kind ≤ 5
    · obtain ⟨hk1, hk2⟩ := hk
      by_cases hs : o.series < 0 ∨ 16 ≤ o.series
      · have hb : badOp o = true := by unfold badOp; rw [if_pos ⟨hk1, hk2⟩]; exact decide_eq_true hs
        rw [show doM m o = (m, ⟨4, 0, []⟩) by unfold doM; rw [if_pos hb]]
        rw [decide_eq_false (by omega)] at hnm
        subst hnm
        unfold opC
        rcases (by omega : o.kind = 1 ∨ o.kind = 2 ∨ o.kind = 3 ∨ o.kind = 4 ∨ o.kind = 5) with h | h | h | h | h
        · skip
          refine W.seq (W.seq (W.region (WL.faN (T := Ty) (off' := 0) rfl rfl rfl rfl rfl rfl rfl (WL.ldN (T := Ty) (j := 1) rfl rfl rfl rfl rfl rfl (WL.nil (W.block (W.seq (W.seq (W.region (WL.eql rfl rfl rfl (WL.as rfl rfl (WL.nil (W.condpT rfl (by omega) ?_)))))))))))))
          refine W.skip (W.condpT rfl (by omega) (W.seq (W.seq (W.region (WL.mv rfl rfl (WL.not rfl rfl (WL.nil (W.condT rfl (W.seq (W.region ?_))))))))))
          refine WL.ldAF (T := Ty) (j := 0) rfl rfl rfl rfl rfl rfl (by repeat' constructor) ?_
          refine WL.bdC (T := Ty) rfl rfl rfl rfl (by repeat' first | exact CO.nil | apply CO.one (by first | rfl | exact SL.one (by assumption)) | apply CO.agg) rfl (by repeat' constructor) ?_
          refine WL.stAO (T := Ty) (j := 2) rfl rfl rfl rfl (by repeat' first | exact AO.nil | apply AO.cons (by first | rfl | exact SL.one (by assumption))) rfl rfl (by repeat' constructor) (by repeat' constructor) ?_
          refine WL.stAO (T := Ty) (j := 3) rfl rfl rfl rfl (by repeat' first | exact AO.nil | apply AO.cons (by first | rfl | exact SL.one (by assumption))) rfl rfl (by repeat' constructor) (by repeat' constructor) ?_
          refine WL.nil (W.nb (sz := 2) ?_)
          refine W.fit (Hs' := [box b2 _ _, box b3 _ _, OMdl _ m, Buf 2 nilV []]) (by (repeat' first | exact Sel.nil | apply Sel.k | exact Pick.h | apply Pick.t)) ?_
          exact W.retCC (T := Ty) (j := 0) (j' := 0) rfl rfl rfl rfl rfl rfl rfl rfl rfl rfl rfl (fun h q => dor_err q)
        · skip
          refine W.seq (W.seq (W.region (WL.faN (T := Ty) (off' := 0) rfl rfl rfl rfl rfl rfl rfl (WL.ldN (T := Ty) (j := 1) rfl rfl rfl rfl rfl rfl (WL.nil (W.block (W.seq (W.seq (W.region (WL.eql rfl rfl rfl (WL.as rfl rfl (WL.nil (W.condpF rfl (by omega) ?_)))))))))))))
          refine W.seq (W.region (WL.eql rfl rfl rfl (WL.as rfl rfl (WL.nil (W.condpT rfl (by omega) (W.skip (W.condpT rfl (by omega) (W.seq (W.seq (W.region (WL.mv rfl rfl (WL.not rfl rfl (WL.nil ?_)))))))))))))
          refine W.condT rfl (W.seq (W.region ?_))
          refine WL.ldAF (T := Ty) (j := 0) rfl rfl rfl rfl rfl rfl (by repeat' constructor) ?_
          refine WL.bdC (T := Ty) rfl rfl rfl rfl (by repeat' first | exact CO.nil | apply CO.one (by first | rfl | exact SL.one (by assumption)) | apply CO.agg) rfl (by repeat' constructor) ?_
          refine WL.stAO (T := Ty) (j := 2) rfl rfl rfl rfl (by repeat' first | exact AO.nil | apply AO.cons (by first | rfl | exact SL.one (by assumption))) rfl rfl (by repeat' constructor) (by repeat' constructor) ?_
          refine WL.stAO (T := Ty) (j := 3) rfl rfl rfl rfl (by repeat' first | exact AO.nil | apply AO.cons (by first | rfl | exact SL.one (by assumption))) rfl rfl (by repeat' constructor) (by repeat' constructor) ?_
          refine WL.nil (W.nb (sz := 2) ?_)
          refine W.fit (Hs' := [box b2 _ _, box b3 _ _, OMdl _ m, Buf 2 nilV []]) (by (repeat' first | exact Sel.nil | apply Sel.k | exact Pick.h | apply Pick.t)) ?_
          exact W.retCC (T := Ty) (j := 0) (j' := 0) rfl rfl rfl rfl rfl rfl rfl rfl rfl rfl rfl (fun h q => dor_err q)
        · skip
          refine W.seq (W.seq (W.region (WL.faN (T := Ty) (off' := 0) rfl rfl rfl rfl rfl rfl rfl (WL.ldN (T := Ty) (j := 1) rfl rfl rfl rfl rfl rfl (WL.nil (W.block (W.seq (W.seq (W.region (WL.eql rfl rfl rfl (WL.as rfl rfl (WL.nil (W.condpF rfl (by omega) ?_)))))))))))))
          refine W.seq (W.region (WL.eql rfl rfl rfl (WL.as rfl rfl (WL.nil (W.condpF rfl (by omega) (W.seq (W.region (WL.eql rfl rfl rfl (WL.as rfl rfl (WL.nil (W.condpT rfl (by omega) (W.skip (W.condpT rfl (by omega) ?_)))))))))))))
          refine W.seq (W.seq (W.region (WL.mv rfl rfl (WL.not rfl rfl (WL.nil (W.condT rfl (W.seq (W.region ?_))))))))
          refine WL.ldAF (T := Ty) (j := 0) rfl rfl rfl rfl rfl rfl (by repeat' constructor) ?_
          refine WL.bdC (T := Ty) rfl rfl rfl rfl (by repeat' first | exact CO.nil | apply CO.one (by first | rfl | exact SL.one (by assumption)) | apply CO.agg) rfl (by repeat' constructor) ?_
          refine WL.stAO (T := Ty) (j := 2) rfl rfl rfl rfl (by repeat' first | exact AO.nil | apply AO.cons (by first | rfl | exact SL.one (by assumption))) rfl rfl (by repeat' constructor) (by repeat' constructor) ?_
          refine WL.stAO (T := Ty) (j := 3) rfl rfl rfl rfl (by repeat' first | exact AO.nil | apply AO.cons (by first | rfl | exact SL.one (by assumption))) rfl rfl (by repeat' constructor) (by repeat' constructor) ?_
          refine WL.nil (W.nb (sz := 2) ?_)
          refine W.fit (Hs' := [box b2 _ _, box b3 _ _, OMdl _ m, Buf 2 nilV []]) (by (repeat' first | exact Sel.nil | apply Sel.k | exact Pick.h | apply Pick.t)) ?_
          exact W.retCC (T := Ty) (j := 0) (j' := 0) rfl rfl rfl rfl rfl rfl rfl rfl rfl rfl rfl (fun h q => dor_err q)
        · skip
          refine W.seq (W.seq (W.region (WL.faN (T := Ty) (off' := 0) rfl rfl rfl rfl rfl rfl rfl (WL.ldN (T := Ty) (j := 1) rfl rfl rfl rfl rfl rfl (WL.nil (W.block (W.seq (W.seq (W.region (WL.eql rfl rfl rfl (WL.as rfl rfl (WL.nil (W.condpF rfl (by omega) ?_)))))))))))))
          refine W.seq (W.region (WL.eql rfl rfl rfl (WL.as rfl rfl (WL.nil (W.condpF rfl (by omega) (W.seq (W.region (WL.eql rfl rfl rfl (WL.as rfl rfl (WL.nil (W.condpF rfl (by omega) (W.seq (W.region ?_)))))))))))))
          refine WL.eql rfl rfl rfl (WL.as rfl rfl (WL.nil (W.condpT rfl (by omega) (W.skip (W.condpT rfl (by omega) (W.seq (W.seq (W.region (WL.mv rfl rfl (WL.not rfl rfl (WL.nil (W.condT rfl (W.seq ?_)))))))))))))
          refine W.region ?_
          refine WL.ldAF (T := Ty) (j := 0) rfl rfl rfl rfl rfl rfl (by repeat' constructor) ?_
          refine WL.bdC (T := Ty) rfl rfl rfl rfl (by repeat' first | exact CO.nil | apply CO.one (by first | rfl | exact SL.one (by assumption)) | apply CO.agg) rfl (by repeat' constructor) ?_
          refine WL.stAO (T := Ty) (j := 2) rfl rfl rfl rfl (by repeat' first | exact AO.nil | apply AO.cons (by first | rfl | exact SL.one (by assumption))) rfl rfl (by repeat' constructor) (by repeat' constructor) ?_
          refine WL.stAO (T := Ty) (j := 3) rfl rfl rfl rfl (by repeat' first | exact AO.nil | apply AO.cons (by first | rfl | exact SL.one (by assumption))) rfl rfl (by repeat' constructor) (by repeat' constructor) ?_
          refine WL.nil (W.nb (sz := 2) ?_)
          refine W.fit (Hs' := [box b2 _ _, box b3 _ _, OMdl _ m, Buf 2 nilV []]) (by (repeat' first | exact Sel.nil | apply Sel.k | exact Pick.h | apply Pick.t)) ?_
          exact W.retCC (T := Ty) (j := 0) (j' := 0) rfl rfl rfl rfl rfl rfl rfl rfl rfl rfl rfl (fun h q => dor_err q)
        · skip
          refine W.seq (W.seq (W.region (WL.faN (T := Ty) (off' := 0) rfl rfl rfl rfl rfl rfl rfl (WL.ldN (T := Ty) (j := 1) rfl rfl rfl rfl rfl rfl (WL.nil (W.block (W.seq (W.seq (W.region (WL.eql rfl rfl rfl (WL.as rfl rfl (WL.nil (W.condpF rfl (by omega) ?_)))))))))))))
          refine W.seq (W.region (WL.eql rfl rfl rfl (WL.as rfl rfl (WL.nil (W.condpF rfl (by omega) (W.seq (W.region (WL.eql rfl rfl rfl (WL.as rfl rfl (WL.nil (W.condpF rfl (by omega) (W.seq (W.region ?_)))))))))))))
          refine WL.eql rfl rfl rfl (WL.as rfl rfl (WL.nil (W.condpF rfl (by omega) (W.region (WL.eql rfl rfl rfl (WL.as rfl rfl (WL.nil (W.condpT rfl (by omega) (W.seq (W.seq (W.region (WL.mv rfl rfl (WL.not rfl rfl ?_)))))))))))))
          refine WL.nil (W.condT rfl (W.seq (W.region ?_)))
          refine WL.ldAF (T := Ty) (j := 0) rfl rfl rfl rfl rfl rfl (by repeat' constructor) ?_
          refine WL.bdC (T := Ty) rfl rfl rfl rfl (by repeat' first | exact CO.nil | apply CO.one (by first | rfl | exact SL.one (by assumption)) | apply CO.agg) rfl (by repeat' constructor) ?_
          refine WL.stAO (T := Ty) (j := 2) rfl rfl rfl rfl (by repeat' first | exact AO.nil | apply AO.cons (by first | rfl | exact SL.one (by assumption))) rfl rfl (by repeat' constructor) (by repeat' constructor) ?_
          refine WL.stAO (T := Ty) (j := 3) rfl rfl rfl rfl (by repeat' first | exact AO.nil | apply AO.cons (by first | rfl | exact SL.one (by assumption))) rfl rfl (by repeat' constructor) (by repeat' constructor) ?_
          refine WL.nil (W.nb (sz := 2) ?_)
          refine W.fit (Hs' := [box b2 _ _, box b3 _ _, OMdl _ m, Buf 2 nilV []]) (by (repeat' first | exact Sel.nil | apply Sel.k | exact Pick.h | apply Pick.t)) ?_
          exact W.retCC (T := Ty) (j := 0) (j' := 0) rfl rfl rfl rfl rfl rfl rfl rfl rfl rfl rfl (fun h q => dor_err q)
      · have hb : badOp o = false := by unfold badOp; rw [if_pos ⟨hk1, hk2⟩]; exact decide_eq_false hs
        have hs1 : 0 ≤ o.series := by omega
        have hs2 : o.series ≤ 15 := by omega
        rw [decide_eq_true ⟨hs1, hs2⟩] at hnm
        subst hnm
        rw [doM_ser hb (by omega)]
        unfold opC
        cases hh : serHas m.ser o.series with
        | none =>
          have hat := at_none hI.srt hh
          rcases (by omega : o.kind = 1 ∨ o.kind = 2 ∨ o.kind = 3 ∨ o.kind = 4 ∨ o.kind = 5) with h | h | h | h | h
          · rw [show doSA m o = doA m o from if_pos h]
            obtain ⟨M', R', hA⟩ : ∃ M' R', doA m o = (M', R') := ⟨_, _, rfl⟩
            rw [hA]
            unfold doA at hA
            rw [hh] at hA
            dsimp only at hA
            injection hA with hA1 hA2
            subst hA1 hA2
            refine W.opens (α := List (Ser × Value) × List (Itr × Value)) (φ := fun x => x.1.map Prod.fst = m.ser ∧ x.2.map Prod.fst = m.its) (ps := fun x => [Buf 5 sv4 (x.1.flatMap serC), Buf 2 iv4 (x.2.flatMap itrC), Own owSer x.1, Own owItr x.2]) 4 rfl (fun h q => omdl_open q) (by repeat' constructor) ?_
            rintro ⟨L', K'⟩ ⟨e1', e2'⟩
            dsimp only [List.cons_append, List.nil_append] at e1' e2' ⊢
            have l1' := ser_cells L'
            have l2' := itr_cells K'
            have lL' : L'.length = m.ser.length := by rw [← e1', List.length_map]
            have lK' : K'.length = m.its.length := by rw [← e2', List.length_map]
            rw [← lL'] at sa4
            rw [← lK'] at sb4
            refine W.fact (i := 2) rfl (fun h hb => ser_one (owSer_rd hb)) (fun o1' => ?_)
            refine W.fact (i := 3) rfl (fun h hb => itr_one (owItr_rd hb)) (fun o2' => ?_)
            refine W.fact (i := 2) rfl (fun h hb => fun p hp => ROs.sl (owSer_rd hb p hp) (sms_cells _) (by omega)) (fun (hslL : ∀ p ∈ L', SL p.2 p.1.list.length) => ?_)
            refine W.fit (Hs' := [box b0 _ _, box b3 _ _, box b2 _ _, box b1 _ _, Buf 5 sv4 (L'.flatMap serC), Buf 2 iv4 (K'.flatMap itrC), Own owSer L', Own owItr K']) (by (repeat' first | exact Sel.nil | apply Sel.k | exact Pick.h | apply Pick.t)) ?_
            have hh' : (serHas (L'.map Prod.fst) o.series).isSome = false := by rw [e1', hh]; rfl
            refine W.seq (W.seq (W.region (WL.faN (T := Ty) (off' := 0) rfl rfl rfl rfl rfl rfl rfl (WL.ldN (T := Ty) (j := 3) rfl rfl rfl rfl rfl rfl (WL.nil (W.block (W.seq (W.seq (W.region (WL.eql rfl rfl rfl (WL.as rfl rfl (WL.nil (W.condpT rfl (by omega) ?_)))))))))))))
            refine W.skip (W.condpT rfl (by omega) (W.seq (W.seq (W.region (WL.mv rfl rfl (WL.not rfl rfl (WL.nil (W.condF rfl (W.skip (W.seq (W.region (WL.mv rfl rfl (WL.lss rfl rfl rfl ?_)))))))))))))
            refine WL.mv rfl rfl (WL.gT rfl rfl (by omega) (WL.faN (T := Ty) (off' := 0) rfl rfl rfl rfl rfl rfl rfl (WL.gT rfl rfl (by omega) (WL.ldN (T := Ty) (j := 3) rfl rfl rfl rfl rfl rfl (WL.gT rfl rfl (by omega) (WL.neq rfl rfl rfl (WL.pickTp rfl rfl (by omega) rfl (WL.nil (W.condpF rfl (by omega) (W.skip (W.inBlock (W.seq (W.region ?_)))))))))))))
            refine WL.bdC (T := Ty) rfl rfl rfl rfl (by repeat' first | exact CO.nil | apply CO.one (by first | rfl | exact SL.one (by assumption)) | apply CO.agg) rfl (by repeat' constructor) ?_
            refine WL.alF (T := Ty) rfl rfl (by repeat' constructor) (fun b4 => ?_)
            refine WL.stAO (T := Ty) (j := 0) rfl rfl rfl rfl (by repeat' first | exact AO.nil | apply AO.cons (by first | rfl | exact SL.one (by assumption))) rfl rfl (by repeat' constructor) (by repeat' constructor) ?_
            refine WL.nil (W.seq (W.seq (W.region (WL.faN (T := Ty) (off' := 0) rfl rfl rfl rfl rfl rfl rfl (WL.ldN (T := Ty) (j := 4) rfl rfl rfl rfl rfl rfl (WL.nil (W.block (W.seq (W.region (WL.eql rfl rfl rfl (WL.as rfl rfl (WL.nil (W.condpT rfl (by omega) ?_)))))))))))))
            refine W.seq (W.seq (W.region (WL.mv rfl rfl (WL.geq rfl rfl rfl (WL.mv rfl rfl (WL.gdTn rfl rfl rfl rfl rfl (by omega) (WL.gdTn rfl rfl rfl rfl rfl (by omega) (WL.gdTn rfl rfl rfl rfl rfl (by omega) (WL.gdTn rfl rfl rfl rfl rfl (by omega) (WL.gdTn rfl rfl rfl rfl rfl (by omega) (WL.gdTn rfl rfl rfl rfl rfl (by omega) (WL.pickFp rfl rfl (by omega) rfl (WL.nil ?_)))))))))))))
            refine W.condF rfl (W.skip (W.seq (W.seq ?_)))
            refine W.drawA 21 rfl (fun σ0 hσ0 dσ0 => ?_)
            have fσ0_0 := rb_at 0 rfl hσ0 dσ0
            have fσ0_1 := rb_at 1 rfl hσ0 dσ0
            have fσ0_2 := rb_at 2 rfl hσ0 dσ0
            have fσ0_3 := rb_at 3 rfl hσ0 dσ0
            have fσ0_4 := rb_at 4 rfl hσ0 dσ0
            have fσ0_5 := ros_at 5 rfl hσ0 dσ0
            have fσ0_6 := ros_at 6 rfl hσ0 dσ0
            have fσ0_7 := in_at 7 rfl hσ0 dσ0
            have fσ0_8 := in_at 8 rfl hσ0 dσ0
            refine WD.takeL 0 rfl (by decide +kernel) (WL.mv rfl rfl (WL.nilT (WD.takeL 1 rfl (by decide +kernel) (WL.geq rfl rfl rfl (WL.nilT (WD.takeL 2 rfl (by decide +kernel) (WL.mv rfl rfl (WL.nilT (WD.takeL 3 rfl (by decide +kernel) (WL.gdTn rfl rfl rfl rfl rfl (by omega) (WL.nilT (WD.takeL 4 rfl (by decide +kernel) (WL.gdTn rfl rfl rfl rfl rfl (by omega) ?_)))))))))))))
            refine WL.nilT (WD.takeL 5 rfl (by decide +kernel) (WL.gdTn rfl rfl rfl rfl rfl (by omega) (WL.nilT (WD.takeL 6 rfl (by decide +kernel) (WL.gdTn rfl rfl rfl rfl rfl (by omega) (WL.nilT (WD.takeL 7 rfl (by decide +kernel) (WL.gdTn rfl rfl rfl rfl rfl (by omega) (WL.nilT (WD.takeL 8 rfl (by decide +kernel) (WL.gdTn rfl rfl rfl rfl rfl (by omega) (WL.nilT (WD.takeL 9 rfl (by decide +kernel) ?_)))))))))))))
            refine WL.pickFp rfl rfl (by omega) rfl (WL.nilT (WD.takeL 10 rfl (by decide +kernel) (WL.mv rfl rfl (WL.nilT (WD.takeL 11 rfl (by decide +kernel) (WL.gdN rfl rfl rfl rfl rfl rfl (WL.nilT (WD.takeL 12 rfl (by decide +kernel) (WL.gdN rfl rfl rfl rfl rfl rfl (WL.nilT (WD.takeL 13 rfl (by decide +kernel) (WL.gdN rfl rfl rfl rfl rfl rfl (WL.nilT ?_)))))))))))))
            refine WD.takeL 14 rfl (by decide +kernel) (WL.gdN rfl rfl rfl rfl rfl rfl (WL.nilT (WD.takeL 15 rfl (by decide +kernel) (WL.gdN rfl rfl rfl rfl rfl rfl (WL.nilT (WD.takeL 16 rfl (by decide +kernel) (WL.gdN rfl rfl rfl rfl rfl rfl (WL.nilT (WD.takeL 17 rfl (by decide +kernel) (WL.gdN rfl rfl rfl rfl rfl rfl (WL.nilT (WD.takeL 18 rfl (by decide +kernel) (WL.gdN rfl rfl rfl rfl rfl rfl ?_)))))))))))))
            refine WL.nilT (WD.takeL 19 rfl (by decide +kernel) (WL.gdN rfl rfl rfl rfl rfl rfl (WL.nilT (WD.takeL 20 rfl (by decide +kernel) (WL.pickF rfl rfl rfl (WL.nilT ?_))))))
            refine WD.doneF hσ0 (by decide +kernel) (by repeat' constructor) ?_
            refine W.condF rfl (W.skip (W.seq (W.region ?_)))
            refine WL.ldAF (T := Ty) (j := 1) rfl rfl rfl rfl rfl rfl (by repeat' constructor) ?_
            refine WL.faN (T := Ty) (off' := 1) rfl rfl rfl rfl rfl rfl rfl (WL.ldN (T := Ty) (j := 4) rfl rfl rfl rfl rfl rfl ?_)
            refine WL.callF rfl rfl (fun x p d => begun_c _ sv4 iv4 _ L' _ K'.length (in_at 5 rfl p d).ros o1' sb4 (by omega)) (fun r8 => ?_)
            refine WL.opens (α := Value) (φ := fun u => r8 = .tuple #[.agg #[u, iv4, .int .i64 m.next], .int .i64 (serIx (L'.map Prod.fst) o.series : Nat)] ∧ SL u (L'.take (serIx (L'.map Prod.fst) o.series) ++ [((⟨o.series, false, false, 0, []⟩ : Ser), nilV)] ++ L'.drop (serIx (L'.map Prod.fst) o.series)).length) (ps := fun u => [Buf 5 u ((L'.take (serIx (L'.map Prod.fst) o.series) ++ [((⟨o.series, false, false, 0, []⟩ : Ser), nilV)] ++ L'.drop (serIx (L'.map Prod.fst) o.series)).flatMap serC)]) 0 rfl (fun h q => q.elim (fun q => absurd q.1 (by rw [hh']; decide)) (fun ⟨_, u, q2, q3⟩ => ⟨u, ⟨q2, q3.sl (ser_cells _) (by omega)⟩, sepl_one.2 q3⟩)) (by repeat' constructor) ?_
            rintro u9 ⟨hr9, sl9⟩
            subst hr9
            dsimp only [List.cons_append, List.nil_append] at sl9 ⊢
            rw [e1'] at sl9 ⊢
            have hil : serIx m.ser o.series ≤ L'.length := by rw [lL']; exact serIx_le _ _
            generalize hi : serIx m.ser o.series = i at sl9 hil ⊢
            have hlen : (L'.take i ++ [((⟨o.series, false, false, 0, []⟩ : Ser), nilV)] ++ L'.drop i).length = L'.length + 1 := by simp; omega
            rw [hlen] at sl9
            have hp2 := get_mid L' ((⟨o.series, false, false, 0, []⟩ : Ser), nilV) hil
            have l2s := ser_cells (L'.take i ++ [((⟨o.series, false, false, 0, []⟩ : Ser), nilV)] ++ L'.drop i)
            have hr2 : (((L'.take i ++ [((⟨o.series, false, false, 0, []⟩ : Ser), nilV)] ++ L'.drop i).flatMap serC).drop (((i : Nat) : Int).toNat * 5)).take 5 = [.int .i64 o.series, .bool false, .bool false, .int .i64 0, nilV] := flat_row ser_len hp2
            obtain ⟨nl, hnl⟩ : ∃ nl : List Smp, nl = [(o.t, o.v)] := ⟨_, rfl⟩
            have hput : ∀ y, ((L'.take i ++ [((⟨o.series, false, false, 0, []⟩ : Ser), nilV)] ++ L'.drop i).flatMap serC).take (((i : Nat) : Int).toNat * 5) ++ [.int .i64 o.series, .bool false, .bool true, .int .i64 o.t, y] ++ ((L'.take i ++ [((⟨o.series, false, false, 0, []⟩ : Ser), nilV)] ++ L'.drop i).flatMap serC).drop (((i : Nat) : Int).toNat * 5 + [Value.int .i64 o.series, .bool false, .bool true, .int .i64 o.t, y].length) = ((L'.take i ++ [((⟨o.series, false, false, 0, []⟩ : Ser), nilV)] ++ L'.drop i).set i ((⟨o.series, false, true, o.t, nl⟩ : Ser), y)).flatMap serC := fun y => flat_put (b := ((⟨o.series, false, true, o.t, nl⟩ : Ser), y)) ser_len (List.getElem?_eq_some_iff.1 hp2).1
            have hfl : ([] : List Smp).flatMap smC ++ [.int .i64 o.t, .int .u64 o.v] = nl.flatMap smC := by rw [hnl]; rfl
            have hcl := sms_cells ([] : List Smp)
            refine WL.mv rfl rfl (WL.extL rfl rfl rfl (WL.extL rfl rfl rfl ?_))
            refine WL.alF (T := Ty) rfl rfl (by repeat' constructor) (fun b10 => ?_)
            refine WL.stAO (T := Ty) (j := 0) rfl rfl rfl rfl (by repeat' first | exact AO.nil | apply AO.cons (by first | rfl | exact SL.one (by assumption))) rfl rfl (by repeat' constructor) (by repeat' constructor) ?_
            refine WL.as rfl rfl (WL.nil (W.seq (W.region ?_)))
            refine WL.ldAF (T := Ty) (j := 0) rfl rfl rfl rfl rfl rfl (by repeat' constructor) ?_
            refine WL.stAO (T := Ty) (j := 3) rfl rfl rfl rfl (by repeat' first | exact AO.nil | apply AO.cons (by first | rfl | exact SL.one (by assumption))) rfl rfl (by repeat' constructor) (by repeat' constructor) ?_
            refine WL.nil (W.seq (W.region (WL.faN (T := Ty) (off' := 0) rfl rfl rfl rfl rfl rfl rfl (WL.ldN (T := Ty) (j := 3) rfl rfl rfl rfl rfl rfl (WL.mv rfl rfl ?_)))))
            refine WL.ix (T := Ty) rfl rfl rfl (by assumption) rfl rfl (by omega) (by first | omega | decide +kernel) ?_
            refine WL.ldAE (T := Ty) (j := 1) rfl rfl rfl rfl rfl (by assumption) rfl ?_
            refine WL.alF (T := Ty) rfl rfl (by repeat' constructor) (fun b11 => ?_)
            refine WL.stAO (T := Ty) (j := 0) rfl rfl rfl rfl (by repeat' first | exact AO.nil | apply AO.cons (by first | rfl | exact SL.one (by assumption))) rfl rfl (by repeat' constructor) (by repeat' constructor) ?_
            refine WL.nil (W.seq ?_)
            refine W.drawP 16 [true, false, false, false, false, false, false, false, false, false, false, false] rfl (by repeat' constructor) (by repeat' constructor) (fun σ1 hσ1 dσ1 => ?_)
            have fσ1_0 := rb_at 0 rfl hσ1 dσ1
            have fσ1_1 := ros_at 1 rfl hσ1 dσ1
            have fσ1_2 := rb_at 2 rfl hσ1 dσ1
            have fσ1_3 := rb_at 3 rfl hσ1 dσ1
            have fσ1_4 := rb_at 4 rfl hσ1 dσ1
            have fσ1_5 := rb_at 5 rfl hσ1 dσ1
            have fσ1_6 := rb_at 6 rfl hσ1 dσ1
            have fσ1_7 := ros_at 7 rfl hσ1 dσ1
            have fσ1_8 := ros_at 8 rfl hσ1 dσ1
            have fσ1_9 := in_at 9 rfl hσ1 dσ1
            have fσ1_10 := in_at 10 rfl hσ1 dσ1
            refine WD.takeL 0 rfl (by decide +kernel) (WL.faN (T := Ty) (off' := 3) rfl rfl rfl rfl rfl rfl rfl (WL.nilT (WD.takeL 1 rfl (by decide +kernel) ?_)))
            refine WL.ldBN (T := Ty) rfl rfl rfl rfl (by first | assumption | exact RB.wide (by assumption) | exact In.rb (by assumption)) rfl ?_
            refine WL.nilT (WD.takeL 2 rfl (by decide +kernel) (WL.faN (T := Ty) (off' := 4) rfl rfl rfl rfl rfl rfl rfl (WL.nilT (WD.takeL 5 rfl (by decide +kernel) (WL.faN (T := Ty) (off' := 3) rfl rfl rfl rfl rfl rfl rfl (WL.nilT (WD.takeL 6 rfl (by decide +kernel) ?_)))))))
            refine WL.ldBN (T := Ty) rfl rfl rfl rfl (by first | assumption | exact RB.wide (by assumption) | exact In.rb (by assumption)) rfl ?_
            refine WL.nilT (WD.takeL 7 rfl (by decide +kernel) (WL.faN (T := Ty) (off' := 4) rfl rfl rfl rfl rfl rfl rfl (WL.nilT (WD.takeL 8 rfl (by decide +kernel) ?_))))
            refine WL.ldBN (T := Ty) rfl rfl rfl rfl (by first | assumption | exact RB.wide (by assumption) | exact In.rb (by assumption)) rfl ?_
            refine WL.nilT (WD.takeL 9 rfl (by decide +kernel) ?_)
            refine WL.bdC (T := Ty) rfl rfl rfl rfl (by repeat' first | exact CO.nil | apply CO.one (by first | rfl | exact SL.one (by assumption)) | apply CO.agg) rfl (by repeat' constructor) ?_
            refine WL.nilT ?_
            have hr := ros_nil2 (join ρ σ1)
            have hb0 : ([] : List Smp).length ≤ 100000000 := by decide
            skip
            refine WD.twoL 3 10 rfl rfl (by decide +kernel) ?_ ?_
            · refine WL.ldN (T := Ty) (j := 1) rfl rfl rfl rfl rfl rfl ?_
              refine WL.nilE (WD.takeL 12 rfl (by decide +kernel) (WL.faN (T := Ty) (off' := 2) rfl rfl rfl rfl rfl rfl rfl (WL.nilT ?_)))
              refine WD.twoL 4 10 rfl rfl (by decide +kernel) ?_ ?_
              · refine WL.callF rfl rfl (fun x p d => ownR_c _ _ _ (by first | assumption | exact ROs.wide (by assumption) | exact ROs.mono (by assumption) (eqh_at 0 rfl p d) | exact ros_at 0 rfl p d | exact ros_at 1 rfl p d | exact ros_at 2 rfl p d | exact ros_at 3 rfl p d | exact ros_at 4 rfl p d) (by first | assumption | omega)) (fun u12 => ?_)
                refine WL.fact (i := 0) rfl (fun h hb => hb.sl (sms_cells _) (by omega)) (fun hsl12 => ?_)
                refine WL.nilS (WD.oneL 10 rfl (by decide +kernel) ?_)
                refine WL.bsC (T := Ty) rfl rfl rfl rfl rfl rfl rfl (by repeat' first | exact CO.nil | apply CO.one (by first | rfl | exact SL.one (by assumption)) | apply CO.agg) rfl (by repeat' constructor) (fun u13 hu13 => ?_)
                refine WL.nilH hσ1 (fun σ2 hσ2 dσ2 mσ2 => ?_)
                have fσ1_0 := fσ1_0.mono mσ2
                have fσ1_1 := fσ1_1.mono mσ2
                have fσ1_2 := fσ1_2.mono mσ2
                have fσ1_3 := fσ1_3.mono mσ2
                have fσ1_4 := fσ1_4.mono mσ2
                have fσ1_5 := fσ1_5.mono mσ2
                have fσ1_6 := fσ1_6.mono mσ2
                have fσ1_7 := fσ1_7.mono mσ2
                have fσ1_8 := fσ1_8.mono mσ2
                have fσ1_9 := fσ1_9.mono mσ2
                have fσ1_10 := fσ1_10.mono mσ2
                have hr := hr.mono mσ2
                have fσ2_0 := ros_at 0 rfl hσ2 dσ2
                refine WD.oneL 11 rfl (by decide +kernel) ?_
                refine WL.ap (T := Ty) (i := 1) (m := 1) rfl rfl rfl rfl rfl rfl rfl rfl (by first | exact .ro (by assumption) | exact .ro (ROs.wide (by assumption)) | exact .eqJ 0 rfl (by assumption) | exact .own 0 rfl | exact .own 1 rfl | exact .own 2 rfl | exact .own 3 rfl | exact .own 4 rfl | exact .own 5 rfl) (by first | assumption | exact ROs.slm (by assumption)) (by assumption) (by rfl) (AO.all (by repeat' first | exact AO.nil | apply AO.cons (by first | rfl | exact SL.one (by assumption)))) (by first | omega | (simp; omega) | (simp only [List.length_drop, List.length_take]; omega)) (by unfold maxLen; first | omega | (simp only [List.length_drop, List.length_take]; omega)) (fun v' => (by repeat' constructor)) (fun u14 hu14 => ?_)
                refine WL.nilE (WD.oneL 13 rfl (by decide +kernel) ?_)
                refine WL.stF (T := Ty) (j := 2) rfl rfl rfl rfl rfl rfl rfl (by repeat' constructor) (by repeat' constructor) ?_
                refine WL.nilE (WD.takeL 14 rfl (by decide +kernel) (WL.faN (T := Ty) (off' := 3) rfl rfl rfl rfl rfl rfl rfl (WL.nilT (WD.oneL 15 rfl (by decide +kernel) ?_))))
                refine WL.stF (T := Ty) (j := 2) rfl rfl rfl rfl rfl rfl rfl (by repeat' constructor) (by repeat' constructor) ?_
                refine WL.nilE ?_
                refine WD.lastG hσ2 (by decide +kernel) (by repeat' constructor) rfl (by repeat' constructor) ?_
                refine WL.faN (T := Ty) (off' := 4) rfl rfl rfl rfl rfl rfl rfl ?_
                refine WL.stF (T := Ty) (j := 13) rfl rfl rfl rfl (SL.one (by assumption)) rfl rfl (by repeat' constructor) (by repeat' constructor) ?_
                refine WL.nil (W.region (WL.faN (T := Ty) (off' := 0) rfl rfl rfl rfl rfl rfl rfl (WL.ldN (T := Ty) (j := 4) rfl rfl rfl rfl rfl rfl (WL.mv rfl rfl ?_))))
                refine WL.ldAF (T := Ty) (j := 13) rfl rfl rfl rfl rfl rfl (by repeat' constructor) ?_
                refine WL.ix (T := Ty) rfl rfl rfl (by assumption) rfl rfl (by omega) (by first | omega | decide +kernel) ?_
                refine WL.stAE (T := Ty) (j := 2) rfl rfl rfl rfl (AO.all (by repeat' first | exact AO.nil | apply AO.cons (by first | rfl | exact SL.one (by assumption)))) rfl (by first | assumption | omega | (simp only [List.length_cons, List.length_nil]; omega)) (Nat.zero_lt_succ _) (by repeat' constructor) ?_
                refine WL.nil (W.inBlock (W.seq ?_))
                refine W.drawP 3 [false, false, false, false, false, false, true, false, false, false, false, false, false, false] rfl (by repeat' constructor) (by repeat' constructor) (fun σ3 hσ3 dσ3 => ?_)
                have fσ3_0 := ros_at 0 rfl hσ3 dσ3
                have fσ3_1 := rb_at 1 rfl hσ3 dσ3
                have fσ3_2 := ros_at 2 rfl hσ3 dσ3
                have fσ3_3 := rb_at 3 rfl hσ3 dσ3
                have fσ3_4 := rb_at 4 rfl hσ3 dσ3
                have fσ3_5 := rb_at 5 rfl hσ3 dσ3
                have fσ3_6 := rb_at 6 rfl hσ3 dσ3
                have fσ3_7 := ros_at 7 rfl hσ3 dσ3
                have fσ3_8 := ros_at 8 rfl hσ3 dσ3
                have fσ3_9 := in_at 9 rfl hσ3 dσ3
                have fσ3_10 := in_at 10 rfl hσ3 dσ3
                have fσ3_11 := ros_at 11 rfl hσ3 dσ3
                have fσ3_12 := rb_at 12 rfl hσ3 dσ3
                refine WD.takeL 0 rfl (by decide +kernel) ?_
                refine WL.ldABF (T := Ty) rfl rfl rfl rfl (by first | assumption | exact RB.wide (by assumption) | exact In.rb (by assumption)) rfl (by repeat' constructor) ?_
                refine WL.nilT (WD.takeL 1 rfl (by decide +kernel) ?_)
                refine WL.ldABF (T := Ty) rfl rfl rfl rfl (by first | assumption | exact RB.wide (by assumption) | exact In.rb (by assumption)) rfl (by repeat' constructor) ?_
                refine WL.nilT (WD.oneL 2 rfl (by decide +kernel) ?_)
                refine WL.stAO (T := Ty) (j := 1) rfl rfl rfl rfl (by repeat' first | exact AO.nil | apply AO.cons (by first | rfl | exact SL.one (by assumption))) rfl rfl (by repeat' constructor) (by repeat' constructor) ?_
                refine WL.nilE ?_
                refine WD.lastG hσ3 (by decide +kernel) (by repeat' constructor) rfl (by repeat' constructor) ?_
                refine WL.stAO (T := Ty) (j := 5) rfl rfl rfl rfl (by repeat' first | exact AO.nil | apply AO.cons (by first | rfl | exact SL.one (by assumption))) rfl rfl (by repeat' constructor) (by repeat' constructor) ?_
                refine WL.nil ?_
                rw [hput, hfl, set_mid L' _ _ hil]
                refine W.fit (Hs' := [Buf 2 _ (nl.flatMap smC), Own owSer L', box b2 _ _, box b3 _ _, Buf 5 u9 _, Buf 2 iv4 (K'.flatMap itrC), Own owItr K']) (by (repeat' first | exact Sel.nil | apply Sel.k | exact Pick.h | apply Pick.t)) ?_
                refine W.two (r := Own owSer (L'.take i ++ [((⟨o.series, false, true, o.t, nl⟩ : Ser), _)] ++ L'.drop i)) _ _ rfl (fun h q => own_ins (f := owSer) (i := i) (a := ((⟨o.series, false, true, o.t, nl⟩ : Ser), _)) q) ?_
                refine W.nb (sz := 2) ?_
                refine W.fit (Hs' := [box b2 _ _, box b3 _ _, Buf 2 nilV [], Buf 5 u9 ((L'.take i ++ [((⟨o.series, false, true, o.t, nl⟩ : Ser), _)] ++ L'.drop i).flatMap serC), Buf 2 iv4 (K'.flatMap itrC), Own owSer (L'.take i ++ [((⟨o.series, false, true, o.t, nl⟩ : Ser), _)] ++ L'.drop i), Own owItr K']) (by (repeat' first | exact Sel.nil | apply Sel.k | exact Pick.h | apply Pick.t)) ?_
                exact W.retCC (T := Ty) (j := 0) (j' := 0) rfl rfl rfl rfl rfl rfl rfl rfl rfl rfl rfl (fun h q => dor_of (R := ⟨0, 0, []⟩) (M := ⟨m.ser.take i ++ [⟨o.series, false, true, o.t, [(o.t, o.v)]⟩] ++ m.ser.drop i, m.its, m.next⟩) (by rw [List.map_append, List.map_append, List.map_take, List.map_drop, e1', hnl]; rfl) e2' q)
              · refine WL.bsC (T := Ty) rfl rfl rfl rfl rfl rfl rfl (by repeat' first | exact CO.nil | apply CO.one (by first | rfl | exact SL.one (by assumption)) | apply CO.agg) rfl (by repeat' constructor) (fun u12 hu12 => ?_)
                refine WL.nilH hσ1 (fun σ2 hσ2 dσ2 mσ2 => ?_)
                have fσ1_0 := fσ1_0.mono mσ2
                have fσ1_1 := fσ1_1.mono mσ2
                have fσ1_2 := fσ1_2.mono mσ2
                have fσ1_3 := fσ1_3.mono mσ2
                have fσ1_4 := fσ1_4.mono mσ2
                have fσ1_5 := fσ1_5.mono mσ2
                have fσ1_6 := fσ1_6.mono mσ2
                have fσ1_7 := fσ1_7.mono mσ2
                have fσ1_8 := fσ1_8.mono mσ2
                have fσ1_9 := fσ1_9.mono mσ2
                have fσ1_10 := fσ1_10.mono mσ2
                have hr := hr.mono mσ2
                have fσ2_0 := ros_at 0 rfl hσ2 dσ2
                refine WD.oneL 4 rfl (by decide +kernel) ?_
                refine WL.callF rfl rfl (fun x p d => ownR_c _ _ _ (by first | assumption | exact ROs.wide (by assumption) | exact ROs.mono (by assumption) (eqh_at 0 rfl p d) | exact ros_at 0 rfl p d | exact ros_at 1 rfl p d | exact ros_at 2 rfl p d | exact ros_at 3 rfl p d | exact ros_at 4 rfl p d) (by first | assumption | omega)) (fun u13 => ?_)
                refine WL.fact (i := 0) rfl (fun h hb => hb.sl (sms_cells _) (by omega)) (fun hsl13 => ?_)
                refine WL.nilS (WD.oneL 11 rfl (by decide +kernel) ?_)
                refine WL.ap (T := Ty) (i := 1) (m := 1) rfl rfl rfl rfl rfl rfl rfl rfl (by first | exact .ro (by assumption) | exact .ro (ROs.wide (by assumption)) | exact .eqJ 0 rfl (by assumption) | exact .own 0 rfl | exact .own 1 rfl | exact .own 2 rfl | exact .own 3 rfl | exact .own 4 rfl | exact .own 5 rfl) (by first | assumption | exact ROs.slm (by assumption)) (by assumption) (by rfl) (AO.all (by repeat' first | exact AO.nil | apply AO.cons (by first | rfl | exact SL.one (by assumption)))) (by first | omega | (simp; omega) | (simp only [List.length_drop, List.length_take]; omega)) (by unfold maxLen; first | omega | (simp only [List.length_drop, List.length_take]; omega)) (fun v' => (by repeat' constructor)) (fun u14 hu14 => ?_)
                refine WL.nilE (WD.oneL 13 rfl (by decide +kernel) ?_)
                refine WL.stF (T := Ty) (j := 2) rfl rfl rfl rfl rfl rfl rfl (by repeat' constructor) (by repeat' constructor) ?_
                refine WL.nilE (WD.takeL 14 rfl (by decide +kernel) (WL.faN (T := Ty) (off' := 3) rfl rfl rfl rfl rfl rfl rfl (WL.nilT (WD.oneL 15 rfl (by decide +kernel) ?_))))
                refine WL.stF (T := Ty) (j := 2) rfl rfl rfl rfl rfl rfl rfl (by repeat' constructor) (by repeat' constructor) ?_
                refine WL.nilE ?_
                refine WD.lastG hσ2 (by decide +kernel) (by repeat' constructor) rfl (by repeat' constructor) ?_
                refine WL.faN (T := Ty) (off' := 4) rfl rfl rfl rfl rfl rfl rfl ?_
                refine WL.stF (T := Ty) (j := 13) rfl rfl rfl rfl (SL.one (by assumption)) rfl rfl (by repeat' constructor) (by repeat' constructor) ?_
                refine WL.nil (W.region (WL.faN (T := Ty) (off' := 0) rfl rfl rfl rfl rfl rfl rfl (WL.ldN (T := Ty) (j := 4) rfl rfl rfl rfl rfl rfl (WL.mv rfl rfl ?_))))
                refine WL.ldAF (T := Ty) (j := 13) rfl rfl rfl rfl rfl rfl (by repeat' constructor) ?_
                refine WL.ix (T := Ty) rfl rfl rfl (by assumption) rfl rfl (by omega) (by first | omega | decide +kernel) ?_
                refine WL.stAE (T := Ty) (j := 2) rfl rfl rfl rfl (AO.all (by repeat' first | exact AO.nil | apply AO.cons (by first | rfl | exact SL.one (by assumption)))) rfl (by first | assumption | omega | (simp only [List.length_cons, List.length_nil]; omega)) (Nat.zero_lt_succ _) (by repeat' constructor) ?_
                refine WL.nil (W.inBlock (W.seq ?_))
                refine W.drawP 3 [false, false, false, false, false, false, true, false, false, false, false, false, false, false] rfl (by repeat' constructor) (by repeat' constructor) (fun σ3 hσ3 dσ3 => ?_)
                have fσ3_0 := ros_at 0 rfl hσ3 dσ3
                have fσ3_1 := rb_at 1 rfl hσ3 dσ3
                have fσ3_2 := ros_at 2 rfl hσ3 dσ3
                have fσ3_3 := rb_at 3 rfl hσ3 dσ3
                have fσ3_4 := rb_at 4 rfl hσ3 dσ3
                have fσ3_5 := rb_at 5 rfl hσ3 dσ3
                have fσ3_6 := rb_at 6 rfl hσ3 dσ3
                have fσ3_7 := ros_at 7 rfl hσ3 dσ3
                have fσ3_8 := ros_at 8 rfl hσ3 dσ3
                have fσ3_9 := in_at 9 rfl hσ3 dσ3
                have fσ3_10 := in_at 10 rfl hσ3 dσ3
                have fσ3_11 := ros_at 11 rfl hσ3 dσ3
                have fσ3_12 := rb_at 12 rfl hσ3 dσ3
                refine WD.takeL 0 rfl (by decide +kernel) ?_
                refine WL.ldABF (T := Ty) rfl rfl rfl rfl (by first | assumption | exact RB.wide (by assumption) | exact In.rb (by assumption)) rfl (by repeat' constructor) ?_
                refine WL.nilT (WD.takeL 1 rfl (by decide +kernel) ?_)
                refine WL.ldABF (T := Ty) rfl rfl rfl rfl (by first | assumption | exact RB.wide (by assumption) | exact In.rb (by assumption)) rfl (by repeat' constructor) ?_
                refine WL.nilT (WD.oneL 2 rfl (by decide +kernel) ?_)
                refine WL.stAO (T := Ty) (j := 1) rfl rfl rfl rfl (by repeat' first | exact AO.nil | apply AO.cons (by first | rfl | exact SL.one (by assumption))) rfl rfl (by repeat' constructor) (by repeat' constructor) ?_
                refine WL.nilE ?_
                refine WD.lastG hσ3 (by decide +kernel) (by repeat' constructor) rfl (by repeat' constructor) ?_
                refine WL.stAO (T := Ty) (j := 5) rfl rfl rfl rfl (by repeat' first | exact AO.nil | apply AO.cons (by first | rfl | exact SL.one (by assumption))) rfl rfl (by repeat' constructor) (by repeat' constructor) ?_
                refine WL.nil ?_
                rw [hput, hfl, set_mid L' _ _ hil]
                refine W.fit (Hs' := [Buf 2 _ (nl.flatMap smC), Own owSer L', box b2 _ _, box b3 _ _, Buf 5 u9 _, Buf 2 iv4 (K'.flatMap itrC), Own owItr K']) (by (repeat' first | exact Sel.nil | apply Sel.k | exact Pick.h | apply Pick.t)) ?_
                refine W.two (r := Own owSer (L'.take i ++ [((⟨o.series, false, true, o.t, nl⟩ : Ser), _)] ++ L'.drop i)) _ _ rfl (fun h q => own_ins (f := owSer) (i := i) (a := ((⟨o.series, false, true, o.t, nl⟩ : Ser), _)) q) ?_
                refine W.nb (sz := 2) ?_
                refine W.fit (Hs' := [box b2 _ _, box b3 _ _, Buf 2 nilV [], Buf 5 u9 ((L'.take i ++ [((⟨o.series, false, true, o.t, nl⟩ : Ser), _)] ++ L'.drop i).flatMap serC), Buf 2 iv4 (K'.flatMap itrC), Own owSer (L'.take i ++ [((⟨o.series, false, true, o.t, nl⟩ : Ser), _)] ++ L'.drop i), Own owItr K']) (by (repeat' first | exact Sel.nil | apply Sel.k | exact Pick.h | apply Pick.t)) ?_
                exact W.retCC (T := Ty) (j := 0) (j' := 0) rfl rfl rfl rfl rfl rfl rfl rfl rfl rfl rfl (fun h q => dor_of (R := ⟨0, 0, []⟩) (M := ⟨m.ser.take i ++ [⟨o.series, false, true, o.t, [(o.t, o.v)]⟩] ++ m.ser.drop i, m.its, m.next⟩) (by rw [List.map_append, List.map_append, List.map_take, List.map_drop, e1', hnl]; rfl) e2' q)
            · refine WL.bsC (T := Ty) rfl rfl rfl rfl rfl rfl rfl (by repeat' first | exact CO.nil | apply CO.one (by first | rfl | exact SL.one (by assumption)) | apply CO.agg) rfl (by repeat' constructor) (fun u12 hu12 => ?_)
              refine WL.nilH hσ1 (fun σ2 hσ2 dσ2 mσ2 => ?_)
              have fσ1_0 := fσ1_0.mono mσ2
              have fσ1_1 := fσ1_1.mono mσ2
              have fσ1_2 := fσ1_2.mono mσ2
              have fσ1_3 := fσ1_3.mono mσ2
              have fσ1_4 := fσ1_4.mono mσ2
              have fσ1_5 := fσ1_5.mono mσ2
              have fσ1_6 := fσ1_6.mono mσ2
              have fσ1_7 := fσ1_7.mono mσ2
              have fσ1_8 := fσ1_8.mono mσ2
              have fσ1_9 := fσ1_9.mono mσ2
              have fσ1_10 := fσ1_10.mono mσ2
              have hr := hr.mono mσ2
              have fσ2_0 := ros_at 0 rfl hσ2 dσ2
              refine WD.oneL 3 rfl (by decide +kernel) (WL.ldN (T := Ty) (j := 1) rfl rfl rfl rfl rfl rfl (WL.nilE (WD.takeL 12 rfl (by decide +kernel) (WL.faN (T := Ty) (off' := 2) rfl rfl rfl rfl rfl rfl rfl (WL.nilT (WD.oneL 4 rfl (by decide +kernel) ?_))))))
              refine WL.callF rfl rfl (fun x p d => ownR_c _ _ _ (by first | assumption | exact ROs.wide (by assumption) | exact ROs.mono (by assumption) (eqh_at 0 rfl p d) | exact ros_at 0 rfl p d | exact ros_at 1 rfl p d | exact ros_at 2 rfl p d | exact ros_at 3 rfl p d | exact ros_at 4 rfl p d) (by first | assumption | omega)) (fun u13 => ?_)
              refine WL.fact (i := 0) rfl (fun h hb => hb.sl (sms_cells _) (by omega)) (fun hsl13 => ?_)
              refine WL.nilS (WD.oneL 11 rfl (by decide +kernel) ?_)
              refine WL.ap (T := Ty) (i := 1) (m := 1) rfl rfl rfl rfl rfl rfl rfl rfl (by first | exact .ro (by assumption) | exact .ro (ROs.wide (by assumption)) | exact .eqJ 0 rfl (by assumption) | exact .own 0 rfl | exact .own 1 rfl | exact .own 2 rfl | exact .own 3 rfl | exact .own 4 rfl | exact .own 5 rfl) (by first | assumption | exact ROs.slm (by assumption)) (by assumption) (by rfl) (AO.all (by repeat' first | exact AO.nil | apply AO.cons (by first | rfl | exact SL.one (by assumption)))) (by first | omega | (simp; omega) | (simp only [List.length_drop, List.length_take]; omega)) (by unfold maxLen; first | omega | (simp only [List.length_drop, List.length_take]; omega)) (fun v' => (by repeat' constructor)) (fun u14 hu14 => ?_)
              refine WL.nilE (WD.oneL 13 rfl (by decide +kernel) ?_)
              refine WL.stF (T := Ty) (j := 2) rfl rfl rfl rfl rfl rfl rfl (by repeat' constructor) (by repeat' constructor) ?_
              refine WL.nilE (WD.takeL 14 rfl (by decide +kernel) (WL.faN (T := Ty) (off' := 3) rfl rfl rfl rfl rfl rfl rfl (WL.nilT (WD.oneL 15 rfl (by decide +kernel) ?_))))
              refine WL.stF (T := Ty) (j := 2) rfl rfl rfl rfl rfl rfl rfl (by repeat' constructor) (by repeat' constructor) ?_
              refine WL.nilE ?_
              refine WD.lastG hσ2 (by decide +kernel) (by repeat' constructor) rfl (by repeat' constructor) ?_
              refine WL.faN (T := Ty) (off' := 4) rfl rfl rfl rfl rfl rfl rfl ?_
              refine WL.stF (T := Ty) (j := 13) rfl rfl rfl rfl (SL.one (by assumption)) rfl rfl (by repeat' constructor) (by repeat' constructor) ?_
              refine WL.nil (W.region (WL.faN (T := Ty) (off' := 0) rfl rfl rfl rfl rfl rfl rfl (WL.ldN (T := Ty) (j := 4) rfl rfl rfl rfl rfl rfl (WL.mv rfl rfl ?_))))
              refine WL.ldAF (T := Ty) (j := 13) rfl rfl rfl rfl rfl rfl (by repeat' constructor) ?_
              refine WL.ix (T := Ty) rfl rfl rfl (by assumption) rfl rfl (by omega) (by first | omega | decide +kernel) ?_
              refine WL.stAE (T := Ty) (j := 2) rfl rfl rfl rfl (AO.all (by repeat' first | exact AO.nil | apply AO.cons (by first | rfl | exact SL.one (by assumption)))) rfl (by first | assumption | omega | (simp only [List.length_cons, List.length_nil]; omega)) (Nat.zero_lt_succ _) (by repeat' constructor) ?_
              refine WL.nil (W.inBlock (W.seq ?_))
              refine W.drawP 3 [false, false, false, false, false, false, true, false, false, false, false, false, false, false] rfl (by repeat' constructor) (by repeat' constructor) (fun σ3 hσ3 dσ3 => ?_)
              have fσ3_0 := ros_at 0 rfl hσ3 dσ3
              have fσ3_1 := rb_at 1 rfl hσ3 dσ3
              have fσ3_2 := ros_at 2 rfl hσ3 dσ3
              have fσ3_3 := rb_at 3 rfl hσ3 dσ3
              have fσ3_4 := rb_at 4 rfl hσ3 dσ3
              have fσ3_5 := rb_at 5 rfl hσ3 dσ3
              have fσ3_6 := rb_at 6 rfl hσ3 dσ3
              have fσ3_7 := ros_at 7 rfl hσ3 dσ3
              have fσ3_8 := ros_at 8 rfl hσ3 dσ3
              have fσ3_9 := in_at 9 rfl hσ3 dσ3
              have fσ3_10 := in_at 10 rfl hσ3 dσ3
              have fσ3_11 := ros_at 11 rfl hσ3 dσ3
              have fσ3_12 := rb_at 12 rfl hσ3 dσ3
              refine WD.takeL 0 rfl (by decide +kernel) ?_
              refine WL.ldABF (T := Ty) rfl rfl rfl rfl (by first | assumption | exact RB.wide (by assumption) | exact In.rb (by assumption)) rfl (by repeat' constructor) ?_
              refine WL.nilT (WD.takeL 1 rfl (by decide +kernel) ?_)
              refine WL.ldABF (T := Ty) rfl rfl rfl rfl (by first | assumption | exact RB.wide (by assumption) | exact In.rb (by assumption)) rfl (by repeat' constructor) ?_
              refine WL.nilT (WD.oneL 2 rfl (by decide +kernel) ?_)
              refine WL.stAO (T := Ty) (j := 1) rfl rfl rfl rfl (by repeat' first | exact AO.nil | apply AO.cons (by first | rfl | exact SL.one (by assumption))) rfl rfl (by repeat' constructor) (by repeat' constructor) ?_
              refine WL.nilE ?_
              refine WD.lastG hσ3 (by decide +kernel) (by repeat' constructor) rfl (by repeat' constructor) ?_
              refine WL.stAO (T := Ty) (j := 5) rfl rfl rfl rfl (by repeat' first | exact AO.nil | apply AO.cons (by first | rfl | exact SL.one (by assumption))) rfl rfl (by repeat' constructor) (by repeat' constructor) ?_
              refine WL.nil ?_
              rw [hput, hfl, set_mid L' _ _ hil]
              refine W.fit (Hs' := [Buf 2 _ (nl.flatMap smC), Own owSer L', box b2 _ _, box b3 _ _, Buf 5 u9 _, Buf 2 iv4 (K'.flatMap itrC), Own owItr K']) (by (repeat' first | exact Sel.nil | apply Sel.k | exact Pick.h | apply Pick.t)) ?_
              refine W.two (r := Own owSer (L'.take i ++ [((⟨o.series, false, true, o.t, nl⟩ : Ser), _)] ++ L'.drop i)) _ _ rfl (fun h q => own_ins (f := owSer) (i := i) (a := ((⟨o.series, false, true, o.t, nl⟩ : Ser), _)) q) ?_
              refine W.nb (sz := 2) ?_
              refine W.fit (Hs' := [box b2 _ _, box b3 _ _, Buf 2 nilV [], Buf 5 u9 ((L'.take i ++ [((⟨o.series, false, true, o.t, nl⟩ : Ser), _)] ++ L'.drop i).flatMap serC), Buf 2 iv4 (K'.flatMap itrC), Own owSer (L'.take i ++ [((⟨o.series, false, true, o.t, nl⟩ : Ser), _)] ++ L'.drop i), Own owItr K']) (by (repeat' first | exact Sel.nil | apply Sel.k | exact Pick.h | apply Pick.t)) ?_
              exact W.retCC (T := Ty) (j := 0) (j' := 0) rfl rfl rfl rfl rfl rfl rfl rfl rfl rfl rfl (fun h q => dor_of (R := ⟨0, 0, []⟩) (M := ⟨m.ser.take i ++ [⟨o.series, false, true, o.t, [(o.t, o.v)]⟩] ++ m.ser.drop i, m.its, m.next⟩) (by rw [List.map_append, List.map_append, List.map_take, List.map_drop, e1', hnl]; rfl) e2' q)
          · rw [show doSA m o = (m, ⟨3, 0, []⟩) by unfold doSA; rw [if_neg (by omega)]; unfold doS; rw [hh]]
            refine W.seq (W.seq (W.region (WL.faN (T := Ty) (off' := 0) rfl rfl rfl rfl rfl rfl rfl (WL.ldN (T := Ty) (j := 1) rfl rfl rfl rfl rfl rfl (WL.nil (W.block (W.seq (W.seq (W.region (WL.eql rfl rfl rfl (WL.as rfl rfl (WL.nil (W.condpF rfl (by omega) ?_)))))))))))))
            refine W.seq (W.region (WL.eql rfl rfl rfl (WL.as rfl rfl (WL.nil (W.condpT rfl (by omega) (W.skip (W.condpT rfl (by omega) (W.seq (W.seq (W.region (WL.mv rfl rfl (WL.not rfl rfl (WL.nil ?_)))))))))))))
            refine W.condF rfl (W.skip (W.seq (W.region (WL.mv rfl rfl (WL.lss rfl rfl rfl (WL.mv rfl rfl (WL.gT rfl rfl (by omega) (WL.faN (T := Ty) (off' := 0) rfl rfl rfl rfl rfl rfl rfl (WL.gT rfl rfl (by omega) (WL.ldN (T := Ty) (j := 1) rfl rfl rfl rfl rfl rfl (WL.gT rfl rfl (by omega) (WL.neq rfl rfl rfl (WL.pickTp rfl rfl (by omega) rfl ?_)))))))))))))
            refine WL.nil (W.condpT rfl (by omega) (W.seq (W.region ?_)))
            refine WL.ldAF (T := Ty) (j := 0) rfl rfl rfl rfl rfl rfl (by repeat' constructor) ?_
            refine WL.bdC (T := Ty) rfl rfl rfl rfl (by repeat' first | exact CO.nil | apply CO.one (by first | rfl | exact SL.one (by assumption)) | apply CO.agg) rfl (by repeat' constructor) ?_
            refine WL.stAO (T := Ty) (j := 2) rfl rfl rfl rfl (by repeat' first | exact AO.nil | apply AO.cons (by first | rfl | exact SL.one (by assumption))) rfl rfl (by repeat' constructor) (by repeat' constructor) ?_
            refine WL.stAO (T := Ty) (j := 3) rfl rfl rfl rfl (by repeat' first | exact AO.nil | apply AO.cons (by first | rfl | exact SL.one (by assumption))) rfl rfl (by repeat' constructor) (by repeat' constructor) ?_
            refine WL.nil (W.nb (sz := 2) ?_)
            refine W.fit (Hs' := [box b2 _ _, box b3 _ _, OMdl _ m, Buf 2 nilV []]) (by (repeat' first | exact Sel.nil | apply Sel.k | exact Pick.h | apply Pick.t)) ?_
            exact W.retCC (T := Ty) (j := 0) (j' := 0) rfl rfl rfl rfl rfl rfl rfl rfl rfl rfl rfl (fun h q => dor_err q)
          · rw [show doSA m o = (m, ⟨3, 0, []⟩) by unfold doSA; rw [if_neg (by omega)]; unfold doS; rw [hh]]
            refine W.seq (W.seq (W.region (WL.faN (T := Ty) (off' := 0) rfl rfl rfl rfl rfl rfl rfl (WL.ldN (T := Ty) (j := 1) rfl rfl rfl rfl rfl rfl (WL.nil (W.block (W.seq (W.seq (W.region (WL.eql rfl rfl rfl (WL.as rfl rfl (WL.nil (W.condpF rfl (by omega) ?_)))))))))))))
            refine W.seq (W.region (WL.eql rfl rfl rfl (WL.as rfl rfl (WL.nil (W.condpF rfl (by omega) (W.seq (W.region (WL.eql rfl rfl rfl (WL.as rfl rfl (WL.nil (W.condpT rfl (by omega) (W.skip (W.condpT rfl (by omega) ?_)))))))))))))
            refine W.seq (W.seq (W.region (WL.mv rfl rfl (WL.not rfl rfl (WL.nil (W.condF rfl (W.skip (W.seq (W.region (WL.mv rfl rfl (WL.lss rfl rfl rfl (WL.mv rfl rfl (WL.gT rfl rfl (by omega) ?_)))))))))))))
            refine WL.faN (T := Ty) (off' := 0) rfl rfl rfl rfl rfl rfl rfl (WL.gT rfl rfl (by omega) (WL.ldN (T := Ty) (j := 1) rfl rfl rfl rfl rfl rfl (WL.gT rfl rfl (by omega) (WL.neq rfl rfl rfl (WL.pickTp rfl rfl (by omega) rfl (WL.nil (W.condpT rfl (by omega) (W.seq (W.region ?_)))))))))
            refine WL.ldAF (T := Ty) (j := 0) rfl rfl rfl rfl rfl rfl (by repeat' constructor) ?_
            refine WL.bdC (T := Ty) rfl rfl rfl rfl (by repeat' first | exact CO.nil | apply CO.one (by first | rfl | exact SL.one (by assumption)) | apply CO.agg) rfl (by repeat' constructor) ?_
            refine WL.stAO (T := Ty) (j := 2) rfl rfl rfl rfl (by repeat' first | exact AO.nil | apply AO.cons (by first | rfl | exact SL.one (by assumption))) rfl rfl (by repeat' constructor) (by repeat' constructor) ?_
            refine WL.stAO (T := Ty) (j := 3) rfl rfl rfl rfl (by repeat' first | exact AO.nil | apply AO.cons (by first | rfl | exact SL.one (by assumption))) rfl rfl (by repeat' constructor) (by repeat' constructor) ?_
            refine WL.nil (W.nb (sz := 2) ?_)
            refine W.fit (Hs' := [box b2 _ _, box b3 _ _, OMdl _ m, Buf 2 nilV []]) (by (repeat' first | exact Sel.nil | apply Sel.k | exact Pick.h | apply Pick.t)) ?_
            exact W.retCC (T := Ty) (j := 0) (j' := 0) rfl rfl rfl rfl rfl rfl rfl rfl rfl rfl rfl (fun h q => dor_err q)
          · rw [show doSA m o = (m, ⟨3, 0, []⟩) by unfold doSA; rw [if_neg (by omega)]; unfold doS; rw [hh]]
            refine W.seq (W.seq (W.region (WL.faN (T := Ty) (off' := 0) rfl rfl rfl rfl rfl rfl rfl (WL.ldN (T := Ty) (j := 1) rfl rfl rfl rfl rfl rfl (WL.nil (W.block (W.seq (W.seq (W.region (WL.eql rfl rfl rfl (WL.as rfl rfl (WL.nil (W.condpF rfl (by omega) ?_)))))))))))))
            refine W.seq (W.region (WL.eql rfl rfl rfl (WL.as rfl rfl (WL.nil (W.condpF rfl (by omega) (W.seq (W.region (WL.eql rfl rfl rfl (WL.as rfl rfl (WL.nil (W.condpF rfl (by omega) (W.seq (W.region ?_)))))))))))))
            refine WL.eql rfl rfl rfl (WL.as rfl rfl (WL.nil (W.condpT rfl (by omega) (W.skip (W.condpT rfl (by omega) (W.seq (W.seq (W.region (WL.mv rfl rfl (WL.not rfl rfl (WL.nil (W.condF rfl (W.skip ?_)))))))))))))
            refine W.seq (W.region (WL.mv rfl rfl (WL.lss rfl rfl rfl (WL.mv rfl rfl (WL.gT rfl rfl (by omega) (WL.faN (T := Ty) (off' := 0) rfl rfl rfl rfl rfl rfl rfl (WL.gT rfl rfl (by omega) (WL.ldN (T := Ty) (j := 1) rfl rfl rfl rfl rfl rfl (WL.gT rfl rfl (by omega) (WL.neq rfl rfl rfl (WL.pickTp rfl rfl (by omega) rfl (WL.nil (W.condpT rfl (by omega) ?_)))))))))))))
            refine W.seq (W.region ?_)
            refine WL.ldAF (T := Ty) (j := 0) rfl rfl rfl rfl rfl rfl (by repeat' constructor) ?_
            refine WL.bdC (T := Ty) rfl rfl rfl rfl (by repeat' first | exact CO.nil | apply CO.one (by first | rfl | exact SL.one (by assumption)) | apply CO.agg) rfl (by repeat' constructor) ?_
            refine WL.stAO (T := Ty) (j := 2) rfl rfl rfl rfl (by repeat' first | exact AO.nil | apply AO.cons (by first | rfl | exact SL.one (by assumption))) rfl rfl (by repeat' constructor) (by repeat' constructor) ?_
            refine WL.stAO (T := Ty) (j := 3) rfl rfl rfl rfl (by repeat' first | exact AO.nil | apply AO.cons (by first | rfl | exact SL.one (by assumption))) rfl rfl (by repeat' constructor) (by repeat' constructor) ?_
            refine WL.nil (W.nb (sz := 2) ?_)
            refine W.fit (Hs' := [box b2 _ _, box b3 _ _, OMdl _ m, Buf 2 nilV []]) (by (repeat' first | exact Sel.nil | apply Sel.k | exact Pick.h | apply Pick.t)) ?_
            exact W.retCC (T := Ty) (j := 0) (j' := 0) rfl rfl rfl rfl rfl rfl rfl rfl rfl rfl rfl (fun h q => dor_err q)
          · rw [show doSA m o = (m, ⟨3, 0, []⟩) by unfold doSA; rw [if_neg (by omega)]; unfold doS; rw [hh]]
            refine W.seq (W.seq (W.region (WL.faN (T := Ty) (off' := 0) rfl rfl rfl rfl rfl rfl rfl (WL.ldN (T := Ty) (j := 1) rfl rfl rfl rfl rfl rfl (WL.nil (W.block (W.seq (W.seq (W.region (WL.eql rfl rfl rfl (WL.as rfl rfl (WL.nil (W.condpF rfl (by omega) ?_)))))))))))))
            refine W.seq (W.region (WL.eql rfl rfl rfl (WL.as rfl rfl (WL.nil (W.condpF rfl (by omega) (W.seq (W.region (WL.eql rfl rfl rfl (WL.as rfl rfl (WL.nil (W.condpF rfl (by omega) (W.seq (W.region ?_)))))))))))))
            refine WL.eql rfl rfl rfl (WL.as rfl rfl (WL.nil (W.condpF rfl (by omega) (W.region (WL.eql rfl rfl rfl (WL.as rfl rfl (WL.nil (W.condpT rfl (by omega) (W.seq (W.seq (W.region (WL.mv rfl rfl (WL.not rfl rfl ?_)))))))))))))
            refine WL.nil (W.condF rfl (W.skip (W.seq (W.region (WL.mv rfl rfl (WL.lss rfl rfl rfl (WL.mv rfl rfl (WL.gT rfl rfl (by omega) (WL.faN (T := Ty) (off' := 0) rfl rfl rfl rfl rfl rfl rfl (WL.gT rfl rfl (by omega) (WL.ldN (T := Ty) (j := 1) rfl rfl rfl rfl rfl rfl (WL.gT rfl rfl (by omega) (WL.neq rfl rfl rfl ?_)))))))))))))
            refine WL.pickTp rfl rfl (by omega) rfl (WL.nil (W.condpT rfl (by omega) (W.seq (W.region ?_))))
            refine WL.ldAF (T := Ty) (j := 0) rfl rfl rfl rfl rfl rfl (by repeat' constructor) ?_
            refine WL.bdC (T := Ty) rfl rfl rfl rfl (by repeat' first | exact CO.nil | apply CO.one (by first | rfl | exact SL.one (by assumption)) | apply CO.agg) rfl (by repeat' constructor) ?_
            refine WL.stAO (T := Ty) (j := 2) rfl rfl rfl rfl (by repeat' first | exact AO.nil | apply AO.cons (by first | rfl | exact SL.one (by assumption))) rfl rfl (by repeat' constructor) (by repeat' constructor) ?_
            refine WL.stAO (T := Ty) (j := 3) rfl rfl rfl rfl (by repeat' first | exact AO.nil | apply AO.cons (by first | rfl | exact SL.one (by assumption))) rfl rfl (by repeat' constructor) (by repeat' constructor) ?_
            refine WL.nil (W.nb (sz := 2) ?_)
            refine W.fit (Hs' := [box b2 _ _, box b3 _ _, OMdl _ m, Buf 2 nilV []]) (by (repeat' first | exact Sel.nil | apply Sel.k | exact Pick.h | apply Pick.t)) ?_
            exact W.retCC (T := Ty) (j := 0) (j' := 0) rfl rfl rfl rfl rfl rfl rfl rfl rfl rfl rfl (fun h q => dor_err q)
        | some s =>
          have hat := at_some hI.srt hh
          obtain ⟨hg, hid⟩ := serHas_some hh
          have hm := hI.lens s (List.mem_of_getElem? hg)
          refine W.opens (α := List (Ser × Value) × List (Itr × Value)) (φ := fun x => x.1.map Prod.fst = m.ser ∧ x.2.map Prod.fst = m.its) (ps := fun x => [Buf 5 sv4 (x.1.flatMap serC), Buf 2 iv4 (x.2.flatMap itrC), Own owSer x.1, Own owItr x.2]) 4 rfl (fun h q => omdl_open q) (by repeat' constructor) ?_
          rintro ⟨L', K'⟩ ⟨e1', e2'⟩
          dsimp only [List.cons_append, List.nil_append] at e1' e2' ⊢
          have l1' := ser_cells L'
          have l2' := itr_cells K'
          have lL' : L'.length = m.ser.length := by rw [← e1', List.length_map]
          have lK' : K'.length = m.its.length := by rw [← e2', List.length_map]
          rw [← lL'] at sa4
          rw [← lK'] at sb4
          refine W.fact (i := 2) rfl (fun h hb => ser_one (owSer_rd hb)) (fun o1' => ?_)
          refine W.fact (i := 3) rfl (fun h hb => itr_one (owItr_rd hb)) (fun o2' => ?_)
          refine W.fact (i := 2) rfl (fun h hb => fun p hp => ROs.sl (owSer_rd hb p hp) (sms_cells _) (by omega)) (fun (hslL : ∀ p ∈ L', SL p.2 p.1.list.length) => ?_)
          refine W.fit (Hs' := [box b0 _ _, box b3 _ _, box b2 _ _, box b1 _ _, Buf 5 sv4 (L'.flatMap serC), Buf 2 iv4 (K'.flatMap itrC), Own owSer L', Own owItr K']) (by (repeat' first | exact Sel.nil | apply Sel.k | exact Pick.h | apply Pick.t)) ?_
          generalize hi : serIx m.ser o.series = i at hat hg
          rw [← e1', List.getElem?_map] at hg
          obtain ⟨⟨s', lv⟩, hp, hx⟩ := Option.map_eq_some_iff.1 hg
          dsimp only at hx
          subst hx
          have hil := (List.getElem?_eq_some_iff.1 hp).1
          have c1 : (L'.flatMap serC)[((i : Nat) : Int).toNat * 5 + 1]? = some (.bool s'.shut) := flat_get ser_len hp rfl
          have c2 : (L'.flatMap serC)[((i : Nat) : Int).toNat * 5 + 2]? = some (.bool s'.any) := flat_get ser_len hp rfl
          have c3 : (L'.flatMap serC)[((i : Nat) : Int).toNat * 5 + 3]? = some (.int .i64 s'.last) := flat_get ser_len hp rfl
          have c4 : (L'.flatMap serC)[((i : Nat) : Int).toNat * 5 + 4]? = some lv := flat_get ser_len hp rfl
          rcases (by omega : o.kind = 1 ∨ o.kind = 2 ∨ o.kind = 3 ∨ o.kind = 4 ∨ o.kind = 5) with h | h | h | h | h
          · rw [hat]
            rw [show doSA m o = doA m o from if_pos h]
            have hD : doA m o = addAt m (L'.map Prod.fst) i s' o := by unfold doA addAt; rw [hh, hi, e1']
            rw [hD]
            cases hsh : s'.shut with
            | true =>
              rw [show addAt m (L'.map Prod.fst) i s' o = (m, ⟨2, 0, []⟩) by unfold addAt; rw [if_pos hsh]]
              rw [hsh] at c1
              refine W.seq (W.seq (W.region (WL.faN (T := Ty) (off' := 0) rfl rfl rfl rfl rfl rfl rfl (WL.ldN (T := Ty) (j := 3) rfl rfl rfl rfl rfl rfl (WL.nil (W.block (W.seq (W.seq (W.region (WL.eql rfl rfl rfl (WL.as rfl rfl (WL.nil (W.condpT rfl (by omega) ?_)))))))))))))
              refine W.skip (W.condpT rfl (by omega) (W.seq (W.seq (W.region (WL.mv rfl rfl (WL.not rfl rfl (WL.nil (W.condF rfl (W.skip (W.seq (W.region (WL.mv rfl rfl (WL.lss rfl rfl rfl ?_)))))))))))))
              refine WL.mv rfl rfl (WL.gdN rfl rfl rfl rfl rfl rfl (WL.gdN rfl rfl rfl rfl rfl rfl (WL.gdN rfl rfl rfl rfl rfl rfl (WL.pickF rfl rfl rfl (WL.nil (W.condF rfl (W.skip (W.inBlock (W.seq (W.region ?_))))))))))
              refine WL.bdC (T := Ty) rfl rfl rfl rfl (by repeat' first | exact CO.nil | apply CO.one (by first | rfl | exact SL.one (by assumption)) | apply CO.agg) rfl (by repeat' constructor) ?_
              refine WL.alF (T := Ty) rfl rfl (by repeat' constructor) (fun b4 => ?_)
              refine WL.stAO (T := Ty) (j := 0) rfl rfl rfl rfl (by repeat' first | exact AO.nil | apply AO.cons (by first | rfl | exact SL.one (by assumption))) rfl rfl (by repeat' constructor) (by repeat' constructor) ?_
              refine WL.nil (W.seq (W.seq (W.region (WL.faN (T := Ty) (off' := 0) rfl rfl rfl rfl rfl rfl rfl (WL.ldN (T := Ty) (j := 4) rfl rfl rfl rfl rfl rfl (WL.nil (W.block (W.seq (W.region (WL.eql rfl rfl rfl (WL.as rfl rfl (WL.nil (W.condpT rfl (by omega) ?_)))))))))))))
              refine W.seq (W.seq (W.region (WL.mv rfl rfl (WL.geq rfl rfl rfl (WL.mv rfl rfl (WL.gY rfl rfl (WL.faN (T := Ty) (off' := 0) rfl rfl rfl rfl rfl rfl rfl (WL.gY rfl rfl (WL.ldN (T := Ty) (j := 1) rfl rfl rfl rfl rfl rfl (WL.gY rfl rfl (WL.mv rfl rfl (WL.gY rfl rfl ?_))))))))))))
              refine WL.ix (T := Ty) rfl rfl rfl (by assumption) rfl rfl (by omega) (by first | omega | decide +kernel) ?_
              refine WL.gY rfl rfl (WL.faEN (T := Ty) (off' := 1) rfl rfl rfl rfl rfl rfl rfl (WL.gY rfl rfl ?_))
              refine WL.ldE (T := Ty) (j := 5) rfl rfl rfl rfl rfl (by assumption) ?_
              refine WL.pickT rfl rfl rfl (WL.nil (W.condT rfl (W.seq (W.region ?_))))
              refine WL.ldAF (T := Ty) (j := 1) rfl rfl rfl rfl rfl rfl (by repeat' constructor) ?_
              refine WL.bdC (T := Ty) rfl rfl rfl rfl (by repeat' first | exact CO.nil | apply CO.one (by first | rfl | exact SL.one (by assumption)) | apply CO.agg) rfl (by repeat' constructor) ?_
              refine WL.stAO (T := Ty) (j := 3) rfl rfl rfl rfl (by repeat' first | exact AO.nil | apply AO.cons (by first | rfl | exact SL.one (by assumption))) rfl rfl (by repeat' constructor) (by repeat' constructor) ?_
              refine WL.stAO (T := Ty) (j := 2) rfl rfl rfl rfl (by repeat' first | exact AO.nil | apply AO.cons (by first | rfl | exact SL.one (by assumption))) rfl rfl (by repeat' constructor) (by repeat' constructor) ?_
              refine WL.nil (W.nb (sz := 2) ?_)
              refine W.fit (Hs' := [box b2 _ _, box b3 _ _, Buf 2 nilV [], Buf 5 sv4 (L'.flatMap serC), Buf 2 iv4 (K'.flatMap itrC), Own owSer L', Own owItr K']) (by (repeat' first | exact Sel.nil | apply Sel.k | exact Pick.h | apply Pick.t)) ?_
              exact W.retCC (T := Ty) (j := 0) (j' := 0) rfl rfl rfl rfl rfl rfl rfl rfl rfl rfl rfl (fun h q => dor_of (M := m) (R := ⟨2, 0, []⟩) e1' e2' q)
            | false =>
              rw [hsh] at c1
              cases hany : s'.any with
              | true =>
                rw [hany] at c2
                by_cases hle : o.t ≤ s'.last
                · rw [show addAt m (L'.map Prod.fst) i s' o = (m, ⟨1, 0, []⟩) by unfold addAt; rw [if_neg (by rw [hsh]; decide), if_pos ⟨hany, hle⟩]]
                  refine W.seq (W.seq (W.region (WL.faN (T := Ty) (off' := 0) rfl rfl rfl rfl rfl rfl rfl (WL.ldN (T := Ty) (j := 3) rfl rfl rfl rfl rfl rfl (WL.nil (W.block (W.seq (W.seq (W.region (WL.eql rfl rfl rfl (WL.as rfl rfl (WL.nil (W.condpT rfl (by omega) ?_)))))))))))))
                  refine W.skip (W.condpT rfl (by omega) (W.seq (W.seq (W.region (WL.mv rfl rfl (WL.not rfl rfl (WL.nil (W.condF rfl (W.skip (W.seq (W.region (WL.mv rfl rfl (WL.lss rfl rfl rfl ?_)))))))))))))
                  refine WL.mv rfl rfl (WL.gdN rfl rfl rfl rfl rfl rfl (WL.gdN rfl rfl rfl rfl rfl rfl (WL.gdN rfl rfl rfl rfl rfl rfl (WL.pickF rfl rfl rfl (WL.nil (W.condF rfl (W.skip (W.inBlock (W.seq (W.region ?_))))))))))
                  refine WL.bdC (T := Ty) rfl rfl rfl rfl (by repeat' first | exact CO.nil | apply CO.one (by first | rfl | exact SL.one (by assumption)) | apply CO.agg) rfl (by repeat' constructor) ?_
                  refine WL.alF (T := Ty) rfl rfl (by repeat' constructor) (fun b4 => ?_)
                  refine WL.stAO (T := Ty) (j := 0) rfl rfl rfl rfl (by repeat' first | exact AO.nil | apply AO.cons (by first | rfl | exact SL.one (by assumption))) rfl rfl (by repeat' constructor) (by repeat' constructor) ?_
                  refine WL.nil (W.seq (W.seq (W.region (WL.faN (T := Ty) (off' := 0) rfl rfl rfl rfl rfl rfl rfl (WL.ldN (T := Ty) (j := 4) rfl rfl rfl rfl rfl rfl (WL.nil (W.block (W.seq (W.region (WL.eql rfl rfl rfl (WL.as rfl rfl (WL.nil (W.condpT rfl (by omega) ?_)))))))))))))
                  refine W.seq (W.seq (W.region (WL.mv rfl rfl (WL.geq rfl rfl rfl (WL.mv rfl rfl (WL.gY rfl rfl (WL.faN (T := Ty) (off' := 0) rfl rfl rfl rfl rfl rfl rfl (WL.gY rfl rfl (WL.ldN (T := Ty) (j := 1) rfl rfl rfl rfl rfl rfl (WL.gY rfl rfl (WL.mv rfl rfl (WL.gY rfl rfl ?_))))))))))))
                  refine WL.ix (T := Ty) rfl rfl rfl (by assumption) rfl rfl (by omega) (by first | omega | decide +kernel) ?_
                  refine WL.gY rfl rfl (WL.faEN (T := Ty) (off' := 1) rfl rfl rfl rfl rfl rfl rfl (WL.gY rfl rfl ?_))
                  refine WL.ldE (T := Ty) (j := 5) rfl rfl rfl rfl rfl (by assumption) ?_
                  refine WL.pickT rfl rfl rfl (WL.nil (W.condF rfl (W.skip (W.seq (W.seq ?_)))))
                  refine W.drawA 21 rfl (fun σ0 hσ0 dσ0 => ?_)
                  have fσ0_0 := rb_at 0 rfl hσ0 dσ0
                  have fσ0_1 := rb_at 1 rfl hσ0 dσ0
                  have fσ0_2 := rb_at 2 rfl hσ0 dσ0
                  have fσ0_3 := rb_at 3 rfl hσ0 dσ0
                  have fσ0_4 := rb_at 4 rfl hσ0 dσ0
                  have fσ0_5 := ros_at 5 rfl hσ0 dσ0
                  have fσ0_6 := ros_at 6 rfl hσ0 dσ0
                  have fσ0_7 := in_at 7 rfl hσ0 dσ0
                  have fσ0_8 := in_at 8 rfl hσ0 dσ0
                  refine WD.takeL 0 rfl (by decide +kernel) (WL.mv rfl rfl (WL.nilT (WD.takeL 1 rfl (by decide +kernel) (WL.geq rfl rfl rfl (WL.nilT (WD.takeL 2 rfl (by decide +kernel) (WL.mv rfl rfl (WL.nilT (WD.takeL 3 rfl (by decide +kernel) (WL.gY rfl rfl (WL.faN (T := Ty) (off' := 0) rfl rfl rfl rfl rfl rfl rfl (WL.nilT (WD.takeL 4 rfl (by decide +kernel) ?_)))))))))))))
                  refine WL.gY rfl rfl ?_
                  refine WL.ldBN (T := Ty) rfl rfl rfl rfl (by first | assumption | exact RB.wide (by assumption) | exact In.rb (by assumption)) rfl ?_
                  refine WL.nilT (WD.takeL 5 rfl (by decide +kernel) (WL.gY rfl rfl (WL.mv rfl rfl (WL.nilT (WD.takeL 6 rfl (by decide +kernel) (WL.gY rfl rfl ?_))))))
                  refine WL.ix (T := Ty) rfl rfl rfl (by assumption) rfl rfl (by omega) (by first | omega | decide +kernel) ?_
                  refine WL.nilT (WD.takeL 7 rfl (by decide +kernel) (WL.gY rfl rfl (WL.faEN (T := Ty) (off' := 2) rfl rfl rfl rfl rfl rfl rfl (WL.nilT (WD.takeL 8 rfl (by decide +kernel) (WL.gY rfl rfl ?_))))))
                  refine WL.ldR (T := Ty) rfl rfl rfl rfl (by first | assumption | exact ROs.wide (by assumption)) (by assumption) ?_
                  refine WL.nilT (WD.takeL 9 rfl (by decide +kernel) (WL.pickT rfl rfl rfl (WL.nilT (WD.takeL 10 rfl (by decide +kernel) (WL.mv rfl rfl (WL.nilT (WD.takeL 11 rfl (by decide +kernel) (WL.gY rfl rfl (WL.faN (T := Ty) (off' := 3) rfl rfl rfl rfl rfl rfl rfl (WL.nilT (WD.takeL 12 rfl (by decide +kernel) (WL.gY rfl rfl ?_))))))))))))
                  refine WL.ldBN (T := Ty) rfl rfl rfl rfl (by first | assumption | exact RB.wide (by assumption) | exact In.rb (by assumption)) rfl ?_
                  refine WL.nilT (WD.takeL 13 rfl (by decide +kernel) (WL.gY rfl rfl (WL.faN (T := Ty) (off' := 0) rfl rfl rfl rfl rfl rfl rfl (WL.nilT (WD.takeL 14 rfl (by decide +kernel) (WL.gY rfl rfl ?_))))))
                  refine WL.ldBN (T := Ty) rfl rfl rfl rfl (by first | assumption | exact RB.wide (by assumption) | exact In.rb (by assumption)) rfl ?_
                  refine WL.nilT (WD.takeL 15 rfl (by decide +kernel) (WL.gY rfl rfl (WL.mv rfl rfl (WL.nilT (WD.takeL 16 rfl (by decide +kernel) (WL.gY rfl rfl ?_))))))
                  refine WL.ix (T := Ty) rfl rfl rfl (by assumption) rfl rfl (by omega) (by first | omega | decide +kernel) ?_
                  refine WL.nilT (WD.takeL 17 rfl (by decide +kernel) (WL.gY rfl rfl (WL.faEN (T := Ty) (off' := 3) rfl rfl rfl rfl rfl rfl rfl (WL.nilT (WD.takeL 18 rfl (by decide +kernel) (WL.gY rfl rfl ?_))))))
                  refine WL.ldR (T := Ty) rfl rfl rfl rfl (by first | assumption | exact ROs.wide (by assumption)) (by assumption) ?_
                  refine WL.nilT (WD.takeL 19 rfl (by decide +kernel) (WL.gY rfl rfl (WL.leq rfl rfl rfl (WL.nilT (WD.takeL 20 rfl (by decide +kernel) (WL.pickT rfl rfl rfl (WL.nilT ?_)))))))
                  refine WD.doneF hσ0 (by decide +kernel) (by repeat' constructor) ?_
                  refine W.condpT rfl (by omega) (W.seq (W.region ?_))
                  refine WL.ldAF (T := Ty) (j := 1) rfl rfl rfl rfl rfl rfl (by repeat' constructor) ?_
                  refine WL.bdC (T := Ty) rfl rfl rfl rfl (by repeat' first | exact CO.nil | apply CO.one (by first | rfl | exact SL.one (by assumption)) | apply CO.agg) rfl (by repeat' constructor) ?_
                  refine WL.stAO (T := Ty) (j := 3) rfl rfl rfl rfl (by repeat' first | exact AO.nil | apply AO.cons (by first | rfl | exact SL.one (by assumption))) rfl rfl (by repeat' constructor) (by repeat' constructor) ?_
                  refine WL.stAO (T := Ty) (j := 2) rfl rfl rfl rfl (by repeat' first | exact AO.nil | apply AO.cons (by first | rfl | exact SL.one (by assumption))) rfl rfl (by repeat' constructor) (by repeat' constructor) ?_
                  refine WL.nil (W.nb (sz := 2) ?_)
                  refine W.fit (Hs' := [box b2 _ _, box b3 _ _, Buf 2 nilV [], Buf 5 sv4 (L'.flatMap serC), Buf 2 iv4 (K'.flatMap itrC), Own owSer L', Own owItr K']) (by (repeat' first | exact Sel.nil | apply Sel.k | exact Pick.h | apply Pick.t)) ?_
                  exact W.retCC (T := Ty) (j := 0) (j' := 0) rfl rfl rfl rfl rfl rfl rfl rfl rfl rfl rfl (fun h q => dor_of (M := m) (R := ⟨1, 0, []⟩) e1' e2' q)
                · rw [show addAt m (L'.map Prod.fst) i s' o = (⟨(L'.map Prod.fst).set i { s' with any := true, last := o.t, list := s'.list ++ [(o.t, o.v)] }, m.its, m.next⟩, ⟨0, 0, []⟩) by unfold addAt; rw [if_neg (by rw [hsh]; decide), if_neg (fun h => hle h.2)]]
                  have hp2 := hp
                  have slv := hslL _ (List.mem_of_getElem? hp)
                  dsimp only at slv
                  refine W.seq (W.seq (W.region (WL.faN (T := Ty) (off' := 0) rfl rfl rfl rfl rfl rfl rfl (WL.ldN (T := Ty) (j := 3) rfl rfl rfl rfl rfl rfl (WL.nil (W.block (W.seq (W.seq (W.region (WL.eql rfl rfl rfl (WL.as rfl rfl (WL.nil (W.condpT rfl (by omega) ?_)))))))))))))
                  refine W.skip (W.condpT rfl (by omega) (W.seq (W.seq (W.region (WL.mv rfl rfl (WL.not rfl rfl (WL.nil (W.condF rfl (W.skip (W.seq (W.region (WL.mv rfl rfl (WL.lss rfl rfl rfl ?_)))))))))))))
                  refine WL.mv rfl rfl (WL.gdN rfl rfl rfl rfl rfl rfl (WL.gdN rfl rfl rfl rfl rfl rfl (WL.gdN rfl rfl rfl rfl rfl rfl (WL.pickF rfl rfl rfl (WL.nil (W.condF rfl (W.skip (W.inBlock (W.seq (W.region ?_))))))))))
                  refine WL.bdC (T := Ty) rfl rfl rfl rfl (by repeat' first | exact CO.nil | apply CO.one (by first | rfl | exact SL.one (by assumption)) | apply CO.agg) rfl (by repeat' constructor) ?_
                  refine WL.alF (T := Ty) rfl rfl (by repeat' constructor) (fun b4 => ?_)
                  refine WL.stAO (T := Ty) (j := 0) rfl rfl rfl rfl (by repeat' first | exact AO.nil | apply AO.cons (by first | rfl | exact SL.one (by assumption))) rfl rfl (by repeat' constructor) (by repeat' constructor) ?_
                  refine WL.nil (W.seq (W.seq (W.region (WL.faN (T := Ty) (off' := 0) rfl rfl rfl rfl rfl rfl rfl (WL.ldN (T := Ty) (j := 4) rfl rfl rfl rfl rfl rfl (WL.nil (W.block (W.seq (W.region (WL.eql rfl rfl rfl (WL.as rfl rfl (WL.nil (W.condpT rfl (by omega) ?_)))))))))))))
                  refine W.seq (W.seq (W.region (WL.mv rfl rfl (WL.geq rfl rfl rfl (WL.mv rfl rfl (WL.gY rfl rfl (WL.faN (T := Ty) (off' := 0) rfl rfl rfl rfl rfl rfl rfl (WL.gY rfl rfl (WL.ldN (T := Ty) (j := 1) rfl rfl rfl rfl rfl rfl (WL.gY rfl rfl (WL.mv rfl rfl (WL.gY rfl rfl ?_))))))))))))
                  refine WL.ix (T := Ty) rfl rfl rfl (by assumption) rfl rfl (by omega) (by first | omega | decide +kernel) ?_
                  refine WL.gY rfl rfl (WL.faEN (T := Ty) (off' := 1) rfl rfl rfl rfl rfl rfl rfl (WL.gY rfl rfl ?_))
                  refine WL.ldE (T := Ty) (j := 5) rfl rfl rfl rfl rfl (by assumption) ?_
                  refine WL.pickT rfl rfl rfl (WL.nil (W.condF rfl (W.skip (W.seq (W.seq ?_)))))
                  refine W.drawA 21 rfl (fun σ0 hσ0 dσ0 => ?_)
                  have fσ0_0 := rb_at 0 rfl hσ0 dσ0
                  have fσ0_1 := rb_at 1 rfl hσ0 dσ0
                  have fσ0_2 := rb_at 2 rfl hσ0 dσ0
                  have fσ0_3 := rb_at 3 rfl hσ0 dσ0
                  have fσ0_4 := rb_at 4 rfl hσ0 dσ0
                  have fσ0_5 := ros_at 5 rfl hσ0 dσ0
                  have fσ0_6 := ros_at 6 rfl hσ0 dσ0
                  have fσ0_7 := in_at 7 rfl hσ0 dσ0
                  have fσ0_8 := in_at 8 rfl hσ0 dσ0
                  refine WD.takeL 0 rfl (by decide +kernel) (WL.mv rfl rfl (WL.nilT (WD.takeL 1 rfl (by decide +kernel) (WL.geq rfl rfl rfl (WL.nilT (WD.takeL 2 rfl (by decide +kernel) (WL.mv rfl rfl (WL.nilT (WD.takeL 3 rfl (by decide +kernel) (WL.gY rfl rfl (WL.faN (T := Ty) (off' := 0) rfl rfl rfl rfl rfl rfl rfl (WL.nilT (WD.takeL 4 rfl (by decide +kernel) ?_)))))))))))))
                  refine WL.gY rfl rfl ?_
                  refine WL.ldBN (T := Ty) rfl rfl rfl rfl (by first | assumption | exact RB.wide (by assumption) | exact In.rb (by assumption)) rfl ?_
                  refine WL.nilT (WD.takeL 5 rfl (by decide +kernel) (WL.gY rfl rfl (WL.mv rfl rfl (WL.nilT (WD.takeL 6 rfl (by decide +kernel) (WL.gY rfl rfl ?_))))))
                  refine WL.ix (T := Ty) rfl rfl rfl (by assumption) rfl rfl (by omega) (by first | omega | decide +kernel) ?_
                  refine WL.nilT (WD.takeL 7 rfl (by decide +kernel) (WL.gY rfl rfl (WL.faEN (T := Ty) (off' := 2) rfl rfl rfl rfl rfl rfl rfl (WL.nilT (WD.takeL 8 rfl (by decide +kernel) (WL.gY rfl rfl ?_))))))
                  refine WL.ldR (T := Ty) rfl rfl rfl rfl (by first | assumption | exact ROs.wide (by assumption)) (by assumption) ?_
                  refine WL.nilT (WD.takeL 9 rfl (by decide +kernel) (WL.pickT rfl rfl rfl (WL.nilT (WD.takeL 10 rfl (by decide +kernel) (WL.mv rfl rfl (WL.nilT (WD.takeL 11 rfl (by decide +kernel) (WL.gY rfl rfl (WL.faN (T := Ty) (off' := 3) rfl rfl rfl rfl rfl rfl rfl (WL.nilT (WD.takeL 12 rfl (by decide +kernel) (WL.gY rfl rfl ?_))))))))))))
                  refine WL.ldBN (T := Ty) rfl rfl rfl rfl (by first | assumption | exact RB.wide (by assumption) | exact In.rb (by assumption)) rfl ?_
                  refine WL.nilT (WD.takeL 13 rfl (by decide +kernel) (WL.gY rfl rfl (WL.faN (T := Ty) (off' := 0) rfl rfl rfl rfl rfl rfl rfl (WL.nilT (WD.takeL 14 rfl (by decide +kernel) (WL.gY rfl rfl ?_))))))
                  refine WL.ldBN (T := Ty) rfl rfl rfl rfl (by first | assumption | exact RB.wide (by assumption) | exact In.rb (by assumption)) rfl ?_
                  refine WL.nilT (WD.takeL 15 rfl (by decide +kernel) (WL.gY rfl rfl (WL.mv rfl rfl (WL.nilT (WD.takeL 16 rfl (by decide +kernel) (WL.gY rfl rfl ?_))))))
                  refine WL.ix (T := Ty) rfl rfl rfl (by assumption) rfl rfl (by omega) (by first | omega | decide +kernel) ?_
                  refine WL.nilT (WD.takeL 17 rfl (by decide +kernel) (WL.gY rfl rfl (WL.faEN (T := Ty) (off' := 3) rfl rfl rfl rfl rfl rfl rfl (WL.nilT (WD.takeL 18 rfl (by decide +kernel) (WL.gY rfl rfl ?_))))))
                  refine WL.ldR (T := Ty) rfl rfl rfl rfl (by first | assumption | exact ROs.wide (by assumption)) (by assumption) ?_
                  refine WL.nilT (WD.takeL 19 rfl (by decide +kernel) (WL.gY rfl rfl (WL.leq rfl rfl rfl (WL.nilT (WD.takeL 20 rfl (by decide +kernel) (WL.pickT rfl rfl rfl (WL.nilT ?_)))))))
                  refine WD.doneF hσ0 (by decide +kernel) (by repeat' constructor) ?_
                  refine W.condpF rfl (by omega) (W.skip (W.seq (W.region ?_)))
                  refine WL.ldAF (T := Ty) (j := 1) rfl rfl rfl rfl rfl rfl (by repeat' constructor) ?_
                  refine WL.faN (T := Ty) (off' := 1) rfl rfl rfl rfl rfl rfl rfl (WL.ldN (T := Ty) (j := 4) rfl rfl rfl rfl rfl rfl ?_)
                  have hh' : (serHas (L'.map Prod.fst) o.series).isSome = true := by rw [e1', hh]; rfl
                  refine WL.callF rfl rfl (fun x p d => begun_c _ sv4 iv4 _ L' _ K'.length (in_at 5 rfl p d).ros o1' sb4 (by omega)) (fun r8 => ?_)
                  refine WL.opens (α := Unit) (φ := fun u => r8 = .tuple #[.agg #[sv4, iv4, .int .i64 m.next], .int .i64 (serIx (L'.map Prod.fst) o.series : Nat)]) (ps := fun u => []) 0 rfl (fun h q => q.elim (fun q => ⟨(), q.2.1, q.2.2⟩) (fun q => absurd q.1 (by rw [hh']; decide))) (by repeat' constructor) ?_
                  rintro _ hr8
                  subst hr8
                  dsimp only [List.cons_append, List.nil_append]
                  rw [e1', hi]
                  have l2s := ser_cells (L')
                  have hr2 : (((L').flatMap serC).drop (((i : Nat) : Int).toNat * 5)).take 5 = [.int .i64 s'.id, .bool s'.shut, .bool s'.any, .int .i64 s'.last, lv] := flat_row ser_len hp2
                  have hput : ∀ y, ((L').flatMap serC).take (((i : Nat) : Int).toNat * 5) ++ [.int .i64 s'.id, .bool s'.shut, .bool true, .int .i64 o.t, y] ++ ((L').flatMap serC).drop (((i : Nat) : Int).toNat * 5 + [Value.int .i64 s'.id, .bool s'.shut, .bool true, .int .i64 o.t, y].length) = ((L').set i ({ s' with any := true, last := o.t, list := s'.list ++ [(o.t, o.v)] }, y)).flatMap serC := fun y => flat_put (b := ({ s' with any := true, last := o.t, list := s'.list ++ [(o.t, o.v)] }, y)) ser_len (List.getElem?_eq_some_iff.1 hp2).1
                  have hfl : s'.list.flatMap smC ++ [.int .i64 o.t, .int .u64 o.v] = (s'.list ++ [(o.t, o.v)]).flatMap smC := by rw [List.flatMap_append]; rfl
                  have hcl := sms_cells s'.list
                  refine WL.mv rfl rfl (WL.extL rfl rfl rfl (WL.extL rfl rfl rfl ?_))
                  refine WL.alF (T := Ty) rfl rfl (by repeat' constructor) (fun b5 => ?_)
                  refine WL.stAO (T := Ty) (j := 0) rfl rfl rfl rfl (by repeat' first | exact AO.nil | apply AO.cons (by first | rfl | exact SL.one (by assumption))) rfl rfl (by repeat' constructor) (by repeat' constructor) ?_
                  refine WL.as rfl rfl (WL.nil (W.seq (W.region ?_)))
                  refine WL.ldAF (T := Ty) (j := 0) rfl rfl rfl rfl rfl rfl (by repeat' constructor) ?_
                  refine WL.stAO (T := Ty) (j := 2) rfl rfl rfl rfl (by repeat' first | exact AO.nil | apply AO.cons (by first | rfl | exact SL.one (by assumption))) rfl rfl (by repeat' constructor) (by repeat' constructor) ?_
                  refine WL.nil (W.seq (W.region (WL.faN (T := Ty) (off' := 0) rfl rfl rfl rfl rfl rfl rfl (WL.ldN (T := Ty) (j := 2) rfl rfl rfl rfl rfl rfl (WL.mv rfl rfl ?_)))))
                  refine WL.ix (T := Ty) rfl rfl rfl (by assumption) rfl rfl (by omega) (by first | omega | decide +kernel) ?_
                  refine WL.ldAE (T := Ty) (j := 6) rfl rfl rfl rfl rfl (by assumption) rfl ?_
                  refine WL.alF (T := Ty) rfl rfl (by repeat' constructor) (fun b6 => ?_)
                  refine WL.stAO (T := Ty) (j := 0) rfl rfl rfl rfl (by repeat' first | exact AO.nil | apply AO.cons (by first | rfl | exact SL.one (by assumption))) rfl rfl (by repeat' constructor) (by repeat' constructor) ?_
                  refine WL.nil (W.seq ?_)
                  refine W.drawP 16 [true, false, false, false, false, false, false, false, false, false, false] rfl (by repeat' constructor) (by repeat' constructor) (fun σ1 hσ1 dσ1 => ?_)
                  have fσ1_0 := rb_at 0 rfl hσ1 dσ1
                  have fσ1_1 := rb_at 1 rfl hσ1 dσ1
                  have fσ1_2 := rb_at 2 rfl hσ1 dσ1
                  have fσ1_3 := rb_at 3 rfl hσ1 dσ1
                  have fσ1_4 := rb_at 4 rfl hσ1 dσ1
                  have fσ1_5 := rb_at 5 rfl hσ1 dσ1
                  have fσ1_6 := ros_at 6 rfl hσ1 dσ1
                  have fσ1_7 := ros_at 7 rfl hσ1 dσ1
                  have fσ1_8 := in_at 8 rfl hσ1 dσ1
                  have fσ1_9 := in_at 9 rfl hσ1 dσ1
                  refine WD.takeL 0 rfl (by decide +kernel) (WL.faN (T := Ty) (off' := 3) rfl rfl rfl rfl rfl rfl rfl (WL.nilT (WD.takeL 1 rfl (by decide +kernel) ?_)))
                  refine WL.ldBN (T := Ty) rfl rfl rfl rfl (by first | assumption | exact RB.wide (by assumption) | exact In.rb (by assumption)) rfl ?_
                  refine WL.nilT (WD.takeL 2 rfl (by decide +kernel) (WL.faN (T := Ty) (off' := 4) rfl rfl rfl rfl rfl rfl rfl (WL.nilT (WD.takeL 5 rfl (by decide +kernel) (WL.faN (T := Ty) (off' := 3) rfl rfl rfl rfl rfl rfl rfl (WL.nilT (WD.takeL 6 rfl (by decide +kernel) ?_)))))))
                  refine WL.ldBN (T := Ty) rfl rfl rfl rfl (by first | assumption | exact RB.wide (by assumption) | exact In.rb (by assumption)) rfl ?_
                  refine WL.nilT (WD.takeL 7 rfl (by decide +kernel) (WL.faN (T := Ty) (off' := 4) rfl rfl rfl rfl rfl rfl rfl (WL.nilT (WD.takeL 8 rfl (by decide +kernel) ?_))))
                  refine WL.ldBN (T := Ty) rfl rfl rfl rfl (by first | assumption | exact RB.wide (by assumption) | exact In.rb (by assumption)) rfl ?_
                  refine WL.nilT (WD.takeL 9 rfl (by decide +kernel) ?_)
                  refine WL.bdC (T := Ty) rfl rfl rfl rfl (by repeat' first | exact CO.nil | apply CO.one (by first | rfl | exact SL.one (by assumption)) | apply CO.agg) rfl (by repeat' constructor) ?_
                  refine WL.nilT ?_
                  have hr := (‹In (join ρ σ1) (Own owSer L')›).rsers _ (List.mem_of_getElem? hp)
                  unfold rdSer at hr
                  dsimp only at hr
                  skip
                  refine WD.twoL 3 10 rfl rfl (by decide +kernel) ?_ ?_
                  · refine WL.ldN (T := Ty) (j := 1) rfl rfl rfl rfl rfl rfl ?_
                    refine WL.nilE (WD.takeL 12 rfl (by decide +kernel) (WL.faN (T := Ty) (off' := 2) rfl rfl rfl rfl rfl rfl rfl (WL.nilT ?_)))
                    refine WD.twoL 4 10 rfl rfl (by decide +kernel) ?_ ?_
                    · refine WL.callF rfl rfl (fun x p d => ownR_c _ _ _ (by first | assumption | exact ROs.wide (by assumption) | exact ROs.mono (by assumption) (eqh_at 0 rfl p d) | exact ros_at 0 rfl p d | exact ros_at 1 rfl p d | exact ros_at 2 rfl p d | exact ros_at 3 rfl p d | exact ros_at 4 rfl p d) (by first | assumption | omega)) (fun u7 => ?_)
                      refine WL.fact (i := 0) rfl (fun h hb => hb.sl (sms_cells _) (by omega)) (fun hsl7 => ?_)
                      refine WL.nilS (WD.oneL 10 rfl (by decide +kernel) ?_)
                      refine WL.bsC (T := Ty) rfl rfl rfl rfl rfl rfl rfl (by repeat' first | exact CO.nil | apply CO.one (by first | rfl | exact SL.one (by assumption)) | apply CO.agg) rfl (by repeat' constructor) (fun u8 hu8 => ?_)
                      refine WL.nilH hσ1 (fun σ2 hσ2 dσ2 mσ2 => ?_)
                      have fσ1_0 := fσ1_0.mono mσ2
                      have fσ1_1 := fσ1_1.mono mσ2
                      have fσ1_2 := fσ1_2.mono mσ2
                      have fσ1_3 := fσ1_3.mono mσ2
                      have fσ1_4 := fσ1_4.mono mσ2
                      have fσ1_5 := fσ1_5.mono mσ2
                      have fσ1_6 := fσ1_6.mono mσ2
                      have fσ1_7 := fσ1_7.mono mσ2
                      have fσ1_8 := fσ1_8.mono mσ2
                      have fσ1_9 := fσ1_9.mono mσ2
                      have hr := hr.mono mσ2
                      have fσ2_0 := ros_at 0 rfl hσ2 dσ2
                      refine WD.oneL 11 rfl (by decide +kernel) ?_
                      refine WL.ap (T := Ty) (i := 1) (m := 1) rfl rfl rfl rfl rfl rfl rfl rfl (by first | exact .ro (by assumption) | exact .ro (ROs.wide (by assumption)) | exact .eqJ 0 rfl (by assumption) | exact .own 0 rfl | exact .own 1 rfl | exact .own 2 rfl | exact .own 3 rfl | exact .own 4 rfl | exact .own 5 rfl) (by first | assumption | exact ROs.slm (by assumption)) (by assumption) (by rfl) (AO.all (by repeat' first | exact AO.nil | apply AO.cons (by first | rfl | exact SL.one (by assumption)))) (by first | omega | (simp; omega) | (simp only [List.length_drop, List.length_take]; omega)) (by unfold maxLen; first | omega | (simp only [List.length_drop, List.length_take]; omega)) (fun v' => (by repeat' constructor)) (fun u9 hu9 => ?_)
                      refine WL.nilE (WD.oneL 13 rfl (by decide +kernel) ?_)
                      refine WL.stF (T := Ty) (j := 2) rfl rfl rfl rfl rfl rfl rfl (by repeat' constructor) (by repeat' constructor) ?_
                      refine WL.nilE (WD.takeL 14 rfl (by decide +kernel) (WL.faN (T := Ty) (off' := 3) rfl rfl rfl rfl rfl rfl rfl (WL.nilT (WD.oneL 15 rfl (by decide +kernel) ?_))))
                      refine WL.stF (T := Ty) (j := 2) rfl rfl rfl rfl rfl rfl rfl (by repeat' constructor) (by repeat' constructor) ?_
                      refine WL.nilE ?_
                      refine WD.lastG hσ2 (by decide +kernel) (by repeat' constructor) rfl (by repeat' constructor) ?_
                      refine WL.faN (T := Ty) (off' := 4) rfl rfl rfl rfl rfl rfl rfl ?_
                      refine WL.stF (T := Ty) (j := 12) rfl rfl rfl rfl (SL.one (by assumption)) rfl rfl (by repeat' constructor) (by repeat' constructor) ?_
                      refine WL.nil (W.region (WL.faN (T := Ty) (off' := 0) rfl rfl rfl rfl rfl rfl rfl (WL.ldN (T := Ty) (j := 3) rfl rfl rfl rfl rfl rfl (WL.mv rfl rfl ?_))))
                      refine WL.ldAF (T := Ty) (j := 12) rfl rfl rfl rfl rfl rfl (by repeat' constructor) ?_
                      refine WL.ix (T := Ty) rfl rfl rfl (by assumption) rfl rfl (by omega) (by first | omega | decide +kernel) ?_
                      refine WL.stAE (T := Ty) (j := 7) rfl rfl rfl rfl (AO.all (by repeat' first | exact AO.nil | apply AO.cons (by first | rfl | exact SL.one (by assumption)))) rfl (by first | assumption | omega | (simp only [List.length_cons, List.length_nil]; omega)) (Nat.zero_lt_succ _) (by repeat' constructor) ?_
                      refine WL.nil (W.inBlock (W.seq ?_))
                      refine W.drawP 3 [false, false, false, false, false, true, false, false, false, false, false, false, false] rfl (by repeat' constructor) (by repeat' constructor) (fun σ3 hσ3 dσ3 => ?_)
                      have fσ3_0 := ros_at 0 rfl hσ3 dσ3
                      have fσ3_1 := rb_at 1 rfl hσ3 dσ3
                      have fσ3_2 := rb_at 2 rfl hσ3 dσ3
                      have fσ3_3 := rb_at 3 rfl hσ3 dσ3
                      have fσ3_4 := rb_at 4 rfl hσ3 dσ3
                      have fσ3_5 := rb_at 5 rfl hσ3 dσ3
                      have fσ3_6 := ros_at 6 rfl hσ3 dσ3
                      have fσ3_7 := ros_at 7 rfl hσ3 dσ3
                      have fσ3_8 := in_at 8 rfl hσ3 dσ3
                      have fσ3_9 := in_at 9 rfl hσ3 dσ3
                      have fσ3_10 := ros_at 10 rfl hσ3 dσ3
                      have fσ3_11 := rb_at 11 rfl hσ3 dσ3
                      refine WD.takeL 0 rfl (by decide +kernel) ?_
                      refine WL.ldABF (T := Ty) rfl rfl rfl rfl (by first | assumption | exact RB.wide (by assumption) | exact In.rb (by assumption)) rfl (by repeat' constructor) ?_
                      refine WL.nilT (WD.takeL 1 rfl (by decide +kernel) ?_)
                      refine WL.ldABF (T := Ty) rfl rfl rfl rfl (by first | assumption | exact RB.wide (by assumption) | exact In.rb (by assumption)) rfl (by repeat' constructor) ?_
                      refine WL.nilT (WD.oneL 2 rfl (by decide +kernel) ?_)
                      refine WL.stAO (T := Ty) (j := 1) rfl rfl rfl rfl (by repeat' first | exact AO.nil | apply AO.cons (by first | rfl | exact SL.one (by assumption))) rfl rfl (by repeat' constructor) (by repeat' constructor) ?_
                      refine WL.nilE ?_
                      refine WD.lastG hσ3 (by decide +kernel) (by repeat' constructor) rfl (by repeat' constructor) ?_
                      refine WL.stAO (T := Ty) (j := 4) rfl rfl rfl rfl (by repeat' first | exact AO.nil | apply AO.cons (by first | rfl | exact SL.one (by assumption))) rfl rfl (by repeat' constructor) (by repeat' constructor) ?_
                      refine WL.nil ?_
                      rw [hput, hfl]
                      refine W.fit (Hs' := [Own owSer L', Buf 2 _ ((s'.list ++ [(o.t, o.v)]).flatMap smC), box b2 _ _, box b3 _ _, Buf 5 sv4 _, Buf 2 iv4 (K'.flatMap itrC), Own owItr K']) (by (repeat' first | exact Sel.nil | apply Sel.k | exact Pick.h | apply Pick.t)) ?_
                      refine W.parts (ps := [owSer (s', lv), Own owSer (L'.eraseIdx i)]) 0 rfl (fun h q => own_out hp q) (by repeat' constructor) ?_
                      refine W.fit (Hs' := [Buf 2 _ ((s'.list ++ [(o.t, o.v)]).flatMap smC), Own owSer (L'.eraseIdx i), box b2 _ _, box b3 _ _, Buf 5 sv4 _, Buf 2 iv4 (K'.flatMap itrC), Own owItr K']) (by (repeat' first | exact Sel.nil | apply Sel.k | exact Pick.h | apply Pick.t)) ?_
                      refine W.two (r := Own owSer (L'.set i ({ s' with any := true, last := o.t, list := s'.list ++ [(o.t, o.v)] }, _))) _ _ rfl (fun h q => own_in (f := owSer) (a := ({ s' with any := true, last := o.t, list := s'.list ++ [(o.t, o.v)] }, _)) hp q) ?_
                      refine W.nb (sz := 2) ?_
                      refine W.fit (Hs' := [box b2 _ _, box b3 _ _, Buf 2 nilV [], Buf 5 sv4 ((L'.set i ({ s' with any := true, last := o.t, list := s'.list ++ [(o.t, o.v)] }, _)).flatMap serC), Buf 2 iv4 (K'.flatMap itrC), Own owSer (L'.set i ({ s' with any := true, last := o.t, list := s'.list ++ [(o.t, o.v)] }, _)), Own owItr K']) (by (repeat' first | exact Sel.nil | apply Sel.k | exact Pick.h | apply Pick.t)) ?_
                      exact W.retCC (T := Ty) (j := 0) (j' := 0) rfl rfl rfl rfl rfl rfl rfl rfl rfl rfl rfl (fun h q => dor_of (R := ⟨0, 0, []⟩) (M := ⟨m.ser.set i { s' with any := true, last := o.t, list := s'.list ++ [(o.t, o.v)] }, m.its, m.next⟩) (by rw [List.map_set, e1']) e2' q)
                    · refine WL.bsC (T := Ty) rfl rfl rfl rfl rfl rfl rfl (by repeat' first | exact CO.nil | apply CO.one (by first | rfl | exact SL.one (by assumption)) | apply CO.agg) rfl (by repeat' constructor) (fun u7 hu7 => ?_)
                      refine WL.nilH hσ1 (fun σ2 hσ2 dσ2 mσ2 => ?_)
                      have fσ1_0 := fσ1_0.mono mσ2
                      have fσ1_1 := fσ1_1.mono mσ2
                      have fσ1_2 := fσ1_2.mono mσ2
                      have fσ1_3 := fσ1_3.mono mσ2
                      have fσ1_4 := fσ1_4.mono mσ2
                      have fσ1_5 := fσ1_5.mono mσ2
                      have fσ1_6 := fσ1_6.mono mσ2
                      have fσ1_7 := fσ1_7.mono mσ2
                      have fσ1_8 := fσ1_8.mono mσ2
                      have fσ1_9 := fσ1_9.mono mσ2
                      have hr := hr.mono mσ2
                      have fσ2_0 := ros_at 0 rfl hσ2 dσ2
                      refine WD.oneL 4 rfl (by decide +kernel) ?_
                      refine WL.callF rfl rfl (fun x p d => ownR_c _ _ _ (by first | assumption | exact ROs.wide (by assumption) | exact ROs.mono (by assumption) (eqh_at 0 rfl p d) | exact ros_at 0 rfl p d | exact ros_at 1 rfl p d | exact ros_at 2 rfl p d | exact ros_at 3 rfl p d | exact ros_at 4 rfl p d) (by first | assumption | omega)) (fun u8 => ?_)
                      refine WL.fact (i := 0) rfl (fun h hb => hb.sl (sms_cells _) (by omega)) (fun hsl8 => ?_)
                      refine WL.nilS (WD.oneL 11 rfl (by decide +kernel) ?_)
                      refine WL.ap (T := Ty) (i := 1) (m := 1) rfl rfl rfl rfl rfl rfl rfl rfl (by first | exact .ro (by assumption) | exact .ro (ROs.wide (by assumption)) | exact .eqJ 0 rfl (by assumption) | exact .own 0 rfl | exact .own 1 rfl | exact .own 2 rfl | exact .own 3 rfl | exact .own 4 rfl | exact .own 5 rfl) (by first | assumption | exact ROs.slm (by assumption)) (by assumption) (by rfl) (AO.all (by repeat' first | exact AO.nil | apply AO.cons (by first | rfl | exact SL.one (by assumption)))) (by first | omega | (simp; omega) | (simp only [List.length_drop, List.length_take]; omega)) (by unfold maxLen; first | omega | (simp only [List.length_drop, List.length_take]; omega)) (fun v' => (by repeat' constructor)) (fun u9 hu9 => ?_)
                      refine WL.nilE (WD.oneL 13 rfl (by decide +kernel) ?_)
                      refine WL.stF (T := Ty) (j := 2) rfl rfl rfl rfl rfl rfl rfl (by repeat' constructor) (by repeat' constructor) ?_
                      refine WL.nilE (WD.takeL 14 rfl (by decide +kernel) (WL.faN (T := Ty) (off' := 3) rfl rfl rfl rfl rfl rfl rfl (WL.nilT (WD.oneL 15 rfl (by decide +kernel) ?_))))
                      refine WL.stF (T := Ty) (j := 2) rfl rfl rfl rfl rfl rfl rfl (by repeat' constructor) (by repeat' constructor) ?_
                      refine WL.nilE ?_
                      refine WD.lastG hσ2 (by decide +kernel) (by repeat' constructor) rfl (by repeat' constructor) ?_
                      refine WL.faN (T := Ty) (off' := 4) rfl rfl rfl rfl rfl rfl rfl ?_
                      refine WL.stF (T := Ty) (j := 12) rfl rfl rfl rfl (SL.one (by assumption)) rfl rfl (by repeat' constructor) (by repeat' constructor) ?_
                      refine WL.nil (W.region (WL.faN (T := Ty) (off' := 0) rfl rfl rfl rfl rfl rfl rfl (WL.ldN (T := Ty) (j := 3) rfl rfl rfl rfl rfl rfl (WL.mv rfl rfl ?_))))
                      refine WL.ldAF (T := Ty) (j := 12) rfl rfl rfl rfl rfl rfl (by repeat' constructor) ?_
                      refine WL.ix (T := Ty) rfl rfl rfl (by assumption) rfl rfl (by omega) (by first | omega | decide +kernel) ?_
                      refine WL.stAE (T := Ty) (j := 7) rfl rfl rfl rfl (AO.all (by repeat' first | exact AO.nil | apply AO.cons (by first | rfl | exact SL.one (by assumption)))) rfl (by first | assumption | omega | (simp only [List.length_cons, List.length_nil]; omega)) (Nat.zero_lt_succ _) (by repeat' constructor) ?_
                      refine WL.nil (W.inBlock (W.seq ?_))
                      refine W.drawP 3 [false, false, false, false, false, true, false, false, false, false, false, false, false] rfl (by repeat' constructor) (by repeat' constructor) (fun σ3 hσ3 dσ3 => ?_)
                      have fσ3_0 := ros_at 0 rfl hσ3 dσ3
                      have fσ3_1 := rb_at 1 rfl hσ3 dσ3
                      have fσ3_2 := rb_at 2 rfl hσ3 dσ3
                      have fσ3_3 := rb_at 3 rfl hσ3 dσ3
                      have fσ3_4 := rb_at 4 rfl hσ3 dσ3
                      have fσ3_5 := rb_at 5 rfl hσ3 dσ3
                      have fσ3_6 := ros_at 6 rfl hσ3 dσ3
                      have fσ3_7 := ros_at 7 rfl hσ3 dσ3
                      have fσ3_8 := in_at 8 rfl hσ3 dσ3
                      have fσ3_9 := in_at 9 rfl hσ3 dσ3
                      have fσ3_10 := ros_at 10 rfl hσ3 dσ3
                      have fσ3_11 := rb_at 11 rfl hσ3 dσ3
                      refine WD.takeL 0 rfl (by decide +kernel) ?_
                      refine WL.ldABF (T := Ty) rfl rfl rfl rfl (by first | assumption | exact RB.wide (by assumption) | exact In.rb (by assumption)) rfl (by repeat' constructor) ?_
                      refine WL.nilT (WD.takeL 1 rfl (by decide +kernel) ?_)
                      refine WL.ldABF (T := Ty) rfl rfl rfl rfl (by first | assumption | exact RB.wide (by assumption) | exact In.rb (by assumption)) rfl (by repeat' constructor) ?_
                      refine WL.nilT (WD.oneL 2 rfl (by decide +kernel) ?_)
                      refine WL.stAO (T := Ty) (j := 1) rfl rfl rfl rfl (by repeat' first | exact AO.nil | apply AO.cons (by first | rfl | exact SL.one (by assumption))) rfl rfl (by repeat' constructor) (by repeat' constructor) ?_
                      refine WL.nilE ?_
                      refine WD.lastG hσ3 (by decide +kernel) (by repeat' constructor) rfl (by repeat' constructor) ?_
                      refine WL.stAO (T := Ty) (j := 4) rfl rfl rfl rfl (by repeat' first | exact AO.nil | apply AO.cons (by first | rfl | exact SL.one (by assumption))) rfl rfl (by repeat' constructor) (by repeat' constructor) ?_
                      refine WL.nil ?_
                      rw [hput, hfl]
                      refine W.fit (Hs' := [Own owSer L', Buf 2 _ ((s'.list ++ [(o.t, o.v)]).flatMap smC), box b2 _ _, box b3 _ _, Buf 5 sv4 _, Buf 2 iv4 (K'.flatMap itrC), Own owItr K']) (by (repeat' first | exact Sel.nil | apply Sel.k | exact Pick.h | apply Pick.t)) ?_
                      refine W.parts (ps := [owSer (s', lv), Own owSer (L'.eraseIdx i)]) 0 rfl (fun h q => own_out hp q) (by repeat' constructor) ?_
                      refine W.fit (Hs' := [Buf 2 _ ((s'.list ++ [(o.t, o.v)]).flatMap smC), Own owSer (L'.eraseIdx i), box b2 _ _, box b3 _ _, Buf 5 sv4 _, Buf 2 iv4 (K'.flatMap itrC), Own owItr K']) (by (repeat' first | exact Sel.nil | apply Sel.k | exact Pick.h | apply Pick.t)) ?_
                      refine W.two (r := Own owSer (L'.set i ({ s' with any := true, last := o.t, list := s'.list ++ [(o.t, o.v)] }, _))) _ _ rfl (fun h q => own_in (f := owSer) (a := ({ s' with any := true, last := o.t, list := s'.list ++ [(o.t, o.v)] }, _)) hp q) ?_
                      refine W.nb (sz := 2) ?_
                      refine W.fit (Hs' := [box b2 _ _, box b3 _ _, Buf 2 nilV [], Buf 5 sv4 ((L'.set i ({ s' with any := true, last := o.t, list := s'.list ++ [(o.t, o.v)] }, _)).flatMap serC), Buf 2 iv4 (K'.flatMap itrC), Own owSer (L'.set i ({ s' with any := true, last := o.t, list := s'.list ++ [(o.t, o.v)] }, _)), Own owItr K']) (by (repeat' first | exact Sel.nil | apply Sel.k | exact Pick.h | apply Pick.t)) ?_
                      exact W.retCC (T := Ty) (j := 0) (j' := 0) rfl rfl rfl rfl rfl rfl rfl rfl rfl rfl rfl (fun h q => dor_of (R := ⟨0, 0, []⟩) (M := ⟨m.ser.set i { s' with any := true, last := o.t, list := s'.list ++ [(o.t, o.v)] }, m.its, m.next⟩) (by rw [List.map_set, e1']) e2' q)
                  · refine WL.bsC (T := Ty) rfl rfl rfl rfl rfl rfl rfl (by repeat' first | exact CO.nil | apply CO.one (by first | rfl | exact SL.one (by assumption)) | apply CO.agg) rfl (by repeat' constructor) (fun u7 hu7 => ?_)
                    refine WL.nilH hσ1 (fun σ2 hσ2 dσ2 mσ2 => ?_)
                    have fσ1_0 := fσ1_0.mono mσ2
                    have fσ1_1 := fσ1_1.mono mσ2
                    have fσ1_2 := fσ1_2.mono mσ2
                    have fσ1_3 := fσ1_3.mono mσ2
                    have fσ1_4 := fσ1_4.mono mσ2
                    have fσ1_5 := fσ1_5.mono mσ2
                    have fσ1_6 := fσ1_6.mono mσ2
                    have fσ1_7 := fσ1_7.mono mσ2
                    have fσ1_8 := fσ1_8.mono mσ2
                    have fσ1_9 := fσ1_9.mono mσ2
                    have hr := hr.mono mσ2
                    have fσ2_0 := ros_at 0 rfl hσ2 dσ2
                    refine WD.oneL 3 rfl (by decide +kernel) (WL.ldN (T := Ty) (j := 1) rfl rfl rfl rfl rfl rfl (WL.nilE (WD.takeL 12 rfl (by decide +kernel) (WL.faN (T := Ty) (off' := 2) rfl rfl rfl rfl rfl rfl rfl (WL.nilT (WD.oneL 4 rfl (by decide +kernel) ?_))))))
                    refine WL.callF rfl rfl (fun x p d => ownR_c _ _ _ (by first | assumption | exact ROs.wide (by assumption) | exact ROs.mono (by assumption) (eqh_at 0 rfl p d) | exact ros_at 0 rfl p d | exact ros_at 1 rfl p d | exact ros_at 2 rfl p d | exact ros_at 3 rfl p d | exact ros_at 4 rfl p d) (by first | assumption | omega)) (fun u8 => ?_)
                    refine WL.fact (i := 0) rfl (fun h hb => hb.sl (sms_cells _) (by omega)) (fun hsl8 => ?_)
                    refine WL.nilS (WD.oneL 11 rfl (by decide +kernel) ?_)
                    refine WL.ap (T := Ty) (i := 1) (m := 1) rfl rfl rfl rfl rfl rfl rfl rfl (by first | exact .ro (by assumption) | exact .ro (ROs.wide (by assumption)) | exact .eqJ 0 rfl (by assumption) | exact .own 0 rfl | exact .own 1 rfl | exact .own 2 rfl | exact .own 3 rfl | exact .own 4 rfl | exact .own 5 rfl) (by first | assumption | exact ROs.slm (by assumption)) (by assumption) (by rfl) (AO.all (by repeat' first | exact AO.nil | apply AO.cons (by first | rfl | exact SL.one (by assumption)))) (by first | omega | (simp; omega) | (simp only [List.length_drop, List.length_take]; omega)) (by unfold maxLen; first | omega | (simp only [List.length_drop, List.length_take]; omega)) (fun v' => (by repeat' constructor)) (fun u9 hu9 => ?_)
                    refine WL.nilE (WD.oneL 13 rfl (by decide +kernel) ?_)
                    refine WL.stF (T := Ty) (j := 2) rfl rfl rfl rfl rfl rfl rfl (by repeat' constructor) (by repeat' constructor) ?_
                    refine WL.nilE (WD.takeL 14 rfl (by decide +kernel) (WL.faN (T := Ty) (off' := 3) rfl rfl rfl rfl rfl rfl rfl (WL.nilT (WD.oneL 15 rfl (by decide +kernel) ?_))))
                    refine WL.stF (T := Ty) (j := 2) rfl rfl rfl rfl rfl rfl rfl (by repeat' constructor) (by repeat' constructor) ?_
                    refine WL.nilE ?_
                    refine WD.lastG hσ2 (by decide +kernel) (by repeat' constructor) rfl (by repeat' constructor) ?_
                    refine WL.faN (T := Ty) (off' := 4) rfl rfl rfl rfl rfl rfl rfl ?_
                    refine WL.stF (T := Ty) (j := 12) rfl rfl rfl rfl (SL.one (by assumption)) rfl rfl (by repeat' constructor) (by repeat' constructor) ?_
                    refine WL.nil (W.region (WL.faN (T := Ty) (off' := 0) rfl rfl rfl rfl rfl rfl rfl (WL.ldN (T := Ty) (j := 3) rfl rfl rfl rfl rfl rfl (WL.mv rfl rfl ?_))))
                    refine WL.ldAF (T := Ty) (j := 12) rfl rfl rfl rfl rfl rfl (by repeat' constructor) ?_
                    refine WL.ix (T := Ty) rfl rfl rfl (by assumption) rfl rfl (by omega) (by first | omega | decide +kernel) ?_
                    refine WL.stAE (T := Ty) (j := 7) rfl rfl rfl rfl (AO.all (by repeat' first | exact AO.nil | apply AO.cons (by first | rfl | exact SL.one (by assumption)))) rfl (by first | assumption | omega | (simp only [List.length_cons, List.length_nil]; omega)) (Nat.zero_lt_succ _) (by repeat' constructor) ?_
                    refine WL.nil (W.inBlock (W.seq ?_))
                    refine W.drawP 3 [false, false, false, false, false, true, false, false, false, false, false, false, false] rfl (by repeat' constructor) (by repeat' constructor) (fun σ3 hσ3 dσ3 => ?_)
                    have fσ3_0 := ros_at 0 rfl hσ3 dσ3
                    have fσ3_1 := rb_at 1 rfl hσ3 dσ3
                    have fσ3_2 := rb_at 2 rfl hσ3 dσ3
                    have fσ3_3 := rb_at 3 rfl hσ3 dσ3
                    have fσ3_4 := rb_at 4 rfl hσ3 dσ3
                    have fσ3_5 := rb_at 5 rfl hσ3 dσ3
                    have fσ3_6 := ros_at 6 rfl hσ3 dσ3
                    have fσ3_7 := ros_at 7 rfl hσ3 dσ3
                    have fσ3_8 := in_at 8 rfl hσ3 dσ3
                    have fσ3_9 := in_at 9 rfl hσ3 dσ3
                    have fσ3_10 := ros_at 10 rfl hσ3 dσ3
                    have fσ3_11 := rb_at 11 rfl hσ3 dσ3
                    refine WD.takeL 0 rfl (by decide +kernel) ?_
                    refine WL.ldABF (T := Ty) rfl rfl rfl rfl (by first | assumption | exact RB.wide (by assumption) | exact In.rb (by assumption)) rfl (by repeat' constructor) ?_
                    refine WL.nilT (WD.takeL 1 rfl (by decide +kernel) ?_)
                    refine WL.ldABF (T := Ty) rfl rfl rfl rfl (by first | assumption | exact RB.wide (by assumption) | exact In.rb (by assumption)) rfl (by repeat' constructor) ?_
                    refine WL.nilT (WD.oneL 2 rfl (by decide +kernel) ?_)
                    refine WL.stAO (T := Ty) (j := 1) rfl rfl rfl rfl (by repeat' first | exact AO.nil | apply AO.cons (by first | rfl | exact SL.one (by assumption))) rfl rfl (by repeat' constructor) (by repeat' constructor) ?_
                    refine WL.nilE ?_
                    refine WD.lastG hσ3 (by decide +kernel) (by repeat' constructor) rfl (by repeat' constructor) ?_
                    refine WL.stAO (T := Ty) (j := 4) rfl rfl rfl rfl (by repeat' first | exact AO.nil | apply AO.cons (by first | rfl | exact SL.one (by assumption))) rfl rfl (by repeat' constructor) (by repeat' constructor) ?_
                    refine WL.nil ?_
                    rw [hput, hfl]
                    refine W.fit (Hs' := [Own owSer L', Buf 2 _ ((s'.list ++ [(o.t, o.v)]).flatMap smC), box b2 _ _, box b3 _ _, Buf 5 sv4 _, Buf 2 iv4 (K'.flatMap itrC), Own owItr K']) (by (repeat' first | exact Sel.nil | apply Sel.k | exact Pick.h | apply Pick.t)) ?_
                    refine W.parts (ps := [owSer (s', lv), Own owSer (L'.eraseIdx i)]) 0 rfl (fun h q => own_out hp q) (by repeat' constructor) ?_
                    refine W.fit (Hs' := [Buf 2 _ ((s'.list ++ [(o.t, o.v)]).flatMap smC), Own owSer (L'.eraseIdx i), box b2 _ _, box b3 _ _, Buf 5 sv4 _, Buf 2 iv4 (K'.flatMap itrC), Own owItr K']) (by (repeat' first | exact Sel.nil | apply Sel.k | exact Pick.h | apply Pick.t)) ?_
                    refine W.two (r := Own owSer (L'.set i ({ s' with any := true, last := o.t, list := s'.list ++ [(o.t, o.v)] }, _))) _ _ rfl (fun h q => own_in (f := owSer) (a := ({ s' with any := true, last := o.t, list := s'.list ++ [(o.t, o.v)] }, _)) hp q) ?_
                    refine W.nb (sz := 2) ?_
                    refine W.fit (Hs' := [box b2 _ _, box b3 _ _, Buf 2 nilV [], Buf 5 sv4 ((L'.set i ({ s' with any := true, last := o.t, list := s'.list ++ [(o.t, o.v)] }, _)).flatMap serC), Buf 2 iv4 (K'.flatMap itrC), Own owSer (L'.set i ({ s' with any := true, last := o.t, list := s'.list ++ [(o.t, o.v)] }, _)), Own owItr K']) (by (repeat' first | exact Sel.nil | apply Sel.k | exact Pick.h | apply Pick.t)) ?_
                    exact W.retCC (T := Ty) (j := 0) (j' := 0) rfl rfl rfl rfl rfl rfl rfl rfl rfl rfl rfl (fun h q => dor_of (R := ⟨0, 0, []⟩) (M := ⟨m.ser.set i { s' with any := true, last := o.t, list := s'.list ++ [(o.t, o.v)] }, m.its, m.next⟩) (by rw [List.map_set, e1']) e2' q)
              | false =>
                rw [hany] at c2
                rw [show addAt m (L'.map Prod.fst) i s' o = (⟨(L'.map Prod.fst).set i { s' with any := true, last := o.t, list := s'.list ++ [(o.t, o.v)] }, m.its, m.next⟩, ⟨0, 0, []⟩) by unfold addAt; rw [if_neg (by rw [hsh]; decide), if_neg (fun h => by rw [hany] at h; cases h.1)]]
                have hp2 := hp
                have slv := hslL _ (List.mem_of_getElem? hp)
                dsimp only at slv
                refine W.seq (W.seq (W.region (WL.faN (T := Ty) (off' := 0) rfl rfl rfl rfl rfl rfl rfl (WL.ldN (T := Ty) (j := 3) rfl rfl rfl rfl rfl rfl (WL.nil (W.block (W.seq (W.seq (W.region (WL.eql rfl rfl rfl (WL.as rfl rfl (WL.nil (W.condpT rfl (by omega) ?_)))))))))))))
                refine W.skip (W.condpT rfl (by omega) (W.seq (W.seq (W.region (WL.mv rfl rfl (WL.not rfl rfl (WL.nil (W.condF rfl (W.skip (W.seq (W.region (WL.mv rfl rfl (WL.lss rfl rfl rfl ?_)))))))))))))
                refine WL.mv rfl rfl (WL.gdN rfl rfl rfl rfl rfl rfl (WL.gdN rfl rfl rfl rfl rfl rfl (WL.gdN rfl rfl rfl rfl rfl rfl (WL.pickF rfl rfl rfl (WL.nil (W.condF rfl (W.skip (W.inBlock (W.seq (W.region ?_))))))))))
                refine WL.bdC (T := Ty) rfl rfl rfl rfl (by repeat' first | exact CO.nil | apply CO.one (by first | rfl | exact SL.one (by assumption)) | apply CO.agg) rfl (by repeat' constructor) ?_
                refine WL.alF (T := Ty) rfl rfl (by repeat' constructor) (fun b4 => ?_)
                refine WL.stAO (T := Ty) (j := 0) rfl rfl rfl rfl (by repeat' first | exact AO.nil | apply AO.cons (by first | rfl | exact SL.one (by assumption))) rfl rfl (by repeat' constructor) (by repeat' constructor) ?_
                refine WL.nil (W.seq (W.seq (W.region (WL.faN (T := Ty) (off' := 0) rfl rfl rfl rfl rfl rfl rfl (WL.ldN (T := Ty) (j := 4) rfl rfl rfl rfl rfl rfl (WL.nil (W.block (W.seq (W.region (WL.eql rfl rfl rfl (WL.as rfl rfl (WL.nil (W.condpT rfl (by omega) ?_)))))))))))))
                refine W.seq (W.seq (W.region (WL.mv rfl rfl (WL.geq rfl rfl rfl (WL.mv rfl rfl (WL.gY rfl rfl (WL.faN (T := Ty) (off' := 0) rfl rfl rfl rfl rfl rfl rfl (WL.gY rfl rfl (WL.ldN (T := Ty) (j := 1) rfl rfl rfl rfl rfl rfl (WL.gY rfl rfl (WL.mv rfl rfl (WL.gY rfl rfl ?_))))))))))))
                refine WL.ix (T := Ty) rfl rfl rfl (by assumption) rfl rfl (by omega) (by first | omega | decide +kernel) ?_
                refine WL.gY rfl rfl (WL.faEN (T := Ty) (off' := 1) rfl rfl rfl rfl rfl rfl rfl (WL.gY rfl rfl ?_))
                refine WL.ldE (T := Ty) (j := 5) rfl rfl rfl rfl rfl (by assumption) ?_
                refine WL.pickT rfl rfl rfl (WL.nil (W.condF rfl (W.skip (W.seq (W.seq ?_)))))
                refine W.drawA 21 rfl (fun σ0 hσ0 dσ0 => ?_)
                have fσ0_0 := rb_at 0 rfl hσ0 dσ0
                have fσ0_1 := rb_at 1 rfl hσ0 dσ0
                have fσ0_2 := rb_at 2 rfl hσ0 dσ0
                have fσ0_3 := rb_at 3 rfl hσ0 dσ0
                have fσ0_4 := rb_at 4 rfl hσ0 dσ0
                have fσ0_5 := ros_at 5 rfl hσ0 dσ0
                have fσ0_6 := ros_at 6 rfl hσ0 dσ0
                have fσ0_7 := in_at 7 rfl hσ0 dσ0
                have fσ0_8 := in_at 8 rfl hσ0 dσ0
                refine WD.takeL 0 rfl (by decide +kernel) (WL.mv rfl rfl (WL.nilT (WD.takeL 1 rfl (by decide +kernel) (WL.geq rfl rfl rfl (WL.nilT (WD.takeL 2 rfl (by decide +kernel) (WL.mv rfl rfl (WL.nilT (WD.takeL 3 rfl (by decide +kernel) (WL.gY rfl rfl (WL.faN (T := Ty) (off' := 0) rfl rfl rfl rfl rfl rfl rfl (WL.nilT (WD.takeL 4 rfl (by decide +kernel) ?_)))))))))))))
                refine WL.gY rfl rfl ?_
                refine WL.ldBN (T := Ty) rfl rfl rfl rfl (by first | assumption | exact RB.wide (by assumption) | exact In.rb (by assumption)) rfl ?_
                refine WL.nilT (WD.takeL 5 rfl (by decide +kernel) (WL.gY rfl rfl (WL.mv rfl rfl (WL.nilT (WD.takeL 6 rfl (by decide +kernel) (WL.gY rfl rfl ?_))))))
                refine WL.ix (T := Ty) rfl rfl rfl (by assumption) rfl rfl (by omega) (by first | omega | decide +kernel) ?_
                refine WL.nilT (WD.takeL 7 rfl (by decide +kernel) (WL.gY rfl rfl (WL.faEN (T := Ty) (off' := 2) rfl rfl rfl rfl rfl rfl rfl (WL.nilT (WD.takeL 8 rfl (by decide +kernel) (WL.gY rfl rfl ?_))))))
                refine WL.ldR (T := Ty) rfl rfl rfl rfl (by first | assumption | exact ROs.wide (by assumption)) (by assumption) ?_
                refine WL.nilT (WD.takeL 9 rfl (by decide +kernel) (WL.pickT rfl rfl rfl (WL.nilT (WD.takeL 10 rfl (by decide +kernel) (WL.mv rfl rfl (WL.nilT (WD.takeL 11 rfl (by decide +kernel) (WL.gdN rfl rfl rfl rfl rfl rfl (WL.nilT (WD.takeL 12 rfl (by decide +kernel) (WL.gdN rfl rfl rfl rfl rfl rfl (WL.nilT (WD.takeL 13 rfl (by decide +kernel) ?_)))))))))))))
                refine WL.gdN rfl rfl rfl rfl rfl rfl (WL.nilT (WD.takeL 14 rfl (by decide +kernel) (WL.gdN rfl rfl rfl rfl rfl rfl (WL.nilT (WD.takeL 15 rfl (by decide +kernel) (WL.gdN rfl rfl rfl rfl rfl rfl (WL.nilT (WD.takeL 16 rfl (by decide +kernel) (WL.gdN rfl rfl rfl rfl rfl rfl (WL.nilT (WD.takeL 17 rfl (by decide +kernel) (WL.gdN rfl rfl rfl rfl rfl rfl (WL.nilT ?_)))))))))))))
                refine WD.takeL 18 rfl (by decide +kernel) (WL.gdN rfl rfl rfl rfl rfl rfl (WL.nilT (WD.takeL 19 rfl (by decide +kernel) (WL.gdN rfl rfl rfl rfl rfl rfl (WL.nilT (WD.takeL 20 rfl (by decide +kernel) (WL.pickF rfl rfl rfl (WL.nilT ?_))))))))
                refine WD.doneF hσ0 (by decide +kernel) (by repeat' constructor) ?_
                refine W.condF rfl (W.skip (W.seq (W.region ?_)))
                refine WL.ldAF (T := Ty) (j := 1) rfl rfl rfl rfl rfl rfl (by repeat' constructor) ?_
                refine WL.faN (T := Ty) (off' := 1) rfl rfl rfl rfl rfl rfl rfl (WL.ldN (T := Ty) (j := 4) rfl rfl rfl rfl rfl rfl ?_)
                have hh' : (serHas (L'.map Prod.fst) o.series).isSome = true := by rw [e1', hh]; rfl
                refine WL.callF rfl rfl (fun x p d => begun_c _ sv4 iv4 _ L' _ K'.length (in_at 5 rfl p d).ros o1' sb4 (by omega)) (fun r8 => ?_)
                refine WL.opens (α := Unit) (φ := fun u => r8 = .tuple #[.agg #[sv4, iv4, .int .i64 m.next], .int .i64 (serIx (L'.map Prod.fst) o.series : Nat)]) (ps := fun u => []) 0 rfl (fun h q => q.elim (fun q => ⟨(), q.2.1, q.2.2⟩) (fun q => absurd q.1 (by rw [hh']; decide))) (by repeat' constructor) ?_
                rintro _ hr8
                subst hr8
                dsimp only [List.cons_append, List.nil_append]
                rw [e1', hi]
                have l2s := ser_cells (L')
                have hr2 : (((L').flatMap serC).drop (((i : Nat) : Int).toNat * 5)).take 5 = [.int .i64 s'.id, .bool s'.shut, .bool s'.any, .int .i64 s'.last, lv] := flat_row ser_len hp2
                have hput : ∀ y, ((L').flatMap serC).take (((i : Nat) : Int).toNat * 5) ++ [.int .i64 s'.id, .bool s'.shut, .bool true, .int .i64 o.t, y] ++ ((L').flatMap serC).drop (((i : Nat) : Int).toNat * 5 + [Value.int .i64 s'.id, .bool s'.shut, .bool true, .int .i64 o.t, y].length) = ((L').set i ({ s' with any := true, last := o.t, list := s'.list ++ [(o.t, o.v)] }, y)).flatMap serC := fun y => flat_put (b := ({ s' with any := true, last := o.t, list := s'.list ++ [(o.t, o.v)] }, y)) ser_len (List.getElem?_eq_some_iff.1 hp2).1
                have hfl : s'.list.flatMap smC ++ [.int .i64 o.t, .int .u64 o.v] = (s'.list ++ [(o.t, o.v)]).flatMap smC := by rw [List.flatMap_append]; rfl
                have hcl := sms_cells s'.list
                refine WL.mv rfl rfl (WL.extL rfl rfl rfl (WL.extL rfl rfl rfl ?_))
                refine WL.alF (T := Ty) rfl rfl (by repeat' constructor) (fun b5 => ?_)
                refine WL.stAO (T := Ty) (j := 0) rfl rfl rfl rfl (by repeat' first | exact AO.nil | apply AO.cons (by first | rfl | exact SL.one (by assumption))) rfl rfl (by repeat' constructor) (by repeat' constructor) ?_
                refine WL.as rfl rfl (WL.nil (W.seq (W.region ?_)))
                refine WL.ldAF (T := Ty) (j := 0) rfl rfl rfl rfl rfl rfl (by repeat' constructor) ?_
                refine WL.stAO (T := Ty) (j := 2) rfl rfl rfl rfl (by repeat' first | exact AO.nil | apply AO.cons (by first | rfl | exact SL.one (by assumption))) rfl rfl (by repeat' constructor) (by repeat' constructor) ?_
                refine WL.nil (W.seq (W.region (WL.faN (T := Ty) (off' := 0) rfl rfl rfl rfl rfl rfl rfl (WL.ldN (T := Ty) (j := 2) rfl rfl rfl rfl rfl rfl (WL.mv rfl rfl ?_)))))
                refine WL.ix (T := Ty) rfl rfl rfl (by assumption) rfl rfl (by omega) (by first | omega | decide +kernel) ?_
                refine WL.ldAE (T := Ty) (j := 6) rfl rfl rfl rfl rfl (by assumption) rfl ?_
                refine WL.alF (T := Ty) rfl rfl (by repeat' constructor) (fun b6 => ?_)
                refine WL.stAO (T := Ty) (j := 0) rfl rfl rfl rfl (by repeat' first | exact AO.nil | apply AO.cons (by first | rfl | exact SL.one (by assumption))) rfl rfl (by repeat' constructor) (by repeat' constructor) ?_
                refine WL.nil (W.seq ?_)
                refine W.drawP 16 [true, false, false, false, false, false, false, false, false, false, false] rfl (by repeat' constructor) (by repeat' constructor) (fun σ1 hσ1 dσ1 => ?_)
                have fσ1_0 := rb_at 0 rfl hσ1 dσ1
                have fσ1_1 := rb_at 1 rfl hσ1 dσ1
                have fσ1_2 := rb_at 2 rfl hσ1 dσ1
                have fσ1_3 := rb_at 3 rfl hσ1 dσ1
                have fσ1_4 := rb_at 4 rfl hσ1 dσ1
                have fσ1_5 := rb_at 5 rfl hσ1 dσ1
                have fσ1_6 := ros_at 6 rfl hσ1 dσ1
                have fσ1_7 := ros_at 7 rfl hσ1 dσ1
                have fσ1_8 := in_at 8 rfl hσ1 dσ1
                have fσ1_9 := in_at 9 rfl hσ1 dσ1
                refine WD.takeL 0 rfl (by decide +kernel) (WL.faN (T := Ty) (off' := 3) rfl rfl rfl rfl rfl rfl rfl (WL.nilT (WD.takeL 1 rfl (by decide +kernel) ?_)))
                refine WL.ldBN (T := Ty) rfl rfl rfl rfl (by first | assumption | exact RB.wide (by assumption) | exact In.rb (by assumption)) rfl ?_
                refine WL.nilT (WD.takeL 2 rfl (by decide +kernel) (WL.faN (T := Ty) (off' := 4) rfl rfl rfl rfl rfl rfl rfl (WL.nilT (WD.takeL 5 rfl (by decide +kernel) (WL.faN (T := Ty) (off' := 3) rfl rfl rfl rfl rfl rfl rfl (WL.nilT (WD.takeL 6 rfl (by decide +kernel) ?_)))))))
                refine WL.ldBN (T := Ty) rfl rfl rfl rfl (by first | assumption | exact RB.wide (by assumption) | exact In.rb (by assumption)) rfl ?_
                refine WL.nilT (WD.takeL 7 rfl (by decide +kernel) (WL.faN (T := Ty) (off' := 4) rfl rfl rfl rfl rfl rfl rfl (WL.nilT (WD.takeL 8 rfl (by decide +kernel) ?_))))
                refine WL.ldBN (T := Ty) rfl rfl rfl rfl (by first | assumption | exact RB.wide (by assumption) | exact In.rb (by assumption)) rfl ?_
                refine WL.nilT (WD.takeL 9 rfl (by decide +kernel) ?_)
                refine WL.bdC (T := Ty) rfl rfl rfl rfl (by repeat' first | exact CO.nil | apply CO.one (by first | rfl | exact SL.one (by assumption)) | apply CO.agg) rfl (by repeat' constructor) ?_
                refine WL.nilT ?_
                have hr := (‹In (join ρ σ1) (Own owSer L')›).rsers _ (List.mem_of_getElem? hp)
                unfold rdSer at hr
                dsimp only at hr
                skip
                refine WD.twoL 3 10 rfl rfl (by decide +kernel) ?_ ?_
                · refine WL.ldN (T := Ty) (j := 1) rfl rfl rfl rfl rfl rfl ?_
                  refine WL.nilE (WD.takeL 12 rfl (by decide +kernel) (WL.faN (T := Ty) (off' := 2) rfl rfl rfl rfl rfl rfl rfl (WL.nilT ?_)))
                  refine WD.twoL 4 10 rfl rfl (by decide +kernel) ?_ ?_
                  · refine WL.callF rfl rfl (fun x p d => ownR_c _ _ _ (by first | assumption | exact ROs.wide (by assumption) | exact ROs.mono (by assumption) (eqh_at 0 rfl p d) | exact ros_at 0 rfl p d | exact ros_at 1 rfl p d | exact ros_at 2 rfl p d | exact ros_at 3 rfl p d | exact ros_at 4 rfl p d) (by first | assumption | omega)) (fun u7 => ?_)
                    refine WL.fact (i := 0) rfl (fun h hb => hb.sl (sms_cells _) (by omega)) (fun hsl7 => ?_)
                    refine WL.nilS (WD.oneL 10 rfl (by decide +kernel) ?_)
                    refine WL.bsC (T := Ty) rfl rfl rfl rfl rfl rfl rfl (by repeat' first | exact CO.nil | apply CO.one (by first | rfl | exact SL.one (by assumption)) | apply CO.agg) rfl (by repeat' constructor) (fun u8 hu8 => ?_)
                    refine WL.nilH hσ1 (fun σ2 hσ2 dσ2 mσ2 => ?_)
                    have fσ1_0 := fσ1_0.mono mσ2
                    have fσ1_1 := fσ1_1.mono mσ2
                    have fσ1_2 := fσ1_2.mono mσ2
                    have fσ1_3 := fσ1_3.mono mσ2
                    have fσ1_4 := fσ1_4.mono mσ2
                    have fσ1_5 := fσ1_5.mono mσ2
                    have fσ1_6 := fσ1_6.mono mσ2
                    have fσ1_7 := fσ1_7.mono mσ2
                    have fσ1_8 := fσ1_8.mono mσ2
                    have fσ1_9 := fσ1_9.mono mσ2
                    have hr := hr.mono mσ2
                    have fσ2_0 := ros_at 0 rfl hσ2 dσ2
                    refine WD.oneL 11 rfl (by decide +kernel) ?_
                    refine WL.ap (T := Ty) (i := 1) (m := 1) rfl rfl rfl rfl rfl rfl rfl rfl (by first | exact .ro (by assumption) | exact .ro (ROs.wide (by assumption)) | exact .eqJ 0 rfl (by assumption) | exact .own 0 rfl | exact .own 1 rfl | exact .own 2 rfl | exact .own 3 rfl | exact .own 4 rfl | exact .own 5 rfl) (by first | assumption | exact ROs.slm (by assumption)) (by assumption) (by rfl) (AO.all (by repeat' first | exact AO.nil | apply AO.cons (by first | rfl | exact SL.one (by assumption)))) (by first | omega | (simp; omega) | (simp only [List.length_drop, List.length_take]; omega)) (by unfold maxLen; first | omega | (simp only [List.length_drop, List.length_take]; omega)) (fun v' => (by repeat' constructor)) (fun u9 hu9 => ?_)
                    refine WL.nilE (WD.oneL 13 rfl (by decide +kernel) ?_)
                    refine WL.stF (T := Ty) (j := 2) rfl rfl rfl rfl rfl rfl rfl (by repeat' constructor) (by repeat' constructor) ?_
                    refine WL.nilE (WD.takeL 14 rfl (by decide +kernel) (WL.faN (T := Ty) (off' := 3) rfl rfl rfl rfl rfl rfl rfl (WL.nilT (WD.oneL 15 rfl (by decide +kernel) ?_))))
                    refine WL.stF (T := Ty) (j := 2) rfl rfl rfl rfl rfl rfl rfl (by repeat' constructor) (by repeat' constructor) ?_
                    refine WL.nilE ?_
                    refine WD.lastG hσ2 (by decide +kernel) (by repeat' constructor) rfl (by repeat' constructor) ?_
                    refine WL.faN (T := Ty) (off' := 4) rfl rfl rfl rfl rfl rfl rfl ?_
                    refine WL.stF (T := Ty) (j := 12) rfl rfl rfl rfl (SL.one (by assumption)) rfl rfl (by repeat' constructor) (by repeat' constructor) ?_
                    refine WL.nil (W.region (WL.faN (T := Ty) (off' := 0) rfl rfl rfl rfl rfl rfl rfl (WL.ldN (T := Ty) (j := 3) rfl rfl rfl rfl rfl rfl (WL.mv rfl rfl ?_))))
                    refine WL.ldAF (T := Ty) (j := 12) rfl rfl rfl rfl rfl rfl (by repeat' constructor) ?_
                    refine WL.ix (T := Ty) rfl rfl rfl (by assumption) rfl rfl (by omega) (by first | omega | decide +kernel) ?_
                    refine WL.stAE (T := Ty) (j := 7) rfl rfl rfl rfl (AO.all (by repeat' first | exact AO.nil | apply AO.cons (by first | rfl | exact SL.one (by assumption)))) rfl (by first | assumption | omega | (simp only [List.length_cons, List.length_nil]; omega)) (Nat.zero_lt_succ _) (by repeat' constructor) ?_
                    refine WL.nil (W.inBlock (W.seq ?_))
                    refine W.drawP 3 [false, false, false, false, false, true, false, false, false, false, false, false, false] rfl (by repeat' constructor) (by repeat' constructor) (fun σ3 hσ3 dσ3 => ?_)
                    have fσ3_0 := ros_at 0 rfl hσ3 dσ3
                    have fσ3_1 := rb_at 1 rfl hσ3 dσ3
                    have fσ3_2 := rb_at 2 rfl hσ3 dσ3
                    have fσ3_3 := rb_at 3 rfl hσ3 dσ3
                    have fσ3_4 := rb_at 4 rfl hσ3 dσ3
                    have fσ3_5 := rb_at 5 rfl hσ3 dσ3
                    have fσ3_6 := ros_at 6 rfl hσ3 dσ3
                    have fσ3_7 := ros_at 7 rfl hσ3 dσ3
                    have fσ3_8 := in_at 8 rfl hσ3 dσ3
                    have fσ3_9 := in_at 9 rfl hσ3 dσ3
                    have fσ3_10 := ros_at 10 rfl hσ3 dσ3
                    have fσ3_11 := rb_at 11 rfl hσ3 dσ3
                    refine WD.takeL 0 rfl (by decide +kernel) ?_
                    refine WL.ldABF (T := Ty) rfl rfl rfl rfl (by first | assumption | exact RB.wide (by assumption) | exact In.rb (by assumption)) rfl (by repeat' constructor) ?_
                    refine WL.nilT (WD.takeL 1 rfl (by decide +kernel) ?_)
                    refine WL.ldABF (T := Ty) rfl rfl rfl rfl (by first | assumption | exact RB.wide (by assumption) | exact In.rb (by assumption)) rfl (by repeat' constructor) ?_
                    refine WL.nilT (WD.oneL 2 rfl (by decide +kernel) ?_)
                    refine WL.stAO (T := Ty) (j := 1) rfl rfl rfl rfl (by repeat' first | exact AO.nil | apply AO.cons (by first | rfl | exact SL.one (by assumption))) rfl rfl (by repeat' constructor) (by repeat' constructor) ?_
                    refine WL.nilE ?_
                    refine WD.lastG hσ3 (by decide +kernel) (by repeat' constructor) rfl (by repeat' constructor) ?_
                    refine WL.stAO (T := Ty) (j := 4) rfl rfl rfl rfl (by repeat' first | exact AO.nil | apply AO.cons (by first | rfl | exact SL.one (by assumption))) rfl rfl (by repeat' constructor) (by repeat' constructor) ?_
                    refine WL.nil ?_
                    rw [hput, hfl]
                    refine W.fit (Hs' := [Own owSer L', Buf 2 _ ((s'.list ++ [(o.t, o.v)]).flatMap smC), box b2 _ _, box b3 _ _, Buf 5 sv4 _, Buf 2 iv4 (K'.flatMap itrC), Own owItr K']) (by (repeat' first | exact Sel.nil | apply Sel.k | exact Pick.h | apply Pick.t)) ?_
                    refine W.parts (ps := [owSer (s', lv), Own owSer (L'.eraseIdx i)]) 0 rfl (fun h q => own_out hp q) (by repeat' constructor) ?_
                    refine W.fit (Hs' := [Buf 2 _ ((s'.list ++ [(o.t, o.v)]).flatMap smC), Own owSer (L'.eraseIdx i), box b2 _ _, box b3 _ _, Buf 5 sv4 _, Buf 2 iv4 (K'.flatMap itrC), Own owItr K']) (by (repeat' first | exact Sel.nil | apply Sel.k | exact Pick.h | apply Pick.t)) ?_
                    refine W.two (r := Own owSer (L'.set i ({ s' with any := true, last := o.t, list := s'.list ++ [(o.t, o.v)] }, _))) _ _ rfl (fun h q => own_in (f := owSer) (a := ({ s' with any := true, last := o.t, list := s'.list ++ [(o.t, o.v)] }, _)) hp q) ?_
                    refine W.nb (sz := 2) ?_
                    refine W.fit (Hs' := [box b2 _ _, box b3 _ _, Buf 2 nilV [], Buf 5 sv4 ((L'.set i ({ s' with any := true, last := o.t, list := s'.list ++ [(o.t, o.v)] }, _)).flatMap serC), Buf 2 iv4 (K'.flatMap itrC), Own owSer (L'.set i ({ s' with any := true, last := o.t, list := s'.list ++ [(o.t, o.v)] }, _)), Own owItr K']) (by (repeat' first | exact Sel.nil | apply Sel.k | exact Pick.h | apply Pick.t)) ?_
                    exact W.retCC (T := Ty) (j := 0) (j' := 0) rfl rfl rfl rfl rfl rfl rfl rfl rfl rfl rfl (fun h q => dor_of (R := ⟨0, 0, []⟩) (M := ⟨m.ser.set i { s' with any := true, last := o.t, list := s'.list ++ [(o.t, o.v)] }, m.its, m.next⟩) (by rw [List.map_set, e1']) e2' q)
                  · refine WL.bsC (T := Ty) rfl rfl rfl rfl rfl rfl rfl (by repeat' first | exact CO.nil | apply CO.one (by first | rfl | exact SL.one (by assumption)) | apply CO.agg) rfl (by repeat' constructor) (fun u7 hu7 => ?_)
                    refine WL.nilH hσ1 (fun σ2 hσ2 dσ2 mσ2 => ?_)
                    have fσ1_0 := fσ1_0.mono mσ2
                    have fσ1_1 := fσ1_1.mono mσ2
                    have fσ1_2 := fσ1_2.mono mσ2
                    have fσ1_3 := fσ1_3.mono mσ2
                    have fσ1_4 := fσ1_4.mono mσ2
                    have fσ1_5 := fσ1_5.mono mσ2
                    have fσ1_6 := fσ1_6.mono mσ2
                    have fσ1_7 := fσ1_7.mono mσ2
                    have fσ1_8 := fσ1_8.mono mσ2
                    have fσ1_9 := fσ1_9.mono mσ2
                    have hr := hr.mono mσ2
                    have fσ2_0 := ros_at 0 rfl hσ2 dσ2
                    refine WD.oneL 4 rfl (by decide +kernel) ?_
                    refine WL.callF rfl rfl (fun x p d => ownR_c _ _ _ (by first | assumption | exact ROs.wide (by assumption) | exact ROs.mono (by assumption) (eqh_at 0 rfl p d) | exact ros_at 0 rfl p d | exact ros_at 1 rfl p d | exact ros_at 2 rfl p d | exact ros_at 3 rfl p d | exact ros_at 4 rfl p d) (by first | assumption | omega)) (fun u8 => ?_)
                    refine WL.fact (i := 0) rfl (fun h hb => hb.sl (sms_cells _) (by omega)) (fun hsl8 => ?_)
                    refine WL.nilS (WD.oneL 11 rfl (by decide +kernel) ?_)
                    refine WL.ap (T := Ty) (i := 1) (m := 1) rfl rfl rfl rfl rfl rfl rfl rfl (by first | exact .ro (by assumption) | exact .ro (ROs.wide (by assumption)) | exact .eqJ 0 rfl (by assumption) | exact .own 0 rfl | exact .own 1 rfl | exact .own 2 rfl | exact .own 3 rfl | exact .own 4 rfl | exact .own 5 rfl) (by first | assumption | exact ROs.slm (by assumption)) (by assumption) (by rfl) (AO.all (by repeat' first | exact AO.nil | apply AO.cons (by first | rfl | exact SL.one (by assumption)))) (by first | omega | (simp; omega) | (simp only [List.length_drop, List.length_take]; omega)) (by unfold maxLen; first | omega | (simp only [List.length_drop, List.length_take]; omega)) (fun v' => (by repeat' constructor)) (fun u9 hu9 => ?_)
                    refine WL.nilE (WD.oneL 13 rfl (by decide +kernel) ?_)
                    refine WL.stF (T := Ty) (j := 2) rfl rfl rfl rfl rfl rfl rfl (by repeat' constructor) (by repeat' constructor) ?_
                    refine WL.nilE (WD.takeL 14 rfl (by decide +kernel) (WL.faN (T := Ty) (off' := 3) rfl rfl rfl rfl rfl rfl rfl (WL.nilT (WD.oneL 15 rfl (by decide +kernel) ?_))))
                    refine WL.stF (T := Ty) (j := 2) rfl rfl rfl rfl rfl rfl rfl (by repeat' constructor) (by repeat' constructor) ?_
                    refine WL.nilE ?_
                    refine WD.lastG hσ2 (by decide +kernel) (by repeat' constructor) rfl (by repeat' constructor) ?_
                    refine WL.faN (T := Ty) (off' := 4) rfl rfl rfl rfl rfl rfl rfl ?_
                    refine WL.stF (T := Ty) (j := 12) rfl rfl rfl rfl (SL.one (by assumption)) rfl rfl (by repeat' constructor) (by repeat' constructor) ?_
                    refine WL.nil (W.region (WL.faN (T := Ty) (off' := 0) rfl rfl rfl rfl rfl rfl rfl (WL.ldN (T := Ty) (j := 3) rfl rfl rfl rfl rfl rfl (WL.mv rfl rfl ?_))))
                    refine WL.ldAF (T := Ty) (j := 12) rfl rfl rfl rfl rfl rfl (by repeat' constructor) ?_
                    refine WL.ix (T := Ty) rfl rfl rfl (by assumption) rfl rfl (by omega) (by first | omega | decide +kernel) ?_
                    refine WL.stAE (T := Ty) (j := 7) rfl rfl rfl rfl (AO.all (by repeat' first | exact AO.nil | apply AO.cons (by first | rfl | exact SL.one (by assumption)))) rfl (by first | assumption | omega | (simp only [List.length_cons, List.length_nil]; omega)) (Nat.zero_lt_succ _) (by repeat' constructor) ?_
                    refine WL.nil (W.inBlock (W.seq ?_))
                    refine W.drawP 3 [false, false, false, false, false, true, false, false, false, false, false, false, false] rfl (by repeat' constructor) (by repeat' constructor) (fun σ3 hσ3 dσ3 => ?_)
                    have fσ3_0 := ros_at 0 rfl hσ3 dσ3
                    have fσ3_1 := rb_at 1 rfl hσ3 dσ3
                    have fσ3_2 := rb_at 2 rfl hσ3 dσ3
                    have fσ3_3 := rb_at 3 rfl hσ3 dσ3
                    have fσ3_4 := rb_at 4 rfl hσ3 dσ3
                    have fσ3_5 := rb_at 5 rfl hσ3 dσ3
                    have fσ3_6 := ros_at 6 rfl hσ3 dσ3
                    have fσ3_7 := ros_at 7 rfl hσ3 dσ3
                    have fσ3_8 := in_at 8 rfl hσ3 dσ3
                    have fσ3_9 := in_at 9 rfl hσ3 dσ3
                    have fσ3_10 := ros_at 10 rfl hσ3 dσ3
                    have fσ3_11 := rb_at 11 rfl hσ3 dσ3
                    refine WD.takeL 0 rfl (by decide +kernel) ?_
                    refine WL.ldABF (T := Ty) rfl rfl rfl rfl (by first | assumption | exact RB.wide (by assumption) | exact In.rb (by assumption)) rfl (by repeat' constructor) ?_
                    refine WL.nilT (WD.takeL 1 rfl (by decide +kernel) ?_)
                    refine WL.ldABF (T := Ty) rfl rfl rfl rfl (by first | assumption | exact RB.wide (by assumption) | exact In.rb (by assumption)) rfl (by repeat' constructor) ?_
                    refine WL.nilT (WD.oneL 2 rfl (by decide +kernel) ?_)
                    refine WL.stAO (T := Ty) (j := 1) rfl rfl rfl rfl (by repeat' first | exact AO.nil | apply AO.cons (by first | rfl | exact SL.one (by assumption))) rfl rfl (by repeat' constructor) (by repeat' constructor) ?_
                    refine WL.nilE ?_
                    refine WD.lastG hσ3 (by decide +kernel) (by repeat' constructor) rfl (by repeat' constructor) ?_
                    refine WL.stAO (T := Ty) (j := 4) rfl rfl rfl rfl (by repeat' first | exact AO.nil | apply AO.cons (by first | rfl | exact SL.one (by assumption))) rfl rfl (by repeat' constructor) (by repeat' constructor) ?_
                    refine WL.nil ?_
                    rw [hput, hfl]
                    refine W.fit (Hs' := [Own owSer L', Buf 2 _ ((s'.list ++ [(o.t, o.v)]).flatMap smC), box b2 _ _, box b3 _ _, Buf 5 sv4 _, Buf 2 iv4 (K'.flatMap itrC), Own owItr K']) (by (repeat' first | exact Sel.nil | apply Sel.k | exact Pick.h | apply Pick.t)) ?_
                    refine W.parts (ps := [owSer (s', lv), Own owSer (L'.eraseIdx i)]) 0 rfl (fun h q => own_out hp q) (by repeat' constructor) ?_
                    refine W.fit (Hs' := [Buf 2 _ ((s'.list ++ [(o.t, o.v)]).flatMap smC), Own owSer (L'.eraseIdx i), box b2 _ _, box b3 _ _, Buf 5 sv4 _, Buf 2 iv4 (K'.flatMap itrC), Own owItr K']) (by (repeat' first | exact Sel.nil | apply Sel.k | exact Pick.h | apply Pick.t)) ?_
                    refine W.two (r := Own owSer (L'.set i ({ s' with any := true, last := o.t, list := s'.list ++ [(o.t, o.v)] }, _))) _ _ rfl (fun h q => own_in (f := owSer) (a := ({ s' with any := true, last := o.t, list := s'.list ++ [(o.t, o.v)] }, _)) hp q) ?_
                    refine W.nb (sz := 2) ?_
                    refine W.fit (Hs' := [box b2 _ _, box b3 _ _, Buf 2 nilV [], Buf 5 sv4 ((L'.set i ({ s' with any := true, last := o.t, list := s'.list ++ [(o.t, o.v)] }, _)).flatMap serC), Buf 2 iv4 (K'.flatMap itrC), Own owSer (L'.set i ({ s' with any := true, last := o.t, list := s'.list ++ [(o.t, o.v)] }, _)), Own owItr K']) (by (repeat' first | exact Sel.nil | apply Sel.k | exact Pick.h | apply Pick.t)) ?_
                    exact W.retCC (T := Ty) (j := 0) (j' := 0) rfl rfl rfl rfl rfl rfl rfl rfl rfl rfl rfl (fun h q => dor_of (R := ⟨0, 0, []⟩) (M := ⟨m.ser.set i { s' with any := true, last := o.t, list := s'.list ++ [(o.t, o.v)] }, m.its, m.next⟩) (by rw [List.map_set, e1']) e2' q)
                · refine WL.bsC (T := Ty) rfl rfl rfl rfl rfl rfl rfl (by repeat' first | exact CO.nil | apply CO.one (by first | rfl | exact SL.one (by assumption)) | apply CO.agg) rfl (by repeat' constructor) (fun u7 hu7 => ?_)
                  refine WL.nilH hσ1 (fun σ2 hσ2 dσ2 mσ2 => ?_)
                  have fσ1_0 := fσ1_0.mono mσ2
                  have fσ1_1 := fσ1_1.mono mσ2
                  have fσ1_2 := fσ1_2.mono mσ2
                  have fσ1_3 := fσ1_3.mono mσ2
                  have fσ1_4 := fσ1_4.mono mσ2
                  have fσ1_5 := fσ1_5.mono mσ2
                  have fσ1_6 := fσ1_6.mono mσ2
                  have fσ1_7 := fσ1_7.mono mσ2
                  have fσ1_8 := fσ1_8.mono mσ2
                  have fσ1_9 := fσ1_9.mono mσ2
                  have hr := hr.mono mσ2
                  have fσ2_0 := ros_at 0 rfl hσ2 dσ2
                  refine WD.oneL 3 rfl (by decide +kernel) (WL.ldN (T := Ty) (j := 1) rfl rfl rfl rfl rfl rfl (WL.nilE (WD.takeL 12 rfl (by decide +kernel) (WL.faN (T := Ty) (off' := 2) rfl rfl rfl rfl rfl rfl rfl (WL.nilT (WD.oneL 4 rfl (by decide +kernel) ?_))))))
                  refine WL.callF rfl rfl (fun x p d => ownR_c _ _ _ (by first | assumption | exact ROs.wide (by assumption) | exact ROs.mono (by assumption) (eqh_at 0 rfl p d) | exact ros_at 0 rfl p d | exact ros_at 1 rfl p d | exact ros_at 2 rfl p d | exact ros_at 3 rfl p d | exact ros_at 4 rfl p d) (by first | assumption | omega)) (fun u8 => ?_)
                  refine WL.fact (i := 0) rfl (fun h hb => hb.sl (sms_cells _) (by omega)) (fun hsl8 => ?_)
                  refine WL.nilS (WD.oneL 11 rfl (by decide +kernel) ?_)
                  refine WL.ap (T := Ty) (i := 1) (m := 1) rfl rfl rfl rfl rfl rfl rfl rfl (by first | exact .ro (by assumption) | exact .ro (ROs.wide (by assumption)) | exact .eqJ 0 rfl (by assumption) | exact .own 0 rfl | exact .own 1 rfl | exact .own 2 rfl | exact .own 3 rfl | exact .own 4 rfl | exact .own 5 rfl) (by first | assumption | exact ROs.slm (by assumption)) (by assumption) (by rfl) (AO.all (by repeat' first | exact AO.nil | apply AO.cons (by first | rfl | exact SL.one (by assumption)))) (by first | omega | (simp; omega) | (simp only [List.length_drop, List.length_take]; omega)) (by unfold maxLen; first | omega | (simp only [List.length_drop, List.length_take]; omega)) (fun v' => (by repeat' constructor)) (fun u9 hu9 => ?_)
                  refine WL.nilE (WD.oneL 13 rfl (by decide +kernel) ?_)
                  refine WL.stF (T := Ty) (j := 2) rfl rfl rfl rfl rfl rfl rfl (by repeat' constructor) (by repeat' constructor) ?_
                  refine WL.nilE (WD.takeL 14 rfl (by decide +kernel) (WL.faN (T := Ty) (off' := 3) rfl rfl rfl rfl rfl rfl rfl (WL.nilT (WD.oneL 15 rfl (by decide +kernel) ?_))))
                  refine WL.stF (T := Ty) (j := 2) rfl rfl rfl rfl rfl rfl rfl (by repeat' constructor) (by repeat' constructor) ?_
                  refine WL.nilE ?_
                  refine WD.lastG hσ2 (by decide +kernel) (by repeat' constructor) rfl (by repeat' constructor) ?_
                  refine WL.faN (T := Ty) (off' := 4) rfl rfl rfl rfl rfl rfl rfl ?_
                  refine WL.stF (T := Ty) (j := 12) rfl rfl rfl rfl (SL.one (by assumption)) rfl rfl (by repeat' constructor) (by repeat' constructor) ?_
                  refine WL.nil (W.region (WL.faN (T := Ty) (off' := 0) rfl rfl rfl rfl rfl rfl rfl (WL.ldN (T := Ty) (j := 3) rfl rfl rfl rfl rfl rfl (WL.mv rfl rfl ?_))))
                  refine WL.ldAF (T := Ty) (j := 12) rfl rfl rfl rfl rfl rfl (by repeat' constructor) ?_
                  refine WL.ix (T := Ty) rfl rfl rfl (by assumption) rfl rfl (by omega) (by first | omega | decide +kernel) ?_
                  refine WL.stAE (T := Ty) (j := 7) rfl rfl rfl rfl (AO.all (by repeat' first | exact AO.nil | apply AO.cons (by first | rfl | exact SL.one (by assumption)))) rfl (by first | assumption | omega | (simp only [List.length_cons, List.length_nil]; omega)) (Nat.zero_lt_succ _) (by repeat' constructor) ?_
                  refine WL.nil (W.inBlock (W.seq ?_))
                  refine W.drawP 3 [false, false, false, false, false, true, false, false, false, false, false, false, false] rfl (by repeat' constructor) (by repeat' constructor) (fun σ3 hσ3 dσ3 => ?_)
                  have fσ3_0 := ros_at 0 rfl hσ3 dσ3
                  have fσ3_1 := rb_at 1 rfl hσ3 dσ3
                  have fσ3_2 := rb_at 2 rfl hσ3 dσ3
                  have fσ3_3 := rb_at 3 rfl hσ3 dσ3
                  have fσ3_4 := rb_at 4 rfl hσ3 dσ3
                  have fσ3_5 := rb_at 5 rfl hσ3 dσ3
                  have fσ3_6 := ros_at 6 rfl hσ3 dσ3
                  have fσ3_7 := ros_at 7 rfl hσ3 dσ3
                  have fσ3_8 := in_at 8 rfl hσ3 dσ3
                  have fσ3_9 := in_at 9 rfl hσ3 dσ3
                  have fσ3_10 := ros_at 10 rfl hσ3 dσ3
                  have fσ3_11 := rb_at 11 rfl hσ3 dσ3
                  refine WD.takeL 0 rfl (by decide +kernel) ?_
                  refine WL.ldABF (T := Ty) rfl rfl rfl rfl (by first | assumption | exact RB.wide (by assumption) | exact In.rb (by assumption)) rfl (by repeat' constructor) ?_
                  refine WL.nilT (WD.takeL 1 rfl (by decide +kernel) ?_)
                  refine WL.ldABF (T := Ty) rfl rfl rfl rfl (by first | assumption | exact RB.wide (by assumption) | exact In.rb (by assumption)) rfl (by repeat' constructor) ?_
                  refine WL.nilT (WD.oneL 2 rfl (by decide +kernel) ?_)
                  refine WL.stAO (T := Ty) (j := 1) rfl rfl rfl rfl (by repeat' first | exact AO.nil | apply AO.cons (by first | rfl | exact SL.one (by assumption))) rfl rfl (by repeat' constructor) (by repeat' constructor) ?_
                  refine WL.nilE ?_
                  refine WD.lastG hσ3 (by decide +kernel) (by repeat' constructor) rfl (by repeat' constructor) ?_
                  refine WL.stAO (T := Ty) (j := 4) rfl rfl rfl rfl (by repeat' first | exact AO.nil | apply AO.cons (by first | rfl | exact SL.one (by assumption))) rfl rfl (by repeat' constructor) (by repeat' constructor) ?_
                  refine WL.nil ?_
                  rw [hput, hfl]
                  refine W.fit (Hs' := [Own owSer L', Buf 2 _ ((s'.list ++ [(o.t, o.v)]).flatMap smC), box b2 _ _, box b3 _ _, Buf 5 sv4 _, Buf 2 iv4 (K'.flatMap itrC), Own owItr K']) (by (repeat' first | exact Sel.nil | apply Sel.k | exact Pick.h | apply Pick.t)) ?_
                  refine W.parts (ps := [owSer (s', lv), Own owSer (L'.eraseIdx i)]) 0 rfl (fun h q => own_out hp q) (by repeat' constructor) ?_
                  refine W.fit (Hs' := [Buf 2 _ ((s'.list ++ [(o.t, o.v)]).flatMap smC), Own owSer (L'.eraseIdx i), box b2 _ _, box b3 _ _, Buf 5 sv4 _, Buf 2 iv4 (K'.flatMap itrC), Own owItr K']) (by (repeat' first | exact Sel.nil | apply Sel.k | exact Pick.h | apply Pick.t)) ?_
                  refine W.two (r := Own owSer (L'.set i ({ s' with any := true, last := o.t, list := s'.list ++ [(o.t, o.v)] }, _))) _ _ rfl (fun h q => own_in (f := owSer) (a := ({ s' with any := true, last := o.t, list := s'.list ++ [(o.t, o.v)] }, _)) hp q) ?_
                  refine W.nb (sz := 2) ?_
                  refine W.fit (Hs' := [box b2 _ _, box b3 _ _, Buf 2 nilV [], Buf 5 sv4 ((L'.set i ({ s' with any := true, last := o.t, list := s'.list ++ [(o.t, o.v)] }, _)).flatMap serC), Buf 2 iv4 (K'.flatMap itrC), Own owSer (L'.set i ({ s' with any := true, last := o.t, list := s'.list ++ [(o.t, o.v)] }, _)), Own owItr K']) (by (repeat' first | exact Sel.nil | apply Sel.k | exact Pick.h | apply Pick.t)) ?_
                  exact W.retCC (T := Ty) (j := 0) (j' := 0) rfl rfl rfl rfl rfl rfl rfl rfl rfl rfl rfl (fun h q => dor_of (R := ⟨0, 0, []⟩) (M := ⟨m.ser.set i { s' with any := true, last := o.t, list := s'.list ++ [(o.t, o.v)] }, m.its, m.next⟩) (by rw [List.map_set, e1']) e2' q)
          · rw [hat]
            rw [show doSA m o = (m, ⟨0, 0, within s'.list o.lo o.hi⟩) by unfold doSA; rw [if_neg (by omega)]; unfold doS; rw [hh]; dsimp only; rw [hi]; rw [if_pos h]]
            refine W.seq (W.seq (W.region (WL.faN (T := Ty) (off' := 0) rfl rfl rfl rfl rfl rfl rfl (WL.ldN (T := Ty) (j := 3) rfl rfl rfl rfl rfl rfl (WL.nil (W.block (W.seq (W.seq (W.region (WL.eql rfl rfl rfl (WL.as rfl rfl (WL.nil (W.condpF rfl (by omega) ?_)))))))))))))
            refine W.seq (W.region (WL.eql rfl rfl rfl (WL.as rfl rfl (WL.nil (W.condpT rfl (by omega) (W.skip (W.condpT rfl (by omega) (W.seq (W.seq (W.region (WL.mv rfl rfl (WL.not rfl rfl (WL.nil ?_)))))))))))))
            refine W.condF rfl (W.skip (W.seq (W.region (WL.mv rfl rfl (WL.lss rfl rfl rfl (WL.mv rfl rfl (WL.gdN rfl rfl rfl rfl rfl rfl (WL.gdN rfl rfl rfl rfl rfl rfl (WL.gdN rfl rfl rfl rfl rfl rfl (WL.pickF rfl rfl rfl (WL.nil (W.condF rfl (W.skip ?_)))))))))))))
            refine W.inBlock (W.seq (W.region ?_))
            refine WL.bdC (T := Ty) rfl rfl rfl rfl (by repeat' first | exact CO.nil | apply CO.one (by first | rfl | exact SL.one (by assumption)) | apply CO.agg) rfl (by repeat' constructor) ?_
            refine WL.alF (T := Ty) rfl rfl (by repeat' constructor) (fun b4 => ?_)
            refine WL.stAO (T := Ty) (j := 0) rfl rfl rfl rfl (by repeat' first | exact AO.nil | apply AO.cons (by first | rfl | exact SL.one (by assumption))) rfl rfl (by repeat' constructor) (by repeat' constructor) ?_
            refine WL.nil (W.seq (W.seq (W.region (WL.faN (T := Ty) (off' := 0) rfl rfl rfl rfl rfl rfl rfl (WL.ldN (T := Ty) (j := 4) rfl rfl rfl rfl rfl rfl (WL.nil (W.block (W.seq (W.region (WL.eql rfl rfl rfl (WL.as rfl rfl (WL.nil (W.condpF rfl (by omega) ?_)))))))))))))
            refine W.seq (W.region (WL.eql rfl rfl rfl (WL.as rfl rfl (WL.nil (W.condpT rfl (by omega) ?_)))))
            refine W.drawA 11 rfl (fun σ0 hσ0 dσ0 => ?_)
            have fσ0_0 := rb_at 0 rfl hσ0 dσ0
            have fσ0_1 := rb_at 1 rfl hσ0 dσ0
            have fσ0_2 := rb_at 2 rfl hσ0 dσ0
            have fσ0_3 := rb_at 3 rfl hσ0 dσ0
            have fσ0_4 := rb_at 4 rfl hσ0 dσ0
            have fσ0_5 := ros_at 5 rfl hσ0 dσ0
            have fσ0_6 := ros_at 6 rfl hσ0 dσ0
            have fσ0_7 := in_at 7 rfl hσ0 dσ0
            have fσ0_8 := in_at 8 rfl hσ0 dσ0
            refine WD.takeL 0 rfl (by decide +kernel) (WL.faN (T := Ty) (off' := 0) rfl rfl rfl rfl rfl rfl rfl (WL.nilT (WD.takeL 1 rfl (by decide +kernel) ?_)))
            refine WL.ldBN (T := Ty) rfl rfl rfl rfl (by first | assumption | exact RB.wide (by assumption) | exact In.rb (by assumption)) rfl ?_
            refine WL.nilT (WD.takeL 2 rfl (by decide +kernel) (WL.mv rfl rfl (WL.nilT (WD.takeL 3 rfl (by decide +kernel) ?_))))
            refine WL.ix (T := Ty) rfl rfl rfl (by assumption) rfl rfl (by omega) (by first | omega | decide +kernel) ?_
            refine WL.nilT (WD.takeL 4 rfl (by decide +kernel) (WL.faEN (T := Ty) (off' := 4) rfl rfl rfl rfl rfl rfl rfl (WL.nilT (WD.takeL 5 rfl (by decide +kernel) ?_))))
            refine WL.ldR (T := Ty) rfl rfl rfl rfl (by first | assumption | exact ROs.wide (by assumption)) (by assumption) ?_
            refine WL.nilT (WD.takeL 6 rfl (by decide +kernel) (WL.faN (T := Ty) (off' := 5) rfl rfl rfl rfl rfl rfl rfl (WL.nilT (WD.takeL 7 rfl (by decide +kernel) ?_))))
            refine WL.ldBN (T := Ty) rfl rfl rfl rfl (by first | assumption | exact RB.wide (by assumption) | exact In.rb (by assumption)) rfl ?_
            refine WL.nilT (WD.takeL 8 rfl (by decide +kernel) (WL.faN (T := Ty) (off' := 6) rfl rfl rfl rfl rfl rfl rfl (WL.nilT (WD.takeL 9 rfl (by decide +kernel) ?_))))
            refine WL.ldBN (T := Ty) rfl rfl rfl rfl (by first | assumption | exact RB.wide (by assumption) | exact In.rb (by assumption)) rfl ?_
            refine WL.nilT (WD.oneL 10 rfl (by decide +kernel) ?_)
            have hr := (‹In (join ρ σ0) (Own owSer L')›).rsers _ (List.mem_of_getElem? hp)
            unfold rdSer at hr
            dsimp only at hr
            refine WL.callF rfl rfl (fun x p d => rwithin_c _ _ _ _ _ (by first | assumption | exact ROs.wide (by assumption) | exact ROs.mono (by assumption) (eqh_at 0 rfl p d) | exact ros_at 0 rfl p d | exact ros_at 1 rfl p d | exact ros_at 2 rfl p d | exact ros_at 3 rfl p d | exact ros_at 4 rfl p d) (by first | assumption | omega)) (fun u5 => ?_)
            refine WL.fact (i := 0) rfl (fun h hb => hb.sl (sms_cells _) (by omega)) (fun hsl5 => ?_)
            refine WL.nilH hσ0 (fun σ1 hσ1 dσ1 mσ1 => ?_)
            have fσ0_0 := fσ0_0.mono mσ1
            have fσ0_1 := fσ0_1.mono mσ1
            have fσ0_2 := fσ0_2.mono mσ1
            have fσ0_3 := fσ0_3.mono mσ1
            have fσ0_4 := fσ0_4.mono mσ1
            have fσ0_5 := fσ0_5.mono mσ1
            have fσ0_6 := fσ0_6.mono mσ1
            have fσ0_7 := fσ0_7.mono mσ1
            have fσ0_8 := fσ0_8.mono mσ1
            have hr := hr.mono mσ1
            have fσ1_0 := ros_at 0 rfl hσ1 dσ1
            refine WD.lastG hσ1 (by decide +kernel) (by repeat' constructor) rfl (by repeat' constructor) ?_
            refine WL.faN (T := Ty) (off' := 2) rfl rfl rfl rfl rfl rfl rfl ?_
            refine WL.stF (T := Ty) (j := 1) rfl rfl rfl rfl (SL.one (by assumption)) rfl rfl (by repeat' constructor) (by repeat' constructor) ?_
            refine WL.nil (W.inBlock (W.seq ?_))
            refine W.drawP 3 [false, false, false, false, true, false, false, false, false, false] rfl (by repeat' constructor) (by repeat' constructor) (fun σ2 hσ2 dσ2 => ?_)
            have fσ2_0 := ros_at 0 rfl hσ2 dσ2
            have fσ2_1 := rb_at 1 rfl hσ2 dσ2
            have fσ2_2 := rb_at 2 rfl hσ2 dσ2
            have fσ2_3 := rb_at 3 rfl hσ2 dσ2
            have fσ2_4 := rb_at 4 rfl hσ2 dσ2
            have fσ2_5 := ros_at 5 rfl hσ2 dσ2
            have fσ2_6 := ros_at 6 rfl hσ2 dσ2
            have fσ2_7 := in_at 7 rfl hσ2 dσ2
            have fσ2_8 := in_at 8 rfl hσ2 dσ2
            refine WD.takeL 0 rfl (by decide +kernel) ?_
            refine WL.ldABF (T := Ty) rfl rfl rfl rfl (by first | assumption | exact RB.wide (by assumption) | exact In.rb (by assumption)) rfl (by repeat' constructor) ?_
            refine WL.nilT (WD.takeL 1 rfl (by decide +kernel) ?_)
            refine WL.ldABF (T := Ty) rfl rfl rfl rfl (by first | assumption | exact RB.wide (by assumption) | exact In.rb (by assumption)) rfl (by repeat' constructor) ?_
            refine WL.nilT (WD.oneL 2 rfl (by decide +kernel) ?_)
            refine WL.stAO (T := Ty) (j := 1) rfl rfl rfl rfl (by repeat' first | exact AO.nil | apply AO.cons (by first | rfl | exact SL.one (by assumption))) rfl rfl (by repeat' constructor) (by repeat' constructor) ?_
            refine WL.nilE ?_
            refine WD.lastG hσ2 (by decide +kernel) (by repeat' constructor) rfl (by repeat' constructor) ?_
            refine WL.stAO (T := Ty) (j := 3) rfl rfl rfl rfl (by repeat' first | exact AO.nil | apply AO.cons (by first | rfl | exact SL.one (by assumption))) rfl rfl (by repeat' constructor) (by repeat' constructor) ?_
            refine WL.nil ?_
            refine W.fit (Hs' := [box b2 _ _, box b3 _ _, Buf 2 _ ((within s'.list o.lo o.hi).flatMap smC), Buf 5 _ ((L').flatMap serC), Buf 2 _ ((K').flatMap itrC), Own owSer (L'), Own owItr (K')]) (by (repeat' first | exact Sel.nil | apply Sel.k | exact Pick.h | apply Pick.t)) ?_
            exact W.retCC (T := Ty) (j := 0) (j' := 0) rfl rfl rfl rfl rfl rfl rfl rfl rfl rfl rfl (fun h q => dor_of (M := m) (R := ⟨0, 0, within s'.list o.lo o.hi⟩) e1' e2' q)
          · rw [hat]
            cases hsh : s'.shut with
            | true =>
              rw [show doSA m o = (m, ⟨2, 0, []⟩) by unfold doSA; rw [if_neg (by omega)]; unfold doS; rw [hh]; dsimp only; rw [hi]; rw [if_neg (by omega), if_pos h, if_pos hsh]]
              rw [hsh] at c1
              refine W.seq (W.seq (W.region (WL.faN (T := Ty) (off' := 0) rfl rfl rfl rfl rfl rfl rfl (WL.ldN (T := Ty) (j := 3) rfl rfl rfl rfl rfl rfl (WL.nil (W.block (W.seq (W.seq (W.region (WL.eql rfl rfl rfl (WL.as rfl rfl (WL.nil (W.condpF rfl (by omega) ?_)))))))))))))
              refine W.seq (W.region (WL.eql rfl rfl rfl (WL.as rfl rfl (WL.nil (W.condpF rfl (by omega) (W.seq (W.region (WL.eql rfl rfl rfl (WL.as rfl rfl (WL.nil (W.condpT rfl (by omega) (W.skip (W.condpT rfl (by omega) ?_)))))))))))))
              refine W.seq (W.seq (W.region (WL.mv rfl rfl (WL.not rfl rfl (WL.nil (W.condF rfl (W.skip (W.seq (W.region (WL.mv rfl rfl (WL.lss rfl rfl rfl (WL.mv rfl rfl (WL.gdN rfl rfl rfl rfl rfl rfl ?_)))))))))))))
              refine WL.gdN rfl rfl rfl rfl rfl rfl (WL.gdN rfl rfl rfl rfl rfl rfl (WL.pickF rfl rfl rfl (WL.nil (W.condF rfl (W.skip (W.inBlock (W.seq (W.region ?_))))))))
              refine WL.bdC (T := Ty) rfl rfl rfl rfl (by repeat' first | exact CO.nil | apply CO.one (by first | rfl | exact SL.one (by assumption)) | apply CO.agg) rfl (by repeat' constructor) ?_
              refine WL.alF (T := Ty) rfl rfl (by repeat' constructor) (fun b4 => ?_)
              refine WL.stAO (T := Ty) (j := 0) rfl rfl rfl rfl (by repeat' first | exact AO.nil | apply AO.cons (by first | rfl | exact SL.one (by assumption))) rfl rfl (by repeat' constructor) (by repeat' constructor) ?_
              refine WL.nil (W.seq (W.seq (W.region (WL.faN (T := Ty) (off' := 0) rfl rfl rfl rfl rfl rfl rfl (WL.ldN (T := Ty) (j := 4) rfl rfl rfl rfl rfl rfl (WL.nil (W.block (W.seq (W.region (WL.eql rfl rfl rfl (WL.as rfl rfl (WL.nil (W.condpF rfl (by omega) ?_)))))))))))))
              refine W.seq (W.region (WL.eql rfl rfl rfl (WL.as rfl rfl (WL.nil (W.condpF rfl (by omega) (W.seq (W.region (WL.eql rfl rfl rfl (WL.as rfl rfl (WL.nil (W.condpT rfl (by omega) (W.seq (W.seq ?_)))))))))))))
              refine W.region (WL.faN (T := Ty) (off' := 0) rfl rfl rfl rfl rfl rfl rfl (WL.ldN (T := Ty) (j := 1) rfl rfl rfl rfl rfl rfl (WL.mv rfl rfl ?_)))
              refine WL.ix (T := Ty) rfl rfl rfl (by assumption) rfl rfl (by omega) (by first | omega | decide +kernel) ?_
              refine WL.faEN (T := Ty) (off' := 1) rfl rfl rfl rfl rfl rfl rfl ?_
              refine WL.ldE (T := Ty) (j := 5) rfl rfl rfl rfl rfl (by assumption) ?_
              refine WL.nil (W.condT rfl (W.seq (W.region ?_)))
              refine WL.ldAF (T := Ty) (j := 1) rfl rfl rfl rfl rfl rfl (by repeat' constructor) ?_
              refine WL.bdC (T := Ty) rfl rfl rfl rfl (by repeat' first | exact CO.nil | apply CO.one (by first | rfl | exact SL.one (by assumption)) | apply CO.agg) rfl (by repeat' constructor) ?_
              refine WL.stAO (T := Ty) (j := 3) rfl rfl rfl rfl (by repeat' first | exact AO.nil | apply AO.cons (by first | rfl | exact SL.one (by assumption))) rfl rfl (by repeat' constructor) (by repeat' constructor) ?_
              refine WL.stAO (T := Ty) (j := 2) rfl rfl rfl rfl (by repeat' first | exact AO.nil | apply AO.cons (by first | rfl | exact SL.one (by assumption))) rfl rfl (by repeat' constructor) (by repeat' constructor) ?_
              refine WL.nil (W.nb (sz := 2) ?_)
              refine W.fit (Hs' := [box b2 _ _, box b3 _ _, Buf 2 nilV [], Buf 5 sv4 (L'.flatMap serC), Buf 2 iv4 (K'.flatMap itrC), Own owSer L', Own owItr K']) (by (repeat' first | exact Sel.nil | apply Sel.k | exact Pick.h | apply Pick.t)) ?_
              exact W.retCC (T := Ty) (j := 0) (j' := 0) rfl rfl rfl rfl rfl rfl rfl rfl rfl rfl rfl (fun h q => dor_of (M := m) (R := ⟨2, 0, []⟩) e1' e2' q)
            | false =>
              rw [show doSA m o = ({ m with ser := m.ser.set i { s' with shut := true } }, ⟨0, 0, []⟩) by unfold doSA; rw [if_neg (by omega)]; unfold doS; rw [hh]; dsimp only; rw [hi]; rw [if_neg (by omega), if_pos h, if_neg (by rw [hsh]; decide)]]
              rw [hsh] at c1
              refine W.seq (W.seq (W.region (WL.faN (T := Ty) (off' := 0) rfl rfl rfl rfl rfl rfl rfl (WL.ldN (T := Ty) (j := 3) rfl rfl rfl rfl rfl rfl (WL.nil (W.block (W.seq (W.seq (W.region (WL.eql rfl rfl rfl (WL.as rfl rfl (WL.nil (W.condpF rfl (by omega) ?_)))))))))))))
              refine W.seq (W.region (WL.eql rfl rfl rfl (WL.as rfl rfl (WL.nil (W.condpF rfl (by omega) (W.seq (W.region (WL.eql rfl rfl rfl (WL.as rfl rfl (WL.nil (W.condpT rfl (by omega) (W.skip (W.condpT rfl (by omega) ?_)))))))))))))
              refine W.seq (W.seq (W.region (WL.mv rfl rfl (WL.not rfl rfl (WL.nil (W.condF rfl (W.skip (W.seq (W.region (WL.mv rfl rfl (WL.lss rfl rfl rfl (WL.mv rfl rfl (WL.gdN rfl rfl rfl rfl rfl rfl ?_)))))))))))))
              refine WL.gdN rfl rfl rfl rfl rfl rfl (WL.gdN rfl rfl rfl rfl rfl rfl (WL.pickF rfl rfl rfl (WL.nil (W.condF rfl (W.skip (W.inBlock (W.seq (W.region ?_))))))))
              refine WL.bdC (T := Ty) rfl rfl rfl rfl (by repeat' first | exact CO.nil | apply CO.one (by first | rfl | exact SL.one (by assumption)) | apply CO.agg) rfl (by repeat' constructor) ?_
              refine WL.alF (T := Ty) rfl rfl (by repeat' constructor) (fun b4 => ?_)
              refine WL.stAO (T := Ty) (j := 0) rfl rfl rfl rfl (by repeat' first | exact AO.nil | apply AO.cons (by first | rfl | exact SL.one (by assumption))) rfl rfl (by repeat' constructor) (by repeat' constructor) ?_
              refine WL.nil (W.seq (W.seq (W.region (WL.faN (T := Ty) (off' := 0) rfl rfl rfl rfl rfl rfl rfl (WL.ldN (T := Ty) (j := 4) rfl rfl rfl rfl rfl rfl (WL.nil (W.block (W.seq (W.region (WL.eql rfl rfl rfl (WL.as rfl rfl (WL.nil (W.condpF rfl (by omega) ?_)))))))))))))
              refine W.seq (W.region (WL.eql rfl rfl rfl (WL.as rfl rfl (WL.nil (W.condpF rfl (by omega) (W.seq (W.region (WL.eql rfl rfl rfl (WL.as rfl rfl (WL.nil (W.condpT rfl (by omega) (W.seq (W.seq ?_)))))))))))))
              refine W.region (WL.faN (T := Ty) (off' := 0) rfl rfl rfl rfl rfl rfl rfl (WL.ldN (T := Ty) (j := 1) rfl rfl rfl rfl rfl rfl (WL.mv rfl rfl ?_)))
              refine WL.ix (T := Ty) rfl rfl rfl (by assumption) rfl rfl (by omega) (by first | omega | decide +kernel) ?_
              refine WL.faEN (T := Ty) (off' := 1) rfl rfl rfl rfl rfl rfl rfl ?_
              refine WL.ldE (T := Ty) (j := 5) rfl rfl rfl rfl rfl (by assumption) ?_
              refine WL.nil (W.condF rfl (W.skip (W.region (WL.faN (T := Ty) (off' := 0) rfl rfl rfl rfl rfl rfl rfl (WL.ldN (T := Ty) (j := 1) rfl rfl rfl rfl rfl rfl (WL.mv rfl rfl ?_))))))
              refine WL.ix (T := Ty) rfl rfl rfl (by assumption) rfl rfl (by omega) (by first | omega | decide +kernel) ?_
              refine WL.faEN (T := Ty) (off' := 1) rfl rfl rfl rfl rfl rfl rfl ?_
              refine WL.stEF (T := Ty) (j := 5) rfl rfl rfl rfl rfl rfl (by first | assumption | omega | (simp only [List.length_set]; omega) | (simp; omega)) rfl (by repeat' constructor) ?_
              refine WL.nil (W.inBlock (W.seq ?_))
              refine W.drawP 3 [false, false, false, true, false, false, false, false, false] rfl (by repeat' constructor) (by repeat' constructor) (fun σ0 hσ0 dσ0 => ?_)
              have fσ0_0 := rb_at 0 rfl hσ0 dσ0
              have fσ0_1 := rb_at 1 rfl hσ0 dσ0
              have fσ0_2 := rb_at 2 rfl hσ0 dσ0
              have fσ0_3 := rb_at 3 rfl hσ0 dσ0
              have fσ0_4 := ros_at 4 rfl hσ0 dσ0
              have fσ0_5 := ros_at 5 rfl hσ0 dσ0
              have fσ0_6 := in_at 6 rfl hσ0 dσ0
              have fσ0_7 := in_at 7 rfl hσ0 dσ0
              refine WD.takeL 0 rfl (by decide +kernel) ?_
              refine WL.ldABF (T := Ty) rfl rfl rfl rfl (by first | assumption | exact RB.wide (by assumption) | exact In.rb (by assumption)) rfl (by repeat' constructor) ?_
              refine WL.nilT (WD.takeL 1 rfl (by decide +kernel) ?_)
              refine WL.ldABF (T := Ty) rfl rfl rfl rfl (by first | assumption | exact RB.wide (by assumption) | exact In.rb (by assumption)) rfl (by repeat' constructor) ?_
              refine WL.nilT (WD.oneL 2 rfl (by decide +kernel) ?_)
              refine WL.stAO (T := Ty) (j := 1) rfl rfl rfl rfl (by repeat' first | exact AO.nil | apply AO.cons (by first | rfl | exact SL.one (by assumption))) rfl rfl (by repeat' constructor) (by repeat' constructor) ?_
              refine WL.nilE ?_
              refine WD.lastG hσ0 (by decide +kernel) (by repeat' constructor) rfl (by repeat' constructor) ?_
              refine WL.stAO (T := Ty) (j := 2) rfl rfl rfl rfl (by repeat' first | exact AO.nil | apply AO.cons (by first | rfl | exact SL.one (by assumption))) rfl rfl (by repeat' constructor) (by repeat' constructor) ?_
              refine WL.nil ?_
              rw [show (L'.flatMap serC).set (((i : Nat) : Int).toNat * 5 + 1) (.bool true) = (L'.set i ({ s' with shut := true }, lv)).flatMap serC from flat_set ser_len hp (by omega) rfl]
              refine W.nb (sz := 2) ?_
              refine W.fit (Hs' := [Own owSer L', Buf 2 nilV [], box b2 _ _, box b3 _ _, Buf 5 sv4 _, Buf 2 iv4 _, Own owItr K']) (by (repeat' first | exact Sel.nil | apply Sel.k | exact Pick.h | apply Pick.t)) ?_
              refine W.group (p := Own owSer (L'.set i ({ s' with shut := true }, lv))) (Take.cons 0 rfl Take.nil) (fun h q => own_upd (a := ({ s' with shut := true }, lv)) hp rfl (sepl_one.1 q)) (by repeat' constructor) ?_
              refine W.fit (Hs' := [box b2 _ _, box b3 _ _, Buf 2 nilV [], Buf 5 _ ((L'.set i ({ s' with shut := true }, lv)).flatMap serC), Buf 2 _ ((K').flatMap itrC), Own owSer (L'.set i ({ s' with shut := true }, lv)), Own owItr (K')]) (by (repeat' first | exact Sel.nil | apply Sel.k | exact Pick.h | apply Pick.t)) ?_
              exact W.retCC (T := Ty) (j := 0) (j' := 0) rfl rfl rfl rfl rfl rfl rfl rfl rfl rfl rfl (fun h q => dor_of (M := { m with ser := m.ser.set i { s' with shut := true } }) (R := ⟨0, 0, []⟩) (by rw [List.map_set, e1']) e2' q)
          · rw [hat]
            rw [show doSA m o = ({ m with ser := m.ser.take i ++ m.ser.drop (i + 1) }, ⟨0, 0, []⟩) by unfold doSA; rw [if_neg (by omega)]; unfold doS; rw [hh]; dsimp only; rw [hi]; rw [if_neg (by omega), if_neg (by omega), if_pos h]]
            have ct := ser_cells (L'.take i)
            have cd := ser_cells (L'.drop (i + 1))
            have tl : (L'.take i).length = i := by rw [List.length_take]; omega
            have dl : (L'.drop (i + 1)).length = L'.length - (i + 1) := List.length_drop
            have to : ∀ q ∈ (L'.take i).flatMap serC, q.oneCell' = true := fun q hq => o1' q (by rw [← flat_take ser_len] at hq; exact List.mem_of_mem_take hq)
            have do' : ∀ q ∈ (L'.drop (i + 1)).flatMap serC, q.oneCell' = true := fun q hq => o1' q (by rw [← flat_drop ser_len] at hq; exact List.mem_of_mem_drop hq)
            have hap : (L'.take i).flatMap serC ++ (L'.drop (i + 1)).flatMap serC = (L'.take i ++ L'.drop (i + 1)).flatMap serC := by rw [List.flatMap_append]
            refine W.seq (W.seq (W.region (WL.faN (T := Ty) (off' := 0) rfl rfl rfl rfl rfl rfl rfl (WL.ldN (T := Ty) (j := 3) rfl rfl rfl rfl rfl rfl (WL.nil (W.block (W.seq (W.seq (W.region (WL.eql rfl rfl rfl (WL.as rfl rfl (WL.nil (W.condpF rfl (by omega) ?_)))))))))))))
            refine W.seq (W.region (WL.eql rfl rfl rfl (WL.as rfl rfl (WL.nil (W.condpF rfl (by omega) (W.seq (W.region (WL.eql rfl rfl rfl (WL.as rfl rfl (WL.nil (W.condpF rfl (by omega) (W.seq (W.region ?_)))))))))))))
            refine WL.eql rfl rfl rfl (WL.as rfl rfl (WL.nil (W.condpT rfl (by omega) (W.skip (W.condpT rfl (by omega) (W.seq (W.seq (W.region (WL.mv rfl rfl (WL.not rfl rfl (WL.nil (W.condF rfl (W.skip ?_)))))))))))))
            refine W.seq (W.region (WL.mv rfl rfl (WL.lss rfl rfl rfl (WL.mv rfl rfl (WL.gdN rfl rfl rfl rfl rfl rfl (WL.gdN rfl rfl rfl rfl rfl rfl (WL.gdN rfl rfl rfl rfl rfl rfl (WL.pickF rfl rfl rfl (WL.nil (W.condF rfl (W.skip (W.inBlock (W.seq ?_)))))))))))))
            refine W.region ?_
            refine WL.bdC (T := Ty) rfl rfl rfl rfl (by repeat' first | exact CO.nil | apply CO.one (by first | rfl | exact SL.one (by assumption)) | apply CO.agg) rfl (by repeat' constructor) ?_
            refine WL.alF (T := Ty) rfl rfl (by repeat' constructor) (fun b4 => ?_)
            refine WL.stAO (T := Ty) (j := 0) rfl rfl rfl rfl (by repeat' first | exact AO.nil | apply AO.cons (by first | rfl | exact SL.one (by assumption))) rfl rfl (by repeat' constructor) (by repeat' constructor) ?_
            refine WL.nil (W.seq (W.seq (W.region (WL.faN (T := Ty) (off' := 0) rfl rfl rfl rfl rfl rfl rfl (WL.ldN (T := Ty) (j := 4) rfl rfl rfl rfl rfl rfl (WL.nil (W.block (W.seq (W.region (WL.eql rfl rfl rfl (WL.as rfl rfl (WL.nil (W.condpF rfl (by omega) ?_)))))))))))))
            refine W.seq (W.region (WL.eql rfl rfl rfl (WL.as rfl rfl (WL.nil (W.condpF rfl (by omega) (W.seq (W.region (WL.eql rfl rfl rfl (WL.as rfl rfl (WL.nil (W.condpF rfl (by omega) (W.seq (W.region ?_)))))))))))))
            refine WL.eql rfl rfl rfl (WL.as rfl rfl (WL.nil (W.condpT rfl (by omega) ?_)))
            refine W.drawA 12 rfl (fun σ0 hσ0 dσ0 => ?_)
            have fσ0_0 := rb_at 0 rfl hσ0 dσ0
            have fσ0_1 := rb_at 1 rfl hσ0 dσ0
            have fσ0_2 := rb_at 2 rfl hσ0 dσ0
            have fσ0_3 := rb_at 3 rfl hσ0 dσ0
            have fσ0_4 := rb_at 4 rfl hσ0 dσ0
            have fσ0_5 := ros_at 5 rfl hσ0 dσ0
            have fσ0_6 := ros_at 6 rfl hσ0 dσ0
            have fσ0_7 := in_at 7 rfl hσ0 dσ0
            have fσ0_8 := in_at 8 rfl hσ0 dσ0
            refine WD.takeL 1 rfl (by decide +kernel) (WL.faN (T := Ty) (off' := 0) rfl rfl rfl rfl rfl rfl rfl (WL.nilT (WD.takeL 2 rfl (by decide +kernel) ?_)))
            refine WL.ldBN (T := Ty) rfl rfl rfl rfl (by first | assumption | exact RB.wide (by assumption) | exact In.rb (by assumption)) rfl ?_
            refine WL.nilT (WD.takeL 3 rfl (by decide +kernel) (WL.mv rfl rfl (WL.nilT (WD.takeL 4 rfl (by decide +kernel) ?_))))
            refine WL.slTf (T := Ty) rfl rfl rfl rfl rfl rfl (by first | assumption | exact ROs.wide (by assumption)) (by intro a; rfl) (by first | assumption | omega | (simp; omega)) (fun u5 hu5 ru5 => ?_)
            refine WL.nilT (WD.takeL 6 rfl (by decide +kernel) (WL.faN (T := Ty) (off' := 0) rfl rfl rfl rfl rfl rfl rfl (WL.nilT (WD.takeL 7 rfl (by decide +kernel) ?_))))
            refine WL.ldBN (T := Ty) rfl rfl rfl rfl (by first | assumption | exact RB.wide (by assumption) | exact In.rb (by assumption)) rfl ?_
            refine WL.nilT (WD.takeL 8 rfl (by decide +kernel) (WL.mv rfl rfl (WL.nilT (WD.takeL 9 rfl (by decide +kernel) (WL.addK rfl rfl rfl (wrap_i64 ⟨by omega, by omega⟩) (WL.nilT (WD.takeL 10 rfl (by decide +kernel) ?_)))))))
            refine WL.slDf (T := Ty) rfl rfl rfl rfl rfl rfl (by first | assumption | exact ROs.wide (by assumption)) (by intro a; rfl) (by first | assumption | omega | (simp; omega)) (fun u6 hu6 ru6 => ?_)
            refine WL.nilT (WD.oneL 0 rfl (by decide +kernel) ?_)
            refine WL.bsC (T := Ty) rfl rfl rfl rfl rfl rfl rfl (by repeat' first | exact CO.nil | apply CO.one (by first | rfl | exact SL.one (by assumption)) | apply CO.agg) rfl (by repeat' constructor) (fun u7 hu7 => ?_)
            refine WL.nilS (WD.oneL 5 rfl (by decide +kernel) ?_)
            refine WL.ap (T := Ty) (i := 1) (n := 0) rfl rfl rfl rfl rfl rfl rfl rfl (by first | exact .ro (by assumption) | exact .ro (ROs.wide (by assumption)) | exact .eqJ 0 rfl (by assumption) | exact .own 0 rfl | exact .own 1 rfl | exact .own 2 rfl | exact .own 3 rfl | exact .own 4 rfl | exact .own 5 rfl) (by first | assumption | exact ROs.slm (by assumption)) rfl (by assumption) (by assumption) (by first | omega | (simp; omega) | (simp only [List.length_drop, List.length_take]; omega)) (by unfold maxLen; first | omega | (simp only [List.length_drop, List.length_take]; omega)) (fun v' => (by repeat' constructor)) (fun u8 hu8 => ?_)
            refine WL.nilE (WD.oneL 11 rfl (by decide +kernel) ?_)
            refine WL.ap (T := Ty) (i := 1) rfl rfl rfl rfl rfl rfl rfl rfl (by first | exact .ro (by assumption) | exact .ro (ROs.wide (by assumption)) | exact .eqJ 0 rfl (by assumption) | exact .own 0 rfl | exact .own 1 rfl | exact .own 2 rfl | exact .own 3 rfl | exact .own 4 rfl | exact .own 5 rfl) (by first | assumption | exact ROs.slm (by assumption)) (by assumption) (by assumption) (by assumption) (by first | omega | (simp; omega) | (simp only [List.length_drop, List.length_take]; omega)) (by unfold maxLen; first | omega | (simp only [List.length_drop, List.length_take]; omega)) (fun v' => (by repeat' constructor)) (fun u9 hu9 => ?_)
            refine WL.nilE ?_
            refine WD.lastG hσ0 (by decide +kernel) (by repeat' constructor) rfl (by repeat' constructor) ?_
            refine WL.faN (T := Ty) (off' := 0) rfl rfl rfl rfl rfl rfl rfl ?_
            refine WL.stF (T := Ty) (j := 1) rfl rfl rfl rfl (SL.one (by assumption)) rfl rfl (by repeat' constructor) (by repeat' constructor) ?_
            refine WL.nil (W.inBlock (W.seq ?_))
            refine W.drawP 3 [false, false, false, true, false, false, false, false, false, false] rfl (by repeat' constructor) (by repeat' constructor) (fun σ1 hσ1 dσ1 => ?_)
            have fσ1_0 := rb_at 0 rfl hσ1 dσ1
            have fσ1_1 := rb_at 1 rfl hσ1 dσ1
            have fσ1_2 := rb_at 2 rfl hσ1 dσ1
            have fσ1_3 := rb_at 3 rfl hσ1 dσ1
            have fσ1_4 := ros_at 4 rfl hσ1 dσ1
            have fσ1_5 := ros_at 5 rfl hσ1 dσ1
            have fσ1_6 := in_at 6 rfl hσ1 dσ1
            have fσ1_7 := in_at 7 rfl hσ1 dσ1
            have fσ1_8 := ros_at 8 rfl hσ1 dσ1
            refine WD.takeL 0 rfl (by decide +kernel) ?_
            refine WL.ldABF (T := Ty) rfl rfl rfl rfl (by first | assumption | exact RB.wide (by assumption) | exact In.rb (by assumption)) rfl (by repeat' constructor) ?_
            refine WL.nilT (WD.takeL 1 rfl (by decide +kernel) ?_)
            refine WL.ldABF (T := Ty) rfl rfl rfl rfl (by first | assumption | exact RB.wide (by assumption) | exact In.rb (by assumption)) rfl (by repeat' constructor) ?_
            refine WL.nilT (WD.oneL 2 rfl (by decide +kernel) ?_)
            refine WL.stAO (T := Ty) (j := 1) rfl rfl rfl rfl (by repeat' first | exact AO.nil | apply AO.cons (by first | rfl | exact SL.one (by assumption))) rfl rfl (by repeat' constructor) (by repeat' constructor) ?_
            refine WL.nilE ?_
            refine WD.lastG hσ1 (by decide +kernel) (by repeat' constructor) rfl (by repeat' constructor) ?_
            refine WL.stAO (T := Ty) (j := 2) rfl rfl rfl rfl (by repeat' first | exact AO.nil | apply AO.cons (by first | rfl | exact SL.one (by assumption))) rfl rfl (by repeat' constructor) (by repeat' constructor) ?_
            refine WL.nil ?_
            rw [List.nil_append]
            rw [hap]
            refine W.fit (Hs' := [Own owSer L', box b2 _ _, box b3 _ _, Buf 5 _ ((L'.take i ++ L'.drop (i + 1)).flatMap serC), Buf 2 iv4 _, Own owItr K']) (by (repeat' first | exact Sel.nil | apply Sel.k | exact Pick.h | apply Pick.t)) ?_
            refine W.parts (ps := [owSer (s', lv), Own owSer (L'.take i ++ L'.drop (i + 1))]) 0 rfl (fun h q => own_del hp q) (by repeat' constructor) ?_
            refine W.nb (sz := 2) ?_
            refine W.fit (Hs' := [box b2 _ _, box b3 _ _, Buf 2 nilV [], Buf 5 _ ((L'.take i ++ L'.drop (i + 1)).flatMap serC), Buf 2 iv4 (K'.flatMap itrC), Own owSer (L'.take i ++ L'.drop (i + 1)), Own owItr K']) (by (repeat' first | exact Sel.nil | apply Sel.k | exact Pick.h | apply Pick.t)) ?_
            exact W.retCC (T := Ty) (j := 0) (j' := 0) rfl rfl rfl rfl rfl rfl rfl rfl rfl rfl rfl (fun h q => dor_of (M := { m with ser := m.ser.take i ++ m.ser.drop (i + 1) }) (R := ⟨0, 0, []⟩) (by rw [List.map_append, List.map_take, List.map_drop, e1']) e2' q)
          · rw [hat]
            by_cases h8 : 8 ≤ m.its.length
            · skip
              rw [show doSA m o = (m, ⟨5, 0, []⟩) by unfold doSA; rw [if_neg (by omega)]; unfold doS; rw [hh]; dsimp only; rw [hi]; rw [if_neg (by omega), if_neg (by omega), if_neg (by omega), if_pos h8]]
              refine W.seq (W.seq (W.region (WL.faN (T := Ty) (off' := 0) rfl rfl rfl rfl rfl rfl rfl (WL.ldN (T := Ty) (j := 3) rfl rfl rfl rfl rfl rfl (WL.nil (W.block (W.seq (W.seq (W.region (WL.eql rfl rfl rfl (WL.as rfl rfl (WL.nil (W.condpF rfl (by omega) ?_)))))))))))))
              refine W.seq (W.region (WL.eql rfl rfl rfl (WL.as rfl rfl (WL.nil (W.condpF rfl (by omega) (W.seq (W.region (WL.eql rfl rfl rfl (WL.as rfl rfl (WL.nil (W.condpF rfl (by omega) (W.seq (W.region ?_)))))))))))))
              refine WL.eql rfl rfl rfl (WL.as rfl rfl (WL.nil (W.condpF rfl (by omega) (W.region (WL.eql rfl rfl rfl (WL.as rfl rfl (WL.nil (W.condpT rfl (by omega) (W.seq (W.seq (W.region (WL.mv rfl rfl (WL.not rfl rfl ?_)))))))))))))
              refine WL.nil (W.condF rfl (W.skip (W.seq (W.region (WL.mv rfl rfl (WL.lss rfl rfl rfl (WL.mv rfl rfl (WL.gdN rfl rfl rfl rfl rfl rfl (WL.gdN rfl rfl rfl rfl rfl rfl (WL.gdN rfl rfl rfl rfl rfl rfl (WL.pickF rfl rfl rfl (WL.nil (W.condF rfl ?_)))))))))))))
              refine W.skip (W.inBlock (W.seq (W.region ?_)))
              refine WL.bdC (T := Ty) rfl rfl rfl rfl (by repeat' first | exact CO.nil | apply CO.one (by first | rfl | exact SL.one (by assumption)) | apply CO.agg) rfl (by repeat' constructor) ?_
              refine WL.alF (T := Ty) rfl rfl (by repeat' constructor) (fun b4 => ?_)
              refine WL.stAO (T := Ty) (j := 0) rfl rfl rfl rfl (by repeat' first | exact AO.nil | apply AO.cons (by first | rfl | exact SL.one (by assumption))) rfl rfl (by repeat' constructor) (by repeat' constructor) ?_
              refine WL.nil (W.seq (W.seq (W.region (WL.faN (T := Ty) (off' := 0) rfl rfl rfl rfl rfl rfl rfl (WL.ldN (T := Ty) (j := 4) rfl rfl rfl rfl rfl rfl (WL.nil (W.block (W.seq (W.region (WL.eql rfl rfl rfl (WL.as rfl rfl (WL.nil (W.condpF rfl (by omega) ?_)))))))))))))
              refine W.seq (W.region (WL.eql rfl rfl rfl (WL.as rfl rfl (WL.nil (W.condpF rfl (by omega) (W.seq (W.region (WL.eql rfl rfl rfl (WL.as rfl rfl (WL.nil (W.condpF rfl (by omega) (W.seq (W.region ?_)))))))))))))
              refine WL.eql rfl rfl rfl (WL.as rfl rfl (WL.nil (W.condpF rfl (by omega) (W.seq (W.region (WL.eql rfl rfl rfl (WL.as rfl rfl (WL.nil (W.condpT rfl (by omega) (W.seq (W.seq (W.region (WL.faN (T := Ty) (off' := 1) rfl rfl rfl rfl rfl rfl rfl ?_)))))))))))))
              refine WL.ldN (T := Ty) (j := 1) rfl rfl rfl rfl rfl rfl ?_
              refine WL.len (T := Ty) rfl rfl (by assumption) rfl ?_
              refine WL.geq rfl rfl rfl (WL.nil (W.condpT rfl (by omega) (W.seq (W.region ?_))))
              refine WL.ldAF (T := Ty) (j := 1) rfl rfl rfl rfl rfl rfl (by repeat' constructor) ?_
              refine WL.bdC (T := Ty) rfl rfl rfl rfl (by repeat' first | exact CO.nil | apply CO.one (by first | rfl | exact SL.one (by assumption)) | apply CO.agg) rfl (by repeat' constructor) ?_
              refine WL.stAO (T := Ty) (j := 3) rfl rfl rfl rfl (by repeat' first | exact AO.nil | apply AO.cons (by first | rfl | exact SL.one (by assumption))) rfl rfl (by repeat' constructor) (by repeat' constructor) ?_
              refine WL.stAO (T := Ty) (j := 2) rfl rfl rfl rfl (by repeat' first | exact AO.nil | apply AO.cons (by first | rfl | exact SL.one (by assumption))) rfl rfl (by repeat' constructor) (by repeat' constructor) ?_
              refine WL.nil (W.nb (sz := 2) ?_)
              refine W.fit (Hs' := [box b2 _ _, box b3 _ _, Buf 2 nilV [], Buf 5 sv4 (L'.flatMap serC), Buf 2 iv4 (K'.flatMap itrC), Own owSer L', Own owItr K']) (by (repeat' first | exact Sel.nil | apply Sel.k | exact Pick.h | apply Pick.t)) ?_
              exact W.retCC (T := Ty) (j := 0) (j' := 0) rfl rfl rfl rfl rfl rfl rfl rfl rfl rfl rfl (fun h q => dor_of (M := m) (R := ⟨5, 0, []⟩) e1' e2' q)
            · skip
              rw [show doSA m o = ({ m with next := m.next + 1, its := m.its ++ [⟨m.next + 1, within s'.list o.lo o.hi⟩] }, ⟨0, m.next + 1, []⟩) by unfold doSA; rw [if_neg (by omega)]; unfold doS; rw [hh]; dsimp only; rw [hi]; rw [if_neg (by omega), if_neg (by omega), if_neg (by omega), if_neg h8]]
              have hnx := hI.next
              have hap : ∀ u, K'.flatMap itrC ++ [.int .i64 (m.next + 1), u] = (K' ++ [((⟨m.next + 1, within s'.list o.lo o.hi⟩ : Itr), u)]).flatMap itrC := fun u => by rw [List.flatMap_append]; rfl
              refine W.seq (W.seq (W.region (WL.faN (T := Ty) (off' := 0) rfl rfl rfl rfl rfl rfl rfl (WL.ldN (T := Ty) (j := 3) rfl rfl rfl rfl rfl rfl (WL.nil (W.block (W.seq (W.seq (W.region (WL.eql rfl rfl rfl (WL.as rfl rfl (WL.nil (W.condpF rfl (by omega) ?_)))))))))))))
              refine W.seq (W.region (WL.eql rfl rfl rfl (WL.as rfl rfl (WL.nil (W.condpF rfl (by omega) (W.seq (W.region (WL.eql rfl rfl rfl (WL.as rfl rfl (WL.nil (W.condpF rfl (by omega) (W.seq (W.region ?_)))))))))))))
              refine WL.eql rfl rfl rfl (WL.as rfl rfl (WL.nil (W.condpF rfl (by omega) (W.region (WL.eql rfl rfl rfl (WL.as rfl rfl (WL.nil (W.condpT rfl (by omega) (W.seq (W.seq (W.region (WL.mv rfl rfl (WL.not rfl rfl ?_)))))))))))))
              refine WL.nil (W.condF rfl (W.skip (W.seq (W.region (WL.mv rfl rfl (WL.lss rfl rfl rfl (WL.mv rfl rfl (WL.gdN rfl rfl rfl rfl rfl rfl (WL.gdN rfl rfl rfl rfl rfl rfl (WL.gdN rfl rfl rfl rfl rfl rfl (WL.pickF rfl rfl rfl (WL.nil (W.condF rfl ?_)))))))))))))
              refine W.skip (W.inBlock (W.seq (W.region ?_)))
              refine WL.bdC (T := Ty) rfl rfl rfl rfl (by repeat' first | exact CO.nil | apply CO.one (by first | rfl | exact SL.one (by assumption)) | apply CO.agg) rfl (by repeat' constructor) ?_
              refine WL.alF (T := Ty) rfl rfl (by repeat' constructor) (fun b4 => ?_)
              refine WL.stAO (T := Ty) (j := 0) rfl rfl rfl rfl (by repeat' first | exact AO.nil | apply AO.cons (by first | rfl | exact SL.one (by assumption))) rfl rfl (by repeat' constructor) (by repeat' constructor) ?_
              refine WL.nil (W.seq (W.seq (W.region (WL.faN (T := Ty) (off' := 0) rfl rfl rfl rfl rfl rfl rfl (WL.ldN (T := Ty) (j := 4) rfl rfl rfl rfl rfl rfl (WL.nil (W.block (W.seq (W.region (WL.eql rfl rfl rfl (WL.as rfl rfl (WL.nil (W.condpF rfl (by omega) ?_)))))))))))))
              refine W.seq (W.region (WL.eql rfl rfl rfl (WL.as rfl rfl (WL.nil (W.condpF rfl (by omega) (W.seq (W.region (WL.eql rfl rfl rfl (WL.as rfl rfl (WL.nil (W.condpF rfl (by omega) (W.seq (W.region ?_)))))))))))))
              refine WL.eql rfl rfl rfl (WL.as rfl rfl (WL.nil (W.condpF rfl (by omega) (W.seq (W.region (WL.eql rfl rfl rfl (WL.as rfl rfl (WL.nil (W.condpT rfl (by omega) (W.seq (W.seq (W.region (WL.faN (T := Ty) (off' := 1) rfl rfl rfl rfl rfl rfl rfl ?_)))))))))))))
              refine WL.ldN (T := Ty) (j := 1) rfl rfl rfl rfl rfl rfl ?_
              refine WL.len (T := Ty) rfl rfl (by assumption) rfl ?_
              refine WL.geq rfl rfl rfl (WL.nil (W.condpF rfl (by omega) (W.skip (W.seq (W.region (WL.faN (T := Ty) (off' := 2) rfl rfl rfl rfl rfl rfl rfl (WL.ldN (T := Ty) (j := 1) rfl rfl rfl rfl rfl rfl (WL.addK rfl rfl rfl (wrap_i64 ⟨by omega, by omega⟩) (WL.faN (T := Ty) (off' := 2) rfl rfl rfl rfl rfl rfl rfl ?_)))))))))
              refine WL.stF (T := Ty) (j := 1) rfl rfl rfl rfl rfl rfl rfl (by repeat' constructor) (by repeat' constructor) ?_
              refine WL.nil (W.seq ?_)
              refine W.drawP 18 [false, false, false, false, false, true, true, false, false] rfl (by repeat' constructor) (by repeat' constructor) (fun σ0 hσ0 dσ0 => ?_)
              have fσ0_0 := rb_at 0 rfl hσ0 dσ0
              have fσ0_1 := rb_at 1 rfl hσ0 dσ0
              have fσ0_2 := rb_at 2 rfl hσ0 dσ0
              have fσ0_3 := rb_at 3 rfl hσ0 dσ0
              have fσ0_4 := rb_at 4 rfl hσ0 dσ0
              have fσ0_5 := in_at 5 rfl hσ0 dσ0
              have fσ0_6 := in_at 6 rfl hσ0 dσ0
              refine WD.takeL 0 rfl (by decide +kernel) (WL.faN (T := Ty) (off' := 1) rfl rfl rfl rfl rfl rfl rfl (WL.nilT (WD.takeL 1 rfl (by decide +kernel) ?_)))
              refine WL.ldBN (T := Ty) rfl rfl rfl rfl (by first | assumption | exact RB.wide (by assumption) | exact In.rb (by assumption)) rfl ?_
              refine WL.nilT (WD.takeL 2 rfl (by decide +kernel) (WL.faN (T := Ty) (off' := 2) rfl rfl rfl rfl rfl rfl rfl (WL.nilT (WD.takeL 3 rfl (by decide +kernel) ?_))))
              refine WL.ldBN (T := Ty) rfl rfl rfl rfl (by first | assumption | exact RB.wide (by assumption) | exact In.rb (by assumption)) rfl ?_
              refine WL.nilT (WD.takeL 4 rfl (by decide +kernel) (WL.faN (T := Ty) (off' := 0) rfl rfl rfl rfl rfl rfl rfl (WL.nilT (WD.takeL 5 rfl (by decide +kernel) ?_))))
              refine WL.ldBN (T := Ty) rfl rfl rfl rfl (by first | assumption | exact RB.wide (by assumption) | exact In.rb (by assumption)) rfl ?_
              refine WL.nilT (WD.takeL 6 rfl (by decide +kernel) (WL.mv rfl rfl (WL.nilT (WD.takeL 7 rfl (by decide +kernel) ?_))))
              refine WL.ix (T := Ty) rfl rfl rfl (by assumption) rfl rfl (by omega) (by first | omega | decide +kernel) ?_
              refine WL.nilT (WD.takeL 8 rfl (by decide +kernel) (WL.faEN (T := Ty) (off' := 4) rfl rfl rfl rfl rfl rfl rfl (WL.nilT (WD.takeL 10 rfl (by decide +kernel) (WL.faN (T := Ty) (off' := 5) rfl rfl rfl rfl rfl rfl rfl (WL.nilT (WD.takeL 11 rfl (by decide +kernel) ?_)))))))
              refine WL.ldBN (T := Ty) rfl rfl rfl rfl (by first | assumption | exact RB.wide (by assumption) | exact In.rb (by assumption)) rfl ?_
              refine WL.nilT (WD.takeL 12 rfl (by decide +kernel) (WL.faN (T := Ty) (off' := 6) rfl rfl rfl rfl rfl rfl rfl (WL.nilT (WD.takeL 13 rfl (by decide +kernel) ?_))))
              refine WL.ldBN (T := Ty) rfl rfl rfl rfl (by first | assumption | exact RB.wide (by assumption) | exact In.rb (by assumption)) rfl ?_
              refine WL.nilT (WD.oneL 9 rfl (by decide +kernel) ?_)
              refine WL.ldE (T := Ty) (j := 1) rfl rfl rfl rfl rfl (by assumption) ?_
              refine WL.nilE (WD.oneL 14 rfl (by decide +kernel) ?_)
              have hr := (‹In (join ρ σ0) (Own owSer L')›).rsers _ (List.mem_of_getElem? hp)
              unfold rdSer at hr
              dsimp only at hr
              refine WL.callF rfl rfl (fun x p d => rwithin_c _ _ _ _ _ (by first | assumption | exact ROs.wide (by assumption) | exact ROs.mono (by assumption) (eqh_at 0 rfl p d) | exact ros_at 0 rfl p d | exact ros_at 1 rfl p d | exact ros_at 2 rfl p d | exact ros_at 3 rfl p d | exact ros_at 4 rfl p d) (by first | assumption | omega)) (fun u5 => ?_)
              refine WL.fact (i := 0) rfl (fun h hb => hb.sl (sms_cells _) (by omega)) (fun hsl5 => ?_)
              refine WL.nilH hσ0 (fun σ1 hσ1 dσ1 mσ1 => ?_)
              have fσ0_0 := fσ0_0.mono mσ1
              have fσ0_1 := fσ0_1.mono mσ1
              have fσ0_2 := fσ0_2.mono mσ1
              have fσ0_3 := fσ0_3.mono mσ1
              have fσ0_4 := fσ0_4.mono mσ1
              have fσ0_5 := fσ0_5.mono mσ1
              have fσ0_6 := fσ0_6.mono mσ1
              have hr := hr.mono mσ1
              have fσ1_0 := ros_at 0 rfl hσ1 dσ1
              refine WD.takeL 15 rfl (by decide +kernel) ?_
              refine WL.bdC (T := Ty) rfl rfl rfl rfl (by repeat' first | exact CO.nil | apply CO.one (by first | rfl | exact SL.one (by assumption)) | apply CO.agg) rfl (by repeat' constructor) ?_
              refine WL.nilT (WD.oneL 16 rfl (by decide +kernel) ?_)
              refine WL.bsC (T := Ty) rfl rfl rfl rfl rfl rfl rfl (by repeat' first | exact CO.nil | apply CO.one (by first | rfl | exact SL.one (by assumption)) | apply CO.agg) rfl (by repeat' constructor) (fun u6 hu6 => ?_)
              refine WL.nilH hσ1 (fun σ2 hσ2 dσ2 mσ2 => ?_)
              have fσ0_0 := fσ0_0.mono mσ2
              have fσ0_1 := fσ0_1.mono mσ2
              have fσ0_2 := fσ0_2.mono mσ2
              have fσ0_3 := fσ0_3.mono mσ2
              have fσ0_4 := fσ0_4.mono mσ2
              have fσ0_5 := fσ0_5.mono mσ2
              have fσ0_6 := fσ0_6.mono mσ2
              have hr := hr.mono mσ2
              have fσ1_0 := fσ1_0.mono mσ2
              have fσ2_0 := ros_at 0 rfl hσ2 dσ2
              refine WD.oneL 17 rfl (by decide +kernel) ?_
              refine WL.ap (T := Ty) (i := 2) (m := 1) rfl rfl rfl rfl rfl rfl rfl rfl (by first | exact .ro (by assumption) | exact .ro (ROs.wide (by assumption)) | exact .eqJ 0 rfl (by assumption) | exact .own 0 rfl | exact .own 1 rfl | exact .own 2 rfl | exact .own 3 rfl | exact .own 4 rfl | exact .own 5 rfl) (by first | assumption | exact ROs.slm (by assumption)) (by assumption) (by rfl) (AO.all (by repeat' first | exact AO.nil | apply AO.cons (by first | rfl | exact SL.one (by assumption)))) (by first | omega | (simp; omega) | (simp only [List.length_drop, List.length_take]; omega)) (by unfold maxLen; first | omega | (simp only [List.length_drop, List.length_take]; omega)) (fun v' => (by repeat' constructor)) (fun u7 hu7 => ?_)
              refine WL.nilE ?_
              refine WD.lastG hσ2 (by decide +kernel) (by repeat' constructor) rfl (by repeat' constructor) ?_
              refine WL.faN (T := Ty) (off' := 1) rfl rfl rfl rfl rfl rfl rfl ?_
              refine WL.stF (T := Ty) (j := 3) rfl rfl rfl rfl (SL.one (by assumption)) rfl rfl (by repeat' constructor) (by repeat' constructor) ?_
              refine WL.nil (W.region (WL.faN (T := Ty) (off' := 2) rfl rfl rfl rfl rfl rfl rfl (WL.ldN (T := Ty) (j := 3) rfl rfl rfl rfl rfl rfl (WL.faN (T := Ty) (off' := 1) rfl rfl rfl rfl rfl rfl rfl ?_))))
              refine WL.stF (T := Ty) (j := 2) rfl rfl rfl rfl rfl rfl rfl (by repeat' constructor) (by repeat' constructor) ?_
              refine WL.nil (W.inBlock (W.seq ?_))
              refine W.drawP 3 [false, false, false, false, false, true, false, false, false, false, false] rfl (by repeat' constructor) (by repeat' constructor) (fun σ3 hσ3 dσ3 => ?_)
              have fσ3_0 := ros_at 0 rfl hσ3 dσ3
              have fσ3_1 := ros_at 1 rfl hσ3 dσ3
              have fσ3_2 := rb_at 2 rfl hσ3 dσ3
              have fσ3_3 := rb_at 3 rfl hσ3 dσ3
              have fσ3_4 := rb_at 4 rfl hσ3 dσ3
              have fσ3_5 := rb_at 5 rfl hσ3 dσ3
              have fσ3_6 := in_at 6 rfl hσ3 dσ3
              have fσ3_7 := in_at 7 rfl hσ3 dσ3
              have fσ3_8 := ros_at 8 rfl hσ3 dσ3
              have fσ3_9 := ros_at 9 rfl hσ3 dσ3
              refine WD.takeL 0 rfl (by decide +kernel) ?_
              refine WL.ldABF (T := Ty) rfl rfl rfl rfl (by first | assumption | exact RB.wide (by assumption) | exact In.rb (by assumption)) rfl (by repeat' constructor) ?_
              refine WL.nilT (WD.takeL 1 rfl (by decide +kernel) ?_)
              refine WL.ldABF (T := Ty) rfl rfl rfl rfl (by first | assumption | exact RB.wide (by assumption) | exact In.rb (by assumption)) rfl (by repeat' constructor) ?_
              refine WL.nilT (WD.oneL 2 rfl (by decide +kernel) ?_)
              refine WL.stAO (T := Ty) (j := 1) rfl rfl rfl rfl (by repeat' first | exact AO.nil | apply AO.cons (by first | rfl | exact SL.one (by assumption))) rfl rfl (by repeat' constructor) (by repeat' constructor) ?_
              refine WL.nilE ?_
              refine WD.lastG hσ3 (by decide +kernel) (by repeat' constructor) rfl (by repeat' constructor) ?_
              refine WL.stAO (T := Ty) (j := 4) rfl rfl rfl rfl (by repeat' first | exact AO.nil | apply AO.cons (by first | rfl | exact SL.one (by assumption))) rfl rfl (by repeat' constructor) (by repeat' constructor) ?_
              refine WL.nil ?_
              rw [hap]
              refine W.fit (Hs' := [Buf 2 _ ((within _ _ _).flatMap smC), Own owItr K', box b2 _ _, box b3 _ _, Buf 5 sv4 _, Buf 2 _ ((K' ++ [((⟨m.next + 1, within s'.list o.lo o.hi⟩ : Itr), _)]).flatMap itrC), Own owSer L']) (by (repeat' first | exact Sel.nil | apply Sel.k | exact Pick.h | apply Pick.t)) ?_
              refine W.two (r := Own owItr (K' ++ [((⟨m.next + 1, within s'.list o.lo o.hi⟩ : Itr), _)])) _ _ rfl (fun h q => own_snoc (f := owItr) (a := ((⟨m.next + 1, within s'.list o.lo o.hi⟩ : Itr), _)) q) ?_
              refine W.nb (sz := 2) ?_
              refine W.fit (Hs' := [box b2 _ _, box b3 _ _, Buf 2 nilV [], Buf 5 sv4 _, Buf 2 _ ((K' ++ [((⟨m.next + 1, within s'.list o.lo o.hi⟩ : Itr), _)]).flatMap itrC), Own owSer L', Own owItr (K' ++ _)]) (by (repeat' first | exact Sel.nil | apply Sel.k | exact Pick.h | apply Pick.t)) ?_
              exact W.retCC (T := Ty) (j := 0) (j' := 0) rfl rfl rfl rfl rfl rfl rfl rfl rfl rfl rfl (fun h q => dor_of (M := { m with next := m.next + 1, its := m.its ++ [⟨m.next + 1, within s'.list o.lo o.hi⟩] }) (R := ⟨0, m.next + 1, []⟩) e1' (by rw [List.map_append, e2']; rfl) q)
    · unfold opC
      by_cases h6 : o.kind = 6
      · skip
        have hb : badOp o = false := by unfold badOp; rw [if_neg hk]; exact decide_eq_false (fun h => h.1 h6)
        rw [doM_iter hb (.inl h6)]
        refine W.seq (W.seq (W.region (WL.faN (T := Ty) (off' := 0) rfl rfl rfl rfl rfl rfl rfl (WL.ldN (T := Ty) (j := 1) rfl rfl rfl rfl rfl rfl (WL.nil (W.block (W.seq (W.seq (W.region (WL.eql rfl rfl rfl (WL.as rfl rfl (WL.nil (W.condpF rfl (by omega) ?_)))))))))))))
        refine W.seq (W.region (WL.eql rfl rfl rfl (WL.as rfl rfl (WL.nil (W.condpF rfl (by omega) (W.seq (W.region (WL.eql rfl rfl rfl (WL.as rfl rfl (WL.nil (W.condpF rfl (by omega) (W.seq (W.region ?_)))))))))))))
        refine WL.eql rfl rfl rfl (WL.as rfl rfl (WL.nil (W.condpF rfl (by omega) (W.region (WL.eql rfl rfl rfl (WL.as rfl rfl (WL.nil (W.condpF rfl (by omega) (W.seq (W.seq (W.region (WL.eql rfl rfl rfl (WL.as rfl rfl ?_)))))))))))))
        refine WL.nil (W.condpT rfl (by omega) (W.skip (W.condpT rfl (by omega) (W.seq (W.region ?_)))))
        refine WL.ldAF (T := Ty) (j := 0) rfl rfl rfl rfl rfl rfl (by repeat' constructor) ?_
        refine WL.faN (T := Ty) (off' := 2) rfl rfl rfl rfl rfl rfl rfl (WL.ldN (T := Ty) (j := 1) rfl rfl rfl rfl rfl rfl ?_)
        refine WL.callV rfl rfl (fun x p d => iterR_c _ _ _ _ (by first | assumption | exact RMdl.wide (by assumption) | exact RMdl.mono (by assumption) (eqh_at 0 rfl p d) | exact (in_at 0 rfl p d).rmdl | exact (in_at 1 rfl p d).rmdl | exact (in_at 2 rfl p d).rmdl | exact (in_at 3 rfl p d).rmdl | exact (in_at 4 rfl p d).rmdl | exact (in_at 5 rfl p d).rmdl) (by first | assumption | omega)) ?_
        refine WL.as rfl rfl (WL.nil (W.seq (W.region (WL.mv rfl rfl (WL.lss rfl rfl rfl (WL.nil ?_))))))
        refine W.opens (α := List (Ser × Value) × List (Itr × Value)) (φ := fun x => x.1.map Prod.fst = m.ser ∧ x.2.map Prod.fst = m.its) (ps := fun x => [Buf 5 sv4 (x.1.flatMap serC), Buf 2 iv4 (x.2.flatMap itrC), Own owSer x.1, Own owItr x.2]) 4 rfl (fun h q => omdl_open q) (by repeat' constructor) ?_
        rintro ⟨L', K'⟩ ⟨e1', e2'⟩
        dsimp only [List.cons_append, List.nil_append] at e1' e2' ⊢
        have l1' := ser_cells L'
        have l2' := itr_cells K'
        have lL' : L'.length = m.ser.length := by rw [← e1', List.length_map]
        have lK' : K'.length = m.its.length := by rw [← e2', List.length_map]
        rw [← lL'] at sa4
        rw [← lK'] at sb4
        refine W.fact (i := 2) rfl (fun h hb => ser_one (owSer_rd hb)) (fun o1' => ?_)
        refine W.fact (i := 3) rfl (fun h hb => itr_one (owItr_rd hb)) (fun o2' => ?_)
        refine W.fact (i := 2) rfl (fun h hb => fun p hp => ROs.sl (owSer_rd hb p hp) (sms_cells _) (by omega)) (fun (hslL : ∀ p ∈ L', SL p.2 p.1.list.length) => ?_)
        refine W.fit (Hs' := [box b0 _ _, box b3 _ _, box b2 _ _, box b1 _ _, Buf 5 sv4 (L'.flatMap serC), Buf 2 iv4 (K'.flatMap itrC), Own owSer L', Own owItr K']) (by (repeat' first | exact Sel.nil | apply Sel.k | exact Pick.h | apply Pick.t)) ?_
        have hix : idxF (fun s : Itr => decide (s.id = o.iter)) m.its = if itrIx m.its o.iter < m.its.length then (itrIx m.its o.iter : Int) else -1 := rfl
        obtain ⟨M', R', hA⟩ : ∃ M' R', doI m o = (M', R') := ⟨_, _, rfl⟩
        rw [hA]
        unfold doI at hA
        generalize itrIx m.its o.iter = i at hA hix
        have hits := hI.its
        by_cases hil : i < m.its.length
        · rw [if_pos hil] at hix
          rw [hix]
          obtain ⟨⟨x, lv⟩, hp⟩ : ∃ p, K'[i]? = some p := ⟨_, List.getElem?_eq_getElem (by omega)⟩
          have hp' : m.its[i]? = some x := by rw [← e2', List.getElem?_map, hp]; rfl
          rw [hp'] at hA
          dsimp only at hA
          have hm := hI.rests x (List.mem_of_getElem? hp')
          rw [if_neg (by omega)] at hA
          injection hA with hA1 hA2
          subst hA1 hA2
          have c1 : (K'.flatMap itrC)[((i : Nat) : Int).toNat * 2 + 1]? = some lv := flat_get itr_len hp rfl
          have hN : min (min (max o.n 0) 1000) (x.rest.length : Int) = (nextN o x : Nat) := by unfold nextN; omega
          have hN2 : nextN o x ≤ x.rest.length := by unfold nextN; omega
          generalize nextN o x = q at hN hN2
          refine W.parts (ps := [Buf 2 lv (x.rest.flatMap smC), Own owItr (K'.eraseIdx i)]) 7 rfl (fun h q => own_out hp q) (by repeat' constructor) ?_
          refine W.freeze 0 rfl (by repeat' constructor) (fun ρ' le hin => ?_)
          have hr := hin.ros
          have hsr : SL lv x.rest.length := hr.sl (sms_cells _) (by omega)
          have hd3 : (x.rest.take q).length ≤ n := by rw [List.length_take]; omega
          have hd4 : (x.rest.drop q).length ≤ n := by rw [List.length_drop]; omega
          have hset : ∀ u, (K'.flatMap itrC).set (((i : Nat) : Int).toNat * 2 + 1) u = (K'.set i ({ x with rest := x.rest.drop q }, u)).flatMap itrC := fun u => flat_set itr_len hp (by omega) rfl
          refine W.condF rfl (W.skip (W.inBlock (W.seq (W.region ?_))))
          refine WL.bdC (T := Ty) rfl rfl rfl rfl (by repeat' first | exact CO.nil | apply CO.one (by first | rfl | exact SL.one (by assumption)) | apply CO.agg) rfl (by repeat' constructor) ?_
          refine WL.alF (T := Ty) rfl rfl (by repeat' constructor) (fun b4 => ?_)
          refine WL.stAO (T := Ty) (j := 0) rfl rfl rfl rfl (by repeat' first | exact AO.nil | apply AO.cons (by first | rfl | exact SL.one (by assumption))) rfl rfl (by repeat' constructor) (by repeat' constructor) ?_
          refine WL.nil (W.seq (W.seq (W.region (WL.faN (T := Ty) (off' := 0) rfl rfl rfl rfl rfl rfl rfl (WL.ldN (T := Ty) (j := 5) rfl rfl rfl rfl rfl rfl (WL.nil (W.block (W.seq (W.region (WL.eql rfl rfl rfl (WL.as rfl rfl (WL.nil (W.condpF rfl (by omega) ?_)))))))))))))
          refine W.seq (W.region (WL.eql rfl rfl rfl (WL.as rfl rfl (WL.nil (W.condpF rfl (by omega) (W.seq (W.region (WL.eql rfl rfl rfl (WL.as rfl rfl (WL.nil (W.condpF rfl (by omega) (W.seq (W.region ?_)))))))))))))
          refine WL.eql rfl rfl rfl (WL.as rfl rfl (WL.nil (W.condpF rfl (by omega) (W.seq (W.region (WL.eql rfl rfl rfl (WL.as rfl rfl (WL.nil (W.condpF rfl (by omega) (W.seq (W.region (WL.eql rfl rfl rfl (WL.as rfl rfl ?_)))))))))))))
          refine WL.nil (W.condpT rfl (by omega) (W.seq ?_))
          refine W.drawA 11 rfl (fun σ0 hσ0 dσ0 => ?_)
          have fσ0_0 := rb_at 0 rfl hσ0 dσ0
          have fσ0_1 := in_at 1 rfl hσ0 dσ0
          have fσ0_2 := rb_at 2 rfl hσ0 dσ0
          have fσ0_3 := rb_at 3 rfl hσ0 dσ0
          have fσ0_4 := rb_at 4 rfl hσ0 dσ0
          have fσ0_5 := rb_at 5 rfl hσ0 dσ0
          have fσ0_6 := ros_at 6 rfl hσ0 dσ0
          have fσ0_7 := ros_at 7 rfl hσ0 dσ0
          have fσ0_8 := in_at 8 rfl hσ0 dσ0
          refine WD.takeL 0 rfl (by decide +kernel) (WL.faN (T := Ty) (off' := 7) rfl rfl rfl rfl rfl rfl rfl (WL.nilT (WD.takeL 1 rfl (by decide +kernel) ?_)))
          refine WL.ldBN (T := Ty) rfl rfl rfl rfl (by first | assumption | exact RB.wide (by assumption) | exact In.rb (by assumption)) rfl ?_
          refine WL.nilT (WD.takeL 2 rfl (by decide +kernel) (WL.mx rfl rfl rfl (WL.nilT (WD.takeL 3 rfl (by decide +kernel) (WL.faN (T := Ty) (off' := 1) rfl rfl rfl rfl rfl rfl rfl (WL.nilT (WD.takeL 4 rfl (by decide +kernel) ?_)))))))
          refine WL.ldBN (T := Ty) rfl rfl rfl rfl (by first | assumption | exact RB.wide (by assumption) | exact In.rb (by assumption)) rfl ?_
          refine WL.nilT (WD.takeL 5 rfl (by decide +kernel) (WL.mv rfl rfl (WL.nilT (WD.takeL 6 rfl (by decide +kernel) ?_))))
          refine WL.ix (T := Ty) rfl rfl rfl (by assumption) rfl rfl (by omega) (by first | omega | decide +kernel) ?_
          refine WL.nilT (WD.takeL 7 rfl (by decide +kernel) (WL.faEN (T := Ty) (off' := 1) rfl rfl rfl rfl rfl rfl rfl (WL.nilT (WD.takeL 8 rfl (by decide +kernel) ?_))))
          refine WL.ldR (T := Ty) rfl rfl rfl rfl (by first | assumption | exact ROs.wide (by assumption)) (by assumption) ?_
          refine WL.nilT (WD.takeL 9 rfl (by decide +kernel) ?_)
          refine WL.len (T := Ty) rfl rfl (by assumption) rfl ?_
          refine WL.nilT (WD.takeL 10 rfl (by decide +kernel) (WL.mn3 rfl rfl rfl rfl (WL.nilT ?_)))
          refine WD.lastG hσ0 (by decide +kernel) (by repeat' constructor) rfl (by repeat' constructor) ?_
          refine WL.as rfl rfl (WL.nil (W.seq (W.region (WL.faN (T := Ty) (off' := 1) rfl rfl rfl rfl rfl rfl rfl (WL.ldN (T := Ty) (j := 2) rfl rfl rfl rfl rfl rfl (WL.mv rfl rfl ?_))))))
          refine WL.ix (T := Ty) rfl rfl rfl (by assumption) rfl rfl (by omega) (by first | omega | decide +kernel) ?_
          refine WL.faEN (T := Ty) (off' := 1) rfl rfl rfl rfl rfl rfl rfl ?_
          refine WL.ldE (T := Ty) (j := 7) rfl rfl rfl rfl rfl (by assumption) ?_
          refine WL.mv rfl rfl ?_
          rw [hN]
          refine WL.slTf (T := Ty) rfl rfl rfl rfl rfl rfl (by first | assumption | exact ROs.wide (by assumption)) (by intro a; rfl) (by first | assumption | omega | (simp; omega)) (fun u5 hu5 ru5 => ?_)
          refine WL.callF rfl rfl (fun x p d => ownR_c _ _ _ (by first | assumption | exact ROs.wide (by assumption) | exact ROs.mono (by assumption) (eqh_at 0 rfl p d) | exact ros_at 0 rfl p d | exact ros_at 1 rfl p d | exact ros_at 2 rfl p d | exact ros_at 3 rfl p d | exact ros_at 4 rfl p d) (by first | assumption | omega)) (fun u6 => ?_)
          refine WL.fact (i := 0) rfl (fun h hb => hb.sl (sms_cells _) (by omega)) (fun hsl6 => ?_)
          refine WL.faN (T := Ty) (off' := 2) rfl rfl rfl rfl rfl rfl rfl ?_
          refine WL.stF (T := Ty) (j := 1) rfl rfl rfl rfl (SL.one (by assumption)) rfl rfl (by repeat' constructor) (by repeat' constructor) ?_
          refine WL.nil ?_
          refine W.drawA 12 rfl (fun σ1 hσ1 dσ1 => ?_)
          have fσ1_0 := ros_at 0 rfl hσ1 dσ1
          have fσ1_1 := rb_at 1 rfl hσ1 dσ1
          have fσ1_2 := in_at 2 rfl hσ1 dσ1
          have fσ1_3 := rb_at 3 rfl hσ1 dσ1
          have fσ1_4 := rb_at 4 rfl hσ1 dσ1
          have fσ1_5 := rb_at 5 rfl hσ1 dσ1
          have fσ1_6 := rb_at 6 rfl hσ1 dσ1
          have fσ1_7 := ros_at 7 rfl hσ1 dσ1
          have fσ1_8 := ros_at 8 rfl hσ1 dσ1
          have fσ1_9 := in_at 9 rfl hσ1 dσ1
          refine WD.takeL 0 rfl (by decide +kernel) (WL.faN (T := Ty) (off' := 1) rfl rfl rfl rfl rfl rfl rfl (WL.nilT (WD.takeL 1 rfl (by decide +kernel) ?_)))
          refine WL.ldBN (T := Ty) rfl rfl rfl rfl (by first | assumption | exact RB.wide (by assumption) | exact In.rb (by assumption)) rfl ?_
          refine WL.nilT (WD.takeL 2 rfl (by decide +kernel) (WL.mv rfl rfl (WL.nilT (WD.takeL 3 rfl (by decide +kernel) (WL.faN (T := Ty) (off' := 1) rfl rfl rfl rfl rfl rfl rfl (WL.nilT (WD.takeL 4 rfl (by decide +kernel) ?_)))))))
          refine WL.ldBN (T := Ty) rfl rfl rfl rfl (by first | assumption | exact RB.wide (by assumption) | exact In.rb (by assumption)) rfl ?_
          refine WL.nilT (WD.takeL 5 rfl (by decide +kernel) (WL.mv rfl rfl (WL.nilT (WD.takeL 6 rfl (by decide +kernel) ?_))))
          refine WL.ix (T := Ty) rfl rfl rfl (by assumption) rfl rfl (by omega) (by first | omega | decide +kernel) ?_
          refine WL.nilT (WD.takeL 7 rfl (by decide +kernel) (WL.faEN (T := Ty) (off' := 1) rfl rfl rfl rfl rfl rfl rfl (WL.nilT (WD.takeL 8 rfl (by decide +kernel) ?_))))
          refine WL.ldR (T := Ty) rfl rfl rfl rfl (by first | assumption | exact ROs.wide (by assumption)) (by assumption) ?_
          refine WL.nilT (WD.takeL 9 rfl (by decide +kernel) (WL.mv rfl rfl (WL.nilT (WD.takeL 10 rfl (by decide +kernel) ?_))))
          refine WL.slDf (T := Ty) rfl rfl rfl rfl rfl rfl (by first | assumption | exact ROs.wide (by assumption)) (by intro a; rfl) (by first | assumption | omega | (simp; omega)) (fun u7 hu7 ru7 => ?_)
          refine WL.nilT (WD.oneL 11 rfl (by decide +kernel) ?_)
          refine WL.callF rfl rfl (fun x p d => ownR_c _ _ _ (by first | assumption | exact ROs.wide (by assumption) | exact ROs.mono (by assumption) (eqh_at 0 rfl p d) | exact ros_at 0 rfl p d | exact ros_at 1 rfl p d | exact ros_at 2 rfl p d | exact ros_at 3 rfl p d | exact ros_at 4 rfl p d) (by first | assumption | omega)) (fun u8 => ?_)
          refine WL.fact (i := 0) rfl (fun h hb => hb.sl (sms_cells _) (by omega)) (fun hsl8 => ?_)
          refine WL.nilH hσ1 (fun σ2 hσ2 dσ2 mσ2 => ?_)
          have fσ1_0 := fσ1_0.mono mσ2
          have fσ1_1 := fσ1_1.mono mσ2
          have fσ1_2 := fσ1_2.mono mσ2
          have fσ1_3 := fσ1_3.mono mσ2
          have fσ1_4 := fσ1_4.mono mσ2
          have fσ1_5 := fσ1_5.mono mσ2
          have fσ1_6 := fσ1_6.mono mσ2
          have fσ1_7 := fσ1_7.mono mσ2
          have fσ1_8 := fσ1_8.mono mσ2
          have fσ1_9 := fσ1_9.mono mσ2
          have ru7 := ru7.mono mσ2
          have fσ2_0 := ros_at 0 rfl hσ2 dσ2
          refine WD.lastG hσ2 (by decide +kernel) (by repeat' constructor) rfl (by repeat' constructor) ?_
          refine WL.ix (T := Ty) rfl rfl rfl (by assumption) rfl rfl (by omega) (by first | omega | decide +kernel) ?_
          refine WL.faEN (T := Ty) (off' := 1) rfl rfl rfl rfl rfl rfl rfl ?_
          refine WL.stEF (T := Ty) (j := 9) rfl rfl rfl rfl (SL.one (by assumption)) rfl (by first | assumption | omega | (simp only [List.length_set]; omega) | (simp; omega)) rfl (by repeat' constructor) ?_
          refine WL.nil (W.inBlock (W.seq ?_))
          refine W.drawP 3 [false, false, false, false, false, false, true, false, false, false, false] rfl (by repeat' constructor) (by repeat' constructor) (fun σ3 hσ3 dσ3 => ?_)
          have fσ3_0 := ros_at 0 rfl hσ3 dσ3
          have fσ3_1 := ros_at 1 rfl hσ3 dσ3
          have fσ3_2 := rb_at 2 rfl hσ3 dσ3
          have fσ3_3 := in_at 3 rfl hσ3 dσ3
          have fσ3_4 := rb_at 4 rfl hσ3 dσ3
          have fσ3_5 := rb_at 5 rfl hσ3 dσ3
          have fσ3_6 := rb_at 6 rfl hσ3 dσ3
          have fσ3_7 := ros_at 7 rfl hσ3 dσ3
          have fσ3_8 := ros_at 8 rfl hσ3 dσ3
          have fσ3_9 := in_at 9 rfl hσ3 dσ3
          refine WD.takeL 0 rfl (by decide +kernel) ?_
          refine WL.ldABF (T := Ty) rfl rfl rfl rfl (by first | assumption | exact RB.wide (by assumption) | exact In.rb (by assumption)) rfl (by repeat' constructor) ?_
          refine WL.nilT (WD.takeL 1 rfl (by decide +kernel) ?_)
          refine WL.ldABF (T := Ty) rfl rfl rfl rfl (by first | assumption | exact RB.wide (by assumption) | exact In.rb (by assumption)) rfl (by repeat' constructor) ?_
          refine WL.nilT (WD.oneL 2 rfl (by decide +kernel) ?_)
          refine WL.stAO (T := Ty) (j := 1) rfl rfl rfl rfl (by repeat' first | exact AO.nil | apply AO.cons (by first | rfl | exact SL.one (by assumption))) rfl rfl (by repeat' constructor) (by repeat' constructor) ?_
          refine WL.nilE ?_
          refine WD.lastG hσ3 (by decide +kernel) (by repeat' constructor) rfl (by repeat' constructor) ?_
          refine WL.stAO (T := Ty) (j := 5) rfl rfl rfl rfl (by repeat' first | exact AO.nil | apply AO.cons (by first | rfl | exact SL.one (by assumption))) rfl rfl (by repeat' constructor) (by repeat' constructor) ?_
          refine WL.nil ?_
          rw [hset]
          refine W.fit (Hs' := [Buf 2 _ ((x.rest.drop q).flatMap smC), Own owItr (K'.eraseIdx i), box b2 _ _, box b3 _ _, Buf 2 _ ((x.rest.take q).flatMap smC), Buf 5 sv4 _, Buf 2 iv4 _, Own owSer L']) (by (repeat' first | exact Sel.nil | apply Sel.k | exact Pick.h | apply Pick.t)) ?_
          refine W.two (r := Own owItr (K'.set i ({ x with rest := x.rest.drop q }, _))) _ _ rfl (fun h q' => own_in (f := owItr) (a := ({ x with rest := x.rest.drop q }, _)) hp q') ?_
          refine W.fit (Hs' := [box b2 _ _, box b3 _ _, Buf 2 _ ((x.rest.take q).flatMap smC), Buf 5 sv4 _, Buf 2 iv4 _, Own owSer L', Own owItr (K'.set i _)]) (by (repeat' first | exact Sel.nil | apply Sel.k | exact Pick.h | apply Pick.t)) ?_
          exact W.retCC (T := Ty) (j := 0) (j' := 0) rfl rfl rfl rfl rfl rfl rfl rfl rfl rfl rfl (fun h q' => dor_of (M := ⟨m.ser, m.its.set i { x with rest := x.rest.drop q }, m.next⟩) (R := ⟨0, 0, x.rest.take q⟩) e1' (by rw [List.map_set, e2']) q')
        · rw [if_neg hil] at hix
          rw [hix]
          rw [List.getElem?_eq_none (by omega)] at hA
          dsimp only at hA
          injection hA with hA1 hA2
          subst hA1 hA2
          refine W.condT rfl (W.seq (W.region ?_))
          refine WL.ldAF (T := Ty) (j := 0) rfl rfl rfl rfl rfl rfl (by repeat' constructor) ?_
          refine WL.bdC (T := Ty) rfl rfl rfl rfl (by repeat' first | exact CO.nil | apply CO.one (by first | rfl | exact SL.one (by assumption)) | apply CO.agg) rfl (by repeat' constructor) ?_
          refine WL.stAO (T := Ty) (j := 2) rfl rfl rfl rfl (by repeat' first | exact AO.nil | apply AO.cons (by first | rfl | exact SL.one (by assumption))) rfl rfl (by repeat' constructor) (by repeat' constructor) ?_
          refine WL.stAO (T := Ty) (j := 1) rfl rfl rfl rfl (by repeat' first | exact AO.nil | apply AO.cons (by first | rfl | exact SL.one (by assumption))) rfl rfl (by repeat' constructor) (by repeat' constructor) ?_
          refine WL.nil (W.nb (sz := 2) ?_)
          refine W.fit (Hs' := [box b2 _ _, box b3 _ _, Buf 2 nilV [], Buf 5 sv4 (L'.flatMap serC), Buf 2 iv4 (K'.flatMap itrC), Own owSer L', Own owItr K']) (by (repeat' first | exact Sel.nil | apply Sel.k | exact Pick.h | apply Pick.t)) ?_
          exact W.retCC (T := Ty) (j := 0) (j' := 0) rfl rfl rfl rfl rfl rfl rfl rfl rfl rfl rfl (fun h q => dor_of (M := m) (R := ⟨3, 0, []⟩) e1' e2' q)
      · by_cases h7 : o.kind = 7
        · skip
          have hb : badOp o = false := by unfold badOp; rw [if_neg hk]; exact decide_eq_false (fun h => h.2 h7)
          rw [doM_iter hb (.inr h7)]
          refine W.seq (W.seq (W.region (WL.faN (T := Ty) (off' := 0) rfl rfl rfl rfl rfl rfl rfl (WL.ldN (T := Ty) (j := 1) rfl rfl rfl rfl rfl rfl (WL.nil (W.block (W.seq (W.seq (W.region (WL.eql rfl rfl rfl (WL.as rfl rfl (WL.nil (W.condpF rfl (by omega) ?_)))))))))))))
          refine W.seq (W.region (WL.eql rfl rfl rfl (WL.as rfl rfl (WL.nil (W.condpF rfl (by omega) (W.seq (W.region (WL.eql rfl rfl rfl (WL.as rfl rfl (WL.nil (W.condpF rfl (by omega) (W.seq (W.region ?_)))))))))))))
          refine WL.eql rfl rfl rfl (WL.as rfl rfl (WL.nil (W.condpF rfl (by omega) (W.region (WL.eql rfl rfl rfl (WL.as rfl rfl (WL.nil (W.condpF rfl (by omega) (W.seq (W.seq (W.region (WL.eql rfl rfl rfl (WL.as rfl rfl ?_)))))))))))))
          refine WL.nil (W.condpF rfl (by omega) (W.region (WL.eql rfl rfl rfl (WL.as rfl rfl (WL.nil (W.condpT rfl (by omega) (W.seq (W.region ?_))))))))
          refine WL.ldAF (T := Ty) (j := 0) rfl rfl rfl rfl rfl rfl (by repeat' constructor) ?_
          refine WL.faN (T := Ty) (off' := 2) rfl rfl rfl rfl rfl rfl rfl (WL.ldN (T := Ty) (j := 1) rfl rfl rfl rfl rfl rfl ?_)
          refine WL.callV rfl rfl (fun x p d => iterR_c _ _ _ _ (by first | assumption | exact RMdl.wide (by assumption) | exact RMdl.mono (by assumption) (eqh_at 0 rfl p d) | exact (in_at 0 rfl p d).rmdl | exact (in_at 1 rfl p d).rmdl | exact (in_at 2 rfl p d).rmdl | exact (in_at 3 rfl p d).rmdl | exact (in_at 4 rfl p d).rmdl | exact (in_at 5 rfl p d).rmdl) (by first | assumption | omega)) ?_
          refine WL.as rfl rfl (WL.nil (W.seq (W.region (WL.mv rfl rfl (WL.lss rfl rfl rfl (WL.nil ?_))))))
          refine W.opens (α := List (Ser × Value) × List (Itr × Value)) (φ := fun x => x.1.map Prod.fst = m.ser ∧ x.2.map Prod.fst = m.its) (ps := fun x => [Buf 5 sv4 (x.1.flatMap serC), Buf 2 iv4 (x.2.flatMap itrC), Own owSer x.1, Own owItr x.2]) 4 rfl (fun h q => omdl_open q) (by repeat' constructor) ?_
          rintro ⟨L', K'⟩ ⟨e1', e2'⟩
          dsimp only [List.cons_append, List.nil_append] at e1' e2' ⊢
          have l1' := ser_cells L'
          have l2' := itr_cells K'
          have lL' : L'.length = m.ser.length := by rw [← e1', List.length_map]
          have lK' : K'.length = m.its.length := by rw [← e2', List.length_map]
          rw [← lL'] at sa4
          rw [← lK'] at sb4
          refine W.fact (i := 2) rfl (fun h hb => ser_one (owSer_rd hb)) (fun o1' => ?_)
          refine W.fact (i := 3) rfl (fun h hb => itr_one (owItr_rd hb)) (fun o2' => ?_)
          refine W.fact (i := 2) rfl (fun h hb => fun p hp => ROs.sl (owSer_rd hb p hp) (sms_cells _) (by omega)) (fun (hslL : ∀ p ∈ L', SL p.2 p.1.list.length) => ?_)
          refine W.fit (Hs' := [box b0 _ _, box b3 _ _, box b2 _ _, box b1 _ _, Buf 5 sv4 (L'.flatMap serC), Buf 2 iv4 (K'.flatMap itrC), Own owSer L', Own owItr K']) (by (repeat' first | exact Sel.nil | apply Sel.k | exact Pick.h | apply Pick.t)) ?_
          have hix : idxF (fun s : Itr => decide (s.id = o.iter)) m.its = if itrIx m.its o.iter < m.its.length then (itrIx m.its o.iter : Int) else -1 := rfl
          obtain ⟨M', R', hA⟩ : ∃ M' R', doI m o = (M', R') := ⟨_, _, rfl⟩
          rw [hA]
          unfold doI at hA
          generalize itrIx m.its o.iter = i at hA hix
          have hits := hI.its
          by_cases hil : i < m.its.length
          · rw [if_pos hil] at hix
            rw [hix]
            obtain ⟨⟨x, lv⟩, hp⟩ : ∃ p, K'[i]? = some p := ⟨_, List.getElem?_eq_getElem (by omega)⟩
            have hp' : m.its[i]? = some x := by rw [← e2', List.getElem?_map, hp]; rfl
            rw [hp'] at hA
            dsimp only at hA
            have hm := hI.rests x (List.mem_of_getElem? hp')
            rw [if_pos (by omega)] at hA
            injection hA with hA1 hA2
            subst hA1 hA2
            have ct := itr_cells (K'.take i)
            have cd := itr_cells (K'.drop (i + 1))
            have tl : (K'.take i).length = i := by rw [List.length_take]; omega
            have to : ∀ q ∈ (K'.take i).flatMap itrC, q.oneCell' = true := fun q hq => o2' q (by rw [← flat_take itr_len] at hq; exact List.mem_of_mem_take hq)
            have do' : ∀ q ∈ (K'.drop (i + 1)).flatMap itrC, q.oneCell' = true := fun q hq => o2' q (by rw [← flat_drop itr_len] at hq; exact List.mem_of_mem_drop hq)
            have hap : (K'.take i).flatMap itrC ++ (K'.drop (i + 1)).flatMap itrC = (K'.take i ++ K'.drop (i + 1)).flatMap itrC := by rw [List.flatMap_append]
            refine W.condF rfl (W.skip (W.inBlock (W.seq (W.region ?_))))
            refine WL.bdC (T := Ty) rfl rfl rfl rfl (by repeat' first | exact CO.nil | apply CO.one (by first | rfl | exact SL.one (by assumption)) | apply CO.agg) rfl (by repeat' constructor) ?_
            refine WL.alF (T := Ty) rfl rfl (by repeat' constructor) (fun b4 => ?_)
            refine WL.stAO (T := Ty) (j := 0) rfl rfl rfl rfl (by repeat' first | exact AO.nil | apply AO.cons (by first | rfl | exact SL.one (by assumption))) rfl rfl (by repeat' constructor) (by repeat' constructor) ?_
            refine WL.nil (W.seq (W.seq (W.region (WL.faN (T := Ty) (off' := 0) rfl rfl rfl rfl rfl rfl rfl (WL.ldN (T := Ty) (j := 4) rfl rfl rfl rfl rfl rfl (WL.nil (W.block (W.seq (W.region (WL.eql rfl rfl rfl (WL.as rfl rfl (WL.nil (W.condpF rfl (by omega) ?_)))))))))))))
            refine W.seq (W.region (WL.eql rfl rfl rfl (WL.as rfl rfl (WL.nil (W.condpF rfl (by omega) (W.seq (W.region (WL.eql rfl rfl rfl (WL.as rfl rfl (WL.nil (W.condpF rfl (by omega) (W.seq (W.region ?_)))))))))))))
            refine WL.eql rfl rfl rfl (WL.as rfl rfl (WL.nil (W.condpF rfl (by omega) (W.seq (W.region (WL.eql rfl rfl rfl (WL.as rfl rfl (WL.nil (W.condpF rfl (by omega) (W.seq (W.region (WL.eql rfl rfl rfl (WL.as rfl rfl ?_)))))))))))))
            refine WL.nil (W.condpF rfl (by omega) (W.seq (W.region (WL.eql rfl rfl rfl (WL.as rfl rfl (WL.nil (W.condpT rfl (by omega) ?_)))))))
            refine W.drawA 12 rfl (fun σ0 hσ0 dσ0 => ?_)
            have fσ0_0 := rb_at 0 rfl hσ0 dσ0
            have fσ0_1 := rb_at 1 rfl hσ0 dσ0
            have fσ0_2 := rb_at 2 rfl hσ0 dσ0
            have fσ0_3 := rb_at 3 rfl hσ0 dσ0
            have fσ0_4 := rb_at 4 rfl hσ0 dσ0
            have fσ0_5 := ros_at 5 rfl hσ0 dσ0
            have fσ0_6 := ros_at 6 rfl hσ0 dσ0
            have fσ0_7 := in_at 7 rfl hσ0 dσ0
            have fσ0_8 := in_at 8 rfl hσ0 dσ0
            refine WD.takeL 1 rfl (by decide +kernel) (WL.faN (T := Ty) (off' := 1) rfl rfl rfl rfl rfl rfl rfl (WL.nilT (WD.takeL 2 rfl (by decide +kernel) ?_)))
            refine WL.ldBN (T := Ty) rfl rfl rfl rfl (by first | assumption | exact RB.wide (by assumption) | exact In.rb (by assumption)) rfl ?_
            refine WL.nilT (WD.takeL 3 rfl (by decide +kernel) (WL.mv rfl rfl (WL.nilT (WD.takeL 4 rfl (by decide +kernel) ?_))))
            refine WL.slTf (T := Ty) rfl rfl rfl rfl rfl rfl (by first | assumption | exact ROs.wide (by assumption)) (by intro a; rfl) (by first | assumption | omega | (simp; omega)) (fun u5 hu5 ru5 => ?_)
            refine WL.nilT (WD.takeL 6 rfl (by decide +kernel) (WL.faN (T := Ty) (off' := 1) rfl rfl rfl rfl rfl rfl rfl (WL.nilT (WD.takeL 7 rfl (by decide +kernel) ?_))))
            refine WL.ldBN (T := Ty) rfl rfl rfl rfl (by first | assumption | exact RB.wide (by assumption) | exact In.rb (by assumption)) rfl ?_
            refine WL.nilT (WD.takeL 8 rfl (by decide +kernel) (WL.mv rfl rfl (WL.nilT (WD.takeL 9 rfl (by decide +kernel) (WL.addK rfl rfl rfl (wrap_i64 ⟨by omega, by omega⟩) (WL.nilT (WD.takeL 10 rfl (by decide +kernel) ?_)))))))
            refine WL.slDf (T := Ty) rfl rfl rfl rfl rfl rfl (by first | assumption | exact ROs.wide (by assumption)) (by intro a; rfl) (by first | assumption | omega | (simp; omega)) (fun u6 hu6 ru6 => ?_)
            refine WL.nilT (WD.oneL 0 rfl (by decide +kernel) ?_)
            refine WL.bsC (T := Ty) rfl rfl rfl rfl rfl rfl rfl (by repeat' first | exact CO.nil | apply CO.one (by first | rfl | exact SL.one (by assumption)) | apply CO.agg) rfl (by repeat' constructor) (fun u7 hu7 => ?_)
            refine WL.nilS (WD.oneL 5 rfl (by decide +kernel) ?_)
            refine WL.ap (T := Ty) (i := 1) (n := 0) rfl rfl rfl rfl rfl rfl rfl rfl (by first | exact .ro (by assumption) | exact .ro (ROs.wide (by assumption)) | exact .eqJ 0 rfl (by assumption) | exact .own 0 rfl | exact .own 1 rfl | exact .own 2 rfl | exact .own 3 rfl | exact .own 4 rfl | exact .own 5 rfl) (by first | assumption | exact ROs.slm (by assumption)) rfl (by assumption) (by assumption) (by first | omega | (simp; omega) | (simp only [List.length_drop, List.length_take]; omega)) (by unfold maxLen; first | omega | (simp only [List.length_drop, List.length_take]; omega)) (fun v' => (by repeat' constructor)) (fun u8 hu8 => ?_)
            refine WL.nilE (WD.oneL 11 rfl (by decide +kernel) ?_)
            refine WL.ap (T := Ty) (i := 1) rfl rfl rfl rfl rfl rfl rfl rfl (by first | exact .ro (by assumption) | exact .ro (ROs.wide (by assumption)) | exact .eqJ 0 rfl (by assumption) | exact .own 0 rfl | exact .own 1 rfl | exact .own 2 rfl | exact .own 3 rfl | exact .own 4 rfl | exact .own 5 rfl) (by first | assumption | exact ROs.slm (by assumption)) (by assumption) (by assumption) (by assumption) (by first | omega | (simp; omega) | (simp only [List.length_drop, List.length_take]; omega)) (by unfold maxLen; first | omega | (simp only [List.length_drop, List.length_take]; omega)) (fun v' => (by repeat' constructor)) (fun u9 hu9 => ?_)
            refine WL.nilE ?_
            refine WD.lastG hσ0 (by decide +kernel) (by repeat' constructor) rfl (by repeat' constructor) ?_
            refine WL.faN (T := Ty) (off' := 1) rfl rfl rfl rfl rfl rfl rfl ?_
            refine WL.stF (T := Ty) (j := 1) rfl rfl rfl rfl (SL.one (by assumption)) rfl rfl (by repeat' constructor) (by repeat' constructor) ?_
            refine WL.nil (W.inBlock (W.seq ?_))
            refine W.drawP 3 [false, false, false, true, false, false, false, false, false, false] rfl (by repeat' constructor) (by repeat' constructor) (fun σ1 hσ1 dσ1 => ?_)
            have fσ1_0 := rb_at 0 rfl hσ1 dσ1
            have fσ1_1 := rb_at 1 rfl hσ1 dσ1
            have fσ1_2 := rb_at 2 rfl hσ1 dσ1
            have fσ1_3 := rb_at 3 rfl hσ1 dσ1
            have fσ1_4 := ros_at 4 rfl hσ1 dσ1
            have fσ1_5 := ros_at 5 rfl hσ1 dσ1
            have fσ1_6 := in_at 6 rfl hσ1 dσ1
            have fσ1_7 := in_at 7 rfl hσ1 dσ1
            have fσ1_8 := ros_at 8 rfl hσ1 dσ1
            refine WD.takeL 0 rfl (by decide +kernel) ?_
            refine WL.ldABF (T := Ty) rfl rfl rfl rfl (by first | assumption | exact RB.wide (by assumption) | exact In.rb (by assumption)) rfl (by repeat' constructor) ?_
            refine WL.nilT (WD.takeL 1 rfl (by decide +kernel) ?_)
            refine WL.ldABF (T := Ty) rfl rfl rfl rfl (by first | assumption | exact RB.wide (by assumption) | exact In.rb (by assumption)) rfl (by repeat' constructor) ?_
            refine WL.nilT (WD.oneL 2 rfl (by decide +kernel) ?_)
            refine WL.stAO (T := Ty) (j := 1) rfl rfl rfl rfl (by repeat' first | exact AO.nil | apply AO.cons (by first | rfl | exact SL.one (by assumption))) rfl rfl (by repeat' constructor) (by repeat' constructor) ?_
            refine WL.nilE ?_
            refine WD.lastG hσ1 (by decide +kernel) (by repeat' constructor) rfl (by repeat' constructor) ?_
            refine WL.stAO (T := Ty) (j := 2) rfl rfl rfl rfl (by repeat' first | exact AO.nil | apply AO.cons (by first | rfl | exact SL.one (by assumption))) rfl rfl (by repeat' constructor) (by repeat' constructor) ?_
            refine WL.nil ?_
            rw [List.nil_append, hap]
            refine W.fit (Hs' := [Own owItr K', box b2 _ _, box b3 _ _, Buf 2 _ ((K'.take i ++ K'.drop (i + 1)).flatMap itrC), Buf 5 sv4 _, Own owSer L']) (by (repeat' first | exact Sel.nil | apply Sel.k | exact Pick.h | apply Pick.t)) ?_
            refine W.parts (ps := [owItr (x, lv), Own owItr (K'.take i ++ K'.drop (i + 1))]) 0 rfl (fun h q => own_del hp q) (by repeat' constructor) ?_
            refine W.nb (sz := 2) ?_
            refine W.fit (Hs' := [box b2 _ _, box b3 _ _, Buf 2 nilV [], Buf 5 sv4 _, Buf 2 _ ((K'.take i ++ K'.drop (i + 1)).flatMap itrC), Own owSer L', Own owItr (K'.take i ++ K'.drop (i + 1))]) (by (repeat' first | exact Sel.nil | apply Sel.k | exact Pick.h | apply Pick.t)) ?_
            exact W.retCC (T := Ty) (j := 0) (j' := 0) rfl rfl rfl rfl rfl rfl rfl rfl rfl rfl rfl (fun h q => dor_of (M := ⟨m.ser, m.its.take i ++ m.its.drop (i + 1), m.next⟩) (R := ⟨0, 0, []⟩) e1' (by rw [List.map_append, List.map_take, List.map_drop, e2']) q)
          · rw [if_neg hil] at hix
            rw [hix]
            rw [List.getElem?_eq_none (by omega)] at hA
            dsimp only at hA
            injection hA with hA1 hA2
            subst hA1 hA2
            refine W.condT rfl (W.seq (W.region ?_))
            refine WL.ldAF (T := Ty) (j := 0) rfl rfl rfl rfl rfl rfl (by repeat' constructor) ?_
            refine WL.bdC (T := Ty) rfl rfl rfl rfl (by repeat' first | exact CO.nil | apply CO.one (by first | rfl | exact SL.one (by assumption)) | apply CO.agg) rfl (by repeat' constructor) ?_
            refine WL.stAO (T := Ty) (j := 2) rfl rfl rfl rfl (by repeat' first | exact AO.nil | apply AO.cons (by first | rfl | exact SL.one (by assumption))) rfl rfl (by repeat' constructor) (by repeat' constructor) ?_
            refine WL.stAO (T := Ty) (j := 1) rfl rfl rfl rfl (by repeat' first | exact AO.nil | apply AO.cons (by first | rfl | exact SL.one (by assumption))) rfl rfl (by repeat' constructor) (by repeat' constructor) ?_
            refine WL.nil (W.nb (sz := 2) ?_)
            refine W.fit (Hs' := [box b2 _ _, box b3 _ _, Buf 2 nilV [], Buf 5 sv4 (L'.flatMap serC), Buf 2 iv4 (K'.flatMap itrC), Own owSer L', Own owItr K']) (by (repeat' first | exact Sel.nil | apply Sel.k | exact Pick.h | apply Pick.t)) ?_
            exact W.retCC (T := Ty) (j := 0) (j' := 0) rfl rfl rfl rfl rfl rfl rfl rfl rfl rfl rfl (fun h q => dor_of (M := m) (R := ⟨3, 0, []⟩) e1' e2' q)
        · have hb : badOp o = true := by unfold badOp; rw [if_neg hk]; exact decide_eq_true ⟨h6, h7⟩
          rw [show doM m o = (m, ⟨4, 0, []⟩) by unfold doM; rw [if_pos hb]]
          refine W.seq (W.seq (W.region (WL.faN (T := Ty) (off' := 0) rfl rfl rfl rfl rfl rfl rfl (WL.ldN (T := Ty) (j := 1) rfl rfl rfl rfl rfl rfl (WL.nil (W.block (W.seq (W.seq (W.region (WL.eql rfl rfl rfl (WL.as rfl rfl (WL.nil (W.condpF rfl (by omega) ?_)))))))))))))
          refine W.seq (W.region (WL.eql rfl rfl rfl (WL.as rfl rfl (WL.nil (W.condpF rfl (by omega) (W.seq (W.region (WL.eql rfl rfl rfl (WL.as rfl rfl (WL.nil (W.condpF rfl (by omega) (W.seq (W.region ?_)))))))))))))
          refine WL.eql rfl rfl rfl (WL.as rfl rfl (WL.nil (W.condpF rfl (by omega) (W.region (WL.eql rfl rfl rfl (WL.as rfl rfl (WL.nil (W.condpF rfl (by omega) (W.seq (W.seq (W.region (WL.eql rfl rfl rfl (WL.as rfl rfl ?_)))))))))))))
          refine WL.nil (W.condpF rfl (by omega) (W.region (WL.eql rfl rfl rfl (WL.as rfl rfl (WL.nil (W.condpF rfl (by omega) (W.seq (W.region ?_))))))))
          refine WL.ldAF (T := Ty) (j := 0) rfl rfl rfl rfl rfl rfl (by repeat' constructor) ?_
          refine WL.bdC (T := Ty) rfl rfl rfl rfl (by repeat' first | exact CO.nil | apply CO.one (by first | rfl | exact SL.one (by assumption)) | apply CO.agg) rfl (by repeat' constructor) ?_
          refine WL.stAO (T := Ty) (j := 2) rfl rfl rfl rfl (by repeat' first | exact AO.nil | apply AO.cons (by first | rfl | exact SL.one (by assumption))) rfl rfl (by repeat' constructor) (by repeat' constructor) ?_
          refine WL.stAO (T := Ty) (j := 3) rfl rfl rfl rfl (by repeat' first | exact AO.nil | apply AO.cons (by first | rfl | exact SL.one (by assumption))) rfl rfl (by repeat' constructor) (by repeat' constructor) ?_
          refine WL.nil (W.nb (sz := 2) ?_)
          refine W.fit (Hs' := [box b2 _ _, box b3 _ _, OMdl _ m, Buf 2 nilV []]) (by (repeat' first | exact Sel.nil | apply Sel.k | exact Pick.h | apply Pick.t)) ?_
          exact W.retCC (T := Ty) (j := 0) (j' := 0) rfl rfl rfl rfl rfl rfl rfl rfl rfl rfl rfl (fun h q => dor_err q)
  · by_cases g1 : 0 ≤ o.series
    · by_cases g2 : o.series ≤ 15
      · refine W.region ?_
        refine WL.faN (T := Ty) (off' := 1) rfl rfl rfl rfl rfl rfl rfl (WL.ldN (T := Ty) (j := 3) rfl rfl rfl rfl rfl rfl (WL.geq rfl rfl rfl (WL.mv rfl rfl (WL.gT rfl rfl (by omega) (WL.faN (T := Ty) (off' := 1) rfl rfl rfl rfl rfl rfl rfl (WL.gT rfl rfl (by omega) (WL.ldN (T := Ty) (j := 3) rfl rfl rfl rfl rfl rfl (WL.gT rfl rfl (by omega) (WL.leq rfl rfl rfl (WL.pickTp rfl rfl (by omega) rfl (WL.as rfl rfl (WL.nil ?_))))))))))))
        refine W.fit (by (repeat' first | exact Sel.nil | apply Sel.k | exact Pick.h | apply Pick.t)) (W.sub ?_ (cut (decide (o.series ≤ 15)) (decide_eq_decide.2 ⟨fun h => ⟨g1, h⟩, fun h => h.2⟩)))
        exact ⟨rfl, rfl, rfl, rfl, rfl, rfl, trivial⟩
      · refine W.region ?_
        refine WL.faN (T := Ty) (off' := 1) rfl rfl rfl rfl rfl rfl rfl (WL.ldN (T := Ty) (j := 3) rfl rfl rfl rfl rfl rfl (WL.geq rfl rfl rfl (WL.mv rfl rfl (WL.gT rfl rfl (by omega) (WL.faN (T := Ty) (off' := 1) rfl rfl rfl rfl rfl rfl rfl (WL.gT rfl rfl (by omega) (WL.ldN (T := Ty) (j := 3) rfl rfl rfl rfl rfl rfl (WL.gT rfl rfl (by omega) (WL.leq rfl rfl rfl (WL.pickTp rfl rfl (by omega) rfl (WL.as rfl rfl (WL.nil ?_))))))))))))
        refine W.fit (by (repeat' first | exact Sel.nil | apply Sel.k | exact Pick.h | apply Pick.t)) (W.sub ?_ (cut (decide (o.series ≤ 15)) (decide_eq_decide.2 ⟨fun h => ⟨g1, h⟩, fun h => h.2⟩)))
        exact ⟨rfl, rfl, rfl, rfl, rfl, rfl, trivial⟩
    · refine W.region ?_
      refine WL.faN (T := Ty) (off' := 1) rfl rfl rfl rfl rfl rfl rfl (WL.ldN (T := Ty) (j := 3) rfl rfl rfl rfl rfl rfl (WL.geq rfl rfl rfl (WL.mv rfl rfl (WL.gdTn rfl rfl rfl rfl rfl (by omega) (WL.gdTn rfl rfl rfl rfl rfl (by omega) (WL.gdTn rfl rfl rfl rfl rfl (by omega) (WL.pickFp rfl rfl (by omega) rfl (WL.as rfl rfl (WL.nil ?_)))))))))
      refine W.fit (by (repeat' first | exact Sel.nil | apply Sel.k | exact Pick.h | apply Pick.t)) (W.sub ?_ (cut _ (by rw [decide_eq_false (fun h => g1 h.1)])))
      exact ⟨rfl, rfl, rfl, rfl, rfl, rfl, trivial⟩
end Go.Proofs.Ytbebhmdjnneimaa
