/- modl.Do: one op. -/
import Derived.Test.YtbebhmdjnneimaaStc
import Derived.Test.YtbebhmdjnneimaaNum
import Derived.Test.YtbebhmdjnneimaaTab
import Derived.Test.YtbebhmdjnneimaaModl5
set_option linter.unusedSimpArgs false
set_option linter.unusedVariables false
set_option maxRecDepth 20000
set_option maxHeartbeats 4000000
namespace Go.Proofs.Ytbebhmdjnneimaa
open Go
attribute [local irreducible] W WL Fn Buf ROs SL eptr box Rd Src bndOK WD RB Reads In Own UseX
theorem doM_iter {m : Mdl} {o : MOp} (hb : badOp o = false) (hk : o.kind = 6 ∨ o.kind = 7) : doM m o = doI m o := by
 unfold doM
 rw [if_neg (by rw [hb]; decide), if_pos hk]
theorem doM_ser {m : Mdl} {o : MOp} (hb : badOp o = false) (hk : ¬ (o.kind = 6 ∨ o.kind = 7)) : doM m o = doSA m o := by
 unfold doM doSA
 rw [if_neg (by rw [hb]; decide), if_neg hk]
theorem badOp_kind {o : MOp} (hb : badOp o = false) (hk : ¬ (o.kind = 6 ∨ o.kind = 7)) : 1 ≤ o.kind ∧ o.kind ≤ 5 := by
 unfold badOp at hb
 split at hb
 ·assumption
 ·simp at hb; omega
theorem doM_err {m : Mdl} {o : MOp} (h : (doM m o).2.err ≠ 0) : (doM m o).1 = m := by
 unfold doM at h ⊢
 split
 ·rfl
 ·rename_i hb
  rw [if_neg hb] at h
  split
  ·rename_i hk
   rw [if_pos hk] at h
   unfold doI at h ⊢
   split
   ·rfl
   ·rename_i x hx
    simp only [hx] at h
    split
    ·rename_i h7; rw [if_pos h7] at h; exact absurd rfl h
    ·rename_i h7; rw [if_neg h7] at h; exact absurd rfl h
  ·rename_i hk
   rw [if_neg hk] at h
   split
   ·rename_i h1
    rw [if_pos h1] at h
    unfold doA at h ⊢
    split
    ·rename_i hs; simp only [hs] at h; exact absurd rfl h
    ·rename_i s hs
     simp only [hs] at h
     split
     ·rfl
     ·rename_i hsh
      rw [if_neg hsh] at h
      split
      ·rfl
      ·rename_i hle; rw [if_neg hle] at h; exact absurd rfl h
   ·rename_i h1
    rw [if_neg h1] at h
    unfold doS at h ⊢
    split
    ·rfl
    ·rename_i s hs
     simp only [hs] at h
     split
     ·rfl
     ·rename_i h2
      rw [if_neg h2] at h
      split
      ·split
       ·rfl
       ·rename_i h3 h4; rw [if_pos h3, if_neg h4] at h; exact absurd rfl h
      ·rename_i h3
       rw [if_neg h3] at h
       split
       ·rename_i h4; rw [if_pos h4] at h; exact absurd rfl h
       ·rename_i h4
        rw [if_neg h4] at h
        split
        ·rfl
        ·rename_i h5; rw [if_neg h5] at h; exact absurd rfl h
/-- what Do answers -/
def DoR (M : Mdl) (R : Rst) : Value → HP := fun r h => ∃ v u, r = .tuple #[v, u] ∧ sepl [OMdl v M, ORst u R] h
theorem DoR.open {M : Mdl} {R : Rst} {r : Value} {h : Hp} (q : DoR M R r h) : ∃ x : Value × Value × Value, (r = .tuple #[.agg #[x.1, x.2.1, .int .i64 M.next], .agg #[.int .i64 R.err, .int .i64 R.iter, x.2.2]] ∧ SL x.1 M.ser.length ∧ SL x.2.1 M.its.length ∧ SL x.2.2 R.list.length) ∧
  sepl [OMdl (.agg #[x.1, x.2.1, .int .i64 M.next]) M, ORst (.agg #[.int .i64 R.err, .int .i64 R.iter, x.2.2]) R] h := by
 obtain ⟨v, u, e, x, y, hx, hy, d, rfl⟩ := q
 obtain ⟨sv, iv, e1, s1, s2⟩ := OMdl.shape hx
 obtain ⟨lv, e2, s3⟩ := ORst.shape (sepl_one.1 hy)
 subst e1 e2
 exact ⟨(sv, iv, lv), ⟨e, s1, s2, s3⟩, x, y, hx, hy, d, rfl⟩
theorem do_c (ρ : Hp) (v : Value) (n : Nat) (m : Mdl) (o : MOp) (hm : RMdl ρ v m) (hI : MInv n m) (hn : n ≤ 1000000) :
  Fn Try.prog 15 #[v, .agg (opC o).toArray] ρ [] (DoR (doM m o).1 (doM m o).2) := by
 refine in15 rfl rfl ?_
 obtain ⟨sv, iv, L, K, rfl, e1, e2, r1, r2, r3, r4⟩ := hm
 have hm : RMdl ρ (.agg #[sv, iv, .int .i64 m.next]) m := ⟨sv, iv, L, K, rfl, e1, e2, r1, r2, r3, r4⟩
 unfold mdlV
 have q1 := hI.sers
 have q2 := hI.lens
 have q3 := hI.rests
 have q4 : m.its.length ≤ n + 8 := by have := hI.its; omega
 have z1 : m.ser.length ≤ n + 8 := by omega
 have z2 : ∀ s ∈ m.ser, s.list.length ≤ n + 8 := fun s hs => by have := q2 s hs; omega
 have z3 : ∀ x ∈ m.its, x.rest.length ≤ n + 8 := fun s hs => by have := q3 s hs; omega
 have z4 : n + 8 ≤ 100000000 := by omega
 have z5 : SL sv m.ser.length := r1.sl (by rw [ser_cells, ← e1, List.length_map]) (by omega)
 have z6 : SL iv m.its.length := r2.sl (by rw [itr_cells, ← e2, List.length_map]) (by omega)
 refine W.seq (W.region ?_)
 refine WL.bxF rfl rfl (by repeat' constructor) (fun b0 => ?_)
 refine WL.bxF rfl rfl (by repeat' constructor) (fun b1 => ?_)
 refine WL.alF (T := Ty) rfl rfl (by repeat' constructor) (fun b2 => ?_)
 refine WL.alF (T := Ty) rfl rfl (by repeat' constructor) (fun b3 => ?_)
 refine WL.nil (W.seq (W.seq (W.region ?_)))
 refine WL.ldAF (T := Ty) (j := 2) rfl rfl rfl rfl rfl rfl (by repeat' constructor) ?_
 refine WL.callV rfl rfl (fun x p d => bad_c _ _) ?_
 refine WL.nil ?_
 cases hb : badOp o with
 | true =>
  rw [show doM m o = (m, ⟨4, 0, []⟩) by unfold doM; rw [if_pos hb]]
  refine W.condT rfl (W.seq (W.region ?_))
  refine WL.ldAF (T := Ty) (j := 3) rfl rfl rfl rfl rfl rfl (by repeat' constructor) ?_
  refine WL.callF rfl rfl (fun x p d => still_c _ _ _ _ (by first | assumption | exact RMdl.wide (by assumption) | exact RMdl.mono (by assumption) (eqh_at 0 rfl p d) | exact (in_at 0 rfl p d).rmdl | exact (in_at 1 rfl p d).rmdl | exact (in_at 2 rfl p d).rmdl | exact (in_at 3 rfl p d).rmdl | exact (in_at 4 rfl p d).rmdl | exact (in_at 5 rfl p d).rmdl) (by assumption) (by assumption) (by assumption) (by assumption) (by assumption)) (fun u4 => ?_)
  refine WL.fact (i := 0) rfl (fun h hb => OMdl.shape hb) (fun hs4 => ?_)
  obtain ⟨sv4, iv4, es4, sa4, sb4⟩ := hs4
  subst es4
  refine WL.bdC (T := Ty) rfl rfl rfl rfl (by repeat' first | exact CO.nil | apply CO.one (by first | rfl | exact SL.one (by assumption)) | apply CO.agg) rfl (by repeat' constructor) ?_
  refine WL.stAO (T := Ty) (j := 2) rfl rfl rfl rfl (by repeat' first | exact AO.nil | apply AO.cons (by first | rfl | exact SL.one (by assumption))) rfl rfl (by repeat' constructor) (by repeat' constructor) ?_
  refine WL.stAO (T := Ty) (j := 1) rfl rfl rfl rfl (by repeat' first | exact AO.nil | apply AO.cons (by first | rfl | exact SL.one (by assumption))) rfl rfl (by repeat' constructor) (by repeat' constructor) ?_
  refine WL.nil (W.nb (sz := 2) ?_)
  refine W.fit (Hs' := [box b2 _ _, box b3 _ _, OMdl _ m, Buf 2 nilV []]) (by (repeat' first | exact Sel.nil | refine Sel.cons 0 rfl ?_ | refine Sel.cons 1 rfl ?_ | refine Sel.cons 2 rfl ?_ | refine Sel.cons 3 rfl ?_ | refine Sel.cons 4 rfl ?_ | refine Sel.cons 5 rfl ?_ | refine Sel.cons 6 rfl ?_ | refine Sel.cons 7 rfl ?_ | refine Sel.cons 8 rfl ?_)) ?_
  refine W.retCC (T := Ty) (j := 0) (j' := 0) rfl rfl rfl rfl rfl rfl rfl rfl rfl rfl rfl (fun h q => ⟨_, _, rfl, ?_⟩)
  obtain ⟨x, y, hx, hy, d, rfl⟩ := q
  exact ⟨x, y, hx, sepl_one.2 ⟨nilV, rfl, sepl_one.1 hy⟩, d, rfl⟩
 | false =>
  by_cases hk : o.kind = 6 ∨ o.kind = 7
  ·have hE := fun h => doM_err (m := m) (o := o) h
   rw [doM_iter hb hk] at hE ⊢
   rcases (by omega : o.kind = 6 ∨ o.kind = 7) with hk6 | hk7
   ·refine W.condF rfl ?_
    refine W.skip (W.seq (W.region ?_))
    refine WL.ldAF (T := Ty) (j := 3) rfl rfl rfl rfl rfl rfl (by repeat' constructor) ?_
    refine WL.callF rfl rfl (fun x p d => still_c _ _ _ _ (by first | assumption | exact RMdl.wide (by assumption) | exact RMdl.mono (by assumption) (eqh_at 0 rfl p d) | exact (in_at 0 rfl p d).rmdl | exact (in_at 1 rfl p d).rmdl | exact (in_at 2 rfl p d).rmdl | exact (in_at 3 rfl p d).rmdl | exact (in_at 4 rfl p d).rmdl | exact (in_at 5 rfl p d).rmdl) (by assumption) (by assumption) (by assumption) (by assumption) (by assumption)) (fun u4 => ?_)
    refine WL.fact (i := 0) rfl (fun h hb => OMdl.shape hb) (fun hs4 => ?_)
    obtain ⟨sv4, iv4, es4, sa4, sb4⟩ := hs4
    subst es4
    refine WL.alF (T := Ty) rfl rfl (by repeat' constructor) (fun b4 => ?_)
    refine WL.stAO (T := Ty) (j := 0) rfl rfl rfl rfl (by repeat' first | exact AO.nil | apply AO.cons (by first | rfl | exact SL.one (by assumption))) rfl rfl (by repeat' constructor) (by repeat' constructor) ?_
    refine WL.nil (W.seq (W.region ?_))
    refine WL.alF (T := Ty) rfl rfl (by repeat' constructor) (fun b5 => ?_)
    refine WL.nil (W.seq (W.seq (W.region (WL.faN (T := Ty) (off' := 0) rfl rfl rfl rfl rfl rfl rfl (WL.ldN (T := Ty) (j := 5) rfl rfl rfl rfl rfl rfl (WL.eql rfl rfl rfl (WL.mv rfl rfl (WL.gdFn rfl rfl rfl rfl rfl (by omega) (WL.gdFn rfl rfl rfl rfl rfl (by omega) (WL.gdFn rfl rfl rfl rfl rfl (by omega) (WL.pickTp rfl rfl (by omega) rfl (WL.nil (W.condT rfl ?_)))))))))))))
    refine W.region ?_
    refine WL.ldAF (T := Ty) (j := 5) rfl rfl rfl rfl rfl rfl (by repeat' constructor) ?_
    refine WL.group (p := PMdl b4 31 m) (Take.cons 1 rfl (Take.cons 1 rfl Take.nil)) (fun h q => omdl_pm q) (by repeat' constructor) ?_
    refine WL.callP 0 rfl rfl rfl (fun x p d => iters_c _ _ _ _ _ (by assumption) (by assumption) (by assumption)) (by repeat' constructor) (fun u6 => ?_)
    refine WL.parts (ps := [_, _]) 0 rfl (fun h q => q) (by repeat' constructor) ?_
    refine WL.fact (i := 1) rfl (fun h hb => ORst.shape hb) (fun hs6 => ?_)
    obtain ⟨lv6, es6, sl6⟩ := hs6
    subst es6
    refine WL.stAO (T := Ty) (j := 2) rfl rfl rfl rfl (by repeat' first | exact AO.nil | apply AO.cons (by first | rfl | exact SL.one (by assumption))) rfl rfl (by repeat' constructor) (by repeat' constructor) ?_
    refine WL.nil (W.seq (W.seq (W.region (WL.faN (T := Ty) (off' := 0) rfl rfl rfl rfl rfl rfl rfl (WL.ldN (T := Ty) (j := 2) rfl rfl rfl rfl rfl rfl (WL.neq rfl rfl rfl (WL.nil ?_)))))))
    refine W.condp rfl (fun he => ?_) (fun he => ?_)
    ·rw [hE he]
     refine W.seq ?_
     refine W.drawP 4 [false, false, false, false, true, false, false] rfl (by repeat' constructor) (by repeat' constructor) (fun σ0 hσ0 dσ0 => ?_)
     have fσ0_0 := in_at 0 rfl hσ0 dσ0
     have fσ0_1 := in_at 1 rfl hσ0 dσ0
     have fσ0_2 := rb_at 2 rfl hσ0 dσ0
     have fσ0_3 := rb_at 3 rfl hσ0 dσ0
     have fσ0_4 := rb_at 4 rfl hσ0 dσ0
     have fσ0_5 := rb_at 5 rfl hσ0 dσ0
     refine WD.takeL 0 rfl (by decide +kernel) ?_
     refine WL.ldABF (T := Ty) rfl rfl rfl rfl (by first | assumption | exact RB.wide (by assumption) | exact In.rb (by assumption)) rfl (by repeat' constructor) ?_
     refine WL.nilT (WD.takeL 2 rfl (by decide +kernel) ?_)
     refine WL.ldABF (T := Ty) rfl rfl rfl rfl (by first | assumption | exact RB.wide (by assumption) | exact In.rb (by assumption)) rfl (by repeat' constructor) ?_
     refine WL.nilT (WD.oneL 1 rfl (by decide +kernel) ?_)
     refine WL.callF rfl rfl (fun x p d => still_c _ _ _ _ (by first | assumption | exact RMdl.wide (by assumption) | exact RMdl.mono (by assumption) (eqh_at 0 rfl p d) | exact (in_at 0 rfl p d).rmdl | exact (in_at 1 rfl p d).rmdl | exact (in_at 2 rfl p d).rmdl | exact (in_at 3 rfl p d).rmdl | exact (in_at 4 rfl p d).rmdl | exact (in_at 5 rfl p d).rmdl) (by assumption) (by assumption) (by assumption) (by assumption) (by assumption)) (fun u6 => ?_)
     refine WL.fact (i := 0) rfl (fun h hb => OMdl.shape hb) (fun hs6 => ?_)
     obtain ⟨sv6, iv6, es6, sa6, sb6⟩ := hs6
     subst es6
     refine WL.nilH hσ0 (fun σ1 hσ1 dσ1 mσ1 => ?_)
     have fσ0_0 := fσ0_0.mono mσ1
     have fσ0_1 := fσ0_1.mono mσ1
     have fσ0_2 := fσ0_2.mono mσ1
     have fσ0_3 := fσ0_3.mono mσ1
     have fσ0_4 := fσ0_4.mono mσ1
     have fσ0_5 := fσ0_5.mono mσ1
     have fσ1_0 := in_at 0 rfl hσ1 dσ1
     refine WD.oneL 3 rfl (by decide +kernel) ?_
     refine WL.stAO (T := Ty) (j := 1) rfl rfl rfl rfl (by repeat' first | exact AO.nil | apply AO.cons (by first | rfl | exact SL.one (by assumption))) rfl rfl (by repeat' constructor) (by repeat' constructor) ?_
     refine WL.nilE ?_
     refine WD.lastG hσ1 (by decide +kernel) (by repeat' constructor) rfl (by repeat' constructor) ?_
     refine WL.stAO (T := Ty) (j := 4) rfl rfl rfl rfl (by repeat' first | exact AO.nil | apply AO.cons (by first | rfl | exact SL.one (by assumption))) rfl rfl (by repeat' constructor) (by repeat' constructor) ?_
     refine WL.nil ?_
     refine W.fit (Hs' := [box b2 _ _, box b3 _ _, OMdl _ _, ORst _ _]) (by (repeat' first | exact Sel.nil | refine Sel.cons 0 rfl ?_ | refine Sel.cons 1 rfl ?_ | refine Sel.cons 2 rfl ?_ | refine Sel.cons 3 rfl ?_ | refine Sel.cons 4 rfl ?_ | refine Sel.cons 5 rfl ?_ | refine Sel.cons 6 rfl ?_ | refine Sel.cons 7 rfl ?_ | refine Sel.cons 8 rfl ?_)) ?_
     exact W.retCC (T := Ty) (j := 0) (j' := 0) rfl rfl rfl rfl rfl rfl rfl rfl rfl rfl rfl (fun h q => ⟨_, _, rfl, q⟩)
    ·refine W.skip ?_
     refine W.opens (α := Value × Value) (φ := fun x => SL x.1 (doI m o).1.ser.length ∧ SL x.2 (doI m o).1.its.length) (ps := fun x => [box b4 [x.1, x.2, .int .i64 (doI m o).1.next] 31, OMdl (.agg #[x.1, x.2, .int .i64 (doI m o).1.next]) (doI m o).1]) 0 rfl (fun h q => by obtain ⟨sv', iv', g1, g2, g3⟩ := pm_omdl q; exact ⟨(sv', iv'), ⟨g1, g2⟩, g3⟩) (by repeat' constructor) ?_
     rintro ⟨sv', iv'⟩ ⟨g1, g2⟩
     simp only [List.cons_append, List.nil_append] at g1 g2 ⊢
     refine W.seq ?_
     refine W.drawP 3 [false, false, false, false, false, true, false, false] rfl (by repeat' constructor) (by repeat' constructor) (fun σ0 hσ0 dσ0 => ?_)
     have fσ0_0 := rb_at 0 rfl hσ0 dσ0
     have fσ0_1 := in_at 1 rfl hσ0 dσ0
     have fσ0_2 := in_at 2 rfl hσ0 dσ0
     have fσ0_3 := rb_at 3 rfl hσ0 dσ0
     have fσ0_4 := rb_at 4 rfl hσ0 dσ0
     have fσ0_5 := rb_at 5 rfl hσ0 dσ0
     have fσ0_6 := rb_at 6 rfl hσ0 dσ0
     refine WD.takeL 0 rfl (by decide +kernel) ?_
     refine WL.ldABF (T := Ty) rfl rfl rfl rfl (by first | assumption | exact RB.wide (by assumption) | exact In.rb (by assumption)) rfl (by repeat' constructor) ?_
     refine WL.nilT (WD.takeL 1 rfl (by decide +kernel) ?_)
     refine WL.ldABF (T := Ty) rfl rfl rfl rfl (by first | assumption | exact RB.wide (by assumption) | exact In.rb (by assumption)) rfl (by repeat' constructor) ?_
     refine WL.nilT (WD.oneL 2 rfl (by decide +kernel) ?_)
     refine WL.stAO (T := Ty) (j := 1) rfl rfl rfl rfl (by repeat' first | exact AO.nil | apply AO.cons (by first | rfl | exact SL.one (by assumption))) rfl rfl (by repeat' constructor) (by repeat' constructor) ?_
     refine WL.nilE ?_
     refine WD.lastG hσ0 (by decide +kernel) (by repeat' constructor) rfl (by repeat' constructor) ?_
     refine WL.stAO (T := Ty) (j := 4) rfl rfl rfl rfl (by repeat' first | exact AO.nil | apply AO.cons (by first | rfl | exact SL.one (by assumption))) rfl rfl (by repeat' constructor) (by repeat' constructor) ?_
     refine WL.nil ?_
     refine W.fit (Hs' := [box b2 _ _, box b3 _ _, OMdl _ _, ORst _ _]) (by (repeat' first | exact Sel.nil | refine Sel.cons 0 rfl ?_ | refine Sel.cons 1 rfl ?_ | refine Sel.cons 2 rfl ?_ | refine Sel.cons 3 rfl ?_ | refine Sel.cons 4 rfl ?_ | refine Sel.cons 5 rfl ?_ | refine Sel.cons 6 rfl ?_ | refine Sel.cons 7 rfl ?_ | refine Sel.cons 8 rfl ?_)) ?_
     exact W.retCC (T := Ty) (j := 0) (j' := 0) rfl rfl rfl rfl rfl rfl rfl rfl rfl rfl rfl (fun h q => ⟨_, _, rfl, q⟩)
   ·refine W.condF rfl ?_
    refine W.skip (W.seq (W.region ?_))
    refine WL.ldAF (T := Ty) (j := 3) rfl rfl rfl rfl rfl rfl (by repeat' constructor) ?_
    refine WL.callF rfl rfl (fun x p d => still_c _ _ _ _ (by first | assumption | exact RMdl.wide (by assumption) | exact RMdl.mono (by assumption) (eqh_at 0 rfl p d) | exact (in_at 0 rfl p d).rmdl | exact (in_at 1 rfl p d).rmdl | exact (in_at 2 rfl p d).rmdl | exact (in_at 3 rfl p d).rmdl | exact (in_at 4 rfl p d).rmdl | exact (in_at 5 rfl p d).rmdl) (by assumption) (by assumption) (by assumption) (by assumption) (by assumption)) (fun u4 => ?_)
    refine WL.fact (i := 0) rfl (fun h hb => OMdl.shape hb) (fun hs4 => ?_)
    obtain ⟨sv4, iv4, es4, sa4, sb4⟩ := hs4
    subst es4
    refine WL.alF (T := Ty) rfl rfl (by repeat' constructor) (fun b4 => ?_)
    refine WL.stAO (T := Ty) (j := 0) rfl rfl rfl rfl (by repeat' first | exact AO.nil | apply AO.cons (by first | rfl | exact SL.one (by assumption))) rfl rfl (by repeat' constructor) (by repeat' constructor) ?_
    refine WL.nil (W.seq (W.region ?_))
    refine WL.alF (T := Ty) rfl rfl (by repeat' constructor) (fun b5 => ?_)
    refine WL.nil (W.seq (W.seq (W.region (WL.faN (T := Ty) (off' := 0) rfl rfl rfl rfl rfl rfl rfl (WL.ldN (T := Ty) (j := 5) rfl rfl rfl rfl rfl rfl (WL.eql rfl rfl rfl (WL.mv rfl rfl (WL.gF rfl rfl (by omega) (WL.faN (T := Ty) (off' := 0) rfl rfl rfl rfl rfl rfl rfl (WL.gF rfl rfl (by omega) (WL.ldN (T := Ty) (j := 5) rfl rfl rfl rfl rfl rfl (WL.gF rfl rfl (by omega) (WL.eql rfl rfl rfl ?_)))))))))))))
    refine WL.pickFp rfl rfl (by omega) rfl (WL.nil (W.condpT rfl (by omega) (W.region ?_)))
    refine WL.ldAF (T := Ty) (j := 5) rfl rfl rfl rfl rfl rfl (by repeat' constructor) ?_
    refine WL.group (p := PMdl b4 31 m) (Take.cons 1 rfl (Take.cons 1 rfl Take.nil)) (fun h q => omdl_pm q) (by repeat' constructor) ?_
    refine WL.callP 0 rfl rfl rfl (fun x p d => iters_c _ _ _ _ _ (by assumption) (by assumption) (by assumption)) (by repeat' constructor) (fun u6 => ?_)
    refine WL.parts (ps := [_, _]) 0 rfl (fun h q => q) (by repeat' constructor) ?_
    refine WL.fact (i := 1) rfl (fun h hb => ORst.shape hb) (fun hs6 => ?_)
    obtain ⟨lv6, es6, sl6⟩ := hs6
    subst es6
    refine WL.stAO (T := Ty) (j := 2) rfl rfl rfl rfl (by repeat' first | exact AO.nil | apply AO.cons (by first | rfl | exact SL.one (by assumption))) rfl rfl (by repeat' constructor) (by repeat' constructor) ?_
    refine WL.nil (W.seq (W.seq (W.region (WL.faN (T := Ty) (off' := 0) rfl rfl rfl rfl rfl rfl rfl (WL.ldN (T := Ty) (j := 2) rfl rfl rfl rfl rfl rfl (WL.neq rfl rfl rfl (WL.nil ?_)))))))
    refine W.condp rfl (fun he => ?_) (fun he => ?_)
    ·rw [hE he]
     refine W.seq ?_
     refine W.drawP 4 [false, false, false, false, true, false, false] rfl (by repeat' constructor) (by repeat' constructor) (fun σ0 hσ0 dσ0 => ?_)
     have fσ0_0 := in_at 0 rfl hσ0 dσ0
     have fσ0_1 := in_at 1 rfl hσ0 dσ0
     have fσ0_2 := rb_at 2 rfl hσ0 dσ0
     have fσ0_3 := rb_at 3 rfl hσ0 dσ0
     have fσ0_4 := rb_at 4 rfl hσ0 dσ0
     have fσ0_5 := rb_at 5 rfl hσ0 dσ0
     refine WD.takeL 0 rfl (by decide +kernel) ?_
     refine WL.ldABF (T := Ty) rfl rfl rfl rfl (by first | assumption | exact RB.wide (by assumption) | exact In.rb (by assumption)) rfl (by repeat' constructor) ?_
     refine WL.nilT (WD.takeL 2 rfl (by decide +kernel) ?_)
     refine WL.ldABF (T := Ty) rfl rfl rfl rfl (by first | assumption | exact RB.wide (by assumption) | exact In.rb (by assumption)) rfl (by repeat' constructor) ?_
     refine WL.nilT (WD.oneL 1 rfl (by decide +kernel) ?_)
     refine WL.callF rfl rfl (fun x p d => still_c _ _ _ _ (by first | assumption | exact RMdl.wide (by assumption) | exact RMdl.mono (by assumption) (eqh_at 0 rfl p d) | exact (in_at 0 rfl p d).rmdl | exact (in_at 1 rfl p d).rmdl | exact (in_at 2 rfl p d).rmdl | exact (in_at 3 rfl p d).rmdl | exact (in_at 4 rfl p d).rmdl | exact (in_at 5 rfl p d).rmdl) (by assumption) (by assumption) (by assumption) (by assumption) (by assumption)) (fun u6 => ?_)
     refine WL.fact (i := 0) rfl (fun h hb => OMdl.shape hb) (fun hs6 => ?_)
     obtain ⟨sv6, iv6, es6, sa6, sb6⟩ := hs6
     subst es6
     refine WL.nilH hσ0 (fun σ1 hσ1 dσ1 mσ1 => ?_)
     have fσ0_0 := fσ0_0.mono mσ1
     have fσ0_1 := fσ0_1.mono mσ1
     have fσ0_2 := fσ0_2.mono mσ1
     have fσ0_3 := fσ0_3.mono mσ1
     have fσ0_4 := fσ0_4.mono mσ1
     have fσ0_5 := fσ0_5.mono mσ1
     have fσ1_0 := in_at 0 rfl hσ1 dσ1
     refine WD.oneL 3 rfl (by decide +kernel) ?_
     refine WL.stAO (T := Ty) (j := 1) rfl rfl rfl rfl (by repeat' first | exact AO.nil | apply AO.cons (by first | rfl | exact SL.one (by assumption))) rfl rfl (by repeat' constructor) (by repeat' constructor) ?_
     refine WL.nilE ?_
     refine WD.lastG hσ1 (by decide +kernel) (by repeat' constructor) rfl (by repeat' constructor) ?_
     refine WL.stAO (T := Ty) (j := 4) rfl rfl rfl rfl (by repeat' first | exact AO.nil | apply AO.cons (by first | rfl | exact SL.one (by assumption))) rfl rfl (by repeat' constructor) (by repeat' constructor) ?_
     refine WL.nil ?_
     refine W.fit (Hs' := [box b2 _ _, box b3 _ _, OMdl _ _, ORst _ _]) (by (repeat' first | exact Sel.nil | refine Sel.cons 0 rfl ?_ | refine Sel.cons 1 rfl ?_ | refine Sel.cons 2 rfl ?_ | refine Sel.cons 3 rfl ?_ | refine Sel.cons 4 rfl ?_ | refine Sel.cons 5 rfl ?_ | refine Sel.cons 6 rfl ?_ | refine Sel.cons 7 rfl ?_ | refine Sel.cons 8 rfl ?_)) ?_
     exact W.retCC (T := Ty) (j := 0) (j' := 0) rfl rfl rfl rfl rfl rfl rfl rfl rfl rfl rfl (fun h q => ⟨_, _, rfl, q⟩)
    ·refine W.skip ?_
     refine W.opens (α := Value × Value) (φ := fun x => SL x.1 (doI m o).1.ser.length ∧ SL x.2 (doI m o).1.its.length) (ps := fun x => [box b4 [x.1, x.2, .int .i64 (doI m o).1.next] 31, OMdl (.agg #[x.1, x.2, .int .i64 (doI m o).1.next]) (doI m o).1]) 0 rfl (fun h q => by obtain ⟨sv', iv', g1, g2, g3⟩ := pm_omdl q; exact ⟨(sv', iv'), ⟨g1, g2⟩, g3⟩) (by repeat' constructor) ?_
     rintro ⟨sv', iv'⟩ ⟨g1, g2⟩
     simp only [List.cons_append, List.nil_append] at g1 g2 ⊢
     refine W.seq ?_
     refine W.drawP 3 [false, false, false, false, false, true, false, false] rfl (by repeat' constructor) (by repeat' constructor) (fun σ0 hσ0 dσ0 => ?_)
     have fσ0_0 := rb_at 0 rfl hσ0 dσ0
     have fσ0_1 := in_at 1 rfl hσ0 dσ0
     have fσ0_2 := in_at 2 rfl hσ0 dσ0
     have fσ0_3 := rb_at 3 rfl hσ0 dσ0
     have fσ0_4 := rb_at 4 rfl hσ0 dσ0
     have fσ0_5 := rb_at 5 rfl hσ0 dσ0
     have fσ0_6 := rb_at 6 rfl hσ0 dσ0
     refine WD.takeL 0 rfl (by decide +kernel) ?_
     refine WL.ldABF (T := Ty) rfl rfl rfl rfl (by first | assumption | exact RB.wide (by assumption) | exact In.rb (by assumption)) rfl (by repeat' constructor) ?_
     refine WL.nilT (WD.takeL 1 rfl (by decide +kernel) ?_)
     refine WL.ldABF (T := Ty) rfl rfl rfl rfl (by first | assumption | exact RB.wide (by assumption) | exact In.rb (by assumption)) rfl (by repeat' constructor) ?_
     refine WL.nilT (WD.oneL 2 rfl (by decide +kernel) ?_)
     refine WL.stAO (T := Ty) (j := 1) rfl rfl rfl rfl (by repeat' first | exact AO.nil | apply AO.cons (by first | rfl | exact SL.one (by assumption))) rfl rfl (by repeat' constructor) (by repeat' constructor) ?_
     refine WL.nilE ?_
     refine WD.lastG hσ0 (by decide +kernel) (by repeat' constructor) rfl (by repeat' constructor) ?_
     refine WL.stAO (T := Ty) (j := 4) rfl rfl rfl rfl (by repeat' first | exact AO.nil | apply AO.cons (by first | rfl | exact SL.one (by assumption))) rfl rfl (by repeat' constructor) (by repeat' constructor) ?_
     refine WL.nil ?_
     refine W.fit (Hs' := [box b2 _ _, box b3 _ _, OMdl _ _, ORst _ _]) (by (repeat' first | exact Sel.nil | refine Sel.cons 0 rfl ?_ | refine Sel.cons 1 rfl ?_ | refine Sel.cons 2 rfl ?_ | refine Sel.cons 3 rfl ?_ | refine Sel.cons 4 rfl ?_ | refine Sel.cons 5 rfl ?_ | refine Sel.cons 6 rfl ?_ | refine Sel.cons 7 rfl ?_ | refine Sel.cons 8 rfl ?_)) ?_
     exact W.retCC (T := Ty) (j := 0) (j' := 0) rfl rfl rfl rfl rfl rfl rfl rfl rfl rfl rfl (fun h q => ⟨_, _, rfl, q⟩)
  ·have hE := fun h => doM_err (m := m) (o := o) h
   rw [doM_ser hb hk] at hE ⊢
   have hk1 := badOp_kind hb hk
   refine W.condF rfl (W.skip (W.seq (W.region ?_)))
   refine WL.ldAF (T := Ty) (j := 3) rfl rfl rfl rfl rfl rfl (by repeat' constructor) ?_
   refine WL.callF rfl rfl (fun x p d => still_c _ _ _ _ (by first | assumption | exact RMdl.wide (by assumption) | exact RMdl.mono (by assumption) (eqh_at 0 rfl p d) | exact (in_at 0 rfl p d).rmdl | exact (in_at 1 rfl p d).rmdl | exact (in_at 2 rfl p d).rmdl | exact (in_at 3 rfl p d).rmdl | exact (in_at 4 rfl p d).rmdl | exact (in_at 5 rfl p d).rmdl) (by assumption) (by assumption) (by assumption) (by assumption) (by assumption)) (fun u4 => ?_)
   refine WL.fact (i := 0) rfl (fun h hb => OMdl.shape hb) (fun hs4 => ?_)
   obtain ⟨sv4, iv4, es4, sa4, sb4⟩ := hs4
   subst es4
   refine WL.alF (T := Ty) rfl rfl (by repeat' constructor) (fun b4 => ?_)
   refine WL.stAO (T := Ty) (j := 0) rfl rfl rfl rfl (by repeat' first | exact AO.nil | apply AO.cons (by first | rfl | exact SL.one (by assumption))) rfl rfl (by repeat' constructor) (by repeat' constructor) ?_
   refine WL.nil (W.seq (W.region ?_))
   refine WL.alF (T := Ty) rfl rfl (by repeat' constructor) (fun b5 => ?_)
   refine WL.nil (W.seq (W.seq (W.region (WL.faN (T := Ty) (off' := 0) rfl rfl rfl rfl rfl rfl rfl (WL.ldN (T := Ty) (j := 5) rfl rfl rfl rfl rfl rfl (WL.eql rfl rfl rfl (WL.mv rfl rfl (WL.gF rfl rfl (by omega) (WL.faN (T := Ty) (off' := 0) rfl rfl rfl rfl rfl rfl rfl (WL.gF rfl rfl (by omega) (WL.ldN (T := Ty) (j := 5) rfl rfl rfl rfl rfl rfl (WL.gF rfl rfl (by omega) (WL.eql rfl rfl rfl ?_)))))))))))))
   refine WL.pickFp rfl rfl (by omega) rfl (WL.nil (W.condpF rfl (by omega) (W.region ?_)))
   refine WL.ldAF (T := Ty) (j := 5) rfl rfl rfl rfl rfl rfl (by repeat' constructor) ?_
   refine WL.group (p := PMdl b4 31 m) (Take.cons 1 rfl (Take.cons 1 rfl Take.nil)) (fun h q => omdl_pm q) (by repeat' constructor) ?_
   refine WL.callP 0 rfl rfl rfl (fun x p d => series_c _ _ _ _ _ (by assumption) (by assumption) (by assumption)) (by repeat' constructor) (fun u6 => ?_)
   refine WL.parts (ps := [_, _]) 0 rfl (fun h q => q) (by repeat' constructor) ?_
   refine WL.fact (i := 1) rfl (fun h hb => ORst.shape hb) (fun hs6 => ?_)
   obtain ⟨lv6, es6, sl6⟩ := hs6
   subst es6
   refine WL.stAO (T := Ty) (j := 2) rfl rfl rfl rfl (by repeat' first | exact AO.nil | apply AO.cons (by first | rfl | exact SL.one (by assumption))) rfl rfl (by repeat' constructor) (by repeat' constructor) ?_
   refine WL.nil (W.seq (W.seq (W.region (WL.faN (T := Ty) (off' := 0) rfl rfl rfl rfl rfl rfl rfl (WL.ldN (T := Ty) (j := 2) rfl rfl rfl rfl rfl rfl (WL.neq rfl rfl rfl (WL.nil ?_)))))))
   refine W.condp rfl (fun he => ?_) (fun he => ?_)
   ·rw [hE he]
    refine W.seq ?_
    refine W.drawP 4 [false, false, false, false, true, false, false] rfl (by repeat' constructor) (by repeat' constructor) (fun σ0 hσ0 dσ0 => ?_)
    have fσ0_0 := in_at 0 rfl hσ0 dσ0
    have fσ0_1 := in_at 1 rfl hσ0 dσ0
    have fσ0_2 := rb_at 2 rfl hσ0 dσ0
    have fσ0_3 := rb_at 3 rfl hσ0 dσ0
    have fσ0_4 := rb_at 4 rfl hσ0 dσ0
    have fσ0_5 := rb_at 5 rfl hσ0 dσ0
    refine WD.takeL 0 rfl (by decide +kernel) ?_
    refine WL.ldABF (T := Ty) rfl rfl rfl rfl (by first | assumption | exact RB.wide (by assumption) | exact In.rb (by assumption)) rfl (by repeat' constructor) ?_
    refine WL.nilT (WD.takeL 2 rfl (by decide +kernel) ?_)
    refine WL.ldABF (T := Ty) rfl rfl rfl rfl (by first | assumption | exact RB.wide (by assumption) | exact In.rb (by assumption)) rfl (by repeat' constructor) ?_
    refine WL.nilT (WD.oneL 1 rfl (by decide +kernel) ?_)
    refine WL.callF rfl rfl (fun x p d => still_c _ _ _ _ (by first | assumption | exact RMdl.wide (by assumption) | exact RMdl.mono (by assumption) (eqh_at 0 rfl p d) | exact (in_at 0 rfl p d).rmdl | exact (in_at 1 rfl p d).rmdl | exact (in_at 2 rfl p d).rmdl | exact (in_at 3 rfl p d).rmdl | exact (in_at 4 rfl p d).rmdl | exact (in_at 5 rfl p d).rmdl) (by assumption) (by assumption) (by assumption) (by assumption) (by assumption)) (fun u6 => ?_)
    refine WL.fact (i := 0) rfl (fun h hb => OMdl.shape hb) (fun hs6 => ?_)
    obtain ⟨sv6, iv6, es6, sa6, sb6⟩ := hs6
    subst es6
    refine WL.nilH hσ0 (fun σ1 hσ1 dσ1 mσ1 => ?_)
    have fσ0_0 := fσ0_0.mono mσ1
    have fσ0_1 := fσ0_1.mono mσ1
    have fσ0_2 := fσ0_2.mono mσ1
    have fσ0_3 := fσ0_3.mono mσ1
    have fσ0_4 := fσ0_4.mono mσ1
    have fσ0_5 := fσ0_5.mono mσ1
    have fσ1_0 := in_at 0 rfl hσ1 dσ1
    refine WD.oneL 3 rfl (by decide +kernel) ?_
    refine WL.stAO (T := Ty) (j := 1) rfl rfl rfl rfl (by repeat' first | exact AO.nil | apply AO.cons (by first | rfl | exact SL.one (by assumption))) rfl rfl (by repeat' constructor) (by repeat' constructor) ?_
    refine WL.nilE ?_
    refine WD.lastG hσ1 (by decide +kernel) (by repeat' constructor) rfl (by repeat' constructor) ?_
    refine WL.stAO (T := Ty) (j := 4) rfl rfl rfl rfl (by repeat' first | exact AO.nil | apply AO.cons (by first | rfl | exact SL.one (by assumption))) rfl rfl (by repeat' constructor) (by repeat' constructor) ?_
    refine WL.nil ?_
    refine W.fit (Hs' := [box b2 _ _, box b3 _ _, OMdl _ _, ORst _ _]) (by (repeat' first | exact Sel.nil | refine Sel.cons 0 rfl ?_ | refine Sel.cons 1 rfl ?_ | refine Sel.cons 2 rfl ?_ | refine Sel.cons 3 rfl ?_ | refine Sel.cons 4 rfl ?_ | refine Sel.cons 5 rfl ?_ | refine Sel.cons 6 rfl ?_ | refine Sel.cons 7 rfl ?_ | refine Sel.cons 8 rfl ?_)) ?_
    exact W.retCC (T := Ty) (j := 0) (j' := 0) rfl rfl rfl rfl rfl rfl rfl rfl rfl rfl rfl (fun h q => ⟨_, _, rfl, q⟩)
   ·refine W.skip ?_
    refine W.opens (α := Value × Value) (φ := fun x => SL x.1 (doSA m o).1.ser.length ∧ SL x.2 (doSA m o).1.its.length) (ps := fun x => [box b4 [x.1, x.2, .int .i64 (doSA m o).1.next] 31, OMdl (.agg #[x.1, x.2, .int .i64 (doSA m o).1.next]) (doSA m o).1]) 0 rfl (fun h q => by obtain ⟨sv', iv', g1, g2, g3⟩ := pm_omdl q; exact ⟨(sv', iv'), ⟨g1, g2⟩, g3⟩) (by repeat' constructor) ?_
    rintro ⟨sv', iv'⟩ ⟨g1, g2⟩
    simp only [List.cons_append, List.nil_append] at g1 g2 ⊢
    refine W.seq ?_
    refine W.drawP 3 [false, false, false, false, false, true, false, false] rfl (by repeat' constructor) (by repeat' constructor) (fun σ0 hσ0 dσ0 => ?_)
    have fσ0_0 := rb_at 0 rfl hσ0 dσ0
    have fσ0_1 := in_at 1 rfl hσ0 dσ0
    have fσ0_2 := in_at 2 rfl hσ0 dσ0
    have fσ0_3 := rb_at 3 rfl hσ0 dσ0
    have fσ0_4 := rb_at 4 rfl hσ0 dσ0
    have fσ0_5 := rb_at 5 rfl hσ0 dσ0
    have fσ0_6 := rb_at 6 rfl hσ0 dσ0
    refine WD.takeL 0 rfl (by decide +kernel) ?_
    refine WL.ldABF (T := Ty) rfl rfl rfl rfl (by first | assumption | exact RB.wide (by assumption) | exact In.rb (by assumption)) rfl (by repeat' constructor) ?_
    refine WL.nilT (WD.takeL 1 rfl (by decide +kernel) ?_)
    refine WL.ldABF (T := Ty) rfl rfl rfl rfl (by first | assumption | exact RB.wide (by assumption) | exact In.rb (by assumption)) rfl (by repeat' constructor) ?_
    refine WL.nilT (WD.oneL 2 rfl (by decide +kernel) ?_)
    refine WL.stAO (T := Ty) (j := 1) rfl rfl rfl rfl (by repeat' first | exact AO.nil | apply AO.cons (by first | rfl | exact SL.one (by assumption))) rfl rfl (by repeat' constructor) (by repeat' constructor) ?_
    refine WL.nilE ?_
    refine WD.lastG hσ0 (by decide +kernel) (by repeat' constructor) rfl (by repeat' constructor) ?_
    refine WL.stAO (T := Ty) (j := 4) rfl rfl rfl rfl (by repeat' first | exact AO.nil | apply AO.cons (by first | rfl | exact SL.one (by assumption))) rfl rfl (by repeat' constructor) (by repeat' constructor) ?_
    refine WL.nil ?_
    refine W.fit (Hs' := [box b2 _ _, box b3 _ _, OMdl _ _, ORst _ _]) (by (repeat' first | exact Sel.nil | refine Sel.cons 0 rfl ?_ | refine Sel.cons 1 rfl ?_ | refine Sel.cons 2 rfl ?_ | refine Sel.cons 3 rfl ?_ | refine Sel.cons 4 rfl ?_ | refine Sel.cons 5 rfl ?_ | refine Sel.cons 6 rfl ?_ | refine Sel.cons 7 rfl ?_ | refine Sel.cons 8 rfl ?_)) ?_
    exact W.retCC (T := Ty) (j := 0) (j' := 0) rfl rfl rfl rfl rfl rfl rfl rfl rfl rfl rfl (fun h q => ⟨_, _, rfl, q⟩)
end Go.Proofs.Ytbebhmdjnneimaa
