/- What the document's replay comes to. -/
import Derived.Test.YtbebhmdjnneimaaStc
import Derived.Test.YtbebhmdjnneimaaNum
import Derived.Test.YtbebhmdjnneimaaTab
import Derived.Test.YtbebhmdjnneimaaHistR
import Derived.Test.YtbebhmdjnneimaaHistD
import Derived.Test.YtbebhmdjnneimaaMdlRx
set_option linter.unusedSimpArgs false
set_option linter.unusedVariables false
set_option maxRecDepth 20000
set_option maxHeartbeats 4000000
namespace Go.Proofs.Ytbebhmdjnneimaa
open Go
attribute [local irreducible] W WL Fn Buf ROs SL eptr box Rd Src bndOK WD RB Reads In Own Pm doM cix
theorem rreplay_c (ρ : Hp) (v w : Value) (L : List (Evt × Value)) (o : List PK) (r0 : ROs ρ 14 v (L.flatMap evC)) (h0 : ∀ p ∈ L, SL p.2 p.1.res.list.length) (hl : L.length ≤ 1000) (r1 : ROs ρ 2 w (o.flatMap (twoC .i64 .i64))) (hl1 : o.length ≤ 1000) :
    Fn Try.prog 27 #[v, w] ρ [] (RepR (rpl L o o.length)) := by
  have s0 : SL v L.length := r0.sl (evs_cells L) (by omega)
  have s1 : SL w o.length := r1.sl (two_len o) (by omega)
  refine in27 rfl rfl ?_
  refine W.seq (W.region ?_)
  refine WL.alF (T := Ty) rfl rfl (by repeat' constructor) (fun b0 => ?_)
  refine WL.as rfl rfl (WL.nil (W.seq (W.region ?_)))
  refine WL.bdC (T := Ty) rfl rfl rfl rfl (by repeat' first | exact CO.nil | apply CO.one (by first | rfl | exact SL.one (by assumption)) | apply CO.agg) rfl (by repeat' constructor) ?_
  refine WL.alF (T := Ty) rfl rfl (by repeat' constructor) (fun b1 => ?_)
  refine WL.stAO (T := Ty) (j := 0) rfl rfl rfl rfl (by repeat' first | exact AO.nil | apply AO.cons (by first | rfl | exact SL.one (by assumption))) rfl rfl (by repeat' constructor) (by repeat' constructor) ?_
  refine WL.nil (W.seq (W.region (WL.as rfl rfl (WL.nil (W.seq (W.seq (W.region (WL.as rfl rfl (WL.nil (W.block (W.nb (sz := 3) (W.own0 owRst (W.omdl0 ?_)))))))))))))
  refine W.loopR (σ := Nat × Value × Value × Value × List (Rst × Value)) (fun s => [(0, v), (1, w), (4, pt b0 0), (6, pt b1 0), (7, s.2.2.2.1), (8, .int .i64 (s.1 : Int))])
    (fun s => [OMdl (.agg #[s.2.1, s.2.2.1, .int .i64 (rpl L o s.1).1.next]) (rpl L o s.1).1, Own owRst s.2.2.2.2, Buf 3 s.2.2.2.1 (s.2.2.2.2.flatMap rstC), box b1 [s.2.1, s.2.2.1, .int .i64 (rpl L o s.1).1.next] 31, box b0 [nilV, nilV, .int .i64 0] 31])
    (fun s ρ' => s.1 ≤ o.length ∧ SL s.2.1 (rpl L o s.1).1.ser.length ∧ SL s.2.2.1 (rpl L o s.1).1.its.length ∧ SL s.2.2.2.1 s.2.2.2.2.length ∧ s.2.2.2.2.map Prod.fst = (rpl L o s.1).2) (fun s => o.length - s.1)
    (0, nilV, nilV, nilV, []) ⟨rfl, rfl, rfl, rfl, rfl, rfl, trivial⟩ rfl ⟨Nat.zero_le _, slZ, slZ, slZ, rfl⟩ ?_
  rintro ⟨j, sv, iv, rv, R⟩ ρ1 le1 ⟨hj, t1, t2, t3, hR⟩ next
  dsimp only at hj t1 t2 t3 hR next ⊢
  replace r0 := r0.mono le1
  replace r1 := r1.mono le1
  by_cases hc : j < o.length
  · obtain ⟨p, hp⟩ : ∃ p, o[j]? = some p := ⟨_, List.getElem?_eq_getElem hc⟩
    have l0 := evs_cells L
    have l1 := two_len (k0 := .i64) (k1 := .i64) o
    have g0 : (o.flatMap (twoC .i64 .i64))[((j : Nat) : Int).toNat * 2 + 0]? = some (.int .i64 p.1) := flat_get (k := 2) (fun _ => rfl) hp rfl
    have g1 : (o.flatMap (twoC .i64 .i64))[((j : Nat) : Int).toNat * 2 + 1]? = some (.int .i64 p.2) := flat_get (k := 2) (fun _ => rfl) hp rfl
    have hI := rpl_inv L o j
    have l2 := rst_cells R
    have hRl : R.length = j := by have := congrArg List.length hR; rw [List.length_map, rpl_len L o j (by omega)] at this; exact this
    refine W.seq (W.seq (W.region (WL.mv rfl rfl (WL.mv rfl rfl ?_))))
    refine WL.len (T := Ty) rfl rfl (by assumption) rfl ?_
    refine WL.lss rfl rfl rfl (WL.nil (W.condpT rfl (by omega) (W.skip (W.seq (W.block (W.seq ?_))))))
    refine W.cutG (τ := Unit) (fun s => [(0, v), (1, w), (4, pt b0 0), (6, pt b1 0), (7, rv), (8, .int .i64 (j : Int)), (9, .int .i64 (ixV (cix L L.length p)))]) (fun s => [OMdl (.agg #[sv, iv, .int .i64 (rpl L o j).1.next]) (rpl L o j).1, Own owRst R, Buf 3 rv (R.flatMap rstC), box b1 [sv, iv, .int .i64 (rpl L o j).1.next] 31, box b0 [nilV, nilV, .int .i64 0] 31]) (fun s ρ' => True) ?_ (fun cut => ?_)
    · rintro _ ρ2 le2 _
      replace r0 := r0.mono le2
      replace r1 := r1.mono le2
      cases hx : cix L L.length p with
      | none =>
        have hrp : rpl L o (j + 1) = ((rpl L o j).1, (rpl L o j).2 ++ [⟨0, 0, []⟩]) := by simp only [rpl, hp, hx]; rfl
        have hfl : R.flatMap rstC ++ [.int .i64 0, .int .i64 0, nilV] = (R ++ [((⟨0, 0, []⟩ : Rst), nilV)]).flatMap rstC := by rw [List.flatMap_append]; rfl
        have nx := fun (uv : Value) => next ⟨j + 1, sv, iv, uv, R ++ [((⟨0, 0, []⟩ : Rst), nilV)]⟩ ρ2 le2
        dsimp only at nx
        simp only [hrp] at nx
        have hix : ixV none = -1 := rfl
        rw [hix]
        refine W.seq (W.region ?_)
        refine WL.bdC (T := Ty) rfl rfl rfl rfl (by repeat' first | exact CO.nil | apply CO.one (by first | rfl | exact SL.one (by assumption)) | apply CO.agg) rfl (by repeat' constructor) ?_
        refine WL.alF (T := Ty) rfl rfl (by repeat' constructor) (fun b2 => ?_)
        refine WL.stAO (T := Ty) (j := 0) rfl rfl rfl rfl (by repeat' first | exact AO.nil | apply AO.cons (by first | rfl | exact SL.one (by assumption))) rfl rfl (by repeat' constructor) (by repeat' constructor) ?_
        refine WL.nil (W.seq (W.seq (W.region (WL.mv rfl rfl (WL.geq rfl rfl rfl (WL.nil (W.condF rfl (W.skip (W.region (WL.mv rfl rfl ?_))))))))))
        refine WL.ldAF (T := Ty) (j := 0) rfl rfl rfl rfl rfl rfl (by repeat' constructor) ?_
        refine WL.bsC (T := Ty) rfl rfl rfl rfl rfl rfl rfl (by repeat' first | exact CO.nil | apply CO.one (by first | rfl | exact SL.one (by assumption)) | apply CO.agg) rfl (by repeat' constructor) (fun u3 hu3 => ?_)
        refine WL.apS (T := Ty) (i := 3) rfl rfl rfl rfl rfl rfl rfl rfl rfl (by first | rfl | assumption) rfl (by assumption) (by repeat' first | exact AO.nil | apply AO.cons (by first | rfl | exact SL.one (by assumption))) (by first | omega | (simp; omega) | (simp only [List.length_drop, List.length_take]; omega)) (by first | omega | (simp; omega) | (simp only [List.length_drop, List.length_take]; omega)) (fun v' => (by repeat' constructor)) (fun u4 hu4 => ?_)
        refine WL.as rfl rfl (WL.nil (W.inBlock (W.region (WL.mv rfl rfl (WL.addK rfl rfl rfl (wrap_i64 ⟨by omega, by omega⟩) (WL.as rfl rfl (WL.nil ?_)))))))
        rw [hfl]
        refine W.nb (sz := 2) ?_
        refine W.fit (Hs' := [Buf 2 nilV [], Own owRst R, OMdl _ _, Buf 3 _ (List.flatMap rstC _), box b1 _ _, box b0 _ _]) (by (repeat' first | exact Sel.nil | apply Sel.k | exact Pick.h | apply Pick.t)) ?_
        refine W.two (r := Own owRst (R ++ [((⟨0, 0, []⟩ : Rst), nilV)])) _ _ rfl (fun h q => own_snoc (f := owRst) q) ?_
        refine W.fit (Hs' := [OMdl _ _, Own owRst _, Buf 3 _ _, box b1 _ _, box b0 _ _]) (by (repeat' first | exact Sel.nil | apply Sel.k | exact Pick.h | apply Pick.t)) (W.sub ?_ (nx _ ⟨hc, t1, t2, by rw [List.length_append]; assumption, by rw [List.map_append, hR]; rfl⟩ (by omega)))
        exact ⟨rfl, rfl, rfl, rfl, rfl, rfl, trivial⟩
      | some i =>
        obtain ⟨hi, ⟨e, lv⟩, he, -, -⟩ := cix_lt L p _ i hx
        have hop : ((L.flatMap evC).drop (((i : Nat) : Int).toNat * 14 + 3)).take 8 = opC e.op := by
          have h := flat_row ev_len he
          have h2 := congrArg (fun l => (l.drop 3).take 8) h
          simp only [List.drop_take, List.take_take, List.drop_drop] at h2
          exact h2
        unfold opC at hop
        have hrp : rpl L o (j + 1) = ((doM (rpl L o j).1 e.op).1, (rpl L o j).2 ++ [(doM (rpl L o j).1 e.op).2]) := by simp only [rpl, hp, hx, Option.bind_some, he]
        have hix : ixV (some i) = ((i : Nat) : Int) := rfl
        rw [hix]
        refine W.seq (W.region ?_)
        refine WL.bdC (T := Ty) rfl rfl rfl rfl (by repeat' first | exact CO.nil | apply CO.one (by first | rfl | exact SL.one (by assumption)) | apply CO.agg) rfl (by repeat' constructor) ?_
        refine WL.alF (T := Ty) rfl rfl (by repeat' constructor) (fun b2 => ?_)
        refine WL.stAO (T := Ty) (j := 0) rfl rfl rfl rfl (by repeat' first | exact AO.nil | apply AO.cons (by first | rfl | exact SL.one (by assumption))) rfl rfl (by repeat' constructor) (by repeat' constructor) ?_
        refine WL.nil (W.seq (W.seq (W.region (WL.mv rfl rfl (WL.geq rfl rfl rfl (WL.nil (W.condT rfl (W.seq ?_))))))))
        refine W.cutG (τ := Nat × Nat × Value × Value × Value) (fun s => [(0, v), (1, w), (4, pt b0 0), (6, pt b1 0), (7, rv), (8, .int .i64 (j : Int)), (10, pt b2 0), (11, pt s.1 0), (12, pt s.2.1 0)])
          (fun s => [OMdl (.agg #[s.2.2.1, s.2.2.2.1, .int .i64 (doM (rpl L o j).1 e.op).1.next]) (doM (rpl L o j).1 e.op).1, ORst (.agg #[.int .i64 (doM (rpl L o j).1 e.op).2.err, .int .i64 (doM (rpl L o j).1 e.op).2.iter, s.2.2.2.2]) (doM (rpl L o j).1 e.op).2, Own owRst R, Buf 3 rv (R.flatMap rstC), box b1 [sv, iv, .int .i64 (rpl L o j).1.next] 31, box b0 [nilV, nilV, .int .i64 0] 31, box b2 [.int .i64 0, .int .i64 0, nilV] 34, box s.1 [s.2.2.1, s.2.2.2.1, .int .i64 (doM (rpl L o j).1 e.op).1.next] 31, box s.2.1 [.int .i64 (doM (rpl L o j).1 e.op).2.err, .int .i64 (doM (rpl L o j).1 e.op).2.iter, s.2.2.2.2] 34])
          (fun s ρ' => SL s.2.2.1 (doM (rpl L o j).1 e.op).1.ser.length ∧ SL s.2.2.2.1 (doM (rpl L o j).1 e.op).1.its.length ∧ SL s.2.2.2.2 (doM (rpl L o j).1 e.op).2.list.length) ?_ (fun cut1 => ?_)
        · rintro ⟨bm, br, sv', iv', lv'⟩ ρ3 le3 ⟨q1, q2, q3⟩
          dsimp only at q1 q2 q3 ⊢
          have hfl : R.flatMap rstC ++ [.int .i64 (doM (rpl L o j).1 e.op).2.err, .int .i64 (doM (rpl L o j).1 e.op).2.iter, lv'] = (R ++ [((doM (rpl L o j).1 e.op).2, lv')]).flatMap rstC := by rw [List.flatMap_append]; rfl
          have nx := fun (uv : Value) => next ⟨j + 1, sv', iv', uv, R ++ [((doM (rpl L o j).1 e.op).2, lv')]⟩ ρ3 (le2.trans le3)
          dsimp only at nx
          simp only [hrp] at nx
          refine W.drawP 3 [false, false, false, false, true, false, false, false, false] rfl (by repeat' constructor) (by repeat' constructor) (fun σ0 hσ0 dσ0 => ?_)
          have fσ0_0 := in_at 0 rfl hσ0 dσ0
          have fσ0_1 := in_at 1 rfl hσ0 dσ0
          have fσ0_2 := in_at 2 rfl hσ0 dσ0
          have fσ0_3 := ros_at 3 rfl hσ0 dσ0
          have fσ0_4 := rb_at 4 rfl hσ0 dσ0
          have fσ0_5 := rb_at 5 rfl hσ0 dσ0
          have fσ0_6 := rb_at 6 rfl hσ0 dσ0
          have fσ0_7 := rb_at 7 rfl hσ0 dσ0
          refine WD.takeL 0 rfl (by decide +kernel) ?_
          refine WL.ldABF (T := Ty) rfl rfl rfl rfl (by first | assumption | exact RB.wide (by assumption) | exact In.rb (by assumption)) rfl (by repeat' constructor) ?_
          refine WL.nilT (WD.takeL 1 rfl (by decide +kernel) ?_)
          refine WL.ldABF (T := Ty) rfl rfl rfl rfl (by first | assumption | exact RB.wide (by assumption) | exact In.rb (by assumption)) rfl (by repeat' constructor) ?_
          refine WL.nilT (WD.oneL 2 rfl (by decide +kernel) ?_)
          refine WL.stAO (T := Ty) (j := 1) rfl rfl rfl rfl (by repeat' first | exact AO.nil | apply AO.cons (by first | rfl | exact SL.one (by assumption))) rfl rfl (by repeat' constructor) (by repeat' constructor) ?_
          refine WL.nilE ?_
          refine WD.lastG hσ0 (by decide +kernel) (by repeat' constructor) rfl (by repeat' constructor) ?_
          refine WL.stAO (T := Ty) (j := 5) rfl rfl rfl rfl (by repeat' first | exact AO.nil | apply AO.cons (by first | rfl | exact SL.one (by assumption))) rfl rfl (by repeat' constructor) (by repeat' constructor) ?_
          refine WL.nil (W.region (WL.mv rfl rfl ?_))
          refine WL.ldAF (T := Ty) (j := 5) rfl rfl rfl rfl rfl rfl (by repeat' constructor) ?_
          refine WL.bsC (T := Ty) rfl rfl rfl rfl rfl rfl rfl (by repeat' first | exact CO.nil | apply CO.one (by first | rfl | exact SL.one (by assumption)) | apply CO.agg) rfl (by repeat' constructor) (fun u3 hu3 => ?_)
          refine WL.apS (T := Ty) (i := 3) rfl rfl rfl rfl rfl rfl rfl rfl rfl (by first | rfl | assumption) rfl (by assumption) (by repeat' first | exact AO.nil | apply AO.cons (by first | rfl | exact SL.one (by assumption))) (by first | omega | (simp; omega) | (simp only [List.length_drop, List.length_take]; omega)) (by first | omega | (simp; omega) | (simp only [List.length_drop, List.length_take]; omega)) (fun v' => (by repeat' constructor)) (fun u4 hu4 => ?_)
          refine WL.as rfl rfl (WL.nil (W.inBlock (W.region (WL.mv rfl rfl (WL.addK rfl rfl rfl (wrap_i64 ⟨by omega, by omega⟩) (WL.as rfl rfl (WL.nil ?_)))))))
          rw [hfl]
          refine W.fit (Hs' := [ORst _ _, Own owRst R, box b1 _ _, box b0 _ _, OMdl _ _, Buf 3 _ (List.flatMap rstC _)]) (by (repeat' first | exact Sel.nil | apply Sel.k | exact Pick.h | apply Pick.t)) ?_
          refine W.two (r := Own owRst (R ++ [((doM (rpl L o j).1 e.op).2, lv')])) _ _ rfl (fun h q => own_snoc (f := owRst) (orst_own q)) ?_
          refine W.fit (Hs' := [OMdl _ _, Own owRst _, Buf 3 _ _, box b1 _ _, box b0 _ _]) (by (repeat' first | exact Sel.nil | apply Sel.k | exact Pick.h | apply Pick.t)) (W.sub ?_ (nx _ ⟨hc, q1, q2, by rw [List.length_append]; assumption, by rw [List.map_append, hR]; rfl⟩ (by omega)))
          exact ⟨rfl, rfl, rfl, rfl, rfl, rfl, trivial⟩
        · refine W.drawA 13 rfl (fun σ0 hσ0 dσ0 => ?_)
          have fσ0_0 := rb_at 0 rfl hσ0 dσ0
          have fσ0_1 := in_at 1 rfl hσ0 dσ0
          have fσ0_2 := in_at 2 rfl hσ0 dσ0
          have fσ0_3 := ros_at 3 rfl hσ0 dσ0
          have fσ0_4 := rb_at 4 rfl hσ0 dσ0
          have fσ0_5 := rb_at 5 rfl hσ0 dσ0
          refine WD.takeL 0 rfl (by decide +kernel) ?_
          refine WL.ldABF (T := Ty) rfl rfl rfl rfl (by first | assumption | exact RB.wide (by assumption) | exact In.rb (by assumption)) rfl (by repeat' constructor) ?_
          refine WL.nilT (WD.takeL 1 rfl (by decide +kernel) (WL.mv rfl rfl (WL.nilT (WD.takeL 2 rfl (by decide +kernel) (WL.mv rfl rfl (WL.nilT (WD.takeL 3 rfl (by decide +kernel) ?_)))))))
          refine WL.ix (T := Ty) rfl rfl rfl (by assumption) rfl rfl (by omega) (by first | omega | decide +kernel) ?_
          refine WL.nilT (WD.takeL 4 rfl (by decide +kernel) (WL.faEN (T := Ty) (off' := 3) rfl rfl rfl rfl rfl rfl rfl (WL.nilT (WD.takeL 5 rfl (by decide +kernel) ?_))))
          refine WL.ldAR (T := Ty) rfl rfl rfl rfl (by first | assumption | exact ROs.wide (by assumption)) (by assumption) rfl ?_
          refine WL.nilT ?_
          refine WD.threeL 6 10 11 rfl rfl rfl (by decide +kernel) ?_ ?_ ?_
          · refine WL.callF rfl rfl (fun x p d => doRX_c _ _ _ _ _ _ _ _ _ _ _ _ (by first | assumption | exact RMdl.wide (by assumption) | exact RMdl.mono (by assumption) (eqh_at 0 rfl p d) | exact RMdl.mono (In.rmdl (by assumption)) (eqh_at 0 rfl p d) | exact (in_at 0 rfl p d).rmdl | exact (in_at 1 rfl p d).rmdl | exact (in_at 2 rfl p d).rmdl | exact (in_at 3 rfl p d).rmdl | exact (in_at 4 rfl p d).rmdl | exact (in_at 5 rfl p d).rmdl | exact (in_at 6 rfl p d).rmdl | exact (in_at 7 rfl p d).rmdl | exact (in_at 8 rfl p d).rmdl | exact (in_at 9 rfl p d).rmdl | exact (in_at 10 rfl p d).rmdl | exact (in_at 11 rfl p d).rmdl | exact (in_at 12 rfl p d).rmdl | exact (in_at 13 rfl p d).rmdl | exact (in_at 14 rfl p d).rmdl | exact (in_at 15 rfl p d).rmdl | exact (in_at 16 rfl p d).rmdl | exact (in_at 17 rfl p d).rmdl | exact (in_at 18 rfl p d).rmdl | exact (in_at 19 rfl p d).rmdl | exact (in_at 20 rfl p d).rmdl | exact (in_at 21 rfl p d).rmdl | exact (in_at 22 rfl p d).rmdl | exact (in_at 23 rfl p d).rmdl | exact (in_at 24 rfl p d).rmdl | exact (in_at 25 rfl p d).rmdl | exact (in_at 26 rfl p d).rmdl | exact (in_at 27 rfl p d).rmdl | exact (in_at 28 rfl p d).rmdl | exact (in_at 29 rfl p d).rmdl) (by assumption) (by first | assumption | omega)) (fun r3 => ?_)
            refine WL.opens (α := (Value × Value × Value)) (φ := fun x => r3 = .tuple #[.agg #[x.1, x.2.1, .int .i64 _], .agg #[.int .i64 _, .int .i64 _, x.2.2]] ∧ SL x.1 _ ∧ SL x.2.1 _ ∧ SL x.2.2 _) (ps := fun x => [OMdl (.agg #[x.1, x.2.1, .int .i64 _]) _, ORst (.agg #[.int .i64 _, .int .i64 _, x.2.2]) _]) 0 rfl (fun h q => DoR.open q) (by repeat' constructor) ?_
            rintro ⟨sv3, iv3, u3⟩ ⟨es3, sa3, sb3, sc3⟩
            subst es3
            dsimp only [List.cons_append, List.nil_append] at sa3 sb3 sc3 ⊢
            refine WL.nilSS (WD.takeL 7 rfl (by decide +kernel) (WL.mv rfl rfl (WL.nilT (WD.takeL 8 rfl (by decide +kernel) (WL.extL rfl rfl rfl (WL.nilT (WD.takeL 9 rfl (by decide +kernel) (WL.extL rfl rfl rfl (WL.nilT ?_)))))))))
            refine WD.twoL 10 11 rfl rfl (by decide +kernel) ?_ ?_
            · refine WL.alF (T := Ty) rfl rfl (by repeat' constructor) (fun b4 => ?_)
              refine WL.nilS (WD.oneL 11 rfl (by decide +kernel) ?_)
              refine WL.alF (T := Ty) rfl rfl (by repeat' constructor) (fun b5 => ?_)
              refine WL.nilS (WD.oneL 12 rfl (by decide +kernel) ?_)
              refine WL.stAO (T := Ty) (j := 2) rfl rfl rfl rfl (by repeat' first | exact AO.nil | apply AO.cons (by first | rfl | exact SL.one (by assumption))) rfl rfl (by repeat' constructor) (by repeat' constructor) ?_
              refine WL.nilE ?_
              refine WD.lastG hσ0 (by decide +kernel) (by repeat' constructor) rfl (by repeat' constructor) ?_
              refine WL.stAO (T := Ty) (j := 6) rfl rfl rfl rfl (by repeat' first | exact AO.nil | apply AO.cons (by first | rfl | exact SL.one (by assumption))) rfl rfl (by repeat' constructor) (by repeat' constructor) ?_
              refine WL.nil ?_
              refine W.fit (Hs' := [box b1 _ _, box b0 _ _, box b2 _ _, OMdl _ (doM (rpl L o j).1 e.op).1, ORst _ _, Own owRst R, Buf 3 rv _, box _ _ 31, box _ _ 34]) (by (repeat' first | exact Sel.nil | apply Sel.k | exact Pick.h | apply Pick.t)) ?_
              refine W.fit (Hs' := [OMdl _ _, ORst _ _, Own owRst R, Buf 3 rv _, box b1 _ _, box b0 _ _, box b2 _ _, box _ _ 31, box _ _ 34]) (by (repeat' first | exact Sel.nil | apply Sel.k | exact Pick.h | apply Pick.t)) ?_
              refine W.sub ?_ (cut1 ⟨_, _, _, _, _⟩ ρ2 (Le.refl _) ⟨by assumption, by assumption, by assumption⟩)
              exact ⟨rfl, rfl, rfl, rfl, rfl, rfl, rfl, rfl, rfl, trivial⟩
            · refine WL.alF (T := Ty) rfl rfl (by repeat' constructor) (fun b4 => ?_)
              refine WL.nilS (WD.oneL 10 rfl (by decide +kernel) ?_)
              refine WL.alF (T := Ty) rfl rfl (by repeat' constructor) (fun b5 => ?_)
              refine WL.nilS (WD.oneL 12 rfl (by decide +kernel) ?_)
              refine WL.stAO (T := Ty) (j := 1) rfl rfl rfl rfl (by repeat' first | exact AO.nil | apply AO.cons (by first | rfl | exact SL.one (by assumption))) rfl rfl (by repeat' constructor) (by repeat' constructor) ?_
              refine WL.nilE ?_
              refine WD.lastG hσ0 (by decide +kernel) (by repeat' constructor) rfl (by repeat' constructor) ?_
              refine WL.stAO (T := Ty) (j := 7) rfl rfl rfl rfl (by repeat' first | exact AO.nil | apply AO.cons (by first | rfl | exact SL.one (by assumption))) rfl rfl (by repeat' constructor) (by repeat' constructor) ?_
              refine WL.nil ?_
              refine W.fit (Hs' := [box b1 _ _, box b0 _ _, box b2 _ _, OMdl _ (doM (rpl L o j).1 e.op).1, ORst _ _, Own owRst R, Buf 3 rv _, box _ _ 31, box _ _ 34]) (by (repeat' first | exact Sel.nil | apply Sel.k | exact Pick.h | apply Pick.t)) ?_
              refine W.fit (Hs' := [OMdl _ _, ORst _ _, Own owRst R, Buf 3 rv _, box b1 _ _, box b0 _ _, box b2 _ _, box _ _ 31, box _ _ 34]) (by (repeat' first | exact Sel.nil | apply Sel.k | exact Pick.h | apply Pick.t)) ?_
              refine W.sub ?_ (cut1 ⟨_, _, _, _, _⟩ ρ2 (Le.refl _) ⟨by assumption, by assumption, by assumption⟩)
              exact ⟨rfl, rfl, rfl, rfl, rfl, rfl, rfl, rfl, rfl, trivial⟩
          · refine WL.alF (T := Ty) rfl rfl (by repeat' constructor) (fun b3 => ?_)
            refine WL.nilS ?_
            refine WD.twoL 6 11 rfl rfl (by decide +kernel) ?_ ?_
            · refine WL.callF rfl rfl (fun x p d => doRX_c _ _ _ _ _ _ _ _ _ _ _ _ (by first | assumption | exact RMdl.wide (by assumption) | exact RMdl.mono (by assumption) (eqh_at 0 rfl p d) | exact RMdl.mono (In.rmdl (by assumption)) (eqh_at 0 rfl p d) | exact (in_at 0 rfl p d).rmdl | exact (in_at 1 rfl p d).rmdl | exact (in_at 2 rfl p d).rmdl | exact (in_at 3 rfl p d).rmdl | exact (in_at 4 rfl p d).rmdl | exact (in_at 5 rfl p d).rmdl | exact (in_at 6 rfl p d).rmdl | exact (in_at 7 rfl p d).rmdl | exact (in_at 8 rfl p d).rmdl | exact (in_at 9 rfl p d).rmdl | exact (in_at 10 rfl p d).rmdl | exact (in_at 11 rfl p d).rmdl | exact (in_at 12 rfl p d).rmdl | exact (in_at 13 rfl p d).rmdl | exact (in_at 14 rfl p d).rmdl | exact (in_at 15 rfl p d).rmdl | exact (in_at 16 rfl p d).rmdl | exact (in_at 17 rfl p d).rmdl | exact (in_at 18 rfl p d).rmdl | exact (in_at 19 rfl p d).rmdl | exact (in_at 20 rfl p d).rmdl | exact (in_at 21 rfl p d).rmdl | exact (in_at 22 rfl p d).rmdl | exact (in_at 23 rfl p d).rmdl | exact (in_at 24 rfl p d).rmdl | exact (in_at 25 rfl p d).rmdl | exact (in_at 26 rfl p d).rmdl | exact (in_at 27 rfl p d).rmdl | exact (in_at 28 rfl p d).rmdl | exact (in_at 29 rfl p d).rmdl) (by assumption) (by first | assumption | omega)) (fun r4 => ?_)
              refine WL.opens (α := (Value × Value × Value)) (φ := fun x => r4 = .tuple #[.agg #[x.1, x.2.1, .int .i64 _], .agg #[.int .i64 _, .int .i64 _, x.2.2]] ∧ SL x.1 _ ∧ SL x.2.1 _ ∧ SL x.2.2 _) (ps := fun x => [OMdl (.agg #[x.1, x.2.1, .int .i64 _]) _, ORst (.agg #[.int .i64 _, .int .i64 _, x.2.2]) _]) 0 rfl (fun h q => DoR.open q) (by repeat' constructor) ?_
              rintro ⟨sv4, iv4, u4⟩ ⟨es4, sa4, sb4, sc4⟩
              subst es4
              dsimp only [List.cons_append, List.nil_append] at sa4 sb4 sc4 ⊢
              refine WL.nilSS (WD.takeL 7 rfl (by decide +kernel) (WL.mv rfl rfl (WL.nilT (WD.takeL 8 rfl (by decide +kernel) (WL.extL rfl rfl rfl (WL.nilT (WD.takeL 9 rfl (by decide +kernel) (WL.extL rfl rfl rfl (WL.nilT (WD.oneL 11 rfl (by decide +kernel) ?_))))))))))
              refine WL.alF (T := Ty) rfl rfl (by repeat' constructor) (fun b5 => ?_)
              refine WL.nilS (WD.oneL 12 rfl (by decide +kernel) ?_)
              refine WL.stAO (T := Ty) (j := 4) rfl rfl rfl rfl (by repeat' first | exact AO.nil | apply AO.cons (by first | rfl | exact SL.one (by assumption))) rfl rfl (by repeat' constructor) (by repeat' constructor) ?_
              refine WL.nilE ?_
              refine WD.lastG hσ0 (by decide +kernel) (by repeat' constructor) rfl (by repeat' constructor) ?_
              refine WL.stAO (T := Ty) (j := 6) rfl rfl rfl rfl (by repeat' first | exact AO.nil | apply AO.cons (by first | rfl | exact SL.one (by assumption))) rfl rfl (by repeat' constructor) (by repeat' constructor) ?_
              refine WL.nil ?_
              refine W.fit (Hs' := [box b1 _ _, box b0 _ _, box b2 _ _, OMdl _ (doM (rpl L o j).1 e.op).1, ORst _ _, Own owRst R, Buf 3 rv _, box _ _ 31, box _ _ 34]) (by (repeat' first | exact Sel.nil | apply Sel.k | exact Pick.h | apply Pick.t)) ?_
              refine W.fit (Hs' := [OMdl _ _, ORst _ _, Own owRst R, Buf 3 rv _, box b1 _ _, box b0 _ _, box b2 _ _, box _ _ 31, box _ _ 34]) (by (repeat' first | exact Sel.nil | apply Sel.k | exact Pick.h | apply Pick.t)) ?_
              refine W.sub ?_ (cut1 ⟨_, _, _, _, _⟩ ρ2 (Le.refl _) ⟨by assumption, by assumption, by assumption⟩)
              exact ⟨rfl, rfl, rfl, rfl, rfl, rfl, rfl, rfl, rfl, trivial⟩
            · refine WL.alF (T := Ty) rfl rfl (by repeat' constructor) (fun b4 => ?_)
              refine WL.nilS (WD.oneL 6 rfl (by decide +kernel) ?_)
              refine WL.callF rfl rfl (fun x p d => doRX_c _ _ _ _ _ _ _ _ _ _ _ _ (by first | assumption | exact RMdl.wide (by assumption) | exact RMdl.mono (by assumption) (eqh_at 0 rfl p d) | exact RMdl.mono (In.rmdl (by assumption)) (eqh_at 0 rfl p d) | exact (in_at 0 rfl p d).rmdl | exact (in_at 1 rfl p d).rmdl | exact (in_at 2 rfl p d).rmdl | exact (in_at 3 rfl p d).rmdl | exact (in_at 4 rfl p d).rmdl | exact (in_at 5 rfl p d).rmdl | exact (in_at 6 rfl p d).rmdl | exact (in_at 7 rfl p d).rmdl | exact (in_at 8 rfl p d).rmdl | exact (in_at 9 rfl p d).rmdl | exact (in_at 10 rfl p d).rmdl | exact (in_at 11 rfl p d).rmdl | exact (in_at 12 rfl p d).rmdl | exact (in_at 13 rfl p d).rmdl | exact (in_at 14 rfl p d).rmdl | exact (in_at 15 rfl p d).rmdl | exact (in_at 16 rfl p d).rmdl | exact (in_at 17 rfl p d).rmdl | exact (in_at 18 rfl p d).rmdl | exact (in_at 19 rfl p d).rmdl | exact (in_at 20 rfl p d).rmdl | exact (in_at 21 rfl p d).rmdl | exact (in_at 22 rfl p d).rmdl | exact (in_at 23 rfl p d).rmdl | exact (in_at 24 rfl p d).rmdl | exact (in_at 25 rfl p d).rmdl | exact (in_at 26 rfl p d).rmdl | exact (in_at 27 rfl p d).rmdl | exact (in_at 28 rfl p d).rmdl | exact (in_at 29 rfl p d).rmdl) (by assumption) (by first | assumption | omega)) (fun r5 => ?_)
              refine WL.opens (α := (Value × Value × Value)) (φ := fun x => r5 = .tuple #[.agg #[x.1, x.2.1, .int .i64 _], .agg #[.int .i64 _, .int .i64 _, x.2.2]] ∧ SL x.1 _ ∧ SL x.2.1 _ ∧ SL x.2.2 _) (ps := fun x => [OMdl (.agg #[x.1, x.2.1, .int .i64 _]) _, ORst (.agg #[.int .i64 _, .int .i64 _, x.2.2]) _]) 0 rfl (fun h q => DoR.open q) (by repeat' constructor) ?_
              rintro ⟨sv5, iv5, u5⟩ ⟨es5, sa5, sb5, sc5⟩
              subst es5
              dsimp only [List.cons_append, List.nil_append] at sa5 sb5 sc5 ⊢
              refine WL.nilSS (WD.takeL 7 rfl (by decide +kernel) (WL.mv rfl rfl (WL.nilT (WD.takeL 8 rfl (by decide +kernel) (WL.extL rfl rfl rfl (WL.nilT (WD.takeL 9 rfl (by decide +kernel) (WL.extL rfl rfl rfl (WL.nilT (WD.oneL 12 rfl (by decide +kernel) ?_))))))))))
              refine WL.stAO (T := Ty) (j := 4) rfl rfl rfl rfl (by repeat' first | exact AO.nil | apply AO.cons (by first | rfl | exact SL.one (by assumption))) rfl rfl (by repeat' constructor) (by repeat' constructor) ?_
              refine WL.nilE ?_
              refine WD.lastG hσ0 (by decide +kernel) (by repeat' constructor) rfl (by repeat' constructor) ?_
              refine WL.stAO (T := Ty) (j := 8) rfl rfl rfl rfl (by repeat' first | exact AO.nil | apply AO.cons (by first | rfl | exact SL.one (by assumption))) rfl rfl (by repeat' constructor) (by repeat' constructor) ?_
              refine WL.nil ?_
              refine W.fit (Hs' := [box b1 _ _, box b0 _ _, box b2 _ _, OMdl _ (doM (rpl L o j).1 e.op).1, ORst _ _, Own owRst R, Buf 3 rv _, box _ _ 31, box _ _ 34]) (by (repeat' first | exact Sel.nil | apply Sel.k | exact Pick.h | apply Pick.t)) ?_
              refine W.fit (Hs' := [OMdl _ _, ORst _ _, Own owRst R, Buf 3 rv _, box b1 _ _, box b0 _ _, box b2 _ _, box _ _ 31, box _ _ 34]) (by (repeat' first | exact Sel.nil | apply Sel.k | exact Pick.h | apply Pick.t)) ?_
              refine W.sub ?_ (cut1 ⟨_, _, _, _, _⟩ ρ2 (Le.refl _) ⟨by assumption, by assumption, by assumption⟩)
              exact ⟨rfl, rfl, rfl, rfl, rfl, rfl, rfl, rfl, rfl, trivial⟩
          · refine WL.alF (T := Ty) rfl rfl (by repeat' constructor) (fun b3 => ?_)
            refine WL.nilS ?_
            refine WD.twoL 6 10 rfl rfl (by decide +kernel) ?_ ?_
            · refine WL.callF rfl rfl (fun x p d => doRX_c _ _ _ _ _ _ _ _ _ _ _ _ (by first | assumption | exact RMdl.wide (by assumption) | exact RMdl.mono (by assumption) (eqh_at 0 rfl p d) | exact RMdl.mono (In.rmdl (by assumption)) (eqh_at 0 rfl p d) | exact (in_at 0 rfl p d).rmdl | exact (in_at 1 rfl p d).rmdl | exact (in_at 2 rfl p d).rmdl | exact (in_at 3 rfl p d).rmdl | exact (in_at 4 rfl p d).rmdl | exact (in_at 5 rfl p d).rmdl | exact (in_at 6 rfl p d).rmdl | exact (in_at 7 rfl p d).rmdl | exact (in_at 8 rfl p d).rmdl | exact (in_at 9 rfl p d).rmdl | exact (in_at 10 rfl p d).rmdl | exact (in_at 11 rfl p d).rmdl | exact (in_at 12 rfl p d).rmdl | exact (in_at 13 rfl p d).rmdl | exact (in_at 14 rfl p d).rmdl | exact (in_at 15 rfl p d).rmdl | exact (in_at 16 rfl p d).rmdl | exact (in_at 17 rfl p d).rmdl | exact (in_at 18 rfl p d).rmdl | exact (in_at 19 rfl p d).rmdl | exact (in_at 20 rfl p d).rmdl | exact (in_at 21 rfl p d).rmdl | exact (in_at 22 rfl p d).rmdl | exact (in_at 23 rfl p d).rmdl | exact (in_at 24 rfl p d).rmdl | exact (in_at 25 rfl p d).rmdl | exact (in_at 26 rfl p d).rmdl | exact (in_at 27 rfl p d).rmdl | exact (in_at 28 rfl p d).rmdl | exact (in_at 29 rfl p d).rmdl) (by assumption) (by first | assumption | omega)) (fun r4 => ?_)
              refine WL.opens (α := (Value × Value × Value)) (φ := fun x => r4 = .tuple #[.agg #[x.1, x.2.1, .int .i64 _], .agg #[.int .i64 _, .int .i64 _, x.2.2]] ∧ SL x.1 _ ∧ SL x.2.1 _ ∧ SL x.2.2 _) (ps := fun x => [OMdl (.agg #[x.1, x.2.1, .int .i64 _]) _, ORst (.agg #[.int .i64 _, .int .i64 _, x.2.2]) _]) 0 rfl (fun h q => DoR.open q) (by repeat' constructor) ?_
              rintro ⟨sv4, iv4, u4⟩ ⟨es4, sa4, sb4, sc4⟩
              subst es4
              dsimp only [List.cons_append, List.nil_append] at sa4 sb4 sc4 ⊢
              refine WL.nilSS (WD.takeL 7 rfl (by decide +kernel) (WL.mv rfl rfl (WL.nilT (WD.takeL 8 rfl (by decide +kernel) (WL.extL rfl rfl rfl (WL.nilT (WD.takeL 9 rfl (by decide +kernel) (WL.extL rfl rfl rfl (WL.nilT (WD.oneL 10 rfl (by decide +kernel) ?_))))))))))
              refine WL.alF (T := Ty) rfl rfl (by repeat' constructor) (fun b5 => ?_)
              refine WL.nilS (WD.oneL 12 rfl (by decide +kernel) ?_)
              refine WL.stAO (T := Ty) (j := 1) rfl rfl rfl rfl (by repeat' first | exact AO.nil | apply AO.cons (by first | rfl | exact SL.one (by assumption))) rfl rfl (by repeat' constructor) (by repeat' constructor) ?_
              refine WL.nilE ?_
              refine WD.lastG hσ0 (by decide +kernel) (by repeat' constructor) rfl (by repeat' constructor) ?_
              refine WL.stAO (T := Ty) (j := 9) rfl rfl rfl rfl (by repeat' first | exact AO.nil | apply AO.cons (by first | rfl | exact SL.one (by assumption))) rfl rfl (by repeat' constructor) (by repeat' constructor) ?_
              refine WL.nil ?_
              refine W.fit (Hs' := [box b1 _ _, box b0 _ _, box b2 _ _, OMdl _ (doM (rpl L o j).1 e.op).1, ORst _ _, Own owRst R, Buf 3 rv _, box _ _ 31, box _ _ 34]) (by (repeat' first | exact Sel.nil | apply Sel.k | exact Pick.h | apply Pick.t)) ?_
              refine W.fit (Hs' := [OMdl _ _, ORst _ _, Own owRst R, Buf 3 rv _, box b1 _ _, box b0 _ _, box b2 _ _, box _ _ 31, box _ _ 34]) (by (repeat' first | exact Sel.nil | apply Sel.k | exact Pick.h | apply Pick.t)) ?_
              refine W.sub ?_ (cut1 ⟨_, _, _, _, _⟩ ρ2 (Le.refl _) ⟨by assumption, by assumption, by assumption⟩)
              exact ⟨rfl, rfl, rfl, rfl, rfl, rfl, rfl, rfl, rfl, trivial⟩
            · refine WL.alF (T := Ty) rfl rfl (by repeat' constructor) (fun b4 => ?_)
              refine WL.nilS (WD.oneL 6 rfl (by decide +kernel) ?_)
              refine WL.callF rfl rfl (fun x p d => doRX_c _ _ _ _ _ _ _ _ _ _ _ _ (by first | assumption | exact RMdl.wide (by assumption) | exact RMdl.mono (by assumption) (eqh_at 0 rfl p d) | exact RMdl.mono (In.rmdl (by assumption)) (eqh_at 0 rfl p d) | exact (in_at 0 rfl p d).rmdl | exact (in_at 1 rfl p d).rmdl | exact (in_at 2 rfl p d).rmdl | exact (in_at 3 rfl p d).rmdl | exact (in_at 4 rfl p d).rmdl | exact (in_at 5 rfl p d).rmdl | exact (in_at 6 rfl p d).rmdl | exact (in_at 7 rfl p d).rmdl | exact (in_at 8 rfl p d).rmdl | exact (in_at 9 rfl p d).rmdl | exact (in_at 10 rfl p d).rmdl | exact (in_at 11 rfl p d).rmdl | exact (in_at 12 rfl p d).rmdl | exact (in_at 13 rfl p d).rmdl | exact (in_at 14 rfl p d).rmdl | exact (in_at 15 rfl p d).rmdl | exact (in_at 16 rfl p d).rmdl | exact (in_at 17 rfl p d).rmdl | exact (in_at 18 rfl p d).rmdl | exact (in_at 19 rfl p d).rmdl | exact (in_at 20 rfl p d).rmdl | exact (in_at 21 rfl p d).rmdl | exact (in_at 22 rfl p d).rmdl | exact (in_at 23 rfl p d).rmdl | exact (in_at 24 rfl p d).rmdl | exact (in_at 25 rfl p d).rmdl | exact (in_at 26 rfl p d).rmdl | exact (in_at 27 rfl p d).rmdl | exact (in_at 28 rfl p d).rmdl | exact (in_at 29 rfl p d).rmdl) (by assumption) (by first | assumption | omega)) (fun r5 => ?_)
              refine WL.opens (α := (Value × Value × Value)) (φ := fun x => r5 = .tuple #[.agg #[x.1, x.2.1, .int .i64 _], .agg #[.int .i64 _, .int .i64 _, x.2.2]] ∧ SL x.1 _ ∧ SL x.2.1 _ ∧ SL x.2.2 _) (ps := fun x => [OMdl (.agg #[x.1, x.2.1, .int .i64 _]) _, ORst (.agg #[.int .i64 _, .int .i64 _, x.2.2]) _]) 0 rfl (fun h q => DoR.open q) (by repeat' constructor) ?_
              rintro ⟨sv5, iv5, u5⟩ ⟨es5, sa5, sb5, sc5⟩
              subst es5
              dsimp only [List.cons_append, List.nil_append] at sa5 sb5 sc5 ⊢
              refine WL.nilSS (WD.takeL 7 rfl (by decide +kernel) (WL.mv rfl rfl (WL.nilT (WD.takeL 8 rfl (by decide +kernel) (WL.extL rfl rfl rfl (WL.nilT (WD.takeL 9 rfl (by decide +kernel) (WL.extL rfl rfl rfl (WL.nilT (WD.oneL 12 rfl (by decide +kernel) ?_))))))))))
              refine WL.stAO (T := Ty) (j := 3) rfl rfl rfl rfl (by repeat' first | exact AO.nil | apply AO.cons (by first | rfl | exact SL.one (by assumption))) rfl rfl (by repeat' constructor) (by repeat' constructor) ?_
              refine WL.nilE ?_
              refine WD.lastG hσ0 (by decide +kernel) (by repeat' constructor) rfl (by repeat' constructor) ?_
              refine WL.stAO (T := Ty) (j := 9) rfl rfl rfl rfl (by repeat' first | exact AO.nil | apply AO.cons (by first | rfl | exact SL.one (by assumption))) rfl rfl (by repeat' constructor) (by repeat' constructor) ?_
              refine WL.nil ?_
              refine W.fit (Hs' := [box b1 _ _, box b0 _ _, box b2 _ _, OMdl _ (doM (rpl L o j).1 e.op).1, ORst _ _, Own owRst R, Buf 3 rv _, box _ _ 31, box _ _ 34]) (by (repeat' first | exact Sel.nil | apply Sel.k | exact Pick.h | apply Pick.t)) ?_
              refine W.fit (Hs' := [OMdl _ _, ORst _ _, Own owRst R, Buf 3 rv _, box b1 _ _, box b0 _ _, box b2 _ _, box _ _ 31, box _ _ 34]) (by (repeat' first | exact Sel.nil | apply Sel.k | exact Pick.h | apply Pick.t)) ?_
              refine W.sub ?_ (cut1 ⟨_, _, _, _, _⟩ ρ2 (Le.refl _) ⟨by assumption, by assumption, by assumption⟩)
              exact ⟨rfl, rfl, rfl, rfl, rfl, rfl, rfl, rfl, rfl, trivial⟩
    · refine W.drawA 12 rfl (fun σ0 hσ0 dσ0 => ?_)
      have fσ0_0 := in_at 0 rfl hσ0 dσ0
      have fσ0_1 := in_at 1 rfl hσ0 dσ0
      have fσ0_2 := ros_at 2 rfl hσ0 dσ0
      have fσ0_3 := rb_at 3 rfl hσ0 dσ0
      have fσ0_4 := rb_at 4 rfl hσ0 dσ0
      refine WD.takeL 0 rfl (by decide +kernel) (WL.mv rfl rfl (WL.nilT (WD.takeL 1 rfl (by decide +kernel) (WL.mv rfl rfl (WL.nilT (WD.takeL 2 rfl (by decide +kernel) (WL.mv rfl rfl (WL.nilT (WD.takeL 3 rfl (by decide +kernel) ?_)))))))))
      refine WL.ix (T := Ty) rfl rfl rfl (by assumption) rfl rfl (by omega) (by first | omega | decide +kernel) ?_
      refine WL.nilT (WD.takeL 4 rfl (by decide +kernel) (WL.faEN (T := Ty) (off' := 0) rfl rfl rfl rfl rfl rfl rfl (WL.nilT (WD.takeL 5 rfl (by decide +kernel) ?_))))
      refine WL.ldR (T := Ty) rfl rfl rfl rfl (by first | assumption | exact ROs.wide (by assumption)) (by assumption) ?_
      refine WL.nilT (WD.takeL 6 rfl (by decide +kernel) (WL.mv rfl rfl (WL.nilT (WD.takeL 7 rfl (by decide +kernel) (WL.mv rfl rfl (WL.nilT (WD.takeL 8 rfl (by decide +kernel) ?_)))))))
      refine WL.ix (T := Ty) rfl rfl rfl (by assumption) rfl rfl (by omega) (by first | omega | decide +kernel) ?_
      refine WL.nilT (WD.takeL 9 rfl (by decide +kernel) (WL.faEN (T := Ty) (off' := 1) rfl rfl rfl rfl rfl rfl rfl (WL.nilT (WD.takeL 10 rfl (by decide +kernel) ?_))))
      refine WL.ldR (T := Ty) rfl rfl rfl rfl (by first | assumption | exact ROs.wide (by assumption)) (by assumption) ?_
      refine WL.nilT (WD.oneL 11 rfl (by decide +kernel) ?_)
      refine WL.callV rfl rfl (fun x p d => rcall_c _ _ _ _ _ (by first | assumption | exact ROs.wide (by assumption) | exact ROs.mono (by assumption) (eqh_at 0 rfl p d) | exact ros_at 0 rfl p d | exact ros_at 1 rfl p d | exact ros_at 2 rfl p d | exact ros_at 3 rfl p d | exact ros_at 4 rfl p d) (by first | assumption | omega)) ?_
      refine WL.nilE ?_
      refine WD.lastG hσ0 (by decide +kernel) (by repeat' constructor) rfl (by repeat' constructor) ?_
      refine WL.as rfl rfl (WL.nil ?_)
      refine W.fit (Hs' := [OMdl _ _, Own owRst _, Buf 3 rv _, box b1 _ _, box b0 _ _]) (by (repeat' first | exact Sel.nil | apply Sel.k | exact Pick.h | apply Pick.t)) ?_
      refine W.sub ?_ (cut () ρ1 (Le.refl _) trivial)
      exact ⟨rfl, rfl, rfl, rfl, rfl, rfl, rfl, trivial⟩
  · have hjo : j = o.length := by omega
    subst hjo
    refine W.seq (W.seq (W.region (WL.mv rfl rfl (WL.mv rfl rfl ?_))))
    refine WL.len (T := Ty) rfl rfl (by assumption) rfl ?_
    refine WL.lss rfl rfl rfl (WL.nil (W.condpF rfl (by omega) (W.exit rfl (W.seq (W.region ?_)))))
    refine WL.ldAF (T := Ty) (j := 3) rfl rfl rfl rfl rfl rfl (by repeat' constructor) ?_
    refine WL.mv rfl rfl ?_
    refine WL.stAO (T := Ty) (j := 4) rfl rfl rfl rfl (by repeat' first | exact AO.nil | apply AO.cons (by first | rfl | exact SL.one (by assumption))) rfl rfl (by repeat' constructor) (by repeat' constructor) ?_
    refine WL.as rfl rfl (WL.nil ?_)
    exact W.fit (Hs' := [box b0 _ _, OMdl _ _, Buf 3 rv _, Own owRst R]) (by (repeat' first | exact Sel.nil | apply Sel.k | exact Pick.h | apply Pick.t)) (W.retC2 (T := Ty) (j := 0) rfl rfl rfl rfl rfl rfl rfl (fun h q => ⟨sv, iv, rv, R, rfl, hR, q⟩))
end Go.Proofs.Ytbebhmdjnneimaa
