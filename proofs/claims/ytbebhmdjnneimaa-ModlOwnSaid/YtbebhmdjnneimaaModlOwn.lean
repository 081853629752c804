/- ModlOwn. -/
import Derived.Test.YtbebhmdjnneimaaStc
import Derived.Test.YtbebhmdjnneimaaNum
import Derived.Test.YtbebhmdjnneimaaTab
import Derived.Test.YtbebhmdjnneimaaMdlRx
set_option linter.unusedSimpArgs false
set_option linter.unusedVariables false
set_option maxRecDepth 20000
set_option maxHeartbeats 4000000
namespace Go.Proofs.Ytbebhmdjnneimaa
open Go
attribute [local irreducible] W WL Fn Buf ROs SL eptr box Rd Src bndOK WD RB Reads In Own sameL doM
theorem flat_same {α : Type} {f : α → List Value} {L : List α} {i : Nat} {a b : α} (h : L[i]? = some a) (e : f b = f a) : (L.set i b).flatMap f = L.flatMap f := by
  rw [List.flatMap_def, List.flatMap_def, List.map_set, e]
  congr 1
  apply List.ext_getElem?
  intro j
  rw [List.getElem?_set]
  split
  · rename_i hij
    subst hij
    have hi := (List.getElem?_eq_some_iff.1 h).1
    rw [if_pos (by rw [List.length_map]; exact hi), List.getElem?_map, h]
    rfl
  · rfl
theorem ModlOwn_fn (ρ : Hp) (v0 : Value) (z0 : List Int) (r0 : ROs ρ 1 v0 (z0.map (Value.int .i64))) (m0 : ∀ n ∈ z0, (Lit.int .i64 n).wf = true) (y0 : z0.length * 8 ≤ 140737488351232) (a1 : Int) (w1 : (Lit.int .i64 a1).wf = true) :
    Fn Try.prog 5 #[v0, .int .i64 a1] ρ [] (fun r _ => r = .bool true) := by
  have s0 := r0.slm
  obtain ⟨f, hopf⟩ : ∃ f : Int → Int → MOp, ∀ (ρ : Hp) n a, Fn Try.prog 19 #[.int .i64 n, .int .i64 a] ρ [] (Just (.agg (opC (f n a)).toArray)) :=
    ⟨fun n a => Classical.choose (op_ex n a), fun ρ n a => Classical.choose_spec (op_ex n a) ρ⟩
  refine in5 rfl rfl ?_
  refine W.seq (W.region (WL.as rfl rfl (WL.nil (W.seq (W.region ?_)))))
  refine WL.alF (T := Ty) rfl rfl (by repeat' first | exact FL.nil | apply FL.cons) (fun b0 => ?_)
  refine WL.alF (T := Ty) rfl rfl (by repeat' first | exact FL.nil | apply FL.cons) (fun b1 => ?_)
  refine WL.nil (W.seq (W.seq (W.region (WL.as rfl rfl (WL.nil (W.block ?_))))))
  refine W.cutG2 (τ := Mdl × Value × Value × Value × Value) (fun s => [(1, .int .i64 a1), (4, .bool false), (5, pt b0 0), (6, pt b1 0)])
    (fun s => [box b0 [s.2.1, s.2.2.1, .int .i64 s.1.next] 31, box b1 [s.2.2.2.1, s.2.2.2.2, .int .i64 s.1.next] 31]) (fun s ρ' => MInv 60 s.1 ∧ RMdl ρ' (.agg #[s.2.1, s.2.2.1, .int .i64 s.1.next]) s.1 ∧ RMdl ρ' (.agg #[s.2.2.2.1, s.2.2.2.2, .int .i64 s.1.next]) s.1) ?_ (fun cut0 => ?_)
  · clear r0 m0 y0 s0 v0 z0
    rintro ⟨M, sv, iv, sw, iw⟩ ρ1 le1 ⟨hI, hM, hW⟩
    dsimp only at hI hM hW ⊢
    refine W.seq ?_
    have sx := hM
    refine W.cutG (τ := Mdl × Rst × Value × Value × Value × Nat × Nat) (fun s => [(4, .bool false), (5, pt b0 0), (6, pt b1 0), (8, pt s.2.2.2.2.2.1 0), (9, pt s.2.2.2.2.2.2 0)])
      (fun s => [box b0 [sv, iv, .int .i64 M.next] 31, box b1 [sw, iw, .int .i64 M.next] 31, box s.2.2.2.2.2.1 [s.2.2.1, s.2.2.2.1, .int .i64 s.1.next] 31, box s.2.2.2.2.2.2 [.int .i64 s.2.1.err, .int .i64 s.2.1.iter, s.2.2.2.2.1] 34, OMdl (.agg #[s.2.2.1, s.2.2.2.1, .int .i64 s.1.next]) s.1, ORst (.agg #[.int .i64 s.2.1.err, .int .i64 s.2.1.iter, s.2.2.2.2.1]) s.2.1])
      (fun s ρ' => MInv 61 s.1 ∧ s.2.1.list.length ≤ 60 ∧ SL s.2.2.1 s.1.ser.length ∧ SL s.2.2.2.1 s.1.its.length ∧ SL s.2.2.2.2.1 s.2.1.list.length) ?_ (fun cut2 => ?_)
    · rintro ⟨M1, R, sx, ix, lv, bx, by'⟩ ρ2 le2 ⟨hI1, hR, t1, t2, t3⟩
      dsimp only at hI1 hR t1 t2 t3 ⊢
      replace hW := hW.mono le2
      replace hM := hM.mono le2
      refine W.opens (α := List (Ser × Value) × List (Itr × Value)) (φ := fun x => x.1.map Prod.fst = M1.ser ∧ x.2.map Prod.fst = M1.its) (ps := fun x => [Buf 5 sx (x.1.flatMap serC), Buf 2 ix (x.2.flatMap itrC), Own owSer x.1, Own owItr x.2]) 4 rfl (fun h q => omdl_open q) (by repeat' first | exact FL.nil | apply FL.cons) ?_
      rintro ⟨L, K⟩ ⟨e1, e2⟩
      replace e1 : L.map Prod.fst = M1.ser := e1
      replace e2 : K.map Prod.fst = M1.its := e2
      refine W.parts (ps := [Buf 2 lv (R.list.flatMap smC)]) 8 rfl (fun h q => sepl_one.2 (orst_open q)) (by repeat' first | exact FL.nil | apply FL.cons) ?_
      refine W.seq (W.seq (W.region (WL.faN (T := Ty) (off' := 0) rfl rfl rfl rfl rfl rfl rfl (WL.ldN (T := Ty) (j := 7) rfl rfl rfl rfl rfl rfl ?_))))
      refine WL.len (T := Ty) rfl rfl (by assumption) rfl ?_
      refine WL.mv rfl rfl (WL.nil (W.block ?_))
      have hL : L.length = M1.ser.length := by rw [← e1, List.length_map]
      have hK : K.length = M1.its.length := by rw [← e2, List.length_map]
      refine W.cutG2 (τ := List (Ser × Value)) (fun s => [(4, .bool false), (5, pt b0 0), (6, pt b1 0), (8, pt bx 0), (9, pt by' 0)])
        (fun s => [Buf 2 lv (R.list.flatMap smC), Buf 2 ix (K.flatMap itrC), Own owItr K, box b0 [sv, iv, .int .i64 M.next] 31, box b1 [sw, iw, .int .i64 M.next] 31, box bx [sx, ix, .int .i64 M1.next] 31, box by' [.int .i64 R.err, .int .i64 R.iter, lv] 34])
        (fun s ρ' => True) ?_ (fun cut3 => ?_)
      · rintro _ ρ3 le3 _
        replace hW := hW.mono le3
        replace hM := hM.mono le3
        refine W.seq (W.seq (W.region (WL.faN (T := Ty) (off' := 1) rfl rfl rfl rfl rfl rfl rfl (WL.ldN (T := Ty) (j := 5) rfl rfl rfl rfl rfl rfl ?_))))
        refine WL.len (T := Ty) rfl rfl (by assumption) rfl ?_
        refine WL.mv rfl rfl (WL.nil (W.block ?_))
        refine W.cutG2 (τ := List (Itr × Value)) (fun s => [(4, .bool false), (5, pt b0 0), (6, pt b1 0), (8, pt bx 0), (9, pt by' 0)])
          (fun s => [Buf 2 lv (R.list.flatMap smC), box b0 [sv, iv, .int .i64 M.next] 31, box b1 [sw, iw, .int .i64 M.next] 31, box bx [sx, ix, .int .i64 M1.next] 31, box by' [.int .i64 R.err, .int .i64 R.iter, lv] 34])
          (fun s ρ' => True) ?_ (fun cut5 => ?_)
        · rintro _ ρ5 le5 _
          replace hW := hW.mono le5
          replace hM := hM.mono le5
          refine W.seq (W.seq (W.region (WL.faN (T := Ty) (off' := 2) rfl rfl rfl rfl rfl rfl rfl (WL.ldN (T := Ty) (j := 4) rfl rfl rfl rfl rfl rfl ?_))))
          refine WL.len (T := Ty) rfl rfl (by assumption) rfl ?_
          refine WL.mv rfl rfl (WL.nil (W.block ?_))
          refine W.cutG2 (τ := Unit) (fun s => [(4, .bool false), (5, pt b0 0), (6, pt b1 0)]) (fun s => [box b0 [sv, iv, .int .i64 M.next] 31, box b1 [sw, iw, .int .i64 M.next] 31]) (fun s ρ' => True) ?_ (fun cut7 => ?_)
          · rintro _ ρ7 le7 _
            replace hW := hW.mono le7
            replace hM := hM.mono le7
            refine W.seq (W.region ?_)
            refine WL.ldAF (T := Ty) (j := 0) rfl rfl rfl rfl rfl rfl (by repeat' first | exact FL.nil | apply FL.cons) ?_
            refine WL.ldAF (T := Ty) (j := 1) rfl rfl rfl rfl rfl rfl (by repeat' first | exact FL.nil | apply FL.cons) ?_
            refine WL.callV rfl rfl (fun x p d => rsame_c _ _ _ _ _ _ (by first | assumption | exact RMdl.wide (by assumption) | exact RMdl.mono (by assumption) (eqh_at 0 rfl p d) | exact (in_at 0 rfl p d).rmdl | exact (in_at 1 rfl p d).rmdl | exact (in_at 2 rfl p d).rmdl | exact (in_at 3 rfl p d).rmdl | exact (in_at 4 rfl p d).rmdl | exact (in_at 5 rfl p d).rmdl | exact (in_at 6 rfl p d).rmdl | exact (in_at 7 rfl p d).rmdl | exact (in_at 8 rfl p d).rmdl | exact (in_at 9 rfl p d).rmdl | exact (in_at 10 rfl p d).rmdl | exact (in_at 11 rfl p d).rmdl | exact (in_at 12 rfl p d).rmdl | exact (in_at 13 rfl p d).rmdl | exact (in_at 14 rfl p d).rmdl | exact (in_at 15 rfl p d).rmdl | exact (in_at 16 rfl p d).rmdl | exact (in_at 17 rfl p d).rmdl | exact (in_at 18 rfl p d).rmdl | exact (in_at 19 rfl p d).rmdl | exact (in_at 20 rfl p d).rmdl | exact (in_at 21 rfl p d).rmdl | exact (in_at 22 rfl p d).rmdl | exact (in_at 23 rfl p d).rmdl | exact (in_at 24 rfl p d).rmdl | exact (in_at 25 rfl p d).rmdl | exact (in_at 26 rfl p d).rmdl | exact (in_at 27 rfl p d).rmdl | exact (in_at 28 rfl p d).rmdl | exact (in_at 29 rfl p d).rmdl) (by first | assumption | exact RMdl.wide (by assumption) | exact RMdl.mono (by assumption) (eqh_at 0 rfl p d) | exact (in_at 0 rfl p d).rmdl | exact (in_at 1 rfl p d).rmdl | exact (in_at 2 rfl p d).rmdl | exact (in_at 3 rfl p d).rmdl | exact (in_at 4 rfl p d).rmdl | exact (in_at 5 rfl p d).rmdl | exact (in_at 6 rfl p d).rmdl | exact (in_at 7 rfl p d).rmdl | exact (in_at 8 rfl p d).rmdl | exact (in_at 9 rfl p d).rmdl | exact (in_at 10 rfl p d).rmdl | exact (in_at 11 rfl p d).rmdl | exact (in_at 12 rfl p d).rmdl | exact (in_at 13 rfl p d).rmdl | exact (in_at 14 rfl p d).rmdl | exact (in_at 15 rfl p d).rmdl | exact (in_at 16 rfl p d).rmdl | exact (in_at 17 rfl p d).rmdl | exact (in_at 18 rfl p d).rmdl | exact (in_at 19 rfl p d).rmdl | exact (in_at 20 rfl p d).rmdl | exact (in_at 21 rfl p d).rmdl | exact (in_at 22 rfl p d).rmdl | exact (in_at 23 rfl p d).rmdl | exact (in_at 24 rfl p d).rmdl | exact (in_at 25 rfl p d).rmdl | exact (in_at 26 rfl p d).rmdl | exact (in_at 27 rfl p d).rmdl | exact (in_at 28 rfl p d).rmdl | exact (in_at 29 rfl p d).rmdl) (by assumption) (by first | assumption | omega)) ?_
            refine WL.mv rfl rfl ?_
            rw [sameMdl_refl]
            refine WL.gY rfl rfl ?_
            refine WL.callV rfl rfl (fun x p d => awake14_c _) ?_
            refine WL.pickT rfl rfl rfl (WL.as rfl rfl (WL.nil ?_))
            exact W.fit (Hs' := []) (by (repeat' first | exact Sel.nil | refine Sel.cons 0 rfl ?_ | refine Sel.cons 1 rfl ?_ | refine Sel.cons 2 rfl ?_ | refine Sel.cons 3 rfl ?_ | refine Sel.cons 4 rfl ?_ | refine Sel.cons 5 rfl ?_ | refine Sel.cons 6 rfl ?_ | refine Sel.cons 7 rfl ?_ | refine Sel.cons 8 rfl ?_ | refine Sel.cons 9 rfl ?_ | refine Sel.cons 10 rfl ?_ | refine Sel.cons 11 rfl ?_ | refine Sel.cons 12 rfl ?_ | refine Sel.cons 13 rfl ?_ | refine Sel.cons 14 rfl ?_ | refine Sel.cons 15 rfl ?_ | refine Sel.cons 16 rfl ?_ | refine Sel.cons 17 rfl ?_)) (W.ret1 rfl rfl (fun h q => rfl))
          · refine W.loopR (σ := Nat × List Smp) (fun s => [(4, .bool false), (5, pt b0 0), (6, pt b1 0), (8, pt bx 0), (9, pt by' 0), (123, .int .i64 (R.list.length : Int)), (124, .int .i64 (s.1 : Int))])
              (fun s => [Buf 2 lv (s.2.flatMap smC), box b0 [sv, iv, .int .i64 M.next] 31, box b1 [sw, iw, .int .i64 M.next] 31, box bx [sx, ix, .int .i64 M1.next] 31, box by' [.int .i64 R.err, .int .i64 R.iter, lv] 34])
              (fun s ρ' => s.1 ≤ R.list.length ∧ s.2.length = R.list.length) (fun s => R.list.length - s.1)
              (0, R.list) ⟨rfl, rfl, rfl, rfl, rfl, rfl, rfl, trivial⟩ rfl ⟨Nat.zero_le _, rfl⟩ ?_
            rintro ⟨k, T⟩ ρ7 le7 ⟨hk, hT⟩ next7
            dsimp only at hk hT next7 ⊢
            by_cases hc7 : k < R.list.length
            · obtain ⟨⟨a, v⟩, ha⟩ : ∃ p, T[k]? = some p := ⟨_, List.getElem?_eq_getElem (by omega)⟩
              have d4 : (T.flatMap smC)[((k : Nat) : Int).toNat * 2]? = some (.int .i64 a) := flat_get (j := 0) sm_len ha rfl
              have l4 := sms_cells T
              have hset4 : (T.flatMap smC).set (((k : Nat) : Int).toNat * 2 + 0) (.int .i64 (IntKind.i64.wrap (a + 1))) = (T.set k (IntKind.i64.wrap (a + 1), v)).flatMap smC := flat_set (b := (IntKind.i64.wrap (a + 1), v)) (j := 0) sm_len ha (by omega) rfl
              rw [← hT] at t3
              refine W.seq (W.region (WL.lss rfl rfl rfl (WL.nil (W.seq (W.condpT rfl (by omega) (W.skip (W.seq (W.block (W.seq (W.region (WL.mv rfl rfl (WL.as rfl rfl (WL.nil ?_)))))))))))))
              refine W.region (WL.faN (T := Ty) (off' := 2) rfl rfl rfl rfl rfl rfl rfl (WL.ldN (T := Ty) (j := 4) rfl rfl rfl rfl rfl rfl (WL.mv rfl rfl ?_)))
              refine WL.ix (T := Ty) rfl rfl rfl (by assumption) rfl rfl (by omega) (by first | omega | decide +kernel) ?_
              refine WL.faEN (T := Ty) (off' := 0) rfl rfl rfl rfl rfl rfl rfl ?_
              refine WL.ldE (T := Ty) (j := 0) rfl rfl rfl rfl rfl (by assumption) ?_
              refine WL.add (K := .i64) rfl rfl rfl ?_
              refine WL.ix (T := Ty) rfl rfl rfl (by assumption) rfl rfl (by omega) (by first | omega | decide +kernel) ?_
              refine WL.faEN (T := Ty) (off' := 0) rfl rfl rfl rfl rfl rfl rfl ?_
              refine WL.stEF (T := Ty) (j := 0) rfl rfl rfl rfl rfl rfl (by first | assumption | omega | (simp only [List.length_set]; omega) | (simp; omega)) rfl (by repeat' first | exact FL.nil | apply FL.cons) ?_
              refine WL.nil (W.inBlock (W.region (WL.addK rfl rfl rfl (wrap_i64 ⟨by omega, by omega⟩) (WL.mv rfl rfl (WL.nil ?_)))))
              rw [hset4]
              refine W.sub ?_ (next7 ⟨k + 1, T.set k (IntKind.i64.wrap (a + 1), v)⟩ ρ7 (Le.refl _) ⟨by dsimp only; omega, by dsimp only; rw [List.length_set]; exact hT⟩ (by dsimp only; omega))
              exact ⟨rfl, rfl, rfl, rfl, rfl, rfl, rfl, trivial⟩
            · refine W.seq ?_
              refine W.region (WL.lss rfl rfl rfl (WL.nil (W.seq (W.condpF rfl (by omega) (W.exit rfl ?_)))))
              refine W.fit (by (repeat' first | exact Sel.nil | refine Sel.cons 0 rfl ?_ | refine Sel.cons 1 rfl ?_ | refine Sel.cons 2 rfl ?_ | refine Sel.cons 3 rfl ?_ | refine Sel.cons 4 rfl ?_ | refine Sel.cons 5 rfl ?_ | refine Sel.cons 6 rfl ?_ | refine Sel.cons 7 rfl ?_ | refine Sel.cons 8 rfl ?_ | refine Sel.cons 9 rfl ?_ | refine Sel.cons 10 rfl ?_ | refine Sel.cons 11 rfl ?_ | refine Sel.cons 12 rfl ?_ | refine Sel.cons 13 rfl ?_ | refine Sel.cons 14 rfl ?_ | refine Sel.cons 15 rfl ?_ | refine Sel.cons 16 rfl ?_ | refine Sel.cons 17 rfl ?_)) (W.sub ?_ (cut7 () ρ7 le7 trivial))
              exact ⟨rfl, rfl, rfl, trivial⟩
        · refine W.loopR (σ := Nat × List (Itr × Value)) (fun s => [(4, .bool false), (5, pt b0 0), (6, pt b1 0), (8, pt bx 0), (9, pt by' 0), (92, .int .i64 (M1.its.length : Int)), (93, .int .i64 (s.1 : Int))])
            (fun s => [Buf 2 lv (R.list.flatMap smC), Buf 2 ix (s.2.flatMap itrC), Own owItr s.2, box b0 [sv, iv, .int .i64 M.next] 31, box b1 [sw, iw, .int .i64 M.next] 31, box bx [sx, ix, .int .i64 M1.next] 31, box by' [.int .i64 R.err, .int .i64 R.iter, lv] 34])
            (fun s ρ' => s.1 ≤ M1.its.length ∧ s.2.length = M1.its.length ∧ ∀ p ∈ s.2, p.1.rest.length ≤ 61) (fun s => M1.its.length - s.1)
            (0, K) ⟨rfl, rfl, rfl, rfl, rfl, rfl, rfl, trivial⟩ rfl ⟨Nat.zero_le _, hK, ?_⟩ ?_
          · intro p hp
            exact hI1.rests p.1 (by rw [← e2]; exact List.mem_map_of_mem hp)
          rintro ⟨i, K⟩ ρ5 le5 ⟨hi, hK, hls⟩ next
          dsimp only at hi hK hls next ⊢
          have l1 : (K.flatMap itrC).length = K.length * 2 := flat_len itr_len K
          have hsl := hI1.its
          by_cases hc : i < M1.its.length
          · obtain ⟨⟨x, xv⟩, hx⟩ : ∃ p, K[i]? = some p := ⟨_, List.getElem?_eq_getElem (by omega)⟩
            have c4 : (K.flatMap itrC)[((i : Nat) : Int).toNat * 2 + 1]? = some xv := flat_get itr_len hx rfl
            have hxl := hls _ (List.mem_of_getElem? hx)
            dsimp only at hxl
            refine W.seq (W.region (WL.lss rfl rfl rfl (WL.nil (W.seq (W.condpT rfl (by omega) (W.skip (W.seq (W.block (W.seq (W.region (WL.mv rfl rfl (WL.as rfl rfl (WL.nil ?_)))))))))))))
            refine W.seq (W.region (WL.faN (T := Ty) (off' := 1) rfl rfl rfl rfl rfl rfl rfl (WL.ldN (T := Ty) (j := 5) rfl rfl rfl rfl rfl rfl (WL.mv rfl rfl ?_))))
            refine WL.ix (T := Ty) rfl rfl rfl (by assumption) rfl rfl (by omega) (by first | omega | decide +kernel) ?_
            refine WL.faEN (T := Ty) (off' := 1) rfl rfl rfl rfl rfl rfl rfl ?_
            refine WL.ldE (T := Ty) (j := 1) rfl rfl rfl rfl rfl (by assumption) ?_
            refine WL.parts (ps := [Buf 2 xv (x.rest.flatMap smC), Own owItr (K.eraseIdx i)]) 2 rfl (fun h q => own_out (f := owItr) hx q) (by repeat' first | exact FL.nil | apply FL.cons) ?_
            refine WL.fact (i := 0) rfl (fun h hb => Buf.sl hb (sms_cells _) (by omega)) (fun s4 => ?_)
            refine WL.len (T := Ty) rfl rfl (by assumption) rfl ?_
            refine WL.mv rfl rfl (WL.nil (W.block ?_))
            refine W.cutG2 (τ := List Smp) (fun s => [(4, .bool false), (5, pt b0 0), (6, pt b1 0), (8, pt bx 0), (9, pt by' 0), (92, .int .i64 (M1.its.length : Int)), (93, .int .i64 (i : Int))])
              (fun s => [Buf 2 xv (s.flatMap smC), Own owItr (K.eraseIdx i), Buf 2 lv (R.list.flatMap smC), Buf 2 ix (K.flatMap itrC), box b0 [sv, iv, .int .i64 M.next] 31, box b1 [sw, iw, .int .i64 M.next] 31, box bx [sx, ix, .int .i64 M1.next] 31, box by' [.int .i64 R.err, .int .i64 R.iter, lv] 34])
              (fun s ρ' => s.length ≤ 61) ?_ (fun cut6 => ?_)
            · rintro T ρ6 le6 hT
              refine W.inBlock (W.region (WL.addK rfl rfl rfl (wrap_i64 ⟨by omega, by omega⟩) (WL.mv rfl rfl (WL.nil ?_))))
              rw [← flat_same (f := itrC) (b := ({ x with rest := T }, xv)) hx rfl]
              refine W.two (r := Own owItr (K.set i ({ x with rest := T }, xv))) _ _ rfl (fun h q => own_in (f := owItr) hx q) ?_
              refine W.fit (by (repeat' first | exact Sel.nil | refine Sel.cons 0 rfl ?_ | refine Sel.cons 1 rfl ?_ | refine Sel.cons 2 rfl ?_ | refine Sel.cons 3 rfl ?_ | refine Sel.cons 4 rfl ?_ | refine Sel.cons 5 rfl ?_ | refine Sel.cons 6 rfl ?_ | refine Sel.cons 7 rfl ?_ | refine Sel.cons 8 rfl ?_ | refine Sel.cons 9 rfl ?_ | refine Sel.cons 10 rfl ?_ | refine Sel.cons 11 rfl ?_ | refine Sel.cons 12 rfl ?_ | refine Sel.cons 13 rfl ?_ | refine Sel.cons 14 rfl ?_ | refine Sel.cons 15 rfl ?_ | refine Sel.cons 16 rfl ?_ | refine Sel.cons 17 rfl ?_)) (W.sub ?_ (next ⟨i + 1, K.set i ({ x with rest := T }, xv)⟩ ρ6 le6 ⟨by dsimp only; omega, by dsimp only; rw [List.length_set]; exact hK, ?_⟩ (by dsimp only; omega)))
              · exact ⟨rfl, rfl, rfl, rfl, rfl, rfl, rfl, trivial⟩
              · intro p hp
                rcases List.mem_or_eq_of_mem_set hp with hp | rfl
                · exact hls p hp
                · exact hT
            · refine W.loopR (σ := Nat × List Smp) (fun s => [(4, .bool false), (5, pt b0 0), (6, pt b1 0), (8, pt bx 0), (9, pt by' 0), (12, .int .i64 (i : Int)), (92, .int .i64 (M1.its.length : Int)), (93, .int .i64 (i : Int)), (102, .int .i64 (x.rest.length : Int)), (103, .int .i64 (s.1 : Int))])
                (fun s => [Buf 2 xv (s.2.flatMap smC), Own owItr (K.eraseIdx i), Buf 2 lv (R.list.flatMap smC), Buf 2 ix (K.flatMap itrC), box b0 [sv, iv, .int .i64 M.next] 31, box b1 [sw, iw, .int .i64 M.next] 31, box bx [sx, ix, .int .i64 M1.next] 31, box by' [.int .i64 R.err, .int .i64 R.iter, lv] 34])
                (fun s ρ' => s.1 ≤ x.rest.length ∧ s.2.length = x.rest.length) (fun s => x.rest.length - s.1)
                (0, x.rest) ⟨rfl, rfl, rfl, rfl, rfl, rfl, rfl, rfl, rfl, rfl, trivial⟩ rfl ⟨Nat.zero_le _, rfl⟩ ?_
              rintro ⟨k, T⟩ ρ6 le6 ⟨hk, hT⟩ next6
              dsimp only at hk hT next6 ⊢
              by_cases hc6 : k < x.rest.length
              · obtain ⟨⟨a, v⟩, ha⟩ : ∃ p, T[k]? = some p := ⟨_, List.getElem?_eq_getElem (by omega)⟩
                have d4 : (T.flatMap smC)[((k : Nat) : Int).toNat * 2 + 1]? = some (.int .u64 v) := flat_get sm_len ha rfl
                have l4 := sms_cells T
                have hset4 : (T.flatMap smC).set (((k : Nat) : Int).toNat * 2 + 1) (.int .u64 (IntKind.u64.wrap (v + 1))) = (T.set k (a, IntKind.u64.wrap (v + 1))).flatMap smC := flat_set (b := (a, IntKind.u64.wrap (v + 1))) (j := 1) sm_len ha (by omega) rfl
                refine W.seq (W.region (WL.lss rfl rfl rfl (WL.nil (W.seq (W.condpT rfl (by omega) (W.skip (W.seq (W.block (W.seq (W.region (WL.mv rfl rfl (WL.as rfl rfl (WL.nil ?_)))))))))))))
                refine W.region (WL.faN (T := Ty) (off' := 1) rfl rfl rfl rfl rfl rfl rfl (WL.ldN (T := Ty) (j := 6) rfl rfl rfl rfl rfl rfl (WL.mv rfl rfl ?_)))
                refine WL.ix (T := Ty) rfl rfl rfl (by assumption) rfl rfl (by omega) (by first | omega | decide +kernel) ?_
                refine WL.faEN (T := Ty) (off' := 1) rfl rfl rfl rfl rfl rfl rfl ?_
                refine WL.ldE (T := Ty) (j := 3) rfl rfl rfl rfl rfl (by assumption) ?_
                refine WL.mv rfl rfl ?_
                refine WL.ix (T := Ty) rfl rfl rfl (by assumption) rfl rfl (by omega) (by first | omega | decide +kernel) ?_
                refine WL.faEN (T := Ty) (off' := 1) rfl rfl rfl rfl rfl rfl rfl ?_
                refine WL.ldE (T := Ty) (j := 0) rfl rfl rfl rfl rfl (by assumption) ?_
                refine WL.add (K := .u64) rfl rfl rfl ?_
                refine WL.ix (T := Ty) rfl rfl rfl (by assumption) rfl rfl (by omega) (by first | omega | decide +kernel) ?_
                refine WL.faEN (T := Ty) (off' := 1) rfl rfl rfl rfl rfl rfl rfl ?_
                refine WL.stEF (T := Ty) (j := 0) rfl rfl rfl rfl rfl rfl (by first | assumption | omega | (simp only [List.length_set]; omega) | (simp; omega)) rfl (by repeat' first | exact FL.nil | apply FL.cons) ?_
                refine WL.nil (W.inBlock (W.region (WL.addK rfl rfl rfl (wrap_i64 ⟨by omega, by omega⟩) (WL.mv rfl rfl (WL.nil ?_)))))
                rw [hset4]
                refine W.sub ?_ (next6 ⟨k + 1, T.set k (a, IntKind.u64.wrap (v + 1))⟩ ρ6 (Le.refl _) ⟨by dsimp only; omega, by dsimp only; rw [List.length_set]; exact hT⟩ (by dsimp only; omega))
                exact ⟨rfl, rfl, rfl, rfl, rfl, rfl, rfl, rfl, rfl, rfl, trivial⟩
              · refine W.seq ?_
                refine W.region (WL.lss rfl rfl rfl (WL.nil (W.seq (W.condpF rfl (by omega) (W.exit rfl ?_)))))
                refine W.fit (by (repeat' first | exact Sel.nil | refine Sel.cons 0 rfl ?_ | refine Sel.cons 1 rfl ?_ | refine Sel.cons 2 rfl ?_ | refine Sel.cons 3 rfl ?_ | refine Sel.cons 4 rfl ?_ | refine Sel.cons 5 rfl ?_ | refine Sel.cons 6 rfl ?_ | refine Sel.cons 7 rfl ?_ | refine Sel.cons 8 rfl ?_ | refine Sel.cons 9 rfl ?_ | refine Sel.cons 10 rfl ?_ | refine Sel.cons 11 rfl ?_ | refine Sel.cons 12 rfl ?_ | refine Sel.cons 13 rfl ?_ | refine Sel.cons 14 rfl ?_ | refine Sel.cons 15 rfl ?_ | refine Sel.cons 16 rfl ?_ | refine Sel.cons 17 rfl ?_)) (W.sub ?_ (cut6 T ρ6 le6 (by omega)))
                exact ⟨rfl, rfl, rfl, rfl, rfl, rfl, rfl, trivial⟩
          · refine W.seq ?_
            refine W.region (WL.lss rfl rfl rfl (WL.nil (W.seq (W.condpF rfl (by omega) (W.exit rfl ?_)))))
            refine W.fit (by (repeat' first | exact Sel.nil | refine Sel.cons 0 rfl ?_ | refine Sel.cons 1 rfl ?_ | refine Sel.cons 2 rfl ?_ | refine Sel.cons 3 rfl ?_ | refine Sel.cons 4 rfl ?_ | refine Sel.cons 5 rfl ?_ | refine Sel.cons 6 rfl ?_ | refine Sel.cons 7 rfl ?_ | refine Sel.cons 8 rfl ?_ | refine Sel.cons 9 rfl ?_ | refine Sel.cons 10 rfl ?_ | refine Sel.cons 11 rfl ?_ | refine Sel.cons 12 rfl ?_ | refine Sel.cons 13 rfl ?_ | refine Sel.cons 14 rfl ?_ | refine Sel.cons 15 rfl ?_ | refine Sel.cons 16 rfl ?_ | refine Sel.cons 17 rfl ?_)) (W.sub ?_ (cut5 K ρ5 le5 trivial))
            exact ⟨rfl, rfl, rfl, rfl, rfl, trivial⟩
      · refine W.loopR (σ := Nat × List (Ser × Value)) (fun s => [(4, .bool false), (5, pt b0 0), (6, pt b1 0), (8, pt bx 0), (9, pt by' 0), (56, .int .i64 (M1.ser.length : Int)), (57, .int .i64 (s.1 : Int))])
          (fun s => [Buf 2 lv (R.list.flatMap smC), Buf 5 sx (s.2.flatMap serC), Buf 2 ix (K.flatMap itrC), Own owSer s.2, Own owItr K, box b0 [sv, iv, .int .i64 M.next] 31, box b1 [sw, iw, .int .i64 M.next] 31, box bx [sx, ix, .int .i64 M1.next] 31, box by' [.int .i64 R.err, .int .i64 R.iter, lv] 34])
          (fun s ρ' => s.1 ≤ M1.ser.length ∧ s.2.length = M1.ser.length ∧ ∀ p ∈ s.2, p.1.list.length ≤ 61) (fun s => M1.ser.length - s.1)
          (0, L) ⟨rfl, rfl, rfl, rfl, rfl, rfl, rfl, trivial⟩ rfl ⟨Nat.zero_le _, hL, ?_⟩ ?_
        · intro p hp
          exact hI1.lens p.1 (by rw [← e1]; exact List.mem_map_of_mem hp)
        rintro ⟨i, L⟩ ρ3 le3 ⟨hi, hL, hls⟩ next
        dsimp only at hi hL hls next ⊢
        have l1 := ser_cells L
        by_cases hc : i < M1.ser.length
        · obtain ⟨⟨x, xv⟩, hx⟩ : ∃ p, L[i]? = some p := ⟨_, List.getElem?_eq_getElem (by omega)⟩
          have hset : (L.flatMap serC).set (((i : Nat) : Int).toNat * 5 + 3) (.int .i64 777) = (L.set i ({ x with last := 777 }, xv)).flatMap serC := flat_set (b := ({ x with last := 777 }, xv)) (v := .int .i64 777) (j := 3) ser_len hx (by omega) rfl
          have hx' : (L.set i ({ x with last := 777 }, xv))[i]? = some ({ x with last := 777 }, xv) := by rw [List.getElem?_set_self (by omega)]
          have c4 : ((L.set i ({ x with last := 777 }, xv)).flatMap serC)[((i : Nat) : Int).toNat * 5 + 4]? = some xv := flat_get ser_len hx' rfl
          have l2 := ser_cells (L.set i ({ x with last := 777 }, xv))
          have l3 : (L.set i ({ x with last := 777 }, xv)).length = L.length := List.length_set
          have hxl := hls _ (List.mem_of_getElem? hx)
          dsimp only at hxl
          refine W.seq (W.region (WL.lss rfl rfl rfl (WL.nil (W.seq (W.condpT rfl (by omega) (W.skip (W.seq (W.block (W.seq (W.region (WL.mv rfl rfl (WL.as rfl rfl (WL.nil ?_)))))))))))))
          refine W.seq (W.region (WL.faN (T := Ty) (off' := 0) rfl rfl rfl rfl rfl rfl rfl (WL.ldN (T := Ty) (j := 7) rfl rfl rfl rfl rfl rfl (WL.mv rfl rfl ?_))))
          refine WL.ix (T := Ty) rfl rfl rfl (by assumption) rfl rfl (by omega) (by first | omega | decide +kernel) ?_
          refine WL.faEN (T := Ty) (off' := 3) rfl rfl rfl rfl rfl rfl rfl ?_
          refine WL.stEF (T := Ty) (j := 1) rfl rfl rfl rfl rfl rfl (by first | assumption | omega | (simp only [List.length_set]; omega) | (simp; omega)) rfl (by repeat' first | exact FL.nil | apply FL.cons) ?_
          refine WL.nil (W.seq (W.region (WL.faN (T := Ty) (off' := 0) rfl rfl rfl rfl rfl rfl rfl (WL.ldN (T := Ty) (j := 7) rfl rfl rfl rfl rfl rfl (WL.mv rfl rfl ?_)))))
          refine WL.ix (T := Ty) rfl rfl rfl (by assumption) rfl rfl (by omega) (by first | omega | decide +kernel) ?_
          refine WL.faEN (T := Ty) (off' := 4) rfl rfl rfl rfl rfl rfl rfl ?_
          rw [hset]
          refine WL.parts (ps := [Buf 2 xv (x.list.flatMap smC), Own owSer ((L.set i ({ x with last := 777 }, xv)).eraseIdx i)]) 3 rfl (fun h q => own_out (f := owSer) hx' (own_upd (f := owSer) (a := ({ x with last := 777 }, xv)) hx rfl q)) (by repeat' first | exact FL.nil | apply FL.cons) ?_
          refine WL.fact (i := 0) rfl (fun h hb => Buf.sl hb (sms_cells _) (by omega)) (fun s4 => ?_)
          refine WL.ldE (T := Ty) (j := 3) rfl rfl rfl rfl rfl (by assumption) ?_
          refine WL.len (T := Ty) rfl rfl (by assumption) rfl ?_
          refine WL.mv rfl rfl (WL.nil (W.block ?_))
          refine W.cutG2 (τ := List Smp) (fun s => [(4, .bool false), (5, pt b0 0), (6, pt b1 0), (8, pt bx 0), (9, pt by' 0), (56, .int .i64 (M1.ser.length : Int)), (57, .int .i64 (i : Int))])
            (fun s => [Buf 2 xv (s.flatMap smC), Own owSer ((L.set i ({ x with last := 777 }, xv)).eraseIdx i), Buf 2 lv (R.list.flatMap smC), Buf 5 sx ((L.set i ({ x with last := 777 }, xv)).flatMap serC), Buf 2 ix (K.flatMap itrC), Own owItr K, box b0 [sv, iv, .int .i64 M.next] 31, box b1 [sw, iw, .int .i64 M.next] 31, box bx [sx, ix, .int .i64 M1.next] 31, box by' [.int .i64 R.err, .int .i64 R.iter, lv] 34])
            (fun s ρ' => s.length ≤ 61) ?_ (fun cut4 => ?_)
          · rintro T ρ4 le4 hT
            have hsl := hI1.sers
            refine W.inBlock (W.region (WL.addK rfl rfl rfl (wrap_i64 ⟨by omega, by omega⟩) (WL.mv rfl rfl (WL.nil ?_))))
            rw [← flat_same (f := serC) (b := ({ x with last := 777, list := T }, xv)) hx' rfl]
            refine W.two (r := Own owSer ((L.set i ({ x with last := 777 }, xv)).set i ({ x with last := 777, list := T }, xv))) _ _ rfl (fun h q => own_in (f := owSer) hx' q) ?_
            refine W.fit (by (repeat' first | exact Sel.nil | refine Sel.cons 0 rfl ?_ | refine Sel.cons 1 rfl ?_ | refine Sel.cons 2 rfl ?_ | refine Sel.cons 3 rfl ?_ | refine Sel.cons 4 rfl ?_ | refine Sel.cons 5 rfl ?_ | refine Sel.cons 6 rfl ?_ | refine Sel.cons 7 rfl ?_ | refine Sel.cons 8 rfl ?_ | refine Sel.cons 9 rfl ?_ | refine Sel.cons 10 rfl ?_ | refine Sel.cons 11 rfl ?_ | refine Sel.cons 12 rfl ?_ | refine Sel.cons 13 rfl ?_ | refine Sel.cons 14 rfl ?_ | refine Sel.cons 15 rfl ?_ | refine Sel.cons 16 rfl ?_ | refine Sel.cons 17 rfl ?_)) (W.sub ?_ (next ⟨i + 1, (L.set i ({ x with last := 777 }, xv)).set i ({ x with last := 777, list := T }, xv)⟩ ρ4 le4 ⟨by dsimp only; omega, by dsimp only; rw [List.length_set, List.length_set]; exact hL, ?_⟩ (by dsimp only; omega)))
            · exact ⟨rfl, rfl, rfl, rfl, rfl, rfl, rfl, trivial⟩
            · intro p hp
              rcases List.mem_or_eq_of_mem_set hp with hp | rfl
              · rcases List.mem_or_eq_of_mem_set hp with hp | rfl
                · exact hls p hp
                · exact hxl
              · exact hT
          · refine W.loopR (σ := Nat × List Smp) (fun s => [(4, .bool false), (5, pt b0 0), (6, pt b1 0), (8, pt bx 0), (9, pt by' 0), (10, .int .i64 (i : Int)), (56, .int .i64 (M1.ser.length : Int)), (57, .int .i64 (i : Int)), (71, .int .i64 (x.list.length : Int)), (72, .int .i64 (s.1 : Int))])
              (fun s => [Buf 2 xv (s.2.flatMap smC), Own owSer ((L.set i ({ x with last := 777 }, xv)).eraseIdx i), Buf 2 lv (R.list.flatMap smC), Buf 5 sx ((L.set i ({ x with last := 777 }, xv)).flatMap serC), Buf 2 ix (K.flatMap itrC), Own owItr K, box b0 [sv, iv, .int .i64 M.next] 31, box b1 [sw, iw, .int .i64 M.next] 31, box bx [sx, ix, .int .i64 M1.next] 31, box by' [.int .i64 R.err, .int .i64 R.iter, lv] 34])
              (fun s ρ' => s.1 ≤ x.list.length ∧ s.2.length = x.list.length) (fun s => x.list.length - s.1)
              (0, x.list) ⟨rfl, rfl, rfl, rfl, rfl, rfl, rfl, rfl, rfl, rfl, trivial⟩ rfl ⟨Nat.zero_le _, rfl⟩ ?_
            rintro ⟨k, T⟩ ρ4 le4 ⟨hk, hT⟩ next4
            dsimp only at hk hT next4 ⊢
            by_cases hc4 : k < x.list.length
            · obtain ⟨⟨a, v⟩, ha⟩ : ∃ p, T[k]? = some p := ⟨_, List.getElem?_eq_getElem (by omega)⟩
              have d4 : (T.flatMap smC)[((k : Nat) : Int).toNat * 2 + 1]? = some (.int .u64 v) := flat_get sm_len ha rfl
              have l4 := sms_cells T
              have hset4 : (T.flatMap smC).set (((k : Nat) : Int).toNat * 2 + 1) (.int .u64 (IntKind.u64.wrap (v + 1))) = (T.set k (a, IntKind.u64.wrap (v + 1))).flatMap smC := flat_set (b := (a, IntKind.u64.wrap (v + 1))) (j := 1) sm_len ha (by omega) rfl
              refine W.seq (W.region (WL.lss rfl rfl rfl (WL.nil (W.seq (W.condpT rfl (by omega) (W.skip (W.seq (W.block (W.seq (W.region (WL.mv rfl rfl (WL.as rfl rfl (WL.nil ?_)))))))))))))
              refine W.region (WL.faN (T := Ty) (off' := 0) rfl rfl rfl rfl rfl rfl rfl (WL.ldN (T := Ty) (j := 8) rfl rfl rfl rfl rfl rfl (WL.mv rfl rfl ?_)))
              refine WL.ix (T := Ty) rfl rfl rfl (by assumption) rfl rfl (by omega) (by first | omega | decide +kernel) ?_
              refine WL.faEN (T := Ty) (off' := 4) rfl rfl rfl rfl rfl rfl rfl ?_
              refine WL.ldE (T := Ty) (j := 3) rfl rfl rfl rfl rfl (by assumption) ?_
              refine WL.mv rfl rfl ?_
              refine WL.ix (T := Ty) rfl rfl rfl (by assumption) rfl rfl (by omega) (by first | omega | decide +kernel) ?_
              refine WL.faEN (T := Ty) (off' := 1) rfl rfl rfl rfl rfl rfl rfl ?_
              refine WL.ldE (T := Ty) (j := 0) rfl rfl rfl rfl rfl (by assumption) ?_
              refine WL.add (K := .u64) rfl rfl rfl ?_
              refine WL.ix (T := Ty) rfl rfl rfl (by assumption) rfl rfl (by omega) (by first | omega | decide +kernel) ?_
              refine WL.faEN (T := Ty) (off' := 1) rfl rfl rfl rfl rfl rfl rfl ?_
              refine WL.stEF (T := Ty) (j := 0) rfl rfl rfl rfl rfl rfl (by first | assumption | omega | (simp only [List.length_set]; omega) | (simp; omega)) rfl (by repeat' first | exact FL.nil | apply FL.cons) ?_
              refine WL.nil (W.inBlock (W.region (WL.addK rfl rfl rfl (wrap_i64 ⟨by omega, by omega⟩) (WL.mv rfl rfl (WL.nil ?_)))))
              rw [hset4]
              refine W.sub ?_ (next4 ⟨k + 1, T.set k (a, IntKind.u64.wrap (v + 1))⟩ ρ4 (Le.refl _) ⟨by dsimp only; omega, by dsimp only; rw [List.length_set]; exact hT⟩ (by dsimp only; omega))
              exact ⟨rfl, rfl, rfl, rfl, rfl, rfl, rfl, rfl, rfl, rfl, trivial⟩
            · refine W.seq ?_
              refine W.region (WL.lss rfl rfl rfl (WL.nil (W.seq (W.condpF rfl (by omega) (W.exit rfl ?_)))))
              refine W.fit (by (repeat' first | exact Sel.nil | refine Sel.cons 0 rfl ?_ | refine Sel.cons 1 rfl ?_ | refine Sel.cons 2 rfl ?_ | refine Sel.cons 3 rfl ?_ | refine Sel.cons 4 rfl ?_ | refine Sel.cons 5 rfl ?_ | refine Sel.cons 6 rfl ?_ | refine Sel.cons 7 rfl ?_ | refine Sel.cons 8 rfl ?_ | refine Sel.cons 9 rfl ?_ | refine Sel.cons 10 rfl ?_ | refine Sel.cons 11 rfl ?_ | refine Sel.cons 12 rfl ?_ | refine Sel.cons 13 rfl ?_ | refine Sel.cons 14 rfl ?_ | refine Sel.cons 15 rfl ?_ | refine Sel.cons 16 rfl ?_ | refine Sel.cons 17 rfl ?_)) (W.sub ?_ (cut4 T ρ4 le4 (by omega)))
              exact ⟨rfl, rfl, rfl, rfl, rfl, rfl, rfl, trivial⟩
        · refine W.seq ?_
          refine W.region (WL.lss rfl rfl rfl (WL.nil (W.seq (W.condpF rfl (by omega) (W.exit rfl ?_)))))
          refine W.fit (by (repeat' first | exact Sel.nil | refine Sel.cons 0 rfl ?_ | refine Sel.cons 1 rfl ?_ | refine Sel.cons 2 rfl ?_ | refine Sel.cons 3 rfl ?_ | refine Sel.cons 4 rfl ?_ | refine Sel.cons 5 rfl ?_ | refine Sel.cons 6 rfl ?_ | refine Sel.cons 7 rfl ?_ | refine Sel.cons 8 rfl ?_ | refine Sel.cons 9 rfl ?_ | refine Sel.cons 10 rfl ?_ | refine Sel.cons 11 rfl ?_ | refine Sel.cons 12 rfl ?_ | refine Sel.cons 13 rfl ?_ | refine Sel.cons 14 rfl ?_ | refine Sel.cons 15 rfl ?_ | refine Sel.cons 16 rfl ?_ | refine Sel.cons 17 rfl ?_)) (W.sub ?_ (cut3 L ρ3 le3 trivial))
          exact ⟨rfl, rfl, rfl, rfl, rfl, trivial⟩
    · refine W.drawA 10 rfl (fun σ0 hσ0 dσ0 => ?_)
      have fσ0_0 := rb_at 0 rfl hσ0 dσ0
      have fσ0_1 := rb_at 1 rfl hσ0 dσ0
      refine WD.takeL 0 rfl (by decide +kernel) ?_
      refine WL.ldABF (T := Ty) rfl rfl rfl rfl (by first | assumption | exact RB.wide (by assumption) | exact In.rb (by assumption)) rfl (by repeat' first | exact FL.nil | apply FL.cons) ?_
      refine WL.nilT (WD.takeL 1 rfl (by decide +kernel) (WL.mv rfl rfl (WL.nilT ?_)))
      refine WD.threeL 2 7 8 rfl rfl rfl (by decide +kernel) ?_ ?_ ?_
      · refine WL.callV rfl rfl (fun x p d => hopf _ _ _) ?_
        refine WL.nilE ?_
        refine WD.threeL 3 7 8 rfl rfl rfl (by decide +kernel) ?_ ?_ ?_
        · refine WL.callF rfl rfl (fun x p d => doX_c _ _ _ _ _ _ _ _ _ _ _ _ (by first | assumption | exact RMdl.wide (by assumption) | exact RMdl.mono (by assumption) (eqh_at 0 rfl p d) | exact (in_at 0 rfl p d).rmdl | exact (in_at 1 rfl p d).rmdl | exact (in_at 2 rfl p d).rmdl | exact (in_at 3 rfl p d).rmdl | exact (in_at 4 rfl p d).rmdl | exact (in_at 5 rfl p d).rmdl | exact (in_at 6 rfl p d).rmdl | exact (in_at 7 rfl p d).rmdl | exact (in_at 8 rfl p d).rmdl | exact (in_at 9 rfl p d).rmdl | exact (in_at 10 rfl p d).rmdl | exact (in_at 11 rfl p d).rmdl | exact (in_at 12 rfl p d).rmdl | exact (in_at 13 rfl p d).rmdl | exact (in_at 14 rfl p d).rmdl | exact (in_at 15 rfl p d).rmdl | exact (in_at 16 rfl p d).rmdl | exact (in_at 17 rfl p d).rmdl | exact (in_at 18 rfl p d).rmdl | exact (in_at 19 rfl p d).rmdl | exact (in_at 20 rfl p d).rmdl | exact (in_at 21 rfl p d).rmdl | exact (in_at 22 rfl p d).rmdl | exact (in_at 23 rfl p d).rmdl | exact (in_at 24 rfl p d).rmdl | exact (in_at 25 rfl p d).rmdl | exact (in_at 26 rfl p d).rmdl | exact (in_at 27 rfl p d).rmdl | exact (in_at 28 rfl p d).rmdl | exact (in_at 29 rfl p d).rmdl) (by assumption) (by first | assumption | omega)) (fun r2 => ?_)
          refine WL.opens (α := (Value × Value × Value)) (φ := fun x => r2 = .tuple #[.agg #[x.1, x.2.1, .int .i64 _], .agg #[.int .i64 _, .int .i64 _, x.2.2]] ∧ SL x.1 _ ∧ SL x.2.1 _ ∧ SL x.2.2 _) (ps := fun x => [OMdl (.agg #[x.1, x.2.1, .int .i64 _]) _, ORst (.agg #[.int .i64 _, .int .i64 _, x.2.2]) _]) 0 rfl (fun h q => DoR.open q) (by repeat' first | exact FL.nil | apply FL.cons) ?_
          rintro ⟨sv2, iv2, u2⟩ ⟨es2, sa2, sb2, sc2⟩
          subst es2
          dsimp only [List.cons_append, List.nil_append] at sa2 sb2 sc2 ⊢
          refine WL.nilSS (WD.takeL 4 rfl (by decide +kernel) (WL.mv rfl rfl (WL.nilT (WD.takeL 5 rfl (by decide +kernel) (WL.extL rfl rfl rfl (WL.nilT (WD.takeL 6 rfl (by decide +kernel) (WL.extL rfl rfl rfl (WL.nilT ?_)))))))))
          refine WD.twoL 7 8 rfl rfl (by decide +kernel) ?_ ?_
          · refine WL.alF (T := Ty) rfl rfl (by repeat' first | exact FL.nil | apply FL.cons) (fun b3 => ?_)
            refine WL.nilS (WD.oneL 8 rfl (by decide +kernel) ?_)
            refine WL.alF (T := Ty) rfl rfl (by repeat' first | exact FL.nil | apply FL.cons) (fun b4 => ?_)
            refine WL.nilS (WD.oneL 9 rfl (by decide +kernel) ?_)
            refine WL.stAO (T := Ty) (j := 2) rfl rfl rfl rfl (by repeat' first | exact AO.nil | apply AO.cons (by first | rfl | exact SL.one (by assumption))) rfl rfl (by repeat' first | exact FL.nil | apply FL.cons) (by repeat' first | exact FL.nil | apply FL.cons) ?_
            refine WL.nilE ?_
            refine WD.lastG hσ0 (by decide +kernel) (by repeat' first | exact FL.nil | apply FL.cons) rfl (by repeat' first | exact FL.nil | apply FL.cons) ?_
            refine WL.stAO (T := Ty) (j := 2) rfl rfl rfl rfl (by repeat' first | exact AO.nil | apply AO.cons (by first | rfl | exact SL.one (by assumption))) rfl rfl (by repeat' first | exact FL.nil | apply FL.cons) (by repeat' first | exact FL.nil | apply FL.cons) ?_
            refine WL.nil ?_
            refine W.fit (Hs' := [box b0 _ _, box b1 _ _, box _ _ 31, box _ _ 34, OMdl _ _, ORst _ _]) (by (repeat' first | exact Sel.nil | refine Sel.cons 0 rfl ?_ | refine Sel.cons 1 rfl ?_ | refine Sel.cons 2 rfl ?_ | refine Sel.cons 3 rfl ?_ | refine Sel.cons 4 rfl ?_ | refine Sel.cons 5 rfl ?_ | refine Sel.cons 6 rfl ?_ | refine Sel.cons 7 rfl ?_ | refine Sel.cons 8 rfl ?_ | refine Sel.cons 9 rfl ?_ | refine Sel.cons 10 rfl ?_ | refine Sel.cons 11 rfl ?_ | refine Sel.cons 12 rfl ?_ | refine Sel.cons 13 rfl ?_ | refine Sel.cons 14 rfl ?_ | refine Sel.cons 15 rfl ?_ | refine Sel.cons 16 rfl ?_ | refine Sel.cons 17 rfl ?_)) ?_
            refine W.sub ?_ (cut2 ⟨_, _, _, _, _, _, _⟩ ρ1 (Le.refl _) ⟨doM_inv hI _, rst_len hI _, by assumption, by assumption, by assumption⟩)
            exact ⟨rfl, rfl, rfl, rfl, rfl, trivial⟩
          · refine WL.alF (T := Ty) rfl rfl (by repeat' first | exact FL.nil | apply FL.cons) (fun b3 => ?_)
            refine WL.nilS (WD.oneL 7 rfl (by decide +kernel) ?_)
            refine WL.alF (T := Ty) rfl rfl (by repeat' first | exact FL.nil | apply FL.cons) (fun b4 => ?_)
            refine WL.nilS (WD.oneL 9 rfl (by decide +kernel) ?_)
            refine WL.stAO (T := Ty) (j := 1) rfl rfl rfl rfl (by repeat' first | exact AO.nil | apply AO.cons (by first | rfl | exact SL.one (by assumption))) rfl rfl (by repeat' first | exact FL.nil | apply FL.cons) (by repeat' first | exact FL.nil | apply FL.cons) ?_
            refine WL.nilE ?_
            refine WD.lastG hσ0 (by decide +kernel) (by repeat' first | exact FL.nil | apply FL.cons) rfl (by repeat' first | exact FL.nil | apply FL.cons) ?_
            refine WL.stAO (T := Ty) (j := 3) rfl rfl rfl rfl (by repeat' first | exact AO.nil | apply AO.cons (by first | rfl | exact SL.one (by assumption))) rfl rfl (by repeat' first | exact FL.nil | apply FL.cons) (by repeat' first | exact FL.nil | apply FL.cons) ?_
            refine WL.nil ?_
            refine W.fit (Hs' := [box b0 _ _, box b1 _ _, box _ _ 31, box _ _ 34, OMdl _ _, ORst _ _]) (by (repeat' first | exact Sel.nil | refine Sel.cons 0 rfl ?_ | refine Sel.cons 1 rfl ?_ | refine Sel.cons 2 rfl ?_ | refine Sel.cons 3 rfl ?_ | refine Sel.cons 4 rfl ?_ | refine Sel.cons 5 rfl ?_ | refine Sel.cons 6 rfl ?_ | refine Sel.cons 7 rfl ?_ | refine Sel.cons 8 rfl ?_ | refine Sel.cons 9 rfl ?_ | refine Sel.cons 10 rfl ?_ | refine Sel.cons 11 rfl ?_ | refine Sel.cons 12 rfl ?_ | refine Sel.cons 13 rfl ?_ | refine Sel.cons 14 rfl ?_ | refine Sel.cons 15 rfl ?_ | refine Sel.cons 16 rfl ?_ | refine Sel.cons 17 rfl ?_)) ?_
            refine W.sub ?_ (cut2 ⟨_, _, _, _, _, _, _⟩ ρ1 (Le.refl _) ⟨doM_inv hI _, rst_len hI _, by assumption, by assumption, by assumption⟩)
            exact ⟨rfl, rfl, rfl, rfl, rfl, trivial⟩
        · refine WL.alF (T := Ty) rfl rfl (by repeat' first | exact FL.nil | apply FL.cons) (fun b2 => ?_)
          refine WL.nilS ?_
          refine WD.twoL 3 8 rfl rfl (by decide +kernel) ?_ ?_
          · refine WL.callF rfl rfl (fun x p d => doX_c _ _ _ _ _ _ _ _ _ _ _ _ (by first | assumption | exact RMdl.wide (by assumption) | exact RMdl.mono (by assumption) (eqh_at 0 rfl p d) | exact (in_at 0 rfl p d).rmdl | exact (in_at 1 rfl p d).rmdl | exact (in_at 2 rfl p d).rmdl | exact (in_at 3 rfl p d).rmdl | exact (in_at 4 rfl p d).rmdl | exact (in_at 5 rfl p d).rmdl | exact (in_at 6 rfl p d).rmdl | exact (in_at 7 rfl p d).rmdl | exact (in_at 8 rfl p d).rmdl | exact (in_at 9 rfl p d).rmdl | exact (in_at 10 rfl p d).rmdl | exact (in_at 11 rfl p d).rmdl | exact (in_at 12 rfl p d).rmdl | exact (in_at 13 rfl p d).rmdl | exact (in_at 14 rfl p d).rmdl | exact (in_at 15 rfl p d).rmdl | exact (in_at 16 rfl p d).rmdl | exact (in_at 17 rfl p d).rmdl | exact (in_at 18 rfl p d).rmdl | exact (in_at 19 rfl p d).rmdl | exact (in_at 20 rfl p d).rmdl | exact (in_at 21 rfl p d).rmdl | exact (in_at 22 rfl p d).rmdl | exact (in_at 23 rfl p d).rmdl | exact (in_at 24 rfl p d).rmdl | exact (in_at 25 rfl p d).rmdl | exact (in_at 26 rfl p d).rmdl | exact (in_at 27 rfl p d).rmdl | exact (in_at 28 rfl p d).rmdl | exact (in_at 29 rfl p d).rmdl) (by assumption) (by first | assumption | omega)) (fun r3 => ?_)
            refine WL.opens (α := (Value × Value × Value)) (φ := fun x => r3 = .tuple #[.agg #[x.1, x.2.1, .int .i64 _], .agg #[.int .i64 _, .int .i64 _, x.2.2]] ∧ SL x.1 _ ∧ SL x.2.1 _ ∧ SL x.2.2 _) (ps := fun x => [OMdl (.agg #[x.1, x.2.1, .int .i64 _]) _, ORst (.agg #[.int .i64 _, .int .i64 _, x.2.2]) _]) 0 rfl (fun h q => DoR.open q) (by repeat' first | exact FL.nil | apply FL.cons) ?_
            rintro ⟨sv3, iv3, u3⟩ ⟨es3, sa3, sb3, sc3⟩
            subst es3
            dsimp only [List.cons_append, List.nil_append] at sa3 sb3 sc3 ⊢
            refine WL.nilSS (WD.takeL 4 rfl (by decide +kernel) (WL.mv rfl rfl (WL.nilT (WD.takeL 5 rfl (by decide +kernel) (WL.extL rfl rfl rfl (WL.nilT (WD.takeL 6 rfl (by decide +kernel) (WL.extL rfl rfl rfl (WL.nilT (WD.oneL 8 rfl (by decide +kernel) ?_))))))))))
            refine WL.alF (T := Ty) rfl rfl (by repeat' first | exact FL.nil | apply FL.cons) (fun b4 => ?_)
            refine WL.nilS (WD.oneL 9 rfl (by decide +kernel) ?_)
            refine WL.stAO (T := Ty) (j := 4) rfl rfl rfl rfl (by repeat' first | exact AO.nil | apply AO.cons (by first | rfl | exact SL.one (by assumption))) rfl rfl (by repeat' first | exact FL.nil | apply FL.cons) (by repeat' first | exact FL.nil | apply FL.cons) ?_
            refine WL.nilE ?_
            refine WD.lastG hσ0 (by decide +kernel) (by repeat' first | exact FL.nil | apply FL.cons) rfl (by repeat' first | exact FL.nil | apply FL.cons) ?_
            refine WL.stAO (T := Ty) (j := 2) rfl rfl rfl rfl (by repeat' first | exact AO.nil | apply AO.cons (by first | rfl | exact SL.one (by assumption))) rfl rfl (by repeat' first | exact FL.nil | apply FL.cons) (by repeat' first | exact FL.nil | apply FL.cons) ?_
            refine WL.nil ?_
            refine W.fit (Hs' := [box b0 _ _, box b1 _ _, box _ _ 31, box _ _ 34, OMdl _ _, ORst _ _]) (by (repeat' first | exact Sel.nil | refine Sel.cons 0 rfl ?_ | refine Sel.cons 1 rfl ?_ | refine Sel.cons 2 rfl ?_ | refine Sel.cons 3 rfl ?_ | refine Sel.cons 4 rfl ?_ | refine Sel.cons 5 rfl ?_ | refine Sel.cons 6 rfl ?_ | refine Sel.cons 7 rfl ?_ | refine Sel.cons 8 rfl ?_ | refine Sel.cons 9 rfl ?_ | refine Sel.cons 10 rfl ?_ | refine Sel.cons 11 rfl ?_ | refine Sel.cons 12 rfl ?_ | refine Sel.cons 13 rfl ?_ | refine Sel.cons 14 rfl ?_ | refine Sel.cons 15 rfl ?_ | refine Sel.cons 16 rfl ?_ | refine Sel.cons 17 rfl ?_)) ?_
            refine W.sub ?_ (cut2 ⟨_, _, _, _, _, _, _⟩ ρ1 (Le.refl _) ⟨doM_inv hI _, rst_len hI _, by assumption, by assumption, by assumption⟩)
            exact ⟨rfl, rfl, rfl, rfl, rfl, trivial⟩
          · refine WL.alF (T := Ty) rfl rfl (by repeat' first | exact FL.nil | apply FL.cons) (fun b3 => ?_)
            refine WL.nilS (WD.oneL 3 rfl (by decide +kernel) ?_)
            refine WL.callF rfl rfl (fun x p d => doX_c _ _ _ _ _ _ _ _ _ _ _ _ (by first | assumption | exact RMdl.wide (by assumption) | exact RMdl.mono (by assumption) (eqh_at 0 rfl p d) | exact (in_at 0 rfl p d).rmdl | exact (in_at 1 rfl p d).rmdl | exact (in_at 2 rfl p d).rmdl | exact (in_at 3 rfl p d).rmdl | exact (in_at 4 rfl p d).rmdl | exact (in_at 5 rfl p d).rmdl | exact (in_at 6 rfl p d).rmdl | exact (in_at 7 rfl p d).rmdl | exact (in_at 8 rfl p d).rmdl | exact (in_at 9 rfl p d).rmdl | exact (in_at 10 rfl p d).rmdl | exact (in_at 11 rfl p d).rmdl | exact (in_at 12 rfl p d).rmdl | exact (in_at 13 rfl p d).rmdl | exact (in_at 14 rfl p d).rmdl | exact (in_at 15 rfl p d).rmdl | exact (in_at 16 rfl p d).rmdl | exact (in_at 17 rfl p d).rmdl | exact (in_at 18 rfl p d).rmdl | exact (in_at 19 rfl p d).rmdl | exact (in_at 20 rfl p d).rmdl | exact (in_at 21 rfl p d).rmdl | exact (in_at 22 rfl p d).rmdl | exact (in_at 23 rfl p d).rmdl | exact (in_at 24 rfl p d).rmdl | exact (in_at 25 rfl p d).rmdl | exact (in_at 26 rfl p d).rmdl | exact (in_at 27 rfl p d).rmdl | exact (in_at 28 rfl p d).rmdl | exact (in_at 29 rfl p d).rmdl) (by assumption) (by first | assumption | omega)) (fun r4 => ?_)
            refine WL.opens (α := (Value × Value × Value)) (φ := fun x => r4 = .tuple #[.agg #[x.1, x.2.1, .int .i64 _], .agg #[.int .i64 _, .int .i64 _, x.2.2]] ∧ SL x.1 _ ∧ SL x.2.1 _ ∧ SL x.2.2 _) (ps := fun x => [OMdl (.agg #[x.1, x.2.1, .int .i64 _]) _, ORst (.agg #[.int .i64 _, .int .i64 _, x.2.2]) _]) 0 rfl (fun h q => DoR.open q) (by repeat' first | exact FL.nil | apply FL.cons) ?_
            rintro ⟨sv4, iv4, u4⟩ ⟨es4, sa4, sb4, sc4⟩
            subst es4
            dsimp only [List.cons_append, List.nil_append] at sa4 sb4 sc4 ⊢
            refine WL.nilSS (WD.takeL 4 rfl (by decide +kernel) (WL.mv rfl rfl (WL.nilT (WD.takeL 5 rfl (by decide +kernel) (WL.extL rfl rfl rfl (WL.nilT (WD.takeL 6 rfl (by decide +kernel) (WL.extL rfl rfl rfl (WL.nilT (WD.oneL 9 rfl (by decide +kernel) ?_))))))))))
            refine WL.stAO (T := Ty) (j := 4) rfl rfl rfl rfl (by repeat' first | exact AO.nil | apply AO.cons (by first | rfl | exact SL.one (by assumption))) rfl rfl (by repeat' first | exact FL.nil | apply FL.cons) (by repeat' first | exact FL.nil | apply FL.cons) ?_
            refine WL.nilE ?_
            refine WD.lastG hσ0 (by decide +kernel) (by repeat' first | exact FL.nil | apply FL.cons) rfl (by repeat' first | exact FL.nil | apply FL.cons) ?_
            refine WL.stAO (T := Ty) (j := 4) rfl rfl rfl rfl (by repeat' first | exact AO.nil | apply AO.cons (by first | rfl | exact SL.one (by assumption))) rfl rfl (by repeat' first | exact FL.nil | apply FL.cons) (by repeat' first | exact FL.nil | apply FL.cons) ?_
            refine WL.nil ?_
            refine W.fit (Hs' := [box b0 _ _, box b1 _ _, box _ _ 31, box _ _ 34, OMdl _ _, ORst _ _]) (by (repeat' first | exact Sel.nil | refine Sel.cons 0 rfl ?_ | refine Sel.cons 1 rfl ?_ | refine Sel.cons 2 rfl ?_ | refine Sel.cons 3 rfl ?_ | refine Sel.cons 4 rfl ?_ | refine Sel.cons 5 rfl ?_ | refine Sel.cons 6 rfl ?_ | refine Sel.cons 7 rfl ?_ | refine Sel.cons 8 rfl ?_ | refine Sel.cons 9 rfl ?_ | refine Sel.cons 10 rfl ?_ | refine Sel.cons 11 rfl ?_ | refine Sel.cons 12 rfl ?_ | refine Sel.cons 13 rfl ?_ | refine Sel.cons 14 rfl ?_ | refine Sel.cons 15 rfl ?_ | refine Sel.cons 16 rfl ?_ | refine Sel.cons 17 rfl ?_)) ?_
            refine W.sub ?_ (cut2 ⟨_, _, _, _, _, _, _⟩ ρ1 (Le.refl _) ⟨doM_inv hI _, rst_len hI _, by assumption, by assumption, by assumption⟩)
            exact ⟨rfl, rfl, rfl, rfl, rfl, trivial⟩
        · refine WL.alF (T := Ty) rfl rfl (by repeat' first | exact FL.nil | apply FL.cons) (fun b2 => ?_)
          refine WL.nilS ?_
          refine WD.twoL 3 7 rfl rfl (by decide +kernel) ?_ ?_
          · refine WL.callF rfl rfl (fun x p d => doX_c _ _ _ _ _ _ _ _ _ _ _ _ (by first | assumption | exact RMdl.wide (by assumption) | exact RMdl.mono (by assumption) (eqh_at 0 rfl p d) | exact (in_at 0 rfl p d).rmdl | exact (in_at 1 rfl p d).rmdl | exact (in_at 2 rfl p d).rmdl | exact (in_at 3 rfl p d).rmdl | exact (in_at 4 rfl p d).rmdl | exact (in_at 5 rfl p d).rmdl | exact (in_at 6 rfl p d).rmdl | exact (in_at 7 rfl p d).rmdl | exact (in_at 8 rfl p d).rmdl | exact (in_at 9 rfl p d).rmdl | exact (in_at 10 rfl p d).rmdl | exact (in_at 11 rfl p d).rmdl | exact (in_at 12 rfl p d).rmdl | exact (in_at 13 rfl p d).rmdl | exact (in_at 14 rfl p d).rmdl | exact (in_at 15 rfl p d).rmdl | exact (in_at 16 rfl p d).rmdl | exact (in_at 17 rfl p d).rmdl | exact (in_at 18 rfl p d).rmdl | exact (in_at 19 rfl p d).rmdl | exact (in_at 20 rfl p d).rmdl | exact (in_at 21 rfl p d).rmdl | exact (in_at 22 rfl p d).rmdl | exact (in_at 23 rfl p d).rmdl | exact (in_at 24 rfl p d).rmdl | exact (in_at 25 rfl p d).rmdl | exact (in_at 26 rfl p d).rmdl | exact (in_at 27 rfl p d).rmdl | exact (in_at 28 rfl p d).rmdl | exact (in_at 29 rfl p d).rmdl) (by assumption) (by first | assumption | omega)) (fun r3 => ?_)
            refine WL.opens (α := (Value × Value × Value)) (φ := fun x => r3 = .tuple #[.agg #[x.1, x.2.1, .int .i64 _], .agg #[.int .i64 _, .int .i64 _, x.2.2]] ∧ SL x.1 _ ∧ SL x.2.1 _ ∧ SL x.2.2 _) (ps := fun x => [OMdl (.agg #[x.1, x.2.1, .int .i64 _]) _, ORst (.agg #[.int .i64 _, .int .i64 _, x.2.2]) _]) 0 rfl (fun h q => DoR.open q) (by repeat' first | exact FL.nil | apply FL.cons) ?_
            rintro ⟨sv3, iv3, u3⟩ ⟨es3, sa3, sb3, sc3⟩
            subst es3
            dsimp only [List.cons_append, List.nil_append] at sa3 sb3 sc3 ⊢
            refine WL.nilSS (WD.takeL 4 rfl (by decide +kernel) (WL.mv rfl rfl (WL.nilT (WD.takeL 5 rfl (by decide +kernel) (WL.extL rfl rfl rfl (WL.nilT (WD.takeL 6 rfl (by decide +kernel) (WL.extL rfl rfl rfl (WL.nilT (WD.oneL 7 rfl (by decide +kernel) ?_))))))))))
            refine WL.alF (T := Ty) rfl rfl (by repeat' first | exact FL.nil | apply FL.cons) (fun b4 => ?_)
            refine WL.nilS (WD.oneL 9 rfl (by decide +kernel) ?_)
            refine WL.stAO (T := Ty) (j := 1) rfl rfl rfl rfl (by repeat' first | exact AO.nil | apply AO.cons (by first | rfl | exact SL.one (by assumption))) rfl rfl (by repeat' first | exact FL.nil | apply FL.cons) (by repeat' first | exact FL.nil | apply FL.cons) ?_
            refine WL.nilE ?_
            refine WD.lastG hσ0 (by decide +kernel) (by repeat' first | exact FL.nil | apply FL.cons) rfl (by repeat' first | exact FL.nil | apply FL.cons) ?_
            refine WL.stAO (T := Ty) (j := 5) rfl rfl rfl rfl (by repeat' first | exact AO.nil | apply AO.cons (by first | rfl | exact SL.one (by assumption))) rfl rfl (by repeat' first | exact FL.nil | apply FL.cons) (by repeat' first | exact FL.nil | apply FL.cons) ?_
            refine WL.nil ?_
            refine W.fit (Hs' := [box b0 _ _, box b1 _ _, box _ _ 31, box _ _ 34, OMdl _ _, ORst _ _]) (by (repeat' first | exact Sel.nil | refine Sel.cons 0 rfl ?_ | refine Sel.cons 1 rfl ?_ | refine Sel.cons 2 rfl ?_ | refine Sel.cons 3 rfl ?_ | refine Sel.cons 4 rfl ?_ | refine Sel.cons 5 rfl ?_ | refine Sel.cons 6 rfl ?_ | refine Sel.cons 7 rfl ?_ | refine Sel.cons 8 rfl ?_ | refine Sel.cons 9 rfl ?_ | refine Sel.cons 10 rfl ?_ | refine Sel.cons 11 rfl ?_ | refine Sel.cons 12 rfl ?_ | refine Sel.cons 13 rfl ?_ | refine Sel.cons 14 rfl ?_ | refine Sel.cons 15 rfl ?_ | refine Sel.cons 16 rfl ?_ | refine Sel.cons 17 rfl ?_)) ?_
            refine W.sub ?_ (cut2 ⟨_, _, _, _, _, _, _⟩ ρ1 (Le.refl _) ⟨doM_inv hI _, rst_len hI _, by assumption, by assumption, by assumption⟩)
            exact ⟨rfl, rfl, rfl, rfl, rfl, trivial⟩
          · refine WL.alF (T := Ty) rfl rfl (by repeat' first | exact FL.nil | apply FL.cons) (fun b3 => ?_)
            refine WL.nilS (WD.oneL 3 rfl (by decide +kernel) ?_)
            refine WL.callF rfl rfl (fun x p d => doX_c _ _ _ _ _ _ _ _ _ _ _ _ (by first | assumption | exact RMdl.wide (by assumption) | exact RMdl.mono (by assumption) (eqh_at 0 rfl p d) | exact (in_at 0 rfl p d).rmdl | exact (in_at 1 rfl p d).rmdl | exact (in_at 2 rfl p d).rmdl | exact (in_at 3 rfl p d).rmdl | exact (in_at 4 rfl p d).rmdl | exact (in_at 5 rfl p d).rmdl | exact (in_at 6 rfl p d).rmdl | exact (in_at 7 rfl p d).rmdl | exact (in_at 8 rfl p d).rmdl | exact (in_at 9 rfl p d).rmdl | exact (in_at 10 rfl p d).rmdl | exact (in_at 11 rfl p d).rmdl | exact (in_at 12 rfl p d).rmdl | exact (in_at 13 rfl p d).rmdl | exact (in_at 14 rfl p d).rmdl | exact (in_at 15 rfl p d).rmdl | exact (in_at 16 rfl p d).rmdl | exact (in_at 17 rfl p d).rmdl | exact (in_at 18 rfl p d).rmdl | exact (in_at 19 rfl p d).rmdl | exact (in_at 20 rfl p d).rmdl | exact (in_at 21 rfl p d).rmdl | exact (in_at 22 rfl p d).rmdl | exact (in_at 23 rfl p d).rmdl | exact (in_at 24 rfl p d).rmdl | exact (in_at 25 rfl p d).rmdl | exact (in_at 26 rfl p d).rmdl | exact (in_at 27 rfl p d).rmdl | exact (in_at 28 rfl p d).rmdl | exact (in_at 29 rfl p d).rmdl) (by assumption) (by first | assumption | omega)) (fun r4 => ?_)
            refine WL.opens (α := (Value × Value × Value)) (φ := fun x => r4 = .tuple #[.agg #[x.1, x.2.1, .int .i64 _], .agg #[.int .i64 _, .int .i64 _, x.2.2]] ∧ SL x.1 _ ∧ SL x.2.1 _ ∧ SL x.2.2 _) (ps := fun x => [OMdl (.agg #[x.1, x.2.1, .int .i64 _]) _, ORst (.agg #[.int .i64 _, .int .i64 _, x.2.2]) _]) 0 rfl (fun h q => DoR.open q) (by repeat' first | exact FL.nil | apply FL.cons) ?_
            rintro ⟨sv4, iv4, u4⟩ ⟨es4, sa4, sb4, sc4⟩
            subst es4
            dsimp only [List.cons_append, List.nil_append] at sa4 sb4 sc4 ⊢
            refine WL.nilSS (WD.takeL 4 rfl (by decide +kernel) (WL.mv rfl rfl (WL.nilT (WD.takeL 5 rfl (by decide +kernel) (WL.extL rfl rfl rfl (WL.nilT (WD.takeL 6 rfl (by decide +kernel) (WL.extL rfl rfl rfl (WL.nilT (WD.oneL 9 rfl (by decide +kernel) ?_))))))))))
            refine WL.stAO (T := Ty) (j := 3) rfl rfl rfl rfl (by repeat' first | exact AO.nil | apply AO.cons (by first | rfl | exact SL.one (by assumption))) rfl rfl (by repeat' first | exact FL.nil | apply FL.cons) (by repeat' first | exact FL.nil | apply FL.cons) ?_
            refine WL.nilE ?_
            refine WD.lastG hσ0 (by decide +kernel) (by repeat' first | exact FL.nil | apply FL.cons) rfl (by repeat' first | exact FL.nil | apply FL.cons) ?_
            refine WL.stAO (T := Ty) (j := 5) rfl rfl rfl rfl (by repeat' first | exact AO.nil | apply AO.cons (by first | rfl | exact SL.one (by assumption))) rfl rfl (by repeat' first | exact FL.nil | apply FL.cons) (by repeat' first | exact FL.nil | apply FL.cons) ?_
            refine WL.nil ?_
            refine W.fit (Hs' := [box b0 _ _, box b1 _ _, box _ _ 31, box _ _ 34, OMdl _ _, ORst _ _]) (by (repeat' first | exact Sel.nil | refine Sel.cons 0 rfl ?_ | refine Sel.cons 1 rfl ?_ | refine Sel.cons 2 rfl ?_ | refine Sel.cons 3 rfl ?_ | refine Sel.cons 4 rfl ?_ | refine Sel.cons 5 rfl ?_ | refine Sel.cons 6 rfl ?_ | refine Sel.cons 7 rfl ?_ | refine Sel.cons 8 rfl ?_ | refine Sel.cons 9 rfl ?_ | refine Sel.cons 10 rfl ?_ | refine Sel.cons 11 rfl ?_ | refine Sel.cons 12 rfl ?_ | refine Sel.cons 13 rfl ?_ | refine Sel.cons 14 rfl ?_ | refine Sel.cons 15 rfl ?_ | refine Sel.cons 16 rfl ?_ | refine Sel.cons 17 rfl ?_)) ?_
            refine W.sub ?_ (cut2 ⟨_, _, _, _, _, _, _⟩ ρ1 (Le.refl _) ⟨doM_inv hI _, rst_len hI _, by assumption, by assumption, by assumption⟩)
            exact ⟨rfl, rfl, rfl, rfl, rfl, trivial⟩
      · refine WL.alF (T := Ty) rfl rfl (by repeat' first | exact FL.nil | apply FL.cons) (fun b2 => ?_)
        refine WL.nilS ?_
        refine WD.twoL 2 8 rfl rfl (by decide +kernel) ?_ ?_
        · refine WL.callV rfl rfl (fun x p d => hopf _ _ _) ?_
          refine WL.nilE ?_
          refine WD.twoL 3 8 rfl rfl (by decide +kernel) ?_ ?_
          · refine WL.callF rfl rfl (fun x p d => doX_c _ _ _ _ _ _ _ _ _ _ _ _ (by first | assumption | exact RMdl.wide (by assumption) | exact RMdl.mono (by assumption) (eqh_at 0 rfl p d) | exact (in_at 0 rfl p d).rmdl | exact (in_at 1 rfl p d).rmdl | exact (in_at 2 rfl p d).rmdl | exact (in_at 3 rfl p d).rmdl | exact (in_at 4 rfl p d).rmdl | exact (in_at 5 rfl p d).rmdl | exact (in_at 6 rfl p d).rmdl | exact (in_at 7 rfl p d).rmdl | exact (in_at 8 rfl p d).rmdl | exact (in_at 9 rfl p d).rmdl | exact (in_at 10 rfl p d).rmdl | exact (in_at 11 rfl p d).rmdl | exact (in_at 12 rfl p d).rmdl | exact (in_at 13 rfl p d).rmdl | exact (in_at 14 rfl p d).rmdl | exact (in_at 15 rfl p d).rmdl | exact (in_at 16 rfl p d).rmdl | exact (in_at 17 rfl p d).rmdl | exact (in_at 18 rfl p d).rmdl | exact (in_at 19 rfl p d).rmdl | exact (in_at 20 rfl p d).rmdl | exact (in_at 21 rfl p d).rmdl | exact (in_at 22 rfl p d).rmdl | exact (in_at 23 rfl p d).rmdl | exact (in_at 24 rfl p d).rmdl | exact (in_at 25 rfl p d).rmdl | exact (in_at 26 rfl p d).rmdl | exact (in_at 27 rfl p d).rmdl | exact (in_at 28 rfl p d).rmdl | exact (in_at 29 rfl p d).rmdl) (by assumption) (by first | assumption | omega)) (fun r3 => ?_)
            refine WL.opens (α := (Value × Value × Value)) (φ := fun x => r3 = .tuple #[.agg #[x.1, x.2.1, .int .i64 _], .agg #[.int .i64 _, .int .i64 _, x.2.2]] ∧ SL x.1 _ ∧ SL x.2.1 _ ∧ SL x.2.2 _) (ps := fun x => [OMdl (.agg #[x.1, x.2.1, .int .i64 _]) _, ORst (.agg #[.int .i64 _, .int .i64 _, x.2.2]) _]) 0 rfl (fun h q => DoR.open q) (by repeat' first | exact FL.nil | apply FL.cons) ?_
            rintro ⟨sv3, iv3, u3⟩ ⟨es3, sa3, sb3, sc3⟩
            subst es3
            dsimp only [List.cons_append, List.nil_append] at sa3 sb3 sc3 ⊢
            refine WL.nilSS (WD.takeL 4 rfl (by decide +kernel) (WL.mv rfl rfl (WL.nilT (WD.takeL 5 rfl (by decide +kernel) (WL.extL rfl rfl rfl (WL.nilT (WD.takeL 6 rfl (by decide +kernel) (WL.extL rfl rfl rfl (WL.nilT (WD.oneL 8 rfl (by decide +kernel) ?_))))))))))
            refine WL.alF (T := Ty) rfl rfl (by repeat' first | exact FL.nil | apply FL.cons) (fun b4 => ?_)
            refine WL.nilS (WD.oneL 9 rfl (by decide +kernel) ?_)
            refine WL.stAO (T := Ty) (j := 4) rfl rfl rfl rfl (by repeat' first | exact AO.nil | apply AO.cons (by first | rfl | exact SL.one (by assumption))) rfl rfl (by repeat' first | exact FL.nil | apply FL.cons) (by repeat' first | exact FL.nil | apply FL.cons) ?_
            refine WL.nilE ?_
            refine WD.lastG hσ0 (by decide +kernel) (by repeat' first | exact FL.nil | apply FL.cons) rfl (by repeat' first | exact FL.nil | apply FL.cons) ?_
            refine WL.stAO (T := Ty) (j := 2) rfl rfl rfl rfl (by repeat' first | exact AO.nil | apply AO.cons (by first | rfl | exact SL.one (by assumption))) rfl rfl (by repeat' first | exact FL.nil | apply FL.cons) (by repeat' first | exact FL.nil | apply FL.cons) ?_
            refine WL.nil ?_
            refine W.fit (Hs' := [box b0 _ _, box b1 _ _, box _ _ 31, box _ _ 34, OMdl _ _, ORst _ _]) (by (repeat' first | exact Sel.nil | refine Sel.cons 0 rfl ?_ | refine Sel.cons 1 rfl ?_ | refine Sel.cons 2 rfl ?_ | refine Sel.cons 3 rfl ?_ | refine Sel.cons 4 rfl ?_ | refine Sel.cons 5 rfl ?_ | refine Sel.cons 6 rfl ?_ | refine Sel.cons 7 rfl ?_ | refine Sel.cons 8 rfl ?_ | refine Sel.cons 9 rfl ?_ | refine Sel.cons 10 rfl ?_ | refine Sel.cons 11 rfl ?_ | refine Sel.cons 12 rfl ?_ | refine Sel.cons 13 rfl ?_ | refine Sel.cons 14 rfl ?_ | refine Sel.cons 15 rfl ?_ | refine Sel.cons 16 rfl ?_ | refine Sel.cons 17 rfl ?_)) ?_
            refine W.sub ?_ (cut2 ⟨_, _, _, _, _, _, _⟩ ρ1 (Le.refl _) ⟨doM_inv hI _, rst_len hI _, by assumption, by assumption, by assumption⟩)
            exact ⟨rfl, rfl, rfl, rfl, rfl, trivial⟩
          · refine WL.alF (T := Ty) rfl rfl (by repeat' first | exact FL.nil | apply FL.cons) (fun b3 => ?_)
            refine WL.nilS (WD.oneL 3 rfl (by decide +kernel) ?_)
            refine WL.callF rfl rfl (fun x p d => doX_c _ _ _ _ _ _ _ _ _ _ _ _ (by first | assumption | exact RMdl.wide (by assumption) | exact RMdl.mono (by assumption) (eqh_at 0 rfl p d) | exact (in_at 0 rfl p d).rmdl | exact (in_at 1 rfl p d).rmdl | exact (in_at 2 rfl p d).rmdl | exact (in_at 3 rfl p d).rmdl | exact (in_at 4 rfl p d).rmdl | exact (in_at 5 rfl p d).rmdl | exact (in_at 6 rfl p d).rmdl | exact (in_at 7 rfl p d).rmdl | exact (in_at 8 rfl p d).rmdl | exact (in_at 9 rfl p d).rmdl | exact (in_at 10 rfl p d).rmdl | exact (in_at 11 rfl p d).rmdl | exact (in_at 12 rfl p d).rmdl | exact (in_at 13 rfl p d).rmdl | exact (in_at 14 rfl p d).rmdl | exact (in_at 15 rfl p d).rmdl | exact (in_at 16 rfl p d).rmdl | exact (in_at 17 rfl p d).rmdl | exact (in_at 18 rfl p d).rmdl | exact (in_at 19 rfl p d).rmdl | exact (in_at 20 rfl p d).rmdl | exact (in_at 21 rfl p d).rmdl | exact (in_at 22 rfl p d).rmdl | exact (in_at 23 rfl p d).rmdl | exact (in_at 24 rfl p d).rmdl | exact (in_at 25 rfl p d).rmdl | exact (in_at 26 rfl p d).rmdl | exact (in_at 27 rfl p d).rmdl | exact (in_at 28 rfl p d).rmdl | exact (in_at 29 rfl p d).rmdl) (by assumption) (by first | assumption | omega)) (fun r4 => ?_)
            refine WL.opens (α := (Value × Value × Value)) (φ := fun x => r4 = .tuple #[.agg #[x.1, x.2.1, .int .i64 _], .agg #[.int .i64 _, .int .i64 _, x.2.2]] ∧ SL x.1 _ ∧ SL x.2.1 _ ∧ SL x.2.2 _) (ps := fun x => [OMdl (.agg #[x.1, x.2.1, .int .i64 _]) _, ORst (.agg #[.int .i64 _, .int .i64 _, x.2.2]) _]) 0 rfl (fun h q => DoR.open q) (by repeat' first | exact FL.nil | apply FL.cons) ?_
            rintro ⟨sv4, iv4, u4⟩ ⟨es4, sa4, sb4, sc4⟩
            subst es4
            dsimp only [List.cons_append, List.nil_append] at sa4 sb4 sc4 ⊢
            refine WL.nilSS (WD.takeL 4 rfl (by decide +kernel) (WL.mv rfl rfl (WL.nilT (WD.takeL 5 rfl (by decide +kernel) (WL.extL rfl rfl rfl (WL.nilT (WD.takeL 6 rfl (by decide +kernel) (WL.extL rfl rfl rfl (WL.nilT (WD.oneL 9 rfl (by decide +kernel) ?_))))))))))
            refine WL.stAO (T := Ty) (j := 4) rfl rfl rfl rfl (by repeat' first | exact AO.nil | apply AO.cons (by first | rfl | exact SL.one (by assumption))) rfl rfl (by repeat' first | exact FL.nil | apply FL.cons) (by repeat' first | exact FL.nil | apply FL.cons) ?_
            refine WL.nilE ?_
            refine WD.lastG hσ0 (by decide +kernel) (by repeat' first | exact FL.nil | apply FL.cons) rfl (by repeat' first | exact FL.nil | apply FL.cons) ?_
            refine WL.stAO (T := Ty) (j := 4) rfl rfl rfl rfl (by repeat' first | exact AO.nil | apply AO.cons (by first | rfl | exact SL.one (by assumption))) rfl rfl (by repeat' first | exact FL.nil | apply FL.cons) (by repeat' first | exact FL.nil | apply FL.cons) ?_
            refine WL.nil ?_
            refine W.fit (Hs' := [box b0 _ _, box b1 _ _, box _ _ 31, box _ _ 34, OMdl _ _, ORst _ _]) (by (repeat' first | exact Sel.nil | refine Sel.cons 0 rfl ?_ | refine Sel.cons 1 rfl ?_ | refine Sel.cons 2 rfl ?_ | refine Sel.cons 3 rfl ?_ | refine Sel.cons 4 rfl ?_ | refine Sel.cons 5 rfl ?_ | refine Sel.cons 6 rfl ?_ | refine Sel.cons 7 rfl ?_ | refine Sel.cons 8 rfl ?_ | refine Sel.cons 9 rfl ?_ | refine Sel.cons 10 rfl ?_ | refine Sel.cons 11 rfl ?_ | refine Sel.cons 12 rfl ?_ | refine Sel.cons 13 rfl ?_ | refine Sel.cons 14 rfl ?_ | refine Sel.cons 15 rfl ?_ | refine Sel.cons 16 rfl ?_ | refine Sel.cons 17 rfl ?_)) ?_
            refine W.sub ?_ (cut2 ⟨_, _, _, _, _, _, _⟩ ρ1 (Le.refl _) ⟨doM_inv hI _, rst_len hI _, by assumption, by assumption, by assumption⟩)
            exact ⟨rfl, rfl, rfl, rfl, rfl, trivial⟩
        · refine WL.alF (T := Ty) rfl rfl (by repeat' first | exact FL.nil | apply FL.cons) (fun b3 => ?_)
          refine WL.nilS (WD.oneL 2 rfl (by decide +kernel) ?_)
          refine WL.callV rfl rfl (fun x p d => hopf _ _ _) ?_
          refine WL.nilE (WD.oneL 3 rfl (by decide +kernel) ?_)
          refine WL.callF rfl rfl (fun x p d => doX_c _ _ _ _ _ _ _ _ _ _ _ _ (by first | assumption | exact RMdl.wide (by assumption) | exact RMdl.mono (by assumption) (eqh_at 0 rfl p d) | exact (in_at 0 rfl p d).rmdl | exact (in_at 1 rfl p d).rmdl | exact (in_at 2 rfl p d).rmdl | exact (in_at 3 rfl p d).rmdl | exact (in_at 4 rfl p d).rmdl | exact (in_at 5 rfl p d).rmdl | exact (in_at 6 rfl p d).rmdl | exact (in_at 7 rfl p d).rmdl | exact (in_at 8 rfl p d).rmdl | exact (in_at 9 rfl p d).rmdl | exact (in_at 10 rfl p d).rmdl | exact (in_at 11 rfl p d).rmdl | exact (in_at 12 rfl p d).rmdl | exact (in_at 13 rfl p d).rmdl | exact (in_at 14 rfl p d).rmdl | exact (in_at 15 rfl p d).rmdl | exact (in_at 16 rfl p d).rmdl | exact (in_at 17 rfl p d).rmdl | exact (in_at 18 rfl p d).rmdl | exact (in_at 19 rfl p d).rmdl | exact (in_at 20 rfl p d).rmdl | exact (in_at 21 rfl p d).rmdl | exact (in_at 22 rfl p d).rmdl | exact (in_at 23 rfl p d).rmdl | exact (in_at 24 rfl p d).rmdl | exact (in_at 25 rfl p d).rmdl | exact (in_at 26 rfl p d).rmdl | exact (in_at 27 rfl p d).rmdl | exact (in_at 28 rfl p d).rmdl | exact (in_at 29 rfl p d).rmdl) (by assumption) (by first | assumption | omega)) (fun r4 => ?_)
          refine WL.opens (α := (Value × Value × Value)) (φ := fun x => r4 = .tuple #[.agg #[x.1, x.2.1, .int .i64 _], .agg #[.int .i64 _, .int .i64 _, x.2.2]] ∧ SL x.1 _ ∧ SL x.2.1 _ ∧ SL x.2.2 _) (ps := fun x => [OMdl (.agg #[x.1, x.2.1, .int .i64 _]) _, ORst (.agg #[.int .i64 _, .int .i64 _, x.2.2]) _]) 0 rfl (fun h q => DoR.open q) (by repeat' first | exact FL.nil | apply FL.cons) ?_
          rintro ⟨sv4, iv4, u4⟩ ⟨es4, sa4, sb4, sc4⟩
          subst es4
          dsimp only [List.cons_append, List.nil_append] at sa4 sb4 sc4 ⊢
          refine WL.nilSS (WD.takeL 4 rfl (by decide +kernel) (WL.mv rfl rfl (WL.nilT (WD.takeL 5 rfl (by decide +kernel) (WL.extL rfl rfl rfl (WL.nilT (WD.takeL 6 rfl (by decide +kernel) (WL.extL rfl rfl rfl (WL.nilT (WD.oneL 9 rfl (by decide +kernel) ?_))))))))))
          refine WL.stAO (T := Ty) (j := 4) rfl rfl rfl rfl (by repeat' first | exact AO.nil | apply AO.cons (by first | rfl | exact SL.one (by assumption))) rfl rfl (by repeat' first | exact FL.nil | apply FL.cons) (by repeat' first | exact FL.nil | apply FL.cons) ?_
          refine WL.nilE ?_
          refine WD.lastG hσ0 (by decide +kernel) (by repeat' first | exact FL.nil | apply FL.cons) rfl (by repeat' first | exact FL.nil | apply FL.cons) ?_
          refine WL.stAO (T := Ty) (j := 4) rfl rfl rfl rfl (by repeat' first | exact AO.nil | apply AO.cons (by first | rfl | exact SL.one (by assumption))) rfl rfl (by repeat' first | exact FL.nil | apply FL.cons) (by repeat' first | exact FL.nil | apply FL.cons) ?_
          refine WL.nil ?_
          refine W.fit (Hs' := [box b0 _ _, box b1 _ _, box _ _ 31, box _ _ 34, OMdl _ _, ORst _ _]) (by (repeat' first | exact Sel.nil | refine Sel.cons 0 rfl ?_ | refine Sel.cons 1 rfl ?_ | refine Sel.cons 2 rfl ?_ | refine Sel.cons 3 rfl ?_ | refine Sel.cons 4 rfl ?_ | refine Sel.cons 5 rfl ?_ | refine Sel.cons 6 rfl ?_ | refine Sel.cons 7 rfl ?_ | refine Sel.cons 8 rfl ?_ | refine Sel.cons 9 rfl ?_ | refine Sel.cons 10 rfl ?_ | refine Sel.cons 11 rfl ?_ | refine Sel.cons 12 rfl ?_ | refine Sel.cons 13 rfl ?_ | refine Sel.cons 14 rfl ?_ | refine Sel.cons 15 rfl ?_ | refine Sel.cons 16 rfl ?_ | refine Sel.cons 17 rfl ?_)) ?_
          refine W.sub ?_ (cut2 ⟨_, _, _, _, _, _, _⟩ ρ1 (Le.refl _) ⟨doM_inv hI _, rst_len hI _, by assumption, by assumption, by assumption⟩)
          exact ⟨rfl, rfl, rfl, rfl, rfl, trivial⟩
      · refine WL.alF (T := Ty) rfl rfl (by repeat' first | exact FL.nil | apply FL.cons) (fun b2 => ?_)
        refine WL.nilS ?_
        refine WD.twoL 2 7 rfl rfl (by decide +kernel) ?_ ?_
        · refine WL.callV rfl rfl (fun x p d => hopf _ _ _) ?_
          refine WL.nilE ?_
          refine WD.twoL 3 7 rfl rfl (by decide +kernel) ?_ ?_
          · refine WL.callF rfl rfl (fun x p d => doX_c _ _ _ _ _ _ _ _ _ _ _ _ (by first | assumption | exact RMdl.wide (by assumption) | exact RMdl.mono (by assumption) (eqh_at 0 rfl p d) | exact (in_at 0 rfl p d).rmdl | exact (in_at 1 rfl p d).rmdl | exact (in_at 2 rfl p d).rmdl | exact (in_at 3 rfl p d).rmdl | exact (in_at 4 rfl p d).rmdl | exact (in_at 5 rfl p d).rmdl | exact (in_at 6 rfl p d).rmdl | exact (in_at 7 rfl p d).rmdl | exact (in_at 8 rfl p d).rmdl | exact (in_at 9 rfl p d).rmdl | exact (in_at 10 rfl p d).rmdl | exact (in_at 11 rfl p d).rmdl | exact (in_at 12 rfl p d).rmdl | exact (in_at 13 rfl p d).rmdl | exact (in_at 14 rfl p d).rmdl | exact (in_at 15 rfl p d).rmdl | exact (in_at 16 rfl p d).rmdl | exact (in_at 17 rfl p d).rmdl | exact (in_at 18 rfl p d).rmdl | exact (in_at 19 rfl p d).rmdl | exact (in_at 20 rfl p d).rmdl | exact (in_at 21 rfl p d).rmdl | exact (in_at 22 rfl p d).rmdl | exact (in_at 23 rfl p d).rmdl | exact (in_at 24 rfl p d).rmdl | exact (in_at 25 rfl p d).rmdl | exact (in_at 26 rfl p d).rmdl | exact (in_at 27 rfl p d).rmdl | exact (in_at 28 rfl p d).rmdl | exact (in_at 29 rfl p d).rmdl) (by assumption) (by first | assumption | omega)) (fun r3 => ?_)
            refine WL.opens (α := (Value × Value × Value)) (φ := fun x => r3 = .tuple #[.agg #[x.1, x.2.1, .int .i64 _], .agg #[.int .i64 _, .int .i64 _, x.2.2]] ∧ SL x.1 _ ∧ SL x.2.1 _ ∧ SL x.2.2 _) (ps := fun x => [OMdl (.agg #[x.1, x.2.1, .int .i64 _]) _, ORst (.agg #[.int .i64 _, .int .i64 _, x.2.2]) _]) 0 rfl (fun h q => DoR.open q) (by repeat' first | exact FL.nil | apply FL.cons) ?_
            rintro ⟨sv3, iv3, u3⟩ ⟨es3, sa3, sb3, sc3⟩
            subst es3
            dsimp only [List.cons_append, List.nil_append] at sa3 sb3 sc3 ⊢
            refine WL.nilSS (WD.takeL 4 rfl (by decide +kernel) (WL.mv rfl rfl (WL.nilT (WD.takeL 5 rfl (by decide +kernel) (WL.extL rfl rfl rfl (WL.nilT (WD.takeL 6 rfl (by decide +kernel) (WL.extL rfl rfl rfl (WL.nilT (WD.oneL 7 rfl (by decide +kernel) ?_))))))))))
            refine WL.alF (T := Ty) rfl rfl (by repeat' first | exact FL.nil | apply FL.cons) (fun b4 => ?_)
            refine WL.nilS (WD.oneL 9 rfl (by decide +kernel) ?_)
            refine WL.stAO (T := Ty) (j := 1) rfl rfl rfl rfl (by repeat' first | exact AO.nil | apply AO.cons (by first | rfl | exact SL.one (by assumption))) rfl rfl (by repeat' first | exact FL.nil | apply FL.cons) (by repeat' first | exact FL.nil | apply FL.cons) ?_
            refine WL.nilE ?_
            refine WD.lastG hσ0 (by decide +kernel) (by repeat' first | exact FL.nil | apply FL.cons) rfl (by repeat' first | exact FL.nil | apply FL.cons) ?_
            refine WL.stAO (T := Ty) (j := 5) rfl rfl rfl rfl (by repeat' first | exact AO.nil | apply AO.cons (by first | rfl | exact SL.one (by assumption))) rfl rfl (by repeat' first | exact FL.nil | apply FL.cons) (by repeat' first | exact FL.nil | apply FL.cons) ?_
            refine WL.nil ?_
            refine W.fit (Hs' := [box b0 _ _, box b1 _ _, box _ _ 31, box _ _ 34, OMdl _ _, ORst _ _]) (by (repeat' first | exact Sel.nil | refine Sel.cons 0 rfl ?_ | refine Sel.cons 1 rfl ?_ | refine Sel.cons 2 rfl ?_ | refine Sel.cons 3 rfl ?_ | refine Sel.cons 4 rfl ?_ | refine Sel.cons 5 rfl ?_ | refine Sel.cons 6 rfl ?_ | refine Sel.cons 7 rfl ?_ | refine Sel.cons 8 rfl ?_ | refine Sel.cons 9 rfl ?_ | refine Sel.cons 10 rfl ?_ | refine Sel.cons 11 rfl ?_ | refine Sel.cons 12 rfl ?_ | refine Sel.cons 13 rfl ?_ | refine Sel.cons 14 rfl ?_ | refine Sel.cons 15 rfl ?_ | refine Sel.cons 16 rfl ?_ | refine Sel.cons 17 rfl ?_)) ?_
            refine W.sub ?_ (cut2 ⟨_, _, _, _, _, _, _⟩ ρ1 (Le.refl _) ⟨doM_inv hI _, rst_len hI _, by assumption, by assumption, by assumption⟩)
            exact ⟨rfl, rfl, rfl, rfl, rfl, trivial⟩
          · refine WL.alF (T := Ty) rfl rfl (by repeat' first | exact FL.nil | apply FL.cons) (fun b3 => ?_)
            refine WL.nilS (WD.oneL 3 rfl (by decide +kernel) ?_)
            refine WL.callF rfl rfl (fun x p d => doX_c _ _ _ _ _ _ _ _ _ _ _ _ (by first | assumption | exact RMdl.wide (by assumption) | exact RMdl.mono (by assumption) (eqh_at 0 rfl p d) | exact (in_at 0 rfl p d).rmdl | exact (in_at 1 rfl p d).rmdl | exact (in_at 2 rfl p d).rmdl | exact (in_at 3 rfl p d).rmdl | exact (in_at 4 rfl p d).rmdl | exact (in_at 5 rfl p d).rmdl | exact (in_at 6 rfl p d).rmdl | exact (in_at 7 rfl p d).rmdl | exact (in_at 8 rfl p d).rmdl | exact (in_at 9 rfl p d).rmdl | exact (in_at 10 rfl p d).rmdl | exact (in_at 11 rfl p d).rmdl | exact (in_at 12 rfl p d).rmdl | exact (in_at 13 rfl p d).rmdl | exact (in_at 14 rfl p d).rmdl | exact (in_at 15 rfl p d).rmdl | exact (in_at 16 rfl p d).rmdl | exact (in_at 17 rfl p d).rmdl | exact (in_at 18 rfl p d).rmdl | exact (in_at 19 rfl p d).rmdl | exact (in_at 20 rfl p d).rmdl | exact (in_at 21 rfl p d).rmdl | exact (in_at 22 rfl p d).rmdl | exact (in_at 23 rfl p d).rmdl | exact (in_at 24 rfl p d).rmdl | exact (in_at 25 rfl p d).rmdl | exact (in_at 26 rfl p d).rmdl | exact (in_at 27 rfl p d).rmdl | exact (in_at 28 rfl p d).rmdl | exact (in_at 29 rfl p d).rmdl) (by assumption) (by first | assumption | omega)) (fun r4 => ?_)
            refine WL.opens (α := (Value × Value × Value)) (φ := fun x => r4 = .tuple #[.agg #[x.1, x.2.1, .int .i64 _], .agg #[.int .i64 _, .int .i64 _, x.2.2]] ∧ SL x.1 _ ∧ SL x.2.1 _ ∧ SL x.2.2 _) (ps := fun x => [OMdl (.agg #[x.1, x.2.1, .int .i64 _]) _, ORst (.agg #[.int .i64 _, .int .i64 _, x.2.2]) _]) 0 rfl (fun h q => DoR.open q) (by repeat' first | exact FL.nil | apply FL.cons) ?_
            rintro ⟨sv4, iv4, u4⟩ ⟨es4, sa4, sb4, sc4⟩
            subst es4
            dsimp only [List.cons_append, List.nil_append] at sa4 sb4 sc4 ⊢
            refine WL.nilSS (WD.takeL 4 rfl (by decide +kernel) (WL.mv rfl rfl (WL.nilT (WD.takeL 5 rfl (by decide +kernel) (WL.extL rfl rfl rfl (WL.nilT (WD.takeL 6 rfl (by decide +kernel) (WL.extL rfl rfl rfl (WL.nilT (WD.oneL 9 rfl (by decide +kernel) ?_))))))))))
            refine WL.stAO (T := Ty) (j := 3) rfl rfl rfl rfl (by repeat' first | exact AO.nil | apply AO.cons (by first | rfl | exact SL.one (by assumption))) rfl rfl (by repeat' first | exact FL.nil | apply FL.cons) (by repeat' first | exact FL.nil | apply FL.cons) ?_
            refine WL.nilE ?_
            refine WD.lastG hσ0 (by decide +kernel) (by repeat' first | exact FL.nil | apply FL.cons) rfl (by repeat' first | exact FL.nil | apply FL.cons) ?_
            refine WL.stAO (T := Ty) (j := 5) rfl rfl rfl rfl (by repeat' first | exact AO.nil | apply AO.cons (by first | rfl | exact SL.one (by assumption))) rfl rfl (by repeat' first | exact FL.nil | apply FL.cons) (by repeat' first | exact FL.nil | apply FL.cons) ?_
            refine WL.nil ?_
            refine W.fit (Hs' := [box b0 _ _, box b1 _ _, box _ _ 31, box _ _ 34, OMdl _ _, ORst _ _]) (by (repeat' first | exact Sel.nil | refine Sel.cons 0 rfl ?_ | refine Sel.cons 1 rfl ?_ | refine Sel.cons 2 rfl ?_ | refine Sel.cons 3 rfl ?_ | refine Sel.cons 4 rfl ?_ | refine Sel.cons 5 rfl ?_ | refine Sel.cons 6 rfl ?_ | refine Sel.cons 7 rfl ?_ | refine Sel.cons 8 rfl ?_ | refine Sel.cons 9 rfl ?_ | refine Sel.cons 10 rfl ?_ | refine Sel.cons 11 rfl ?_ | refine Sel.cons 12 rfl ?_ | refine Sel.cons 13 rfl ?_ | refine Sel.cons 14 rfl ?_ | refine Sel.cons 15 rfl ?_ | refine Sel.cons 16 rfl ?_ | refine Sel.cons 17 rfl ?_)) ?_
            refine W.sub ?_ (cut2 ⟨_, _, _, _, _, _, _⟩ ρ1 (Le.refl _) ⟨doM_inv hI _, rst_len hI _, by assumption, by assumption, by assumption⟩)
            exact ⟨rfl, rfl, rfl, rfl, rfl, trivial⟩
        · refine WL.alF (T := Ty) rfl rfl (by repeat' first | exact FL.nil | apply FL.cons) (fun b3 => ?_)
          refine WL.nilS (WD.oneL 2 rfl (by decide +kernel) ?_)
          refine WL.callV rfl rfl (fun x p d => hopf _ _ _) ?_
          refine WL.nilE (WD.oneL 3 rfl (by decide +kernel) ?_)
          refine WL.callF rfl rfl (fun x p d => doX_c _ _ _ _ _ _ _ _ _ _ _ _ (by first | assumption | exact RMdl.wide (by assumption) | exact RMdl.mono (by assumption) (eqh_at 0 rfl p d) | exact (in_at 0 rfl p d).rmdl | exact (in_at 1 rfl p d).rmdl | exact (in_at 2 rfl p d).rmdl | exact (in_at 3 rfl p d).rmdl | exact (in_at 4 rfl p d).rmdl | exact (in_at 5 rfl p d).rmdl | exact (in_at 6 rfl p d).rmdl | exact (in_at 7 rfl p d).rmdl | exact (in_at 8 rfl p d).rmdl | exact (in_at 9 rfl p d).rmdl | exact (in_at 10 rfl p d).rmdl | exact (in_at 11 rfl p d).rmdl | exact (in_at 12 rfl p d).rmdl | exact (in_at 13 rfl p d).rmdl | exact (in_at 14 rfl p d).rmdl | exact (in_at 15 rfl p d).rmdl | exact (in_at 16 rfl p d).rmdl | exact (in_at 17 rfl p d).rmdl | exact (in_at 18 rfl p d).rmdl | exact (in_at 19 rfl p d).rmdl | exact (in_at 20 rfl p d).rmdl | exact (in_at 21 rfl p d).rmdl | exact (in_at 22 rfl p d).rmdl | exact (in_at 23 rfl p d).rmdl | exact (in_at 24 rfl p d).rmdl | exact (in_at 25 rfl p d).rmdl | exact (in_at 26 rfl p d).rmdl | exact (in_at 27 rfl p d).rmdl | exact (in_at 28 rfl p d).rmdl | exact (in_at 29 rfl p d).rmdl) (by assumption) (by first | assumption | omega)) (fun r4 => ?_)
          refine WL.opens (α := (Value × Value × Value)) (φ := fun x => r4 = .tuple #[.agg #[x.1, x.2.1, .int .i64 _], .agg #[.int .i64 _, .int .i64 _, x.2.2]] ∧ SL x.1 _ ∧ SL x.2.1 _ ∧ SL x.2.2 _) (ps := fun x => [OMdl (.agg #[x.1, x.2.1, .int .i64 _]) _, ORst (.agg #[.int .i64 _, .int .i64 _, x.2.2]) _]) 0 rfl (fun h q => DoR.open q) (by repeat' first | exact FL.nil | apply FL.cons) ?_
          rintro ⟨sv4, iv4, u4⟩ ⟨es4, sa4, sb4, sc4⟩
          subst es4
          dsimp only [List.cons_append, List.nil_append] at sa4 sb4 sc4 ⊢
          refine WL.nilSS (WD.takeL 4 rfl (by decide +kernel) (WL.mv rfl rfl (WL.nilT (WD.takeL 5 rfl (by decide +kernel) (WL.extL rfl rfl rfl (WL.nilT (WD.takeL 6 rfl (by decide +kernel) (WL.extL rfl rfl rfl (WL.nilT (WD.oneL 9 rfl (by decide +kernel) ?_))))))))))
          refine WL.stAO (T := Ty) (j := 3) rfl rfl rfl rfl (by repeat' first | exact AO.nil | apply AO.cons (by first | rfl | exact SL.one (by assumption))) rfl rfl (by repeat' first | exact FL.nil | apply FL.cons) (by repeat' first | exact FL.nil | apply FL.cons) ?_
          refine WL.nilE ?_
          refine WD.lastG hσ0 (by decide +kernel) (by repeat' first | exact FL.nil | apply FL.cons) rfl (by repeat' first | exact FL.nil | apply FL.cons) ?_
          refine WL.stAO (T := Ty) (j := 5) rfl rfl rfl rfl (by repeat' first | exact AO.nil | apply AO.cons (by first | rfl | exact SL.one (by assumption))) rfl rfl (by repeat' first | exact FL.nil | apply FL.cons) (by repeat' first | exact FL.nil | apply FL.cons) ?_
          refine WL.nil ?_
          refine W.fit (Hs' := [box b0 _ _, box b1 _ _, box _ _ 31, box _ _ 34, OMdl _ _, ORst _ _]) (by (repeat' first | exact Sel.nil | refine Sel.cons 0 rfl ?_ | refine Sel.cons 1 rfl ?_ | refine Sel.cons 2 rfl ?_ | refine Sel.cons 3 rfl ?_ | refine Sel.cons 4 rfl ?_ | refine Sel.cons 5 rfl ?_ | refine Sel.cons 6 rfl ?_ | refine Sel.cons 7 rfl ?_ | refine Sel.cons 8 rfl ?_ | refine Sel.cons 9 rfl ?_ | refine Sel.cons 10 rfl ?_ | refine Sel.cons 11 rfl ?_ | refine Sel.cons 12 rfl ?_ | refine Sel.cons 13 rfl ?_ | refine Sel.cons 14 rfl ?_ | refine Sel.cons 15 rfl ?_ | refine Sel.cons 16 rfl ?_ | refine Sel.cons 17 rfl ?_)) ?_
          refine W.sub ?_ (cut2 ⟨_, _, _, _, _, _, _⟩ ρ1 (Le.refl _) ⟨doM_inv hI _, rst_len hI _, by assumption, by assumption, by assumption⟩)
          exact ⟨rfl, rfl, rfl, rfl, rfl, trivial⟩
  refine W.loopR (σ := Nat × Mdl × Value × Value × Value × Value) (fun s => [(0, v0), (1, .int .i64 a1), (4, .bool false), (5, pt b0 0), (6, pt b1 0), (7, .int .i64 (s.1 : Int))])
    (fun s => [box b1 [s.2.2.2.2.1, s.2.2.2.2.2, .int .i64 s.2.1.next] 31, box b0 [s.2.2.1, s.2.2.2.1, .int .i64 s.2.1.next] 31]) (fun s ρ' => s.1 ≤ 50 ∧ MInv s.1 s.2.1 ∧ RMdl ρ' (.agg #[s.2.2.1, s.2.2.2.1, .int .i64 s.2.1.next]) s.2.1 ∧ RMdl ρ' (.agg #[s.2.2.2.2.1, s.2.2.2.2.2, .int .i64 s.2.1.next]) s.2.1) (fun s => 50 - s.1)
    (0, ⟨[], [], 0⟩, nilV, nilV, nilV, nilV) ⟨rfl, rfl, rfl, rfl, rfl, rfl, trivial⟩ rfl ⟨Nat.zero_le _, MInv.zero, rmdl_zero ρ, rmdl_zero ρ⟩ ?_
  rintro ⟨i, M, sv, iv, sw, iw⟩ ρ1 le1 ⟨hi, hI, hM, hW⟩ next
  dsimp only at hi hI hM hW next ⊢
  replace r0 := r0.mono le1
  by_cases hc1 : i < z0.length
  · obtain ⟨x, hx⟩ : ∃ x, z0[i]? = some x := ⟨_, List.getElem?_eq_getElem hc1⟩
    have hx1 : (z0.map (Value.int .i64))[i]? = some (.int .i64 x) := by rw [List.getElem?_map, hx]; rfl
    by_cases hc2 : i < 50
    · refine W.seq ?_
      refine W.seq (W.region (WL.mv rfl rfl (WL.mv rfl rfl ?_)))
      refine WL.len (T := Ty) rfl rfl (by assumption) rfl ?_
      refine WL.lss rfl rfl rfl (WL.mv rfl rfl (WL.gT rfl rfl (by omega) (WL.mv rfl rfl (WL.gT rfl rfl (by omega) (WL.lss rfl rfl rfl (WL.pickTp rfl rfl (by omega) rfl (WL.nil (W.condpT rfl (by omega) (W.skip (W.seq (W.block (W.seq ?_))))))))))))
      refine W.cutG (τ := Mdl × Value × Value) (fun s => [(0, v0), (1, .int .i64 a1), (4, .bool false), (5, pt b0 0), (6, pt b1 0), (7, .int .i64 (i : Int))])
        (fun s => [box b0 [s.2.1, s.2.2, .int .i64 s.1.next] 31, box b1 [sw, iw, .int .i64 M.next] 31])
        (fun s ρ' => s.1 = (doM M (f x (i : Int))).1 ∧ RMdl ρ' (.agg #[s.2.1, s.2.2, .int .i64 s.1.next]) s.1) ?_ (fun cut1 => ?_)
      · rintro ⟨M1, sv, iv⟩ ρ2 le2 ⟨h1, hM1⟩
        dsimp only at h1 hM1 ⊢
        replace hW := hW.mono le2
        replace r0 := r0.mono le2
        refine W.drawP 12 [false, true] rfl (by repeat' first | exact FL.nil | apply FL.cons) (by repeat' first | exact FL.nil | apply FL.cons) (fun σ0 hσ0 dσ0 => ?_)
        have fσ0_0 := rb_at 0 rfl hσ0 dσ0
        refine WD.takeL 1 rfl (by decide +kernel) (WL.mv rfl rfl (WL.nilT (WD.takeL 2 rfl (by decide +kernel) (WL.mv rfl rfl (WL.nilT (WD.takeL 3 rfl (by decide +kernel) ?_))))))
        refine WL.ix (T := Ty) rfl rfl rfl (by assumption) rfl rfl (by omega) (by first | omega | decide +kernel) ?_
        refine WL.nilT (WD.takeL 4 rfl (by decide +kernel) ?_)
        refine WL.ldKn (T := Ty) rfl rfl rfl rfl (by first | assumption | exact ROs.wide (by assumption)) (by assumption) ?_
        refine WL.nilT (WD.takeL 5 rfl (by decide +kernel) (WL.mv rfl rfl (WL.nilT ?_)))
        refine WD.twoL 0 6 rfl rfl (by decide +kernel) ?_ ?_
        · refine WL.ldAF (T := Ty) (j := 1) rfl rfl rfl rfl rfl rfl (by repeat' first | exact FL.nil | apply FL.cons) ?_
          refine WL.nilE (WD.oneL 6 rfl (by decide +kernel) ?_)
          refine WL.callV rfl rfl (fun x p d => hopf _ _ _) ?_
          refine WL.nilE (WD.oneL 7 rfl (by decide +kernel) ?_)
          refine WL.callF rfl rfl (fun x p d => doRX_c _ _ _ _ _ _ _ _ _ _ _ _ (by first | assumption | exact RMdl.wide (by assumption) | exact RMdl.mono (by assumption) (eqh_at 0 rfl p d) | exact (in_at 0 rfl p d).rmdl | exact (in_at 1 rfl p d).rmdl | exact (in_at 2 rfl p d).rmdl | exact (in_at 3 rfl p d).rmdl | exact (in_at 4 rfl p d).rmdl | exact (in_at 5 rfl p d).rmdl | exact (in_at 6 rfl p d).rmdl | exact (in_at 7 rfl p d).rmdl | exact (in_at 8 rfl p d).rmdl | exact (in_at 9 rfl p d).rmdl | exact (in_at 10 rfl p d).rmdl | exact (in_at 11 rfl p d).rmdl | exact (in_at 12 rfl p d).rmdl | exact (in_at 13 rfl p d).rmdl | exact (in_at 14 rfl p d).rmdl | exact (in_at 15 rfl p d).rmdl | exact (in_at 16 rfl p d).rmdl | exact (in_at 17 rfl p d).rmdl | exact (in_at 18 rfl p d).rmdl | exact (in_at 19 rfl p d).rmdl | exact (in_at 20 rfl p d).rmdl | exact (in_at 21 rfl p d).rmdl | exact (in_at 22 rfl p d).rmdl | exact (in_at 23 rfl p d).rmdl | exact (in_at 24 rfl p d).rmdl | exact (in_at 25 rfl p d).rmdl | exact (in_at 26 rfl p d).rmdl | exact (in_at 27 rfl p d).rmdl | exact (in_at 28 rfl p d).rmdl | exact (in_at 29 rfl p d).rmdl) (by assumption) (by first | assumption | omega)) (fun r2 => ?_)
          refine WL.opens (α := (Value × Value × Value)) (φ := fun x => r2 = .tuple #[.agg #[x.1, x.2.1, .int .i64 _], .agg #[.int .i64 _, .int .i64 _, x.2.2]] ∧ SL x.1 _ ∧ SL x.2.1 _ ∧ SL x.2.2 _) (ps := fun x => [OMdl (.agg #[x.1, x.2.1, .int .i64 _]) _, ORst (.agg #[.int .i64 _, .int .i64 _, x.2.2]) _]) 0 rfl (fun h q => DoR.open q) (by repeat' first | exact FL.nil | apply FL.cons) ?_
          rintro ⟨sv2, iv2, u2⟩ ⟨es2, sa2, sb2, sc2⟩
          subst es2
          dsimp only [List.cons_append, List.nil_append] at sa2 sb2 sc2 ⊢
          refine WL.nilSS (WD.takeL 8 rfl (by decide +kernel) (WL.mv rfl rfl (WL.nilT (WD.takeL 9 rfl (by decide +kernel) (WL.extL rfl rfl rfl (WL.nilT (WD.takeL 10 rfl (by decide +kernel) (WL.extL rfl rfl rfl (WL.nilT (WD.oneL 11 rfl (by decide +kernel) ?_))))))))))
          refine WL.stAO (T := Ty) (j := 3) rfl rfl rfl rfl (by repeat' first | exact AO.nil | apply AO.cons (by first | rfl | exact SL.one (by assumption))) rfl rfl (by repeat' first | exact FL.nil | apply FL.cons) (by repeat' first | exact FL.nil | apply FL.cons) ?_
          refine WL.nilE ?_
          refine WD.doneF hσ0 (by decide +kernel) (by repeat' first | exact FL.nil | apply FL.cons) ?_
          refine W.fit (Hs' := [OMdl _ _, box b1 _ _, box b0 _ _]) (by (repeat' first | exact Sel.nil | refine Sel.cons 0 rfl ?_ | refine Sel.cons 1 rfl ?_ | refine Sel.cons 2 rfl ?_ | refine Sel.cons 3 rfl ?_ | refine Sel.cons 4 rfl ?_ | refine Sel.cons 5 rfl ?_ | refine Sel.cons 6 rfl ?_ | refine Sel.cons 7 rfl ?_ | refine Sel.cons 8 rfl ?_ | refine Sel.cons 9 rfl ?_ | refine Sel.cons 10 rfl ?_ | refine Sel.cons 11 rfl ?_ | refine Sel.cons 12 rfl ?_ | refine Sel.cons 13 rfl ?_ | refine Sel.cons 14 rfl ?_ | refine Sel.cons 15 rfl ?_ | refine Sel.cons 16 rfl ?_ | refine Sel.cons 17 rfl ?_)) ?_
          refine W.freeze 0 rfl (by repeat' first | exact FL.nil | apply FL.cons) (fun ρ3 le3 hin3 => ?_)
          refine W.fit (Hs' := [box b1 _ _, box b0 _ _]) (by (repeat' first | exact Sel.nil | refine Sel.cons 0 rfl ?_ | refine Sel.cons 1 rfl ?_ | refine Sel.cons 2 rfl ?_ | refine Sel.cons 3 rfl ?_ | refine Sel.cons 4 rfl ?_ | refine Sel.cons 5 rfl ?_ | refine Sel.cons 6 rfl ?_ | refine Sel.cons 7 rfl ?_ | refine Sel.cons 8 rfl ?_ | refine Sel.cons 9 rfl ?_ | refine Sel.cons 10 rfl ?_ | refine Sel.cons 11 rfl ?_ | refine Sel.cons 12 rfl ?_ | refine Sel.cons 13 rfl ?_ | refine Sel.cons 14 rfl ?_ | refine Sel.cons 15 rfl ?_ | refine Sel.cons 16 rfl ?_ | refine Sel.cons 17 rfl ?_)) ?_
          subst h1
          refine W.inBlock (W.region (WL.mv rfl rfl (WL.addK rfl rfl rfl (wrap_i64 ⟨by omega, by omega⟩) (WL.as rfl rfl (WL.nil ?_)))))
          refine W.sub ?_ (next ⟨i + 1, _, _, _, _, _⟩ ρ3 (le2.trans le3) ⟨by dsimp only; omega, doM_inv hI _, hM1.mono le3, hin3.rmdl⟩ (by dsimp only; omega))
          exact ⟨rfl, rfl, rfl, rfl, rfl, rfl, trivial⟩
        · refine WL.callV rfl rfl (fun x p d => hopf _ _ _) ?_
          refine WL.nilE (WD.oneL 0 rfl (by decide +kernel) ?_)
          refine WL.ldAF (T := Ty) (j := 1) rfl rfl rfl rfl rfl rfl (by repeat' first | exact FL.nil | apply FL.cons) ?_
          refine WL.nilE (WD.oneL 7 rfl (by decide +kernel) ?_)
          refine WL.callF rfl rfl (fun x p d => doRX_c _ _ _ _ _ _ _ _ _ _ _ _ (by first | assumption | exact RMdl.wide (by assumption) | exact RMdl.mono (by assumption) (eqh_at 0 rfl p d) | exact (in_at 0 rfl p d).rmdl | exact (in_at 1 rfl p d).rmdl | exact (in_at 2 rfl p d).rmdl | exact (in_at 3 rfl p d).rmdl | exact (in_at 4 rfl p d).rmdl | exact (in_at 5 rfl p d).rmdl | exact (in_at 6 rfl p d).rmdl | exact (in_at 7 rfl p d).rmdl | exact (in_at 8 rfl p d).rmdl | exact (in_at 9 rfl p d).rmdl | exact (in_at 10 rfl p d).rmdl | exact (in_at 11 rfl p d).rmdl | exact (in_at 12 rfl p d).rmdl | exact (in_at 13 rfl p d).rmdl | exact (in_at 14 rfl p d).rmdl | exact (in_at 15 rfl p d).rmdl | exact (in_at 16 rfl p d).rmdl | exact (in_at 17 rfl p d).rmdl | exact (in_at 18 rfl p d).rmdl | exact (in_at 19 rfl p d).rmdl | exact (in_at 20 rfl p d).rmdl | exact (in_at 21 rfl p d).rmdl | exact (in_at 22 rfl p d).rmdl | exact (in_at 23 rfl p d).rmdl | exact (in_at 24 rfl p d).rmdl | exact (in_at 25 rfl p d).rmdl | exact (in_at 26 rfl p d).rmdl | exact (in_at 27 rfl p d).rmdl | exact (in_at 28 rfl p d).rmdl | exact (in_at 29 rfl p d).rmdl) (by assumption) (by first | assumption | omega)) (fun r2 => ?_)
          refine WL.opens (α := (Value × Value × Value)) (φ := fun x => r2 = .tuple #[.agg #[x.1, x.2.1, .int .i64 _], .agg #[.int .i64 _, .int .i64 _, x.2.2]] ∧ SL x.1 _ ∧ SL x.2.1 _ ∧ SL x.2.2 _) (ps := fun x => [OMdl (.agg #[x.1, x.2.1, .int .i64 _]) _, ORst (.agg #[.int .i64 _, .int .i64 _, x.2.2]) _]) 0 rfl (fun h q => DoR.open q) (by repeat' first | exact FL.nil | apply FL.cons) ?_
          rintro ⟨sv2, iv2, u2⟩ ⟨es2, sa2, sb2, sc2⟩
          subst es2
          dsimp only [List.cons_append, List.nil_append] at sa2 sb2 sc2 ⊢
          refine WL.nilSS (WD.takeL 8 rfl (by decide +kernel) (WL.mv rfl rfl (WL.nilT (WD.takeL 9 rfl (by decide +kernel) (WL.extL rfl rfl rfl (WL.nilT (WD.takeL 10 rfl (by decide +kernel) (WL.extL rfl rfl rfl (WL.nilT (WD.oneL 11 rfl (by decide +kernel) ?_))))))))))
          refine WL.stAO (T := Ty) (j := 3) rfl rfl rfl rfl (by repeat' first | exact AO.nil | apply AO.cons (by first | rfl | exact SL.one (by assumption))) rfl rfl (by repeat' first | exact FL.nil | apply FL.cons) (by repeat' first | exact FL.nil | apply FL.cons) ?_
          refine WL.nilE ?_
          refine WD.doneF hσ0 (by decide +kernel) (by repeat' first | exact FL.nil | apply FL.cons) ?_
          refine W.fit (Hs' := [OMdl _ _, box b1 _ _, box b0 _ _]) (by (repeat' first | exact Sel.nil | refine Sel.cons 0 rfl ?_ | refine Sel.cons 1 rfl ?_ | refine Sel.cons 2 rfl ?_ | refine Sel.cons 3 rfl ?_ | refine Sel.cons 4 rfl ?_ | refine Sel.cons 5 rfl ?_ | refine Sel.cons 6 rfl ?_ | refine Sel.cons 7 rfl ?_ | refine Sel.cons 8 rfl ?_ | refine Sel.cons 9 rfl ?_ | refine Sel.cons 10 rfl ?_ | refine Sel.cons 11 rfl ?_ | refine Sel.cons 12 rfl ?_ | refine Sel.cons 13 rfl ?_ | refine Sel.cons 14 rfl ?_ | refine Sel.cons 15 rfl ?_ | refine Sel.cons 16 rfl ?_ | refine Sel.cons 17 rfl ?_)) ?_
          refine W.freeze 0 rfl (by repeat' first | exact FL.nil | apply FL.cons) (fun ρ3 le3 hin3 => ?_)
          refine W.fit (Hs' := [box b1 _ _, box b0 _ _]) (by (repeat' first | exact Sel.nil | refine Sel.cons 0 rfl ?_ | refine Sel.cons 1 rfl ?_ | refine Sel.cons 2 rfl ?_ | refine Sel.cons 3 rfl ?_ | refine Sel.cons 4 rfl ?_ | refine Sel.cons 5 rfl ?_ | refine Sel.cons 6 rfl ?_ | refine Sel.cons 7 rfl ?_ | refine Sel.cons 8 rfl ?_ | refine Sel.cons 9 rfl ?_ | refine Sel.cons 10 rfl ?_ | refine Sel.cons 11 rfl ?_ | refine Sel.cons 12 rfl ?_ | refine Sel.cons 13 rfl ?_ | refine Sel.cons 14 rfl ?_ | refine Sel.cons 15 rfl ?_ | refine Sel.cons 16 rfl ?_ | refine Sel.cons 17 rfl ?_)) ?_
          subst h1
          refine W.inBlock (W.region (WL.mv rfl rfl (WL.addK rfl rfl rfl (wrap_i64 ⟨by omega, by omega⟩) (WL.as rfl rfl (WL.nil ?_)))))
          refine W.sub ?_ (next ⟨i + 1, _, _, _, _, _⟩ ρ3 (le2.trans le3) ⟨by dsimp only; omega, doM_inv hI _, hM1.mono le3, hin3.rmdl⟩ (by dsimp only; omega))
          exact ⟨rfl, rfl, rfl, rfl, rfl, rfl, trivial⟩
      · refine W.drawP 12 [false, true] rfl (by repeat' first | exact FL.nil | apply FL.cons) (by repeat' first | exact FL.nil | apply FL.cons) (fun σ0 hσ0 dσ0 => ?_)
        have fσ0_0 := rb_at 0 rfl hσ0 dσ0
        refine WD.takeL 1 rfl (by decide +kernel) (WL.mv rfl rfl (WL.nilT (WD.takeL 2 rfl (by decide +kernel) (WL.mv rfl rfl (WL.nilT (WD.takeL 3 rfl (by decide +kernel) ?_))))))
        refine WL.ix (T := Ty) rfl rfl rfl (by assumption) rfl rfl (by omega) (by first | omega | decide +kernel) ?_
        refine WL.nilT (WD.takeL 4 rfl (by decide +kernel) ?_)
        refine WL.ldKn (T := Ty) rfl rfl rfl rfl (by first | assumption | exact ROs.wide (by assumption)) (by assumption) ?_
        refine WL.nilT (WD.takeL 5 rfl (by decide +kernel) (WL.mv rfl rfl (WL.nilT ?_)))
        refine WD.twoL 0 6 rfl rfl (by decide +kernel) ?_ ?_
        · refine WL.ldAF (T := Ty) (j := 1) rfl rfl rfl rfl rfl rfl (by repeat' first | exact FL.nil | apply FL.cons) ?_
          refine WL.nilE (WD.oneL 6 rfl (by decide +kernel) ?_)
          refine WL.callV rfl rfl (fun x p d => hopf _ _ _) ?_
          refine WL.nilE (WD.oneL 7 rfl (by decide +kernel) ?_)
          refine WL.callF rfl rfl (fun x p d => doX_c _ _ _ _ _ _ _ _ _ _ _ _ (by first | assumption | exact RMdl.wide (by assumption) | exact RMdl.mono (by assumption) (eqh_at 0 rfl p d) | exact (in_at 0 rfl p d).rmdl | exact (in_at 1 rfl p d).rmdl | exact (in_at 2 rfl p d).rmdl | exact (in_at 3 rfl p d).rmdl | exact (in_at 4 rfl p d).rmdl | exact (in_at 5 rfl p d).rmdl | exact (in_at 6 rfl p d).rmdl | exact (in_at 7 rfl p d).rmdl | exact (in_at 8 rfl p d).rmdl | exact (in_at 9 rfl p d).rmdl | exact (in_at 10 rfl p d).rmdl | exact (in_at 11 rfl p d).rmdl | exact (in_at 12 rfl p d).rmdl | exact (in_at 13 rfl p d).rmdl | exact (in_at 14 rfl p d).rmdl | exact (in_at 15 rfl p d).rmdl | exact (in_at 16 rfl p d).rmdl | exact (in_at 17 rfl p d).rmdl | exact (in_at 18 rfl p d).rmdl | exact (in_at 19 rfl p d).rmdl | exact (in_at 20 rfl p d).rmdl | exact (in_at 21 rfl p d).rmdl | exact (in_at 22 rfl p d).rmdl | exact (in_at 23 rfl p d).rmdl | exact (in_at 24 rfl p d).rmdl | exact (in_at 25 rfl p d).rmdl | exact (in_at 26 rfl p d).rmdl | exact (in_at 27 rfl p d).rmdl | exact (in_at 28 rfl p d).rmdl | exact (in_at 29 rfl p d).rmdl) (by assumption) (by first | assumption | omega)) (fun r2 => ?_)
          refine WL.opens (α := (Value × Value × Value)) (φ := fun x => r2 = .tuple #[.agg #[x.1, x.2.1, .int .i64 _], .agg #[.int .i64 _, .int .i64 _, x.2.2]] ∧ SL x.1 _ ∧ SL x.2.1 _ ∧ SL x.2.2 _) (ps := fun x => [OMdl (.agg #[x.1, x.2.1, .int .i64 _]) _, ORst (.agg #[.int .i64 _, .int .i64 _, x.2.2]) _]) 0 rfl (fun h q => DoR.open q) (by repeat' first | exact FL.nil | apply FL.cons) ?_
          rintro ⟨sv2, iv2, u2⟩ ⟨es2, sa2, sb2, sc2⟩
          subst es2
          dsimp only [List.cons_append, List.nil_append] at sa2 sb2 sc2 ⊢
          refine WL.nilSS (WD.takeL 8 rfl (by decide +kernel) (WL.mv rfl rfl (WL.nilT (WD.takeL 9 rfl (by decide +kernel) (WL.extL rfl rfl rfl (WL.nilT (WD.takeL 10 rfl (by decide +kernel) (WL.extL rfl rfl rfl (WL.nilT (WD.oneL 11 rfl (by decide +kernel) ?_))))))))))
          refine WL.stAO (T := Ty) (j := 3) rfl rfl rfl rfl (by repeat' first | exact AO.nil | apply AO.cons (by first | rfl | exact SL.one (by assumption))) rfl rfl (by repeat' first | exact FL.nil | apply FL.cons) (by repeat' first | exact FL.nil | apply FL.cons) ?_
          refine WL.nilE ?_
          refine WD.doneF hσ0 (by decide +kernel) (by repeat' first | exact FL.nil | apply FL.cons) ?_
          refine W.fit (Hs' := [OMdl _ _, box b0 _ _, box b1 _ _]) (by (repeat' first | exact Sel.nil | refine Sel.cons 0 rfl ?_ | refine Sel.cons 1 rfl ?_ | refine Sel.cons 2 rfl ?_ | refine Sel.cons 3 rfl ?_ | refine Sel.cons 4 rfl ?_ | refine Sel.cons 5 rfl ?_ | refine Sel.cons 6 rfl ?_ | refine Sel.cons 7 rfl ?_ | refine Sel.cons 8 rfl ?_ | refine Sel.cons 9 rfl ?_ | refine Sel.cons 10 rfl ?_ | refine Sel.cons 11 rfl ?_ | refine Sel.cons 12 rfl ?_ | refine Sel.cons 13 rfl ?_ | refine Sel.cons 14 rfl ?_ | refine Sel.cons 15 rfl ?_ | refine Sel.cons 16 rfl ?_ | refine Sel.cons 17 rfl ?_)) ?_
          refine W.freeze 0 rfl (by repeat' first | exact FL.nil | apply FL.cons) (fun ρ2 le2 hin2 => ?_)
          refine W.sub ?_ (cut1 ⟨_, _, _⟩ ρ2 le2 ⟨rfl, hin2.rmdl⟩)
          exact ⟨rfl, rfl, rfl, rfl, rfl, rfl, trivial⟩
        · refine WL.callV rfl rfl (fun x p d => hopf _ _ _) ?_
          refine WL.nilE (WD.oneL 0 rfl (by decide +kernel) ?_)
          refine WL.ldAF (T := Ty) (j := 1) rfl rfl rfl rfl rfl rfl (by repeat' first | exact FL.nil | apply FL.cons) ?_
          refine WL.nilE (WD.oneL 7 rfl (by decide +kernel) ?_)
          refine WL.callF rfl rfl (fun x p d => doX_c _ _ _ _ _ _ _ _ _ _ _ _ (by first | assumption | exact RMdl.wide (by assumption) | exact RMdl.mono (by assumption) (eqh_at 0 rfl p d) | exact (in_at 0 rfl p d).rmdl | exact (in_at 1 rfl p d).rmdl | exact (in_at 2 rfl p d).rmdl | exact (in_at 3 rfl p d).rmdl | exact (in_at 4 rfl p d).rmdl | exact (in_at 5 rfl p d).rmdl | exact (in_at 6 rfl p d).rmdl | exact (in_at 7 rfl p d).rmdl | exact (in_at 8 rfl p d).rmdl | exact (in_at 9 rfl p d).rmdl | exact (in_at 10 rfl p d).rmdl | exact (in_at 11 rfl p d).rmdl | exact (in_at 12 rfl p d).rmdl | exact (in_at 13 rfl p d).rmdl | exact (in_at 14 rfl p d).rmdl | exact (in_at 15 rfl p d).rmdl | exact (in_at 16 rfl p d).rmdl | exact (in_at 17 rfl p d).rmdl | exact (in_at 18 rfl p d).rmdl | exact (in_at 19 rfl p d).rmdl | exact (in_at 20 rfl p d).rmdl | exact (in_at 21 rfl p d).rmdl | exact (in_at 22 rfl p d).rmdl | exact (in_at 23 rfl p d).rmdl | exact (in_at 24 rfl p d).rmdl | exact (in_at 25 rfl p d).rmdl | exact (in_at 26 rfl p d).rmdl | exact (in_at 27 rfl p d).rmdl | exact (in_at 28 rfl p d).rmdl | exact (in_at 29 rfl p d).rmdl) (by assumption) (by first | assumption | omega)) (fun r2 => ?_)
          refine WL.opens (α := (Value × Value × Value)) (φ := fun x => r2 = .tuple #[.agg #[x.1, x.2.1, .int .i64 _], .agg #[.int .i64 _, .int .i64 _, x.2.2]] ∧ SL x.1 _ ∧ SL x.2.1 _ ∧ SL x.2.2 _) (ps := fun x => [OMdl (.agg #[x.1, x.2.1, .int .i64 _]) _, ORst (.agg #[.int .i64 _, .int .i64 _, x.2.2]) _]) 0 rfl (fun h q => DoR.open q) (by repeat' first | exact FL.nil | apply FL.cons) ?_
          rintro ⟨sv2, iv2, u2⟩ ⟨es2, sa2, sb2, sc2⟩
          subst es2
          dsimp only [List.cons_append, List.nil_append] at sa2 sb2 sc2 ⊢
          refine WL.nilSS (WD.takeL 8 rfl (by decide +kernel) (WL.mv rfl rfl (WL.nilT (WD.takeL 9 rfl (by decide +kernel) (WL.extL rfl rfl rfl (WL.nilT (WD.takeL 10 rfl (by decide +kernel) (WL.extL rfl rfl rfl (WL.nilT (WD.oneL 11 rfl (by decide +kernel) ?_))))))))))
          refine WL.stAO (T := Ty) (j := 3) rfl rfl rfl rfl (by repeat' first | exact AO.nil | apply AO.cons (by first | rfl | exact SL.one (by assumption))) rfl rfl (by repeat' first | exact FL.nil | apply FL.cons) (by repeat' first | exact FL.nil | apply FL.cons) ?_
          refine WL.nilE ?_
          refine WD.doneF hσ0 (by decide +kernel) (by repeat' first | exact FL.nil | apply FL.cons) ?_
          refine W.fit (Hs' := [OMdl _ _, box b0 _ _, box b1 _ _]) (by (repeat' first | exact Sel.nil | refine Sel.cons 0 rfl ?_ | refine Sel.cons 1 rfl ?_ | refine Sel.cons 2 rfl ?_ | refine Sel.cons 3 rfl ?_ | refine Sel.cons 4 rfl ?_ | refine Sel.cons 5 rfl ?_ | refine Sel.cons 6 rfl ?_ | refine Sel.cons 7 rfl ?_ | refine Sel.cons 8 rfl ?_ | refine Sel.cons 9 rfl ?_ | refine Sel.cons 10 rfl ?_ | refine Sel.cons 11 rfl ?_ | refine Sel.cons 12 rfl ?_ | refine Sel.cons 13 rfl ?_ | refine Sel.cons 14 rfl ?_ | refine Sel.cons 15 rfl ?_ | refine Sel.cons 16 rfl ?_ | refine Sel.cons 17 rfl ?_)) ?_
          refine W.freeze 0 rfl (by repeat' first | exact FL.nil | apply FL.cons) (fun ρ2 le2 hin2 => ?_)
          refine W.sub ?_ (cut1 ⟨_, _, _⟩ ρ2 le2 ⟨rfl, hin2.rmdl⟩)
          exact ⟨rfl, rfl, rfl, rfl, rfl, rfl, trivial⟩
    · refine W.seq ?_
      refine W.seq (W.region (WL.mv rfl rfl (WL.mv rfl rfl ?_)))
      refine WL.len (T := Ty) rfl rfl (by assumption) rfl ?_
      refine WL.lss rfl rfl rfl (WL.mv rfl rfl (WL.gT rfl rfl (by omega) (WL.mv rfl rfl (WL.gT rfl rfl (by omega) (WL.lss rfl rfl rfl (WL.pickTp rfl rfl (by omega) rfl (WL.nil (W.condpF rfl (by omega) (W.exit rfl ?_)))))))))
      refine W.fit (by (repeat' first | exact Sel.nil | refine Sel.cons 0 rfl ?_ | refine Sel.cons 1 rfl ?_ | refine Sel.cons 2 rfl ?_ | refine Sel.cons 3 rfl ?_ | refine Sel.cons 4 rfl ?_ | refine Sel.cons 5 rfl ?_ | refine Sel.cons 6 rfl ?_ | refine Sel.cons 7 rfl ?_ | refine Sel.cons 8 rfl ?_ | refine Sel.cons 9 rfl ?_ | refine Sel.cons 10 rfl ?_ | refine Sel.cons 11 rfl ?_ | refine Sel.cons 12 rfl ?_ | refine Sel.cons 13 rfl ?_ | refine Sel.cons 14 rfl ?_ | refine Sel.cons 15 rfl ?_ | refine Sel.cons 16 rfl ?_ | refine Sel.cons 17 rfl ?_)) (W.sub ?_ (cut0 ⟨M, sv, iv, sw, iw⟩ ρ1 le1 ⟨hI.mono (by omega), hM, hW⟩))
      exact ⟨rfl, rfl, rfl, rfl, trivial⟩
  · refine W.seq ?_
    refine W.seq (W.region (WL.mv rfl rfl (WL.mv rfl rfl ?_)))
    refine WL.len (T := Ty) rfl rfl (by assumption) rfl ?_
    refine WL.lss rfl rfl rfl (WL.mv rfl rfl (WL.gdTn rfl rfl rfl rfl rfl (by omega) (WL.gdTn rfl rfl rfl rfl rfl (by omega) (WL.pickFp rfl rfl (by omega) rfl (WL.nil (W.condF rfl (W.exit rfl ?_)))))))
    refine W.fit (by (repeat' first | exact Sel.nil | refine Sel.cons 0 rfl ?_ | refine Sel.cons 1 rfl ?_ | refine Sel.cons 2 rfl ?_ | refine Sel.cons 3 rfl ?_ | refine Sel.cons 4 rfl ?_ | refine Sel.cons 5 rfl ?_ | refine Sel.cons 6 rfl ?_ | refine Sel.cons 7 rfl ?_ | refine Sel.cons 8 rfl ?_ | refine Sel.cons 9 rfl ?_ | refine Sel.cons 10 rfl ?_ | refine Sel.cons 11 rfl ?_ | refine Sel.cons 12 rfl ?_ | refine Sel.cons 13 rfl ?_ | refine Sel.cons 14 rfl ?_ | refine Sel.cons 15 rfl ?_ | refine Sel.cons 16 rfl ?_ | refine Sel.cons 17 rfl ?_)) (W.sub ?_ (cut0 ⟨M, sv, iv, sw, iw⟩ ρ1 le1 ⟨hI.mono (by omega), hM, hW⟩))
    exact ⟨rfl, rfl, rfl, rfl, trivial⟩
end Go.Proofs.Ytbebhmdjnneimaa
