/- One hand alone, as the document has it: a model's copy; a series that is begun. -/
import Derived.Test.YtbebhmdjnneimaaStc
import Derived.Test.YtbebhmdjnneimaaNum
import Derived.Test.YtbebhmdjnneimaaTab
import Derived.Test.YtbebhmdjnneimaaMref1
set_option linter.unusedSimpArgs false
set_option linter.unusedVariables false
set_option maxRecDepth 20000
set_option maxHeartbeats 4000000
namespace Go.Proofs.Ytbebhmdjnneimaa
open Go
attribute [local irreducible] W WL Fn Buf ROs SL eptr box Rd Src bndOK WD RB Reads In Own
theorem copied_c (ρ : Hp) (v : Value) (m : Mdl) (n : Nat) (hm : RMdl ρ v m) (h1 : m.ser.length ≤ n) (h2 : m.its.length ≤ n) (h3 : ∀ s ∈ m.ser, s.list.length ≤ n) (h4 : ∀ x ∈ m.its, x.rest.length ≤ n) (hn : n ≤ 100000000) :
    Fn Try.prog 49 #[v] ρ [] (fun r => OMdl r m) := by
  refine in49 rfl rfl ?_
  obtain ⟨sv, iv, L, K, rfl, e1, e2, r1, r2, r3, r4⟩ := hm.cells
  have lL : L.length ≤ n := by rw [← e1] at h1; simpa using h1
  have lK : K.length ≤ n := by rw [← e2] at h2; simpa using h2
  have sL : SL sv L.length := r1.sl (ser_cells L) (by omega)
  have sK : SL iv K.length := r2.sl (itr_cells K) (by omega)
  refine W.seq (W.region ?_)
  refine WL.bxF rfl rfl (by repeat' constructor) (fun b0 => ?_)
  refine WL.alF (T := Ty) rfl rfl (by repeat' constructor) (fun b1 => ?_)
  refine WL.nil (W.seq (W.region (WL.faN (T := Ty) (off' := 2) rfl rfl rfl rfl rfl rfl rfl (WL.ldN (T := Ty) (j := 1) rfl rfl rfl rfl rfl rfl ?_))))
  refine WL.bdC (T := Ty) rfl rfl rfl rfl (by repeat' first | exact CO.nil | apply CO.one (by first | rfl | exact SL.one (by assumption)) | apply CO.agg) rfl (by repeat' constructor) ?_
  refine WL.alF (T := Ty) rfl rfl (by repeat' constructor) (fun b2 => ?_)
  refine WL.stAO (T := Ty) (j := 0) rfl rfl rfl rfl (by repeat' first | exact AO.nil | apply AO.cons (by first | rfl | exact SL.one (by assumption))) rfl rfl (by repeat' constructor) (by repeat' constructor) ?_
  refine WL.nil (W.seq (W.seq (W.region (WL.as rfl rfl (WL.nil (W.block (W.own0 owSer (W.nb (sz := 5) ?_))))))))
  refine W.loopS (σ := Nat × Value × List (Ser × Value)) (fun s => [(1, pt b0 0), (2, pt b1 0), (3, pt b2 0), (4, .int .i64 (s.1 : Int))])
    (fun s => [Buf 5 s.2.1 (s.2.2.flatMap serC), Own owSer s.2.2, box b2 [s.2.1, nilV, .int .i64 m.next] 31, box b1 [nilV, nilV, .int .i64 0] 31, box b0 [sv, iv, .int .i64 m.next] 31])
    (fun s => s.1 ≤ L.length ∧ s.2.2.map Prod.fst = m.ser.take s.1 ∧ SL s.2.1 s.1) (fun s => L.length - s.1) (0, nilV, []) ⟨rfl, rfl, rfl, rfl, trivial⟩ rfl ⟨Nat.zero_le _, rfl, slZ⟩ ?_
  rintro ⟨k, w, M⟩ ⟨hk, e3, sw⟩ next
  simp only [] at hk e3 sw next ⊢
  have lM : M.length = k := by have := congrArg List.length e3; rw [List.length_map, List.length_take, ← e1, List.length_map] at this; omega
  have cM := ser_cells M
  by_cases hc : k < L.length
  · obtain ⟨⟨p, u⟩, hp⟩ : ∃ p, L[k]? = some p := ⟨_, List.getElem?_eq_getElem hc⟩
    have hs := map_fst_get e1 hp
    have hr : ((L.flatMap serC).drop (((k : Nat) : Int).toNat * 5)).take 5 = [.int .i64 p.id, .bool p.shut, .bool p.any, .int .i64 p.last, u] := flat_row ser_len hp
    have ru : ROs ρ 2 u (p.list.flatMap smC) := r3 _ (List.mem_of_getElem? hp)
    have su : SL u p.list.length := ru.sl (sms_cells _) (by omega)
    have hll := h3 p (List.mem_of_getElem? hs)
    have e3' : ∀ y, (M ++ [(p, y)]).map Prod.fst = m.ser.take (k + 1) := fun y => by rw [List.map_append, e3, List.take_add_one, hs]; rfl
    have hap : ∀ y, M.flatMap serC ++ [.int .i64 p.id, .bool p.shut, .bool p.any, .int .i64 p.last, y] = (M ++ [(p, y)]).flatMap serC := fun y => by rw [List.flatMap_append]; rfl
    refine W.seq (W.seq (W.region (WL.mv rfl rfl (WL.faN (T := Ty) (off' := 0) rfl rfl rfl rfl rfl rfl rfl (WL.ldN (T := Ty) (j := 4) rfl rfl rfl rfl rfl rfl ?_)))))
    refine WL.len (T := Ty) rfl rfl (by assumption) rfl ?_
    refine WL.lss rfl rfl rfl (WL.nil (W.condpT rfl (by omega) (W.skip (W.seq (W.block (W.seq (W.region (WL.faN (T := Ty) (off' := 0) rfl rfl rfl rfl rfl rfl rfl (WL.ldN (T := Ty) (j := 4) rfl rfl rfl rfl rfl rfl (WL.mv rfl rfl ?_))))))))))
    refine WL.ix (T := Ty) rfl rfl rfl (by assumption) rfl rfl (by omega) (by first | omega | decide +kernel) ?_
    refine WL.ldAR (T := Ty) rfl rfl rfl rfl (by first | assumption | exact ROs.wide (by assumption)) (by assumption) rfl ?_
    refine WL.alF (T := Ty) rfl rfl (by repeat' constructor) (fun b3 => ?_)
    refine WL.stAO (T := Ty) (j := 0) rfl rfl rfl rfl (by repeat' first | exact AO.nil | apply AO.cons (by first | rfl | exact SL.one (by assumption))) rfl rfl (by repeat' constructor) (by repeat' constructor) ?_
    refine WL.nil (W.seq (W.region (WL.faN (T := Ty) (off' := 4) rfl rfl rfl rfl rfl rfl rfl (WL.ldN (T := Ty) (j := 0) rfl rfl rfl rfl rfl rfl ?_))))
    refine WL.callF rfl rfl (fun x p d => ownR_c _ _ _ (by first | assumption | exact ROs.wide (by assumption) | exact ROs.mono (by assumption) (eqh_at 0 rfl p d) | exact ros_at 0 rfl p d | exact ros_at 1 rfl p d | exact ros_at 2 rfl p d | exact ros_at 3 rfl p d | exact ros_at 4 rfl p d) (by first | assumption | omega)) (fun u4 => ?_)
    refine WL.fact (i := 0) rfl (fun h hb => hb.sl (sms_cells _) (by omega)) (fun hsl4 => ?_)
    refine WL.faN (T := Ty) (off' := 4) rfl rfl rfl rfl rfl rfl rfl ?_
    refine WL.stF (T := Ty) (j := 1) rfl rfl rfl rfl (SL.one (by assumption)) rfl rfl (by repeat' constructor) (by repeat' constructor) ?_
    refine WL.nil (W.region (WL.faN (T := Ty) (off' := 0) rfl rfl rfl rfl rfl rfl rfl (WL.ldN (T := Ty) (j := 4) rfl rfl rfl rfl rfl rfl ?_)))
    refine WL.ldAF (T := Ty) (j := 1) rfl rfl rfl rfl rfl rfl (by repeat' constructor) ?_
    refine WL.bsC (T := Ty) rfl rfl rfl rfl rfl rfl rfl (by repeat' first | exact CO.nil | apply CO.one (by first | rfl | exact SL.one (by assumption)) | apply CO.agg) rfl (by repeat' constructor) (fun u5 hu5 => ?_)
    refine WL.apS (T := Ty) (i := 2) rfl rfl rfl rfl rfl rfl rfl rfl rfl (by first | rfl | assumption) rfl (by assumption) (by repeat' first | exact AO.nil | apply AO.cons (by first | rfl | exact SL.one (by assumption))) (by first | omega | (simp; omega)) (by first | omega | (simp; omega)) (fun v' => (by repeat' constructor)) (fun u6 hu6 => ?_)
    refine WL.faN (T := Ty) (off' := 0) rfl rfl rfl rfl rfl rfl rfl ?_
    refine WL.stF (T := Ty) (j := 4) rfl rfl rfl rfl (SL.one (by assumption)) rfl rfl (by repeat' constructor) (by repeat' constructor) ?_
    refine WL.nil (W.inBlock (W.region (WL.mv rfl rfl (WL.addK rfl rfl rfl (wrap_i64 ⟨by omega, by omega⟩) (WL.as rfl rfl (WL.nil ?_))))))
    rw [hap]
    refine W.fit (Hs' := [Buf 2 _ (p.list.flatMap smC), Own owSer M, box b2 _ _, box b0 _ _, box b1 _ _, Buf 5 _ _]) (by (repeat' first | exact Sel.nil | refine Sel.cons 0 rfl ?_ | refine Sel.cons 1 rfl ?_ | refine Sel.cons 2 rfl ?_ | refine Sel.cons 3 rfl ?_ | refine Sel.cons 4 rfl ?_ | refine Sel.cons 5 rfl ?_ | refine Sel.cons 6 rfl ?_ | refine Sel.cons 7 rfl ?_ | refine Sel.cons 8 rfl ?_)) ?_
    refine W.two (r := Own owSer (M ++ [(p, _)])) _ _ rfl (fun h q => own_snoc (f := owSer) (a := (p, _)) q) ?_
    refine W.fit (by (repeat' first | exact Sel.nil | refine Sel.cons 0 rfl ?_ | refine Sel.cons 1 rfl ?_ | refine Sel.cons 2 rfl ?_ | refine Sel.cons 3 rfl ?_ | refine Sel.cons 4 rfl ?_ | refine Sel.cons 5 rfl ?_ | refine Sel.cons 6 rfl ?_ | refine Sel.cons 7 rfl ?_ | refine Sel.cons 8 rfl ?_)) (W.sub ?_ (next ⟨k + 1, _, M ++ [(p, _)]⟩ ⟨by simp only []; omega, e3' _, by simp only []; rw [← lM]; assumption⟩ (by simp only []; omega)))
    exact ⟨rfl, rfl, rfl, rfl, trivial⟩
  · have hkk : k = L.length := by omega
    subst hkk
    rw [show m.ser.take L.length = m.ser by rw [← e1]; exact List.take_of_length_le (by rw [List.length_map]; exact Nat.le_refl _)] at e3
    refine W.seq (W.seq (W.region (WL.mv rfl rfl (WL.faN (T := Ty) (off' := 0) rfl rfl rfl rfl rfl rfl rfl (WL.ldN (T := Ty) (j := 4) rfl rfl rfl rfl rfl rfl ?_)))))
    refine WL.len (T := Ty) rfl rfl (by assumption) rfl ?_
    refine WL.lss rfl rfl rfl (WL.nil (W.condpF rfl (by omega) (W.exit rfl (W.seq (W.seq (W.region (WL.as rfl rfl (WL.nil (W.block (W.own0 owItr (W.nb (sz := 2) ?_)))))))))))
    refine W.loopS (σ := Nat × Value × List (Itr × Value)) (fun s => [(1, pt b0 0), (2, pt b1 0), (3, pt b2 0), (6, .int .i64 (s.1 : Int))])
      (fun s => [Buf 2 s.2.1 (s.2.2.flatMap itrC), Own owItr s.2.2, Buf 5 w (M.flatMap serC), Own owSer M, box b2 [w, s.2.1, .int .i64 m.next] 31, box b1 [nilV, nilV, .int .i64 0] 31, box b0 [sv, iv, .int .i64 m.next] 31])
      (fun s => s.1 ≤ K.length ∧ s.2.2.map Prod.fst = m.its.take s.1 ∧ SL s.2.1 s.1) (fun s => K.length - s.1) (0, nilV, []) ⟨rfl, rfl, rfl, rfl, trivial⟩ rfl ⟨Nat.zero_le _, rfl, slZ⟩ ?_
    rintro ⟨k, w', N⟩ ⟨hk, e4, sw'⟩ next
    simp only [] at hk e4 sw' next ⊢
    have lN : N.length = k := by have := congrArg List.length e4; rw [List.length_map, List.length_take, ← e2, List.length_map] at this; omega
    have cN := itr_cells N
    by_cases hc : k < K.length
    · obtain ⟨⟨p, u⟩, hp⟩ : ∃ p, K[k]? = some p := ⟨_, List.getElem?_eq_getElem hc⟩
      have hs := map_fst_get e2 hp
      have g0 : (K.flatMap itrC)[((k : Nat) : Int).toNat * 2 + 0]? = some (.int .i64 p.id) := flat_get itr_len hp rfl
      have g1 : (K.flatMap itrC)[((k : Nat) : Int).toNat * 2 + 1]? = some u := flat_get itr_len hp rfl
      have ru : ROs ρ 2 u (p.rest.flatMap smC) := r4 _ (List.mem_of_getElem? hp)
      have su : SL u p.rest.length := ru.sl (sms_cells _) (by omega)
      have hll := h4 p (List.mem_of_getElem? hs)
      have e4' : ∀ y, (N ++ [(p, y)]).map Prod.fst = m.its.take (k + 1) := fun y => by rw [List.map_append, e4, List.take_add_one, hs]; rfl
      have hap : ∀ y, N.flatMap itrC ++ [.int .i64 p.id, y] = (N ++ [(p, y)]).flatMap itrC := fun y => by rw [List.flatMap_append]; rfl
      refine W.seq (W.seq (W.region (WL.mv rfl rfl (WL.faN (T := Ty) (off' := 1) rfl rfl rfl rfl rfl rfl rfl (WL.ldN (T := Ty) (j := 6) rfl rfl rfl rfl rfl rfl ?_)))))
      refine WL.len (T := Ty) rfl rfl (by assumption) rfl ?_
      refine WL.lss rfl rfl rfl (WL.nil (W.condpT rfl (by omega) (W.skip (W.seq (W.block ?_)))))
      refine W.drawP 18 [true, false, true, false, false, false, false] rfl (by repeat' constructor) (by repeat' constructor) (fun σ0 hσ0 dσ0 => ?_)
      have fσ0_0 := in_at 0 rfl hσ0 dσ0
      have fσ0_1 := in_at 1 rfl hσ0 dσ0
      have fσ0_2 := rb_at 2 rfl hσ0 dσ0
      have fσ0_3 := rb_at 3 rfl hσ0 dσ0
      have fσ0_4 := rb_at 4 rfl hσ0 dσ0
      refine WD.takeL 0 rfl (by decide +kernel) (WL.faN (T := Ty) (off' := 1) rfl rfl rfl rfl rfl rfl rfl (WL.nilT (WD.takeL 1 rfl (by decide +kernel) ?_)))
      refine WL.ldBN (T := Ty) rfl rfl rfl rfl (by first | assumption | exact RB.wide (by assumption) | exact In.rb (by assumption)) rfl ?_
      refine WL.nilT (WD.takeL 2 rfl (by decide +kernel) (WL.faN (T := Ty) (off' := 1) rfl rfl rfl rfl rfl rfl rfl (WL.nilT (WD.takeL 3 rfl (by decide +kernel) ?_))))
      refine WL.ldBN (T := Ty) rfl rfl rfl rfl (by first | assumption | exact RB.wide (by assumption) | exact In.rb (by assumption)) rfl ?_
      refine WL.nilT (WD.takeL 4 rfl (by decide +kernel) (WL.mv rfl rfl (WL.nilT (WD.takeL 5 rfl (by decide +kernel) ?_))))
      refine WL.ix (T := Ty) rfl rfl rfl (by assumption) rfl rfl (by omega) (by first | omega | decide +kernel) ?_
      refine WL.nilT (WD.takeL 6 rfl (by decide +kernel) (WL.faEN (T := Ty) (off' := 0) rfl rfl rfl rfl rfl rfl rfl (WL.nilT (WD.takeL 7 rfl (by decide +kernel) ?_))))
      refine WL.ldR (T := Ty) rfl rfl rfl rfl (by first | assumption | exact ROs.wide (by assumption)) (by assumption) ?_
      refine WL.nilT (WD.takeL 8 rfl (by decide +kernel) (WL.faN (T := Ty) (off' := 1) rfl rfl rfl rfl rfl rfl rfl (WL.nilT (WD.takeL 9 rfl (by decide +kernel) ?_))))
      refine WL.ldBN (T := Ty) rfl rfl rfl rfl (by first | assumption | exact RB.wide (by assumption) | exact In.rb (by assumption)) rfl ?_
      refine WL.nilT (WD.takeL 10 rfl (by decide +kernel) (WL.mv rfl rfl (WL.nilT (WD.takeL 11 rfl (by decide +kernel) ?_))))
      refine WL.ix (T := Ty) rfl rfl rfl (by assumption) rfl rfl (by omega) (by first | omega | decide +kernel) ?_
      refine WL.nilT (WD.takeL 12 rfl (by decide +kernel) (WL.faEN (T := Ty) (off' := 1) rfl rfl rfl rfl rfl rfl rfl (WL.nilT (WD.takeL 13 rfl (by decide +kernel) ?_))))
      refine WL.ldR (T := Ty) rfl rfl rfl rfl (by first | assumption | exact ROs.wide (by assumption)) (by assumption) ?_
      refine WL.nilT (WD.oneL 14 rfl (by decide +kernel) ?_)
      refine WL.callF rfl rfl (fun x p d => ownR_c _ _ _ (by first | assumption | exact ROs.wide (by assumption) | exact ROs.mono (by assumption) (eqh_at 0 rfl p d) | exact ros_at 0 rfl p d | exact ros_at 1 rfl p d | exact ros_at 2 rfl p d | exact ros_at 3 rfl p d | exact ros_at 4 rfl p d) (by first | assumption | omega)) (fun u3 => ?_)
      refine WL.fact (i := 0) rfl (fun h hb => hb.sl (sms_cells _) (by omega)) (fun hsl3 => ?_)
      refine WL.nilH hσ0 (fun σ1 hσ1 dσ1 mσ1 => ?_)
      have fσ0_0 := fσ0_0.mono mσ1
      have fσ0_1 := fσ0_1.mono mσ1
      have fσ0_2 := fσ0_2.mono mσ1
      have fσ0_3 := fσ0_3.mono mσ1
      have fσ0_4 := fσ0_4.mono mσ1
      have fσ1_0 := ros_at 0 rfl hσ1 dσ1
      refine WD.takeL 15 rfl (by decide +kernel) ?_
      refine WL.bdC (T := Ty) rfl rfl rfl rfl (by repeat' first | exact CO.nil | apply CO.one (by first | rfl | exact SL.one (by assumption)) | apply CO.agg) rfl (by repeat' constructor) ?_
      refine WL.nilT (WD.oneL 16 rfl (by decide +kernel) ?_)
      refine WL.bsC (T := Ty) rfl rfl rfl rfl rfl rfl rfl (by repeat' first | exact CO.nil | apply CO.one (by first | rfl | exact SL.one (by assumption)) | apply CO.agg) rfl (by repeat' constructor) (fun u4 hu4 => ?_)
      refine WL.nilH hσ1 (fun σ2 hσ2 dσ2 mσ2 => ?_)
      have fσ0_0 := fσ0_0.mono mσ2
      have fσ0_1 := fσ0_1.mono mσ2
      have fσ0_2 := fσ0_2.mono mσ2
      have fσ0_3 := fσ0_3.mono mσ2
      have fσ0_4 := fσ0_4.mono mσ2
      have fσ1_0 := fσ1_0.mono mσ2
      have fσ2_0 := ros_at 0 rfl hσ2 dσ2
      refine WD.oneL 17 rfl (by decide +kernel) ?_
      refine WL.ap (T := Ty) (i := 1) (m := 1) rfl rfl rfl rfl rfl rfl rfl rfl (by first | exact .ro (by assumption) | exact .ro (ROs.wide (by assumption)) | exact .eqJ 0 rfl (by assumption) | exact .own 0 rfl | exact .own 1 rfl | exact .own 2 rfl | exact .own 3 rfl | exact .own 4 rfl | exact .own 5 rfl) (by first | assumption | exact ROs.slm (by assumption)) (by assumption) (by rfl) (AO.all (by repeat' first | exact AO.nil | apply AO.cons (by first | rfl | exact SL.one (by assumption)))) (by first | omega | (simp; omega)) (by unfold maxLen; omega) (fun v' => (by repeat' constructor)) (fun u5 hu5 => ?_)
      refine WL.nilE ?_
      refine WD.lastG hσ2 (by decide +kernel) (by repeat' constructor) rfl (by repeat' constructor) ?_
      refine WL.faN (T := Ty) (off' := 1) rfl rfl rfl rfl rfl rfl rfl ?_
      refine WL.stF (T := Ty) (j := 4) rfl rfl rfl rfl (SL.one (by assumption)) rfl rfl (by repeat' constructor) (by repeat' constructor) ?_
      refine WL.nil ?_
      rw [hap]
      refine W.inBlock (W.region (WL.mv rfl rfl (WL.addK rfl rfl rfl (wrap_i64 ⟨by omega, by omega⟩) (WL.as rfl rfl (WL.nil ?_)))))
      refine W.fit (Hs' := [Buf 2 _ (p.rest.flatMap smC), Own owItr N, Own owSer M, box b2 _ _, box b1 _ _, box b0 _ _, Buf 2 _ ((N ++ _).flatMap itrC), Buf 5 w _]) (by (repeat' first | exact Sel.nil | refine Sel.cons 0 rfl ?_ | refine Sel.cons 1 rfl ?_ | refine Sel.cons 2 rfl ?_ | refine Sel.cons 3 rfl ?_ | refine Sel.cons 4 rfl ?_ | refine Sel.cons 5 rfl ?_ | refine Sel.cons 6 rfl ?_ | refine Sel.cons 7 rfl ?_ | refine Sel.cons 8 rfl ?_)) ?_
      refine W.two (r := Own owItr (N ++ [(p, _)])) _ _ rfl (fun h q => own_snoc (f := owItr) (a := (p, _)) q) ?_
      refine W.fit (by (repeat' first | exact Sel.nil | refine Sel.cons 0 rfl ?_ | refine Sel.cons 1 rfl ?_ | refine Sel.cons 2 rfl ?_ | refine Sel.cons 3 rfl ?_ | refine Sel.cons 4 rfl ?_ | refine Sel.cons 5 rfl ?_ | refine Sel.cons 6 rfl ?_ | refine Sel.cons 7 rfl ?_ | refine Sel.cons 8 rfl ?_)) (W.sub ?_ (next ⟨k + 1, _, N ++ [(p, _)]⟩ ⟨by simp only []; omega, e4' _, by simp only []; rw [← lN]; assumption⟩ (by simp only []; omega)))
      exact ⟨rfl, rfl, rfl, rfl, trivial⟩
    · have hkk : k = K.length := by omega
      subst hkk
      rw [show m.its.take K.length = m.its by rw [← e2]; exact List.take_of_length_le (by rw [List.length_map]; exact Nat.le_refl _)] at e4
      refine W.seq (W.seq (W.region (WL.mv rfl rfl (WL.faN (T := Ty) (off' := 1) rfl rfl rfl rfl rfl rfl rfl (WL.ldN (T := Ty) (j := 6) rfl rfl rfl rfl rfl rfl ?_)))))
      refine WL.len (T := Ty) rfl rfl (by assumption) rfl ?_
      refine WL.lss rfl rfl rfl (WL.nil (W.condpF rfl (by omega) (W.exit rfl (W.seq (W.region ?_)))))
      refine WL.ldAF (T := Ty) (j := 4) rfl rfl rfl rfl rfl rfl (by repeat' constructor) ?_
      refine WL.stAO (T := Ty) (j := 5) rfl rfl rfl rfl (by repeat' first | exact AO.nil | apply AO.cons (by first | rfl | exact SL.one (by assumption))) rfl rfl (by repeat' constructor) (by repeat' constructor) ?_
      refine WL.nil ?_
      refine W.fit (Hs' := [box b1 _ _, Buf 5 w (M.flatMap serC), Buf 2 w' (N.flatMap itrC), Own owSer M, Own owItr N]) (by (repeat' first | exact Sel.nil | refine Sel.cons 0 rfl ?_ | refine Sel.cons 1 rfl ?_ | refine Sel.cons 2 rfl ?_ | refine Sel.cons 3 rfl ?_ | refine Sel.cons 4 rfl ?_ | refine Sel.cons 5 rfl ?_ | refine Sel.cons 6 rfl ?_ | refine Sel.cons 7 rfl ?_ | refine Sel.cons 8 rfl ?_)) ?_
      exact W.retC (T := Ty) (j := 0) rfl rfl rfl rfl rfl rfl (fun h q => ⟨w, w', M, N, rfl, e3, e4, q⟩)
theorem begun_c (ρ : Hp) (sv iv : Value) (nx : Int) (L : List (Ser × Value)) (id : Int) (n : Nat) (hv : ROs ρ 5 sv (L.flatMap serC)) (ho : ∀ q ∈ L.flatMap serC, q.oneCell' = true) (si : SL iv n) (hl : L.length ≤ 1000000) :
  Fn Try.prog 52 #[.agg #[sv, iv, .int .i64 nx], .int .i64 id] ρ [] (fun r h => ((serHas (L.map Prod.fst) id).isSome = true ∧ r = .tuple #[.agg #[sv, iv, .int .i64 nx], .int .i64 (serIx (L.map Prod.fst) id : Nat)] ∧ emp h) ∨
   ((serHas (L.map Prod.fst) id).isSome = false ∧ ∃ u, r = .tuple #[.agg #[u, iv, .int .i64 nx], .int .i64 (serIx (L.map Prod.fst) id : Nat)] ∧ Buf 5 u ((L.take (serIx (L.map Prod.fst) id) ++ [((⟨id, false, false, 0, []⟩ : Ser), nilV)] ++ L.drop (serIx (L.map Prod.fst) id)).flatMap serC) h)) := by
 refine in52 rfl rfl ?_
 have sL : SL sv L.length := hv.sl (ser_cells L) (by omega)
 refine W.seq (W.region ?_)
 refine WL.bxF rfl rfl (by repeat' constructor) (fun b0 => ?_)
 refine WL.alF (T := Ty) rfl rfl (by repeat' constructor) (fun b1 => ?_)
 refine WL.as rfl rfl (WL.nil (W.seq (W.region (WL.as rfl rfl (WL.nil (W.seq (W.block ?_)))))))
 refine W.loopS (σ := Nat) (fun i => [(1, .int .i64 id), (2, pt b0 0), (4, pt b1 0), (5, .int .i64 0), (6, .int .i64 (i : Int))]) (fun _ => [box b1 [nilV, nilV, .int .i64 0] 31, box b0 [sv, iv, .int .i64 nx] 31]) (fun i => i ≤ L.length ∧ ∀ b ∈ L.take i, decide (id ≤ b.1.id) = false) (fun i => L.length - i) 0 ⟨rfl, rfl, rfl, rfl, rfl, trivial⟩ rfl ⟨Nat.zero_le _, by simp⟩ ?_
 intro i ⟨hi, hn⟩ next
 by_cases hc : i < L.length
 ·obtain ⟨⟨s, u⟩, ha⟩ : ∃ a, L[i]? = some a := ⟨_, List.getElem?_eq_getElem hc⟩
  have hg : (L.flatMap serC)[((i : Nat) : Int).toNat * 5 + 0]? = some (.int .i64 s.id) := flat_get ser_len ha rfl
  by_cases he : s.id < id
  ·refine W.seq ?_
   refine W.seq (W.region (WL.mv rfl rfl (WL.faN (T := Ty) (off' := 0) rfl rfl rfl rfl rfl rfl rfl (WL.ldN (T := Ty) (j := 1) rfl rfl rfl rfl rfl rfl ?_))))
   refine WL.len (T := Ty) rfl rfl (by assumption) rfl ?_
   refine WL.lss rfl rfl rfl (WL.mv rfl rfl (WL.gT rfl rfl (by omega) (WL.faN (T := Ty) (off' := 0) rfl rfl rfl rfl rfl rfl rfl (WL.gT rfl rfl (by omega) (WL.ldN (T := Ty) (j := 1) rfl rfl rfl rfl rfl rfl (WL.gT rfl rfl (by omega) (WL.mv rfl rfl (WL.gT rfl rfl (by omega) ?_))))))))
   refine WL.ix (T := Ty) rfl rfl rfl (by assumption) rfl rfl (by omega) (by first | omega | decide +kernel) ?_
   refine WL.gT rfl rfl (by omega) (WL.faEN (T := Ty) (off' := 0) rfl rfl rfl rfl rfl rfl rfl (WL.gT rfl rfl (by omega) ?_))
   refine WL.ldR (T := Ty) rfl rfl rfl rfl (by first | assumption | exact ROs.wide (by assumption)) (by assumption) ?_
   refine WL.gT rfl rfl (by omega) (WL.mv rfl rfl (WL.gT rfl rfl (by omega) (WL.lss rfl rfl rfl (WL.pickTp rfl rfl (by omega) rfl (WL.nil (W.condpT rfl (by omega) (W.skip (W.block (W.region (WL.mv rfl rfl (WL.addK rfl rfl rfl (wrap_i64 ⟨by omega, by omega⟩) (WL.as rfl rfl (WL.nil ?_)))))))))))))
   refine W.inBlock ?_
   refine W.fit (by (repeat' first | exact Sel.nil | refine Sel.cons 0 rfl ?_ | refine Sel.cons 1 rfl ?_ | refine Sel.cons 2 rfl ?_ | refine Sel.cons 3 rfl ?_ | refine Sel.cons 4 rfl ?_ | refine Sel.cons 5 rfl ?_ | refine Sel.cons 6 rfl ?_ | refine Sel.cons 7 rfl ?_ | refine Sel.cons 8 rfl ?_)) (W.sub ?_ (next (i + 1) ⟨by omega, fun b hm => ?_⟩ (by omega)))
   ·exact ⟨rfl, rfl, rfl, rfl, rfl, trivial⟩
   ·rw [List.take_add_one, ha] at hm
    rcases List.mem_append.1 hm with h | h
    ·exact hn b h
    ·simp at h; rw [h]; exact decide_eq_false (by simp only []; omega)
  ·have hx : serIx (L.map Prod.fst) id = i := by
    rw [serIx_map, List.findIdx_eq hc]
    refine ⟨?_, fun j hj => ?_⟩
    ·rw [(List.getElem?_eq_some_iff.1 ha).2]; exact decide_eq_true (by simp only []; omega)
    ·exact hn _ (List.mem_iff_getElem?.2 ⟨j, by rw [List.getElem?_take, if_pos hj, List.getElem?_eq_getElem (by omega)]⟩)
   rw [hx]
   by_cases hid : s.id = id
   ·have hh : (serHas (L.map Prod.fst) id).isSome = true := by
     unfold serHas
     rw [hx, map_fst_get rfl ha]
     simp [hid]
    refine W.seq (W.seq (W.region (WL.mv rfl rfl (WL.faN (T := Ty) (off' := 0) rfl rfl rfl rfl rfl rfl rfl (WL.ldN (T := Ty) (j := 1) rfl rfl rfl rfl rfl rfl ?_)))))
    refine WL.len (T := Ty) rfl rfl (by assumption) rfl ?_
    refine WL.lss rfl rfl rfl (WL.mv rfl rfl (WL.gT rfl rfl (by omega) (WL.faN (T := Ty) (off' := 0) rfl rfl rfl rfl rfl rfl rfl (WL.gT rfl rfl (by omega) (WL.ldN (T := Ty) (j := 1) rfl rfl rfl rfl rfl rfl (WL.gT rfl rfl (by omega) (WL.mv rfl rfl (WL.gT rfl rfl (by omega) ?_))))))))
    refine WL.ix (T := Ty) rfl rfl rfl (by assumption) rfl rfl (by omega) (by first | omega | decide +kernel) ?_
    refine WL.gT rfl rfl (by omega) (WL.faEN (T := Ty) (off' := 0) rfl rfl rfl rfl rfl rfl rfl (WL.gT rfl rfl (by omega) ?_))
    refine WL.ldR (T := Ty) rfl rfl rfl rfl (by first | assumption | exact ROs.wide (by assumption)) (by assumption) ?_
    refine WL.gT rfl rfl (by omega) (WL.mv rfl rfl (WL.gT rfl rfl (by omega) (WL.lss rfl rfl rfl (WL.pickTp rfl rfl (by omega) rfl (WL.nil (W.condpF rfl (by omega) (W.exit rfl (W.seq (W.seq (W.region (WL.mv rfl rfl (WL.faN (T := Ty) (off' := 0) rfl rfl rfl rfl rfl rfl rfl (WL.ldN (T := Ty) (j := 1) rfl rfl rfl rfl rfl rfl ?_)))))))))))))
    refine WL.len (T := Ty) rfl rfl (by assumption) rfl ?_
    refine WL.lss rfl rfl rfl (WL.mv rfl rfl (WL.gT rfl rfl (by omega) (WL.faN (T := Ty) (off' := 0) rfl rfl rfl rfl rfl rfl rfl (WL.gT rfl rfl (by omega) (WL.ldN (T := Ty) (j := 1) rfl rfl rfl rfl rfl rfl (WL.gT rfl rfl (by omega) (WL.mv rfl rfl (WL.gT rfl rfl (by omega) ?_))))))))
    refine WL.ix (T := Ty) rfl rfl rfl (by assumption) rfl rfl (by omega) (by first | omega | decide +kernel) ?_
    refine WL.gT rfl rfl (by omega) (WL.faEN (T := Ty) (off' := 0) rfl rfl rfl rfl rfl rfl rfl (WL.gT rfl rfl (by omega) ?_))
    refine WL.ldR (T := Ty) rfl rfl rfl rfl (by first | assumption | exact ROs.wide (by assumption)) (by assumption) ?_
    refine WL.gT rfl rfl (by omega) (WL.mv rfl rfl (WL.gT rfl rfl (by omega) (WL.eql rfl rfl rfl (WL.pickTp rfl rfl (by omega) rfl (WL.nil (W.condpT rfl (by omega) (W.seq (W.region ?_))))))))
    refine WL.ldAF (T := Ty) (j := 1) rfl rfl rfl rfl rfl rfl (by repeat' constructor) ?_
    refine WL.mv rfl rfl ?_
    refine WL.stAO (T := Ty) (j := 0) rfl rfl rfl rfl (by repeat' first | exact AO.nil | apply AO.cons (by first | rfl | exact SL.one (by assumption))) rfl rfl (by repeat' constructor) (by repeat' constructor) ?_
    refine WL.as rfl rfl (WL.nil ?_)
    refine W.fit (Hs' := [box b1 _ _]) (by (repeat' first | exact Sel.nil | refine Sel.cons 0 rfl ?_ | refine Sel.cons 1 rfl ?_ | refine Sel.cons 2 rfl ?_ | refine Sel.cons 3 rfl ?_ | refine Sel.cons 4 rfl ?_ | refine Sel.cons 5 rfl ?_ | refine Sel.cons 6 rfl ?_ | refine Sel.cons 7 rfl ?_ | refine Sel.cons 8 rfl ?_)) ?_
    exact W.retC2 (T := Ty) (j := 0) rfl rfl rfl rfl rfl rfl rfl (fun h q => .inl ⟨hh, rfl, q⟩)
   ·have hh : (serHas (L.map Prod.fst) id).isSome = false := by
     unfold serHas
     rw [hx, map_fst_get rfl ha]
     simp [hid]
    have ct := ser_cells (L.take i)
    have cd := ser_cells (L.drop i)
    have tl : (L.take i).length = i := by rw [List.length_take]; omega
    have dl : (L.drop i).length = L.length - i := List.length_drop
    have to : ∀ q ∈ (L.take i).flatMap serC, q.oneCell' = true := fun q hq => ho q (by rw [← flat_take ser_len] at hq; exact List.mem_of_mem_take hq)
    have do' : ∀ q ∈ (L.drop i).flatMap serC, q.oneCell' = true := fun q hq => ho q (by rw [← flat_drop ser_len] at hq; exact List.mem_of_mem_drop hq)
    have cm : ((L.take i).flatMap serC ++ [Value.int .i64 id, .bool false, .bool false, .int .i64 0, .slice none 0 0]).length = ((L.take i).length + 1) * 5 := by rw [List.length_append, ct]; simp; omega
    have hap : (L.take i).flatMap serC ++ [.int .i64 id, .bool false, .bool false, .int .i64 0, .slice none 0 0] ++ (L.drop i).flatMap serC = (L.take i ++ [((⟨id, false, false, 0, []⟩ : Ser), nilV)] ++ L.drop i).flatMap serC := by rw [List.flatMap_append, List.flatMap_append]; rfl
    refine W.seq (W.seq (W.region (WL.mv rfl rfl (WL.faN (T := Ty) (off' := 0) rfl rfl rfl rfl rfl rfl rfl (WL.ldN (T := Ty) (j := 1) rfl rfl rfl rfl rfl rfl ?_)))))
    refine WL.len (T := Ty) rfl rfl (by assumption) rfl ?_
    refine WL.lss rfl rfl rfl (WL.mv rfl rfl (WL.gT rfl rfl (by omega) (WL.faN (T := Ty) (off' := 0) rfl rfl rfl rfl rfl rfl rfl (WL.gT rfl rfl (by omega) (WL.ldN (T := Ty) (j := 1) rfl rfl rfl rfl rfl rfl (WL.gT rfl rfl (by omega) (WL.mv rfl rfl (WL.gT rfl rfl (by omega) ?_))))))))
    refine WL.ix (T := Ty) rfl rfl rfl (by assumption) rfl rfl (by omega) (by first | omega | decide +kernel) ?_
    refine WL.gT rfl rfl (by omega) (WL.faEN (T := Ty) (off' := 0) rfl rfl rfl rfl rfl rfl rfl (WL.gT rfl rfl (by omega) ?_))
    refine WL.ldR (T := Ty) rfl rfl rfl rfl (by first | assumption | exact ROs.wide (by assumption)) (by assumption) ?_
    refine WL.gT rfl rfl (by omega) (WL.mv rfl rfl (WL.gT rfl rfl (by omega) (WL.lss rfl rfl rfl (WL.pickTp rfl rfl (by omega) rfl (WL.nil (W.condpF rfl (by omega) (W.exit rfl (W.seq (W.seq (W.region (WL.mv rfl rfl (WL.faN (T := Ty) (off' := 0) rfl rfl rfl rfl rfl rfl rfl (WL.ldN (T := Ty) (j := 1) rfl rfl rfl rfl rfl rfl ?_)))))))))))))
    refine WL.len (T := Ty) rfl rfl (by assumption) rfl ?_
    refine WL.lss rfl rfl rfl (WL.mv rfl rfl (WL.gT rfl rfl (by omega) (WL.faN (T := Ty) (off' := 0) rfl rfl rfl rfl rfl rfl rfl (WL.gT rfl rfl (by omega) (WL.ldN (T := Ty) (j := 1) rfl rfl rfl rfl rfl rfl (WL.gT rfl rfl (by omega) (WL.mv rfl rfl (WL.gT rfl rfl (by omega) ?_))))))))
    refine WL.ix (T := Ty) rfl rfl rfl (by assumption) rfl rfl (by omega) (by first | omega | decide +kernel) ?_
    refine WL.gT rfl rfl (by omega) (WL.faEN (T := Ty) (off' := 0) rfl rfl rfl rfl rfl rfl rfl (WL.gT rfl rfl (by omega) ?_))
    refine WL.ldR (T := Ty) rfl rfl rfl rfl (by first | assumption | exact ROs.wide (by assumption)) (by assumption) ?_
    refine WL.gT rfl rfl (by omega) (WL.mv rfl rfl (WL.gT rfl rfl (by omega) (WL.eql rfl rfl rfl (WL.pickTp rfl rfl (by omega) rfl (WL.nil (W.condpF rfl (by omega) (W.skip (W.seq (W.region ?_)))))))))
    refine WL.bsC (T := Ty) rfl rfl rfl rfl rfl rfl rfl (by repeat' first | exact CO.nil | apply CO.one (by first | rfl | exact SL.one (by assumption)) | apply CO.agg) rfl (by repeat' constructor) (fun u2 hu2 => ?_)
    refine WL.faN (T := Ty) (off' := 0) rfl rfl rfl rfl rfl rfl rfl (WL.ldN (T := Ty) (j := 2) rfl rfl rfl rfl rfl rfl (WL.mv rfl rfl ?_))
    refine WL.slTf (T := Ty) rfl rfl rfl rfl rfl rfl (by first | assumption | exact ROs.wide (by assumption)) (by intro a; rfl) (by first | assumption | omega | (simp; omega)) (fun u3 hu3 ru3 => ?_)
    refine WL.ap (T := Ty) (i := 0) (n := 0) rfl rfl rfl rfl rfl rfl rfl rfl (by first | exact .ro (by assumption) | exact .ro (ROs.wide (by assumption)) | exact .eqJ 0 rfl (by assumption) | exact .own 0 rfl | exact .own 1 rfl | exact .own 2 rfl | exact .own 3 rfl | exact .own 4 rfl | exact .own 5 rfl) (by first | assumption | exact ROs.slm (by assumption)) rfl (by assumption) (by assumption) (by first | omega | (simp; omega)) (by unfold maxLen; omega) (fun v' => (by repeat' constructor)) (fun u4 hu4 => ?_)
    refine WL.as rfl rfl (WL.nil (W.seq ?_))
    rw [List.nil_append]
    refine W.drawP 10 [true, false, false] rfl (by repeat' constructor) (by repeat' constructor) (fun σ0 hσ0 dσ0 => ?_)
    have fσ0_0 := rb_at 0 rfl hσ0 dσ0
    have fσ0_1 := rb_at 1 rfl hσ0 dσ0
    refine WD.takeL 0 rfl (by decide +kernel) (WL.mv rfl rfl (WL.nilT (WD.takeL 1 rfl (by decide +kernel) (WL.mv rfl rfl (WL.nilT (WD.takeL 2 rfl (by decide +kernel) ?_))))))
    refine WL.bdC (T := Ty) rfl rfl rfl rfl (by repeat' first | exact CO.nil | apply CO.one (by first | rfl | exact SL.one (by assumption)) | apply CO.agg) rfl (by repeat' constructor) ?_
    refine WL.nilT (WD.takeL 5 rfl (by decide +kernel) (WL.faN (T := Ty) (off' := 0) rfl rfl rfl rfl rfl rfl rfl (WL.nilT (WD.takeL 6 rfl (by decide +kernel) ?_))))
    refine WL.ldBN (T := Ty) rfl rfl rfl rfl (by first | assumption | exact RB.wide (by assumption) | exact In.rb (by assumption)) rfl ?_
    refine WL.nilT (WD.takeL 7 rfl (by decide +kernel) (WL.mv rfl rfl (WL.nilT (WD.takeL 8 rfl (by decide +kernel) ?_))))
    refine WL.slDf (T := Ty) rfl rfl rfl rfl rfl rfl (by first | assumption | exact ROs.wide (by assumption)) (by intro a; rfl) (by first | assumption | omega | (simp; omega)) (fun u5 hu5 ru5 => ?_)
    refine WL.nilT (WD.oneL 3 rfl (by decide +kernel) ?_)
    refine WL.bsC (T := Ty) rfl rfl rfl rfl rfl rfl rfl (by repeat' first | exact CO.nil | apply CO.one (by first | rfl | exact SL.one (by assumption)) | apply CO.agg) rfl (by repeat' constructor) (fun u6 hu6 => ?_)
    refine WL.nilH hσ0 (fun σ1 hσ1 dσ1 mσ1 => ?_)
    have fσ0_0 := fσ0_0.mono mσ1
    have fσ0_1 := fσ0_1.mono mσ1
    have ru5 := ru5.mono mσ1
    have fσ1_0 := ros_at 0 rfl hσ1 dσ1
    refine WD.oneL 4 rfl (by decide +kernel) ?_
    refine WL.ap (T := Ty) (i := 1) (m := 1) rfl rfl rfl rfl rfl rfl rfl rfl (by first | exact .ro (by assumption) | exact .ro (ROs.wide (by assumption)) | exact .eqJ 0 rfl (by assumption) | exact .own 0 rfl | exact .own 1 rfl | exact .own 2 rfl | exact .own 3 rfl | exact .own 4 rfl | exact .own 5 rfl) (by first | assumption | exact ROs.slm (by assumption)) (by assumption) (by rfl) (AO.all (by repeat' first | exact AO.nil | apply AO.cons (by first | rfl | exact SL.one (by assumption)))) (by first | omega | (simp; omega)) (by unfold maxLen; omega) (fun v' => (by repeat' constructor)) (fun u7 hu7 => ?_)
    refine WL.nilE (WD.oneL 9 rfl (by decide +kernel) ?_)
    refine WL.ap (T := Ty) (i := 1) rfl rfl rfl rfl rfl rfl rfl rfl (by first | exact .ro (by assumption) | exact .ro (ROs.wide (by assumption)) | exact .eqJ 0 rfl (by assumption) | exact .own 0 rfl | exact .own 1 rfl | exact .own 2 rfl | exact .own 3 rfl | exact .own 4 rfl | exact .own 5 rfl) (by first | assumption | exact ROs.slm (by assumption)) (by assumption) (by assumption) (by assumption) (by first | omega | (simp; omega)) (by unfold maxLen; omega) (fun v' => (by repeat' constructor)) (fun u8 hu8 => ?_)
    refine WL.nilE ?_
    refine WD.lastG hσ1 (by decide +kernel) (by repeat' constructor) rfl (by repeat' constructor) ?_
    refine WL.as rfl rfl (WL.nil ?_)
    rw [hap]
    refine W.seq (W.region (WL.mv rfl rfl (WL.faN (T := Ty) (off' := 0) rfl rfl rfl rfl rfl rfl rfl ?_)))
    refine WL.stF (T := Ty) (j := 2) rfl rfl rfl rfl (SL.one (by assumption)) rfl rfl (by repeat' constructor) (by repeat' constructor) ?_
    refine WL.nil (W.seq (W.region ?_))
    refine WL.ldAF (T := Ty) (j := 2) rfl rfl rfl rfl rfl rfl (by repeat' constructor) ?_
    refine WL.mv rfl rfl ?_
    refine WL.stAO (T := Ty) (j := 1) rfl rfl rfl rfl (by repeat' first | exact AO.nil | apply AO.cons (by first | rfl | exact SL.one (by assumption))) rfl rfl (by repeat' constructor) (by repeat' constructor) ?_
    refine WL.as rfl rfl (WL.nil ?_)
    refine W.fit (Hs' := [box b1 _ _, Buf 5 _ ((L.take i ++ [((⟨id, false, false, 0, []⟩ : Ser), nilV)] ++ L.drop i).flatMap serC)]) (by (repeat' first | exact Sel.nil | refine Sel.cons 0 rfl ?_ | refine Sel.cons 1 rfl ?_ | refine Sel.cons 2 rfl ?_ | refine Sel.cons 3 rfl ?_ | refine Sel.cons 4 rfl ?_ | refine Sel.cons 5 rfl ?_ | refine Sel.cons 6 rfl ?_ | refine Sel.cons 7 rfl ?_ | refine Sel.cons 8 rfl ?_)) ?_
    exact W.retC2 (T := Ty) (j := 0) rfl rfl rfl rfl rfl rfl rfl (fun h q => .inr ⟨hh, _, rfl, sepl_one.1 q⟩)
 ·have hx : serIx (L.map Prod.fst) id = L.length := by
   rw [serIx_map, List.findIdx_eq_length_of_false]
   intro b hb
   exact hn b (by rw [show i = L.length by omega, List.take_length]; exact hb)
  have hh : (serHas (L.map Prod.fst) id).isSome = false := by
   unfold serHas
   rw [hx, List.getElem?_eq_none (by rw [List.length_map]; exact Nat.le_refl _)]
   rfl
  have hii : i = L.length := by omega
  subst hii
  rw [hx]
  have ct := ser_cells (L.take L.length)
  have cd := ser_cells (L.drop L.length)
  have tl : (L.take L.length).length = L.length := by rw [List.length_take]; omega
  have dl : (L.drop L.length).length = L.length - L.length := List.length_drop
  have to : ∀ q ∈ (L.take L.length).flatMap serC, q.oneCell' = true := fun q hq => ho q (by rw [← flat_take ser_len] at hq; exact List.mem_of_mem_take hq)
  have do' : ∀ q ∈ (L.drop L.length).flatMap serC, q.oneCell' = true := fun q hq => ho q (by rw [← flat_drop ser_len] at hq; exact List.mem_of_mem_drop hq)
  have cm : ((L.take L.length).flatMap serC ++ [Value.int .i64 id, .bool false, .bool false, .int .i64 0, .slice none 0 0]).length = ((L.take L.length).length + 1) * 5 := by rw [List.length_append, ct]; simp; omega
  have hap : (L.take L.length).flatMap serC ++ [.int .i64 id, .bool false, .bool false, .int .i64 0, .slice none 0 0] ++ (L.drop L.length).flatMap serC = (L.take L.length ++ [((⟨id, false, false, 0, []⟩ : Ser), nilV)] ++ L.drop L.length).flatMap serC := by rw [List.flatMap_append, List.flatMap_append]; rfl
  refine W.seq (W.seq (W.region (WL.mv rfl rfl (WL.faN (T := Ty) (off' := 0) rfl rfl rfl rfl rfl rfl rfl (WL.ldN (T := Ty) (j := 1) rfl rfl rfl rfl rfl rfl ?_)))))
  refine WL.len (T := Ty) rfl rfl (by assumption) rfl ?_
  refine WL.lss rfl rfl rfl (WL.mv rfl rfl (WL.gdTn rfl rfl rfl rfl rfl (by omega) (WL.gdTn rfl rfl rfl rfl rfl (by omega) (WL.gdTn rfl rfl rfl rfl rfl (by omega) (WL.gdTn rfl rfl rfl rfl rfl (by omega) (WL.gdTn rfl rfl rfl rfl rfl (by omega) (WL.gdTn rfl rfl rfl rfl rfl (by omega) (WL.gdTn rfl rfl rfl rfl rfl (by omega) (WL.gdTn rfl rfl rfl rfl rfl (by omega) (WL.pickFp rfl rfl (by omega) rfl (WL.nil (W.condF rfl (W.exit rfl ?_)))))))))))))
  refine W.seq (W.seq (W.region (WL.mv rfl rfl (WL.faN (T := Ty) (off' := 0) rfl rfl rfl rfl rfl rfl rfl (WL.ldN (T := Ty) (j := 1) rfl rfl rfl rfl rfl rfl ?_)))))
  refine WL.len (T := Ty) rfl rfl (by assumption) rfl ?_
  refine WL.lss rfl rfl rfl (WL.mv rfl rfl (WL.gdTn rfl rfl rfl rfl rfl (by omega) (WL.gdTn rfl rfl rfl rfl rfl (by omega) (WL.gdTn rfl rfl rfl rfl rfl (by omega) (WL.gdTn rfl rfl rfl rfl rfl (by omega) (WL.gdTn rfl rfl rfl rfl rfl (by omega) (WL.gdTn rfl rfl rfl rfl rfl (by omega) (WL.gdTn rfl rfl rfl rfl rfl (by omega) (WL.gdTn rfl rfl rfl rfl rfl (by omega) (WL.pickFp rfl rfl (by omega) rfl (WL.nil (W.condF rfl (W.skip ?_)))))))))))))
  refine W.seq (W.region ?_)
  refine WL.bsC (T := Ty) rfl rfl rfl rfl rfl rfl rfl (by repeat' first | exact CO.nil | apply CO.one (by first | rfl | exact SL.one (by assumption)) | apply CO.agg) rfl (by repeat' constructor) (fun u2 hu2 => ?_)
  refine WL.faN (T := Ty) (off' := 0) rfl rfl rfl rfl rfl rfl rfl (WL.ldN (T := Ty) (j := 2) rfl rfl rfl rfl rfl rfl (WL.mv rfl rfl ?_))
  refine WL.slTf (T := Ty) rfl rfl rfl rfl rfl rfl (by first | assumption | exact ROs.wide (by assumption)) (by intro a; rfl) (by first | assumption | omega | (simp; omega)) (fun u3 hu3 ru3 => ?_)
  refine WL.ap (T := Ty) (i := 0) (n := 0) rfl rfl rfl rfl rfl rfl rfl rfl (by first | exact .ro (by assumption) | exact .ro (ROs.wide (by assumption)) | exact .eqJ 0 rfl (by assumption) | exact .own 0 rfl | exact .own 1 rfl | exact .own 2 rfl | exact .own 3 rfl | exact .own 4 rfl | exact .own 5 rfl) (by first | assumption | exact ROs.slm (by assumption)) rfl (by assumption) (by assumption) (by first | omega | (simp; omega)) (by unfold maxLen; omega) (fun v' => (by repeat' constructor)) (fun u4 hu4 => ?_)
  refine WL.as rfl rfl (WL.nil (W.seq ?_))
  rw [List.nil_append]
  refine W.drawP 10 [true, false, false] rfl (by repeat' constructor) (by repeat' constructor) (fun σ0 hσ0 dσ0 => ?_)
  have fσ0_0 := rb_at 0 rfl hσ0 dσ0
  have fσ0_1 := rb_at 1 rfl hσ0 dσ0
  refine WD.takeL 0 rfl (by decide +kernel) (WL.mv rfl rfl (WL.nilT (WD.takeL 1 rfl (by decide +kernel) (WL.mv rfl rfl (WL.nilT (WD.takeL 2 rfl (by decide +kernel) ?_))))))
  refine WL.bdC (T := Ty) rfl rfl rfl rfl (by repeat' first | exact CO.nil | apply CO.one (by first | rfl | exact SL.one (by assumption)) | apply CO.agg) rfl (by repeat' constructor) ?_
  refine WL.nilT (WD.takeL 5 rfl (by decide +kernel) (WL.faN (T := Ty) (off' := 0) rfl rfl rfl rfl rfl rfl rfl (WL.nilT (WD.takeL 6 rfl (by decide +kernel) ?_))))
  refine WL.ldBN (T := Ty) rfl rfl rfl rfl (by first | assumption | exact RB.wide (by assumption) | exact In.rb (by assumption)) rfl ?_
  refine WL.nilT (WD.takeL 7 rfl (by decide +kernel) (WL.mv rfl rfl (WL.nilT (WD.takeL 8 rfl (by decide +kernel) ?_))))
  refine WL.slDf (T := Ty) rfl rfl rfl rfl rfl rfl (by first | assumption | exact ROs.wide (by assumption)) (by intro a; rfl) (by first | assumption | omega | (simp; omega)) (fun u5 hu5 ru5 => ?_)
  refine WL.nilT (WD.oneL 3 rfl (by decide +kernel) ?_)
  refine WL.bsC (T := Ty) rfl rfl rfl rfl rfl rfl rfl (by repeat' first | exact CO.nil | apply CO.one (by first | rfl | exact SL.one (by assumption)) | apply CO.agg) rfl (by repeat' constructor) (fun u6 hu6 => ?_)
  refine WL.nilH hσ0 (fun σ1 hσ1 dσ1 mσ1 => ?_)
  have fσ0_0 := fσ0_0.mono mσ1
  have fσ0_1 := fσ0_1.mono mσ1
  have ru5 := ru5.mono mσ1
  have fσ1_0 := ros_at 0 rfl hσ1 dσ1
  refine WD.oneL 4 rfl (by decide +kernel) ?_
  refine WL.ap (T := Ty) (i := 1) (m := 1) rfl rfl rfl rfl rfl rfl rfl rfl (by first | exact .ro (by assumption) | exact .ro (ROs.wide (by assumption)) | exact .eqJ 0 rfl (by assumption) | exact .own 0 rfl | exact .own 1 rfl | exact .own 2 rfl | exact .own 3 rfl | exact .own 4 rfl | exact .own 5 rfl) (by first | assumption | exact ROs.slm (by assumption)) (by assumption) (by rfl) (AO.all (by repeat' first | exact AO.nil | apply AO.cons (by first | rfl | exact SL.one (by assumption)))) (by first | omega | (simp; omega)) (by unfold maxLen; omega) (fun v' => (by repeat' constructor)) (fun u7 hu7 => ?_)
  refine WL.nilE (WD.oneL 9 rfl (by decide +kernel) ?_)
  refine WL.ap (T := Ty) (i := 1) rfl rfl rfl rfl rfl rfl rfl rfl (by first | exact .ro (by assumption) | exact .ro (ROs.wide (by assumption)) | exact .eqJ 0 rfl (by assumption) | exact .own 0 rfl | exact .own 1 rfl | exact .own 2 rfl | exact .own 3 rfl | exact .own 4 rfl | exact .own 5 rfl) (by first | assumption | exact ROs.slm (by assumption)) (by assumption) (by assumption) (by assumption) (by first | omega | (simp; omega)) (by unfold maxLen; omega) (fun v' => (by repeat' constructor)) (fun u8 hu8 => ?_)
  refine WL.nilE ?_
  refine WD.lastG hσ1 (by decide +kernel) (by repeat' constructor) rfl (by repeat' constructor) ?_
  refine WL.as rfl rfl (WL.nil ?_)
  rw [hap]
  refine W.seq (W.region (WL.mv rfl rfl (WL.faN (T := Ty) (off' := 0) rfl rfl rfl rfl rfl rfl rfl ?_)))
  refine WL.stF (T := Ty) (j := 2) rfl rfl rfl rfl (SL.one (by assumption)) rfl rfl (by repeat' constructor) (by repeat' constructor) ?_
  refine WL.nil (W.seq (W.region ?_))
  refine WL.ldAF (T := Ty) (j := 2) rfl rfl rfl rfl rfl rfl (by repeat' constructor) ?_
  refine WL.mv rfl rfl ?_
  refine WL.stAO (T := Ty) (j := 1) rfl rfl rfl rfl (by repeat' first | exact AO.nil | apply AO.cons (by first | rfl | exact SL.one (by assumption))) rfl rfl (by repeat' constructor) (by repeat' constructor) ?_
  refine WL.as rfl rfl (WL.nil ?_)
  refine W.fit (Hs' := [box b1 _ _, Buf 5 _ ((L.take L.length ++ [((⟨id, false, false, 0, []⟩ : Ser), nilV)] ++ L.drop L.length).flatMap serC)]) (by (repeat' first | exact Sel.nil | refine Sel.cons 0 rfl ?_ | refine Sel.cons 1 rfl ?_ | refine Sel.cons 2 rfl ?_ | refine Sel.cons 3 rfl ?_ | refine Sel.cons 4 rfl ?_ | refine Sel.cons 5 rfl ?_ | refine Sel.cons 6 rfl ?_ | refine Sel.cons 7 rfl ?_ | refine Sel.cons 8 rfl ?_)) ?_
  exact W.retC2 (T := Ty) (j := 0) rfl rfl rfl rfl rfl rfl rfl (fun h q => .inr ⟨hh, _, rfl, sepl_one.1 q⟩)
end Go.Proofs.Ytbebhmdjnneimaa
