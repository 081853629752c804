/- The closure of ModlEdges: one op, and what it was answered. -/
import Derived.Test.YtbebhmdjnneimaaStc
import Derived.Test.YtbebhmdjnneimaaNum
import Derived.Test.YtbebhmdjnneimaaTab
import Derived.Test.YtbebhmdjnneimaaMdlLw
import Derived.Test.YtbebhmdjnneimaaClosF
set_option linter.unusedSimpArgs false
set_option linter.unusedVariables false
set_option maxRecDepth 20000
set_option maxHeartbeats 4000000
namespace Go.Proofs.Ytbebhmdjnneimaa
open Go
attribute [local irreducible] W WL Fn Buf ROs SL eptr box Rd Src bndOK WD RB Reads In Own sameL doM
def EdR (M : Mdl) (e : Int) : Value → HP := fun r h => ∃ v, r = .tuple #[v, .int .i64 e] ∧ OMdl v M h
theorem EdR.open {M : Mdl} {e : Int} {r : Value} {h : Hp} (q : EdR M e r h) : ∃ x : Value × Value, (r = .tuple #[.agg #[x.1, x.2, .int .i64 M.next], .int .i64 e] ∧ SL x.1 M.ser.length ∧ SL x.2 M.its.length) ∧ sepl [OMdl (.agg #[x.1, x.2, .int .i64 M.next]) M] h := by
  obtain ⟨v, e, o⟩ := q
  obtain ⟨sv, iv, rfl, s1, s2⟩ := OMdl.shape o
  exact ⟨(sv, iv), ⟨e, s1, s2⟩, sepl_one.2 o⟩
theorem edge_c (ρ : Hp) (sv iv : Value) (n : Nat) (m : Mdl) (x k s i t v lo hi nn : Int) (hm : RMdl ρ (.agg #[sv, iv, .int .i64 x]) m) (hI : MInv n m) (hn : n ≤ 1000) :
    Fn Try.prog 18 #[.agg #[sv, iv, .int .i64 x], .agg #[.int .i64 k, .int .i64 s, .int .i64 i, .int .i64 t, .int .u64 v, .int .i64 lo, .int .i64 hi, .int .i64 nn]] ρ [] (EdR (doM m ⟨k, s, i, t, v, lo, hi, nn⟩).1 (doM m ⟨k, s, i, t, v, lo, hi, nn⟩).2.err) := by
  refine in18 rfl rfl ?_
  refine W.seq (W.region ?_)
  refine WL.bxF rfl rfl (by repeat' first | exact FL.nil | apply FL.cons) (fun b0 => ?_)
  refine WL.bxF rfl rfl (by repeat' first | exact FL.nil | apply FL.cons) (fun b1 => ?_)
  refine WL.alF (T := Ty) rfl rfl (by repeat' first | exact FL.nil | apply FL.cons) (fun b2 => ?_)
  refine WL.as rfl rfl (WL.nil (W.seq (W.region ?_)))
  refine WL.ldAF (T := Ty) (j := 2) rfl rfl rfl rfl rfl rfl (by repeat' first | exact FL.nil | apply FL.cons) ?_
  refine WL.ldAF (T := Ty) (j := 1) rfl rfl rfl rfl rfl rfl (by repeat' first | exact FL.nil | apply FL.cons) ?_
  refine WL.callF rfl rfl (fun x p d => doX_c _ _ _ _ _ _ _ _ _ _ _ _ (by first | assumption | exact RMdl.wide (by assumption) | exact RMdl.mono (by assumption) (eqh_at 0 rfl p d) | exact (in_at 0 rfl p d).rmdl | exact (in_at 1 rfl p d).rmdl | exact (in_at 2 rfl p d).rmdl | exact (in_at 3 rfl p d).rmdl | exact (in_at 4 rfl p d).rmdl | exact (in_at 5 rfl p d).rmdl | exact (in_at 6 rfl p d).rmdl | exact (in_at 7 rfl p d).rmdl | exact (in_at 8 rfl p d).rmdl | exact (in_at 9 rfl p d).rmdl | exact (in_at 10 rfl p d).rmdl | exact (in_at 11 rfl p d).rmdl | exact (in_at 12 rfl p d).rmdl | exact (in_at 13 rfl p d).rmdl | exact (in_at 14 rfl p d).rmdl | exact (in_at 15 rfl p d).rmdl | exact (in_at 16 rfl p d).rmdl | exact (in_at 17 rfl p d).rmdl | exact (in_at 18 rfl p d).rmdl | exact (in_at 19 rfl p d).rmdl | exact (in_at 20 rfl p d).rmdl | exact (in_at 21 rfl p d).rmdl | exact (in_at 22 rfl p d).rmdl | exact (in_at 23 rfl p d).rmdl | exact (in_at 24 rfl p d).rmdl | exact (in_at 25 rfl p d).rmdl | exact (in_at 26 rfl p d).rmdl | exact (in_at 27 rfl p d).rmdl | exact (in_at 28 rfl p d).rmdl | exact (in_at 29 rfl p d).rmdl) (by assumption) (by first | assumption | omega)) (fun r3 => ?_)
  refine WL.opens (α := (Value × Value × Value)) (φ := fun x => r3 = .tuple #[.agg #[x.1, x.2.1, .int .i64 _], .agg #[.int .i64 _, .int .i64 _, x.2.2]] ∧ SL x.1 _ ∧ SL x.2.1 _ ∧ SL x.2.2 _) (ps := fun x => [OMdl (.agg #[x.1, x.2.1, .int .i64 _]) _, ORst (.agg #[.int .i64 _, .int .i64 _, x.2.2]) _]) 0 rfl (fun h q => DoR.open q) (by repeat' first | exact FL.nil | apply FL.cons) ?_
  rintro ⟨sv3, iv3, u3⟩ ⟨es3, sa3, sb3, sc3⟩
  subst es3
  dsimp only [List.cons_append, List.nil_append] at sa3 sb3 sc3 ⊢
  refine WL.mv rfl rfl (WL.extL rfl rfl rfl (WL.extL rfl rfl rfl ?_))
  refine WL.alF (T := Ty) rfl rfl (by repeat' first | exact FL.nil | apply FL.cons) (fun b4 => ?_)
  refine WL.alF (T := Ty) rfl rfl (by repeat' first | exact FL.nil | apply FL.cons) (fun b5 => ?_)
  refine WL.stAO (T := Ty) (j := 1) rfl rfl rfl rfl (by repeat' first | exact AO.nil | apply AO.cons (by first | rfl | exact SL.one (by assumption))) rfl rfl (by repeat' first | exact FL.nil | apply FL.cons) (by repeat' first | exact FL.nil | apply FL.cons) ?_
  refine WL.stAO (T := Ty) (j := 0) rfl rfl rfl rfl (by repeat' first | exact AO.nil | apply AO.cons (by first | rfl | exact SL.one (by assumption))) rfl rfl (by repeat' first | exact FL.nil | apply FL.cons) (by repeat' first | exact FL.nil | apply FL.cons) ?_
  refine WL.nil (W.seq ?_)
  refine W.drawP 4 [false, false, false, false, true, false, false] rfl (by repeat' first | exact FL.nil | apply FL.cons) (by repeat' first | exact FL.nil | apply FL.cons) (fun σ0 hσ0 dσ0 => ?_)
  have fσ0_0 := rb_at 0 rfl hσ0 dσ0
  have fσ0_1 := rb_at 1 rfl hσ0 dσ0
  have fσ0_2 := in_at 2 rfl hσ0 dσ0
  have fσ0_3 := in_at 3 rfl hσ0 dσ0
  have fσ0_4 := rb_at 4 rfl hσ0 dσ0
  have fσ0_5 := rb_at 5 rfl hσ0 dσ0
  refine WD.takeL 0 rfl (by decide +kernel) ?_
  refine WL.ldABF (T := Ty) rfl rfl rfl rfl (by first | assumption | exact RB.wide (by assumption) | exact In.rb (by assumption)) rfl (by repeat' first | exact FL.nil | apply FL.cons) ?_
  refine WL.nilT (WD.takeL 1 rfl (by decide +kernel) (WL.faN (T := Ty) (off' := 0) rfl rfl rfl rfl rfl rfl rfl (WL.nilT (WD.takeL 2 rfl (by decide +kernel) ?_))))
  refine WL.ldBN (T := Ty) rfl rfl rfl rfl (by first | assumption | exact RB.wide (by assumption) | exact In.rb (by assumption)) rfl ?_
  refine WL.nilT (WD.oneL 3 rfl (by decide +kernel) ?_)
  refine WL.stAO (T := Ty) (j := 1) rfl rfl rfl rfl (by repeat' first | exact AO.nil | apply AO.cons (by first | rfl | exact SL.one (by assumption))) rfl rfl (by repeat' first | exact FL.nil | apply FL.cons) (by repeat' first | exact FL.nil | apply FL.cons) ?_
  refine WL.nilE ?_
  refine WD.lastG hσ0 (by decide +kernel) (by repeat' first | exact FL.nil | apply FL.cons) rfl (by repeat' first | exact FL.nil | apply FL.cons) ?_
  refine WL.as rfl rfl (WL.nil ?_)
  exact W.fit (Hs' := [box b2 _ _, OMdl _ _]) (by (repeat' first | exact Sel.nil | refine Sel.cons 0 rfl ?_ | refine Sel.cons 1 rfl ?_ | refine Sel.cons 2 rfl ?_ | refine Sel.cons 3 rfl ?_ | refine Sel.cons 4 rfl ?_ | refine Sel.cons 5 rfl ?_ | refine Sel.cons 6 rfl ?_ | refine Sel.cons 7 rfl ?_ | refine Sel.cons 8 rfl ?_ | refine Sel.cons 9 rfl ?_ | refine Sel.cons 10 rfl ?_ | refine Sel.cons 11 rfl ?_ | refine Sel.cons 12 rfl ?_ | refine Sel.cons 13 rfl ?_ | refine Sel.cons 14 rfl ?_ | refine Sel.cons 15 rfl ?_ | refine Sel.cons 16 rfl ?_ | refine Sel.cons 17 rfl ?_)) (W.retC2 (T := Ty) (j := 0) rfl rfl rfl rfl rfl rfl rfl (fun h q => ⟨_, rfl, sepl_one.1 q⟩))
end Go.Proofs.Ytbebhmdjnneimaa
