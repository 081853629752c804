/- modl: a sample is appended. -/
import Derived.Test.YtbebhmdjnneimaaStc
import Derived.Test.YtbebhmdjnneimaaNum
import Derived.Test.YtbebhmdjnneimaaTab
import Derived.Test.YtbebhmdjnneimaaModl2
import Derived.Test.YtbebhmdjnneimaaIns
set_option linter.unusedSimpArgs false
set_option linter.unusedVariables false
set_option maxRecDepth 20000
set_option maxHeartbeats 4000000
namespace Go.Proofs.Ytbebhmdjnneimaa
open Go
attribute [local irreducible] W WL Fn Buf ROs SL eptr box Rd Src bndOK WD RB Reads In Own UseX
theorem flat_ins {α : Type} {f : α → List Value} {k : Nat} (hk : ∀ a, (f a).length = k) (L : List α) (i : Nat) (a : α) : (L.flatMap f).take (i * k) ++ f a ++ (L.flatMap f).drop (i * k) = (L.take i ++ [a] ++ L.drop i).flatMap f := by
 have ht : (L.flatMap f).take (i * k) = (L.take i).flatMap f := by
  rcases Nat.le_total i L.length with h | h
  ·conv => lhs; rw [← List.take_append_drop i L, List.flatMap_append]
   rw [List.take_left' (by rw [flat_len hk, List.length_take, Nat.min_eq_left h])]
  ·rw [List.take_of_length_le h, List.take_of_length_le (by rw [flat_len hk]; exact Nat.mul_le_mul_right _ h)]
 have hd : (L.flatMap f).drop (i * k) = (L.drop i).flatMap f := by
  rcases Nat.le_total i L.length with h | h
  ·conv => lhs; rw [← List.take_append_drop i L, List.flatMap_append]
   rw [List.drop_left' (by rw [flat_len hk, List.length_take, Nat.min_eq_left h])]
  ·rw [List.drop_of_length_le h, List.drop_of_length_le (by rw [flat_len hk]; exact Nat.mul_le_mul_right _ h)]
   rfl
 rw [ht, hd, List.flatMap_append, List.flatMap_append]
 simp
/-- what an append does to the series that it finds, or that was put in for it -/
def addAt (m : Mdl) (l : List Ser) (i : Nat) (s : Ser) (o : MOp) : Mdl × Rst :=
 if s.shut = true then (m, ⟨2, 0, []⟩)
 else if s.any = true ∧ o.t ≤ s.last then (m, ⟨1, 0, []⟩)
 else ({ m with ser := l.set i { s with any := true, last := o.t, list := s.list ++ [(o.t, o.v)] } }, ⟨0, 0, []⟩)
theorem set_mid {α : Type} (l : List α) {i : Nat} (x y : α) (h : i ≤ l.length) : (l.take i ++ [x] ++ l.drop i).set i y = l.take i ++ [y] ++ l.drop i := by
 have hl : (l.take i).length = i := by rw [List.length_take]; omega
 rw [List.append_assoc, List.set_append_right _ _ (by omega), hl, Nat.sub_self, List.append_assoc]
 rfl
theorem get_mid {α : Type} (l : List α) {i : Nat} (x : α) (h : i ≤ l.length) : (l.take i ++ [x] ++ l.drop i)[i]? = some x := by
 have hl : (l.take i).length = i := by rw [List.length_take]; omega
 rw [List.append_assoc, List.getElem?_append_right (by omega), hl, Nat.sub_self]
 rfl
theorem add_ret {b i : Nat} {T : TypeId} {m : Mdl} {u iv w lv : Value} {L' : List (Ser × Value)} {K : List (Itr × Value)} {x s1 : Ser} {h : Hp} (g1 : L'[i]? = some (x, lv)) (e2 : K.map Prod.fst = m.its)
  (q : sepl [box b [u, iv, .int .i64 m.next] T, Buf 5 u ((L'.set i (s1, w)).flatMap serC), Buf 2 iv (K.flatMap itrC), Buf 2 w (s1.list.flatMap smC), Own owSer (L'.eraseIdx i), Own owItr K] h) :
  PMdl b T { m with ser := (L'.map Prod.fst).set i s1 } h := by
 refine ⟨u, iv, L'.set i (s1, w), K, by rw [List.map_set], e2, ?_⟩
 obtain ⟨x1, y1, h1, ⟨x2, y2, h2, ⟨x3, y3, h3, ⟨x4, y4, h4, ⟨x5, y5, h5, h6, d5, rfl⟩, d4, rfl⟩, d3, rfl⟩, d2, rfl⟩, d1, rfl⟩ := q
 have dd := dj_join_right.1 d4
 refine ⟨x1, _, h1, ⟨x2, _, h2, ⟨x3, _, h3, ⟨join x4 x5, y5, own_in (f := owSer) (a := (s1, w)) g1 ⟨x4, x5, h4, sepl_one.2 h5, dd.1, rfl⟩, h6, dj_join_left.2 ⟨dd.2, d5⟩, rfl⟩, ?_, rfl⟩, ?_, rfl⟩, ?_, ?_⟩
 ·rw [join_assoc]; exact d3
 ·rw [join_assoc]; exact d2
 ·rw [join_assoc]; exact d1
 ·rw [join_assoc]
theorem add_c (ρ : Hp) (b n : Nat) (m : Mdl) (o : MOp) (hI : MInv n m) (hn : n ≤ 1000000) :
    Fn Try.prog 89 #[pt b 0, .int .i64 (serIx m.ser o.series : Nat), .bool (serHas m.ser o.series).isSome, .agg (opC o).toArray] ρ [PMdl b 31 m] (fun r h => r = .int .i64 (doA m o).2.err ∧ PMdl b 31 (doA m o).1 h) := by
  refine in89 rfl rfl ?_
  refine W.ex (fun sv => W.ex (fun iv => W.ex (fun L => W.ex (fun K => W.pure (fun e1 => W.pure (fun e2 => W.open ?_))))))
  simp only [List.cons_append, List.nil_append]
  have hX := useX
  generalize hi : serIx m.ser o.series = i
  have l1 := ser_cells L
  have lL : L.length ≤ n := by have := hI.sers; rw [← e1] at this; simpa using this
  have hil : i ≤ L.length := by have := serIx_le m.ser o.series; rw [hi, ← e1] at this; simpa using this
  refine W.fact (i := 3) rfl (fun h hb => ser_one (owSer_rd hb)) (fun o1 => ?_)
  refine W.fact (i := 1) rfl (fun h hb => hb.sl l1 (by omega)) (fun s1 => ?_)
  refine W.seq (W.region ?_)
  refine WL.bxF rfl rfl (by repeat' constructor) (fun b0 => ?_)
  refine WL.as rfl rfl (WL.nil (W.seq (W.seq (W.region (WL.mv rfl rfl (WL.not rfl rfl (WL.nil ?_)))))))
  refine W.cut (τ := Value × List (Ser × Value) × Ser × Value) (fun s => [(0, pt b 0), (1, .int .i64 ((i : Nat) : Int)), (7, pt b0 0), (8, .int .i64 0)])
    (fun s => [box b0 (opC o) 24, box b [s.1, iv, .int .i64 m.next] 31, Buf 5 s.1 (s.2.1.flatMap serC), Buf 2 iv (K.flatMap itrC), Own owSer s.2.1, Own owItr K])
    (fun s => s.2.1[i]? = some (s.2.2.1, s.2.2.2) ∧ SL s.1 s.2.1.length ∧ s.2.1.length ≤ n + 1 ∧ s.2.2.1.list.length ≤ n ∧ doA m o = addAt m (s.2.1.map Prod.fst) i s.2.2.1 o ∧ (s.2.2.1.shut = true ∨ s.2.2.1.any = true → s.2.1.map Prod.fst = m.ser)) ?_ (fun cut => ?_)
  · clear hX
    rintro ⟨u, L', x, lv⟩ ⟨g1, g2, g3, g4, g5, g6⟩
    simp only [] at g1 g2 g3 g4 g5 g6 ⊢
    rw [g5]
    have hil' := (List.getElem?_eq_some_iff.1 g1).1
    have c1 : (L'.flatMap serC)[((i : Nat) : Int).toNat * 5 + 1]? = some (.bool x.shut) := flat_get ser_len g1 rfl
    have c2 : (L'.flatMap serC)[((i : Nat) : Int).toNat * 5 + 2]? = some (.bool x.any) := flat_get ser_len g1 rfl
    have c3 : (L'.flatMap serC)[((i : Nat) : Int).toNat * 5 + 3]? = some (.int .i64 x.last) := flat_get ser_len g1 rfl
    have c4 : (L'.flatMap serC)[((i : Nat) : Int).toNat * 5 + 4]? = some lv := flat_get ser_len g1 rfl
    have l1' := ser_cells L'
    have hset : ∀ w, (((L'.flatMap serC).set (((i : Nat) : Int).toNat * 5 + 2) (.bool true)).set (((i : Nat) : Int).toNat * 5 + 3) (.int .i64 o.t)).set (((i : Nat) : Int).toNat * 5 + 4) w = (L'.set i ({ x with any := true, last := o.t, list := x.list ++ [(o.t, o.v)] }, w)).flatMap serC := by
      intro w
      have f1 := flat_set (b := ({ x with any := true }, lv)) (v := .bool true) (j := 2) ser_len g1 (by omega) rfl
      have g1' : (L'.set i ({ x with any := true }, lv))[i]? = some ({ x with any := true }, lv) := by rw [List.getElem?_set_self hil']
      have f2 := flat_set (b := ({ x with any := true, last := o.t }, lv)) (v := .int .i64 o.t) (j := 3) ser_len g1' (by omega) rfl
      rw [List.set_set] at f2
      have g1'' : (L'.set i ({ x with any := true, last := o.t }, lv))[i]? = some ({ x with any := true, last := o.t }, lv) := by rw [List.getElem?_set_self hil']
      have f3 := flat_set (b := ({ x with any := true, last := o.t, list := x.list ++ [(o.t, o.v)] }, w)) (v := w) (j := 4) ser_len g1'' (by omega) rfl
      rw [List.set_set] at f3
      rw [← f3, ← f2, ← f1]
      rfl
    have hfl : x.list.flatMap smC ++ [.int .i64 o.t, .int .u64 o.v] = (x.list ++ [(o.t, o.v)]).flatMap smC := by rw [List.flatMap_append]; rfl
    have hcl := sms_cells x.list
    unfold opC
    cases hsh : x.shut with
    | true =>
      rw [hsh] at c1
      refine W.seq (W.region (WL.mv rfl rfl (WL.nc rfl rfl (WL.faN (T := Ty) (off' := 0) rfl rfl rfl rfl rfl rfl rfl (WL.ldN (T := Ty) (j := 1) rfl rfl rfl rfl rfl rfl (WL.mv rfl rfl ?_))))))
      refine WL.ix (T := Ty) rfl rfl rfl (by assumption) rfl rfl (by omega) (by first | omega | decide +kernel) ?_
      refine WL.as rfl rfl (WL.nil (W.seq (W.block (W.seq (W.region (WL.mv rfl rfl (WL.ncE rfl rfl (WL.faEN (T := Ty) (off' := 1) rfl rfl rfl rfl rfl rfl rfl ?_))))))))
      refine WL.ldE (T := Ty) (j := 2) rfl rfl rfl rfl rfl (by assumption) ?_
      refine WL.as rfl rfl (WL.nil (W.condT rfl (W.seq (W.region (WL.as rfl rfl (WL.nil ?_))))))
      refine W.fit (Hs' := [box b [u, iv, .int .i64 m.next] 31, Buf 5 u (L'.flatMap serC), Buf 2 iv (K.flatMap itrC), Own owSer L', Own owItr K]) (by (repeat' first | exact Sel.nil | refine Sel.cons 0 rfl ?_ | refine Sel.cons 1 rfl ?_ | refine Sel.cons 2 rfl ?_ | refine Sel.cons 3 rfl ?_ | refine Sel.cons 4 rfl ?_ | refine Sel.cons 5 rfl ?_ | refine Sel.cons 6 rfl ?_ | refine Sel.cons 7 rfl ?_ | refine Sel.cons 8 rfl ?_)) (W.ret1 rfl rfl (fun h q => ?_))
      rw [show addAt m (L'.map Prod.fst) i x o = (m, ⟨2, 0, []⟩) by unfold addAt; rw [if_pos hsh]]
      exact ⟨rfl, u, iv, L', K, g6 (.inl hsh), e2, q⟩
    | false =>
      rw [hsh] at c1
      cases hany : x.any with
      | true =>
        rw [hany] at c2
        by_cases hle : o.t ≤ x.last
        · refine W.seq ?_
          refine W.region (WL.mv rfl rfl (WL.nc rfl rfl (WL.faN (T := Ty) (off' := 0) rfl rfl rfl rfl rfl rfl rfl (WL.ldN (T := Ty) (j := 1) rfl rfl rfl rfl rfl rfl (WL.mv rfl rfl ?_)))))
          refine WL.ix (T := Ty) rfl rfl rfl (by assumption) rfl rfl (by omega) (by first | omega | decide +kernel) ?_
          refine WL.as rfl rfl (WL.nil (W.seq (W.block (W.seq (W.region (WL.mv rfl rfl (WL.ncE rfl rfl (WL.faEN (T := Ty) (off' := 1) rfl rfl rfl rfl rfl rfl rfl ?_))))))))
          refine WL.ldE (T := Ty) (j := 2) rfl rfl rfl rfl rfl (by assumption) ?_
          refine WL.as rfl rfl (WL.nil (W.condF rfl (W.seq ?_)))
          refine W.drawA 14 rfl (fun σ0 hσ0 dσ0 => ?_)
          have fσ0_0 := rb_at 0 rfl hσ0 dσ0
          have fσ0_1 := rb_at 1 rfl hσ0 dσ0
          have fσ0_2 := ros_at 2 rfl hσ0 dσ0
          have fσ0_3 := ros_at 3 rfl hσ0 dσ0
          have fσ0_4 := in_at 4 rfl hσ0 dσ0
          have fσ0_5 := in_at 5 rfl hσ0 dσ0
          refine WD.takeL 0 rfl (by decide +kernel) (WL.mv rfl rfl (WL.nilT (WD.takeL 1 rfl (by decide +kernel) (WL.ncE rfl rfl (WL.nilT (WD.takeL 2 rfl (by decide +kernel) (WL.faEN (T := Ty) (off' := 2) rfl rfl rfl rfl rfl rfl rfl (WL.nilT (WD.takeL 3 rfl (by decide +kernel) ?_)))))))))
          refine WL.ldR (T := Ty) rfl rfl rfl rfl (by first | assumption | exact ROs.wide (by assumption)) (by assumption) ?_
          refine WL.nilT (WD.takeL 4 rfl (by decide +kernel) (WL.mv rfl rfl (WL.nilT (WD.takeL 5 rfl (by decide +kernel) (WL.gY rfl rfl (WL.faN (T := Ty) (off' := 3) rfl rfl rfl rfl rfl rfl rfl (WL.nilT (WD.takeL 6 rfl (by decide +kernel) (WL.gY rfl rfl ?_)))))))))
          refine WL.ldBN (T := Ty) rfl rfl rfl rfl (by first | assumption | exact RB.wide (by assumption) | exact In.rb (by assumption)) rfl ?_
          refine WL.nilT (WD.takeL 7 rfl (by decide +kernel) (WL.gY rfl rfl (WL.mv rfl rfl (WL.nilT (WD.takeL 8 rfl (by decide +kernel) (WL.gY rfl rfl (WL.ncE rfl rfl (WL.nilT (WD.takeL 9 rfl (by decide +kernel) (WL.gY rfl rfl (WL.faEN (T := Ty) (off' := 3) rfl rfl rfl rfl rfl rfl rfl (WL.nilT (WD.takeL 10 rfl (by decide +kernel) ?_)))))))))))))
          refine WL.gY rfl rfl ?_
          refine WL.ldR (T := Ty) rfl rfl rfl rfl (by first | assumption | exact ROs.wide (by assumption)) (by assumption) ?_
          refine WL.nilT (WD.takeL 11 rfl (by decide +kernel) (WL.gY rfl rfl (WL.leq rfl rfl rfl (WL.nilT (WD.takeL 12 rfl (by decide +kernel) (WL.pickT rfl rfl rfl (WL.nilT (WD.takeL 13 rfl (by decide +kernel) (WL.as rfl rfl (WL.nilT ?_))))))))))
          refine WD.doneF hσ0 (by decide +kernel) (by repeat' constructor) ?_
          refine W.condpT rfl (by omega) (W.seq (W.region (WL.as rfl rfl (WL.nil ?_))))
          refine W.fit (Hs' := [box b [u, iv, .int .i64 m.next] 31, Buf 5 u (L'.flatMap serC), Buf 2 iv (K.flatMap itrC), Own owSer L', Own owItr K]) (by (repeat' first | exact Sel.nil | refine Sel.cons 0 rfl ?_ | refine Sel.cons 1 rfl ?_ | refine Sel.cons 2 rfl ?_ | refine Sel.cons 3 rfl ?_ | refine Sel.cons 4 rfl ?_ | refine Sel.cons 5 rfl ?_ | refine Sel.cons 6 rfl ?_ | refine Sel.cons 7 rfl ?_ | refine Sel.cons 8 rfl ?_)) (W.ret1 rfl rfl (fun h q => ?_))
          rw [show addAt m (L'.map Prod.fst) i x o = (m, ⟨1, 0, []⟩) by unfold addAt; rw [if_neg (by rw [hsh]; decide), if_pos ⟨hany, hle⟩]]
          exact ⟨rfl, u, iv, L', K, g6 (.inr hany), e2, q⟩
        · have hA : addAt m (L'.map Prod.fst) i x o = ({ m with ser := (L'.map Prod.fst).set i { x with any := true, last := o.t, list := x.list ++ [(o.t, o.v)] } }, ⟨0, 0, []⟩) := by
            unfold addAt; rw [if_neg (by rw [hsh]; decide), if_neg (fun h => hle h.2)]
          rw [hA]
          refine W.parts (ps := [Buf 2 lv (x.list.flatMap smC), Own owSer (L'.eraseIdx i)]) 4 rfl (fun h q => own_out g1 q) (by repeat' constructor) ?_
          refine W.seq (W.region (WL.mv rfl rfl (WL.nc rfl rfl (WL.faN (T := Ty) (off' := 0) rfl rfl rfl rfl rfl rfl rfl (WL.ldN (T := Ty) (j := 3) rfl rfl rfl rfl rfl rfl (WL.mv rfl rfl ?_))))))
          refine WL.ix (T := Ty) rfl rfl rfl (by assumption) rfl rfl (by omega) (by first | omega | decide +kernel) ?_
          refine WL.as rfl rfl (WL.nil (W.seq (W.block (W.seq (W.region (WL.mv rfl rfl (WL.ncE rfl rfl (WL.faEN (T := Ty) (off' := 1) rfl rfl rfl rfl rfl rfl rfl ?_))))))))
          refine WL.ldE (T := Ty) (j := 4) rfl rfl rfl rfl rfl (by assumption) ?_
          refine WL.as rfl rfl (WL.nil (W.condF rfl (W.seq ?_)))
          refine W.drawA 14 rfl (fun σ0 hσ0 dσ0 => ?_)
          have fσ0_0 := ros_at 0 rfl hσ0 dσ0
          have fσ0_1 := in_at 1 rfl hσ0 dσ0
          have fσ0_2 := rb_at 2 rfl hσ0 dσ0
          have fσ0_3 := rb_at 3 rfl hσ0 dσ0
          have fσ0_4 := ros_at 4 rfl hσ0 dσ0
          have fσ0_5 := ros_at 5 rfl hσ0 dσ0
          have fσ0_6 := in_at 6 rfl hσ0 dσ0
          refine WD.takeL 0 rfl (by decide +kernel) (WL.mv rfl rfl (WL.nilT (WD.takeL 1 rfl (by decide +kernel) (WL.ncE rfl rfl (WL.nilT (WD.takeL 2 rfl (by decide +kernel) (WL.faEN (T := Ty) (off' := 2) rfl rfl rfl rfl rfl rfl rfl (WL.nilT (WD.takeL 3 rfl (by decide +kernel) ?_)))))))))
          refine WL.ldR (T := Ty) rfl rfl rfl rfl (by first | assumption | exact ROs.wide (by assumption)) (by assumption) ?_
          refine WL.nilT (WD.takeL 4 rfl (by decide +kernel) (WL.mv rfl rfl (WL.nilT (WD.takeL 5 rfl (by decide +kernel) (WL.gY rfl rfl (WL.faN (T := Ty) (off' := 3) rfl rfl rfl rfl rfl rfl rfl (WL.nilT (WD.takeL 6 rfl (by decide +kernel) (WL.gY rfl rfl ?_)))))))))
          refine WL.ldBN (T := Ty) rfl rfl rfl rfl (by first | assumption | exact RB.wide (by assumption) | exact In.rb (by assumption)) rfl ?_
          refine WL.nilT (WD.takeL 7 rfl (by decide +kernel) (WL.gY rfl rfl (WL.mv rfl rfl (WL.nilT (WD.takeL 8 rfl (by decide +kernel) (WL.gY rfl rfl (WL.ncE rfl rfl (WL.nilT (WD.takeL 9 rfl (by decide +kernel) (WL.gY rfl rfl (WL.faEN (T := Ty) (off' := 3) rfl rfl rfl rfl rfl rfl rfl (WL.nilT (WD.takeL 10 rfl (by decide +kernel) ?_)))))))))))))
          refine WL.gY rfl rfl ?_
          refine WL.ldR (T := Ty) rfl rfl rfl rfl (by first | assumption | exact ROs.wide (by assumption)) (by assumption) ?_
          refine WL.nilT (WD.takeL 11 rfl (by decide +kernel) (WL.gY rfl rfl (WL.leq rfl rfl rfl (WL.nilT (WD.takeL 12 rfl (by decide +kernel) (WL.pickT rfl rfl rfl (WL.nilT (WD.takeL 13 rfl (by decide +kernel) (WL.as rfl rfl (WL.nilT ?_))))))))))
          refine WD.doneF hσ0 (by decide +kernel) (by repeat' constructor) ?_
          refine W.condpF rfl (by omega) (W.skip (W.inBlock (W.seq ?_)))
          refine W.drawP 22 [true, false, false, false, true, true, false] rfl (by repeat' constructor) (by repeat' constructor) (fun σ1 hσ1 dσ1 => ?_)
          have fσ1_0 := in_at 0 rfl hσ1 dσ1
          have fσ1_1 := rb_at 1 rfl hσ1 dσ1
          have fσ1_2 := rb_at 2 rfl hσ1 dσ1
          have fσ1_3 := in_at 3 rfl hσ1 dσ1
          refine WD.takeL 0 rfl (by decide +kernel) (WL.mv rfl rfl (WL.nilT (WD.takeL 1 rfl (by decide +kernel) (WL.mv rfl rfl (WL.nilT (WD.takeL 2 rfl (by decide +kernel) (WL.mv rfl rfl (WL.nilT (WD.takeL 3 rfl (by decide +kernel) (WL.faN (T := Ty) (off' := 3) rfl rfl rfl rfl rfl rfl rfl (WL.nilT (WD.takeL 4 rfl (by decide +kernel) ?_))))))))))))
          refine WL.ldBN (T := Ty) rfl rfl rfl rfl (by first | assumption | exact RB.wide (by assumption) | exact In.rb (by assumption)) rfl ?_
          refine WL.nilT (WD.takeL 5 rfl (by decide +kernel) (WL.mv rfl rfl (WL.nilT (WD.takeL 6 rfl (by decide +kernel) (WL.ncE rfl rfl (WL.nilT (WD.takeL 7 rfl (by decide +kernel) (WL.faEN (T := Ty) (off' := 4) rfl rfl rfl rfl rfl rfl rfl (WL.nilT (WD.takeL 9 rfl (by decide +kernel) (WL.faN (T := Ty) (off' := 3) rfl rfl rfl rfl rfl rfl rfl (WL.nilT (WD.takeL 10 rfl (by decide +kernel) ?_)))))))))))))
          refine WL.ldBN (T := Ty) rfl rfl rfl rfl (by first | assumption | exact RB.wide (by assumption) | exact In.rb (by assumption)) rfl ?_
          refine WL.nilT (WD.takeL 11 rfl (by decide +kernel) (WL.faN (T := Ty) (off' := 4) rfl rfl rfl rfl rfl rfl rfl (WL.nilT (WD.takeL 12 rfl (by decide +kernel) ?_))))
          refine WL.ldBN (T := Ty) rfl rfl rfl rfl (by first | assumption | exact RB.wide (by assumption) | exact In.rb (by assumption)) rfl ?_
          refine WL.nilT (WD.takeL 13 rfl (by decide +kernel) ?_)
          refine WL.bdC (T := Ty) rfl rfl rfl rfl (by repeat' first | exact CO.nil | apply CO.one (by first | rfl | exact SL.one (by assumption)) | apply CO.agg) rfl (by repeat' constructor) ?_
          refine WL.nilT ?_
          refine WD.twoL 8 14 rfl rfl (by decide +kernel) ?_ ?_
          · refine WL.ldE (T := Ty) (j := 2) rfl rfl rfl rfl rfl (by assumption) ?_
            refine WL.nilE (WD.oneL 14 rfl (by decide +kernel) ?_)
            refine WL.bsC (T := Ty) rfl rfl rfl rfl rfl rfl rfl (by repeat' first | exact CO.nil | apply CO.one (by first | rfl | exact SL.one (by assumption)) | apply CO.agg) rfl (by repeat' constructor) (fun u1 hu1 => ?_)
            refine WL.nilH hσ1 (fun σ2 hσ2 dσ2 mσ2 => ?_)
            have fσ1_0 := fσ1_0.mono mσ2
            have fσ1_1 := fσ1_1.mono mσ2
            have fσ1_2 := fσ1_2.mono mσ2
            have fσ1_3 := fσ1_3.mono mσ2
            have fσ2_0 := ros_at 0 rfl hσ2 dσ2
            refine WD.oneL 15 rfl (by decide +kernel) ?_
            refine WL.ap (T := Ty) (i := 1) (m := 1) rfl rfl rfl rfl rfl rfl rfl rfl (by first | exact .ro (by assumption) | exact .ro (ROs.wide (by assumption)) | exact .eqJ 0 rfl (by assumption) | exact .own 0 rfl | exact .own 1 rfl | exact .own 2 rfl | exact .own 3 rfl | exact .own 4 rfl | exact .own 5 rfl) (by first | assumption | exact ROs.slm (by assumption)) (by assumption) (by rfl) (AO.all (by repeat' first | exact AO.nil | apply AO.cons (by first | rfl | exact SL.one (by assumption)))) (by first | omega | (simp; omega)) (by unfold maxLen; omega) (fun v' => (by repeat' constructor)) (fun u2 hu2 => ?_)
            refine WL.nilE (WD.takeL 16 rfl (by decide +kernel) (WL.ncE rfl rfl (WL.nilT (WD.takeL 17 rfl (by decide +kernel) (WL.faEN (T := Ty) (off' := 2) rfl rfl rfl rfl rfl rfl rfl (WL.nilT (WD.oneL 18 rfl (by decide +kernel) ?_)))))))
            refine WL.stEF (T := Ty) (j := 2) rfl rfl rfl rfl rfl rfl (by first | assumption | omega | (simp only [List.length_set]; omega) | (simp; omega)) rfl (by repeat' constructor) ?_
            refine WL.nilE (WD.takeL 19 rfl (by decide +kernel) (WL.ncE rfl rfl (WL.nilT (WD.takeL 20 rfl (by decide +kernel) (WL.faEN (T := Ty) (off' := 3) rfl rfl rfl rfl rfl rfl rfl (WL.nilT (WD.oneL 21 rfl (by decide +kernel) ?_)))))))
            refine WL.stEF (T := Ty) (j := 2) rfl rfl rfl rfl rfl rfl (by first | assumption | omega | (simp only [List.length_set]; omega) | (simp; omega)) rfl (by repeat' constructor) ?_
            refine WL.nilE ?_
            refine WD.lastG hσ2 (by decide +kernel) (by repeat' constructor) rfl (by repeat' constructor) ?_
            refine WL.ncE rfl rfl (WL.faEN (T := Ty) (off' := 4) rfl rfl rfl rfl rfl rfl rfl ?_)
            refine WL.stEF (T := Ty) (j := 6) rfl rfl rfl rfl (SL.one (by assumption)) rfl (by first | assumption | omega | (simp only [List.length_set]; omega) | (simp; omega)) rfl (by repeat' constructor) ?_
            refine WL.nil ?_
            rw [hset, hfl]
            refine W.seq (W.region (WL.as rfl rfl (WL.nil ?_)))
            refine W.fit (Hs' := [box b [u, iv, .int .i64 m.next] 31, Buf 5 u ((L'.set i (_, _)).flatMap serC), Buf 2 iv (K.flatMap itrC), Buf 2 _ ((x.list ++ _).flatMap smC), Own owSer (L'.eraseIdx i), Own owItr K]) (by (repeat' first | exact Sel.nil | refine Sel.cons 0 rfl ?_ | refine Sel.cons 1 rfl ?_ | refine Sel.cons 2 rfl ?_ | refine Sel.cons 3 rfl ?_ | refine Sel.cons 4 rfl ?_ | refine Sel.cons 5 rfl ?_ | refine Sel.cons 6 rfl ?_ | refine Sel.cons 7 rfl ?_ | refine Sel.cons 8 rfl ?_)) ?_
            refine W.ret1 rfl rfl (fun h q => ?_)
            exact ⟨rfl, add_ret g1 e2 q⟩
          · refine WL.bsC (T := Ty) rfl rfl rfl rfl rfl rfl rfl (by repeat' first | exact CO.nil | apply CO.one (by first | rfl | exact SL.one (by assumption)) | apply CO.agg) rfl (by repeat' constructor) (fun u1 hu1 => ?_)
            refine WL.nilH hσ1 (fun σ2 hσ2 dσ2 mσ2 => ?_)
            have fσ1_0 := fσ1_0.mono mσ2
            have fσ1_1 := fσ1_1.mono mσ2
            have fσ1_2 := fσ1_2.mono mσ2
            have fσ1_3 := fσ1_3.mono mσ2
            have fσ2_0 := ros_at 0 rfl hσ2 dσ2
            refine WD.oneL 8 rfl (by decide +kernel) ?_
            refine WL.ldE (T := Ty) (j := 2) rfl rfl rfl rfl rfl (by assumption) ?_
            refine WL.nilE (WD.oneL 15 rfl (by decide +kernel) ?_)
            refine WL.ap (T := Ty) (i := 1) (m := 1) rfl rfl rfl rfl rfl rfl rfl rfl (by first | exact .ro (by assumption) | exact .ro (ROs.wide (by assumption)) | exact .eqJ 0 rfl (by assumption) | exact .own 0 rfl | exact .own 1 rfl | exact .own 2 rfl | exact .own 3 rfl | exact .own 4 rfl | exact .own 5 rfl) (by first | assumption | exact ROs.slm (by assumption)) (by assumption) (by rfl) (AO.all (by repeat' first | exact AO.nil | apply AO.cons (by first | rfl | exact SL.one (by assumption)))) (by first | omega | (simp; omega)) (by unfold maxLen; omega) (fun v' => (by repeat' constructor)) (fun u2 hu2 => ?_)
            refine WL.nilE (WD.takeL 16 rfl (by decide +kernel) (WL.ncE rfl rfl (WL.nilT (WD.takeL 17 rfl (by decide +kernel) (WL.faEN (T := Ty) (off' := 2) rfl rfl rfl rfl rfl rfl rfl (WL.nilT (WD.oneL 18 rfl (by decide +kernel) ?_)))))))
            refine WL.stEF (T := Ty) (j := 2) rfl rfl rfl rfl rfl rfl (by first | assumption | omega | (simp only [List.length_set]; omega) | (simp; omega)) rfl (by repeat' constructor) ?_
            refine WL.nilE (WD.takeL 19 rfl (by decide +kernel) (WL.ncE rfl rfl (WL.nilT (WD.takeL 20 rfl (by decide +kernel) (WL.faEN (T := Ty) (off' := 3) rfl rfl rfl rfl rfl rfl rfl (WL.nilT (WD.oneL 21 rfl (by decide +kernel) ?_)))))))
            refine WL.stEF (T := Ty) (j := 2) rfl rfl rfl rfl rfl rfl (by first | assumption | omega | (simp only [List.length_set]; omega) | (simp; omega)) rfl (by repeat' constructor) ?_
            refine WL.nilE ?_
            refine WD.lastG hσ2 (by decide +kernel) (by repeat' constructor) rfl (by repeat' constructor) ?_
            refine WL.ncE rfl rfl (WL.faEN (T := Ty) (off' := 4) rfl rfl rfl rfl rfl rfl rfl ?_)
            refine WL.stEF (T := Ty) (j := 6) rfl rfl rfl rfl (SL.one (by assumption)) rfl (by first | assumption | omega | (simp only [List.length_set]; omega) | (simp; omega)) rfl (by repeat' constructor) ?_
            refine WL.nil ?_
            rw [hset, hfl]
            refine W.seq (W.region (WL.as rfl rfl (WL.nil ?_)))
            refine W.fit (Hs' := [box b [u, iv, .int .i64 m.next] 31, Buf 5 u ((L'.set i (_, _)).flatMap serC), Buf 2 iv (K.flatMap itrC), Buf 2 _ ((x.list ++ _).flatMap smC), Own owSer (L'.eraseIdx i), Own owItr K]) (by (repeat' first | exact Sel.nil | refine Sel.cons 0 rfl ?_ | refine Sel.cons 1 rfl ?_ | refine Sel.cons 2 rfl ?_ | refine Sel.cons 3 rfl ?_ | refine Sel.cons 4 rfl ?_ | refine Sel.cons 5 rfl ?_ | refine Sel.cons 6 rfl ?_ | refine Sel.cons 7 rfl ?_ | refine Sel.cons 8 rfl ?_)) ?_
            refine W.ret1 rfl rfl (fun h q => ?_)
            exact ⟨rfl, add_ret g1 e2 q⟩
      | false =>
        rw [hany] at c2
        have hA : addAt m (L'.map Prod.fst) i x o = ({ m with ser := (L'.map Prod.fst).set i { x with any := true, last := o.t, list := x.list ++ [(o.t, o.v)] } }, ⟨0, 0, []⟩) := by
          unfold addAt; rw [if_neg (by rw [hsh]; decide), if_neg (fun h => by rw [hany] at h; cases h.1)]
        rw [hA]
        refine W.parts (ps := [Buf 2 lv (x.list.flatMap smC), Own owSer (L'.eraseIdx i)]) 4 rfl (fun h q => own_out g1 q) (by repeat' constructor) ?_
        refine W.seq (W.region (WL.mv rfl rfl (WL.nc rfl rfl (WL.faN (T := Ty) (off' := 0) rfl rfl rfl rfl rfl rfl rfl (WL.ldN (T := Ty) (j := 3) rfl rfl rfl rfl rfl rfl (WL.mv rfl rfl ?_))))))
        refine WL.ix (T := Ty) rfl rfl rfl (by assumption) rfl rfl (by omega) (by first | omega | decide +kernel) ?_
        refine WL.as rfl rfl (WL.nil (W.seq (W.block (W.seq (W.region (WL.mv rfl rfl (WL.ncE rfl rfl (WL.faEN (T := Ty) (off' := 1) rfl rfl rfl rfl rfl rfl rfl ?_))))))))
        refine WL.ldE (T := Ty) (j := 4) rfl rfl rfl rfl rfl (by assumption) ?_
        refine WL.as rfl rfl (WL.nil (W.condF rfl (W.seq ?_)))
        refine W.drawA 14 rfl (fun σ0 hσ0 dσ0 => ?_)
        have fσ0_0 := ros_at 0 rfl hσ0 dσ0
        have fσ0_1 := in_at 1 rfl hσ0 dσ0
        have fσ0_2 := rb_at 2 rfl hσ0 dσ0
        have fσ0_3 := rb_at 3 rfl hσ0 dσ0
        have fσ0_4 := ros_at 4 rfl hσ0 dσ0
        have fσ0_5 := ros_at 5 rfl hσ0 dσ0
        have fσ0_6 := in_at 6 rfl hσ0 dσ0
        refine WD.takeL 0 rfl (by decide +kernel) (WL.mv rfl rfl (WL.nilT (WD.takeL 1 rfl (by decide +kernel) (WL.ncE rfl rfl (WL.nilT (WD.takeL 2 rfl (by decide +kernel) (WL.faEN (T := Ty) (off' := 2) rfl rfl rfl rfl rfl rfl rfl (WL.nilT (WD.takeL 3 rfl (by decide +kernel) ?_)))))))))
        refine WL.ldR (T := Ty) rfl rfl rfl rfl (by first | assumption | exact ROs.wide (by assumption)) (by assumption) ?_
        refine WL.nilT (WD.takeL 4 rfl (by decide +kernel) (WL.mv rfl rfl (WL.nilT (WD.takeL 5 rfl (by decide +kernel) (WL.gdN rfl rfl rfl rfl rfl rfl (WL.nilT (WD.takeL 6 rfl (by decide +kernel) (WL.gdN rfl rfl rfl rfl rfl rfl (WL.nilT (WD.takeL 7 rfl (by decide +kernel) (WL.gdN rfl rfl rfl rfl rfl rfl (WL.nilT (WD.takeL 8 rfl (by decide +kernel) ?_)))))))))))))
        refine WL.gdN rfl rfl rfl rfl rfl rfl (WL.nilT (WD.takeL 9 rfl (by decide +kernel) (WL.gdN rfl rfl rfl rfl rfl rfl (WL.nilT (WD.takeL 10 rfl (by decide +kernel) (WL.gdN rfl rfl rfl rfl rfl rfl (WL.nilT (WD.takeL 11 rfl (by decide +kernel) (WL.gdN rfl rfl rfl rfl rfl rfl (WL.nilT (WD.takeL 12 rfl (by decide +kernel) (WL.pickF rfl rfl rfl (WL.nilT ?_)))))))))))))
        refine WD.takeL 13 rfl (by decide +kernel) (WL.as rfl rfl (WL.nilT ?_))
        refine WD.doneF hσ0 (by decide +kernel) (by repeat' constructor) ?_
        refine W.condF rfl (W.skip (W.inBlock (W.seq ?_)))
        refine W.drawP 22 [true, false, false, false, true, true, false] rfl (by repeat' constructor) (by repeat' constructor) (fun σ1 hσ1 dσ1 => ?_)
        have fσ1_0 := in_at 0 rfl hσ1 dσ1
        have fσ1_1 := rb_at 1 rfl hσ1 dσ1
        have fσ1_2 := rb_at 2 rfl hσ1 dσ1
        have fσ1_3 := in_at 3 rfl hσ1 dσ1
        refine WD.takeL 0 rfl (by decide +kernel) (WL.mv rfl rfl (WL.nilT (WD.takeL 1 rfl (by decide +kernel) (WL.mv rfl rfl (WL.nilT (WD.takeL 2 rfl (by decide +kernel) (WL.mv rfl rfl (WL.nilT (WD.takeL 3 rfl (by decide +kernel) (WL.faN (T := Ty) (off' := 3) rfl rfl rfl rfl rfl rfl rfl (WL.nilT (WD.takeL 4 rfl (by decide +kernel) ?_))))))))))))
        refine WL.ldBN (T := Ty) rfl rfl rfl rfl (by first | assumption | exact RB.wide (by assumption) | exact In.rb (by assumption)) rfl ?_
        refine WL.nilT (WD.takeL 5 rfl (by decide +kernel) (WL.mv rfl rfl (WL.nilT (WD.takeL 6 rfl (by decide +kernel) (WL.ncE rfl rfl (WL.nilT (WD.takeL 7 rfl (by decide +kernel) (WL.faEN (T := Ty) (off' := 4) rfl rfl rfl rfl rfl rfl rfl (WL.nilT (WD.takeL 9 rfl (by decide +kernel) (WL.faN (T := Ty) (off' := 3) rfl rfl rfl rfl rfl rfl rfl (WL.nilT (WD.takeL 10 rfl (by decide +kernel) ?_)))))))))))))
        refine WL.ldBN (T := Ty) rfl rfl rfl rfl (by first | assumption | exact RB.wide (by assumption) | exact In.rb (by assumption)) rfl ?_
        refine WL.nilT (WD.takeL 11 rfl (by decide +kernel) (WL.faN (T := Ty) (off' := 4) rfl rfl rfl rfl rfl rfl rfl (WL.nilT (WD.takeL 12 rfl (by decide +kernel) ?_))))
        refine WL.ldBN (T := Ty) rfl rfl rfl rfl (by first | assumption | exact RB.wide (by assumption) | exact In.rb (by assumption)) rfl ?_
        refine WL.nilT (WD.takeL 13 rfl (by decide +kernel) ?_)
        refine WL.bdC (T := Ty) rfl rfl rfl rfl (by repeat' first | exact CO.nil | apply CO.one (by first | rfl | exact SL.one (by assumption)) | apply CO.agg) rfl (by repeat' constructor) ?_
        refine WL.nilT ?_
        refine WD.twoL 8 14 rfl rfl (by decide +kernel) ?_ ?_
        · refine WL.ldE (T := Ty) (j := 2) rfl rfl rfl rfl rfl (by assumption) ?_
          refine WL.nilE (WD.oneL 14 rfl (by decide +kernel) ?_)
          refine WL.bsC (T := Ty) rfl rfl rfl rfl rfl rfl rfl (by repeat' first | exact CO.nil | apply CO.one (by first | rfl | exact SL.one (by assumption)) | apply CO.agg) rfl (by repeat' constructor) (fun u1 hu1 => ?_)
          refine WL.nilH hσ1 (fun σ2 hσ2 dσ2 mσ2 => ?_)
          have fσ1_0 := fσ1_0.mono mσ2
          have fσ1_1 := fσ1_1.mono mσ2
          have fσ1_2 := fσ1_2.mono mσ2
          have fσ1_3 := fσ1_3.mono mσ2
          have fσ2_0 := ros_at 0 rfl hσ2 dσ2
          refine WD.oneL 15 rfl (by decide +kernel) ?_
          refine WL.ap (T := Ty) (i := 1) (m := 1) rfl rfl rfl rfl rfl rfl rfl rfl (by first | exact .ro (by assumption) | exact .ro (ROs.wide (by assumption)) | exact .eqJ 0 rfl (by assumption) | exact .own 0 rfl | exact .own 1 rfl | exact .own 2 rfl | exact .own 3 rfl | exact .own 4 rfl | exact .own 5 rfl) (by first | assumption | exact ROs.slm (by assumption)) (by assumption) (by rfl) (AO.all (by repeat' first | exact AO.nil | apply AO.cons (by first | rfl | exact SL.one (by assumption)))) (by first | omega | (simp; omega)) (by unfold maxLen; omega) (fun v' => (by repeat' constructor)) (fun u2 hu2 => ?_)
          refine WL.nilE (WD.takeL 16 rfl (by decide +kernel) (WL.ncE rfl rfl (WL.nilT (WD.takeL 17 rfl (by decide +kernel) (WL.faEN (T := Ty) (off' := 2) rfl rfl rfl rfl rfl rfl rfl (WL.nilT (WD.oneL 18 rfl (by decide +kernel) ?_)))))))
          refine WL.stEF (T := Ty) (j := 2) rfl rfl rfl rfl rfl rfl (by first | assumption | omega | (simp only [List.length_set]; omega) | (simp; omega)) rfl (by repeat' constructor) ?_
          refine WL.nilE (WD.takeL 19 rfl (by decide +kernel) (WL.ncE rfl rfl (WL.nilT (WD.takeL 20 rfl (by decide +kernel) (WL.faEN (T := Ty) (off' := 3) rfl rfl rfl rfl rfl rfl rfl (WL.nilT (WD.oneL 21 rfl (by decide +kernel) ?_)))))))
          refine WL.stEF (T := Ty) (j := 2) rfl rfl rfl rfl rfl rfl (by first | assumption | omega | (simp only [List.length_set]; omega) | (simp; omega)) rfl (by repeat' constructor) ?_
          refine WL.nilE ?_
          refine WD.lastG hσ2 (by decide +kernel) (by repeat' constructor) rfl (by repeat' constructor) ?_
          refine WL.ncE rfl rfl (WL.faEN (T := Ty) (off' := 4) rfl rfl rfl rfl rfl rfl rfl ?_)
          refine WL.stEF (T := Ty) (j := 6) rfl rfl rfl rfl (SL.one (by assumption)) rfl (by first | assumption | omega | (simp only [List.length_set]; omega) | (simp; omega)) rfl (by repeat' constructor) ?_
          refine WL.nil ?_
          rw [hset, hfl]
          refine W.seq (W.region (WL.as rfl rfl (WL.nil ?_)))
          refine W.fit (Hs' := [box b [u, iv, .int .i64 m.next] 31, Buf 5 u ((L'.set i (_, _)).flatMap serC), Buf 2 iv (K.flatMap itrC), Buf 2 _ ((x.list ++ _).flatMap smC), Own owSer (L'.eraseIdx i), Own owItr K]) (by (repeat' first | exact Sel.nil | refine Sel.cons 0 rfl ?_ | refine Sel.cons 1 rfl ?_ | refine Sel.cons 2 rfl ?_ | refine Sel.cons 3 rfl ?_ | refine Sel.cons 4 rfl ?_ | refine Sel.cons 5 rfl ?_ | refine Sel.cons 6 rfl ?_ | refine Sel.cons 7 rfl ?_ | refine Sel.cons 8 rfl ?_)) ?_
          refine W.ret1 rfl rfl (fun h q => ?_)
          exact ⟨rfl, add_ret g1 e2 q⟩
        · refine WL.bsC (T := Ty) rfl rfl rfl rfl rfl rfl rfl (by repeat' first | exact CO.nil | apply CO.one (by first | rfl | exact SL.one (by assumption)) | apply CO.agg) rfl (by repeat' constructor) (fun u1 hu1 => ?_)
          refine WL.nilH hσ1 (fun σ2 hσ2 dσ2 mσ2 => ?_)
          have fσ1_0 := fσ1_0.mono mσ2
          have fσ1_1 := fσ1_1.mono mσ2
          have fσ1_2 := fσ1_2.mono mσ2
          have fσ1_3 := fσ1_3.mono mσ2
          have fσ2_0 := ros_at 0 rfl hσ2 dσ2
          refine WD.oneL 8 rfl (by decide +kernel) ?_
          refine WL.ldE (T := Ty) (j := 2) rfl rfl rfl rfl rfl (by assumption) ?_
          refine WL.nilE (WD.oneL 15 rfl (by decide +kernel) ?_)
          refine WL.ap (T := Ty) (i := 1) (m := 1) rfl rfl rfl rfl rfl rfl rfl rfl (by first | exact .ro (by assumption) | exact .ro (ROs.wide (by assumption)) | exact .eqJ 0 rfl (by assumption) | exact .own 0 rfl | exact .own 1 rfl | exact .own 2 rfl | exact .own 3 rfl | exact .own 4 rfl | exact .own 5 rfl) (by first | assumption | exact ROs.slm (by assumption)) (by assumption) (by rfl) (AO.all (by repeat' first | exact AO.nil | apply AO.cons (by first | rfl | exact SL.one (by assumption)))) (by first | omega | (simp; omega)) (by unfold maxLen; omega) (fun v' => (by repeat' constructor)) (fun u2 hu2 => ?_)
          refine WL.nilE (WD.takeL 16 rfl (by decide +kernel) (WL.ncE rfl rfl (WL.nilT (WD.takeL 17 rfl (by decide +kernel) (WL.faEN (T := Ty) (off' := 2) rfl rfl rfl rfl rfl rfl rfl (WL.nilT (WD.oneL 18 rfl (by decide +kernel) ?_)))))))
          refine WL.stEF (T := Ty) (j := 2) rfl rfl rfl rfl rfl rfl (by first | assumption | omega | (simp only [List.length_set]; omega) | (simp; omega)) rfl (by repeat' constructor) ?_
          refine WL.nilE (WD.takeL 19 rfl (by decide +kernel) (WL.ncE rfl rfl (WL.nilT (WD.takeL 20 rfl (by decide +kernel) (WL.faEN (T := Ty) (off' := 3) rfl rfl rfl rfl rfl rfl rfl (WL.nilT (WD.oneL 21 rfl (by decide +kernel) ?_)))))))
          refine WL.stEF (T := Ty) (j := 2) rfl rfl rfl rfl rfl rfl (by first | assumption | omega | (simp only [List.length_set]; omega) | (simp; omega)) rfl (by repeat' constructor) ?_
          refine WL.nilE ?_
          refine WD.lastG hσ2 (by decide +kernel) (by repeat' constructor) rfl (by repeat' constructor) ?_
          refine WL.ncE rfl rfl (WL.faEN (T := Ty) (off' := 4) rfl rfl rfl rfl rfl rfl rfl ?_)
          refine WL.stEF (T := Ty) (j := 6) rfl rfl rfl rfl (SL.one (by assumption)) rfl (by first | assumption | omega | (simp only [List.length_set]; omega) | (simp; omega)) rfl (by repeat' constructor) ?_
          refine WL.nil ?_
          rw [hset, hfl]
          refine W.seq (W.region (WL.as rfl rfl (WL.nil ?_)))
          refine W.fit (Hs' := [box b [u, iv, .int .i64 m.next] 31, Buf 5 u ((L'.set i (_, _)).flatMap serC), Buf 2 iv (K.flatMap itrC), Buf 2 _ ((x.list ++ _).flatMap smC), Own owSer (L'.eraseIdx i), Own owItr K]) (by (repeat' first | exact Sel.nil | refine Sel.cons 0 rfl ?_ | refine Sel.cons 1 rfl ?_ | refine Sel.cons 2 rfl ?_ | refine Sel.cons 3 rfl ?_ | refine Sel.cons 4 rfl ?_ | refine Sel.cons 5 rfl ?_ | refine Sel.cons 6 rfl ?_ | refine Sel.cons 7 rfl ?_ | refine Sel.cons 8 rfl ?_)) ?_
          refine W.ret1 rfl rfl (fun h q => ?_)
          exact ⟨rfl, add_ret g1 e2 q⟩
  · cases hh : serHas m.ser o.series with
    | none =>
      have hins : (L.flatMap serC).take (i * 5) ++ [.int .i64 o.series, .bool false, .bool false, .int .i64 0, .slice none 0 0] ++ (L.flatMap serC).drop (i * 5) = (L.take i ++ [((⟨o.series, false, false, 0, []⟩ : Ser), Value.slice none 0 0)] ++ L.drop i).flatMap serC := flat_ins ser_len L i ((⟨o.series, false, false, 0, []⟩ : Ser), nilV)
      have hlen : (L.take i ++ [((⟨o.series, false, false, 0, []⟩ : Ser), nilV)] ++ L.drop i).length = L.length + 1 := by simp; omega
      refine W.condT rfl ?_
      refine W.drawP 11 [false, false, true, true, false, false] rfl (by repeat' constructor) (by repeat' constructor) (fun σ0 hσ0 dσ0 => ?_)
      have fσ0_0 := rb_at 0 rfl hσ0 dσ0
      have fσ0_1 := rb_at 1 rfl hσ0 dσ0
      have fσ0_2 := in_at 2 rfl hσ0 dσ0
      have fσ0_3 := in_at 3 rfl hσ0 dσ0
      refine WD.takeL 0 rfl (by decide +kernel) (WL.mv rfl rfl (WL.nilT (WD.takeL 1 rfl (by decide +kernel) (WL.mv rfl rfl (WL.nilT (WD.takeL 2 rfl (by decide +kernel) (WL.nc rfl rfl (WL.nilT (WD.takeL 3 rfl (by decide +kernel) (WL.faN (T := Ty) (off' := 0) rfl rfl rfl rfl rfl rfl rfl (WL.nilT (WD.takeL 4 rfl (by decide +kernel) ?_))))))))))))
      refine WL.ldBN (T := Ty) rfl rfl rfl rfl (by first | assumption | exact RB.wide (by assumption) | exact In.rb (by assumption)) rfl ?_
      refine WL.nilT (WD.takeL 5 rfl (by decide +kernel) (WL.mv rfl rfl (WL.nilT (WD.takeL 6 rfl (by decide +kernel) (WL.faN (T := Ty) (off' := 1) rfl rfl rfl rfl rfl rfl rfl (WL.nilT (WD.takeL 7 rfl (by decide +kernel) ?_)))))))
      refine WL.ldBN (T := Ty) rfl rfl rfl rfl (by first | assumption | exact RB.wide (by assumption) | exact In.rb (by assumption)) rfl ?_
      refine WL.nilT (WD.takeL 8 rfl (by decide +kernel) ?_)
      refine WL.bdC (T := Ty) rfl rfl rfl rfl (by repeat' first | exact CO.nil | apply CO.one (by first | rfl | exact SL.one (by assumption)) | apply CO.agg) rfl (by repeat' constructor) ?_
      refine WL.nilT (WD.oneL 9 rfl (by decide +kernel) ?_)
      refine WL.bsXh (by with_reducible assumption) (T := Ty) rfl rfl rfl rfl rfl rfl rfl rfl (by repeat' constructor) (fun b1 => ?_)
      refine WL.nilS (WD.oneL 10 rfl (by decide +kernel) ?_)
      refine WL.callTk (Take.cons 2 rfl (Take.cons 1 rfl Take.nil)) rfl rfl (fun x p d => insS_c _ _ _ _ _ _ _ _ rfl (by assumption) (by first | assumption | omega) (by assumption) (AO.all (by repeat' first | exact AO.nil | apply AO.cons (by first | rfl | exact SL.one (by assumption)))) (by first | assumption | omega)) (by repeat' constructor) (fun u2 => ?_)
      refine WL.fact (i := 0) rfl (fun h hb => hb.sl (ins_len (by assumption) rfl) (by omega)) (fun hsl2 => ?_)
      refine WL.nilH hσ0 (fun σ1 hσ1 dσ1 mσ1 => ?_)
      have fσ0_0 := fσ0_0.mono mσ1
      have fσ0_1 := fσ0_1.mono mσ1
      have fσ0_2 := fσ0_2.mono mσ1
      have fσ0_3 := fσ0_3.mono mσ1
      have fσ1_0 := ros_at 0 rfl hσ1 dσ1
      refine WD.lastG hσ1 (by decide +kernel) (by repeat' constructor) rfl (by repeat' constructor) ?_
      refine WL.nc rfl rfl (WL.faN (T := Ty) (off' := 0) rfl rfl rfl rfl rfl rfl rfl ?_)
      refine WL.stF (T := Ty) (j := 2) rfl rfl rfl rfl (SL.one (by assumption)) rfl rfl (by repeat' constructor) (by repeat' constructor) ?_
      refine WL.nil ?_
      rw [hins]
      refine W.nb (sz := 2) ?_
      refine W.fit (Hs' := [Buf 2 nilV [], Own owSer L, box b0 _ _, box b _ _, Buf 5 _ _, Buf 2 iv _, Own owItr K]) (by (repeat' first | exact Sel.nil | refine Sel.cons 0 rfl ?_ | refine Sel.cons 1 rfl ?_ | refine Sel.cons 2 rfl ?_ | refine Sel.cons 3 rfl ?_ | refine Sel.cons 4 rfl ?_ | refine Sel.cons 5 rfl ?_ | refine Sel.cons 6 rfl ?_ | refine Sel.cons 7 rfl ?_ | refine Sel.cons 8 rfl ?_)) ?_
      refine W.two (r := Own owSer (L.take i ++ [((⟨o.series, false, false, 0, []⟩ : Ser), nilV)] ++ L.drop i)) _ _ rfl (fun h q => own_ins (f := owSer) (i := i) (a := ((⟨o.series, false, false, 0, []⟩ : Ser), nilV)) q) ?_
      refine W.fit (by (repeat' first | exact Sel.nil | refine Sel.cons 0 rfl ?_ | refine Sel.cons 1 rfl ?_ | refine Sel.cons 2 rfl ?_ | refine Sel.cons 3 rfl ?_ | refine Sel.cons 4 rfl ?_ | refine Sel.cons 5 rfl ?_ | refine Sel.cons 6 rfl ?_ | refine Sel.cons 7 rfl ?_ | refine Sel.cons 8 rfl ?_)) (W.sub ?_ (cut ⟨_, L.take i ++ [((⟨o.series, false, false, 0, []⟩ : Ser), nilV)] ++ L.drop i, ⟨o.series, false, false, 0, []⟩, nilV⟩ ⟨get_mid L _ hil, by simp only [hlen]; assumption, by simp only [hlen]; omega, Nat.zero_le _, ?_, fun h => by rcases h with h | h <;> cases h⟩))
      · exact ⟨rfl, rfl, rfl, rfl, trivial⟩
      · unfold doA addAt; rw [hh, hi]; simp only [Bool.false_eq_true, false_and, if_false, List.map_append, List.map_take, List.map_drop, List.map_cons, List.map_nil, e1, set_mid m.ser _ _ (show i ≤ m.ser.length by rw [← e1, List.length_map]; exact hil), List.nil_append]
    | some x =>
      obtain ⟨hg, hid⟩ := serHas_some hh
      rw [hi] at hg
      have hm := hI.lens x (List.mem_of_getElem? hg)
      rw [← e1, List.getElem?_map] at hg
      obtain ⟨⟨x', lv⟩, hp, hx⟩ := Option.map_eq_some_iff.1 hg
      simp only [] at hx
      subst hx
      refine W.condF rfl (W.skip ?_)
      refine W.fit (by (repeat' first | exact Sel.nil | refine Sel.cons 0 rfl ?_ | refine Sel.cons 1 rfl ?_ | refine Sel.cons 2 rfl ?_ | refine Sel.cons 3 rfl ?_ | refine Sel.cons 4 rfl ?_ | refine Sel.cons 5 rfl ?_ | refine Sel.cons 6 rfl ?_ | refine Sel.cons 7 rfl ?_ | refine Sel.cons 8 rfl ?_)) (W.sub ?_ (cut ⟨sv, L, x', lv⟩ ⟨hp, s1, by simp only []; omega, hm, ?_, fun _ => e1⟩))
      · exact ⟨rfl, rfl, rfl, rfl, trivial⟩
      · unfold doA addAt
        rw [hh, hi, e1]
end Go.Proofs.Ytbebhmdjnneimaa
