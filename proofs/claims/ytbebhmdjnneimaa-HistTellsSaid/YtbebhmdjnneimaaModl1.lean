/- modl: a model of its own memory. -/
import Derived.Test.YtbebhmdjnneimaaStc
import Derived.Test.YtbebhmdjnneimaaNum
import Derived.Test.YtbebhmdjnneimaaTab
import Derived.Test.YtbebhmdjnneimaaMdlRo
import Derived.Test.YtbebhmdjnneimaaClE
set_option linter.unusedSimpArgs false
set_option linter.unusedVariables false
set_option maxRecDepth 20000
set_option maxHeartbeats 4000000
namespace Go.Proofs.Ytbebhmdjnneimaa
open Go
attribute [local irreducible] W WL Fn Buf ROs SL eptr box Rd Src bndOK WD RB Reads In Own twoC
theorem ser_cells (L : List (Ser × Value)) : (L.flatMap serC).length = L.length * 5 := flat_len ser_len L
theorem itr_cells (L : List (Itr × Value)) : (L.flatMap itrC).length = L.length * 2 := flat_len itr_len L
theorem sms_cells (l : List Smp) : (l.flatMap smC).length = l.length * 2 := flat_len sm_len l
theorem map_fst_get {α β : Type} {L : List (α × β)} {l : List α} (h : L.map Prod.fst = l) {i : Nat} {p : α × β} (hp : L[i]? = some p) : l[i]? = some p.1 := by
 rw [← h, List.getElem?_map, hp]; rfl
theorem drop_get {α : Type} {L M : List α} {k : Nat} (h : L.drop k = M.drop k) : L[k]? = M[k]? := by
 have := congrArg (fun l => l[0]?) h
 simpa using this
theorem drop_succ {α : Type} {L M : List α} {k : Nat} (h : L.drop k = M.drop k) (x : α) : (L.set k x).drop (k + 1) = M.drop (k + 1) := by
 rw [List.drop_set_of_lt (by omega)]
 have := congrArg (fun l => l.drop 1) h
 simpa [List.drop_drop] using this
theorem take_set_succ {α : Type} {L : List α} {k : Nat} (x : α) (h : k < L.length) : (L.set k x).take (k + 1) = L.take k ++ [x] := by
 rw [List.take_add_one, List.take_set_of_le (by omega)]
 simp [h]
theorem map_fst_set {α β : Type} {L : List (α × β)} {l : List α} (h : L.map Prod.fst = l) {k : Nat} {p : α × β} (hp : L[k]? = some p) (u : β) : (L.set k (p.1, u)).map Prod.fst = l := by
 rw [List.map_set, ← h]
 apply List.ext_getElem?
 intro i
 rw [List.getElem?_set]
 split
 ·rename_i e
  subst e
  rw [List.getElem?_map, hp]
  simp [(List.getElem?_eq_some_iff.1 hp).1]
 ·rfl
theorem OMdl.shape {v : Value} {m : Mdl} {h : Hp} (o : OMdl v m h) : ∃ sv iv, v = .agg #[sv, iv, .int .i64 m.next] ∧ SL sv m.ser.length ∧ SL iv m.its.length := by
 obtain ⟨sv, iv, L, K, e, e1, e2, x1, y1, h1, ⟨x2, y2, h2, _⟩, _⟩ := o
 exact ⟨sv, iv, e, h1.sl (by rw [ser_cells, ← e1, List.length_map]) (by omega), h2.sl (by rw [itr_cells, ← e2, List.length_map]) (by omega)⟩
theorem still_c (ρ : Hp) (v : Value) (m : Mdl) (n : Nat) (hm : RMdl ρ v m) (h1 : m.ser.length ≤ n) (h2 : m.its.length ≤ n) (h3 : ∀ s ∈ m.ser, s.list.length ≤ n) (h4 : ∀ x ∈ m.its, x.rest.length ≤ n) (hn : n ≤ 100000000) :
    Fn Try.prog 46 #[v] ρ [] (fun r => OMdl r m) := by
  refine in46 rfl rfl ?_
  obtain ⟨sv, iv, L, K, rfl, e1, e2, r1, r2, r3, r4⟩ := hm
  unfold mdlV
  have l1 := ser_cells L
  have l2 := itr_cells K
  have lL : L.length ≤ n := by rw [← e1] at h1; simpa using h1
  have lK : K.length ≤ n := by rw [← e2] at h2; simpa using h2
  have o1 := ser_one r3
  have o2 := itr_one r4
  refine W.seq (W.region ?_)
  refine WL.bxF rfl rfl (by repeat' constructor) (fun b0 => ?_)
  refine WL.alF (T := Ty) rfl rfl (by repeat' constructor) (fun b1 => ?_)
  refine WL.nil (W.seq ?_)
  refine W.cut (τ := Nat × Value × Value) (fun s => [(2, pt b1 0), (3, pt s.1 0)]) (fun s => [box s.1 [s.2.1, s.2.2, .int .i64 m.next] 31, Buf 5 s.2.1 (L.flatMap serC), Buf 2 s.2.2 (K.flatMap itrC), box b1 [nilV, nilV, .int .i64 0] 31]) (fun s => SL s.2.1 L.length ∧ SL s.2.2 K.length) ?_ (fun cut => ?_)
  · rintro ⟨b3, sv', iv'⟩ ⟨s1, s2⟩
    simp only [] at s1 s2 ⊢
    refine W.seq (W.seq (W.region (WL.faN (T := Ty) (off' := 0) rfl rfl rfl rfl rfl rfl rfl (WL.ldN (T := Ty) (j := 0) rfl rfl rfl rfl rfl rfl ?_))))
    refine WL.len (T := Ty) rfl rfl (by assumption) rfl ?_
    refine WL.mv rfl rfl (WL.nil (W.block (W.own0 owSer ?_)))
    refine W.loopS (σ := Nat × List (Ser × Value)) (fun s => [(18, .int .i64 (s.1 : Int)), (17, .int .i64 (L.length : Int)), (2, pt b1 0), (3, pt b3 0)])
      (fun s => [Own owSer (s.2.take s.1), box b3 [sv', iv', .int .i64 m.next] 31, Buf 5 sv' (s.2.flatMap serC), Buf 2 iv' (K.flatMap itrC), box b1 [nilV, nilV, .int .i64 0] 31])
      (fun s => s.1 ≤ L.length ∧ s.2.map Prod.fst = m.ser ∧ s.2.drop s.1 = L.drop s.1 ∧ s.2.length = L.length) (fun s => L.length - s.1) (0, L) ⟨rfl, rfl, rfl, rfl, trivial⟩ rfl ⟨Nat.zero_le _, e1, rfl, rfl⟩ ?_
    rintro ⟨k, L1⟩ ⟨hk, e3, e4, e5⟩ next
    simp only [] at hk e3 e4 e5 next ⊢
    have l3 := ser_cells L1
    by_cases hc : k < L.length
    · obtain ⟨p, hp⟩ : ∃ p, L1[k]? = some p := ⟨_, List.getElem?_eq_getElem (by omega)⟩
      have hp' : L[k]? = some p := by rw [← drop_get e4]; exact hp
      have hg : (L1.flatMap serC)[((k : Nat) : Int).toNat * 5 + 4]? = some p.2 := flat_get ser_len hp rfl
      have hr : ROs ρ 2 p.2 (p.1.list.flatMap smC) := r3 p (List.mem_of_getElem? hp')
      have hll := sms_cells p.1.list
      have hlb := h3 p.1 (List.mem_of_getElem? (map_fst_get e1 hp'))
      have hone := sm_one p.1.list
      refine W.seq (W.region (WL.lss rfl rfl rfl (WL.nil (W.seq (W.condpT rfl (by omega) (W.skip (W.seq (W.block (W.seq (W.region (WL.mv rfl rfl (WL.as rfl rfl (WL.nil ?_)))))))))))))
      refine W.cut (τ := Value) (fun u => [(18, .int .i64 (k : Int)), (17, .int .i64 (L.length : Int)), (2, pt b1 0), (3, pt b3 0)])
        (fun u => [Buf 2 u (p.1.list.flatMap smC), Own owSer (L1.take k), box b3 [sv', iv', .int .i64 m.next] 31, Buf 5 sv' ((L1.set k (p.1, u)).flatMap serC), Buf 2 iv' (K.flatMap itrC), box b1 [nilV, nilV, .int .i64 0] 31]) (fun _ => True) ?_ (fun cut => ?_)
      · intro u _
        refine W.inBlock (W.region (WL.addK rfl rfl rfl (wrap_i64 ⟨by omega, by omega⟩) (WL.mv rfl rfl (WL.nil ?_))))
        refine W.two (r := Own owSer ((L1.set k (p.1, u)).take (k + 1))) _ _ rfl (fun h q => by rw [take_set_succ (p.1, u) (by omega)]; exact own_snoc (f := owSer) (a := (p.1, u)) q) ?_
        refine W.sub ?_ (next ⟨k + 1, L1.set k (p.1, u)⟩ ⟨by omega, map_fst_set e3 hp u, drop_succ e4 _, by simpa using e5⟩ (by simp only []; omega))
        exact ⟨rfl, rfl, rfl, rfl, trivial⟩
      · have hset : ∀ u, (L1.flatMap serC).set (((k : Nat) : Int).toNat * 5 + 4) u = (L1.set k (p.1, u)).flatMap serC := fun u => flat_set ser_len hp (by omega) rfl
        refine W.drawA 10 rfl (fun σ0 hσ0 dσ0 => ?_)
        have fσ0_0 := in_at 0 rfl hσ0 dσ0
        have fσ0_1 := rb_at 1 rfl hσ0 dσ0
        have fσ0_2 := ros_at 2 rfl hσ0 dσ0
        have fσ0_3 := ros_at 3 rfl hσ0 dσ0
        have fσ0_4 := rb_at 4 rfl hσ0 dσ0
        refine WD.takeL 0 rfl (by decide +kernel) (WL.faN (T := Ty) (off' := 0) rfl rfl rfl rfl rfl rfl rfl (WL.nilT (WD.takeL 1 rfl (by decide +kernel) ?_)))
        refine WL.ldBN (T := Ty) rfl rfl rfl rfl (by first | assumption | exact RB.wide (by assumption) | exact In.rb (by assumption)) rfl ?_
        refine WL.nilT (WD.takeL 2 rfl (by decide +kernel) (WL.mv rfl rfl (WL.nilT (WD.takeL 3 rfl (by decide +kernel) (WL.faN (T := Ty) (off' := 0) rfl rfl rfl rfl rfl rfl rfl (WL.nilT (WD.takeL 4 rfl (by decide +kernel) ?_)))))))
        refine WL.ldBN (T := Ty) rfl rfl rfl rfl (by first | assumption | exact RB.wide (by assumption) | exact In.rb (by assumption)) rfl ?_
        refine WL.nilT (WD.takeL 5 rfl (by decide +kernel) (WL.mv rfl rfl (WL.nilT (WD.takeL 6 rfl (by decide +kernel) ?_))))
        refine WL.ix (T := Ty) rfl rfl rfl (by assumption) rfl rfl (by omega) (by first | omega | decide +kernel) ?_
        refine WL.nilT (WD.takeL 7 rfl (by decide +kernel) (WL.faEN (T := Ty) (off' := 4) rfl rfl rfl rfl rfl rfl rfl (WL.nilT (WD.takeL 8 rfl (by decide +kernel) ?_))))
        refine WL.ldR (T := Ty) rfl rfl rfl rfl (by first | assumption | exact ROs.wide (by assumption)) (by assumption) ?_
        refine WL.nilT (WD.oneL 9 rfl (by decide +kernel) ?_)
        refine WL.callF rfl rfl (fun x p d => cloneM_c _ _ _ _ (by first | assumption | exact ROs.wide (by assumption) | exact ROs.mono (by assumption) (eqh_at 0 rfl p d) | exact ros_at 0 rfl p d | exact ros_at 1 rfl p d | exact ros_at 2 rfl p d | exact ros_at 3 rfl p d | exact ros_at 4 rfl p d) (by assumption) (by assumption) (by first | assumption | omega)) (fun u4 => ?_)
        refine WL.fact (i := 0) rfl (fun h hb => hb.sl (by assumption) (by omega)) (fun hsl4 => ?_)
        refine WL.nilH hσ0 (fun σ1 hσ1 dσ1 mσ1 => ?_)
        have fσ0_0 := fσ0_0.mono mσ1
        have fσ0_1 := fσ0_1.mono mσ1
        have fσ0_2 := fσ0_2.mono mσ1
        have fσ0_3 := fσ0_3.mono mσ1
        have fσ0_4 := fσ0_4.mono mσ1
        have fσ1_0 := ros_at 0 rfl hσ1 dσ1
        refine WD.lastG hσ1 (by decide +kernel) (by repeat' constructor) rfl (by repeat' constructor) ?_
        refine WL.ix (T := Ty) rfl rfl rfl (by assumption) rfl rfl (by omega) (by first | omega | decide +kernel) ?_
        refine WL.faEN (T := Ty) (off' := 4) rfl rfl rfl rfl rfl rfl rfl ?_
        refine WL.stEF (T := Ty) (j := 3) rfl rfl rfl rfl (SL.one (by assumption)) rfl (by first | assumption | omega | (simp; omega)) rfl (by repeat' constructor) ?_
        refine WL.nil ?_
        rw [hset]
        refine W.fit (by (repeat' first | exact Sel.nil | refine Sel.cons 0 rfl ?_ | refine Sel.cons 1 rfl ?_ | refine Sel.cons 2 rfl ?_ | refine Sel.cons 3 rfl ?_ | refine Sel.cons 4 rfl ?_ | refine Sel.cons 5 rfl ?_ | refine Sel.cons 6 rfl ?_ | refine Sel.cons 7 rfl ?_ | refine Sel.cons 8 rfl ?_)) (W.sub ?_ (cut _ trivial))
        exact ⟨rfl, rfl, rfl, rfl, trivial⟩
    · have hkk : k = L.length := by omega
      refine W.seq (W.region (WL.lss rfl rfl rfl (WL.nil (W.seq (W.condpF rfl (by omega) (W.exit rfl (W.seq (W.seq (W.region (WL.faN (T := Ty) (off' := 1) rfl rfl rfl rfl rfl rfl rfl (WL.ldN (T := Ty) (j := 1) rfl rfl rfl rfl rfl rfl ?_)))))))))))
      refine WL.len (T := Ty) rfl rfl (by assumption) rfl ?_
      refine WL.mv rfl rfl (WL.nil (W.block (W.own0 owItr ?_)))
      refine W.loopS (σ := Nat × List (Itr × Value)) (fun s => [(37, .int .i64 (s.1 : Int)), (36, .int .i64 (K.length : Int)), (2, pt b1 0), (3, pt b3 0)])
        (fun s => [Own owItr (s.2.take s.1), Own owSer (L1.take k), box b3 [sv', iv', .int .i64 m.next] 31, Buf 5 sv' (L1.flatMap serC), Buf 2 iv' (s.2.flatMap itrC), box b1 [nilV, nilV, .int .i64 0] 31])
        (fun s => s.1 ≤ K.length ∧ s.2.map Prod.fst = m.its ∧ s.2.drop s.1 = K.drop s.1 ∧ s.2.length = K.length) (fun s => K.length - s.1) (0, K) ⟨rfl, rfl, rfl, rfl, trivial⟩ rfl ⟨Nat.zero_le _, e2, rfl, rfl⟩ ?_
      rintro ⟨j, K1⟩ ⟨hj, e6, e7, e8⟩ next
      simp only [] at hj e6 e7 e8 next ⊢
      have l4 := itr_cells K1
      by_cases hc : j < K.length
      · obtain ⟨p, hp⟩ : ∃ p, K1[j]? = some p := ⟨_, List.getElem?_eq_getElem (by omega)⟩
        have hp' : K[j]? = some p := by rw [← drop_get e7]; exact hp
        have hg : (K1.flatMap itrC)[((j : Nat) : Int).toNat * 2 + 1]? = some p.2 := flat_get itr_len hp rfl
        have hr : ROs ρ 2 p.2 (p.1.rest.flatMap smC) := r4 p (List.mem_of_getElem? hp')
        have hll := sms_cells p.1.rest
        have hlb := h4 p.1 (List.mem_of_getElem? (map_fst_get e2 hp'))
        have hone := sm_one p.1.rest
        refine W.seq (W.region (WL.lss rfl rfl rfl (WL.nil (W.seq (W.condpT rfl (by omega) (W.skip (W.seq (W.block (W.seq (W.region (WL.mv rfl rfl (WL.as rfl rfl (WL.nil ?_)))))))))))))
        refine W.cut (τ := Value) (fun u => [(37, .int .i64 (j : Int)), (36, .int .i64 (K.length : Int)), (2, pt b1 0), (3, pt b3 0)])
          (fun u => [Buf 2 u (p.1.rest.flatMap smC), Own owItr (K1.take j), Own owSer (L1.take k), box b3 [sv', iv', .int .i64 m.next] 31, Buf 5 sv' (L1.flatMap serC), Buf 2 iv' ((K1.set j (p.1, u)).flatMap itrC), box b1 [nilV, nilV, .int .i64 0] 31]) (fun _ => True) ?_ (fun cut => ?_)
        · intro u _
          refine W.inBlock (W.region (WL.addK rfl rfl rfl (wrap_i64 ⟨by omega, by omega⟩) (WL.mv rfl rfl (WL.nil ?_))))
          refine W.two (r := Own owItr ((K1.set j (p.1, u)).take (j + 1))) _ _ rfl (fun h q => by rw [take_set_succ (p.1, u) (by omega)]; exact own_snoc (f := owItr) (a := (p.1, u)) q) ?_
          refine W.sub ?_ (next ⟨j + 1, K1.set j (p.1, u)⟩ ⟨by omega, map_fst_set e6 hp u, drop_succ e7 _, by simpa using e8⟩ (by simp only []; omega))
          exact ⟨rfl, rfl, rfl, rfl, trivial⟩
        · have hset : ∀ u, (K1.flatMap itrC).set (((j : Nat) : Int).toNat * 2 + 1) u = (K1.set j (p.1, u)).flatMap itrC := fun u => flat_set itr_len hp (by omega) rfl
          refine W.drawA 10 rfl (fun σ0 hσ0 dσ0 => ?_)
          have fσ0_0 := in_at 0 rfl hσ0 dσ0
          have fσ0_1 := in_at 1 rfl hσ0 dσ0
          have fσ0_2 := rb_at 2 rfl hσ0 dσ0
          have fσ0_3 := ros_at 3 rfl hσ0 dσ0
          have fσ0_4 := ros_at 4 rfl hσ0 dσ0
          have fσ0_5 := rb_at 5 rfl hσ0 dσ0
          refine WD.takeL 0 rfl (by decide +kernel) (WL.faN (T := Ty) (off' := 1) rfl rfl rfl rfl rfl rfl rfl (WL.nilT (WD.takeL 1 rfl (by decide +kernel) ?_)))
          refine WL.ldBN (T := Ty) rfl rfl rfl rfl (by first | assumption | exact RB.wide (by assumption) | exact In.rb (by assumption)) rfl ?_
          refine WL.nilT (WD.takeL 2 rfl (by decide +kernel) (WL.mv rfl rfl (WL.nilT (WD.takeL 3 rfl (by decide +kernel) (WL.faN (T := Ty) (off' := 1) rfl rfl rfl rfl rfl rfl rfl (WL.nilT (WD.takeL 4 rfl (by decide +kernel) ?_)))))))
          refine WL.ldBN (T := Ty) rfl rfl rfl rfl (by first | assumption | exact RB.wide (by assumption) | exact In.rb (by assumption)) rfl ?_
          refine WL.nilT (WD.takeL 5 rfl (by decide +kernel) (WL.mv rfl rfl (WL.nilT (WD.takeL 6 rfl (by decide +kernel) ?_))))
          refine WL.ix (T := Ty) rfl rfl rfl (by assumption) rfl rfl (by omega) (by first | omega | decide +kernel) ?_
          refine WL.nilT (WD.takeL 7 rfl (by decide +kernel) (WL.faEN (T := Ty) (off' := 1) rfl rfl rfl rfl rfl rfl rfl (WL.nilT (WD.takeL 8 rfl (by decide +kernel) ?_))))
          refine WL.ldR (T := Ty) rfl rfl rfl rfl (by first | assumption | exact ROs.wide (by assumption)) (by assumption) ?_
          refine WL.nilT (WD.oneL 9 rfl (by decide +kernel) ?_)
          refine WL.callF rfl rfl (fun x p d => cloneM_c _ _ _ _ (by first | assumption | exact ROs.wide (by assumption) | exact ROs.mono (by assumption) (eqh_at 0 rfl p d) | exact ros_at 0 rfl p d | exact ros_at 1 rfl p d | exact ros_at 2 rfl p d | exact ros_at 3 rfl p d | exact ros_at 4 rfl p d) (by assumption) (by assumption) (by first | assumption | omega)) (fun u4 => ?_)
          refine WL.fact (i := 0) rfl (fun h hb => hb.sl (by assumption) (by omega)) (fun hsl4 => ?_)
          refine WL.nilH hσ0 (fun σ1 hσ1 dσ1 mσ1 => ?_)
          have fσ0_0 := fσ0_0.mono mσ1
          have fσ0_1 := fσ0_1.mono mσ1
          have fσ0_2 := fσ0_2.mono mσ1
          have fσ0_3 := fσ0_3.mono mσ1
          have fσ0_4 := fσ0_4.mono mσ1
          have fσ0_5 := fσ0_5.mono mσ1
          have fσ1_0 := ros_at 0 rfl hσ1 dσ1
          refine WD.lastG hσ1 (by decide +kernel) (by repeat' constructor) rfl (by repeat' constructor) ?_
          refine WL.ix (T := Ty) rfl rfl rfl (by assumption) rfl rfl (by omega) (by first | omega | decide +kernel) ?_
          refine WL.faEN (T := Ty) (off' := 1) rfl rfl rfl rfl rfl rfl rfl ?_
          refine WL.stEF (T := Ty) (j := 5) rfl rfl rfl rfl (SL.one (by assumption)) rfl (by first | assumption | omega | (simp; omega)) rfl (by repeat' constructor) ?_
          refine WL.nil ?_
          rw [hset]
          refine W.fit (by (repeat' first | exact Sel.nil | refine Sel.cons 0 rfl ?_ | refine Sel.cons 1 rfl ?_ | refine Sel.cons 2 rfl ?_ | refine Sel.cons 3 rfl ?_ | refine Sel.cons 4 rfl ?_ | refine Sel.cons 5 rfl ?_ | refine Sel.cons 6 rfl ?_ | refine Sel.cons 7 rfl ?_ | refine Sel.cons 8 rfl ?_)) (W.sub ?_ (cut _ trivial))
          exact ⟨rfl, rfl, rfl, rfl, trivial⟩
      · have hjj : j = K.length := by omega
        rw [show L1.take k = L1 from List.take_of_length_le (by omega), show K1.take j = K1 from List.take_of_length_le (by omega)]
        refine W.seq (W.region (WL.lss rfl rfl rfl (WL.nil (W.seq (W.condpF rfl (by omega) (W.exit rfl (W.seq (W.region ?_))))))))
        refine WL.ldAF (T := Ty) (j := 2) rfl rfl rfl rfl rfl rfl (by repeat' constructor) ?_
        refine WL.stAO (T := Ty) (j := 5) rfl rfl rfl rfl (by repeat' first | exact AO.nil | apply AO.cons (by first | rfl | exact SL.one (by assumption))) rfl rfl (by repeat' constructor) (by repeat' constructor) ?_
        refine WL.nil ?_
        exact W.fit (Hs' := [box b1 [sv', iv', .int .i64 m.next] 31, Buf 5 sv' (L1.flatMap serC), Buf 2 iv' (K1.flatMap itrC), Own owSer L1, Own owItr K1]) (by (repeat' first | exact Sel.nil | refine Sel.cons 0 rfl ?_ | refine Sel.cons 1 rfl ?_ | refine Sel.cons 2 rfl ?_ | refine Sel.cons 3 rfl ?_ | refine Sel.cons 4 rfl ?_ | refine Sel.cons 5 rfl ?_ | refine Sel.cons 6 rfl ?_ | refine Sel.cons 7 rfl ?_ | refine Sel.cons 8 rfl ?_)) (W.retC (T := Ty) (j := 0) rfl rfl rfl rfl rfl rfl (fun h q => ⟨sv', iv', L1, K1, rfl, e3, e6, q⟩))
  · refine W.drawA 10 rfl (fun σ0 hσ0 dσ0 => ?_)
    have fσ0_0 := rb_at 0 rfl hσ0 dσ0
    have fσ0_1 := rb_at 1 rfl hσ0 dσ0
    refine WD.takeL 0 rfl (by decide +kernel) (WL.faN (T := Ty) (off' := 0) rfl rfl rfl rfl rfl rfl rfl (WL.nilT (WD.takeL 1 rfl (by decide +kernel) ?_)))
    refine WL.ldBN (T := Ty) rfl rfl rfl rfl (by first | assumption | exact RB.wide (by assumption) | exact In.rb (by assumption)) rfl ?_
    refine WL.nilT (WD.takeL 3 rfl (by decide +kernel) (WL.faN (T := Ty) (off' := 1) rfl rfl rfl rfl rfl rfl rfl (WL.nilT (WD.takeL 4 rfl (by decide +kernel) ?_))))
    refine WL.ldBN (T := Ty) rfl rfl rfl rfl (by first | assumption | exact RB.wide (by assumption) | exact In.rb (by assumption)) rfl ?_
    refine WL.nilT (WD.takeL 6 rfl (by decide +kernel) (WL.faN (T := Ty) (off' := 2) rfl rfl rfl rfl rfl rfl rfl (WL.nilT (WD.takeL 7 rfl (by decide +kernel) ?_))))
    refine WL.ldBN (T := Ty) rfl rfl rfl rfl (by first | assumption | exact RB.wide (by assumption) | exact In.rb (by assumption)) rfl ?_
    refine WL.nilT ?_
    refine WD.twoL 2 9 rfl rfl (by decide +kernel) ?_ ?_
    · refine WL.callF rfl rfl (fun x p d => cloneQ_c _ _ _ _ (by first | assumption | exact ROs.wide (by assumption) | exact ROs.mono (by assumption) (eqh_at 0 rfl p d) | exact ros_at 0 rfl p d | exact ros_at 1 rfl p d | exact ros_at 2 rfl p d | exact ros_at 3 rfl p d | exact ros_at 4 rfl p d) (by assumption) (by assumption) (by first | assumption | omega)) (fun u2 => ?_)
      refine WL.fact (i := 0) rfl (fun h hb => hb.sl (by assumption) (by omega)) (fun hsl2 => ?_)
      refine WL.nilH hσ0 (fun σ1 hσ1 dσ1 mσ1 => ?_)
      have fσ0_0 := fσ0_0.mono mσ1
      have fσ0_1 := fσ0_1.mono mσ1
      have fσ1_0 := ros_at 0 rfl hσ1 dσ1
      refine WD.twoL 5 9 rfl rfl (by decide +kernel) ?_ ?_
      · refine WL.callF rfl rfl (fun x p d => cloneI_c _ _ _ _ (by first | assumption | exact ROs.wide (by assumption) | exact ROs.mono (by assumption) (eqh_at 0 rfl p d) | exact ros_at 0 rfl p d | exact ros_at 1 rfl p d | exact ros_at 2 rfl p d | exact ros_at 3 rfl p d | exact ros_at 4 rfl p d) (by assumption) (by assumption) (by first | assumption | omega)) (fun u3 => ?_)
        refine WL.fact (i := 0) rfl (fun h hb => hb.sl (by assumption) (by omega)) (fun hsl3 => ?_)
        refine WL.nilH hσ1 (fun σ2 hσ2 dσ2 mσ2 => ?_)
        have fσ0_0 := fσ0_0.mono mσ2
        have fσ0_1 := fσ0_1.mono mσ2
        have fσ1_0 := fσ1_0.mono mσ2
        have fσ2_0 := ros_at 0 rfl hσ2 dσ2
        refine WD.takeL 8 rfl (by decide +kernel) ?_
        refine WL.bdC (T := Ty) rfl rfl rfl rfl (by repeat' first | exact CO.nil | apply CO.one (by first | rfl | exact SL.one (by assumption)) | apply CO.agg) rfl (by repeat' constructor) ?_
        refine WL.nilT (WD.oneL 9 rfl (by decide +kernel) ?_)
        refine WL.alF (T := Ty) rfl rfl (by repeat' constructor) (fun b4 => ?_)
        refine WL.nilH hσ2 (fun σ3 hσ3 dσ3 mσ3 => ?_)
        have fσ0_0 := fσ0_0.mono mσ3
        have fσ0_1 := fσ0_1.mono mσ3
        have fσ1_0 := fσ1_0.mono mσ3
        have fσ2_0 := fσ2_0.mono mσ3
        have fσ3_0 := rb_at 0 rfl hσ3 dσ3
        refine WD.lastG hσ3 (by decide +kernel) (by repeat' constructor) rfl (by repeat' constructor) ?_
        refine WL.stAO (T := Ty) (j := 0) rfl rfl rfl rfl (by repeat' first | exact AO.nil | apply AO.cons (by first | rfl | exact SL.one (by assumption))) rfl rfl (by repeat' constructor) (by repeat' constructor) ?_
        refine WL.nil ?_
        refine W.fit (by (repeat' first | exact Sel.nil | refine Sel.cons 0 rfl ?_ | refine Sel.cons 1 rfl ?_ | refine Sel.cons 2 rfl ?_ | refine Sel.cons 3 rfl ?_ | refine Sel.cons 4 rfl ?_ | refine Sel.cons 5 rfl ?_ | refine Sel.cons 6 rfl ?_ | refine Sel.cons 7 rfl ?_ | refine Sel.cons 8 rfl ?_)) (W.sub ?_ (cut ⟨_, _, _⟩ ⟨by assumption, by assumption⟩))
        exact ⟨rfl, rfl, trivial⟩
      · refine WL.alF (T := Ty) rfl rfl (by repeat' constructor) (fun b3 => ?_)
        refine WL.nilH hσ1 (fun σ2 hσ2 dσ2 mσ2 => ?_)
        have fσ0_0 := fσ0_0.mono mσ2
        have fσ0_1 := fσ0_1.mono mσ2
        have fσ1_0 := fσ1_0.mono mσ2
        have fσ2_0 := rb_at 0 rfl hσ2 dσ2
        refine WD.oneL 5 rfl (by decide +kernel) ?_
        refine WL.callF rfl rfl (fun x p d => cloneI_c _ _ _ _ (by first | assumption | exact ROs.wide (by assumption) | exact ROs.mono (by assumption) (eqh_at 0 rfl p d) | exact ros_at 0 rfl p d | exact ros_at 1 rfl p d | exact ros_at 2 rfl p d | exact ros_at 3 rfl p d | exact ros_at 4 rfl p d) (by assumption) (by assumption) (by first | assumption | omega)) (fun u4 => ?_)
        refine WL.fact (i := 0) rfl (fun h hb => hb.sl (by assumption) (by omega)) (fun hsl4 => ?_)
        refine WL.nilH hσ2 (fun σ3 hσ3 dσ3 mσ3 => ?_)
        have fσ0_0 := fσ0_0.mono mσ3
        have fσ0_1 := fσ0_1.mono mσ3
        have fσ1_0 := fσ1_0.mono mσ3
        have fσ2_0 := fσ2_0.mono mσ3
        have fσ3_0 := ros_at 0 rfl hσ3 dσ3
        refine WD.takeL 8 rfl (by decide +kernel) ?_
        refine WL.bdC (T := Ty) rfl rfl rfl rfl (by repeat' first | exact CO.nil | apply CO.one (by first | rfl | exact SL.one (by assumption)) | apply CO.agg) rfl (by repeat' constructor) ?_
        refine WL.nilT ?_
        refine WD.lastG hσ3 (by decide +kernel) (by repeat' constructor) rfl (by repeat' constructor) ?_
        refine WL.stAO (T := Ty) (j := 1) rfl rfl rfl rfl (by repeat' first | exact AO.nil | apply AO.cons (by first | rfl | exact SL.one (by assumption))) rfl rfl (by repeat' constructor) (by repeat' constructor) ?_
        refine WL.nil ?_
        refine W.fit (by (repeat' first | exact Sel.nil | refine Sel.cons 0 rfl ?_ | refine Sel.cons 1 rfl ?_ | refine Sel.cons 2 rfl ?_ | refine Sel.cons 3 rfl ?_ | refine Sel.cons 4 rfl ?_ | refine Sel.cons 5 rfl ?_ | refine Sel.cons 6 rfl ?_ | refine Sel.cons 7 rfl ?_ | refine Sel.cons 8 rfl ?_)) (W.sub ?_ (cut ⟨_, _, _⟩ ⟨by assumption, by assumption⟩))
        exact ⟨rfl, rfl, trivial⟩
    · refine WL.alF (T := Ty) rfl rfl (by repeat' constructor) (fun b2 => ?_)
      refine WL.nilH hσ0 (fun σ1 hσ1 dσ1 mσ1 => ?_)
      have fσ0_0 := fσ0_0.mono mσ1
      have fσ0_1 := fσ0_1.mono mσ1
      have fσ1_0 := rb_at 0 rfl hσ1 dσ1
      refine WD.oneL 2 rfl (by decide +kernel) ?_
      refine WL.callF rfl rfl (fun x p d => cloneQ_c _ _ _ _ (by first | assumption | exact ROs.wide (by assumption) | exact ROs.mono (by assumption) (eqh_at 0 rfl p d) | exact ros_at 0 rfl p d | exact ros_at 1 rfl p d | exact ros_at 2 rfl p d | exact ros_at 3 rfl p d | exact ros_at 4 rfl p d) (by assumption) (by assumption) (by first | assumption | omega)) (fun u3 => ?_)
      refine WL.fact (i := 0) rfl (fun h hb => hb.sl (by assumption) (by omega)) (fun hsl3 => ?_)
      refine WL.nilH hσ1 (fun σ2 hσ2 dσ2 mσ2 => ?_)
      have fσ0_0 := fσ0_0.mono mσ2
      have fσ0_1 := fσ0_1.mono mσ2
      have fσ1_0 := fσ1_0.mono mσ2
      have fσ2_0 := ros_at 0 rfl hσ2 dσ2
      refine WD.oneL 5 rfl (by decide +kernel) ?_
      refine WL.callF rfl rfl (fun x p d => cloneI_c _ _ _ _ (by first | assumption | exact ROs.wide (by assumption) | exact ROs.mono (by assumption) (eqh_at 0 rfl p d) | exact ros_at 0 rfl p d | exact ros_at 1 rfl p d | exact ros_at 2 rfl p d | exact ros_at 3 rfl p d | exact ros_at 4 rfl p d) (by assumption) (by assumption) (by first | assumption | omega)) (fun u4 => ?_)
      refine WL.fact (i := 0) rfl (fun h hb => hb.sl (by assumption) (by omega)) (fun hsl4 => ?_)
      refine WL.nilH hσ2 (fun σ3 hσ3 dσ3 mσ3 => ?_)
      have fσ0_0 := fσ0_0.mono mσ3
      have fσ0_1 := fσ0_1.mono mσ3
      have fσ1_0 := fσ1_0.mono mσ3
      have fσ2_0 := fσ2_0.mono mσ3
      have fσ3_0 := ros_at 0 rfl hσ3 dσ3
      refine WD.takeL 8 rfl (by decide +kernel) ?_
      refine WL.bdC (T := Ty) rfl rfl rfl rfl (by repeat' first | exact CO.nil | apply CO.one (by first | rfl | exact SL.one (by assumption)) | apply CO.agg) rfl (by repeat' constructor) ?_
      refine WL.nilT ?_
      refine WD.lastG hσ3 (by decide +kernel) (by repeat' constructor) rfl (by repeat' constructor) ?_
      refine WL.stAO (T := Ty) (j := 2) rfl rfl rfl rfl (by repeat' first | exact AO.nil | apply AO.cons (by first | rfl | exact SL.one (by assumption))) rfl rfl (by repeat' constructor) (by repeat' constructor) ?_
      refine WL.nil ?_
      refine W.fit (by (repeat' first | exact Sel.nil | refine Sel.cons 0 rfl ?_ | refine Sel.cons 1 rfl ?_ | refine Sel.cons 2 rfl ?_ | refine Sel.cons 3 rfl ?_ | refine Sel.cons 4 rfl ?_ | refine Sel.cons 5 rfl ?_ | refine Sel.cons 6 rfl ?_ | refine Sel.cons 7 rfl ?_ | refine Sel.cons 8 rfl ?_)) (W.sub ?_ (cut ⟨_, _, _⟩ ⟨by assumption, by assumption⟩))
      exact ⟨rfl, rfl, trivial⟩
end Go.Proofs.Ytbebhmdjnneimaa
