/- Values by what turns: what the code of package xorv reads, row by row. -/
import Derived.Test.YtjibmfkhhljhcaaDoorStc
import Derived.Test.YtjibmfkhhljhcaaDoorNum
import Derived.Test.YtjibmfkhhljhcaaDoorTab
import Derived.Test.YtjibmfkhhljhcaaDoorXorvD
set_option linter.unusedSimpArgs false
set_option linter.unusedVariables false
set_option maxRecDepth 20000
set_option maxHeartbeats 4000000
namespace Go.Proofs.YtjibmfkhhljhcaaDoor
open Go
attribute [local irreducible] W WL Fn Buf ROs SL eptr box Rd Src bndOK WD RB Reads In encX decX encG decXF

/-- values that there may be, and where the reader stands -/
def RowX (bs : List Nat) (mk : RdSt → HP) (o : Option (List Nat × RdSt)) : Value → HP := fun r h => ∃ v, r = .tuple #[v, .bool o.isSome] ∧ ∃ s' : RdSt, ((∀ x, o = some x → s' = x.2) ∧ s'.at' ≤ 8 * bs.length) ∧ sepl [Buf 1 v ((o.elim [] (·.1)).map ucell), mk s'] h
theorem rowXnone {bs : List Nat} {mk : RdSt → HP} {o : Option (List Nat × RdSt)} (e : o = none) {s' : RdSt} (hs : s'.at' ≤ 8 * bs.length) {h : Hp} (p : sepl [Buf 1 (.slice none 0 0) [], mk s'] h) : RowX bs mk o (.tuple #[.slice none 0 0, .bool false]) h := by
  subst e; exact ⟨_, rfl, s', ⟨fun x hx => (by cases hx), hs⟩, p⟩
theorem rowXsome {bs : List Nat} {mk : RdSt → HP} {o : Option (List Nat × RdSt)} {l : List Nat} {s' : RdSt} {v : Value} (e : o = some (l, s')) (hs : s'.at' ≤ 8 * bs.length) {h : Hp} (p : sepl [Buf 1 v (l.map ucell), mk s'] h) : RowX bs mk o (.tuple #[v, .bool true]) h := by
  subst e; exact ⟨_, rfl, s', ⟨fun x hx => (by cases hx; rfl), hs⟩, p⟩
theorem decX_zero {bs : List Nat} {s : RdSt} {n : Int} (h : heldM n = 0) : decX bs s n = if s.bad = true then none else some ([], s) := by unfold decX; rw [h]
theorem decX_succ {bs : List Nat} {s : RdSt} {n : Int} {k : Nat} (h : heldM n = k + 1) : decX bs s n = if (getF bs s 64).2.bad = true then none else decXF bs k (getF bs s 64).1 ⟨false, 0, 0⟩ [(getF bs s 64).1] (getF bs s 64).2 := by unfold decX; rw [h]
theorem decXF_succ (bs : List Nat) (k was : Nat) (w : Win) (out : List Nat) (s : RdSt) : decXF bs (k + 1) was w out s = if (turnX bs w s).2.1 = false ∨ (turnX bs w s).2.2.2.bad = true then none
    else decXF bs k (was ^^^ (turnX bs w s).1) (turnX bs w s).2.2.1 (out ++ [was ^^^ (turnX bs w s).1]) (turnX bs w s).2.2.2 := by rw [decXF]
theorem decXF_zero (bs : List Nat) (was : Nat) (w : Win) (out : List Nat) (s : RdSt) : decXF bs 0 was w out s = some (out, s) := by rw [decXF]
theorem turn_ok {bs : List Nat} {w w' : Win} {s s' : RdSt} {x : Nat} {ok : Bool} (h : turnX bs w s = (x, ok, w', s')) (hs : s.at' ≤ 8 * bs.length) (hw : WinOK w) : s'.at' ≤ 8 * bs.length ∧ x < 18446744073709551616 ∧ WinOK w' := by
  unfold turnX at h
  have a1 := getF_at bs s 1 hs
  have a2 := getF_at bs (getF bs s 1).2 1 a1
  split at h
  · have e1 := congrArg Prod.fst h
    have e2 := congrArg (fun z => z.2.2.1) h
    have e3 := congrArg (fun z => z.2.2.2) h
    simp only [] at e1 e2 e3
    subst e1 e2 e3
    exact ⟨a1, by decide, hw⟩
  · split at h
    · have e1 := congrArg Prod.fst h
      have e2 := congrArg (fun z => z.2.2.1) h
      have e3 := congrArg (fun z => z.2.2.2) h
      simp only [] at e1 e2 e3
      subst e1 e2 e3
      exact ⟨getF_at _ _ _ a2, Nat.mod_lt _ (by decide), hw⟩
    · simp only [] at h
      have a3 := getF_at bs _ 5 a2
      have b3 := getF_lt5 bs (getF bs (getF bs s 1).2 1).2
      have a4 := getF_at bs _ 6 a3
      split at h
      · have e1 := congrArg Prod.fst h
        have e2 := congrArg (fun z => z.2.2.1) h
        have e3 := congrArg (fun z => z.2.2.2) h
        simp only [] at e1 e2 e3
        subst e1 e2 e3
        exact ⟨a4, by decide, hw⟩
      · rename_i hc
        split at h
        · have e1 := congrArg Prod.fst h
          have e2 := congrArg (fun z => z.2.2.1) h
          have e3 := congrArg (fun z => z.2.2.2) h
          simp only [] at e1 e2 e3
          subst e1 e2 e3
          exact ⟨getF_at _ _ _ a4, by decide, hw⟩
        · have e1 := congrArg Prod.fst h
          have e2 := congrArg (fun z => z.2.2.1) h
          have e3 := congrArg (fun z => z.2.2.2) h
          simp only [] at e1 e2 e3
          subst e1 e2 e3
          refine ⟨getF_at _ _ _ a4, Nat.mod_lt _ (by decide), ?_, ?_⟩
          · simp only []; omega
          · simp only []; omega
-- MUT 15 Re
theorem xdec_c (ρ : Hp) (b : Nat) (bs : List Nat) (s : RdSt) (n : Int) (hs : s.at' ≤ 8 * bs.length) (hl : bs.length ≤ 140737488355328) (hw : ∀ x ∈ bs, x < 256) (hT : TabG ρ) :
    Fn Tryd.prog 15 #[ptr b, .int .i64 n] ρ [Re b bs s] (RowX bs (Re b bs) (decX bs s n)) := by
  refine in15 rfl rfl ?_
  have hm := heldM_eq n
  have hml := heldM_le n
  obtain ⟨m, hm'⟩ : ∃ m, m = heldM n := ⟨_, rfl⟩
  rw [← hm'] at hm hml
  refine W.seq ?_
  refine W.region ?_
  refine WL.as rfl rfl ?_
  refine WL.as rfl rfl ?_
  refine WL.nil ?_
  refine W.seq ?_
  refine W.region ?_
  refine WL.mv rfl rfl ?_
  refine WL.mx rfl rfl rfl ?_
  refine WL.mn rfl rfl rfl ?_
  refine WL.as rfl rfl ?_
  refine WL.nil ?_
  refine W.seq ?_
  refine W.region ?_
  refine WL.as rfl rfl ?_
  refine WL.nil ?_
  refine W.seq ?_
  refine W.region ?_
  refine WL.alF (T := Ty) rfl rfl (by repeat' first | exact FL.nil | apply FL.cons) (fun b0 => ?_)
  refine WL.nil ?_
  refine W.seq ?_
  refine W.region ?_
  refine WL.as rfl rfl ?_
  refine WL.nil ?_
  refine W.seq ?_
  refine W.seq ?_
  refine W.region ?_
  refine WL.mv rfl rfl ?_
  refine WL.mv rfl rfl ?_
  refine WL.nil ?_
  refine W.block ?_
  refine W.nb (sz := 1) ?_
  refine W.loopS (σ := Nat × Nat × Win × List Nat × Value × RdSt) (fun q => [(0, ptr b), (6, q.2.2.2.2.1), (7, ptr b0), (8, .int .u64 (q.2.1 : Int)), (15, .int .i64 (min (max n 0) 65535)), (16, .int .i64 (q.1 : Int))]) (fun q => [Buf 1 q.2.2.2.2.1 (q.2.2.2.1.map ucell), box b0 (winC q.2.2.1) 56, Re b bs q.2.2.2.2.2])
    (fun q => q.1 ≤ m ∧ q.2.2.2.2.2.at' ≤ 8 * bs.length ∧ q.2.2.2.1.length = q.1 ∧ q.2.1 < 18446744073709551616 ∧ WinOK q.2.2.1 ∧ (q.1 = 0 → q.2.2.2.2.2 = s ∧ q.2.2.1 = ⟨false, 0, 0⟩) ∧ (q.1 ≠ 0 → decXF bs (m - q.1) q.2.1 q.2.2.1 q.2.2.2.1 q.2.2.2.2.2 = decX bs s n ∧ q.2.2.2.2.2.bad = false)) (fun q => m - q.1) (0, 0, ⟨false, 0, 0⟩, [], .slice none 0 0, s) ⟨rfl, rfl, rfl, rfl, rfl, rfl, trivial⟩ rfl ⟨Nat.zero_le _, hs, rfl, by simp, winOK0, fun _ => ⟨rfl, rfl⟩, fun h => absurd rfl h⟩ ?_
  rintro ⟨i, was, w, out, ov, q⟩ ⟨h1, h2, h3, h6, h7, h4, h5⟩ next
  simp only [] at h1 h2 h3 h4 h5 h6 h7 next ⊢
  refine W.fact (i := 0) rfl (fun h hb => Buf.slm hb) (fun hso => ?_)
  refine W.seq ?_
  refine W.region ?_
  refine WL.lss rfl rfl rfl ?_
  refine WL.nil ?_
  refine W.seq ?_
  refine W.condp rfl (fun hlt => ?_) (fun hge => ?_)
  · by_cases hi0 : i = 0
    · obtain ⟨hq, hwin⟩ := h4 hi0
      have ho : out = [] := List.eq_nil_of_length_eq_zero (by omega)
      subst hi0
      subst hq
      subst hwin
      subst ho
      obtain ⟨k, hk⟩ : ∃ k, heldM n = k + 1 := ⟨m - 1, by omega⟩
      have hd := decX_succ (bs := bs) (s := q) hk
      obtain ⟨g, ⟨ga, gb⟩, hg⟩ : ∃ g q', getF bs q 64 = (g, q') := ⟨_, _, rfl⟩
      have hat := getF_at bs q 64 h2
      have hglt := getF_ltN bs q 64
      rw [hg] at hat hd hglt
      simp only [] at hat hd hglt
      have hg64 : g < 18446744073709551616 := hglt
      cases gb with
      | true =>
        rw [if_pos rfl] at hd
        refine W.skip ?_
        refine W.seq ?_
        refine W.block ?_
        refine W.seq ?_
        refine W.region ?_
        refine WL.mv rfl rfl ?_
        refine WL.as rfl rfl ?_
        refine WL.nil ?_
        refine W.seq ?_
        refine W.seq ?_
        refine W.region ?_
        refine WL.mv rfl rfl ?_
        refine WL.eql rfl rfl rfl ?_
        refine WL.nil ?_
        refine W.condT rfl ?_
        refine W.region ?_
        refine WL.mv rfl rfl ?_
        refine WL.callM 2 rfl rfl rfl (fun x p d => get_e _ _ _ _ _ (by assumption) (by first | exact Nat.zero_le _ | assumption | (simp only [pack_len]; omega) | (exact getF_at _ _ _ (by first | exact Nat.zero_le _ | assumption | exact getF_at _ _ _ (by first | exact Nat.zero_le _ | assumption)))) (by first | assumption | omega | (simp only [pack_len, List.length_append, bitsOf_len, List.length_nil, heldF]; omega)) (by first | assumption | exact pack_lt _ (by repeat' first | assumption | exact bok_nil | exact bitsOf_bit _ _ | apply bok_app))) (by repeat' first | exact FL.nil | apply FL.cons) ?_
        refine WL.as rfl rfl ?_
        refine WL.nil ?_
        refine W.seq ?_
        refine W.seq ?_
        refine W.region ?_
        refine WL.mv rfl rfl ?_
        refine WL.callV rfl rfl (fun x p d => ok_c _ _ _ _ (by first | assumption | exact In.wide (by assumption) | exact In.mono (by assumption) (eqh_at 0 rfl p d) | exact in_at 0 rfl p d | exact in_at 1 rfl p d | exact in_at 2 rfl p d | exact in_at 3 rfl p d | exact in_at 4 rfl p d)) ?_
        refine WL.not rfl rfl ?_
        refine WL.nil ?_
        refine W.condT rfl ?_
        refine W.seq ?_
        refine W.region ?_
        refine WL.as rfl rfl ?_
        refine WL.as rfl rfl ?_
        refine WL.nil ?_
        refine W.drop 0 rfl (by repeat' first | exact FL.nil | apply FL.cons) ?_
        refine W.drop 0 rfl (by repeat' first | exact FL.nil | apply FL.cons) ?_
        refine W.nb (sz := 1) ?_
        exact W.ret2 rfl rfl rfl (fun h p => rowXnone hd hat p)
      | false =>
        rw [if_neg (by simp)] at hd
        refine W.skip ?_
        refine W.seq ?_
        refine W.block ?_
        refine W.seq ?_
        refine W.region ?_
        refine WL.mv rfl rfl ?_
        refine WL.as rfl rfl ?_
        refine WL.nil ?_
        refine W.seq ?_
        refine W.seq ?_
        refine W.region ?_
        refine WL.mv rfl rfl ?_
        refine WL.eql rfl rfl rfl ?_
        refine WL.nil ?_
        refine W.condT rfl ?_
        refine W.region ?_
        refine WL.mv rfl rfl ?_
        refine WL.callM 2 rfl rfl rfl (fun x p d => get_e _ _ _ _ _ (by assumption) (by first | exact Nat.zero_le _ | assumption | (simp only [pack_len]; omega) | (exact getF_at _ _ _ (by first | exact Nat.zero_le _ | assumption | exact getF_at _ _ _ (by first | exact Nat.zero_le _ | assumption)))) (by first | assumption | omega | (simp only [pack_len, List.length_append, bitsOf_len, List.length_nil, heldF]; omega)) (by first | assumption | exact pack_lt _ (by repeat' first | assumption | exact bok_nil | exact bitsOf_bit _ _ | apply bok_app))) (by repeat' first | exact FL.nil | apply FL.cons) ?_
        refine WL.as rfl rfl ?_
        refine WL.nil ?_
        refine W.seq ?_
        refine W.seq ?_
        refine W.region ?_
        refine WL.mv rfl rfl ?_
        refine WL.callV rfl rfl (fun x p d => ok_c _ _ _ _ (by first | assumption | exact In.wide (by assumption) | exact In.mono (by assumption) (eqh_at 0 rfl p d) | exact in_at 0 rfl p d | exact in_at 1 rfl p d | exact in_at 2 rfl p d | exact in_at 3 rfl p d | exact in_at 4 rfl p d)) ?_
        refine WL.not rfl rfl ?_
        refine WL.nil ?_
        refine W.condF rfl ?_
        refine W.skip ?_
        refine W.region ?_
        refine WL.mv rfl rfl ?_
        refine WL.mv rfl rfl ?_
        refine WL.bsC (T := Ty) rfl rfl rfl rfl rfl rfl rfl (by repeat' first | exact CO.nil | apply CO.one (by first | rfl | exact SL.one (by assumption)) | apply CO.agg) rfl (by repeat' first | exact FL.nil | apply FL.cons) (fun u1 hu1 => ?_)
        refine WL.apQ (T := Ty) (i := 1) rfl rfl rfl rfl rfl rfl rfl (by first | exact .ro (by assumption) | exact .ro (ROs.wide (by assumption)) | exact .eqJ 0 rfl (by assumption) | exact .own 0 rfl | exact .own 1 rfl | exact .own 2 rfl | exact .own 3 rfl | exact .own 4 rfl | exact .own 5 rfl) (by first | assumption | exact ROs.slm (by assumption)) (fun _ => rfl) (by first | omega | (simp; omega)) (by first | omega | (simp; omega)) (fun v' => (by repeat' first | exact FL.nil | apply FL.cons)) (fun u2 hu2 => ?_)
        refine WL.as rfl rfl ?_
        refine WL.nil ?_
        refine W.inBlock ?_
        refine W.region ?_
        refine WL.addK rfl rfl rfl (wrap_i64 ⟨by omega, by omega⟩) ?_
        refine WL.mv rfl rfl ?_
        refine WL.nil ?_
        refine W.drop 0 rfl (by repeat' first | exact FL.nil | apply FL.cons) ?_
        refine W.sub ?_ (next ⟨1, g, ⟨false, 0, 0⟩, [] ++ [g], u2, ⟨ga, false⟩⟩ ⟨by simp only []; omega, hat, rfl, hg64, winOK0, fun h => absurd (show (1 : Nat) = 0 from h) (by decide), fun _ => ⟨by rw [hd]; show decXF bs (m - 1) _ _ _ _ = _; rw [show m - 1 = k by omega]; rfl, rfl⟩⟩ (by simp only []; omega))
        exact ⟨rfl, rfl, rfl, rfl, rfl, rfl, trivial⟩
    · obtain ⟨hdec, hqb⟩ := h5 hi0
      obtain ⟨x, ok, w', ⟨ga, gb⟩, hg⟩ : ∃ x ok w' q', turnX bs w q = (x, ok, w', q') := ⟨_, _, _, _, rfl⟩
      obtain ⟨hat, hxl, hwo⟩ := turn_ok hg h2 h7
      rw [show m - i = (m - (i + 1)) + 1 by omega, decXF_succ, hg] at hdec
      simp only [] at hat hdec
      have hxx := xor_lt64 h6 hxl
      refine W.skip ?_
      refine W.seq ?_
      refine W.block ?_
      refine W.seq ?_
      refine W.region ?_
      refine WL.mv rfl rfl ?_
      refine WL.as rfl rfl ?_
      refine WL.nil ?_
      refine W.seq ?_
      refine W.seq ?_
      refine W.region ?_
      refine WL.mv rfl rfl ?_
      refine WL.eql rfl rfl rfl ?_
      refine WL.nil ?_
      refine W.condpF rfl (by omega) ?_
      refine W.seq ?_
      refine W.region ?_
      refine WL.mv rfl rfl ?_
      refine WL.call (H1 := [Re b bs q, box b0 (winC w) 56]) (H2 := [Buf 1 ov (out.map ucell)]) rfl rfl (turn_c ρ b b0 bs q w hg h7 h2 hl hw hT) (fun h p => sepl_perm (List.reverse_perm _).symm p) (fun r => ?_)
      refine WL.pure (fun er => ?_)
      subst er
      refine WL.open ?_
      simp only [List.cons_append, List.nil_append]
      cases ok with
      | false =>
        rw [if_pos (by left; rfl)] at hdec
        refine WL.mv rfl rfl ?_
        refine WL.extL rfl rfl rfl ?_
        refine WL.extL rfl rfl rfl ?_
        refine WL.as rfl rfl ?_
        refine WL.as rfl rfl ?_
        refine WL.nil ?_
        refine W.seq ?_
        refine W.seq ?_
        refine W.region ?_
        refine WL.mv rfl rfl ?_
        refine WL.not rfl rfl ?_
        refine WL.nil ?_
        refine W.condT rfl ?_
        refine W.seq ?_
        refine W.region ?_
        refine WL.as rfl rfl ?_
        refine WL.as rfl rfl ?_
        refine WL.nil ?_
        refine W.drop 1 rfl (by repeat' first | exact FL.nil | apply FL.cons) ?_
        refine W.drop 1 rfl (by repeat' first | exact FL.nil | apply FL.cons) ?_
        refine W.nb (sz := 1) ?_
        exact W.ret2 rfl rfl rfl (fun h p => rowXnone hdec.symm hat p)
      | true =>
        cases gb with
        | true =>
          rw [if_pos (by right; rfl)] at hdec
          refine WL.mv rfl rfl ?_
          refine WL.extL rfl rfl rfl ?_
          refine WL.extL rfl rfl rfl ?_
          refine WL.as rfl rfl ?_
          refine WL.as rfl rfl ?_
          refine WL.nil ?_
          refine W.seq ?_
          refine W.seq ?_
          refine W.region ?_
          refine WL.mv rfl rfl ?_
          refine WL.not rfl rfl ?_
          refine WL.nil ?_
          refine W.condF rfl ?_
          refine W.skip ?_
          refine W.region ?_
          refine WL.mv rfl rfl ?_
          refine WL.mv rfl rfl ?_
          refine WL.xor rfl rfl rfl ?_
          refine WL.as rfl rfl ?_
          refine WL.nil ?_
          refine W.seq ?_
          refine W.seq ?_
          refine W.region ?_
          refine WL.mv rfl rfl ?_
          refine WL.callV rfl rfl (fun x p d => ok_c _ _ _ _ (by first | assumption | exact In.wide (by assumption) | exact In.mono (by assumption) (eqh_at 0 rfl p d) | exact in_at 0 rfl p d | exact in_at 1 rfl p d | exact in_at 2 rfl p d | exact in_at 3 rfl p d | exact in_at 4 rfl p d)) ?_
          refine WL.not rfl rfl ?_
          refine WL.nil ?_
          refine W.condT rfl ?_
          refine W.seq ?_
          refine W.region ?_
          refine WL.as rfl rfl ?_
          refine WL.as rfl rfl ?_
          refine WL.nil ?_
          refine W.drop 1 rfl (by repeat' first | exact FL.nil | apply FL.cons) ?_
          refine W.drop 1 rfl (by repeat' first | exact FL.nil | apply FL.cons) ?_
          refine W.nb (sz := 1) ?_
          exact W.ret2 rfl rfl rfl (fun h p => rowXnone hdec.symm hat p)
        | false =>
          rw [if_neg (by simp)] at hdec
          refine WL.mv rfl rfl ?_
          refine WL.extL rfl rfl rfl ?_
          refine WL.extL rfl rfl rfl ?_
          refine WL.as rfl rfl ?_
          refine WL.as rfl rfl ?_
          refine WL.nil ?_
          refine W.seq ?_
          refine W.seq ?_
          refine W.region ?_
          refine WL.mv rfl rfl ?_
          refine WL.not rfl rfl ?_
          refine WL.nil ?_
          refine W.condF rfl ?_
          refine W.skip ?_
          refine W.region ?_
          refine WL.mv rfl rfl ?_
          refine WL.mv rfl rfl ?_
          refine WL.xor rfl rfl rfl ?_
          refine WL.as rfl rfl ?_
          refine WL.nil ?_
          refine W.seq ?_
          refine W.seq ?_
          refine W.region ?_
          refine WL.mv rfl rfl ?_
          refine WL.callV rfl rfl (fun x p d => ok_c _ _ _ _ (by first | assumption | exact In.wide (by assumption) | exact In.mono (by assumption) (eqh_at 0 rfl p d) | exact in_at 0 rfl p d | exact in_at 1 rfl p d | exact in_at 2 rfl p d | exact in_at 3 rfl p d | exact in_at 4 rfl p d)) ?_
          refine WL.not rfl rfl ?_
          refine WL.nil ?_
          refine W.condF rfl ?_
          refine W.skip ?_
          refine W.region ?_
          refine WL.mv rfl rfl ?_
          refine WL.mv rfl rfl ?_
          refine WL.bsC (T := Ty) rfl rfl rfl rfl rfl rfl rfl (by repeat' first | exact CO.nil | apply CO.one (by first | rfl | exact SL.one (by assumption)) | apply CO.agg) rfl (by repeat' first | exact FL.nil | apply FL.cons) (fun u1 hu1 => ?_)
          refine WL.ap1 (T := Ty) (i := 2) rfl rfl rfl rfl rfl rfl rfl rfl (by assumption) (by first | rfl | assumption) (by first | omega | (simp; omega)) (by first | omega | (simp; omega)) (fun v' => (by repeat' first | exact FL.nil | apply FL.cons)) (fun u2 hu2 => ?_)
          refine WL.as rfl rfl ?_
          refine WL.nil ?_
          refine W.inBlock ?_
          refine W.region ?_
          refine WL.addK rfl rfl rfl (wrap_i64 ⟨by omega, by omega⟩) ?_
          refine WL.mv rfl rfl ?_
          refine WL.nil ?_
          rw [xor_val h6 hxl]
          refine W.sub ?_ (W.hs (fun h p => ?_) (next ⟨i + 1, was ^^^ x, w', out ++ [was ^^^ x], u2, ⟨ga, false⟩⟩ ⟨by simp only []; omega, hat, by simp [h3], hxx, hwo, fun h => absurd h (by simp), fun _ => ⟨hdec, rfl⟩⟩ (by simp only []; omega)))
          · exact ⟨rfl, rfl, rfl, by rw [← xor_val h6 hxl]; rfl, rfl, rfl, trivial⟩
          · have p := sepl_perm (List.reverse_perm _).symm p
            simp only []
            rw [List.map_append]
            exact p
  · have hie : i = m := by omega
    by_cases hm0 : m = 0
    · obtain ⟨hq, hwin⟩ := h4 (by omega)
      subst hq
      have hd := decX_zero (bs := bs) (s := q) (n := n) (by omega)
      obtain ⟨qa, qb⟩ := q
      cases qb with
      | true =>
        rw [if_pos rfl] at hd
        refine W.exit rfl ?_
        refine W.seq ?_
        refine W.seq ?_
        refine W.region ?_
        refine WL.mv rfl rfl ?_
        refine WL.callV rfl rfl (fun x p d => ok_c _ _ _ _ (by first | assumption | exact In.wide (by assumption) | exact In.mono (by assumption) (eqh_at 0 rfl p d) | exact in_at 0 rfl p d | exact in_at 1 rfl p d | exact in_at 2 rfl p d | exact in_at 3 rfl p d | exact in_at 4 rfl p d)) ?_
        refine WL.not rfl rfl ?_
        refine WL.nil ?_
        refine W.condT rfl ?_
        refine W.seq ?_
        refine W.region ?_
        refine WL.as rfl rfl ?_
        refine WL.as rfl rfl ?_
        refine WL.nil ?_
        refine W.drop 0 rfl (by repeat' first | exact FL.nil | apply FL.cons) ?_
        refine W.drop 0 rfl (by repeat' first | exact FL.nil | apply FL.cons) ?_
        refine W.nb (sz := 1) ?_
        exact W.ret2 rfl rfl rfl (fun h p => rowXnone hd h2 p)
      | false =>
        rw [if_neg (by simp)] at hd
        refine W.exit rfl ?_
        refine W.seq ?_
        refine W.seq ?_
        refine W.region ?_
        refine WL.mv rfl rfl ?_
        refine WL.callV rfl rfl (fun x p d => ok_c _ _ _ _ (by first | assumption | exact In.wide (by assumption) | exact In.mono (by assumption) (eqh_at 0 rfl p d) | exact in_at 0 rfl p d | exact in_at 1 rfl p d | exact in_at 2 rfl p d | exact in_at 3 rfl p d | exact in_at 4 rfl p d)) ?_
        refine WL.not rfl rfl ?_
        refine WL.nil ?_
        refine W.condF rfl ?_
        refine W.skip ?_
        refine W.seq ?_
        refine W.region ?_
        refine WL.mv rfl rfl ?_
        refine WL.as rfl rfl ?_
        refine WL.as rfl rfl ?_
        refine WL.nil ?_
        have ho : out = [] := List.eq_nil_of_length_eq_zero (by omega)
        subst ho
        refine W.drop 1 rfl (by repeat' first | exact FL.nil | apply FL.cons) ?_
        exact W.ret2 rfl rfl rfl (fun h p => rowXsome hd h2 p)
    · obtain ⟨hdec, hqb⟩ := h5 (by omega)
      obtain ⟨qa, qb⟩ := q
      simp only [] at hqb
      subst hqb
      rw [hie, Nat.sub_self, decXF_zero] at hdec
      refine W.exit rfl ?_
      refine W.seq ?_
      refine W.seq ?_
      refine W.region ?_
      refine WL.mv rfl rfl ?_
      refine WL.callV rfl rfl (fun x p d => ok_c _ _ _ _ (by first | assumption | exact In.wide (by assumption) | exact In.mono (by assumption) (eqh_at 0 rfl p d) | exact in_at 0 rfl p d | exact in_at 1 rfl p d | exact in_at 2 rfl p d | exact in_at 3 rfl p d | exact in_at 4 rfl p d)) ?_
      refine WL.not rfl rfl ?_
      refine WL.nil ?_
      refine W.condF rfl ?_
      refine W.skip ?_
      refine W.seq ?_
      refine W.region ?_
      refine WL.mv rfl rfl ?_
      refine WL.as rfl rfl ?_
      refine WL.as rfl rfl ?_
      refine WL.nil ?_
      refine W.drop 1 rfl (by repeat' first | exact FL.nil | apply FL.cons) ?_
      exact W.ret2 rfl rfl rfl (fun h p => rowXsome hdec.symm h2 p)
-- CALL 15 refine WL.callP $J rfl rfl rfl (fun x p d => xdec_s _ _ _ _ _ (by assumption) (by first | assumption | exact Nat.zero_le _) (by first | assumption | omega | decide) (by assumption) (TabG.wide (by assumption))) $FL (fun r => ?_) ;; refine WL.ex (fun u$N => ?_) ;; refine WL.pure (fun er => ?_) ;; subst er ;; refine WL.open ?_ ;; refine WL.fact (i := 0) rfl (fun h hb => Buf.slm hb) (fun hsl$N => ?_)
theorem xdec_s (ρ : Hp) (b : Nat) (bs : List Nat) (s : RdSt) (n : Int) {ts : List Nat} {s' : RdSt} (e : decX bs s n = some (ts, s')) (hs : s.at' ≤ 8 * bs.length) (hl : bs.length ≤ 140737488355328) (hw : ∀ x ∈ bs, x < 256) (hT : TabG ρ) :
    Fn Tryd.prog 15 #[ptr b, .int .i64 n] ρ [Re b bs s] (fun r h => ∃ v, r = .tuple #[v, .bool true] ∧ sepl [Buf 1 v (ts.map ucell), Re b bs s'] h) := by
  have := xdec_c ρ b bs s n hs hl hw hT
  rw [e] at this
  exact this.mono (fun r h ⟨v, hr, q, ⟨hq, _⟩, p⟩ => ⟨v, hr, by rw [hq _ rfl] at p; exact p⟩)
-- CALL 15 refine WL.callP $J rfl rfl rfl (fun x p d => xdec_n _ _ _ _ _ (by assumption) (by first | assumption | exact Nat.zero_le _) (by first | assumption | omega | decide) (by assumption) (TabG.wide (by assumption))) $FL (fun r => ?_) ;; refine WL.ex (fun u$N => ?_) ;; refine WL.pure (fun er => ?_) ;; subst er ;; refine WL.ex (fun q$N => ?_) ;; refine WL.pure (fun hq$N => ?_) ;; refine WL.open ?_ ;; refine WL.fact (i := 0) rfl (fun h hb => Buf.slm hb) (fun hsl$N => ?_)
theorem xdec_n (ρ : Hp) (b : Nat) (bs : List Nat) (s : RdSt) (n : Int) (e : decX bs s n = none) (hs : s.at' ≤ 8 * bs.length) (hl : bs.length ≤ 140737488355328) (hw : ∀ x ∈ bs, x < 256) (hT : TabG ρ) :
    Fn Tryd.prog 15 #[ptr b, .int .i64 n] ρ [Re b bs s] (fun r h => ∃ v, r = .tuple #[v, .bool false] ∧ ∃ s' : RdSt, s'.at' ≤ 8 * bs.length ∧ sepl [Buf 1 v (([] : List Nat).map ucell), Re b bs s'] h) := by
  have := xdec_c ρ b bs s n hs hl hw hT
  rw [e] at this
  exact this.mono (fun r h ⟨v, hr, q, ⟨_, hq⟩, p⟩ => ⟨v, hr, q, hq, p⟩)
end Go.Proofs.YtjibmfkhhljhcaaDoor
