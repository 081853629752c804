/- '==' of structs of three plain fields; over whatever program. -/
import Derived.Test.YtdpnpipninggeaaDoorArr
import Derived.Laws.StructEq
import Derived.Test.YtdpnpipninggeaaDoorStc
import Derived.Test.YtdpnpipninggeaaDoorNum
import Derived.Test.YtdpnpipninggeaaDoorTab
import Derived.Test.YtdpnpipninggeaaDoorLen64
import Derived.KernelRfl
import Derived.Test.YtdpnpipninggeaaDoorXorvRef
import Derived.Test.YtdpnpipninggeaaDoorVintRf
set_option linter.unusedSimpArgs false
set_option linter.unusedVariables false
namespace Go.Proofs.YtdpnpipninggeaaDoor
open Go
section
variable {P : Program} {T : Tab P} {fn : Func} {ρ σ : Hp} {Q : Value → HP} {k : List Item} {md : Bool} {X : World → Hp → Act → World → Prop} {env : Env} {Hs : List HP} {ops : Array Oper} {l : List Oper}
variable {d : Tmp} {ty : TypeId} {pos : String} {aft : Array Edge} {n fuel : Nat} {listed : Array Bool}
end
end Go.Proofs.YtdpnpipninggeaaDoor
/- Values by what turns: what the code of package xorv reads. -/
set_option linter.unusedSimpArgs false
set_option linter.unusedVariables false
set_option maxRecDepth 20000
set_option maxHeartbeats 4000000
namespace Go.Proofs.YtdpnpipninggeaaDoor
open Go
attribute [local irreducible] W WL Fn Buf ROs SL eptr box Rd Src bndOK WD RB Reads In encX decX encG decXF

theorem shl_val (x b : Nat) (hb : b ≤ 64) : IntKind.u64.wrap ((x : Int) * 2 ^ min ((b : Int)).toNat IntKind.u64.bits) = ((x * 2 ^ b % 18446744073709551616 : Nat) : Int) := by
  have e : min ((b : Int)).toNat IntKind.u64.bits = b := by
    rw [Int.toNat_natCast]
    exact Nat.min_eq_left (by show _ ≤ 64; omega)
  rw [e, show (x : Int) * 2 ^ b = ((x * 2 ^ b : Nat) : Int) by push_cast; rfl, wrapU64]
theorem getF_ltN (bs : List Nat) (s : RdSt) (n : Int) : (getF bs s n).1 < 2 ^ heldF n := by
  unfold getF
  split
  · exact Nat.pow_pos (by decide)
  · exact getV_lt _ _ _
theorem getF_lt5 (bs : List Nat) (s : RdSt) : (getF bs s 5).1 < 32 := getF_ltN bs s 5
theorem getF_lt6 (bs : List Nat) (s : RdSt) : (getF bs s 6).1 < 64 := getF_ltN bs s 6
end Go.Proofs.YtdpnpipninggeaaDoor

/- Values by what turns: what the code of package xorv reads, row by row. -/
set_option linter.unusedSimpArgs false
set_option linter.unusedVariables false
set_option maxRecDepth 20000
set_option maxHeartbeats 4000000
namespace Go.Proofs.YtdpnpipninggeaaDoor
open Go
attribute [local irreducible] W WL Fn Buf ROs SL eptr box Rd Src bndOK WD RB Reads In encX decX encG decXF

/-- values that there may be, and where the reader stands -/
def RowX (bs : List Nat) (mk : RdSt → HP) (o : Option (List Nat × RdSt)) : Value → HP := fun r h => ∃ v, r = .tuple #[v, .bool o.isSome] ∧ ∃ s' : RdSt, ((∀ x, o = some x → s' = x.2) ∧ s'.at' ≤ 8 * bs.length) ∧ sepl [Buf 1 v ((o.elim [] (·.1)).map ucell), mk s'] h
theorem rowXnone {bs : List Nat} {mk : RdSt → HP} {o : Option (List Nat × RdSt)} (e : o = none) {s' : RdSt} (hs : s'.at' ≤ 8 * bs.length) {h : Hp} (p : sepl [Buf 1 (.slice none 0 0) [], mk s'] h) : RowX bs mk o (.tuple #[.slice none 0 0, .bool false]) h := by
  subst e; exact ⟨_, rfl, s', ⟨fun x hx => (by cases hx), hs⟩, p⟩
theorem rowXsome {bs : List Nat} {mk : RdSt → HP} {o : Option (List Nat × RdSt)} {l : List Nat} {s' : RdSt} {v : Value} (e : o = some (l, s')) (hs : s'.at' ≤ 8 * bs.length) {h : Hp} (p : sepl [Buf 1 v (l.map ucell), mk s'] h) : RowX bs mk o (.tuple #[v, .bool true]) h := by
  subst e; exact ⟨_, rfl, s', ⟨fun x hx => (by cases hx; rfl), hs⟩, p⟩
end Go.Proofs.YtdpnpipninggeaaDoor

/- Values by what turns: what the document's own code reads. -/
set_option linter.unusedSimpArgs false
set_option linter.unusedVariables false
set_option maxRecDepth 20000
set_option maxHeartbeats 4000000
namespace Go.Proofs.YtdpnpipninggeaaDoor
open Go
attribute [local irreducible] W WL Fn Buf ROs SL eptr box Rd Src bndOK WD RB Reads In encX decX encG decXF rdXF rdX refX

theorem rdX_zero {bs : List Nat} {s : RdSt} {n : Int} (h : heldM n = 0) : rdX bs s n = if s.bad = true then none else some ([], s) := by unfold rdX; rw [h]
theorem rdX_succ {bs : List Nat} {s : RdSt} {n : Int} {k : Nat} (h : heldM n = k + 1) : rdX bs s n = if s.bad = true then none else rdXF bs k (getF bs s 64).1 ⟨false, 0, 0⟩ [(getF bs s 64).1] (getF bs s 64).2 := by unfold rdX; rw [h]
theorem rdXF_zero (bs : List Nat) (was : Nat) (w : Win) (out : List Nat) (s : RdSt) : rdXF bs 0 was w out s = if s.bad = true then none else some (out, s) := by rw [rdXF]
theorem rdXF_bad (bs : List Nat) (k was : Nat) (w : Win) (out : List Nat) {s : RdSt} (h : s.bad = true) : rdXF bs k was w out s = none := by
  cases k <;> rw [rdXF, if_pos h]
theorem rdXF_none (bs : List Nat) (k was : Nat) (w : Win) (out : List Nat) {s : RdSt} (h : s.bad = false) (hr : rturnX bs w s = none) : rdXF bs (k + 1) was w out s = none := by rw [rdXF, if_neg (by simp [h]), hr]
theorem rdXF_some (bs : List Nat) (k was : Nat) (w : Win) (out : List Nat) {s : RdSt} {x : Nat} {w' : Win} {s' : RdSt} (h : s.bad = false) (hr : rturnX bs w s = some (x, w', s')) : rdXF bs (k + 1) was w out s = rdXF bs k (was ^^^ x) w' (out ++ [was ^^^ x]) s' := by rw [rdXF, if_neg (by simp [h]), hr]
theorem refX_none {bs : List Nat} {s : RdSt} {n : Int} (h : rdX bs s n = none) : refX bs s n = none := by unfold refX; rw [h]
theorem refX_some {bs : List Nat} {s : RdSt} {n : Int} {r : List Nat × RdSt} (h : rdX bs s n = some r) : refX bs s n = if encX r.1 = bitsAt bs s.at' (r.2.at' - s.at') then some r else none := by unfold refX; rw [h]
theorem rdX_mono {bs : List Nat} {a : Nat} {n : Int} {o : List Nat} {s' : RdSt} (ha : a ≤ 8 * bs.length) (h : rdX bs ⟨a, false⟩ n = some (o, s')) : a ≤ s'.at' := by
  cases hn : heldM n with
  | zero =>
    rw [rdX_zero hn, if_neg (by simp)] at h
    have := congrArg Prod.snd (Option.some.inj h)
    simp only [] at this
    rw [← this]
    exact Nat.le_refl _
  | succ k =>
    rw [rdX_succ hn, if_neg (by simp)] at h
    have h1 := getF_mono bs ⟨a, false⟩ 64
    have h2 := get64_lt bs ⟨a, false⟩
    have h3 := getF_at bs ⟨a, false⟩ 64 ha
    have := (rdXF_ok bs k _ _ _ _ o s' h2 h3 (by simpa using h2) h).2.2.2.1
    simp only [] at h1
    omega
theorem rgetx_c (ρ : Hp) (b : Nat) (v : Value) (bs : List Nat) (a0 : Nat) (n : Int) (hv : ROs ρ 1 v (bs.map bcell)) (hs : a0 ≤ 8 * bs.length) (hl : bs.length ≤ 140737488355328) (hw : ∀ x ∈ bs, x < 256) :
    Fn Tryd.prog 42 #[ptr b, .int .i64 n] ρ [RRe b v ⟨a0, false⟩] (RowX bs (RRe b v) (refX bs ⟨a0, false⟩ n)) := by
  refine in42 rfl rfl ?_
  have sv := hv.slm
  have hm := heldM_eq n
  have hml := heldM_le n
  obtain ⟨m, hm'⟩ : ∃ m, m = heldM n := ⟨_, rfl⟩
  rw [← hm'] at hm hml
  have hqa : ∀ {o : List Nat} {x : Nat}, rdX bs ⟨a0, false⟩ n = some (o, ⟨x, false⟩) → a0 ≤ x := fun h => rdX_mono hs h
  refine W.seq (W.region (WL.as rfl rfl (WL.as rfl rfl (WL.nil (W.seq (W.region (WL.mv rfl rfl ?_)))))))
  refine WL.callV rfl rfl (fun x p d => heldm_c _ _) ?_
  refine WL.as rfl rfl (WL.nil (W.seq (W.region (WL.mv rfl rfl (WL.nc rfl rfl (WL.faN (T := Ty) (off' := 1) rfl rfl rfl rfl rfl rfl rfl (WL.ldN (T := Ty) (j := 0) rfl rfl rfl rfl rfl rfl (WL.as rfl rfl (WL.nil (W.seq (W.region (WL.as rfl rfl (WL.nil ?_)))))))))))))
  refine W.seq (W.region (WL.as rfl rfl (WL.as rfl rfl (WL.as rfl rfl (WL.nil (W.seq (W.seq (W.region (WL.as rfl rfl (WL.nil (W.block (W.nb (sz := 1) ?_))))))))))))
  refine W.loopS (σ := Nat × Nat × Win × List Nat × Value × RdSt) (fun q => [(0, ptr b), (1, .int .i64 (min (max n 0) 65535)), (6, .int .i64 (a0 : Int)), (7, q.2.2.2.2.1), (8, .bool q.2.2.1.is), (9, .int .i64 (q.2.2.1.a : Int)), (10, .int .i64 (q.2.2.1.b : Int)), (11, .int .i64 (q.1 : Int))]) (fun q => [Buf 1 q.2.2.2.2.1 (q.2.2.2.1.map ucell), RRe b v q.2.2.2.2.2])
    (fun q => q.1 ≤ m ∧ q.2.2.2.2.2.at' ≤ 8 * bs.length ∧ q.2.2.2.1.length = q.1 ∧ WinOK q.2.2.1 ∧ (∀ x ∈ q.2.2.2.1, x < 18446744073709551616) ∧ (q.1 = 0 → q.2.2.2.2.2 = ⟨a0, false⟩ ∧ q.2.2.1 = ⟨false, 0, 0⟩) ∧ (q.1 ≠ 0 → rdXF bs (m - q.1) q.2.1 q.2.2.1 q.2.2.2.1 q.2.2.2.2.2 = rdX bs ⟨a0, false⟩ n ∧ q.2.2.2.1[q.1 - 1]? = some q.2.1)) (fun q => m - q.1) (0, 0, ⟨false, 0, 0⟩, [], .slice none 0 0, ⟨a0, false⟩) ⟨rfl, rfl, rfl, rfl, rfl, rfl, rfl, rfl, trivial⟩ rfl ⟨Nat.zero_le _, hs, rfl, winOK0, by simp, fun _ => ⟨rfl, rfl⟩, fun h => absurd rfl h⟩ ?_
  rintro ⟨i, was, ⟨is, a, t⟩, out, ov, ⟨qa, qb⟩⟩ ⟨h1, h2, h3, h6, h7, h4, h5⟩ next
  simp only [] at h1 h2 h3 h4 h5 h6 h7 next ⊢
  refine W.fact (i := 0) rfl (fun h hb => Buf.slm hb) (fun hso => ?_)
  rcases (by cases qb <;> (by_cases hh : i < m) <;> simp [hh] : (qb = true ∧ i < m) ∨ (qb = true ∧ ¬ i < m) ∨ (qb = false ∧ ¬ i < m) ∨ (qb = false ∧ i < m)) with ⟨hqb, hlt⟩ | ⟨hqb, hlt⟩ | ⟨hqb, hlt⟩ | ⟨hqb, hlt⟩
  iterate 2
    · subst hqb
      have hnone : refX bs ⟨a0, false⟩ n = none := by
        by_cases hi0 : i = 0
        · obtain ⟨hq, _⟩ := h4 hi0
          have := congrArg RdSt.bad hq
          cases this
        · have := (h5 hi0).1
          rw [rdXF_bad _ _ _ _ _ rfl] at this
          exact refX_none this.symm
      first
        | (refine W.seq ?_; refine W.seq ?_; refine W.region ?_; refine WL.mv rfl rfl ?_; refine WL.mv rfl rfl ?_; refine WL.lss rfl rfl rfl ?_; refine WL.mv rfl rfl ?_; refine WL.gT rfl rfl (by omega) ?_; refine WL.mv rfl rfl ?_; refine WL.gT rfl rfl (by omega) ?_; refine WL.nc rfl rfl ?_; refine WL.gT rfl rfl (by omega) ?_; refine WL.faN (T := Ty) (off' := 2) rfl rfl rfl rfl rfl rfl rfl ?_; refine WL.gT rfl rfl (by omega) ?_; refine WL.ldN (T := Ty) (j := 1) rfl rfl rfl rfl rfl rfl ?_; refine WL.gT rfl rfl (by omega) ?_; refine WL.not rfl rfl ?_; refine WL.pickTp rfl rfl (by omega) rfl ?_; refine WL.nil ?_; refine W.condF rfl ?_; refine W.exit rfl ?_; refine W.seq ?_; refine W.seq ?_; refine W.region ?_; refine WL.mv rfl rfl ?_; refine WL.nc rfl rfl ?_; refine WL.faN (T := Ty) (off' := 2) rfl rfl rfl rfl rfl rfl rfl ?_; refine WL.ldN (T := Ty) (j := 1) rfl rfl rfl rfl rfl rfl ?_; refine WL.nil ?_; refine W.condT rfl ?_; refine W.seq ?_; refine W.region ?_; refine WL.as rfl rfl ?_; refine WL.as rfl rfl ?_; refine WL.nil ?_)
        | (refine W.seq ?_; refine W.seq ?_; refine W.region ?_; refine WL.mv rfl rfl ?_; refine WL.mv rfl rfl ?_; refine WL.lss rfl rfl rfl ?_; refine WL.mv rfl rfl ?_; refine WL.gdTn rfl rfl rfl rfl rfl (by omega) ?_; refine WL.gdTn rfl rfl rfl rfl rfl (by omega) ?_; refine WL.gdTn rfl rfl rfl rfl rfl (by omega) ?_; refine WL.gdTn rfl rfl rfl rfl rfl (by omega) ?_; refine WL.gdTn rfl rfl rfl rfl rfl (by omega) ?_; refine WL.pickFp rfl rfl (by omega) rfl ?_; refine WL.nil ?_; refine W.condF rfl ?_; refine W.exit rfl ?_; refine W.seq ?_; refine W.seq ?_; refine W.region ?_; refine WL.mv rfl rfl ?_; refine WL.nc rfl rfl ?_; refine WL.faN (T := Ty) (off' := 2) rfl rfl rfl rfl rfl rfl rfl ?_; refine WL.ldN (T := Ty) (j := 1) rfl rfl rfl rfl rfl rfl ?_; refine WL.nil ?_; refine W.condT rfl ?_; refine W.seq ?_; refine W.region ?_; refine WL.as rfl rfl ?_; refine WL.as rfl rfl ?_; refine WL.nil ?_)
      refine W.drop 0 rfl (by repeat' constructor) ?_
      refine W.nb (sz := 1) ?_
      exact W.ret2 rfl rfl rfl (fun h p => rowXnone hnone h2 p)
  · subst hqb
    have hrd : rdX bs ⟨a0, false⟩ n = some (out, ⟨qa, false⟩) := by
      by_cases hi0 : i = 0
      · obtain ⟨hq, _⟩ := h4 hi0
        have ho : out = [] := List.eq_nil_of_length_eq_zero (by omega)
        rw [rdX_zero (by omega), if_neg (by simp), ho, hq]
      · have := (h5 hi0).1
        rw [show m - i = 0 by omega, rdXF_zero, if_neg (by simp)] at this
        exact this.symm
    have href := refX_some hrd
    simp only [] at href
    have hel := encX_len out h7
    have heb := encX_bit out
    refine W.seq (W.seq (W.region (WL.mv rfl rfl (WL.mv rfl rfl (WL.lss rfl rfl rfl (WL.mv rfl rfl (WL.gdTn rfl rfl rfl rfl rfl (by omega) (WL.gdTn rfl rfl rfl rfl rfl (by omega) (WL.gdTn rfl rfl rfl rfl rfl (by omega) (WL.gdTn rfl rfl rfl rfl rfl (by omega) (WL.gdTn rfl rfl rfl rfl rfl (by omega) (WL.pickFp rfl rfl (by omega) rfl (WL.nil ?_)))))))))))))
    refine W.condF rfl (W.exit rfl (W.seq (W.seq (W.region (WL.mv rfl rfl (WL.nc rfl rfl (WL.faN (T := Ty) (off' := 2) rfl rfl rfl rfl rfl rfl rfl (WL.ldN (T := Ty) (j := 1) rfl rfl rfl rfl rfl rfl (WL.nil (W.condF rfl (W.skip (W.seq (W.region ?_)))))))))))))
    refine WL.bdC (T := Ty) rfl rfl rfl rfl (by repeat' first | exact CO.nil | apply CO.one (by first | rfl | exact SL.one (by assumption)) | apply CO.agg) rfl (by repeat' constructor) ?_
    refine WL.bxF rfl rfl (by repeat' constructor) (fun b0 => ?_)
    refine WL.as rfl rfl (WL.nil (W.seq (W.region (WL.mv rfl rfl (WL.mv rfl rfl (WL.intoRWr rfl ?_))))))
    refine WL.callM 0 rfl rfl rfl (fun x p d => rvalues_c _ _ _ _ _ (by first | assumption | exact ROs.wide (by assumption) | exact ROs.mono (by assumption) (eqh_at 0 rfl p d) | exact ros_at 0 rfl p d | exact ros_at 1 rfl p d | exact ros_at 2 rfl p d | exact ros_at 3 rfl p d | exact ros_at 4 rfl p d) (by first | assumption | omega | exact Nat.zero_le _ | decide) (by first | assumption | omega | decide) (by first | assumption | omega | decide)) (by repeat' constructor) ?_
    refine WL.nil (W.seq (W.seq ?_))
    rw [List.nil_append]
    refine W.ex (p := fun lv => sepl [box b0 [lv] 89, Buf 1 lv ((encX out).map bcell)]) (fun lv => ?_)
    refine W.open ?_
    refine W.fact (i := 1) rfl (fun h hb => Buf.slm hb) (fun hsl => ?_)
    have hao : a0 ≤ qa := hqa hrd
    have h2' : qa ≤ 8 * bs.length := h2
    refine W.hs (Hs' := [box b0 [lv] 89, Buf 1 lv ((encX out).map bcell), Buf 1 ov (out.map ucell), box b [v, .int .i64 (qa : Int), .bool false] 68]) (fun _ p => p) ?_
    by_cases hlen : (encX out).length = qa - a0
    · have hlen2 : ((encX out).length : Int) = (qa : Int) - (a0 : Int) := by omega
      refine W.drawA 12 rfl (fun σ0 hσ0 dσ0 => ?_)
      have fσ0_0 := rb_at 0 rfl hσ0 dσ0
      have fσ0_1 := ros_at 1 rfl hσ0 dσ0
      have fσ0_2 := ros_at 2 rfl hσ0 dσ0
      have fσ0_3 := rb_at 3 rfl hσ0 dσ0
      refine WD.takeL 0 rfl (by decide +kernel) (WL.mv rfl rfl (WL.nilT (WD.takeL 1 rfl (by decide +kernel) (WL.nc rfl rfl (WL.nilT (WD.takeL 2 rfl (by decide +kernel) (WL.faN (T := Ty) (off' := 0) rfl rfl rfl rfl rfl rfl rfl (WL.nilT (WD.takeL 3 rfl (by decide +kernel) ?_)))))))))
      refine WL.ldBN (T := Ty) rfl rfl rfl rfl (by first | assumption | exact RB.wide (by assumption) | exact In.rb (by assumption)) rfl ?_
      refine WL.nilT (WD.takeL 4 rfl (by decide +kernel) ?_)
      refine WL.len (T := Ty) rfl rfl (by assumption) rfl ?_
      refine WL.nilT (WD.takeL 5 rfl (by decide +kernel) (WL.mv rfl rfl (WL.nilT (WD.takeL 6 rfl (by decide +kernel) (WL.nc rfl rfl (WL.nilT (WD.takeL 7 rfl (by decide +kernel) (WL.faN (T := Ty) (off' := 1) rfl rfl rfl rfl rfl rfl rfl (WL.nilT (WD.takeL 8 rfl (by decide +kernel) ?_))))))))))
      refine WL.ldBN (T := Ty) rfl rfl rfl rfl (by first | assumption | exact RB.wide (by assumption) | exact In.rb (by assumption)) rfl ?_
      refine WL.nilT (WD.takeL 9 rfl (by decide +kernel) (WL.mv rfl rfl (WL.nilT (WD.takeL 10 rfl (by decide +kernel) (WL.subK rfl rfl rfl (wrap_i64 ⟨by omega, by omega⟩) (WL.nilT (WD.takeL 11 rfl (by decide +kernel) (WL.neq rfl rfl rfl (WL.nilT ?_)))))))))
      refine WD.doneF hσ0 (by decide +kernel) (by repeat' constructor) ?_
      refine W.condpF rfl (by omega) (W.skip (W.seq (W.seq (W.region (WL.as rfl rfl (WL.nil (W.block ?_)))))))
      refine W.loopS (σ := Nat) (fun i => [(0, ptr b), (6, .int .i64 (a0 : Int)), (7, ov), (14, ptr b0), (15, .int .i64 (i : Int))]) (fun i => [box b0 [lv] 89, Buf 1 lv ((encX out).map bcell), Buf 1 ov (out.map ucell), box b [v, .int .i64 (qa : Int), .bool false] 68])
        (fun i => i ≤ (encX out).length ∧ ∀ j, j < i → (encX out)[j]? = some (bitAt bs (a0 + j))) (fun i => (encX out).length - i) 0 ⟨rfl, rfl, rfl, rfl, rfl, trivial⟩ rfl ⟨Nat.zero_le _, fun j hj => absurd hj (by omega)⟩ ?_
      intro j ⟨hj, hall⟩ next3
      by_cases hlj : j < (encX out).length
      · obtain ⟨d, hd⟩ : ∃ d, (encX out)[j]? = some d := ⟨_, List.getElem?_eq_getElem hlj⟩
        have hd1 : ((encX out).map bcell)[j]? = some (bcell d) := by rw [List.getElem?_map, hd]; rfl
        have hk : (a0 + j) / 8 < bs.length := by omega
        have hget : (bs.map bcell)[(a0 + j) / 8]? = some (bcell (bs.getD ((a0 + j) / 8) 0)) := by simp [List.getD, List.getElem?_eq_getElem hk]
        have hc : bs.getD ((a0 + j) / 8) 0 < 256 := by
          simp only [List.getD, List.getElem?_eq_getElem hk]
          exact hw _ (List.getElem_mem _)
        have hbit : bits .and .u8 ((bs.getD ((a0 + j) / 8) 0 : Nat) / 2 ^ min (7 - ((a0 : Int) + (j : Int)) % 8).toNat IntKind.u8.bits) 1 = ((bitAt bs (a0 + j) : Nat) : Int) := by
          rw [show ((a0 : Int) + (j : Int)) % 8 = (((a0 + j) % 8 : Nat) : Int) by omega, get_bit _ _ hc (by omega)]
          rfl
        by_cases heq : d = bitAt bs (a0 + j)
        · have hz : (d : Int) = bits .and .u8 ((bs.getD ((a0 + j) / 8) 0 : Nat) / 2 ^ min (7 - ((a0 : Int) + (j : Int)) % 8).toNat IntKind.u8.bits) 1 := by rw [hbit, heq]
          refine W.seq (W.seq (W.region (WL.mv rfl rfl (WL.mv rfl rfl (WL.nc rfl rfl (WL.faN (T := Ty) (off' := 0) rfl rfl rfl rfl rfl rfl rfl (WL.ldN (T := Ty) (j := 0) rfl rfl rfl rfl rfl rfl ?_)))))))
          refine WL.len (T := Ty) rfl rfl (by assumption) rfl ?_
          refine WL.lss rfl rfl rfl (WL.nil (W.condpT rfl (by omega) (W.skip (W.seq (W.block (W.seq (W.region (WL.mv rfl rfl (WL.mv rfl rfl (WL.addK rfl rfl rfl (wrap_i64 ⟨by omega, by omega⟩) (WL.as rfl rfl (WL.nil (W.seq ?_)))))))))))))
          refine W.drawA 22 rfl (fun σ1 hσ1 dσ1 => ?_)
          have fσ1_0 := rb_at 0 rfl hσ1 dσ1
          have fσ1_1 := ros_at 1 rfl hσ1 dσ1
          have fσ1_2 := ros_at 2 rfl hσ1 dσ1
          have fσ1_3 := rb_at 3 rfl hσ1 dσ1
          refine WD.takeL 0 rfl (by decide +kernel) (WL.mv rfl rfl (WL.nilT (WD.takeL 1 rfl (by decide +kernel) (WL.nc rfl rfl (WL.nilT (WD.takeL 2 rfl (by decide +kernel) (WL.faN (T := Ty) (off' := 0) rfl rfl rfl rfl rfl rfl rfl (WL.nilT (WD.takeL 3 rfl (by decide +kernel) ?_)))))))))
          refine WL.ldBN (T := Ty) rfl rfl rfl rfl (by first | assumption | exact RB.wide (by assumption) | exact In.rb (by assumption)) rfl ?_
          refine WL.nilT (WD.takeL 4 rfl (by decide +kernel) (WL.mv rfl rfl (WL.nilT (WD.takeL 5 rfl (by decide +kernel) ?_))))
          refine WL.ix (T := Ty) rfl rfl rfl (by assumption) rfl rfl (by omega) (by first | omega | decide +kernel) ?_
          refine WL.nilT (WD.takeL 6 rfl (by decide +kernel) ?_)
          refine WL.ldKn (T := Ty) rfl rfl rfl rfl (by first | assumption | exact ROs.wide (by assumption)) (by assumption) ?_
          refine WL.nilT (WD.takeL 7 rfl (by decide +kernel) (WL.mv rfl rfl (WL.nilT (WD.takeL 8 rfl (by decide +kernel) (WL.nc rfl rfl (WL.nilT (WD.takeL 9 rfl (by decide +kernel) (WL.faN (T := Ty) (off' := 0) rfl rfl rfl rfl rfl rfl rfl (WL.nilT (WD.takeL 10 rfl (by decide +kernel) ?_))))))))))
          refine WL.ldBN (T := Ty) rfl rfl rfl rfl (by first | assumption | exact RB.wide (by assumption) | exact In.rb (by assumption)) rfl ?_
          refine WL.nilT (WD.takeL 11 rfl (by decide +kernel) (WL.mv rfl rfl (WL.nilT (WD.takeL 12 rfl (by decide +kernel) (WL.quoI rfl rfl rfl (by omega) (by omega) (by omega) (WL.nilT (WD.takeL 13 rfl (by decide +kernel) ?_)))))))
          refine WL.ix (T := Ty) rfl rfl rfl (by assumption) rfl rfl (by omega) (by first | omega | decide +kernel) ?_
          refine WL.nilT (WD.takeL 14 rfl (by decide +kernel) ?_)
          refine WL.ldKn (T := Ty) rfl rfl rfl rfl (by first | assumption | exact ROs.wide (by assumption)) (by assumption) ?_
          refine WL.nilT (WD.takeL 15 rfl (by decide +kernel) (WL.mv rfl rfl (WL.nilT (WD.takeL 16 rfl (by decide +kernel) (WL.remI rfl rfl rfl (by omega) (by omega) (WL.nilT (WD.takeL 17 rfl (by decide +kernel) (WL.subK rfl rfl rfl (wrap_i64 ⟨by omega, by omega⟩) (WL.nilT (WD.takeL 18 rfl (by decide +kernel) (WL.cvK (T := Ty) rfl rfl rfl rfl (wrap_u64 ⟨by omega, by omega⟩) (WL.nilT (WD.takeL 19 rfl (by decide +kernel) ?_)))))))))))))
          refine WL.shrS rfl rfl rfl (by omega) rfl (WL.nilT (WD.takeL 20 rfl (by decide +kernel) (WL.and rfl rfl rfl (WL.nilT (WD.takeL 21 rfl (by decide +kernel) (WL.neq rfl rfl rfl (WL.nilT ?_)))))))
          refine WD.doneF hσ1 (by decide +kernel) (by repeat' constructor) ?_
          refine W.condpF rfl (by omega) (W.skip (W.inBlock (W.region (WL.mv rfl rfl (WL.addK rfl rfl rfl (wrap_i64 ⟨by omega, by omega⟩) (WL.as rfl rfl (WL.nil ?_)))))))
          refine W.sub ?_ (next3 (j + 1) ⟨by omega, fun k hk2 => ?_⟩ (by omega))
          · exact ⟨rfl, rfl, rfl, rfl, rfl, trivial⟩
          · rcases (by omega : k < j ∨ k = j) with h | h
            · exact hall k h
            · rw [h, hd, heq]
        · have hz : ¬ (d : Int) = bits .and .u8 ((bs.getD ((a0 + j) / 8) 0 : Nat) / 2 ^ min (7 - ((a0 : Int) + (j : Int)) % 8).toNat IntKind.u8.bits) 1 := by rw [hbit]; omega
          have hnone : refX bs ⟨a0, false⟩ n = none := by
            rw [href, if_neg]
            intro e
            have : (bitsAt bs a0 (qa - a0))[j]? = some d := by rw [← e]; exact hd
            unfold bitsAt at this
            rw [List.getElem?_map, List.getElem?_range (by omega)] at this
            exact heq (Option.some.inj this).symm
          refine W.seq (W.seq (W.region (WL.mv rfl rfl (WL.mv rfl rfl (WL.nc rfl rfl (WL.faN (T := Ty) (off' := 0) rfl rfl rfl rfl rfl rfl rfl (WL.ldN (T := Ty) (j := 0) rfl rfl rfl rfl rfl rfl ?_)))))))
          refine WL.len (T := Ty) rfl rfl (by assumption) rfl ?_
          refine WL.lss rfl rfl rfl (WL.nil (W.condpT rfl (by omega) (W.skip (W.seq (W.block (W.seq (W.region (WL.mv rfl rfl (WL.mv rfl rfl (WL.addK rfl rfl rfl (wrap_i64 ⟨by omega, by omega⟩) (WL.as rfl rfl (WL.nil (W.seq ?_)))))))))))))
          refine W.drawA 22 rfl (fun σ1 hσ1 dσ1 => ?_)
          have fσ1_0 := rb_at 0 rfl hσ1 dσ1
          have fσ1_1 := ros_at 1 rfl hσ1 dσ1
          have fσ1_2 := ros_at 2 rfl hσ1 dσ1
          have fσ1_3 := rb_at 3 rfl hσ1 dσ1
          refine WD.takeL 0 rfl (by decide +kernel) (WL.mv rfl rfl (WL.nilT (WD.takeL 1 rfl (by decide +kernel) (WL.nc rfl rfl (WL.nilT (WD.takeL 2 rfl (by decide +kernel) (WL.faN (T := Ty) (off' := 0) rfl rfl rfl rfl rfl rfl rfl (WL.nilT (WD.takeL 3 rfl (by decide +kernel) ?_)))))))))
          refine WL.ldBN (T := Ty) rfl rfl rfl rfl (by first | assumption | exact RB.wide (by assumption) | exact In.rb (by assumption)) rfl ?_
          refine WL.nilT (WD.takeL 4 rfl (by decide +kernel) (WL.mv rfl rfl (WL.nilT (WD.takeL 5 rfl (by decide +kernel) ?_))))
          refine WL.ix (T := Ty) rfl rfl rfl (by assumption) rfl rfl (by omega) (by first | omega | decide +kernel) ?_
          refine WL.nilT (WD.takeL 6 rfl (by decide +kernel) ?_)
          refine WL.ldKn (T := Ty) rfl rfl rfl rfl (by first | assumption | exact ROs.wide (by assumption)) (by assumption) ?_
          refine WL.nilT (WD.takeL 7 rfl (by decide +kernel) (WL.mv rfl rfl (WL.nilT (WD.takeL 8 rfl (by decide +kernel) (WL.nc rfl rfl (WL.nilT (WD.takeL 9 rfl (by decide +kernel) (WL.faN (T := Ty) (off' := 0) rfl rfl rfl rfl rfl rfl rfl (WL.nilT (WD.takeL 10 rfl (by decide +kernel) ?_))))))))))
          refine WL.ldBN (T := Ty) rfl rfl rfl rfl (by first | assumption | exact RB.wide (by assumption) | exact In.rb (by assumption)) rfl ?_
          refine WL.nilT (WD.takeL 11 rfl (by decide +kernel) (WL.mv rfl rfl (WL.nilT (WD.takeL 12 rfl (by decide +kernel) (WL.quoI rfl rfl rfl (by omega) (by omega) (by omega) (WL.nilT (WD.takeL 13 rfl (by decide +kernel) ?_)))))))
          refine WL.ix (T := Ty) rfl rfl rfl (by assumption) rfl rfl (by omega) (by first | omega | decide +kernel) ?_
          refine WL.nilT (WD.takeL 14 rfl (by decide +kernel) ?_)
          refine WL.ldKn (T := Ty) rfl rfl rfl rfl (by first | assumption | exact ROs.wide (by assumption)) (by assumption) ?_
          refine WL.nilT (WD.takeL 15 rfl (by decide +kernel) (WL.mv rfl rfl (WL.nilT (WD.takeL 16 rfl (by decide +kernel) (WL.remI rfl rfl rfl (by omega) (by omega) (WL.nilT (WD.takeL 17 rfl (by decide +kernel) (WL.subK rfl rfl rfl (wrap_i64 ⟨by omega, by omega⟩) (WL.nilT (WD.takeL 18 rfl (by decide +kernel) (WL.cvK (T := Ty) rfl rfl rfl rfl (wrap_u64 ⟨by omega, by omega⟩) (WL.nilT (WD.takeL 19 rfl (by decide +kernel) ?_)))))))))))))
          refine WL.shrS rfl rfl rfl (by omega) rfl (WL.nilT (WD.takeL 20 rfl (by decide +kernel) (WL.and rfl rfl rfl (WL.nilT (WD.takeL 21 rfl (by decide +kernel) (WL.neq rfl rfl rfl (WL.nilT ?_)))))))
          refine WD.doneF hσ1 (by decide +kernel) (by repeat' constructor) ?_
          refine W.condpT rfl (by omega) (W.seq (W.region (WL.as rfl rfl (WL.as rfl rfl (WL.nil ?_)))))
          refine W.drop 0 rfl (by repeat' constructor) ?_
          refine W.drop 0 rfl (by repeat' constructor) ?_
          refine W.drop 0 rfl (by repeat' constructor) ?_
          refine W.nb (sz := 1) ?_
          exact W.ret2 rfl rfl rfl (fun h p => rowXnone (s' := ⟨qa, false⟩) hnone h2 p)
      · have hje : j = (encX out).length := by omega
        have hsome : refX bs ⟨a0, false⟩ n = some (out, ⟨qa, false⟩) := by
          rw [href, if_pos]
          apply List.ext_getElem?
          intro i
          by_cases hi : i < (encX out).length
          · rw [hall i (by omega)]
            unfold bitsAt
            rw [List.getElem?_map, List.getElem?_range (by omega)]; rfl
          · rw [List.getElem?_eq_none (by omega), List.getElem?_eq_none (by rw [bitsAt_len]; omega)]
        refine W.seq (W.seq (W.region (WL.mv rfl rfl (WL.mv rfl rfl (WL.nc rfl rfl (WL.faN (T := Ty) (off' := 0) rfl rfl rfl rfl rfl rfl rfl (WL.ldN (T := Ty) (j := 0) rfl rfl rfl rfl rfl rfl ?_)))))))
        refine WL.len (T := Ty) rfl rfl (by assumption) rfl ?_
        refine WL.lss rfl rfl rfl (WL.nil (W.condpF rfl (by omega) (W.exit rfl (W.seq (W.region (WL.mv rfl rfl (WL.as rfl rfl (WL.as rfl rfl (WL.nil ?_)))))))))
        refine W.drop 0 rfl (by repeat' constructor) ?_
        refine W.drop 0 rfl (by repeat' constructor) ?_
        exact W.ret2 rfl rfl rfl (fun h p => rowXsome (s' := ⟨qa, false⟩) hsome h2 p)
    · have hlen2 : ¬ ((encX out).length : Int) = (qa : Int) - (a0 : Int) := by omega
      have hnone : refX bs ⟨a0, false⟩ n = none := by
        rw [href, if_neg]
        intro e
        exact hlen (by rw [e, bitsAt_len])
      refine W.drawA 12 rfl (fun σ0 hσ0 dσ0 => ?_)
      have fσ0_0 := rb_at 0 rfl hσ0 dσ0
      have fσ0_1 := ros_at 1 rfl hσ0 dσ0
      have fσ0_2 := ros_at 2 rfl hσ0 dσ0
      have fσ0_3 := rb_at 3 rfl hσ0 dσ0
      refine WD.takeL 0 rfl (by decide +kernel) (WL.mv rfl rfl (WL.nilT (WD.takeL 1 rfl (by decide +kernel) (WL.nc rfl rfl (WL.nilT (WD.takeL 2 rfl (by decide +kernel) (WL.faN (T := Ty) (off' := 0) rfl rfl rfl rfl rfl rfl rfl (WL.nilT (WD.takeL 3 rfl (by decide +kernel) ?_)))))))))
      refine WL.ldBN (T := Ty) rfl rfl rfl rfl (by first | assumption | exact RB.wide (by assumption) | exact In.rb (by assumption)) rfl ?_
      refine WL.nilT (WD.takeL 4 rfl (by decide +kernel) ?_)
      refine WL.len (T := Ty) rfl rfl (by assumption) rfl ?_
      refine WL.nilT (WD.takeL 5 rfl (by decide +kernel) (WL.mv rfl rfl (WL.nilT (WD.takeL 6 rfl (by decide +kernel) (WL.nc rfl rfl (WL.nilT (WD.takeL 7 rfl (by decide +kernel) (WL.faN (T := Ty) (off' := 1) rfl rfl rfl rfl rfl rfl rfl (WL.nilT (WD.takeL 8 rfl (by decide +kernel) ?_))))))))))
      refine WL.ldBN (T := Ty) rfl rfl rfl rfl (by first | assumption | exact RB.wide (by assumption) | exact In.rb (by assumption)) rfl ?_
      refine WL.nilT (WD.takeL 9 rfl (by decide +kernel) (WL.mv rfl rfl (WL.nilT (WD.takeL 10 rfl (by decide +kernel) (WL.subK rfl rfl rfl (wrap_i64 ⟨by omega, by omega⟩) (WL.nilT (WD.takeL 11 rfl (by decide +kernel) (WL.neq rfl rfl rfl (WL.nilT ?_)))))))))
      refine WD.doneF hσ0 (by decide +kernel) (by repeat' constructor) ?_
      refine W.condpT rfl (by omega) (W.seq (W.region (WL.as rfl rfl (WL.as rfl rfl (WL.nil ?_)))))
      refine W.drop 0 rfl (by repeat' constructor) ?_
      refine W.drop 0 rfl (by repeat' constructor) ?_
      refine W.drop 0 rfl (by repeat' constructor) ?_
      refine W.nb (sz := 1) ?_
      exact W.ret2 rfl rfl rfl (fun h p => rowXnone (s' := ⟨qa, false⟩) hnone h2 p)
  · subst hqb
    by_cases hi0 : i = 0
    · obtain ⟨hq, hwin⟩ := h4 hi0
      have ho : out = [] := List.eq_nil_of_length_eq_zero (by omega)
      subst hi0
      subst ho
      obtain ⟨k, hk⟩ : ∃ k, heldM n = k + 1 := ⟨m - 1, by omega⟩
      have hd := rdX_succ (bs := bs) (s := ⟨a0, false⟩) hk
      rw [if_neg (by simp), ← hq] at hd
      obtain ⟨g, ⟨ga, gb⟩, hg⟩ : ∃ g q', getF bs ⟨qa, false⟩ 64 = (g, q') := ⟨_, _, rfl⟩
      have hat := getF_at bs ⟨qa, false⟩ 64 h2
      have hg64 := get64_lt bs ⟨qa, false⟩
      rw [hg] at hat hd hg64
      simp only [] at hat hd hg64
      refine W.seq (W.seq (W.region (WL.mv rfl rfl (WL.mv rfl rfl (WL.lss rfl rfl rfl (WL.mv rfl rfl (WL.gT rfl rfl (by omega) (WL.mv rfl rfl (WL.gT rfl rfl (by omega) (WL.nc rfl rfl (WL.gT rfl rfl (by omega) (WL.faN (T := Ty) (off' := 2) rfl rfl rfl rfl rfl rfl rfl (WL.gT rfl rfl (by omega) ?_)))))))))))))
      refine WL.ldN (T := Ty) (j := 1) rfl rfl rfl rfl rfl rfl (WL.gT rfl rfl (by omega) (WL.not rfl rfl (WL.pickTp rfl rfl (by omega) rfl (WL.nil (W.condT rfl (W.skip (W.seq (W.block (W.seq (W.seq (W.region (WL.mv rfl rfl (WL.eql rfl rfl rfl ?_)))))))))))))
      refine WL.nil (W.condT rfl (W.seq (W.region (WL.mv rfl rfl (WL.mv rfl rfl ?_)))))
      refine WL.callM 1 rfl rfl rfl (fun x p d => rget1_e _ _ _ _ _ _ (by assumption) (by first | assumption | exact ROs.wide (by assumption) | exact ROs.mono (by assumption) (eqh_at 0 rfl p d) | exact ros_at 0 rfl p d | exact ros_at 1 rfl p d | exact ros_at 2 rfl p d | exact ros_at 3 rfl p d | exact ros_at 4 rfl p d) (by first | exact Nat.zero_le _ | assumption) (by first | assumption | omega) (by assumption)) (by repeat' constructor) ?_
      refine WL.bsC (T := Ty) rfl rfl rfl rfl rfl rfl rfl (by repeat' first | exact CO.nil | apply CO.one (by first | rfl | exact SL.one (by assumption)) | apply CO.agg) rfl (by repeat' constructor) (fun u0 hu0 => ?_)
      refine WL.apQ (T := Ty) (i := 1) rfl rfl rfl rfl rfl rfl rfl (by first | exact .ro (by assumption) | exact .ro (ROs.wide (by assumption)) | exact .eqJ 0 rfl (by assumption) | exact .own 0 rfl | exact .own 1 rfl | exact .own 2 rfl | exact .own 3 rfl | exact .own 4 rfl | exact .own 5 rfl) (by first | assumption | exact ROs.slm (by assumption)) (fun _ => rfl) (by first | omega | (simp; omega) | (simp only [List.length_drop, List.length_take]; omega)) (by first | omega | (simp; omega) | (simp only [List.length_drop, List.length_take]; omega)) (fun v' => (by repeat' constructor)) (fun u1 hu1 => ?_)
      refine WL.as rfl rfl (WL.nil (W.exit rfl (W.region (WL.mv rfl rfl (WL.addK rfl rfl rfl (wrap_i64 ⟨by omega, by omega⟩) (WL.as rfl rfl (WL.nil ?_)))))))
      refine W.drop 0 rfl (by repeat' constructor) ?_
      refine W.sub ?_ (next ⟨1, g, ⟨is, a, t⟩, [] ++ [g], u1, ⟨ga, gb⟩⟩ ⟨by simp only []; omega, hat, rfl, h6, by simpa using hg64, fun h => absurd (show (1 : Nat) = 0 from h) (by decide), fun _ => ⟨by rw [← hq, hd, hwin]; show rdXF bs (m - 1) _ _ _ _ = _; rw [show m - 1 = k by omega]; rfl, rfl⟩⟩ (by simp only []; omega))
      exact ⟨rfl, rfl, rfl, rfl, rfl, rfl, rfl, rfl, trivial⟩
    · obtain ⟨hdec, hwas⟩ := h5 hi0
      have hwas1 : (out.map ucell)[i - 1]? = some (ucell was) := by rw [List.getElem?_map, hwas]; rfl
      have hwasl := h7 was (List.mem_of_getElem? hwas)
      have h6' : a ≤ 31 ∧ a + t ≤ 64 := h6
      obtain ⟨h61, h62⟩ := h6'
      rw [show m - i = (m - (i + 1)) + 1 by omega] at hdec
      obtain ⟨g1, s1, e1⟩ : ∃ g s', getF bs ⟨qa, false⟩ 1 = (g, s') := ⟨_, _, rfl⟩
      have a1 := getF_at bs ⟨qa, false⟩ 1 h2
      have l1 := getF_ltN bs ⟨qa, false⟩ 1
      rw [e1] at a1 l1
      simp only [heldc1] at a1 l1
      -- what follows a value
      have fin : ∀ (x : Nat) (w' : Win) (s' : RdSt), rturnX bs ⟨is, a, t⟩ ⟨qa, false⟩ = some (x, w', s') → x < 18446744073709551616 → WinOK w' → s'.at' ≤ 8 * bs.length → ∀ ov', W Tryd.prog _ _ _ _ [(0, ptr b), (1, .int .i64 (min (max n 0) 65535)), (6, .int .i64 (a0 : Int)), (7, ov'), (8, .bool w'.is), (9, .int .i64 (w'.a : Int)), (10, .int .i64 (w'.b : Int)), (11, .int .i64 ((i + 1 : Nat) : Int))] [Buf 1 ov' ((out ++ [was ^^^ x]).map ucell), RRe b v s'] := fun x w' s' hr hx hwo hat ov' =>
        next ⟨i + 1, was ^^^ x, w', out ++ [was ^^^ x], ov', s'⟩ ⟨by simp only []; omega, hat, by simp [h3], hwo, fun y hy => by
          rcases List.mem_append.1 hy with h | h
          · exact h7 y h
          · simp at h; rw [h]; exact xor_lt64 hwasl hx, fun h => absurd h (by simp), fun _ => ⟨by rw [rdXF_some _ _ _ _ _ rfl hr] at hdec; exact hdec, by
          show (out ++ [was ^^^ x])[i + 1 - 1]? = _
          rw [show i + 1 - 1 = out.length by omega]; simp⟩⟩ (by simp only []; omega)
      by_cases c1 : g1 = 1
      · obtain ⟨g2, s2, e2⟩ : ∃ g s', getF bs s1 1 = (g, s') := ⟨_, _, rfl⟩
        have a2 := getF_at bs s1 1 a1
        have l2 := getF_ltN bs s1 1
        rw [e2] at a2 l2
        simp only [heldc1] at a2 l2
        by_cases c2 : g2 = 1
        · obtain ⟨g3, s3, e3⟩ : ∃ g s', getF bs s2 5 = (g, s') := ⟨_, _, rfl⟩
          have a3 := getF_at bs s2 5 a2
          have b3 := getF_lt5 bs s2
          rw [e3] at a3 b3
          simp only [] at a3 b3
          obtain ⟨g4, s4, e4⟩ : ∃ g s', getF bs s3 6 = (g, s') := ⟨_, _, rfl⟩
          have a4 := getF_at bs s3 6 a3
          have b4 := getF_lt6 bs s3
          rw [e4] at a4 b4
          simp only [] at a4 b4
          by_cases c3 : 64 < g3 + (g4 + 1)
          · have hr : rturnX bs ⟨is, a, t⟩ ⟨qa, false⟩ = none := by unfold rturnX; rw [e1, if_pos c1]; simp only []; rw [e2, if_pos c2]; simp only []; rw [e3]; simp only []; rw [e4]; simp only []; rw [if_pos c3]
            rw [rdXF_none _ _ _ _ _ rfl hr] at hdec
            have hnone := refX_none hdec.symm
            refine W.seq (W.seq (W.region (WL.mv rfl rfl (WL.mv rfl rfl (WL.lss rfl rfl rfl (WL.mv rfl rfl (WL.gT rfl rfl (by omega) (WL.mv rfl rfl (WL.gT rfl rfl (by omega) (WL.nc rfl rfl (WL.gT rfl rfl (by omega) (WL.faN (T := Ty) (off' := 2) rfl rfl rfl rfl rfl rfl rfl (WL.gT rfl rfl (by omega) ?_)))))))))))))
            refine WL.ldN (T := Ty) (j := 1) rfl rfl rfl rfl rfl rfl (WL.gT rfl rfl (by omega) (WL.not rfl rfl (WL.pickTp rfl rfl (by omega) rfl (WL.nil (W.condT rfl (W.skip (W.seq (W.block (W.seq (W.seq (W.region (WL.mv rfl rfl (WL.eql rfl rfl rfl ?_)))))))))))))
            refine WL.nil (W.condpF rfl (by omega) (W.skip (W.seq (W.region (WL.as rfl rfl (WL.nil (W.seq (W.seq (W.region (WL.mv rfl rfl ?_))))))))))
            refine WL.callM 1 rfl rfl rfl (fun x p d => rget1_e _ _ _ _ _ _ (by assumption) (by first | assumption | exact ROs.wide (by assumption) | exact ROs.mono (by assumption) (eqh_at 0 rfl p d) | exact ros_at 0 rfl p d | exact ros_at 1 rfl p d | exact ros_at 2 rfl p d | exact ros_at 3 rfl p d | exact ros_at 4 rfl p d) (by first | exact Nat.zero_le _ | assumption) (by first | assumption | omega) (by assumption)) (by repeat' constructor) ?_
            refine WL.eql rfl rfl rfl (WL.nil (W.condpT rfl (by omega) (W.seq (W.seq (W.region (WL.mv rfl rfl ?_))))))
            refine WL.callM 1 rfl rfl rfl (fun x p d => rget1_e _ _ _ _ _ _ (by assumption) (by first | assumption | exact ROs.wide (by assumption) | exact ROs.mono (by assumption) (eqh_at 0 rfl p d) | exact ros_at 0 rfl p d | exact ros_at 1 rfl p d | exact ros_at 2 rfl p d | exact ros_at 3 rfl p d | exact ros_at 4 rfl p d) (by first | exact Nat.zero_le _ | assumption) (by first | assumption | omega) (by assumption)) (by repeat' constructor) ?_
            refine WL.eql rfl rfl rfl (WL.nil (W.condpT rfl (by omega) (W.seq (W.region (WL.mv rfl rfl ?_)))))
            refine WL.callM 1 rfl rfl rfl (fun x p d => rget1_e _ _ _ _ _ _ (by assumption) (by first | assumption | exact ROs.wide (by assumption) | exact ROs.mono (by assumption) (eqh_at 0 rfl p d) | exact ros_at 0 rfl p d | exact ros_at 1 rfl p d | exact ros_at 2 rfl p d | exact ros_at 3 rfl p d | exact ros_at 4 rfl p d) (by first | exact Nat.zero_le _ | assumption) (by first | assumption | omega) (by assumption)) (by repeat' constructor) ?_
            refine WL.cvK (T := Ty) rfl rfl rfl rfl (wrap_i64 ⟨by omega, by omega⟩) (WL.as rfl rfl (WL.nil (W.seq (W.region (WL.mv rfl rfl ?_)))))
            refine WL.callM 1 rfl rfl rfl (fun x p d => rget1_e _ _ _ _ _ _ (by assumption) (by first | assumption | exact ROs.wide (by assumption) | exact ROs.mono (by assumption) (eqh_at 0 rfl p d) | exact ros_at 0 rfl p d | exact ros_at 1 rfl p d | exact ros_at 2 rfl p d | exact ros_at 3 rfl p d | exact ros_at 4 rfl p d) (by first | exact Nat.zero_le _ | assumption) (by first | assumption | omega) (by assumption)) (by repeat' constructor) ?_
            refine WL.cvK (T := Ty) rfl rfl rfl rfl (wrap_i64 ⟨by omega, by omega⟩) (WL.addK rfl rfl rfl (wrap_i64 ⟨by omega, by omega⟩) (WL.as rfl rfl (WL.nil (W.seq (W.seq (W.region (WL.mv rfl rfl (WL.mv rfl rfl (WL.addK rfl rfl rfl (wrap_i64 ⟨by omega, by omega⟩) (WL.gtr rfl rfl rfl (WL.nil (W.condpT rfl (by omega) (W.seq ?_)))))))))))))
            refine W.region (WL.as rfl rfl (WL.as rfl rfl (WL.nil ?_)))
            refine W.drop 0 rfl (by repeat' constructor) ?_
            refine W.nb (sz := 1) ?_
            exact W.ret2 rfl rfl rfl (fun h p => rowXnone hnone a4 p)
          · obtain ⟨g5, s5, e5⟩ : ∃ g s', getF bs s4 ((g4 + 1 : Nat) : Int) = (g, s') := ⟨_, _, rfl⟩
            have a5 := getF_at bs s4 ((g4 + 1 : Nat) : Int) a4
            rw [e5] at a5
            simp only [] at a5
            have e5' : getF bs s4 (64 - (g3 : Int) - (64 - (g3 : Int) - ((g4 : Int) + 1))) = (g5, s5) := by rw [← e5]; congr 1; omega
            have hr : rturnX bs ⟨is, a, t⟩ ⟨qa, false⟩ = some (g5 * 2 ^ (64 - g3 - (g4 + 1)) % 18446744073709551616, ⟨true, g3, 64 - g3 - (g4 + 1)⟩, s5) := by unfold rturnX; rw [e1, if_pos c1]; simp only []; rw [e2, if_pos c2]; simp only []; rw [e3]; simp only []; rw [e4]; simp only []; rw [if_neg c3, e5]
            obtain ⟨tr, htr⟩ : ∃ tr : Nat, tr = 64 - g3 - (g4 + 1) := ⟨_, rfl⟩
            have htr2 : (64 : Int) - (g3 : Int) - ((g4 : Int) + 1) = (tr : Int) := by omega
            rw [← htr] at hr
            have hxl : g5 * 2 ^ tr % 18446744073709551616 < 18446744073709551616 := Nat.mod_lt _ (by decide)
            refine W.seq (W.seq (W.region (WL.mv rfl rfl (WL.mv rfl rfl (WL.lss rfl rfl rfl (WL.mv rfl rfl (WL.gT rfl rfl (by omega) (WL.mv rfl rfl (WL.gT rfl rfl (by omega) (WL.nc rfl rfl (WL.gT rfl rfl (by omega) (WL.faN (T := Ty) (off' := 2) rfl rfl rfl rfl rfl rfl rfl (WL.gT rfl rfl (by omega) ?_)))))))))))))
            refine WL.ldN (T := Ty) (j := 1) rfl rfl rfl rfl rfl rfl (WL.gT rfl rfl (by omega) (WL.not rfl rfl (WL.pickTp rfl rfl (by omega) rfl (WL.nil (W.condT rfl (W.skip (W.seq (W.block (W.seq (W.seq (W.region (WL.mv rfl rfl (WL.eql rfl rfl rfl ?_)))))))))))))
            refine WL.nil (W.condpF rfl (by omega) (W.skip (W.seq (W.region (WL.as rfl rfl (WL.nil (W.seq (W.seq (W.region (WL.mv rfl rfl ?_))))))))))
            refine WL.callM 1 rfl rfl rfl (fun x p d => rget1_e _ _ _ _ _ _ (by assumption) (by first | assumption | exact ROs.wide (by assumption) | exact ROs.mono (by assumption) (eqh_at 0 rfl p d) | exact ros_at 0 rfl p d | exact ros_at 1 rfl p d | exact ros_at 2 rfl p d | exact ros_at 3 rfl p d | exact ros_at 4 rfl p d) (by first | exact Nat.zero_le _ | assumption) (by first | assumption | omega) (by assumption)) (by repeat' constructor) ?_
            refine WL.eql rfl rfl rfl (WL.nil (W.condpT rfl (by omega) (W.seq (W.seq (W.region (WL.mv rfl rfl ?_))))))
            refine WL.callM 1 rfl rfl rfl (fun x p d => rget1_e _ _ _ _ _ _ (by assumption) (by first | assumption | exact ROs.wide (by assumption) | exact ROs.mono (by assumption) (eqh_at 0 rfl p d) | exact ros_at 0 rfl p d | exact ros_at 1 rfl p d | exact ros_at 2 rfl p d | exact ros_at 3 rfl p d | exact ros_at 4 rfl p d) (by first | exact Nat.zero_le _ | assumption) (by first | assumption | omega) (by assumption)) (by repeat' constructor) ?_
            refine WL.eql rfl rfl rfl (WL.nil (W.condpT rfl (by omega) (W.seq (W.region (WL.mv rfl rfl ?_)))))
            refine WL.callM 1 rfl rfl rfl (fun x p d => rget1_e _ _ _ _ _ _ (by assumption) (by first | assumption | exact ROs.wide (by assumption) | exact ROs.mono (by assumption) (eqh_at 0 rfl p d) | exact ros_at 0 rfl p d | exact ros_at 1 rfl p d | exact ros_at 2 rfl p d | exact ros_at 3 rfl p d | exact ros_at 4 rfl p d) (by first | exact Nat.zero_le _ | assumption) (by first | assumption | omega) (by assumption)) (by repeat' constructor) ?_
            refine WL.cvK (T := Ty) rfl rfl rfl rfl (wrap_i64 ⟨by omega, by omega⟩) (WL.as rfl rfl (WL.nil (W.seq (W.region (WL.mv rfl rfl ?_)))))
            refine WL.callM 1 rfl rfl rfl (fun x p d => rget1_e _ _ _ _ _ _ (by assumption) (by first | assumption | exact ROs.wide (by assumption) | exact ROs.mono (by assumption) (eqh_at 0 rfl p d) | exact ros_at 0 rfl p d | exact ros_at 1 rfl p d | exact ros_at 2 rfl p d | exact ros_at 3 rfl p d | exact ros_at 4 rfl p d) (by first | exact Nat.zero_le _ | assumption) (by first | assumption | omega) (by assumption)) (by repeat' constructor) ?_
            refine WL.cvK (T := Ty) rfl rfl rfl rfl (wrap_i64 ⟨by omega, by omega⟩) (WL.addK rfl rfl rfl (wrap_i64 ⟨by omega, by omega⟩) (WL.as rfl rfl (WL.nil (W.seq (W.seq (W.region (WL.mv rfl rfl (WL.mv rfl rfl (WL.addK rfl rfl rfl (wrap_i64 ⟨by omega, by omega⟩) (WL.gtr rfl rfl rfl (WL.nil (W.condpF rfl (by omega) (W.skip ?_)))))))))))))
            refine W.region (WL.mv rfl rfl (WL.subK rfl rfl rfl (wrap_i64 ⟨by omega, by omega⟩) (WL.mv rfl rfl (WL.subK rfl rfl rfl (wrap_i64 ⟨by omega, by omega⟩) (WL.as rfl rfl (WL.as rfl rfl (WL.nil (W.region (WL.mv rfl rfl (WL.mv rfl rfl (WL.subK rfl rfl rfl (wrap_i64 ⟨by omega, by omega⟩) (WL.mv rfl rfl (WL.subK rfl rfl rfl (wrap_i64 ⟨by omega, by omega⟩) ?_)))))))))))))
            refine WL.callM 1 rfl rfl rfl (fun x p d => rget1_e _ _ _ _ _ _ (by assumption) (by first | assumption | exact ROs.wide (by assumption) | exact ROs.mono (by assumption) (eqh_at 0 rfl p d) | exact ros_at 0 rfl p d | exact ros_at 1 rfl p d | exact ros_at 2 rfl p d | exact ros_at 3 rfl p d | exact ros_at 4 rfl p d) (by first | exact Nat.zero_le _ | assumption) (by first | assumption | omega) (by assumption)) (by repeat' constructor) ?_
            refine WL.mv rfl rfl (WL.cvK (T := Ty) rfl rfl rfl rfl (wrap_u64 ⟨by omega, by omega⟩) (WL.shlS rfl rfl rfl (by omega) rfl rfl (WL.as rfl rfl (WL.nil (W.region (WL.mv rfl rfl (WL.mv rfl rfl (WL.mv rfl rfl (WL.subK rfl rfl rfl (wrap_i64 ⟨by omega, by omega⟩) ?_)))))))))
            refine WL.ix (T := Ty) rfl rfl rfl (by assumption) rfl rfl (by omega) (by first | omega | decide +kernel) ?_
            refine WL.ldEK (T := Ty) (j := 0) rfl rfl rfl rfl rfl (by assumption) (by omega) ?_
            refine WL.mv rfl rfl (WL.xor rfl rfl rfl ?_)
            refine WL.bsC (T := Ty) rfl rfl rfl rfl rfl rfl rfl (by repeat' first | exact CO.nil | apply CO.one (by first | rfl | exact SL.one (by assumption)) | apply CO.agg) rfl (by repeat' constructor) (fun u5 hu5 => ?_)
            refine WL.ap1 (T := Ty) (i := 0) rfl rfl rfl rfl rfl rfl rfl rfl (by assumption) (by first | rfl | assumption) (by first | omega | (simp; omega) | (simp only [List.length_drop, List.length_take]; omega)) (by first | omega | (simp; omega) | (simp only [List.length_drop, List.length_take]; omega)) (fun v' => (by repeat' constructor)) (fun u6 hu6 => ?_)
            refine WL.as rfl rfl (WL.nil (W.inBlock (W.region (WL.mv rfl rfl (WL.addK rfl rfl rfl (wrap_i64 ⟨by omega, by omega⟩) (WL.as rfl rfl (WL.nil ?_)))))))
            rw [htr2, shl_val g5 tr (by omega)]
            generalize g5 * 2 ^ tr % 18446744073709551616 = x at *
            rw [xor_val hwasl hxl]
            refine W.sub ?_ (W.hs (fun h p => ?_) (fin x _ s5 hr hxl ⟨by simp only []; omega, by simp only []; omega⟩ a5 u6))
            · exact ⟨rfl, rfl, rfl, rfl, rfl, rfl, rfl, rfl, trivial⟩
            · rw [List.map_append]
              exact p
        · have c20 : g2 = 0 := by omega
          cases is with
          | false =>
            have hr : rturnX bs ⟨false, a, t⟩ ⟨qa, false⟩ = none := by unfold rturnX; rw [e1, if_pos c1]; simp only []; rw [e2, if_neg c2]; simp
            rw [rdXF_none _ _ _ _ _ rfl hr] at hdec
            have hnone := refX_none hdec.symm
            refine W.seq (W.seq (W.region (WL.mv rfl rfl (WL.mv rfl rfl (WL.lss rfl rfl rfl (WL.mv rfl rfl (WL.gT rfl rfl (by omega) (WL.mv rfl rfl (WL.gT rfl rfl (by omega) (WL.nc rfl rfl (WL.gT rfl rfl (by omega) (WL.faN (T := Ty) (off' := 2) rfl rfl rfl rfl rfl rfl rfl (WL.gT rfl rfl (by omega) ?_)))))))))))))
            refine WL.ldN (T := Ty) (j := 1) rfl rfl rfl rfl rfl rfl (WL.gT rfl rfl (by omega) (WL.not rfl rfl (WL.pickTp rfl rfl (by omega) rfl (WL.nil (W.condT rfl (W.skip (W.seq (W.block (W.seq (W.seq (W.region (WL.mv rfl rfl (WL.eql rfl rfl rfl ?_)))))))))))))
            refine WL.nil (W.condpF rfl (by omega) (W.skip (W.seq (W.region (WL.as rfl rfl (WL.nil (W.seq (W.seq (W.region (WL.mv rfl rfl ?_))))))))))
            refine WL.callM 1 rfl rfl rfl (fun x p d => rget1_e _ _ _ _ _ _ (by assumption) (by first | assumption | exact ROs.wide (by assumption) | exact ROs.mono (by assumption) (eqh_at 0 rfl p d) | exact ros_at 0 rfl p d | exact ros_at 1 rfl p d | exact ros_at 2 rfl p d | exact ros_at 3 rfl p d | exact ros_at 4 rfl p d) (by first | exact Nat.zero_le _ | assumption) (by first | assumption | omega) (by assumption)) (by repeat' constructor) ?_
            refine WL.eql rfl rfl rfl (WL.nil (W.condpT rfl (by omega) (W.seq (W.seq (W.region (WL.mv rfl rfl ?_))))))
            refine WL.callM 1 rfl rfl rfl (fun x p d => rget1_e _ _ _ _ _ _ (by assumption) (by first | assumption | exact ROs.wide (by assumption) | exact ROs.mono (by assumption) (eqh_at 0 rfl p d) | exact ros_at 0 rfl p d | exact ros_at 1 rfl p d | exact ros_at 2 rfl p d | exact ros_at 3 rfl p d | exact ros_at 4 rfl p d) (by first | exact Nat.zero_le _ | assumption) (by first | assumption | omega) (by assumption)) (by repeat' constructor) ?_
            refine WL.eql rfl rfl rfl (WL.nil (W.condpF rfl (by omega) (W.seq (W.region (WL.mv rfl rfl (WL.not rfl rfl (WL.nil (W.condT rfl (W.seq (W.region (WL.as rfl rfl (WL.as rfl rfl (WL.nil ?_)))))))))))))
            refine W.drop 0 rfl (by repeat' constructor) ?_
            refine W.nb (sz := 1) ?_
            exact W.ret2 rfl rfl rfl (fun h p => rowXnone hnone a2 p)
          | true =>
            obtain ⟨g3, s3, e3⟩ : ∃ g s', getF bs s2 ((64 - a - t : Nat) : Int) = (g, s') := ⟨_, _, rfl⟩
            have a3 := getF_at bs s2 ((64 - a - t : Nat) : Int) a2
            rw [e3] at a3
            simp only [] at a3
            have e3' : getF bs s2 (64 - (a : Int) - (t : Int)) = (g3, s3) := by rw [← e3]; congr 1; omega
            have hr : rturnX bs ⟨true, a, t⟩ ⟨qa, false⟩ = some (g3 * 2 ^ t % 18446744073709551616, ⟨true, a, t⟩, s3) := by
              have elng : lngX ⟨true, a, t⟩ = 64 - a - t := rfl
              unfold rturnX; rw [e1, if_pos c1]; simp only []; rw [e2, if_neg c2, elng, e3]; simp
            have hxl : g3 * 2 ^ t % 18446744073709551616 < 18446744073709551616 := Nat.mod_lt _ (by decide)
            refine W.seq (W.seq (W.region (WL.mv rfl rfl (WL.mv rfl rfl (WL.lss rfl rfl rfl (WL.mv rfl rfl (WL.gT rfl rfl (by omega) (WL.mv rfl rfl (WL.gT rfl rfl (by omega) (WL.nc rfl rfl (WL.gT rfl rfl (by omega) (WL.faN (T := Ty) (off' := 2) rfl rfl rfl rfl rfl rfl rfl (WL.gT rfl rfl (by omega) ?_)))))))))))))
            refine WL.ldN (T := Ty) (j := 1) rfl rfl rfl rfl rfl rfl (WL.gT rfl rfl (by omega) (WL.not rfl rfl (WL.pickTp rfl rfl (by omega) rfl (WL.nil (W.condT rfl (W.skip (W.seq (W.block (W.seq (W.seq (W.region (WL.mv rfl rfl (WL.eql rfl rfl rfl ?_)))))))))))))
            refine WL.nil (W.condpF rfl (by omega) (W.skip (W.seq (W.region (WL.as rfl rfl (WL.nil (W.seq (W.seq (W.region (WL.mv rfl rfl ?_))))))))))
            refine WL.callM 1 rfl rfl rfl (fun x p d => rget1_e _ _ _ _ _ _ (by assumption) (by first | assumption | exact ROs.wide (by assumption) | exact ROs.mono (by assumption) (eqh_at 0 rfl p d) | exact ros_at 0 rfl p d | exact ros_at 1 rfl p d | exact ros_at 2 rfl p d | exact ros_at 3 rfl p d | exact ros_at 4 rfl p d) (by first | exact Nat.zero_le _ | assumption) (by first | assumption | omega) (by assumption)) (by repeat' constructor) ?_
            refine WL.eql rfl rfl rfl (WL.nil (W.condpT rfl (by omega) (W.seq (W.seq (W.region (WL.mv rfl rfl ?_))))))
            refine WL.callM 1 rfl rfl rfl (fun x p d => rget1_e _ _ _ _ _ _ (by assumption) (by first | assumption | exact ROs.wide (by assumption) | exact ROs.mono (by assumption) (eqh_at 0 rfl p d) | exact ros_at 0 rfl p d | exact ros_at 1 rfl p d | exact ros_at 2 rfl p d | exact ros_at 3 rfl p d | exact ros_at 4 rfl p d) (by first | exact Nat.zero_le _ | assumption) (by first | assumption | omega) (by assumption)) (by repeat' constructor) ?_
            refine WL.eql rfl rfl rfl (WL.nil (W.condpF rfl (by omega) (W.seq (W.region (WL.mv rfl rfl (WL.not rfl rfl (WL.nil (W.condF rfl (W.skip (W.region (WL.mv rfl rfl (WL.mv rfl rfl (WL.subK rfl rfl rfl (wrap_i64 ⟨by omega, by omega⟩) ?_)))))))))))))
            refine WL.mv rfl rfl (WL.subK rfl rfl rfl (wrap_i64 ⟨by omega, by omega⟩) ?_)
            refine WL.callM 1 rfl rfl rfl (fun x p d => rget1_e _ _ _ _ _ _ (by assumption) (by first | assumption | exact ROs.wide (by assumption) | exact ROs.mono (by assumption) (eqh_at 0 rfl p d) | exact ros_at 0 rfl p d | exact ros_at 1 rfl p d | exact ros_at 2 rfl p d | exact ros_at 3 rfl p d | exact ros_at 4 rfl p d) (by first | exact Nat.zero_le _ | assumption) (by first | assumption | omega) (by assumption)) (by repeat' constructor) ?_
            refine WL.mv rfl rfl (WL.cvK (T := Ty) rfl rfl rfl rfl (wrap_u64 ⟨by omega, by omega⟩) (WL.shlS rfl rfl rfl (by omega) rfl rfl (WL.as rfl rfl (WL.nil (W.region (WL.mv rfl rfl (WL.mv rfl rfl (WL.mv rfl rfl (WL.subK rfl rfl rfl (wrap_i64 ⟨by omega, by omega⟩) ?_)))))))))
            refine WL.ix (T := Ty) rfl rfl rfl (by assumption) rfl rfl (by omega) (by first | omega | decide +kernel) ?_
            refine WL.ldEK (T := Ty) (j := 0) rfl rfl rfl rfl rfl (by assumption) (by omega) ?_
            refine WL.mv rfl rfl (WL.xor rfl rfl rfl ?_)
            refine WL.bsC (T := Ty) rfl rfl rfl rfl rfl rfl rfl (by repeat' first | exact CO.nil | apply CO.one (by first | rfl | exact SL.one (by assumption)) | apply CO.agg) rfl (by repeat' constructor) (fun u0 hu0 => ?_)
            refine WL.ap1 (T := Ty) (i := 0) rfl rfl rfl rfl rfl rfl rfl rfl (by assumption) (by first | rfl | assumption) (by first | omega | (simp; omega) | (simp only [List.length_drop, List.length_take]; omega)) (by first | omega | (simp; omega) | (simp only [List.length_drop, List.length_take]; omega)) (fun v' => (by repeat' constructor)) (fun u1 hu1 => ?_)
            refine WL.as rfl rfl (WL.nil (W.inBlock (W.region (WL.mv rfl rfl (WL.addK rfl rfl rfl (wrap_i64 ⟨by omega, by omega⟩) (WL.as rfl rfl (WL.nil ?_)))))))
            rw [shl_val g3 t (by omega)]
            generalize g3 * 2 ^ t % 18446744073709551616 = x at *
            rw [xor_val hwasl hxl]
            refine W.sub ?_ (W.hs (fun h p => ?_) (fin x _ s3 hr hxl h6 a3 u1))
            · exact ⟨rfl, rfl, rfl, rfl, rfl, rfl, rfl, rfl, trivial⟩
            · rw [List.map_append]
              exact p
      · have hr : rturnX bs ⟨is, a, t⟩ ⟨qa, false⟩ = some (0, ⟨is, a, t⟩, s1) := by unfold rturnX; rw [e1, if_neg c1]
        have g10 : g1 = 0 := by omega
        have hx0 : bits .xor .u64 (was : Int) 0 = ((was ^^^ 0 : Nat) : Int) := xor_val hwasl (by decide)
        refine W.seq (W.seq (W.region (WL.mv rfl rfl (WL.mv rfl rfl (WL.lss rfl rfl rfl (WL.mv rfl rfl (WL.gT rfl rfl (by omega) (WL.mv rfl rfl (WL.gT rfl rfl (by omega) (WL.nc rfl rfl (WL.gT rfl rfl (by omega) (WL.faN (T := Ty) (off' := 2) rfl rfl rfl rfl rfl rfl rfl (WL.gT rfl rfl (by omega) ?_)))))))))))))
        refine WL.ldN (T := Ty) (j := 1) rfl rfl rfl rfl rfl rfl (WL.gT rfl rfl (by omega) (WL.not rfl rfl (WL.pickTp rfl rfl (by omega) rfl (WL.nil (W.condT rfl (W.skip (W.seq (W.block (W.seq (W.seq (W.region (WL.mv rfl rfl (WL.eql rfl rfl rfl ?_)))))))))))))
        refine WL.nil (W.condpF rfl (by omega) (W.skip (W.seq (W.region (WL.as rfl rfl (WL.nil (W.seq (W.seq (W.region (WL.mv rfl rfl ?_))))))))))
        refine WL.callM 1 rfl rfl rfl (fun x p d => rget1_e _ _ _ _ _ _ (by assumption) (by first | assumption | exact ROs.wide (by assumption) | exact ROs.mono (by assumption) (eqh_at 0 rfl p d) | exact ros_at 0 rfl p d | exact ros_at 1 rfl p d | exact ros_at 2 rfl p d | exact ros_at 3 rfl p d | exact ros_at 4 rfl p d) (by first | exact Nat.zero_le _ | assumption) (by first | assumption | omega) (by assumption)) (by repeat' constructor) ?_
        refine WL.eql rfl rfl rfl (WL.nil (W.condpF rfl (by omega) (W.skip (W.region (WL.mv rfl rfl (WL.mv rfl rfl (WL.mv rfl rfl (WL.subK rfl rfl rfl (wrap_i64 ⟨by omega, by omega⟩) ?_))))))))
        refine WL.ix (T := Ty) rfl rfl rfl (by assumption) rfl rfl (by omega) (by first | omega | decide +kernel) ?_
        refine WL.ldEK (T := Ty) (j := 0) rfl rfl rfl rfl rfl (by assumption) (by omega) ?_
        refine WL.mv rfl rfl (WL.xor rfl rfl rfl ?_)
        refine WL.bsC (T := Ty) rfl rfl rfl rfl rfl rfl rfl (by repeat' first | exact CO.nil | apply CO.one (by first | rfl | exact SL.one (by assumption)) | apply CO.agg) rfl (by repeat' constructor) (fun u0 hu0 => ?_)
        refine WL.ap1 (T := Ty) (i := 0) rfl rfl rfl rfl rfl rfl rfl rfl (by assumption) (by first | rfl | assumption) (by first | omega | (simp; omega) | (simp only [List.length_drop, List.length_take]; omega)) (by first | omega | (simp; omega) | (simp only [List.length_drop, List.length_take]; omega)) (fun v' => (by repeat' constructor)) (fun u1 hu1 => ?_)
        refine WL.as rfl rfl (WL.nil (W.inBlock (W.region (WL.mv rfl rfl (WL.addK rfl rfl rfl (wrap_i64 ⟨by omega, by omega⟩) (WL.as rfl rfl (WL.nil ?_)))))))
        rw [hx0]
        refine W.sub ?_ (W.hs (fun h p => ?_) (fin 0 _ s1 hr (by decide) h6 a1 u1))
        · exact ⟨rfl, rfl, rfl, rfl, rfl, rfl, rfl, rfl, trivial⟩
        · rw [List.map_append]
          exact p
theorem rgetx_s (ρ : Hp) (b : Nat) (v : Value) (bs : List Nat) (a0 : Nat) (n : Int) {ts : List Nat} {s' : RdSt} (hv : ROs ρ 1 v (bs.map bcell)) (e : decX bs ⟨a0, false⟩ n = some (ts, s')) (hs : a0 ≤ 8 * bs.length) (hl : bs.length ≤ 140737488355328) (hw : ∀ x ∈ bs, x < 256) :
    Fn Tryd.prog 42 #[ptr b, .int .i64 n] ρ [RRe b v ⟨a0, false⟩] (fun r h => ∃ u, r = .tuple #[u, .bool true] ∧ sepl [Buf 1 u (ts.map ucell), RRe b v s'] h) := by
  have := rgetx_c ρ b v bs a0 n hv hs hl hw
  rw [refX_eq bs a0 n hs, e] at this
  exact this.mono (fun r h ⟨v, hr, q, ⟨hq, _⟩, p⟩ => ⟨v, hr, by rw [hq _ rfl] at p; exact p⟩)
end Go.Proofs.YtdpnpipninggeaaDoor
