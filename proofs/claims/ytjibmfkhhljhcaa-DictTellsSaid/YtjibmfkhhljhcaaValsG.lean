/- Rows of values, out of numbers: what layer 5's statements take. -/
import Derived.Test.YtjibmfkhhljhcaaStc
import Derived.Test.YtjibmfkhhljhcaaNum
import Derived.Test.YtjibmfkhhljhcaaTab
set_option linter.unusedSimpArgs false
set_option linter.unusedVariables false
set_option maxRecDepth 20000
set_option maxHeartbeats 4000000
namespace Go.Proofs.Ytjibmfkhhljhcaa
open Go
attribute [local irreducible] W WL Fn Buf ROs SL eptr box Rd Src bndOK WD RB Reads In

theorem wrap_u64_bnd (n : Int) : 0 ≤ IntKind.u64.wrap n ∧ IntKind.u64.wrap n < 18446744073709551616 := by
  simp [IntKind.wrap, IntKind.bits, IntKind.signed]; omega
theorem bits_u64_bnd (x y : Int) : 0 ≤ bits .xor .u64 x y ∧ bits .xor .u64 x y < 18446744073709551616 := by
  unfold bits
  exact wrap_u64_bnd _
-- CALL 16 refine WL.callF rfl rfl (fun x p d => vals_c _ _ _ _ $RO (by first | assumption | omega | decide) (by first | assumption | omega | decide)) (fun u$N => ?_) ;; refine WL.ex (fun vs => ?_) ;; refine WL.pure (fun hvs => ?_) ;; refine WL.fact (i := 0) rfl (fun h hb => Buf.slm hb) (fun hsl$N => ?_)
theorem vals_c (ρ : Hp) (v : Value) (l : List Nat) (how : Int) (hv : ROs ρ 1 v (l.map ucell)) (hw : ∀ x ∈ l, x < 18446744073709551616) (hl : l.length ≤ 17592186044416) :
    Fn Try.prog 16 #[v, .int .i64 how] ρ [] (fun r h => ∃ vs : List Nat, (vs.length ≤ 60 ∧ ∀ x ∈ vs, x < 18446744073709551616) ∧ Buf 1 r (vs.map ucell) h) := by
  refine in16 rfl rfl ?_
  have sv := hv.slm
  refine W.seq ?_
  refine W.region ?_
  refine WL.as rfl rfl ?_
  refine WL.nil ?_
  refine W.seq ?_
  refine W.region ?_
  refine WL.as rfl rfl ?_
  refine WL.nil ?_
  refine W.seq ?_
  refine W.region ?_
  refine WL.as rfl rfl ?_
  refine WL.nil ?_
  refine W.seq ?_
  refine W.seq ?_
  refine W.region ?_
  refine WL.as rfl rfl ?_
  refine WL.nil ?_
  refine W.block ?_
  refine W.nb (sz := 1) ?_
  refine W.loopS (σ := Nat × Value × List Nat × Nat) (fun s => [(0, v), (1, .int .i64 how), (5, s.2.1), (6, .int .u64 (s.2.2.2 : Int)), (7, .int .i64 (s.1 : Int))]) (fun s => [Buf 1 s.2.1 (s.2.2.1.map ucell)])
    (fun s => s.1 ≤ 60 ∧ s.2.2.1.length = s.1 ∧ (∀ x ∈ s.2.2.1, x < 18446744073709551616) ∧ s.2.2.2 < 18446744073709551616) (fun s => 60 - s.1) (0, .slice none 0 0, [], 0) ⟨rfl, rfl, rfl, rfl, rfl, trivial⟩ rfl ⟨by decide, rfl, by simp, by decide⟩ ?_
  rintro ⟨i, o, os, last⟩ ⟨hi, hol, hos, hlast⟩ next
  simp only [] at hi hol hos hlast next ⊢
  refine W.fact (i := 0) rfl (fun h hb => Buf.slm hb) (fun hso => ?_)
  rcases (by omega : (i < l.length ∧ i < 60) ∨ ¬ i < l.length ∨ (i < l.length ∧ ¬ i < 60)) with ⟨h1, h2⟩ | h1 | ⟨h1, h2⟩
  · obtain ⟨x, hx⟩ : ∃ x, l[i]? = some x := ⟨_, List.getElem?_eq_getElem h1⟩
    have hxl := hw x (List.mem_of_getElem? hx)
    have hx1 : (l.map ucell)[i]? = some (ucell x) := by rw [List.getElem?_map, hx]; rfl
    refine W.seq ?_
    refine W.seq ?_
    refine W.region ?_
    refine WL.mv rfl rfl ?_
    refine WL.mv rfl rfl ?_
    refine WL.len (T := Ty) rfl rfl (by assumption) rfl ?_
    refine WL.lss rfl rfl rfl ?_
    refine WL.mv rfl rfl ?_
    refine WL.gT rfl rfl (by omega) ?_
    refine WL.mv rfl rfl ?_
    refine WL.gT rfl rfl (by omega) ?_
    refine WL.lss rfl rfl rfl ?_
    refine WL.pickTp rfl rfl (by omega) rfl ?_
    refine WL.nil ?_
    refine W.condpT rfl (by omega) ?_
    refine W.skip ?_
    refine W.seq ?_
    refine W.block ?_
    refine W.seq ?_
    refine W.region ?_
    refine WL.mv rfl rfl ?_
    refine WL.mv rfl rfl ?_
    refine WL.ix (T := Ty) rfl rfl rfl (by assumption) rfl rfl (by omega) (by first | omega | decide +kernel) ?_
    refine WL.ldKn (T := Ty) rfl rfl rfl rfl (by first | assumption | exact ROs.wide (by assumption)) (by assumption) ?_
    refine WL.as rfl rfl ?_
    refine WL.nil ?_
    refine W.seq ?_
    refine W.seq ?_
    refine W.region ?_
    refine WL.mv rfl rfl ?_
    refine WL.andI rfl rfl rfl (by decide) ?_
    refine WL.nil ?_
    refine W.block ?_
    refine W.seq ?_
    refine W.region ?_
    refine WL.eql rfl rfl rfl ?_
    refine WL.as rfl rfl ?_
    refine WL.nil ?_
    refine W.cut2 (τ := Int) (fun e => [(0, v), (1, .int .i64 how), (5, o), (6, .int .u64 (last : Int)), (7, .int .i64 (i : Int)), (8, .int .u64 e)]) (fun _ => [Buf 1 o (os.map ucell)]) (fun e => 0 ≤ e ∧ e < 18446744073709551616) ?_ (fun cut1 => ?_)
    · intro e he
      obtain ⟨m, rfl⟩ := Int.eq_ofNat_of_zero_le he.1
      refine W.seq ?_
      refine W.region ?_
      refine WL.mv rfl rfl ?_
      refine WL.mv rfl rfl ?_
      refine WL.bsC (T := Ty) rfl rfl rfl rfl rfl rfl rfl (by repeat' first | exact CO.nil | apply CO.one (by first | rfl | exact SL.one (by assumption)) | apply CO.agg) rfl (by repeat' first | exact FL.nil | apply FL.cons) (fun u0 hu0 => ?_)
      refine WL.ap1 (T := Ty) (i := 0) rfl rfl rfl rfl rfl rfl rfl rfl (by assumption) (by first | rfl | assumption) (by first | omega | (simp; omega)) (by first | omega | (simp; omega)) (fun v' => (by repeat' first | exact FL.nil | apply FL.cons)) (fun u1 hu1 => ?_)
      refine WL.as rfl rfl ?_
      refine WL.nil ?_
      refine W.region ?_
      refine WL.mv rfl rfl ?_
      refine WL.as rfl rfl ?_
      refine WL.nil ?_
      refine W.inBlock ?_
      refine W.region ?_
      refine WL.mv rfl rfl ?_
      refine WL.addK rfl rfl rfl (wrap_i64 ⟨by omega, by omega⟩) ?_
      refine WL.as rfl rfl ?_
      refine WL.nil ?_
      refine W.sub ?_ (W.hs (fun h p => ?_) (next ⟨i + 1, u1, os ++ [m], m⟩ ⟨by omega, by simp [hol], ?_, by simp only []; omega⟩ (by simp only []; omega)))
      · exact ⟨rfl, rfl, rfl, rfl, rfl, trivial⟩
      · simpa [ucell] using p
      · intro y hy
        rcases List.mem_append.1 hy with h | h
        · exact hos y h
        · simp at h; omega
    refine W.condp rfl (fun hk0 => ?_) (fun hk0 => ?_)
    · refine W.region ?_
      refine WL.mv rfl rfl ?_
      refine WL.andU rfl rfl rfl rfl (by decide) (by omega) (by simp only [IntKind.bits]; omega) ?_
      refine WL.as rfl rfl ?_
      refine WL.nil ?_
      refine W.inBlock ?_
      refine W.sub ?_ (cut1 ((x : Int) % (3 + 1)) ⟨by omega, by omega⟩)
      exact ⟨rfl, rfl, rfl, rfl, rfl, rfl, trivial⟩
    · refine W.seq ?_
      refine W.region ?_
      refine WL.eql rfl rfl rfl ?_
      refine WL.as rfl rfl ?_
      refine WL.nil ?_
      refine W.condp rfl (fun hk1 => ?_) (fun hk1 => ?_)
      · refine W.region ?_
        refine WL.mv rfl rfl ?_
        refine WL.mv rfl rfl ?_
        refine WL.andU rfl rfl rfl rfl (by decide) (by omega) (by simp only [IntKind.bits]; omega) ?_
        refine WL.add (K := .u64) rfl rfl rfl ?_
        refine WL.as rfl rfl ?_
        refine WL.nil ?_
        refine W.inBlock ?_
        refine W.sub ?_ (cut1 (IntKind.u64.wrap ((last : Int) + (x : Int) % (15 + 1))) (wrap_u64_bnd _))
        exact ⟨rfl, rfl, rfl, rfl, rfl, rfl, trivial⟩
      · refine W.seq ?_
        refine W.region ?_
        refine WL.eql rfl rfl rfl ?_
        refine WL.as rfl rfl ?_
        refine WL.nil ?_
        refine W.condp rfl (fun hk2 => ?_) (fun hk2 => ?_)
        · refine W.region ?_
          refine WL.mv rfl rfl ?_
          refine WL.mv rfl rfl ?_
          refine WL.andU rfl rfl rfl rfl (by decide) (by omega) (by simp only [IntKind.bits]; omega) ?_
          refine WL.shlS rfl rfl rfl (by omega) rfl rfl ?_
          refine WL.xor rfl rfl rfl ?_
          refine WL.as rfl rfl ?_
          refine WL.nil ?_
          refine W.inBlock ?_
          refine W.sub ?_ (cut1 (bits .xor .u64 (last : Int) (IntKind.u64.wrap (1 * 2 ^ min (((x : Int) % (63 + 1)).toNat) IntKind.u64.bits))) (bits_u64_bnd _ _))
          exact ⟨rfl, rfl, rfl, rfl, rfl, rfl, trivial⟩
        · refine W.seq ?_
          refine W.region ?_
          refine WL.eql rfl rfl rfl ?_
          refine WL.as rfl rfl ?_
          refine WL.nil ?_
          refine W.condp rfl (fun hk3 => ?_) (fun hk3 => ?_)
          · refine W.region ?_
            refine WL.mv rfl rfl ?_
            refine WL.andU rfl rfl rfl rfl (by decide) (by omega) (by simp only [IntKind.bits]; omega) ?_
            refine WL.mulK rfl rfl rfl (wrap_u64 ⟨by omega, by omega⟩) ?_
            refine WL.as rfl rfl ?_
            refine WL.nil ?_
            refine W.inBlock ?_
            refine W.sub ?_ (cut1 ((x : Int) % (1 + 1) * 7) ⟨by omega, by omega⟩)
            exact ⟨rfl, rfl, rfl, rfl, rfl, rfl, trivial⟩
          · refine W.seq ?_
            refine W.region ?_
            refine WL.eql rfl rfl rfl ?_
            refine WL.as rfl rfl ?_
            refine WL.nil ?_
            refine W.condp rfl (fun hk4 => ?_) (fun hk4 => ?_)
            · refine W.region ?_
              refine WL.mv rfl rfl ?_
              refine WL.mv rfl rfl ?_
              refine WL.andU rfl rfl rfl rfl (by decide) (by omega) (by simp only [IntKind.bits]; omega) ?_
              refine WL.add (K := .u64) rfl rfl rfl ?_
              refine WL.sub' (K := .u64) rfl rfl rfl ?_
              refine WL.as rfl rfl ?_
              refine WL.nil ?_
              refine W.inBlock ?_
              refine W.sub ?_ (cut1 (IntKind.u64.wrap (IntKind.u64.wrap ((last : Int) + (x : Int) % (65535 + 1)) - 32768)) (wrap_u64_bnd _))
              exact ⟨rfl, rfl, rfl, rfl, rfl, rfl, trivial⟩
            · refine W.seq ?_
              refine W.region ?_
              refine WL.eql rfl rfl rfl ?_
              refine WL.as rfl rfl ?_
              refine WL.nil ?_
              refine W.condp rfl (fun hk5 => ?_) (fun hk5 => ?_)
              · refine W.region ?_
                refine WL.mv rfl rfl ?_
                refine WL.shrS (c := 16) rfl rfl rfl (by omega) (by decide) ?_
                refine WL.as rfl rfl ?_
                refine WL.nil ?_
                refine W.inBlock ?_
                refine W.sub ?_ (cut1 ((x : Int) / 16) ⟨by omega, by omega⟩)
                exact ⟨rfl, rfl, rfl, rfl, rfl, rfl, trivial⟩
              · refine W.skip ?_
                refine W.inBlock ?_
                refine W.sub ?_ (cut1 (x : Int) ⟨by omega, by omega⟩)
                exact ⟨rfl, rfl, rfl, rfl, rfl, rfl, trivial⟩
  · refine W.seq ?_
    refine W.seq ?_
    refine W.region ?_
    refine WL.mv rfl rfl ?_
    refine WL.mv rfl rfl ?_
    refine WL.len (T := Ty) rfl rfl (by assumption) rfl ?_
    refine WL.lss rfl rfl rfl ?_
    refine WL.mv rfl rfl ?_
    refine WL.gdTn rfl rfl rfl rfl rfl (by omega) ?_
    refine WL.gdTn rfl rfl rfl rfl rfl (by omega) ?_
    refine WL.pickFp rfl rfl (by omega) rfl ?_
    refine WL.nil ?_
    refine W.condF rfl ?_
    refine W.exit rfl ?_
    refine W.seq ?_
    refine W.region ?_
    refine WL.mv rfl rfl ?_
    refine WL.as rfl rfl ?_
    refine WL.nil ?_
    exact W.ret1 rfl rfl (fun h p => ⟨os, ⟨by omega, hos⟩, sepl_one.1 p⟩)
  · refine W.seq ?_
    refine W.seq ?_
    refine W.region ?_
    refine WL.mv rfl rfl ?_
    refine WL.mv rfl rfl ?_
    refine WL.len (T := Ty) rfl rfl (by assumption) rfl ?_
    refine WL.lss rfl rfl rfl ?_
    refine WL.mv rfl rfl ?_
    refine WL.gT rfl rfl (by omega) ?_
    refine WL.mv rfl rfl ?_
    refine WL.gT rfl rfl (by omega) ?_
    refine WL.lss rfl rfl rfl ?_
    refine WL.pickTp rfl rfl (by omega) rfl ?_
    refine WL.nil ?_
    refine W.condpF rfl (by omega) ?_
    refine W.exit rfl ?_
    refine W.seq ?_
    refine W.region ?_
    refine WL.mv rfl rfl ?_
    refine WL.as rfl rfl ?_
    refine WL.nil ?_
    exact W.ret1 rfl rfl (fun h p => ⟨os, ⟨by omega, hos⟩, sepl_one.1 p⟩)
end Go.Proofs.Ytjibmfkhhljhcaa
