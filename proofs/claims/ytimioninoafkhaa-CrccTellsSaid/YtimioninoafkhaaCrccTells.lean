/- CrccTells. -/
import Derived.Test.YtimioninoafkhaaArr
import Derived.Test.YtimioninoafkhaaNum
import Derived.Test.YtimioninoafkhaaTab
import Derived.Test.YtimioninoafkhaaCrccAwake
set_option linter.unusedSimpArgs false
set_option linter.unusedVariables false
set_option maxRecDepth 20000
set_option maxHeartbeats 4000000
namespace Go.Proofs.Ytimioninoafkhaa
open Go
attribute [local irreducible] W WL Fn Buf ROs SL eptr box Rd Src bndOK WD RB Reads

theorem fold_same (bs : List Nat) (h : ∀ x ∈ bs, x < 256) (c : Nat) : bs.foldl (stepT tblL) c = bs.foldl stepR c := by
  induction bs generalizing c with
  | nil => rfl
  | cons x bs ih => rw [List.foldl_cons, List.foldl_cons, step_same c x (h x (by simp)), ih (fun y hy => h y (by simp [hy]))]
theorem sum_same (bs : List Nat) (h : ∀ x ∈ bs, x < 256) : sumT tblL bs = sumR bs := by unfold sumT sumR; rw [fold_same bs h]
theorem set_lt {L : List Nat} {i m : Nat} (hL : ∀ x ∈ L, x < 4294967296) (hm : m < 4294967296) : ∀ x ∈ L.set i m, x < 4294967296 := fun x hx => (List.mem_or_eq_of_mem_set hx).elim (hL x) (fun e => by omega)

theorem CrccTells_fn (ρ : Hp) (v0 : Value) (z0 : List Int) (r0 : ROs ρ 1 v0 (z0.map (Value.int .u8))) (m0 : ∀ n ∈ z0, (Lit.int .u8 n).wf = true) (y0 : z0.length * 1 ≤ 140737488351232) (a1 : Int) (w1 : (Lit.int .i64 a1).wf = true) (a2 : Int) (w2 : (Lit.int .i64 a2).wf = true) :
    Fn Try.prog 5 #[v0, .int .i64 a1, .int .i64 a2] ρ [] (fun r _ => r = .bool true) := by
  obtain ⟨bs, hbs, hlen, hlt⟩ := bytes_of m0
  rw [hbs] at r0
  refine in5 rfl rfl ?_
  have hs0 : SL v0 bs.length := r0.sl (by simp) (by omega)
  have hsame := sum_same bs hlt
  have hlt' := hlt
  refine W.seq ?_
  refine W.region ?_
  refine WL.as rfl rfl ?_
  refine WL.nil ?_
  refine W.seq ?_
  refine W.seq ?_
  refine W.region ?_
  refine WL.mv rfl rfl ?_
  refine WL.len (T := Ty) rfl rfl (by assumption) rfl ?_
  refine WL.gtr rfl rfl rfl ?_
  refine WL.nil ?_
  refine W.condp rfl (fun hbig => ?_) (fun hsmall => ?_)
  · refine W.seq ?_
    refine W.region ?_
    refine WL.callT rfl rfl (fun x p d => awake3_c _) ?_
    refine WL.as rfl rfl ?_
    refine WL.nil ?_
    exact W.ret1 rfl rfl (fun h p => rfl)
  · refine W.skip ?_
    refine W.seq ?_
    refine W.region ?_
    refine WL.callT (v := AG tblL) rfl rfl (fun x p d => table_c _) ?_
    refine WL.alX (T := Ty) (cs := (List.replicate 256 0).map ucell) rfl rfl (by simp [Value.cells, ucell]) (fun b => ?_)
    refine WL.stW (T := Ty) (j := 0) (cs := tblL.map ucell) rfl rfl rfl (by rw [tbl_len]; rfl) (one_ucell _) rfl (by rw [tbl_len, zero_len]) (by repeat' first | exact FL.nil | apply FL.cons) ?_
    refine WL.nil ?_
    refine W.seq ?_
    refine W.seq ?_
    refine W.region ?_
    refine WL.as rfl rfl ?_
    refine WL.nil ?_
    refine W.block ?_
    refine W.loopS (σ := Nat) (fun i => [(0, v0), (1, .int .i64 a1), (2, .int .i64 a2), (7, .pointer (some ⟨b, 0, none⟩)), (8, .int .i64 (i : Int))]) (fun i => [box b (tblL.map ucell) 26])
      (fun i => i ≤ 256) (fun i => 256 - i) 0 ⟨rfl, rfl, rfl, rfl, rfl, trivial⟩ rfl (by omega) ?_
    intro i hi next
    refine W.seq ?_
    refine W.seq ?_
    refine W.region ?_
    refine WL.mv rfl rfl ?_
    refine WL.lss rfl rfl rfl ?_
    refine WL.nil ?_
    refine W.condp rfl (fun hlt6 => ?_) (fun hge6 => ?_)
    · have hi6 : i < 256 := by omega
      refine W.skip ?_
      refine W.seq ?_
      refine W.block ?_
      refine W.seq ?_
      refine W.draw 7 [box b (tblL.map ucell) 26] [] rfl (fun h p => p) (fun σ hσ dσ => ?_)
      have rb := rb_at (ρ := ρ) 0 rfl hσ dσ
      refine WD.takeL 0 rfl (by decide +kernel) ?_
      refine WL.mv rfl rfl ?_
      refine WL.nilT ?_
      refine WD.takeL 1 rfl (by decide +kernel) ?_
      refine WL.ixX (T := Ty) (o' := i) rfl rfl rfl rfl rfl (by omega) (by omega) (by simp) ?_
      refine WL.nilT ?_
      refine WD.takeL 2 rfl (by decide +kernel) ?_
      refine WL.ldB (T := Ty) (v := ucell (entF i)) rfl rfl rfl rfl rb (tbl_get i hi6) ?_
      refine WL.nilT ?_
      refine WD.takeL 3 rfl (by decide +kernel) ?_
      refine WL.mv rfl rfl ?_
      refine WL.nilT ?_
      refine WD.takeL 4 rfl (by decide +kernel) ?_
      refine WL.cvK (T := Ty) rfl rfl rfl rfl (wrap_u32 ⟨by omega, by omega⟩) ?_
      refine WL.nilT ?_
      refine WD.oneL 5 rfl (by decide +kernel) ?_
      skip
      refine WL.callV rfl rfl (fun x p d => ent_c _ i (by omega)) ?_
      refine WL.nilE ?_
      refine WD.takeL 6 rfl (by decide +kernel) ?_
      refine WL.neq rfl rfl rfl ?_
      refine WL.nilT ?_
      refine WD.doneH hσ (by decide +kernel) ?_
      unfold ucell
      refine W.condpF rfl (by omega) ?_
      refine W.skip ?_
      refine W.inBlock ?_
      refine W.region ?_
      refine WL.mv rfl rfl ?_
      refine WL.addK rfl rfl rfl (wrap_i64 ⟨by omega, by omega⟩) ?_
      refine WL.as rfl rfl ?_
      refine WL.nil ?_
      refine W.sub ?_ (next (i + 1) (by omega) (by omega))
      exact ⟨rfl, rfl, rfl, rfl, rfl, trivial⟩
    · obtain ⟨m2, hm2, hm32⟩ : ∃ m2 : Nat, IntKind.u32.wrap a2 = (m2 : Int) ∧ m2 < 4294967296 := ⟨(a2 % 4294967296).toNat, by simp [IntKind.wrap, IntKind.bits, IntKind.signed]; omega, by omega⟩
      obtain ⟨j, hj, hj256⟩ : ∃ j : Nat, a1 % (255 + 1) = (j : Int) ∧ j < 256 := ⟨(a1 % (255 + 1)).toNat, by omega, by omega⟩
      refine W.exit rfl ?_
      refine W.seq ?_
      refine W.seq ?_
      refine W.region ?_
      refine WL.ldW (T := Ty) (j := 0) rfl rfl rfl rfl rfl (by rw [tbl_len]; rfl) ?_
      refine WL.mv rfl rfl ?_
      refine WL.callT (v := .int .u32 (sumR bs : Int)) rfl rfl (fun x p d => by have := sum_c (join ρ x) tblL v0 bs tblL_lt tblL_len r0.wide hlt (by omega); rw [hsame] at this; exact this) ?_
      refine WL.mv rfl rfl ?_
      refine WL.callV rfl rfl (fun x p d => rsum_c _ v0 bs r0.wide hlt (by omega)) ?_
      refine WL.neq rfl rfl rfl ?_
      refine WL.nil ?_
      refine W.condpF rfl (by omega) ?_
      refine W.skip ?_
      refine W.seq ?_
      refine W.region ?_
      refine WL.ldW (T := Ty) (j := 0) rfl rfl rfl rfl rfl (by rw [tbl_len]; rfl) ?_
      refine WL.alX (T := Ty) (cs := (List.replicate 256 0).map ucell) rfl rfl (by simp [Value.cells, ucell]) (fun b9 => ?_)
      refine WL.stW (T := Ty) (j := 0) (cs := tblL.map ucell) rfl rfl rfl (by rw [tbl_len]; rfl) (one_ucell _) rfl (by rw [tbl_len, zero_len]) (by repeat' first | exact FL.nil | apply FL.cons) ?_
      refine WL.nil ?_
      refine W.seq ?_
      refine W.region ?_
      refine WL.mv rfl rfl ?_
      refine WL.andI rfl rfl rfl (by decide) ?_
      refine WL.mv rfl rfl ?_
      refine WL.cv (T := Ty) rfl rfl rfl rfl ?_
      refine WL.ixX (T := Ty) (o' := j) rfl rfl rfl rfl rfl (by omega) (by omega) (by rw [hj]; simp) ?_
      refine WL.stX (T := Ty) (j := 0) (c' := (tblL.set j m2).map ucell) rfl rfl rfl rfl rfl rfl (by rw [tbl_len]; omega) (by rw [hm2, List.map_set]; rfl) (by repeat' first | exact FL.nil | apply FL.cons) ?_
      have hXlt := set_lt (i := j) tblL_lt hm32
      have hXlen : (tblL.set j m2).length = 256 := by rw [List.length_set, tblL_len]
      have hXl2 : ((tblL.set j m2).map ucell).length = 256 := by rw [List.length_map, hXlen]
      generalize tblL.set j m2 = X at hXlt hXlen hXl2
      refine WL.nil ?_
      refine W.seq ?_
      refine W.region ?_
      refine WL.as rfl rfl ?_
      refine WL.nil ?_
      refine W.seq ?_
      refine W.seq ?_
      refine W.region ?_
      refine WL.mv rfl rfl ?_
      refine WL.len (T := Ty) rfl rfl (by assumption) rfl ?_
      refine WL.mv rfl rfl ?_
      refine WL.nil ?_
      refine W.block ?_
      refine W.loopS (σ := Nat × Nat) (fun s => [(0, v0), (7, .pointer (some ⟨b, 0, none⟩)), (9, .pointer (some ⟨b9, 0, none⟩)), (10, .int .u32 (s.2 : Int)), (41, .int .i64 (bs.length : Int)), (42, .int .i64 (s.1 : Int))]) (fun s => [box b9 (X.map ucell) 26, box b (tblL.map ucell) 26])
        (fun s => s.1 ≤ bs.length ∧ s.2 < 4294967296 ∧ (bs.drop s.1).foldl (stepT X) s.2 = bs.foldl (stepT X) 4294967295) (fun s => bs.length - s.1) (0, 4294967295) ⟨rfl, rfl, rfl, rfl, rfl, rfl, trivial⟩ rfl ⟨by simp, by simp, rfl⟩ ?_
      rintro ⟨q, c⟩ ⟨h1, h2, h3⟩ next
      simp only [] at h1 h2 h3 next ⊢
      refine W.seq ?_
      refine W.region ?_
      refine WL.lss rfl rfl rfl ?_
      refine WL.nil ?_
      refine W.seq ?_
      refine W.condp rfl (fun hlt => ?_) (fun hge => ?_)
      · have hq : q < bs.length := by omega
        obtain ⟨x, hx⟩ : ∃ x, bs[q]? = some x := ⟨_, List.getElem?_eq_getElem hq⟩
        have hx8 : x < 256 := hlt' x (List.mem_of_getElem? hx)
        rw [drop_cons hx, List.foldl_cons] at h3
        have hidx : bits .xor .u8 (IntKind.u8.wrap (c : Int)) (x : Int) = (((c % 256) ^^^ x : Nat) : Int) := by
          rw [wrapU8, xor_u8 _ _ (Nat.mod_lt _ (by decide)) hx8]
        have hidx8 : (c % 256) ^^^ x < 256 := Nat.xor_lt_two_pow (n := 8) (Nat.mod_lt _ (by decide)) hx8
        refine W.skip ?_
        refine W.seq ?_
        refine W.block ?_
        refine W.seq ?_
        refine W.region ?_
        refine WL.mv rfl rfl ?_
        refine WL.as rfl rfl ?_
        refine WL.nil ?_
        refine W.region ?_
        refine WL.mv rfl rfl ?_
        refine WL.cv (T := Ty) rfl rfl rfl rfl ?_
        refine WL.mv rfl rfl ?_
        refine WL.mv rfl rfl ?_
        refine WL.ix (T := Ty) rfl rfl rfl (by assumption) rfl rfl (by omega) (by omega) ?_
        refine WL.ldR (T := Ty) (v := bcell x) rfl rfl rfl rfl r0 (by rw [show ((q : Int)).toNat * 1 = q by omega]; simp [hx]) ?_
        unfold bcell
        refine WL.xor rfl rfl rfl ?_
        refine WL.ixX (T := Ty) (o' := (c % 256) ^^^ x) rfl rfl rfl rfl rfl (by rw [hidx]; omega) (by rw [hidx]; omega) (by rw [hidx]; simp) ?_
        refine WL.ld (T := Ty) (j := 0) (v := ucell (X.getD ((c % 256) ^^^ x) 0)) rfl rfl rfl rfl rfl (getD_cell (by omega)) ?_
        refine WL.mv rfl rfl ?_
        refine WL.shrS (c := 256) rfl rfl rfl (by omega) (by decide) ?_
        refine WL.xor rfl rfl rfl ?_
        refine WL.as rfl rfl ?_
        refine WL.nil ?_
        refine W.inBlock ?_
        refine W.region ?_
        refine WL.addK rfl rfl rfl (wrap_i64 ⟨by omega, by omega⟩) ?_
        refine WL.mv rfl rfl ?_
        refine WL.nil ?_
        have hT1 : X.getD ((c % 256) ^^^ x) 0 < 4294967296 := by
          rw [List.getD, List.getElem?_eq_getElem (by omega)]
          exact hXlt _ (List.getElem_mem _)
        have hxx : bits .xor .u32 ((X.getD ((c % 256) ^^^ x) 0 : Nat) : Int) ((c : Int) / 256) = ((stepT X c x : Nat) : Int) := by
          rw [show (c : Int) / 256 = ((c / 256 : Nat) : Int) by omega, xor_u32 _ _ hT1 (by omega)]
          rfl
        rw [hxx]
        refine W.sub ?_ (next ⟨q + 1, stepT X c x⟩ ⟨by simp; omega, stepT_lt hXlt c x h2, h3⟩ (by simp; omega))
        exact ⟨rfl, rfl, rfl, rfl, rfl, rfl, trivial⟩
      · have : q = bs.length := by omega
        subst this
        rw [List.drop_length] at h3
        have h3 : c = bs.foldl (stepT X) 4294967295 := h3
        have hfin : bits .xor .u32 (c : Int) 4294967295 = ((sumT X bs : Nat) : Int) := by
          rw [show (4294967295 : Int) = ((4294967295 : Nat) : Int) from rfl, xor_u32 _ _ h2 (by decide), h3]
          rfl
        refine W.exit rfl ?_
        refine W.seq ?_
        refine W.draw 15 [box b9 (X.map ucell) 26, box b (tblL.map ucell) 26] [] rfl (fun h p => p) (fun σ hσ dσ => ?_)
        have rx := rb_at (ρ := ρ) 0 rfl hσ dσ
        have rt := rb_at (ρ := ρ) 1 rfl hσ dσ
        refine WD.takeL 0 rfl (by decide +kernel) ?_
        refine WL.ldWB (T := Ty) rfl rfl rfl rfl rx (by rw [hXl2]; rfl) ?_
        refine WL.nilT ?_
        refine WD.takeL 1 rfl (by decide +kernel) ?_
        refine WL.mv rfl rfl ?_
        refine WL.nilT ?_
        refine WD.takeL 3 rfl (by decide +kernel) ?_
        refine WL.mv rfl rfl ?_
        refine WL.nilT ?_
        refine WD.takeL 4 rfl (by decide +kernel) ?_
        refine WL.xor rfl rfl rfl ?_
        refine WL.nilT ?_
        refine WD.oneL 2 rfl (by decide +kernel) ?_
        skip
        refine WL.callT (v := .int .u32 (sumT X bs : Int)) rfl rfl (fun x p d => sum_c (join ρ x) X v0 bs hXlt hXlen r0.wide hlt' (by omega)) ?_
        refine WL.nilE ?_
        refine WD.takeL 5 rfl (by decide +kernel) ?_
        refine WL.eql rfl rfl rfl ?_
        refine WL.nilT ?_
        refine WD.takeL 6 rfl (by decide +kernel) ?_
        refine WL.mv rfl rfl ?_
        refine WL.nilT ?_
        refine WD.takeL 8 rfl (by decide +kernel) ?_
        refine WL.gT rfl rfl (by omega) ?_
        refine WL.ldWB (T := Ty) rfl rfl rfl rfl rt (by rw [tbl_len]; rfl) ?_
        refine WL.nilT ?_
        refine WD.oneL 7 rfl (by decide +kernel) ?_
        refine WL.gT rfl rfl (by omega) ?_
        refine WL.callT (v := AG tblL) rfl rfl (fun x p d => table_c _) ?_
        refine WL.nilE ?_
        refine WD.takeL 9 rfl (by decide +kernel) ?_
        refine WL.gT rfl rfl (by omega) ?_
        have hm : (tblL.map (fun (n : Nat) => (n : Int))).map (Value.int .u32) = tblL.map ucell := by rw [List.map_map]; rfl
        refine WL.eqAA (T := Ty) (ns := tblL.map (fun (n : Nat) => (n : Int))) (K := .u32) rfl (by rw [hm]; rfl) (by rw [hm]; rfl) rfl rfl (by rw [List.length_map, tblL_len]) (by kernel_rfl) ?_
        refine WL.nilT ?_
        refine WD.takeL 10 rfl (by decide +kernel) ?_
        refine WL.pickTp rfl rfl (by omega) rfl ?_
        refine WL.nilT ?_
        refine WD.takeL 11 rfl (by decide +kernel) ?_
        refine WL.mv rfl rfl ?_
        refine WL.nilT ?_
        refine WD.oneL 12 rfl (by decide +kernel) ?_
        refine WL.gY rfl rfl ?_
        refine WL.callT rfl rfl (fun x p d => awake3_c _) ?_
        refine WL.nilE ?_
        refine WD.takeL 13 rfl (by decide +kernel) ?_
        refine WL.pickT rfl rfl rfl ?_
        refine WL.nilT ?_
        refine WD.takeL 14 rfl (by decide +kernel) ?_
        refine WL.as rfl rfl ?_
        refine WL.nilT ?_
        refine WD.doneH hσ (by decide +kernel) ?_
        exact W.ret1 rfl rfl (fun h p => rfl)
end Go.Proofs.Ytimioninoafkhaa
