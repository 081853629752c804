/- CrccLinear. -/
import Derived.Test.YtimioninoafkhaaArr
import Derived.Test.YtimioninoafkhaaNum
import Derived.Test.YtimioninoafkhaaTab
import Derived.Test.YtimioninoafkhaaCrccAwake
set_option linter.unusedSimpArgs false
set_option linter.unusedVariables false
set_option maxRecDepth 20000
set_option maxHeartbeats 4000000
namespace Go.Proofs.Ytimioninoafkhaa
open Go
attribute [local irreducible] W WL Fn Buf ROs SL eptr box Rd Src bndOK WD RB Reads

theorem fold_sameL (bs : List Nat) (h : ∀ x ∈ bs, x < 256) (c : Nat) : bs.foldl (stepT tblL) c = bs.foldl stepR c := by
  induction bs generalizing c with
  | nil => rfl
  | cons x bs ih => rw [List.foldl_cons, List.foldl_cons, step_same c x (h x (by simp)), ih (fun y hy => h y (by simp [hy]))]
theorem sum_sameL (bs : List Nat) (h : ∀ x ∈ bs, x < 256) : sumT tblL bs = sumR bs := by unfold sumT sumR; rw [fold_sameL bs h]
theorem sumL_c (ρ : Hp) (b : Value) (bs : List Nat) (hb : ROs ρ 1 b (bs.map bcell)) (hw : ∀ x ∈ bs, x < 256) (hl : bs.length ≤ 140737488355328) :
    Fn Try.prog 15 #[AG tblL, b] ρ [] (fun r _ => r = .int .u32 (sumR bs : Int)) := by
  have := sum_c ρ tblL b bs tblL_lt tblL_len hb hw hl
  rw [sum_sameL bs hw] at this
  exact this
theorem zeros_bytes : ∀ n : Nat, zerosL [Value.int .u8 0] n = (List.replicate n 0).map bcell
  | 0 => rfl
  | n + 1 => by rw [zerosL, zeros_bytes n]; rfl
def laidF (z : List Nat) (i : Nat) : List Nat := z.take i ++ List.replicate (z.length - i) 0
theorem laid_len (z : List Nat) (i : Nat) (h : i ≤ z.length) : (laidF z i).length = z.length := by simp [laidF]; omega
theorem laid_set (z : List Nat) (i x : Nat) (h : z[i]? = some x) : (laidF z i).set i x = laidF z (i + 1) := by
  obtain ⟨hi, rfl⟩ := List.getElem?_eq_some_iff.1 h
  unfold laidF
  obtain ⟨m, hm⟩ : ∃ m, z.length - i = m + 1 := ⟨z.length - i - 1, by omega⟩
  rw [hm, show z.length - (i + 1) = m by omega, List.set_append_right _ _ (by simp; omega), List.replicate_succ]
  have e : z.take (i + 1) = z.take i ++ [z[i]] := by rw [List.take_add_one]; simp [hi]
  have hlen : (z.take i).length = i := by simp; omega
  rw [e, hlen, Nat.sub_self, List.set_cons_zero, List.append_assoc, List.singleton_append]

theorem CrccLinear_fn (ρ : Hp) (v0 : Value) (z0 : List Int) (r0 : ROs ρ 1 v0 (z0.map (Value.int .u8))) (m0 : ∀ n ∈ z0, (Lit.int .u8 n).wf = true) (y0 : z0.length * 1 ≤ 140737488351232) (v1 : Value) (z1 : List Int) (r1 : ROs ρ 1 v1 (z1.map (Value.int .u8))) (m1 : ∀ n ∈ z1, (Lit.int .u8 n).wf = true) (y1 : z1.length * 1 ≤ 140737488351232) (v2 : Value) (z2 : List Int) (r2 : ROs ρ 1 v2 (z2.map (Value.int .u8))) (m2 : ∀ n ∈ z2, (Lit.int .u8 n).wf = true) (y2 : z2.length * 1 ≤ 140737488351232) :
    Fn Try.prog 4 #[v0, v1, v2] ρ [] (fun r _ => r = .bool true) := by
  obtain ⟨la, has, hll, hta⟩ := bytes_of m0
  obtain ⟨bs, hbs, hlb, htb⟩ := bytes_of m1
  obtain ⟨cs, hcs, hlc, htc⟩ := bytes_of m2
  rw [has] at r0
  rw [hbs] at r1
  rw [hcs] at r2
  refine in4 rfl rfl ?_
  have hs0 : SL v0 la.length := r0.sl (by simp) (by omega)
  have hs1 : SL v1 bs.length := r1.sl (by simp) (by omega)
  have hs2 : SL v2 cs.length := r2.sl (by simp) (by omega)
  refine W.seq ?_
  refine W.region ?_
  refine WL.as rfl rfl ?_
  refine WL.nil ?_
  refine W.seq ?_
  refine W.region ?_
  refine WL.mv rfl rfl ?_
  refine WL.len (T := Ty) rfl rfl (by assumption) rfl ?_
  refine WL.mv rfl rfl ?_
  refine WL.len (T := Ty) rfl rfl (by assumption) rfl ?_
  refine WL.mv rfl rfl ?_
  refine WL.len (T := Ty) rfl rfl (by assumption) rfl ?_
  refine WL.mn4 rfl rfl rfl rfl rfl ?_
  obtain ⟨n, hn, hn0, hn1, hn2, hn3⟩ : ∃ n : Nat, min (min (min (la.length : Int) bs.length) cs.length) 200 = (n : Int) ∧ n ≤ la.length ∧ n ≤ bs.length ∧ n ≤ cs.length ∧ n ≤ 200 := ⟨(min (min (min (la.length : Int) bs.length) cs.length) 200).toNat, by omega, by omega, by omega, by omega, by omega⟩
  rw [hn]
  refine WL.as rfl rfl ?_
  refine WL.nil ?_
  refine W.seq ?_
  refine W.region ?_
  refine WL.mv rfl rfl ?_
  refine WL.mk (T := Ty) (n := n) rfl rfl rfl rfl rfl rfl (by show n * 1 ≤ _; omega) (by unfold maxLen; omega) rfl (fun x hx => ?_)
  refine WL.hs (Hs' := [Buf 1 x ((List.replicate n 0).map bcell)]) (fun h p => by rw [← zeros_bytes]; exact p) ?_
  refine WL.as rfl rfl ?_
  refine WL.nil ?_
  refine W.seq ?_
  refine W.seq ?_
  refine W.region ?_
  refine WL.mv rfl rfl ?_
  refine WL.len (T := Ty) rfl rfl (by assumption) rfl ?_
  refine WL.mv rfl rfl ?_
  refine WL.nil ?_
  refine W.block ?_
  obtain ⟨z, hz⟩ : ∃ z, z = List.zipWith (· ^^^ ·) (List.zipWith (· ^^^ ·) (la.take n) (bs.take n)) (cs.take n) := ⟨_, rfl⟩
  have hzl : z.length = n := by rw [hz]; simp; omega
  have hza : ∀ y ∈ z, y < 256 := by
    rw [hz]
    exact zip_lt (zip_lt (fun y hy => hta y (List.mem_of_mem_take hy)) (fun y hy => htb y (List.mem_of_mem_take hy))) (fun y hy => htc y (List.mem_of_mem_take hy))
  refine W.loopS (σ := Nat) (fun i => [(0, v0), (1, v1), (2, v2), (7, .int .i64 (n : Int)), (8, x), (21, .int .i64 (n : Int)), (22, .int .i64 (i : Int))]) (fun i => [Buf 1 x ((laidF z i).map bcell)])
    (fun i => i ≤ n) (fun i => n - i) 0 ⟨rfl, rfl, rfl, rfl, rfl, rfl, rfl, trivial⟩ (by simp [laidF, hzl]) (by omega) ?_
  intro i hi next
  refine W.seq ?_
  refine W.region ?_
  refine WL.lss rfl rfl rfl ?_
  refine WL.nil ?_
  refine W.seq ?_
  refine W.condp rfl (fun hlt => ?_) (fun hge => ?_)
  · have hin : i < n := by omega
    obtain ⟨p, hp⟩ : ∃ p, la[i]? = some p := ⟨_, List.getElem?_eq_getElem (by omega)⟩
    obtain ⟨q, hq⟩ : ∃ q, bs[i]? = some q := ⟨_, List.getElem?_eq_getElem (by omega)⟩
    obtain ⟨r, hr⟩ : ∃ r, cs[i]? = some r := ⟨_, List.getElem?_eq_getElem (by omega)⟩
    have hp8 := hta p (List.mem_of_getElem? hp)
    have hq8 := htb q (List.mem_of_getElem? hq)
    have hr8 := htc r (List.mem_of_getElem? hr)
    have hzi : z[i]? = some ((p ^^^ q) ^^^ r) := by
      rw [hz, List.getElem?_zipWith, List.getElem?_zipWith, List.getElem?_take, List.getElem?_take, List.getElem?_take]
      simp [hin, hp, hq, hr]
    have hxx : bits .xor .u8 (bits .xor .u8 (p : Int) (q : Int)) (r : Int) = (((p ^^^ q) ^^^ r : Nat) : Int) := by
      rw [xor_u8 _ _ hp8 hq8, xor_u8 _ _ (Nat.xor_lt_two_pow (n := 8) hp8 hq8) hr8]
    refine W.skip ?_
    refine W.seq ?_
    refine W.block ?_
    refine W.seq ?_
    refine W.region ?_
    refine WL.mv rfl rfl ?_
    refine WL.as rfl rfl ?_
    refine WL.nil ?_
    refine W.draw 18 [] [Buf 1 x ((laidF z i).map bcell)] rfl (fun h p => p) (fun σ hσ dσ => ?_)
    refine WD.takeL 0 rfl (by decide +kernel) ?_
    refine WL.mv rfl rfl ?_
    refine WL.nilT ?_
    refine WD.takeL 1 rfl (by decide +kernel) ?_
    refine WL.mv rfl rfl ?_
    refine WL.nilT ?_
    refine WD.takeL 2 rfl (by decide +kernel) ?_
    refine WL.mv rfl rfl ?_
    refine WL.nilT ?_
    refine WD.takeL 3 rfl (by decide +kernel) ?_
    refine WL.mv rfl rfl ?_
    refine WL.nilT ?_
    refine WD.takeL 4 rfl (by decide +kernel) ?_
    refine WL.ix (T := Ty) rfl rfl rfl (by assumption) rfl rfl (by omega) (by omega) ?_
    refine WL.nilT ?_
    refine WD.takeL 5 rfl (by decide +kernel) ?_
    refine WL.ldR (T := Ty) (v := bcell p) rfl rfl rfl rfl r0.wide (by rw [show ((i : Int)).toNat * 1 = i by omega]; simp [hp]) ?_
    refine WL.nilT ?_
    refine WD.takeL 6 rfl (by decide +kernel) ?_
    refine WL.mv rfl rfl ?_
    refine WL.nilT ?_
    refine WD.takeL 7 rfl (by decide +kernel) ?_
    refine WL.mv rfl rfl ?_
    refine WL.nilT ?_
    refine WD.takeL 8 rfl (by decide +kernel) ?_
    refine WL.ix (T := Ty) rfl rfl rfl (by assumption) rfl rfl (by omega) (by omega) ?_
    refine WL.nilT ?_
    refine WD.takeL 9 rfl (by decide +kernel) ?_
    refine WL.ldR (T := Ty) (v := bcell q) rfl rfl rfl rfl r1.wide (by rw [show ((i : Int)).toNat * 1 = i by omega]; simp [hq]) ?_
    refine WL.nilT ?_
    refine WD.takeL 10 rfl (by decide +kernel) ?_
    refine WL.xor rfl rfl rfl ?_
    refine WL.nilT ?_
    refine WD.takeL 11 rfl (by decide +kernel) ?_
    refine WL.mv rfl rfl ?_
    refine WL.nilT ?_
    refine WD.takeL 12 rfl (by decide +kernel) ?_
    refine WL.mv rfl rfl ?_
    refine WL.nilT ?_
    refine WD.takeL 13 rfl (by decide +kernel) ?_
    refine WL.ix (T := Ty) rfl rfl rfl (by assumption) rfl rfl (by omega) (by omega) ?_
    refine WL.nilT ?_
    refine WD.takeL 14 rfl (by decide +kernel) ?_
    refine WL.ldR (T := Ty) (v := bcell r) rfl rfl rfl rfl r2.wide (by rw [show ((i : Int)).toNat * 1 = i by omega]; simp [hr]) ?_
    have hsx : SL x n := hx
    refine WL.nilT ?_
    refine WD.takeL 15 rfl (by decide +kernel) ?_
    refine WL.xor rfl rfl rfl ?_
    refine WL.nilT ?_
    refine WD.takeL 16 rfl (by decide +kernel) ?_
    refine WL.ix (T := Ty) rfl rfl rfl (by assumption) rfl rfl (by omega) (by omega) ?_
    refine WL.nilT ?_
    refine WD.oneL 17 rfl (by decide +kernel) ?_
    refine WL.stEF (T := Ty) (j := 1) (cs' := (laidF z (i + 1)).map bcell) rfl rfl rfl rfl rfl rfl (by rw [List.length_map, laid_len z i (by omega)]; omega) (by rw [show ((i : Int)).toNat * 1 = i by omega, hxx, ← laid_set z i _ hzi, List.map_set]; rfl) (by repeat' first | exact FL.nil | apply FL.cons) ?_
    refine WL.nilE ?_
    refine WD.doneH hσ (by decide +kernel) ?_
    refine W.inBlock ?_
    refine W.region ?_
    refine WL.addK rfl rfl rfl (wrap_i64 ⟨by omega, by omega⟩) ?_
    refine WL.mv rfl rfl ?_
    refine WL.nil ?_
    refine W.sub ?_ (next (i + 1) (by omega) (by omega))
    exact ⟨rfl, rfl, rfl, rfl, rfl, rfl, rfl, trivial⟩
  · have : i = n := by omega
    subst this
    have hfull : laidF z i = z := by unfold laidF; rw [← hzl]; simp
    rw [hfull]
    have hsum := sum_linear (la.take i) (bs.take i) (cs.take i) (by simp; omega) (by simp; omega) (fun y hy => hta y (List.mem_of_mem_take hy)) (fun y hy => htb y (List.mem_of_mem_take hy)) (fun y hy => htc y (List.mem_of_mem_take hy))
    rw [← hz] at hsum
    refine W.exit rfl ?_
    refine W.seq ?_
    refine W.region ?_
    refine WL.callT (v := AG tblL) rfl rfl (fun x p d => table_c _) ?_
    refine WL.alX (T := Ty) (cs := (List.replicate 256 0).map ucell) rfl rfl (by simp [Value.cells, ucell]) (fun b => ?_)
    refine WL.stW (T := Ty) (j := 0) (cs := tblL.map ucell) rfl rfl rfl (by rw [tbl_len]; rfl) (one_ucell _) rfl (by rw [tbl_len, zero_len]) (by repeat' first | exact FL.nil | apply FL.cons) ?_
    refine WL.nil ?_
    refine W.seq ?_
    refine W.draw 25 [box b (tblL.map ucell) 26, Buf 1 x (z.map bcell)] [] rfl (fun h p => p) (fun σ hσ dσ => ?_)
    have rb := rb_at (ρ := ρ) 0 rfl hσ dσ
    have rx := ros_at (ρ := ρ) 1 rfl hσ dσ
    have ha8 : ∀ y ∈ la.take i, y < 256 := fun y hy => hta y (List.mem_of_mem_take hy)
    have hb8 : ∀ y ∈ bs.take i, y < 256 := fun y hy => htb y (List.mem_of_mem_take hy)
    have hc8 : ∀ y ∈ cs.take i, y < 256 := fun y hy => htc y (List.mem_of_mem_take hy)
    have hfin : ((sumR z : Nat) : Int) = bits .xor .u32 (bits .xor .u32 (sumR (la.take i) : Int) (sumR (bs.take i) : Int)) (sumR (cs.take i) : Int) := by
      rw [xor_u32 _ _ (sumR_lt _ ha8) (sumR_lt _ hb8), xor_u32 _ _ (Nat.xor_lt_two_pow (n := 32) (sumR_lt _ ha8) (sumR_lt _ hb8)) (sumR_lt _ hc8), hsum]
    refine WD.takeL 0 rfl (by decide +kernel) ?_
    refine WL.ldWB (T := Ty) rfl rfl rfl rfl rb (by rw [tbl_len]; rfl) ?_
    refine WL.nilT ?_
    refine WD.takeL 1 rfl (by decide +kernel) ?_
    refine WL.mv rfl rfl ?_
    refine WL.nilT ?_
    refine WD.takeL 3 rfl (by decide +kernel) ?_
    refine WL.ldWB (T := Ty) rfl rfl rfl rfl rb (by rw [tbl_len]; rfl) ?_
    refine WL.nilT ?_
    refine WD.takeL 4 rfl (by decide +kernel) ?_
    refine WL.mv rfl rfl ?_
    refine WL.nilT ?_
    refine WD.takeL 5 rfl (by decide +kernel) ?_
    refine WL.mv rfl rfl ?_
    refine WL.nilT ?_
    refine WD.takeL 6 rfl (by decide +kernel) ?_
    refine WL.slR (T := Ty) (n := la.length) (hi := i) rfl rfl .no (.atN rfl) rfl rfl rfl r0.wide (by simp) (Nat.zero_le _) (by omega) (fun xa hxa roxa => ?_)
    have rxa : ROs (join ρ σ) 1 xa ((la.take i).map bcell) := by simpa [List.map_take] using roxa
    refine WL.nilT ?_
    refine WD.takeL 8 rfl (by decide +kernel) ?_
    refine WL.ldWB (T := Ty) rfl rfl rfl rfl rb (by rw [tbl_len]; rfl) ?_
    refine WL.nilT ?_
    refine WD.takeL 9 rfl (by decide +kernel) ?_
    refine WL.mv rfl rfl ?_
    refine WL.nilT ?_
    refine WD.takeL 10 rfl (by decide +kernel) ?_
    refine WL.mv rfl rfl ?_
    refine WL.nilT ?_
    refine WD.takeL 11 rfl (by decide +kernel) ?_
    refine WL.slR (T := Ty) (n := bs.length) (hi := i) rfl rfl .no (.atN rfl) rfl rfl rfl r1.wide (by simp) (Nat.zero_le _) (by omega) (fun xb hxb roxb => ?_)
    have rxb : ROs (join ρ σ) 1 xb ((bs.take i).map bcell) := by simpa [List.map_take] using roxb
    refine WL.nilT ?_
    refine WD.takeL 14 rfl (by decide +kernel) ?_
    refine WL.ldWB (T := Ty) rfl rfl rfl rfl rb (by rw [tbl_len]; rfl) ?_
    refine WL.nilT ?_
    refine WD.takeL 15 rfl (by decide +kernel) ?_
    refine WL.mv rfl rfl ?_
    refine WL.nilT ?_
    refine WD.takeL 16 rfl (by decide +kernel) ?_
    refine WL.mv rfl rfl ?_
    refine WL.nilT ?_
    refine WD.takeL 17 rfl (by decide +kernel) ?_
    refine WL.slR (T := Ty) (n := cs.length) (hi := i) rfl rfl .no (.atN rfl) rfl rfl rfl r2.wide (by simp) (Nat.zero_le _) (by omega) (fun xc hxc roxc => ?_)
    have rxc : ROs (join ρ σ) 1 xc ((cs.take i).map bcell) := by simpa [List.map_take] using roxc
    refine WL.nilT ?_
    refine WD.oneL 2 rfl (by decide +kernel) ?_
    skip
    refine WL.callT (v := .int .u32 (sumR z : Int)) rfl rfl (fun y p d => sumL_c _ x z (rx.mono (eqh_at 0 rfl p d)) hza (by omega)) ?_
    refine WL.nilE ?_
    refine WD.oneL 7 rfl (by decide +kernel) ?_
    skip
    refine WL.callT (v := .int .u32 (sumR (la.take i) : Int)) rfl rfl (fun y p d => sumL_c _ xa _ (rxa.mono (eqh_at 0 rfl p d)) ha8 (by simp; omega)) ?_
    refine WL.nilE ?_
    refine WD.oneL 12 rfl (by decide +kernel) ?_
    skip
    refine WL.callT (v := .int .u32 (sumR (bs.take i) : Int)) rfl rfl (fun y p d => sumL_c _ xb _ (rxb.mono (eqh_at 0 rfl p d)) hb8 (by simp; omega)) ?_
    refine WL.nilE ?_
    refine WD.takeL 13 rfl (by decide +kernel) ?_
    refine WL.xor rfl rfl rfl ?_
    refine WL.nilT ?_
    refine WD.oneL 18 rfl (by decide +kernel) ?_
    skip
    refine WL.callT (v := .int .u32 (sumR (cs.take i) : Int)) rfl rfl (fun y p d => sumL_c _ xc _ (rxc.mono (eqh_at 0 rfl p d)) hc8 (by simp; omega)) ?_
    refine WL.nilE ?_
    refine WD.takeL 19 rfl (by decide +kernel) ?_
    refine WL.xor rfl rfl rfl ?_
    refine WL.nilT ?_
    refine WD.takeL 20 rfl (by decide +kernel) ?_
    refine WL.eql rfl rfl rfl ?_
    refine WL.nilT ?_
    refine WD.takeL 21 rfl (by decide +kernel) ?_
    refine WL.mv rfl rfl ?_
    refine WL.nilT ?_
    refine WD.oneL 22 rfl (by decide +kernel) ?_
    refine WL.gT rfl rfl (by omega) ?_
    refine WL.callT rfl rfl (fun x p d => awake3_c _) ?_
    refine WL.nilE ?_
    refine WD.takeL 23 rfl (by decide +kernel) ?_
    refine WL.pickTp rfl rfl (by omega) rfl ?_
    refine WL.nilT ?_
    refine WD.takeL 24 rfl (by decide +kernel) ?_
    refine WL.as rfl rfl ?_
    refine WL.nilT ?_
    refine WD.doneH hσ (by decide +kernel) ?_
    exact W.ret1 rfl rfl (fun h p => rfl)
end Go.Proofs.Ytimioninoafkhaa
