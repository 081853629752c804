/- Values by what turns: what the document's own code tells. -/
import Derived.Test.YtdpnpipninggeaaGreatDoorStc
import Derived.Test.YtdpnpipninggeaaGreatDoorNum
import Derived.Test.YtdpnpipninggeaaGreatDoorTab
import Derived.Test.YtdpnpipninggeaaGreatDoorBitsRef
import Derived.Test.YtdpnpipninggeaaGreatDoorLen64
set_option linter.unusedSimpArgs false
set_option linter.unusedVariables false
set_option maxRecDepth 20000
set_option maxHeartbeats 4000000
namespace Go.Proofs.YtdpnpipninggeaaGreatDoor
open Go
attribute [local irreducible] W WL Fn Buf ROs SL eptr box Rd Src bndOK WD RB Reads In encX decX encG decXF

theorem lenB_div' (x n : Nat) (hx : x < 18446744073709551616) : (x / 2 ^ n = 0 ↔ lenB 64 x ≤ n) := by
  have hp : 0 < 2 ^ n := Nat.pow_pos (by decide)
  rw [lenB_le 64 x n hx, Nat.div_eq_zero_iff]
  omega
theorem rahead_c (ρ : Hp) (x : Nat) (hx : x < 18446744073709551616) : Fn Tryz.prog 86 #[.int .u64 (x : Int)] ρ [] (Just (.int .i64 (ldX x : Int))) := by
  refine in86 rfl rfl ?_
  have hb := lenB_up x 64
  have hld : ldX x = min (64 - lenB 64 x) 31 := rfl
  refine W.seq (W.region (WL.as rfl rfl (WL.nil (W.seq (W.region (WL.as rfl rfl (WL.nil (W.seq (W.block ?_)))))))))
  refine W.loopS (σ := Nat) (fun n => [(0, .int .u64 (x : Int)), (3, .int .i64 (n : Int))]) (fun _ => []) (fun n => n ≤ ldX x) (fun n => ldX x - n) 0 ⟨rfl, rfl, trivial⟩ rfl (Nat.zero_le _) ?_
  intro n hn next
  have hdv := lenB_div' x (63 - n) hx
  by_cases h31 : n < 31
  · have ex : ((x : Int) / 2 ^ min (((63 : Int) - (n : Int))).toNat IntKind.u64.bits) = ((x / 2 ^ (63 - n) : Nat) : Int) := by
      rw [show (((63 : Int) - (n : Int))).toNat = 63 - n by omega, show min (63 - n) IntKind.u64.bits = 63 - n from Nat.min_eq_left (by show _ ≤ 64; omega)]
      push_cast; rfl
    by_cases h0 : x / 2 ^ (63 - n) = 0
    · have hz : ((x : Int) / 2 ^ min (((63 : Int) - (n : Int))).toNat IntKind.u64.bits) = 0 := by rw [ex, h0]; rfl
      have := hdv.1 h0
      refine W.seq (W.seq (W.region (WL.mv rfl rfl (WL.lss rfl rfl rfl (WL.mv rfl rfl (WL.gT rfl rfl (by omega) (WL.mv rfl rfl (WL.gT rfl rfl (by omega) (WL.mv rfl rfl (WL.gT rfl rfl (by omega) (WL.subK rfl rfl rfl (wrap_i64 ⟨by omega, by omega⟩) (WL.gT rfl rfl (by omega) (WL.cvK (T := Ty) rfl rfl rfl rfl (wrap_u64 ⟨by omega, by omega⟩) ?_)))))))))))))
      refine WL.gT rfl rfl (by omega) (WL.shrS rfl rfl rfl (by omega) rfl (WL.gT rfl rfl (by omega) (WL.eql rfl rfl rfl (WL.pickTp rfl rfl (by omega) rfl (WL.nil (W.condpT rfl (by omega) (W.skip (W.block (W.region (WL.mv rfl rfl (WL.addK rfl rfl rfl (wrap_i64 ⟨by omega, by omega⟩) (WL.as rfl rfl (WL.nil ?_)))))))))))))
      refine W.inBlock ?_
      refine W.sub ?_ (next (n + 1) (by omega) (by omega))
      exact ⟨rfl, rfl, trivial⟩
    · have hz : ¬ ((x : Int) / 2 ^ min (((63 : Int) - (n : Int))).toNat IntKind.u64.bits) = 0 := by
        rw [ex]; exact fun e => h0 (Int.ofNat.inj e)
      have : ¬ lenB 64 x ≤ 63 - n := fun e => h0 (hdv.2 e)
      refine W.seq (W.seq (W.region (WL.mv rfl rfl (WL.lss rfl rfl rfl (WL.mv rfl rfl (WL.gT rfl rfl (by omega) (WL.mv rfl rfl (WL.gT rfl rfl (by omega) (WL.mv rfl rfl (WL.gT rfl rfl (by omega) (WL.subK rfl rfl rfl (wrap_i64 ⟨by omega, by omega⟩) (WL.gT rfl rfl (by omega) (WL.cvK (T := Ty) rfl rfl rfl rfl (wrap_u64 ⟨by omega, by omega⟩) ?_)))))))))))))
      refine WL.gT rfl rfl (by omega) (WL.shrS rfl rfl rfl (by omega) rfl (WL.gT rfl rfl (by omega) (WL.eql rfl rfl rfl (WL.pickTp rfl rfl (by omega) rfl (WL.nil (W.condpF rfl (by omega) (W.exit rfl (W.seq (W.region (WL.mv rfl rfl (WL.as rfl rfl (WL.nil ?_))))))))))))
      exact W.ret1 rfl rfl (fun h p => ⟨congrArg (Value.int .i64) (by omega), p⟩)
  · refine W.seq ?_
    refine W.seq (W.region (WL.mv rfl rfl (WL.lss rfl rfl rfl (WL.mv rfl rfl (WL.gdTn rfl rfl rfl rfl rfl (by omega) (WL.gdTn rfl rfl rfl rfl rfl (by omega) (WL.gdTn rfl rfl rfl rfl rfl (by omega) (WL.gdTn rfl rfl rfl rfl rfl (by omega) (WL.gdTn rfl rfl rfl rfl rfl (by omega) (WL.gdTn rfl rfl rfl rfl rfl (by omega) (WL.pickFp rfl rfl (by omega) rfl (WL.nil (W.condF rfl ?_)))))))))))))
    refine W.exit rfl (W.seq (W.region (WL.mv rfl rfl (WL.as rfl rfl (WL.nil ?_)))))
    exact W.ret1 rfl rfl (fun h p => ⟨congrArg (Value.int .i64) (by omega), p⟩)
theorem tz_bit {x n : Nat} (h0 : x ≠ 0) (hx : x < 18446744073709551616) (hn : n ≤ tzX x) : x / 2 ^ n % 2 = if n < tzX x then 0 else 1 := by
  obtain ⟨m, hm, hk⟩ := tzX_spec h0 hx
  by_cases h : n < tzX x
  · rw [if_pos h]
    obtain ⟨d, hd⟩ : ∃ d, tzX x = n + (d + 1) := ⟨tzX x - n - 1, by omega⟩
    have e : x = 2 ^ n * (2 * (2 ^ d * (2 * m + 1))) := by
      conv => lhs; rw [hm, hd, Nat.pow_add, Nat.pow_succ]
      simp only [Nat.mul_comm, Nat.mul_left_comm, Nat.mul_assoc]
    rw [e, Nat.mul_div_cancel_left _ (Nat.pow_pos (by decide))]
    omega
  · have hne : n = tzX x := by omega
    rw [if_neg h, hne]
    conv => lhs; rw [hm]
    rw [← hm]
    conv => lhs; rw [hm]
    have e : 2 ^ tzX x * (2 * m + 1) / 2 ^ tzX x = 2 * m + 1 := Nat.mul_div_cancel_left _ (Nat.pow_pos (by decide))
    rw [← hm] at e ⊢
    omega
theorem rbehind_c (ρ : Hp) (x : Nat) (h0 : x ≠ 0) (hx : x < 18446744073709551616) : Fn Tryz.prog 87 #[.int .u64 (x : Int)] ρ [] (Just (.int .i64 (tzX x : Int))) := by
  refine in87 rfl rfl ?_
  have hk : tzX x < 64 := (tzX_spec h0 hx).choose_spec.2
  refine W.seq (W.region (WL.as rfl rfl (WL.nil (W.seq (W.region (WL.as rfl rfl (WL.nil (W.seq (W.block ?_)))))))))
  refine W.loopS (σ := Nat) (fun n => [(0, .int .u64 (x : Int)), (3, .int .i64 (n : Int))]) (fun _ => []) (fun n => n ≤ tzX x) (fun n => tzX x - n) 0 ⟨rfl, rfl, trivial⟩ rfl (Nat.zero_le _) ?_
  intro n hn next
  have hb := tz_bit h0 hx hn
  have hdv : x / 2 ^ n < 18446744073709551616 := Nat.lt_of_le_of_lt (Nat.div_le_self _ _) hx
  have hbv : bits .and .u64 ((x : Int) / 2 ^ min ((n : Int)).toNat IntKind.u64.bits) 1 = ((x / 2 ^ n % 2 : Nat) : Int) := by
    rw [shr_val x n (by omega), show (1 : Int) = ((1 : Nat) : Int) from rfl, bits_and rfl (by exact hdv) (by decide), Nat.and_one_is_mod]
  by_cases hlt : n < tzX x
  · rw [if_pos hlt] at hb
    have hz : bits .and .u64 ((x : Int) / 2 ^ min ((n : Int)).toNat IntKind.u64.bits) 1 = 0 := by rw [hbv, hb]; rfl
    refine W.seq (W.seq (W.region (WL.mv rfl rfl (WL.mv rfl rfl (WL.cvK (T := Ty) rfl rfl rfl rfl (wrap_u64 ⟨by omega, by omega⟩) (WL.shrS rfl rfl rfl (by omega) rfl (WL.and rfl rfl rfl (WL.eql rfl rfl rfl (WL.nil (W.condpT rfl (by omega) (W.skip (W.block (W.region ?_)))))))))))))
    refine WL.mv rfl rfl (WL.addK rfl rfl rfl (wrap_i64 ⟨by omega, by omega⟩) (WL.as rfl rfl (WL.nil (W.inBlock ?_))))
    refine W.sub ?_ (next (n + 1) (by omega) (by omega))
    exact ⟨rfl, rfl, trivial⟩
  · rw [if_neg hlt] at hb
    have hz : ¬ bits .and .u64 ((x : Int) / 2 ^ min ((n : Int)).toNat IntKind.u64.bits) 1 = 0 := by rw [hbv, hb]; decide
    refine W.seq (W.seq (W.region (WL.mv rfl rfl (WL.mv rfl rfl (WL.cvK (T := Ty) rfl rfl rfl rfl (wrap_u64 ⟨by omega, by omega⟩) (WL.shrS rfl rfl rfl (by omega) rfl (WL.and rfl rfl rfl (WL.eql rfl rfl rfl (WL.nil (W.condpF rfl (by omega) (W.exit rfl (W.seq (W.region ?_)))))))))))))
    refine WL.mv rfl rfl (WL.as rfl rfl (WL.nil ?_))
    exact W.ret1 rfl rfl (fun h p => ⟨congrArg (Value.int .i64) (by omega), p⟩)
theorem rvalues_c (ρ : Hp) (b : Nat) (ds : List Nat) (v : Value) (vs : List Nat) (hv : ROs ρ 1 v (vs.map ucell)) (hl : ds.length ≤ 1099000000) (hw : ∀ x ∈ vs, x < 18446744073709551616) (hvl : vs.length ≤ 70000) :
    Fn Tryz.prog 58 #[ptr b, v] ρ [RWr b ds] (fun r h => r = .tuple #[] ∧ RWr b (ds ++ encX vs) h) := by
  refine in58 rfl rfl ?_
  have sv := hv.slm
  refine W.seq (W.region (WL.as rfl rfl (WL.as rfl rfl (WL.as rfl rfl (WL.nil (W.seq (W.region (WL.as rfl rfl (WL.nil (W.block ?_))))))))))
  refine W.loopS (σ := Nat × Win × Nat × List Nat) (fun s => [(0, ptr b), (1, v), (4, .bool s.2.1.is), (5, .int .i64 (s.2.1.a : Int)), (6, .int .i64 (s.2.1.b : Int)), (7, .int .i64 (s.1 : Int))]) (fun s => [RWr b s.2.2.2])
    (fun s => s.1 ≤ vs.length ∧ s.2.2.2 ++ (if s.1 = 0 then encX vs else encG s.2.2.1 s.2.1 (vs.drop s.1)) = ds ++ encX vs ∧ (s.1 = 0 → s.2.1 = ⟨false, 0, 0⟩) ∧ (0 < s.1 → vs[s.1 - 1]? = some s.2.2.1) ∧ WinOK s.2.1 ∧ s.2.2.2.length ≤ ds.length + 77 * s.1) (fun s => vs.length - s.1) (0, ⟨false, 0, 0⟩, 0, ds) ⟨rfl, rfl, rfl, rfl, rfl, rfl, trivial⟩ rfl ⟨Nat.zero_le _, rfl, fun _ => rfl, fun h => absurd h (by simp), winOK0, by simp⟩ ?_
  rintro ⟨i, w, last, es⟩ ⟨h1, h2, h3, h4, h5, h7⟩ next
  simp only [] at h1 h2 h3 h4 h5 h7 next ⊢
  by_cases hlt : i < vs.length
  · obtain ⟨y, hy⟩ : ∃ y, vs[i]? = some y := ⟨_, List.getElem?_eq_getElem hlt⟩
    have hy1 : (vs.map ucell)[i]? = some (ucell y) := by rw [List.getElem?_map, hy]; rfl
    have hyl := hw y (List.mem_of_getElem? hy)
    have hdrop : vs.drop i = y :: vs.drop (i + 1) := by
      rw [List.drop_eq_getElem_cons hlt]
      congr 1
      rw [List.getElem?_eq_getElem hlt] at hy
      exact Option.some.inj hy
    by_cases h0 : i = 0
    · subst h0
      refine W.seq (W.seq (W.region (WL.mv rfl rfl (WL.mv rfl rfl ?_))))
      refine WL.len (T := Ty) rfl rfl (by assumption) rfl ?_
      refine WL.lss rfl rfl rfl (WL.nil (W.condpT rfl (by omega) (W.skip (W.seq (W.block (W.seq (W.seq (W.region (WL.mv rfl rfl (WL.eql rfl rfl rfl (WL.nil (W.condT rfl (W.seq ?_)))))))))))))
      refine W.region (WL.mv rfl rfl (WL.mv rfl rfl ?_))
      refine WL.ix (T := Ty) rfl rfl rfl (by assumption) rfl rfl (by omega) (by first | omega | decide +kernel) ?_
      refine WL.ldKn (T := Ty) rfl rfl rfl rfl (by first | assumption | exact ROs.wide (by assumption)) (by assumption) ?_
      refine WL.callM 0 rfl rfl rfl (fun x p d => rwput_c _ _ _ _ _ (by omega) (by first | assumption | omega | (simp only [List.length_append, bitsOf_len, List.length_nil, heldF]; omega))) (by repeat' constructor) ?_
      refine WL.nil (W.exit rfl (W.region (WL.mv rfl rfl (WL.addK rfl rfl rfl (wrap_i64 ⟨by omega, by omega⟩) (WL.as rfl rfl (WL.nil ?_))))))
      refine W.sub ?_ (W.hs (fun h p => ?_) (next ⟨1, w, y, es ++ bitsOf y 64⟩ ⟨by simp only []; omega, ?_, by simp, fun _ => hy, h5, by simp [bitsOf_len]; omega⟩ (by simp only []; omega)))
      · exact ⟨rfl, rfl, rfl, rfl, rfl, rfl, trivial⟩
      · exact p
      · have e : vs = y :: vs.drop 1 := by simpa using hdrop
        rw [if_pos rfl] at h2
        show (es ++ bitsOf y 64) ++ (if (1 : Nat) = 0 then encX vs else encG y w (vs.drop 1)) = ds ++ encX vs
        rw [if_neg (by decide : ¬ (1 : Nat) = 0), ← h2, h3 rfl]
        conv => rhs; rw [e, encX_cons]
        simp
    · have hi1 := h4 (by omega)
      have hi2 : (vs.map ucell)[i - 1]? = some (ucell last) := by rw [List.getElem?_map, hi1]; rfl
      have hll := hw last (List.mem_of_getElem? hi1)
      have hxl := xor_lt64 hyl hll
      rw [if_neg h0, hdrop, encG_cons] at h2
      refine W.seq (W.seq (W.region (WL.mv rfl rfl (WL.mv rfl rfl ?_))))
      refine WL.len (T := Ty) rfl rfl (by assumption) rfl ?_
      refine WL.lss rfl rfl rfl (WL.nil (W.condpT rfl (by omega) (W.skip (W.seq (W.block (W.seq (W.seq (W.region (WL.mv rfl rfl (WL.eql rfl rfl rfl (WL.nil (W.condpF rfl (by omega) (W.skip ?_)))))))))))))
      refine W.seq ?_
      refine W.drawA 10 rfl (fun σ0 hσ0 dσ0 => ?_)
      have fσ0_0 := in_at 0 rfl hσ0 dσ0
      refine WD.takeL 0 rfl (by decide +kernel) (WL.mv rfl rfl (WL.nilT (WD.takeL 1 rfl (by decide +kernel) (WL.mv rfl rfl (WL.nilT (WD.takeL 2 rfl (by decide +kernel) ?_))))))
      refine WL.ix (T := Ty) rfl rfl rfl (by assumption) rfl rfl (by omega) (by first | omega | decide +kernel) ?_
      refine WL.nilT (WD.takeL 3 rfl (by decide +kernel) ?_)
      refine WL.ldKn (T := Ty) rfl rfl rfl rfl (by first | assumption | exact ROs.wide (by assumption)) (by assumption) ?_
      refine WL.nilT (WD.takeL 4 rfl (by decide +kernel) (WL.mv rfl rfl (WL.nilT (WD.takeL 5 rfl (by decide +kernel) (WL.mv rfl rfl (WL.nilT (WD.takeL 6 rfl (by decide +kernel) (WL.subK rfl rfl rfl (wrap_i64 ⟨by omega, by omega⟩) (WL.nilT (WD.takeL 7 rfl (by decide +kernel) ?_))))))))))
      refine WL.ix (T := Ty) rfl rfl rfl (by assumption) rfl rfl (by omega) (by first | omega | decide +kernel) ?_
      refine WL.nilT (WD.takeL 8 rfl (by decide +kernel) ?_)
      refine WL.ldK (T := Ty) rfl rfl rfl rfl (by first | assumption | exact ROs.wide (by assumption)) (by assumption) (by omega) ?_
      refine WL.nilT (WD.takeL 9 rfl (by decide +kernel) (WL.xor rfl rfl rfl (WL.nilT ?_)))
      refine WD.lastG hσ0 (by decide +kernel) (by repeat' constructor) rfl (by repeat' constructor) ?_
      refine WL.as rfl rfl (WL.nil (W.seq (W.seq (W.region (WL.mv rfl rfl (WL.eql rfl rfl rfl (WL.nil ?_)))))))
      rw [xor_val hyl hll]
      have hso := stepX_ok h5 hxl
      have hsl := (stepX_len h5 hxl).2.2
      have fin : ∀ es', es' = es ++ (stepX w (y ^^^ last)).1 → _ := fun es' he => next ⟨i + 1, (stepX w (y ^^^ last)).2, y, es'⟩ ⟨by simp only []; omega, by simp only []; rw [if_neg (by omega), he, List.append_assoc, h2], by simp, fun _ => by simpa using hy, hso, by rw [he]; simp; omega⟩ (by simp only []; omega)
      simp only [] at fin
      generalize y ^^^ last = x at *
      obtain ⟨is, a, t⟩ := w
      have h5' : a ≤ 31 ∧ a + t ≤ 64 := h5
      obtain ⟨h51, h52⟩ := h5'
      simp only []
      by_cases hx0 : x = 0
      · subst hx0
        have es0 : stepX ⟨is, a, t⟩ 0 = (bitsOf 0 1, ⟨is, a, t⟩) := by unfold stepX; rw [if_pos rfl]
        rw [es0] at fin
        refine W.condT rfl (W.seq (W.region (WL.mv rfl rfl ?_)))
        refine WL.callM 0 rfl rfl rfl (fun x p d => rwput_c _ _ _ _ _ (by omega) (by first | assumption | omega | (simp only [List.length_append, bitsOf_len, List.length_nil, heldF]; omega))) (by repeat' constructor) ?_
        refine WL.nil (W.exit rfl (W.region (WL.mv rfl rfl (WL.addK rfl rfl rfl (wrap_i64 ⟨by omega, by omega⟩) (WL.as rfl rfl (WL.nil ?_))))))
        refine W.sub ?_ (W.hs (fun h p => ?_) (fin _ rfl))
        · exact ⟨rfl, rfl, rfl, rfl, rfl, rfl, trivial⟩
        · exact p
      · have hx0' : x ≠ 0 := hx0
        have hdv : x / 2 ^ t < 18446744073709551616 := Nat.lt_of_le_of_lt (Nat.div_le_self _ _) hxl
        have hdv2 : x / 2 ^ tzX x < 18446744073709551616 := Nat.lt_of_le_of_lt (Nat.div_le_self _ _) hxl
        have hlt2 := ld_tz hx0 hxl
        have hld := ldX_le x
        have hdef : fitsX ⟨is, a, t⟩ x = (is && (decide (a ≤ ldX x) && decide (t ≤ tzX x))) := rfl
        by_cases hf : fitsX ⟨is, a, t⟩ x = true
        · have es0 : stepX ⟨is, a, t⟩ x = (bitsOf 2 2 ++ bitsOf (x / 2 ^ t) (64 - a - t), ⟨is, a, t⟩) := by unfold stepX; rw [if_neg hx0, if_pos hf]; rfl
          rw [es0] at fin
          obtain ⟨f1, f2, f3⟩ := fitsX_of hf
          simp only [] at f1 f2 f3
          subst f1
          have hh : heldF (64 - (a : Int) - (t : Int)) = 64 - a - t := by unfold heldF; omega
          refine W.condpF rfl (by omega) (W.skip (W.seq (W.region (WL.mv rfl rfl ?_))))
          refine WL.callM 0 rfl rfl rfl (fun x p d => rwput_ci _ _ _ _ _ (by omega) (by omega) (by first | assumption | omega | (simp only [List.length_append, bitsOf_len, List.length_nil, heldF]; omega))) (by repeat' constructor) ?_
          refine WL.nil (W.seq (W.seq (W.region (WL.mv rfl rfl (WL.mv rfl rfl (WL.gY rfl rfl (WL.mv rfl rfl (WL.gY rfl rfl ?_))))))))
          refine WL.callV rfl rfl (fun x p d => rahead_c _ _ (by assumption)) ?_
          refine WL.gY rfl rfl (WL.mv rfl rfl (WL.gY rfl rfl (WL.geq rfl rfl rfl (WL.pickT rfl rfl rfl (WL.mv rfl rfl (WL.gT rfl rfl (by omega) (WL.mv rfl rfl (WL.gT rfl rfl (by omega) ?_))))))))
          refine WL.callV rfl rfl (fun x p d => rbehind_c _ _ (by assumption) (by assumption)) ?_
          refine WL.gT rfl rfl (by omega) (WL.mv rfl rfl (WL.gT rfl rfl (by omega) (WL.geq rfl rfl rfl (WL.pickTp rfl rfl (by omega) rfl (WL.nil (W.condpT rfl (by omega) (W.seq (W.region (WL.mv rfl rfl ?_)))))))))
          refine WL.callM 0 rfl rfl rfl (fun x p d => rwput_ci _ _ _ _ _ (by omega) (by omega) (by first | assumption | omega | (simp only [List.length_append, bitsOf_len, List.length_nil, heldF]; omega))) (by repeat' constructor) ?_
          refine WL.nil (W.seq (W.region (WL.mv rfl rfl (WL.mv rfl rfl (WL.mv rfl rfl (WL.cvK (T := Ty) rfl rfl rfl rfl (wrap_u64 ⟨by omega, by omega⟩) (WL.shrS rfl rfl rfl (by omega) rfl (WL.mv rfl rfl (WL.subK rfl rfl rfl (wrap_i64 ⟨by omega, by omega⟩) (WL.mv rfl rfl (WL.subK rfl rfl rfl (wrap_i64 ⟨by omega, by omega⟩) ?_)))))))))))
          rw [shr_val x t (by omega)]
          refine WL.callM 0 rfl rfl rfl (fun x p d => rwput_c _ _ _ _ _ (by omega) (by first | assumption | omega | (simp only [List.length_append, bitsOf_len, List.length_nil, heldF]; omega))) (by repeat' constructor) ?_
          refine WL.nil (W.exit rfl (W.region (WL.mv rfl rfl (WL.addK rfl rfl rfl (wrap_i64 ⟨by omega, by omega⟩) (WL.as rfl rfl (WL.nil ?_))))))
          refine W.sub ?_ (W.hs (fun h p => ?_) (fin _ rfl))
          · exact ⟨rfl, rfl, rfl, rfl, rfl, rfl, trivial⟩
          · rw [hh] at p
            have e : es ++ (bitsOf 2 2 ++ bitsOf (x / 2 ^ t) (64 - a - t)) = es ++ bitsOf (Int.toNat 1) (heldF 1) ++ bitsOf (Int.toNat 0) (heldF 1) ++ bitsOf (x / 2 ^ t) (64 - a - t) := by
              show es ++ ([1, 0] ++ _) = es ++ [1] ++ [0] ++ _
              simp
            rw [e]
            exact p
        · have es0 : stepX ⟨is, a, t⟩ x = (bitsOf 3 2 ++ bitsOf (ldX x) 5 ++ bitsOf (64 - ldX x - tzX x - 1) 6 ++ bitsOf (x / 2 ^ tzX x) (64 - ldX x - tzX x), ofX x) := by unfold stepX; rw [if_neg hx0, if_neg hf]; rfl
          rw [es0] at fin
          have hcase : is = false ∨ (is = true ∧ ¬ a ≤ ldX x) ∨ (is = true ∧ a ≤ ldX x ∧ ¬ t ≤ tzX x) := by
            cases is with
            | false => exact .inl rfl
            | true =>
              right
              by_cases q1 : a ≤ ldX x
              · right
                refine ⟨rfl, q1, fun q2 => hf ?_⟩
                rw [hdef, decide_eq_true q1, decide_eq_true q2]; rfl
              · exact .inl ⟨rfl, q1⟩
          have hh : heldF (64 - (ldX x : Int) - (tzX x : Int)) = 64 - ldX x - tzX x := by unfold heldF; omega
          have e : es ++ (bitsOf 3 2 ++ bitsOf (ldX x) 5 ++ bitsOf (64 - ldX x - tzX x - 1) 6 ++ bitsOf (x / 2 ^ tzX x) (64 - ldX x - tzX x)) = es ++ bitsOf (Int.toNat 1) (heldF 1) ++ bitsOf (Int.toNat 1) (heldF 1) ++ bitsOf (ldX x) (heldF 5) ++ bitsOf ((63 : Int) - (ldX x : Int) - (tzX x : Int)).toNat (heldF 6) ++ bitsOf (x / 2 ^ tzX x) (heldF (64 - (ldX x : Int) - (tzX x : Int))) := by
            rw [hh, show ((63 : Int) - (ldX x : Int) - (tzX x : Int)).toNat = 64 - ldX x - tzX x - 1 by omega]
            show es ++ ([1, 1] ++ _ ++ _ ++ _) = es ++ [1] ++ [1] ++ _ ++ _ ++ _
            simp [heldc5, heldc6]
          rcases hcase with rfl | ⟨rfl, q1⟩ | ⟨rfl, q1, q2⟩
          · refine W.condpF rfl (by omega) ?_
            refine W.skip (W.seq (W.region (WL.mv rfl rfl ?_)))
            refine WL.callM 0 rfl rfl rfl (fun x p d => rwput_ci _ _ _ _ _ (by omega) (by omega) (by first | assumption | omega | (simp only [List.length_append, bitsOf_len, List.length_nil, heldF]; omega))) (by repeat' constructor) ?_
            refine WL.nil (W.seq (W.seq (W.region (WL.mv rfl rfl (WL.mv rfl rfl (WL.gdN rfl rfl rfl rfl rfl rfl (WL.gdN rfl rfl rfl rfl rfl rfl (WL.gdN rfl rfl rfl rfl rfl rfl (WL.gdN rfl rfl rfl rfl rfl rfl (WL.pickF rfl rfl rfl (WL.mv rfl rfl (WL.gdN rfl rfl rfl rfl rfl rfl (WL.gdN rfl rfl rfl rfl rfl rfl ?_)))))))))))))
            refine WL.gdN rfl rfl rfl rfl rfl rfl (WL.gdN rfl rfl rfl rfl rfl rfl (WL.pickF rfl rfl rfl (WL.nil (W.condF rfl (W.skip (W.seq (W.region (WL.mv rfl rfl ?_))))))))
            refine WL.callV rfl rfl (fun x p d => rahead_c _ _ (by assumption)) ?_
            refine WL.mv rfl rfl ?_
            refine WL.callV rfl rfl (fun x p d => rbehind_c _ _ (by assumption) (by assumption)) ?_
            refine WL.as rfl rfl (WL.as rfl rfl (WL.as rfl rfl (WL.nil (W.seq (W.region (WL.mv rfl rfl ?_))))))
            refine WL.callM 0 rfl rfl rfl (fun x p d => rwput_ci _ _ _ _ _ (by omega) (by omega) (by first | assumption | omega | (simp only [List.length_append, bitsOf_len, List.length_nil, heldF]; omega))) (by repeat' constructor) ?_
            refine WL.nil (W.seq (W.region (WL.mv rfl rfl (WL.mv rfl rfl (WL.cvK (T := Ty) rfl rfl rfl rfl (wrap_u64 ⟨by omega, by omega⟩) ?_)))))
            refine WL.callM 0 rfl rfl rfl (fun x p d => rwput_c _ _ _ _ _ (by omega) (by first | assumption | omega | (simp only [List.length_append, bitsOf_len, List.length_nil, heldF]; omega))) (by repeat' constructor) ?_
            refine WL.nil (W.seq (W.region (WL.mv rfl rfl (WL.mv rfl rfl (WL.subK rfl rfl rfl (wrap_i64 ⟨by omega, by omega⟩) (WL.mv rfl rfl (WL.subK rfl rfl rfl (wrap_i64 ⟨by omega, by omega⟩) (WL.cvK (T := Ty) rfl rfl rfl rfl (wrap_u64 ⟨by omega, by omega⟩) ?_))))))))
            refine WL.callM 0 rfl rfl rfl (fun x p d => rwput_ci _ _ _ _ _ (by omega) (by omega) (by first | assumption | omega | (simp only [List.length_append, bitsOf_len, List.length_nil, heldF]; omega))) (by repeat' constructor) ?_
            refine WL.nil (W.region (WL.mv rfl rfl (WL.mv rfl rfl (WL.mv rfl rfl (WL.cvK (T := Ty) rfl rfl rfl rfl (wrap_u64 ⟨by omega, by omega⟩) (WL.shrS rfl rfl rfl (by omega) rfl (WL.mv rfl rfl (WL.subK rfl rfl rfl (wrap_i64 ⟨by omega, by omega⟩) (WL.mv rfl rfl (WL.subK rfl rfl rfl (wrap_i64 ⟨by omega, by omega⟩) ?_))))))))))
            rw [shr_val x (tzX x) (by omega)]
            refine WL.callM 0 rfl rfl rfl (fun x p d => rwput_c _ _ _ _ _ (by omega) (by first | assumption | omega | (simp only [List.length_append, bitsOf_len, List.length_nil, heldF]; omega))) (by repeat' constructor) ?_
            refine WL.nil (W.inBlock (W.region (WL.mv rfl rfl (WL.addK rfl rfl rfl (wrap_i64 ⟨by omega, by omega⟩) (WL.as rfl rfl (WL.nil ?_))))))
            refine W.sub ?_ (W.hs (fun h p => ?_) (fin _ rfl))
            · exact ⟨rfl, rfl, rfl, rfl, rfl, rfl, trivial⟩
            · rw [e]
              exact p
          · refine W.condpF rfl (by omega) ?_
            refine W.skip (W.seq (W.region (WL.mv rfl rfl ?_)))
            refine WL.callM 0 rfl rfl rfl (fun x p d => rwput_ci _ _ _ _ _ (by omega) (by omega) (by first | assumption | omega | (simp only [List.length_append, bitsOf_len, List.length_nil, heldF]; omega))) (by repeat' constructor) ?_
            refine WL.nil (W.seq (W.seq (W.region (WL.mv rfl rfl (WL.mv rfl rfl (WL.gY rfl rfl (WL.mv rfl rfl (WL.gY rfl rfl ?_))))))))
            refine WL.callV rfl rfl (fun x p d => rahead_c _ _ (by assumption)) ?_
            refine WL.gY rfl rfl (WL.mv rfl rfl (WL.gY rfl rfl (WL.geq rfl rfl rfl (WL.pickT rfl rfl rfl (WL.mv rfl rfl (WL.gdTn rfl rfl rfl rfl rfl (by omega) (WL.gdTn rfl rfl rfl rfl rfl (by omega) (WL.gdTn rfl rfl rfl rfl rfl (by omega) (WL.gdTn rfl rfl rfl rfl rfl (by omega) (WL.pickFp rfl rfl (by omega) rfl (WL.nil (W.condF rfl (W.skip ?_)))))))))))))
            refine W.seq (W.region (WL.mv rfl rfl ?_))
            refine WL.callV rfl rfl (fun x p d => rahead_c _ _ (by assumption)) ?_
            refine WL.mv rfl rfl ?_
            refine WL.callV rfl rfl (fun x p d => rbehind_c _ _ (by assumption) (by assumption)) ?_
            refine WL.as rfl rfl (WL.as rfl rfl (WL.as rfl rfl (WL.nil (W.seq (W.region (WL.mv rfl rfl ?_))))))
            refine WL.callM 0 rfl rfl rfl (fun x p d => rwput_ci _ _ _ _ _ (by omega) (by omega) (by first | assumption | omega | (simp only [List.length_append, bitsOf_len, List.length_nil, heldF]; omega))) (by repeat' constructor) ?_
            refine WL.nil (W.seq (W.region (WL.mv rfl rfl (WL.mv rfl rfl (WL.cvK (T := Ty) rfl rfl rfl rfl (wrap_u64 ⟨by omega, by omega⟩) ?_)))))
            refine WL.callM 0 rfl rfl rfl (fun x p d => rwput_c _ _ _ _ _ (by omega) (by first | assumption | omega | (simp only [List.length_append, bitsOf_len, List.length_nil, heldF]; omega))) (by repeat' constructor) ?_
            refine WL.nil (W.seq (W.region (WL.mv rfl rfl (WL.mv rfl rfl (WL.subK rfl rfl rfl (wrap_i64 ⟨by omega, by omega⟩) (WL.mv rfl rfl (WL.subK rfl rfl rfl (wrap_i64 ⟨by omega, by omega⟩) (WL.cvK (T := Ty) rfl rfl rfl rfl (wrap_u64 ⟨by omega, by omega⟩) ?_))))))))
            refine WL.callM 0 rfl rfl rfl (fun x p d => rwput_ci _ _ _ _ _ (by omega) (by omega) (by first | assumption | omega | (simp only [List.length_append, bitsOf_len, List.length_nil, heldF]; omega))) (by repeat' constructor) ?_
            refine WL.nil (W.region (WL.mv rfl rfl (WL.mv rfl rfl (WL.mv rfl rfl (WL.cvK (T := Ty) rfl rfl rfl rfl (wrap_u64 ⟨by omega, by omega⟩) (WL.shrS rfl rfl rfl (by omega) rfl (WL.mv rfl rfl (WL.subK rfl rfl rfl (wrap_i64 ⟨by omega, by omega⟩) (WL.mv rfl rfl (WL.subK rfl rfl rfl (wrap_i64 ⟨by omega, by omega⟩) ?_))))))))))
            rw [shr_val x (tzX x) (by omega)]
            refine WL.callM 0 rfl rfl rfl (fun x p d => rwput_c _ _ _ _ _ (by omega) (by first | assumption | omega | (simp only [List.length_append, bitsOf_len, List.length_nil, heldF]; omega))) (by repeat' constructor) ?_
            refine WL.nil (W.inBlock (W.region (WL.mv rfl rfl (WL.addK rfl rfl rfl (wrap_i64 ⟨by omega, by omega⟩) (WL.as rfl rfl (WL.nil ?_))))))
            refine W.sub ?_ (W.hs (fun h p => ?_) (fin _ rfl))
            · exact ⟨rfl, rfl, rfl, rfl, rfl, rfl, trivial⟩
            · rw [e]
              exact p
          · refine W.condpF rfl (by omega) ?_
            refine W.skip (W.seq (W.region (WL.mv rfl rfl ?_)))
            refine WL.callM 0 rfl rfl rfl (fun x p d => rwput_ci _ _ _ _ _ (by omega) (by omega) (by first | assumption | omega | (simp only [List.length_append, bitsOf_len, List.length_nil, heldF]; omega))) (by repeat' constructor) ?_
            refine WL.nil (W.seq (W.seq (W.region (WL.mv rfl rfl (WL.mv rfl rfl (WL.gY rfl rfl (WL.mv rfl rfl (WL.gY rfl rfl ?_))))))))
            refine WL.callV rfl rfl (fun x p d => rahead_c _ _ (by assumption)) ?_
            refine WL.gY rfl rfl (WL.mv rfl rfl (WL.gY rfl rfl (WL.geq rfl rfl rfl (WL.pickT rfl rfl rfl (WL.mv rfl rfl (WL.gT rfl rfl (by omega) (WL.mv rfl rfl (WL.gT rfl rfl (by omega) ?_))))))))
            refine WL.callV rfl rfl (fun x p d => rbehind_c _ _ (by assumption) (by assumption)) ?_
            refine WL.gT rfl rfl (by omega) (WL.mv rfl rfl (WL.gT rfl rfl (by omega) (WL.geq rfl rfl rfl (WL.pickTp rfl rfl (by omega) rfl (WL.nil (W.condpF rfl (by omega) (W.skip (W.seq (W.region (WL.mv rfl rfl ?_))))))))))
            refine WL.callV rfl rfl (fun x p d => rahead_c _ _ (by assumption)) ?_
            refine WL.mv rfl rfl ?_
            refine WL.callV rfl rfl (fun x p d => rbehind_c _ _ (by assumption) (by assumption)) ?_
            refine WL.as rfl rfl (WL.as rfl rfl (WL.as rfl rfl (WL.nil (W.seq (W.region (WL.mv rfl rfl ?_))))))
            refine WL.callM 0 rfl rfl rfl (fun x p d => rwput_ci _ _ _ _ _ (by omega) (by omega) (by first | assumption | omega | (simp only [List.length_append, bitsOf_len, List.length_nil, heldF]; omega))) (by repeat' constructor) ?_
            refine WL.nil (W.seq (W.region (WL.mv rfl rfl (WL.mv rfl rfl (WL.cvK (T := Ty) rfl rfl rfl rfl (wrap_u64 ⟨by omega, by omega⟩) ?_)))))
            refine WL.callM 0 rfl rfl rfl (fun x p d => rwput_c _ _ _ _ _ (by omega) (by first | assumption | omega | (simp only [List.length_append, bitsOf_len, List.length_nil, heldF]; omega))) (by repeat' constructor) ?_
            refine WL.nil (W.seq (W.region (WL.mv rfl rfl (WL.mv rfl rfl (WL.subK rfl rfl rfl (wrap_i64 ⟨by omega, by omega⟩) (WL.mv rfl rfl (WL.subK rfl rfl rfl (wrap_i64 ⟨by omega, by omega⟩) (WL.cvK (T := Ty) rfl rfl rfl rfl (wrap_u64 ⟨by omega, by omega⟩) ?_))))))))
            refine WL.callM 0 rfl rfl rfl (fun x p d => rwput_ci _ _ _ _ _ (by omega) (by omega) (by first | assumption | omega | (simp only [List.length_append, bitsOf_len, List.length_nil, heldF]; omega))) (by repeat' constructor) ?_
            refine WL.nil (W.region (WL.mv rfl rfl (WL.mv rfl rfl (WL.mv rfl rfl (WL.cvK (T := Ty) rfl rfl rfl rfl (wrap_u64 ⟨by omega, by omega⟩) (WL.shrS rfl rfl rfl (by omega) rfl (WL.mv rfl rfl (WL.subK rfl rfl rfl (wrap_i64 ⟨by omega, by omega⟩) (WL.mv rfl rfl (WL.subK rfl rfl rfl (wrap_i64 ⟨by omega, by omega⟩) ?_))))))))))
            rw [shr_val x (tzX x) (by omega)]
            refine WL.callM 0 rfl rfl rfl (fun x p d => rwput_c _ _ _ _ _ (by omega) (by first | assumption | omega | (simp only [List.length_append, bitsOf_len, List.length_nil, heldF]; omega))) (by repeat' constructor) ?_
            refine WL.nil (W.inBlock (W.region (WL.mv rfl rfl (WL.addK rfl rfl rfl (wrap_i64 ⟨by omega, by omega⟩) (WL.as rfl rfl (WL.nil ?_))))))
            refine W.sub ?_ (W.hs (fun h p => ?_) (fin _ rfl))
            · exact ⟨rfl, rfl, rfl, rfl, rfl, rfl, trivial⟩
            · rw [e]
              exact p
  · have hie : i = vs.length := by omega
    have e : es = ds ++ encX vs := by
      rw [← h2, hie, List.drop_of_length_le (Nat.le_refl _)]
      split
      · rename_i hn
        rw [List.eq_nil_of_length_eq_zero hn, encX_nil]; simp
      · rw [encG_nil]; simp
    refine W.seq (W.seq (W.region (WL.mv rfl rfl (WL.mv rfl rfl ?_))))
    refine WL.len (T := Ty) rfl rfl (by assumption) rfl ?_
    refine WL.lss rfl rfl rfl (WL.nil (W.condpF rfl (by omega) (W.exit rfl ?_)))
    refine W.stop0 rfl (fun h p => ⟨rfl, ?_⟩)
    rw [← e]
    exact sepl_one.1 p
end Go.Proofs.YtdpnpipninggeaaGreatDoor
