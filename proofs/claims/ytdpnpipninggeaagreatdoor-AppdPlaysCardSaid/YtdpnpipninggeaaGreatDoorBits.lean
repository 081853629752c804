/- Bit by bit: what the code of package bits does. -/
import Derived.Test.YtdpnpipninggeaaGreatDoorStc
import Derived.Test.YtdpnpipninggeaaGreatDoorNum
import Derived.Test.YtdpnpipninggeaaGreatDoorTab
import Derived.Test.YtdpnpipninggeaaGreatDoorCpB
import Derived.Test.YtdpnpipninggeaaGreatDoorBitsLaw
set_option linter.unusedSimpArgs false
set_option linter.unusedVariables false
set_option maxRecDepth 20000
set_option maxHeartbeats 4000000
namespace Go.Proofs.YtdpnpipninggeaaGreatDoor
open Go
attribute [local irreducible] W WL Fn Buf ROs SL eptr box Rd Src bndOK WD RB Reads In

/-- a writer that holds these bits -/
def Wr (b : Nat) (ds : List Nat) : HP := fun h => ∃ v, sepl [box b [v, .int .i64 (ds.length : Int)] 92, Buf 1 v ((pack ds).map bcell)] h
def ptr (b : Nat) : Value := .pointer (some ⟨b, 0, none⟩)

theorem held_eq (n : Int) : min (max n 0) 64 = (heldF n : Int) := by unfold heldF; omega
theorem held_le (n : Int) : heldF n ≤ 64 := by unfold heldF; omega
theorem held_c (ρ : Hp) (n : Int) : Fn Tryz.prog 85 #[.int .i64 n] ρ [] (Just (.int .i64 (heldF n : Int))) := by
  refine in85 rfl rfl ?_
  refine W.seq (W.region (WL.as rfl rfl (WL.nil (W.seq (W.region (WL.mv rfl rfl (WL.mx rfl rfl rfl (WL.mn rfl rfl rfl (WL.as rfl rfl (WL.nil ?_))))))))))
  exact W.ret1 rfl rfl (fun h p => ⟨by rw [← held_eq], p⟩)
theorem newWriter_c (ρ : Hp) : Fn Tryz.prog 33 #[] ρ [] (fun r h => ∃ b, r = ptr b ∧ Wr b [] h) := by
  refine in33 rfl rfl ?_
  refine W.seq (W.region (WL.as rfl rfl (WL.nil (W.seq (W.region ?_)))))
  refine WL.bdC (T := Ty) rfl rfl rfl rfl (by repeat' first | exact CO.nil | apply CO.one (by first | rfl | exact SL.one (by assumption)) | apply CO.agg) rfl (by repeat' constructor) ?_
  refine WL.bxF rfl rfl (by repeat' constructor) (fun b0 => ?_)
  refine WL.as rfl rfl (WL.nil (W.nb (sz := 1) (W.swap ?_)))
  exact W.ret1 rfl rfl (fun h p => ⟨_, rfl, _, p⟩)

theorem put_or (x m s : Nat) (d : Nat) (hx : x < 256) (hd : d < 2) (hm : m < 8) :
    bits .or .u8 (x : Int) (IntKind.u8.wrap ((d : Int) * 2 ^ min ((7 - (m : Int)).toNat) IntKind.u8.bits)) = ((x ||| d * 2 ^ (7 - m) : Nat) : Int) := by
  have e1 : min ((7 - (m : Int)).toNat) IntKind.u8.bits = 7 - m := by simp [IntKind.bits]; omega
  have hp : 2 ^ (7 - m) ≤ 2 ^ 7 := Nat.pow_le_pow_right (by decide) (by omega)
  have hlt : d * 2 ^ (7 - m) < 256 := by
    have h2 : d * 2 ^ (7 - m) ≤ 1 * 2 ^ 7 := Nat.mul_le_mul (by omega) hp
    omega
  have e2 : (d : Int) * 2 ^ (7 - m) = ((d * 2 ^ (7 - m) : Nat) : Int) := by push_cast; rfl
  rw [e1, e2, wrapU8, Nat.mod_eq_of_lt hlt, bits_or rfl hx hlt]

theorem put_bit (v j : Nat) (hv : v < 18446744073709551616) (hj : j < 64) : IntKind.u8.wrap (bits .and .u64 ((v : Int) / 2 ^ min ((((j + 1 : Nat) : Int) - 1).toNat) IntKind.u64.bits) 1) = ((v / 2 ^ j % 2 : Nat) : Int) := by
  have e1 : min ((((j + 1 : Nat) : Int) - 1).toNat) IntKind.u64.bits = j := by simp [IntKind.bits]; omega
  have e2 : (v : Int) / 2 ^ j = ((v / 2 ^ j : Nat) : Int) := by push_cast; rfl
  have hlt : v / 2 ^ j < 18446744073709551616 := Nat.lt_of_le_of_lt (Nat.div_le_self _ _) hv
  rw [e1, e2, show (1 : Int) = ((1 : Nat) : Int) from rfl, bits_and rfl (by exact hlt) (by decide), Nat.and_one_is_mod, wrapU8]
  congr 1
  omega
theorem set_put (es : List Nat) (d : Nat) (B : List Nat) (hB : B = if es.length % 8 = 0 then pack es ++ [0] else pack es) :
    B.set (es.length / 8) (B.getD (es.length / 8) 0 ||| d * 2 ^ (7 - es.length % 8)) = pack (es ++ [d]) := by
  rw [pack_snoc, putBit, hB]
  have hpl := pack_len es
  split
  · rename_i h
    have e : es.length / 8 = (pack es).length := by omega
    rw [e]
    simp [List.getD, h]
  · rfl

theorem put_c (ρ : Hp) (b : Nat) (ds : List Nat) (v : Nat) (n : Int) (hv : v < 18446744073709551616) (hds : ∀ d ∈ ds, d < 2) (hl : ds.length ≤ 1099511627776) :
    Fn Tryz.prog 56 #[ptr b, .int .u64 (v : Int), .int .i64 n] ρ [Wr b ds] (fun r h => r = .tuple #[] ∧ Wr b (ds ++ bitsOf v (heldF n)) h) := by
  refine in56 rfl rfl ?_
  refine W.ex (p := fun u => sepl [box b [u, .int .i64 (ds.length : Int)] 92, Buf 1 u ((pack ds).map bcell)]) (fun u0 => ?_)
  refine W.open ?_
  have hk := held_le n
  refine W.seq (W.region (WL.mv rfl rfl ?_))
  refine WL.callV rfl rfl (fun x p d => held_c _ _) ?_
  refine WL.subK rfl rfl rfl (wrap_i64 ⟨by omega, by omega⟩) (WL.as rfl rfl (WL.nil (W.block ?_)))
  refine W.loopS (σ := Nat × List Nat × Value) (fun s => [(0, ptr b), (1, .int .u64 (v : Int)), (6, .int .i64 ((s.1 : Int) - 1))]) (fun s => [box b [s.2.2, .int .i64 (s.2.1.length : Int)] 92, Buf 1 s.2.2 ((pack s.2.1).map bcell)])
    (fun s => s.1 ≤ 64 ∧ s.2.1 ++ bitsOf v s.1 = ds ++ bitsOf v (heldF n) ∧ s.2.1.length + s.1 = ds.length + heldF n ∧ (∀ d ∈ s.2.1, d < 2)) (fun s => s.1) (heldF n, ds, u0) ⟨rfl, rfl, rfl, trivial⟩ rfl ⟨hk, rfl, rfl, hds⟩ ?_
  rintro ⟨k, es, u⟩ ⟨h1, h2, h3, h4⟩ next
  simp only [] at h1 h2 h3 h4 next ⊢
  have hpl := pack_len es
  have hplt := pack_lt es h4
  refine W.fact (i := 1) rfl (fun h hb => hb.sl (n := (pack es).length) (by simp) (by omega)) fun hs => ?_
  refine W.seq (W.seq (W.region (WL.mv rfl rfl (WL.geq rfl rfl rfl (WL.nil ?_)))))
  refine W.condp rfl (fun hk1 => ?_) (fun hk0 => ?_)
  · obtain ⟨j, rfl⟩ : ∃ j, k = j + 1 := ⟨k - 1, by omega⟩
    obtain ⟨B, hB⟩ : ∃ B, B = if es.length % 8 = 0 then pack es ++ [0] else pack es := ⟨_, rfl⟩
    refine W.skip (W.seq (W.block (W.seq (W.seq (W.region (WL.mv rfl rfl (WL.nc rfl rfl (WL.faN (T := Ty) (off' := 1) rfl rfl rfl rfl rfl rfl rfl (WL.ldN (T := Ty) (j := 0) rfl rfl rfl rfl rfl rfl (WL.remI rfl rfl rfl (by omega) (by omega) (WL.eql rfl rfl rfl (WL.nil ?_))))))))))))
    refine W.cut (τ := Value) (fun u' => [(0, ptr b), (1, .int .u64 (v : Int)), (6, .int .i64 (((j + 1 : Nat) : Int) - 1))]) (fun u' => [box b [u', .int .i64 (es.length : Int)] 92, Buf 1 u' (B.map bcell)]) (fun u' => SL u' B.length) ?_ (fun cut => ?_)
    · intro u' hs'
      have hBl : es.length / 8 < B.length := by
        rw [hB]
        split
        · simp; omega
        · omega
      have hget : (B.map bcell)[es.length / 8]? = some (bcell (B.getD (es.length / 8) 0)) := by
        simp [List.getD, List.getElem?_eq_getElem hBl]
      have hBlt : B.getD (es.length / 8) 0 < 256 := by
        have : ∀ x ∈ B, x < 256 := by
          rw [hB]
          split
          · intro x hx
            rcases List.mem_append.1 hx with h | h
            · exact hplt x h
            · simp at h; omega
          · exact hplt
        simp only [List.getD, List.getElem?_eq_getElem hBl]
        exact this _ (List.getElem_mem _)
      refine W.seq ?_
      refine W.drawA 24 rfl (fun σ0 hσ0 dσ0 => ?_)
      have fσ0_0 := rb_at 0 rfl hσ0 dσ0
      have fσ0_1 := ros_at 1 rfl hσ0 dσ0
      refine WD.takeL 0 rfl (by decide +kernel) (WL.mv rfl rfl (WL.nilT (WD.takeL 1 rfl (by decide +kernel) (WL.nc rfl rfl (WL.nilT (WD.takeL 2 rfl (by decide +kernel) (WL.faN (T := Ty) (off' := 0) rfl rfl rfl rfl rfl rfl rfl (WL.nilT (WD.takeL 3 rfl (by decide +kernel) ?_)))))))))
      refine WL.ldBN (T := Ty) rfl rfl rfl rfl (by first | assumption | exact RB.wide (by assumption) | exact In.rb (by assumption)) rfl ?_
      refine WL.nilT (WD.takeL 4 rfl (by decide +kernel) (WL.mv rfl rfl (WL.nilT (WD.takeL 5 rfl (by decide +kernel) (WL.nc rfl rfl (WL.nilT (WD.takeL 6 rfl (by decide +kernel) (WL.faN (T := Ty) (off' := 1) rfl rfl rfl rfl rfl rfl rfl (WL.nilT (WD.takeL 7 rfl (by decide +kernel) ?_))))))))))
      refine WL.ldBN (T := Ty) rfl rfl rfl rfl (by first | assumption | exact RB.wide (by assumption) | exact In.rb (by assumption)) rfl ?_
      refine WL.nilT (WD.takeL 8 rfl (by decide +kernel) (WL.quoI rfl rfl rfl (by omega) (by omega) (by omega) (WL.nilT (WD.takeL 9 rfl (by decide +kernel) ?_))))
      refine WL.ix (T := Ty) rfl rfl rfl (by assumption) rfl rfl (by omega) (by first | omega | decide +kernel) ?_
      refine WL.nilT (WD.takeL 10 rfl (by decide +kernel) ?_)
      refine WL.ldKn (T := Ty) rfl rfl rfl rfl (by first | assumption | exact ROs.wide (by assumption)) (by assumption) ?_
      refine WL.nilT (WD.takeL 11 rfl (by decide +kernel) (WL.mv rfl rfl (WL.nilT (WD.takeL 12 rfl (by decide +kernel) (WL.mv rfl rfl (WL.nilT (WD.takeL 13 rfl (by decide +kernel) (WL.shrS rfl rfl rfl (by omega) rfl (WL.nilT (WD.takeL 14 rfl (by decide +kernel) (WL.and rfl rfl rfl (WL.nilT (WD.takeL 15 rfl (by decide +kernel) ?_)))))))))))))
      refine WL.cv (T := Ty) rfl rfl rfl rfl (WL.nilT (WD.takeL 16 rfl (by decide +kernel) (WL.mv rfl rfl (WL.nilT (WD.takeL 17 rfl (by decide +kernel) (WL.nc rfl rfl (WL.nilT (WD.takeL 18 rfl (by decide +kernel) (WL.faN (T := Ty) (off' := 1) rfl rfl rfl rfl rfl rfl rfl (WL.nilT (WD.takeL 19 rfl (by decide +kernel) ?_)))))))))))
      refine WL.ldBN (T := Ty) rfl rfl rfl rfl (by first | assumption | exact RB.wide (by assumption) | exact In.rb (by assumption)) rfl ?_
      refine WL.nilT (WD.takeL 20 rfl (by decide +kernel) (WL.remI rfl rfl rfl (by omega) (by omega) (WL.nilT (WD.takeL 21 rfl (by decide +kernel) (WL.subK rfl rfl rfl (wrap_i64 ⟨by omega, by omega⟩) (WL.nilT (WD.takeL 22 rfl (by decide +kernel) (WL.shlS rfl rfl rfl (by omega) rfl rfl (WL.nilT (WD.takeL 23 rfl (by decide +kernel) (WL.or rfl rfl rfl (WL.nilT ?_))))))))))))
      refine WD.lastG hσ0 (by decide +kernel) (by repeat' constructor) rfl (by repeat' constructor) ?_
      refine WL.ix (T := Ty) rfl rfl rfl (by assumption) rfl rfl (by omega) (by first | omega | decide +kernel) ?_
      refine WL.stEF (T := Ty) (j := 1) rfl rfl rfl rfl rfl rfl (by first | assumption | omega | (simp only [List.length_set]; omega) | (simp; omega)) rfl (by repeat' constructor) ?_
      refine WL.nil (W.region (WL.mv rfl rfl (WL.nc rfl rfl (WL.faN (T := Ty) (off' := 1) rfl rfl rfl rfl rfl rfl rfl (WL.ldN (T := Ty) (j := 0) rfl rfl rfl rfl rfl rfl (WL.addK rfl rfl rfl (wrap_i64 ⟨by omega, by omega⟩) (WL.nc rfl rfl (WL.faN (T := Ty) (off' := 1) rfl rfl rfl rfl rfl rfl rfl ?_))))))))
      refine WL.stF (T := Ty) (j := 0) rfl rfl rfl rfl rfl rfl rfl (by repeat' constructor) (by repeat' constructor) ?_
      refine WL.nil (W.inBlock (W.region (WL.mv rfl rfl (WL.subK rfl rfl rfl (wrap_i64 ⟨by omega, by omega⟩) (WL.as rfl rfl (WL.nil ?_))))))
      refine W.sub ?_ (W.hs (fun h p => ?_) (next ⟨j, es ++ [v / 2 ^ j % 2], u'⟩ ⟨by omega, ?_, by simp; omega, ?_⟩ (by simp)))
      · exact ⟨rfl, rfl, by simp [look, ev], trivial⟩
      · rw [put_bit v j hv (by omega), show (es.length : Int) % 8 = ((es.length % 8 : Nat) : Int) by omega, put_or _ _ 0 _ hBlt (by omega) (by omega), show ((es.length : Int) / 8).toNat * 1 = es.length / 8 by omega] at p
        simp only [List.length_append, List.length_cons, List.length_nil, ← set_put es _ B hB, List.map_set]
        simpa [bcell] using p
      · rw [← h2, bitsOf]; simp
      · intro d hd
        rcases List.mem_append.1 hd with h | h
        · exact h4 d h
        · simp at h; omega
    · refine W.condp rfl (fun h8 => ?_) (fun h8 => ?_)
      · refine W.region ?_
        refine WL.mv rfl rfl (WL.mv rfl rfl (WL.nc rfl rfl (WL.faN (T := Ty) (off' := 0) rfl rfl rfl rfl rfl rfl rfl (WL.ldN (T := Ty) (j := 0) rfl rfl rfl rfl rfl rfl ?_))))
        refine WL.bsC (T := Ty) rfl rfl rfl rfl rfl rfl rfl (by repeat' first | exact CO.nil | apply CO.one (by first | rfl | exact SL.one (by assumption)) | apply CO.agg) rfl (by repeat' constructor) (fun u1 hu1 => ?_)
        refine WL.ap1 (T := Ty) (i := 1) rfl rfl rfl rfl rfl rfl rfl rfl (by assumption) (by first | rfl | assumption) (by first | omega | (simp; omega) | (simp only [List.length_drop, List.length_take]; omega)) (by first | omega | (simp; omega) | (simp only [List.length_drop, List.length_take]; omega)) (fun v' => (by repeat' constructor)) (fun u2 hu2 => ?_)
        refine WL.nc rfl rfl (WL.faN (T := Ty) (off' := 0) rfl rfl rfl rfl rfl rfl rfl ?_)
        refine WL.stF (T := Ty) (j := 0) rfl rfl rfl rfl (SL.one (by assumption)) rfl rfl (by repeat' constructor) (by repeat' constructor) ?_
        refine WL.nil ?_
        have hBe : B = pack es ++ [0] := by rw [hB, if_pos (by omega)]
        refine W.sub ?_ (W.hs (fun h p => ?_) (cut u2 (by rw [hBe]; simpa using hu2)))
        · exact ⟨rfl, rfl, rfl, trivial⟩
        · rw [hBe]; simpa [bcell] using p
      · refine W.skip ?_
        have hBe : B = pack es := by rw [hB, if_neg (by omega)]
        refine W.sub ?_ (W.hs (fun h p => ?_) (cut u (by rw [hBe]; exact hs)))
        · exact ⟨rfl, rfl, rfl, trivial⟩
        · rw [hBe]; exact p
  · have : k = 0 := by omega
    subst this
    refine W.exit rfl ?_
    refine W.stop0 rfl (fun h p => ⟨rfl, u, ?_⟩)
    simp only [bitsOf, List.append_nil] at h2
    rw [← h2]
    exact p

theorem put_ci (ρ : Hp) (b : Nat) (ds : List Nat) (v : Int) (n : Int) (h0 : 0 ≤ v) (hv : v < 18446744073709551616) (hds : ∀ d ∈ ds, d < 2) (hl : ds.length ≤ 1099511627776) :
    Fn Tryz.prog 56 #[ptr b, .int .u64 v, .int .i64 n] ρ [Wr b ds] (fun r h => r = .tuple #[] ∧ Wr b (ds ++ bitsOf v.toNat (heldF n)) h) := by
  have e : v = ((v.toNat : Nat) : Int) := by omega
  have := put_c ρ b ds v.toNat n (by omega) hds hl
  rw [← e] at this
  exact this
theorem bytes_c (ρ : Hp) (b : Nat) (ds : List Nat) (h : In ρ (Wr b ds)) (hl : ds.length ≤ 2199023255552) : Fn Tryz.prog 35 #[ptr b] ρ [] (fun r => Buf 1 r ((pack ds).map bcell)) := by
  refine in35 rfl rfl ?_
  obtain ⟨v, h⟩ := h.ex
  have hb := h.head.1.rb
  have hv := h.head.2.head.1.ros
  have hpl := pack_len ds
  refine W.seq (W.region (WL.as rfl rfl (WL.nil (W.seq (W.region (WL.mv rfl rfl (WL.nc rfl rfl (WL.faN (T := Ty) (off' := 0) rfl rfl rfl rfl rfl rfl rfl ?_))))))))
  refine WL.ldBN (T := Ty) rfl rfl rfl rfl (by first | assumption | exact RB.wide (by assumption) | exact In.rb (by assumption)) rfl ?_
  refine WL.callF rfl rfl (fun x p d => clone_c _ _ _ _ (by first | assumption | exact ROs.wide (by assumption) | exact ROs.mono (by assumption) (eqh_at 0 rfl p d) | exact ros_at 0 rfl p d | exact ros_at 1 rfl p d | exact ros_at 2 rfl p d | exact ros_at 3 rfl p d | exact ros_at 4 rfl p d) (Nat.mul_one _).symm (one_bcell _) (by simp; omega)) (fun u0 => ?_)
  refine WL.fact (i := 0) rfl (fun h hb => Buf.slm hb) (fun hsl0 => ?_)
  refine WL.as rfl rfl (WL.nil ?_)
  exact W.ret1 rfl rfl (fun h p => sepl_one.1 p)

/-- a reader -/
theorem getF_at (bs : List Nat) (s : RdSt) (n : Int) (h : s.at' ≤ 8 * bs.length) : (getF bs s n).2.at' ≤ 8 * bs.length := by
  unfold getF
  split
  · exact h
  · rename_i h'
    simp only [not_or, Bool.not_eq_true, leftF] at h'
    rw [h'.1] at h'
    simp at h' ⊢
    omega
theorem get_bit (c m : Nat) (hc : c < 256) (hm : m < 8) : bits .and .u8 ((c : Int) / 2 ^ min ((7 - (m : Int)).toNat) IntKind.u8.bits) 1 = ((c / 2 ^ (7 - m) % 2 : Nat) : Int) := by
  have e1 : min ((7 - (m : Int)).toNat) IntKind.u8.bits = 7 - m := by simp [IntKind.bits]; omega
  have e2 : (c : Int) / 2 ^ (7 - m) = ((c / 2 ^ (7 - m) : Nat) : Int) := by push_cast; rfl
  have hlt : c / 2 ^ (7 - m) < 256 := Nat.lt_of_le_of_lt (Nat.div_le_self _ _) hc
  rw [e1, e2, show (1 : Int) = ((1 : Nat) : Int) from rfl, bits_and rfl (by exact hlt) (by decide), Nat.and_one_is_mod]
theorem get_or (g d k : Nat) (hg : g < 2 ^ k) (hk : k < 64) (hd : d < 2) : bits .or .u64 (IntKind.u64.wrap ((g : Int) * 2)) (d : Int) = ((2 * g + d : Nat) : Int) := by
  have hp : 2 ^ k ≤ 2 ^ 63 := Nat.pow_le_pow_right (by decide) (by omega)
  have e1 : (g : Int) * 2 = ((2 * g : Nat) : Int) := by push_cast; omega
  have hlt : 2 * g < 18446744073709551616 := by omega
  rw [e1, wrapU64, Nat.mod_eq_of_lt hlt, bits_or rfl hlt (by show d < 18446744073709551616; omega)]
  congr 1
  have := (Nat.two_pow_add_eq_or_of_lt (i := 1) (b := d) (by omega) g)
  rw [Nat.pow_one] at this
  omega
theorem get_step (bs : List Nat) (at' j : Nat) (hc : bs.getD ((at' + j) / 8) 0 < 256) (hj : j < 64) :
    bits .or .u64 (IntKind.u64.wrap ((getV bs at' j : Int) * 2)) (IntKind.u64.wrap (bits .and .u8 ((bs.getD ((at' + j) / 8) 0 : Nat) / 2 ^ min (7 - ((at' : Int) + (j : Int)) % 8).toNat IntKind.u8.bits) 1)) = ((getV bs at' (j + 1) : Nat) : Int) := by
  rw [show ((at' : Int) + (j : Int)) % 8 = (((at' + j) % 8 : Nat) : Int) by omega, get_bit _ _ hc (by omega), wrapU64, Nat.mod_eq_of_lt (by omega), get_or _ _ j (getV_lt bs at' j) hj (by omega)]
  rfl
end Go.Proofs.YtdpnpipninggeaaGreatDoor
