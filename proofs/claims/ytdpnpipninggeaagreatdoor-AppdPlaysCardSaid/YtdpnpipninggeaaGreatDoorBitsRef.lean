/- Bit by bit: what the document's own code does. -/
import Derived.Test.YtdpnpipninggeaaGreatDoorStc
import Derived.Test.YtdpnpipninggeaaGreatDoorNum
import Derived.Test.YtdpnpipninggeaaGreatDoorTab
import Derived.Test.YtdpnpipninggeaaGreatDoorBits
set_option linter.unusedSimpArgs false
set_option linter.unusedVariables false
set_option maxRecDepth 20000
set_option maxHeartbeats 4000000
namespace Go.Proofs.YtdpnpipninggeaaGreatDoor
open Go
attribute [local irreducible] W WL Fn Buf ROs SL eptr box Rd Src bndOK WD RB Reads In

/-- the document's writer -/
def RWr (b : Nat) (ds : List Nat) : HP := fun h => ∃ v, sepl [box b [v] 73, Buf 1 v (ds.map bcell)] h
theorem rwput_c (ρ : Hp) (b : Nat) (ds : List Nat) (v : Nat) (n : Int) (hv : v < 18446744073709551616) (hl : ds.length ≤ 1099511627776) :
    Fn Tryz.prog 64 #[ptr b, .int .u64 (v : Int), .int .i64 n] ρ [RWr b ds] (fun r h => r = .tuple #[] ∧ RWr b (ds ++ bitsOf v (heldF n)) h) := by
  refine in64 rfl rfl ?_
  refine W.ex (p := fun u => sepl [box b [u] 73, Buf 1 u (ds.map bcell)]) (fun u0 => ?_)
  refine W.open ?_
  have hk := held_le n
  refine W.seq (W.region (WL.mv rfl rfl (WL.mx rfl rfl rfl (WL.mn rfl rfl rfl (WL.subK rfl rfl rfl (wrap_i64 ⟨by omega, by omega⟩) (WL.as rfl rfl (WL.nil (W.block ?_))))))))
  refine W.loopS (σ := Nat × List Nat × Value) (fun s => [(0, ptr b), (1, .int .u64 (v : Int)), (6, .int .i64 ((s.1 : Int) - 1))]) (fun s => [box b [s.2.2] 73, Buf 1 s.2.2 (s.2.1.map bcell)])
    (fun s => s.1 ≤ 64 ∧ s.2.1 ++ bitsOf v s.1 = ds ++ bitsOf v (heldF n) ∧ s.2.1.length + s.1 = ds.length + heldF n) (fun s => s.1) (heldF n, ds, u0) ⟨rfl, rfl, by simp [look, ev, held_eq], trivial⟩ (by simp) ⟨hk, rfl, rfl⟩ ?_
  rintro ⟨k, es, u⟩ ⟨h1, h2, h3⟩ next
  simp only [] at h1 h2 h3 next ⊢
  refine W.seq (W.seq (W.region (WL.mv rfl rfl (WL.geq rfl rfl rfl (WL.nil ?_)))))
  refine W.condp rfl (fun hk1 => ?_) (fun hk0 => ?_)
  · obtain ⟨j, rfl⟩ : ∃ j, k = j + 1 := ⟨k - 1, by omega⟩
    refine W.skip (W.seq (W.block (W.region (WL.mv rfl rfl (WL.mv rfl rfl (WL.nc rfl rfl (WL.faN (T := Ty) (off' := 0) rfl rfl rfl rfl rfl rfl rfl (WL.ldN (T := Ty) (j := 0) rfl rfl rfl rfl rfl rfl (WL.mv rfl rfl (WL.mv rfl rfl (WL.cvK (T := Ty) rfl rfl rfl rfl (wrap_u64 ⟨by omega, by omega⟩) (WL.shrS rfl rfl rfl (by omega) rfl (WL.and rfl rfl rfl ?_)))))))))))))
    refine WL.cv (T := Ty) rfl rfl rfl rfl ?_
    refine WL.bsC (T := Ty) rfl rfl rfl rfl rfl rfl rfl (by repeat' first | exact CO.nil | apply CO.one (by first | rfl | exact SL.one (by assumption)) | apply CO.agg) rfl (by repeat' constructor) (fun u1 hu1 => ?_)
    refine WL.ap1 (T := Ty) (i := 1) rfl rfl rfl rfl rfl rfl rfl rfl (by assumption) (by first | rfl | assumption) (by first | omega | (simp; omega) | (simp only [List.length_drop, List.length_take]; omega)) (by first | omega | (simp; omega) | (simp only [List.length_drop, List.length_take]; omega)) (fun v' => (by repeat' constructor)) (fun u2 hu2 => ?_)
    refine WL.nc rfl rfl (WL.faN (T := Ty) (off' := 0) rfl rfl rfl rfl rfl rfl rfl ?_)
    refine WL.stF (T := Ty) (j := 0) rfl rfl rfl rfl (SL.one (by assumption)) rfl rfl (by repeat' constructor) (by repeat' constructor) ?_
    refine WL.nil (W.inBlock (W.region (WL.mv rfl rfl (WL.subK rfl rfl rfl (wrap_i64 ⟨by omega, by omega⟩) (WL.as rfl rfl (WL.nil ?_))))))
    refine W.sub ?_ (W.hs (fun h p => ?_) (next ⟨j, es ++ [v / 2 ^ j % 2], u2⟩ ⟨by omega, ?_, by simp; omega⟩ (by simp)))
    · exact ⟨rfl, rfl, by simp [look, ev], trivial⟩
    · rw [put_bit v j hv (by omega)] at p
      simpa [bcell] using p
    · rw [← h2, bitsOf]; simp
  · have : k = 0 := by omega
    subst this
    refine W.exit rfl ?_
    refine W.stop0 rfl (fun h p => ⟨rfl, u, ?_⟩)
    simp only [bitsOf, List.append_nil] at h2
    rw [← h2]
    exact p
theorem rwbytes_c (ρ : Hp) (b : Nat) (ds : List Nat) (hd : ∀ d ∈ ds, d < 2) (h : In ρ (RWr b ds)) (hl : ds.length ≤ 2199023255552) : Fn Tryz.prog 42 #[ptr b] ρ [] (fun r => Buf 1 r ((pack ds).map bcell)) := by
  refine in42 rfl rfl ?_
  obtain ⟨v, h⟩ := h.ex
  have hb := h.head.1.rb
  have hv := h.head.2.head.1.ros
  have hsl : SL v ds.length := hv.sl (by simp) (by omega)
  refine W.seq (W.region (WL.as rfl rfl (WL.nil (W.seq (W.region (WL.as rfl rfl (WL.nil (W.seq (W.seq (W.region (WL.as rfl rfl (WL.nil (W.block ?_)))))))))))))
  refine W.nb (sz := 1) ?_
  refine W.loopS (σ := Nat × Value) (fun s => [(0, ptr b), (3, s.2), (4, .int .i64 (s.1 : Int))]) (fun s => [Buf 1 s.2 ((pack (ds.take s.1)).map bcell)])
    (fun s => s.1 ≤ ds.length) (fun s => ds.length - s.1) (0, .slice none 0 0) ⟨rfl, rfl, rfl, trivial⟩ (by simp [pack, packF]) (by simp) ?_
  rintro ⟨i, u⟩ hi next
  simp only [] at hi next ⊢
  obtain ⟨es, hes⟩ : ∃ es, es = ds.take i := ⟨_, rfl⟩
  have hel : es.length = i := by rw [hes]; simp; omega
  have hed : ∀ d ∈ es, d < 2 := fun d h => hd d (by rw [hes] at h; exact List.mem_of_mem_take h)
  rw [← hes]
  have hpl := pack_len es
  have hplt := pack_lt es hed
  refine W.seq (W.seq (W.region (WL.mv rfl rfl (WL.mv rfl rfl (WL.nc rfl rfl (WL.faN (T := Ty) (off' := 0) rfl rfl rfl rfl rfl rfl rfl ?_))))))
  refine WL.ldBN (T := Ty) rfl rfl rfl rfl (by first | assumption | exact RB.wide (by assumption) | exact In.rb (by assumption)) rfl ?_
  refine WL.len (T := Ty) rfl rfl (by assumption) rfl ?_
  refine WL.lss rfl rfl rfl (WL.nil ?_)
  refine W.condp rfl (fun hlt => ?_) (fun hge => ?_)
  · obtain ⟨B, hB⟩ : ∃ B, B = if es.length % 8 = 0 then pack es ++ [0] else pack es := ⟨_, rfl⟩
    refine W.skip (W.seq (W.block (W.seq (W.seq (W.region (WL.mv rfl rfl (WL.remI rfl rfl rfl (by omega) (by omega) (WL.eql rfl rfl rfl (WL.nil ?_)))))))))
    refine W.cut (τ := Value) (fun u' => [(0, ptr b), (3, u'), (4, .int .i64 (i : Int))]) (fun u' => [Buf 1 u' (B.map bcell)]) (fun u' => SL u' B.length) ?_ (fun cut => ?_)
    · intro u' hs'
      have hBl : es.length / 8 < B.length := by
        rw [hB]
        split
        · simp; omega
        · omega
      have hget : (B.map bcell)[i / 8]? = some (bcell (B.getD (i / 8) 0)) := by
        rw [← hel]; simp [List.getD, List.getElem?_eq_getElem hBl]
      obtain ⟨dd, hdd⟩ : ∃ dd, ds[i]? = some dd := ⟨_, List.getElem?_eq_getElem (by omega)⟩
      have hget2 : (ds.map bcell)[i]? = some (bcell dd) := by simp [hdd]
      refine W.drawA 21 rfl (fun σ0 hσ0 dσ0 => ?_)
      have fσ0_0 := ros_at 0 rfl hσ0 dσ0
      refine WD.takeL 0 rfl (by decide +kernel) (WL.mv rfl rfl (WL.nilT (WD.takeL 1 rfl (by decide +kernel) (WL.mv rfl rfl (WL.nilT (WD.takeL 2 rfl (by decide +kernel) (WL.quoI rfl rfl rfl (by omega) (by omega) (by omega) (WL.nilT (WD.takeL 3 rfl (by decide +kernel) (WL.mv rfl rfl (WL.nilT (WD.takeL 4 rfl (by decide +kernel) (WL.mv rfl rfl ?_)))))))))))))
      refine WL.nilT (WD.takeL 5 rfl (by decide +kernel) (WL.quoI rfl rfl rfl (by omega) (by omega) (by omega) (WL.nilT (WD.takeL 6 rfl (by decide +kernel) ?_))))
      refine WL.ix (T := Ty) rfl rfl rfl (by assumption) rfl rfl (by omega) (by first | omega | decide +kernel) ?_
      refine WL.nilT (WD.takeL 7 rfl (by decide +kernel) ?_)
      refine WL.ldKn (T := Ty) rfl rfl rfl rfl (by first | assumption | exact ROs.wide (by assumption)) (by assumption) ?_
      refine WL.nilT (WD.takeL 8 rfl (by decide +kernel) (WL.mv rfl rfl (WL.nilT (WD.takeL 9 rfl (by decide +kernel) (WL.nc rfl rfl (WL.nilT (WD.takeL 10 rfl (by decide +kernel) (WL.faN (T := Ty) (off' := 0) rfl rfl rfl rfl rfl rfl rfl (WL.nilT (WD.takeL 11 rfl (by decide +kernel) ?_))))))))))
      refine WL.ldBN (T := Ty) rfl rfl rfl rfl (by first | assumption | exact RB.wide (by assumption) | exact In.rb (by assumption)) rfl ?_
      refine WL.nilT (WD.takeL 12 rfl (by decide +kernel) (WL.mv rfl rfl (WL.nilT (WD.takeL 13 rfl (by decide +kernel) ?_))))
      refine WL.ix (T := Ty) rfl rfl rfl (by assumption) rfl rfl (by omega) (by first | omega | decide +kernel) ?_
      refine WL.nilT (WD.takeL 14 rfl (by decide +kernel) ?_)
      refine WL.ldKn (T := Ty) rfl rfl rfl rfl (by first | assumption | exact ROs.wide (by assumption)) (by assumption) ?_
      refine WL.nilT (WD.takeL 15 rfl (by decide +kernel) (WL.mv rfl rfl (WL.nilT (WD.takeL 16 rfl (by decide +kernel) (WL.remI rfl rfl rfl (by omega) (by omega) (WL.nilT (WD.takeL 17 rfl (by decide +kernel) (WL.subK rfl rfl rfl (wrap_i64 ⟨by omega, by omega⟩) (WL.nilT (WD.takeL 18 rfl (by decide +kernel) (WL.cvK (T := Ty) rfl rfl rfl rfl (wrap_u64 ⟨by omega, by omega⟩) (WL.nilT (WD.takeL 19 rfl (by decide +kernel) ?_)))))))))))))
      refine WL.shlS rfl rfl rfl (by omega) rfl rfl (WL.nilT (WD.takeL 20 rfl (by decide +kernel) (WL.or rfl rfl rfl (WL.nilT ?_))))
      refine WD.lastG hσ0 (by decide +kernel) (by repeat' constructor) rfl (by repeat' constructor) ?_
      refine WL.ix (T := Ty) rfl rfl rfl (by assumption) rfl rfl (by omega) (by first | omega | decide +kernel) ?_
      refine WL.stEF (T := Ty) (j := 0) rfl rfl rfl rfl rfl rfl (by first | assumption | omega | (simp only [List.length_set]; omega) | (simp; omega)) rfl (by repeat' constructor) ?_
      refine WL.nil (W.inBlock (W.region (WL.mv rfl rfl (WL.addK rfl rfl rfl (wrap_i64 ⟨by omega, by omega⟩) (WL.as rfl rfl (WL.nil ?_))))))
      have hdd2 : dd < 2 := hd dd (List.mem_of_getElem? hdd)
      have hBlt : B.getD (i / 8) 0 < 256 := by
        have : ∀ x ∈ B, x < 256 := by
          rw [hB]
          split
          · intro x hx
            rcases List.mem_append.1 hx with h | h
            · exact hplt x h
            · simp at h; omega
          · exact hplt
        simp only [List.getD, List.getElem?_eq_getElem (show i / 8 < B.length by omega)]
        exact this _ (List.getElem_mem _)
      refine W.sub ?_ (W.hs (fun h p => ?_) (next ⟨i + 1, u'⟩ (by omega) (by simp; omega)))
      · exact ⟨rfl, rfl, by simp [look, ev], trivial⟩
      · have e : ds.take (i + 1) = es ++ [dd] := by rw [hes, List.take_add_one, hdd]; rfl
        simp only []
        rw [e]
        rw [show (i : Int) % 8 = ((i % 8 : Nat) : Int) by omega, put_or _ _ 0 _ hBlt (by omega) (by omega), show ((i : Int) / 8).toNat * 1 = i / 8 by omega] at p
        have e2 := set_put es dd B hB
        rw [hel] at e2
        rw [← e2, List.map_set]
        exact p
    · refine W.condp rfl (fun h8 => ?_) (fun h8 => ?_)
      · refine W.region ?_
        refine WL.mv rfl rfl ?_
        refine WL.bsC (T := Ty) rfl rfl rfl rfl rfl rfl rfl (by repeat' first | exact CO.nil | apply CO.one (by first | rfl | exact SL.one (by assumption)) | apply CO.agg) rfl (by repeat' constructor) (fun u0 hu0 => ?_)
        refine WL.ap1 (T := Ty) (i := 0) rfl rfl rfl rfl rfl rfl rfl rfl (by assumption) (by first | rfl | assumption) (by first | omega | (simp; omega) | (simp only [List.length_drop, List.length_take]; omega)) (by first | omega | (simp; omega) | (simp only [List.length_drop, List.length_take]; omega)) (fun v' => (by repeat' constructor)) (fun u1 hu1 => ?_)
        refine WL.as rfl rfl (WL.nil ?_)
        have hBe : B = pack es ++ [0] := by rw [hB, if_pos (by omega)]
        refine W.sub ?_ (W.hs (fun h p => ?_) (cut u1 (by rw [hBe]; simpa using hu1)))
        · exact ⟨rfl, rfl, rfl, trivial⟩
        · rw [hBe]; simpa [bcell] using p
      · refine W.skip ?_
        have hBe : B = pack es := by rw [hB, if_neg (by omega)]
        refine W.fact (i := 0) rfl (fun h hb => hb.sl (n := (pack es).length) (by simp) (by omega)) fun hs => ?_
        refine W.sub ?_ (W.hs (fun h p => ?_) (cut u (by rw [hBe]; exact hs)))
        · exact ⟨rfl, rfl, rfl, trivial⟩
        · rw [hBe]; exact p
  · have : i = ds.length := by omega
    refine W.exit rfl (W.seq (W.region (WL.mv rfl rfl (WL.as rfl rfl (WL.nil ?_)))))
    have e : es = ds := by rw [hes, this]; simp
    refine W.ret1 rfl rfl (fun h p => ?_)
    rw [← e]
    exact sepl_one.1 p

/-- the document's reader; the bytes are the caller's -/
def RRe (b : Nat) (v : Value) (s : RdSt) : HP := box b [v, .int .i64 (s.at' : Int), .bool s.bad] 83
theorem rleft_c (ρ : Hp) (b : Nat) (v : Value) (bs : List Nat) (s : RdSt) (h : In ρ (RRe b v s)) (hv : ROs ρ 1 v (bs.map bcell)) (hs : s.at' ≤ 8 * bs.length) (hl : bs.length ≤ 140737488355328) : Fn Tryz.prog 95 #[ptr b] ρ [] (Just (.int .i64 (leftF bs s : Int))) := by
  refine in95 rfl rfl ?_
  have hb := h.rb
  have hsl : SL v bs.length := hv.sl (by simp) (by omega)
  obtain ⟨at', bad⟩ := s
  simp only [] at hb hs
  refine W.seq (W.region (WL.as rfl rfl (WL.nil (W.seq (W.seq (W.region (WL.mv rfl rfl (WL.nc rfl rfl (WL.faN (T := Ty) (off' := 2) rfl rfl rfl rfl rfl rfl rfl ?_)))))))))
  refine WL.ldBN (T := Ty) rfl rfl rfl rfl (by first | assumption | exact RB.wide (by assumption) | exact In.rb (by assumption)) rfl ?_
  refine WL.nil ?_
  cases bad with
  | true =>
    refine W.condT rfl (W.seq (W.region (WL.as rfl rfl (WL.nil ?_))))
    exact W.ret1 rfl rfl (fun h p => ⟨rfl, p⟩)
  | false =>
    refine W.condF rfl (W.skip (W.seq ?_))
    refine W.drawA 11 rfl (fun σ0 hσ0 dσ0 => ?_)
    refine WD.takeL 0 rfl (by decide +kernel) (WL.mv rfl rfl (WL.nilT (WD.takeL 1 rfl (by decide +kernel) (WL.nc rfl rfl (WL.nilT (WD.takeL 2 rfl (by decide +kernel) (WL.faN (T := Ty) (off' := 0) rfl rfl rfl rfl rfl rfl rfl (WL.nilT (WD.takeL 3 rfl (by decide +kernel) ?_)))))))))
    refine WL.ldBN (T := Ty) rfl rfl rfl rfl (by first | assumption | exact RB.wide (by assumption) | exact In.rb (by assumption)) rfl ?_
    refine WL.nilT (WD.takeL 4 rfl (by decide +kernel) ?_)
    refine WL.len (T := Ty) rfl rfl (by assumption) rfl ?_
    refine WL.nilT (WD.takeL 5 rfl (by decide +kernel) (WL.mulK rfl rfl rfl (wrap_i64 ⟨by omega, by omega⟩) (WL.nilT (WD.takeL 6 rfl (by decide +kernel) (WL.mv rfl rfl (WL.nilT (WD.takeL 7 rfl (by decide +kernel) (WL.nc rfl rfl (WL.nilT (WD.takeL 8 rfl (by decide +kernel) (WL.faN (T := Ty) (off' := 1) rfl rfl rfl rfl rfl rfl rfl (WL.nilT (WD.takeL 9 rfl (by decide +kernel) ?_)))))))))))))
    refine WL.ldBN (T := Ty) rfl rfl rfl rfl (by first | assumption | exact RB.wide (by assumption) | exact In.rb (by assumption)) rfl ?_
    refine WL.nilT (WD.takeL 10 rfl (by decide +kernel) (WL.subK rfl rfl rfl (wrap_i64 ⟨by omega, by omega⟩) (WL.nilT ?_)))
    refine WD.lastG hσ0 (by decide +kernel) (by repeat' constructor) rfl (by repeat' constructor) ?_
    refine WL.as rfl rfl (WL.nil ?_)
    exact W.ret1 rfl rfl (fun h p => ⟨by simp [leftF]; omega, p⟩)
theorem rget1_c (ρ : Hp) (b : Nat) (v : Value) (bs : List Nat) (s : RdSt) (n : Int) (hv : ROs ρ 1 v (bs.map bcell)) (hs : s.at' ≤ 8 * bs.length) (hl : bs.length ≤ 140737488355328) (hw : ∀ x ∈ bs, x < 256) :
    Fn Tryz.prog 67 #[ptr b, .int .i64 n] ρ [RRe b v s] (fun r h => r = .int .u64 ((getF bs s n).1 : Int) ∧ RRe b v (getF bs s n).2 h) := by
  refine in67 rfl rfl ?_
  have hk := held_le n
  have hsl : SL v bs.length := hv.sl (by simp) (by omega)
  obtain ⟨at', bad⟩ := s
  simp only [] at hs
  unfold RRe
  cases bad with
  | true =>
    have e : getF bs ⟨at', true⟩ n = (0, ⟨at', true⟩) := by simp [getF]
    rw [e]
    refine W.seq (W.region (WL.as rfl rfl (WL.nil (W.seq (W.region (WL.mv rfl rfl (WL.mx rfl rfl rfl (WL.mn rfl rfl rfl (WL.as rfl rfl (WL.nil (W.seq (W.seq (W.region ?_)))))))))))))
    refine WL.mv rfl rfl (WL.nc rfl rfl (WL.faN (T := Ty) (off' := 2) rfl rfl rfl rfl rfl rfl rfl (WL.ldN (T := Ty) (j := 0) rfl rfl rfl rfl rfl rfl (WL.mv rfl rfl (WL.gdN rfl rfl rfl rfl rfl rfl (WL.gdN rfl rfl rfl rfl rfl rfl (WL.gdN rfl rfl rfl rfl rfl rfl (WL.gdN rfl rfl rfl rfl rfl rfl (WL.pickT rfl rfl rfl (WL.nil (W.condT rfl (W.seq (W.region ?_)))))))))))))
    refine WL.mv rfl rfl (WL.nc rfl rfl (WL.faN (T := Ty) (off' := 2) rfl rfl rfl rfl rfl rfl rfl ?_))
    refine WL.stF (T := Ty) (j := 0) rfl rfl rfl rfl rfl rfl rfl (by repeat' constructor) (by repeat' constructor) ?_
    refine WL.nil (W.seq (W.region (WL.as rfl rfl (WL.nil ?_))))
    exact W.ret1 rfl rfl (fun h p => ⟨rfl, sepl_one.1 p⟩)
  | false =>
    refine W.seq (W.region (WL.as rfl rfl (WL.nil (W.seq (W.region (WL.mv rfl rfl (WL.mx rfl rfl rfl (WL.mn rfl rfl rfl (WL.as rfl rfl (WL.nil (W.seq (W.seq (W.region ?_)))))))))))))
    refine WL.mv rfl rfl (WL.nc rfl rfl (WL.faN (T := Ty) (off' := 2) rfl rfl rfl rfl rfl rfl rfl (WL.ldN (T := Ty) (j := 0) rfl rfl rfl rfl rfl rfl (WL.mv rfl rfl (WL.gY rfl rfl (WL.mv rfl rfl (WL.gY rfl rfl (WL.mv rfl rfl (WL.gY rfl rfl ?_)))))))))
    refine WL.callV rfl rfl (fun x p d => rleft_c _ _ _ _ _ (by first | assumption | exact In.wide (by assumption) | exact In.mono (by assumption) (eqh_at 0 rfl p d) | exact in_at 0 rfl p d | exact in_at 1 rfl p d | exact in_at 2 rfl p d | exact in_at 3 rfl p d | exact in_at 4 rfl p d) (by first | assumption | exact ROs.wide (by assumption) | exact ROs.mono (by assumption) (eqh_at 0 rfl p d) | exact ros_at 0 rfl p d | exact ros_at 1 rfl p d | exact ros_at 2 rfl p d | exact ros_at 3 rfl p d | exact ros_at 4 rfl p d) (by first | exact Nat.zero_le _ | assumption | exact getF_at _ _ _ (by first | exact Nat.zero_le _ | assumption)) (by first | assumption | omega)) ?_
    refine WL.gY rfl rfl (WL.gtr rfl rfl rfl (WL.pickF rfl rfl rfl (WL.nil ?_)))
    rw [held_eq]
    refine W.condp rfl (fun h1 => ?_) (fun h1 => ?_)
    · have e : getF bs ⟨at', false⟩ n = (0, ⟨at', true⟩) := by unfold getF; rw [if_pos (by right; omega)]
      rw [e]
      refine W.seq (W.region (WL.mv rfl rfl (WL.nc rfl rfl (WL.faN (T := Ty) (off' := 2) rfl rfl rfl rfl rfl rfl rfl ?_))))
      refine WL.stF (T := Ty) (j := 0) rfl rfl rfl rfl rfl rfl rfl (by repeat' constructor) (by repeat' constructor) ?_
      refine WL.nil (W.seq (W.region (WL.as rfl rfl (WL.nil ?_))))
      exact W.ret1 rfl rfl (fun h p => ⟨rfl, sepl_one.1 p⟩)
    · have e : getF bs ⟨at', false⟩ n = (getV bs at' (heldF n), ⟨at' + heldF n, false⟩) := by unfold getF; rw [if_neg (by simp; omega)]
      have hleft : heldF n + at' ≤ 8 * bs.length := by simp only [leftF] at h1; simp at h1; omega
      rw [e]
      refine W.skip (W.seq (W.region (WL.as rfl rfl (WL.nil (W.seq (W.seq (W.region (WL.as rfl rfl (WL.nil (W.block ?_))))))))))
      refine W.loopS (σ := Nat) (fun j => [(0, ptr b), (1, .int .i64 (heldF n : Int)), (5, .int .u64 (getV bs at' j : Int)), (6, .int .i64 (j : Int))]) (fun j => [box b [v, .int .i64 ((at' : Int) + (j : Int)), .bool false] 83])
        (fun j => j ≤ heldF n) (fun j => heldF n - j) 0 ⟨rfl, rfl, rfl, rfl, trivial⟩ (by simp [RRe]) (by omega) ?_
      intro j hj next
      refine W.seq (W.seq (W.region (WL.mv rfl rfl (WL.mv rfl rfl (WL.lss rfl rfl rfl (WL.nil ?_))))))
      refine W.condp rfl (fun hlt => ?_) (fun hge => ?_)
      · have hi : (at' + j) / 8 < bs.length := by omega
        have hget : (bs.map bcell)[(at' + j) / 8]? = some (bcell (bs.getD ((at' + j) / 8) 0)) := by
          simp [List.getD, List.getElem?_eq_getElem hi]
        have hc : bs.getD ((at' + j) / 8) 0 < 256 := by
          simp only [List.getD, List.getElem?_eq_getElem hi]
          exact hw _ (List.getElem_mem _)
        refine W.skip (W.seq (W.block (W.seq ?_)))
        refine W.drawA 24 rfl (fun σ0 hσ0 dσ0 => ?_)
        have fσ0_0 := rb_at 0 rfl hσ0 dσ0
        refine WD.takeL 0 rfl (by decide +kernel) (WL.mv rfl rfl (WL.nilT (WD.takeL 1 rfl (by decide +kernel) (WL.shlS (c := 2) rfl rfl rfl (by omega) (by decide) rfl (WL.nilT (WD.takeL 2 rfl (by decide +kernel) (WL.mv rfl rfl (WL.nilT (WD.takeL 3 rfl (by decide +kernel) (WL.nc rfl rfl (WL.nilT (WD.takeL 4 rfl (by decide +kernel) (WL.faN (T := Ty) (off' := 0) rfl rfl rfl rfl rfl rfl rfl ?_)))))))))))))
        refine WL.nilT (WD.takeL 5 rfl (by decide +kernel) ?_)
        refine WL.ldBN (T := Ty) rfl rfl rfl rfl (by first | assumption | exact RB.wide (by assumption) | exact In.rb (by assumption)) rfl ?_
        refine WL.nilT (WD.takeL 6 rfl (by decide +kernel) (WL.mv rfl rfl (WL.nilT (WD.takeL 7 rfl (by decide +kernel) (WL.nc rfl rfl (WL.nilT (WD.takeL 8 rfl (by decide +kernel) (WL.faN (T := Ty) (off' := 1) rfl rfl rfl rfl rfl rfl rfl (WL.nilT (WD.takeL 9 rfl (by decide +kernel) ?_))))))))))
        refine WL.ldBN (T := Ty) rfl rfl rfl rfl (by first | assumption | exact RB.wide (by assumption) | exact In.rb (by assumption)) rfl ?_
        refine WL.nilT (WD.takeL 10 rfl (by decide +kernel) (WL.quoI rfl rfl rfl (by omega) (by omega) (by omega) (WL.nilT (WD.takeL 11 rfl (by decide +kernel) ?_))))
        refine WL.ix (T := Ty) rfl rfl rfl (by assumption) rfl rfl (by omega) (by first | omega | decide +kernel) ?_
        refine WL.nilT (WD.takeL 12 rfl (by decide +kernel) ?_)
        refine WL.ldKn (T := Ty) rfl rfl rfl rfl (by first | assumption | exact ROs.wide (by assumption)) (by assumption) ?_
        refine WL.nilT (WD.takeL 13 rfl (by decide +kernel) (WL.mv rfl rfl (WL.nilT (WD.takeL 14 rfl (by decide +kernel) (WL.nc rfl rfl (WL.nilT (WD.takeL 15 rfl (by decide +kernel) (WL.faN (T := Ty) (off' := 1) rfl rfl rfl rfl rfl rfl rfl (WL.nilT (WD.takeL 16 rfl (by decide +kernel) ?_))))))))))
        refine WL.ldBN (T := Ty) rfl rfl rfl rfl (by first | assumption | exact RB.wide (by assumption) | exact In.rb (by assumption)) rfl ?_
        refine WL.nilT (WD.takeL 17 rfl (by decide +kernel) (WL.remI rfl rfl rfl (by omega) (by omega) (WL.nilT (WD.takeL 18 rfl (by decide +kernel) (WL.subK rfl rfl rfl (wrap_i64 ⟨by omega, by omega⟩) (WL.nilT (WD.takeL 19 rfl (by decide +kernel) (WL.cvK (T := Ty) rfl rfl rfl rfl (wrap_u64 ⟨by omega, by omega⟩) (WL.nilT (WD.takeL 20 rfl (by decide +kernel) (WL.shrS rfl rfl rfl (by omega) rfl (WL.nilT (WD.takeL 21 rfl (by decide +kernel) ?_)))))))))))))
        refine WL.and rfl rfl rfl (WL.nilT (WD.takeL 22 rfl (by decide +kernel) (WL.cv (T := Ty) rfl rfl rfl rfl (WL.nilT (WD.takeL 23 rfl (by decide +kernel) (WL.or rfl rfl rfl (WL.nilT ?_)))))))
        refine WD.lastG hσ0 (by decide +kernel) (by repeat' constructor) rfl (by repeat' constructor) ?_
        refine WL.as rfl rfl (WL.nil (W.region (WL.mv rfl rfl (WL.nc rfl rfl (WL.faN (T := Ty) (off' := 1) rfl rfl rfl rfl rfl rfl rfl (WL.ldN (T := Ty) (j := 0) rfl rfl rfl rfl rfl rfl (WL.addK rfl rfl rfl (wrap_i64 ⟨by omega, by omega⟩) (WL.nc rfl rfl (WL.faN (T := Ty) (off' := 1) rfl rfl rfl rfl rfl rfl rfl ?_)))))))))
        refine WL.stF (T := Ty) (j := 0) rfl rfl rfl rfl rfl rfl rfl (by repeat' constructor) (by repeat' constructor) ?_
        refine WL.nil (W.inBlock (W.region (WL.mv rfl rfl (WL.addK rfl rfl rfl (wrap_i64 ⟨by omega, by omega⟩) (WL.as rfl rfl (WL.nil ?_))))))
        refine W.sub ?_ (W.hs (fun h p => ?_) (next (j + 1) (by omega) (by omega)))
        · exact ⟨rfl, rfl, by rw [← get_step bs at' j hc (by omega)]; rfl, rfl, trivial⟩
        · rw [show (((j + 1 : Nat) : Int)) = (j : Int) + 1 by omega, ← Int.add_assoc]; exact p
      · have : j = heldF n := by omega
        subst this
        refine W.exit rfl (W.seq (W.region (WL.mv rfl rfl (WL.as rfl rfl (WL.nil ?_)))))
        refine W.ret1 rfl rfl (fun h p => ⟨rfl, ?_⟩)
        have p := sepl_one.1 p
        simpa using p
theorem rget1_e (ρ : Hp) (b : Nat) (v : Value) (bs : List Nat) (s : RdSt) (n : Int) {x : Nat} {s' : RdSt} (e : getF bs s n = (x, s')) (hv : ROs ρ 1 v (bs.map bcell)) (hs : s.at' ≤ 8 * bs.length) (hl : bs.length ≤ 140737488355328) (hw : ∀ x ∈ bs, x < 256) :
    Fn Tryz.prog 67 #[ptr b, .int .i64 n] ρ [RRe b v s] (fun r h => r = .int .u64 (x : Int) ∧ RRe b v s' h) := by
  have := rget1_c ρ b v bs s n hv hs hl hw
  rw [e] at this
  exact this
theorem rwput_ci (ρ : Hp) (b : Nat) (ds : List Nat) (v : Int) (n : Int) (h0 : 0 ≤ v) (hv : v < 18446744073709551616) (hl : ds.length ≤ 1099511627776) :
    Fn Tryz.prog 64 #[ptr b, .int .u64 v, .int .i64 n] ρ [RWr b ds] (fun r h => r = .tuple #[] ∧ RWr b (ds ++ bitsOf v.toNat (heldF n)) h) := by
  have e : v = ((v.toNat : Nat) : Int) := by omega
  have := rwput_c ρ b ds v.toNat n (by omega) hl
  rw [← e] at this
  exact this
theorem rwr_of {b : Nat} {Hr : List HP} {h : Hp} (p : sepl (box b [.slice none 0 0] 73 :: Hr) h) : sepl (RWr b [] :: Hr) h :=
  sep_mono (fun x hx => ⟨_, x, nohp, hx, sepl_one.2 (buf_nil 1), dj_nohp x, (join_nohp x).symm⟩) (fun _ y => y) p
theorem WL.intoRWr {P : Program} {fn : Func} {ρ : Hp} {X : World → Hp → Act → World → Prop} {env : Env} {Hs Hr : List HP} {ops : Array Oper} {l : List Oper} {b : Nat} (h0 : Hs = box b [.slice none 0 0] 73 :: Hr)
    (h : WL false P fn ρ X ops l env (RWr b [] :: Hr)) : WL false P fn ρ X ops l env Hs := by
  subst h0
  exact .hs (fun _ p => rwr_of p) h
end Go.Proofs.YtdpnpipninggeaaGreatDoor
