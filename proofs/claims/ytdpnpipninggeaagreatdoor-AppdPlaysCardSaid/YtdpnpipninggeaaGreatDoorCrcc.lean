/- Sums of bytes: what the code of package crcc, and the document's own answer, do. -/
import Derived.Test.YtdpnpipninggeaaGreatDoorStc
import Derived.Test.YtdpnpipninggeaaGreatDoorNum
import Derived.Test.YtdpnpipninggeaaGreatDoorTab
import Derived.Test.YtdpnpipninggeaaGreatDoorArr
import Derived.Test.YtdpnpipninggeaaGreatDoorBitsLaw
set_option linter.unusedSimpArgs false
set_option linter.unusedVariables false
set_option maxRecDepth 20000
set_option maxHeartbeats 4000000
namespace Go.Proofs.YtdpnpipninggeaaGreatDoor
open Go
attribute [local irreducible] W WL Fn Buf ROs SL eptr box Rd Src bndOK WD RB Reads

def wcell (n : Nat) : Value := .int .u32 n
theorem one_wcell (l : List Nat) : ∀ q ∈ l.map wcell, q.oneCell' = true := by
  intro q hq; obtain ⟨n, _, rfl⟩ := List.mem_map.1 hq; rfl
def AG (L : List Nat) : Value := .agg (L.map wcell).toArray
theorem entN_succ (k c : Nat) : entN (k + 1) c = entN k (entS c) := rfl
theorem xor_u32 (a b : Nat) (ha : a < 4294967296) (hb : b < 4294967296) : bits .xor .u32 (a : Int) (b : Int) = ((a ^^^ b : Nat) : Int) := bits_xor rfl (by exact ha) (by exact hb)
theorem entS_lt (c : Nat) (h : c < 4294967296) : entS c < 4294967296 := by
  unfold entS
  split
  · exact Nat.xor_lt_two_pow (n := 32) (by omega) (by decide)
  · omega

theorem ent_c (ρ : Hp) (i : Nat) (hi : i < 4294967296) : Fn Tryz.prog 43 #[.int .u32 (i : Int)] ρ [] (Just (.int .u32 (entF i : Int))) := by
  refine in43 rfl rfl ?_
  refine W.seq (W.region (WL.as rfl rfl (WL.nil (W.seq (W.seq (W.region (WL.as rfl rfl (WL.nil (W.block ?_)))))))))
  refine W.loopS (σ := Nat × Nat) (fun s => [(0, .int .u32 (s.2 : Int)), (3, .int .i64 (s.1 : Int))]) (fun s => []) (fun s => s.1 ≤ 8 ∧ s.2 < 4294967296 ∧ entN (8 - s.1) s.2 = entF i) (fun s => 8 - s.1) (0, i) ⟨rfl, rfl, trivial⟩ rfl ⟨by simp, hi, rfl⟩ ?_
  rintro ⟨k, c⟩ ⟨h1, h2, h3⟩ next
  simp only [] at h1 h2 h3 next ⊢
  refine W.seq (W.seq (W.region (WL.mv rfl rfl (WL.lss rfl rfl rfl (WL.nil ?_)))))
  refine W.condp rfl (fun hk => ?_) (fun hk => ?_)
  · have e8 : 8 - k = (8 - (k + 1)) + 1 := by omega
    rw [e8, entN_succ] at h3
    have hlt := entS_lt c h2
    refine W.skip (W.seq (W.block (W.seq (W.region (WL.mv rfl rfl ?_)))))
    refine WL.andU rfl rfl rfl rfl (by decide) (by omega) (by simp only [IntKind.bits]; omega) ?_
    refine WL.as rfl rfl (WL.nil (W.seq (W.region (WL.mv rfl rfl (WL.shrS (c := 2) rfl rfl rfl (by omega) (by decide) (WL.as rfl rfl (WL.nil (W.seq (W.region (WL.mv rfl rfl (WL.eql rfl rfl rfl (WL.nil ?_))))))))))))
    refine W.condp rfl (fun h => ?_) (fun h => ?_)
    · have hx : bits .xor .u32 ((c : Int) / 2) 2197175160 = ((entS c : Nat) : Int) := by
        rw [show (c : Int) / 2 = ((c / 2 : Nat) : Int) by omega, show (2197175160 : Int) = ((2197175160 : Nat) : Int) from rfl, xor_u32 _ _ (by omega) (by decide)]
        unfold entS
        rw [if_pos (by omega)]
      refine W.region (WL.mv rfl rfl (WL.xor rfl rfl rfl (WL.as rfl rfl (WL.nil (W.inBlock (W.region (WL.mv rfl rfl (WL.addK rfl rfl rfl (wrap_i64 ⟨by omega, by omega⟩) (WL.as rfl rfl (WL.nil ?_))))))))))
      rw [hx]
      refine W.sub ?_ (next ⟨k + 1, entS c⟩ ⟨by simp; omega, hlt, h3⟩ (by simp; omega))
      exact ⟨rfl, rfl, trivial⟩
    · have hx : (c : Int) / 2 = ((entS c : Nat) : Int) := by
        unfold entS
        rw [if_neg (by omega)]; omega
      refine W.skip (W.inBlock (W.region (WL.mv rfl rfl (WL.addK rfl rfl rfl (wrap_i64 ⟨by omega, by omega⟩) (WL.as rfl rfl (WL.nil ?_))))))
      rw [hx]
      refine W.sub ?_ (next ⟨k + 1, entS c⟩ ⟨by simp; omega, hlt, h3⟩ (by simp; omega))
      exact ⟨rfl, rfl, trivial⟩
  · have : k = 8 := by omega
    subst this
    refine W.exit rfl (W.seq (W.region (WL.mv rfl rfl (WL.as rfl rfl (WL.nil ?_)))))
    refine W.ret1 rfl rfl (fun h p => ⟨?_, p⟩)
    rw [← h3]
    rfl

theorem xor_u8 (a b : Nat) (ha : a < 256) (hb : b < 256) : bits .xor .u8 (a : Int) (b : Int) = ((a ^^^ b : Nat) : Int) := bits_xor rfl (by exact ha) (by exact hb)
theorem getD_cell {T : List Nat} {i : Nat} (hi : i < T.length) : (T.map wcell)[i]? = some (wcell (T.getD i 0)) := by simp [hi, List.getD]
theorem stepT_lt {T : List Nat} (hT : ∀ x ∈ T, x < 4294967296) (c x : Nat) (hc : c < 4294967296) : stepT T c x < 4294967296 := by
  refine Nat.xor_lt_two_pow (n := 32) ?_ (by omega)
  rw [List.getD]
  cases h : T[c % 256 ^^^ x]? with
  | none => simp
  | some y => simpa using hT y (List.mem_of_getElem? h)
theorem drop_cons {bs : List Nat} {i x : Nat} (h : bs[i]? = some x) : bs.drop i = x :: bs.drop (i + 1) := by
  obtain ⟨hi, rfl⟩ := List.getElem?_eq_some_iff.1 h
  exact List.drop_eq_getElem_cons hi

theorem sum_c (ρ : Hp) (T : List Nat) (b : Value) (bs : List Nat) (hT : ∀ x ∈ T, x < 4294967296) (hTl : T.length = 256) (hb : ROs ρ 1 b (bs.map bcell)) (hw : ∀ x ∈ bs, x < 256) (hl : bs.length ≤ 140737488355328) :
    Fn Tryz.prog 21 #[AG T, b] ρ [] (fun r _ => r = .int .u32 (sumT T bs : Int)) := by
  refine in21 rfl rfl ?_
  have hs : SL b bs.length := hb.sl (by simp) (by omega)
  refine W.seq (W.region ?_)
  refine WL.bx (cs := T.map wcell) rfl rfl rfl (fun bb => ?_)
  refine WL.as rfl rfl (WL.nil (W.seq (W.region (WL.as rfl rfl (WL.nil (W.seq (W.seq (W.region (WL.mv rfl rfl ?_)))))))))
  refine WL.len (T := Ty) rfl rfl (by assumption) rfl ?_
  refine WL.mv rfl rfl (WL.nil (W.block ?_))
  refine W.loopS (σ := Nat × Nat) (fun s => [(2, .pointer (some ⟨bb, 0, none⟩)), (5, .int .u32 (s.2 : Int)), (8, b), (9, .int .i64 (bs.length : Int)), (10, .int .i64 (s.1 : Int))]) (fun s => [box bb (T.map wcell) 51])
    (fun s => s.1 ≤ bs.length ∧ s.2 < 4294967296 ∧ (bs.drop s.1).foldl (stepT T) s.2 = bs.foldl (stepT T) 4294967295) (fun s => bs.length - s.1) (0, 4294967295) ⟨rfl, rfl, rfl, rfl, rfl, trivial⟩ rfl ⟨by simp, by simp, rfl⟩ ?_
  rintro ⟨i, c⟩ ⟨h1, h2, h3⟩ next
  simp only [] at h1 h2 h3 next ⊢
  refine W.seq (W.region (WL.lss rfl rfl rfl (WL.nil (W.seq ?_))))
  refine W.condp rfl (fun hlt => ?_) (fun hge => ?_)
  · have hi : i < bs.length := by omega
    obtain ⟨x, hx⟩ : ∃ x, bs[i]? = some x := ⟨_, List.getElem?_eq_getElem hi⟩
    have hx8 : x < 256 := hw x (List.mem_of_getElem? hx)
    rw [drop_cons hx, List.foldl_cons] at h3
    have hidx : bits .xor .u8 (IntKind.u8.wrap (c : Int)) (x : Int) = (((c % 256) ^^^ x : Nat) : Int) := by
      rw [wrapU8, xor_u8 _ _ (Nat.mod_lt _ (by decide)) hx8]
    have hidx8 : (c % 256) ^^^ x < 256 := Nat.xor_lt_two_pow (n := 8) (Nat.mod_lt _ (by decide)) hx8
    refine W.skip (W.seq (W.block (W.seq (W.region ?_))))
    refine WL.ix (T := Ty) rfl rfl rfl (by assumption) rfl rfl (by omega) (by first | omega | decide +kernel) ?_
    refine WL.ldRn (T := Ty) rfl rfl rfl rfl (by first | assumption | exact ROs.wide (by assumption)) (by first | omega | decide +kernel) ?_
    refine WL.as rfl rfl (WL.nil (W.region (WL.mv rfl rfl (WL.cv (T := Ty) rfl rfl rfl rfl (WL.mv rfl rfl (WL.xor rfl rfl rfl ?_))))))
    rw [show bs.getD i 0 = x by simp [hx]]
    refine WL.ixX (T := Ty) (o' := (c % 256) ^^^ x) rfl rfl rfl rfl rfl (by rw [hidx]; omega) (by rw [hidx]; omega) (by rw [hidx]; simp) ?_
    refine WL.ld (T := Ty) (j := 0) (v := wcell (T.getD ((c % 256) ^^^ x) 0)) rfl rfl rfl rfl rfl (getD_cell (by omega)) ?_
    unfold wcell
    refine WL.mv rfl rfl (WL.shrS (c := 256) rfl rfl rfl (by omega) (by decide) (WL.xor rfl rfl rfl (WL.as rfl rfl (WL.nil (W.inBlock (W.region (WL.addK rfl rfl rfl (wrap_i64 ⟨by omega, by omega⟩) (WL.mv rfl rfl (WL.nil ?_)))))))))
    have hT1 : T.getD ((c % 256) ^^^ x) 0 < 4294967296 := by
      rw [List.getD, List.getElem?_eq_getElem (by omega)]
      exact hT _ (List.getElem_mem _)
    have hxx : bits .xor .u32 ((T.getD ((c % 256) ^^^ x) 0 : Nat) : Int) ((c : Int) / 256) = ((stepT T c x : Nat) : Int) := by
      rw [show (c : Int) / 256 = ((c / 256 : Nat) : Int) by omega, xor_u32 _ _ hT1 (by omega)]
      rfl
    rw [hxx]
    refine W.sub ?_ (next ⟨i + 1, stepT T c x⟩ ⟨by simp; omega, stepT_lt hT c x h2, h3⟩ (by simp; omega))
    exact ⟨rfl, rfl, rfl, rfl, rfl, trivial⟩
  · have : i = bs.length := by omega
    subst this
    refine W.exit rfl (W.seq (W.region (WL.mv rfl rfl (WL.xor rfl rfl rfl (WL.as rfl rfl (WL.nil ?_))))))
    refine W.ret1 rfl rfl (fun h p => ?_)
    rw [List.drop_length] at h3
    have h3 : c = bs.foldl (stepT T) 4294967295 := h3
    rw [show (4294967295 : Int) = ((4294967295 : Nat) : Int) from rfl, xor_u32 _ _ h2 (by decide), h3]
    rfl

theorem rsum_c (ρ : Hp) (b : Value) (bs : List Nat) (hb : ROs ρ 1 b (bs.map bcell)) (hw : ∀ x ∈ bs, x < 256) (hl : bs.length ≤ 140737488355328) :
    Fn Tryz.prog 26 #[b] ρ [] (Just (.int .u32 (sumR bs : Int))) := by
  refine in26 rfl rfl ?_
  have hs : SL b bs.length := hb.sl (by simp) (by omega)
  refine W.seq (W.region (WL.as rfl rfl (WL.nil (W.seq (W.region (WL.as rfl rfl (WL.nil (W.seq (W.seq (W.region (WL.as rfl rfl (WL.nil (W.block ?_)))))))))))))
  refine W.loopS (σ := Nat × Nat) (fun s => [(0, b), (3, .int .u32 (s.2 : Int)), (4, .int .i64 (s.1 : Int))]) (fun s => [])
    (fun s => s.1 ≤ bs.length ∧ s.2 < 4294967296 ∧ (bs.drop s.1).foldl stepR s.2 = bs.foldl stepR 4294967295) (fun s => bs.length - s.1) (0, 4294967295) ⟨rfl, rfl, rfl, trivial⟩ rfl ⟨by simp, by simp, rfl⟩ ?_
  rintro ⟨i, c⟩ ⟨h1, h2, h3⟩ next
  simp only [] at h1 h2 h3 next ⊢
  refine W.seq (W.seq (W.region (WL.mv rfl rfl (WL.mv rfl rfl ?_))))
  refine WL.len (T := Ty) rfl rfl (by assumption) rfl ?_
  refine WL.lss rfl rfl rfl (WL.nil ?_)
  refine W.condp rfl (fun hlt => ?_) (fun hge => ?_)
  · have hi : i < bs.length := by omega
    obtain ⟨x, hx⟩ : ∃ x, bs[i]? = some x := ⟨_, List.getElem?_eq_getElem hi⟩
    have hx8 : x < 256 := hw x (List.mem_of_getElem? hx)
    rw [drop_cons hx, List.foldl_cons] at h3
    have hxc : bits .xor .u32 (c : Int) (x : Int) = ((c ^^^ x : Nat) : Int) := xor_u32 c x h2 (by omega)
    have hxc32 : c ^^^ x < 4294967296 := Nat.xor_lt_two_pow (n := 32) h2 (by omega)
    refine W.skip (W.seq (W.block (W.region (WL.mv rfl rfl (WL.mv rfl rfl (WL.mv rfl rfl ?_))))))
    refine WL.ix (T := Ty) rfl rfl rfl (by assumption) rfl rfl (by omega) (by first | omega | decide +kernel) ?_
    refine WL.ldRn (T := Ty) rfl rfl rfl rfl (by first | assumption | exact ROs.wide (by assumption)) (by first | omega | decide +kernel) ?_
    refine WL.cv (T := Ty) rfl rfl rfl rfl (WL.xor rfl rfl rfl (WL.and rfl rfl rfl ?_))
    rw [show bs.getD i 0 = x by simp [hx], show IntKind.u32.wrap (x : Int) = (x : Int) from wrap_u32 ⟨by omega, by omega⟩, hxc, show bits .and .u32 ((c ^^^ x : Nat) : Int) 255 = (((c ^^^ x) % 256 : Nat) : Int) from by rw [show (255 : Int) = ((255 : Nat) : Int) from rfl, bits_and rfl (by exact hxc32) (by decide), show (c ^^^ x) &&& 255 = (c ^^^ x) % 256 from Nat.and_two_pow_sub_one_eq_mod _ 8]]
    refine WL.callV rfl rfl (fun y p d => ent_c _ ((c ^^^ x) % 256) (by omega)) ?_
    refine WL.mv rfl rfl (WL.shrS (c := 256) rfl rfl rfl (by omega) (by decide) (WL.xor rfl rfl rfl (WL.as rfl rfl (WL.nil (W.inBlock (W.region (WL.mv rfl rfl (WL.addK rfl rfl rfl (wrap_i64 ⟨by omega, by omega⟩) (WL.as rfl rfl (WL.nil ?_))))))))))
    have hxx : bits .xor .u32 ((entF ((c ^^^ x) % 256) : Nat) : Int) ((c : Int) / 256) = ((stepR c x : Nat) : Int) := by
      rw [show (c : Int) / 256 = ((c / 256 : Nat) : Int) by omega, xor_u32 _ _ (entF_lt _ (by omega)) (by omega)]
      rfl
    rw [hxx]
    refine W.sub ?_ (next ⟨i + 1, stepR c x⟩ ⟨by simp; omega, Nat.xor_lt_two_pow (n := 32) (entF_lt _ (by omega)) (by omega), h3⟩ (by simp; omega))
    exact ⟨rfl, rfl, rfl, trivial⟩
  · have : i = bs.length := by omega
    subst this
    refine W.exit rfl (W.seq (W.region (WL.mv rfl rfl (WL.xor rfl rfl rfl (WL.as rfl rfl (WL.nil ?_))))))
    refine W.ret1 rfl rfl (fun h p => ⟨?_, p⟩)
    rw [List.drop_length] at h3
    have h3 : c = bs.foldl stepR 4294967295 := h3
    rw [show (4294967295 : Int) = ((4294967295 : Nat) : Int) from rfl, xor_u32 _ _ h2 (by decide), h3]
    rfl

def tblU (i : Nat) : List Nat := (List.range i).map entF ++ List.replicate (256 - i) 0
theorem tblU_len (i : Nat) (h : i ≤ 256) : (tblU i).length = 256 := by simp [tblU]; omega
theorem tblU_set (i : Nat) (h : i < 256) : (tblU i).set i (entF i) = tblU (i + 1) := by
  unfold tblU
  obtain ⟨m, hm⟩ : ∃ m, 256 - i = m + 1 := ⟨255 - i, by omega⟩
  rw [hm, show 256 - (i + 1) = m by omega, List.range_succ, List.map_append, List.set_append_right _ _ (by simp), List.replicate_succ]
  simp
theorem table_c (ρ : Hp) : Fn Tryz.prog 22 #[] ρ [] (fun r _ => r = AG tblL) := by
  refine in22 rfl rfl ?_
  refine W.seq (W.region ?_)
  refine WL.alX (T := Ty) (cs := (List.replicate 256 0).map wcell) rfl rfl (by simp [Value.cells, wcell]) (fun b0 => ?_)
  refine WL.nil (W.seq (W.region ?_))
  refine WL.alX (T := Ty) (cs := (tblU 0).map wcell) rfl rfl (by simp [Value.cells, wcell, tblU]) (fun b1 => ?_)
  refine WL.nil (W.seq (W.seq (W.region (WL.mv rfl rfl (WL.nil (W.block ?_))))))
  refine W.loopS (σ := Nat) (fun i => [(0, .pointer (some ⟨b0, 0, none⟩)), (1, .pointer (some ⟨b1, 0, none⟩)), (5, .int .i64 (i : Int))]) (fun i => [box b1 ((tblU i).map wcell) 51, box b0 ((List.replicate 256 0).map wcell) 51])
    (fun i => i ≤ 256) (fun i => 256 - i) 0 ⟨rfl, rfl, rfl, trivial⟩ rfl (by omega) ?_
  intro i hi next
  refine W.seq (W.region (WL.lss rfl rfl rfl (WL.nil (W.seq ?_))))
  refine W.condp rfl (fun hlt => ?_) (fun hge => ?_)
  · have hi32 : i < 4294967296 := by omega
    refine W.skip (W.seq (W.block (W.seq (W.region (WL.mv rfl rfl (WL.as rfl rfl (WL.nil (W.seq (W.region (WL.mv rfl rfl (WL.cvK (T := Ty) rfl rfl rfl rfl (wrap_u32 ⟨by omega, by omega⟩) (WL.as rfl rfl (WL.nil ?_)))))))))))))
    refine W.seq (W.seq (W.region (WL.mv rfl rfl (WL.nil (W.block ?_)))))
    refine W.loopS (σ := Nat × Nat) (fun s => [(0, .pointer (some ⟨b0, 0, none⟩)), (1, .pointer (some ⟨b1, 0, none⟩)), (5, .int .i64 (i : Int)), (2, .int .i64 (i : Int)), (3, .int .u32 (s.2 : Int)), (10, .int .i64 (s.1 : Int))]) (fun s => [box b1 ((tblU i).map wcell) 51, box b0 ((List.replicate 256 0).map wcell) 51])
      (fun s => s.1 ≤ 8 ∧ s.2 < 4294967296 ∧ entN (8 - s.1) s.2 = entF i) (fun s => 8 - s.1) (0, i) ⟨rfl, rfl, rfl, rfl, rfl, rfl, trivial⟩ rfl ⟨by simp, hi32, rfl⟩ ?_
    rintro ⟨k, c⟩ ⟨h1, h2, h3⟩ next2
    simp only [] at h1 h2 h3 next2 ⊢
    refine W.seq (W.region (WL.lss rfl rfl rfl (WL.nil (W.seq ?_))))
    refine W.condp rfl (fun hk => ?_) (fun hk => ?_)
    · have e8 : 8 - k = (8 - (k + 1)) + 1 := by omega
      rw [e8, entN_succ] at h3
      have hlt := entS_lt c h2
      refine W.skip (W.seq (W.block (W.seq (W.region (WL.mv rfl rfl ?_)))))
      refine WL.andU rfl rfl rfl rfl (by decide) (by omega) (by simp only [IntKind.bits]; omega) ?_
      refine WL.as rfl rfl (WL.nil (W.seq (W.region (WL.mv rfl rfl (WL.shrS (c := 2) rfl rfl rfl (by omega) (by decide) (WL.as rfl rfl (WL.nil (W.seq (W.region (WL.mv rfl rfl (WL.eql rfl rfl rfl (WL.nil ?_))))))))))))
      refine W.condp rfl (fun h => ?_) (fun h => ?_)
      · have hx : bits .xor .u32 ((c : Int) / 2) 2197175160 = ((entS c : Nat) : Int) := by
          rw [show (c : Int) / 2 = ((c / 2 : Nat) : Int) by omega, show (2197175160 : Int) = ((2197175160 : Nat) : Int) from rfl, xor_u32 _ _ (by omega) (by decide)]
          unfold entS
          rw [if_pos (by omega)]
        refine W.region (WL.mv rfl rfl (WL.xor rfl rfl rfl (WL.as rfl rfl (WL.nil (W.inBlock (W.region (WL.addK rfl rfl rfl (wrap_i64 ⟨by omega, by omega⟩) (WL.mv rfl rfl (WL.nil ?_)))))))))
        rw [hx]
        refine W.sub ?_ (next2 ⟨k + 1, entS c⟩ ⟨by simp; omega, hlt, h3⟩ (by simp; omega))
        exact ⟨rfl, rfl, rfl, rfl, rfl, rfl, trivial⟩
      · have hx : (c : Int) / 2 = ((entS c : Nat) : Int) := by
          unfold entS
          rw [if_neg (by omega)]; omega
        refine W.skip (W.inBlock (W.region (WL.addK rfl rfl rfl (wrap_i64 ⟨by omega, by omega⟩) (WL.mv rfl rfl (WL.nil ?_)))))
        rw [hx]
        refine W.sub ?_ (next2 ⟨k + 1, entS c⟩ ⟨by simp; omega, hlt, h3⟩ (by simp; omega))
        exact ⟨rfl, rfl, rfl, rfl, rfl, rfl, trivial⟩
    · have : k = 8 := by omega
      subst this
      have hc : c = entF i := h3
      refine W.exit rfl (W.region (WL.mv rfl rfl (WL.mv rfl rfl ?_)))
      refine WL.ixA (T := Ty) rfl rfl rfl rfl rfl (by omega) (by first | omega | decide +kernel) ?_
      rw [show 0 + ((i : Int)).toNat * 1 = i by omega]
      refine WL.stX (T := Ty) (j := 0) (c' := (tblU (i + 1)).map wcell) rfl rfl rfl rfl rfl rfl (by rw [List.length_map, tblU_len i hi]; omega) (by rw [← tblU_set i (by omega), List.map_set, hc]; rfl) (by repeat' constructor) ?_
      refine WL.nil (W.inBlock (W.region (WL.addK rfl rfl rfl (wrap_i64 ⟨by omega, by omega⟩) (WL.mv rfl rfl (WL.nil ?_)))))
      refine W.sub ?_ (next (i + 1) (by omega) (by omega))
      exact ⟨rfl, rfl, rfl, trivial⟩
  · have : i = 256 := by omega
    subst this
    obtain ⟨L, hL, hLl⟩ : ∃ L, L = tblU 256 ∧ L.length = 256 := ⟨_, rfl, tblU_len 256 hi⟩
    rw [← hL]
    refine W.exit rfl (W.seq (W.region ?_))
    refine WL.ldW (T := Ty) (j := 0) rfl rfl rfl rfl rfl (by rw [List.length_map, hLl]; rfl) ?_
    refine WL.stW (T := Ty) (j := 1) (cs := L.map wcell) rfl rfl rfl (by rw [List.length_map, hLl]; rfl) (one_wcell _) rfl (by rw [List.length_map, List.length_map, hLl]; simp) (by repeat' constructor) ?_
    refine WL.nil ?_
    refine W.retW (T := Ty) (j := 1) (c := L.map wcell) rfl rfl rfl rfl rfl (by rw [List.length_map, hLl]; rfl) (fun h p => ?_)
    show AG L = AG tblL
    rw [hL]
    congr 1
end Go.Proofs.YtdpnpipninggeaaGreatDoor
