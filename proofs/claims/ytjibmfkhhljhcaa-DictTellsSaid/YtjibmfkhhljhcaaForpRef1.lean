/- Numbers in so many bits each: what the document's own code does (width, pack, unpack). -/
import Derived.Test.YtjibmfkhhljhcaaStc
import Derived.Test.YtjibmfkhhljhcaaNum
import Derived.Test.YtjibmfkhhljhcaaTab
import Derived.Test.YtjibmfkhhljhcaaBitsRef
import Derived.Test.YtjibmfkhhljhcaaForpLaw
set_option linter.unusedSimpArgs false
set_option linter.unusedVariables false
set_option maxRecDepth 20000
set_option maxHeartbeats 4000000
namespace Go.Proofs.Ytjibmfkhhljhcaa
open Go
attribute [local irreducible] W WL Fn Buf ROs SL eptr box Rd Src bndOK WD RB Reads In encFp decFp

theorem lenB_div (k x n : Nat) (hx : x < 2 ^ k) : (x / 2 ^ n = 0 ↔ lenB k x ≤ n) := by
  have hp : 0 < 2 ^ n := Nat.pow_pos (by decide)
  rw [lenB_le k x n hx]
  rw [Nat.div_eq_zero_iff]
  omega
-- CALL 39 refine WL.callV rfl rfl (fun x p d => rwidth_i _ _ (by omega) (by omega)) ?_
theorem rwidth_c (ρ : Hp) (x : Nat) (hx : x < 18446744073709551616) : Fn Try.prog 39 #[.int .u64 (x : Int)] ρ [] (Just (.int .i64 (lenB 64 x : Int))) := by
  refine in39 rfl rfl ?_
  have hb := lenB_up x 64
  refine W.seq ?_
  refine W.region ?_
  refine WL.as rfl rfl ?_
  refine WL.nil ?_
  refine W.seq ?_
  refine W.region ?_
  refine WL.as rfl rfl ?_
  refine WL.nil ?_
  refine W.seq ?_
  refine W.block ?_
  refine W.loopS (σ := Nat) (fun n => [(0, .int .u64 (x : Int)), (3, .int .i64 (n : Int))]) (fun _ => []) (fun n => n ≤ lenB 64 x) (fun n => lenB 64 x - n) 0 ⟨rfl, rfl, trivial⟩ rfl (Nat.zero_le _) ?_
  intro n hn next
  have hdv := lenB_div 64 x n hx
  have e2 : min ((n : Int)).toNat IntKind.u64.bits = n := by
    rw [Int.toNat_natCast]
    exact Nat.min_eq_left (by show _ ≤ 64; omega)
  have ex : ((x : Int) / 2 ^ min ((n : Int)).toNat IntKind.u64.bits) = ((x / 2 ^ n : Nat) : Int) := by rw [e2]; push_cast; rfl
  rcases (by omega : n < lenB 64 x ∨ (n = lenB 64 x ∧ n < 64) ∨ (n = lenB 64 x ∧ n = 64)) with h | ⟨h, h'⟩ | ⟨h, h'⟩
  · have hz : ¬ ((x : Int) / 2 ^ min ((n : Int)).toNat IntKind.u64.bits) = 0 := by rw [ex]; omega
    refine W.seq ?_
    refine W.seq ?_
    refine W.region ?_
    refine WL.mv rfl rfl ?_
    refine WL.lss rfl rfl rfl ?_
    refine WL.mv rfl rfl ?_
    refine WL.gT rfl rfl (by omega) ?_
    refine WL.mv rfl rfl ?_
    refine WL.gT rfl rfl (by omega) ?_
    refine WL.mv rfl rfl ?_
    refine WL.gT rfl rfl (by omega) ?_
    refine WL.cvK (T := Ty) rfl rfl rfl rfl (wrap_u64 ⟨by omega, by omega⟩) ?_
    refine WL.gT rfl rfl (by omega) ?_
    refine WL.shrS rfl rfl rfl (by omega) rfl ?_
    refine WL.gT rfl rfl (by omega) ?_
    refine WL.neq rfl rfl rfl ?_
    refine WL.pickTp rfl rfl (by omega) rfl ?_
    refine WL.nil ?_
    refine W.condpT rfl (by omega) ?_
    refine W.skip ?_
    refine W.block ?_
    refine W.region ?_
    refine WL.mv rfl rfl ?_
    refine WL.addK rfl rfl rfl (wrap_i64 ⟨by omega, by omega⟩) ?_
    refine WL.as rfl rfl ?_
    refine WL.nil ?_
    refine W.inBlock ?_
    refine W.sub ?_ (next (n + 1) (by omega) (by omega))
    exact ⟨rfl, rfl, trivial⟩
  · have hz : ¬ ¬ ((x : Int) / 2 ^ min ((n : Int)).toNat IntKind.u64.bits) = 0 := by rw [ex]; omega
    refine W.seq ?_
    refine W.seq ?_
    refine W.region ?_
    refine WL.mv rfl rfl ?_
    refine WL.lss rfl rfl rfl ?_
    refine WL.mv rfl rfl ?_
    refine WL.gT rfl rfl (by omega) ?_
    refine WL.mv rfl rfl ?_
    refine WL.gT rfl rfl (by omega) ?_
    refine WL.mv rfl rfl ?_
    refine WL.gT rfl rfl (by omega) ?_
    refine WL.cvK (T := Ty) rfl rfl rfl rfl (wrap_u64 ⟨by omega, by omega⟩) ?_
    refine WL.gT rfl rfl (by omega) ?_
    refine WL.shrS rfl rfl rfl (by omega) rfl ?_
    refine WL.gT rfl rfl (by omega) ?_
    refine WL.neq rfl rfl rfl ?_
    refine WL.pickTp rfl rfl (by omega) rfl ?_
    refine WL.nil ?_
    refine W.condpF rfl (by omega) ?_
    refine W.exit rfl ?_
    refine W.seq ?_
    refine W.region ?_
    refine WL.mv rfl rfl ?_
    refine WL.as rfl rfl ?_
    refine WL.nil ?_
    exact W.ret1 rfl rfl (fun q p => ⟨by rw [h], p⟩)
  · refine W.seq ?_
    refine W.seq ?_
    refine W.region ?_
    refine WL.mv rfl rfl ?_
    refine WL.lss rfl rfl rfl ?_
    refine WL.mv rfl rfl ?_
    refine WL.gdTn rfl rfl rfl rfl rfl (by omega) ?_
    refine WL.gdTn rfl rfl rfl rfl rfl (by omega) ?_
    refine WL.gdTn rfl rfl rfl rfl rfl (by omega) ?_
    refine WL.gdTn rfl rfl rfl rfl rfl (by omega) ?_
    refine WL.gdTn rfl rfl rfl rfl rfl (by omega) ?_
    refine WL.pickFp rfl rfl (by omega) rfl ?_
    refine WL.nil ?_
    refine W.condF rfl ?_
    refine W.exit rfl ?_
    refine W.seq ?_
    refine W.region ?_
    refine WL.mv rfl rfl ?_
    refine WL.as rfl rfl ?_
    refine WL.nil ?_
    exact W.ret1 rfl rfl (fun q p => ⟨by rw [h], p⟩)
theorem rwidth_i (ρ : Hp) (x : Int) (h0 : 0 ≤ x) (hx : x < 18446744073709551616) : Fn Try.prog 39 #[.int .u64 x] ρ [] (Just (.int .i64 (lenB 64 x.toNat : Int))) := by
  have := rwidth_c ρ x.toNat (by omega)
  rw [show ((x.toNat : Nat) : Int) = x by omega] at this
  exact this

theorem bitsL_next {l : List Nat} {i x : Nat} (h : l[i]? = some x) (w : Nat) : bitsL w (l.take i) ++ bitsOf x w = bitsL w (l.take (i + 1)) := by
  rw [List.take_add_one, h, Option.toList_some, bitsL_snoc]
-- CALL 38 refine WL.callF rfl rfl (fun x p d => rpack_c _ _ _ _ _ _ $RO $RO (by first | assumption | omega) (by first | assumption | omega) (by first | assumption | omega) (by first | assumption | omega)) (fun u$N => ?_) ;; refine WL.fact (i := 0) rfl (fun h hb => Buf.slm hb) (fun hsl$N => ?_)
theorem rpack_c (ρ : Hp) (b v : Value) (bs l : List Nat) (w : Nat) (hb : ROs ρ 1 b (bs.map bcell)) (hv : ROs ρ 1 v (l.map ucell)) (hw : ∀ x ∈ l, x < 18446744073709551616) (hw64 : w ≤ 64) (hl : l.length ≤ 70000) (hbl : bs.length ≤ 1000000) :
    Fn Try.prog 38 #[b, v, .int .i64 (w : Int)] ρ [] (fun r => Buf 1 r ((bs ++ pack (bitsL w l)).map bcell)) := by
  refine in38 rfl rfl ?_
  have sb := hb.slm
  have sv := hv.slm
  have hld : ∀ i, i ≤ l.length → (bitsL w (l.take i)).length ≤ 4480000 := by
    intro i hi
    rw [bitsL_len, List.length_take, Nat.min_eq_left hi]
    have : i * w ≤ 70000 * 64 := Nat.mul_le_mul (by omega) hw64
    omega
  refine W.seq ?_
  refine W.region ?_
  refine WL.as rfl rfl ?_
  refine WL.nil ?_
  refine W.seq ?_
  refine W.region ?_
  refine WL.bdC (T := Ty) rfl rfl rfl rfl (by repeat' first | exact CO.nil | apply CO.one (by first | rfl | exact SL.one (by assumption)) | apply CO.agg) rfl (by repeat' first | exact FL.nil | apply FL.cons) ?_
  refine WL.bxF rfl rfl (by repeat' first | exact FL.nil | apply FL.cons) (fun b0 => ?_)
  refine WL.as rfl rfl ?_
  refine WL.nil ?_
  refine W.seq ?_
  refine W.seq ?_
  refine W.region ?_
  refine WL.as rfl rfl ?_
  refine WL.nil ?_
  refine W.block ?_
  refine W.hs (fun _ p => rwr_of p) ?_
  refine W.loopS (σ := Nat) (fun i => [(0, b), (1, v), (2, .int .i64 (w : Int)), (7, ptr b0), (8, .int .i64 (i : Int))]) (fun i => [RWr b0 (bitsL w (l.take i))])
    (fun i => i ≤ l.length) (fun i => l.length - i) 0 ⟨rfl, rfl, rfl, rfl, rfl, trivial⟩ rfl (Nat.zero_le _) ?_
  intro i hi next
  have hd := hld i hi
  have hdb := bitsL_bit w (l.take i)
  generalize hds : bitsL w (l.take i) = ds at *
  by_cases hlt : i < l.length
  · obtain ⟨x, hx⟩ : ∃ x, l[i]? = some x := ⟨_, List.getElem?_eq_getElem hlt⟩
    have hx1 : (l.map ucell)[i]? = some (ucell x) := by rw [List.getElem?_map, hx]; rfl
    have hxl := hw x (List.mem_of_getElem? hx)
    refine W.seq ?_
    refine W.seq ?_
    refine W.region ?_
    refine WL.mv rfl rfl ?_
    refine WL.mv rfl rfl ?_
    refine WL.len (T := Ty) rfl rfl (by assumption) rfl ?_
    refine WL.lss rfl rfl rfl ?_
    refine WL.nil ?_
    refine W.condpT rfl (by omega) ?_
    refine W.skip ?_
    refine W.seq ?_
    refine W.block ?_
    refine W.region ?_
    refine WL.mv rfl rfl ?_
    refine WL.mv rfl rfl ?_
    refine WL.mv rfl rfl ?_
    refine WL.ix (T := Ty) rfl rfl rfl (by assumption) rfl rfl (by omega) (by first | omega | decide +kernel) ?_
    refine WL.ldKn (T := Ty) rfl rfl rfl rfl (by first | assumption | exact ROs.wide (by assumption)) (by assumption) ?_
    refine WL.mv rfl rfl ?_
    refine WL.callM 0 rfl rfl rfl (fun x p d => rwput_c _ _ _ _ _ (by omega) (by first | assumption | omega | (simp only [List.length_append, bitsOf_len, List.length_nil, heldF]; omega))) (by repeat' first | exact FL.nil | apply FL.cons) ?_
    refine WL.nil ?_
    refine W.inBlock ?_
    refine W.region ?_
    refine WL.mv rfl rfl ?_
    refine WL.addK rfl rfl rfl (wrap_i64 ⟨by omega, by omega⟩) ?_
    refine WL.as rfl rfl ?_
    refine WL.nil ?_
    refine W.sub ?_ (W.hs (fun h p => ?_) (next (i + 1) (by omega) (by omega)))
    · exact ⟨rfl, rfl, rfl, rfl, rfl, trivial⟩
    · rw [← bitsL_next hx, hds, ← heldF_nat64 _ hw64]
      exact p
  · have hie : i = l.length := by omega
    have hpl := pack_len ds
    refine W.seq ?_
    refine W.seq ?_
    refine W.region ?_
    refine WL.mv rfl rfl ?_
    refine WL.mv rfl rfl ?_
    refine WL.len (T := Ty) rfl rfl (by assumption) rfl ?_
    refine WL.lss rfl rfl rfl ?_
    refine WL.nil ?_
    refine W.condpF rfl (by omega) ?_
    refine W.exit rfl ?_
    refine W.seq ?_
    refine W.region ?_
    refine WL.bsC (T := Ty) rfl rfl rfl rfl rfl rfl rfl (by repeat' first | exact CO.nil | apply CO.one (by first | rfl | exact SL.one (by assumption)) | apply CO.agg) rfl (by repeat' first | exact FL.nil | apply FL.cons) (fun u1 hu1 => ?_)
    refine WL.mv rfl rfl ?_
    refine WL.apN (T := Ty) (i := 0) rfl rfl rfl rfl rfl rfl rfl (by first | exact .ro (by assumption) | exact .ro (ROs.wide (by assumption)) | exact .eqJ 0 rfl (by assumption) | exact .own 0 rfl | exact .own 1 rfl | exact .own 2 rfl | exact .own 3 rfl | exact .own 4 rfl | exact .own 5 rfl) (by first | assumption | exact ROs.slm (by assumption)) (fun _ => rfl) (by first | omega | (simp; omega)) (by first | omega | (simp; omega)) (fun v' => (by repeat' first | exact FL.nil | apply FL.cons)) (fun u2 hu2 => ?_)
    refine WL.mv rfl rfl ?_
    refine WL.callF rfl rfl (fun x p d => rwbytes_c _ _ _ (by repeat' first | assumption | exact bok_nil | exact bitsOf_bit _ _ | apply bok_app) (by first | assumption | exact In.wide (by assumption) | exact In.mono (by assumption) (eqh_at 0 rfl p d) | exact in_at 0 rfl p d | exact in_at 1 rfl p d | exact in_at 2 rfl p d | exact in_at 3 rfl p d | exact in_at 4 rfl p d) (by first | omega | (simp only [List.length_append, bitsOf_len, List.length_nil, heldF]; omega))) (fun u3 => ?_)
    refine WL.fact (i := 0) rfl (fun h hb => Buf.slm hb) (fun hsl3 => ?_)
    refine WL.apMM (T := Ty) (i := 1) rfl rfl rfl rfl rfl rfl rfl (by first | exact .ro (by assumption) | exact .ro (ROs.wide (by assumption)) | exact .eqJ 0 rfl (by assumption) | exact .own 0 rfl | exact .own 1 rfl | exact .own 2 rfl | exact .own 3 rfl | exact .own 4 rfl | exact .own 5 rfl) (by first | assumption | exact ROs.slm (by assumption)) (fun _ => rfl) (by first | omega | (simp; omega)) (by first | omega | (simp; omega)) (fun v' => (by repeat' first | exact FL.nil | apply FL.cons)) (fun u4 hu4 => ?_)
    refine WL.as rfl rfl ?_
    refine WL.nil ?_
    refine W.drop 0 rfl (by repeat' first | exact FL.nil | apply FL.cons) ?_
    refine W.drop 1 rfl (by repeat' first | exact FL.nil | apply FL.cons) ?_
    refine W.ret1 rfl rfl (fun h p => ?_)
    have e : ds = bitsL w l := by rw [← hds, hie, List.take_length]
    rw [← e]
    exact sepl_one.1 p
-- CALL 41 refine WL.callF rfl rfl (fun x p d => runpack_i _ _ _ _ _ (by assumption) $RO (by first | assumption | omega) (by first | assumption | omega) (by first | assumption | omega) (by first | assumption | omega)) (fun u$N => ?_) ;; refine WL.fact (i := 0) rfl (fun h hb => Buf.slm hb) (fun hsl$N => ?_)
theorem runpack_c (ρ : Hp) (b : Value) (bs : List Nat) (m w : Nat) (hb : ROs ρ 1 b (bs.map bcell)) (hw : ∀ x ∈ bs, x < 256) (hw64 : w ≤ 64) (hm : m ≤ 70000) (hbl : bs.length ≤ 140737488355328) :
    Fn Try.prog 41 #[b, .int .i64 (m : Int), .int .i64 (w : Int)] ρ [] (fun r => Buf 1 r ((numI bs w m).map ucell)) := by
  refine in41 rfl rfl ?_
  have sb := hb.slm
  refine W.seq ?_
  refine W.region ?_
  refine WL.as rfl rfl ?_
  refine WL.nil ?_
  refine W.seq ?_
  refine W.region ?_
  refine WL.mv rfl rfl ?_
  refine WL.bdC (T := Ty) rfl rfl rfl rfl (by repeat' first | exact CO.nil | apply CO.one (by first | rfl | exact SL.one (by assumption)) | apply CO.agg) rfl (by repeat' first | exact FL.nil | apply FL.cons) ?_
  refine WL.bxF rfl rfl (by repeat' first | exact FL.nil | apply FL.cons) (fun b0 => ?_)
  refine WL.as rfl rfl ?_
  refine WL.nil ?_
  refine W.seq ?_
  refine W.region ?_
  refine WL.as rfl rfl ?_
  refine WL.nil ?_
  refine W.seq ?_
  refine W.seq ?_
  refine W.region ?_
  refine WL.as rfl rfl ?_
  refine WL.nil ?_
  refine W.block ?_
  refine W.nb (sz := 1) ?_
  refine W.loopS (σ := Nat × RdSt × Value) (fun s => [(1, .int .i64 (m : Int)), (2, .int .i64 (w : Int)), (7, ptr b0), (8, s.2.2), (9, .int .i64 (s.1 : Int))]) (fun s => [Buf 1 s.2.2 ((numI bs w s.1).map ucell), RRe b0 b s.2.1])
    (fun s => s.1 ≤ m ∧ RdAt bs w s.1 s.2.1) (fun s => m - s.1) (0, ⟨0, false⟩, .slice none 0 0) ⟨rfl, rfl, rfl, rfl, rfl, trivial⟩ rfl ⟨Nat.zero_le _, rdAt_zero _ _⟩ ?_
  rintro ⟨i, s, o⟩ ⟨hi, hs⟩ next
  simp only [] at hi hs next ⊢
  have hil := numI_len bs w i
  refine W.fact (i := 0) rfl (fun h hb => Buf.slm hb) (fun hso => ?_)
  have hsat := hs.at'
  by_cases hlt : i < m
  · obtain ⟨g, s', hgf⟩ : ∃ g s', getF bs s (w : Int) = (g, s') := ⟨_, _, rfl⟩
    have hnx := rdAt_next hw64 hs
    rw [hgf] at hnx
    obtain ⟨hg1, hs'⟩ := hnx
    simp only [] at hg1 hs'
    refine W.seq ?_
    refine W.seq ?_
    refine W.region ?_
    refine WL.mv rfl rfl ?_
    refine WL.mv rfl rfl ?_
    refine WL.lss rfl rfl rfl ?_
    refine WL.nil ?_
    refine W.condpT rfl (by omega) ?_
    refine W.skip ?_
    refine W.seq ?_
    refine W.block ?_
    refine W.region ?_
    refine WL.mv rfl rfl ?_
    refine WL.mv rfl rfl ?_
    refine WL.mv rfl rfl ?_
    refine WL.callM 1 rfl rfl rfl (fun x p d => rget1_e _ _ _ _ _ _ (by assumption) (by first | assumption | exact ROs.wide (by assumption) | exact ROs.mono (by assumption) (eqh_at 0 rfl p d) | exact ros_at 0 rfl p d | exact ros_at 1 rfl p d | exact ros_at 2 rfl p d | exact ros_at 3 rfl p d | exact ros_at 4 rfl p d) (by first | exact Nat.zero_le _ | assumption) (by first | assumption | omega) (by assumption)) (by repeat' first | exact FL.nil | apply FL.cons) ?_
    refine WL.bsC (T := Ty) rfl rfl rfl rfl rfl rfl rfl (by repeat' first | exact CO.nil | apply CO.one (by first | rfl | exact SL.one (by assumption)) | apply CO.agg) rfl (by repeat' first | exact FL.nil | apply FL.cons) (fun u1 hu1 => ?_)
    refine WL.ap1 (T := Ty) (i := 0) rfl rfl rfl rfl rfl rfl rfl rfl (by assumption) (by first | rfl | assumption) (by first | omega | (simp; omega)) (by first | omega | (simp; omega)) (fun v' => (by repeat' first | exact FL.nil | apply FL.cons)) (fun u2 hu2 => ?_)
    refine WL.as rfl rfl ?_
    refine WL.nil ?_
    refine W.inBlock ?_
    refine W.region ?_
    refine WL.mv rfl rfl ?_
    refine WL.addK rfl rfl rfl (wrap_i64 ⟨by omega, by omega⟩) ?_
    refine WL.as rfl rfl ?_
    refine WL.nil ?_
    refine W.sub ?_ (W.hs (fun h p => ?_) (next ⟨i + 1, s', u2⟩ ⟨by simp only []; omega, hs'⟩ (by simp only []; omega)))
    · exact ⟨rfl, rfl, rfl, rfl, rfl, trivial⟩
    · simp only []
      rw [numI_next, List.map_append, ← hg1]
      exact p
  · have hie : i = m := by omega
    subst hie
    refine W.seq ?_
    refine W.seq ?_
    refine W.region ?_
    refine WL.mv rfl rfl ?_
    refine WL.mv rfl rfl ?_
    refine WL.lss rfl rfl rfl ?_
    refine WL.nil ?_
    refine W.condpF rfl (by omega) ?_
    refine W.exit rfl ?_
    refine W.seq ?_
    refine W.region ?_
    refine WL.mv rfl rfl ?_
    refine WL.as rfl rfl ?_
    refine WL.nil ?_
    refine W.drop 1 rfl (by repeat' first | exact FL.nil | apply FL.cons) ?_
    exact W.ret1 rfl rfl (fun h p => sepl_one.1 p)
theorem runpack_i (ρ : Hp) (b : Value) (bs : List Nat) (m w : Nat) {q : Int} (e : q = (m : Int)) (hb : ROs ρ 1 b (bs.map bcell)) (hw : ∀ x ∈ bs, x < 256) (hw64 : w ≤ 64) (hm : m ≤ 70000) (hbl : bs.length ≤ 140737488355328) :
    Fn Try.prog 41 #[b, .int .i64 q, .int .i64 (w : Int)] ρ [] (fun r => Buf 1 r ((numI bs w m).map ucell)) := by
  subst e
  exact runpack_c ρ b bs m w hb hw hw64 hm hbl
end Go.Proofs.Ytjibmfkhhljhcaa
