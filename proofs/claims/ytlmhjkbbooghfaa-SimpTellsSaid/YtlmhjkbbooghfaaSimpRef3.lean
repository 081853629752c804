/- Small numbers, many to a word: the document's GetSimple. -/
import Derived.Test.YtlmhjkbbooghfaaStc
import Derived.Test.YtlmhjkbbooghfaaNum
import Derived.Test.YtlmhjkbbooghfaaTab
import Derived.Test.YtlmhjkbbooghfaaSimpRef2
import Derived.Test.YtlmhjkbbooghfaaRunlRef
set_option linter.unusedSimpArgs false
set_option linter.unusedVariables false
set_option maxRecDepth 20000
set_option maxHeartbeats 4000000
namespace Go.Proofs.Ytlmhjkbbooghfaa
open Go
attribute [local irreducible] W WL Fn Buf ROs SL eptr box Rd Src bndOK WD RB Reads In encS decS decSF decGF bits

/-- a number out of a word, kind and all -/
theorem word_and64 (y b s : Nat) (hy : y < 18446744073709551616) (hb : b ≤ 60) : bits .and .u64 ((y : Int) / 2 ^ s) (IntKind.u64.wrap (IntKind.u64.wrap (1 * 2 ^ b) - 1)) = ((y / 2 ^ s % 2 ^ b : Nat) : Int) := by
  have h60 : (2 : Nat) ^ 60 = 1152921504606846976 := by decide
  have hp : 2 ^ b ≤ 2 ^ 60 := Nat.pow_le_pow_right (by decide) hb
  have hp0 : 0 < 2 ^ b := Nat.pow_pos (by decide)
  have e1 : (1 * 2 ^ b : Int) = ((2 ^ b : Nat) : Int) := by push_cast; rw [Int.one_mul]
  have e2 : ((y : Int) / 2 ^ s) = ((y / 2 ^ s : Nat) : Int) := by push_cast; rfl
  have hd : y / 2 ^ s ≤ y := Nat.div_le_self _ _
  rw [e1, wrapU64, Nat.mod_eq_of_lt (by omega), e2, show ((2 ^ b : Nat) : Int) - 1 = ((2 ^ b - 1 : Nat) : Int) by omega, wrapU64, Nat.mod_eq_of_lt (by omega),
    bits_and rfl (by show _ < 18446744073709551616; omega) (by show _ < 18446744073709551616; omega), Nat.and_two_pow_sub_one_eq_mod]
theorem rgets_c (ρ : Hp) (v : Value) (ws : List Nat) (n : Int) (hv : ROs ρ 1 v (ws.map ucell)) (hw : ∀ x ∈ ws, x < 18446744073709551616) (hl : ws.length ≤ 17592186044416) :
    Fn Try.prog 33 #[v, .int .i64 n] ρ [] (RowR (decS ws n)) := by
  refine in33 rfl rfl ?_
  have hs := hv.slm
  have hm := heldS_eq n
  have hml := heldS_le n
  refine W.seq ?_
  refine W.region ?_
  refine WL.as rfl rfl ?_
  refine WL.as rfl rfl ?_
  refine WL.nil ?_
  refine W.seq ?_
  refine W.region ?_
  refine WL.mv rfl rfl ?_
  refine WL.callV rfl rfl (fun x p d => heldm_c _ _) ?_
  refine WL.as rfl rfl ?_
  refine WL.nil ?_
  refine W.seq ?_
  refine W.region ?_
  refine WL.as rfl rfl ?_
  refine WL.nil ?_
  refine W.seq ?_
  refine W.seq ?_
  refine W.region ?_
  refine WL.as rfl rfl ?_
  refine WL.nil ?_
  refine W.block ?_
  rw [hm]
  refine W.nb (sz := 1) ?_
  refine W.loopS (σ := Nat × Value × List Nat) (fun s => [(0, v), (1, .int .i64 ((heldS n : Nat) : Int)), (6, s.2.1), (7, .int .i64 (s.1 : Int))]) (fun s => [Buf 1 s.2.1 (s.2.2.map ucell)])
    (fun s => s.1 ≤ ws.length ∧ decGF (ws.drop s.1) (heldS n) s.2.2 = decGF ws (heldS n) [] ∧ s.2.2.length ≤ heldS n ∧ ∀ x ∈ s.2.2, x < 18446744073709551616) (fun s => ws.length - s.1) (0, .slice none 0 0, []) ⟨rfl, rfl, rfl, rfl, trivial⟩ rfl ⟨Nat.zero_le _, rfl, Nat.zero_le _, by simp⟩ ?_
  rintro ⟨a, o, os⟩ ⟨h1, h2, h3, h4⟩ next
  simp only [] at h1 h2 h3 h4 next ⊢
  refine W.fact (i := 0) rfl (fun h hb => Buf.slm hb) (fun hso => ?_)
  rcases (by omega : (a < ws.length ∧ os.length < heldS n) ∨ (a < ws.length ∧ ¬ os.length < heldS n) ∨ ¬ a < ws.length) with ⟨hc1, hc2⟩ | ⟨hc1, hc2⟩ | hc1
  · obtain ⟨x, hx⟩ : ∃ x, ws[a]? = some x := ⟨_, List.getElem?_eq_getElem hc1⟩
    have hx1 : (ws.map ucell)[a]? = some (ucell x) := by rw [List.getElem?_map, hx]; rfl
    have hx64 := hw x (List.mem_of_getElem? hx)
    have hdrop : ws.drop a = x :: ws.drop (a + 1) := by
      rw [List.drop_eq_getElem_cons hc1]
      congr 1
      rw [List.getElem?_eq_getElem hc1] at hx
      exact Option.some.inj hx
    rw [hdrop, decGF, if_neg (by omega)] at h2
    obtain ⟨q, hq⟩ : ∃ q, q = x / 2 ^ 60 := ⟨_, rfl⟩
    obtain ⟨y, hy⟩ : ∃ y, y = x % 2 ^ 60 := ⟨_, rfl⟩
    rw [← hq, ← hy] at h2
    have h60 : (2 : Nat) ^ 60 = 1152921504606846976 := by decide
    have hi16 : q < 16 := by rw [h60] at hq; omega
    have hkf := kind_facts ⟨q, hi16⟩
    simp only [] at hkf
    have et : ((x : Int) / 1152921504606846976) = ((q : Nat) : Int) := by rw [h60] at hq; omega
    obtain ⟨K, hK⟩ : ∃ K, K = min (cntS q) (heldS n - os.length) := ⟨_, rfl⟩
    rw [← hK] at h2
    have hKc : K ≤ cntS q := by omega
    refine W.seq ?_
    refine W.seq ?_
    refine W.region ?_
    refine WL.mv rfl rfl ?_
    refine WL.mv rfl rfl ?_
    refine WL.len (T := Ty) rfl rfl (by assumption) rfl ?_
    refine WL.lss rfl rfl rfl ?_
    refine WL.mv rfl rfl ?_
    refine WL.gT rfl rfl (by omega) ?_
    refine WL.mv rfl rfl ?_
    refine WL.gT rfl rfl (by omega) ?_
    refine WL.len (T := Ty) rfl rfl (by assumption) rfl ?_
    refine WL.gT rfl rfl (by omega) ?_
    refine WL.mv rfl rfl ?_
    refine WL.gT rfl rfl (by omega) ?_
    refine WL.lss rfl rfl rfl ?_
    refine WL.pickTp rfl rfl (by omega) rfl ?_
    refine WL.nil ?_
    refine W.condpT rfl (by omega) ?_
    refine W.skip ?_
    refine W.seq ?_
    refine W.block ?_
    refine W.seq ?_
    refine W.region ?_
    refine WL.mv rfl rfl ?_
    refine WL.mv rfl rfl ?_
    refine WL.ix (T := Ty) rfl rfl rfl (by assumption) rfl rfl (by omega) (by first | omega | decide +kernel) ?_
    refine WL.ldKn (T := Ty) rfl rfl rfl rfl (by first | assumption | exact ROs.wide (by assumption)) (by assumption) ?_
    refine WL.shrS (c := 1152921504606846976) rfl rfl rfl (by omega) (by decide) ?_
    refine WL.cvK (T := Ty) rfl rfl rfl rfl (wrap_i64 ⟨by omega, by omega⟩) ?_
    refine WL.as rfl rfl ?_
    refine WL.nil ?_
    refine W.seq ?_
    refine W.region ?_
    refine WL.as rfl rfl ?_
    refine WL.nil ?_
    refine W.block ?_
    rw [et]
    refine W.loopS (σ := Nat × Value) (fun s => [(0, v), (1, .int .i64 ((heldS n : Nat) : Int)), (6, s.2), (7, .int .i64 (a : Int)), (8, .int .i64 (q : Int)), (9, .int .i64 (s.1 : Int))])
      (fun s => [Buf 1 s.2 ((os ++ unpackW (bitS q) s.1 y).map ucell)]) (fun s => s.1 ≤ K) (fun s => K - s.1) (0, o) ⟨rfl, rfl, rfl, rfl, rfl, rfl, trivial⟩ (by simp [unpackW]) (Nat.zero_le _) ?_
    rintro ⟨j, oo⟩ hj next2
    simp only [] at hj next2 ⊢
    have hol : (os ++ unpackW (bitS q) j y).length = os.length + j := by rw [List.length_append, unpackW_len]
    refine W.fact (i := 0) rfl (fun h hb => Buf.slm hb) (fun hso2 => ?_)
    rw [hol] at hso2
    by_cases hjk : j < K
    · have hm := mul_le60 j hi16 hjk hKc
      have hm0 : (0 : Int) ≤ (j : Int) * (bitS q : Int) := by rw [hm.1]; omega
      have hm1 : (j : Int) * (bitS q : Int) ≤ 60 := by rw [hm.1]; omega
      have e1 : min ((j : Int) * (bitS q : Int)).toNat IntKind.u64.bits = bitS q * j := by
        rw [hm.1, Int.toNat_natCast, Nat.mul_comm (bitS q) j]
        exact Nat.min_eq_left (by show _ ≤ 64; omega)
      have e2 : min ((bitS q : Nat) : Int).toNat IntKind.u64.bits = bitS q := by
        rw [Int.toNat_natCast]
        exact Nat.min_eq_left (by show _ ≤ 64; omega)
      have hpart := word_part x (bitS q * j) (bitS q) (by rw [Nat.mul_comm]; exact hm.2)
      have hand := word_and64 x (bitS q) (bitS q * j) hx64 (by omega)
      rw [← hpart, ← hy] at hand
      by_cases hb0 : bitS q = 0
      · have hz : y / 2 ^ (bitS q * j) % 2 ^ bitS q = 0 := by rw [hb0, Nat.pow_zero, Nat.mod_one]
        refine W.seq ?_
        refine W.seq ?_
        refine W.region ?_
        refine WL.mv rfl rfl ?_
        refine WL.mv rfl rfl ?_
        refine WL.callV rfl rfl (fun x p d => rnum_c _ _ (by first | assumption | omega)) ?_
        refine WL.lss rfl rfl rfl ?_
        refine WL.mv rfl rfl ?_
        refine WL.gT rfl rfl (by omega) ?_
        refine WL.mv rfl rfl ?_
        refine WL.gT rfl rfl (by omega) ?_
        refine WL.len (T := Ty) rfl rfl (by assumption) rfl ?_
        refine WL.gT rfl rfl (by omega) ?_
        refine WL.mv rfl rfl ?_
        refine WL.gT rfl rfl (by omega) ?_
        refine WL.lss rfl rfl rfl ?_
        refine WL.pickTp rfl rfl (by omega) rfl ?_
        refine WL.nil ?_
        refine W.condpT rfl (by omega) ?_
        refine W.skip ?_
        refine W.seq ?_
        refine W.block ?_
        refine W.seq ?_
        refine W.region ?_
        refine WL.as rfl rfl ?_
        refine WL.nil ?_
        refine W.seq ?_
        refine W.seq ?_
        refine W.region ?_
        refine WL.mv rfl rfl ?_
        refine WL.callV rfl rfl (fun x p d => rbits_c _ _ (by first | assumption | omega)) ?_
        refine WL.gtr rfl rfl rfl ?_
        refine WL.nil ?_
        refine W.condpF rfl (by omega) ?_
        refine W.skip ?_
        refine W.region ?_
        refine WL.mv rfl rfl ?_
        refine WL.mv rfl rfl ?_
        refine WL.bsC (T := Ty) rfl rfl rfl rfl rfl rfl rfl (by repeat' first | exact CO.nil | apply CO.one (by first | rfl | exact SL.one (by assumption)) | apply CO.agg) rfl (by repeat' first | exact FL.nil | apply FL.cons) (fun u0 hu0 => ?_)
        refine WL.apQ (T := Ty) (i := 1) rfl rfl rfl rfl rfl rfl rfl (by first | exact .ro (by assumption) | exact .ro (ROs.wide (by assumption)) | exact .eqJ 0 rfl (by assumption) | exact .own 0 rfl | exact .own 1 rfl | exact .own 2 rfl | exact .own 3 rfl | exact .own 4 rfl | exact .own 5 rfl) (by first | assumption | exact ROs.slm (by assumption)) (fun _ => rfl) (by first | omega | (simp; omega)) (by first | omega | (simp; omega)) (fun v' => (by repeat' first | exact FL.nil | apply FL.cons)) (fun u1 hu1 => ?_)
        refine WL.as rfl rfl ?_
        refine WL.nil ?_
        refine W.inBlock ?_
        refine W.region ?_
        refine WL.mv rfl rfl ?_
        refine WL.addK rfl rfl rfl (wrap_i64 ⟨by omega, by omega⟩) ?_
        refine WL.as rfl rfl ?_
        refine WL.nil ?_
        refine W.drop 0 rfl (by repeat' first | exact FL.nil | apply FL.cons) ?_
        refine W.sub ?_ (W.hs (fun h p => ?_) (next2 ⟨j + 1, u1⟩ (by simp only []; omega) (by simp only []; omega)))
        · exact ⟨rfl, rfl, rfl, rfl, rfl, rfl, trivial⟩
        · rw [unpackW_snoc, ← List.append_assoc, hz]
          exact p
      · refine W.seq ?_
        refine W.seq ?_
        refine W.region ?_
        refine WL.mv rfl rfl ?_
        refine WL.mv rfl rfl ?_
        refine WL.callV rfl rfl (fun x p d => rnum_c _ _ (by first | assumption | omega)) ?_
        refine WL.lss rfl rfl rfl ?_
        refine WL.mv rfl rfl ?_
        refine WL.gT rfl rfl (by omega) ?_
        refine WL.mv rfl rfl ?_
        refine WL.gT rfl rfl (by omega) ?_
        refine WL.len (T := Ty) rfl rfl (by assumption) rfl ?_
        refine WL.gT rfl rfl (by omega) ?_
        refine WL.mv rfl rfl ?_
        refine WL.gT rfl rfl (by omega) ?_
        refine WL.lss rfl rfl rfl ?_
        refine WL.pickTp rfl rfl (by omega) rfl ?_
        refine WL.nil ?_
        refine W.condpT rfl (by omega) ?_
        refine W.skip ?_
        refine W.seq ?_
        refine W.block ?_
        refine W.seq ?_
        refine W.region ?_
        refine WL.as rfl rfl ?_
        refine WL.nil ?_
        refine W.seq ?_
        refine W.seq ?_
        refine W.region ?_
        refine WL.mv rfl rfl ?_
        refine WL.callV rfl rfl (fun x p d => rbits_c _ _ (by first | assumption | omega)) ?_
        refine WL.gtr rfl rfl rfl ?_
        refine WL.nil ?_
        refine W.condpT rfl (by omega) ?_
        refine W.drawA 16 rfl (fun σ0 hσ0 dσ0 => ?_)
        have fσ0_0 := ros_at 0 rfl hσ0 dσ0
        refine WD.takeL 0 rfl (by decide +kernel) ?_
        refine WL.mv rfl rfl ?_
        refine WL.nilT ?_
        refine WD.takeL 1 rfl (by decide +kernel) ?_
        refine WL.mv rfl rfl ?_
        refine WL.nilT ?_
        refine WD.takeL 2 rfl (by decide +kernel) ?_
        refine WL.ix (T := Ty) rfl rfl rfl (by assumption) rfl rfl (by omega) (by first | omega | decide +kernel) ?_
        refine WL.nilT ?_
        refine WD.takeL 3 rfl (by decide +kernel) ?_
        refine WL.ldKn (T := Ty) rfl rfl rfl rfl (by first | assumption | exact ROs.wide (by assumption)) (by assumption) ?_
        refine WL.nilT ?_
        refine WD.takeL 4 rfl (by decide +kernel) ?_
        refine WL.mv rfl rfl ?_
        refine WL.nilT ?_
        refine WD.takeL 5 rfl (by decide +kernel) ?_
        refine WL.mv rfl rfl ?_
        refine WL.nilT ?_
        refine WD.takeL 10 rfl (by decide +kernel) ?_
        refine WL.mv rfl rfl ?_
        refine WL.nilT ?_
        refine WD.oneL 6 rfl (by decide +kernel) ?_
        refine WL.callV rfl rfl (fun x p d => rbits_c _ _ (by first | assumption | omega)) ?_
        refine WL.nilE ?_
        refine WD.takeL 7 rfl (by decide +kernel) ?_
        refine WL.mulK rfl rfl rfl (wrap_i64 ⟨by omega, by omega⟩) ?_
        refine WL.nilT ?_
        refine WD.takeL 8 rfl (by decide +kernel) ?_
        refine WL.cvK (T := Ty) rfl rfl rfl rfl (wrap_u64 ⟨by omega, by omega⟩) ?_
        refine WL.nilT ?_
        refine WD.takeL 9 rfl (by decide +kernel) ?_
        refine WL.shrS rfl rfl rfl (by omega) rfl ?_
        refine WL.nilT ?_
        refine WD.oneL 11 rfl (by decide +kernel) ?_
        refine WL.callV rfl rfl (fun x p d => rbits_c _ _ (by first | assumption | omega)) ?_
        refine WL.nilE ?_
        refine WD.takeL 12 rfl (by decide +kernel) ?_
        refine WL.cvK (T := Ty) rfl rfl rfl rfl (wrap_u64 ⟨by omega, by omega⟩) ?_
        refine WL.nilT ?_
        refine WD.takeL 13 rfl (by decide +kernel) ?_
        refine WL.shlS rfl rfl rfl (by omega) rfl rfl ?_
        refine WL.nilT ?_
        refine WD.takeL 14 rfl (by decide +kernel) ?_
        refine WL.sub' (K := .u64) rfl rfl rfl ?_
        refine WL.nilT ?_
        refine WD.takeL 15 rfl (by decide +kernel) ?_
        refine WL.and rfl rfl rfl ?_
        refine WL.nilT ?_
        refine WD.lastG hσ0 (by decide +kernel) (by repeat' first | exact FL.nil | apply FL.cons) rfl (by repeat' first | exact FL.nil | apply FL.cons) ?_
        refine WL.as rfl rfl ?_
        refine WL.nil ?_
        refine W.region ?_
        refine WL.mv rfl rfl ?_
        refine WL.mv rfl rfl ?_
        refine WL.bsC (T := Ty) rfl rfl rfl rfl rfl rfl rfl (by repeat' first | exact CO.nil | apply CO.one (by first | rfl | exact SL.one (by assumption)) | apply CO.agg) rfl (by repeat' first | exact FL.nil | apply FL.cons) (fun u0 hu0 => ?_)
        rw [e1, e2, hand]
        refine WL.apQ (T := Ty) (i := 1) rfl rfl rfl rfl rfl rfl rfl (by first | exact .ro (by assumption) | exact .ro (ROs.wide (by assumption)) | exact .eqJ 0 rfl (by assumption) | exact .own 0 rfl | exact .own 1 rfl | exact .own 2 rfl | exact .own 3 rfl | exact .own 4 rfl | exact .own 5 rfl) (by first | assumption | exact ROs.slm (by assumption)) (fun _ => rfl) (by first | omega | (simp; omega)) (by first | omega | (simp; omega)) (fun v' => (by repeat' first | exact FL.nil | apply FL.cons)) (fun u1 hu1 => ?_)
        refine WL.as rfl rfl ?_
        refine WL.nil ?_
        refine W.inBlock ?_
        refine W.region ?_
        refine WL.mv rfl rfl ?_
        refine WL.addK rfl rfl rfl (wrap_i64 ⟨by omega, by omega⟩) ?_
        refine WL.as rfl rfl ?_
        refine WL.nil ?_
        refine W.drop 0 rfl (by repeat' first | exact FL.nil | apply FL.cons) ?_
        refine W.sub ?_ (W.hs (fun h p => ?_) (next2 ⟨j + 1, u1⟩ (by simp only []; omega) (by simp only []; omega)))
        · exact ⟨rfl, rfl, rfl, rfl, rfl, rfl, trivial⟩
        · rw [unpackW_snoc, ← List.append_assoc]
          exact p
    · have hjK : j = K := by omega
      by_cases hjc : j < cntS q
      · refine W.seq ?_
        refine W.seq ?_
        refine W.region ?_
        refine WL.mv rfl rfl ?_
        refine WL.mv rfl rfl ?_
        refine WL.callV rfl rfl (fun x p d => rnum_c _ _ (by first | assumption | omega)) ?_
        refine WL.lss rfl rfl rfl ?_
        refine WL.mv rfl rfl ?_
        refine WL.gT rfl rfl (by omega) ?_
        refine WL.mv rfl rfl ?_
        refine WL.gT rfl rfl (by omega) ?_
        refine WL.len (T := Ty) rfl rfl (by assumption) rfl ?_
        refine WL.gT rfl rfl (by omega) ?_
        refine WL.mv rfl rfl ?_
        refine WL.gT rfl rfl (by omega) ?_
        refine WL.lss rfl rfl rfl ?_
        refine WL.pickTp rfl rfl (by omega) rfl ?_
        refine WL.nil ?_
        refine W.condpF rfl (by omega) ?_
        refine W.exit rfl ?_
        refine W.inBlock ?_
        refine W.region ?_
        refine WL.mv rfl rfl ?_
        refine WL.addK rfl rfl rfl (wrap_i64 ⟨by omega, by omega⟩) ?_
        refine WL.as rfl rfl ?_
        refine WL.nil ?_
        refine W.sub ?_ (W.hs (fun h p => ?_) (next ⟨a + 1, oo, os ++ unpackW (bitS q) K y⟩ ⟨by simp only []; omega, ?_, ?_, ?_⟩ (by simp only []; omega)))
        · exact ⟨rfl, rfl, rfl, rfl, trivial⟩
        · rw [← hjK]
          exact p
        · exact h2
        · show (os ++ unpackW (bitS q) K y).length ≤ heldS n
          rw [← hjK, hol]; omega
        · intro z hz
          rcases List.mem_append.1 hz with hz | hz
          · exact h4 z hz
          · exact unpackW_lt (bitS q) (by omega) _ _ z hz
      · refine W.seq ?_
        refine W.seq ?_
        refine W.region ?_
        refine WL.mv rfl rfl ?_
        refine WL.mv rfl rfl ?_
        refine WL.callV rfl rfl (fun x p d => rnum_c _ _ (by first | assumption | omega)) ?_
        refine WL.lss rfl rfl rfl ?_
        refine WL.mv rfl rfl ?_
        refine WL.gdTn rfl rfl rfl rfl rfl (by omega) ?_
        refine WL.gdTn rfl rfl rfl rfl rfl (by omega) ?_
        refine WL.gdTn rfl rfl rfl rfl rfl (by omega) ?_
        refine WL.gdTn rfl rfl rfl rfl rfl (by omega) ?_
        refine WL.pickFp rfl rfl (by omega) rfl ?_
        refine WL.nil ?_
        refine W.condF rfl ?_
        refine W.exit rfl ?_
        refine W.inBlock ?_
        refine W.region ?_
        refine WL.mv rfl rfl ?_
        refine WL.addK rfl rfl rfl (wrap_i64 ⟨by omega, by omega⟩) ?_
        refine WL.as rfl rfl ?_
        refine WL.nil ?_
        refine W.sub ?_ (W.hs (fun h p => ?_) (next ⟨a + 1, oo, os ++ unpackW (bitS q) K y⟩ ⟨by simp only []; omega, ?_, ?_, ?_⟩ (by simp only []; omega)))
        · exact ⟨rfl, rfl, rfl, rfl, trivial⟩
        · rw [← hjK]
          exact p
        · exact h2
        · show (os ++ unpackW (bitS q) K y).length ≤ heldS n
          rw [← hjK, hol]; omega
        · intro z hz
          rcases List.mem_append.1 hz with hz | hz
          · exact h4 z hz
          · exact unpackW_lt (bitS q) (by omega) _ _ z hz
  · have hd := decS_G ws n
    have hos : decGF ws (heldS n) [] = os := by rw [← h2]; exact decGF_done _ _ _ (by omega)
    rw [hos] at hd
    cases he : encS os with
    | none =>
      have hno : decS ws n = none := by rw [hd, if_neg (fun c => by rw [he] at c; cases c.2)]
      by_cases hlen : os.length = heldS n
      · refine W.seq ?_
        refine W.seq ?_
        refine W.region ?_
        refine WL.mv rfl rfl ?_
        refine WL.mv rfl rfl ?_
        refine WL.len (T := Ty) rfl rfl (by assumption) rfl ?_
        refine WL.lss rfl rfl rfl ?_
        refine WL.mv rfl rfl ?_
        refine WL.gT rfl rfl (by omega) ?_
        refine WL.mv rfl rfl ?_
        refine WL.gT rfl rfl (by omega) ?_
        refine WL.len (T := Ty) rfl rfl (by assumption) rfl ?_
        refine WL.gT rfl rfl (by omega) ?_
        refine WL.mv rfl rfl ?_
        refine WL.gT rfl rfl (by omega) ?_
        refine WL.lss rfl rfl rfl ?_
        refine WL.pickTp rfl rfl (by omega) rfl ?_
        refine WL.nil ?_
        refine W.condpF rfl (by omega) ?_
        refine W.exit rfl ?_
        refine W.seq ?_
        refine W.region ?_
        refine WL.mv rfl rfl ?_
        refine WL.callF rfl rfl (fun x p d => rsimple_n _ _ _ (by assumption) (by first | assumption | exact ROs.wide (by assumption) | exact ROs.mono (by assumption) (eqh_at 0 rfl p d) | exact ros_at 0 rfl p d | exact ros_at 1 rfl p d | exact ros_at 2 rfl p d | exact ros_at 3 rfl p d | exact ros_at 4 rfl p d) (by first | assumption | omega) (by first | assumption | omega)) (fun r => ?_)
        refine WL.ex (fun u0 => ?_)
        refine WL.pure (fun er => ?_)
        subst er
        refine WL.fact (i := 0) rfl (fun h hb => Buf.slm hb) (fun hsl0 => ?_)
        refine WL.mv rfl rfl ?_
        refine WL.extL rfl rfl rfl ?_
        refine WL.extL rfl rfl rfl ?_
        refine WL.as rfl rfl ?_
        refine WL.as rfl rfl ?_
        refine WL.nil ?_
        refine W.seq ?_
        refine W.seq ?_
        refine W.region ?_
        refine WL.mv rfl rfl ?_
        refine WL.len (T := Ty) rfl rfl (by assumption) rfl ?_
        refine WL.mv rfl rfl ?_
        refine WL.neq rfl rfl rfl ?_
        refine WL.mv rfl rfl ?_
        refine WL.gF rfl rfl (by omega) ?_
        refine WL.mv rfl rfl ?_
        refine WL.gF rfl rfl (by omega) ?_
        refine WL.not rfl rfl ?_
        refine WL.pickFp rfl rfl (by omega) rfl ?_
        refine WL.mv rfl rfl ?_
        refine WL.gdN rfl rfl rfl rfl rfl rfl ?_
        refine WL.gdN rfl rfl rfl rfl rfl rfl ?_
        refine WL.gdN rfl rfl rfl rfl rfl rfl ?_
        refine WL.gdN rfl rfl rfl rfl rfl rfl ?_
        refine WL.pickT rfl rfl rfl ?_
        refine WL.nil ?_
        refine W.condT rfl ?_
        refine W.seq ?_
        refine W.region ?_
        refine WL.as rfl rfl ?_
        refine WL.as rfl rfl ?_
        refine WL.nil ?_
        refine W.drop 0 rfl (by repeat' first | exact FL.nil | apply FL.cons) ?_
        refine W.drop 0 rfl (by repeat' first | exact FL.nil | apply FL.cons) ?_
        refine W.nb (sz := 1) ?_
        exact W.ret2 rfl rfl rfl (fun h p => rowNone hno p)
      · exact absurd (by omega) hlen
    | some w2 =>
      have hw2 := encS_len _ os w2 (Nat.le_refl _) he
      have hw2l : w2.length ≤ 17592186044416 := by omega
      by_cases hlen : os.length = heldS n
      · by_cases hww : w2 = ws
        · have hyes : decS ws n = some os := by rw [hd, if_pos ⟨hlen, by rw [he, hww]⟩]
          have hnn : ¬¬ w2 = ws := not_not_intro hww
          refine W.seq ?_
          refine W.seq ?_
          refine W.region ?_
          refine WL.mv rfl rfl ?_
          refine WL.mv rfl rfl ?_
          refine WL.len (T := Ty) rfl rfl (by assumption) rfl ?_
          refine WL.lss rfl rfl rfl ?_
          refine WL.mv rfl rfl ?_
          refine WL.gT rfl rfl (by omega) ?_
          refine WL.mv rfl rfl ?_
          refine WL.gT rfl rfl (by omega) ?_
          refine WL.len (T := Ty) rfl rfl (by assumption) rfl ?_
          refine WL.gT rfl rfl (by omega) ?_
          refine WL.mv rfl rfl ?_
          refine WL.gT rfl rfl (by omega) ?_
          refine WL.lss rfl rfl rfl ?_
          refine WL.pickTp rfl rfl (by omega) rfl ?_
          refine WL.nil ?_
          refine W.condpF rfl (by omega) ?_
          refine W.exit rfl ?_
          refine W.seq ?_
          refine W.region ?_
          refine WL.mv rfl rfl ?_
          refine WL.callF rfl rfl (fun x p d => rsimple_s _ _ _ (by assumption) (by first | assumption | exact ROs.wide (by assumption) | exact ROs.mono (by assumption) (eqh_at 0 rfl p d) | exact ros_at 0 rfl p d | exact ros_at 1 rfl p d | exact ros_at 2 rfl p d | exact ros_at 3 rfl p d | exact ros_at 4 rfl p d) (by first | assumption | omega) (by first | assumption | omega)) (fun r => ?_)
          refine WL.ex (fun u0 => ?_)
          refine WL.pure (fun er => ?_)
          subst er
          refine WL.fact (i := 0) rfl (fun h hb => Buf.slm hb) (fun hsl0 => ?_)
          refine WL.mv rfl rfl ?_
          refine WL.extL rfl rfl rfl ?_
          refine WL.extL rfl rfl rfl ?_
          refine WL.as rfl rfl ?_
          refine WL.as rfl rfl ?_
          refine WL.nil ?_
          refine W.seq ?_
          refine W.seq ?_
          refine W.region ?_
          refine WL.mv rfl rfl ?_
          refine WL.len (T := Ty) rfl rfl (by assumption) rfl ?_
          refine WL.mv rfl rfl ?_
          refine WL.neq rfl rfl rfl ?_
          refine WL.mv rfl rfl ?_
          refine WL.gF rfl rfl (by omega) ?_
          refine WL.mv rfl rfl ?_
          refine WL.gF rfl rfl (by omega) ?_
          refine WL.not rfl rfl ?_
          refine WL.pickFp rfl rfl (by omega) rfl ?_
          refine WL.mv rfl rfl ?_
          refine WL.gY rfl rfl ?_
          refine WL.mv rfl rfl ?_
          refine WL.gY rfl rfl ?_
          refine WL.mv rfl rfl ?_
          refine WL.gY rfl rfl ?_
          refine WL.callV rfl rfl (fun x p d => samew_c _ _ _ _ _ (by first | assumption | exact ROs.wide (by assumption) | exact ROs.mono (by assumption) (eqh_at 0 rfl p d) | exact ros_at 0 rfl p d | exact ros_at 1 rfl p d | exact ros_at 2 rfl p d | exact ros_at 3 rfl p d | exact ros_at 4 rfl p d) (by first | assumption | exact ROs.wide (by assumption) | exact ROs.mono (by assumption) (eqh_at 0 rfl p d) | exact ros_at 0 rfl p d | exact ros_at 1 rfl p d | exact ros_at 2 rfl p d | exact ros_at 3 rfl p d | exact ros_at 4 rfl p d) (by first | assumption | omega | exact Nat.zero_le _ | decide)) ?_
          refine WL.gY rfl rfl ?_
          refine WL.notp rfl rfl ?_
          refine WL.pickF rfl rfl rfl ?_
          refine WL.nil ?_
          refine W.condpF rfl (by omega) ?_
          refine W.skip ?_
          refine W.seq ?_
          refine W.region ?_
          refine WL.mv rfl rfl ?_
          refine WL.as rfl rfl ?_
          refine WL.as rfl rfl ?_
          refine WL.nil ?_
          refine W.drop 0 rfl (by repeat' first | exact FL.nil | apply FL.cons) ?_
          exact W.ret2 rfl rfl rfl (fun h p => rowSome hyes p)
        · have hno : decS ws n = none := by rw [hd, if_neg (fun c => by rw [he] at c; exact hww (Option.some.inj c.2))]
          refine W.seq ?_
          refine W.seq ?_
          refine W.region ?_
          refine WL.mv rfl rfl ?_
          refine WL.mv rfl rfl ?_
          refine WL.len (T := Ty) rfl rfl (by assumption) rfl ?_
          refine WL.lss rfl rfl rfl ?_
          refine WL.mv rfl rfl ?_
          refine WL.gT rfl rfl (by omega) ?_
          refine WL.mv rfl rfl ?_
          refine WL.gT rfl rfl (by omega) ?_
          refine WL.len (T := Ty) rfl rfl (by assumption) rfl ?_
          refine WL.gT rfl rfl (by omega) ?_
          refine WL.mv rfl rfl ?_
          refine WL.gT rfl rfl (by omega) ?_
          refine WL.lss rfl rfl rfl ?_
          refine WL.pickTp rfl rfl (by omega) rfl ?_
          refine WL.nil ?_
          refine W.condpF rfl (by omega) ?_
          refine W.exit rfl ?_
          refine W.seq ?_
          refine W.region ?_
          refine WL.mv rfl rfl ?_
          refine WL.callF rfl rfl (fun x p d => rsimple_s _ _ _ (by assumption) (by first | assumption | exact ROs.wide (by assumption) | exact ROs.mono (by assumption) (eqh_at 0 rfl p d) | exact ros_at 0 rfl p d | exact ros_at 1 rfl p d | exact ros_at 2 rfl p d | exact ros_at 3 rfl p d | exact ros_at 4 rfl p d) (by first | assumption | omega) (by first | assumption | omega)) (fun r => ?_)
          refine WL.ex (fun u0 => ?_)
          refine WL.pure (fun er => ?_)
          subst er
          refine WL.fact (i := 0) rfl (fun h hb => Buf.slm hb) (fun hsl0 => ?_)
          refine WL.mv rfl rfl ?_
          refine WL.extL rfl rfl rfl ?_
          refine WL.extL rfl rfl rfl ?_
          refine WL.as rfl rfl ?_
          refine WL.as rfl rfl ?_
          refine WL.nil ?_
          refine W.seq ?_
          refine W.seq ?_
          refine W.region ?_
          refine WL.mv rfl rfl ?_
          refine WL.len (T := Ty) rfl rfl (by assumption) rfl ?_
          refine WL.mv rfl rfl ?_
          refine WL.neq rfl rfl rfl ?_
          refine WL.mv rfl rfl ?_
          refine WL.gF rfl rfl (by omega) ?_
          refine WL.mv rfl rfl ?_
          refine WL.gF rfl rfl (by omega) ?_
          refine WL.not rfl rfl ?_
          refine WL.pickFp rfl rfl (by omega) rfl ?_
          refine WL.mv rfl rfl ?_
          refine WL.gY rfl rfl ?_
          refine WL.mv rfl rfl ?_
          refine WL.gY rfl rfl ?_
          refine WL.mv rfl rfl ?_
          refine WL.gY rfl rfl ?_
          refine WL.callV rfl rfl (fun x p d => samew_c _ _ _ _ _ (by first | assumption | exact ROs.wide (by assumption) | exact ROs.mono (by assumption) (eqh_at 0 rfl p d) | exact ros_at 0 rfl p d | exact ros_at 1 rfl p d | exact ros_at 2 rfl p d | exact ros_at 3 rfl p d | exact ros_at 4 rfl p d) (by first | assumption | exact ROs.wide (by assumption) | exact ROs.mono (by assumption) (eqh_at 0 rfl p d) | exact ros_at 0 rfl p d | exact ros_at 1 rfl p d | exact ros_at 2 rfl p d | exact ros_at 3 rfl p d | exact ros_at 4 rfl p d) (by first | assumption | omega | exact Nat.zero_le _ | decide)) ?_
          refine WL.gY rfl rfl ?_
          refine WL.notp rfl rfl ?_
          refine WL.pickF rfl rfl rfl ?_
          refine WL.nil ?_
          refine W.condpT rfl (by omega) ?_
          refine W.seq ?_
          refine W.region ?_
          refine WL.as rfl rfl ?_
          refine WL.as rfl rfl ?_
          refine WL.nil ?_
          refine W.drop 0 rfl (by repeat' first | exact FL.nil | apply FL.cons) ?_
          refine W.drop 0 rfl (by repeat' first | exact FL.nil | apply FL.cons) ?_
          refine W.nb (sz := 1) ?_
          exact W.ret2 rfl rfl rfl (fun h p => rowNone hno p)
      · exact absurd (by omega) hlen
  · have hd := decS_G ws n
    have hos : decGF ws (heldS n) [] = os := by rw [← h2, List.drop_of_length_le (by omega), decGF]
    rw [hos] at hd
    cases he : encS os with
    | none =>
      have hno : decS ws n = none := by rw [hd, if_neg (fun c => by rw [he] at c; cases c.2)]
      by_cases hlen : os.length = heldS n
      · refine W.seq ?_
        refine W.seq ?_
        refine W.region ?_
        refine WL.mv rfl rfl ?_
        refine WL.mv rfl rfl ?_
        refine WL.len (T := Ty) rfl rfl (by assumption) rfl ?_
        refine WL.lss rfl rfl rfl ?_
        refine WL.mv rfl rfl ?_
        refine WL.gdTn rfl rfl rfl rfl rfl (by omega) ?_
        refine WL.gdTn rfl rfl rfl rfl rfl (by omega) ?_
        refine WL.gdTn rfl rfl rfl rfl rfl (by omega) ?_
        refine WL.gdTn rfl rfl rfl rfl rfl (by omega) ?_
        refine WL.pickFp rfl rfl (by omega) rfl ?_
        refine WL.nil ?_
        refine W.condF rfl ?_
        refine W.exit rfl ?_
        refine W.seq ?_
        refine W.region ?_
        refine WL.mv rfl rfl ?_
        refine WL.callF rfl rfl (fun x p d => rsimple_n _ _ _ (by assumption) (by first | assumption | exact ROs.wide (by assumption) | exact ROs.mono (by assumption) (eqh_at 0 rfl p d) | exact ros_at 0 rfl p d | exact ros_at 1 rfl p d | exact ros_at 2 rfl p d | exact ros_at 3 rfl p d | exact ros_at 4 rfl p d) (by first | assumption | omega) (by first | assumption | omega)) (fun r => ?_)
        refine WL.ex (fun u0 => ?_)
        refine WL.pure (fun er => ?_)
        subst er
        refine WL.fact (i := 0) rfl (fun h hb => Buf.slm hb) (fun hsl0 => ?_)
        refine WL.mv rfl rfl ?_
        refine WL.extL rfl rfl rfl ?_
        refine WL.extL rfl rfl rfl ?_
        refine WL.as rfl rfl ?_
        refine WL.as rfl rfl ?_
        refine WL.nil ?_
        refine W.seq ?_
        refine W.seq ?_
        refine W.region ?_
        refine WL.mv rfl rfl ?_
        refine WL.len (T := Ty) rfl rfl (by assumption) rfl ?_
        refine WL.mv rfl rfl ?_
        refine WL.neq rfl rfl rfl ?_
        refine WL.mv rfl rfl ?_
        refine WL.gF rfl rfl (by omega) ?_
        refine WL.mv rfl rfl ?_
        refine WL.gF rfl rfl (by omega) ?_
        refine WL.not rfl rfl ?_
        refine WL.pickFp rfl rfl (by omega) rfl ?_
        refine WL.mv rfl rfl ?_
        refine WL.gdN rfl rfl rfl rfl rfl rfl ?_
        refine WL.gdN rfl rfl rfl rfl rfl rfl ?_
        refine WL.gdN rfl rfl rfl rfl rfl rfl ?_
        refine WL.gdN rfl rfl rfl rfl rfl rfl ?_
        refine WL.pickT rfl rfl rfl ?_
        refine WL.nil ?_
        refine W.condT rfl ?_
        refine W.seq ?_
        refine W.region ?_
        refine WL.as rfl rfl ?_
        refine WL.as rfl rfl ?_
        refine WL.nil ?_
        refine W.drop 0 rfl (by repeat' first | exact FL.nil | apply FL.cons) ?_
        refine W.drop 0 rfl (by repeat' first | exact FL.nil | apply FL.cons) ?_
        refine W.nb (sz := 1) ?_
        exact W.ret2 rfl rfl rfl (fun h p => rowNone hno p)
      · refine W.seq ?_
        refine W.seq ?_
        refine W.region ?_
        refine WL.mv rfl rfl ?_
        refine WL.mv rfl rfl ?_
        refine WL.len (T := Ty) rfl rfl (by assumption) rfl ?_
        refine WL.lss rfl rfl rfl ?_
        refine WL.mv rfl rfl ?_
        refine WL.gdTn rfl rfl rfl rfl rfl (by omega) ?_
        refine WL.gdTn rfl rfl rfl rfl rfl (by omega) ?_
        refine WL.gdTn rfl rfl rfl rfl rfl (by omega) ?_
        refine WL.gdTn rfl rfl rfl rfl rfl (by omega) ?_
        refine WL.pickFp rfl rfl (by omega) rfl ?_
        refine WL.nil ?_
        refine W.condF rfl ?_
        refine W.exit rfl ?_
        refine W.seq ?_
        refine W.region ?_
        refine WL.mv rfl rfl ?_
        refine WL.callF rfl rfl (fun x p d => rsimple_n _ _ _ (by assumption) (by first | assumption | exact ROs.wide (by assumption) | exact ROs.mono (by assumption) (eqh_at 0 rfl p d) | exact ros_at 0 rfl p d | exact ros_at 1 rfl p d | exact ros_at 2 rfl p d | exact ros_at 3 rfl p d | exact ros_at 4 rfl p d) (by first | assumption | omega) (by first | assumption | omega)) (fun r => ?_)
        refine WL.ex (fun u0 => ?_)
        refine WL.pure (fun er => ?_)
        subst er
        refine WL.fact (i := 0) rfl (fun h hb => Buf.slm hb) (fun hsl0 => ?_)
        refine WL.mv rfl rfl ?_
        refine WL.extL rfl rfl rfl ?_
        refine WL.extL rfl rfl rfl ?_
        refine WL.as rfl rfl ?_
        refine WL.as rfl rfl ?_
        refine WL.nil ?_
        refine W.seq ?_
        refine W.seq ?_
        refine W.region ?_
        refine WL.mv rfl rfl ?_
        refine WL.len (T := Ty) rfl rfl (by assumption) rfl ?_
        refine WL.mv rfl rfl ?_
        refine WL.neq rfl rfl rfl ?_
        refine WL.mv rfl rfl ?_
        refine WL.gdFn rfl rfl rfl rfl rfl (by omega) ?_
        refine WL.gdFn rfl rfl rfl rfl rfl (by omega) ?_
        refine WL.pickTp rfl rfl (by omega) rfl ?_
        refine WL.mv rfl rfl ?_
        refine WL.gdN rfl rfl rfl rfl rfl rfl ?_
        refine WL.gdN rfl rfl rfl rfl rfl rfl ?_
        refine WL.gdN rfl rfl rfl rfl rfl rfl ?_
        refine WL.gdN rfl rfl rfl rfl rfl rfl ?_
        refine WL.pickT rfl rfl rfl ?_
        refine WL.nil ?_
        refine W.condT rfl ?_
        refine W.seq ?_
        refine W.region ?_
        refine WL.as rfl rfl ?_
        refine WL.as rfl rfl ?_
        refine WL.nil ?_
        refine W.drop 0 rfl (by repeat' first | exact FL.nil | apply FL.cons) ?_
        refine W.drop 0 rfl (by repeat' first | exact FL.nil | apply FL.cons) ?_
        refine W.nb (sz := 1) ?_
        exact W.ret2 rfl rfl rfl (fun h p => rowNone hno p)
    | some w2 =>
      have hw2 := encS_len _ os w2 (Nat.le_refl _) he
      have hw2l : w2.length ≤ 17592186044416 := by omega
      by_cases hlen : os.length = heldS n
      · by_cases hww : w2 = ws
        · have hyes : decS ws n = some os := by rw [hd, if_pos ⟨hlen, by rw [he, hww]⟩]
          have hnn : ¬¬ w2 = ws := not_not_intro hww
          refine W.seq ?_
          refine W.seq ?_
          refine W.region ?_
          refine WL.mv rfl rfl ?_
          refine WL.mv rfl rfl ?_
          refine WL.len (T := Ty) rfl rfl (by assumption) rfl ?_
          refine WL.lss rfl rfl rfl ?_
          refine WL.mv rfl rfl ?_
          refine WL.gdTn rfl rfl rfl rfl rfl (by omega) ?_
          refine WL.gdTn rfl rfl rfl rfl rfl (by omega) ?_
          refine WL.gdTn rfl rfl rfl rfl rfl (by omega) ?_
          refine WL.gdTn rfl rfl rfl rfl rfl (by omega) ?_
          refine WL.pickFp rfl rfl (by omega) rfl ?_
          refine WL.nil ?_
          refine W.condF rfl ?_
          refine W.exit rfl ?_
          refine W.seq ?_
          refine W.region ?_
          refine WL.mv rfl rfl ?_
          refine WL.callF rfl rfl (fun x p d => rsimple_s _ _ _ (by assumption) (by first | assumption | exact ROs.wide (by assumption) | exact ROs.mono (by assumption) (eqh_at 0 rfl p d) | exact ros_at 0 rfl p d | exact ros_at 1 rfl p d | exact ros_at 2 rfl p d | exact ros_at 3 rfl p d | exact ros_at 4 rfl p d) (by first | assumption | omega) (by first | assumption | omega)) (fun r => ?_)
          refine WL.ex (fun u0 => ?_)
          refine WL.pure (fun er => ?_)
          subst er
          refine WL.fact (i := 0) rfl (fun h hb => Buf.slm hb) (fun hsl0 => ?_)
          refine WL.mv rfl rfl ?_
          refine WL.extL rfl rfl rfl ?_
          refine WL.extL rfl rfl rfl ?_
          refine WL.as rfl rfl ?_
          refine WL.as rfl rfl ?_
          refine WL.nil ?_
          refine W.seq ?_
          refine W.seq ?_
          refine W.region ?_
          refine WL.mv rfl rfl ?_
          refine WL.len (T := Ty) rfl rfl (by assumption) rfl ?_
          refine WL.mv rfl rfl ?_
          refine WL.neq rfl rfl rfl ?_
          refine WL.mv rfl rfl ?_
          refine WL.gF rfl rfl (by omega) ?_
          refine WL.mv rfl rfl ?_
          refine WL.gF rfl rfl (by omega) ?_
          refine WL.not rfl rfl ?_
          refine WL.pickFp rfl rfl (by omega) rfl ?_
          refine WL.mv rfl rfl ?_
          refine WL.gY rfl rfl ?_
          refine WL.mv rfl rfl ?_
          refine WL.gY rfl rfl ?_
          refine WL.mv rfl rfl ?_
          refine WL.gY rfl rfl ?_
          refine WL.callV rfl rfl (fun x p d => samew_c _ _ _ _ _ (by first | assumption | exact ROs.wide (by assumption) | exact ROs.mono (by assumption) (eqh_at 0 rfl p d) | exact ros_at 0 rfl p d | exact ros_at 1 rfl p d | exact ros_at 2 rfl p d | exact ros_at 3 rfl p d | exact ros_at 4 rfl p d) (by first | assumption | exact ROs.wide (by assumption) | exact ROs.mono (by assumption) (eqh_at 0 rfl p d) | exact ros_at 0 rfl p d | exact ros_at 1 rfl p d | exact ros_at 2 rfl p d | exact ros_at 3 rfl p d | exact ros_at 4 rfl p d) (by first | assumption | omega | exact Nat.zero_le _ | decide)) ?_
          refine WL.gY rfl rfl ?_
          refine WL.notp rfl rfl ?_
          refine WL.pickF rfl rfl rfl ?_
          refine WL.nil ?_
          refine W.condpF rfl (by omega) ?_
          refine W.skip ?_
          refine W.seq ?_
          refine W.region ?_
          refine WL.mv rfl rfl ?_
          refine WL.as rfl rfl ?_
          refine WL.as rfl rfl ?_
          refine WL.nil ?_
          refine W.drop 0 rfl (by repeat' first | exact FL.nil | apply FL.cons) ?_
          exact W.ret2 rfl rfl rfl (fun h p => rowSome hyes p)
        · have hno : decS ws n = none := by rw [hd, if_neg (fun c => by rw [he] at c; exact hww (Option.some.inj c.2))]
          refine W.seq ?_
          refine W.seq ?_
          refine W.region ?_
          refine WL.mv rfl rfl ?_
          refine WL.mv rfl rfl ?_
          refine WL.len (T := Ty) rfl rfl (by assumption) rfl ?_
          refine WL.lss rfl rfl rfl ?_
          refine WL.mv rfl rfl ?_
          refine WL.gdTn rfl rfl rfl rfl rfl (by omega) ?_
          refine WL.gdTn rfl rfl rfl rfl rfl (by omega) ?_
          refine WL.gdTn rfl rfl rfl rfl rfl (by omega) ?_
          refine WL.gdTn rfl rfl rfl rfl rfl (by omega) ?_
          refine WL.pickFp rfl rfl (by omega) rfl ?_
          refine WL.nil ?_
          refine W.condF rfl ?_
          refine W.exit rfl ?_
          refine W.seq ?_
          refine W.region ?_
          refine WL.mv rfl rfl ?_
          refine WL.callF rfl rfl (fun x p d => rsimple_s _ _ _ (by assumption) (by first | assumption | exact ROs.wide (by assumption) | exact ROs.mono (by assumption) (eqh_at 0 rfl p d) | exact ros_at 0 rfl p d | exact ros_at 1 rfl p d | exact ros_at 2 rfl p d | exact ros_at 3 rfl p d | exact ros_at 4 rfl p d) (by first | assumption | omega) (by first | assumption | omega)) (fun r => ?_)
          refine WL.ex (fun u0 => ?_)
          refine WL.pure (fun er => ?_)
          subst er
          refine WL.fact (i := 0) rfl (fun h hb => Buf.slm hb) (fun hsl0 => ?_)
          refine WL.mv rfl rfl ?_
          refine WL.extL rfl rfl rfl ?_
          refine WL.extL rfl rfl rfl ?_
          refine WL.as rfl rfl ?_
          refine WL.as rfl rfl ?_
          refine WL.nil ?_
          refine W.seq ?_
          refine W.seq ?_
          refine W.region ?_
          refine WL.mv rfl rfl ?_
          refine WL.len (T := Ty) rfl rfl (by assumption) rfl ?_
          refine WL.mv rfl rfl ?_
          refine WL.neq rfl rfl rfl ?_
          refine WL.mv rfl rfl ?_
          refine WL.gF rfl rfl (by omega) ?_
          refine WL.mv rfl rfl ?_
          refine WL.gF rfl rfl (by omega) ?_
          refine WL.not rfl rfl ?_
          refine WL.pickFp rfl rfl (by omega) rfl ?_
          refine WL.mv rfl rfl ?_
          refine WL.gY rfl rfl ?_
          refine WL.mv rfl rfl ?_
          refine WL.gY rfl rfl ?_
          refine WL.mv rfl rfl ?_
          refine WL.gY rfl rfl ?_
          refine WL.callV rfl rfl (fun x p d => samew_c _ _ _ _ _ (by first | assumption | exact ROs.wide (by assumption) | exact ROs.mono (by assumption) (eqh_at 0 rfl p d) | exact ros_at 0 rfl p d | exact ros_at 1 rfl p d | exact ros_at 2 rfl p d | exact ros_at 3 rfl p d | exact ros_at 4 rfl p d) (by first | assumption | exact ROs.wide (by assumption) | exact ROs.mono (by assumption) (eqh_at 0 rfl p d) | exact ros_at 0 rfl p d | exact ros_at 1 rfl p d | exact ros_at 2 rfl p d | exact ros_at 3 rfl p d | exact ros_at 4 rfl p d) (by first | assumption | omega | exact Nat.zero_le _ | decide)) ?_
          refine WL.gY rfl rfl ?_
          refine WL.notp rfl rfl ?_
          refine WL.pickF rfl rfl rfl ?_
          refine WL.nil ?_
          refine W.condpT rfl (by omega) ?_
          refine W.seq ?_
          refine W.region ?_
          refine WL.as rfl rfl ?_
          refine WL.as rfl rfl ?_
          refine WL.nil ?_
          refine W.drop 0 rfl (by repeat' first | exact FL.nil | apply FL.cons) ?_
          refine W.drop 0 rfl (by repeat' first | exact FL.nil | apply FL.cons) ?_
          refine W.nb (sz := 1) ?_
          exact W.ret2 rfl rfl rfl (fun h p => rowNone hno p)
      · have hno : decS ws n = none := by rw [hd, if_neg (fun c => hlen c.1)]
        refine W.seq ?_
        refine W.seq ?_
        refine W.region ?_
        refine WL.mv rfl rfl ?_
        refine WL.mv rfl rfl ?_
        refine WL.len (T := Ty) rfl rfl (by assumption) rfl ?_
        refine WL.lss rfl rfl rfl ?_
        refine WL.mv rfl rfl ?_
        refine WL.gdTn rfl rfl rfl rfl rfl (by omega) ?_
        refine WL.gdTn rfl rfl rfl rfl rfl (by omega) ?_
        refine WL.gdTn rfl rfl rfl rfl rfl (by omega) ?_
        refine WL.gdTn rfl rfl rfl rfl rfl (by omega) ?_
        refine WL.pickFp rfl rfl (by omega) rfl ?_
        refine WL.nil ?_
        refine W.condF rfl ?_
        refine W.exit rfl ?_
        refine W.seq ?_
        refine W.region ?_
        refine WL.mv rfl rfl ?_
        refine WL.callF rfl rfl (fun x p d => rsimple_s _ _ _ (by assumption) (by first | assumption | exact ROs.wide (by assumption) | exact ROs.mono (by assumption) (eqh_at 0 rfl p d) | exact ros_at 0 rfl p d | exact ros_at 1 rfl p d | exact ros_at 2 rfl p d | exact ros_at 3 rfl p d | exact ros_at 4 rfl p d) (by first | assumption | omega) (by first | assumption | omega)) (fun r => ?_)
        refine WL.ex (fun u0 => ?_)
        refine WL.pure (fun er => ?_)
        subst er
        refine WL.fact (i := 0) rfl (fun h hb => Buf.slm hb) (fun hsl0 => ?_)
        refine WL.mv rfl rfl ?_
        refine WL.extL rfl rfl rfl ?_
        refine WL.extL rfl rfl rfl ?_
        refine WL.as rfl rfl ?_
        refine WL.as rfl rfl ?_
        refine WL.nil ?_
        refine W.seq ?_
        refine W.seq ?_
        refine W.region ?_
        refine WL.mv rfl rfl ?_
        refine WL.len (T := Ty) rfl rfl (by assumption) rfl ?_
        refine WL.mv rfl rfl ?_
        refine WL.neq rfl rfl rfl ?_
        refine WL.mv rfl rfl ?_
        refine WL.gdFn rfl rfl rfl rfl rfl (by omega) ?_
        refine WL.gdFn rfl rfl rfl rfl rfl (by omega) ?_
        refine WL.pickTp rfl rfl (by omega) rfl ?_
        refine WL.mv rfl rfl ?_
        refine WL.gdN rfl rfl rfl rfl rfl rfl ?_
        refine WL.gdN rfl rfl rfl rfl rfl rfl ?_
        refine WL.gdN rfl rfl rfl rfl rfl rfl ?_
        refine WL.gdN rfl rfl rfl rfl rfl rfl ?_
        refine WL.pickT rfl rfl rfl ?_
        refine WL.nil ?_
        refine W.condT rfl ?_
        refine W.seq ?_
        refine W.region ?_
        refine WL.as rfl rfl ?_
        refine WL.as rfl rfl ?_
        refine WL.nil ?_
        refine W.drop 0 rfl (by repeat' first | exact FL.nil | apply FL.cons) ?_
        refine W.drop 0 rfl (by repeat' first | exact FL.nil | apply FL.cons) ?_
        refine W.nb (sz := 1) ?_
        exact W.ret2 rfl rfl rfl (fun h p => rowNone hno p)
end Go.Proofs.Ytlmhjkbbooghfaa
