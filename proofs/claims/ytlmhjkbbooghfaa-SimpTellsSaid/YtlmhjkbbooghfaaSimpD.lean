/- Small numbers, many to a word: what simp.Decode does. -/
import Derived.Test.YtlmhjkbbooghfaaStc
import Derived.Test.YtlmhjkbbooghfaaNum
import Derived.Test.YtlmhjkbbooghfaaTab
import Derived.Test.YtlmhjkbbooghfaaSimpC
set_option linter.unusedSimpArgs false
set_option linter.unusedVariables false
set_option maxRecDepth 20000
set_option maxHeartbeats 4000000
namespace Go.Proofs.Ytlmhjkbbooghfaa
open Go
attribute [local irreducible] W WL Fn Buf ROs SL eptr box Rd Src bndOK WD RB Reads In encS decS decSF bits

theorem senc_s (ρ : Hp) (v : Value) (us : List Nat) {ws : List Nat} (e : encS us = some ws) (hv : ROs ρ 1 v (us.map ucell)) (hw : ∀ x ∈ us, x < 18446744073709551616) (hl : us.length ≤ 17592186044416) :
    Fn Try.prog 30 #[v] ρ [] (fun r h => ∃ u, r = .tuple #[u, .bool true] ∧ Buf 1 u (ws.map ucell) h) := by
  have := senc_c ρ v us hv hw hl
  rw [e] at this
  exact this
theorem senc_n (ρ : Hp) (v : Value) (us : List Nat) (e : encS us = none) (hv : ROs ρ 1 v (us.map ucell)) (hw : ∀ x ∈ us, x < 18446744073709551616) (hl : us.length ≤ 17592186044416) :
    Fn Try.prog 30 #[v] ρ [] (fun r h => ∃ u, r = .tuple #[u, .bool false] ∧ Buf 1 u (([] : List Nat).map ucell) h) := by
  have := senc_c ρ v us hv hw hl
  rw [e] at this
  exact this
theorem heldS_eq (n : Int) : (min (max n 0) 65535 : Int) = ((heldS n : Nat) : Int) := by unfold heldS; omega
theorem heldS_le (n : Int) : heldS n ≤ 65535 := by unfold heldS; omega
theorem unpackW_snoc (b : Nat) : ∀ (k w : Nat), unpackW b (k + 1) w = unpackW b k w ++ [w / 2 ^ (b * k) % 2 ^ b]
  | 0, w => by simp [unpackW]
  | k + 1, w => by
    rw [unpackW, unpackW_snoc b k (w / 2 ^ b), unpackW, List.cons_append, Nat.div_div_eq_div_mul, ← Nat.pow_add, Nat.mul_succ, Nat.add_comm (b * k)]
/-- a number out of a word -/
theorem word_and (y b s : Nat) (hy : y < 2 ^ 60) (hb : b ≤ 60) : bits .and .u64 ((y : Int) / 2 ^ s) (IntKind.u64.wrap (IntKind.u64.wrap (1 * 2 ^ b) - 1)) = ((y / 2 ^ s % 2 ^ b : Nat) : Int) := by
  have h60 : (2 : Nat) ^ 60 = 1152921504606846976 := by decide
  have hp : 2 ^ b ≤ 2 ^ 60 := Nat.pow_le_pow_right (by decide) hb
  have hp0 : 0 < 2 ^ b := Nat.pow_pos (by decide)
  have e1 : (1 * 2 ^ b : Int) = ((2 ^ b : Nat) : Int) := by push_cast; rw [Int.one_mul]
  have e2 : ((y : Int) / 2 ^ s) = ((y / 2 ^ s : Nat) : Int) := by push_cast; rfl
  have hd : y / 2 ^ s ≤ y := Nat.div_le_self _ _
  rw [e1, wrapU64, Nat.mod_eq_of_lt (by omega), e2, show ((2 ^ b : Nat) : Int) - 1 = ((2 ^ b - 1 : Nat) : Int) by omega, wrapU64, Nat.mod_eq_of_lt (by omega),
    bits_and rfl (by show _ < 18446744073709551616; omega) (by show _ < 18446744073709551616; omega), Nat.and_two_pow_sub_one_eq_mod]
theorem decSF_len : ∀ (ws : List Nat) (m : Nat) (out r : List Nat), decSF ws m out = some r → r.length = m
  | [], m, out, r, h => by
    unfold decSF at h
    split at h
    · rename_i he; rw [← Option.some.inj h]; exact he
    · cases h
  | w :: ws, m, out, r, h => by
    unfold decSF at h
    split at h
    · cases h
    · exact decSF_len ws m _ r h
theorem unpackW_lt (b : Nat) (hb : b ≤ 60) : ∀ (k w : Nat), ∀ x ∈ unpackW b k w, x < 18446744073709551616
  | 0, _, x, h => by simp [unpackW] at h
  | k + 1, w, x, h => by
    rw [unpackW] at h
    rcases List.mem_cons.1 h with rfl | h
    · have h1 : w % 2 ^ b < 2 ^ b := Nat.mod_lt _ (Nat.pow_pos (by decide))
      have hp : 2 ^ b ≤ 2 ^ 60 := Nat.pow_le_pow_right (by decide) hb
      have h60 : (2 : Nat) ^ 60 = 1152921504606846976 := by decide
      omega
    · exact unpackW_lt b hb k _ x h
theorem encS_len : ∀ (n : Nat) (u ws : List Nat), u.length ≤ n → encS u = some ws → ws.length ≤ u.length
  | _, [], ws, _, h => by
    rw [encS_nil] at h
    rw [← Option.some.inj h]; exact Nat.le_refl _
  | 0, x :: l, _, h, _ => by simp at h
  | n + 1, x :: l, ws, hn, h => by
    rw [encS_cons] at h
    cases hk : kindS (x :: l) 16 0 with
    | none => rw [hk] at h; cases h
    | some i =>
      rw [hk] at h
      simp only [] at h
      have hi := kindS_some hk
      have hf := kind_facts ⟨i, by omega⟩
      simp only [] at hf
      cases he : encS ((x :: l).drop (cntS i)) with
      | none => rw [he] at h; cases h
      | some vs =>
        rw [he] at h
        have := encS_len n _ vs (by simp at hn ⊢; omega) he
        rw [← Option.some.inj h]
        simp at this ⊢
        omega
theorem sdec_c (ρ : Hp) (v : Value) (ws : List Nat) (n : Int) (hv : ROs ρ 1 v (ws.map ucell)) (hw : ∀ x ∈ ws, x < 18446744073709551616) (hl : ws.length ≤ 17592186044416) :
    Fn Try.prog 32 #[v, .int .i64 n] ρ [] (RowR (decS ws n)) := by
  refine in32 rfl rfl ?_
  have hs := hv.slm
  have hm := heldS_eq n
  have hml := heldS_le n
  refine W.seq ?_
  refine W.region ?_
  refine WL.as rfl rfl ?_
  refine WL.as rfl rfl ?_
  refine WL.nil ?_
  refine W.seq ?_
  refine W.region ?_
  refine WL.mv rfl rfl ?_
  refine WL.mx rfl rfl rfl ?_
  refine WL.mn rfl rfl rfl ?_
  refine WL.as rfl rfl ?_
  refine WL.nil ?_
  refine W.seq ?_
  refine W.region ?_
  refine WL.callF rfl rfl (fun x p d => kinds_c _) (fun u0 => ?_)
  refine WL.fact (i := 0) rfl (fun h hb => hb.sl (n := 16) rfl (by omega)) (fun hsl0 => ?_)
  refine WL.as rfl rfl ?_
  refine WL.nil ?_
  refine W.seq ?_
  refine W.region ?_
  refine WL.as rfl rfl ?_
  refine WL.nil ?_
  refine W.seq ?_
  refine W.seq ?_
  refine W.region ?_
  refine WL.mv rfl rfl ?_
  refine WL.len (T := Ty) rfl rfl (by assumption) rfl ?_
  refine WL.mv rfl rfl ?_
  refine WL.nil ?_
  refine W.block ?_
  rw [hm]
  refine W.nb (sz := 1) ?_
  refine W.loopS (σ := Nat × Value × List Nat) (fun s => [(0, v), (1, .int .i64 ((heldS n : Nat) : Int)), (6, u0), (7, s.2.1), (18, v), (19, .int .i64 (ws.length : Int)), (20, .int .i64 (s.1 : Int))]) (fun s => [Buf 1 s.2.1 (s.2.2.map ucell), Buf 2 u0 kCells])
    (fun s => s.1 ≤ ws.length ∧ decSF (ws.drop s.1) (heldS n) s.2.2 = decSF ws (heldS n) [] ∧ s.2.2.length ≤ heldS n ∧ ∀ x ∈ s.2.2, x < 18446744073709551616) (fun s => ws.length - s.1) (0, .slice none 0 0, []) ⟨rfl, rfl, rfl, rfl, rfl, rfl, rfl, trivial⟩ rfl ⟨Nat.zero_le _, rfl, Nat.zero_le _, by simp⟩ ?_
  rintro ⟨a, o, os⟩ ⟨h1, h2, h3, h4⟩ next
  simp only [] at h1 h2 h3 h4 next ⊢
  refine W.fact (i := 0) rfl (fun h hb => Buf.slm hb) (fun hso => ?_)
  by_cases hlt : a < ws.length
  · obtain ⟨x, hx⟩ : ∃ x, ws[a]? = some x := ⟨_, List.getElem?_eq_getElem hlt⟩
    have hx1 : (ws.map ucell)[a]? = some (ucell x) := by rw [List.getElem?_map, hx]; rfl
    have hx64 := hw x (List.mem_of_getElem? hx)
    have hdrop : ws.drop a = x :: ws.drop (a + 1) := by
      rw [List.drop_eq_getElem_cons hlt]
      congr 1
      rw [List.getElem?_eq_getElem hlt] at hx
      exact Option.some.inj hx
    rw [hdrop, decSF] at h2
    by_cases hge : heldS n ≤ os.length
    · rw [if_pos hge] at h2
      have hno : decS ws n = none := by unfold decS; rw [← h2]; rfl
      refine W.seq ?_
      refine W.region ?_
      refine WL.lss rfl rfl rfl ?_
      refine WL.nil ?_
      refine W.seq ?_
      refine W.condpT rfl (by omega) ?_
      refine W.skip ?_
      refine W.seq ?_
      refine W.block ?_
      refine W.seq ?_
      refine W.region ?_
      refine WL.ix (T := Ty) rfl rfl rfl (by assumption) rfl rfl (by omega) (by first | omega | decide +kernel) ?_
      refine WL.ldKn (T := Ty) rfl rfl rfl rfl (by first | assumption | exact ROs.wide (by assumption)) (by assumption) ?_
      refine WL.as rfl rfl ?_
      refine WL.nil ?_
      refine W.seq ?_
      refine W.seq ?_
      refine W.region ?_
      refine WL.mv rfl rfl ?_
      refine WL.len (T := Ty) rfl rfl (by assumption) rfl ?_
      refine WL.mv rfl rfl ?_
      refine WL.geq rfl rfl rfl ?_
      refine WL.nil ?_
      refine W.condpT rfl (by omega) ?_
      refine W.seq ?_
      refine W.region ?_
      refine WL.as rfl rfl ?_
      refine WL.as rfl rfl ?_
      refine WL.nil ?_
      refine W.drop 0 rfl (by repeat' first | exact FL.nil | apply FL.cons) ?_
      refine W.drop 0 rfl (by repeat' first | exact FL.nil | apply FL.cons) ?_
      refine W.nb (sz := 1) ?_
      exact W.ret2 rfl rfl rfl (fun h p => rowNone hno p)
    · rw [if_neg hge] at h2
      obtain ⟨q, hq⟩ : ∃ q, q = x / 2 ^ 60 := ⟨_, rfl⟩
      obtain ⟨y, hy⟩ : ∃ y, y = x % 2 ^ 60 := ⟨_, rfl⟩
      rw [← hq, ← hy] at h2
      have h60 : (2 : Nat) ^ 60 = 1152921504606846976 := by decide
      rw [h60] at hq hy
      have hi16 : q < 16 := by omega
      have hkf := kind_facts ⟨q, hi16⟩
      simp only [] at hkf
      have hrow := kRow q hi16
      have et : ((x : Int) / 1152921504606846976) = ((q : Nat) : Int) := by omega
      have ey : ((x : Int) % 1152921504606846976) = ((y : Nat) : Int) := by omega
      refine W.seq ?_
      refine W.region ?_
      refine WL.lss rfl rfl rfl ?_
      refine WL.nil ?_
      refine W.seq ?_
      refine W.condpT rfl (by omega) ?_
      refine W.skip ?_
      refine W.seq ?_
      refine W.block ?_
      refine W.seq ?_
      refine W.region ?_
      refine WL.ix (T := Ty) rfl rfl rfl (by assumption) rfl rfl (by omega) (by first | omega | decide +kernel) ?_
      refine WL.ldKn (T := Ty) rfl rfl rfl rfl (by first | assumption | exact ROs.wide (by assumption)) (by assumption) ?_
      refine WL.as rfl rfl ?_
      refine WL.nil ?_
      refine W.seq ?_
      refine W.seq ?_
      refine W.region ?_
      refine WL.mv rfl rfl ?_
      refine WL.len (T := Ty) rfl rfl (by assumption) rfl ?_
      refine WL.mv rfl rfl ?_
      refine WL.geq rfl rfl rfl ?_
      refine WL.nil ?_
      refine W.condpF rfl (by omega) ?_
      refine W.skip ?_
      refine W.seq ?_
      refine W.region ?_
      refine WL.mv rfl rfl ?_
      refine WL.mv rfl rfl ?_
      refine WL.shrS (c := 1152921504606846976) rfl rfl rfl (by omega) (by decide) ?_
      refine WL.ix (T := Ty) rfl rfl rfl (by assumption) rfl rfl (by omega) (by first | omega | decide +kernel) ?_
      rw [et]
      refine WL.ldAE (T := Ty) (j := 1) (vs := [.int .i64 (cntS q : Int), .int .i64 (bitS q : Int)]) rfl rfl rfl rfl rfl hrow rfl ?_
      refine WL.alF (T := Ty) rfl rfl (by repeat' first | exact FL.nil | apply FL.cons) (fun b1 => ?_)
      refine WL.stAO (T := Ty) (j := 0) rfl rfl rfl rfl (by repeat' first | exact AO.nil | apply AO.cons (by first | rfl | exact SL.one (by assumption))) rfl rfl (by repeat' first | exact FL.nil | apply FL.cons) (by repeat' first | exact FL.nil | apply FL.cons) ?_
      refine WL.nil ?_
      refine W.seq ?_
      refine W.region ?_
      refine WL.mv rfl rfl ?_
      refine WL.andU rfl rfl rfl rfl (by decide) (by omega) (by simp only [IntKind.bits]; omega) ?_
      refine WL.as rfl rfl ?_
      refine WL.nil ?_
      refine W.seq ?_
      refine W.region ?_
      refine WL.as rfl rfl ?_
      refine WL.nil ?_
      refine W.block ?_
      have ey2 : ((x : Int) % (1152921504606846975 + 1)) = ((y : Nat) : Int) := by omega
      rw [ey2]
      obtain ⟨K, hK⟩ : ∃ K, K = min (cntS q) (heldS n - os.length) := ⟨_, rfl⟩
      rw [← hK] at h2
      have hKc : K ≤ cntS q := by omega
      refine W.loopS (σ := Nat × Value) (fun s => [(0, v), (1, .int .i64 ((heldS n : Nat) : Int)), (6, u0), (7, s.2), (9, .int .u64 (y : Int)), (10, .pointer (some { block := b1, off := 0 })), (11, .int .i64 (s.1 : Int)), (18, v), (19, .int .i64 (ws.length : Int)), (20, .int .i64 (a : Int))])
        (fun s => [box b1 [.int .i64 (cntS q : Int), .int .i64 (bitS q : Int)] 114, Buf 1 s.2 ((os ++ unpackW (bitS q) s.1 y).map ucell), Buf 2 u0 kCells]) (fun s => s.1 ≤ K) (fun s => K - s.1) (0, o) ⟨rfl, rfl, rfl, rfl, rfl, rfl, rfl, rfl, rfl, rfl, trivial⟩ (by simp [unpackW]) (Nat.zero_le _) ?_
      rintro ⟨j, oo⟩ hj next2
      simp only [] at hj next2 ⊢
      have hol : (os ++ unpackW (bitS q) j y).length = os.length + j := by rw [List.length_append, unpackW_len]
      refine W.fact (i := 1) rfl (fun h hb => Buf.slm hb) (fun hso2 => ?_)
      rw [hol] at hso2
      by_cases hjk : j < K
      · have hm := mul_le60 j hi16 hjk hKc
        have hm0 : (0 : Int) ≤ (j : Int) * (bitS q : Int) := by rw [hm.1]; omega
        have hm1 : (j : Int) * (bitS q : Int) ≤ 60 := by rw [hm.1]; omega
        have e1 : min ((j : Int) * (bitS q : Int)).toNat IntKind.u64.bits = bitS q * j := by
          rw [hm.1, Int.toNat_natCast, Nat.mul_comm (bitS q) j]
          exact Nat.min_eq_left (by show _ ≤ 64; omega)
        have hand := word_and y (bitS q) (bitS q * j) (by omega) (by omega)
        have e2 : min ((bitS q : Nat) : Int).toNat IntKind.u64.bits = bitS q := by
          rw [Int.toNat_natCast]
          exact Nat.min_eq_left (by show _ ≤ 64; omega)
        refine W.seq ?_
        refine W.seq ?_
        refine W.region ?_
        refine WL.mv rfl rfl ?_
        refine WL.faN (T := Ty) (off' := 0) rfl rfl rfl rfl rfl rfl rfl ?_
        refine WL.ldN (T := Ty) (j := 0) rfl rfl rfl rfl rfl rfl ?_
        refine WL.lss rfl rfl rfl ?_
        refine WL.mv rfl rfl ?_
        refine WL.gT rfl rfl (by omega) ?_
        refine WL.mv rfl rfl ?_
        refine WL.gT rfl rfl (by omega) ?_
        refine WL.len (T := Ty) rfl rfl (by assumption) rfl ?_
        refine WL.gT rfl rfl (by omega) ?_
        refine WL.mv rfl rfl ?_
        refine WL.gT rfl rfl (by omega) ?_
        refine WL.lss rfl rfl rfl ?_
        refine WL.pickTp rfl rfl (by omega) rfl ?_
        refine WL.nil ?_
        refine W.condpT rfl (by omega) ?_
        refine W.skip ?_
        refine W.seq ?_
        refine W.block ?_
        refine W.drawP 14 [false, true, true] rfl (by repeat' first | exact FL.nil | apply FL.cons) (by repeat' first | exact FL.nil | apply FL.cons) (fun σ0 hσ0 dσ0 => ?_)
        have fσ0_0 := rb_at 0 rfl hσ0 dσ0
        refine WD.takeL 0 rfl (by decide +kernel) ?_
        refine WL.mv rfl rfl ?_
        refine WL.nilT ?_
        refine WD.takeL 1 rfl (by decide +kernel) ?_
        refine WL.mv rfl rfl ?_
        refine WL.nilT ?_
        refine WD.takeL 2 rfl (by decide +kernel) ?_
        refine WL.mv rfl rfl ?_
        refine WL.nilT ?_
        refine WD.takeL 3 rfl (by decide +kernel) ?_
        refine WL.faN (T := Ty) (off' := 1) rfl rfl rfl rfl rfl rfl rfl ?_
        refine WL.nilT ?_
        refine WD.takeL 4 rfl (by decide +kernel) ?_
        refine WL.ldBN (T := Ty) rfl rfl rfl rfl (by first | assumption | exact RB.wide (by assumption) | exact In.rb (by assumption)) rfl ?_
        refine WL.nilT ?_
        refine WD.takeL 5 rfl (by decide +kernel) ?_
        refine WL.mulK rfl rfl rfl (wrap_i64 ⟨by omega, by omega⟩) ?_
        refine WL.nilT ?_
        refine WD.takeL 6 rfl (by decide +kernel) ?_
        refine WL.shrS rfl rfl rfl (by omega) rfl ?_
        refine WL.nilT ?_
        refine WD.takeL 7 rfl (by decide +kernel) ?_
        refine WL.faN (T := Ty) (off' := 1) rfl rfl rfl rfl rfl rfl rfl ?_
        refine WL.nilT ?_
        refine WD.takeL 8 rfl (by decide +kernel) ?_
        refine WL.ldBN (T := Ty) rfl rfl rfl rfl (by first | assumption | exact RB.wide (by assumption) | exact In.rb (by assumption)) rfl ?_
        refine WL.nilT ?_
        refine WD.takeL 9 rfl (by decide +kernel) ?_
        refine WL.shlS rfl rfl rfl (by omega) rfl rfl ?_
        refine WL.nilT ?_
        refine WD.takeL 10 rfl (by decide +kernel) ?_
        refine WL.sub' (K := .u64) rfl rfl rfl ?_
        refine WL.nilT ?_
        refine WD.takeL 11 rfl (by decide +kernel) ?_
        refine WL.and rfl rfl rfl ?_
        refine WL.nilT ?_
        refine WD.oneL 12 rfl (by decide +kernel) ?_
        refine WL.bsC (T := Ty) rfl rfl rfl rfl rfl rfl rfl (by repeat' first | exact CO.nil | apply CO.one (by first | rfl | exact SL.one (by assumption)) | apply CO.agg) rfl (by repeat' first | exact FL.nil | apply FL.cons) (fun u2 hu2 => ?_)
        refine WL.nilH hσ0 (fun σ1 hσ1 dσ1 mσ1 => ?_)
        have fσ0_0 := fσ0_0.mono mσ1
        have fσ1_0 := ros_at 0 rfl hσ1 dσ1
        refine WD.oneL 13 rfl (by decide +kernel) ?_
        rw [e1, e2, hand] at fσ1_0 ⊢
        refine WL.apQ (T := Ty) (i := 1) rfl rfl rfl rfl rfl rfl rfl (by first | exact .ro (by assumption) | exact .ro (ROs.wide (by assumption)) | exact .eqJ 0 rfl (by assumption) | exact .own 0 rfl | exact .own 1 rfl | exact .own 2 rfl | exact .own 3 rfl | exact .own 4 rfl | exact .own 5 rfl) (by first | assumption | exact ROs.slm (by assumption)) (fun _ => rfl) (by first | omega | (simp; omega)) (by first | omega | (simp; omega)) (fun v' => (by repeat' first | exact FL.nil | apply FL.cons)) (fun u3 hu3 => ?_)
        refine WL.nilE ?_
        refine WD.lastG hσ1 (by decide +kernel) (by repeat' first | exact FL.nil | apply FL.cons) rfl (by repeat' first | exact FL.nil | apply FL.cons) ?_
        refine WL.as rfl rfl ?_
        refine WL.nil ?_
        refine W.inBlock ?_
        refine W.region ?_
        refine WL.mv rfl rfl ?_
        refine WL.addK rfl rfl rfl (wrap_i64 ⟨by omega, by omega⟩) ?_
        refine WL.as rfl rfl ?_
        refine WL.nil ?_
        refine W.drop 0 rfl (by repeat' first | exact FL.nil | apply FL.cons) ?_
        refine W.sub ?_ (W.hs (fun h p => ?_) (next2 ⟨j + 1, u3⟩ (by simp only []; omega) (by simp only []; omega)))
        · exact ⟨rfl, rfl, rfl, rfl, rfl, rfl, rfl, rfl, rfl, rfl, trivial⟩
        · rw [unpackW_snoc, ← List.append_assoc]
          exact p
      · have hjK : j = K := by omega
        by_cases hjc : j < cntS q
        · refine W.seq ?_
          refine W.seq ?_
          refine W.region ?_
          refine WL.mv rfl rfl ?_
          refine WL.faN (T := Ty) (off' := 0) rfl rfl rfl rfl rfl rfl rfl ?_
          refine WL.ldN (T := Ty) (j := 0) rfl rfl rfl rfl rfl rfl ?_
          refine WL.lss rfl rfl rfl ?_
          refine WL.mv rfl rfl ?_
          refine WL.gT rfl rfl (by omega) ?_
          refine WL.mv rfl rfl ?_
          refine WL.gT rfl rfl (by omega) ?_
          refine WL.len (T := Ty) rfl rfl (by assumption) rfl ?_
          refine WL.gT rfl rfl (by omega) ?_
          refine WL.mv rfl rfl ?_
          refine WL.gT rfl rfl (by omega) ?_
          refine WL.lss rfl rfl rfl ?_
          refine WL.pickTp rfl rfl (by omega) rfl ?_
          refine WL.nil ?_
          refine W.condpF rfl (by omega) ?_
          refine W.exit rfl ?_
          refine W.inBlock ?_
          refine W.region ?_
          refine WL.addK rfl rfl rfl (wrap_i64 ⟨by omega, by omega⟩) ?_
          refine WL.mv rfl rfl ?_
          refine WL.nil ?_
          refine W.drop 0 rfl (by repeat' first | exact FL.nil | apply FL.cons) ?_
          refine W.sub ?_ (W.hs (fun h p => ?_) (next ⟨a + 1, oo, os ++ unpackW (bitS q) K y⟩ ⟨by simp only []; omega, ?_, ?_, ?_⟩ (by simp only []; omega)))
          · exact ⟨rfl, rfl, rfl, rfl, rfl, rfl, rfl, trivial⟩
          · rw [← hjK]
            exact p
          · exact h2
          · show (os ++ unpackW (bitS q) K y).length ≤ heldS n
            rw [← hjK, hol]; omega
          · intro z hz
            rcases List.mem_append.1 hz with hz | hz
            · exact h4 z hz
            · exact unpackW_lt (bitS q) (by omega) _ _ z hz
        · refine W.seq ?_
          refine W.seq ?_
          refine W.region ?_
          refine WL.mv rfl rfl ?_
          refine WL.faN (T := Ty) (off' := 0) rfl rfl rfl rfl rfl rfl rfl ?_
          refine WL.ldN (T := Ty) (j := 0) rfl rfl rfl rfl rfl rfl ?_
          refine WL.lss rfl rfl rfl ?_
          refine WL.mv rfl rfl ?_
          refine WL.gdTn rfl rfl rfl rfl rfl (by omega) ?_
          refine WL.gdTn rfl rfl rfl rfl rfl (by omega) ?_
          refine WL.gdTn rfl rfl rfl rfl rfl (by omega) ?_
          refine WL.gdTn rfl rfl rfl rfl rfl (by omega) ?_
          refine WL.pickFp rfl rfl (by omega) rfl ?_
          refine WL.nil ?_
          refine W.condF rfl ?_
          refine W.exit rfl ?_
          refine W.inBlock ?_
          refine W.region ?_
          refine WL.addK rfl rfl rfl (wrap_i64 ⟨by omega, by omega⟩) ?_
          refine WL.mv rfl rfl ?_
          refine WL.nil ?_
          refine W.drop 0 rfl (by repeat' first | exact FL.nil | apply FL.cons) ?_
          refine W.sub ?_ (W.hs (fun h p => ?_) (next ⟨a + 1, oo, os ++ unpackW (bitS q) K y⟩ ⟨by simp only []; omega, ?_, ?_, ?_⟩ (by simp only []; omega)))
          · exact ⟨rfl, rfl, rfl, rfl, rfl, rfl, rfl, trivial⟩
          · rw [← hjK]
            exact p
          · exact h2
          · show (os ++ unpackW (bitS q) K y).length ≤ heldS n
            rw [← hjK, hol]; omega
          · intro z hz
            rcases List.mem_append.1 hz with hz | hz
            · exact h4 z hz
            · exact unpackW_lt (bitS q) (by omega) _ _ z hz
  · have hend : a = ws.length := by omega
    rw [hend, List.drop_length, decSF] at h2
    by_cases hlen : os.length = heldS n
    · rw [if_pos hlen] at h2
      have hd : decS ws n = if encS os = some ws then some os else none := by unfold decS; rw [← h2]; rfl
      cases he : encS os with
      | none =>
        have hno : decS ws n = none := by rw [hd, he, if_neg (by simp)]
        refine W.seq ?_
        refine W.region ?_
        refine WL.lss rfl rfl rfl ?_
        refine WL.nil ?_
        refine W.seq ?_
        refine W.condpF rfl (by omega) ?_
        refine W.exit rfl ?_
        refine W.seq ?_
        refine W.seq ?_
        refine W.region ?_
        refine WL.mv rfl rfl ?_
        refine WL.len (T := Ty) rfl rfl (by assumption) rfl ?_
        refine WL.mv rfl rfl ?_
        refine WL.neq rfl rfl rfl ?_
        refine WL.nil ?_
        refine W.condpF rfl (by omega) ?_
        refine W.skip ?_
        refine W.seq ?_
        refine W.region ?_
        refine WL.mv rfl rfl ?_
        refine WL.callF rfl rfl (fun x p d => senc_n _ _ _ (by assumption) (by first | assumption | exact ROs.wide (by assumption) | exact ROs.mono (by assumption) (eqh_at 0 rfl p d) | exact ros_at 0 rfl p d | exact ros_at 1 rfl p d | exact ros_at 2 rfl p d | exact ros_at 3 rfl p d | exact ros_at 4 rfl p d) (by first | assumption | omega) (by first | assumption | omega)) (fun r => ?_)
        refine WL.ex (fun u1 => ?_)
        refine WL.pure (fun er => ?_)
        subst er
        refine WL.fact (i := 0) rfl (fun h hb => Buf.slm hb) (fun hsl1 => ?_)
        refine WL.mv rfl rfl ?_
        refine WL.extL rfl rfl rfl ?_
        refine WL.extL rfl rfl rfl ?_
        refine WL.as rfl rfl ?_
        refine WL.as rfl rfl ?_
        refine WL.nil ?_
        refine W.seq ?_
        refine W.seq ?_
        refine W.region ?_
        refine WL.mv rfl rfl ?_
        refine WL.not rfl rfl ?_
        refine WL.mv rfl rfl ?_
        refine WL.gdN rfl rfl rfl rfl rfl rfl ?_
        refine WL.gdN rfl rfl rfl rfl rfl rfl ?_
        refine WL.gdN rfl rfl rfl rfl rfl rfl ?_
        refine WL.gdN rfl rfl rfl rfl rfl rfl ?_
        refine WL.pickT rfl rfl rfl ?_
        refine WL.nil ?_
        refine W.condT rfl ?_
        refine W.seq ?_
        refine W.region ?_
        refine WL.as rfl rfl ?_
        refine WL.as rfl rfl ?_
        refine WL.nil ?_
        refine W.drop 0 rfl (by repeat' first | exact FL.nil | apply FL.cons) ?_
        refine W.drop 0 rfl (by repeat' first | exact FL.nil | apply FL.cons) ?_
        refine W.drop 0 rfl (by repeat' first | exact FL.nil | apply FL.cons) ?_
        refine W.nb (sz := 1) ?_
        exact W.ret2 rfl rfl rfl (fun h p => rowNone hno p)
      | some w2 =>
        have hw2 := encS_len _ os w2 (Nat.le_refl _) he
        have hw2l : w2.length ≤ 17592186044416 := by omega
        by_cases hww : w2 = ws
        · have hyes : decS ws n = some os := by rw [hd, he, if_pos (by rw [hww])]
          have hnn : ¬¬ w2 = ws := not_not_intro hww
          refine W.seq ?_
          refine W.region ?_
          refine WL.lss rfl rfl rfl ?_
          refine WL.nil ?_
          refine W.seq ?_
          refine W.condpF rfl (by omega) ?_
          refine W.exit rfl ?_
          refine W.seq ?_
          refine W.seq ?_
          refine W.region ?_
          refine WL.mv rfl rfl ?_
          refine WL.len (T := Ty) rfl rfl (by assumption) rfl ?_
          refine WL.mv rfl rfl ?_
          refine WL.neq rfl rfl rfl ?_
          refine WL.nil ?_
          refine W.condpF rfl (by omega) ?_
          refine W.skip ?_
          refine W.seq ?_
          refine W.region ?_
          refine WL.mv rfl rfl ?_
          refine WL.callF rfl rfl (fun x p d => senc_s _ _ _ (by assumption) (by first | assumption | exact ROs.wide (by assumption) | exact ROs.mono (by assumption) (eqh_at 0 rfl p d) | exact ros_at 0 rfl p d | exact ros_at 1 rfl p d | exact ros_at 2 rfl p d | exact ros_at 3 rfl p d | exact ros_at 4 rfl p d) (by first | assumption | omega) (by first | assumption | omega)) (fun r => ?_)
          refine WL.ex (fun u1 => ?_)
          refine WL.pure (fun er => ?_)
          subst er
          refine WL.fact (i := 0) rfl (fun h hb => Buf.slm hb) (fun hsl1 => ?_)
          refine WL.mv rfl rfl ?_
          refine WL.extL rfl rfl rfl ?_
          refine WL.extL rfl rfl rfl ?_
          refine WL.as rfl rfl ?_
          refine WL.as rfl rfl ?_
          refine WL.nil ?_
          refine W.seq ?_
          refine W.seq ?_
          refine W.region ?_
          refine WL.mv rfl rfl ?_
          refine WL.not rfl rfl ?_
          refine WL.mv rfl rfl ?_
          refine WL.gY rfl rfl ?_
          refine WL.mv rfl rfl ?_
          refine WL.gY rfl rfl ?_
          refine WL.mv rfl rfl ?_
          refine WL.gY rfl rfl ?_
          refine WL.callV rfl rfl (fun x p d => eq64_c _ _ _ _ _ (by first | assumption | exact ROs.wide (by assumption) | exact ROs.mono (by assumption) (eqh_at 0 rfl p d) | exact ros_at 0 rfl p d | exact ros_at 1 rfl p d | exact ros_at 2 rfl p d | exact ros_at 3 rfl p d | exact ros_at 4 rfl p d) (by first | assumption | exact ROs.wide (by assumption) | exact ROs.mono (by assumption) (eqh_at 0 rfl p d) | exact ros_at 0 rfl p d | exact ros_at 1 rfl p d | exact ros_at 2 rfl p d | exact ros_at 3 rfl p d | exact ros_at 4 rfl p d) (by first | assumption | omega)) ?_
          refine WL.gY rfl rfl ?_
          refine WL.notp rfl rfl ?_
          refine WL.pickF rfl rfl rfl ?_
          refine WL.nil ?_
          refine W.condpF rfl (by omega) ?_
          refine W.skip ?_
          refine W.seq ?_
          refine W.region ?_
          refine WL.mv rfl rfl ?_
          refine WL.as rfl rfl ?_
          refine WL.as rfl rfl ?_
          refine WL.nil ?_
          refine W.drop 0 rfl (by repeat' first | exact FL.nil | apply FL.cons) ?_
          refine W.drop 1 rfl (by repeat' first | exact FL.nil | apply FL.cons) ?_
          exact W.ret2 rfl rfl rfl (fun h p => rowSome hyes p)
        · have hno : decS ws n = none := by rw [hd, he, if_neg (by simpa using hww)]
          refine W.seq ?_
          refine W.region ?_
          refine WL.lss rfl rfl rfl ?_
          refine WL.nil ?_
          refine W.seq ?_
          refine W.condpF rfl (by omega) ?_
          refine W.exit rfl ?_
          refine W.seq ?_
          refine W.seq ?_
          refine W.region ?_
          refine WL.mv rfl rfl ?_
          refine WL.len (T := Ty) rfl rfl (by assumption) rfl ?_
          refine WL.mv rfl rfl ?_
          refine WL.neq rfl rfl rfl ?_
          refine WL.nil ?_
          refine W.condpF rfl (by omega) ?_
          refine W.skip ?_
          refine W.seq ?_
          refine W.region ?_
          refine WL.mv rfl rfl ?_
          refine WL.callF rfl rfl (fun x p d => senc_s _ _ _ (by assumption) (by first | assumption | exact ROs.wide (by assumption) | exact ROs.mono (by assumption) (eqh_at 0 rfl p d) | exact ros_at 0 rfl p d | exact ros_at 1 rfl p d | exact ros_at 2 rfl p d | exact ros_at 3 rfl p d | exact ros_at 4 rfl p d) (by first | assumption | omega) (by first | assumption | omega)) (fun r => ?_)
          refine WL.ex (fun u1 => ?_)
          refine WL.pure (fun er => ?_)
          subst er
          refine WL.fact (i := 0) rfl (fun h hb => Buf.slm hb) (fun hsl1 => ?_)
          refine WL.mv rfl rfl ?_
          refine WL.extL rfl rfl rfl ?_
          refine WL.extL rfl rfl rfl ?_
          refine WL.as rfl rfl ?_
          refine WL.as rfl rfl ?_
          refine WL.nil ?_
          refine W.seq ?_
          refine W.seq ?_
          refine W.region ?_
          refine WL.mv rfl rfl ?_
          refine WL.not rfl rfl ?_
          refine WL.mv rfl rfl ?_
          refine WL.gY rfl rfl ?_
          refine WL.mv rfl rfl ?_
          refine WL.gY rfl rfl ?_
          refine WL.mv rfl rfl ?_
          refine WL.gY rfl rfl ?_
          refine WL.callV rfl rfl (fun x p d => eq64_f _ _ _ _ _ (by first | with_reducible rfl | assumption) (by first | assumption | exact ROs.wide (by assumption) | exact ROs.mono (by assumption) (eqh_at 0 rfl p d) | exact ros_at 0 rfl p d | exact ros_at 1 rfl p d | exact ros_at 2 rfl p d | exact ros_at 3 rfl p d | exact ros_at 4 rfl p d) (by first | assumption | exact ROs.wide (by assumption) | exact ROs.mono (by assumption) (eqh_at 0 rfl p d) | exact ros_at 0 rfl p d | exact ros_at 1 rfl p d | exact ros_at 2 rfl p d | exact ros_at 3 rfl p d | exact ros_at 4 rfl p d) (by first | assumption | omega)) ?_
          refine WL.gY rfl rfl ?_
          refine WL.not rfl rfl ?_
          refine WL.pickF rfl rfl rfl ?_
          refine WL.nil ?_
          refine W.condT rfl ?_
          refine W.seq ?_
          refine W.region ?_
          refine WL.as rfl rfl ?_
          refine WL.as rfl rfl ?_
          refine WL.nil ?_
          refine W.drop 0 rfl (by repeat' first | exact FL.nil | apply FL.cons) ?_
          refine W.drop 0 rfl (by repeat' first | exact FL.nil | apply FL.cons) ?_
          refine W.drop 0 rfl (by repeat' first | exact FL.nil | apply FL.cons) ?_
          refine W.nb (sz := 1) ?_
          exact W.ret2 rfl rfl rfl (fun h p => rowNone hno p)
    · rw [if_neg hlen] at h2
      have hno : decS ws n = none := by unfold decS; rw [← h2]; rfl
      refine W.seq ?_
      refine W.region ?_
      refine WL.lss rfl rfl rfl ?_
      refine WL.nil ?_
      refine W.seq ?_
      refine W.condpF rfl (by omega) ?_
      refine W.exit rfl ?_
      refine W.seq ?_
      refine W.seq ?_
      refine W.region ?_
      refine WL.mv rfl rfl ?_
      refine WL.len (T := Ty) rfl rfl (by assumption) rfl ?_
      refine WL.mv rfl rfl ?_
      refine WL.neq rfl rfl rfl ?_
      refine WL.nil ?_
      refine W.condpT rfl (by omega) ?_
      refine W.seq ?_
      refine W.region ?_
      refine WL.as rfl rfl ?_
      refine WL.as rfl rfl ?_
      refine WL.nil ?_
      refine W.drop 0 rfl (by repeat' first | exact FL.nil | apply FL.cons) ?_
      refine W.drop 0 rfl (by repeat' first | exact FL.nil | apply FL.cons) ?_
      refine W.nb (sz := 1) ?_
      exact W.ret2 rfl rfl rfl (fun h p => rowNone hno p)
end Go.Proofs.Ytlmhjkbbooghfaa
