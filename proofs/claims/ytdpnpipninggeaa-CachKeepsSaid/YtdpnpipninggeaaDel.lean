/- slices.Delete of one element. -/
import Derived.Test.YtdpnpipninggeaaStc
import Derived.Test.YtdpnpipninggeaaNum
import Derived.Test.YtdpnpipninggeaaTab
import Derived.Test.YtdpnpipninggeaaRwx
set_option linter.unusedSimpArgs false
set_option linter.unusedVariables false
set_option maxRecDepth 20000
set_option maxHeartbeats 4000000
namespace Go.Proofs.Ytdpnpipninggeaa
open Go
attribute [local irreducible] W WL Fn Buf ROs SL eptr box Rd Src bndOK WD RB Reads In Rw over
theorem slv_sl (b off n c : Nat) : SL (slv b off n c) n := by unfold SL; exact .inr ⟨_, _, rfl⟩
theorem del_cells {cs : List Value} {n i j s : Nat} (hl : cs.length = n * s) (hi : i < n) (hj : j = i + 1) : (cs.take (i * s) ++ cs.drop (j * s)).length = (n - 1) * s := by
  subst hj
  have h1 : (i + 1) * s ≤ n * s := Nat.mul_le_mul_right _ hi
  have h2 : (i + 1) * s = i * s + s := by rw [Nat.add_mul, Nat.one_mul]
  simp only [List.length_append, List.length_take, List.length_drop, hl, Nat.sub_mul, Nat.one_mul]
  omega
theorem delP_c (ρ : Hp) (v : Value) (cs : List Value) (n i j : Nat) (hl : cs.length = n * 7) (hi : i < n) (hj : j = i + 1) (h1 : ∀ q ∈ cs, q.oneCell' = true) (hn : n ≤ 140737488355) :
    Fn Try.prog 41 #[v, .int .i64 (i : Int), .int .i64 (j : Int)] ρ [Buf 7 v cs] (fun r => Buf 7 r (cs.take (i * 7) ++ cs.drop (j * 7))) := by
  refine in41 rfl rfl ?_
  refine W.bufCases (fun _ hcs => ?_) (fun b off n' c Te buf hv hl' hc hnc hm ht => ?_)
  · subst hcs; simp at hl; omega
  · have hnn : n' = n := by omega
    subst hnn
    subst hv
    have sv := slv_sl b off n' c
    have sv2 := slv_sl b off (i + (n' - j)) c
    have hdr : cs.drop (j * 7) = (buf.drop (off + j * 7)).take ((n' - j) * 7) := by
      rw [← ht, List.drop_take, List.drop_drop, Nat.sub_mul]
    have hdl : (cs.drop (j * 7)).length = (n' - j) * 7 := by rw [List.length_drop, hl, Nat.sub_mul]
    have hone : ∀ q ∈ (buf.drop (off + j * 7)).take ((n' - j) * 7), q.oneCell' = true := by
      rw [← hdr]; exact fun q hq => h1 q (List.mem_of_mem_drop hq)
    have hol := over_len (buf := buf) (k := off + i * 7) (vs := cs.drop (j * 7)) (by rw [hdl]; omega)
    rcases (by omega : j < c ∨ j = c) with hjc | hjc
    · refine W.seq ?_
      refine W.region (WL.as rfl rfl (WL.nil (W.seq (W.region (WL.mv rfl rfl (WL.mv rfl rfl (WL.mv rfl rfl (WL.mv rfl rfl ?_))))))))
      refine WL.len (T := Ty) rfl rfl (by assumption) rfl ?_
      refine WL.slXp (T := Ty) rfl rfl (.atN rfl) (by first | exact .inl ⟨rfl, rfl, rfl⟩ | exact .inr ⟨_, _, rfl, rfl⟩) (by first | exact .no | exact .atN rfl) rfl rfl (by omega) (by omega) (by omega) (by omega) ?_
      refine WL.nil (W.seq (W.seq (W.region (WL.mv rfl rfl (WL.mv rfl rfl (WL.eql rfl rfl rfl (WL.nil (W.condpF rfl (by omega) (W.skip (W.seq (W.region (WL.mv rfl rfl ?_))))))))))))
      refine WL.len (T := Ty) rfl rfl (by assumption) rfl ?_
      refine WL.as rfl rfl (WL.nil (W.seq ?_))
      refine W.drawP 7 [true] rfl (by repeat' constructor) (by repeat' constructor) (fun σ0 hσ0 dσ0 => ?_)
      refine WD.takeL 0 rfl (by decide +kernel) (WL.mv rfl rfl (WL.nilT (WD.takeL 1 rfl (by decide +kernel) (WL.mv rfl rfl (WL.nilT (WD.takeL 2 rfl (by decide +kernel) ?_))))))
      refine WL.slX0 (T := Ty) rfl rfl .no (by first | exact .inl ⟨rfl, rfl, rfl⟩ | exact .inr ⟨_, _, rfl, rfl⟩) (by first | exact .no | exact .atN rfl) rfl rfl (by omega) (by omega) ?_
      refine WL.nilT (WD.takeL 3 rfl (by decide +kernel) (WL.mv rfl rfl (WL.nilT (WD.takeL 4 rfl (by decide +kernel) (WL.mv rfl rfl (WL.nilT (WD.takeL 5 rfl (by decide +kernel) ?_)))))))
      refine WL.slXp (T := Ty) rfl rfl (.atN rfl) (by first | exact .inl ⟨rfl, rfl, rfl⟩ | exact .inr ⟨_, _, rfl, rfl⟩) (by first | exact .no | exact .atN rfl) rfl rfl (by omega) (by omega) (by omega) (by omega) ?_
      refine WL.nilT (WD.oneL 6 rfl (by decide +kernel) ?_)
      refine WL.apX (T := Ty) (j := 1) (off2 := off + j * 7) (m := n' - j) (c2 := c - j) rfl rfl rfl rfl rfl rfl (by omega) hc (by omega) hone (by repeat' constructor) ?_
      rw [← hdr]
      refine WL.nilE ?_
      refine WD.lastG hσ0 (by decide +kernel) (by repeat' constructor) rfl (by repeat' constructor) ?_
      refine WL.as rfl rfl (WL.nil (W.seq (W.region (WL.mv rfl rfl (WL.mv rfl rfl ?_)))))
      refine WL.len (T := Ty) rfl rfl (by assumption) rfl ?_
      refine WL.mv rfl rfl ?_
      refine WL.slXp (T := Ty) rfl rfl (.atN rfl) (by first | exact .inl ⟨rfl, rfl, rfl⟩ | exact .inr ⟨_, _, rfl, rfl⟩) (by first | exact .no | exact .atN rfl) rfl rfl (by omega) (by omega) (by omega) (by omega) ?_
      refine WL.clrX (T := Ty) (j := 0) rfl rfl rfl rfl rfl rfl (by rw [hol]; omega) (zerosL_one (by decide) _) (by repeat' constructor) ?_
      refine WL.nil (W.seq (W.region (WL.mv rfl rfl (WL.as rfl rfl (WL.nil ?_)))))
      refine W.ret1 rfl rfl (fun h p => ?_)
      have hzz : ∀ z : List Value, z.length = 7 → off + (i + (n' - j)) * 7 + (zerosL z (n' - (i + (n' - j)))).length ≤ buf.length := by
        intro z hz
        rw [zerosL_length, hz]; omega
      have hlen : ∀ z : List Value, z.length = 7 → (over (over buf (off + i * 7) (cs.drop (j * 7))) (off + (i + (n' - j)) * 7) (zerosL z (n' - (i + (n' - j))))).length = buf.length := by
        intro z hz
        rw [over_len (by rw [hol]; exact hzz z hz), hol]
      have dl : ∀ z : List Value, z.length = 7 → ((over (over buf (off + i * 7) (cs.drop (j * 7))) (off + (i + (n' - j)) * 7) (zerosL z (n' - (i + (n' - j))))).drop off).take ((i + (n' - j)) * 7) = cs.take (i * 7) ++ cs.drop (j * 7) := by
        intro z hz
        have := del_list (buf := buf) (cs := cs) (off := off) (a := i * 7) (b := j * 7) (n := n' * 7) (k2 := off + (i + (n' - j)) * 7) ht hl (by omega) (by omega) (by omega) (hzz z hz) (by omega)
        rw [show i * 7 + (n' * 7 - j * 7) = (i + (n' - j)) * 7 by omega] at this
        exact this
      refine rwBuf (by rw [List.length_append, hdl, List.length_take, hl]; omega) ?_ (by omega) hm ?_ (sepl_one.1 p)
      · rw [hlen]
        · exact hc
        · rfl
      · exact dl _ rfl
    · refine W.seq ?_
      refine W.region (WL.as rfl rfl (WL.nil (W.seq (W.region (WL.mv rfl rfl (WL.mv rfl rfl (WL.mv rfl rfl (WL.mv rfl rfl ?_))))))))
      refine WL.len (T := Ty) rfl rfl (by assumption) rfl ?_
      refine WL.slXp (T := Ty) rfl rfl (.atN rfl) (by first | exact .inl ⟨rfl, rfl, rfl⟩ | exact .inr ⟨_, _, rfl, rfl⟩) (by first | exact .no | exact .atN rfl) rfl rfl (by omega) (by omega) (by omega) (by omega) ?_
      refine WL.nil (W.seq (W.seq (W.region (WL.mv rfl rfl (WL.mv rfl rfl (WL.eql rfl rfl rfl (WL.nil (W.condpF rfl (by omega) (W.skip (W.seq (W.region (WL.mv rfl rfl ?_))))))))))))
      refine WL.len (T := Ty) rfl rfl (by assumption) rfl ?_
      refine WL.as rfl rfl (WL.nil (W.seq ?_))
      refine W.drawP 7 [true] rfl (by repeat' constructor) (by repeat' constructor) (fun σ0 hσ0 dσ0 => ?_)
      refine WD.takeL 0 rfl (by decide +kernel) (WL.mv rfl rfl (WL.nilT (WD.takeL 1 rfl (by decide +kernel) (WL.mv rfl rfl (WL.nilT (WD.takeL 2 rfl (by decide +kernel) ?_))))))
      refine WL.slX0 (T := Ty) rfl rfl .no (by first | exact .inl ⟨rfl, rfl, rfl⟩ | exact .inr ⟨_, _, rfl, rfl⟩) (by first | exact .no | exact .atN rfl) rfl rfl (by omega) (by omega) ?_
      refine WL.nilT (WD.takeL 3 rfl (by decide +kernel) (WL.mv rfl rfl (WL.nilT (WD.takeL 4 rfl (by decide +kernel) (WL.mv rfl rfl (WL.nilT (WD.takeL 5 rfl (by decide +kernel) ?_)))))))
      refine WL.slXe (T := Ty) rfl rfl (.atN rfl) (by first | exact .inl ⟨rfl, rfl, rfl⟩ | exact .inr ⟨_, _, rfl, rfl⟩) (by first | exact .no | exact .atN rfl) rfl rfl (by omega) (by omega) (by omega) (by omega) ?_
      refine WL.nilT (WD.oneL 6 rfl (by decide +kernel) ?_)
      refine WL.apX (T := Ty) (j := 1) (off2 := off) (m := 0) (c2 := 0) rfl rfl rfl rfl rfl rfl (by omega) hc (by omega) (fun q hq => by simp at hq) (by repeat' constructor) ?_
      rw [show (buf.drop off).take (0 * 7) = cs.drop (j * 7) by rw [hdr, show n' - j = 0 by omega]; simp, show i + 0 = i + (n' - j) by omega]
      refine WL.nilE ?_
      refine WD.lastG hσ0 (by decide +kernel) (by repeat' constructor) rfl (by repeat' constructor) ?_
      refine WL.as rfl rfl (WL.nil (W.seq (W.region (WL.mv rfl rfl (WL.mv rfl rfl ?_)))))
      refine WL.len (T := Ty) rfl rfl (by assumption) rfl ?_
      refine WL.mv rfl rfl ?_
      refine WL.slXp (T := Ty) rfl rfl (.atN rfl) (by first | exact .inl ⟨rfl, rfl, rfl⟩ | exact .inr ⟨_, _, rfl, rfl⟩) (by first | exact .no | exact .atN rfl) rfl rfl (by omega) (by omega) (by omega) (by omega) ?_
      refine WL.clrX (T := Ty) (j := 0) rfl rfl rfl rfl rfl rfl (by rw [hol]; omega) (zerosL_one (by decide) _) (by repeat' constructor) ?_
      refine WL.nil (W.seq (W.region (WL.mv rfl rfl (WL.as rfl rfl (WL.nil ?_)))))
      refine W.ret1 rfl rfl (fun h p => ?_)
      have hzz : ∀ z : List Value, z.length = 7 → off + (i + (n' - j)) * 7 + (zerosL z (n' - (i + (n' - j)))).length ≤ buf.length := by
        intro z hz
        rw [zerosL_length, hz]; omega
      have hlen : ∀ z : List Value, z.length = 7 → (over (over buf (off + i * 7) (cs.drop (j * 7))) (off + (i + (n' - j)) * 7) (zerosL z (n' - (i + (n' - j))))).length = buf.length := by
        intro z hz
        rw [over_len (by rw [hol]; exact hzz z hz), hol]
      have dl : ∀ z : List Value, z.length = 7 → ((over (over buf (off + i * 7) (cs.drop (j * 7))) (off + (i + (n' - j)) * 7) (zerosL z (n' - (i + (n' - j))))).drop off).take ((i + (n' - j)) * 7) = cs.take (i * 7) ++ cs.drop (j * 7) := by
        intro z hz
        have := del_list (buf := buf) (cs := cs) (off := off) (a := i * 7) (b := j * 7) (n := n' * 7) (k2 := off + (i + (n' - j)) * 7) ht hl (by omega) (by omega) (by omega) (hzz z hz) (by omega)
        rw [show i * 7 + (n' * 7 - j * 7) = (i + (n' - j)) * 7 by omega] at this
        exact this
      refine rwBuf (by rw [List.length_append, hdl, List.length_take, hl]; omega) ?_ (by omega) hm ?_ (sepl_one.1 p)
      · rw [hlen]
        · exact hc
        · rfl
      · exact dl _ rfl
end Go.Proofs.Ytdpnpipninggeaa
