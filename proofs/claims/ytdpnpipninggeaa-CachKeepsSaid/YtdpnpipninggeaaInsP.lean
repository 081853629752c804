/- slices.Insert of one page. -/
import Derived.Test.YtdpnpipninggeaaStc
import Derived.Test.YtdpnpipninggeaaNum
import Derived.Test.YtdpnpipninggeaaTab
import Derived.Test.YtdpnpipninggeaaRowsG
import Derived.Test.YtdpnpipninggeaaIns
set_option linter.unusedSimpArgs false
set_option linter.unusedVariables false
set_option maxRecDepth 20000
set_option maxHeartbeats 4000000
namespace Go.Proofs.Ytdpnpipninggeaa
open Go
attribute [local irreducible] W WL Fn Buf ROs SL eptr box Rd Src bndOK WD RB Reads In Rw over
theorem insP_c (ρ : Hp) (v : Value) (cs e : List Value) (n i b1 : Nat) (E1 : TypeId) (hle : e.length = 7) (hl : cs.length = n * 7) (hi : i ≤ n) (h1 : ∀ q ∈ cs, q.oneCell' = true) (h2 : ∀ q ∈ e, q.oneCell' = true) (hn : n ≤ 100000000) :
    Fn Try.prog 47 #[v, .int .i64 (i : Int), slv b1 0 1 1] ρ [Buf 7 v cs, box b1 e E1] (fun r => Buf 7 r (cs.take (i * 7) ++ e ++ cs.drop (i * 7))) := by
  refine in47 rfl rfl ?_
  have s1 := slv_sl b1 0 1 1
  refine W.bufCases (fun hv hcs => ?_) (fun b off n' c Te buf hv hl' hc hnc hm ht => ?_)
  · subst hcs
    have hn0 : n = 0 := by simp at hl; omega
    subst hn0
    have hi0 : i = 0 := by omega
    subst hi0
    subst hv
    have sz : SL (.slice none 0 0) 0 := by unfold SL; exact .inl ⟨rfl, rfl⟩
    refine W.seq (W.region (WL.as rfl rfl (WL.nil (W.seq (W.region (WL.mv rfl rfl (WL.mv rfl rfl (WL.slZ (T := Ty) rfl rfl (.atN rfl) (.inl ⟨rfl, rfl⟩) .no rfl rfl (WL.nil (W.seq (W.region (WL.mv rfl rfl ?_))))))))))))
    refine WL.len (T := Ty) rfl rfl (by assumption) rfl ?_
    refine WL.as rfl rfl (WL.nil (W.seq (W.seq (W.region (WL.mv rfl rfl (WL.eql rfl rfl rfl (WL.nil (W.condF rfl (W.skip (W.seq (W.region (WL.mv rfl rfl ?_))))))))))))
    refine WL.len (T := Ty) rfl rfl (by assumption) rfl ?_
    refine WL.as rfl rfl (WL.nil (W.seq (W.seq (W.region (WL.mv rfl rfl (WL.mv rfl rfl (WL.eql rfl rfl rfl (WL.nil (W.condT rfl (W.seq (W.region (WL.mv rfl rfl (WL.mv rfl rfl ?_)))))))))))))
    refine WL.nb (sz := 7) ?_
    refine WL.ap (T := Ty) (i := 0) (n := 0) (m := 1) rfl rfl rfl rfl rfl rfl rfl rfl (.part 0 rfl (fun h hb => box_ro (n := 1) hb hle (by decide))) s1 rfl hle h2 (by omega) (by unfold maxLen; omega) (fun v' => (by repeat' constructor)) (fun u hu => ?_)
    refine WL.as rfl rfl (WL.nil ?_)
    refine W.drop 1 rfl (by repeat' constructor) ?_
    exact W.ret1 rfl rfl (fun h p => by simpa using sepl_one.1 p)
  · have hnn : n' = n := by omega
    subst hnn
    subst hv
    have sv := slv_sl b off n' c
    by_cases hin : i = n'
    · subst hin
      rcases (by omega : i < c ∨ i = c) with hjc | hjc
      · refine W.seq ?_
        refine W.region (WL.as rfl rfl (WL.nil (W.seq (W.region (WL.mv rfl rfl (WL.mv rfl rfl ?_))))))
        refine WL.slXp (T := Ty) rfl rfl (.atN rfl) (by first | exact .inl ⟨rfl, rfl, rfl⟩ | exact .inr ⟨_, _, rfl, rfl⟩) (by first | exact .no | exact .atN rfl) rfl rfl (by omega) (by omega) (by omega) (by omega) ?_
        refine WL.nil (W.seq (W.region (WL.mv rfl rfl ?_)))
        refine WL.len (T := Ty) rfl rfl (by assumption) rfl ?_
        refine WL.as rfl rfl (WL.nil (W.seq (W.seq (W.region (WL.mv rfl rfl (WL.eql rfl rfl rfl (WL.nil (W.condF rfl (W.skip (W.seq (W.region (WL.mv rfl rfl ?_))))))))))))
        refine WL.len (T := Ty) rfl rfl (by assumption) rfl ?_
        refine WL.as rfl rfl (WL.nil (W.seq (W.seq (W.region (WL.mv rfl rfl (WL.mv rfl rfl (WL.eql rfl rfl rfl (WL.nil (W.condpT rfl (by omega) (W.seq (W.region (WL.mv rfl rfl (WL.mv rfl rfl ?_)))))))))))))
        refine WL.hs (Hs' := [Buf 7 (slv b off i c) cs, box b1 e E1]) (fun h p => ?_) ?_
        · obtain ⟨x, y, hx, hy, dd, rfl⟩ := p
          exact ⟨x, y, rwBuf hl' hc hnc hm ht hx, hy, dd, rfl⟩
        refine WL.ap (T := Ty) (i := 0) (n := i) (m := 1) rfl rfl rfl rfl rfl rfl rfl rfl (.part 0 rfl (fun h hb => box_ro (n := 1) hb hle (by decide))) s1 hl hle h2 (by omega) (by unfold maxLen; omega) (fun v' => (by repeat' constructor)) (fun u hu => ?_)
        refine WL.as rfl rfl (WL.nil ?_)
        refine W.drop 1 rfl (by repeat' constructor) ?_
        refine W.ret1 rfl rfl (fun h p => ?_)
        rw [List.take_of_length_le (by omega), List.drop_of_length_le (by omega), List.append_nil]
        exact sepl_one.1 p
      · refine W.seq ?_
        refine W.region (WL.as rfl rfl (WL.nil (W.seq (W.region (WL.mv rfl rfl (WL.mv rfl rfl ?_))))))
        refine WL.slXe (T := Ty) rfl rfl (.atN rfl) (by first | exact .inl ⟨rfl, rfl, rfl⟩ | exact .inr ⟨_, _, rfl, rfl⟩) (by first | exact .no | exact .atN rfl) rfl rfl (by omega) (by omega) (by omega) (by omega) ?_
        refine WL.nil (W.seq (W.region (WL.mv rfl rfl ?_)))
        refine WL.len (T := Ty) rfl rfl (by assumption) rfl ?_
        refine WL.as rfl rfl (WL.nil (W.seq (W.seq (W.region (WL.mv rfl rfl (WL.eql rfl rfl rfl (WL.nil (W.condF rfl (W.skip (W.seq (W.region (WL.mv rfl rfl ?_))))))))))))
        refine WL.len (T := Ty) rfl rfl (by assumption) rfl ?_
        refine WL.as rfl rfl (WL.nil (W.seq (W.seq (W.region (WL.mv rfl rfl (WL.mv rfl rfl (WL.eql rfl rfl rfl (WL.nil (W.condpT rfl (by omega) (W.seq (W.region (WL.mv rfl rfl (WL.mv rfl rfl ?_)))))))))))))
        refine WL.hs (Hs' := [Buf 7 (slv b off i c) cs, box b1 e E1]) (fun h p => ?_) ?_
        · obtain ⟨x, y, hx, hy, dd, rfl⟩ := p
          exact ⟨x, y, rwBuf hl' hc hnc hm ht hx, hy, dd, rfl⟩
        refine WL.ap (T := Ty) (i := 0) (n := i) (m := 1) rfl rfl rfl rfl rfl rfl rfl rfl (.part 0 rfl (fun h hb => box_ro (n := 1) hb hle (by decide))) s1 hl hle h2 (by omega) (by unfold maxLen; omega) (fun v' => (by repeat' constructor)) (fun u hu => ?_)
        refine WL.as rfl rfl (WL.nil ?_)
        refine W.drop 1 rfl (by repeat' constructor) ?_
        refine W.ret1 rfl rfl (fun h p => ?_)
        rw [List.take_of_length_le (by omega), List.drop_of_length_le (by omega), List.append_nil]
        exact sepl_one.1 p
    · by_cases hcap : c < n' + 1
      · refine W.seq ?_
        refine W.region (WL.as rfl rfl (WL.nil (W.seq (W.region (WL.mv rfl rfl (WL.mv rfl rfl ?_))))))
        refine WL.slXp (T := Ty) rfl rfl (.atN rfl) (by first | exact .inl ⟨rfl, rfl, rfl⟩ | exact .inr ⟨_, _, rfl, rfl⟩) (by first | exact .no | exact .atN rfl) rfl rfl (by omega) (by omega) (by omega) (by omega) ?_
        refine WL.nil (W.seq (W.region (WL.mv rfl rfl ?_)))
        refine WL.len (T := Ty) rfl rfl (by assumption) rfl ?_
        refine WL.as rfl rfl (WL.nil (W.seq (W.seq (W.region (WL.mv rfl rfl (WL.eql rfl rfl rfl (WL.nil (W.condF rfl (W.skip (W.seq (W.region (WL.mv rfl rfl ?_))))))))))))
        refine WL.len (T := Ty) rfl rfl (by assumption) rfl ?_
        refine WL.as rfl rfl (WL.nil (W.seq (W.seq (W.region (WL.mv rfl rfl (WL.mv rfl rfl (WL.eql rfl rfl rfl (WL.nil (W.condpF rfl (by omega) (W.skip (W.seq (W.seq (W.region ?_)))))))))))))
        refine WL.mv rfl rfl (WL.mv rfl rfl (WL.addK rfl rfl rfl (wrap_i64 ⟨by omega, by omega⟩) (WL.mv rfl rfl (WL.cap (T := Ty) rfl rfl rfl (WL.gtr rfl rfl rfl (WL.nil (W.condpT rfl (by omega) (W.seq (W.region (WL.mv rfl rfl (WL.mv rfl rfl ?_)))))))))))
        refine WL.slX0 (T := Ty) rfl rfl .no (by first | exact .inl ⟨rfl, rfl, rfl⟩ | exact .inr ⟨_, _, rfl, rfl⟩) (by first | exact .no | exact .atN rfl) rfl rfl (by omega) (by omega) ?_
        refine WL.mv rfl rfl (WL.mv rfl rfl (WL.addK rfl rfl rfl (wrap_i64 ⟨by omega, by omega⟩) (WL.mv rfl rfl (WL.subK rfl rfl rfl (wrap_i64 ⟨by omega, by omega⟩) ?_))))
        rw [show ((n' : Int) + ((1 : Nat) : Int) - (i : Int)) = ((n' + 1 - i : Nat) : Int) by omega]
        refine WL.apG (T := Ty) (j := 0) (n := i) (c := c) (m := n' + 1 - i) rfl rfl rfl rfl rfl rfl rfl rfl rfl rfl (by omega) (by omega) (by omega) (by omega) (by unfold maxLen; omega) (fun b' c' rest g1 g2 g3 => ?_)
        rw [show i + (n' + 1 - i) = n' + 1 by omega]
        have hzl : ∀ z : List Value, z.length = 7 → ((buf.drop off).take (i * 7) ++ zerosL z (n' + 1 - i) ++ rest).length = c' * 7 := by
          intro z hz
          rw [List.length_append, List.length_append, zerosL_length, hz, g3, List.length_take, List.length_drop]
          omega
        have hzt : ∀ z : List Value, z.length = 7 → ((buf.drop off).take (i * 7) ++ zerosL z (n' + 1 - i) ++ rest).take (i * 7) = cs.take (i * 7) := by
          intro z hz
          rw [List.append_assoc, List.take_append_of_le_length (by simp; omega), List.take_take, Nat.min_self, ← ht, List.take_take]
          congr 1
          omega
        have key := fun z hz => And.intro (hzl z hz) (hzt z hz)
        clear hzl hzt
        refine WL.as rfl rfl (WL.nil (W.seq (W.region (WL.mv rfl rfl (WL.mv rfl rfl ?_)))))
        refine WL.slXp (T := Ty) rfl rfl (.atN rfl) (by first | exact .inl ⟨rfl, rfl, rfl⟩ | exact .inr ⟨_, _, rfl, rfl⟩) (by first | exact .no | exact .atN rfl) rfl rfl (by omega) (by omega) (by omega) (by omega) ?_
        refine WL.mv rfl rfl ?_
        refine WL.cpSd (T := Ty) (j := 0) (n := n' + 1 - i) (m := 1) (off := 0 + i * 7) (c := c' - i) rfl rfl rfl rfl rfl rfl rfl (.part 1 rfl (fun h hb => box_ro (n := 1) hb hle (by decide))) s1 hle (by omega) (by rw [(key _ rfl).1]; omega) h2 (by repeat' constructor) ?_
        refine WL.nil (W.seq ?_)
        refine W.drawP 9 [true, true, false] rfl (by repeat' constructor) (by repeat' constructor) (fun σ0 hσ0 dσ0 => ?_)
        have fσ0_0 := rb_at 0 rfl hσ0 dσ0
        refine WD.takeL 0 rfl (by decide +kernel) (WL.mv rfl rfl (WL.nilT (WD.takeL 1 rfl (by decide +kernel) (WL.mv rfl rfl (WL.nilT (WD.takeL 2 rfl (by decide +kernel) (WL.mv rfl rfl (WL.nilT (WD.takeL 3 rfl (by decide +kernel) (WL.addK rfl rfl rfl (wrap_i64 ⟨by omega, by omega⟩) (WL.nilT (WD.takeL 4 rfl (by decide +kernel) ?_))))))))))))
        refine WL.slXp (T := Ty) rfl rfl (.atN rfl) (by first | exact .inl ⟨rfl, rfl, rfl⟩ | exact .inr ⟨_, _, rfl, rfl⟩) (by first | exact .no | exact .atN rfl) rfl rfl (by omega) (by omega) (by omega) (by omega) ?_
        refine WL.nilT (WD.takeL 5 rfl (by decide +kernel) (WL.mv rfl rfl (WL.nilT (WD.takeL 6 rfl (by decide +kernel) (WL.mv rfl rfl (WL.nilT (WD.takeL 7 rfl (by decide +kernel) ?_)))))))
        refine WL.slXp (T := Ty) rfl rfl (.atN rfl) (by first | exact .inl ⟨rfl, rfl, rfl⟩ | exact .inr ⟨_, _, rfl, rfl⟩) (by first | exact .no | exact .atN rfl) rfl rfl (by omega) (by omega) (by omega) (by omega) ?_
        refine WL.nilT (WD.oneL 8 rfl (by decide +kernel) ?_)
        have hdr : (buf.drop (off + i * 7)).take ((n' - i) * 7) = cs.drop (i * 7) := by
          rw [← ht, List.drop_take, List.drop_drop, Nat.sub_mul]
        refine WL.cpYd (T := Ty) (j := 1) (j2 := 1) (n := n' + 1 - (i + 1)) (m := n' - i) (off := 0 + (i + 1) * 7) (c := c' - (i + 1)) (off2 := off + i * 7) (c2 := c - i) (news := cs.drop (i * 7)) rfl rfl rfl rfl rfl rfl rfl rfl hdr (by omega) (by omega)
          (by rw [over_len (by rw [(key _ rfl).1, hle]; omega), (key _ rfl).1]; omega) (fun q hq => h1 q (List.mem_of_mem_drop hq)) (by repeat' constructor) ?_
        refine WL.nilE ?_
        refine WD.doneF hσ0 (by decide +kernel) (by repeat' constructor) ?_
        refine W.seq (W.region (WL.mv rfl rfl (WL.as rfl rfl (WL.nil ?_))))
        refine W.drop 0 rfl (by repeat' constructor) ?_
        refine W.drop 1 rfl (by repeat' constructor) ?_
        refine W.ret1 rfl rfl (fun h p => ?_)
        have p := sepl_one.1 p
        rw [Nat.zero_add, Nat.zero_add, show (i + 1) * 7 = i * 7 + e.length by omega] at p
        have hil := fun z hz => ins_list (e := e) (key z hz).1 (key z hz).2 hl (show i * 7 ≤ n' * 7 by omega) (by omega)
        refine rwBuf (n := n' + 1) (by simp only [List.length_append, List.length_take, List.length_drop, hl, hle]; omega) ?_ (by omega) g2 ?_ p
        · rw [over_len, over_len, (key _ rfl).1]
          · omega
          · rw [(key _ rfl).1]; omega
          · rw [over_len, (key _ rfl).1, List.length_drop, hl]
            · omega
            · rw [(key _ rfl).1]; omega
        · rw [show (n' + 1) * 7 = n' * 7 + e.length by omega]
          exact hil _ rfl
      · refine W.seq ?_
        refine W.region (WL.as rfl rfl (WL.nil (W.seq (W.region (WL.mv rfl rfl (WL.mv rfl rfl ?_))))))
        refine WL.slXp (T := Ty) rfl rfl (.atN rfl) (by first | exact .inl ⟨rfl, rfl, rfl⟩ | exact .inr ⟨_, _, rfl, rfl⟩) (by first | exact .no | exact .atN rfl) rfl rfl (by omega) (by omega) (by omega) (by omega) ?_
        refine WL.nil (W.seq (W.region (WL.mv rfl rfl ?_)))
        refine WL.len (T := Ty) rfl rfl (by assumption) rfl ?_
        refine WL.as rfl rfl (WL.nil (W.seq (W.seq (W.region (WL.mv rfl rfl (WL.eql rfl rfl rfl (WL.nil (W.condF rfl (W.skip (W.seq (W.region (WL.mv rfl rfl ?_))))))))))))
        refine WL.len (T := Ty) rfl rfl (by assumption) rfl ?_
        refine WL.as rfl rfl (WL.nil (W.seq (W.seq (W.region (WL.mv rfl rfl (WL.mv rfl rfl (WL.eql rfl rfl rfl (WL.nil (W.condpF rfl (by omega) (W.skip (W.seq (W.seq (W.region ?_)))))))))))))
        refine WL.mv rfl rfl (WL.mv rfl rfl (WL.addK rfl rfl rfl (wrap_i64 ⟨by omega, by omega⟩) (WL.mv rfl rfl (WL.cap (T := Ty) rfl rfl rfl (WL.gtr rfl rfl rfl (WL.nil (W.condpF rfl (by omega) (W.skip (W.seq (W.region (WL.mv rfl rfl (WL.mv rfl rfl (WL.mv rfl rfl ?_)))))))))))))
        refine WL.addK rfl rfl rfl (wrap_i64 ⟨by omega, by omega⟩) ?_
        refine WL.slX0 (T := Ty) rfl rfl .no (by first | exact .inl ⟨rfl, rfl, rfl⟩ | exact .inr ⟨_, _, rfl, rfl⟩) (by first | exact .no | exact .atN rfl) rfl rfl (by omega) (by omega) ?_
        refine WL.as rfl rfl (WL.nil (W.seq (W.seq (W.region (WL.mv rfl rfl (WL.mv rfl rfl (WL.mv rfl rfl (WL.mv rfl rfl (WL.addK rfl rfl rfl (wrap_i64 ⟨by omega, by omega⟩) ?_)))))))))
        refine WL.slXp (T := Ty) rfl rfl (.atN rfl) (by first | exact .inl ⟨rfl, rfl, rfl⟩ | exact .inr ⟨_, _, rfl, rfl⟩) (by first | exact .no | exact .atN rfl) rfl rfl (by omega) (by omega) (by omega) (by omega) ?_
        refine WL.ovX (T := Ty) (j1 := 1) (j2 := 0) rfl rfl rfl rfl rfl rfl rfl rfl rfl rfl rfl rfl (by omega) (by omega) (WL.not rfl rfl (WL.nil (W.condT rfl (W.seq ?_))))
        refine W.drawP 9 [true, false] rfl (by repeat' constructor) (by repeat' constructor) (fun σ0 hσ0 dσ0 => ?_)
        have fσ0_0 := rb_at 0 rfl hσ0 dσ0
        refine WD.takeL 0 rfl (by decide +kernel) (WL.mv rfl rfl (WL.nilT (WD.takeL 1 rfl (by decide +kernel) (WL.mv rfl rfl (WL.nilT (WD.takeL 2 rfl (by decide +kernel) (WL.mv rfl rfl (WL.nilT (WD.takeL 3 rfl (by decide +kernel) (WL.addK rfl rfl rfl (wrap_i64 ⟨by omega, by omega⟩) (WL.nilT (WD.takeL 4 rfl (by decide +kernel) ?_))))))))))))
        refine WL.slXp (T := Ty) rfl rfl (.atN rfl) (by first | exact .inl ⟨rfl, rfl, rfl⟩ | exact .inr ⟨_, _, rfl, rfl⟩) (by first | exact .no | exact .atN rfl) rfl rfl (by omega) (by omega) (by omega) (by omega) ?_
        refine WL.nilT (WD.takeL 5 rfl (by decide +kernel) (WL.mv rfl rfl (WL.nilT (WD.takeL 6 rfl (by decide +kernel) (WL.mv rfl rfl (WL.nilT (WD.takeL 7 rfl (by decide +kernel) ?_)))))))
        refine WL.slXp (T := Ty) rfl rfl (.atN rfl) (by first | exact .inl ⟨rfl, rfl, rfl⟩ | exact .inr ⟨_, _, rfl, rfl⟩) (by first | exact .no | exact .atN rfl) rfl rfl (by omega) (by omega) (by omega) (by omega) ?_
        refine WL.nilT (WD.oneL 8 rfl (by decide +kernel) ?_)
        have hmn : min (n' + 1 - i) (n' + 1 - (i + 1)) = n' - i := by omega
        have hdr : (buf.drop (off + i * 7)).take ((n' - i) * 7) = cs.drop (i * 7) := by
          rw [← ht, List.drop_take, List.drop_drop, Nat.sub_mul]
        refine WL.cpXd (T := Ty) (j := 1) (n := n' + 1 - (i + 1)) (m := n' + 1 - i) (off := off + (i + 1) * 7) (c := c - (i + 1)) (off2 := off + i * 7) (c2 := c - i) rfl rfl rfl rfl rfl rfl rfl (by omega) (by omega) (by rw [hmn, hdr]; exact fun q hq => h1 q (List.mem_of_mem_drop hq)) (by repeat' constructor) ?_
        rw [hmn, hdr]
        have hol := over_len (buf := buf) (k := off + (i + 1) * 7) (vs := cs.drop (i * 7)) (by rw [List.length_drop, hl]; omega)
        refine WL.nilE ?_
        refine WD.doneF hσ0 (by decide +kernel) (by repeat' constructor) ?_
        refine W.seq (W.region (WL.mv rfl rfl (WL.mv rfl rfl ?_)))
        refine WL.slXp (T := Ty) rfl rfl (.atN rfl) (by first | exact .inl ⟨rfl, rfl, rfl⟩ | exact .inr ⟨_, _, rfl, rfl⟩) (by first | exact .no | exact .atN rfl) rfl rfl (by omega) (by omega) (by omega) (by omega) ?_
        refine WL.mv rfl rfl ?_
        refine WL.cpSd (T := Ty) (j := 1) (n := n' + 1 - i) (m := 1) (off := off + i * 7) (c := c - i) rfl rfl rfl rfl rfl rfl rfl (.part 0 rfl (fun h hb => box_ro (n := 1) hb hle (by decide))) s1 hle (by omega) (by rw [hol]; omega) h2 (by repeat' constructor) ?_
        refine WL.nil (W.seq (W.region (WL.mv rfl rfl (WL.as rfl rfl (WL.nil ?_)))))
        refine W.drop 0 rfl (by repeat' constructor) ?_
        refine W.ret1 rfl rfl (fun h p => ?_)
        have p := sepl_one.1 p
        have hil := ins_list2 (e := e) ht hl (show i * 7 ≤ n' * 7 by omega) (by omega)
        rw [show (i + 1) * 7 = i * 7 + e.length by omega] at p hol
        refine rwBuf (n := n' + 1) (by simp only [List.length_append, List.length_take, List.length_drop, hl, hle]; omega) ?_ (by omega) hm ?_ p
        · rw [over_len (by rw [hol]; omega), hol]; exact hc
        · rw [show (n' + 1) * 7 = n' * 7 + e.length by omega]
          exact hil
end Go.Proofs.Ytdpnpipninggeaa
