/- DictMany. -/
import Derived.Test.YtjibmfkhhljhcaaStc
import Derived.Test.YtjibmfkhhljhcaaNum
import Derived.Test.YtjibmfkhhljhcaaTab
import Derived.Test.YtjibmfkhhljhcaaDictAwake
import Derived.Test.YtjibmfkhhljhcaaVintRf
import Derived.Test.YtjibmfkhhljhcaaForpRef1
set_option linter.unusedSimpArgs false
set_option linter.unusedVariables false
set_option maxRecDepth 20000
set_option maxHeartbeats 4000000
namespace Go.Proofs.Ytjibmfkhhljhcaa
open Go
attribute [local irreducible] W WL Fn Buf ROs SL eptr box Rd Src bndOK WD RB Reads In Mp encD decD encDw

theorem unl_app : ∀ (l m ws : List Nat), unl ws (l ++ m) = (unl ws l).bind (fun w => unl w m)
  | [], m, ws => rfl
  | x :: l, m, ws => by
    rw [List.cons_append, unl, unl]
    split
    · exact unl_app l m ws
    · split
      · rfl
      · exact unl_app l m _
theorem unl_old : ∀ (l ws : List Nat), (∀ x ∈ l, x ∈ ws) → unl ws l = some ws
  | [], ws, _ => rfl
  | x :: l, ws, h => by rw [unl, if_pos (h x (by simp)), unl_old l ws (fun y hy => h y (by simp [hy]))]
theorem unl_new : ∀ (l ws : List Nat), l.Nodup → (∀ x ∈ l, ¬ x ∈ ws) → ws.length ≤ 256 → unl ws l = if ws.length + l.length ≤ 256 then some (ws ++ l) else none
  | [], ws, _, _, h => by rw [unl, if_pos (by simpa using h)]; simp
  | x :: l, ws, hn, hd, h => by
    have hx := hd x (by simp)
    obtain ⟨hxl, hnl⟩ := List.nodup_cons.1 hn
    rw [unl, if_neg hx]
    by_cases hf : ws.length = 256
    · rw [if_pos hf, if_neg (by simp; omega)]
    · rw [if_neg hf, unl_new l (ws ++ [x]) hnl (fun y hy hm => by
        rcases List.mem_append.1 hm with q | q
        · exact hd y (by simp [hy]) q
        · simp at q; subst q; exact hxl hy) (by simp; omega)]
      simp only [List.length_append, List.length_cons, List.length_nil, List.append_assoc, List.cons_append, List.nil_append]
      by_cases h2 : ws.length + (0 + 1) + l.length ≤ 256
      · rw [if_pos h2, if_pos (by omega)]
      · rw [if_neg h2, if_neg (by omega)]
def thr (n : Nat) : List Nat := (List.range n).map (· * 3)
theorem thr_len (n : Nat) : (thr n).length = n := by simp [thr]
theorem thr_nodup (n : Nat) : (thr n).Nodup := by
  unfold thr
  rw [List.nodup_iff_pairwise_ne, List.pairwise_map]
  exact (List.nodup_range (n := n)).imp (fun h e => h (by omega))
theorem thr_get {n i : Nat} (h : i < n) : (thr n)[i]? = some (i * 3) := by simp [thr, h]
theorem thr_lt {n : Nat} (h : n ≤ 512) : ∀ x ∈ thr n, x < 18446744073709551616 := by
  intro x hx
  obtain ⟨i, hi, rfl⟩ := List.mem_map.1 hx
  have := List.mem_range.1 hi
  show i * 3 < _
  omega
def repT (n t i : Nat) : List Nat := (List.replicate t (thr n)).flatten ++ (thr n).take i
theorem repT_zero (n : Nat) : repT n 0 0 = [] := by simp [repT]
theorem repT_next {n t i : Nat} (h : i < n) : repT n t (i + 1) = repT n t i ++ [i * 3] := by
  unfold repT
  rw [List.take_add_one, thr_get h]
  simp
theorem repT_turn (n t : Nat) : repT n t n = repT n (t + 1) 0 := by
  unfold repT
  rw [List.replicate_succ', List.flatten_append]
  simp [List.take_of_length_le (Nat.le_of_eq (thr_len n))]
theorem repT_len (n t i : Nat) (h : i ≤ n) : (repT n t i).length = t * n + i := by
  unfold repT
  rw [List.length_append, List.length_take, thr_len, Nat.min_eq_left h]
  congr 1
  simp [thr_len]
theorem repT_mem {n t i x : Nat} (h : x ∈ repT n t i) : x ∈ thr n := by
  rcases List.mem_append.1 h with h | h
  · obtain ⟨l, hl, hx⟩ := List.mem_flatten.1 h
    rw [List.eq_of_mem_replicate hl] at hx
    exact hx
  · exact List.mem_of_mem_take h
theorem repT_unl {n t : Nat} : unl [] (repT n (t + 1) 0) = if n ≤ 256 then some (thr n) else none := by
  have e : repT n (t + 1) 0 = thr n ++ (List.replicate t (thr n)).flatten := by
    unfold repT
    rw [List.replicate_succ, List.flatten_cons]
    simp
  rw [e, unl_app, unl_new (thr n) [] (thr_nodup n) (by simp) (by simp)]
  simp only [List.length_nil, Nat.zero_add, thr_len, List.nil_append]
  by_cases h : n ≤ 256
  · simp only [if_pos h]
    exact unl_old _ _ (fun x hx => by
      obtain ⟨l, hl, hx⟩ := List.mem_flatten.1 hx
      rw [List.eq_of_mem_replicate hl] at hx
      exact hx)
  · simp only [if_neg h]; rfl
theorem DictMany_fn (ρ : Hp) (a0 : Int) (w0 : (Lit.int .i64 a0).wf = true) (a1 : Int) (w1 : (Lit.int .i64 a1).wf = true) :
    Fn Try.prog 8 #[.int .i64 a0, .int .i64 a1] ρ [] (fun r _ => r = .bool true) := by
  obtain ⟨n, hn, hn1, hn2⟩ : ∃ n : Nat, a0 % (511 + 1) + 1 = (n : Int) ∧ 1 ≤ n ∧ n ≤ 512 := ⟨(a0 % (511 + 1) + 1).toNat, by omega, by omega, by omega⟩
  obtain ⟨tm, htm, ht1, ht2⟩ : ∃ n : Nat, a1 % (3 + 1) + 1 = (n : Int) ∧ 1 ≤ n ∧ n ≤ 4 := ⟨(a1 % (3 + 1) + 1).toNat, by omega, by omega, by omega⟩
  refine in8 rfl rfl ?_
  refine W.seq ?_
  refine W.region ?_
  refine WL.as rfl rfl ?_
  refine WL.nil ?_
  refine W.seq ?_
  refine W.region ?_
  refine WL.mv rfl rfl ?_
  refine WL.andI rfl rfl rfl (by decide) ?_
  refine WL.addK rfl rfl rfl (wrap_i64 ⟨by omega, by omega⟩) ?_
  refine WL.mv rfl rfl ?_
  refine WL.andI rfl rfl rfl (by decide) ?_
  refine WL.addK rfl rfl rfl (wrap_i64 ⟨by omega, by omega⟩) ?_
  refine WL.as rfl rfl ?_
  refine WL.as rfl rfl ?_
  refine WL.nil ?_
  refine W.seq ?_
  refine W.region ?_
  refine WL.as rfl rfl ?_
  refine WL.nil ?_
  refine W.seq ?_
  refine W.seq ?_
  refine W.region ?_
  refine WL.as rfl rfl ?_
  refine WL.nil ?_
  refine W.block ?_
  rw [hn, htm]
  refine W.nb (sz := 1) ?_
  refine W.loopS (σ := Nat × Value) (fun s => [(0, .int .i64 (n : Int)), (1, .int .i64 (tm : Int)), (5, s.2), (6, .int .i64 (s.1 : Int))]) (fun s => [Buf 1 s.2 ((repT n s.1 0).map ucell)])
    (fun s => s.1 ≤ tm) (fun s => tm - s.1) (0, .slice none 0 0) ⟨rfl, rfl, rfl, rfl, trivial⟩ (by rw [repT_zero]; rfl) (Nat.zero_le _) ?_
  rintro ⟨t, o⟩ ht next
  simp only [] at ht next ⊢
  by_cases hlt : t < tm
  · refine W.seq ?_
    refine W.seq ?_
    refine W.region ?_
    refine WL.mv rfl rfl ?_
    refine WL.mv rfl rfl ?_
    refine WL.lss rfl rfl rfl ?_
    refine WL.nil ?_
    refine W.condpT rfl (by omega) ?_
    refine W.skip ?_
    refine W.seq ?_
    refine W.block ?_
    refine W.seq ?_
    refine W.region ?_
    refine WL.as rfl rfl ?_
    refine WL.nil ?_
    refine W.block ?_
    refine W.loopS (σ := Nat × Value) (fun s => [(0, .int .i64 (n : Int)), (1, .int .i64 (tm : Int)), (5, s.2), (6, .int .i64 (t : Int)), (7, .int .i64 (s.1 : Int))]) (fun s => [Buf 1 s.2 ((repT n t s.1).map ucell)])
      (fun s => s.1 ≤ n) (fun s => n - s.1) (0, o) ⟨rfl, rfl, rfl, rfl, rfl, trivial⟩ rfl (Nat.zero_le _) ?_
    rintro ⟨i, q⟩ hi next2
    simp only [] at hi next2 ⊢
    have hln := repT_len n t i hi
    have htn : t * n ≤ 4 * 512 := Nat.mul_le_mul (by omega) hn2
    refine W.fact (i := 0) rfl (fun h hb => Buf.slm hb) (fun hsq => ?_)
    by_cases hli : i < n
    · refine W.seq ?_
      refine W.seq ?_
      refine W.region ?_
      refine WL.mv rfl rfl ?_
      refine WL.mv rfl rfl ?_
      refine WL.lss rfl rfl rfl ?_
      refine WL.nil ?_
      refine W.condpT rfl (by omega) ?_
      refine W.skip ?_
      refine W.seq ?_
      refine W.block ?_
      refine W.region ?_
      refine WL.mv rfl rfl ?_
      refine WL.mv rfl rfl ?_
      refine WL.cvK (T := Ty) rfl rfl rfl rfl (wrap_u64 ⟨by omega, by omega⟩) ?_
      refine WL.mulK rfl rfl rfl (wrap_u64 ⟨by omega, by omega⟩) ?_
      refine WL.bsC (T := Ty) rfl rfl rfl rfl rfl rfl rfl (by repeat' first | exact CO.nil | apply CO.one (by first | rfl | exact SL.one (by assumption)) | apply CO.agg) rfl (by repeat' first | exact FL.nil | apply FL.cons) (fun u0 hu0 => ?_)
      refine WL.ap1 (T := Ty) (i := 0) rfl rfl rfl rfl rfl rfl rfl rfl (by assumption) (by first | rfl | assumption) (by first | omega | (simp; omega)) (by first | omega | (simp; omega)) (fun v' => (by repeat' first | exact FL.nil | apply FL.cons)) (fun u1 hu1 => ?_)
      refine WL.as rfl rfl ?_
      refine WL.nil ?_
      refine W.inBlock ?_
      refine W.region ?_
      refine WL.mv rfl rfl ?_
      refine WL.addK rfl rfl rfl (wrap_i64 ⟨by omega, by omega⟩) ?_
      refine WL.as rfl rfl ?_
      refine WL.nil ?_
      refine W.sub ?_ (W.hs (fun h p => ?_) (next2 ⟨i + 1, u1⟩ (by simp only []; omega) (by simp only []; omega)))
      · exact ⟨rfl, rfl, rfl, rfl, rfl, trivial⟩
      · simp only []
        rw [repT_next hli, List.map_append]
        have e : (i : Int) * 3 = ((i * 3 : Nat) : Int) := by omega
        rw [e] at p
        exact p
    · have hie : i = n := by omega
      subst hie
      refine W.seq ?_
      refine W.seq ?_
      refine W.region ?_
      refine WL.mv rfl rfl ?_
      refine WL.mv rfl rfl ?_
      refine WL.lss rfl rfl rfl ?_
      refine WL.nil ?_
      refine W.condpF rfl (by omega) ?_
      refine W.exit rfl ?_
      refine W.inBlock ?_
      refine W.region ?_
      refine WL.mv rfl rfl ?_
      refine WL.addK rfl rfl rfl (wrap_i64 ⟨by omega, by omega⟩) ?_
      refine WL.as rfl rfl ?_
      refine WL.nil ?_
      rw [repT_turn]
      refine W.sub ?_ (next ⟨t + 1, q⟩ (by simp only []; omega) (by simp only []; omega))
      exact ⟨rfl, rfl, rfl, rfl, trivial⟩
  · have hte : t = tm := by omega
    subst hte
    obtain ⟨t, rfl⟩ : ∃ k, t = k + 1 := ⟨t - 1, by omega⟩
    have hu := repT_unl (n := n) (t := t)
    have hln := repT_len n (t + 1) 0 (Nat.zero_le _)
    have htn : (t + 1) * n ≤ 4 * 512 := Nat.mul_le_mul (by omega) hn2
    have hvw : ∀ x ∈ repT n (t + 1) 0, x < 18446744073709551616 := fun x hx => thr_lt hn2 x (repT_mem hx)
    have hpn : 1 * 1 ≤ (t + 1) * n := Nat.mul_le_mul (by omega) hn1
    generalize hvs : repT n (t + 1) 0 = vs at *
    refine W.fact (i := 0) rfl (fun h hb => Buf.slm hb) (fun hsv => ?_)
    have hvl : vs.length ≤ 70000 := by omega
    by_cases h256 : n ≤ 256
    · rw [if_pos h256] at hu
      have h0 : vs ≠ [] := by intro e; rw [e] at hln; simp at hln; omega
      have hen := encD_some h0 hu
      have hwl := wD_le n
      have hdl := encDw_len (thr n) vs (by rw [thr_len]; exact h256)
      have hdw := encDw_lt (v := vs) (by rw [thr_len]; exact h256) (thr_lt hn2)
      have hdec : decD (encDw (thr n) vs) (vs.length : Int) = some vs := decD_encD (by unfold heldM; omega) hvw hen
      refine W.seq ?_
      refine W.seq ?_
      refine W.region ?_
      refine WL.mv rfl rfl ?_
      refine WL.mv rfl rfl ?_
      refine WL.lss rfl rfl rfl ?_
      refine WL.nil ?_
      refine W.condpF rfl (by omega) ?_
      refine W.exit rfl ?_
      refine W.seq ?_
      refine W.region ?_
      refine WL.mv rfl rfl ?_
      refine WL.callF rfl rfl (fun x p d => denc_s _ _ _ (by assumption) (by first | assumption | exact ROs.wide (by assumption) | exact ROs.mono (by assumption) (eqh_at 0 rfl p d) | exact ros_at 0 rfl p d | exact ros_at 1 rfl p d | exact ros_at 2 rfl p d | exact ros_at 3 rfl p d | exact ros_at 4 rfl p d) (by first | assumption | omega | decide) (by first | assumption | omega | decide)) (fun r => ?_)
      refine WL.ex (fun u0 => ?_)
      refine WL.pure (fun er => ?_)
      subst er
      refine WL.fact (i := 0) rfl (fun h hb => Buf.slm hb) (fun hsl0 => ?_)
      refine WL.mv rfl rfl ?_
      refine WL.extL rfl rfl rfl ?_
      refine WL.extL rfl rfl rfl ?_
      refine WL.as rfl rfl ?_
      refine WL.as rfl rfl ?_
      refine WL.nil ?_
      refine W.seq ?_
      refine W.seq ?_
      refine W.region ?_
      refine WL.mv rfl rfl ?_
      refine WL.gtr rfl rfl rfl ?_
      refine WL.nil ?_
      refine W.condpF rfl (by omega) ?_
      refine W.skip ?_
      refine W.seq ?_
      refine W.region ?_
      refine WL.as rfl rfl ?_
      refine WL.nil ?_
      refine W.seq ?_
      refine W.block ?_
      refine W.loopS (σ := Nat) (fun k => [(0, .int .i64 (n : Int)), (5, o), (8, u0), (9, .bool true), (10, .int .i64 (k : Int))]) (fun _ => [Buf 1 u0 ((encDw (thr n) vs).map bcell), Buf 1 o (vs.map ucell)])
        (fun k => k ≤ wD n) (fun k => wD n - k) 0 ⟨rfl, rfl, rfl, rfl, rfl, trivial⟩ rfl (Nat.zero_le _) ?_
      intro k hk next
      have hdv := lenB_div 64 (n - 1) k (by show _ < 18446744073709551616; omega)
      have e2 : min ((k : Int)).toNat IntKind.i64.bits = k := by
        rw [Int.toNat_natCast]
        exact Nat.min_eq_left (by show _ ≤ 64; omega)
      have ex : (((n : Int) - 1) / 2 ^ min ((k : Int)).toNat IntKind.i64.bits) = (((n - 1) / 2 ^ k : Nat) : Int) := by
        rw [e2, show (n : Int) - 1 = ((n - 1 : Nat) : Int) by omega]; push_cast; rfl
      have ewd : lenB 64 (n - 1) = wD n := rfl
      by_cases hkl : k < wD n
      · have hz : 0 < (((n : Int) - 1) / 2 ^ min ((k : Int)).toNat IntKind.i64.bits) := by
          rw [ex]
          have : ¬ (n - 1) / 2 ^ k = 0 := fun e => by have := hdv.1 e; omega
          exact Int.natCast_pos.2 (Nat.pos_of_ne_zero this)
        refine W.seq ?_
        refine W.seq ?_
        refine W.region ?_
        refine WL.mv rfl rfl ?_
        refine WL.subK rfl rfl rfl (wrap_i64 ⟨by omega, by omega⟩) ?_
        refine WL.mv rfl rfl ?_
        refine WL.cvK (T := Ty) rfl rfl rfl rfl (wrap_u64 ⟨by omega, by omega⟩) ?_
        refine WL.shrS rfl rfl rfl (by omega) rfl ?_
        refine WL.gtr rfl rfl rfl ?_
        refine WL.nil ?_
        refine W.condpT rfl (by omega) ?_
        refine W.skip ?_
        refine W.block ?_
        refine W.region ?_
        refine WL.mv rfl rfl ?_
        refine WL.addK rfl rfl rfl (wrap_i64 ⟨by omega, by omega⟩) ?_
        refine WL.as rfl rfl ?_
        refine WL.nil ?_
        refine W.inBlock ?_
        refine W.sub ?_ (next (k + 1) (by omega) (by omega))
        exact ⟨rfl, rfl, rfl, rfl, rfl, trivial⟩
      · have hke : k = wD n := by omega
        have hz : ¬ 0 < (((n : Int) - 1) / 2 ^ min ((k : Int)).toNat IntKind.i64.bits) := by
          rw [ex]
          rw [hdv.2 (by omega)]
          simp
        have hnil : ROs ρ 1 (.slice none 0 0) (([] : List Nat).map bcell) := ros_nil ρ 1
        have hnl : ([] : List Nat).length + 10 ≤ 140737488355328 := by decide
        refine W.seq ?_
        refine W.seq ?_
        refine W.region ?_
        refine WL.mv rfl rfl ?_
        refine WL.subK rfl rfl rfl (wrap_i64 ⟨by omega, by omega⟩) ?_
        refine WL.mv rfl rfl ?_
        refine WL.cvK (T := Ty) rfl rfl rfl rfl (wrap_u64 ⟨by omega, by omega⟩) ?_
        refine WL.shrS rfl rfl rfl (by omega) rfl ?_
        refine WL.gtr rfl rfl rfl ?_
        refine WL.nil ?_
        refine W.condpF rfl (by omega) ?_
        refine W.exit rfl ?_
        refine W.seq ?_
        refine W.region ?_
        refine WL.mv rfl rfl ?_
        refine WL.cvK (T := Ty) rfl rfl rfl rfl (wrap_u64 ⟨by omega, by omega⟩) ?_
        refine WL.callF rfl rfl (fun x p d => rput_c _ _ _ _ (by first | assumption | exact ROs.wide (by assumption) | exact ROs.mono (by assumption) (eqh_at 0 rfl p d) | exact ros_at 0 rfl p d | exact ros_at 1 rfl p d | exact ros_at 2 rfl p d | exact ros_at 3 rfl p d | exact ros_at 4 rfl p d) (by first | assumption | omega) (by first | assumption | omega | (simp only [List.length_append]; omega))) (fun u1 => ?_)
        refine WL.fact (i := 0) rfl (fun h hb => Buf.slm hb) (fun hsl1 => ?_)
        refine WL.as rfl rfl ?_
        refine WL.nil ?_
        refine W.seq ?_
        refine W.seq ?_
        refine W.region ?_
        refine WL.as rfl rfl ?_
        refine WL.nil ?_
        refine W.block ?_
        refine W.loopS (σ := Nat × Value) (fun s => [(0, .int .i64 (n : Int)), (5, o), (8, u0), (9, .bool true), (10, .int .i64 (k : Int)), (11, s.2), (12, .int .i64 (s.1 : Int))]) (fun s => [Buf 1 s.2 ((vputF 9 n ++ ((thr n).take s.1).flatMap (vputF 9)).map bcell), Buf 1 u0 ((encDw (thr n) vs).map bcell), Buf 1 o (vs.map ucell)])
          (fun s => s.1 ≤ n) (fun s => n - s.1) (0, u1) ⟨rfl, rfl, rfl, rfl, rfl, rfl, rfl, trivial⟩ (by simp) (Nat.zero_le _) ?_
        rintro ⟨i, q⟩ hi next2
        simp only [] at hi next2 ⊢
        have hfl := flatput_len ((thr n).take i)
        rw [List.length_take, thr_len, Nat.min_eq_left hi] at hfl
        have hv9 := vput_len 9 n
        have hol : (vputF 9 n ++ ((thr n).take i).flatMap (vputF 9)).length ≤ 2700 := by rw [List.length_append]; omega
        refine W.fact (i := 0) rfl (fun h hb => Buf.slm hb) (fun hso => ?_)
        by_cases hli : i < n
        · have e3 : (i : Int) * 3 = ((i * 3 : Nat) : Int) := by omega
          refine W.seq ?_
          refine W.seq ?_
          refine W.region ?_
          refine WL.mv rfl rfl ?_
          refine WL.mv rfl rfl ?_
          refine WL.lss rfl rfl rfl ?_
          refine WL.nil ?_
          refine W.condpT rfl (by omega) ?_
          refine W.skip ?_
          refine W.seq ?_
          refine W.block ?_
          refine W.region ?_
          refine WL.mv rfl rfl ?_
          refine WL.mv rfl rfl ?_
          refine WL.cvK (T := Ty) rfl rfl rfl rfl (wrap_u64 ⟨by omega, by omega⟩) ?_
          refine WL.mulK rfl rfl rfl (wrap_u64 ⟨by omega, by omega⟩) ?_
          rw [e3]
          refine WL.callF rfl rfl (fun x p d => rput_c _ _ _ _ (by first | assumption | exact ROs.wide (by assumption) | exact ROs.mono (by assumption) (eqh_at 0 rfl p d) | exact ros_at 0 rfl p d | exact ros_at 1 rfl p d | exact ros_at 2 rfl p d | exact ros_at 3 rfl p d | exact ros_at 4 rfl p d) (by first | assumption | omega) (by first | assumption | omega | (simp only [List.length_append]; omega))) (fun u2 => ?_)
          refine WL.fact (i := 0) rfl (fun h hb => Buf.slm hb) (fun hsl2 => ?_)
          refine WL.as rfl rfl ?_
          refine WL.nil ?_
          refine W.inBlock ?_
          refine W.region ?_
          refine WL.mv rfl rfl ?_
          refine WL.addK rfl rfl rfl (wrap_i64 ⟨by omega, by omega⟩) ?_
          refine WL.as rfl rfl ?_
          refine WL.nil ?_
          refine W.drop 1 rfl (by repeat' first | exact FL.nil | apply FL.cons) ?_
          refine W.sub ?_ (W.hs (fun h p => ?_) (next2 ⟨i + 1, u2⟩ (by simp only []; omega) (by simp only []; omega)))
          · exact ⟨rfl, rfl, rfl, rfl, rfl, rfl, rfl, trivial⟩
          · simp only []
            have e : vputF 9 n ++ ((thr n).take (i + 1)).flatMap (vputF 9) = vputF 9 n ++ ((thr n).take i).flatMap (vputF 9) ++ vputF 9 (i * 3) := by rw [List.take_add_one, thr_get hli]; simp
            rw [e]
            exact p
        · have hie : i = n := by omega
          have hhd : vputF 9 n ++ ((thr n).take i).flatMap (vputF 9) = headD (thr n) := by rw [hie, List.take_of_length_le (Nat.le_of_eq (thr_len n))]; unfold headD; rw [thr_len]
          rw [hhd] at hol hso ⊢
          have hss : vs.length ≤ 17592186044416 := by omega
          have hkv : k * vs.length ≤ 64 * 2048 := Nat.mul_le_mul (by omega) (by omega)
          have hmw : IntKind.i64.wrap ((k : Int) * (vs.length : Int)) = ((k * vs.length : Nat) : Int) := by
            rw [← Int.natCast_mul]
            exact wrap_i64 ⟨by omega, by omega⟩
          have hlen : (encDw (thr n) vs).length = (headD (thr n)).length + (k * vs.length + 7) / 8 := by
            unfold encDw
            rw [List.length_append, pack_len, bitsL_len, thr_len, hke, Nat.mul_comm]
            simp [placesD]
          have hmin : min ((headD (thr n)).length : Int) ((encDw (thr n) vs).length : Int) = ((headD (thr n)).length : Int) := by omega
          have htk : strN ((encDw (thr n) vs).take (headD (thr n)).length) = strN (headD (thr n)) := by
            unfold encDw
            rw [List.take_left]
          refine W.seq ?_
          refine W.seq ?_
          refine W.region ?_
          refine WL.mv rfl rfl ?_
          refine WL.mv rfl rfl ?_
          refine WL.lss rfl rfl rfl ?_
          refine WL.nil ?_
          refine W.condpF rfl (by omega) ?_
          refine W.exit rfl ?_
          refine W.seq ?_
          refine W.region ?_
          refine WL.mv rfl rfl ?_
          refine WL.mv rfl rfl ?_
          refine WL.len (T := Ty) rfl rfl (by assumption) rfl ?_
          refine WL.callF rfl rfl (fun x p d => ddec_s _ _ _ _ (by first | assumption | exact ROs.wide (by assumption) | exact ROs.mono (by assumption) (eqh_at 0 rfl p d) | exact ros_at 0 rfl p d | exact ros_at 1 rfl p d | exact ros_at 2 rfl p d | exact ros_at 3 rfl p d | exact ros_at 4 rfl p d) (by assumption) (by first | assumption | omega | decide) (by first | assumption | omega | decide)) (fun r => ?_)
          refine WL.ex (fun u2 => ?_)
          refine WL.pure (fun er => ?_)
          subst er
          refine WL.fact (i := 0) rfl (fun h hb => Buf.slm hb) (fun hsl2 => ?_)
          refine WL.mv rfl rfl ?_
          refine WL.extL rfl rfl rfl ?_
          refine WL.extL rfl rfl rfl ?_
          refine WL.as rfl rfl ?_
          refine WL.as rfl rfl ?_
          refine WL.nil ?_
          refine W.seq ?_
          refine W.drawA 39 rfl (fun σ0 hσ0 dσ0 => ?_)
          have fσ0_0 := ros_at 0 rfl hσ0 dσ0
          have fσ0_1 := ros_at 1 rfl hσ0 dσ0
          have fσ0_2 := ros_at 2 rfl hσ0 dσ0
          have fσ0_3 := ros_at 3 rfl hσ0 dσ0
          refine WD.takeL 0 rfl (by decide +kernel) ?_
          refine WL.mv rfl rfl ?_
          refine WL.nilT ?_
          refine WD.takeL 1 rfl (by decide +kernel) ?_
          refine WL.mv rfl rfl ?_
          refine WL.nilT ?_
          refine WD.takeL 2 rfl (by decide +kernel) ?_
          refine WL.gY rfl rfl ?_
          refine WL.mv rfl rfl ?_
          refine WL.nilT ?_
          refine WD.takeL 3 rfl (by decide +kernel) ?_
          refine WL.gY rfl rfl ?_
          refine WL.len (T := Ty) rfl rfl (by assumption) rfl ?_
          refine WL.nilT ?_
          refine WD.takeL 4 rfl (by decide +kernel) ?_
          refine WL.gY rfl rfl ?_
          refine WL.mv rfl rfl ?_
          refine WL.nilT ?_
          refine WD.takeL 5 rfl (by decide +kernel) ?_
          refine WL.gY rfl rfl ?_
          refine WL.len (T := Ty) rfl rfl (by assumption) rfl ?_
          refine WL.nilT ?_
          refine WD.takeL 6 rfl (by decide +kernel) ?_
          refine WL.gY rfl rfl ?_
          refine WL.mv rfl rfl ?_
          refine WL.nilT ?_
          refine WD.takeL 7 rfl (by decide +kernel) ?_
          refine WL.gY rfl rfl ?_
          refine WL.mv rfl rfl ?_
          refine WL.nilT ?_
          refine WD.takeL 8 rfl (by decide +kernel) ?_
          refine WL.gY rfl rfl ?_
          refine WL.len (T := Ty) rfl rfl (by assumption) rfl ?_
          refine WL.nilT ?_
          refine WD.takeL 9 rfl (by decide +kernel) ?_
          refine WL.gY rfl rfl ?_
          refine WL.mulK rfl rfl rfl (wrap_i64 ⟨by omega, by omega⟩) ?_
          refine WL.nilT ?_
          refine WD.takeL 10 rfl (by decide +kernel) ?_
          refine WL.gY rfl rfl ?_
          refine WL.addK rfl rfl rfl (wrap_i64 ⟨by omega, by omega⟩) ?_
          refine WL.nilT ?_
          refine WD.takeL 11 rfl (by decide +kernel) ?_
          refine WL.gY rfl rfl ?_
          refine WL.quoI rfl rfl rfl (by omega) (by omega) (by omega) ?_
          refine WL.nilT ?_
          refine WD.takeL 12 rfl (by decide +kernel) ?_
          refine WL.gY rfl rfl ?_
          refine WL.addK rfl rfl rfl (wrap_i64 ⟨by omega, by omega⟩) ?_
          refine WL.nilT ?_
          refine WD.takeL 13 rfl (by decide +kernel) ?_
          refine WL.gY rfl rfl ?_
          refine WL.eql rfl rfl rfl ?_
          refine WL.nilT ?_
          refine WD.takeL 14 rfl (by decide +kernel) ?_
          refine WL.pickT rfl rfl rfl ?_
          refine WL.nilT ?_
          refine WD.takeL 15 rfl (by decide +kernel) ?_
          refine WL.mv rfl rfl ?_
          refine WL.nilT ?_
          refine WD.takeL 16 rfl (by decide +kernel) ?_
          refine WL.gT rfl rfl (by omega) ?_
          refine WL.mv rfl rfl ?_
          refine WL.nilT ?_
          refine WD.takeL 17 rfl (by decide +kernel) ?_
          refine WL.gT rfl rfl (by omega) ?_
          refine WL.mv rfl rfl ?_
          refine WL.nilT ?_
          refine WD.takeL 18 rfl (by decide +kernel) ?_
          refine WL.gT rfl rfl (by omega) ?_
          refine WL.len (T := Ty) rfl rfl (by assumption) rfl ?_
          refine WL.nilT ?_
          refine WD.takeL 19 rfl (by decide +kernel) ?_
          refine WL.gT rfl rfl (by omega) ?_
          refine WL.mv rfl rfl ?_
          refine WL.nilT ?_
          refine WD.takeL 20 rfl (by decide +kernel) ?_
          refine WL.gT rfl rfl (by omega) ?_
          refine WL.len (T := Ty) rfl rfl (by assumption) rfl ?_
          refine WL.nilT ?_
          refine WD.takeL 21 rfl (by decide +kernel) ?_
          refine WL.gT rfl rfl (by omega) ?_
          refine WL.mn rfl rfl rfl ?_
          refine WL.nilT ?_
          refine WD.takeL 22 rfl (by decide +kernel) ?_
          refine WL.gT rfl rfl (by omega) ?_
          rw [hmin]
          refine WL.slTn (T := Ty) rfl rfl rfl rfl rfl (by first | assumption | exact ROs.wide (by assumption)) (by first | assumption | omega | (simp; omega)) (fun u3 hu3 ru3 => ?_)
          refine WL.nilT ?_
          refine WD.takeL 23 rfl (by decide +kernel) ?_
          refine WL.gT rfl rfl (by omega) ?_
          refine WL.b2sRN (T := Ty) rfl rfl rfl rfl rfl rfl rfl (by assumption) ?_
          refine WL.nilT ?_
          refine WD.takeL 24 rfl (by decide +kernel) ?_
          refine WL.gT rfl rfl (by omega) ?_
          refine WL.mv rfl rfl ?_
          refine WL.nilT ?_
          refine WD.takeL 25 rfl (by decide +kernel) ?_
          refine WL.gT rfl rfl (by omega) ?_
          refine WL.b2sRN (T := Ty) rfl rfl rfl rfl rfl rfl rfl (by assumption) ?_
          refine WL.nilT ?_
          refine WD.takeL 26 rfl (by decide +kernel) ?_
          refine WL.gT rfl rfl (by omega) ?_
          refine WL.eqST rfl rfl rfl (by first | with_reducible rfl | assumption) ?_
          refine WL.nilT ?_
          refine WD.takeL 27 rfl (by decide +kernel) ?_
          refine WL.pickTp rfl rfl (by omega) rfl ?_
          refine WL.nilT ?_
          refine WD.takeL 28 rfl (by decide +kernel) ?_
          refine WL.mv rfl rfl ?_
          refine WL.nilT ?_
          refine WD.takeL 29 rfl (by decide +kernel) ?_
          refine WL.gY rfl rfl ?_
          refine WL.mv rfl rfl ?_
          refine WL.nilT ?_
          refine WD.takeL 30 rfl (by decide +kernel) ?_
          refine WL.pickT rfl rfl rfl ?_
          refine WL.nilT ?_
          refine WD.takeL 31 rfl (by decide +kernel) ?_
          refine WL.mv rfl rfl ?_
          refine WL.nilT ?_
          refine WD.takeL 32 rfl (by decide +kernel) ?_
          refine WL.gY rfl rfl ?_
          refine WL.mv rfl rfl ?_
          refine WL.nilT ?_
          refine WD.takeL 33 rfl (by decide +kernel) ?_
          refine WL.gY rfl rfl ?_
          refine WL.mv rfl rfl ?_
          refine WL.nilT ?_
          refine WD.oneL 34 rfl (by decide +kernel) ?_
          refine WL.gY rfl rfl ?_
          refine WL.callV rfl rfl (fun x p d => samew_t _ _ _ _ _ (by first | with_reducible rfl | assumption) (by first | assumption | exact ROs.wide (by assumption) | exact ROs.mono (by assumption) (eqh_at 0 rfl p d) | exact ros_at 0 rfl p d | exact ros_at 1 rfl p d | exact ros_at 2 rfl p d | exact ros_at 3 rfl p d | exact ros_at 4 rfl p d) (by first | assumption | exact ROs.wide (by assumption) | exact ROs.mono (by assumption) (eqh_at 0 rfl p d) | exact ros_at 0 rfl p d | exact ros_at 1 rfl p d | exact ros_at 2 rfl p d | exact ros_at 3 rfl p d | exact ros_at 4 rfl p d) (by first | assumption | omega | exact Nat.zero_le _ | decide)) ?_
          refine WL.nilE ?_
          refine WD.takeL 35 rfl (by decide +kernel) ?_
          refine WL.pickT rfl rfl rfl ?_
          refine WL.nilT ?_
          refine WD.takeL 36 rfl (by decide +kernel) ?_
          refine WL.mv rfl rfl ?_
          refine WL.nilT ?_
          refine WD.oneL 37 rfl (by decide +kernel) ?_
          refine WL.gY rfl rfl ?_
          refine WL.callT rfl rfl (fun x p d => awake9_c _) ?_
          refine WL.nilE ?_
          refine WD.takeL 38 rfl (by decide +kernel) ?_
          refine WL.pickT rfl rfl rfl ?_
          refine WL.nilT ?_
          refine WD.lastG hσ0 (by decide +kernel) (by repeat' first | exact FL.nil | apply FL.cons) rfl (by repeat' first | exact FL.nil | apply FL.cons) ?_
          refine WL.as rfl rfl ?_
          refine WL.nil ?_
          exact W.ret1 rfl rfl (fun h p => rfl)
    · rw [if_neg h256] at hu
      have hen := encD_none hu
      refine W.seq ?_
      refine W.seq ?_
      refine W.region ?_
      refine WL.mv rfl rfl ?_
      refine WL.mv rfl rfl ?_
      refine WL.lss rfl rfl rfl ?_
      refine WL.nil ?_
      refine W.condpF rfl (by omega) ?_
      refine W.exit rfl ?_
      refine W.seq ?_
      refine W.region ?_
      refine WL.mv rfl rfl ?_
      refine WL.callF rfl rfl (fun x p d => denc_n _ _ _ (by assumption) (by first | assumption | exact ROs.wide (by assumption) | exact ROs.mono (by assumption) (eqh_at 0 rfl p d) | exact ros_at 0 rfl p d | exact ros_at 1 rfl p d | exact ros_at 2 rfl p d | exact ros_at 3 rfl p d | exact ros_at 4 rfl p d) (by first | assumption | omega | decide) (by first | assumption | omega | decide)) (fun r => ?_)
      refine WL.ex (fun u0 => ?_)
      refine WL.pure (fun er => ?_)
      subst er
      refine WL.fact (i := 0) rfl (fun h hb => Buf.slm hb) (fun hsl0 => ?_)
      refine WL.mv rfl rfl ?_
      refine WL.extL rfl rfl rfl ?_
      refine WL.extL rfl rfl rfl ?_
      refine WL.as rfl rfl ?_
      refine WL.as rfl rfl ?_
      refine WL.nil ?_
      refine W.seq ?_
      refine W.seq ?_
      refine W.region ?_
      refine WL.mv rfl rfl ?_
      refine WL.gtr rfl rfl rfl ?_
      refine WL.nil ?_
      refine W.condpT rfl (by omega) ?_
      refine W.seq ?_
      refine W.region ?_
      refine WL.mv rfl rfl ?_
      refine WL.not rfl rfl ?_
      refine WL.mv rfl rfl ?_
      refine WL.gY rfl rfl ?_
      refine WL.mv rfl rfl ?_
      refine WL.gY rfl rfl ?_
      refine WL.len (T := Ty) rfl rfl (by assumption) rfl ?_
      refine WL.gY rfl rfl ?_
      refine WL.eql rfl rfl rfl ?_
      refine WL.pickT rfl rfl rfl ?_
      refine WL.mv rfl rfl ?_
      refine WL.gY rfl rfl ?_
      refine WL.callT rfl rfl (fun x p d => awake9_c _) ?_
      refine WL.pickT rfl rfl rfl ?_
      refine WL.as rfl rfl ?_
      refine WL.nil ?_
      exact W.ret1 rfl rfl (fun h p => rfl)
end Go.Proofs.Ytjibmfkhhljhcaa
