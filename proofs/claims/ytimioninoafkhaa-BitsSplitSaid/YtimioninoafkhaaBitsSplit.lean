/- BitsSplit. -/
import Derived.Test.YtimioninoafkhaaInn
import Derived.Test.YtimioninoafkhaaNum
import Derived.Test.YtimioninoafkhaaTab
import Derived.Test.YtimioninoafkhaaBitsAwake
set_option linter.unusedSimpArgs false
set_option linter.unusedVariables false
set_option maxRecDepth 20000
set_option maxHeartbeats 4000000
namespace Go.Proofs.Ytimioninoafkhaa
open Go
attribute [local irreducible] W WL Fn Buf ROs SL eptr box Rd Src bndOK WD RB Reads In

theorem BitsSplit_fn (ρ : Hp) (a0 : Int) (w0 : (Lit.int .u64 a0).wf = true) (a1 : Int) (w1 : (Lit.int .i64 a1).wf = true) (a2 : Int) (w2 : (Lit.int .i64 a2).wf = true) (a3 : Int) (w3 : (Lit.int .u64 a3).wf = true) (a4 : Int) (w4 : (Lit.int .i64 a4).wf = true) :
    Fn Try.prog 12 #[.int .u64 a0, .int .i64 a1, .int .i64 a2, .int .u64 a3, .int .i64 a4] ρ [] (fun r _ => r = .bool true) := by
  have h0 := wf_u64 w0
  have h3 := wf_u64 w3
  have hA0 : 0 ≤ a2 % (255 + 1) % (a1 % (63 + 1) + 1 + 1) := Int.emod_nonneg _ (by omega)
  have hA1 : a2 % (255 + 1) % (a1 % (63 + 1) + 1 + 1) < a1 % (63 + 1) + 1 + 1 := Int.emod_lt_of_pos _ (by omega)
  obtain ⟨A, hA⟩ : ∃ A, A = a2 % (255 + 1) % (a1 % (63 + 1) + 1 + 1) := ⟨_, rfl⟩
  obtain ⟨N, hN⟩ : ∃ N, N = a1 % (63 + 1) + 1 := ⟨_, rfl⟩
  have hl1 : ∀ n : Int, heldF n ≤ 64 := held_le
  have hsh0 : 0 ≤ a0 / 2 ^ min ((N - A).toNat) IntKind.u64.bits := Int.ediv_nonneg h0.1 (by exact Int.pow_nonneg (by decide))
  have hsh1 : a0 / 2 ^ min ((N - A).toNat) IntKind.u64.bits < 18446744073709551616 := by
    have := Int.ediv_le_self (2 ^ min ((N - A).toNat) IntKind.u64.bits) h0.1
    omega
  have hk : heldF N = heldF A + heldF (N - A) := by unfold heldF; omega
  have hsh : (a0 / 2 ^ min ((N - A).toNat) IntKind.u64.bits).toNat = a0.toNat / 2 ^ heldF (N - A) := by
    have e1 : min ((N - A).toNat) IntKind.u64.bits = heldF (N - A) := by unfold heldF; simp [IntKind.bits]; omega
    have e3 : ∀ x k : Nat, ((x : Int) / 2 ^ k).toNat = x / 2 ^ k := fun x k => by
      have e : (x : Int) / 2 ^ k = ((x / 2 ^ k : Nat) : Int) := by push_cast; rfl
      rw [e]; exact Int.toNat_natCast _
    have := e3 a0.toNat (heldF (N - A))
    rw [Int.toNat_of_nonneg h0.1] at this
    rw [e1, this]
  have hbits : [] ++ bitsOf a3.toNat (heldF (a4 % (63 + 1))) ++ bitsOf a0.toNat (heldF N) = [] ++ bitsOf a3.toNat (heldF (a4 % (63 + 1))) ++ bitsOf (a0 / 2 ^ min ((N - A).toNat) IntKind.u64.bits).toNat (heldF A) ++ bitsOf a0.toNat (heldF (N - A)) := by
    rw [hsh, hk, bitsOf_split, List.append_assoc ([] ++ _)]
  have hstr := congrArg (fun l => strN (pack l)) hbits
  have hstr' := hstr.symm
  have hlen1 := congrArg List.length hbits
  have hplX := pack_len ([] ++ bitsOf a3.toNat (heldF (a4 % (63 + 1))) ++ bitsOf a0.toNat (heldF N))
  have hlen1' := congrArg (fun l => (pack l).length) hbits
  have hlen2 : ((([] ++ bitsOf a3.toNat (heldF (a4 % (63 + 1))) ++ bitsOf a0.toNat (heldF N)).length : Nat) : Int) = a4 % (63 + 1) + N := by
    simp only [List.length_append, bitsOf_len, List.length_nil, heldF]; omega
  subst hA
  subst hN
  refine in12 rfl rfl ?_
  refine W.seq ?_
  refine W.region ?_
  refine WL.as rfl rfl ?_
  refine WL.nil ?_
  refine W.seq ?_
  refine W.region ?_
  refine WL.mv rfl rfl ?_
  refine WL.andI rfl rfl rfl (by decide) ?_
  refine WL.addK rfl rfl rfl (wrap_i64 ⟨by omega, by omega⟩) ?_
  refine WL.as rfl rfl ?_
  refine WL.nil ?_
  refine W.seq ?_
  refine W.region ?_
  refine WL.mv rfl rfl ?_
  refine WL.andI rfl rfl rfl (by decide) ?_
  refine WL.mv rfl rfl ?_
  refine WL.addK rfl rfl rfl (wrap_i64 ⟨by omega, by omega⟩) ?_
  refine WL.remI rfl rfl rfl (by omega) (by omega) ?_
  refine WL.as rfl rfl ?_
  refine WL.nil ?_
  refine W.seq ?_
  refine W.region ?_
  refine WL.mv rfl rfl ?_
  refine WL.andI rfl rfl rfl (by decide) ?_
  refine WL.as rfl rfl ?_
  refine WL.nil ?_
  refine W.seq ?_
  refine W.region ?_
  refine WL.callF rfl rfl (fun x p d => newWriter_c _) (fun r => ?_)
  refine WL.ex (fun b0 => ?_)
  refine WL.pure (fun er => ?_)
  subst er
  refine WL.callF rfl rfl (fun x p d => newWriter_c _) (fun r => ?_)
  refine WL.ex (fun b1 => ?_)
  refine WL.pure (fun er => ?_)
  subst er
  refine WL.as rfl rfl ?_
  refine WL.as rfl rfl ?_
  refine WL.nil ?_
  refine W.seq ?_
  refine W.seq ?_
  refine W.region ?_
  refine WL.mv rfl rfl ?_
  refine WL.eqP (T := Ty) rfl rfl rfl ?_
  refine WL.mv rfl rfl ?_
  refine WL.gY rfl rfl ?_
  refine WL.mv rfl rfl ?_
  refine WL.gY rfl rfl ?_
  refine WL.eqP (T := Ty) rfl rfl rfl ?_
  refine WL.pickF rfl rfl rfl ?_
  refine WL.nil ?_
  refine W.condF rfl ?_
  refine W.skip ?_
  refine W.seq ?_
  refine W.region ?_
  refine WL.mv rfl rfl ?_
  refine WL.mv rfl rfl ?_
  refine WL.mv rfl rfl ?_
  refine WL.callM 1 rfl rfl rfl (fun x p d => put_ci _ _ _ _ _ (by omega) (by omega) (by repeat' first | assumption | exact bok_nil | exact bitsOf_bit _ _ | apply bok_app) (by first | assumption | omega | (simp only [List.length_append, bitsOf_len, List.length_nil, heldF]; omega))) (by repeat' first | exact FL.nil | apply FL.cons) ?_
  refine WL.nil ?_
  refine W.seq ?_
  refine W.region ?_
  refine WL.mv rfl rfl ?_
  refine WL.mv rfl rfl ?_
  refine WL.mv rfl rfl ?_
  refine WL.callM 0 rfl rfl rfl (fun x p d => put_ci _ _ _ _ _ (by omega) (by omega) (by repeat' first | assumption | exact bok_nil | exact bitsOf_bit _ _ | apply bok_app) (by first | assumption | omega | (simp only [List.length_append, bitsOf_len, List.length_nil, heldF]; omega))) (by repeat' first | exact FL.nil | apply FL.cons) ?_
  refine WL.nil ?_
  refine W.seq ?_
  refine W.region ?_
  refine WL.mv rfl rfl ?_
  refine WL.mv rfl rfl ?_
  refine WL.mv rfl rfl ?_
  refine WL.callM 1 rfl rfl rfl (fun x p d => put_ci _ _ _ _ _ (by omega) (by omega) (by repeat' first | assumption | exact bok_nil | exact bitsOf_bit _ _ | apply bok_app) (by first | assumption | omega | (simp only [List.length_append, bitsOf_len, List.length_nil, heldF]; omega))) (by repeat' first | exact FL.nil | apply FL.cons) ?_
  refine WL.nil ?_
  refine W.seq ?_
  refine W.region ?_
  refine WL.mv rfl rfl ?_
  refine WL.mv rfl rfl ?_
  refine WL.mv rfl rfl ?_
  refine WL.mv rfl rfl ?_
  refine WL.subK rfl rfl rfl (wrap_i64 ⟨by omega, by omega⟩) ?_
  refine WL.cvK (T := Ty) rfl rfl rfl rfl (wrap_u64 ⟨by omega, by omega⟩) ?_
  refine WL.shrS rfl rfl rfl (by omega) rfl ?_
  refine WL.mv rfl rfl ?_
  refine WL.callM 0 rfl rfl rfl (fun x p d => put_ci _ _ _ _ _ (by omega) (by omega) (by repeat' first | assumption | exact bok_nil | exact bitsOf_bit _ _ | apply bok_app) (by first | assumption | omega | (simp only [List.length_append, bitsOf_len, List.length_nil, heldF]; omega))) (by repeat' first | exact FL.nil | apply FL.cons) ?_
  refine WL.nil ?_
  refine W.seq ?_
  refine W.region ?_
  refine WL.mv rfl rfl ?_
  refine WL.mv rfl rfl ?_
  refine WL.mv rfl rfl ?_
  refine WL.mv rfl rfl ?_
  refine WL.subK rfl rfl rfl (wrap_i64 ⟨by omega, by omega⟩) ?_
  refine WL.callM 0 rfl rfl rfl (fun x p d => put_ci _ _ _ _ _ (by omega) (by omega) (by repeat' first | assumption | exact bok_nil | exact bitsOf_bit _ _ | apply bok_app) (by first | assumption | omega | (simp only [List.length_append, bitsOf_len, List.length_nil, heldF]; omega))) (by repeat' first | exact FL.nil | apply FL.cons) ?_
  refine WL.nil ?_
  refine W.seq ?_
  refine W.region ?_
  refine WL.mv rfl rfl ?_
  refine WL.callF rfl rfl (fun x p d => bytes_c _ _ _ (by first | assumption | exact In.wide (by assumption) | exact In.mono (by assumption) (eqh_at 0 rfl p d) | exact in_at 0 rfl p d | exact in_at 1 rfl p d | exact in_at 2 rfl p d | exact in_at 3 rfl p d | exact in_at 4 rfl p d) (by first | assumption | omega | (simp only [List.length_append, bitsOf_len, List.length_nil, heldF]; omega))) (fun u2 => ?_)
  refine WL.fact (i := 0) rfl (fun h hb => Buf.slm hb) (fun hsl2 => ?_)
  refine WL.mv rfl rfl ?_
  refine WL.callF rfl rfl (fun x p d => bytes_c _ _ _ (by first | assumption | exact In.wide (by assumption) | exact In.mono (by assumption) (eqh_at 0 rfl p d) | exact in_at 0 rfl p d | exact in_at 1 rfl p d | exact in_at 2 rfl p d | exact in_at 3 rfl p d | exact in_at 4 rfl p d) (by first | assumption | omega | (simp only [List.length_append, bitsOf_len, List.length_nil, heldF]; omega))) (fun u3 => ?_)
  refine WL.fact (i := 0) rfl (fun h hb => Buf.slm hb) (fun hsl3 => ?_)
  refine WL.as rfl rfl ?_
  refine WL.as rfl rfl ?_
  refine WL.nil ?_
  refine W.seq ?_
  refine W.seq ?_
  refine W.region ?_
  refine WL.mv rfl rfl ?_
  refine WL.b2sN (T := Ty) rfl rfl rfl rfl rfl rfl rfl (.own 1 rfl) ?_
  refine WL.mv rfl rfl ?_
  refine WL.b2sN (T := Ty) rfl rfl rfl rfl rfl rfl rfl (.own 0 rfl) ?_
  refine WL.neST rfl rfl rfl (by first | with_reducible rfl | assumption) ?_
  refine WL.mv rfl rfl ?_
  refine WL.gY rfl rfl ?_
  refine WL.mv rfl rfl ?_
  refine WL.gY rfl rfl ?_
  refine WL.callV rfl rfl (fun x p d => len_c _ _ _ (by first | assumption | exact In.wide (by assumption) | exact In.mono (by assumption) (eqh_at 0 rfl p d) | exact in_at 0 rfl p d | exact in_at 1 rfl p d | exact in_at 2 rfl p d | exact in_at 3 rfl p d | exact in_at 4 rfl p d)) ?_
  refine WL.gY rfl rfl ?_
  refine WL.mv rfl rfl ?_
  refine WL.gY rfl rfl ?_
  refine WL.callV rfl rfl (fun x p d => len_c _ _ _ (by first | assumption | exact In.wide (by assumption) | exact In.mono (by assumption) (eqh_at 0 rfl p d) | exact in_at 0 rfl p d | exact in_at 1 rfl p d | exact in_at 2 rfl p d | exact in_at 3 rfl p d | exact in_at 4 rfl p d)) ?_
  refine WL.gY rfl rfl ?_
  refine WL.neq rfl rfl rfl ?_
  refine WL.pickF rfl rfl rfl ?_
  refine WL.mv rfl rfl ?_
  refine WL.gF rfl rfl (by omega) ?_
  refine WL.mv rfl rfl ?_
  refine WL.gF rfl rfl (by omega) ?_
  refine WL.callV rfl rfl (fun x p d => len_c _ _ _ (by first | assumption | exact In.wide (by assumption) | exact In.mono (by assumption) (eqh_at 0 rfl p d) | exact in_at 0 rfl p d | exact in_at 1 rfl p d | exact in_at 2 rfl p d | exact in_at 3 rfl p d | exact in_at 4 rfl p d)) ?_
  refine WL.gF rfl rfl (by omega) ?_
  refine WL.mv rfl rfl ?_
  refine WL.gF rfl rfl (by omega) ?_
  refine WL.mv rfl rfl ?_
  refine WL.gF rfl rfl (by omega) ?_
  refine WL.addK rfl rfl rfl (wrap_i64 ⟨by omega, by omega⟩) ?_
  refine WL.gF rfl rfl (by omega) ?_
  refine WL.neq rfl rfl rfl ?_
  refine WL.pickFp rfl rfl (by omega) rfl ?_
  refine WL.nil ?_
  refine W.condpF rfl (by omega) ?_
  refine W.skip ?_
  refine W.seq ?_
  refine W.region ?_
  refine WL.mv rfl rfl ?_
  refine WL.b2sN (T := Ty) rfl rfl rfl rfl rfl rfl rfl (.own 1 rfl) ?_
  refine WL.as rfl rfl ?_
  refine WL.nil ?_
  refine W.seq ?_
  refine W.region ?_
  refine WL.mv rfl rfl ?_
  refine WL.callM 3 rfl rfl rfl (fun x p d => put_ci _ _ _ _ _ (by omega) (by omega) (by repeat' first | assumption | exact bok_nil | exact bitsOf_bit _ _ | apply bok_app) (by first | assumption | omega | (simp only [List.length_append, bitsOf_len, List.length_nil, heldF]; omega))) (by repeat' first | exact FL.nil | apply FL.cons) ?_
  refine WL.nil ?_
  refine W.seq ?_
  refine W.region ?_
  refine WL.mv rfl rfl ?_
  refine WL.callF rfl rfl (fun x p d => bytes_c _ _ _ (by first | assumption | exact In.wide (by assumption) | exact In.mono (by assumption) (eqh_at 0 rfl p d) | exact in_at 0 rfl p d | exact in_at 1 rfl p d | exact in_at 2 rfl p d | exact in_at 3 rfl p d | exact in_at 4 rfl p d) (by first | assumption | omega | (simp only [List.length_append, bitsOf_len, List.length_nil, heldF]; omega))) (fun u4 => ?_)
  refine WL.fact (i := 0) rfl (fun h hb => Buf.slm hb) (fun hsl4 => ?_)
  refine WL.as rfl rfl ?_
  refine WL.nil ?_
  refine W.seq ?_
  refine W.seq ?_
  refine W.region ?_
  refine WL.mv rfl rfl ?_
  refine WL.len (T := Ty) rfl rfl (by assumption) rfl ?_
  refine WL.mv rfl rfl ?_
  refine WL.nil ?_
  refine W.block ?_
  refine W.drop 4 rfl (by repeat' first | exact FL.nil | apply FL.cons) ?_
  refine W.drop 1 rfl (by repeat' first | exact FL.nil | apply FL.cons) ?_
  refine W.loopS (σ := Nat × List Nat) (fun s => [(12, ptr b1), (13, u2), (15, .string (strN (pack ([] ++ bitsOf a3.toNat (heldF (a4 % (63 + 1))) ++ bitsOf a0.toNat (heldF (a1 % (63 + 1) + 1)))))), (16, u4), (94, .int .i64 ((pack ([] ++ bitsOf a3.toNat (heldF (a4 % (63 + 1))) ++ bitsOf (a0 / 2 ^ min (a1 % (63 + 1) + 1 - a2 % (255 + 1) % (a1 % (63 + 1) + 1 + 1)).toNat IntKind.u64.bits).toNat (heldF (a2 % (255 + 1) % (a1 % (63 + 1) + 1 + 1))) ++ bitsOf a0.toNat (heldF (a1 % (63 + 1) + 1 - a2 % (255 + 1) % (a1 % (63 + 1) + 1 + 1))))).length : Int)), (95, .int .i64 (s.1 : Int))])
    (fun s => [Buf 1 u4 (s.2.map bcell), Buf 1 u2 ((pack ([] ++ bitsOf a3.toNat (heldF (a4 % (63 + 1))) ++ bitsOf a0.toNat (heldF (a1 % (63 + 1) + 1)))).map bcell), Wr b1 ([] ++ bitsOf a3.toNat (heldF (a4 % (63 + 1))) ++ bitsOf (a0 / 2 ^ min (a1 % (63 + 1) + 1 - a2 % (255 + 1) % (a1 % (63 + 1) + 1 + 1)).toNat IntKind.u64.bits).toNat (heldF (a2 % (255 + 1) % (a1 % (63 + 1) + 1 + 1))) ++ bitsOf a0.toNat (heldF (a1 % (63 + 1) + 1 - a2 % (255 + 1) % (a1 % (63 + 1) + 1 + 1))))])
    (fun s => s.1 ≤ (pack ([] ++ bitsOf a3.toNat (heldF (a4 % (63 + 1))) ++ bitsOf (a0 / 2 ^ min (a1 % (63 + 1) + 1 - a2 % (255 + 1) % (a1 % (63 + 1) + 1 + 1)).toNat IntKind.u64.bits).toNat (heldF (a2 % (255 + 1) % (a1 % (63 + 1) + 1 + 1))) ++ bitsOf a0.toNat (heldF (a1 % (63 + 1) + 1 - a2 % (255 + 1) % (a1 % (63 + 1) + 1 + 1))))).length ∧ s.2.length = (pack ([] ++ bitsOf a3.toNat (heldF (a4 % (63 + 1))) ++ bitsOf (a0 / 2 ^ min (a1 % (63 + 1) + 1 - a2 % (255 + 1) % (a1 % (63 + 1) + 1 + 1)).toNat IntKind.u64.bits).toNat (heldF (a2 % (255 + 1) % (a1 % (63 + 1) + 1 + 1))) ++ bitsOf a0.toNat (heldF (a1 % (63 + 1) + 1 - a2 % (255 + 1) % (a1 % (63 + 1) + 1 + 1))))).length) (fun s => (pack ([] ++ bitsOf a3.toNat (heldF (a4 % (63 + 1))) ++ bitsOf (a0 / 2 ^ min (a1 % (63 + 1) + 1 - a2 % (255 + 1) % (a1 % (63 + 1) + 1 + 1)).toNat IntKind.u64.bits).toNat (heldF (a2 % (255 + 1) % (a1 % (63 + 1) + 1 + 1))) ++ bitsOf a0.toNat (heldF (a1 % (63 + 1) + 1 - a2 % (255 + 1) % (a1 % (63 + 1) + 1 + 1))))).length - s.1) (0, pack ([] ++ bitsOf a3.toNat (heldF (a4 % (63 + 1))) ++ bitsOf (a0 / 2 ^ min (a1 % (63 + 1) + 1 - a2 % (255 + 1) % (a1 % (63 + 1) + 1 + 1)).toNat IntKind.u64.bits).toNat (heldF (a2 % (255 + 1) % (a1 % (63 + 1) + 1 + 1))) ++ bitsOf a0.toNat (heldF (a1 % (63 + 1) + 1 - a2 % (255 + 1) % (a1 % (63 + 1) + 1 + 1))))) ⟨rfl, rfl, rfl, rfl, rfl, rfl, trivial⟩ rfl ⟨Nat.zero_le _, rfl⟩ ?_
  rintro ⟨i, zs⟩ ⟨h1, h2⟩ next
  simp only [] at h1 h2 next ⊢
  refine W.fact (i := 0) rfl (fun h hb => Buf.slm hb) (fun hz => ?_)
  refine W.seq ?_
  refine W.region ?_
  refine WL.lss rfl rfl rfl ?_
  refine WL.nil ?_
  refine W.seq ?_
  refine W.condp rfl (fun hlt => ?_) (fun hge => ?_)
  · have hi : i < zs.length := by omega
    refine W.skip ?_
    refine W.seq ?_
    refine W.block ?_
    refine W.seq ?_
    refine W.region ?_
    refine WL.mv rfl rfl ?_
    refine WL.as rfl rfl ?_
    refine WL.nil ?_
    refine W.region ?_
    refine WL.mv rfl rfl ?_
    refine WL.mv rfl rfl ?_
    refine WL.ix (T := Ty) rfl rfl rfl (by assumption) rfl rfl (by omega) (by first | omega | decide +kernel) ?_
    refine WL.ldEn (T := Ty) (j := 0) rfl rfl rfl rfl rfl (by first | omega | decide +kernel) ?_
    refine WL.add (K := .u8) rfl rfl rfl ?_
    refine WL.ix (T := Ty) rfl rfl rfl (by assumption) rfl rfl (by omega) (by first | omega | decide +kernel) ?_
    refine WL.stEF (T := Ty) (j := 0) (cs' := (zs.set i ((zs.getD i 0 + 1) % 256)).map bcell) rfl rfl rfl rfl rfl rfl (by simp; omega) ?_ (by repeat' first | exact FL.nil | apply FL.cons) ?_
    · rw [List.map_set, show ((i : Int)).toNat * 1 = i by omega]
      congr 1
    refine WL.nil ?_
    refine W.inBlock ?_
    refine W.region ?_
    refine WL.addK rfl rfl rfl (wrap_i64 ⟨by omega, by omega⟩) ?_
    refine WL.mv rfl rfl ?_
    refine WL.nil ?_
    refine W.sub ?_ (next ⟨i + 1, zs.set i ((zs.getD i 0 + 1) % 256)⟩ ⟨by omega, by simp [h2]⟩ (by simp only []; omega))
    exact ⟨rfl, rfl, rfl, rfl, rfl, rfl, trivial⟩
  · refine W.exit rfl ?_
    refine W.seq ?_
    refine W.region ?_
    refine WL.mv rfl rfl ?_
    refine WL.b2sN (T := Ty) rfl rfl rfl rfl rfl rfl rfl (.own 1 rfl) ?_
    refine WL.mv rfl rfl ?_
    refine WL.eqST rfl rfl rfl (by first | with_reducible rfl | assumption) ?_
    refine WL.mv rfl rfl ?_
    refine WL.gY rfl rfl ?_
    refine WL.mv rfl rfl ?_
    refine WL.gY rfl rfl ?_
    refine WL.callF rfl rfl (fun x p d => bytes_c _ _ _ (by first | assumption | exact In.wide (by assumption) | exact In.mono (by assumption) (eqh_at 0 rfl p d) | exact in_at 0 rfl p d | exact in_at 1 rfl p d | exact in_at 2 rfl p d | exact in_at 3 rfl p d | exact in_at 4 rfl p d) (by first | assumption | omega | (simp only [List.length_append, bitsOf_len, List.length_nil, heldF]; omega))) (fun u5 => ?_)
    refine WL.fact (i := 0) rfl (fun h hb => Buf.slm hb) (fun hsl5 => ?_)
    refine WL.gY rfl rfl ?_
    refine WL.b2sN (T := Ty) rfl rfl rfl rfl rfl rfl rfl (.own 0 rfl) ?_
    refine WL.gY rfl rfl ?_
    refine WL.mv rfl rfl ?_
    refine WL.gY rfl rfl ?_
    refine WL.eqST rfl rfl rfl (by first | with_reducible rfl | assumption) ?_
    refine WL.pickT rfl rfl rfl ?_
    refine WL.mv rfl rfl ?_
    refine WL.gY rfl rfl ?_
    refine WL.callT rfl rfl (fun x p d => awake1_c _) ?_
    refine WL.pickT rfl rfl rfl ?_
    refine WL.as rfl rfl ?_
    refine WL.nil ?_
    exact W.ret1 rfl rfl (fun h p => rfl)
end Go.Proofs.Ytimioninoafkhaa
