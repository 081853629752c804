/- slices.IndexFunc: whichever the type and the predicate. -/
import Derived.Test.YtdpnpipninggeaaStc
import Derived.Test.YtdpnpipninggeaaNum
import Derived.Test.YtdpnpipninggeaaTab
import Derived.Test.YtdpnpipninggeaaClos
set_option linter.unusedSimpArgs false
set_option linter.unusedVariables false
set_option maxRecDepth 20000
set_option maxHeartbeats 4000000
namespace Go.Proofs.Ytdpnpipninggeaa
open Go
attribute [local irreducible] W WL Fn Buf ROs SL eptr box Rd Src bndOK WD RB Reads In
def idxF {α : Type} (p : α → Bool) (L : List α) : Int := if L.findIdx p < L.length then (L.findIdx p : Int) else -1
theorem idx_hit {α : Type} {p : α → Bool} {L : List α} {i : Nat} {a : α} (h : L[i]? = some a) (hp : p a = true) (hn : ∀ b ∈ L.take i, p b = false) : idxF p L = (i : Int) := by
  have hi := (List.getElem?_eq_some_iff.1 h).1
  have e : L.findIdx p = i := by
    rw [List.findIdx_eq hi]
    refine ⟨by rw [List.getElem?_eq_getElem hi] at h; rw [Option.some.inj h]; exact hp, fun j hj => ?_⟩
    refine hn _ (List.mem_iff_getElem?.2 ⟨j, ?_⟩)
    rw [List.getElem?_take, if_pos hj]
    exact List.getElem?_eq_getElem (by omega)
  unfold idxF
  rw [e, if_pos hi]
theorem idx_miss {α : Type} {p : α → Bool} {L : List α} (hn : ∀ b ∈ L, p b = false) : idxF p L = -1 := by
  unfold idxF
  rw [if_neg]
  intro h
  have := List.findIdx_getElem (w := h)
  rw [hn _ (List.getElem_mem h)] at this
  cases this
theorem idxP_c {α : Type} (ρ : Hp) (v : Value) (f : α → List Value) (hk : ∀ a, (f a).length = 7) (L : List α) (p : α → Bool) (g : FuncId) (caps : List Value) (hv : ROs ρ 7 v (L.flatMap f)) (hp : ∀ x ∈ L, Fn Try.prog g ([Value.agg (f x).toArray] ++ caps).toArray ρ [] (Just (.bool (p x)))) (hl : L.length ≤ 140737488355) :
    Fn Try.prog 39 #[v, .func (.func g) #[] caps.toArray] ρ [] (Just (.int .i64 (idxF p L))) := by
  have sv : SL v L.length := hv.sl (flat_len hk L) (by omega)
  refine in39 rfl rfl ?_
  refine W.seq (W.region (WL.as rfl rfl (WL.nil (W.seq (W.seq (W.region (WL.mv rfl rfl ?_)))))))
  refine WL.len (T := Ty) rfl rfl (by assumption) rfl ?_
  refine WL.mv rfl rfl (WL.nil (W.block ?_))
  refine W.loopS (σ := Nat) (fun i => [(0, v), (1, .func (.func g) #[] caps.toArray), (7, .int .i64 (L.length : Int)), (8, .int .i64 (i : Int))]) (fun _ => []) (fun i => i ≤ L.length ∧ ∀ b ∈ L.take i, p b = false) (fun i => L.length - i) 0 ⟨rfl, rfl, rfl, rfl, trivial⟩ rfl ⟨Nat.zero_le _, by simp⟩ ?_
  intro i ⟨hi, hn⟩ next
  by_cases hlt : i < L.length
  · obtain ⟨a, ha⟩ : ∃ a, L[i]? = some a := ⟨_, List.getElem?_eq_getElem hlt⟩
    have hr : ((L.flatMap f).drop (((i : Nat) : Int).toNat * 7)).take 7 = f a := flat_row hk ha
    have hpa := hp a (List.mem_of_getElem? ha)
    refine W.seq (W.region (WL.lss rfl rfl rfl (WL.nil (W.seq (W.condpT rfl (by omega) (W.skip (W.seq (W.block (W.seq (W.region (WL.mv rfl rfl (WL.as rfl rfl (WL.nil ?_)))))))))))))
    refine W.seq (W.region (WL.mv rfl rfl (WL.mv rfl rfl (WL.mv rfl rfl ?_))))
    refine WL.ix (T := Ty) rfl rfl rfl (by assumption) rfl rfl (by omega) (by first | omega | decide +kernel) ?_
    refine WL.ldAR (T := Ty) rfl rfl rfl rfl hv hr (hk a) ?_
    skip
    refine WL.callC rfl rfl rfl hpa ?_
    cases hb : p a with
    | true =>
      have e := idx_hit ha hb hn
      refine WL.nil (W.condT rfl (W.seq (W.region (WL.mv rfl rfl (WL.as rfl rfl (WL.nil ?_))))))
      exact W.ret1 rfl rfl (fun h q => ⟨by rw [e], q⟩)
    | false =>
      refine WL.nil (W.condF rfl (W.skip (W.inBlock (W.region (WL.addK rfl rfl rfl (wrap_i64 ⟨by omega, by omega⟩) (WL.mv rfl rfl (WL.nil ?_)))))))
      refine W.sub ?_ (next (i + 1) ⟨by omega, fun b hm => ?_⟩ (by omega))
      · exact ⟨rfl, rfl, rfl, rfl, trivial⟩
      · rw [List.take_add_one, ha] at hm
        rcases List.mem_append.1 hm with h | h
        · exact hn b h
        · simp at h; rw [h]; exact hb
  · have e := idx_miss (p := p) (L := L) (by rw [show i = L.length by omega, List.take_length] at hn; exact hn)
    refine W.seq (W.region (WL.lss rfl rfl rfl (WL.nil (W.seq (W.condpF rfl (by omega) (W.exit rfl (W.seq (W.region (WL.as rfl rfl (WL.nil ?_))))))))))
    exact W.ret1 rfl rfl (fun h q => ⟨by rw [e], q⟩)
end Go.Proofs.Ytdpnpipninggeaa
