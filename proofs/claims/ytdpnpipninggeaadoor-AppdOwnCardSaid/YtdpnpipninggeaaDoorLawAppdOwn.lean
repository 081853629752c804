/- The row of the law AppdOwn: for every input the call returns true, and each argument reads behind it as it read before. No condition. -/
import Derived.Test.YtdpnpipninggeaaDoorRows
import Derived.Test.YtdpnpipninggeaaDoorAppdOwn
import Derived.Test.YtdpnpipninggeaaDoorRow
import Derived.Test.YtdpnpipninggeaaDoorRow2
import Derived.Lib.SmallJoins
import Derived.WalkKit
import Derived.ProofKit
import Derived.OpenShut
import Derived.ShutString
import Derived.ChangeOld
import Derived.Below
import Derived.SizedLaws
import Derived.LaidMore
import Derived.Lib.LaidTab
import Derived.Stop.Joined
import Derived.SevenTiedAt
import Derived.Test.YtdpnpipninggeaaDoorTie
import Derived.Test.YtdpnpipninggeaaDoorCards
namespace Go.Proofs.YtdpnpipninggeaaDoor.appdOwn
open Go.ChangeShapes Go.WideShapes Go.ChangeAt Go.RowKit
open Go.ChangeMaps (open_string shut_string)
set_option linter.unusedVariables false
theorem own : ownKnob Tryd.prog.godebug = none := by kernel_rfl
theorem laidOut : laidOutB Tryd.prog = true := by kernel_rfl
theorem gName : Tryd.prog.globalNamed "math/bits.deBruijn64tab" = some 0 := by kernel_rfl
theorem gType : (Tryd.prog.globals[0]?).map (·.type) = some 134 := by kernel_rfl
theorem door_met (os : Os) (args : Array Value) : laidMetH Tryd.prog [("math/bits.deBruijn64tab", Rows.laid_math_bits_deBruijn64tab)] ((World.doorLaid Tryd.prog 400 os).forCall (fun _ _ => 0) ⟨#[], args, []⟩).memory :=
  laidMetH_of_parts3 (fuel := 8) (laidMet_of_run' 8 (by kernel_rfl) (by kernel_rfl)) (by kernel_rfl) (by kernel_rfl)
theorem tab_of {W : World} (h : laidMetH Tryd.prog [("math/bits.deBruijn64tab", Rows.laid_math_bits_deBruijn64tab)] W) : TabG (heapOf W) := by
  rw [MakeChecks.laidMetH_plain _ _ _ (by kernel_rfl)] at h
  have hT := Lib.tabIs_of_head (k := .u8) (zs := Lib.deBruijn64tab.map (fun (n : Nat) => (n : Int))) gName gType Tryd.underlying134 Tryd.underlying5 (by kernel_rfl) (by kernel_rfl) h
  have hc : ∀ j, j < 64 → W.cell? ⟨0, j, none⟩ = some (.int .u8 ((Lib.deBruijn64tab.getD j 0 : Nat) : Int)) := by
    intro j hj
    have hl : Lib.deBruijn64tab.length = 64 := rfl
    have := hT.cell gName j (by rw [List.length_map, hl]; exact hj)
    rw [this]
    congr 2
    simp only [List.getD, List.getElem?_map]
    rw [List.getElem?_eq_getElem (by rw [hl]; exact hj)]; rfl
  have h0 := hc 0 (by decide)
  cases hb : W.heap[0]? with
  | none => simp [World.cell?, hb] at h0
  | some o =>
    cases o <;> simp [World.cell?, hb] at h0
    rename_i buf Ty fr
    refine ⟨buf, Ty, fr, hb, fun j hj => ?_⟩
    have := hc j hj
    simpa [World.cell?, hb] using this
set_option maxRecDepth 100000 in
theorem lifted (os : Os) (started : os.Started) (H : Type) (enc : TypeId × Value → H) :
    ReturnsInHanded {} Tryd.checked os 4 .any (fun w args => (Rows.appdOwnSpec.pre enc Tryd.prog Tryd.f4 [] false w args ∧ laidMetH Tryd.prog [("math/bits.deBruijn64tab", Rows.laid_math_bits_deBruijn64tab)] w) ∧ sizedMet enc Tryd.prog Tryd.f4 (OpenSpec.ofChange Rows.appdOwnSpec) false w args) (Rows.appdOwnSpec.post enc Tryd.prog Tryd.f4 false true false false) := by
  refine returnsInHanded_of_change_and (C := Tryd.checked) (X := fun w _ => laidMetH Tryd.prog [("math/bits.deBruijn64tab", Rows.laid_math_bits_deBruijn64tab)] w) (fun _ _ _ hh h => h.of_heap hh) own started (by kernel_rfl) Tryd.func4
    (ChangeSpec.witness_shaped (enc := enc) (C := Tryd.checked) (os := os) (X := fun w _ => laidMetH Tryd.prog [("math/bits.deBruijn64tab", Rows.laid_math_bits_deBruijn64tab)] w) false (World.doorLaid Tryd.prog 400 os) #[.slice none 0 0, .agg #[.int .i64 0, .int .u64 0]] 8 rfl (World.shaped_of_RefB (by kernel_rfl) (by kernel_rfl)) (by kernel_rfl) (by kernel_rfl) (by kernel_rfl) (door_met os _)) ?_
  intro W base args ds gs before hval0 hW _ hsz0 hL _
  have hsz : (DataW.weightsEach Tryd.prog (Tryd.f4.params.toList ++ Rows.appdOwnSpec.plain.varTypes Tryd.prog) (ds ++ gs)).all (· ≤ reachBytes) = true := hsz0
  have hval : ∀ (j : Nat) t v, Tryd.f4.params[j]? = some t → args[j]? = some v → Value.okWide Tryd.prog W .any base t v := hval0
  have hW' := hW
  obtain ⟨p, q, hA0, hV, rfl, hfz, hnd⟩ := hW
  have hA : DataW.TrodAll enc Tryd.prog W 0 (fun _ => true) true Tryd.f4.params.toList args.toList ds p := hA0
  rw [Tryd.params4] at hA hval hsz
  obtain ⟨v0, vs0, d0, ds0, p0, q0, hargs, rfl, rfl, h0, r0⟩ := trodAll_cons hA
  obtain ⟨v1, vs1, d1, ds1, p1, q1, rfl, rfl, rfl, h1, r1⟩ := trodAll_cons r0
  obtain ⟨rfl, rfl, rfl⟩ := trodAll_nil r1
  obtain rfl : args = #[v0, v1] := by cases args; simp_all
  obtain ⟨rfl, rfl⟩ := trodVars_none hV
  obtain ⟨a0, len0, cap0, rfl⟩ := okWide_slice Tryd.underlying23 (hval 0 23 v0 rfl rfl)
  have k0 := h0
  have lt0 : ∀ x ∈ p0, x.block < W.heap.size := by obtain ⟨m, hm⟩ := k0; exact DataW.trod_lt m _ _ _ hm
  obtain ⟨z0, w0⟩ : ∃ zs, IsRow2 .i64 .u64 W a0 len0 cap0 zs := by
    obtain ⟨fuel, hf⟩ := h0
    exact row2_of Tryd.underlying23 Tryd.underlying28 (by kernel_rfl) rfl rfl (by kernel_rfl) (by kernel_rfl) Tryd.underlying2 Tryd.underlying26 hf
  have y0 : len0 * 16 ≤ 140737488351232 := sized_row2 hsz (j := 0) (t := 23) rfl rfl Tryd.underlying23 Tryd.underlying28 (by kernel_rfl) rfl rfl (by kernel_rfl) (by kernel_rfl) (by kernel_rfl) h0
  obtain ⟨c1, e1, y1, z1, m1, rfl, rfl, rfl, f1, g1⟩ := Go.Joins.open_agg2 Tryd.underlying28 (by kernel_rfl) (by kernel_rfl) (hval 1 28 v1 rfl rfl) h1
  obtain ⟨a1, i1, rfl, w1⟩ := DataW.trod_int Tryd.underlying2 f1
  obtain ⟨b1, j1, rfl, x1⟩ := DataW.trod_int Tryd.underlying26 g1
  simp at i1 j1
  subst i1 j1
  clear hA0 hval0 hsz0 hsz
  refine (calls_of_fn (AppdOwn_fn (heapOf W) (tab_of hL) _ (z0.take len0) (ros_of_row2 w0) (wf_of_row2 w0) (by rw [len_of_row2 w0]; exact y0) a1 b1 w1 x1) (fun _ _ h => h)).mono fun e W' ⟨he, bel⟩ => ?_
  subst he
  exact ⟨_, rfl, _, _, _, [], _, [], hW', trodAll_mk1 (shut_bool Tryd.underlying4 _), (trodAll_cons_mk (Below.trod laidOut (by kernel_rfl) (of_decide_eq_true (by kernel_rfl)) k0 bel lt0) (trodAll_cons_mk (Go.Joins.shut_agg2 (y0 := (.lit (.int .i64 a1), [])) (y1 := (.lit (.int .u64 b1), [])) Tryd.underlying28 (by kernel_rfl) (by kernel_rfl) ⟨1, by simp [DataW.trod, show Tryd.checked.prog.underlying 2 = _ from Tryd.underlying2, w1]⟩ ⟨1, by simp [DataW.trod, show Tryd.checked.prog.underlying 26 = _ from Tryd.underlying26, x1]⟩) trodAll_mk0)), rfl, bel.frame _, fun h => by cases h⟩
theorem over : Rows.appdOwnRow.holds Tryd.pinned (OpenSpec.ofChange Rows.appdOwnSpec) :=
  OpenClaim.holds_of_wide 4 Tryd.f4 rfl rfl rfl rfl rfl rfl rfl ⟨rfl, rfl, rfl, rfl, rfl⟩ rfl rfl rfl rfl rfl (by kernel_rfl) Tryd.func4 (by kernel_rfl)
    (of_decide_eq_true (by kernel_rfl)) (by unfold Func.isWrapper; first | (rw [if_pos (by decide +kernel)]; kernel_rfl) | (rw [if_neg (by decide +kernel)]; exact ⟨rfl, rfl⟩))
    (fun os started H enc _ => lifted os started H enc)
theorem proved : Rows.AppdOwnCardSaid :=
  Claim7.holds_tied_plain_at .later [] [.data] true (true, "e247bf24ed99e61ea99fbfd970b35f961622050f950e69bb29501a6a47e1b75b") false
    over (fun _ h => by cases h) (by kernel_rfl) (fun _ h => by cases h) appdOwn_row_tie rfl ⟨rfl, rfl⟩ (by kernel_rfl) rfl
    (fun f fn hf hfn => by
      obtain rfl : f = 4 := Option.some.inj ((show Tryd.prog.funcNamed "ephemeris/ephemerislaw13.AppdOwn" = some 4 by kernel_rfl).symm.trans hf) |>.symm
      obtain rfl : fn = Tryd.f4 := (Option.some.inj (Tryd.func4.symm.trans hfn)).symm
      exact ⟨by kernel_rfl, fun j t ht => by
        rw [Tryd.params4] at ht
        have hm : t ∈ [23, 28] := by simpa using Array.mem_of_getElem? ht
        have hall : ([23, 28].all fun u => !Tryd.prog.wantsStandIn u) = true := by kernel_rfl
        exact (show Tryd.prog.wantsStandIn t = false by simpa using List.all_eq_true.1 hall t hm)⟩)
    (by kernel_rfl)
#print axioms proved
end Go.Proofs.YtdpnpipninggeaaDoor.appdOwn
namespace Go.Proofs.YtdpnpipninggeaaDoor
theorem appdOwn_holds : Rows.AppdOwnCardSaid := appdOwn.proved
end Go.Proofs.YtdpnpipninggeaaDoor
