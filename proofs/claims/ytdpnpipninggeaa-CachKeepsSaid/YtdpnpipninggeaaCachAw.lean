/- What the document fixes of what is kept ready. -/
import Derived.Test.YtdpnpipninggeaaStc
import Derived.Test.YtdpnpipninggeaaNum
import Derived.Test.YtdpnpipninggeaaTab
import Derived.Test.YtdpnpipninggeaaCach1
set_option linter.unusedSimpArgs false
set_option linter.unusedVariables false
set_option maxRecDepth 20000
set_option maxHeartbeats 4000000
namespace Go.Proofs.Ytdpnpipninggeaa
open Go
def kA : Ky := ⟨0, 0, 1⟩
def kB : Ky := ⟨0, 0, 2⟩
def h0 : Clk := newP 1
def h1 : Clk := ⟨1, 1, [⟨⟨0, 0, 1⟩, 2, false, true, 0⟩], 0, 0, 0⟩
def h2 : Clk := ⟨1, 1, [⟨⟨0, 0, 1⟩, 2, false, true, 1⟩], 0, 0, 0⟩
def h4 : Clk := ⟨1, 1, [⟨⟨0, 0, 2⟩, 2, false, true, 0⟩, ⟨⟨0, 0, 1⟩, 3, false, true, 0⟩], 1, 1, 1⟩
def h5 : Clk := ⟨1, 1, [⟨⟨0, 0, 2⟩, 2, true, true, 0⟩, ⟨⟨0, 0, 1⟩, 3, false, true, 0⟩], 1, 1, 1⟩
theorem ch_1 : admitP 20 (newP 1) ⟨0, 0, 1⟩ = some (h1, [], true) := by rfl
theorem ch_2 : pinP h1 ⟨0, 0, 1⟩ 1 = (h2, true) := by rfl
theorem ch_3 : admitP 20 h2 ⟨0, 0, 2⟩ = some (h2, [], false) := by rfl
theorem ch_4 : pinP h2 ⟨0, 0, 1⟩ (-1) = (h1, true) := by rfl
theorem ch_5 : admitP 20 h1 ⟨0, 0, 2⟩ = some (h4, [⟨0, 0, 1⟩], true) := by rfl
theorem ch_6 : touchP h4 ⟨0, 0, 1⟩ = (h4, false) := by rfl
theorem ch_7 : touchP h4 ⟨0, 0, 2⟩ = (h5, true) := by rfl
theorem ch_f1 : fndK h1.pages ⟨0, 0, 1⟩ = ((0 : Nat) : Int) := by rfl
theorem ch_f2 : fndK h2.pages ⟨0, 0, 1⟩ = ((0 : Nat) : Int) := by rfl
theorem h1B : ClkB h1 := ⟨by decide, by decide, by decide, by decide, by decide, by decide, by decide, by decide⟩
theorem h2B : ClkB h2 := ⟨by decide, by decide, by decide, by decide, by decide, by decide, by decide, by decide⟩
theorem h4B : ClkB h4 := ⟨by decide, by decide, by decide, by decide, by decide, by decide, by decide, by decide⟩
theorem h5B : ClkB h5 := ⟨by decide, by decide, by decide, by decide, by decide, by decide, by decide, by decide⟩
theorem newBc (m : Int) : ClkB (newP m) := ⟨by show 1 ≤ min (max m 1) 1000; omega, by show min (max m 1) 1000 ≤ 1000; omega, by show (-1000 : Int) ≤ 1; decide, by show (1 : Int) ≤ 1000; decide, Nat.zero_le _, Nat.zero_le _, Nat.zero_le _, Nat.zero_le _⟩
theorem newRc (m : Int) : ClkR (newP m) := ⟨.inl rfl, .inl rfl, .inl rfl⟩
theorem h1R : ClkR h1 := ⟨.inl rfl, .inl rfl, .inl rfl⟩
theorem h2R : ClkR h2 := ⟨.inl rfl, .inl rfl, .inl rfl⟩
theorem rosNewc (ρ : Hp) (m : Int) : ROs ρ 7 nilV ((newP m).pages.flatMap pgC) := .inl ⟨rfl, rfl⟩
theorem rosNil2 (ρ : Hp) : ROs ρ 2 nilV (([] : List Smp).flatMap smC) := .inl ⟨rfl, rfl⟩
theorem qs1 (x y : Value) : qset (delsQ (qset (delsQ [] []) ⟨0, 0, 1⟩ x) [⟨0, 0, 1⟩]) ⟨0, 0, 2⟩ y = [(⟨0, 0, 2⟩, y)] := by rfl
theorem qg1 (y : Value) : qget [((⟨0, 0, 2⟩ : Ky), y)] ⟨0, 0, 2⟩ = some y := by rfl
attribute [local irreducible] W WL Fn Buf ROs SL eptr box Rd Src bndOK WD RB Reads In Own fndK touchP pinP dropP admitP Qm qget qset qdel delsQ newP h1 h2 h4 h5
theorem awake16_c (ρ : Hp) : Fn Try.prog 7 #[] ρ [] (Just (.bool true)) := by
 have B0 := newBc 1
 have R0 := newRc 1
 have B1 := h1B
 have R1 := h1R
 have B2 := h2B
 have R2 := h2R
 have B4 := h4B
 have B5 := h5B
 have l0 : (newP 1).pages.length ≤ 10000 := by unfold newP; exact Nat.zero_le _
 have l1 : h1.pages.length ≤ 10000 := by unfold h1; decide
 have l2 : h2.pages.length ≤ 10000 := by unfold h2; decide
 have c1 := ch_1
 have c2 := ch_2
 have c3 := ch_3
 have c4 := ch_4
 have c5 := ch_5
 have c6 := ch_6
 have c7 := ch_7
 have f1 := ch_f1
 have f2 := ch_f2
 have p1 : h1.pages[0]? = some ⟨⟨0, 0, 1⟩, 2, false, true, 0⟩ := by unfold h1; rfl
 have p2 : h2.pages[0]? = some ⟨⟨0, 0, 1⟩, 2, false, true, 1⟩ := by unfold h2; rfl
 have rN := rosNewc ρ 1
 have rZ := rosNil2 ρ
 have e5 : h5.pages.length = 2 := by unfold h5; rfl
 refine in7 rfl rfl ?_
 refine W.seq (W.region (WL.as rfl rfl (WL.nil (W.seq (W.region ?_)))))
 refine WL.callF rfl rfl (fun x p d => newc_c _ _) (fun r0 => ?_)
 refine WL.opens (α := Nat × Nat) (φ := fun x => r0 = pt x.1 0) (ps := fun x => [box x.1 _ 55, Qm .i64 x.2 _]) 0 rfl (fun h q => q) (by repeat' constructor) ?_
 rintro ⟨b0, m0⟩ es0
 subst es0
 dsimp only [List.cons_append, List.nil_append] at *
 refine WL.as rfl rfl (WL.nil (W.seq (W.seq (W.region (WL.mv rfl rfl (WL.eqP (T := Ty) rfl rfl rfl (WL.nil (W.condF rfl (W.skip (W.seq (W.region ?_)))))))))))
 refine WL.bdC (T := Ty) rfl rfl rfl rfl (by repeat' first | exact CO.nil | apply CO.one (by first | rfl | exact SL.one (by assumption)) | apply CO.agg) rfl (by repeat' constructor) ?_
 refine WL.bdC (T := Ty) rfl rfl rfl rfl (by repeat' first | exact CO.nil | apply CO.one (by first | rfl | exact SL.one (by assumption)) | apply CO.agg) rfl (by repeat' constructor) ?_
 refine WL.alF (T := Ty) rfl rfl (by repeat' constructor) (fun b1 => ?_)
 refine WL.alF (T := Ty) rfl rfl (by repeat' constructor) (fun b2 => ?_)
 refine WL.stAO (T := Ty) (j := 1) rfl rfl rfl rfl (by repeat' first | exact AO.nil | apply AO.cons (by first | rfl | exact SL.one (by assumption))) rfl rfl (by repeat' constructor) (by repeat' constructor) ?_
 refine WL.stAO (T := Ty) (j := 0) rfl rfl rfl rfl (by repeat' first | exact AO.nil | apply AO.cons (by first | rfl | exact SL.one (by assumption))) rfl rfl (by repeat' constructor) (by repeat' constructor) ?_
 refine WL.nil (W.seq (W.region (WL.mv rfl rfl ?_)))
 refine WL.ldAF (T := Ty) (j := 1) rfl rfl rfl rfl rfl rfl (by repeat' constructor) ?_
 refine WL.bdC (T := Ty) rfl rfl rfl rfl (by repeat' first | exact CO.nil | apply CO.one (by first | rfl | exact SL.one (by assumption)) | apply CO.agg) rfl (by repeat' constructor) ?_
 refine WL.bsC (T := Ty) rfl rfl rfl rfl rfl rfl rfl (by repeat' first | exact CO.nil | apply CO.one (by first | rfl | exact SL.one (by assumption)) | apply CO.agg) rfl (by repeat' constructor) (fun u3 hu3 => ?_)
 rw [show [Value.int .i64 1, Value.int .u64 0] = ([(1, 0)] : List Smp).flatMap smC from rfl]
 refine WL.callTk (Take.cons 3 rfl (Take.cons 3 rfl Take.nil)) rfl rfl (fun x p d => putYX_c _ _ _ _ _ _ _ _ _ _ _ _ _ _ (by assumption) (by first | assumption | exact ROs.wide (by assumption) | exact ROs.mono (by assumption) (eqh_at 0 rfl p d) | exact ros_at 0 rfl p d | exact ros_at 1 rfl p d | exact ros_at 2 rfl p d | exact ros_at 3 rfl p d | exact ros_at 4 rfl p d) (by assumption) (by first | assumption | omega | decide) (by assumption) (by first | assumption | decide) (by first | assumption | omega | decide) (by first | assumption | exact ROs.wide (by assumption) | exact ROs.mono (by assumption) (eqh_at 0 rfl p d) | exact ros_at 0 rfl p d | exact ros_at 1 rfl p d | exact ros_at 2 rfl p d | exact ros_at 3 rfl p d | exact ros_at 4 rfl p d) (by first | assumption | omega | decide)) (by repeat' constructor) (fun r4 => ?_)
 refine WL.opens (α := Value × Value) (φ := fun x => r4 = .bool true ∧ SL x.1 _ ∧ SL x.2 _) (ps := fun x => [_, Buf 7 x.1 _, Qm .i64 _ _, Buf 2 x.2 _]) 0 rfl (fun h q => q) (by repeat' constructor) ?_
 rintro ⟨u4, kv4⟩ ⟨es4, su4, sk4⟩
 subst es4
 dsimp only [List.cons_append, List.nil_append] at su4 sk4 ⊢
 refine WL.as rfl rfl (WL.nil (W.seq (W.region (WL.mv rfl rfl ?_))))
 refine WL.ldAF (T := Ty) (j := 6) rfl rfl rfl rfl rfl rfl (by repeat' constructor) ?_
 refine WL.callTk (Take.cons 0 rfl (Take.cons 1 rfl Take.nil)) rfl rfl (fun x p d => PinYX_c _ _ _ _ _ _ _ _ _ _ (by assumption) (by first | assumption | exact ROs.wide (by assumption) | exact ROs.mono (by assumption) (eqh_at 0 rfl p d) | exact ros_at 0 rfl p d | exact ros_at 1 rfl p d | exact ros_at 2 rfl p d | exact ros_at 3 rfl p d | exact ros_at 4 rfl p d) (by assumption)) (by repeat' constructor) (fun r5 => ?_)
 refine WL.opens (α := Value) (φ := fun x => r5 = .bool true ∧ SL x _) (ps := fun x => [_, Buf 7 x _, Qm .i64 _ _]) 0 rfl (fun h q => q) (by repeat' constructor) ?_
 rintro u5 ⟨es5, su5⟩
 subst es5
 dsimp only [List.cons_append, List.nil_append] at su5 ⊢
 refine WL.as rfl rfl (WL.nil (W.seq (W.region (WL.mv rfl rfl ?_))))
 refine WL.ldAF (T := Ty) (j := 6) rfl rfl rfl rfl rfl rfl (by repeat' constructor) ?_
 refine WL.callTk (Take.cons 0 rfl (Take.cons 1 rfl Take.nil)) rfl rfl (fun x p d => putNX_c _ _ _ _ _ _ _ _ _ _ _ _ _ (by assumption) (by first | assumption | exact ROs.wide (by assumption) | exact ROs.mono (by assumption) (eqh_at 0 rfl p d) | exact ros_at 0 rfl p d | exact ros_at 1 rfl p d | exact ros_at 2 rfl p d | exact ros_at 3 rfl p d | exact ros_at 4 rfl p d) (by assumption) (by first | assumption | omega | decide) (by assumption) (by first | assumption | decide)) (by repeat' constructor) (fun r6 => ?_)
 refine WL.opens (α := Unit) (φ := fun _ => r6 = .bool false) (ps := fun _ => [_, Qm .i64 _ _]) 0 rfl (fun h q => ⟨(), q⟩) (by repeat' constructor) ?_
 rintro _ es6
 subst es6
 dsimp only [List.cons_append, List.nil_append]
 refine WL.as rfl rfl (WL.nil (W.seq (W.region (WL.mv rfl rfl ?_))))
 refine WL.ldAF (T := Ty) (j := 7) rfl rfl rfl rfl rfl rfl (by repeat' constructor) ?_
 refine WL.callTk (Take.cons 0 rfl (Take.cons 0 rfl Take.nil)) rfl rfl (fun x p d => DrBX_c _ _ _ _ _ _ _ _ _ _ _ (by assumption) (by first | assumption | exact ROs.wide (by assumption) | exact ROs.mono (by assumption) (eqh_at 0 rfl p d) | exact ros_at 0 rfl p d | exact ros_at 1 rfl p d | exact ros_at 2 rfl p d | exact ros_at 3 rfl p d | exact ros_at 4 rfl p d) (by assumption) (by assumption) (by first | assumption | omega | decide)) (by repeat' constructor) (fun r6 => ?_)
 refine WL.opens (α := Unit) (φ := fun _ => r6 = .bool false) (ps := fun _ => [_, Qm .i64 _ _]) 0 rfl (fun h q => ⟨(), q⟩) (by repeat' constructor) ?_
 rintro _ es6
 subst es6
 dsimp only [List.cons_append, List.nil_append]
 refine WL.as rfl rfl (WL.nil (W.seq (W.region (WL.mv rfl rfl ?_))))
 refine WL.ldAF (T := Ty) (j := 7) rfl rfl rfl rfl rfl rfl (by repeat' constructor) ?_
 refine WL.callTk (Take.cons 0 rfl (Take.cons 0 rfl Take.nil)) rfl rfl (fun x p d => UnCX_c _ _ _ _ _ _ _ _ _ _ _ _ (by assumption) (by first | assumption | exact ROs.wide (by assumption) | exact ROs.mono (by assumption) (eqh_at 0 rfl p d) | exact ros_at 0 rfl p d | exact ros_at 1 rfl p d | exact ros_at 2 rfl p d | exact ros_at 3 rfl p d | exact ros_at 4 rfl p d) (by assumption) (by assumption) (by first | assumption | omega | decide) (by assumption)) (by repeat' constructor) (fun r6 => ?_)
 refine WL.opens (α := Value) (φ := fun x => r6 = .bool true ∧ SL x _) (ps := fun x => [_, Buf 7 x _, Qm .i64 _ _]) 0 rfl (fun h q => q) (by repeat' constructor) ?_
 rintro u6 ⟨es6, su6⟩
 subst es6
 dsimp only [List.cons_append, List.nil_append] at su6 ⊢
 refine WL.as rfl rfl (WL.nil (W.seq (W.region (WL.mv rfl rfl ?_))))
 refine WL.ldAF (T := Ty) (j := 8) rfl rfl rfl rfl rfl rfl (by repeat' constructor) ?_
 refine WL.callTk (Take.cons 0 rfl (Take.cons 1 rfl Take.nil)) rfl rfl (fun x p d => UnBX_c _ _ _ _ _ _ _ _ _ _ _ (by assumption) (by first | assumption | exact ROs.wide (by assumption) | exact ROs.mono (by assumption) (eqh_at 0 rfl p d) | exact ros_at 0 rfl p d | exact ros_at 1 rfl p d | exact ros_at 2 rfl p d | exact ros_at 3 rfl p d | exact ros_at 4 rfl p d) (by assumption) (by assumption) (by first | assumption | omega | decide)) (by repeat' constructor) (fun r7 => ?_)
 refine WL.opens (α := Unit) (φ := fun _ => r7 = .bool false) (ps := fun _ => [_, Qm .i64 _ _]) 0 rfl (fun h q => ⟨(), q⟩) (by repeat' constructor) ?_
 rintro _ es7
 subst es7
 dsimp only [List.cons_append, List.nil_append]
 refine WL.as rfl rfl (WL.nil (W.seq (W.region (WL.mv rfl rfl ?_))))
 refine WL.ldAF (T := Ty) (j := 7) rfl rfl rfl rfl rfl rfl (by repeat' constructor) ?_
 refine WL.bdC (T := Ty) rfl rfl rfl rfl (by repeat' first | exact CO.nil | apply CO.one (by first | rfl | exact SL.one (by assumption)) | apply CO.agg) rfl (by repeat' constructor) ?_
 refine WL.bsC (T := Ty) rfl rfl rfl rfl rfl rfl rfl (by repeat' first | exact CO.nil | apply CO.one (by first | rfl | exact SL.one (by assumption)) | apply CO.agg) rfl (by repeat' constructor) (fun u7 hu7 => ?_)
 obtain ⟨L2, hL2⟩ : ∃ L : List Smp, L = [(2, 0)] := ⟨_, rfl⟩
 have hLl : L2.length = 1 := by rw [hL2]; rfl
 have d0 : (L2.flatMap smC)[(0 : Int).toNat * 2]? = some (.int .i64 2) := by rw [hL2]; rfl
 rw [show [Value.int .i64 2, Value.int .u64 0] = L2.flatMap smC by rw [hL2]; rfl]
 clear hL2
 refine WL.callTk (Take.cons 1 rfl (Take.cons 1 rfl Take.nil)) rfl rfl (fun x p d => putYX_c _ _ _ _ _ _ _ _ _ _ _ _ _ _ (by assumption) (by first | assumption | exact ROs.wide (by assumption) | exact ROs.mono (by assumption) (eqh_at 0 rfl p d) | exact ros_at 0 rfl p d | exact ros_at 1 rfl p d | exact ros_at 2 rfl p d | exact ros_at 3 rfl p d | exact ros_at 4 rfl p d) (by assumption) (by first | assumption | omega | decide) (by assumption) (by first | assumption | decide) (by first | assumption | omega | decide) (by first | assumption | exact ROs.wide (by assumption) | exact ROs.mono (by assumption) (eqh_at 0 rfl p d) | exact ros_at 0 rfl p d | exact ros_at 1 rfl p d | exact ros_at 2 rfl p d | exact ros_at 3 rfl p d | exact ros_at 4 rfl p d) (by first | assumption | omega | decide)) (by repeat' constructor) (fun r8 => ?_)
 refine WL.opens (α := Value × Value) (φ := fun x => r8 = .bool true ∧ SL x.1 _ ∧ SL x.2 _) (ps := fun x => [_, Buf 7 x.1 _, Qm .i64 _ _, Buf 2 x.2 _]) 0 rfl (fun h q => q) (by repeat' constructor) ?_
 rintro ⟨u8, kv8⟩ ⟨es8, su8, sk8⟩
 subst es8
 dsimp only [List.cons_append, List.nil_append] at su8 sk8 ⊢
 refine WL.as rfl rfl (WL.nil (W.seq (W.region (WL.mv rfl rfl ?_))))
 refine WL.ldAF (T := Ty) (j := 11) rfl rfl rfl rfl rfl rfl (by repeat' constructor) ?_
 refine WL.callTk (Take.cons 0 rfl (Take.cons 1 rfl Take.nil)) rfl rfl (fun x p d => getNX_c _ _ _ _ _ _ _ _ _ _ (by assumption) (by first | assumption | exact ROs.wide (by assumption) | exact ROs.mono (by assumption) (eqh_at 0 rfl p d) | exact ros_at 0 rfl p d | exact ros_at 1 rfl p d | exact ros_at 2 rfl p d | exact ros_at 3 rfl p d | exact ros_at 4 rfl p d) (by assumption)) (by repeat' constructor) (fun r9 => ?_)
 refine WL.opens (α := Unit) (φ := fun _ => r9 = .tuple #[nilV, .bool false]) (ps := fun _ => [_, Qm .i64 _ _]) 0 rfl (fun h q => ⟨(), q⟩) (by repeat' constructor) ?_
 rintro _ es9
 subst es9
 dsimp only [List.cons_append, List.nil_append]
 refine WL.mv rfl rfl (WL.extL rfl rfl rfl (WL.extL rfl rfl rfl (WL.as rfl rfl (WL.as rfl rfl (WL.nil (W.seq (W.region (WL.mv rfl rfl ?_))))))))
 refine WL.ldAF (T := Ty) (j := 10) rfl rfl rfl rfl rfl rfl (by repeat' constructor) ?_
 rw [qs1]
 obtain ⟨K, hK⟩ : ∃ K : List (Ky × Value), K = [(⟨0, 0, 2⟩, kv8)] := ⟨_, rfl⟩
 have hKl : K.length = 1 := by rw [hK]; rfl
 have hg : qget K ⟨0, 0, 2⟩ = some kv8 := by rw [hK]; exact qg1 kv8
 rw [← hK]
 clear hK
 refine WL.callTk (Take.cons 0 rfl (Take.cons 0 rfl Take.nil)) rfl rfl (fun x p d => getYX_c _ _ _ _ _ _ _ _ _ _ _ _ (by assumption) (by first | assumption | exact ROs.wide (by assumption) | exact ROs.mono (by assumption) (eqh_at 0 rfl p d) | exact ros_at 0 rfl p d | exact ros_at 1 rfl p d | exact ros_at 2 rfl p d | exact ros_at 3 rfl p d | exact ros_at 4 rfl p d) (by assumption) (by assumption) (by first | assumption | exact ROs.wide (by assumption) | exact ROs.mono (by assumption) (eqh_at 0 rfl p d) | exact ros_at 0 rfl p d | exact ros_at 1 rfl p d | exact ros_at 2 rfl p d | exact ros_at 3 rfl p d | exact ros_at 4 rfl p d) (by first | assumption | omega | decide)) (by repeat' constructor) (fun r9 => ?_)
 refine WL.opens (α := Value × Value) (φ := fun x => r9 = .tuple #[x.2, .bool true] ∧ SL x.1 _ ∧ SL x.2 _) (ps := fun x => [_, Buf 7 x.1 _, Qm .i64 _ _, Buf 2 x.2 _]) 0 rfl (fun h q => q) (by repeat' constructor) ?_
 rintro ⟨u9, kv9⟩ ⟨es9, su9, sk9⟩
 subst es9
 dsimp only [List.cons_append, List.nil_append] at su9 sk9 ⊢
 refine WL.mv rfl rfl (WL.extL rfl rfl rfl (WL.extL rfl rfl rfl (WL.as rfl rfl (WL.as rfl rfl (WL.nil (W.seq (W.region (WL.mv rfl rfl (WL.mv rfl rfl (WL.gY rfl rfl (WL.mv rfl rfl (WL.pickT rfl rfl rfl (WL.mv rfl rfl ?_)))))))))))))
 refine WL.gY rfl rfl (WL.mv rfl rfl (WL.gY rfl rfl (WL.not rfl rfl (WL.pickT rfl rfl rfl (WL.mv rfl rfl (WL.gY rfl rfl (WL.mv rfl rfl (WL.gY rfl rfl (WL.not rfl rfl (WL.pickT rfl rfl rfl (WL.mv rfl rfl (WL.gY rfl rfl (WL.mv rfl rfl ?_)))))))))))))
 refine WL.pickT rfl rfl rfl (WL.mv rfl rfl (WL.gY rfl rfl (WL.mv rfl rfl (WL.gY rfl rfl (WL.not rfl rfl (WL.pickT rfl rfl rfl (WL.mv rfl rfl (WL.gY rfl rfl (WL.mv rfl rfl (WL.pickT rfl rfl rfl (WL.mv rfl rfl (WL.gY rfl rfl (WL.mv rfl rfl ?_)))))))))))))
 refine WL.gY rfl rfl (WL.not rfl rfl (WL.pickT rfl rfl rfl (WL.mv rfl rfl (WL.gY rfl rfl (WL.mv rfl rfl (WL.pickT rfl rfl rfl (WL.mv rfl rfl (WL.gY rfl rfl (WL.mv rfl rfl (WL.gY rfl rfl ?_))))))))))
 refine WL.len (T := Ty) rfl rfl (by assumption) rfl ?_
 refine WL.gY rfl rfl (WL.eql rfl rfl rfl (WL.pickT rfl rfl rfl (WL.mv rfl rfl (WL.gT rfl rfl (by omega) (WL.mv rfl rfl (WL.gT rfl rfl (by omega) ?_))))))
 refine WL.ix (T := Ty) rfl rfl rfl (by assumption) rfl rfl (by omega) (by first | omega | decide +kernel) ?_
 refine WL.gT rfl rfl (by omega) (WL.faEN (T := Ty) (off' := 0) rfl rfl rfl rfl rfl rfl rfl (WL.gT rfl rfl (by omega) ?_))
 refine WL.ldE (T := Ty) (j := 3) rfl rfl rfl rfl rfl (by assumption) ?_
 refine WL.gT rfl rfl (by omega) (WL.eql rfl rfl rfl (WL.pickTp rfl rfl (by omega) rfl (WL.mv rfl rfl (WL.gY rfl rfl (WL.mv rfl rfl (WL.gY rfl rfl ?_))))))
 refine WL.callTk (Take.cons 0 rfl (Take.cons 1 rfl Take.nil)) rfl rfl (fun x p d => frames_c _ _ _ _ _ _) (by repeat' constructor) (fun r10 => ?_)
 refine WL.opens (α := Unit) (φ := fun _ => r10 = .int .i64 _) (ps := fun _ => [_, Qm .i64 _ _]) 0 rfl (fun h q => ⟨(), q⟩) (by repeat' constructor) ?_
 rintro _ es10
 subst es10
 dsimp only [List.cons_append, List.nil_append]
 refine WL.gY rfl rfl (WL.eql rfl rfl rfl (WL.pickT rfl rfl rfl (WL.mv rfl rfl (WL.gT rfl rfl (by omega) (WL.mv rfl rfl (WL.gT rfl rfl (by omega) ?_))))))
 refine WL.callF rfl rfl (fun x p d => clockc_c _ _ _ _ _ (by first | assumption | exact RB.wide (by assumption) | exact In.rb (by assumption) | exact RB.mono (by assumption) (eqh_at 0 rfl p d) | exact (in_at 0 rfl p d).rb | exact (in_at 1 rfl p d).rb | exact (in_at 2 rfl p d).rb | exact (in_at 3 rfl p d).rb | exact (in_at 4 rfl p d).rb | exact (in_at 5 rfl p d).rb | exact (in_at 6 rfl p d).rb | exact (in_at 7 rfl p d).rb) (by first | assumption | exact ROs.wide (by assumption) | exact ROs.mono (by assumption) (eqh_at 0 rfl p d) | exact ros_at 0 rfl p d | exact ros_at 1 rfl p d | exact ros_at 2 rfl p d | exact ros_at 3 rfl p d | exact ros_at 4 rfl p d) (by first | assumption | omega | decide)) (fun r10 => ?_)
 refine WL.opens (α := Value) (φ := fun v => r10 = .agg #[.int .i64 _, .int .i64 _, v, .int .i64 _, .int .i64 _, .int .i64 _] ∧ SL v _) (ps := fun v => [Buf 7 v _]) 0 rfl (fun h q => q) (by repeat' constructor) ?_
 rintro u10 ⟨es10, su10⟩
 subst es10
 dsimp only [List.cons_append, List.nil_append] at su10 ⊢
 refine WL.gT rfl rfl (by omega) (WL.fd (T := Ty) rfl rfl rfl rfl rfl rfl rfl (WL.gT rfl rfl (by omega) ?_))
 refine WL.len (T := Ty) rfl rfl (by assumption) rfl ?_
 refine WL.gT rfl rfl (by omega) (WL.eql rfl rfl rfl (WL.pickTp rfl rfl (by omega) rfl (WL.as rfl rfl (WL.nil ?_))))
 exact W.fit (Hs' := []) (by (repeat' first | exact Sel.nil | apply Sel.k | exact Pick.h | apply Pick.t)) (W.ret1 rfl rfl (fun h q => ⟨by rw [e5]; rfl, q⟩))
end Go.Proofs.Ytdpnpipninggeaa
