/- What is kept ready: the program's calls. -/
import Derived.Test.YtdpnpipninggeaaStc
import Derived.Test.YtdpnpipninggeaaNum
import Derived.Test.YtdpnpipninggeaaTab
import Derived.Test.YtdpnpipninggeaaClk0
import Derived.Test.YtdpnpipninggeaaClk11
import Derived.Test.YtdpnpipninggeaaCachLaw
set_option linter.unusedSimpArgs false
set_option linter.unusedVariables false
set_option maxRecDepth 20000
set_option maxHeartbeats 4000000
namespace Go.Proofs.Ytdpnpipninggeaa
open Go
theorem qkT : ∃ f0 f1 f2, QkT Ty 28 .i64 f0 f1 f2 := ⟨_, _, _, ⟨_, _, _, _, rfl⟩, by decide, by decide, by decide, rfl, rfl, rfl, ⟨_, rfl, rfl⟩, ⟨_, rfl, rfl⟩, ⟨_, rfl, rfl⟩, by kernel_rfl⟩
theorem dels_zero (kvs : List (Ky × Value)) (out : List Ky) : delsQ kvs (out.take 0) = kvs := rfl
theorem dels_take {kvs : List (Ky × Value)} {out : List Ky} {j : Nat} {y : Ky} (hy : out[j]? = some y) : qdel (delsQ kvs (out.take j)) y = delsQ kvs (out.take (j + 1)) := by
 unfold delsQ
 rw [List.take_add_one, hy, Option.toList_some, List.foldl_append]; rfl
attribute [local irreducible] W WL Fn Buf ROs SL eptr box Rd Src bndOK WD RB Reads In Own fndK touchP pinP dropP admitP Qm qget qset qdel delsQ
theorem newc_c (ρ : Hp) (n : Int) : Fn Try.prog 8 #[.int .i64 n] ρ [] (fun r h => ∃ x : Nat × Nat, r = pt x.1 0 ∧ sepl [box x.1 [.int .i64 (newP n).most, .int .i64 (newP n).target, nilV, .int .i64 (((newP n).hot : Nat) : Int), .int .i64 (((newP n).cold : Nat) : Int), .int .i64 (((newP n).test : Nat) : Int), .map (some x.2)] 55, Qm .i64 x.2 []] h) := by
 refine in8 rfl rfl ?_
 refine W.seq (W.region (WL.as rfl rfl (WL.nil (W.seq (W.region (WL.mv rfl rfl ?_))))))
 refine WL.callV rfl rfl (fun x p d => new15q_c _ _) ?_
 refine WL.mkQm .i64 rfl (fun m => ?_)
 refine WL.bdC (T := Ty) rfl rfl rfl rfl (by repeat' first | exact CO.nil | apply CO.one (by first | rfl | exact SL.one (by assumption)) | apply CO.agg) rfl (by repeat' constructor) ?_
 refine WL.bxF rfl rfl (by repeat' constructor) (fun b0 => ?_)
 refine WL.as rfl rfl (WL.nil ?_)
 exact W.ret1 rfl rfl (fun h q => ⟨(b0, m), rfl, q⟩)
theorem getY_c (ρ : Hp) (b m : Nat) (c : Clk) (v : Value) (kvs : List (Ky × Value)) (k : Ky) (d : Clk) (val : Value) (L : List Smp) (hB : ClkB c) (rv : ROs ρ 7 v (c.pages.flatMap pgC)) (ht : touchP c k = (d, true)) (hg : qget kvs k = some val) (rs : ROs ρ 2 val (L.flatMap smC)) (hL : L.length ≤ 1000) :
  Fn Try.prog 10 #[pt b 0, .agg #[.int .i64 k.a, .int .i64 k.b, .int .i64 k.c]] ρ [box b [.int .i64 c.most, .int .i64 c.target, v, .int .i64 (c.hot : Int), .int .i64 (c.cold : Int), .int .i64 (c.test : Int), .map (some m)] 55, Qm .i64 m kvs]
   (fun r h => ∃ x : Value × Value, (r = .tuple #[x.2, .bool true] ∧ SL x.1 d.pages.length ∧ SL x.2 L.length) ∧ sepl [box b [.int .i64 d.most, .int .i64 d.target, x.1, .int .i64 (d.hot : Int), .int .i64 (d.cold : Int), .int .i64 (d.test : Int), .map (some m)] 55, Buf 7 x.1 (d.pages.flatMap pgC), Qm .i64 m kvs, Buf 2 x.2 (L.flatMap smC)] h) := by
 obtain ⟨f0, f1, f2, hqk⟩ := qkT
 have l2 := sms_cells L
 have o2 := sm_one L
 refine in10 rfl rfl ?_
 refine W.seq (W.region ?_)
 refine WL.bxF rfl rfl (by repeat' constructor) (fun b0 => ?_)
 refine WL.as rfl rfl (WL.as rfl rfl (WL.nil (W.seq ?_)))
 refine W.cutG (τ := Nat × Value) (fun s => [(0, pt b 0), (3, pt b0 0), (4, nilV), (5, .bool false), (6, pt s.1 0), (7, .bool true)]) (fun s => [Buf 7 s.2 (d.pages.flatMap pgC), box s.1 [.int .i64 d.most, .int .i64 d.target, s.2, .int .i64 (d.hot : Int), .int .i64 (d.cold : Int), .int .i64 (d.test : Int)] 36, box b0 [.int .i64 k.a, .int .i64 k.b, .int .i64 k.c] 28, box b [.int .i64 c.most, .int .i64 c.target, v, .int .i64 (c.hot : Int), .int .i64 (c.cold : Int), .int .i64 (c.test : Int), .map (some m)] 55, Qm .i64 m kvs]) (fun s ρ' => SL s.2 d.pages.length) ?_ (fun cut => ?_)
 ·rintro ⟨bn, u⟩ ρ1 le1 su
  dsimp only at su ⊢
  replace rs := rs.mono le1
  refine W.seq (W.seq (W.region (WL.mv rfl rfl (WL.not rfl rfl (WL.nil (W.condF rfl (W.skip (W.seq (W.region (WL.mv rfl rfl ?_))))))))))
  refine WL.ldAF (T := Ty) (j := 1) rfl rfl rfl rfl rfl rfl (by repeat' constructor) ?_
  refine WL.nc rfl rfl (WL.faN (T := Ty) (off' := 0) rfl rfl rfl rfl rfl rfl rfl ?_)
  refine WL.stAO (T := Ty) (j := 3) rfl rfl rfl rfl (by repeat' first | exact AO.nil | apply AO.cons (by first | rfl | exact SL.one (by assumption))) rfl rfl (by repeat' constructor) (by repeat' constructor) ?_
  refine WL.nil (W.seq ?_)
  refine W.drawA 7 rfl (fun σ0 hσ0 dσ0 => ?_)
  have fσ0_0 := ros_at 0 rfl hσ0 dσ0
  have fσ0_1 := rb_at 1 rfl hσ0 dσ0
  have fσ0_2 := rb_at 2 rfl hσ0 dσ0
  have fσ0_3 := rb_at 3 rfl hσ0 dσ0
  have fσ0_4 := in_at 4 rfl hσ0 dσ0
  refine WD.takeL 0 rfl (by decide +kernel) (WL.mv rfl rfl (WL.nilT (WD.takeL 1 rfl (by decide +kernel) (WL.nc rfl rfl (WL.nilT (WD.takeL 2 rfl (by decide +kernel) (WL.faN (T := Ty) (off' := 6) rfl rfl rfl rfl rfl rfl rfl (WL.nilT (WD.takeL 3 rfl (by decide +kernel) ?_)))))))))
  refine WL.ldBN (T := Ty) rfl rfl rfl rfl (by first | assumption | exact RB.wide (by assumption) | exact In.rb (by assumption)) rfl ?_
  refine WL.nilT (WD.takeL 4 rfl (by decide +kernel) ?_)
  refine WL.ldABF (T := Ty) rfl rfl rfl rfl (by first | assumption | exact RB.wide (by assumption) | exact In.rb (by assumption)) rfl (by repeat' constructor) ?_
  refine WL.nilT (WD.takeL 5 rfl (by decide +kernel) ?_)
  refine WL.luQR (T := Ty) rfl rfl rfl rfl (by assumption) rfl (by first | assumption | exact In.wide (by assumption)) (by first | rw [‹qget _ _ = some _›] | rw [‹qget _ _ = none›]) ?_
  refine WL.nilT (WD.oneL 6 rfl (by decide +kernel) ?_)
  refine WL.callF rfl rfl (fun x p d => cloneM_c _ _ _ _ (by first | assumption | exact ROs.wide (by assumption) | exact ROs.mono (by assumption) (eqh_at 0 rfl p d) | exact ros_at 0 rfl p d | exact ros_at 1 rfl p d | exact ros_at 2 rfl p d | exact ros_at 3 rfl p d | exact ros_at 4 rfl p d) (by assumption) (by assumption) (by first | assumption | omega)) (fun u1 => ?_)
  refine WL.fact (i := 0) rfl (fun h hb => hb.sl (by assumption) (by omega)) (fun hsl1 => ?_)
  refine WL.nilH hσ0 (fun σ1 hσ1 dσ1 mσ1 => ?_)
  have fσ0_0 := fσ0_0.mono mσ1
  have fσ0_1 := fσ0_1.mono mσ1
  have fσ0_2 := fσ0_2.mono mσ1
  have fσ0_3 := fσ0_3.mono mσ1
  have fσ0_4 := fσ0_4.mono mσ1
  have fσ1_0 := ros_at 0 rfl hσ1 dσ1
  refine WD.lastG hσ1 (by decide +kernel) (by repeat' constructor) rfl (by repeat' constructor) ?_
  refine WL.as rfl rfl (WL.as rfl rfl (WL.nil ?_))
  exact W.fit (Hs' := [box b _ _, Buf 7 u _, Qm _ m kvs, Buf 2 _ _]) (by (repeat' first | exact Sel.nil | apply Sel.k | exact Pick.h | apply Pick.t)) (W.ret2 rfl rfl rfl (fun h q => ⟨(u, _), ⟨rfl, su, by assumption⟩, q⟩))
 ·refine W.drawA 11 rfl (fun σ0 hσ0 dσ0 => ?_)
  have fσ0_0 := rb_at 0 rfl hσ0 dσ0
  have fσ0_1 := rb_at 1 rfl hσ0 dσ0
  have fσ0_2 := in_at 2 rfl hσ0 dσ0
  refine WD.takeL 0 rfl (by decide +kernel) (WL.mv rfl rfl (WL.nilT (WD.takeL 1 rfl (by decide +kernel) (WL.nc rfl rfl (WL.nilT (WD.takeL 2 rfl (by decide +kernel) (WL.faN (T := Ty) (off' := 0) rfl rfl rfl rfl rfl rfl rfl (WL.nilT (WD.takeL 3 rfl (by decide +kernel) ?_)))))))))
  refine WL.ldABF (T := Ty) rfl rfl rfl rfl (by first | assumption | exact RB.wide (by assumption) | exact In.rb (by assumption)) rfl (by repeat' constructor) ?_
  refine WL.nilT (WD.takeL 4 rfl (by decide +kernel) ?_)
  refine WL.ldABF (T := Ty) rfl rfl rfl rfl (by first | assumption | exact RB.wide (by assumption) | exact In.rb (by assumption)) rfl (by repeat' constructor) ?_
  refine WL.nilT ?_
  refine WD.twoL 5 9 rfl rfl (by decide +kernel) ?_ ?_
  ·refine WL.callF rfl rfl (fun x p d => touch_e _ _ _ _ _ _ (by assumption) (by first | assumption | exact ROs.wide (by assumption) | exact ROs.mono (by assumption) (eqh_at 0 rfl p d) | exact ros_at 0 rfl p d | exact ros_at 1 rfl p d | exact ros_at 2 rfl p d | exact ros_at 3 rfl p d | exact ros_at 4 rfl p d) (by assumption)) (fun r1 => ?_)
   refine WL.opens (α := Value) (φ := fun v => r1 = .tuple #[.agg #[.int .i64 _, .int .i64 _, v, .int .i64 _, .int .i64 _, .int .i64 _], .bool _] ∧ SL v _) (ps := fun v => [Buf 7 v _]) 0 rfl (fun h q => q) (by repeat' constructor) ?_
   rintro u1 ⟨es1, su1⟩
   subst es1
   dsimp only [List.cons_append, List.nil_append] at su1 ⊢
   refine WL.nilH hσ0 (fun σ1 hσ1 dσ1 mσ1 => ?_)
   have fσ0_0 := fσ0_0.mono mσ1
   have fσ0_1 := fσ0_1.mono mσ1
   have fσ0_2 := fσ0_2.mono mσ1
   have fσ1_0 := ros_at 0 rfl hσ1 dσ1
   refine WD.takeL 6 rfl (by decide +kernel) (WL.mv rfl rfl (WL.nilT (WD.takeL 7 rfl (by decide +kernel) (WL.extL rfl rfl rfl (WL.nilT (WD.takeL 8 rfl (by decide +kernel) (WL.extL rfl rfl rfl (WL.nilT (WD.oneL 9 rfl (by decide +kernel) ?_)))))))))
   refine WL.alF (T := Ty) rfl rfl (by repeat' constructor) (fun b2 => ?_)
   refine WL.nilS (WD.oneL 10 rfl (by decide +kernel) ?_)
   refine WL.stAO (T := Ty) (j := 1) rfl rfl rfl rfl (by repeat' first | exact AO.nil | apply AO.cons (by first | rfl | exact SL.one (by assumption))) rfl rfl (by repeat' constructor) (by repeat' constructor) ?_
   refine WL.nilE ?_
   refine WD.lastG hσ1 (by decide +kernel) (by repeat' constructor) rfl (by repeat' constructor) ?_
   refine WL.as rfl rfl (WL.nil ?_)
   first | (refine W.fit (Hs' := [Buf 7 _ (d.pages.flatMap pgC), box b1 _ _, box b0 _ _, box b _ _, Qm _ m kvs]) (by (repeat' first | exact Sel.nil | apply Sel.k | exact Pick.h | apply Pick.t)) (W.sub ?_ (cut ⟨b1, _⟩ _ (Le.refl _) (by assumption)))) | (refine W.fit (Hs' := [Buf 7 _ (d.pages.flatMap pgC), box b2 _ _, box b0 _ _, box b _ _, Qm _ m kvs]) (by (repeat' first | exact Sel.nil | apply Sel.k | exact Pick.h | apply Pick.t)) (W.sub ?_ (cut ⟨b2, _⟩ _ (Le.refl _) (by assumption)))) | (refine W.fit (Hs' := [Buf 7 _ (d.pages.flatMap pgC), box b3 _ _, box b0 _ _, box b _ _, Qm _ m kvs]) (by (repeat' first | exact Sel.nil | apply Sel.k | exact Pick.h | apply Pick.t)) (W.sub ?_ (cut ⟨b3, _⟩ _ (Le.refl _) (by assumption)))) | (refine W.fit (Hs' := [Buf 7 _ (d.pages.flatMap pgC), box b4 _ _, box b0 _ _, box b _ _, Qm _ m kvs]) (by (repeat' first | exact Sel.nil | apply Sel.k | exact Pick.h | apply Pick.t)) (W.sub ?_ (cut ⟨b4, _⟩ _ (Le.refl _) (by assumption)))) | (refine W.fit (Hs' := [Buf 7 _ (d.pages.flatMap pgC), box b5 _ _, box b0 _ _, box b _ _, Qm _ m kvs]) (by (repeat' first | exact Sel.nil | apply Sel.k | exact Pick.h | apply Pick.t)) (W.sub ?_ (cut ⟨b5, _⟩ _ (Le.refl _) (by assumption)))) | (refine W.fit (Hs' := [Buf 7 _ (d.pages.flatMap pgC), box b6 _ _, box b0 _ _, box b _ _, Qm _ m kvs]) (by (repeat' first | exact Sel.nil | apply Sel.k | exact Pick.h | apply Pick.t)) (W.sub ?_ (cut ⟨b6, _⟩ _ (Le.refl _) (by assumption))))
   exact ⟨rfl, rfl, rfl, rfl, rfl, rfl, trivial⟩
  ·refine WL.alF (T := Ty) rfl rfl (by repeat' constructor) (fun b1 => ?_)
   refine WL.nilS (WD.oneL 5 rfl (by decide +kernel) ?_)
   refine WL.callF rfl rfl (fun x p d => touch_e _ _ _ _ _ _ (by assumption) (by first | assumption | exact ROs.wide (by assumption) | exact ROs.mono (by assumption) (eqh_at 0 rfl p d) | exact ros_at 0 rfl p d | exact ros_at 1 rfl p d | exact ros_at 2 rfl p d | exact ros_at 3 rfl p d | exact ros_at 4 rfl p d) (by assumption)) (fun r2 => ?_)
   refine WL.opens (α := Value) (φ := fun v => r2 = .tuple #[.agg #[.int .i64 _, .int .i64 _, v, .int .i64 _, .int .i64 _, .int .i64 _], .bool _] ∧ SL v _) (ps := fun v => [Buf 7 v _]) 0 rfl (fun h q => q) (by repeat' constructor) ?_
   rintro u2 ⟨es2, su2⟩
   subst es2
   dsimp only [List.cons_append, List.nil_append] at su2 ⊢
   refine WL.nilH hσ0 (fun σ1 hσ1 dσ1 mσ1 => ?_)
   have fσ0_0 := fσ0_0.mono mσ1
   have fσ0_1 := fσ0_1.mono mσ1
   have fσ0_2 := fσ0_2.mono mσ1
   have fσ1_0 := ros_at 0 rfl hσ1 dσ1
   refine WD.takeL 6 rfl (by decide +kernel) (WL.mv rfl rfl (WL.nilT (WD.takeL 7 rfl (by decide +kernel) (WL.extL rfl rfl rfl (WL.nilT (WD.takeL 8 rfl (by decide +kernel) (WL.extL rfl rfl rfl (WL.nilT (WD.oneL 10 rfl (by decide +kernel) ?_)))))))))
   refine WL.stAO (T := Ty) (j := 1) rfl rfl rfl rfl (by repeat' first | exact AO.nil | apply AO.cons (by first | rfl | exact SL.one (by assumption))) rfl rfl (by repeat' constructor) (by repeat' constructor) ?_
   refine WL.nilE ?_
   refine WD.lastG hσ1 (by decide +kernel) (by repeat' constructor) rfl (by repeat' constructor) ?_
   refine WL.as rfl rfl (WL.nil ?_)
   first | (refine W.fit (Hs' := [Buf 7 _ (d.pages.flatMap pgC), box b1 _ _, box b0 _ _, box b _ _, Qm _ m kvs]) (by (repeat' first | exact Sel.nil | apply Sel.k | exact Pick.h | apply Pick.t)) (W.sub ?_ (cut ⟨b1, _⟩ _ (Le.refl _) (by assumption)))) | (refine W.fit (Hs' := [Buf 7 _ (d.pages.flatMap pgC), box b2 _ _, box b0 _ _, box b _ _, Qm _ m kvs]) (by (repeat' first | exact Sel.nil | apply Sel.k | exact Pick.h | apply Pick.t)) (W.sub ?_ (cut ⟨b2, _⟩ _ (Le.refl _) (by assumption)))) | (refine W.fit (Hs' := [Buf 7 _ (d.pages.flatMap pgC), box b3 _ _, box b0 _ _, box b _ _, Qm _ m kvs]) (by (repeat' first | exact Sel.nil | apply Sel.k | exact Pick.h | apply Pick.t)) (W.sub ?_ (cut ⟨b3, _⟩ _ (Le.refl _) (by assumption)))) | (refine W.fit (Hs' := [Buf 7 _ (d.pages.flatMap pgC), box b4 _ _, box b0 _ _, box b _ _, Qm _ m kvs]) (by (repeat' first | exact Sel.nil | apply Sel.k | exact Pick.h | apply Pick.t)) (W.sub ?_ (cut ⟨b4, _⟩ _ (Le.refl _) (by assumption)))) | (refine W.fit (Hs' := [Buf 7 _ (d.pages.flatMap pgC), box b5 _ _, box b0 _ _, box b _ _, Qm _ m kvs]) (by (repeat' first | exact Sel.nil | apply Sel.k | exact Pick.h | apply Pick.t)) (W.sub ?_ (cut ⟨b5, _⟩ _ (Le.refl _) (by assumption)))) | (refine W.fit (Hs' := [Buf 7 _ (d.pages.flatMap pgC), box b6 _ _, box b0 _ _, box b _ _, Qm _ m kvs]) (by (repeat' first | exact Sel.nil | apply Sel.k | exact Pick.h | apply Pick.t)) (W.sub ?_ (cut ⟨b6, _⟩ _ (Le.refl _) (by assumption))))
   exact ⟨rfl, rfl, rfl, rfl, rfl, rfl, trivial⟩
theorem getYX_c (ρ : Hp) (b m : Nat) (c : Clk) (v : Value) (kvs : List (Ky × Value)) (ka kb kc : Int) (d : Clk) (val : Value) (L : List Smp) (hB : ClkB c) (rv : ROs ρ 7 v (c.pages.flatMap pgC)) (ht : touchP c (⟨ka, kb, kc⟩ : Ky) = (d, true)) (hg : qget kvs (⟨ka, kb, kc⟩ : Ky) = some val) (rs : ROs ρ 2 val (L.flatMap smC)) (hL : L.length ≤ 1000) :
  Fn Try.prog 10 #[pt b 0, .agg #[.int .i64 ka, .int .i64 kb, .int .i64 kc]] ρ [box b [.int .i64 c.most, .int .i64 c.target, v, .int .i64 (c.hot : Int), .int .i64 (c.cold : Int), .int .i64 (c.test : Int), .map (some m)] 55, Qm .i64 m kvs]
   (fun r h => ∃ x : Value × Value, (r = .tuple #[x.2, .bool true] ∧ SL x.1 d.pages.length ∧ SL x.2 L.length) ∧ sepl [box b [.int .i64 d.most, .int .i64 d.target, x.1, .int .i64 (d.hot : Int), .int .i64 (d.cold : Int), .int .i64 (d.test : Int), .map (some m)] 55, Buf 7 x.1 (d.pages.flatMap pgC), Qm .i64 m kvs, Buf 2 x.2 (L.flatMap smC)] h) :=
 getY_c ρ b m c v kvs ⟨ka, kb, kc⟩ d val L hB rv ht hg rs hL
theorem getN_c (ρ : Hp) (b m : Nat) (c : Clk) (v : Value) (kvs : List (Ky × Value)) (k : Ky) (d : Clk) (hB : ClkB c) (rv : ROs ρ 7 v (c.pages.flatMap pgC)) (ht : touchP c k = (d, false)) :
  Fn Try.prog 10 #[pt b 0, .agg #[.int .i64 k.a, .int .i64 k.b, .int .i64 k.c]] ρ [box b [.int .i64 c.most, .int .i64 c.target, v, .int .i64 (c.hot : Int), .int .i64 (c.cold : Int), .int .i64 (c.test : Int), .map (some m)] 55, Qm .i64 m kvs]
   (fun r h => r = .tuple #[nilV, .bool false] ∧ sepl [box b [.int .i64 c.most, .int .i64 c.target, v, .int .i64 (c.hot : Int), .int .i64 (c.cold : Int), .int .i64 (c.test : Int), .map (some m)] 55, Qm .i64 m kvs] h) := by
 refine in10 rfl rfl ?_
 refine W.seq (W.region ?_)
 refine WL.bxF rfl rfl (by repeat' constructor) (fun b0 => ?_)
 refine WL.as rfl rfl (WL.as rfl rfl (WL.nil (W.seq ?_)))
 refine W.drawA 11 rfl (fun σ0 hσ0 dσ0 => ?_)
 have fσ0_0 := rb_at 0 rfl hσ0 dσ0
 have fσ0_1 := rb_at 1 rfl hσ0 dσ0
 have fσ0_2 := in_at 2 rfl hσ0 dσ0
 refine WD.takeL 0 rfl (by decide +kernel) (WL.mv rfl rfl (WL.nilT (WD.takeL 1 rfl (by decide +kernel) (WL.nc rfl rfl (WL.nilT (WD.takeL 2 rfl (by decide +kernel) (WL.faN (T := Ty) (off' := 0) rfl rfl rfl rfl rfl rfl rfl (WL.nilT (WD.takeL 3 rfl (by decide +kernel) ?_)))))))))
 refine WL.ldABF (T := Ty) rfl rfl rfl rfl (by first | assumption | exact RB.wide (by assumption) | exact In.rb (by assumption)) rfl (by repeat' constructor) ?_
 refine WL.nilT (WD.takeL 4 rfl (by decide +kernel) ?_)
 refine WL.ldABF (T := Ty) rfl rfl rfl rfl (by first | assumption | exact RB.wide (by assumption) | exact In.rb (by assumption)) rfl (by repeat' constructor) ?_
 refine WL.nilT ?_
 refine WD.twoL 5 9 rfl rfl (by decide +kernel) ?_ ?_
 ·refine WL.callF rfl rfl (fun x p d => touch_e _ _ _ _ _ _ (by assumption) (by first | assumption | exact ROs.wide (by assumption) | exact ROs.mono (by assumption) (eqh_at 0 rfl p d) | exact ros_at 0 rfl p d | exact ros_at 1 rfl p d | exact ros_at 2 rfl p d | exact ros_at 3 rfl p d | exact ros_at 4 rfl p d) (by assumption)) (fun r1 => ?_)
  refine WL.opens (α := Value) (φ := fun v => r1 = .tuple #[.agg #[.int .i64 _, .int .i64 _, v, .int .i64 _, .int .i64 _, .int .i64 _], .bool _] ∧ SL v _) (ps := fun v => [Buf 7 v _]) 0 rfl (fun h q => q) (by repeat' constructor) ?_
  rintro u1 ⟨es1, su1⟩
  subst es1
  dsimp only [List.cons_append, List.nil_append] at su1 ⊢
  refine WL.nilH hσ0 (fun σ1 hσ1 dσ1 mσ1 => ?_)
  have fσ0_0 := fσ0_0.mono mσ1
  have fσ0_1 := fσ0_1.mono mσ1
  have fσ0_2 := fσ0_2.mono mσ1
  have fσ1_0 := ros_at 0 rfl hσ1 dσ1
  refine WD.takeL 6 rfl (by decide +kernel) (WL.mv rfl rfl (WL.nilT (WD.takeL 7 rfl (by decide +kernel) (WL.extL rfl rfl rfl (WL.nilT (WD.takeL 8 rfl (by decide +kernel) (WL.extL rfl rfl rfl (WL.nilT (WD.oneL 9 rfl (by decide +kernel) ?_)))))))))
  refine WL.alF (T := Ty) rfl rfl (by repeat' constructor) (fun b2 => ?_)
  refine WL.nilS (WD.oneL 10 rfl (by decide +kernel) ?_)
  refine WL.stAO (T := Ty) (j := 1) rfl rfl rfl rfl (by repeat' first | exact AO.nil | apply AO.cons (by first | rfl | exact SL.one (by assumption))) rfl rfl (by repeat' constructor) (by repeat' constructor) ?_
  refine WL.nilE ?_
  refine WD.lastG hσ1 (by decide +kernel) (by repeat' constructor) rfl (by repeat' constructor) ?_
  refine WL.as rfl rfl (WL.nil (W.seq (W.seq (W.region (WL.mv rfl rfl (WL.not rfl rfl (WL.nil (W.condT rfl (W.seq (W.region (WL.as rfl rfl (WL.as rfl rfl (WL.nil ?_)))))))))))))
  exact W.fit (Hs' := [box b _ _, Qm _ m kvs]) (by (repeat' first | exact Sel.nil | apply Sel.k | exact Pick.h | apply Pick.t)) (W.ret2 rfl rfl rfl (fun h q => ⟨rfl, q⟩))
 ·refine WL.alF (T := Ty) rfl rfl (by repeat' constructor) (fun b1 => ?_)
  refine WL.nilS (WD.oneL 5 rfl (by decide +kernel) ?_)
  refine WL.callF rfl rfl (fun x p d => touch_e _ _ _ _ _ _ (by assumption) (by first | assumption | exact ROs.wide (by assumption) | exact ROs.mono (by assumption) (eqh_at 0 rfl p d) | exact ros_at 0 rfl p d | exact ros_at 1 rfl p d | exact ros_at 2 rfl p d | exact ros_at 3 rfl p d | exact ros_at 4 rfl p d) (by assumption)) (fun r2 => ?_)
  refine WL.opens (α := Value) (φ := fun v => r2 = .tuple #[.agg #[.int .i64 _, .int .i64 _, v, .int .i64 _, .int .i64 _, .int .i64 _], .bool _] ∧ SL v _) (ps := fun v => [Buf 7 v _]) 0 rfl (fun h q => q) (by repeat' constructor) ?_
  rintro u2 ⟨es2, su2⟩
  subst es2
  dsimp only [List.cons_append, List.nil_append] at su2 ⊢
  refine WL.nilH hσ0 (fun σ1 hσ1 dσ1 mσ1 => ?_)
  have fσ0_0 := fσ0_0.mono mσ1
  have fσ0_1 := fσ0_1.mono mσ1
  have fσ0_2 := fσ0_2.mono mσ1
  have fσ1_0 := ros_at 0 rfl hσ1 dσ1
  refine WD.takeL 6 rfl (by decide +kernel) (WL.mv rfl rfl (WL.nilT (WD.takeL 7 rfl (by decide +kernel) (WL.extL rfl rfl rfl (WL.nilT (WD.takeL 8 rfl (by decide +kernel) (WL.extL rfl rfl rfl (WL.nilT (WD.oneL 10 rfl (by decide +kernel) ?_)))))))))
  refine WL.stAO (T := Ty) (j := 1) rfl rfl rfl rfl (by repeat' first | exact AO.nil | apply AO.cons (by first | rfl | exact SL.one (by assumption))) rfl rfl (by repeat' constructor) (by repeat' constructor) ?_
  refine WL.nilE ?_
  refine WD.lastG hσ1 (by decide +kernel) (by repeat' constructor) rfl (by repeat' constructor) ?_
  refine WL.as rfl rfl (WL.nil (W.seq (W.seq (W.region (WL.mv rfl rfl (WL.not rfl rfl (WL.nil (W.condT rfl (W.seq (W.region (WL.as rfl rfl (WL.as rfl rfl (WL.nil ?_)))))))))))))
  exact W.fit (Hs' := [box b _ _, Qm _ m kvs]) (by (repeat' first | exact Sel.nil | apply Sel.k | exact Pick.h | apply Pick.t)) (W.ret2 rfl rfl rfl (fun h q => ⟨rfl, q⟩))
theorem getNX_c (ρ : Hp) (b m : Nat) (c : Clk) (v : Value) (kvs : List (Ky × Value)) (ka kb kc : Int) (d : Clk) (hB : ClkB c) (rv : ROs ρ 7 v (c.pages.flatMap pgC)) (ht : touchP c (⟨ka, kb, kc⟩ : Ky) = (d, false)) :
  Fn Try.prog 10 #[pt b 0, .agg #[.int .i64 ka, .int .i64 kb, .int .i64 kc]] ρ [box b [.int .i64 c.most, .int .i64 c.target, v, .int .i64 (c.hot : Int), .int .i64 (c.cold : Int), .int .i64 (c.test : Int), .map (some m)] 55, Qm .i64 m kvs]
   (fun r h => r = .tuple #[nilV, .bool false] ∧ sepl [box b [.int .i64 c.most, .int .i64 c.target, v, .int .i64 (c.hot : Int), .int .i64 (c.cold : Int), .int .i64 (c.test : Int), .map (some m)] 55, Qm .i64 m kvs] h) :=
 getN_c ρ b m c v kvs ⟨ka, kb, kc⟩ d hB rv ht
theorem putY_c (ρ : Hp) (b m : Nat) (c : Clk) (v : Value) (kvs : List (Ky × Value)) (k : Ky) (fu : Nat) (val : Value) (d : Clk) (out : List Ky) (L : List Smp) (hB : ClkB c) (rv : ROs ρ 7 v (c.pages.flatMap pgC)) (hR : ClkR c) (hl : c.pages.length ≤ 10000) (hd : admitP fu c k = some (d, out, true)) (hfu : fu ≤ 1000000) (hol : out.length ≤ 1000000) (rs : ROs ρ 2 val (L.flatMap smC)) (hL : L.length ≤ 1000) :
    Fn Try.prog 9 #[pt b 0, .agg #[.int .i64 k.a, .int .i64 k.b, .int .i64 k.c], val] ρ [box b [.int .i64 c.most, .int .i64 c.target, v, .int .i64 (c.hot : Int), .int .i64 (c.cold : Int), .int .i64 (c.test : Int), .map (some m)] 55, Qm .i64 m kvs]
      (fun r h => ∃ x : Value × Value, (r = .bool true ∧ SL x.1 d.pages.length ∧ SL x.2 L.length) ∧ sepl [box b [.int .i64 d.most, .int .i64 d.target, x.1, .int .i64 (d.hot : Int), .int .i64 (d.cold : Int), .int .i64 (d.test : Int), .map (some m)] 55, Buf 7 x.1 (d.pages.flatMap pgC), Qm .i64 m (qset (delsQ kvs out) k x.2), Buf 2 x.2 (L.flatMap smC)] h) := by
  obtain ⟨f0, f1, f2, hqk⟩ := qkT
  have l2 := sms_cells L
  have o2 := sm_one L
  have l3 := ky_cells out
  have hfu2 : fu ≤ 1000000 := hfu
  refine in9 rfl rfl ?_
  refine W.seq (W.region ?_)
  refine WL.bxF rfl rfl (by repeat' constructor) (fun b0 => ?_)
  refine WL.as rfl rfl (WL.nil (W.seq ?_))
  refine W.cutG (τ := Nat × Value × Value) (fun s => [(0, pt b 0), (2, val), (4, pt b0 0), (6, .bool false), (7, pt s.1 0), (8, s.2.2), (9, .bool true)]) (fun s => [Buf 7 s.2.1 (d.pages.flatMap pgC), Buf 3 s.2.2 (out.flatMap kyC), box s.1 [.int .i64 d.most, .int .i64 d.target, s.2.1, .int .i64 (d.hot : Int), .int .i64 (d.cold : Int), .int .i64 (d.test : Int)] 36, box b0 [.int .i64 k.a, .int .i64 k.b, .int .i64 k.c] 28, box b [.int .i64 c.most, .int .i64 c.target, v, .int .i64 (c.hot : Int), .int .i64 (c.cold : Int), .int .i64 (c.test : Int), .map (some m)] 55, Qm .i64 m kvs]) (fun s ρ' => SL s.2.1 d.pages.length ∧ SL s.2.2 out.length) ?_ (fun cut => ?_)
  · rintro ⟨bn, u, kO⟩ ρ1 le1 ⟨su, sk⟩
    dsimp only at su sk ⊢
    replace rs := rs.mono le1
    refine W.seq (W.seq (W.region (WL.mv rfl rfl (WL.not rfl rfl (WL.nil (W.condF rfl (W.skip (W.seq (W.region (WL.mv rfl rfl ?_))))))))))
    refine WL.ldAF (T := Ty) (j := 2) rfl rfl rfl rfl rfl rfl (by repeat' constructor) ?_
    refine WL.nc rfl rfl (WL.faN (T := Ty) (off' := 0) rfl rfl rfl rfl rfl rfl rfl ?_)
    refine WL.stAO (T := Ty) (j := 4) rfl rfl rfl rfl (by repeat' first | exact AO.nil | apply AO.cons (by first | rfl | exact SL.one (by assumption))) rfl rfl (by repeat' constructor) (by repeat' constructor) ?_
    refine WL.nil (W.seq (W.seq (W.region (WL.mv rfl rfl ?_))))
    refine WL.len (T := Ty) rfl rfl (by assumption) rfl ?_
    refine WL.mv rfl rfl (WL.nil (W.block ?_))
    refine W.fit (Hs' := [Buf 3 kO _, box b _ _, box b0 _ _, Qm _ m _, Buf 7 u _]) (by (repeat' first | exact Sel.nil | apply Sel.k | exact Pick.h | apply Pick.t)) ?_
    refine W.loopR (σ := Nat) (fun s => [(0, pt b 0), (2, val), (4, pt b0 0), (28, kO), (29, .int .i64 (out.length : Int)), (30, .int .i64 (s : Int))])
      (fun s => [Buf 3 kO (out.flatMap kyC), box b [.int .i64 d.most, .int .i64 d.target, u, .int .i64 (d.hot : Int), .int .i64 (d.cold : Int), .int .i64 (d.test : Int), .map (some m)] 55, box b0 [.int .i64 k.a, .int .i64 k.b, .int .i64 k.c] 28, Qm .i64 m (delsQ kvs (out.take s)), Buf 7 u (d.pages.flatMap pgC)]) (fun s ρ' => s ≤ out.length) (fun s => out.length - s)
      0 ⟨rfl, rfl, rfl, rfl, rfl, rfl, trivial⟩ (by rw [dels_zero]) (Nat.zero_le _) ?_
    intro j ρ2 le2 hj next
    replace rs := rs.mono le2
    by_cases hc : j < out.length
    · obtain ⟨y, hy⟩ : ∃ y, out[j]? = some y := ⟨_, List.getElem?_eq_getElem hc⟩
      have hrow : ((out.flatMap kyC).drop (((j : Nat) : Int).toNat * 3)).take 3 = kyC y := flat_row (k := 3) (f := kyC) (fun _ => rfl) hy
      unfold kyC at hrow
      have hds := dels_take (kvs := kvs) hy
      refine W.seq (W.region (WL.lss rfl rfl rfl (WL.nil (W.seq (W.condpT rfl (by omega) (W.skip (W.seq (W.block (W.seq (W.region ?_))))))))))
      refine WL.ix (T := Ty) rfl rfl rfl (by assumption) rfl rfl (by omega) (by first | omega | decide +kernel) ?_
      refine WL.ldAE (T := Ty) (j := 0) rfl rfl rfl rfl rfl (by assumption) rfl ?_
      refine WL.alF (T := Ty) rfl rfl (by repeat' constructor) (fun b1 => ?_)
      refine WL.stAO (T := Ty) (j := 0) rfl rfl rfl rfl (by repeat' first | exact AO.nil | apply AO.cons (by first | rfl | exact SL.one (by assumption))) rfl rfl (by repeat' constructor) (by repeat' constructor) ?_
      refine WL.nil ?_
      refine W.drawP 6 [false, false, false, false, true, false] rfl (by repeat' constructor) (by repeat' constructor) (fun σ0 hσ0 dσ0 => ?_)
      have fσ0_0 := rb_at 0 rfl hσ0 dσ0
      have fσ0_1 := ros_at 1 rfl hσ0 dσ0
      have fσ0_2 := rb_at 2 rfl hσ0 dσ0
      have fσ0_3 := rb_at 3 rfl hσ0 dσ0
      have fσ0_4 := ros_at 4 rfl hσ0 dσ0
      refine WD.takeL 0 rfl (by decide +kernel) (WL.mv rfl rfl (WL.nilT (WD.takeL 1 rfl (by decide +kernel) (WL.nc rfl rfl (WL.nilT (WD.takeL 2 rfl (by decide +kernel) (WL.faN (T := Ty) (off' := 6) rfl rfl rfl rfl rfl rfl rfl (WL.nilT (WD.takeL 3 rfl (by decide +kernel) ?_)))))))))
      refine WL.ldBN (T := Ty) rfl rfl rfl rfl (by first | assumption | exact RB.wide (by assumption) | exact In.rb (by assumption)) rfl ?_
      refine WL.nilT (WD.takeL 4 rfl (by decide +kernel) ?_)
      refine WL.ldABF (T := Ty) rfl rfl rfl rfl (by first | assumption | exact RB.wide (by assumption) | exact In.rb (by assumption)) rfl (by repeat' constructor) ?_
      refine WL.nilT (WD.oneL 5 rfl (by decide +kernel) ?_)
      refine WL.delQ (T := Ty) (j := 1) rfl rfl rfl (by assumption) rfl (by first | assumption | rfl) (by repeat' constructor) ?_
      refine WL.nilE ?_
      refine WD.doneF hσ0 (by decide +kernel) (by repeat' constructor) ?_
      refine W.inBlock (W.region (WL.addK rfl rfl rfl (wrap_i64 ⟨by omega, by omega⟩) (WL.mv rfl rfl (WL.nil ?_))))
      refine W.fit (Hs' := [Buf 3 kO _, box b _ _, box b0 _ _, Qm _ m _, Buf 7 u _]) (by (repeat' first | exact Sel.nil | apply Sel.k | exact Pick.h | apply Pick.t)) (W.sub ?_ (next (j + 1) ρ2 (Le.refl _) hc (by omega)))
      exact ⟨rfl, rfl, rfl, rfl, rfl, rfl, trivial⟩
    · rw [List.take_of_length_le (by omega)]
      refine W.seq (W.region (WL.lss rfl rfl rfl (WL.nil (W.seq (W.condpF rfl (by omega) (W.exit rfl (W.seq ?_)))))))
      refine W.drawA 7 rfl (fun σ0 hσ0 dσ0 => ?_)
      have fσ0_0 := ros_at 0 rfl hσ0 dσ0
      have fσ0_1 := rb_at 1 rfl hσ0 dσ0
      have fσ0_2 := rb_at 2 rfl hσ0 dσ0
      have fσ0_3 := in_at 3 rfl hσ0 dσ0
      have fσ0_4 := ros_at 4 rfl hσ0 dσ0
      refine WD.takeL 0 rfl (by decide +kernel) (WL.mv rfl rfl (WL.nilT (WD.takeL 1 rfl (by decide +kernel) (WL.nc rfl rfl (WL.nilT (WD.takeL 2 rfl (by decide +kernel) (WL.faN (T := Ty) (off' := 6) rfl rfl rfl rfl rfl rfl rfl (WL.nilT (WD.takeL 3 rfl (by decide +kernel) ?_)))))))))
      refine WL.ldBN (T := Ty) rfl rfl rfl rfl (by first | assumption | exact RB.wide (by assumption) | exact In.rb (by assumption)) rfl ?_
      refine WL.nilT (WD.takeL 4 rfl (by decide +kernel) ?_)
      refine WL.ldABF (T := Ty) rfl rfl rfl rfl (by first | assumption | exact RB.wide (by assumption) | exact In.rb (by assumption)) rfl (by repeat' constructor) ?_
      refine WL.nilT (WD.takeL 5 rfl (by decide +kernel) (WL.mv rfl rfl (WL.nilT (WD.oneL 6 rfl (by decide +kernel) ?_))))
      refine WL.callF rfl rfl (fun x p d => cloneM_c _ _ _ _ (by first | assumption | exact ROs.wide (by assumption) | exact ROs.mono (by assumption) (eqh_at 0 rfl p d) | exact ros_at 0 rfl p d | exact ros_at 1 rfl p d | exact ros_at 2 rfl p d | exact ros_at 3 rfl p d | exact ros_at 4 rfl p d) (by assumption) (by assumption) (by first | assumption | omega)) (fun u1 => ?_)
      refine WL.fact (i := 0) rfl (fun h hb => hb.sl (by assumption) (by omega)) (fun hsl1 => ?_)
      refine WL.nilH hσ0 (fun σ1 hσ1 dσ1 mσ1 => ?_)
      have fσ0_0 := fσ0_0.mono mσ1
      have fσ0_1 := fσ0_1.mono mσ1
      have fσ0_2 := fσ0_2.mono mσ1
      have fσ0_3 := fσ0_3.mono mσ1
      have fσ0_4 := fσ0_4.mono mσ1
      have fσ1_0 := ros_at 0 rfl hσ1 dσ1
      refine WD.lastG hσ1 (by decide +kernel) (by repeat' constructor) rfl (by repeat' constructor) ?_
      refine WL.muQO (T := Ty) (j := 4) rfl rfl rfl rfl (by assumption) rfl (by first | assumption | rfl) (by repeat' constructor) ?_
      refine WL.nil (W.seq (W.region (WL.as rfl rfl (WL.nil ?_))))
      exact W.fit (Hs' := [box b _ _, Buf 7 u _, Qm _ m _, Buf 2 _ _]) (by (repeat' first | exact Sel.nil | apply Sel.k | exact Pick.h | apply Pick.t)) (W.ret1 rfl rfl (fun h q => ⟨(u, _), ⟨rfl, su, by assumption⟩, q⟩))
  · refine W.drawA 13 rfl (fun σ0 hσ0 dσ0 => ?_)
    have fσ0_0 := rb_at 0 rfl hσ0 dσ0
    have fσ0_1 := rb_at 1 rfl hσ0 dσ0
    have fσ0_2 := in_at 2 rfl hσ0 dσ0
    refine WD.takeL 0 rfl (by decide +kernel) (WL.mv rfl rfl (WL.nilT (WD.takeL 1 rfl (by decide +kernel) (WL.nc rfl rfl (WL.nilT (WD.takeL 2 rfl (by decide +kernel) (WL.faN (T := Ty) (off' := 0) rfl rfl rfl rfl rfl rfl rfl (WL.nilT (WD.takeL 3 rfl (by decide +kernel) ?_)))))))))
    refine WL.ldABF (T := Ty) rfl rfl rfl rfl (by first | assumption | exact RB.wide (by assumption) | exact In.rb (by assumption)) rfl (by repeat' constructor) ?_
    refine WL.nilT (WD.takeL 4 rfl (by decide +kernel) ?_)
    refine WL.ldABF (T := Ty) rfl rfl rfl rfl (by first | assumption | exact RB.wide (by assumption) | exact In.rb (by assumption)) rfl (by repeat' constructor) ?_
    refine WL.nilT ?_
    refine WD.twoL 5 10 rfl rfl (by decide +kernel) ?_ ?_
    · refine WL.callF rfl rfl (fun x p d => admit_c _ _ _ _ _ _ (by assumption) (by assumption) (by first | assumption | omega) (by first | assumption | omega) (by first | assumption | exact ROs.wide (by assumption) | exact ROs.mono (by assumption) (eqh_at 0 rfl p d) | exact ros_at 0 rfl p d | exact ros_at 1 rfl p d | exact ros_at 2 rfl p d | exact ros_at 3 rfl p d | exact ros_at 4 rfl p d) (by assumption)) (fun r1 => ?_)
      refine WL.opens (α := Value × Value) (φ := fun x => r1 = .tuple #[.agg #[.int .i64 _, .int .i64 _, x.1, .int .i64 _, .int .i64 _, .int .i64 _], x.2, .bool _] ∧ SL x.1 _ ∧ SL x.2 _) (ps := fun x => [Buf 7 x.1 _, Buf 3 x.2 _]) 0 rfl (fun h q => q) (by repeat' constructor) ?_
      rintro ⟨u1, kv1⟩ ⟨es1, su1, sk1⟩
      subst es1
      dsimp only [List.cons_append, List.nil_append] at su1 sk1 ⊢
      refine WL.nilSS (WD.takeL 6 rfl (by decide +kernel) (WL.mv rfl rfl (WL.nilT (WD.takeL 7 rfl (by decide +kernel) (WL.extL rfl rfl rfl (WL.nilT (WD.takeL 8 rfl (by decide +kernel) (WL.extL rfl rfl rfl (WL.nilT (WD.takeL 9 rfl (by decide +kernel) (WL.extL rfl rfl rfl (WL.nilT (WD.oneL 10 rfl (by decide +kernel) ?_)))))))))))))
      refine WL.alF (T := Ty) rfl rfl (by repeat' constructor) (fun b2 => ?_)
      refine WL.nilS (WD.oneL 11 rfl (by decide +kernel) ?_)
      refine WL.stAO (T := Ty) (j := 1) rfl rfl rfl rfl (by repeat' first | exact AO.nil | apply AO.cons (by first | rfl | exact SL.one (by assumption))) rfl rfl (by repeat' constructor) (by repeat' constructor) ?_
      refine WL.nilE (WD.takeL 12 rfl (by decide +kernel) (WL.as rfl rfl (WL.nilT ?_)))
      refine WD.lastG hσ0 (by decide +kernel) (by repeat' constructor) rfl (by repeat' constructor) ?_
      refine WL.as rfl rfl (WL.nil ?_)
      first | (refine W.fit (Hs' := [Buf 7 _ (d.pages.flatMap pgC), Buf 3 _ (out.flatMap kyC), box b1 _ _, box b0 _ _, box b _ _, Qm _ m kvs]) (by (repeat' first | exact Sel.nil | apply Sel.k | exact Pick.h | apply Pick.t)) (W.sub ?_ (cut ⟨b1, _, _⟩ _ (Le.refl _) ⟨by assumption, by assumption⟩))) | (refine W.fit (Hs' := [Buf 7 _ (d.pages.flatMap pgC), Buf 3 _ (out.flatMap kyC), box b2 _ _, box b0 _ _, box b _ _, Qm _ m kvs]) (by (repeat' first | exact Sel.nil | apply Sel.k | exact Pick.h | apply Pick.t)) (W.sub ?_ (cut ⟨b2, _, _⟩ _ (Le.refl _) ⟨by assumption, by assumption⟩))) | (refine W.fit (Hs' := [Buf 7 _ (d.pages.flatMap pgC), Buf 3 _ (out.flatMap kyC), box b3 _ _, box b0 _ _, box b _ _, Qm _ m kvs]) (by (repeat' first | exact Sel.nil | apply Sel.k | exact Pick.h | apply Pick.t)) (W.sub ?_ (cut ⟨b3, _, _⟩ _ (Le.refl _) ⟨by assumption, by assumption⟩))) | (refine W.fit (Hs' := [Buf 7 _ (d.pages.flatMap pgC), Buf 3 _ (out.flatMap kyC), box b4 _ _, box b0 _ _, box b _ _, Qm _ m kvs]) (by (repeat' first | exact Sel.nil | apply Sel.k | exact Pick.h | apply Pick.t)) (W.sub ?_ (cut ⟨b4, _, _⟩ _ (Le.refl _) ⟨by assumption, by assumption⟩))) | (refine W.fit (Hs' := [Buf 7 _ (d.pages.flatMap pgC), Buf 3 _ (out.flatMap kyC), box b5 _ _, box b0 _ _, box b _ _, Qm _ m kvs]) (by (repeat' first | exact Sel.nil | apply Sel.k | exact Pick.h | apply Pick.t)) (W.sub ?_ (cut ⟨b5, _, _⟩ _ (Le.refl _) ⟨by assumption, by assumption⟩))) | (refine W.fit (Hs' := [Buf 7 _ (d.pages.flatMap pgC), Buf 3 _ (out.flatMap kyC), box b6 _ _, box b0 _ _, box b _ _, Qm _ m kvs]) (by (repeat' first | exact Sel.nil | apply Sel.k | exact Pick.h | apply Pick.t)) (W.sub ?_ (cut ⟨b6, _, _⟩ _ (Le.refl _) ⟨by assumption, by assumption⟩)))
      exact ⟨rfl, rfl, rfl, rfl, rfl, rfl, rfl, trivial⟩
    · refine WL.alF (T := Ty) rfl rfl (by repeat' constructor) (fun b1 => ?_)
      refine WL.nilS (WD.oneL 5 rfl (by decide +kernel) ?_)
      refine WL.callF rfl rfl (fun x p d => admit_c _ _ _ _ _ _ (by assumption) (by assumption) (by first | assumption | omega) (by first | assumption | omega) (by first | assumption | exact ROs.wide (by assumption) | exact ROs.mono (by assumption) (eqh_at 0 rfl p d) | exact ros_at 0 rfl p d | exact ros_at 1 rfl p d | exact ros_at 2 rfl p d | exact ros_at 3 rfl p d | exact ros_at 4 rfl p d) (by assumption)) (fun r2 => ?_)
      refine WL.opens (α := Value × Value) (φ := fun x => r2 = .tuple #[.agg #[.int .i64 _, .int .i64 _, x.1, .int .i64 _, .int .i64 _, .int .i64 _], x.2, .bool _] ∧ SL x.1 _ ∧ SL x.2 _) (ps := fun x => [Buf 7 x.1 _, Buf 3 x.2 _]) 0 rfl (fun h q => q) (by repeat' constructor) ?_
      rintro ⟨u2, kv2⟩ ⟨es2, su2, sk2⟩
      subst es2
      dsimp only [List.cons_append, List.nil_append] at su2 sk2 ⊢
      refine WL.nilSS (WD.takeL 6 rfl (by decide +kernel) (WL.mv rfl rfl (WL.nilT (WD.takeL 7 rfl (by decide +kernel) (WL.extL rfl rfl rfl (WL.nilT (WD.takeL 8 rfl (by decide +kernel) (WL.extL rfl rfl rfl (WL.nilT (WD.takeL 9 rfl (by decide +kernel) (WL.extL rfl rfl rfl (WL.nilT (WD.oneL 11 rfl (by decide +kernel) ?_)))))))))))))
      refine WL.stAO (T := Ty) (j := 3) rfl rfl rfl rfl (by repeat' first | exact AO.nil | apply AO.cons (by first | rfl | exact SL.one (by assumption))) rfl rfl (by repeat' constructor) (by repeat' constructor) ?_
      refine WL.nilE (WD.takeL 12 rfl (by decide +kernel) (WL.as rfl rfl (WL.nilT ?_)))
      refine WD.lastG hσ0 (by decide +kernel) (by repeat' constructor) rfl (by repeat' constructor) ?_
      refine WL.as rfl rfl (WL.nil ?_)
      first | (refine W.fit (Hs' := [Buf 7 _ (d.pages.flatMap pgC), Buf 3 _ (out.flatMap kyC), box b1 _ _, box b0 _ _, box b _ _, Qm _ m kvs]) (by (repeat' first | exact Sel.nil | apply Sel.k | exact Pick.h | apply Pick.t)) (W.sub ?_ (cut ⟨b1, _, _⟩ _ (Le.refl _) ⟨by assumption, by assumption⟩))) | (refine W.fit (Hs' := [Buf 7 _ (d.pages.flatMap pgC), Buf 3 _ (out.flatMap kyC), box b2 _ _, box b0 _ _, box b _ _, Qm _ m kvs]) (by (repeat' first | exact Sel.nil | apply Sel.k | exact Pick.h | apply Pick.t)) (W.sub ?_ (cut ⟨b2, _, _⟩ _ (Le.refl _) ⟨by assumption, by assumption⟩))) | (refine W.fit (Hs' := [Buf 7 _ (d.pages.flatMap pgC), Buf 3 _ (out.flatMap kyC), box b3 _ _, box b0 _ _, box b _ _, Qm _ m kvs]) (by (repeat' first | exact Sel.nil | apply Sel.k | exact Pick.h | apply Pick.t)) (W.sub ?_ (cut ⟨b3, _, _⟩ _ (Le.refl _) ⟨by assumption, by assumption⟩))) | (refine W.fit (Hs' := [Buf 7 _ (d.pages.flatMap pgC), Buf 3 _ (out.flatMap kyC), box b4 _ _, box b0 _ _, box b _ _, Qm _ m kvs]) (by (repeat' first | exact Sel.nil | apply Sel.k | exact Pick.h | apply Pick.t)) (W.sub ?_ (cut ⟨b4, _, _⟩ _ (Le.refl _) ⟨by assumption, by assumption⟩))) | (refine W.fit (Hs' := [Buf 7 _ (d.pages.flatMap pgC), Buf 3 _ (out.flatMap kyC), box b5 _ _, box b0 _ _, box b _ _, Qm _ m kvs]) (by (repeat' first | exact Sel.nil | apply Sel.k | exact Pick.h | apply Pick.t)) (W.sub ?_ (cut ⟨b5, _, _⟩ _ (Le.refl _) ⟨by assumption, by assumption⟩))) | (refine W.fit (Hs' := [Buf 7 _ (d.pages.flatMap pgC), Buf 3 _ (out.flatMap kyC), box b6 _ _, box b0 _ _, box b _ _, Qm _ m kvs]) (by (repeat' first | exact Sel.nil | apply Sel.k | exact Pick.h | apply Pick.t)) (W.sub ?_ (cut ⟨b6, _, _⟩ _ (Le.refl _) ⟨by assumption, by assumption⟩)))
      exact ⟨rfl, rfl, rfl, rfl, rfl, rfl, rfl, trivial⟩
theorem putYX_c (ρ : Hp) (b m : Nat) (c : Clk) (v : Value) (kvs : List (Ky × Value)) (ka kb kc : Int) (fu : Nat) (val : Value) (d : Clk) (out : List Ky) (L : List Smp) (hB : ClkB c) (rv : ROs ρ 7 v (c.pages.flatMap pgC)) (hR : ClkR c) (hl : c.pages.length ≤ 10000) (hd : admitP fu c (⟨ka, kb, kc⟩ : Ky) = some (d, out, true)) (hfu : fu ≤ 1000000) (hol : out.length ≤ 1000000) (rs : ROs ρ 2 val (L.flatMap smC)) (hL : L.length ≤ 1000) :
  Fn Try.prog 9 #[pt b 0, .agg #[.int .i64 ka, .int .i64 kb, .int .i64 kc], val] ρ [box b [.int .i64 c.most, .int .i64 c.target, v, .int .i64 (c.hot : Int), .int .i64 (c.cold : Int), .int .i64 (c.test : Int), .map (some m)] 55, Qm .i64 m kvs]
   (fun r h => ∃ x : Value × Value, (r = .bool true ∧ SL x.1 d.pages.length ∧ SL x.2 L.length) ∧ sepl [box b [.int .i64 d.most, .int .i64 d.target, x.1, .int .i64 (d.hot : Int), .int .i64 (d.cold : Int), .int .i64 (d.test : Int), .map (some m)] 55, Buf 7 x.1 (d.pages.flatMap pgC), Qm .i64 m (qset (delsQ kvs out) (⟨ka, kb, kc⟩ : Ky) x.2), Buf 2 x.2 (L.flatMap smC)] h) :=
 putY_c ρ b m c v kvs ⟨ka, kb, kc⟩ fu val d out L hB rv hR hl hd hfu hol rs hL
theorem putN_c (ρ : Hp) (b m : Nat) (c : Clk) (v : Value) (kvs : List (Ky × Value)) (k : Ky) (fu : Nat) (val : Value) (d : Clk) (out : List Ky) (hB : ClkB c) (rv : ROs ρ 7 v (c.pages.flatMap pgC)) (hR : ClkR c) (hl : c.pages.length ≤ 10000) (hd : admitP fu c k = some (d, out, false)) (hfu : fu ≤ 1000000) :
  Fn Try.prog 9 #[pt b 0, .agg #[.int .i64 k.a, .int .i64 k.b, .int .i64 k.c], val] ρ [box b [.int .i64 c.most, .int .i64 c.target, v, .int .i64 (c.hot : Int), .int .i64 (c.cold : Int), .int .i64 (c.test : Int), .map (some m)] 55, Qm .i64 m kvs]
   (fun r h => r = .bool false ∧ sepl [box b [.int .i64 c.most, .int .i64 c.target, v, .int .i64 (c.hot : Int), .int .i64 (c.cold : Int), .int .i64 (c.test : Int), .map (some m)] 55, Qm .i64 m kvs] h) := by
 have hfu2 : fu ≤ 1000000 := hfu
 refine in9 rfl rfl ?_
 refine W.seq (W.region ?_)
 refine WL.bxF rfl rfl (by repeat' constructor) (fun b0 => ?_)
 refine WL.as rfl rfl (WL.nil (W.seq ?_))
 refine W.drawA 13 rfl (fun σ0 hσ0 dσ0 => ?_)
 have fσ0_0 := rb_at 0 rfl hσ0 dσ0
 have fσ0_1 := rb_at 1 rfl hσ0 dσ0
 have fσ0_2 := in_at 2 rfl hσ0 dσ0
 refine WD.takeL 0 rfl (by decide +kernel) (WL.mv rfl rfl (WL.nilT (WD.takeL 1 rfl (by decide +kernel) (WL.nc rfl rfl (WL.nilT (WD.takeL 2 rfl (by decide +kernel) (WL.faN (T := Ty) (off' := 0) rfl rfl rfl rfl rfl rfl rfl (WL.nilT (WD.takeL 3 rfl (by decide +kernel) ?_)))))))))
 refine WL.ldABF (T := Ty) rfl rfl rfl rfl (by first | assumption | exact RB.wide (by assumption) | exact In.rb (by assumption)) rfl (by repeat' constructor) ?_
 refine WL.nilT (WD.takeL 4 rfl (by decide +kernel) ?_)
 refine WL.ldABF (T := Ty) rfl rfl rfl rfl (by first | assumption | exact RB.wide (by assumption) | exact In.rb (by assumption)) rfl (by repeat' constructor) ?_
 refine WL.nilT ?_
 refine WD.twoL 5 10 rfl rfl (by decide +kernel) ?_ ?_
 ·refine WL.callF rfl rfl (fun x p d => admit_c _ _ _ _ _ _ (by assumption) (by assumption) (by first | assumption | omega) (by first | assumption | omega) (by first | assumption | exact ROs.wide (by assumption) | exact ROs.mono (by assumption) (eqh_at 0 rfl p d) | exact ros_at 0 rfl p d | exact ros_at 1 rfl p d | exact ros_at 2 rfl p d | exact ros_at 3 rfl p d | exact ros_at 4 rfl p d) (by assumption)) (fun r1 => ?_)
  refine WL.opens (α := Value × Value) (φ := fun x => r1 = .tuple #[.agg #[.int .i64 _, .int .i64 _, x.1, .int .i64 _, .int .i64 _, .int .i64 _], x.2, .bool _] ∧ SL x.1 _ ∧ SL x.2 _) (ps := fun x => [Buf 7 x.1 _, Buf 3 x.2 _]) 0 rfl (fun h q => q) (by repeat' constructor) ?_
  rintro ⟨u1, kv1⟩ ⟨es1, su1, sk1⟩
  subst es1
  dsimp only [List.cons_append, List.nil_append] at su1 sk1 ⊢
  refine WL.nilSS (WD.takeL 6 rfl (by decide +kernel) (WL.mv rfl rfl (WL.nilT (WD.takeL 7 rfl (by decide +kernel) (WL.extL rfl rfl rfl (WL.nilT (WD.takeL 8 rfl (by decide +kernel) (WL.extL rfl rfl rfl (WL.nilT (WD.takeL 9 rfl (by decide +kernel) (WL.extL rfl rfl rfl (WL.nilT (WD.oneL 10 rfl (by decide +kernel) ?_)))))))))))))
  refine WL.alF (T := Ty) rfl rfl (by repeat' constructor) (fun b2 => ?_)
  refine WL.nilS (WD.oneL 11 rfl (by decide +kernel) ?_)
  refine WL.stAO (T := Ty) (j := 1) rfl rfl rfl rfl (by repeat' first | exact AO.nil | apply AO.cons (by first | rfl | exact SL.one (by assumption))) rfl rfl (by repeat' constructor) (by repeat' constructor) ?_
  refine WL.nilE (WD.takeL 12 rfl (by decide +kernel) (WL.as rfl rfl (WL.nilT ?_)))
  refine WD.lastG hσ0 (by decide +kernel) (by repeat' constructor) rfl (by repeat' constructor) ?_
  refine WL.as rfl rfl (WL.nil (W.seq (W.seq (W.region (WL.mv rfl rfl (WL.not rfl rfl (WL.nil (W.condT rfl (W.seq (W.region (WL.as rfl rfl (WL.nil ?_))))))))))))
  exact W.fit (Hs' := [box b _ _, Qm _ m kvs]) (by (repeat' first | exact Sel.nil | apply Sel.k | exact Pick.h | apply Pick.t)) (W.ret1 rfl rfl (fun h q => ⟨rfl, q⟩))
 ·refine WL.alF (T := Ty) rfl rfl (by repeat' constructor) (fun b1 => ?_)
  refine WL.nilS (WD.oneL 5 rfl (by decide +kernel) ?_)
  refine WL.callF rfl rfl (fun x p d => admit_c _ _ _ _ _ _ (by assumption) (by assumption) (by first | assumption | omega) (by first | assumption | omega) (by first | assumption | exact ROs.wide (by assumption) | exact ROs.mono (by assumption) (eqh_at 0 rfl p d) | exact ros_at 0 rfl p d | exact ros_at 1 rfl p d | exact ros_at 2 rfl p d | exact ros_at 3 rfl p d | exact ros_at 4 rfl p d) (by assumption)) (fun r2 => ?_)
  refine WL.opens (α := Value × Value) (φ := fun x => r2 = .tuple #[.agg #[.int .i64 _, .int .i64 _, x.1, .int .i64 _, .int .i64 _, .int .i64 _], x.2, .bool _] ∧ SL x.1 _ ∧ SL x.2 _) (ps := fun x => [Buf 7 x.1 _, Buf 3 x.2 _]) 0 rfl (fun h q => q) (by repeat' constructor) ?_
  rintro ⟨u2, kv2⟩ ⟨es2, su2, sk2⟩
  subst es2
  dsimp only [List.cons_append, List.nil_append] at su2 sk2 ⊢
  refine WL.nilSS (WD.takeL 6 rfl (by decide +kernel) (WL.mv rfl rfl (WL.nilT (WD.takeL 7 rfl (by decide +kernel) (WL.extL rfl rfl rfl (WL.nilT (WD.takeL 8 rfl (by decide +kernel) (WL.extL rfl rfl rfl (WL.nilT (WD.takeL 9 rfl (by decide +kernel) (WL.extL rfl rfl rfl (WL.nilT (WD.oneL 11 rfl (by decide +kernel) ?_)))))))))))))
  refine WL.stAO (T := Ty) (j := 3) rfl rfl rfl rfl (by repeat' first | exact AO.nil | apply AO.cons (by first | rfl | exact SL.one (by assumption))) rfl rfl (by repeat' constructor) (by repeat' constructor) ?_
  refine WL.nilE (WD.takeL 12 rfl (by decide +kernel) (WL.as rfl rfl (WL.nilT ?_)))
  refine WD.lastG hσ0 (by decide +kernel) (by repeat' constructor) rfl (by repeat' constructor) ?_
  refine WL.as rfl rfl (WL.nil (W.seq (W.seq (W.region (WL.mv rfl rfl (WL.not rfl rfl (WL.nil (W.condT rfl (W.seq (W.region (WL.as rfl rfl (WL.nil ?_))))))))))))
  exact W.fit (Hs' := [box b _ _, Qm _ m kvs]) (by (repeat' first | exact Sel.nil | apply Sel.k | exact Pick.h | apply Pick.t)) (W.ret1 rfl rfl (fun h q => ⟨rfl, q⟩))
theorem putNX_c (ρ : Hp) (b m : Nat) (c : Clk) (v : Value) (kvs : List (Ky × Value)) (ka kb kc : Int) (fu : Nat) (val : Value) (d : Clk) (out : List Ky) (hB : ClkB c) (rv : ROs ρ 7 v (c.pages.flatMap pgC)) (hR : ClkR c) (hl : c.pages.length ≤ 10000) (hd : admitP fu c (⟨ka, kb, kc⟩ : Ky) = some (d, out, false)) (hfu : fu ≤ 1000000) :
  Fn Try.prog 9 #[pt b 0, .agg #[.int .i64 ka, .int .i64 kb, .int .i64 kc], val] ρ [box b [.int .i64 c.most, .int .i64 c.target, v, .int .i64 (c.hot : Int), .int .i64 (c.cold : Int), .int .i64 (c.test : Int), .map (some m)] 55, Qm .i64 m kvs]
   (fun r h => r = .bool false ∧ sepl [box b [.int .i64 c.most, .int .i64 c.target, v, .int .i64 (c.hot : Int), .int .i64 (c.cold : Int), .int .i64 (c.test : Int), .map (some m)] 55, Qm .i64 m kvs] h) :=
 putN_c ρ b m c v kvs ⟨ka, kb, kc⟩ fu val d out hB rv hR hl hd hfu
theorem pincY_c (ρ : Hp) (b m : Nat) (c : Clk) (v : Value) (kvs : List (Ky × Value)) (k : Ky) (n : Int) (d : Clk) (hB : ClkB c) (rv : ROs ρ 7 v (c.pages.flatMap pgC)) (hd : pinP c k n = (d, true)) :
  Fn Try.prog 25 #[pt b 0, .agg #[.int .i64 k.a, .int .i64 k.b, .int .i64 k.c], .int .i64 n] ρ [box b [.int .i64 c.most, .int .i64 c.target, v, .int .i64 (c.hot : Int), .int .i64 (c.cold : Int), .int .i64 (c.test : Int), .map (some m)] 55, Qm .i64 m kvs]
   (fun r h => ∃ x : Value, (r = .bool true ∧ SL x d.pages.length) ∧ sepl [box b [.int .i64 d.most, .int .i64 d.target, x, .int .i64 (d.hot : Int), .int .i64 (d.cold : Int), .int .i64 (d.test : Int), .map (some m)] 55, Buf 7 x (d.pages.flatMap pgC), Qm .i64 m kvs] h) := by
 refine in25 rfl rfl ?_
 refine W.seq (W.region ?_)
 refine WL.bxF rfl rfl (by repeat' constructor) (fun b0 => ?_)
 refine WL.as rfl rfl (WL.nil (W.seq ?_))
 refine W.cutG (τ := Nat × Value) (fun s => [(0, pt b 0), (4, pt b0 0), (6, .bool false), (7, pt s.1 0), (8, .bool true)]) (fun s => [Buf 7 s.2 (d.pages.flatMap pgC), box s.1 [.int .i64 d.most, .int .i64 d.target, s.2, .int .i64 (d.hot : Int), .int .i64 (d.cold : Int), .int .i64 (d.test : Int)] 36, box b0 [.int .i64 k.a, .int .i64 k.b, .int .i64 k.c] 28, box b [.int .i64 c.most, .int .i64 c.target, v, .int .i64 (c.hot : Int), .int .i64 (c.cold : Int), .int .i64 (c.test : Int), .map (some m)] 55, Qm .i64 m kvs]) (fun s ρ' => SL s.2 d.pages.length) ?_ (fun cut => ?_)
 ·rintro ⟨bn, u⟩ ρ1 le1 su
  dsimp only at su ⊢
  refine W.seq (W.seq (W.region (WL.mv rfl rfl (WL.nil (W.condT rfl (W.region (WL.mv rfl rfl ?_)))))))
  refine WL.ldAF (T := Ty) (j := 1) rfl rfl rfl rfl rfl rfl (by repeat' constructor) ?_
  refine WL.nc rfl rfl (WL.faN (T := Ty) (off' := 0) rfl rfl rfl rfl rfl rfl rfl ?_)
  refine WL.stAO (T := Ty) (j := 3) rfl rfl rfl rfl (by repeat' first | exact AO.nil | apply AO.cons (by first | rfl | exact SL.one (by assumption))) rfl rfl (by repeat' constructor) (by repeat' constructor) ?_
  refine WL.nil (W.seq (W.region (WL.mv rfl rfl (WL.as rfl rfl (WL.nil ?_)))))
  exact W.fit (Hs' := [box b _ _, Buf 7 u _, Qm _ m kvs]) (by (repeat' first | exact Sel.nil | apply Sel.k | exact Pick.h | apply Pick.t)) (W.ret1 rfl rfl (fun h q => ⟨u, ⟨rfl, su⟩, q⟩))
 ·refine W.drawA 12 rfl (fun σ0 hσ0 dσ0 => ?_)
  have fσ0_0 := rb_at 0 rfl hσ0 dσ0
  have fσ0_1 := rb_at 1 rfl hσ0 dσ0
  have fσ0_2 := in_at 2 rfl hσ0 dσ0
  refine WD.takeL 0 rfl (by decide +kernel) (WL.mv rfl rfl (WL.nilT (WD.takeL 1 rfl (by decide +kernel) (WL.nc rfl rfl (WL.nilT (WD.takeL 2 rfl (by decide +kernel) (WL.faN (T := Ty) (off' := 0) rfl rfl rfl rfl rfl rfl rfl (WL.nilT (WD.takeL 3 rfl (by decide +kernel) ?_)))))))))
  refine WL.ldABF (T := Ty) rfl rfl rfl rfl (by first | assumption | exact RB.wide (by assumption) | exact In.rb (by assumption)) rfl (by repeat' constructor) ?_
  refine WL.nilT (WD.takeL 4 rfl (by decide +kernel) ?_)
  refine WL.ldABF (T := Ty) rfl rfl rfl rfl (by first | assumption | exact RB.wide (by assumption) | exact In.rb (by assumption)) rfl (by repeat' constructor) ?_
  refine WL.nilT (WD.takeL 5 rfl (by decide +kernel) (WL.mv rfl rfl (WL.nilT ?_)))
  refine WD.twoL 6 10 rfl rfl (by decide +kernel) ?_ ?_
  ·refine WL.callF rfl rfl (fun x p d => pin_e _ _ _ _ _ _ _ (by assumption) (by first | assumption | exact ROs.wide (by assumption) | exact ROs.mono (by assumption) (eqh_at 0 rfl p d) | exact ros_at 0 rfl p d | exact ros_at 1 rfl p d | exact ros_at 2 rfl p d | exact ros_at 3 rfl p d | exact ros_at 4 rfl p d) (by assumption)) (fun r1 => ?_)
   refine WL.opens (α := Value) (φ := fun v => r1 = .tuple #[.agg #[.int .i64 _, .int .i64 _, v, .int .i64 _, .int .i64 _, .int .i64 _], .bool _] ∧ SL v _) (ps := fun v => [Buf 7 v _]) 0 rfl (fun h q => q) (by repeat' constructor) ?_
   rintro u1 ⟨es1, su1⟩
   subst es1
   dsimp only [List.cons_append, List.nil_append] at su1 ⊢
   refine WL.nilH hσ0 (fun σ1 hσ1 dσ1 mσ1 => ?_)
   have fσ0_0 := fσ0_0.mono mσ1
   have fσ0_1 := fσ0_1.mono mσ1
   have fσ0_2 := fσ0_2.mono mσ1
   have fσ1_0 := ros_at 0 rfl hσ1 dσ1
   refine WD.takeL 7 rfl (by decide +kernel) (WL.mv rfl rfl (WL.nilT (WD.takeL 8 rfl (by decide +kernel) (WL.extL rfl rfl rfl (WL.nilT (WD.takeL 9 rfl (by decide +kernel) (WL.extL rfl rfl rfl (WL.nilT (WD.oneL 10 rfl (by decide +kernel) ?_)))))))))
   refine WL.alF (T := Ty) rfl rfl (by repeat' constructor) (fun b2 => ?_)
   refine WL.nilS (WD.oneL 11 rfl (by decide +kernel) ?_)
   refine WL.stAO (T := Ty) (j := 1) rfl rfl rfl rfl (by repeat' first | exact AO.nil | apply AO.cons (by first | rfl | exact SL.one (by assumption))) rfl rfl (by repeat' constructor) (by repeat' constructor) ?_
   refine WL.nilE ?_
   refine WD.lastG hσ1 (by decide +kernel) (by repeat' constructor) rfl (by repeat' constructor) ?_
   refine WL.as rfl rfl (WL.nil ?_)
   first | (refine W.fit (Hs' := [Buf 7 _ (d.pages.flatMap pgC), box b1 _ _, box b0 _ _, box b _ _, Qm _ m kvs]) (by (repeat' first | exact Sel.nil | apply Sel.k | exact Pick.h | apply Pick.t)) (W.sub ?_ (cut ⟨b1, _⟩ _ (Le.refl _) (by assumption)))) | (refine W.fit (Hs' := [Buf 7 _ (d.pages.flatMap pgC), box b2 _ _, box b0 _ _, box b _ _, Qm _ m kvs]) (by (repeat' first | exact Sel.nil | apply Sel.k | exact Pick.h | apply Pick.t)) (W.sub ?_ (cut ⟨b2, _⟩ _ (Le.refl _) (by assumption)))) | (refine W.fit (Hs' := [Buf 7 _ (d.pages.flatMap pgC), box b3 _ _, box b0 _ _, box b _ _, Qm _ m kvs]) (by (repeat' first | exact Sel.nil | apply Sel.k | exact Pick.h | apply Pick.t)) (W.sub ?_ (cut ⟨b3, _⟩ _ (Le.refl _) (by assumption)))) | (refine W.fit (Hs' := [Buf 7 _ (d.pages.flatMap pgC), box b4 _ _, box b0 _ _, box b _ _, Qm _ m kvs]) (by (repeat' first | exact Sel.nil | apply Sel.k | exact Pick.h | apply Pick.t)) (W.sub ?_ (cut ⟨b4, _⟩ _ (Le.refl _) (by assumption)))) | (refine W.fit (Hs' := [Buf 7 _ (d.pages.flatMap pgC), box b5 _ _, box b0 _ _, box b _ _, Qm _ m kvs]) (by (repeat' first | exact Sel.nil | apply Sel.k | exact Pick.h | apply Pick.t)) (W.sub ?_ (cut ⟨b5, _⟩ _ (Le.refl _) (by assumption)))) | (refine W.fit (Hs' := [Buf 7 _ (d.pages.flatMap pgC), box b6 _ _, box b0 _ _, box b _ _, Qm _ m kvs]) (by (repeat' first | exact Sel.nil | apply Sel.k | exact Pick.h | apply Pick.t)) (W.sub ?_ (cut ⟨b6, _⟩ _ (Le.refl _) (by assumption))))
   exact ⟨rfl, rfl, rfl, rfl, rfl, trivial⟩
  ·refine WL.alF (T := Ty) rfl rfl (by repeat' constructor) (fun b1 => ?_)
   refine WL.nilS (WD.oneL 6 rfl (by decide +kernel) ?_)
   refine WL.callF rfl rfl (fun x p d => pin_e _ _ _ _ _ _ _ (by assumption) (by first | assumption | exact ROs.wide (by assumption) | exact ROs.mono (by assumption) (eqh_at 0 rfl p d) | exact ros_at 0 rfl p d | exact ros_at 1 rfl p d | exact ros_at 2 rfl p d | exact ros_at 3 rfl p d | exact ros_at 4 rfl p d) (by assumption)) (fun r2 => ?_)
   refine WL.opens (α := Value) (φ := fun v => r2 = .tuple #[.agg #[.int .i64 _, .int .i64 _, v, .int .i64 _, .int .i64 _, .int .i64 _], .bool _] ∧ SL v _) (ps := fun v => [Buf 7 v _]) 0 rfl (fun h q => q) (by repeat' constructor) ?_
   rintro u2 ⟨es2, su2⟩
   subst es2
   dsimp only [List.cons_append, List.nil_append] at su2 ⊢
   refine WL.nilH hσ0 (fun σ1 hσ1 dσ1 mσ1 => ?_)
   have fσ0_0 := fσ0_0.mono mσ1
   have fσ0_1 := fσ0_1.mono mσ1
   have fσ0_2 := fσ0_2.mono mσ1
   have fσ1_0 := ros_at 0 rfl hσ1 dσ1
   refine WD.takeL 7 rfl (by decide +kernel) (WL.mv rfl rfl (WL.nilT (WD.takeL 8 rfl (by decide +kernel) (WL.extL rfl rfl rfl (WL.nilT (WD.takeL 9 rfl (by decide +kernel) (WL.extL rfl rfl rfl (WL.nilT (WD.oneL 11 rfl (by decide +kernel) ?_)))))))))
   refine WL.stAO (T := Ty) (j := 1) rfl rfl rfl rfl (by repeat' first | exact AO.nil | apply AO.cons (by first | rfl | exact SL.one (by assumption))) rfl rfl (by repeat' constructor) (by repeat' constructor) ?_
   refine WL.nilE ?_
   refine WD.lastG hσ1 (by decide +kernel) (by repeat' constructor) rfl (by repeat' constructor) ?_
   refine WL.as rfl rfl (WL.nil ?_)
   first | (refine W.fit (Hs' := [Buf 7 _ (d.pages.flatMap pgC), box b1 _ _, box b0 _ _, box b _ _, Qm _ m kvs]) (by (repeat' first | exact Sel.nil | apply Sel.k | exact Pick.h | apply Pick.t)) (W.sub ?_ (cut ⟨b1, _⟩ _ (Le.refl _) (by assumption)))) | (refine W.fit (Hs' := [Buf 7 _ (d.pages.flatMap pgC), box b2 _ _, box b0 _ _, box b _ _, Qm _ m kvs]) (by (repeat' first | exact Sel.nil | apply Sel.k | exact Pick.h | apply Pick.t)) (W.sub ?_ (cut ⟨b2, _⟩ _ (Le.refl _) (by assumption)))) | (refine W.fit (Hs' := [Buf 7 _ (d.pages.flatMap pgC), box b3 _ _, box b0 _ _, box b _ _, Qm _ m kvs]) (by (repeat' first | exact Sel.nil | apply Sel.k | exact Pick.h | apply Pick.t)) (W.sub ?_ (cut ⟨b3, _⟩ _ (Le.refl _) (by assumption)))) | (refine W.fit (Hs' := [Buf 7 _ (d.pages.flatMap pgC), box b4 _ _, box b0 _ _, box b _ _, Qm _ m kvs]) (by (repeat' first | exact Sel.nil | apply Sel.k | exact Pick.h | apply Pick.t)) (W.sub ?_ (cut ⟨b4, _⟩ _ (Le.refl _) (by assumption)))) | (refine W.fit (Hs' := [Buf 7 _ (d.pages.flatMap pgC), box b5 _ _, box b0 _ _, box b _ _, Qm _ m kvs]) (by (repeat' first | exact Sel.nil | apply Sel.k | exact Pick.h | apply Pick.t)) (W.sub ?_ (cut ⟨b5, _⟩ _ (Le.refl _) (by assumption)))) | (refine W.fit (Hs' := [Buf 7 _ (d.pages.flatMap pgC), box b6 _ _, box b0 _ _, box b _ _, Qm _ m kvs]) (by (repeat' first | exact Sel.nil | apply Sel.k | exact Pick.h | apply Pick.t)) (W.sub ?_ (cut ⟨b6, _⟩ _ (Le.refl _) (by assumption))))
   exact ⟨rfl, rfl, rfl, rfl, rfl, trivial⟩
theorem pincYX_c (ρ : Hp) (b m : Nat) (c : Clk) (v : Value) (kvs : List (Ky × Value)) (ka kb kc : Int) (n : Int) (d : Clk) (hB : ClkB c) (rv : ROs ρ 7 v (c.pages.flatMap pgC)) (hd : pinP c (⟨ka, kb, kc⟩ : Ky) n = (d, true)) :
  Fn Try.prog 25 #[pt b 0, .agg #[.int .i64 ka, .int .i64 kb, .int .i64 kc], .int .i64 n] ρ [box b [.int .i64 c.most, .int .i64 c.target, v, .int .i64 (c.hot : Int), .int .i64 (c.cold : Int), .int .i64 (c.test : Int), .map (some m)] 55, Qm .i64 m kvs]
   (fun r h => ∃ x : Value, (r = .bool true ∧ SL x d.pages.length) ∧ sepl [box b [.int .i64 d.most, .int .i64 d.target, x, .int .i64 (d.hot : Int), .int .i64 (d.cold : Int), .int .i64 (d.test : Int), .map (some m)] 55, Buf 7 x (d.pages.flatMap pgC), Qm .i64 m kvs] h) :=
 pincY_c ρ b m c v kvs ⟨ka, kb, kc⟩ n d hB rv hd
end Go.Proofs.Ytdpnpipninggeaa
/- What is kept ready: pages, pins, drops; how many there are; rows of samples. -/
set_option linter.unusedSimpArgs false
set_option linter.unusedVariables false
set_option maxRecDepth 20000
set_option maxHeartbeats 4000000
namespace Go.Proofs.Ytdpnpipninggeaa
open Go
attribute [local irreducible] W WL Fn Buf ROs SL eptr box Rd Src bndOK WD RB Reads In Own fndK touchP pinP dropP admitP Qm qget qset qdel delsQ
theorem pageY_c (ρ : Hp) (b m : Nat) (c : Clk) (v : Value) (k : Ky) (i : Nat) (p : Pg) (rb : RB ρ b [.int .i64 c.most, .int .i64 c.target, v, .int .i64 (c.hot : Int), .int .i64 (c.cold : Int), .int .i64 (c.test : Int), .map (some m)] 55) (rv : ROs ρ 7 v (c.pages.flatMap pgC)) (hln : c.pages.length ≤ 1000000) (hf : fndK c.pages k = (i : Int)) (hp : c.pages[i]? = some p) :
  Fn Try.prog 24 #[pt b 0, .agg #[.int .i64 k.a, .int .i64 k.b, .int .i64 k.c]] ρ [] (Just (.tuple #[pgV p, .bool true])) := by
 have l1 := pgs_cells c.pages
 have sv : SL v c.pages.length := rv.sl l1 (by omega)
 refine in24 rfl rfl ?_
 have hpl := (List.getElem?_eq_some_iff.1 hp).1
 have hrow : ((c.pages.flatMap pgC).drop (((i : Nat) : Int).toNat * 7)).take 7 = pgC p := flat_row pg_len hp
 unfold pgC at hrow
 unfold pgV
 refine W.seq (W.region ?_)
 refine WL.bxF rfl rfl (by repeat' constructor) (fun b0 => ?_)
 refine WL.alF (T := Ty) rfl rfl (by repeat' constructor) (fun b1 => ?_)
 refine WL.as rfl rfl (WL.nil (W.seq ?_))
 refine W.cutG (τ := Unit) (fun s => [(0, pt b 0), (3, pt b0 0), (4, pt b1 0), (5, .bool false), (6, .int .i64 (fndK c.pages k))]) (fun s => [box b1 [.int .i64 0, .int .i64 0, .int .i64 0, .int .i64 0, .bool false, .bool false, .int .i64 0] 39, box b0 [.int .i64 k.a, .int .i64 k.b, .int .i64 k.c] 28]) (fun s ρ' => ρ' = ρ) ?_ (fun cut => ?_)
 ·rintro _ _ - rfl
  rw [hf]
  refine W.seq (W.seq (W.region (WL.mv rfl rfl (WL.lss rfl rfl rfl (WL.nil (W.condF rfl (W.skip (W.seq (W.region (WL.mv rfl rfl (WL.nc rfl rfl (WL.faN (T := Ty) (off' := 0) rfl rfl rfl rfl rfl rfl rfl (WL.faN (T := Ty) (off' := 2) rfl rfl rfl rfl rfl rfl rfl ?_)))))))))))))
  refine WL.ldBN (T := Ty) rfl rfl rfl rfl (by first | assumption | exact RB.wide (by assumption) | exact In.rb (by assumption)) rfl ?_
  refine WL.mv rfl rfl ?_
  refine WL.ix (T := Ty) rfl rfl rfl (by assumption) rfl rfl (by omega) (by first | omega | decide +kernel) ?_
  refine WL.ldAR (T := Ty) rfl rfl rfl rfl (by first | assumption | exact ROs.wide (by assumption)) (by assumption) rfl ?_
  refine WL.stAO (T := Ty) (j := 0) rfl rfl rfl rfl (by repeat' first | exact AO.nil | apply AO.cons (by first | rfl | exact SL.one (by assumption))) rfl rfl (by repeat' constructor) (by repeat' constructor) ?_
  refine WL.as rfl rfl (WL.nil ?_)
  exact W.fit (Hs' := [box b1 _ _]) (by (repeat' first | exact Sel.nil | apply Sel.k | exact Pick.h | apply Pick.t)) (W.retC2 (T := Ty) (j := 0) rfl rfl rfl rfl rfl rfl rfl (fun h q => ⟨rfl, q⟩))
 ·refine W.drawA 6 rfl (fun σ0 hσ0 dσ0 => ?_)
  have fσ0_0 := rb_at 0 rfl hσ0 dσ0
  have fσ0_1 := rb_at 1 rfl hσ0 dσ0
  refine WD.takeL 0 rfl (by decide +kernel) (WL.mv rfl rfl (WL.nilT (WD.takeL 1 rfl (by decide +kernel) (WL.nc rfl rfl (WL.nilT (WD.takeL 2 rfl (by decide +kernel) (WL.faN (T := Ty) (off' := 0) rfl rfl rfl rfl rfl rfl rfl (WL.nilT (WD.takeL 3 rfl (by decide +kernel) ?_)))))))))
  refine WL.ldABF (T := Ty) rfl rfl rfl rfl (by first | assumption | exact RB.wide (by assumption) | exact In.rb (by assumption)) rfl (by repeat' constructor) ?_
  refine WL.nilT (WD.takeL 4 rfl (by decide +kernel) ?_)
  refine WL.ldABF (T := Ty) rfl rfl rfl rfl (by first | assumption | exact RB.wide (by assumption) | exact In.rb (by assumption)) rfl (by repeat' constructor) ?_
  refine WL.nilT (WD.oneL 5 rfl (by decide +kernel) ?_)
  refine WL.callV rfl rfl (fun x p d => find15_e _ _ _ _ _ _ _ _ _ _ _ _ (by first | assumption | exact ROs.wide (by assumption) | exact ROs.mono (by assumption) (eqh_at 0 rfl p d) | exact ros_at 0 rfl p d | exact ros_at 1 rfl p d | exact ros_at 2 rfl p d | exact ros_at 3 rfl p d | exact ros_at 4 rfl p d) (by first | assumption | omega) (by assumption)) ?_
  refine WL.nilE ?_
  refine WD.lastG hσ0 (by decide +kernel) (by repeat' constructor) rfl (by repeat' constructor) ?_
  refine WL.as rfl rfl (WL.nil ?_)
  refine W.fit (Hs' := [box b1 _ _, box b0 _ _]) (by (repeat' first | exact Sel.nil | apply Sel.k | exact Pick.h | apply Pick.t)) (W.sub ?_ (cut () _ (Le.refl _) rfl))
  exact ⟨rfl, rfl, rfl, rfl, by rw [hf]; rfl, trivial⟩
theorem clockc_c (ρ : Hp) (b m : Nat) (c : Clk) (v : Value) (rb : RB ρ b [.int .i64 c.most, .int .i64 c.target, v, .int .i64 (c.hot : Int), .int .i64 (c.cold : Int), .int .i64 (c.test : Int), .map (some m)] 55) (rv : ROs ρ 7 v (c.pages.flatMap pgC)) (hln : c.pages.length ≤ 1000000) :
  Fn Try.prog 11 #[pt b 0] ρ [] (OCk c) := by
 have l1 := pgs_cells c.pages
 have ho := pgs_one c.pages
 have sv : SL v c.pages.length := rv.sl l1 (by omega)
 refine in11 rfl rfl ?_
 refine W.seq (W.region ?_)
 refine WL.alF (T := Ty) rfl rfl (by repeat' constructor) (fun b0 => ?_)
 refine WL.nil (W.seq (W.region (WL.mv rfl rfl (WL.nc rfl rfl (WL.faN (T := Ty) (off' := 0) rfl rfl rfl rfl rfl rfl rfl ?_)))))
 refine WL.ldABF (T := Ty) rfl rfl rfl rfl (by first | assumption | exact RB.wide (by assumption) | exact In.rb (by assumption)) rfl (by repeat' constructor) ?_
 refine WL.alF (T := Ty) rfl rfl (by repeat' constructor) (fun b1 => ?_)
 refine WL.stAO (T := Ty) (j := 0) rfl rfl rfl rfl (by repeat' first | exact AO.nil | apply AO.cons (by first | rfl | exact SL.one (by assumption))) rfl rfl (by repeat' constructor) (by repeat' constructor) ?_
 refine WL.nil (W.seq (W.region (WL.faN (T := Ty) (off' := 2) rfl rfl rfl rfl rfl rfl rfl (WL.ldN (T := Ty) (j := 0) rfl rfl rfl rfl rfl rfl ?_))))
 refine WL.callF rfl rfl (fun x p d => cloneG_c _ _ _ _ (by first | assumption | exact ROs.wide (by assumption) | exact ROs.mono (by assumption) (eqh_at 0 rfl p d) | exact ros_at 0 rfl p d | exact ros_at 1 rfl p d | exact ros_at 2 rfl p d | exact ros_at 3 rfl p d | exact ros_at 4 rfl p d) (by assumption) (by assumption) (by first | assumption | omega)) (fun u2 => ?_)
 refine WL.fact (i := 0) rfl (fun h hb => hb.sl (by assumption) (by omega)) (fun hsl2 => ?_)
 refine WL.faN (T := Ty) (off' := 2) rfl rfl rfl rfl rfl rfl rfl ?_
 refine WL.stF (T := Ty) (j := 1) rfl rfl rfl rfl (SL.one (by assumption)) rfl rfl (by repeat' constructor) (by repeat' constructor) ?_
 refine WL.nil (W.seq (W.region ?_))
 refine WL.ldAF (T := Ty) (j := 1) rfl rfl rfl rfl rfl rfl (by repeat' constructor) ?_
 refine WL.stAO (T := Ty) (j := 2) rfl rfl rfl rfl (by repeat' first | exact AO.nil | apply AO.cons (by first | rfl | exact SL.one (by assumption))) rfl rfl (by repeat' constructor) (by repeat' constructor) ?_
 refine WL.nil ?_
 exact W.fit (Hs' := [box b0 _ _, Buf 7 u2 _]) (by (repeat' first | exact Sel.nil | apply Sel.k | exact Pick.h | apply Pick.t)) (W.retC (T := Ty) (j := 0) rfl rfl rfl rfl rfl rfl (fun h q => ⟨u2, ⟨rfl, hsl2⟩, q⟩))
theorem PinY_c (ρ : Hp) (b m : Nat) (c : Clk) (v : Value) (kvs : List (Ky × Value)) (k : Ky) (d : Clk) (hB : ClkB c) (rv : ROs ρ 7 v (c.pages.flatMap pgC)) (hd : pinP c k 1 = (d, true)) :
  Fn Try.prog 15 #[pt b 0, .agg #[.int .i64 k.a, .int .i64 k.b, .int .i64 k.c]] ρ [box b [.int .i64 c.most, .int .i64 c.target, v, .int .i64 (c.hot : Int), .int .i64 (c.cold : Int), .int .i64 (c.test : Int), .map (some m)] 55, Qm .i64 m kvs]
   (fun r h => ∃ x : Value, (r = .bool true ∧ SL x d.pages.length) ∧ sepl [box b [.int .i64 d.most, .int .i64 d.target, x, .int .i64 (d.hot : Int), .int .i64 (d.cold : Int), .int .i64 (d.test : Int), .map (some m)] 55, Buf 7 x (d.pages.flatMap pgC), Qm .i64 m kvs] h) := by
 have hln := hB.ln
 refine in15 rfl rfl ?_
 refine W.seq (W.region ?_)
 refine WL.bxF rfl rfl (by repeat' constructor) (fun b0 => ?_)
 refine WL.as rfl rfl (WL.nil (W.seq (W.region (WL.mv rfl rfl ?_))))
 refine WL.ldAF (T := Ty) (j := 0) rfl rfl rfl rfl rfl rfl (by repeat' constructor) ?_
 refine WL.callTk (Take.cons 1 rfl (Take.cons 1 rfl Take.nil)) rfl rfl (fun x p d => pincYX_c _ _ _ _ _ _ _ _ _ _ _ (by assumption) (by first | assumption | exact ROs.wide (by assumption) | exact ROs.mono (by assumption) (eqh_at 0 rfl p d) | exact ros_at 0 rfl p d | exact ros_at 1 rfl p d | exact ros_at 2 rfl p d | exact ros_at 3 rfl p d | exact ros_at 4 rfl p d) (by assumption)) (by repeat' constructor) (fun r1 => ?_)
 refine WL.opens (α := Value) (φ := fun x => r1 = .bool true ∧ SL x _) (ps := fun x => [_, Buf 7 x _, Qm .i64 _ _]) 0 rfl (fun h q => q) (by repeat' constructor) ?_
 rintro u1 ⟨es1, su1⟩
 subst es1
 dsimp only [List.cons_append, List.nil_append] at su1 ⊢
 refine WL.as rfl rfl (WL.nil ?_)
 exact W.fit (Hs' := [box b _ _, Buf 7 _ (d.pages.flatMap pgC), Qm _ m _]) (by (repeat' first | exact Sel.nil | apply Sel.k | exact Pick.h | apply Pick.t)) (W.ret1 rfl rfl (fun h q => ⟨_, ⟨rfl, by assumption⟩, q⟩))
theorem PinYX_c (ρ : Hp) (b m : Nat) (c : Clk) (v : Value) (kvs : List (Ky × Value)) (ka kb kc : Int) (d : Clk) (hB : ClkB c) (rv : ROs ρ 7 v (c.pages.flatMap pgC)) (hd : pinP c (⟨ka, kb, kc⟩ : Ky) 1 = (d, true)) :
  Fn Try.prog 15 #[pt b 0, .agg #[.int .i64 ka, .int .i64 kb, .int .i64 kc]] ρ [box b [.int .i64 c.most, .int .i64 c.target, v, .int .i64 (c.hot : Int), .int .i64 (c.cold : Int), .int .i64 (c.test : Int), .map (some m)] 55, Qm .i64 m kvs]
   (fun r h => ∃ x : Value, (r = .bool true ∧ SL x d.pages.length) ∧ sepl [box b [.int .i64 d.most, .int .i64 d.target, x, .int .i64 (d.hot : Int), .int .i64 (d.cold : Int), .int .i64 (d.test : Int), .map (some m)] 55, Buf 7 x (d.pages.flatMap pgC), Qm .i64 m kvs] h) :=
 PinY_c ρ b m c v kvs ⟨ka, kb, kc⟩ d hB rv hd
theorem UnB_c (ρ : Hp) (b m : Nat) (c : Clk) (v : Value) (kvs : List (Ky × Value)) (k : Ky) (i : Nat) (p : Pg) (hB : ClkB c) (rv : ROs ρ 7 v (c.pages.flatMap pgC)) (hf : fndK c.pages k = (i : Int)) (hp : c.pages[i]? = some p) (hq : p.pins ≤ 0) :
  Fn Try.prog 13 #[pt b 0, .agg #[.int .i64 k.a, .int .i64 k.b, .int .i64 k.c]] ρ [box b [.int .i64 c.most, .int .i64 c.target, v, .int .i64 (c.hot : Int), .int .i64 (c.cold : Int), .int .i64 (c.test : Int), .map (some m)] 55, Qm .i64 m kvs]
   (fun r h => r = .bool false ∧ sepl [box b [.int .i64 c.most, .int .i64 c.target, v, .int .i64 (c.hot : Int), .int .i64 (c.cold : Int), .int .i64 (c.test : Int), .map (some m)] 55, Qm .i64 m kvs] h) := by
 have hln := hB.ln
 refine in13 rfl rfl ?_
 refine W.seq (W.region ?_)
 refine WL.bxF rfl rfl (by repeat' constructor) (fun b0 => ?_)
 refine WL.as rfl rfl (WL.nil (W.seq (W.region (WL.mv rfl rfl ?_))))
 refine WL.ldAF (T := Ty) (j := 0) rfl rfl rfl rfl rfl rfl (by repeat' constructor) ?_
 refine WL.callV rfl rfl (fun x p d => pageY_c _ _ _ _ _ _ _ _ (by first | assumption | exact RB.wide (by assumption) | exact In.rb (by assumption) | exact RB.mono (by assumption) (eqh_at 0 rfl p d) | exact (in_at 0 rfl p d).rb | exact (in_at 1 rfl p d).rb | exact (in_at 2 rfl p d).rb | exact (in_at 3 rfl p d).rb | exact (in_at 4 rfl p d).rb | exact (in_at 5 rfl p d).rb | exact (in_at 6 rfl p d).rb | exact (in_at 7 rfl p d).rb) (by first | assumption | exact ROs.wide (by assumption) | exact ROs.mono (by assumption) (eqh_at 0 rfl p d) | exact ros_at 0 rfl p d | exact ros_at 1 rfl p d | exact ros_at 2 rfl p d | exact ros_at 3 rfl p d | exact ros_at 4 rfl p d) (by first | assumption | omega | decide) (by assumption) (by assumption)) ?_
 refine WL.mv rfl rfl (WL.extL rfl rfl rfl (WL.extL rfl rfl rfl ?_))
 refine WL.alF (T := Ty) rfl rfl (by repeat' constructor) (fun b1 => ?_)
 refine WL.stAO (T := Ty) (j := 0) rfl rfl rfl rfl (by repeat' first | exact AO.nil | apply AO.cons (by first | rfl | exact SL.one (by assumption))) rfl rfl (by repeat' constructor) (by repeat' constructor) ?_
 refine WL.as rfl rfl (WL.nil (W.seq (W.region (WL.mv rfl rfl (WL.mv rfl rfl (WL.gY rfl rfl (WL.faN (T := Ty) (off' := 6) rfl rfl rfl rfl rfl rfl rfl (WL.gY rfl rfl (WL.ldN (T := Ty) (j := 0) rfl rfl rfl rfl rfl rfl (WL.gY rfl rfl (WL.gtr rfl rfl rfl (WL.pickT rfl rfl rfl (WL.mv rfl rfl ?_)))))))))))))
 refine WL.gdTn rfl rfl rfl rfl rfl (by omega) (WL.gdTn rfl rfl rfl rfl rfl (by omega) (WL.gdTn rfl rfl rfl rfl rfl (by omega) (WL.pickFp rfl rfl (by omega) rfl (WL.as rfl rfl (WL.nil ?_)))))
 exact W.fit (Hs' := [box b _ _, Qm _ m _]) (by (repeat' first | exact Sel.nil | apply Sel.k | exact Pick.h | apply Pick.t)) (W.ret1 rfl rfl (fun h q => ⟨rfl, q⟩))
theorem UnBX_c (ρ : Hp) (b m : Nat) (c : Clk) (v : Value) (kvs : List (Ky × Value)) (ka kb kc : Int) (i : Nat) (p : Pg) (hB : ClkB c) (rv : ROs ρ 7 v (c.pages.flatMap pgC)) (hf : fndK c.pages (⟨ka, kb, kc⟩ : Ky) = (i : Int)) (hp : c.pages[i]? = some p) (hq : p.pins ≤ 0) :
  Fn Try.prog 13 #[pt b 0, .agg #[.int .i64 ka, .int .i64 kb, .int .i64 kc]] ρ [box b [.int .i64 c.most, .int .i64 c.target, v, .int .i64 (c.hot : Int), .int .i64 (c.cold : Int), .int .i64 (c.test : Int), .map (some m)] 55, Qm .i64 m kvs]
   (fun r h => r = .bool false ∧ sepl [box b [.int .i64 c.most, .int .i64 c.target, v, .int .i64 (c.hot : Int), .int .i64 (c.cold : Int), .int .i64 (c.test : Int), .map (some m)] 55, Qm .i64 m kvs] h) :=
 UnB_c ρ b m c v kvs ⟨ka, kb, kc⟩ i p hB rv hf hp hq
theorem UnC_c (ρ : Hp) (b m : Nat) (c : Clk) (v : Value) (kvs : List (Ky × Value)) (k : Ky) (i : Nat) (p : Pg) (d : Clk) (hB : ClkB c) (rv : ROs ρ 7 v (c.pages.flatMap pgC)) (hf : fndK c.pages k = (i : Int)) (hp : c.pages[i]? = some p) (hq : 0 < p.pins) (hd : pinP c k (-1) = (d, true)) :
  Fn Try.prog 13 #[pt b 0, .agg #[.int .i64 k.a, .int .i64 k.b, .int .i64 k.c]] ρ [box b [.int .i64 c.most, .int .i64 c.target, v, .int .i64 (c.hot : Int), .int .i64 (c.cold : Int), .int .i64 (c.test : Int), .map (some m)] 55, Qm .i64 m kvs]
   (fun r h => ∃ x : Value, (r = .bool true ∧ SL x d.pages.length) ∧ sepl [box b [.int .i64 d.most, .int .i64 d.target, x, .int .i64 (d.hot : Int), .int .i64 (d.cold : Int), .int .i64 (d.test : Int), .map (some m)] 55, Buf 7 x (d.pages.flatMap pgC), Qm .i64 m kvs] h) := by
 have hln := hB.ln
 refine in13 rfl rfl ?_
 refine W.seq (W.region ?_)
 refine WL.bxF rfl rfl (by repeat' constructor) (fun b0 => ?_)
 refine WL.as rfl rfl (WL.nil (W.seq (W.region (WL.mv rfl rfl ?_))))
 refine WL.ldAF (T := Ty) (j := 0) rfl rfl rfl rfl rfl rfl (by repeat' constructor) ?_
 refine WL.callV rfl rfl (fun x p d => pageY_c _ _ _ _ _ _ _ _ (by first | assumption | exact RB.wide (by assumption) | exact In.rb (by assumption) | exact RB.mono (by assumption) (eqh_at 0 rfl p d) | exact (in_at 0 rfl p d).rb | exact (in_at 1 rfl p d).rb | exact (in_at 2 rfl p d).rb | exact (in_at 3 rfl p d).rb | exact (in_at 4 rfl p d).rb | exact (in_at 5 rfl p d).rb | exact (in_at 6 rfl p d).rb | exact (in_at 7 rfl p d).rb) (by first | assumption | exact ROs.wide (by assumption) | exact ROs.mono (by assumption) (eqh_at 0 rfl p d) | exact ros_at 0 rfl p d | exact ros_at 1 rfl p d | exact ros_at 2 rfl p d | exact ros_at 3 rfl p d | exact ros_at 4 rfl p d) (by first | assumption | omega | decide) (by assumption) (by assumption)) ?_
 refine WL.mv rfl rfl (WL.extL rfl rfl rfl (WL.extL rfl rfl rfl ?_))
 refine WL.alF (T := Ty) rfl rfl (by repeat' constructor) (fun b1 => ?_)
 refine WL.stAO (T := Ty) (j := 0) rfl rfl rfl rfl (by repeat' first | exact AO.nil | apply AO.cons (by first | rfl | exact SL.one (by assumption))) rfl rfl (by repeat' constructor) (by repeat' constructor) ?_
 refine WL.as rfl rfl (WL.nil (W.seq (W.region (WL.mv rfl rfl (WL.mv rfl rfl (WL.gY rfl rfl (WL.faN (T := Ty) (off' := 6) rfl rfl rfl rfl rfl rfl rfl (WL.gY rfl rfl (WL.ldN (T := Ty) (j := 0) rfl rfl rfl rfl rfl rfl (WL.gY rfl rfl (WL.gtr rfl rfl rfl (WL.pickT rfl rfl rfl (WL.mv rfl rfl ?_)))))))))))))
 refine WL.gT rfl rfl (by omega) (WL.mv rfl rfl (WL.gT rfl rfl (by omega) ?_))
 refine WL.ldAF (T := Ty) (j := 1) rfl rfl rfl rfl rfl rfl (by repeat' constructor) ?_
 refine WL.gT rfl rfl (by omega) ?_
 refine WL.callTk (Take.cons 2 rfl (Take.cons 2 rfl Take.nil)) rfl rfl (fun x p d => pincYX_c _ _ _ _ _ _ _ _ _ _ _ (by assumption) (by first | assumption | exact ROs.wide (by assumption) | exact ROs.mono (by assumption) (eqh_at 0 rfl p d) | exact ros_at 0 rfl p d | exact ros_at 1 rfl p d | exact ros_at 2 rfl p d | exact ros_at 3 rfl p d | exact ros_at 4 rfl p d) (by assumption)) (by repeat' constructor) (fun r2 => ?_)
 refine WL.opens (α := Value) (φ := fun x => r2 = .bool true ∧ SL x _) (ps := fun x => [_, Buf 7 x _, Qm .i64 _ _]) 0 rfl (fun h q => q) (by repeat' constructor) ?_
 rintro u2 ⟨es2, su2⟩
 subst es2
 dsimp only [List.cons_append, List.nil_append] at su2 ⊢
 refine WL.pickTp rfl rfl (by omega) rfl (WL.as rfl rfl (WL.nil ?_))
 exact W.fit (Hs' := [box b _ _, Buf 7 _ (d.pages.flatMap pgC), Qm _ m _]) (by (repeat' first | exact Sel.nil | apply Sel.k | exact Pick.h | apply Pick.t)) (W.ret1 rfl rfl (fun h q => ⟨_, ⟨rfl, by assumption⟩, q⟩))
theorem UnCX_c (ρ : Hp) (b m : Nat) (c : Clk) (v : Value) (kvs : List (Ky × Value)) (ka kb kc : Int) (i : Nat) (p : Pg) (d : Clk) (hB : ClkB c) (rv : ROs ρ 7 v (c.pages.flatMap pgC)) (hf : fndK c.pages (⟨ka, kb, kc⟩ : Ky) = (i : Int)) (hp : c.pages[i]? = some p) (hq : 0 < p.pins) (hd : pinP c (⟨ka, kb, kc⟩ : Ky) (-1) = (d, true)) :
  Fn Try.prog 13 #[pt b 0, .agg #[.int .i64 ka, .int .i64 kb, .int .i64 kc]] ρ [box b [.int .i64 c.most, .int .i64 c.target, v, .int .i64 (c.hot : Int), .int .i64 (c.cold : Int), .int .i64 (c.test : Int), .map (some m)] 55, Qm .i64 m kvs]
   (fun r h => ∃ x : Value, (r = .bool true ∧ SL x d.pages.length) ∧ sepl [box b [.int .i64 d.most, .int .i64 d.target, x, .int .i64 (d.hot : Int), .int .i64 (d.cold : Int), .int .i64 (d.test : Int), .map (some m)] 55, Buf 7 x (d.pages.flatMap pgC), Qm .i64 m kvs] h) :=
 UnC_c ρ b m c v kvs ⟨ka, kb, kc⟩ i p d hB rv hf hp hq hd
theorem DrB_c (ρ : Hp) (b m : Nat) (c : Clk) (v : Value) (kvs : List (Ky × Value)) (k : Ky) (i : Nat) (p : Pg) (hB : ClkB c) (rv : ROs ρ 7 v (c.pages.flatMap pgC)) (hf : fndK c.pages k = (i : Int)) (hp : c.pages[i]? = some p) (hq : 0 < p.pins) :
  Fn Try.prog 18 #[pt b 0, .agg #[.int .i64 k.a, .int .i64 k.b, .int .i64 k.c]] ρ [box b [.int .i64 c.most, .int .i64 c.target, v, .int .i64 (c.hot : Int), .int .i64 (c.cold : Int), .int .i64 (c.test : Int), .map (some m)] 55, Qm .i64 m kvs]
   (fun r h => r = .bool false ∧ sepl [box b [.int .i64 c.most, .int .i64 c.target, v, .int .i64 (c.hot : Int), .int .i64 (c.cold : Int), .int .i64 (c.test : Int), .map (some m)] 55, Qm .i64 m kvs] h) := by
 have hln := hB.ln
 refine in18 rfl rfl ?_
 refine W.seq (W.region ?_)
 refine WL.bxF rfl rfl (by repeat' constructor) (fun b0 => ?_)
 refine WL.as rfl rfl (WL.nil (W.seq (W.region (WL.mv rfl rfl ?_))))
 refine WL.ldAF (T := Ty) (j := 0) rfl rfl rfl rfl rfl rfl (by repeat' constructor) ?_
 refine WL.callV rfl rfl (fun x p d => pageY_c _ _ _ _ _ _ _ _ (by first | assumption | exact RB.wide (by assumption) | exact In.rb (by assumption) | exact RB.mono (by assumption) (eqh_at 0 rfl p d) | exact (in_at 0 rfl p d).rb | exact (in_at 1 rfl p d).rb | exact (in_at 2 rfl p d).rb | exact (in_at 3 rfl p d).rb | exact (in_at 4 rfl p d).rb | exact (in_at 5 rfl p d).rb | exact (in_at 6 rfl p d).rb | exact (in_at 7 rfl p d).rb) (by first | assumption | exact ROs.wide (by assumption) | exact ROs.mono (by assumption) (eqh_at 0 rfl p d) | exact ros_at 0 rfl p d | exact ros_at 1 rfl p d | exact ros_at 2 rfl p d | exact ros_at 3 rfl p d | exact ros_at 4 rfl p d) (by first | assumption | omega | decide) (by assumption) (by assumption)) ?_
 refine WL.mv rfl rfl (WL.extL rfl rfl rfl (WL.extL rfl rfl rfl ?_))
 refine WL.alF (T := Ty) rfl rfl (by repeat' constructor) (fun b1 => ?_)
 refine WL.stAO (T := Ty) (j := 0) rfl rfl rfl rfl (by repeat' first | exact AO.nil | apply AO.cons (by first | rfl | exact SL.one (by assumption))) rfl rfl (by repeat' constructor) (by repeat' constructor) ?_
 refine WL.as rfl rfl (WL.nil (W.seq (W.seq (W.region (WL.mv rfl rfl (WL.not rfl rfl (WL.mv rfl rfl (WL.gY rfl rfl (WL.faN (T := Ty) (off' := 6) rfl rfl rfl rfl rfl rfl rfl (WL.gY rfl rfl (WL.ldN (T := Ty) (j := 0) rfl rfl rfl rfl rfl rfl (WL.gY rfl rfl (WL.gtr rfl rfl rfl ?_)))))))))))))
 refine WL.pickF rfl rfl rfl (WL.nil (W.condpT rfl (by omega) (W.seq (W.region (WL.as rfl rfl (WL.nil ?_))))))
 exact W.fit (Hs' := [box b _ _, Qm _ m _]) (by (repeat' first | exact Sel.nil | apply Sel.k | exact Pick.h | apply Pick.t)) (W.ret1 rfl rfl (fun h q => ⟨rfl, q⟩))
theorem DrBX_c (ρ : Hp) (b m : Nat) (c : Clk) (v : Value) (kvs : List (Ky × Value)) (ka kb kc : Int) (i : Nat) (p : Pg) (hB : ClkB c) (rv : ROs ρ 7 v (c.pages.flatMap pgC)) (hf : fndK c.pages (⟨ka, kb, kc⟩ : Ky) = (i : Int)) (hp : c.pages[i]? = some p) (hq : 0 < p.pins) :
  Fn Try.prog 18 #[pt b 0, .agg #[.int .i64 ka, .int .i64 kb, .int .i64 kc]] ρ [box b [.int .i64 c.most, .int .i64 c.target, v, .int .i64 (c.hot : Int), .int .i64 (c.cold : Int), .int .i64 (c.test : Int), .map (some m)] 55, Qm .i64 m kvs]
   (fun r h => r = .bool false ∧ sepl [box b [.int .i64 c.most, .int .i64 c.target, v, .int .i64 (c.hot : Int), .int .i64 (c.cold : Int), .int .i64 (c.test : Int), .map (some m)] 55, Qm .i64 m kvs] h) :=
 DrB_c ρ b m c v kvs ⟨ka, kb, kc⟩ i p hB rv hf hp hq
theorem DrC_c (ρ : Hp) (b m : Nat) (c : Clk) (v : Value) (kvs : List (Ky × Value)) (k : Ky) (i : Nat) (p : Pg) (d : Clk) (hB : ClkB c) (rv : ROs ρ 7 v (c.pages.flatMap pgC)) (hf : fndK c.pages k = (i : Int)) (hp : c.pages[i]? = some p) (hq : p.pins ≤ 0) (hd : dropP c k = (d, true)) :
  Fn Try.prog 18 #[pt b 0, .agg #[.int .i64 k.a, .int .i64 k.b, .int .i64 k.c]] ρ [box b [.int .i64 c.most, .int .i64 c.target, v, .int .i64 (c.hot : Int), .int .i64 (c.cold : Int), .int .i64 (c.test : Int), .map (some m)] 55, Qm .i64 m kvs]
   (fun r h => ∃ x : Value, (r = .bool true ∧ SL x d.pages.length) ∧ sepl [box b [.int .i64 d.most, .int .i64 d.target, x, .int .i64 (d.hot : Int), .int .i64 (d.cold : Int), .int .i64 (d.test : Int), .map (some m)] 55, Buf 7 x (d.pages.flatMap pgC), Qm .i64 m (qdel kvs k)] h) := by
 have hln := hB.ln
 obtain ⟨f0, f1, f2, hqk⟩ := qkT
 refine in18 rfl rfl ?_
 refine W.seq (W.region ?_)
 refine WL.bxF rfl rfl (by repeat' constructor) (fun b0 => ?_)
 refine WL.as rfl rfl (WL.nil (W.seq (W.region (WL.mv rfl rfl ?_))))
 refine WL.ldAF (T := Ty) (j := 0) rfl rfl rfl rfl rfl rfl (by repeat' constructor) ?_
 refine WL.callV rfl rfl (fun x p d => pageY_c _ _ _ _ _ _ _ _ (by first | assumption | exact RB.wide (by assumption) | exact In.rb (by assumption) | exact RB.mono (by assumption) (eqh_at 0 rfl p d) | exact (in_at 0 rfl p d).rb | exact (in_at 1 rfl p d).rb | exact (in_at 2 rfl p d).rb | exact (in_at 3 rfl p d).rb | exact (in_at 4 rfl p d).rb | exact (in_at 5 rfl p d).rb | exact (in_at 6 rfl p d).rb | exact (in_at 7 rfl p d).rb) (by first | assumption | exact ROs.wide (by assumption) | exact ROs.mono (by assumption) (eqh_at 0 rfl p d) | exact ros_at 0 rfl p d | exact ros_at 1 rfl p d | exact ros_at 2 rfl p d | exact ros_at 3 rfl p d | exact ros_at 4 rfl p d) (by first | assumption | omega | decide) (by assumption) (by assumption)) ?_
 refine WL.mv rfl rfl (WL.extL rfl rfl rfl (WL.extL rfl rfl rfl ?_))
 refine WL.alF (T := Ty) rfl rfl (by repeat' constructor) (fun b1 => ?_)
 refine WL.stAO (T := Ty) (j := 0) rfl rfl rfl rfl (by repeat' first | exact AO.nil | apply AO.cons (by first | rfl | exact SL.one (by assumption))) rfl rfl (by repeat' constructor) (by repeat' constructor) ?_
 refine WL.as rfl rfl (WL.nil (W.seq (W.seq (W.region (WL.mv rfl rfl (WL.not rfl rfl (WL.mv rfl rfl (WL.gY rfl rfl (WL.faN (T := Ty) (off' := 6) rfl rfl rfl rfl rfl rfl rfl (WL.gY rfl rfl (WL.ldN (T := Ty) (j := 0) rfl rfl rfl rfl rfl rfl (WL.gY rfl rfl (WL.gtr rfl rfl rfl ?_)))))))))))))
 refine WL.pickF rfl rfl rfl (WL.nil (W.condpF rfl (by omega) (W.skip (W.seq ?_))))
 refine W.cutG (τ := Value) (fun s => [(0, pt b 0), (3, pt b0 0), (4, .bool false)]) (fun s => [box b [.int .i64 d.most, .int .i64 d.target, s, .int .i64 (d.hot : Int), .int .i64 (d.cold : Int), .int .i64 (d.test : Int), .map (some m)] 55, Buf 7 s (d.pages.flatMap pgC), box b0 [.int .i64 k.a, .int .i64 k.b, .int .i64 k.c] 28, Qm .i64 m kvs]) (fun s ρ' => SL s d.pages.length) ?_ (fun cut => ?_)
 ·intro u ρ1 le1 su
  refine W.seq ?_
  refine W.drawP 6 [false, false, false, true] rfl (by repeat' constructor) (by repeat' constructor) (fun σ0 hσ0 dσ0 => ?_)
  have fσ0_0 := rb_at 0 rfl hσ0 dσ0
  have fσ0_1 := ros_at 1 rfl hσ0 dσ0
  have fσ0_2 := rb_at 2 rfl hσ0 dσ0
  refine WD.takeL 0 rfl (by decide +kernel) (WL.mv rfl rfl (WL.nilT (WD.takeL 1 rfl (by decide +kernel) (WL.nc rfl rfl (WL.nilT (WD.takeL 2 rfl (by decide +kernel) (WL.faN (T := Ty) (off' := 6) rfl rfl rfl rfl rfl rfl rfl (WL.nilT (WD.takeL 3 rfl (by decide +kernel) ?_)))))))))
  refine WL.ldBN (T := Ty) rfl rfl rfl rfl (by first | assumption | exact RB.wide (by assumption) | exact In.rb (by assumption)) rfl ?_
  refine WL.nilT (WD.takeL 4 rfl (by decide +kernel) ?_)
  refine WL.ldABF (T := Ty) rfl rfl rfl rfl (by first | assumption | exact RB.wide (by assumption) | exact In.rb (by assumption)) rfl (by repeat' constructor) ?_
  refine WL.nilT (WD.oneL 5 rfl (by decide +kernel) ?_)
  refine WL.delQ (T := Ty) (j := 1) rfl rfl rfl (by assumption) rfl (by first | assumption | rfl) (by repeat' constructor) ?_
  refine WL.nilE ?_
  refine WD.doneF hσ0 (by decide +kernel) (by repeat' constructor) ?_
  refine W.seq (W.region (WL.as rfl rfl (WL.nil ?_)))
  exact W.fit (Hs' := [box b _ _, Buf 7 u _, Qm _ m _]) (by (repeat' first | exact Sel.nil | apply Sel.k | exact Pick.h | apply Pick.t)) (W.ret1 rfl rfl (fun h q => ⟨u, ⟨rfl, su⟩, q⟩))
 ·refine W.drawP 13 [false, false, true, false] rfl (by repeat' constructor) (by repeat' constructor) (fun σ0 hσ0 dσ0 => ?_)
  have fσ0_0 := rb_at 0 rfl hσ0 dσ0
  have fσ0_1 := rb_at 1 rfl hσ0 dσ0
  have fσ0_2 := in_at 2 rfl hσ0 dσ0
  refine WD.takeL 0 rfl (by decide +kernel) (WL.mv rfl rfl (WL.nilT (WD.takeL 1 rfl (by decide +kernel) (WL.mv rfl rfl (WL.nilT (WD.takeL 2 rfl (by decide +kernel) (WL.nc rfl rfl (WL.nilT (WD.takeL 3 rfl (by decide +kernel) (WL.faN (T := Ty) (off' := 0) rfl rfl rfl rfl rfl rfl rfl (WL.nilT (WD.takeL 5 rfl (by decide +kernel) ?_))))))))))))
  refine WL.ldABF (T := Ty) rfl rfl rfl rfl (by first | assumption | exact RB.wide (by assumption) | exact In.rb (by assumption)) rfl (by repeat' constructor) ?_
  refine WL.nilT (WD.oneL 4 rfl (by decide +kernel) ?_)
  refine WL.ldAF (T := Ty) (j := 1) rfl rfl rfl rfl rfl rfl (by repeat' constructor) ?_
  refine WL.nilE (WD.oneL 6 rfl (by decide +kernel) ?_)
  refine WL.callF rfl rfl (fun x p d => drop_e _ _ _ _ _ _ (by assumption) (by first | assumption | exact ROs.wide (by assumption) | exact ROs.mono (by assumption) (eqh_at 0 rfl p d) | exact ros_at 0 rfl p d | exact ros_at 1 rfl p d | exact ros_at 2 rfl p d | exact ros_at 3 rfl p d | exact ros_at 4 rfl p d) (by assumption)) (fun r2 => ?_)
  refine WL.opens (α := Value) (φ := fun v => r2 = .tuple #[.agg #[.int .i64 _, .int .i64 _, v, .int .i64 _, .int .i64 _, .int .i64 _], .bool _] ∧ SL v _) (ps := fun v => [Buf 7 v _]) 0 rfl (fun h q => q) (by repeat' constructor) ?_
  rintro u2 ⟨es2, su2⟩
  subst es2
  dsimp only [List.cons_append, List.nil_append] at su2 ⊢
  refine WL.nilH hσ0 (fun σ1 hσ1 dσ1 mσ1 => ?_)
  have fσ0_0 := fσ0_0.mono mσ1
  have fσ0_1 := fσ0_1.mono mσ1
  have fσ0_2 := fσ0_2.mono mσ1
  have fσ1_0 := ros_at 0 rfl hσ1 dσ1
  refine WD.takeL 7 rfl (by decide +kernel) (WL.mv rfl rfl (WL.nilT (WD.takeL 8 rfl (by decide +kernel) (WL.extL rfl rfl rfl (WL.nilT (WD.takeL 9 rfl (by decide +kernel) (WL.extL rfl rfl rfl (WL.nilT (WD.takeL 10 rfl (by decide +kernel) (WL.nc rfl rfl (WL.nilT (WD.takeL 11 rfl (by decide +kernel) (WL.faN (T := Ty) (off' := 0) rfl rfl rfl rfl rfl rfl rfl ?_)))))))))))))
  refine WL.nilT (WD.oneL 12 rfl (by decide +kernel) ?_)
  refine WL.stAO (T := Ty) (j := 1) rfl rfl rfl rfl (by repeat' first | exact AO.nil | apply AO.cons (by first | rfl | exact SL.one (by assumption))) rfl rfl (by repeat' constructor) (by repeat' constructor) ?_
  refine WL.nilE ?_
  refine WD.doneF hσ1 (by decide +kernel) (by repeat' constructor) ?_
  refine W.fit (Hs' := [box b _ _, Buf 7 _ (d.pages.flatMap pgC), box b0 _ _, Qm _ m kvs]) (by (repeat' first | exact Sel.nil | apply Sel.k | exact Pick.h | apply Pick.t)) (W.sub ?_ (cut _ _ (Le.refl _) (by assumption)))
  exact ⟨rfl, rfl, rfl, trivial⟩
theorem DrCX_c (ρ : Hp) (b m : Nat) (c : Clk) (v : Value) (kvs : List (Ky × Value)) (ka kb kc : Int) (i : Nat) (p : Pg) (d : Clk) (hB : ClkB c) (rv : ROs ρ 7 v (c.pages.flatMap pgC)) (hf : fndK c.pages (⟨ka, kb, kc⟩ : Ky) = (i : Int)) (hp : c.pages[i]? = some p) (hq : p.pins ≤ 0) (hd : dropP c (⟨ka, kb, kc⟩ : Ky) = (d, true)) :
  Fn Try.prog 18 #[pt b 0, .agg #[.int .i64 ka, .int .i64 kb, .int .i64 kc]] ρ [box b [.int .i64 c.most, .int .i64 c.target, v, .int .i64 (c.hot : Int), .int .i64 (c.cold : Int), .int .i64 (c.test : Int), .map (some m)] 55, Qm .i64 m kvs]
   (fun r h => ∃ x : Value, (r = .bool true ∧ SL x d.pages.length) ∧ sepl [box b [.int .i64 d.most, .int .i64 d.target, x, .int .i64 (d.hot : Int), .int .i64 (d.cold : Int), .int .i64 (d.test : Int), .map (some m)] 55, Buf 7 x (d.pages.flatMap pgC), Qm .i64 m (qdel kvs (⟨ka, kb, kc⟩ : Ky))] h) :=
 DrC_c ρ b m c v kvs ⟨ka, kb, kc⟩ i p d hB rv hf hp hq hd
theorem frames_c (ρ : Hp) (b m : Nat) (c : Clk) (v : Value) (kvs : List (Ky × Value)) :
  Fn Try.prog 16 #[pt b 0] ρ [box b [.int .i64 c.most, .int .i64 c.target, v, .int .i64 (c.hot : Int), .int .i64 (c.cold : Int), .int .i64 (c.test : Int), .map (some m)] 55, Qm .i64 m kvs] (fun r h => r = .int .i64 ((kvs.length : Nat) : Int) ∧ sepl [box b [.int .i64 c.most, .int .i64 c.target, v, .int .i64 (c.hot : Int), .int .i64 (c.cold : Int), .int .i64 (c.test : Int), .map (some m)] 55, Qm .i64 m kvs] h) := by
 refine in16 rfl rfl ?_
 refine W.seq (W.region (WL.as rfl rfl (WL.nil (W.seq (W.region (WL.mv rfl rfl (WL.nc rfl rfl (WL.faN (T := Ty) (off' := 6) rfl rfl rfl rfl rfl rfl rfl (WL.ldN (T := Ty) (j := 0) rfl rfl rfl rfl rfl rfl (WL.lenQ (T := Ty) (j := 1) rfl rfl rfl rfl (WL.as rfl rfl (WL.nil ?_))))))))))))
 exact W.fit (Hs' := [box b _ _, Qm _ m _]) (by (repeat' first | exact Sel.nil | apply Sel.k | exact Pick.h | apply Pick.t)) (W.ret1 rfl rfl (fun h q => ⟨rfl, q⟩))
theorem frames_e (ρ : Hp) (b m : Nat) (c : Clk) (v : Value) (kvs : List (Ky × Value)) (n : Nat) (hl : kvs.length = n) :
  Fn Try.prog 16 #[pt b 0] ρ [box b [.int .i64 c.most, .int .i64 c.target, v, .int .i64 (c.hot : Int), .int .i64 (c.cold : Int), .int .i64 (c.test : Int), .map (some m)] 55, Qm .i64 m kvs] (fun r h => r = .int .i64 ((n : Nat) : Int) ∧ sepl [box b [.int .i64 c.most, .int .i64 c.target, v, .int .i64 (c.hot : Int), .int .i64 (c.cold : Int), .int .i64 (c.test : Int), .map (some m)] 55, Qm .i64 m kvs] h) := by
 rw [← hl]
 exact frames_c ρ b m c v kvs
end Go.Proofs.Ytdpnpipninggeaa

/- A row of samples of a number. -/
set_option linter.unusedSimpArgs false
set_option linter.unusedVariables false
set_option maxRecDepth 20000
set_option maxHeartbeats 4000000
namespace Go.Proofs.Ytdpnpipninggeaa
open Go
def rowN (n : Int) (j : Nat) : List Smp := (List.range j).map fun (i : Nat) => (((i : Nat) : Int), IntKind.u64.wrap n)
def rowP (n : Int) : List Smp := rowN n (n % (3 + 1)).toNat
theorem rowN_len (n : Int) (j : Nat) : (rowN n j).length = j := by unfold rowN; simp
theorem rowN_zero (n : Int) : rowN n 0 = [] := rfl
theorem rowN_s (n : Int) (j : Nat) : rowN n (j + 1) = rowN n j ++ [((j : Int), IntKind.u64.wrap n)] := by unfold rowN; rw [List.range_succ, List.map_append]; rfl
theorem rowP_len (n : Int) : (rowP n).length ≤ 3 := by unfold rowP; rw [rowN_len]; omega
attribute [local irreducible] W WL Fn Buf ROs SL eptr box Rd Src bndOK WD RB Reads In Own rowN
theorem row16_c (ρ : Hp) (n : Int) : Fn Try.prog 14 #[.int .i64 n] ρ [] (fun r => Buf 2 r ((rowP n).flatMap smC)) := by
  have hn1 : 0 ≤ n % (3 + 1) := by omega
  have hn2 : n % (3 + 1) ≤ 3 := by omega
  refine in14 rfl rfl ?_
  refine W.seq (W.region (WL.as rfl rfl (WL.nil (W.seq (W.region (WL.as rfl rfl (WL.nil (W.seq (W.seq (W.region (WL.as rfl rfl (WL.nil (W.block ?_)))))))))))))
  refine W.nb (sz := 2) ?_
  refine W.loopR (σ := Nat × Value) (fun s => [(0, .int .i64 n), (3, s.2), (4, .int .i64 (s.1 : Int))]) (fun s => [Buf 2 s.2 ((rowN n s.1).flatMap smC)]) (fun s ρ' => (s.1 : Int) ≤ n % (3 + 1) ∧ SL s.2 s.1) (fun s => 3 - s.1)
    (0, nilV) ⟨rfl, rfl, rfl, trivial⟩ (by rw [rowN_zero]; rfl) ⟨hn1, slZ⟩ ?_
  rintro ⟨j, v⟩ ρ1 le1 ⟨hj, sv⟩ next
  dsimp only at hj sv next ⊢
  have l1 : ((rowN n j).flatMap smC).length = j * 2 := by rw [sms_cells, rowN_len]
  by_cases hc : (j : Int) < n % (3 + 1)
  · have hst : (rowN n j).flatMap smC ++ [.int .i64 (j : Int), .int .u64 (IntKind.u64.wrap n)] = (rowN n (j + 1)).flatMap smC := by rw [rowN_s, List.flatMap_append]; rfl
    refine W.seq (W.seq (W.region (WL.mv rfl rfl (WL.mv rfl rfl (WL.andI rfl rfl rfl (by decide) (WL.lss rfl rfl rfl (WL.nil (W.condpT rfl (by omega) (W.skip (W.seq (W.block (W.region (WL.mv rfl rfl ?_)))))))))))))
    refine WL.mv rfl rfl (WL.mv rfl rfl (WL.cv (T := Ty) rfl rfl rfl rfl ?_))
    refine WL.bdC (T := Ty) rfl rfl rfl rfl (by repeat' first | exact CO.nil | apply CO.one (by first | rfl | exact SL.one (by assumption)) | apply CO.agg) rfl (by repeat' constructor) ?_
    refine WL.bsC (T := Ty) rfl rfl rfl rfl rfl rfl rfl (by repeat' first | exact CO.nil | apply CO.one (by first | rfl | exact SL.one (by assumption)) | apply CO.agg) rfl (by repeat' constructor) (fun u0 hu0 => ?_)
    refine WL.apS (T := Ty) (i := 0) rfl rfl rfl rfl rfl rfl rfl rfl rfl (by first | rfl | assumption) rfl (by assumption) (by repeat' first | exact AO.nil | apply AO.cons (by first | rfl | exact SL.one (by assumption))) (by first | omega | (simp; omega) | (simp only [List.length_drop, List.length_take]; omega)) (by first | omega | (simp; omega) | (simp only [List.length_drop, List.length_take]; omega)) (fun v' => (by repeat' constructor)) (fun u1 hu1 => ?_)
    refine WL.as rfl rfl (WL.nil (W.inBlock (W.region (WL.mv rfl rfl (WL.addK rfl rfl rfl (wrap_i64 ⟨by omega, by omega⟩) (WL.as rfl rfl (WL.nil ?_)))))))
    rw [hst]
    refine W.sub ?_ (next ⟨j + 1, u1⟩ ρ1 (Le.refl _) ⟨by dsimp only; push_cast; omega, hu1⟩ (by dsimp only; omega))
    exact ⟨rfl, rfl, rfl, trivial⟩
  · have hj2 : rowN n j = rowP n := by unfold rowP; rw [show (n % (3 + 1)).toNat = j by omega]
    rw [hj2]
    refine W.seq (W.seq (W.region (WL.mv rfl rfl (WL.mv rfl rfl (WL.andI rfl rfl rfl (by decide) (WL.lss rfl rfl rfl (WL.nil (W.condpF rfl (by omega) (W.exit rfl (W.seq (W.region (WL.mv rfl rfl (WL.as rfl rfl ?_)))))))))))))
    refine WL.nil ?_
    exact W.fit (Hs' := [Buf 2 v _]) (by (repeat' first | exact Sel.nil | apply Sel.k | exact Pick.h | apply Pick.t)) (W.ret1 rfl rfl (fun h q => sepl_one.1 q))
end Go.Proofs.Ytdpnpipninggeaa
