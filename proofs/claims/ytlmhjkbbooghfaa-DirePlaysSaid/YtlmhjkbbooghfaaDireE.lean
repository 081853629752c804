/- Where series are, as long as no slot has samples or chunks. -/
import Derived.Test.YtlmhjkbbooghfaaStc
import Derived.Test.YtlmhjkbbooghfaaNum
import Derived.Test.YtlmhjkbbooghfaaTab
import Derived.Test.YtlmhjkbbooghfaaDireC
set_option linter.unusedSimpArgs false
set_option linter.unusedVariables false
set_option maxRecDepth 20000
set_option maxHeartbeats 4000000
namespace Go.Proofs.Ytlmhjkbbooghfaa
open Go
attribute [local irreducible] W WL Fn Buf ROs SL eptr box Rd Src bndOK WD RB Reads In dirC
abbrev nilV : Value := .slice none 0 0
theorem slZ : SL nilV 0 := by unfold SL; exact .inl ⟨rfl, rfl⟩
/-- a slot without samples or chunks -/
abbrev sloZ (there sealed : Bool) (life ver : Int) (any : Bool) (last : Int) : List Value := [.bool there, .bool sealed, .int .i64 life, .int .i64 ver, .bool any, .int .i64 last, nilV, nilV]
-- CALL 85 refine WL.callV rfl rfl (fun x p d => cloneS_z _) ?_
theorem cloneS_z (ρ : Hp) : Fn Try.prog 85 #[nilV] ρ [] (Just nilV) := by
  refine in85 rfl rfl ?_
  have hz := slZ
  refine W.seq ?_
  refine W.region ?_
  refine WL.as rfl rfl ?_
  refine WL.nil ?_
  refine W.seq ?_
  refine W.seq ?_
  refine W.region ?_
  refine WL.mv rfl rfl ?_
  refine WL.eqN (T := Ty) rfl rfl (by assumption) rfl ?_
  refine WL.nil ?_
  refine W.condT rfl ?_
  refine W.seq ?_
  refine W.region ?_
  refine WL.as rfl rfl ?_
  refine WL.nil ?_
  exact W.ret1 rfl rfl (fun h p => ⟨rfl, p⟩)
-- CALL 84 refine WL.callV rfl rfl (fun x p d => clipS_z _) ?_
theorem clipS_z (ρ : Hp) : Fn Try.prog 84 #[nilV] ρ [] (Just nilV) := by
  refine in84 rfl rfl ?_
  have hz := slZ
  refine W.seq ?_
  refine W.region ?_
  refine WL.as rfl rfl ?_
  refine WL.nil ?_
  refine W.seq ?_
  refine W.region ?_
  refine WL.mv rfl rfl ?_
  refine WL.mv rfl rfl ?_
  refine WL.len (T := Ty) rfl rfl (by assumption) rfl ?_
  refine WL.mv rfl rfl ?_
  refine WL.len (T := Ty) rfl rfl (by assumption) rfl ?_
  refine WL.clipZ (T := Ty) rfl rfl rfl rfl rfl rfl ?_
  refine WL.as rfl rfl ?_
  refine WL.nil ?_
  exact W.ret1 rfl rfl (fun h p => ⟨rfl, p⟩)
-- CALL 77 refine WL.callV rfl rfl (fun x p d => cloneP_z _) ?_
theorem cloneP_z (ρ : Hp) : Fn Try.prog 77 #[nilV] ρ [] (Just nilV) := by
  refine in77 rfl rfl ?_
  have hz := slZ
  refine W.seq ?_
  refine W.region ?_
  refine WL.as rfl rfl ?_
  refine WL.nil ?_
  refine W.seq ?_
  refine W.seq ?_
  refine W.region ?_
  refine WL.mv rfl rfl ?_
  refine WL.eqN (T := Ty) rfl rfl (by assumption) rfl ?_
  refine WL.nil ?_
  refine W.condT rfl ?_
  refine W.seq ?_
  refine W.region ?_
  refine WL.as rfl rfl ?_
  refine WL.nil ?_
  exact W.ret1 rfl rfl (fun h p => ⟨rfl, p⟩)
-- CALL 76 refine WL.callV rfl rfl (fun x p d => clipP_z _) ?_
theorem clipP_z (ρ : Hp) : Fn Try.prog 76 #[nilV] ρ [] (Just nilV) := by
  refine in76 rfl rfl ?_
  have hz := slZ
  refine W.seq ?_
  refine W.region ?_
  refine WL.as rfl rfl ?_
  refine WL.nil ?_
  refine W.seq ?_
  refine W.region ?_
  refine WL.mv rfl rfl ?_
  refine WL.mv rfl rfl ?_
  refine WL.len (T := Ty) rfl rfl (by assumption) rfl ?_
  refine WL.mv rfl rfl ?_
  refine WL.len (T := Ty) rfl rfl (by assumption) rfl ?_
  refine WL.clipZ (T := Ty) rfl rfl rfl rfl rfl rfl ?_
  refine WL.as rfl rfl ?_
  refine WL.nil ?_
  exact W.ret1 rfl rfl (fun h p => ⟨rfl, p⟩)
-- CALL 75 refine WL.callV rfl rfl (fun x p d => stillO_z _ _ _) ?_
theorem stillO_z (ρ : Hp) (any : Bool) (last : Int) : Fn Try.prog 75 #[.agg #[.bool any, .int .i64 last, nilV]] ρ [] (Just (.agg #[.bool any, .int .i64 last, nilV])) := by
  refine in75 rfl rfl ?_
  refine W.seq ?_
  refine W.region ?_
  refine WL.bxF rfl rfl (by repeat' first | exact FL.nil | apply FL.cons) (fun b0 => ?_)
  refine WL.alF (T := Ty) rfl rfl (by repeat' first | exact FL.nil | apply FL.cons) (fun b1 => ?_)
  refine WL.nil ?_
  refine W.seq ?_
  refine W.region ?_
  refine WL.faN (T := Ty) (off' := 2) rfl rfl rfl rfl rfl rfl rfl ?_
  refine WL.ldN (T := Ty) (j := 1) rfl rfl rfl rfl rfl rfl ?_
  refine WL.callV rfl rfl (fun x p d => cloneS_z _) ?_
  refine WL.callV rfl rfl (fun x p d => clipS_z _) ?_
  refine WL.faN (T := Ty) (off' := 2) rfl rfl rfl rfl rfl rfl rfl ?_
  refine WL.stF (T := Ty) (j := 1) rfl rfl rfl rfl rfl rfl rfl (by repeat' first | exact FL.nil | apply FL.cons) (by repeat' first | exact FL.nil | apply FL.cons) ?_
  refine WL.nil ?_
  refine W.seq ?_
  refine W.region ?_
  refine WL.ldAF (T := Ty) (j := 1) rfl rfl rfl rfl rfl rfl (by repeat' first | exact FL.nil | apply FL.cons) ?_
  refine WL.stAO (T := Ty) (j := 0) rfl rfl rfl rfl (by repeat' first | exact AO.nil | apply AO.cons (by first | rfl | exact SL.one (by assumption))) rfl rfl (by repeat' first | exact FL.nil | apply FL.cons) (by repeat' first | exact FL.nil | apply FL.cons) ?_
  refine WL.nil ?_
  refine W.drop 1 rfl (by repeat' first | exact FL.nil | apply FL.cons) ?_
  exact W.retC (T := Ty) (j := 0) rfl rfl rfl rfl rfl rfl (fun h p => ⟨rfl, p⟩)
-- CALL 52 refine WL.callV rfl rfl (fun x p d => stillD_z _ _ _ _ _ _ _) ?_
theorem stillD_z (ρ : Hp) (there sealed : Bool) (life ver : Int) (any : Bool) (last : Int) : Fn Try.prog 52 #[.agg (sloZ there sealed life ver any last).toArray] ρ [] (Just (.agg (sloZ there sealed life ver any last).toArray)) := by
  refine in52 rfl rfl ?_
  refine W.seq ?_
  refine W.region ?_
  refine WL.bxF rfl rfl (by repeat' first | exact FL.nil | apply FL.cons) (fun b0 => ?_)
  refine WL.alF (T := Ty) rfl rfl (by repeat' first | exact FL.nil | apply FL.cons) (fun b1 => ?_)
  refine WL.nil ?_
  refine W.seq ?_
  refine W.region ?_
  refine WL.faN (T := Ty) (off' := 4) rfl rfl rfl rfl rfl rfl rfl ?_
  refine WL.ldAF (T := Ty) (j := 1) rfl rfl rfl rfl rfl rfl (by repeat' first | exact FL.nil | apply FL.cons) ?_
  refine WL.callV rfl rfl (fun x p d => stillO_z _ _ _) ?_
  refine WL.faN (T := Ty) (off' := 4) rfl rfl rfl rfl rfl rfl rfl ?_
  refine WL.stAO (T := Ty) (j := 1) rfl rfl rfl rfl (by repeat' first | exact AO.nil | apply AO.cons (by first | rfl | exact SL.one (by assumption))) rfl rfl (by repeat' first | exact FL.nil | apply FL.cons) (by repeat' first | exact FL.nil | apply FL.cons) ?_
  refine WL.nil ?_
  refine W.seq ?_
  refine W.region ?_
  refine WL.faN (T := Ty) (off' := 7) rfl rfl rfl rfl rfl rfl rfl ?_
  refine WL.ldN (T := Ty) (j := 1) rfl rfl rfl rfl rfl rfl ?_
  refine WL.callV rfl rfl (fun x p d => cloneP_z _) ?_
  refine WL.callV rfl rfl (fun x p d => clipP_z _) ?_
  refine WL.faN (T := Ty) (off' := 7) rfl rfl rfl rfl rfl rfl rfl ?_
  refine WL.stF (T := Ty) (j := 1) rfl rfl rfl rfl rfl rfl rfl (by repeat' first | exact FL.nil | apply FL.cons) (by repeat' first | exact FL.nil | apply FL.cons) ?_
  refine WL.nil ?_
  refine W.seq ?_
  refine W.region ?_
  refine WL.ldAF (T := Ty) (j := 1) rfl rfl rfl rfl rfl rfl (by repeat' first | exact FL.nil | apply FL.cons) ?_
  refine WL.stAO (T := Ty) (j := 0) rfl rfl rfl rfl (by repeat' first | exact AO.nil | apply AO.cons (by first | rfl | exact SL.one (by assumption))) rfl rfl (by repeat' first | exact FL.nil | apply FL.cons) (by repeat' first | exact FL.nil | apply FL.cons) ?_
  refine WL.nil ?_
  refine W.drop 1 rfl (by repeat' first | exact FL.nil | apply FL.cons) ?_
  exact W.retC (T := Ty) (j := 0) rfl rfl rfl rfl rfl rfl (fun h p => ⟨rfl, p⟩)
/-- a slot without samples or chunks, and who has its flag -/
structure Pz where
  there : Bool
  sealed : Bool
  life : Int
  ver : Int
  any : Bool
  last : Int
  taken : Bool
  who : Int
abbrev Pz.up (p : Pz) : Plc := ⟨⟨p.there, p.sealed, p.life, p.ver, p.any, p.last, nilV, nilV⟩, p.taken, p.who⟩
def dirZ (L : List Pz) : List Value := dirC (L.map Pz.up)
theorem up_at {L : List Pz} {i : Nat} {p : Pz} (h : L[i]? = some p) : (L.map Pz.up)[i]? = some p.up := by rw [List.getElem?_map, h]; rfl
theorem dirZ_set {L : List Pz} {i : Nat} (q : Pz) : dirC ((L.map Pz.up).set i q.up) = dirZ (L.set i q) := by unfold dirZ; rw [List.map_set]
attribute [local irreducible] dirZ
abbrev zeroP : Pz := ⟨false, false, 0, 0, false, 0, false, 0⟩
-- CALL 15 refine WL.callF rfl rfl (fun x p d => new_z _) (fun r => ?_) ;; refine WL.ex (fun b$N => ?_) ;; refine WL.pure (fun er => ?_) ;; subst er
theorem new_z (ρ : Hp) : Fn Try.prog 15 #[] ρ [] (fun r h => ∃ b, r = pt b 0 ∧ box b (dirZ (List.replicate 16 zeroP)) TD h) := by
  have := new_c ρ
  unfold dirZ
  rw [List.map_replicate]
  exact this
-- CALL 16 refine WL.callV rfl rfl (fun x p d => look_zin _ _ _ _ _ (by first | assumption | exact RB.wide (by assumption) | exact In.rb (by assumption) | exact rb_at 0 rfl p d | exact rb_at 1 rfl p d | exact rb_at 2 rfl p d | exact rb_at 3 rfl p d | exact rb_at 4 rfl p d | exact rb_at 5 rfl p d) (by first | assumption | rfl) (by first | assumption | rfl) (by first | assumption | omega | decide) (by first | assumption | omega | decide) (by first | assumption | omega | decide)) ?_
theorem look_zin (ρ : Hp) (b : Nat) (L : List Pz) (i : Nat) (p : Pz) (hB : RB ρ b (dirZ L) TD) (h16 : L.length = 16) (hp : L[i]? = some p) (hi : i < 16) (h0 : 0 ≤ p.ver) (he : p.ver % 2 = 0) :
    Fn Try.prog 16 #[pt b 0, .int .i64 (i : Int)] ρ [] (Just (.tuple #[.agg (sloZ p.there p.sealed p.life p.ver p.any p.last).toArray, .bool true])) := by
  unfold dirZ at hB
  refine in16 rfl rfl ?_
  have hq := up_at hp
  have g3 : (dirC (L.map Pz.up))[i * 10 + 0 + 3]? = some (.int .i64 p.ver) := dir_get hq 3 rfl
  have hz := dir_slot hq
  have hzl := dir_in (L := L.map Pz.up) (by rw [List.length_map, h16])
  refine W.seq ?_
  refine W.region ?_
  refine WL.alF (T := Ty) rfl rfl (by repeat' first | exact FL.nil | apply FL.cons) (fun b0 => ?_)
  refine WL.as rfl rfl ?_
  refine WL.nil ?_
  refine W.seq ?_
  refine W.region ?_
  refine WL.mv rfl rfl ?_
  refine WL.mv rfl rfl ?_
  refine WL.callV rfl rfl (fun x p d => at_in _ _ _ (by first | assumption | omega)) ?_
  refine WL.as rfl rfl ?_
  refine WL.nil ?_
  refine W.seq ?_
  refine W.seq ?_
  refine W.region ?_
  refine WL.mv rfl rfl ?_
  refine WL.eqP (T := Ty) rfl rfl rfl ?_
  refine WL.mv rfl rfl ?_
  refine WL.gY rfl rfl ?_
  refine WL.mv rfl rfl ?_
  refine WL.gY rfl rfl ?_
  refine WL.nc rfl rfl ?_
  refine WL.gY rfl rfl ?_
  refine WL.faN (T := Ty) rfl rfl rfl rfl rfl rfl rfl ?_
  refine WL.gY rfl rfl ?_
  refine WL.faN (T := Ty) rfl rfl rfl rfl rfl rfl rfl ?_
  refine WL.gY rfl rfl ?_
  refine WL.ldB (T := Ty) rfl rfl rfl rfl (by first | assumption | exact RB.wide (by assumption) | exact In.rb (by assumption)) (by assumption) ?_
  refine WL.gY rfl rfl ?_
  refine WL.remI rfl rfl rfl (by omega) (by omega) ?_
  refine WL.gY rfl rfl ?_
  refine WL.eql rfl rfl rfl ?_
  refine WL.pickF rfl rfl rfl ?_
  refine WL.nil ?_
  refine W.condpF rfl (by omega) ?_
  refine W.skip ?_
  refine W.seq ?_
  refine W.region ?_
  refine WL.mv rfl rfl ?_
  refine WL.nc rfl rfl ?_
  refine WL.faN (T := Ty) rfl rfl rfl rfl rfl rfl rfl ?_
  refine WL.ldAB (T := Ty) (cs := sloC p.up.s) rfl rfl rfl rfl hB hz (by rw [hzl]; show i * 10 + 0 + 8 ≤ 160; omega) ?_
  refine WL.callV rfl rfl (fun x p d => stillD_z _ _ _ _ _ _ _) ?_
  refine WL.stAO (T := Ty) (j := 0) rfl rfl rfl rfl (by repeat' first | exact AO.nil | apply AO.cons (by first | rfl | exact SL.one (by assumption))) rfl rfl (by repeat' first | exact FL.nil | apply FL.cons) (by repeat' first | exact FL.nil | apply FL.cons) ?_
  refine WL.as rfl rfl ?_
  refine WL.nil ?_
  exact W.retC2 (T := Ty) (j := 0) rfl rfl rfl rfl rfl rfl rfl (fun h p => ⟨rfl, p⟩)
-- CALL 16 refine WL.callV rfl rfl (fun x p d => look_zno _ _ _ _ _ (by first | assumption | exact RB.wide (by assumption) | exact In.rb (by assumption) | exact rb_at 0 rfl p d | exact rb_at 1 rfl p d | exact rb_at 2 rfl p d | exact rb_at 3 rfl p d | exact rb_at 4 rfl p d | exact rb_at 5 rfl p d) (by first | assumption | rfl) (by first | assumption | omega | decide) (by first | assumption | omega | decide) (by first | assumption | omega | decide)) ?_
theorem look_zno (ρ : Hp) (b : Nat) (L : List Pz) (i : Nat) (p : Pz) (hB : RB ρ b (dirZ L) TD) (hp : L[i]? = some p) (hi : i < 16) (h0 : 0 ≤ p.ver) (he : p.ver % 2 = 1) :
    Fn Try.prog 16 #[pt b 0, .int .i64 (i : Int)] ρ [] (Just (.tuple #[.agg (sloZ false false 0 0 false 0).toArray, .bool false])) := by
  unfold dirZ at hB
  exact look_no ρ b _ i _ hB (up_at hp) hi h0 he
-- CALL 16 refine WL.callV rfl rfl (fun x p d => look_out _ _ _ (by first | assumption | omega | decide)) ?_
-- CALL 22 refine WL.callV rfl rfl (fun x p d => flag_zin _ _ _ _ _ (by first | assumption | exact RB.wide (by assumption) | exact In.rb (by assumption) | exact rb_at 0 rfl p d | exact rb_at 1 rfl p d | exact rb_at 2 rfl p d | exact rb_at 3 rfl p d | exact rb_at 4 rfl p d | exact rb_at 5 rfl p d) (by first | assumption | rfl) (by first | assumption | omega | decide) (by first | assumption | rfl)) ?_
theorem flag_zin (ρ : Hp) (b : Nat) (L : List Pz) (i : Nat) (p : Pz) (hB : RB ρ b (dirZ L) TD) (hp : L[i]? = some p) (hi : i < 16) (ht : p.taken = true) :
    Fn Try.prog 22 #[pt b 0, .int .i64 (i : Int)] ρ [] (Just (.tuple #[.int .i64 p.who, .bool true])) := by
  unfold dirZ at hB
  exact flag_in ρ b _ i _ hB (up_at hp) hi ht
-- CALL 22 refine WL.callV rfl rfl (fun x p d => flag_zno _ _ _ _ _ (by first | assumption | exact RB.wide (by assumption) | exact In.rb (by assumption) | exact rb_at 0 rfl p d | exact rb_at 1 rfl p d | exact rb_at 2 rfl p d | exact rb_at 3 rfl p d | exact rb_at 4 rfl p d | exact rb_at 5 rfl p d) (by first | assumption | rfl) (by first | assumption | omega | decide) (by first | assumption | rfl)) ?_
theorem flag_zno (ρ : Hp) (b : Nat) (L : List Pz) (i : Nat) (p : Pz) (hB : RB ρ b (dirZ L) TD) (hp : L[i]? = some p) (hi : i < 16) (ht : p.taken = false) :
    Fn Try.prog 22 #[pt b 0, .int .i64 (i : Int)] ρ [] (Just (.tuple #[.int .i64 0, .bool false])) := by
  unfold dirZ at hB
  exact flag_no ρ b _ i _ hB (up_at hp) hi ht
-- CALL 22 refine WL.callV rfl rfl (fun x p d => flag_out _ _ _ (by first | assumption | omega | decide)) ?_
-- MUT 17 box
-- CALL 17 refine WL.callV rfl rfl (fun x p d => take_zno _ _ _ _ _ _ (by first | assumption | exact RB.wide (by assumption) | exact In.rb (by assumption) | exact rb_at 0 rfl p d | exact rb_at 1 rfl p d | exact rb_at 2 rfl p d | exact rb_at 3 rfl p d | exact rb_at 4 rfl p d | exact rb_at 5 rfl p d) (by first | assumption | rfl) (by first | assumption | omega | decide) (by first | assumption | rfl)) ?_
theorem take_zno (ρ : Hp) (b : Nat) (L : List Pz) (i : Nat) (p : Pz) (who : Int) (hB : RB ρ b (dirZ L) TD) (hp : L[i]? = some p) (hi : i < 16) (ht : p.taken = true) :
    Fn Try.prog 17 #[pt b 0, .int .i64 (i : Int), .int .i64 who] ρ [] (Just (.bool false)) := by
  unfold dirZ at hB
  exact take_no ρ b _ i _ who hB (up_at hp) hi ht
-- CALL 17 refine WL.callV rfl rfl (fun x p d => take_out _ _ _ _ (by first | assumption | omega | decide)) ?_
-- CALL 17 refine WL.callM $J rfl rfl rfl (fun x p d => take_z _ _ _ _ _ _ (by first | assumption | rfl) (by first | assumption | rfl) (by first | assumption | omega | decide) (by first | assumption | rfl) (by first | assumption | omega | decide) (by first | assumption | omega | decide)) $FL ?_
theorem take_z (ρ : Hp) (b : Nat) (L : List Pz) (i : Nat) (p : Pz) (who : Int) (h16 : L.length = 16) (hp : L[i]? = some p) (hi : i < 16) (ht : p.taken = false) (hv : 0 ≤ p.ver) (hv2 : p.ver < 9223372036854775807) :
    Fn Try.prog 17 #[pt b 0, .int .i64 (i : Int), .int .i64 who] ρ [box b (dirZ L) TD] (fun r h => r = .bool true ∧ box b (dirZ (L.set i { p with ver := p.ver + 1, taken := true, who := who })) TD h) := by
  have := take_yes ρ b (L.map Pz.up) i p.up who (by rw [List.length_map, h16]) (up_at hp) hi ht hv hv2
  rw [← dirZ_set]
  unfold dirZ
  exact this
-- MUT 18 box
-- CALL 18 refine WL.callV rfl rfl (fun x p d => leave_zno _ _ _ _ _ _ _ _ _ _ _ _ (by first | assumption | exact RB.wide (by assumption) | exact In.rb (by assumption) | exact rb_at 0 rfl p d | exact rb_at 1 rfl p d | exact rb_at 2 rfl p d | exact rb_at 3 rfl p d | exact rb_at 4 rfl p d | exact rb_at 5 rfl p d) (by first | assumption | rfl) (by first | assumption | omega | decide) (by first | assumption | exact .inl (by assumption) | exact .inr (by first | omega | decide) | exact .inl rfl)) ?_
theorem leave_zno (ρ : Hp) (b : Nat) (L : List Pz) (i : Nat) (p : Pz) (who : Int) (there sealed : Bool) (life ver : Int) (any : Bool) (last : Int) (hB : RB ρ b (dirZ L) TD) (hp : L[i]? = some p) (hi : i < 16) (ht : p.taken = false ∨ p.who ≠ who) :
    Fn Try.prog 18 #[pt b 0, .int .i64 (i : Int), .int .i64 who, .agg (sloZ there sealed life ver any last).toArray] ρ [] (Just (.bool false)) := by
  unfold dirZ at hB
  exact leave_no ρ b _ i _ who ⟨there, sealed, life, ver, any, last, nilV, nilV⟩ hB (up_at hp) hi ht
-- CALL 18 refine WL.callM $J rfl rfl rfl (fun x p d => leave_z _ _ _ _ _ _ _ _ _ _ _ _ (by first | assumption | rfl) (by first | assumption | rfl) (by first | assumption | omega | decide) (by first | assumption | rfl) (by first | assumption | rfl) (by first | assumption | omega | decide) (by first | assumption | omega | decide)) $FL ?_
theorem leave_z (ρ : Hp) (b : Nat) (L : List Pz) (i : Nat) (p : Pz) (who : Int) (there sealed : Bool) (life ver : Int) (any : Bool) (last : Int) (h16 : L.length = 16) (hp : L[i]? = some p) (hi : i < 16) (ht : p.taken = true) (hq : p.who = who) (h0 : 0 ≤ p.ver) (hw : p.ver < 9223372036854775807) :
    Fn Try.prog 18 #[pt b 0, .int .i64 (i : Int), .int .i64 who, .agg (sloZ there sealed life ver any last).toArray] ρ [box b (dirZ L) TD]
      (fun r h => r = .bool true ∧ box b (dirZ (L.set i ⟨there, sealed, life, p.ver + 1, any, last, false, 0⟩)) TD h) := by
  subst hq
  rw [← dirZ_set]
  unfold dirZ
  refine in18 rfl rfl ?_
  have hr := up_at hp
  have g9 : (dirC (L.map Pz.up))[i * 10 + 9]? = some (.int .i64 p.who) := dir_get hr 9 rfl
  have g8 : (dirC (L.map Pz.up))[i * 10 + 8]? = some (.bool true) := dir_get hr 8 (by rw [← ht]; rfl)
  have g3 : (dirC (L.map Pz.up))[i * 10 + 0 + 3]? = some (.int .i64 p.ver) := dir_get hr 3 rfl
  have hml : (L.map Pz.up).length = 16 := by rw [List.length_map, h16]
  have hzl := dir_in hml
  refine W.seq ?_
  refine W.region ?_
  refine WL.bxF rfl rfl (by repeat' first | exact FL.nil | apply FL.cons) (fun b0 => ?_)
  refine WL.as rfl rfl ?_
  refine WL.nil ?_
  refine W.seq ?_
  refine W.region ?_
  refine WL.mv rfl rfl ?_
  refine WL.mv rfl rfl ?_
  refine WL.callV rfl rfl (fun x p d => at_in _ _ _ (by first | assumption | omega)) ?_
  refine WL.as rfl rfl ?_
  refine WL.nil ?_
  refine W.seq ?_
  refine W.seq ?_
  refine W.region ?_
  refine WL.mv rfl rfl ?_
  refine WL.eqP (T := Ty) rfl rfl rfl ?_
  refine WL.mv rfl rfl ?_
  refine WL.gY rfl rfl ?_
  refine WL.mv rfl rfl ?_
  refine WL.gY rfl rfl ?_
  refine WL.nc rfl rfl ?_
  refine WL.gY rfl rfl ?_
  refine WL.faN (T := Ty) rfl rfl rfl rfl rfl rfl rfl ?_
  refine WL.gY rfl rfl ?_
  refine WL.ld (T := Ty) (j := 1) rfl rfl rfl rfl rfl (by assumption) ?_
  refine WL.gY rfl rfl ?_
  refine WL.not rfl rfl ?_
  refine WL.pickF rfl rfl rfl ?_
  refine WL.mv rfl rfl ?_
  refine WL.gY rfl rfl ?_
  refine WL.mv rfl rfl ?_
  refine WL.gY rfl rfl ?_
  refine WL.nc rfl rfl ?_
  refine WL.gY rfl rfl ?_
  refine WL.faN (T := Ty) rfl rfl rfl rfl rfl rfl rfl ?_
  refine WL.gY rfl rfl ?_
  refine WL.ld (T := Ty) (j := 1) rfl rfl rfl rfl rfl (by assumption) ?_
  refine WL.gY rfl rfl ?_
  refine WL.mv rfl rfl ?_
  refine WL.gY rfl rfl ?_
  refine WL.neq rfl rfl rfl ?_
  refine WL.pickF rfl rfl rfl ?_
  refine WL.nil ?_
  refine W.condpF rfl (by omega) ?_
  refine W.skip ?_
  refine W.seq ?_
  refine W.region ?_
  refine WL.ldAF (T := Ty) (j := 0) rfl rfl rfl rfl rfl rfl (by repeat' first | exact FL.nil | apply FL.cons) ?_
  refine WL.callV rfl rfl (fun x p d => stillD_z _ _ _ _ _ _ _) ?_
  refine WL.stAO (T := Ty) (j := 0) rfl rfl rfl rfl (by repeat' first | exact AO.nil | apply AO.cons (by first | rfl | exact SL.one (by assumption))) rfl rfl (by repeat' first | exact FL.nil | apply FL.cons) (by repeat' first | exact FL.nil | apply FL.cons) ?_
  refine WL.nil ?_
  refine W.seq ?_
  refine W.region ?_
  refine WL.mv rfl rfl ?_
  refine WL.nc rfl rfl ?_
  refine WL.faN (T := Ty) rfl rfl rfl rfl rfl rfl rfl ?_
  refine WL.faN (T := Ty) rfl rfl rfl rfl rfl rfl rfl ?_
  refine WL.ld (T := Ty) (j := 1) rfl rfl rfl rfl rfl (by assumption) ?_
  refine WL.addK rfl rfl rfl (wrap_i64 ⟨by omega, by omega⟩) ?_
  refine WL.faN (T := Ty) (off' := 3) rfl rfl rfl rfl rfl rfl rfl ?_
  refine WL.stF (T := Ty) (j := 0) rfl rfl rfl rfl rfl rfl rfl (by repeat' first | exact FL.nil | apply FL.cons) (by repeat' first | exact FL.nil | apply FL.cons) ?_
  refine WL.nil ?_
  refine W.seq ?_
  refine W.region ?_
  refine WL.mv rfl rfl ?_
  refine WL.ldAF (T := Ty) (j := 0) rfl rfl rfl rfl rfl rfl (by repeat' first | exact FL.nil | apply FL.cons) ?_
  refine WL.bdC (T := Ty) rfl rfl rfl rfl (by repeat' first | exact CO.nil | apply CO.one (by first | rfl | exact SL.one (by assumption)) | apply CO.agg) rfl (by repeat' first | exact FL.nil | apply FL.cons) ?_
  refine WL.nc rfl rfl ?_
  refine WL.stA (T := Ty) (j := 1) (cs := plcC (Pz.up ⟨there, sealed, life, p.ver + 1, any, last, false, 0⟩)) (c' := dirC ((L.map Pz.up).set i (Pz.up ⟨there, sealed, life, p.ver + 1, any, last, false, 0⟩))) rfl rfl rfl rfl
    (AO.all (by repeat' first | exact AO.nil | apply AO.cons (by first | rfl | exact SL.one (by assumption)))) rfl (by rw [hzl]; show i * 10 + 10 ≤ 160; omega)
    (by rw [show (plcC (Pz.up ⟨there, sealed, life, p.ver + 1, any, last, false, 0⟩)).length = 10 from rfl, dir_put _ (by omega)]; exact FL.rfl _) (by repeat' first | exact FL.nil | apply FL.cons) ?_
  refine WL.nil ?_
  refine W.seq ?_
  refine W.region ?_
  refine WL.as rfl rfl ?_
  refine WL.nil ?_
  refine W.drop 0 rfl (by repeat' first | exact FL.nil | apply FL.cons) ?_
  exact W.ret1 rfl rfl (fun h p => ⟨rfl, sepl_one.1 p⟩)
end Go.Proofs.Ytlmhjkbbooghfaa
