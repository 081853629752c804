/- One hand alone, as the document has it: Do over ops that are written out. -/
import Derived.Test.YtbebhmdjnneimaaMdlLw
import Derived.Test.YtbebhmdjnneimaaMref3
set_option linter.unusedSimpArgs false
set_option linter.unusedVariables false
namespace Go.Proofs.Ytbebhmdjnneimaa
open Go
theorem doRX_c (ρ : Hp) (u : Value) (n : Nat) (m : Mdl) (k s i t v lo hi nn : Int) (hm : RMdl ρ u m) (hI : MInv n m) (hn : n ≤ 1000000) :
  Fn Try.prog 20 #[u, .agg #[.int .i64 k, .int .i64 s, .int .i64 i, .int .i64 t, .int .u64 v, .int .i64 lo, .int .i64 hi, .int .i64 nn]] ρ [] (DoR (doM m ⟨k, s, i, t, v, lo, hi, nn⟩).1 (doM m ⟨k, s, i, t, v, lo, hi, nn⟩).2) :=
 doR_c ρ u n m ⟨k, s, i, t, v, lo, hi, nn⟩ hm hI hn
end Go.Proofs.Ytbebhmdjnneimaa
/- The four comparisons, where it is known what they tell. -/
set_option linter.unusedSimpArgs false
set_option linter.unusedVariables false
set_option maxRecDepth 20000
namespace Go.Proofs.Ytbebhmdjnneimaa
open Go
theorem rsame_e (ρ : Hp) (v v' : Value) (m m' : Mdl) (n : Nat) (c : Bool) (hm : RMdl ρ v m) (hm' : RMdl ρ v' m') (hI : MInv n m) (hb : n ≤ 1000000) (hc : sameMdl m m' = c) :
    Fn Try.prog 16 #[v, v'] ρ [] (Just (.bool c)) := hc ▸ rsame_c ρ v v' m m' n hm hm' hI hb
theorem sameR_e (ρ : Hp) (v v' : Value) (a b : Rst) (c : Bool) (ha : RRst ρ v a) (hb : RRst ρ v' b) (hl : a.list.length ≤ 100000000) (hc : sameRst a b = c) :
    Fn Try.prog 23 #[v, v'] ρ [] (Just (.bool c)) := hc ▸ sameR_c ρ v v' a b ha hb hl
theorem rsameR_e (ρ : Hp) (v v' : Value) (a b : Rst) (c : Bool) (ha : RRst ρ v a) (hb : RRst ρ v' b) (hl : a.list.length ≤ 100000000) (hc : sameRst a b = c) :
    Fn Try.prog 21 #[v, v'] ρ [] (Just (.bool c)) := hc ▸ rsameR_c ρ v v' a b ha hb hl
end Go.Proofs.Ytbebhmdjnneimaa
