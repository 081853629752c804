/- The types and functions of this translation, as the rules look them up. Written by wip/tab.py out of the translation's own rows. -/
import Derived.Test.YtjibmfkhhljhcaaDoorMem
import Derived.Test.YtjibmfkhhljhcaaDoorProg
import Derived.KernelRfl
set_option linter.unusedVariables false
namespace Go.Proofs.YtjibmfkhhljhcaaDoor
open Go
def ti0 : TyI := ⟨.tuple #[], 1, 0, .tuple #[], false⟩
def ti1 : TyI := ⟨.func #[] #[] false, 1, 8, .nilFunc, false⟩
def ti2 : TyI := ⟨.int .i64, 1, 8, .int .i64 0, true⟩
def ti3 : TyI := ⟨.int .i64, 1, 8, .int .i64 0, true⟩
def ti4 : TyI := ⟨.bool, 1, 1, .bool false, true⟩
def ti5 : TyI := ⟨.int .u8, 1, 1, .int .u8 0, true⟩
def ti6 : TyI := ⟨.int .u8, 1, 1, .int .u8 0, true⟩
def ti7 : TyI := ⟨.struct #[⟨ "x", 2, 0, false, "", "runtime", 0⟩, ⟨ "y", 3, 1, false, "", "runtime", 8⟩, ⟨ "signed", 4, 2, false, "", "runtime", 16⟩, ⟨ "code", 6, 3, false, "", "runtime", 17⟩], 4, 24, .agg #[.int .i64 0, .int .i64 0, .bool false, .int .u8 0], true⟩
def ti8 : TyI := ⟨.struct #[⟨ "x", 2, 0, false, "", "runtime", 0⟩, ⟨ "y", 3, 1, false, "", "runtime", 8⟩, ⟨ "signed", 4, 2, false, "", "runtime", 16⟩, ⟨ "code", 6, 3, false, "", "runtime", 17⟩], 4, 24, .agg #[.int .i64 0, .int .i64 0, .bool false, .int .u8 0], true⟩
def ti9 : TyI := ⟨.string, 1, 16, .string ByteArray.empty, true⟩
def ti10 : TyI := ⟨.string, 1, 16, .string ByteArray.empty, true⟩
def ti11 : TyI := ⟨.string, 1, 16, .string ByteArray.empty, true⟩
def ti12 : TyI := ⟨.int .u64, 1, 8, .int .u64 0, true⟩
def ti13 : TyI := ⟨.struct #[⟨ "msg", 9, 0, false, "", "runtime", 0⟩, ⟨ "addr", 12, 1, false, "", "runtime", 16⟩], 2, 24, .agg #[.string ByteArray.empty, .int .u64 0], true⟩
def ti14 : TyI := ⟨.struct #[⟨ "msg", 9, 0, false, "", "runtime", 0⟩, ⟨ "addr", 12, 1, false, "", "runtime", 16⟩], 2, 24, .agg #[.string ByteArray.empty, .int .u64 0], true⟩
def ti15 : TyI := ⟨.pointer 70, 1, 8, .pointer none, true⟩
def ti16 : TyI := ⟨.pointer 73, 1, 8, .pointer none, true⟩
def ti17 : TyI := ⟨.pointer 82, 1, 8, .pointer none, true⟩
def ti18 : TyI := ⟨.struct #[⟨ "typ", 17, 0, false, "", "internal/runtime/maps", 0⟩], 1, 8, .agg #[.pointer none], true⟩
def ti19 : TyI := ⟨.struct #[⟨ "typ", 17, 0, false, "", "internal/runtime/maps", 0⟩], 1, 8, .agg #[.pointer none], true⟩
def ti20 : TyI := ⟨.interface #[], 1, 16, .nilIface, true⟩
def ti21 : TyI := ⟨.int .i32, 1, 4, .int .i32 0, true⟩
def ti22 : TyI := ⟨.slice 28, 1, 24, .slice none 0 0, false⟩
def ti23 : TyI := ⟨.func #[22, 3] #[22] false, 1, 8, .nilFunc, false⟩
def ti24 : TyI := ⟨.pointer 54, 1, 8, .pointer none, true⟩
def ti25 : TyI := ⟨.func #[] #[24] false, 1, 8, .nilFunc, false⟩
def ti26 : TyI := ⟨.func #[24, 22] #[] false, 1, 8, .nilFunc, false⟩
def ti27 : TyI := ⟨.func #[] #[3] false, 1, 8, .nilFunc, false⟩
def ti28 : TyI := ⟨.int .u64, 1, 8, .int .u64 0, true⟩
def ti29 : TyI := ⟨.func #[] #[4] false, 1, 8, .nilFunc, false⟩
def ti30 : TyI := ⟨.func #[22, 3] #[4] false, 1, 8, .nilFunc, false⟩
def ti31 : TyI := ⟨.slice 5, 1, 24, .slice none 0 0, false⟩
def ti32 : TyI := ⟨.pointer 34, 1, 8, .pointer none, true⟩
def ti33 : TyI := ⟨.struct #[⟨ "L", 31, 0, false, "", "", 0⟩], 1, 24, .agg #[.slice none 0 0], false⟩
def ti34 : TyI := ⟨.struct #[⟨ "L", 31, 0, false, "", "", 0⟩], 1, 24, .agg #[.slice none 0 0], false⟩
def ti35 : TyI := ⟨.func #[32, 22] #[] false, 1, 8, .nilFunc, false⟩
def ti36 : TyI := ⟨.func #[] #[31] false, 1, 8, .nilFunc, false⟩
def ti37 : TyI := ⟨.slice 31, 1, 24, .slice none 0 0, false⟩
def ti38 : TyI := ⟨.slice 3, 1, 24, .slice none 0 0, false⟩
def ti39 : TyI := ⟨.pointer 62, 1, 8, .pointer none, true⟩
def ti40 : TyI := ⟨.func #[31] #[39] false, 1, 8, .nilFunc, false⟩
def ti41 : TyI := ⟨.pointer 43, 1, 8, .pointer none, true⟩
def ti42 : TyI := ⟨.struct #[⟨ "B", 31, 0, false, "", "", 0⟩, ⟨ "At", 3, 1, false, "", "", 24⟩, ⟨ "Bad", 4, 2, false, "", "", 32⟩], 3, 40, .agg #[.slice none 0 0, .int .i64 0, .bool false], false⟩
def ti43 : TyI := ⟨.struct #[⟨ "B", 31, 0, false, "", "", 0⟩, ⟨ "At", 3, 1, false, "", "", 24⟩, ⟨ "Bad", 4, 2, false, "", "", 32⟩], 3, 40, .agg #[.slice none 0 0, .int .i64 0, .bool false], false⟩
def ti44 : TyI := ⟨.tuple #[22, 4], 1, 0, .tuple #[.slice none 0 0, .bool false], false⟩
def ti45 : TyI := ⟨.func #[39, 3] #[22, 4] false, 1, 8, .nilFunc, false⟩
def ti46 : TyI := ⟨.func #[41, 3] #[22, 4] false, 1, 8, .nilFunc, false⟩
def ti47 : TyI := ⟨.func #[22, 22] #[4] false, 1, 8, .nilFunc, false⟩
def ti48 : TyI := ⟨.func #[22, 3, 31, 3, 5, 3] #[4] false, 1, 8, .nilFunc, false⟩
def ti49 : TyI := ⟨.func #[28, 3] #[] false, 1, 8, .nilFunc, false⟩
def ti50 : TyI := ⟨.func #[3] #[28] false, 1, 8, .nilFunc, false⟩
def ti51 : TyI := ⟨.func #[22, 3, 28] #[4] false, 1, 8, .nilFunc, false⟩
def ti52 : TyI := ⟨.int .u64, 1, 8, .int .u64 0, true⟩
def ti53 : TyI := ⟨.struct #[⟨ "b", 31, 0, false, "", "ephemeris/bits", 0⟩, ⟨ "n", 3, 1, false, "", "ephemeris/bits", 24⟩], 2, 32, .agg #[.slice none 0 0, .int .i64 0], false⟩
def ti54 : TyI := ⟨.struct #[⟨ "b", 31, 0, false, "", "ephemeris/bits", 0⟩, ⟨ "n", 3, 1, false, "", "ephemeris/bits", 24⟩], 2, 32, .agg #[.slice none 0 0, .int .i64 0], false⟩
def ti55 : TyI := ⟨.struct #[⟨ "is", 4, 0, false, "", "ephemeris/xorv", 0⟩, ⟨ "lead", 3, 1, false, "", "ephemeris/xorv", 8⟩, ⟨ "trail", 3, 2, false, "", "ephemeris/xorv", 16⟩], 3, 24, .agg #[.bool false, .int .i64 0, .int .i64 0], true⟩
def ti56 : TyI := ⟨.struct #[⟨ "is", 4, 0, false, "", "ephemeris/xorv", 0⟩, ⟨ "lead", 3, 1, false, "", "ephemeris/xorv", 8⟩, ⟨ "trail", 3, 2, false, "", "ephemeris/xorv", 16⟩], 3, 24, .agg #[.bool false, .int .i64 0, .int .i64 0], true⟩
def ti57 : TyI := ⟨.func #[28] #[4] false, 1, 8, .nilFunc, false⟩
def ti58 : TyI := ⟨.func #[28] #[56] false, 1, 8, .nilFunc, false⟩
def ti59 : TyI := ⟨.func #[28] #[3] false, 1, 8, .nilFunc, false⟩
def ti60 : TyI := ⟨.func #[31] #[31] false, 1, 8, .nilFunc, false⟩
def ti61 : TyI := ⟨.struct #[⟨ "b", 31, 0, false, "", "ephemeris/bits", 0⟩, ⟨ "at", 3, 1, false, "", "ephemeris/bits", 24⟩, ⟨ "bad", 4, 2, false, "", "ephemeris/bits", 32⟩], 3, 40, .agg #[.slice none 0 0, .int .i64 0, .bool false], false⟩
def ti62 : TyI := ⟨.struct #[⟨ "b", 31, 0, false, "", "ephemeris/bits", 0⟩, ⟨ "at", 3, 1, false, "", "ephemeris/bits", 24⟩, ⟨ "bad", 4, 2, false, "", "ephemeris/bits", 32⟩], 3, 40, .agg #[.slice none 0 0, .int .i64 0, .bool false], false⟩
def ti63 : TyI := ⟨.tuple #[28, 4], 1, 0, .tuple #[.int .u64 0, .bool false], false⟩
def ti64 : TyI := ⟨.func #[39, 65] #[28, 4] false, 1, 8, .nilFunc, false⟩
def ti65 : TyI := ⟨.pointer 56, 1, 8, .pointer none, true⟩
def ti66 : TyI := ⟨.func #[3] #[3] false, 1, 8, .nilFunc, false⟩
def ti67 : TyI := ⟨.array 64 5, 64, 64, .agg (List.replicate 64 (.int .u8 0)).toArray, true⟩
def ti68 : TyI := ⟨.func #[] #[9] false, 1, 8, .nilFunc, false⟩
def ti69 : TyI := ⟨.struct #[⟨ "_interface", 17, 0, false, "", "runtime", 0⟩, ⟨ "concrete", 17, 1, false, "", "runtime", 8⟩, ⟨ "asserted", 17, 2, false, "", "runtime", 16⟩, ⟨ "missingMethod", 9, 3, false, "", "runtime", 24⟩], 4, 40, .agg #[.pointer none, .pointer none, .pointer none, .string ByteArray.empty], true⟩
def ti70 : TyI := ⟨.struct #[⟨ "_interface", 17, 0, false, "", "runtime", 0⟩, ⟨ "concrete", 17, 1, false, "", "runtime", 8⟩, ⟨ "asserted", 17, 2, false, "", "runtime", 16⟩, ⟨ "missingMethod", 9, 3, false, "", "runtime", 24⟩], 4, 40, .agg #[.pointer none, .pointer none, .pointer none, .string ByteArray.empty], true⟩
def ti71 : TyI := ⟨.array 0 16, 0, 0, .agg #[], true⟩
def ti72 : TyI := ⟨.struct #[⟨ "_", 71, 0, false, "", "runtime", 0⟩], 0, 0, .agg #[], true⟩
def ti73 : TyI := ⟨.struct #[⟨ "_", 71, 0, false, "", "runtime", 0⟩], 0, 0, .agg #[], true⟩
def ti74 : TyI := ⟨.int .u32, 1, 4, .int .u32 0, true⟩
def ti75 : TyI := ⟨.int .u8, 1, 1, .int .u8 0, true⟩
def ti76 : TyI := ⟨.int .u8, 1, 1, .int .u8 0, true⟩
def ti77 : TyI := ⟨.func #[83, 83] #[4] false, 1, 8, .nilFunc, false⟩
def ti78 : TyI := ⟨.pointer 5, 1, 8, .pointer none, true⟩
def ti79 : TyI := ⟨.int .i32, 1, 4, .int .i32 0, true⟩
def ti80 : TyI := ⟨.int .i32, 1, 4, .int .i32 0, true⟩
def ti81 : TyI := ⟨.struct #[⟨ "Size_", 12, 0, false, "", "", 0⟩, ⟨ "PtrBytes", 12, 1, false, "", "", 8⟩, ⟨ "Hash", 74, 2, false, "", "", 16⟩, ⟨ "TFlag", 75, 3, false, "", "", 20⟩, ⟨ "Align_", 5, 4, false, "", "", 21⟩, ⟨ "FieldAlign_", 5, 5, false, "", "", 22⟩, ⟨ "Kind_", 76, 6, false, "", "", 23⟩, ⟨ "Equal", 77, 7, false, "", "", 24⟩, ⟨ "GCData", 78, 8, false, "", "", 32⟩, ⟨ "Str", 79, 9, false, "", "", 40⟩, ⟨ "PtrToThis", 80, 10, false, "", "", 44⟩], 11, 48, .agg #[.int .u64 0, .int .u64 0, .int .u32 0, .int .u8 0, .int .u8 0, .int .u8 0, .int .u8 0, .nilFunc, .pointer none, .int .i32 0, .int .i32 0], false⟩
def ti82 : TyI := ⟨.struct #[⟨ "Size_", 12, 0, false, "", "", 0⟩, ⟨ "PtrBytes", 12, 1, false, "", "", 8⟩, ⟨ "Hash", 74, 2, false, "", "", 16⟩, ⟨ "TFlag", 75, 3, false, "", "", 20⟩, ⟨ "Align_", 5, 4, false, "", "", 21⟩, ⟨ "FieldAlign_", 5, 5, false, "", "", 22⟩, ⟨ "Kind_", 76, 6, false, "", "", 23⟩, ⟨ "Equal", 77, 7, false, "", "", 24⟩, ⟨ "GCData", 78, 8, false, "", "", 32⟩, ⟨ "Str", 79, 9, false, "", "", 40⟩, ⟨ "PtrToThis", 80, 10, false, "", "", 44⟩], 11, 48, .agg #[.int .u64 0, .int .u64 0, .int .u32 0, .int .u8 0, .int .u8 0, .int .u8 0, .int .u8 0, .nilFunc, .pointer none, .int .i32 0, .int .i32 0], false⟩
def tyTab : List (Nat × TyI) := [(0, ti0), (1, ti1), (2, ti2), (3, ti3), (4, ti4), (5, ti5), (6, ti6), (7, ti7), (8, ti8), (9, ti9), (10, ti10), (11, ti11), (12, ti12), (13, ti13), (14, ti14), (15, ti15), (16, ti16), (17, ti17), (18, ti18), (19, ti19), (20, ti20), (21, ti21), (22, ti22), (23, ti23), (24, ti24), (25, ti25), (26, ti26), (27, ti27), (28, ti28), (29, ti29), (30, ti30), (31, ti31), (32, ti32), (33, ti33), (34, ti34), (35, ti35), (36, ti36), (37, ti37), (38, ti38), (39, ti39), (40, ti40), (41, ti41), (42, ti42), (43, ti43), (44, ti44), (45, ti45), (46, ti46), (47, ti47), (48, ti48), (49, ti49), (50, ti50), (51, ti51), (52, ti52), (53, ti53), (54, ti54), (55, ti55), (56, ti56), (57, ti57), (58, ti58), (59, ti59), (60, ti60), (61, ti61), (62, ti62), (63, ti63), (64, ti64), (65, ti65), (66, ti66), (67, ti67), (68, ti68), (69, ti69), (70, ti70), (71, ti71), (72, ti72), (73, ti73), (74, ti74), (75, ti75), (76, ti76), (77, ti77), (78, ti78), (79, ti79), (80, ti80), (81, ti81), (82, ti82)]
def tyLook : List (Nat × TyI) → Nat → Option TyI
  | [], _ => none
  | (s, i) :: l, t => bif Nat.beq s t then some i else tyLook l t
def TyOK (p : Nat × TyI) : Prop := Tryd.prog.underlying p.1 = some p.2.desc ∧ (Tryd.prog.info? p.1).map (fun i => (i.size, i.bytes, i.zero, i.comparable)) = some (p.2.size, p.2.bytes, some p.2.zero, p.2.comparable)
theorem tyLook_ok (l : List (Nat × TyI)) (h : ∀ p ∈ l, TyOK p) (t : Nat) (i : TyI) (e : tyLook l t = some i) : TyOK (t, i) := by
  induction l with
  | nil => cases e
  | cons p l ih =>
    simp only [tyLook] at e
    cases hb : Nat.beq p.1 t with
    | true =>
      have := Nat.eq_of_beq_eq_true hb
      simp [hb] at e
      subst e; subst this
      exact h p (by simp)
    | false =>
      simp [hb] at e
      exact ih (fun q hq => h q (by simp [hq])) e
theorem to0 : TyOK (0, ti0) := ⟨by kernel_rfl, by kernel_rfl⟩
theorem to1 : TyOK (1, ti1) := ⟨by kernel_rfl, by kernel_rfl⟩
theorem to2 : TyOK (2, ti2) := ⟨by kernel_rfl, by kernel_rfl⟩
theorem to3 : TyOK (3, ti3) := ⟨by kernel_rfl, by kernel_rfl⟩
theorem to4 : TyOK (4, ti4) := ⟨by kernel_rfl, by kernel_rfl⟩
theorem to5 : TyOK (5, ti5) := ⟨by kernel_rfl, by kernel_rfl⟩
theorem to6 : TyOK (6, ti6) := ⟨by kernel_rfl, by kernel_rfl⟩
theorem to7 : TyOK (7, ti7) := ⟨by kernel_rfl, by kernel_rfl⟩
theorem to8 : TyOK (8, ti8) := ⟨by kernel_rfl, by kernel_rfl⟩
theorem to9 : TyOK (9, ti9) := ⟨by kernel_rfl, by kernel_rfl⟩
theorem to10 : TyOK (10, ti10) := ⟨by kernel_rfl, by kernel_rfl⟩
theorem to11 : TyOK (11, ti11) := ⟨by kernel_rfl, by kernel_rfl⟩
theorem to12 : TyOK (12, ti12) := ⟨by kernel_rfl, by kernel_rfl⟩
theorem to13 : TyOK (13, ti13) := ⟨by kernel_rfl, by kernel_rfl⟩
theorem to14 : TyOK (14, ti14) := ⟨by kernel_rfl, by kernel_rfl⟩
theorem to15 : TyOK (15, ti15) := ⟨by kernel_rfl, by kernel_rfl⟩
theorem to16 : TyOK (16, ti16) := ⟨by kernel_rfl, by kernel_rfl⟩
theorem to17 : TyOK (17, ti17) := ⟨by kernel_rfl, by kernel_rfl⟩
theorem to18 : TyOK (18, ti18) := ⟨by kernel_rfl, by kernel_rfl⟩
theorem to19 : TyOK (19, ti19) := ⟨by kernel_rfl, by kernel_rfl⟩
theorem to20 : TyOK (20, ti20) := ⟨by kernel_rfl, by kernel_rfl⟩
theorem to21 : TyOK (21, ti21) := ⟨by kernel_rfl, by kernel_rfl⟩
theorem to22 : TyOK (22, ti22) := ⟨by kernel_rfl, by kernel_rfl⟩
theorem to23 : TyOK (23, ti23) := ⟨by kernel_rfl, by kernel_rfl⟩
theorem to24 : TyOK (24, ti24) := ⟨by kernel_rfl, by kernel_rfl⟩
theorem to25 : TyOK (25, ti25) := ⟨by kernel_rfl, by kernel_rfl⟩
theorem to26 : TyOK (26, ti26) := ⟨by kernel_rfl, by kernel_rfl⟩
theorem to27 : TyOK (27, ti27) := ⟨by kernel_rfl, by kernel_rfl⟩
theorem to28 : TyOK (28, ti28) := ⟨by kernel_rfl, by kernel_rfl⟩
theorem to29 : TyOK (29, ti29) := ⟨by kernel_rfl, by kernel_rfl⟩
theorem to30 : TyOK (30, ti30) := ⟨by kernel_rfl, by kernel_rfl⟩
theorem to31 : TyOK (31, ti31) := ⟨by kernel_rfl, by kernel_rfl⟩
theorem to32 : TyOK (32, ti32) := ⟨by kernel_rfl, by kernel_rfl⟩
theorem to33 : TyOK (33, ti33) := ⟨by kernel_rfl, by kernel_rfl⟩
theorem to34 : TyOK (34, ti34) := ⟨by kernel_rfl, by kernel_rfl⟩
theorem to35 : TyOK (35, ti35) := ⟨by kernel_rfl, by kernel_rfl⟩
theorem to36 : TyOK (36, ti36) := ⟨by kernel_rfl, by kernel_rfl⟩
theorem to37 : TyOK (37, ti37) := ⟨by kernel_rfl, by kernel_rfl⟩
theorem to38 : TyOK (38, ti38) := ⟨by kernel_rfl, by kernel_rfl⟩
theorem to39 : TyOK (39, ti39) := ⟨by kernel_rfl, by kernel_rfl⟩
theorem to40 : TyOK (40, ti40) := ⟨by kernel_rfl, by kernel_rfl⟩
theorem to41 : TyOK (41, ti41) := ⟨by kernel_rfl, by kernel_rfl⟩
theorem to42 : TyOK (42, ti42) := ⟨by kernel_rfl, by kernel_rfl⟩
theorem to43 : TyOK (43, ti43) := ⟨by kernel_rfl, by kernel_rfl⟩
theorem to44 : TyOK (44, ti44) := ⟨by kernel_rfl, by kernel_rfl⟩
theorem to45 : TyOK (45, ti45) := ⟨by kernel_rfl, by kernel_rfl⟩
theorem to46 : TyOK (46, ti46) := ⟨by kernel_rfl, by kernel_rfl⟩
theorem to47 : TyOK (47, ti47) := ⟨by kernel_rfl, by kernel_rfl⟩
theorem to48 : TyOK (48, ti48) := ⟨by kernel_rfl, by kernel_rfl⟩
theorem to49 : TyOK (49, ti49) := ⟨by kernel_rfl, by kernel_rfl⟩
theorem to50 : TyOK (50, ti50) := ⟨by kernel_rfl, by kernel_rfl⟩
theorem to51 : TyOK (51, ti51) := ⟨by kernel_rfl, by kernel_rfl⟩
theorem to52 : TyOK (52, ti52) := ⟨by kernel_rfl, by kernel_rfl⟩
theorem to53 : TyOK (53, ti53) := ⟨by kernel_rfl, by kernel_rfl⟩
theorem to54 : TyOK (54, ti54) := ⟨by kernel_rfl, by kernel_rfl⟩
theorem to55 : TyOK (55, ti55) := ⟨by kernel_rfl, by kernel_rfl⟩
theorem to56 : TyOK (56, ti56) := ⟨by kernel_rfl, by kernel_rfl⟩
theorem to57 : TyOK (57, ti57) := ⟨by kernel_rfl, by kernel_rfl⟩
theorem to58 : TyOK (58, ti58) := ⟨by kernel_rfl, by kernel_rfl⟩
theorem to59 : TyOK (59, ti59) := ⟨by kernel_rfl, by kernel_rfl⟩
theorem to60 : TyOK (60, ti60) := ⟨by kernel_rfl, by kernel_rfl⟩
theorem to61 : TyOK (61, ti61) := ⟨by kernel_rfl, by kernel_rfl⟩
theorem to62 : TyOK (62, ti62) := ⟨by kernel_rfl, by kernel_rfl⟩
theorem to63 : TyOK (63, ti63) := ⟨by kernel_rfl, by kernel_rfl⟩
theorem to64 : TyOK (64, ti64) := ⟨by kernel_rfl, by kernel_rfl⟩
theorem to65 : TyOK (65, ti65) := ⟨by kernel_rfl, by kernel_rfl⟩
theorem to66 : TyOK (66, ti66) := ⟨by kernel_rfl, by kernel_rfl⟩
theorem to67 : TyOK (67, ti67) := ⟨by kernel_rfl, by kernel_rfl⟩
theorem to68 : TyOK (68, ti68) := ⟨by kernel_rfl, by kernel_rfl⟩
theorem to69 : TyOK (69, ti69) := ⟨by kernel_rfl, by kernel_rfl⟩
theorem to70 : TyOK (70, ti70) := ⟨by kernel_rfl, by kernel_rfl⟩
theorem to71 : TyOK (71, ti71) := ⟨by kernel_rfl, by kernel_rfl⟩
theorem to72 : TyOK (72, ti72) := ⟨by kernel_rfl, by kernel_rfl⟩
theorem to73 : TyOK (73, ti73) := ⟨by kernel_rfl, by kernel_rfl⟩
theorem to74 : TyOK (74, ti74) := ⟨by kernel_rfl, by kernel_rfl⟩
theorem to75 : TyOK (75, ti75) := ⟨by kernel_rfl, by kernel_rfl⟩
theorem to76 : TyOK (76, ti76) := ⟨by kernel_rfl, by kernel_rfl⟩
theorem to77 : TyOK (77, ti77) := ⟨by kernel_rfl, by kernel_rfl⟩
theorem to78 : TyOK (78, ti78) := ⟨by kernel_rfl, by kernel_rfl⟩
theorem to79 : TyOK (79, ti79) := ⟨by kernel_rfl, by kernel_rfl⟩
theorem to80 : TyOK (80, ti80) := ⟨by kernel_rfl, by kernel_rfl⟩
theorem to81 : TyOK (81, ti81) := ⟨by kernel_rfl, by kernel_rfl⟩
theorem to82 : TyOK (82, ti82) := ⟨by kernel_rfl, by kernel_rfl⟩
theorem tyTab_ok : ∀ p ∈ tyTab, TyOK p := by
  intro p hp
  simp only [tyTab, List.mem_cons, List.not_mem_nil, or_false] at hp
  rcases hp with rfl | rfl | rfl | rfl | rfl | rfl | rfl | rfl | rfl | rfl | rfl | rfl | rfl | rfl | rfl | rfl | rfl | rfl | rfl | rfl | rfl | rfl | rfl | rfl | rfl | rfl | rfl | rfl | rfl | rfl | rfl | rfl | rfl | rfl | rfl | rfl | rfl | rfl | rfl | rfl | rfl | rfl | rfl | rfl | rfl | rfl | rfl | rfl | rfl | rfl | rfl | rfl | rfl | rfl | rfl | rfl | rfl | rfl | rfl | rfl | rfl | rfl | rfl | rfl | rfl | rfl | rfl | rfl | rfl | rfl | rfl | rfl | rfl | rfl | rfl | rfl | rfl | rfl | rfl | rfl | rfl | rfl | rfl
  · exact to0
  · exact to1
  · exact to2
  · exact to3
  · exact to4
  · exact to5
  · exact to6
  · exact to7
  · exact to8
  · exact to9
  · exact to10
  · exact to11
  · exact to12
  · exact to13
  · exact to14
  · exact to15
  · exact to16
  · exact to17
  · exact to18
  · exact to19
  · exact to20
  · exact to21
  · exact to22
  · exact to23
  · exact to24
  · exact to25
  · exact to26
  · exact to27
  · exact to28
  · exact to29
  · exact to30
  · exact to31
  · exact to32
  · exact to33
  · exact to34
  · exact to35
  · exact to36
  · exact to37
  · exact to38
  · exact to39
  · exact to40
  · exact to41
  · exact to42
  · exact to43
  · exact to44
  · exact to45
  · exact to46
  · exact to47
  · exact to48
  · exact to49
  · exact to50
  · exact to51
  · exact to52
  · exact to53
  · exact to54
  · exact to55
  · exact to56
  · exact to57
  · exact to58
  · exact to59
  · exact to60
  · exact to61
  · exact to62
  · exact to63
  · exact to64
  · exact to65
  · exact to66
  · exact to67
  · exact to68
  · exact to69
  · exact to70
  · exact to71
  · exact to72
  · exact to73
  · exact to74
  · exact to75
  · exact to76
  · exact to77
  · exact to78
  · exact to79
  · exact to80
  · exact to81
  · exact to82
def Ty : Tab Tryd.prog where
  tt := tyLook tyTab
  ok := by
    intro t i h
    obtain ⟨h1, h2⟩ := tyLook_ok tyTab tyTab_ok t i h
    refine ⟨h1, ?_⟩
    obtain ⟨I, hI, hE⟩ := Option.map_eq_some_iff.1 h2
    simp only [Prod.mk.injEq] at hE
    exact ⟨I, hI, hE.1, hE.2.1, hE.2.2.1, hE.2.2.2⟩
theorem nm3 : (Tryd.f3.name == "runtime.NumGoroutine") = false := by kernel_rfl
/-- ephemeris/ephemerislaw5.XorvCost -/
theorem in3 {ρ : Hp} {Hs : List HP} {Q : Value → HP} {args : List Value} {c : Code} (hb : Tryd.f3.body = some c) (hn : Nat.ble args.length Tryd.f3.ntmps = true) (h : W Tryd.prog Tryd.f3 ρ Q [.code c] (argEnv 0 args) Hs) : Fn Tryd.prog 3 args.toArray ρ Hs Q := Fn.of_code Tryd.func3 hb nm3 hn h
theorem nm4 : (Tryd.f4.name == "runtime.NumGoroutine") = false := by kernel_rfl
/-- ephemeris/ephemerislaw5.XorvTells -/
theorem in4 {ρ : Hp} {Hs : List HP} {Q : Value → HP} {args : List Value} {c : Code} (hb : Tryd.f4.body = some c) (hn : Nat.ble args.length Tryd.f4.ntmps = true) (h : W Tryd.prog Tryd.f4 ρ Q [.code c] (argEnv 0 args) Hs) : Fn Tryd.prog 4 args.toArray ρ Hs Q := Fn.of_code Tryd.func4 hb nm4 hn h
theorem nm5 : (Tryd.f5.name == "runtime.NumGoroutine") = false := by kernel_rfl
/-- ephemeris/ephemerislaw5.XorvBack -/
theorem in5 {ρ : Hp} {Hs : List HP} {Q : Value → HP} {args : List Value} {c : Code} (hb : Tryd.f5.body = some c) (hn : Nat.ble args.length Tryd.f5.ntmps = true) (h : W Tryd.prog Tryd.f5 ρ Q [.code c] (argEnv 0 args) Hs) : Fn Tryd.prog 5 args.toArray ρ Hs Q := Fn.of_code Tryd.func5 hb nm5 hn h
theorem nm6 : (Tryd.f6.name == "runtime.NumGoroutine") = false := by kernel_rfl
/-- ephemeris/ephemerislaw5.Values -/
theorem in6 {ρ : Hp} {Hs : List HP} {Q : Value → HP} {args : List Value} {c : Code} (hb : Tryd.f6.body = some c) (hn : Nat.ble args.length Tryd.f6.ntmps = true) (h : W Tryd.prog Tryd.f6 ρ Q [.code c] (argEnv 0 args) Hs) : Fn Tryd.prog 6 args.toArray ρ Hs Q := Fn.of_code Tryd.func6 hb nm6 hn h
theorem nm7 : (Tryd.f7.name == "runtime.NumGoroutine") = false := by kernel_rfl
/-- ephemeris/bits.NewWriter -/
theorem in7 {ρ : Hp} {Hs : List HP} {Q : Value → HP} {args : List Value} {c : Code} (hb : Tryd.f7.body = some c) (hn : Nat.ble args.length Tryd.f7.ntmps = true) (h : W Tryd.prog Tryd.f7 ρ Q [.code c] (argEnv 0 args) Hs) : Fn Tryd.prog 7 args.toArray ρ Hs Q := Fn.of_code Tryd.func7 hb nm7 hn h
theorem nm8 : (Tryd.f8.name == "runtime.NumGoroutine") = false := by kernel_rfl
/-- ephemeris/xorv.Encode -/
theorem in8 {ρ : Hp} {Hs : List HP} {Q : Value → HP} {args : List Value} {c : Code} (hb : Tryd.f8.body = some c) (hn : Nat.ble args.length Tryd.f8.ntmps = true) (h : W Tryd.prog Tryd.f8 ρ Q [.code c] (argEnv 0 args) Hs) : Fn Tryd.prog 8 args.toArray ρ Hs Q := Fn.of_code Tryd.func8 hb nm8 hn h
theorem nm9 : (Tryd.f9.name == "runtime.NumGoroutine") = false := by kernel_rfl
/-- (*ephemeris/bits.Writer).Len -/
theorem in9 {ρ : Hp} {Hs : List HP} {Q : Value → HP} {args : List Value} {c : Code} (hb : Tryd.f9.body = some c) (hn : Nat.ble args.length Tryd.f9.ntmps = true) (h : W Tryd.prog Tryd.f9 ρ Q [.code c] (argEnv 0 args) Hs) : Fn Tryd.prog 9 args.toArray ρ Hs Q := Fn.of_code Tryd.func9 hb nm9 hn h
theorem nm10 : (Tryd.f10.name == "runtime.NumGoroutine") = false := by kernel_rfl
/-- ephemeris/ephemerislaw5.awake -/
theorem in10 {ρ : Hp} {Hs : List HP} {Q : Value → HP} {args : List Value} {c : Code} (hb : Tryd.f10.body = some c) (hn : Nat.ble args.length Tryd.f10.ntmps = true) (h : W Tryd.prog Tryd.f10 ρ Q [.code c] (argEnv 0 args) Hs) : Fn Tryd.prog 10 args.toArray ρ Hs Q := Fn.of_code Tryd.func10 hb nm10 hn h
theorem nm11 : (Tryd.f11.name == "runtime.NumGoroutine") = false := by kernel_rfl
/-- ephemeris/ephemerisref4.Values -/
theorem in11 {ρ : Hp} {Hs : List HP} {Q : Value → HP} {args : List Value} {c : Code} (hb : Tryd.f11.body = some c) (hn : Nat.ble args.length Tryd.f11.ntmps = true) (h : W Tryd.prog Tryd.f11 ρ Q [.code c] (argEnv 0 args) Hs) : Fn Tryd.prog 11 args.toArray ρ Hs Q := Fn.of_code Tryd.func11 hb nm11 hn h
theorem nm12 : (Tryd.f12.name == "runtime.NumGoroutine") = false := by kernel_rfl
/-- (*ephemeris/bits.Writer).Bytes -/
theorem in12 {ρ : Hp} {Hs : List HP} {Q : Value → HP} {args : List Value} {c : Code} (hb : Tryd.f12.body = some c) (hn : Nat.ble args.length Tryd.f12.ntmps = true) (h : W Tryd.prog Tryd.f12 ρ Q [.code c] (argEnv 0 args) Hs) : Fn Tryd.prog 12 args.toArray ρ Hs Q := Fn.of_code Tryd.func12 hb nm12 hn h
theorem nm13 : (Tryd.f13.name == "runtime.NumGoroutine") = false := by kernel_rfl
/-- (*ephemeris/ephemerisref1.Writer).Bytes -/
theorem in13 {ρ : Hp} {Hs : List HP} {Q : Value → HP} {args : List Value} {c : Code} (hb : Tryd.f13.body = some c) (hn : Nat.ble args.length Tryd.f13.ntmps = true) (h : W Tryd.prog Tryd.f13 ρ Q [.code c] (argEnv 0 args) Hs) : Fn Tryd.prog 13 args.toArray ρ Hs Q := Fn.of_code Tryd.func13 hb nm13 hn h
theorem nm14 : (Tryd.f14.name == "runtime.NumGoroutine") = false := by kernel_rfl
/-- ephemeris/bits.NewReader -/
theorem in14 {ρ : Hp} {Hs : List HP} {Q : Value → HP} {args : List Value} {c : Code} (hb : Tryd.f14.body = some c) (hn : Nat.ble args.length Tryd.f14.ntmps = true) (h : W Tryd.prog Tryd.f14 ρ Q [.code c] (argEnv 0 args) Hs) : Fn Tryd.prog 14 args.toArray ρ Hs Q := Fn.of_code Tryd.func14 hb nm14 hn h
theorem nm15 : (Tryd.f15.name == "runtime.NumGoroutine") = false := by kernel_rfl
/-- ephemeris/xorv.Decode -/
theorem in15 {ρ : Hp} {Hs : List HP} {Q : Value → HP} {args : List Value} {c : Code} (hb : Tryd.f15.body = some c) (hn : Nat.ble args.length Tryd.f15.ntmps = true) (h : W Tryd.prog Tryd.f15 ρ Q [.code c] (argEnv 0 args) Hs) : Fn Tryd.prog 15 args.toArray ρ Hs Q := Fn.of_code Tryd.func15 hb nm15 hn h
theorem nm16 : (Tryd.f16.name == "runtime.NumGoroutine") = false := by kernel_rfl
/-- ephemeris/ephemerisref4.GetValues -/
theorem in16 {ρ : Hp} {Hs : List HP} {Q : Value → HP} {args : List Value} {c : Code} (hb : Tryd.f16.body = some c) (hn : Nat.ble args.length Tryd.f16.ntmps = true) (h : W Tryd.prog Tryd.f16 ρ Q [.code c] (argEnv 0 args) Hs) : Fn Tryd.prog 16 args.toArray ρ Hs Q := Fn.of_code Tryd.func16 hb nm16 hn h
theorem nm17 : (Tryd.f17.name == "runtime.NumGoroutine") = false := by kernel_rfl
/-- ephemeris/ephemerisref1.SameWords -/
theorem in17 {ρ : Hp} {Hs : List HP} {Q : Value → HP} {args : List Value} {c : Code} (hb : Tryd.f17.body = some c) (hn : Nat.ble args.length Tryd.f17.ntmps = true) (h : W Tryd.prog Tryd.f17 ρ Q [.code c] (argEnv 0 args) Hs) : Fn Tryd.prog 17 args.toArray ρ Hs Q := Fn.of_code Tryd.func17 hb nm17 hn h
theorem nm18 : (Tryd.f18.name == "runtime.NumGoroutine") = false := by kernel_rfl
/-- (*ephemeris/bits.Reader).Left -/
theorem in18 {ρ : Hp} {Hs : List HP} {Q : Value → HP} {args : List Value} {c : Code} (hb : Tryd.f18.body = some c) (hn : Nat.ble args.length Tryd.f18.ntmps = true) (h : W Tryd.prog Tryd.f18 ρ Q [.code c] (argEnv 0 args) Hs) : Fn Tryd.prog 18 args.toArray ρ Hs Q := Fn.of_code Tryd.func18 hb nm18 hn h
theorem nm19 : (Tryd.f19.name == "runtime.NumGoroutine") = false := by kernel_rfl
/-- (*ephemeris/ephemerisref1.Reader).Left -/
theorem in19 {ρ : Hp} {Hs : List HP} {Q : Value → HP} {args : List Value} {c : Code} (hb : Tryd.f19.body = some c) (hn : Nat.ble args.length Tryd.f19.ntmps = true) (h : W Tryd.prog Tryd.f19 ρ Q [.code c] (argEnv 0 args) Hs) : Fn Tryd.prog 19 args.toArray ρ Hs Q := Fn.of_code Tryd.func19 hb nm19 hn h
theorem nm20 : (Tryd.f20.name == "runtime.NumGoroutine") = false := by kernel_rfl
/-- (*ephemeris/bits.Writer).Put -/
theorem in20 {ρ : Hp} {Hs : List HP} {Q : Value → HP} {args : List Value} {c : Code} (hb : Tryd.f20.body = some c) (hn : Nat.ble args.length Tryd.f20.ntmps = true) (h : W Tryd.prog Tryd.f20 ρ Q [.code c] (argEnv 0 args) Hs) : Fn Tryd.prog 20 args.toArray ρ Hs Q := Fn.of_code Tryd.func20 hb nm20 hn h
theorem nm21 : (Tryd.f21.name == "runtime.NumGoroutine") = false := by kernel_rfl
/-- (*ephemeris/bits.Reader).Get -/
theorem in21 {ρ : Hp} {Hs : List HP} {Q : Value → HP} {args : List Value} {c : Code} (hb : Tryd.f21.body = some c) (hn : Nat.ble args.length Tryd.f21.ntmps = true) (h : W Tryd.prog Tryd.f21 ρ Q [.code c] (argEnv 0 args) Hs) : Fn Tryd.prog 21 args.toArray ρ Hs Q := Fn.of_code Tryd.func21 hb nm21 hn h
theorem nm22 : (Tryd.f22.name == "runtime.NumGoroutine") = false := by kernel_rfl
/-- (ephemeris/xorv.window).fits -/
theorem in22 {ρ : Hp} {Hs : List HP} {Q : Value → HP} {args : List Value} {c : Code} (hb : Tryd.f22.body = some c) (hn : Nat.ble args.length Tryd.f22.ntmps = true) (h : W Tryd.prog Tryd.f22 ρ Q [.code c] (argEnv 0 args) Hs) : Fn Tryd.prog 22 args.toArray ρ Hs Q := Fn.of_code Tryd.func22 hb nm22 hn h
theorem nm23 : (Tryd.f23.name == "runtime.NumGoroutine") = false := by kernel_rfl
/-- ephemeris/xorv.of -/
theorem in23 {ρ : Hp} {Hs : List HP} {Q : Value → HP} {args : List Value} {c : Code} (hb : Tryd.f23.body = some c) (hn : Nat.ble args.length Tryd.f23.ntmps = true) (h : W Tryd.prog Tryd.f23 ρ Q [.code c] (argEnv 0 args) Hs) : Fn Tryd.prog 23 args.toArray ρ Hs Q := Fn.of_code Tryd.func23 hb nm23 hn h
theorem nm24 : (Tryd.f24.name == "runtime.NumGoroutine") = false := by kernel_rfl
/-- (ephemeris/xorv.window).long -/
theorem in24 {ρ : Hp} {Hs : List HP} {Q : Value → HP} {args : List Value} {c : Code} (hb : Tryd.f24.body = some c) (hn : Nat.ble args.length Tryd.f24.ntmps = true) (h : W Tryd.prog Tryd.f24 ρ Q [.code c] (argEnv 0 args) Hs) : Fn Tryd.prog 24 args.toArray ρ Hs Q := Fn.of_code Tryd.func24 hb nm24 hn h
theorem nm25 : (Tryd.f25.name == "runtime.NumGoroutine") = false := by kernel_rfl
/-- (*ephemeris/ephemerisref1.Writer).Put -/
theorem in25 {ρ : Hp} {Hs : List HP} {Q : Value → HP} {args : List Value} {c : Code} (hb : Tryd.f25.body = some c) (hn : Nat.ble args.length Tryd.f25.ntmps = true) (h : W Tryd.prog Tryd.f25 ρ Q [.code c] (argEnv 0 args) Hs) : Fn Tryd.prog 25 args.toArray ρ Hs Q := Fn.of_code Tryd.func25 hb nm25 hn h
theorem nm26 : (Tryd.f26.name == "runtime.NumGoroutine") = false := by kernel_rfl
/-- ephemeris/ephemerisref4.ahead -/
theorem in26 {ρ : Hp} {Hs : List HP} {Q : Value → HP} {args : List Value} {c : Code} (hb : Tryd.f26.body = some c) (hn : Nat.ble args.length Tryd.f26.ntmps = true) (h : W Tryd.prog Tryd.f26 ρ Q [.code c] (argEnv 0 args) Hs) : Fn Tryd.prog 26 args.toArray ρ Hs Q := Fn.of_code Tryd.func26 hb nm26 hn h
theorem nm27 : (Tryd.f27.name == "runtime.NumGoroutine") = false := by kernel_rfl
/-- ephemeris/ephemerisref4.behind -/
theorem in27 {ρ : Hp} {Hs : List HP} {Q : Value → HP} {args : List Value} {c : Code} (hb : Tryd.f27.body = some c) (hn : Nat.ble args.length Tryd.f27.ntmps = true) (h : W Tryd.prog Tryd.f27 ρ Q [.code c] (argEnv 0 args) Hs) : Fn Tryd.prog 27 args.toArray ρ Hs Q := Fn.of_code Tryd.func27 hb nm27 hn h
theorem nm28 : (Tryd.f28.name == "runtime.NumGoroutine") = false := by kernel_rfl
/-- slices.Clone[[]byte,byte] -/
theorem in28 {ρ : Hp} {Hs : List HP} {Q : Value → HP} {args : List Value} {c : Code} (hb : Tryd.f28.body = some c) (hn : Nat.ble args.length Tryd.f28.ntmps = true) (h : W Tryd.prog Tryd.f28 ρ Q [.code c] (argEnv 0 args) Hs) : Fn Tryd.prog 28 args.toArray ρ Hs Q := Fn.of_code Tryd.func28 hb nm28 hn h
theorem nm29 : (Tryd.f29.name == "runtime.NumGoroutine") = false := by kernel_rfl
/-- ephemeris/xorv.turn -/
theorem in29 {ρ : Hp} {Hs : List HP} {Q : Value → HP} {args : List Value} {c : Code} (hb : Tryd.f29.body = some c) (hn : Nat.ble args.length Tryd.f29.ntmps = true) (h : W Tryd.prog Tryd.f29 ρ Q [.code c] (argEnv 0 args) Hs) : Fn Tryd.prog 29 args.toArray ρ Hs Q := Fn.of_code Tryd.func29 hb nm29 hn h
theorem nm30 : (Tryd.f30.name == "runtime.NumGoroutine") = false := by kernel_rfl
/-- (*ephemeris/bits.Reader).Ok -/
theorem in30 {ρ : Hp} {Hs : List HP} {Q : Value → HP} {args : List Value} {c : Code} (hb : Tryd.f30.body = some c) (hn : Nat.ble args.length Tryd.f30.ntmps = true) (h : W Tryd.prog Tryd.f30 ρ Q [.code c] (argEnv 0 args) Hs) : Fn Tryd.prog 30 args.toArray ρ Hs Q := Fn.of_code Tryd.func30 hb nm30 hn h
theorem nm31 : (Tryd.f31.name == "runtime.NumGoroutine") = false := by kernel_rfl
/-- ephemeris/ephemerisref4.held -/
theorem in31 {ρ : Hp} {Hs : List HP} {Q : Value → HP} {args : List Value} {c : Code} (hb : Tryd.f31.body = some c) (hn : Nat.ble args.length Tryd.f31.ntmps = true) (h : W Tryd.prog Tryd.f31 ρ Q [.code c] (argEnv 0 args) Hs) : Fn Tryd.prog 31 args.toArray ρ Hs Q := Fn.of_code Tryd.func31 hb nm31 hn h
theorem nm32 : (Tryd.f32.name == "runtime.NumGoroutine") = false := by kernel_rfl
/-- (*ephemeris/ephemerisref1.Reader).Get -/
theorem in32 {ρ : Hp} {Hs : List HP} {Q : Value → HP} {args : List Value} {c : Code} (hb : Tryd.f32.body = some c) (hn : Nat.ble args.length Tryd.f32.ntmps = true) (h : W Tryd.prog Tryd.f32 ρ Q [.code c] (argEnv 0 args) Hs) : Fn Tryd.prog 32 args.toArray ρ Hs Q := Fn.of_code Tryd.func32 hb nm32 hn h
theorem nm33 : (Tryd.f33.name == "runtime.NumGoroutine") = false := by kernel_rfl
/-- ephemeris/bits.held -/
theorem in33 {ρ : Hp} {Hs : List HP} {Q : Value → HP} {args : List Value} {c : Code} (hb : Tryd.f33.body = some c) (hn : Nat.ble args.length Tryd.f33.ntmps = true) (h : W Tryd.prog Tryd.f33 ρ Q [.code c] (argEnv 0 args) Hs) : Fn Tryd.prog 33 args.toArray ρ Hs Q := Fn.of_code Tryd.func33 hb nm33 hn h
theorem nm34 : (Tryd.f34.name == "runtime.NumGoroutine") = false := by kernel_rfl
/-- math/bits.LeadingZeros64 -/
theorem in34 {ρ : Hp} {Hs : List HP} {Q : Value → HP} {args : List Value} {c : Code} (hb : Tryd.f34.body = some c) (hn : Nat.ble args.length Tryd.f34.ntmps = true) (h : W Tryd.prog Tryd.f34 ρ Q [.code c] (argEnv 0 args) Hs) : Fn Tryd.prog 34 args.toArray ρ Hs Q := Fn.of_code Tryd.func34 hb nm34 hn h
theorem nm35 : (Tryd.f35.name == "runtime.NumGoroutine") = false := by kernel_rfl
/-- math/bits.TrailingZeros64 -/
theorem in35 {ρ : Hp} {Hs : List HP} {Q : Value → HP} {args : List Value} {c : Code} (hb : Tryd.f35.body = some c) (hn : Nat.ble args.length Tryd.f35.ntmps = true) (h : W Tryd.prog Tryd.f35 ρ Q [.code c] (argEnv 0 args) Hs) : Fn Tryd.prog 35 args.toArray ρ Hs Q := Fn.of_code Tryd.func35 hb nm35 hn h
theorem nm36 : (Tryd.f36.name == "runtime.NumGoroutine") = false := by kernel_rfl
/-- math/bits.Len64 -/
theorem in36 {ρ : Hp} {Hs : List HP} {Q : Value → HP} {args : List Value} {c : Code} (hb : Tryd.f36.body = some c) (hn : Nat.ble args.length Tryd.f36.ntmps = true) (h : W Tryd.prog Tryd.f36 ρ Q [.code c] (argEnv 0 args) Hs) : Fn Tryd.prog 36 args.toArray ρ Hs Q := Fn.of_code Tryd.func36 hb nm36 hn h
theorem nm53 : (Tryd.f53.name == "runtime.NumGoroutine") = false := by kernel_rfl
/-- var's door: gosem.cut.vars holds initialisers alone; see the manifest's row cutvarsword (look 11, test files too) -/
theorem in53 {ρ : Hp} {Hs : List HP} {Q : Value → HP} {args : List Value} {c : Code} (hb : Tryd.f53.body = some c) (hn : Nat.ble args.length Tryd.f53.ntmps = true) (h : W Tryd.prog Tryd.f53 ρ Q [.code c] (argEnv 0 args) Hs) : Fn Tryd.prog 53 args.toArray ρ Hs Q := Fn.of_code Tryd.func53 hb nm53 hn h
theorem nm54 : (Tryd.f54.name == "runtime.NumGoroutine") = false := by kernel_rfl
/-- var's door: math/bits.deBruijn64tab is laid by its own initialiser, plain data (look 11) -/
theorem in54 {ρ : Hp} {Hs : List HP} {Q : Value → HP} {args : List Value} {c : Code} (hb : Tryd.f54.body = some c) (hn : Nat.ble args.length Tryd.f54.ntmps = true) (h : W Tryd.prog Tryd.f54 ρ Q [.code c] (argEnv 0 args) Hs) : Fn Tryd.prog 54 args.toArray ρ Hs Q := Fn.of_code Tryd.func54 hb nm54 hn h
theorem nm55 : (Tryd.f55.name == "runtime.NumGoroutine") = false := by kernel_rfl
/-- var's door: the look of gosem.cut.vars went over the folder that the caller named as the repository's root (look 11) -/
theorem in55 {ρ : Hp} {Hs : List HP} {Q : Value → HP} {args : List Value} {c : Code} (hb : Tryd.f55.body = some c) (hn : Nat.ble args.length Tryd.f55.ntmps = true) (h : W Tryd.prog Tryd.f55 ρ Q [.code c] (argEnv 0 args) Hs) : Fn Tryd.prog 55 args.toArray ρ Hs Q := Fn.of_code Tryd.func55 hb nm55 hn h
theorem nm56 : (Tryd.f56.name == "runtime.NumGoroutine") = false := by kernel_rfl
/-- gosem.cut.vars -/
theorem in56 {ρ : Hp} {Hs : List HP} {Q : Value → HP} {args : List Value} {c : Code} (hb : Tryd.f56.body = some c) (hn : Nat.ble args.length Tryd.f56.ntmps = true) (h : W Tryd.prog Tryd.f56 ρ Q [.code c] (argEnv 0 args) Hs) : Fn Tryd.prog 56 args.toArray ρ Hs Q := Fn.of_code Tryd.func56 hb nm56 hn h
end Go.Proofs.YtjibmfkhhljhcaaDoor
