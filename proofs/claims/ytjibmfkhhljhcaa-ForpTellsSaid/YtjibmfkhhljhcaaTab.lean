/- The types and functions of this translation, as the rules look them up. Written by wip/tab.py out of the translation's own rows. -/
import Derived.Test.YtjibmfkhhljhcaaMem
import Derived.Test.YtjibmfkhhljhcaaProg
import Derived.KernelRfl
set_option linter.unusedVariables false
namespace Go.Proofs.Ytjibmfkhhljhcaa
open Go
def ti0 : TyI := ⟨.tuple #[], 1, 0, .tuple #[], false⟩
def ti1 : TyI := ⟨.func #[] #[] false, 1, 8, .nilFunc, false⟩
def ti2 : TyI := ⟨.int .i64, 1, 8, .int .i64 0, true⟩
def ti3 : TyI := ⟨.int .i64, 1, 8, .int .i64 0, true⟩
def ti4 : TyI := ⟨.bool, 1, 1, .bool false, true⟩
def ti5 : TyI := ⟨.int .u8, 1, 1, .int .u8 0, true⟩
def ti6 : TyI := ⟨.int .u8, 1, 1, .int .u8 0, true⟩
def ti7 : TyI := ⟨.struct #[⟨ "x", 2, 0, false, "", "runtime", 0⟩, ⟨ "y", 3, 1, false, "", "runtime", 8⟩, ⟨ "signed", 4, 2, false, "", "runtime", 16⟩, ⟨ "code", 6, 3, false, "", "runtime", 17⟩], 4, 24, .agg #[.int .i64 0, .int .i64 0, .bool false, .int .u8 0], true⟩
def ti8 : TyI := ⟨.struct #[⟨ "x", 2, 0, false, "", "runtime", 0⟩, ⟨ "y", 3, 1, false, "", "runtime", 8⟩, ⟨ "signed", 4, 2, false, "", "runtime", 16⟩, ⟨ "code", 6, 3, false, "", "runtime", 17⟩], 4, 24, .agg #[.int .i64 0, .int .i64 0, .bool false, .int .u8 0], true⟩
def ti9 : TyI := ⟨.string, 1, 16, .string ByteArray.empty, true⟩
def ti10 : TyI := ⟨.string, 1, 16, .string ByteArray.empty, true⟩
def ti11 : TyI := ⟨.string, 1, 16, .string ByteArray.empty, true⟩
def ti12 : TyI := ⟨.int .u64, 1, 8, .int .u64 0, true⟩
def ti13 : TyI := ⟨.struct #[⟨ "msg", 9, 0, false, "", "runtime", 0⟩, ⟨ "addr", 12, 1, false, "", "runtime", 16⟩], 2, 24, .agg #[.string ByteArray.empty, .int .u64 0], true⟩
def ti14 : TyI := ⟨.struct #[⟨ "msg", 9, 0, false, "", "runtime", 0⟩, ⟨ "addr", 12, 1, false, "", "runtime", 16⟩], 2, 24, .agg #[.string ByteArray.empty, .int .u64 0], true⟩
def ti15 : TyI := ⟨.pointer 86, 1, 8, .pointer none, true⟩
def ti16 : TyI := ⟨.pointer 89, 1, 8, .pointer none, true⟩
def ti17 : TyI := ⟨.pointer 97, 1, 8, .pointer none, true⟩
def ti18 : TyI := ⟨.struct #[⟨ "typ", 17, 0, false, "", "internal/runtime/maps", 0⟩], 1, 8, .agg #[.pointer none], true⟩
def ti19 : TyI := ⟨.struct #[⟨ "typ", 17, 0, false, "", "internal/runtime/maps", 0⟩], 1, 8, .agg #[.pointer none], true⟩
def ti20 : TyI := ⟨.interface #[], 1, 16, .nilIface, true⟩
def ti21 : TyI := ⟨.int .i32, 1, 4, .int .i32 0, true⟩
def ti22 : TyI := ⟨.struct #[⟨ "b", 9, 0, false, "", "ephemeris/ephemerislaw8", 0⟩, ⟨ "n", 3, 1, false, "", "ephemeris/ephemerislaw8", 16⟩, ⟨ "ok", 4, 2, false, "", "ephemeris/ephemerislaw8", 24⟩], 3, 32, .agg #[.string ByteArray.empty, .int .i64 0, .bool false], true⟩
def ti23 : TyI := ⟨.slice 22, 1, 24, .slice none 0 0, false⟩
def ti24 : TyI := ⟨.slice 31, 1, 24, .slice none 0 0, false⟩
def ti25 : TyI := ⟨.tuple #[24, 4], 1, 0, .tuple #[.slice none 0 0, .bool false], false⟩
def ti26 : TyI := ⟨.func #[27, 3] #[24, 4] false, 1, 8, .nilFunc, false⟩
def ti27 : TyI := ⟨.slice 5, 1, 24, .slice none 0 0, false⟩
def ti28 : TyI := ⟨.func #[24] #[27] false, 1, 8, .nilFunc, false⟩
def ti29 : TyI := ⟨.func #[] #[4] false, 1, 8, .nilFunc, false⟩
def ti30 : TyI := ⟨.func #[3] #[4] false, 1, 8, .nilFunc, false⟩
def ti31 : TyI := ⟨.int .u64, 1, 8, .int .u64 0, true⟩
def ti32 : TyI := ⟨.int .u64, 1, 8, .int .u64 0, true⟩
def ti33 : TyI := ⟨.func #[24, 24] #[4] false, 1, 8, .nilFunc, false⟩
def ti34 : TyI := ⟨.tuple #[31, 3], 1, 0, .tuple #[.int .u64 0, .int .i64 0], false⟩
def ti35 : TyI := ⟨.func #[27] #[31, 3] false, 1, 8, .nilFunc, false⟩
def ti36 : TyI := ⟨.func #[24, 31] #[4] false, 1, 8, .nilFunc, false⟩
def ti37 : TyI := ⟨.func #[24, 3] #[24] false, 1, 8, .nilFunc, false⟩
def ti38 : TyI := ⟨.slice 27, 1, 24, .slice none 0 0, false⟩
def ti39 : TyI := ⟨.slice 3, 1, 24, .slice none 0 0, false⟩
def ti40 : TyI := ⟨.func #[24, 3, 27, 3, 5, 3] #[4] false, 1, 8, .nilFunc, false⟩
def ti41 : TyI := ⟨.func #[24, 3] #[4] false, 1, 8, .nilFunc, false⟩
def ti42 : TyI := ⟨.struct #[⟨ "b", 9, 0, false, "", "ephemeris/ephemerislaw9", 0⟩, ⟨ "n", 3, 1, false, "", "ephemeris/ephemerislaw9", 16⟩, ⟨ "ok", 4, 2, false, "", "ephemeris/ephemerislaw9", 24⟩], 3, 32, .agg #[.string ByteArray.empty, .int .i64 0, .bool false], true⟩
def ti43 : TyI := ⟨.slice 42, 1, 24, .slice none 0 0, false⟩
def ti44 : TyI := ⟨.tuple #[27, 4], 1, 0, .tuple #[.slice none 0 0, .bool false], false⟩
def ti45 : TyI := ⟨.func #[24] #[27, 4] false, 1, 8, .nilFunc, false⟩
def ti46 : TyI := ⟨.func #[27, 31] #[27] false, 1, 8, .nilFunc, false⟩
def ti47 : TyI := ⟨.func #[3, 3] #[4] false, 1, 8, .nilFunc, false⟩
def ti48 : TyI := ⟨.func #[5] #[31] false, 1, 8, .nilFunc, false⟩
def ti49 : TyI := ⟨.pointer 71, 1, 8, .pointer none, true⟩
def ti50 : TyI := ⟨.func #[27] #[49] false, 1, 8, .nilFunc, false⟩
def ti51 : TyI := ⟨.func #[3] #[31] false, 1, 8, .nilFunc, false⟩
def ti52 : TyI := ⟨.func #[27, 27] #[4] false, 1, 8, .nilFunc, false⟩
def ti53 : TyI := ⟨.func #[24] #[31] false, 1, 8, .nilFunc, false⟩
def ti54 : TyI := ⟨.func #[31] #[3] false, 1, 8, .nilFunc, false⟩
def ti55 : TyI := ⟨.pointer 74, 1, 8, .pointer none, true⟩
def ti56 : TyI := ⟨.func #[] #[55] false, 1, 8, .nilFunc, false⟩
def ti57 : TyI := ⟨.func #[31, 3] #[] false, 1, 8, .nilFunc, false⟩
def ti58 : TyI := ⟨.func #[] #[27] false, 1, 8, .nilFunc, false⟩
def ti59 : TyI := ⟨.func #[27, 24, 3] #[27] false, 1, 8, .nilFunc, false⟩
def ti60 : TyI := ⟨.func #[3] #[3] false, 1, 8, .nilFunc, false⟩
def ti61 : TyI := ⟨.func #[27, 3, 3] #[24] false, 1, 8, .nilFunc, false⟩
def ti62 : TyI := ⟨.tuple #[24, 27, 4], 1, 0, .tuple #[.slice none 0 0, .slice none 0 0, .bool false], false⟩
def ti63 : TyI := ⟨.func #[27] #[24, 27, 4] false, 1, 8, .nilFunc, false⟩
def ti64 : TyI := ⟨.func #[32] #[3] false, 1, 8, .nilFunc, false⟩
def ti65 : TyI := ⟨.map 31 3, 1, 8, .map none, false⟩
def ti66 : TyI := ⟨.tuple #[24, 65, 4], 1, 0, .tuple #[.slice none 0 0, .map none, .bool false], false⟩
def ti67 : TyI := ⟨.func #[24] #[24, 65, 4] false, 1, 8, .nilFunc, false⟩
def ti68 : TyI := ⟨.func #[24, 31] #[3] false, 1, 8, .nilFunc, false⟩
def ti69 : TyI := ⟨.func #[27] #[27] false, 1, 8, .nilFunc, false⟩
def ti70 : TyI := ⟨.struct #[⟨ "b", 27, 0, false, "", "ephemeris/bits", 0⟩, ⟨ "at", 3, 1, false, "", "ephemeris/bits", 24⟩, ⟨ "bad", 4, 2, false, "", "ephemeris/bits", 32⟩], 3, 40, .agg #[.slice none 0 0, .int .i64 0, .bool false], false⟩
def ti71 : TyI := ⟨.struct #[⟨ "b", 27, 0, false, "", "ephemeris/bits", 0⟩, ⟨ "at", 3, 1, false, "", "ephemeris/bits", 24⟩, ⟨ "bad", 4, 2, false, "", "ephemeris/bits", 32⟩], 3, 40, .agg #[.slice none 0 0, .int .i64 0, .bool false], false⟩
def ti72 : TyI := ⟨.func #[] #[3] false, 1, 8, .nilFunc, false⟩
def ti73 : TyI := ⟨.struct #[⟨ "b", 27, 0, false, "", "ephemeris/bits", 0⟩, ⟨ "n", 3, 1, false, "", "ephemeris/bits", 24⟩], 2, 32, .agg #[.slice none 0 0, .int .i64 0], false⟩
def ti74 : TyI := ⟨.struct #[⟨ "b", 27, 0, false, "", "ephemeris/bits", 0⟩, ⟨ "n", 3, 1, false, "", "ephemeris/bits", 24⟩], 2, 32, .agg #[.slice none 0 0, .int .i64 0], false⟩
def ti75 : TyI := ⟨.pointer 77, 1, 8, .pointer none, true⟩
def ti76 : TyI := ⟨.struct #[⟨ "L", 27, 0, false, "", "", 0⟩], 1, 24, .agg #[.slice none 0 0], false⟩
def ti77 : TyI := ⟨.struct #[⟨ "L", 27, 0, false, "", "", 0⟩], 1, 24, .agg #[.slice none 0 0], false⟩
def ti78 : TyI := ⟨.pointer 80, 1, 8, .pointer none, true⟩
def ti79 : TyI := ⟨.struct #[⟨ "B", 27, 0, false, "", "", 0⟩, ⟨ "At", 3, 1, false, "", "", 24⟩, ⟨ "Bad", 4, 2, false, "", "", 32⟩], 3, 40, .agg #[.slice none 0 0, .int .i64 0, .bool false], false⟩
def ti80 : TyI := ⟨.struct #[⟨ "B", 27, 0, false, "", "", 0⟩, ⟨ "At", 3, 1, false, "", "", 24⟩, ⟨ "Bad", 4, 2, false, "", "", 32⟩], 3, 40, .agg #[.slice none 0 0, .int .i64 0, .bool false], false⟩
def ti81 : TyI := ⟨.func #[82] #[3] false, 1, 8, .nilFunc, false⟩
def ti82 : TyI := ⟨.int .u32, 1, 4, .int .u32 0, true⟩
def ti83 : TyI := ⟨.tuple #[3, 4], 1, 0, .tuple #[.int .i64 0, .bool false], false⟩
def ti84 : TyI := ⟨.func #[] #[9] false, 1, 8, .nilFunc, false⟩
def ti85 : TyI := ⟨.struct #[⟨ "_interface", 17, 0, false, "", "runtime", 0⟩, ⟨ "concrete", 17, 1, false, "", "runtime", 8⟩, ⟨ "asserted", 17, 2, false, "", "runtime", 16⟩, ⟨ "missingMethod", 9, 3, false, "", "runtime", 24⟩], 4, 40, .agg #[.pointer none, .pointer none, .pointer none, .string ByteArray.empty], true⟩
def ti86 : TyI := ⟨.struct #[⟨ "_interface", 17, 0, false, "", "runtime", 0⟩, ⟨ "concrete", 17, 1, false, "", "runtime", 8⟩, ⟨ "asserted", 17, 2, false, "", "runtime", 16⟩, ⟨ "missingMethod", 9, 3, false, "", "runtime", 24⟩], 4, 40, .agg #[.pointer none, .pointer none, .pointer none, .string ByteArray.empty], true⟩
def ti87 : TyI := ⟨.array 0 16, 0, 0, .agg #[], true⟩
def ti88 : TyI := ⟨.struct #[⟨ "_", 87, 0, false, "", "runtime", 0⟩], 0, 0, .agg #[], true⟩
def ti89 : TyI := ⟨.struct #[⟨ "_", 87, 0, false, "", "runtime", 0⟩], 0, 0, .agg #[], true⟩
def ti90 : TyI := ⟨.int .u8, 1, 1, .int .u8 0, true⟩
def ti91 : TyI := ⟨.int .u8, 1, 1, .int .u8 0, true⟩
def ti92 : TyI := ⟨.func #[98, 98] #[4] false, 1, 8, .nilFunc, false⟩
def ti93 : TyI := ⟨.pointer 5, 1, 8, .pointer none, true⟩
def ti94 : TyI := ⟨.int .i32, 1, 4, .int .i32 0, true⟩
def ti95 : TyI := ⟨.int .i32, 1, 4, .int .i32 0, true⟩
def ti96 : TyI := ⟨.struct #[⟨ "Size_", 12, 0, false, "", "", 0⟩, ⟨ "PtrBytes", 12, 1, false, "", "", 8⟩, ⟨ "Hash", 82, 2, false, "", "", 16⟩, ⟨ "TFlag", 90, 3, false, "", "", 20⟩, ⟨ "Align_", 5, 4, false, "", "", 21⟩, ⟨ "FieldAlign_", 5, 5, false, "", "", 22⟩, ⟨ "Kind_", 91, 6, false, "", "", 23⟩, ⟨ "Equal", 92, 7, false, "", "", 24⟩, ⟨ "GCData", 93, 8, false, "", "", 32⟩, ⟨ "Str", 94, 9, false, "", "", 40⟩, ⟨ "PtrToThis", 95, 10, false, "", "", 44⟩], 11, 48, .agg #[.int .u64 0, .int .u64 0, .int .u32 0, .int .u8 0, .int .u8 0, .int .u8 0, .int .u8 0, .nilFunc, .pointer none, .int .i32 0, .int .i32 0], false⟩
def ti97 : TyI := ⟨.struct #[⟨ "Size_", 12, 0, false, "", "", 0⟩, ⟨ "PtrBytes", 12, 1, false, "", "", 8⟩, ⟨ "Hash", 82, 2, false, "", "", 16⟩, ⟨ "TFlag", 90, 3, false, "", "", 20⟩, ⟨ "Align_", 5, 4, false, "", "", 21⟩, ⟨ "FieldAlign_", 5, 5, false, "", "", 22⟩, ⟨ "Kind_", 91, 6, false, "", "", 23⟩, ⟨ "Equal", 92, 7, false, "", "", 24⟩, ⟨ "GCData", 93, 8, false, "", "", 32⟩, ⟨ "Str", 94, 9, false, "", "", 40⟩, ⟨ "PtrToThis", 95, 10, false, "", "", 44⟩], 11, 48, .agg #[.int .u64 0, .int .u64 0, .int .u32 0, .int .u8 0, .int .u8 0, .int .u8 0, .int .u8 0, .nilFunc, .pointer none, .int .i32 0, .int .i32 0], false⟩
def tyTab : List (Nat × TyI) := [(0, ti0), (1, ti1), (2, ti2), (3, ti3), (4, ti4), (5, ti5), (6, ti6), (7, ti7), (8, ti8), (9, ti9), (10, ti10), (11, ti11), (12, ti12), (13, ti13), (14, ti14), (15, ti15), (16, ti16), (17, ti17), (18, ti18), (19, ti19), (20, ti20), (21, ti21), (22, ti22), (23, ti23), (24, ti24), (25, ti25), (26, ti26), (27, ti27), (28, ti28), (29, ti29), (30, ti30), (31, ti31), (32, ti32), (33, ti33), (34, ti34), (35, ti35), (36, ti36), (37, ti37), (38, ti38), (39, ti39), (40, ti40), (41, ti41), (42, ti42), (43, ti43), (44, ti44), (45, ti45), (46, ti46), (47, ti47), (48, ti48), (49, ti49), (50, ti50), (51, ti51), (52, ti52), (53, ti53), (54, ti54), (55, ti55), (56, ti56), (57, ti57), (58, ti58), (59, ti59), (60, ti60), (61, ti61), (62, ti62), (63, ti63), (64, ti64), (65, ti65), (66, ti66), (67, ti67), (68, ti68), (69, ti69), (70, ti70), (71, ti71), (72, ti72), (73, ti73), (74, ti74), (75, ti75), (76, ti76), (77, ti77), (78, ti78), (79, ti79), (80, ti80), (81, ti81), (82, ti82), (83, ti83), (84, ti84), (85, ti85), (86, ti86), (87, ti87), (88, ti88), (89, ti89), (90, ti90), (91, ti91), (92, ti92), (93, ti93), (94, ti94), (95, ti95), (96, ti96), (97, ti97)]
def tyLook : List (Nat × TyI) → Nat → Option TyI
  | [], _ => none
  | (s, i) :: l, t => bif Nat.beq s t then some i else tyLook l t
def TyOK (p : Nat × TyI) : Prop := Try.prog.underlying p.1 = some p.2.desc ∧ (Try.prog.info? p.1).map (fun i => (i.size, i.bytes, i.zero, i.comparable)) = some (p.2.size, p.2.bytes, some p.2.zero, p.2.comparable)
theorem tyLook_ok (l : List (Nat × TyI)) (h : ∀ p ∈ l, TyOK p) (t : Nat) (i : TyI) (e : tyLook l t = some i) : TyOK (t, i) := by
  induction l with
  | nil => cases e
  | cons p l ih =>
    simp only [tyLook] at e
    cases hb : Nat.beq p.1 t with
    | true =>
      have := Nat.eq_of_beq_eq_true hb
      simp [hb] at e
      subst e; subst this
      exact h p (by simp)
    | false =>
      simp [hb] at e
      exact ih (fun q hq => h q (by simp [hq])) e
theorem to0 : TyOK (0, ti0) := ⟨by kernel_rfl, by kernel_rfl⟩
theorem to1 : TyOK (1, ti1) := ⟨by kernel_rfl, by kernel_rfl⟩
theorem to2 : TyOK (2, ti2) := ⟨by kernel_rfl, by kernel_rfl⟩
theorem to3 : TyOK (3, ti3) := ⟨by kernel_rfl, by kernel_rfl⟩
theorem to4 : TyOK (4, ti4) := ⟨by kernel_rfl, by kernel_rfl⟩
theorem to5 : TyOK (5, ti5) := ⟨by kernel_rfl, by kernel_rfl⟩
theorem to6 : TyOK (6, ti6) := ⟨by kernel_rfl, by kernel_rfl⟩
theorem to7 : TyOK (7, ti7) := ⟨by kernel_rfl, by kernel_rfl⟩
theorem to8 : TyOK (8, ti8) := ⟨by kernel_rfl, by kernel_rfl⟩
theorem to9 : TyOK (9, ti9) := ⟨by kernel_rfl, by kernel_rfl⟩
theorem to10 : TyOK (10, ti10) := ⟨by kernel_rfl, by kernel_rfl⟩
theorem to11 : TyOK (11, ti11) := ⟨by kernel_rfl, by kernel_rfl⟩
theorem to12 : TyOK (12, ti12) := ⟨by kernel_rfl, by kernel_rfl⟩
theorem to13 : TyOK (13, ti13) := ⟨by kernel_rfl, by kernel_rfl⟩
theorem to14 : TyOK (14, ti14) := ⟨by kernel_rfl, by kernel_rfl⟩
theorem to15 : TyOK (15, ti15) := ⟨by kernel_rfl, by kernel_rfl⟩
theorem to16 : TyOK (16, ti16) := ⟨by kernel_rfl, by kernel_rfl⟩
theorem to17 : TyOK (17, ti17) := ⟨by kernel_rfl, by kernel_rfl⟩
theorem to18 : TyOK (18, ti18) := ⟨by kernel_rfl, by kernel_rfl⟩
theorem to19 : TyOK (19, ti19) := ⟨by kernel_rfl, by kernel_rfl⟩
theorem to20 : TyOK (20, ti20) := ⟨by kernel_rfl, by kernel_rfl⟩
theorem to21 : TyOK (21, ti21) := ⟨by kernel_rfl, by kernel_rfl⟩
theorem to22 : TyOK (22, ti22) := ⟨by kernel_rfl, by kernel_rfl⟩
theorem to23 : TyOK (23, ti23) := ⟨by kernel_rfl, by kernel_rfl⟩
theorem to24 : TyOK (24, ti24) := ⟨by kernel_rfl, by kernel_rfl⟩
theorem to25 : TyOK (25, ti25) := ⟨by kernel_rfl, by kernel_rfl⟩
theorem to26 : TyOK (26, ti26) := ⟨by kernel_rfl, by kernel_rfl⟩
theorem to27 : TyOK (27, ti27) := ⟨by kernel_rfl, by kernel_rfl⟩
theorem to28 : TyOK (28, ti28) := ⟨by kernel_rfl, by kernel_rfl⟩
theorem to29 : TyOK (29, ti29) := ⟨by kernel_rfl, by kernel_rfl⟩
theorem to30 : TyOK (30, ti30) := ⟨by kernel_rfl, by kernel_rfl⟩
theorem to31 : TyOK (31, ti31) := ⟨by kernel_rfl, by kernel_rfl⟩
theorem to32 : TyOK (32, ti32) := ⟨by kernel_rfl, by kernel_rfl⟩
theorem to33 : TyOK (33, ti33) := ⟨by kernel_rfl, by kernel_rfl⟩
theorem to34 : TyOK (34, ti34) := ⟨by kernel_rfl, by kernel_rfl⟩
theorem to35 : TyOK (35, ti35) := ⟨by kernel_rfl, by kernel_rfl⟩
theorem to36 : TyOK (36, ti36) := ⟨by kernel_rfl, by kernel_rfl⟩
theorem to37 : TyOK (37, ti37) := ⟨by kernel_rfl, by kernel_rfl⟩
theorem to38 : TyOK (38, ti38) := ⟨by kernel_rfl, by kernel_rfl⟩
theorem to39 : TyOK (39, ti39) := ⟨by kernel_rfl, by kernel_rfl⟩
theorem to40 : TyOK (40, ti40) := ⟨by kernel_rfl, by kernel_rfl⟩
theorem to41 : TyOK (41, ti41) := ⟨by kernel_rfl, by kernel_rfl⟩
theorem to42 : TyOK (42, ti42) := ⟨by kernel_rfl, by kernel_rfl⟩
theorem to43 : TyOK (43, ti43) := ⟨by kernel_rfl, by kernel_rfl⟩
theorem to44 : TyOK (44, ti44) := ⟨by kernel_rfl, by kernel_rfl⟩
theorem to45 : TyOK (45, ti45) := ⟨by kernel_rfl, by kernel_rfl⟩
theorem to46 : TyOK (46, ti46) := ⟨by kernel_rfl, by kernel_rfl⟩
theorem to47 : TyOK (47, ti47) := ⟨by kernel_rfl, by kernel_rfl⟩
theorem to48 : TyOK (48, ti48) := ⟨by kernel_rfl, by kernel_rfl⟩
theorem to49 : TyOK (49, ti49) := ⟨by kernel_rfl, by kernel_rfl⟩
theorem to50 : TyOK (50, ti50) := ⟨by kernel_rfl, by kernel_rfl⟩
theorem to51 : TyOK (51, ti51) := ⟨by kernel_rfl, by kernel_rfl⟩
theorem to52 : TyOK (52, ti52) := ⟨by kernel_rfl, by kernel_rfl⟩
theorem to53 : TyOK (53, ti53) := ⟨by kernel_rfl, by kernel_rfl⟩
theorem to54 : TyOK (54, ti54) := ⟨by kernel_rfl, by kernel_rfl⟩
theorem to55 : TyOK (55, ti55) := ⟨by kernel_rfl, by kernel_rfl⟩
theorem to56 : TyOK (56, ti56) := ⟨by kernel_rfl, by kernel_rfl⟩
theorem to57 : TyOK (57, ti57) := ⟨by kernel_rfl, by kernel_rfl⟩
theorem to58 : TyOK (58, ti58) := ⟨by kernel_rfl, by kernel_rfl⟩
theorem to59 : TyOK (59, ti59) := ⟨by kernel_rfl, by kernel_rfl⟩
theorem to60 : TyOK (60, ti60) := ⟨by kernel_rfl, by kernel_rfl⟩
theorem to61 : TyOK (61, ti61) := ⟨by kernel_rfl, by kernel_rfl⟩
theorem to62 : TyOK (62, ti62) := ⟨by kernel_rfl, by kernel_rfl⟩
theorem to63 : TyOK (63, ti63) := ⟨by kernel_rfl, by kernel_rfl⟩
theorem to64 : TyOK (64, ti64) := ⟨by kernel_rfl, by kernel_rfl⟩
theorem to65 : TyOK (65, ti65) := ⟨by kernel_rfl, by kernel_rfl⟩
theorem to66 : TyOK (66, ti66) := ⟨by kernel_rfl, by kernel_rfl⟩
theorem to67 : TyOK (67, ti67) := ⟨by kernel_rfl, by kernel_rfl⟩
theorem to68 : TyOK (68, ti68) := ⟨by kernel_rfl, by kernel_rfl⟩
theorem to69 : TyOK (69, ti69) := ⟨by kernel_rfl, by kernel_rfl⟩
theorem to70 : TyOK (70, ti70) := ⟨by kernel_rfl, by kernel_rfl⟩
theorem to71 : TyOK (71, ti71) := ⟨by kernel_rfl, by kernel_rfl⟩
theorem to72 : TyOK (72, ti72) := ⟨by kernel_rfl, by kernel_rfl⟩
theorem to73 : TyOK (73, ti73) := ⟨by kernel_rfl, by kernel_rfl⟩
theorem to74 : TyOK (74, ti74) := ⟨by kernel_rfl, by kernel_rfl⟩
theorem to75 : TyOK (75, ti75) := ⟨by kernel_rfl, by kernel_rfl⟩
theorem to76 : TyOK (76, ti76) := ⟨by kernel_rfl, by kernel_rfl⟩
theorem to77 : TyOK (77, ti77) := ⟨by kernel_rfl, by kernel_rfl⟩
theorem to78 : TyOK (78, ti78) := ⟨by kernel_rfl, by kernel_rfl⟩
theorem to79 : TyOK (79, ti79) := ⟨by kernel_rfl, by kernel_rfl⟩
theorem to80 : TyOK (80, ti80) := ⟨by kernel_rfl, by kernel_rfl⟩
theorem to81 : TyOK (81, ti81) := ⟨by kernel_rfl, by kernel_rfl⟩
theorem to82 : TyOK (82, ti82) := ⟨by kernel_rfl, by kernel_rfl⟩
theorem to83 : TyOK (83, ti83) := ⟨by kernel_rfl, by kernel_rfl⟩
theorem to84 : TyOK (84, ti84) := ⟨by kernel_rfl, by kernel_rfl⟩
theorem to85 : TyOK (85, ti85) := ⟨by kernel_rfl, by kernel_rfl⟩
theorem to86 : TyOK (86, ti86) := ⟨by kernel_rfl, by kernel_rfl⟩
theorem to87 : TyOK (87, ti87) := ⟨by kernel_rfl, by kernel_rfl⟩
theorem to88 : TyOK (88, ti88) := ⟨by kernel_rfl, by kernel_rfl⟩
theorem to89 : TyOK (89, ti89) := ⟨by kernel_rfl, by kernel_rfl⟩
theorem to90 : TyOK (90, ti90) := ⟨by kernel_rfl, by kernel_rfl⟩
theorem to91 : TyOK (91, ti91) := ⟨by kernel_rfl, by kernel_rfl⟩
theorem to92 : TyOK (92, ti92) := ⟨by kernel_rfl, by kernel_rfl⟩
theorem to93 : TyOK (93, ti93) := ⟨by kernel_rfl, by kernel_rfl⟩
theorem to94 : TyOK (94, ti94) := ⟨by kernel_rfl, by kernel_rfl⟩
theorem to95 : TyOK (95, ti95) := ⟨by kernel_rfl, by kernel_rfl⟩
theorem to96 : TyOK (96, ti96) := ⟨by kernel_rfl, by kernel_rfl⟩
theorem to97 : TyOK (97, ti97) := ⟨by kernel_rfl, by kernel_rfl⟩
theorem tyTab_ok : ∀ p ∈ tyTab, TyOK p := by
  intro p hp
  simp only [tyTab, List.mem_cons, List.not_mem_nil, or_false] at hp
  rcases hp with rfl | rfl | rfl | rfl | rfl | rfl | rfl | rfl | rfl | rfl | rfl | rfl | rfl | rfl | rfl | rfl | rfl | rfl | rfl | rfl | rfl | rfl | rfl | rfl | rfl | rfl | rfl | rfl | rfl | rfl | rfl | rfl | rfl | rfl | rfl | rfl | rfl | rfl | rfl | rfl | rfl | rfl | rfl | rfl | rfl | rfl | rfl | rfl | rfl | rfl | rfl | rfl | rfl | rfl | rfl | rfl | rfl | rfl | rfl | rfl | rfl | rfl | rfl | rfl | rfl | rfl | rfl | rfl | rfl | rfl | rfl | rfl | rfl | rfl | rfl | rfl | rfl | rfl | rfl | rfl | rfl | rfl | rfl | rfl | rfl | rfl | rfl | rfl | rfl | rfl | rfl | rfl | rfl | rfl | rfl | rfl | rfl | rfl
  · exact to0
  · exact to1
  · exact to2
  · exact to3
  · exact to4
  · exact to5
  · exact to6
  · exact to7
  · exact to8
  · exact to9
  · exact to10
  · exact to11
  · exact to12
  · exact to13
  · exact to14
  · exact to15
  · exact to16
  · exact to17
  · exact to18
  · exact to19
  · exact to20
  · exact to21
  · exact to22
  · exact to23
  · exact to24
  · exact to25
  · exact to26
  · exact to27
  · exact to28
  · exact to29
  · exact to30
  · exact to31
  · exact to32
  · exact to33
  · exact to34
  · exact to35
  · exact to36
  · exact to37
  · exact to38
  · exact to39
  · exact to40
  · exact to41
  · exact to42
  · exact to43
  · exact to44
  · exact to45
  · exact to46
  · exact to47
  · exact to48
  · exact to49
  · exact to50
  · exact to51
  · exact to52
  · exact to53
  · exact to54
  · exact to55
  · exact to56
  · exact to57
  · exact to58
  · exact to59
  · exact to60
  · exact to61
  · exact to62
  · exact to63
  · exact to64
  · exact to65
  · exact to66
  · exact to67
  · exact to68
  · exact to69
  · exact to70
  · exact to71
  · exact to72
  · exact to73
  · exact to74
  · exact to75
  · exact to76
  · exact to77
  · exact to78
  · exact to79
  · exact to80
  · exact to81
  · exact to82
  · exact to83
  · exact to84
  · exact to85
  · exact to86
  · exact to87
  · exact to88
  · exact to89
  · exact to90
  · exact to91
  · exact to92
  · exact to93
  · exact to94
  · exact to95
  · exact to96
  · exact to97
def Ty : Tab Try.prog where
  tt := tyLook tyTab
  ok := by
    intro t i h
    obtain ⟨h1, h2⟩ := tyLook_ok tyTab tyTab_ok t i h
    refine ⟨h1, ?_⟩
    obtain ⟨I, hI, hE⟩ := Option.map_eq_some_iff.1 h2
    simp only [Prod.mk.injEq] at hE
    exact ⟨I, hI, hE.1, hE.2.1, hE.2.2.1, hE.2.2.2⟩
theorem nm3 : (Try.f3.name == "runtime.NumGoroutine") = false := by kernel_rfl
/-- ephemeris/ephemerislaw8.ForpForms -/
theorem in3 {ρ : Hp} {Hs : List HP} {Q : Value → HP} {args : List Value} {c : Code} (hb : Try.f3.body = some c) (hn : Nat.ble args.length Try.f3.ntmps = true) (h : W Try.prog Try.f3 ρ Q [.code c] (argEnv 0 args) Hs) : Fn Try.prog 3 args.toArray ρ Hs Q := Fn.of_code Try.func3 hb nm3 hn h
theorem nm4 : (Try.f4.name == "runtime.NumGoroutine") = false := by kernel_rfl
/-- ephemeris/ephemerislaw8.ForpShift -/
theorem in4 {ρ : Hp} {Hs : List HP} {Q : Value → HP} {args : List Value} {c : Code} (hb : Try.f4.body = some c) (hn : Nat.ble args.length Try.f4.ntmps = true) (h : W Try.prog Try.f4 ρ Q [.code c] (argEnv 0 args) Hs) : Fn Try.prog 4 args.toArray ρ Hs Q := Fn.of_code Try.func4 hb nm4 hn h
theorem nm5 : (Try.f5.name == "runtime.NumGoroutine") = false := by kernel_rfl
/-- ephemeris/ephemerislaw8.ForpTells -/
theorem in5 {ρ : Hp} {Hs : List HP} {Q : Value → HP} {args : List Value} {c : Code} (hb : Try.f5.body = some c) (hn : Nat.ble args.length Try.f5.ntmps = true) (h : W Try.prog Try.f5 ρ Q [.code c] (argEnv 0 args) Hs) : Fn Try.prog 5 args.toArray ρ Hs Q := Fn.of_code Try.func5 hb nm5 hn h
theorem nm6 : (Try.f6.name == "runtime.NumGoroutine") = false := by kernel_rfl
/-- ephemeris/ephemerislaw8.ForpBack -/
theorem in6 {ρ : Hp} {Hs : List HP} {Q : Value → HP} {args : List Value} {c : Code} (hb : Try.f6.body = some c) (hn : Nat.ble args.length Try.f6.ntmps = true) (h : W Try.prog Try.f6 ρ Q [.code c] (argEnv 0 args) Hs) : Fn Try.prog 6 args.toArray ρ Hs Q := Fn.of_code Try.func6 hb nm6 hn h
theorem nm7 : (Try.f7.name == "runtime.NumGoroutine") = false := by kernel_rfl
/-- ephemeris/ephemerislaw9.DictForms -/
theorem in7 {ρ : Hp} {Hs : List HP} {Q : Value → HP} {args : List Value} {c : Code} (hb : Try.f7.body = some c) (hn : Nat.ble args.length Try.f7.ntmps = true) (h : W Try.prog Try.f7 ρ Q [.code c] (argEnv 0 args) Hs) : Fn Try.prog 7 args.toArray ρ Hs Q := Fn.of_code Try.func7 hb nm7 hn h
theorem nm8 : (Try.f8.name == "runtime.NumGoroutine") = false := by kernel_rfl
/-- ephemeris/ephemerislaw9.DictMany -/
theorem in8 {ρ : Hp} {Hs : List HP} {Q : Value → HP} {args : List Value} {c : Code} (hb : Try.f8.body = some c) (hn : Nat.ble args.length Try.f8.ntmps = true) (h : W Try.prog Try.f8 ρ Q [.code c] (argEnv 0 args) Hs) : Fn Try.prog 8 args.toArray ρ Hs Q := Fn.of_code Try.func8 hb nm8 hn h
theorem nm9 : (Try.f9.name == "runtime.NumGoroutine") = false := by kernel_rfl
/-- ephemeris/ephemerislaw9.DictTells -/
theorem in9 {ρ : Hp} {Hs : List HP} {Q : Value → HP} {args : List Value} {c : Code} (hb : Try.f9.body = some c) (hn : Nat.ble args.length Try.f9.ntmps = true) (h : W Try.prog Try.f9 ρ Q [.code c] (argEnv 0 args) Hs) : Fn Try.prog 9 args.toArray ρ Hs Q := Fn.of_code Try.func9 hb nm9 hn h
theorem nm10 : (Try.f10.name == "runtime.NumGoroutine") = false := by kernel_rfl
/-- ephemeris/ephemerislaw9.DictBack -/
theorem in10 {ρ : Hp} {Hs : List HP} {Q : Value → HP} {args : List Value} {c : Code} (hb : Try.f10.body = some c) (hn : Nat.ble args.length Try.f10.ntmps = true) (h : W Try.prog Try.f10 ρ Q [.code c] (argEnv 0 args) Hs) : Fn Try.prog 10 args.toArray ρ Hs Q := Fn.of_code Try.func10 hb nm10 hn h
theorem nm11 : (Try.f11.name == "runtime.NumGoroutine") = false := by kernel_rfl
/-- ephemeris/forp.Decode -/
theorem in11 {ρ : Hp} {Hs : List HP} {Q : Value → HP} {args : List Value} {c : Code} (hb : Try.f11.body = some c) (hn : Nat.ble args.length Try.f11.ntmps = true) (h : W Try.prog Try.f11 ρ Q [.code c] (argEnv 0 args) Hs) : Fn Try.prog 11 args.toArray ρ Hs Q := Fn.of_code Try.func11 hb nm11 hn h
theorem nm12 : (Try.f12.name == "runtime.NumGoroutine") = false := by kernel_rfl
/-- ephemeris/forp.Encode -/
theorem in12 {ρ : Hp} {Hs : List HP} {Q : Value → HP} {args : List Value} {c : Code} (hb : Try.f12.body = some c) (hn : Nat.ble args.length Try.f12.ntmps = true) (h : W Try.prog Try.f12 ρ Q [.code c] (argEnv 0 args) Hs) : Fn Try.prog 12 args.toArray ρ Hs Q := Fn.of_code Try.func12 hb nm12 hn h
theorem nm13 : (Try.f13.name == "runtime.NumGoroutine") = false := by kernel_rfl
/-- ephemeris/ephemerislaw8.awake -/
theorem in13 {ρ : Hp} {Hs : List HP} {Q : Value → HP} {args : List Value} {c : Code} (hb : Try.f13.body = some c) (hn : Nat.ble args.length Try.f13.ntmps = true) (h : W Try.prog Try.f13 ρ Q [.code c] (argEnv 0 args) Hs) : Fn Try.prog 13 args.toArray ρ Hs Q := Fn.of_code Try.func13 hb nm13 hn h
theorem nm14 : (Try.f14.name == "runtime.NumGoroutine") = false := by kernel_rfl
/-- ephemeris/ephemerisref1.SameWords -/
theorem in14 {ρ : Hp} {Hs : List HP} {Q : Value → HP} {args : List Value} {c : Code} (hb : Try.f14.body = some c) (hn : Nat.ble args.length Try.f14.ntmps = true) (h : W Try.prog Try.f14 ρ Q [.code c] (argEnv 0 args) Hs) : Fn Try.prog 14 args.toArray ρ Hs Q := Fn.of_code Try.func14 hb nm14 hn h
theorem nm15 : (Try.f15.name == "runtime.NumGoroutine") = false := by kernel_rfl
/-- ephemeris/ephemerisref1.Get -/
theorem in15 {ρ : Hp} {Hs : List HP} {Q : Value → HP} {args : List Value} {c : Code} (hb : Try.f15.body = some c) (hn : Nat.ble args.length Try.f15.ntmps = true) (h : W Try.prog Try.f15 ρ Q [.code c] (argEnv 0 args) Hs) : Fn Try.prog 15 args.toArray ρ Hs Q := Fn.of_code Try.func15 hb nm15 hn h
theorem nm16 : (Try.f16.name == "runtime.NumGoroutine") = false := by kernel_rfl
/-- ephemeris/ephemerislaw5.Values -/
theorem in16 {ρ : Hp} {Hs : List HP} {Q : Value → HP} {args : List Value} {c : Code} (hb : Try.f16.body = some c) (hn : Nat.ble args.length Try.f16.ntmps = true) (h : W Try.prog Try.f16 ρ Q [.code c] (argEnv 0 args) Hs) : Fn Try.prog 16 args.toArray ρ Hs Q := Fn.of_code Try.func16 hb nm16 hn h
theorem nm17 : (Try.f17.name == "runtime.NumGoroutine") = false := by kernel_rfl
/-- ephemeris/ephemerisref4.Frame -/
theorem in17 {ρ : Hp} {Hs : List HP} {Q : Value → HP} {args : List Value} {c : Code} (hb : Try.f17.body = some c) (hn : Nat.ble args.length Try.f17.ntmps = true) (h : W Try.prog Try.f17 ρ Q [.code c] (argEnv 0 args) Hs) : Fn Try.prog 17 args.toArray ρ Hs Q := Fn.of_code Try.func17 hb nm17 hn h
theorem nm18 : (Try.f18.name == "runtime.NumGoroutine") = false := by kernel_rfl
/-- ephemeris/ephemerisref4.GetFrame -/
theorem in18 {ρ : Hp} {Hs : List HP} {Q : Value → HP} {args : List Value} {c : Code} (hb : Try.f18.body = some c) (hn : Nat.ble args.length Try.f18.ntmps = true) (h : W Try.prog Try.f18 ρ Q [.code c] (argEnv 0 args) Hs) : Fn Try.prog 18 args.toArray ρ Hs Q := Fn.of_code Try.func18 hb nm18 hn h
theorem nm19 : (Try.f19.name == "runtime.NumGoroutine") = false := by kernel_rfl
/-- ephemeris/dict.Decode -/
theorem in19 {ρ : Hp} {Hs : List HP} {Q : Value → HP} {args : List Value} {c : Code} (hb : Try.f19.body = some c) (hn : Nat.ble args.length Try.f19.ntmps = true) (h : W Try.prog Try.f19 ρ Q [.code c] (argEnv 0 args) Hs) : Fn Try.prog 19 args.toArray ρ Hs Q := Fn.of_code Try.func19 hb nm19 hn h
theorem nm20 : (Try.f20.name == "runtime.NumGoroutine") = false := by kernel_rfl
/-- ephemeris/ephemerislaw9.awake -/
theorem in20 {ρ : Hp} {Hs : List HP} {Q : Value → HP} {args : List Value} {c : Code} (hb : Try.f20.body = some c) (hn : Nat.ble args.length Try.f20.ntmps = true) (h : W Try.prog Try.f20 ρ Q [.code c] (argEnv 0 args) Hs) : Fn Try.prog 20 args.toArray ρ Hs Q := Fn.of_code Try.func20 hb nm20 hn h
theorem nm21 : (Try.f21.name == "runtime.NumGoroutine") = false := by kernel_rfl
/-- ephemeris/dict.Encode -/
theorem in21 {ρ : Hp} {Hs : List HP} {Q : Value → HP} {args : List Value} {c : Code} (hb : Try.f21.body = some c) (hn : Nat.ble args.length Try.f21.ntmps = true) (h : W Try.prog Try.f21 ρ Q [.code c] (argEnv 0 args) Hs) : Fn Try.prog 21 args.toArray ρ Hs Q := Fn.of_code Try.func21 hb nm21 hn h
theorem nm22 : (Try.f22.name == "runtime.NumGoroutine") = false := by kernel_rfl
/-- ephemeris/ephemerisref1.Put -/
theorem in22 {ρ : Hp} {Hs : List HP} {Q : Value → HP} {args : List Value} {c : Code} (hb : Try.f22.body = some c) (hn : Nat.ble args.length Try.f22.ntmps = true) (h : W Try.prog Try.f22 ρ Q [.code c] (argEnv 0 args) Hs) : Fn Try.prog 22 args.toArray ρ Hs Q := Fn.of_code Try.func22 hb nm22 hn h
theorem nm23 : (Try.f23.name == "runtime.NumGoroutine") = false := by kernel_rfl
/-- ephemeris/ephemerislaw9.by64 -/
theorem in23 {ρ : Hp} {Hs : List HP} {Q : Value → HP} {args : List Value} {c : Code} (hb : Try.f23.body = some c) (hn : Nat.ble args.length Try.f23.ntmps = true) (h : W Try.prog Try.f23 ρ Q [.code c] (argEnv 0 args) Hs) : Fn Try.prog 23 args.toArray ρ Hs Q := Fn.of_code Try.func23 hb nm23 hn h
theorem nm24 : (Try.f24.name == "runtime.NumGoroutine") = false := by kernel_rfl
/-- ephemeris/ephemerisref4.Dict -/
theorem in24 {ρ : Hp} {Hs : List HP} {Q : Value → HP} {args : List Value} {c : Code} (hb : Try.f24.body = some c) (hn : Nat.ble args.length Try.f24.ntmps = true) (h : W Try.prog Try.f24 ρ Q [.code c] (argEnv 0 args) Hs) : Fn Try.prog 24 args.toArray ρ Hs Q := Fn.of_code Try.func24 hb nm24 hn h
theorem nm25 : (Try.f25.name == "runtime.NumGoroutine") = false := by kernel_rfl
/-- ephemeris/ephemerisref4.GetDict -/
theorem in25 {ρ : Hp} {Hs : List HP} {Q : Value → HP} {args : List Value} {c : Code} (hb : Try.f25.body = some c) (hn : Nat.ble args.length Try.f25.ntmps = true) (h : W Try.prog Try.f25 ρ Q [.code c] (argEnv 0 args) Hs) : Fn Try.prog 25 args.toArray ρ Hs Q := Fn.of_code Try.func25 hb nm25 hn h
theorem nm26 : (Try.f26.name == "runtime.NumGoroutine") = false := by kernel_rfl
/-- ephemeris/vint.Get -/
theorem in26 {ρ : Hp} {Hs : List HP} {Q : Value → HP} {args : List Value} {c : Code} (hb : Try.f26.body = some c) (hn : Nat.ble args.length Try.f26.ntmps = true) (h : W Try.prog Try.f26 ρ Q [.code c] (argEnv 0 args) Hs) : Fn Try.prog 26 args.toArray ρ Hs Q := Fn.of_code Try.func26 hb nm26 hn h
theorem nm27 : (Try.f27.name == "runtime.NumGoroutine") = false := by kernel_rfl
/-- ephemeris/bits.NewReader -/
theorem in27 {ρ : Hp} {Hs : List HP} {Q : Value → HP} {args : List Value} {c : Code} (hb : Try.f27.body = some c) (hn : Nat.ble args.length Try.f27.ntmps = true) (h : W Try.prog Try.f27 ρ Q [.code c] (argEnv 0 args) Hs) : Fn Try.prog 27 args.toArray ρ Hs Q := Fn.of_code Try.func27 hb nm27 hn h
theorem nm28 : (Try.f28.name == "runtime.NumGoroutine") = false := by kernel_rfl
/-- (*ephemeris/bits.Reader).Get -/
theorem in28 {ρ : Hp} {Hs : List HP} {Q : Value → HP} {args : List Value} {c : Code} (hb : Try.f28.body = some c) (hn : Nat.ble args.length Try.f28.ntmps = true) (h : W Try.prog Try.f28 ρ Q [.code c] (argEnv 0 args) Hs) : Fn Try.prog 28 args.toArray ρ Hs Q := Fn.of_code Try.func28 hb nm28 hn h
theorem nm29 : (Try.f29.name == "runtime.NumGoroutine") = false := by kernel_rfl
/-- (*ephemeris/bits.Reader).Ok -/
theorem in29 {ρ : Hp} {Hs : List HP} {Q : Value → HP} {args : List Value} {c : Code} (hb : Try.f29.body = some c) (hn : Nat.ble args.length Try.f29.ntmps = true) (h : W Try.prog Try.f29 ρ Q [.code c] (argEnv 0 args) Hs) : Fn Try.prog 29 args.toArray ρ Hs Q := Fn.of_code Try.func29 hb nm29 hn h
theorem nm30 : (Try.f30.name == "runtime.NumGoroutine") = false := by kernel_rfl
/-- bytes.Equal -/
theorem in30 {ρ : Hp} {Hs : List HP} {Q : Value → HP} {args : List Value} {c : Code} (hb : Try.f30.body = some c) (hn : Nat.ble args.length Try.f30.ntmps = true) (h : W Try.prog Try.f30 ρ Q [.code c] (argEnv 0 args) Hs) : Fn Try.prog 30 args.toArray ρ Hs Q := Fn.of_code Try.func30 hb nm30 hn h
theorem nm31 : (Try.f31.name == "runtime.NumGoroutine") = false := by kernel_rfl
/-- slices.Min[[]uint64,uint64] -/
theorem in31 {ρ : Hp} {Hs : List HP} {Q : Value → HP} {args : List Value} {c : Code} (hb : Try.f31.body = some c) (hn : Nat.ble args.length Try.f31.ntmps = true) (h : W Try.prog Try.f31 ρ Q [.code c] (argEnv 0 args) Hs) : Fn Try.prog 31 args.toArray ρ Hs Q := Fn.of_code Try.func31 hb nm31 hn h
theorem nm32 : (Try.f32.name == "runtime.NumGoroutine") = false := by kernel_rfl
/-- math/bits.Len64 -/
theorem in32 {ρ : Hp} {Hs : List HP} {Q : Value → HP} {args : List Value} {c : Code} (hb : Try.f32.body = some c) (hn : Nat.ble args.length Try.f32.ntmps = true) (h : W Try.prog Try.f32 ρ Q [.code c] (argEnv 0 args) Hs) : Fn Try.prog 32 args.toArray ρ Hs Q := Fn.of_code Try.func32 hb nm32 hn h
theorem nm33 : (Try.f33.name == "runtime.NumGoroutine") = false := by kernel_rfl
/-- slices.Max[[]uint64,uint64] -/
theorem in33 {ρ : Hp} {Hs : List HP} {Q : Value → HP} {args : List Value} {c : Code} (hb : Try.f33.body = some c) (hn : Nat.ble args.length Try.f33.ntmps = true) (h : W Try.prog Try.f33 ρ Q [.code c] (argEnv 0 args) Hs) : Fn Try.prog 33 args.toArray ρ Hs Q := Fn.of_code Try.func33 hb nm33 hn h
theorem nm34 : (Try.f34.name == "runtime.NumGoroutine") = false := by kernel_rfl
/-- ephemeris/bits.NewWriter -/
theorem in34 {ρ : Hp} {Hs : List HP} {Q : Value → HP} {args : List Value} {c : Code} (hb : Try.f34.body = some c) (hn : Nat.ble args.length Try.f34.ntmps = true) (h : W Try.prog Try.f34 ρ Q [.code c] (argEnv 0 args) Hs) : Fn Try.prog 34 args.toArray ρ Hs Q := Fn.of_code Try.func34 hb nm34 hn h
theorem nm35 : (Try.f35.name == "runtime.NumGoroutine") = false := by kernel_rfl
/-- (*ephemeris/bits.Writer).Put -/
theorem in35 {ρ : Hp} {Hs : List HP} {Q : Value → HP} {args : List Value} {c : Code} (hb : Try.f35.body = some c) (hn : Nat.ble args.length Try.f35.ntmps = true) (h : W Try.prog Try.f35 ρ Q [.code c] (argEnv 0 args) Hs) : Fn Try.prog 35 args.toArray ρ Hs Q := Fn.of_code Try.func35 hb nm35 hn h
theorem nm36 : (Try.f36.name == "runtime.NumGoroutine") = false := by kernel_rfl
/-- ephemeris/vint.Put -/
theorem in36 {ρ : Hp} {Hs : List HP} {Q : Value → HP} {args : List Value} {c : Code} (hb : Try.f36.body = some c) (hn : Nat.ble args.length Try.f36.ntmps = true) (h : W Try.prog Try.f36 ρ Q [.code c] (argEnv 0 args) Hs) : Fn Try.prog 36 args.toArray ρ Hs Q := Fn.of_code Try.func36 hb nm36 hn h
theorem nm37 : (Try.f37.name == "runtime.NumGoroutine") = false := by kernel_rfl
/-- (*ephemeris/bits.Writer).Bytes -/
theorem in37 {ρ : Hp} {Hs : List HP} {Q : Value → HP} {args : List Value} {c : Code} (hb : Try.f37.body = some c) (hn : Nat.ble args.length Try.f37.ntmps = true) (h : W Try.prog Try.f37 ρ Q [.code c] (argEnv 0 args) Hs) : Fn Try.prog 37 args.toArray ρ Hs Q := Fn.of_code Try.func37 hb nm37 hn h
theorem nm38 : (Try.f38.name == "runtime.NumGoroutine") = false := by kernel_rfl
/-- ephemeris/ephemerisref4.pack -/
theorem in38 {ρ : Hp} {Hs : List HP} {Q : Value → HP} {args : List Value} {c : Code} (hb : Try.f38.body = some c) (hn : Nat.ble args.length Try.f38.ntmps = true) (h : W Try.prog Try.f38 ρ Q [.code c] (argEnv 0 args) Hs) : Fn Try.prog 38 args.toArray ρ Hs Q := Fn.of_code Try.func38 hb nm38 hn h
theorem nm39 : (Try.f39.name == "runtime.NumGoroutine") = false := by kernel_rfl
/-- ephemeris/ephemerisref4.width -/
theorem in39 {ρ : Hp} {Hs : List HP} {Q : Value → HP} {args : List Value} {c : Code} (hb : Try.f39.body = some c) (hn : Nat.ble args.length Try.f39.ntmps = true) (h : W Try.prog Try.f39 ρ Q [.code c] (argEnv 0 args) Hs) : Fn Try.prog 39 args.toArray ρ Hs Q := Fn.of_code Try.func39 hb nm39 hn h
theorem nm40 : (Try.f40.name == "runtime.NumGoroutine") = false := by kernel_rfl
/-- ephemeris/ephemerisref4.held -/
theorem in40 {ρ : Hp} {Hs : List HP} {Q : Value → HP} {args : List Value} {c : Code} (hb : Try.f40.body = some c) (hn : Nat.ble args.length Try.f40.ntmps = true) (h : W Try.prog Try.f40 ρ Q [.code c] (argEnv 0 args) Hs) : Fn Try.prog 40 args.toArray ρ Hs Q := Fn.of_code Try.func40 hb nm40 hn h
theorem nm41 : (Try.f41.name == "runtime.NumGoroutine") = false := by kernel_rfl
/-- ephemeris/ephemerisref4.unpack -/
theorem in41 {ρ : Hp} {Hs : List HP} {Q : Value → HP} {args : List Value} {c : Code} (hb : Try.f41.body = some c) (hn : Nat.ble args.length Try.f41.ntmps = true) (h : W Try.prog Try.f41 ρ Q [.code c] (argEnv 0 args) Hs) : Fn Try.prog 41 args.toArray ρ Hs Q := Fn.of_code Try.func41 hb nm41 hn h
theorem nm42 : (Try.f42.name == "runtime.NumGoroutine") = false := by kernel_rfl
/-- ephemeris/dict.values -/
theorem in42 {ρ : Hp} {Hs : List HP} {Q : Value → HP} {args : List Value} {c : Code} (hb : Try.f42.body = some c) (hn : Nat.ble args.length Try.f42.ntmps = true) (h : W Try.prog Try.f42 ρ Q [.code c] (argEnv 0 args) Hs) : Fn Try.prog 42 args.toArray ρ Hs Q := Fn.of_code Try.func42 hb nm42 hn h
theorem nm43 : (Try.f43.name == "runtime.NumGoroutine") = false := by kernel_rfl
/-- math/bits.Len -/
theorem in43 {ρ : Hp} {Hs : List HP} {Q : Value → HP} {args : List Value} {c : Code} (hb : Try.f43.body = some c) (hn : Nat.ble args.length Try.f43.ntmps = true) (h : W Try.prog Try.f43 ρ Q [.code c] (argEnv 0 args) Hs) : Fn Try.prog 43 args.toArray ρ Hs Q := Fn.of_code Try.func43 hb nm43 hn h
theorem nm44 : (Try.f44.name == "runtime.NumGoroutine") = false := by kernel_rfl
/-- ephemeris/dict.unlike -/
theorem in44 {ρ : Hp} {Hs : List HP} {Q : Value → HP} {args : List Value} {c : Code} (hb : Try.f44.body = some c) (hn : Nat.ble args.length Try.f44.ntmps = true) (h : W Try.prog Try.f44 ρ Q [.code c] (argEnv 0 args) Hs) : Fn Try.prog 44 args.toArray ρ Hs Q := Fn.of_code Try.func44 hb nm44 hn h
theorem nm45 : (Try.f45.name == "runtime.NumGoroutine") = false := by kernel_rfl
/-- ephemeris/ephemerisref4.place -/
theorem in45 {ρ : Hp} {Hs : List HP} {Q : Value → HP} {args : List Value} {c : Code} (hb : Try.f45.body = some c) (hn : Nat.ble args.length Try.f45.ntmps = true) (h : W Try.prog Try.f45 ρ Q [.code c] (argEnv 0 args) Hs) : Fn Try.prog 45 args.toArray ρ Hs Q := Fn.of_code Try.func45 hb nm45 hn h
theorem nm46 : (Try.f46.name == "runtime.NumGoroutine") = false := by kernel_rfl
/-- slices.Clone[[]byte,byte] -/
theorem in46 {ρ : Hp} {Hs : List HP} {Q : Value → HP} {args : List Value} {c : Code} (hb : Try.f46.body = some c) (hn : Nat.ble args.length Try.f46.ntmps = true) (h : W Try.prog Try.f46 ρ Q [.code c] (argEnv 0 args) Hs) : Fn Try.prog 46 args.toArray ρ Hs Q := Fn.of_code Try.func46 hb nm46 hn h
theorem nm47 : (Try.f47.name == "runtime.NumGoroutine") = false := by kernel_rfl
/-- ephemeris/bits.held -/
theorem in47 {ρ : Hp} {Hs : List HP} {Q : Value → HP} {args : List Value} {c : Code} (hb : Try.f47.body = some c) (hn : Nat.ble args.length Try.f47.ntmps = true) (h : W Try.prog Try.f47 ρ Q [.code c] (argEnv 0 args) Hs) : Fn Try.prog 47 args.toArray ρ Hs Q := Fn.of_code Try.func47 hb nm47 hn h
theorem nm48 : (Try.f48.name == "runtime.NumGoroutine") = false := by kernel_rfl
/-- (*ephemeris/bits.Reader).Left -/
theorem in48 {ρ : Hp} {Hs : List HP} {Q : Value → HP} {args : List Value} {c : Code} (hb : Try.f48.body = some c) (hn : Nat.ble args.length Try.f48.ntmps = true) (h : W Try.prog Try.f48 ρ Q [.code c] (argEnv 0 args) Hs) : Fn Try.prog 48 args.toArray ρ Hs Q := Fn.of_code Try.func48 hb nm48 hn h
theorem nm49 : (Try.f49.name == "runtime.NumGoroutine") = false := by kernel_rfl
/-- slices.Clip[[]byte,byte] -/
theorem in49 {ρ : Hp} {Hs : List HP} {Q : Value → HP} {args : List Value} {c : Code} (hb : Try.f49.body = some c) (hn : Nat.ble args.length Try.f49.ntmps = true) (h : W Try.prog Try.f49 ρ Q [.code c] (argEnv 0 args) Hs) : Fn Try.prog 49 args.toArray ρ Hs Q := Fn.of_code Try.func49 hb nm49 hn h
theorem nm50 : (Try.f50.name == "runtime.NumGoroutine") = false := by kernel_rfl
/-- (*ephemeris/ephemerisref1.Writer).Put -/
theorem in50 {ρ : Hp} {Hs : List HP} {Q : Value → HP} {args : List Value} {c : Code} (hb : Try.f50.body = some c) (hn : Nat.ble args.length Try.f50.ntmps = true) (h : W Try.prog Try.f50 ρ Q [.code c] (argEnv 0 args) Hs) : Fn Try.prog 50 args.toArray ρ Hs Q := Fn.of_code Try.func50 hb nm50 hn h
theorem nm51 : (Try.f51.name == "runtime.NumGoroutine") = false := by kernel_rfl
/-- (*ephemeris/ephemerisref1.Writer).Bytes -/
theorem in51 {ρ : Hp} {Hs : List HP} {Q : Value → HP} {args : List Value} {c : Code} (hb : Try.f51.body = some c) (hn : Nat.ble args.length Try.f51.ntmps = true) (h : W Try.prog Try.f51 ρ Q [.code c] (argEnv 0 args) Hs) : Fn Try.prog 51 args.toArray ρ Hs Q := Fn.of_code Try.func51 hb nm51 hn h
theorem nm52 : (Try.f52.name == "runtime.NumGoroutine") = false := by kernel_rfl
/-- (*ephemeris/ephemerisref1.Reader).Get -/
theorem in52 {ρ : Hp} {Hs : List HP} {Q : Value → HP} {args : List Value} {c : Code} (hb : Try.f52.body = some c) (hn : Nat.ble args.length Try.f52.ntmps = true) (h : W Try.prog Try.f52 ρ Q [.code c] (argEnv 0 args) Hs) : Fn Try.prog 52 args.toArray ρ Hs Q := Fn.of_code Try.func52 hb nm52 hn h
theorem nm53 : (Try.f53.name == "runtime.NumGoroutine") = false := by kernel_rfl
/-- math/bits.Len32 -/
theorem in53 {ρ : Hp} {Hs : List HP} {Q : Value → HP} {args : List Value} {c : Code} (hb : Try.f53.body = some c) (hn : Nat.ble args.length Try.f53.ntmps = true) (h : W Try.prog Try.f53 ρ Q [.code c] (argEnv 0 args) Hs) : Fn Try.prog 53 args.toArray ρ Hs Q := Fn.of_code Try.func53 hb nm53 hn h
theorem nm54 : (Try.f54.name == "runtime.NumGoroutine") = false := by kernel_rfl
/-- (*ephemeris/ephemerisref1.Reader).Left -/
theorem in54 {ρ : Hp} {Hs : List HP} {Q : Value → HP} {args : List Value} {c : Code} (hb : Try.f54.body = some c) (hn : Nat.ble args.length Try.f54.ntmps = true) (h : W Try.prog Try.f54 ρ Q [.code c] (argEnv 0 args) Hs) : Fn Try.prog 54 args.toArray ρ Hs Q := Fn.of_code Try.func54 hb nm54 hn h
theorem nm70 : (Try.f70.name == "runtime.NumGoroutine") = false := by kernel_rfl
/-- (*ephemeris/bits.Writer).Len -/
theorem in70 {ρ : Hp} {Hs : List HP} {Q : Value → HP} {args : List Value} {c : Code} (hb : Try.f70.body = some c) (hn : Nat.ble args.length Try.f70.ntmps = true) (h : W Try.prog Try.f70 ρ Q [.code c] (argEnv 0 args) Hs) : Fn Try.prog 70 args.toArray ρ Hs Q := Fn.of_code Try.func70 hb nm70 hn h
end Go.Proofs.Ytjibmfkhhljhcaa
