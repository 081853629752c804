/- The types and functions of this translation, as the rules look them up. Written by wip/tab.py out of the translation's own rows. -/
import Derived.Test.YtbebhmdjnneimaaMem
import Derived.Test.YtbebhmdjnneimaaProg
import Derived.KernelRfl
set_option linter.unusedVariables false
namespace Go.Proofs.Ytbebhmdjnneimaa
open Go
def ti0 : TyI := ⟨.tuple #[], 1, 0, .tuple #[], false⟩
def ti1 : TyI := ⟨.func #[] #[] false, 1, 8, .nilFunc, false⟩
def ti2 : TyI := ⟨.int .i64, 1, 8, .int .i64 0, true⟩
def ti3 : TyI := ⟨.int .i64, 1, 8, .int .i64 0, true⟩
def ti4 : TyI := ⟨.bool, 1, 1, .bool false, true⟩
def ti5 : TyI := ⟨.int .u8, 1, 1, .int .u8 0, true⟩
def ti6 : TyI := ⟨.int .u8, 1, 1, .int .u8 0, true⟩
def ti7 : TyI := ⟨.struct #[⟨ "x", 2, 0, false, "", "runtime", 0⟩, ⟨ "y", 3, 1, false, "", "runtime", 8⟩, ⟨ "signed", 4, 2, false, "", "runtime", 16⟩, ⟨ "code", 6, 3, false, "", "runtime", 17⟩], 4, 24, .agg #[.int .i64 0, .int .i64 0, .bool false, .int .u8 0], true⟩
def ti8 : TyI := ⟨.struct #[⟨ "x", 2, 0, false, "", "runtime", 0⟩, ⟨ "y", 3, 1, false, "", "runtime", 8⟩, ⟨ "signed", 4, 2, false, "", "runtime", 16⟩, ⟨ "code", 6, 3, false, "", "runtime", 17⟩], 4, 24, .agg #[.int .i64 0, .int .i64 0, .bool false, .int .u8 0], true⟩
def ti9 : TyI := ⟨.string, 1, 16, .string ByteArray.empty, true⟩
def ti10 : TyI := ⟨.string, 1, 16, .string ByteArray.empty, true⟩
def ti11 : TyI := ⟨.string, 1, 16, .string ByteArray.empty, true⟩
def ti12 : TyI := ⟨.int .u64, 1, 8, .int .u64 0, true⟩
def ti13 : TyI := ⟨.struct #[⟨ "msg", 9, 0, false, "", "runtime", 0⟩, ⟨ "addr", 12, 1, false, "", "runtime", 16⟩], 2, 24, .agg #[.string ByteArray.empty, .int .u64 0], true⟩
def ti14 : TyI := ⟨.struct #[⟨ "msg", 9, 0, false, "", "runtime", 0⟩, ⟨ "addr", 12, 1, false, "", "runtime", 16⟩], 2, 24, .agg #[.string ByteArray.empty, .int .u64 0], true⟩
def ti15 : TyI := ⟨.pointer 161, 1, 8, .pointer none, true⟩
def ti16 : TyI := ⟨.pointer 164, 1, 8, .pointer none, true⟩
def ti17 : TyI := ⟨.pointer 174, 1, 8, .pointer none, true⟩
def ti18 : TyI := ⟨.struct #[⟨ "typ", 17, 0, false, "", "internal/runtime/maps", 0⟩], 1, 8, .agg #[.pointer none], true⟩
def ti19 : TyI := ⟨.struct #[⟨ "typ", 17, 0, false, "", "internal/runtime/maps", 0⟩], 1, 8, .agg #[.pointer none], true⟩
def ti20 : TyI := ⟨.interface #[], 1, 16, .nilIface, true⟩
def ti21 : TyI := ⟨.int .i32, 1, 4, .int .i32 0, true⟩
def ti22 : TyI := ⟨.int .u64, 1, 8, .int .u64 0, true⟩
def ti23 : TyI := ⟨.struct #[⟨ "Kind", 3, 0, false, "", "", 0⟩, ⟨ "Series", 3, 1, false, "", "", 8⟩, ⟨ "Iter", 3, 2, false, "", "", 16⟩, ⟨ "T", 2, 3, false, "", "", 24⟩, ⟨ "V", 22, 4, false, "", "", 32⟩, ⟨ "From", 2, 5, false, "", "", 40⟩, ⟨ "To", 2, 6, false, "", "", 48⟩, ⟨ "N", 3, 7, false, "", "", 56⟩], 8, 64, .agg #[.int .i64 0, .int .i64 0, .int .i64 0, .int .i64 0, .int .u64 0, .int .i64 0, .int .i64 0, .int .i64 0], true⟩
def ti24 : TyI := ⟨.struct #[⟨ "Kind", 3, 0, false, "", "", 0⟩, ⟨ "Series", 3, 1, false, "", "", 8⟩, ⟨ "Iter", 3, 2, false, "", "", 16⟩, ⟨ "T", 2, 3, false, "", "", 24⟩, ⟨ "V", 22, 4, false, "", "", 32⟩, ⟨ "From", 2, 5, false, "", "", 40⟩, ⟨ "To", 2, 6, false, "", "", 48⟩, ⟨ "N", 3, 7, false, "", "", 56⟩], 8, 64, .agg #[.int .i64 0, .int .i64 0, .int .i64 0, .int .i64 0, .int .u64 0, .int .i64 0, .int .i64 0, .int .i64 0], true⟩
def ti25 : TyI := ⟨.int .i64, 1, 8, .int .i64 0, true⟩
def ti26 : TyI := ⟨.struct #[⟨ "o", 24, 0, false, "", "ephemeris/ephemerislaw14", 0⟩, ⟨ "e", 25, 8, false, "", "ephemeris/ephemerislaw14", 64⟩, ⟨ "n", 3, 9, false, "", "ephemeris/ephemerislaw14", 72⟩], 10, 80, .agg #[.int .i64 0, .int .i64 0, .int .i64 0, .int .i64 0, .int .u64 0, .int .i64 0, .int .i64 0, .int .i64 0, .int .i64 0, .int .i64 0], true⟩
def ti27 : TyI := ⟨.slice 26, 1, 24, .slice none 0 0, false⟩
def ti28 : TyI := ⟨.slice 43, 1, 24, .slice none 0 0, false⟩
def ti29 : TyI := ⟨.slice 50, 1, 24, .slice none 0 0, false⟩
def ti30 : TyI := ⟨.struct #[⟨ "Series", 28, 0, false, "", "", 0⟩, ⟨ "Iters", 29, 1, false, "", "", 24⟩, ⟨ "Next", 3, 2, false, "", "", 48⟩], 3, 56, .agg #[.slice none 0 0, .slice none 0 0, .int .i64 0], false⟩
def ti31 : TyI := ⟨.struct #[⟨ "Series", 28, 0, false, "", "", 0⟩, ⟨ "Iters", 29, 1, false, "", "", 24⟩, ⟨ "Next", 3, 2, false, "", "", 48⟩], 3, 56, .agg #[.slice none 0 0, .slice none 0 0, .int .i64 0], false⟩
def ti32 : TyI := ⟨.slice 48, 1, 24, .slice none 0 0, false⟩
def ti33 : TyI := ⟨.struct #[⟨ "Err", 25, 0, false, "", "", 0⟩, ⟨ "Iter", 3, 1, false, "", "", 8⟩, ⟨ "List", 32, 2, false, "", "", 16⟩], 3, 40, .agg #[.int .i64 0, .int .i64 0, .slice none 0 0], false⟩
def ti34 : TyI := ⟨.struct #[⟨ "Err", 25, 0, false, "", "", 0⟩, ⟨ "Iter", 3, 1, false, "", "", 8⟩, ⟨ "List", 32, 2, false, "", "", 16⟩], 3, 40, .agg #[.int .i64 0, .int .i64 0, .slice none 0 0], false⟩
def ti35 : TyI := ⟨.tuple #[31, 34], 1, 0, .tuple #[.agg #[.slice none 0 0, .slice none 0 0, .int .i64 0], .agg #[.int .i64 0, .int .i64 0, .slice none 0 0]], false⟩
def ti36 : TyI := ⟨.func #[31, 24] #[31, 34] false, 1, 8, .nilFunc, false⟩
def ti37 : TyI := ⟨.func #[31, 31] #[4] false, 1, 8, .nilFunc, false⟩
def ti38 : TyI := ⟨.func #[] #[4] false, 1, 8, .nilFunc, false⟩
def ti39 : TyI := ⟨.func #[3] #[4] false, 1, 8, .nilFunc, false⟩
def ti40 : TyI := ⟨.func #[31, 24] #[31, 25] false, 1, 8, .nilFunc, false⟩
def ti41 : TyI := ⟨.tuple #[31, 25], 1, 0, .tuple #[.agg #[.slice none 0 0, .slice none 0 0, .int .i64 0], .int .i64 0], false⟩
def ti42 : TyI := ⟨.struct #[⟨ "ID", 3, 0, false, "", "", 0⟩, ⟨ "Sealed", 4, 1, false, "", "", 8⟩, ⟨ "Any", 4, 2, false, "", "", 9⟩, ⟨ "Last", 2, 3, false, "", "", 16⟩, ⟨ "List", 32, 4, false, "", "", 24⟩], 5, 48, .agg #[.int .i64 0, .bool false, .bool false, .int .i64 0, .slice none 0 0], false⟩
def ti43 : TyI := ⟨.struct #[⟨ "ID", 3, 0, false, "", "", 0⟩, ⟨ "Sealed", 4, 1, false, "", "", 8⟩, ⟨ "Any", 4, 2, false, "", "", 9⟩, ⟨ "Last", 2, 3, false, "", "", 16⟩, ⟨ "List", 32, 4, false, "", "", 24⟩], 5, 48, .agg #[.int .i64 0, .bool false, .bool false, .int .i64 0, .slice none 0 0], false⟩
def ti44 : TyI := ⟨.func #[2, 3, 3] #[4] false, 1, 8, .nilFunc, false⟩
def ti45 : TyI := ⟨.slice 3, 1, 24, .slice none 0 0, false⟩
def ti46 : TyI := ⟨.func #[3, 3] #[24] false, 1, 8, .nilFunc, false⟩
def ti47 : TyI := ⟨.struct #[⟨ "T", 2, 0, false, "", "", 0⟩, ⟨ "V", 22, 1, false, "", "", 8⟩], 2, 16, .agg #[.int .i64 0, .int .u64 0], true⟩
def ti48 : TyI := ⟨.struct #[⟨ "T", 2, 0, false, "", "", 0⟩, ⟨ "V", 22, 1, false, "", "", 8⟩], 2, 16, .agg #[.int .i64 0, .int .u64 0], true⟩
def ti49 : TyI := ⟨.struct #[⟨ "ID", 3, 0, false, "", "", 0⟩, ⟨ "Rest", 32, 1, false, "", "", 8⟩], 2, 32, .agg #[.int .i64 0, .slice none 0 0], false⟩
def ti50 : TyI := ⟨.struct #[⟨ "ID", 3, 0, false, "", "", 0⟩, ⟨ "Rest", 32, 1, false, "", "", 8⟩], 2, 32, .agg #[.int .i64 0, .slice none 0 0], false⟩
def ti51 : TyI := ⟨.func #[45, 3] #[4] false, 1, 8, .nilFunc, false⟩
def ti52 : TyI := ⟨.slice 24, 1, 24, .slice none 0 0, false⟩
def ti53 : TyI := ⟨.int .u64, 1, 8, .int .u64 0, true⟩
def ti54 : TyI := ⟨.func #[34, 34] #[4] false, 1, 8, .nilFunc, false⟩
def ti55 : TyI := ⟨.func #[45, 52] #[4] false, 1, 8, .nilFunc, false⟩
def ti56 : TyI := ⟨.func #[32, 32] #[4] false, 1, 8, .nilFunc, false⟩
def ti57 : TyI := ⟨.func #[45, 3, 3, 45, 3] #[4] false, 1, 8, .nilFunc, false⟩
def ti58 : TyI := ⟨.slice 61, 1, 24, .slice none 0 0, false⟩
def ti59 : TyI := ⟨.slice 63, 1, 24, .slice none 0 0, false⟩
def ti60 : TyI := ⟨.struct #[⟨ "Kind", 3, 0, false, "", "", 0⟩, ⟨ "Who", 3, 1, false, "", "", 8⟩, ⟨ "N", 3, 2, false, "", "", 16⟩, ⟨ "Op", 24, 3, false, "", "", 24⟩, ⟨ "Result", 34, 11, false, "", "", 88⟩], 14, 128, .agg #[.int .i64 0, .int .i64 0, .int .i64 0, .int .i64 0, .int .i64 0, .int .i64 0, .int .i64 0, .int .u64 0, .int .i64 0, .int .i64 0, .int .i64 0, .int .i64 0, .int .i64 0, .slice none 0 0], false⟩
def ti61 : TyI := ⟨.struct #[⟨ "Kind", 3, 0, false, "", "", 0⟩, ⟨ "Who", 3, 1, false, "", "", 8⟩, ⟨ "N", 3, 2, false, "", "", 16⟩, ⟨ "Op", 24, 3, false, "", "", 24⟩, ⟨ "Result", 34, 11, false, "", "", 88⟩], 14, 128, .agg #[.int .i64 0, .int .i64 0, .int .i64 0, .int .i64 0, .int .i64 0, .int .i64 0, .int .i64 0, .int .u64 0, .int .i64 0, .int .i64 0, .int .i64 0, .int .i64 0, .int .i64 0, .slice none 0 0], false⟩
def ti62 : TyI := ⟨.struct #[⟨ "Who", 3, 0, false, "", "", 0⟩, ⟨ "N", 3, 1, false, "", "", 8⟩], 2, 16, .agg #[.int .i64 0, .int .i64 0], true⟩
def ti63 : TyI := ⟨.struct #[⟨ "Who", 3, 0, false, "", "", 0⟩, ⟨ "N", 3, 1, false, "", "", 8⟩], 2, 16, .agg #[.int .i64 0, .int .i64 0], true⟩
def ti64 : TyI := ⟨.slice 34, 1, 24, .slice none 0 0, false⟩
def ti65 : TyI := ⟨.tuple #[31, 64], 1, 0, .tuple #[.agg #[.slice none 0 0, .slice none 0 0, .int .i64 0], .slice none 0 0], false⟩
def ti66 : TyI := ⟨.func #[58, 59] #[31, 64] false, 1, 8, .nilFunc, false⟩
def ti67 : TyI := ⟨.array 4 3, 4, 32, .agg #[.int .i64 0, .int .i64 0, .int .i64 0, .int .i64 0], true⟩
def ti68 : TyI := ⟨.slice 59, 1, 24, .slice none 0 0, false⟩
def ti69 : TyI := ⟨.func #[58, 59] #[4] false, 1, 8, .nilFunc, false⟩
def ti70 : TyI := ⟨.func #[45, 45] #[4] false, 1, 8, .nilFunc, false⟩
def ti71 : TyI := ⟨.slice 78, 1, 24, .slice none 0 0, false⟩
def ti72 : TyI := ⟨.struct #[⟨ "Most", 3, 0, false, "", "", 0⟩, ⟨ "Target", 3, 1, false, "", "", 8⟩, ⟨ "Pages", 71, 2, false, "", "", 16⟩, ⟨ "Hot", 3, 3, false, "", "", 40⟩, ⟨ "Cold", 3, 4, false, "", "", 48⟩, ⟨ "Test", 3, 5, false, "", "", 56⟩], 6, 64, .agg #[.int .i64 0, .int .i64 0, .slice none 0 0, .int .i64 0, .int .i64 0, .int .i64 0], false⟩
def ti73 : TyI := ⟨.struct #[⟨ "Most", 3, 0, false, "", "", 0⟩, ⟨ "Target", 3, 1, false, "", "", 8⟩, ⟨ "Pages", 71, 2, false, "", "", 16⟩, ⟨ "Hot", 3, 3, false, "", "", 40⟩, ⟨ "Cold", 3, 4, false, "", "", 48⟩, ⟨ "Test", 3, 5, false, "", "", 56⟩], 6, 64, .agg #[.int .i64 0, .int .i64 0, .slice none 0 0, .int .i64 0, .int .i64 0, .int .i64 0], false⟩
def ti74 : TyI := ⟨.func #[3, 45] #[73] false, 1, 8, .nilFunc, false⟩
def ti75 : TyI := ⟨.struct #[⟨ "Series", 3, 0, false, "", "", 0⟩, ⟨ "Life", 3, 1, false, "", "", 8⟩, ⟨ "Blob", 3, 2, false, "", "", 16⟩], 3, 24, .agg #[.int .i64 0, .int .i64 0, .int .i64 0], true⟩
def ti76 : TyI := ⟨.struct #[⟨ "Series", 3, 0, false, "", "", 0⟩, ⟨ "Life", 3, 1, false, "", "", 8⟩, ⟨ "Blob", 3, 2, false, "", "", 16⟩], 3, 24, .agg #[.int .i64 0, .int .i64 0, .int .i64 0], true⟩
def ti77 : TyI := ⟨.struct #[⟨ "Key", 76, 0, false, "", "", 0⟩, ⟨ "Kind", 3, 3, false, "", "", 24⟩, ⟨ "Ref", 4, 4, false, "", "", 32⟩, ⟨ "Trial", 4, 5, false, "", "", 33⟩, ⟨ "Pins", 3, 6, false, "", "", 40⟩], 7, 48, .agg #[.int .i64 0, .int .i64 0, .int .i64 0, .int .i64 0, .bool false, .bool false, .int .i64 0], true⟩
def ti78 : TyI := ⟨.struct #[⟨ "Key", 76, 0, false, "", "", 0⟩, ⟨ "Kind", 3, 3, false, "", "", 24⟩, ⟨ "Ref", 4, 4, false, "", "", 32⟩, ⟨ "Trial", 4, 5, false, "", "", 33⟩, ⟨ "Pins", 3, 6, false, "", "", 40⟩], 7, 48, .agg #[.int .i64 0, .int .i64 0, .int .i64 0, .int .i64 0, .bool false, .bool false, .int .i64 0], true⟩
def ti79 : TyI := ⟨.tuple #[73, 4], 1, 0, .tuple #[.agg #[.int .i64 0, .int .i64 0, .slice none 0 0, .int .i64 0, .int .i64 0, .int .i64 0], .bool false], false⟩
def ti80 : TyI := ⟨.func #[73, 76, 3] #[73, 4] false, 1, 8, .nilFunc, false⟩
def ti81 : TyI := ⟨.slice 76, 1, 24, .slice none 0 0, false⟩
def ti82 : TyI := ⟨.tuple #[73, 81, 4], 1, 0, .tuple #[.agg #[.int .i64 0, .int .i64 0, .slice none 0 0, .int .i64 0, .int .i64 0, .int .i64 0], .slice none 0 0, .bool false], false⟩
def ti83 : TyI := ⟨.func #[73, 76] #[73, 81, 4] false, 1, 8, .nilFunc, false⟩
def ti84 : TyI := ⟨.func #[73, 76] #[3] false, 1, 8, .nilFunc, false⟩
def ti85 : TyI := ⟨.func #[3, 45, 3] #[4] false, 1, 8, .nilFunc, false⟩
def ti86 : TyI := ⟨.func #[3] #[73] false, 1, 8, .nilFunc, false⟩
def ti87 : TyI := ⟨.func #[3] #[76] false, 1, 8, .nilFunc, false⟩
def ti88 : TyI := ⟨.func #[73, 76] #[73, 4] false, 1, 8, .nilFunc, false⟩
def ti89 : TyI := ⟨.func #[3, 45] #[4] false, 1, 8, .nilFunc, false⟩
def ti90 : TyI := ⟨.slice 73, 1, 24, .slice none 0 0, false⟩
def ti91 : TyI := ⟨.func #[73, 73] #[4] false, 1, 8, .nilFunc, false⟩
def ti92 : TyI := ⟨.func #[73, 3] #[73, 81, 4] false, 1, 8, .nilFunc, false⟩
def ti93 : TyI := ⟨.func #[81, 81] #[4] false, 1, 8, .nilFunc, false⟩
def ti94 : TyI := ⟨.func #[24] #[4] false, 1, 8, .nilFunc, false⟩
def ti95 : TyI := ⟨.func #[31] #[31] false, 1, 8, .nilFunc, false⟩
def ti96 : TyI := ⟨.func #[97, 24] #[34] false, 1, 8, .nilFunc, false⟩
def ti97 : TyI := ⟨.pointer 31, 1, 8, .pointer none, true⟩
def ti98 : TyI := ⟨.func #[31, 3] #[3] false, 1, 8, .nilFunc, false⟩
def ti99 : TyI := ⟨.tuple #[31, 3], 1, 0, .tuple #[.agg #[.slice none 0 0, .slice none 0 0, .int .i64 0], .int .i64 0], false⟩
def ti100 : TyI := ⟨.func #[31, 3] #[31, 3] false, 1, 8, .nilFunc, false⟩
def ti101 : TyI := ⟨.func #[32] #[32] false, 1, 8, .nilFunc, false⟩
def ti102 : TyI := ⟨.func #[32, 2, 2] #[32] false, 1, 8, .nilFunc, false⟩
def ti103 : TyI := ⟨.func #[43, 43] #[4] false, 1, 8, .nilFunc, false⟩
def ti104 : TyI := ⟨.func #[50, 50] #[4] false, 1, 8, .nilFunc, false⟩
def ti105 : TyI := ⟨.func #[28, 28, 103] #[4] false, 1, 8, .nilFunc, false⟩
def ti106 : TyI := ⟨.func #[29, 29, 104] #[4] false, 1, 8, .nilFunc, false⟩
def ti107 : TyI := ⟨.map 63 3, 1, 8, .map none, false⟩
def ti108 : TyI := ⟨.func #[58] #[107] false, 1, 8, .nilFunc, false⟩
def ti109 : TyI := ⟨.tuple #[3, 4], 1, 0, .tuple #[.int .i64 0, .bool false], false⟩
def ti110 : TyI := ⟨.func #[58, 3, 3] #[3] false, 1, 8, .nilFunc, false⟩
def ti111 : TyI := ⟨.tuple #[107, 4], 1, 0, .tuple #[.map none, .bool false], false⟩
def ti112 : TyI := ⟨.func #[59, 107] #[107, 4] false, 1, 8, .nilFunc, false⟩
def ti113 : TyI := ⟨.func #[25] #[4] false, 1, 8, .nilFunc, false⟩
def ti114 : TyI := ⟨.func #[59, 3, 3] #[3] false, 1, 8, .nilFunc, false⟩
def ti115 : TyI := ⟨.func #[78] #[4] false, 1, 8, .nilFunc, false⟩
def ti116 : TyI := ⟨.func #[73] #[73] false, 1, 8, .nilFunc, false⟩
def ti117 : TyI := ⟨.func #[73, 115] #[3] false, 1, 8, .nilFunc, false⟩
def ti118 : TyI := ⟨.func #[119, 3] #[] false, 1, 8, .nilFunc, false⟩
def ti119 : TyI := ⟨.pointer 73, 1, 8, .pointer none, true⟩
def ti120 : TyI := ⟨.func #[119] #[76] false, 1, 8, .nilFunc, false⟩
def ti121 : TyI := ⟨.func #[119, 78] #[] false, 1, 8, .nilFunc, false⟩
def ti122 : TyI := ⟨.func #[119] #[] false, 1, 8, .nilFunc, false⟩
def ti123 : TyI := ⟨.func #[71, 115] #[3] false, 1, 8, .nilFunc, false⟩
def ti124 : TyI := ⟨.func #[71, 71] #[4] false, 1, 8, .nilFunc, false⟩
def ti125 : TyI := ⟨.func #[28] #[28] false, 1, 8, .nilFunc, false⟩
def ti126 : TyI := ⟨.func #[29] #[29] false, 1, 8, .nilFunc, false⟩
def ti127 : TyI := ⟨.func #[29, 128] #[3] false, 1, 8, .nilFunc, false⟩
def ti128 : TyI := ⟨.func #[50] #[4] false, 1, 8, .nilFunc, false⟩
def ti129 : TyI := ⟨.func #[29, 3, 3] #[29] false, 1, 8, .nilFunc, false⟩
def ti130 : TyI := ⟨.pointer 50, 1, 8, .pointer none, true⟩
def ti131 : TyI := ⟨.func #[28, 3] #[3, 4] false, 1, 8, .nilFunc, false⟩
def ti132 : TyI := ⟨.func #[97, 3, 4, 24] #[25] false, 1, 8, .nilFunc, false⟩
def ti133 : TyI := ⟨.pointer 43, 1, 8, .pointer none, true⟩
def ti134 : TyI := ⟨.func #[28, 3, 3] #[28] false, 1, 8, .nilFunc, false⟩
def ti135 : TyI := ⟨.func #[71] #[71] false, 1, 8, .nilFunc, false⟩
def ti136 : TyI := ⟨.func #[71, 3, 3] #[71] false, 1, 8, .nilFunc, false⟩
def ti137 : TyI := ⟨.slice 139, 1, 24, .slice none 0 0, false⟩
def ti138 : TyI := ⟨.func #[119] #[137] false, 1, 8, .nilFunc, false⟩
def ti139 : TyI := ⟨.pointer 3, 1, 8, .pointer none, true⟩
def ti140 : TyI := ⟨.pointer 78, 1, 8, .pointer none, true⟩
def ti141 : TyI := ⟨.func #[119, 139] #[] false, 1, 8, .nilFunc, false⟩
def ti142 : TyI := ⟨.func #[71, 3, 71] #[71] true, 1, 8, .nilFunc, false⟩
def ti143 : TyI := ⟨.pointer 145, 1, 8, .pointer none, true⟩
def ti144 : TyI := ⟨.struct #[⟨ "c", 73, 0, false, "", "ephemeris/ephemerisref15", 0⟩, ⟨ "out", 81, 6, false, "", "ephemeris/ephemerisref15", 64⟩], 7, 88, .agg #[.int .i64 0, .int .i64 0, .slice none 0 0, .int .i64 0, .int .i64 0, .int .i64 0, .slice none 0 0], false⟩
def ti145 : TyI := ⟨.struct #[⟨ "c", 73, 0, false, "", "ephemeris/ephemerisref15", 0⟩, ⟨ "out", 81, 6, false, "", "ephemeris/ephemerisref15", 64⟩], 7, 88, .agg #[.int .i64 0, .int .i64 0, .slice none 0 0, .int .i64 0, .int .i64 0, .int .i64 0, .slice none 0 0], false⟩
def ti146 : TyI := ⟨.func #[73, 3] #[3] false, 1, 8, .nilFunc, false⟩
def ti147 : TyI := ⟨.func #[3] #[] false, 1, 8, .nilFunc, false⟩
def ti148 : TyI := ⟨.func #[78] #[] false, 1, 8, .nilFunc, false⟩
def ti149 : TyI := ⟨.func #[28, 150] #[3] false, 1, 8, .nilFunc, false⟩
def ti150 : TyI := ⟨.func #[43] #[4] false, 1, 8, .nilFunc, false⟩
def ti151 : TyI := ⟨.func #[28, 3, 28] #[28] true, 1, 8, .nilFunc, false⟩
def ti152 : TyI := ⟨.func #[71, 3] #[] false, 1, 8, .nilFunc, false⟩
def ti153 : TyI := ⟨.func #[3, 3] #[3] false, 1, 8, .nilFunc, false⟩
def ti154 : TyI := ⟨.func #[3] #[3] false, 1, 8, .nilFunc, false⟩
def ti155 : TyI := ⟨.func #[28, 28] #[4] false, 1, 8, .nilFunc, false⟩
def ti156 : TyI := ⟨.func #[28, 3] #[] false, 1, 8, .nilFunc, false⟩
def ti157 : TyI := ⟨.func #[71] #[] false, 1, 8, .nilFunc, false⟩
def ti158 : TyI := ⟨.func #[28] #[] false, 1, 8, .nilFunc, false⟩
def ti159 : TyI := ⟨.func #[] #[9] false, 1, 8, .nilFunc, false⟩
def ti160 : TyI := ⟨.struct #[⟨ "_interface", 17, 0, false, "", "runtime", 0⟩, ⟨ "concrete", 17, 1, false, "", "runtime", 8⟩, ⟨ "asserted", 17, 2, false, "", "runtime", 16⟩, ⟨ "missingMethod", 9, 3, false, "", "runtime", 24⟩], 4, 40, .agg #[.pointer none, .pointer none, .pointer none, .string ByteArray.empty], true⟩
def ti161 : TyI := ⟨.struct #[⟨ "_interface", 17, 0, false, "", "runtime", 0⟩, ⟨ "concrete", 17, 1, false, "", "runtime", 8⟩, ⟨ "asserted", 17, 2, false, "", "runtime", 16⟩, ⟨ "missingMethod", 9, 3, false, "", "runtime", 24⟩], 4, 40, .agg #[.pointer none, .pointer none, .pointer none, .string ByteArray.empty], true⟩
def ti162 : TyI := ⟨.array 0 16, 0, 0, .agg #[], true⟩
def ti163 : TyI := ⟨.struct #[⟨ "_", 162, 0, false, "", "runtime", 0⟩], 0, 0, .agg #[], true⟩
def ti164 : TyI := ⟨.struct #[⟨ "_", 162, 0, false, "", "runtime", 0⟩], 0, 0, .agg #[], true⟩
def ti165 : TyI := ⟨.func #[] #[3] false, 1, 8, .nilFunc, false⟩
def ti166 : TyI := ⟨.int .u32, 1, 4, .int .u32 0, true⟩
def ti167 : TyI := ⟨.int .u8, 1, 1, .int .u8 0, true⟩
def ti168 : TyI := ⟨.int .u8, 1, 1, .int .u8 0, true⟩
def ti169 : TyI := ⟨.func #[175, 175] #[4] false, 1, 8, .nilFunc, false⟩
def ti170 : TyI := ⟨.pointer 5, 1, 8, .pointer none, true⟩
def ti171 : TyI := ⟨.int .i32, 1, 4, .int .i32 0, true⟩
def ti172 : TyI := ⟨.int .i32, 1, 4, .int .i32 0, true⟩
def ti173 : TyI := ⟨.struct #[⟨ "Size_", 12, 0, false, "", "", 0⟩, ⟨ "PtrBytes", 12, 1, false, "", "", 8⟩, ⟨ "Hash", 166, 2, false, "", "", 16⟩, ⟨ "TFlag", 167, 3, false, "", "", 20⟩, ⟨ "Align_", 5, 4, false, "", "", 21⟩, ⟨ "FieldAlign_", 5, 5, false, "", "", 22⟩, ⟨ "Kind_", 168, 6, false, "", "", 23⟩, ⟨ "Equal", 169, 7, false, "", "", 24⟩, ⟨ "GCData", 170, 8, false, "", "", 32⟩, ⟨ "Str", 171, 9, false, "", "", 40⟩, ⟨ "PtrToThis", 172, 10, false, "", "", 44⟩], 11, 48, .agg #[.int .u64 0, .int .u64 0, .int .u32 0, .int .u8 0, .int .u8 0, .int .u8 0, .int .u8 0, .nilFunc, .pointer none, .int .i32 0, .int .i32 0], false⟩
def ti174 : TyI := ⟨.struct #[⟨ "Size_", 12, 0, false, "", "", 0⟩, ⟨ "PtrBytes", 12, 1, false, "", "", 8⟩, ⟨ "Hash", 166, 2, false, "", "", 16⟩, ⟨ "TFlag", 167, 3, false, "", "", 20⟩, ⟨ "Align_", 5, 4, false, "", "", 21⟩, ⟨ "FieldAlign_", 5, 5, false, "", "", 22⟩, ⟨ "Kind_", 168, 6, false, "", "", 23⟩, ⟨ "Equal", 169, 7, false, "", "", 24⟩, ⟨ "GCData", 170, 8, false, "", "", 32⟩, ⟨ "Str", 171, 9, false, "", "", 40⟩, ⟨ "PtrToThis", 172, 10, false, "", "", 44⟩], 11, 48, .agg #[.int .u64 0, .int .u64 0, .int .u32 0, .int .u8 0, .int .u8 0, .int .u8 0, .int .u8 0, .nilFunc, .pointer none, .int .i32 0, .int .i32 0], false⟩
def tyTab : List (Nat × TyI) := [(0, ti0), (1, ti1), (2, ti2), (3, ti3), (4, ti4), (5, ti5), (6, ti6), (7, ti7), (8, ti8), (9, ti9), (10, ti10), (11, ti11), (12, ti12), (13, ti13), (14, ti14), (15, ti15), (16, ti16), (17, ti17), (18, ti18), (19, ti19), (20, ti20), (21, ti21), (22, ti22), (23, ti23), (24, ti24), (25, ti25), (26, ti26), (27, ti27), (28, ti28), (29, ti29), (30, ti30), (31, ti31), (32, ti32), (33, ti33), (34, ti34), (35, ti35), (36, ti36), (37, ti37), (38, ti38), (39, ti39), (40, ti40), (41, ti41), (42, ti42), (43, ti43), (44, ti44), (45, ti45), (46, ti46), (47, ti47), (48, ti48), (49, ti49), (50, ti50), (51, ti51), (52, ti52), (53, ti53), (54, ti54), (55, ti55), (56, ti56), (57, ti57), (58, ti58), (59, ti59), (60, ti60), (61, ti61), (62, ti62), (63, ti63), (64, ti64), (65, ti65), (66, ti66), (67, ti67), (68, ti68), (69, ti69), (70, ti70), (71, ti71), (72, ti72), (73, ti73), (74, ti74), (75, ti75), (76, ti76), (77, ti77), (78, ti78), (79, ti79), (80, ti80), (81, ti81), (82, ti82), (83, ti83), (84, ti84), (85, ti85), (86, ti86), (87, ti87), (88, ti88), (89, ti89), (90, ti90), (91, ti91), (92, ti92), (93, ti93), (94, ti94), (95, ti95), (96, ti96), (97, ti97), (98, ti98), (99, ti99), (100, ti100), (101, ti101), (102, ti102), (103, ti103), (104, ti104), (105, ti105), (106, ti106), (107, ti107), (108, ti108), (109, ti109), (110, ti110), (111, ti111), (112, ti112), (113, ti113), (114, ti114), (115, ti115), (116, ti116), (117, ti117), (118, ti118), (119, ti119), (120, ti120), (121, ti121), (122, ti122), (123, ti123), (124, ti124), (125, ti125), (126, ti126), (127, ti127), (128, ti128), (129, ti129), (130, ti130), (131, ti131), (132, ti132), (133, ti133), (134, ti134), (135, ti135), (136, ti136), (137, ti137), (138, ti138), (139, ti139), (140, ti140), (141, ti141), (142, ti142), (143, ti143), (144, ti144), (145, ti145), (146, ti146), (147, ti147), (148, ti148), (149, ti149), (150, ti150), (151, ti151), (152, ti152), (153, ti153), (154, ti154), (155, ti155), (156, ti156), (157, ti157), (158, ti158), (159, ti159), (160, ti160), (161, ti161), (162, ti162), (163, ti163), (164, ti164), (165, ti165), (166, ti166), (167, ti167), (168, ti168), (169, ti169), (170, ti170), (171, ti171), (172, ti172), (173, ti173), (174, ti174)]
def tyLook : List (Nat × TyI) → Nat → Option TyI
  | [], _ => none
  | (s, i) :: l, t => bif Nat.beq s t then some i else tyLook l t
def TyOK (p : Nat × TyI) : Prop := Try.prog.underlying p.1 = some p.2.desc ∧ (Try.prog.info? p.1).map (fun i => (i.size, i.bytes, i.zero, i.comparable)) = some (p.2.size, p.2.bytes, some p.2.zero, p.2.comparable)
theorem tyLook_ok (l : List (Nat × TyI)) (h : ∀ p ∈ l, TyOK p) (t : Nat) (i : TyI) (e : tyLook l t = some i) : TyOK (t, i) := by
  induction l with
  | nil => cases e
  | cons p l ih =>
    simp only [tyLook] at e
    cases hb : Nat.beq p.1 t with
    | true =>
      have := Nat.eq_of_beq_eq_true hb
      simp [hb] at e
      subst e; subst this
      exact h p (by simp)
    | false =>
      simp [hb] at e
      exact ih (fun q hq => h q (by simp [hq])) e
theorem to0 : TyOK (0, ti0) := ⟨by kernel_rfl, by kernel_rfl⟩
theorem to1 : TyOK (1, ti1) := ⟨by kernel_rfl, by kernel_rfl⟩
theorem to2 : TyOK (2, ti2) := ⟨by kernel_rfl, by kernel_rfl⟩
theorem to3 : TyOK (3, ti3) := ⟨by kernel_rfl, by kernel_rfl⟩
theorem to4 : TyOK (4, ti4) := ⟨by kernel_rfl, by kernel_rfl⟩
theorem to5 : TyOK (5, ti5) := ⟨by kernel_rfl, by kernel_rfl⟩
theorem to6 : TyOK (6, ti6) := ⟨by kernel_rfl, by kernel_rfl⟩
theorem to7 : TyOK (7, ti7) := ⟨by kernel_rfl, by kernel_rfl⟩
theorem to8 : TyOK (8, ti8) := ⟨by kernel_rfl, by kernel_rfl⟩
theorem to9 : TyOK (9, ti9) := ⟨by kernel_rfl, by kernel_rfl⟩
theorem to10 : TyOK (10, ti10) := ⟨by kernel_rfl, by kernel_rfl⟩
theorem to11 : TyOK (11, ti11) := ⟨by kernel_rfl, by kernel_rfl⟩
theorem to12 : TyOK (12, ti12) := ⟨by kernel_rfl, by kernel_rfl⟩
theorem to13 : TyOK (13, ti13) := ⟨by kernel_rfl, by kernel_rfl⟩
theorem to14 : TyOK (14, ti14) := ⟨by kernel_rfl, by kernel_rfl⟩
theorem to15 : TyOK (15, ti15) := ⟨by kernel_rfl, by kernel_rfl⟩
theorem to16 : TyOK (16, ti16) := ⟨by kernel_rfl, by kernel_rfl⟩
theorem to17 : TyOK (17, ti17) := ⟨by kernel_rfl, by kernel_rfl⟩
theorem to18 : TyOK (18, ti18) := ⟨by kernel_rfl, by kernel_rfl⟩
theorem to19 : TyOK (19, ti19) := ⟨by kernel_rfl, by kernel_rfl⟩
theorem to20 : TyOK (20, ti20) := ⟨by kernel_rfl, by kernel_rfl⟩
theorem to21 : TyOK (21, ti21) := ⟨by kernel_rfl, by kernel_rfl⟩
theorem to22 : TyOK (22, ti22) := ⟨by kernel_rfl, by kernel_rfl⟩
theorem to23 : TyOK (23, ti23) := ⟨by kernel_rfl, by kernel_rfl⟩
theorem to24 : TyOK (24, ti24) := ⟨by kernel_rfl, by kernel_rfl⟩
theorem to25 : TyOK (25, ti25) := ⟨by kernel_rfl, by kernel_rfl⟩
theorem to26 : TyOK (26, ti26) := ⟨by kernel_rfl, by kernel_rfl⟩
theorem to27 : TyOK (27, ti27) := ⟨by kernel_rfl, by kernel_rfl⟩
theorem to28 : TyOK (28, ti28) := ⟨by kernel_rfl, by kernel_rfl⟩
theorem to29 : TyOK (29, ti29) := ⟨by kernel_rfl, by kernel_rfl⟩
theorem to30 : TyOK (30, ti30) := ⟨by kernel_rfl, by kernel_rfl⟩
theorem to31 : TyOK (31, ti31) := ⟨by kernel_rfl, by kernel_rfl⟩
theorem to32 : TyOK (32, ti32) := ⟨by kernel_rfl, by kernel_rfl⟩
theorem to33 : TyOK (33, ti33) := ⟨by kernel_rfl, by kernel_rfl⟩
theorem to34 : TyOK (34, ti34) := ⟨by kernel_rfl, by kernel_rfl⟩
theorem to35 : TyOK (35, ti35) := ⟨by kernel_rfl, by kernel_rfl⟩
theorem to36 : TyOK (36, ti36) := ⟨by kernel_rfl, by kernel_rfl⟩
theorem to37 : TyOK (37, ti37) := ⟨by kernel_rfl, by kernel_rfl⟩
theorem to38 : TyOK (38, ti38) := ⟨by kernel_rfl, by kernel_rfl⟩
theorem to39 : TyOK (39, ti39) := ⟨by kernel_rfl, by kernel_rfl⟩
theorem to40 : TyOK (40, ti40) := ⟨by kernel_rfl, by kernel_rfl⟩
theorem to41 : TyOK (41, ti41) := ⟨by kernel_rfl, by kernel_rfl⟩
theorem to42 : TyOK (42, ti42) := ⟨by kernel_rfl, by kernel_rfl⟩
theorem to43 : TyOK (43, ti43) := ⟨by kernel_rfl, by kernel_rfl⟩
theorem to44 : TyOK (44, ti44) := ⟨by kernel_rfl, by kernel_rfl⟩
theorem to45 : TyOK (45, ti45) := ⟨by kernel_rfl, by kernel_rfl⟩
theorem to46 : TyOK (46, ti46) := ⟨by kernel_rfl, by kernel_rfl⟩
theorem to47 : TyOK (47, ti47) := ⟨by kernel_rfl, by kernel_rfl⟩
theorem to48 : TyOK (48, ti48) := ⟨by kernel_rfl, by kernel_rfl⟩
theorem to49 : TyOK (49, ti49) := ⟨by kernel_rfl, by kernel_rfl⟩
theorem to50 : TyOK (50, ti50) := ⟨by kernel_rfl, by kernel_rfl⟩
theorem to51 : TyOK (51, ti51) := ⟨by kernel_rfl, by kernel_rfl⟩
theorem to52 : TyOK (52, ti52) := ⟨by kernel_rfl, by kernel_rfl⟩
theorem to53 : TyOK (53, ti53) := ⟨by kernel_rfl, by kernel_rfl⟩
theorem to54 : TyOK (54, ti54) := ⟨by kernel_rfl, by kernel_rfl⟩
theorem to55 : TyOK (55, ti55) := ⟨by kernel_rfl, by kernel_rfl⟩
theorem to56 : TyOK (56, ti56) := ⟨by kernel_rfl, by kernel_rfl⟩
theorem to57 : TyOK (57, ti57) := ⟨by kernel_rfl, by kernel_rfl⟩
theorem to58 : TyOK (58, ti58) := ⟨by kernel_rfl, by kernel_rfl⟩
theorem to59 : TyOK (59, ti59) := ⟨by kernel_rfl, by kernel_rfl⟩
theorem to60 : TyOK (60, ti60) := ⟨by kernel_rfl, by kernel_rfl⟩
theorem to61 : TyOK (61, ti61) := ⟨by kernel_rfl, by kernel_rfl⟩
theorem to62 : TyOK (62, ti62) := ⟨by kernel_rfl, by kernel_rfl⟩
theorem to63 : TyOK (63, ti63) := ⟨by kernel_rfl, by kernel_rfl⟩
theorem to64 : TyOK (64, ti64) := ⟨by kernel_rfl, by kernel_rfl⟩
theorem to65 : TyOK (65, ti65) := ⟨by kernel_rfl, by kernel_rfl⟩
theorem to66 : TyOK (66, ti66) := ⟨by kernel_rfl, by kernel_rfl⟩
theorem to67 : TyOK (67, ti67) := ⟨by kernel_rfl, by kernel_rfl⟩
theorem to68 : TyOK (68, ti68) := ⟨by kernel_rfl, by kernel_rfl⟩
theorem to69 : TyOK (69, ti69) := ⟨by kernel_rfl, by kernel_rfl⟩
theorem to70 : TyOK (70, ti70) := ⟨by kernel_rfl, by kernel_rfl⟩
theorem to71 : TyOK (71, ti71) := ⟨by kernel_rfl, by kernel_rfl⟩
theorem to72 : TyOK (72, ti72) := ⟨by kernel_rfl, by kernel_rfl⟩
theorem to73 : TyOK (73, ti73) := ⟨by kernel_rfl, by kernel_rfl⟩
theorem to74 : TyOK (74, ti74) := ⟨by kernel_rfl, by kernel_rfl⟩
theorem to75 : TyOK (75, ti75) := ⟨by kernel_rfl, by kernel_rfl⟩
theorem to76 : TyOK (76, ti76) := ⟨by kernel_rfl, by kernel_rfl⟩
theorem to77 : TyOK (77, ti77) := ⟨by kernel_rfl, by kernel_rfl⟩
theorem to78 : TyOK (78, ti78) := ⟨by kernel_rfl, by kernel_rfl⟩
theorem to79 : TyOK (79, ti79) := ⟨by kernel_rfl, by kernel_rfl⟩
theorem to80 : TyOK (80, ti80) := ⟨by kernel_rfl, by kernel_rfl⟩
theorem to81 : TyOK (81, ti81) := ⟨by kernel_rfl, by kernel_rfl⟩
theorem to82 : TyOK (82, ti82) := ⟨by kernel_rfl, by kernel_rfl⟩
theorem to83 : TyOK (83, ti83) := ⟨by kernel_rfl, by kernel_rfl⟩
theorem to84 : TyOK (84, ti84) := ⟨by kernel_rfl, by kernel_rfl⟩
theorem to85 : TyOK (85, ti85) := ⟨by kernel_rfl, by kernel_rfl⟩
theorem to86 : TyOK (86, ti86) := ⟨by kernel_rfl, by kernel_rfl⟩
theorem to87 : TyOK (87, ti87) := ⟨by kernel_rfl, by kernel_rfl⟩
theorem to88 : TyOK (88, ti88) := ⟨by kernel_rfl, by kernel_rfl⟩
theorem to89 : TyOK (89, ti89) := ⟨by kernel_rfl, by kernel_rfl⟩
theorem to90 : TyOK (90, ti90) := ⟨by kernel_rfl, by kernel_rfl⟩
theorem to91 : TyOK (91, ti91) := ⟨by kernel_rfl, by kernel_rfl⟩
theorem to92 : TyOK (92, ti92) := ⟨by kernel_rfl, by kernel_rfl⟩
theorem to93 : TyOK (93, ti93) := ⟨by kernel_rfl, by kernel_rfl⟩
theorem to94 : TyOK (94, ti94) := ⟨by kernel_rfl, by kernel_rfl⟩
theorem to95 : TyOK (95, ti95) := ⟨by kernel_rfl, by kernel_rfl⟩
theorem to96 : TyOK (96, ti96) := ⟨by kernel_rfl, by kernel_rfl⟩
theorem to97 : TyOK (97, ti97) := ⟨by kernel_rfl, by kernel_rfl⟩
theorem to98 : TyOK (98, ti98) := ⟨by kernel_rfl, by kernel_rfl⟩
theorem to99 : TyOK (99, ti99) := ⟨by kernel_rfl, by kernel_rfl⟩
theorem to100 : TyOK (100, ti100) := ⟨by kernel_rfl, by kernel_rfl⟩
theorem to101 : TyOK (101, ti101) := ⟨by kernel_rfl, by kernel_rfl⟩
theorem to102 : TyOK (102, ti102) := ⟨by kernel_rfl, by kernel_rfl⟩
theorem to103 : TyOK (103, ti103) := ⟨by kernel_rfl, by kernel_rfl⟩
theorem to104 : TyOK (104, ti104) := ⟨by kernel_rfl, by kernel_rfl⟩
theorem to105 : TyOK (105, ti105) := ⟨by kernel_rfl, by kernel_rfl⟩
theorem to106 : TyOK (106, ti106) := ⟨by kernel_rfl, by kernel_rfl⟩
theorem to107 : TyOK (107, ti107) := ⟨by kernel_rfl, by kernel_rfl⟩
theorem to108 : TyOK (108, ti108) := ⟨by kernel_rfl, by kernel_rfl⟩
theorem to109 : TyOK (109, ti109) := ⟨by kernel_rfl, by kernel_rfl⟩
theorem to110 : TyOK (110, ti110) := ⟨by kernel_rfl, by kernel_rfl⟩
theorem to111 : TyOK (111, ti111) := ⟨by kernel_rfl, by kernel_rfl⟩
theorem to112 : TyOK (112, ti112) := ⟨by kernel_rfl, by kernel_rfl⟩
theorem to113 : TyOK (113, ti113) := ⟨by kernel_rfl, by kernel_rfl⟩
theorem to114 : TyOK (114, ti114) := ⟨by kernel_rfl, by kernel_rfl⟩
theorem to115 : TyOK (115, ti115) := ⟨by kernel_rfl, by kernel_rfl⟩
theorem to116 : TyOK (116, ti116) := ⟨by kernel_rfl, by kernel_rfl⟩
theorem to117 : TyOK (117, ti117) := ⟨by kernel_rfl, by kernel_rfl⟩
theorem to118 : TyOK (118, ti118) := ⟨by kernel_rfl, by kernel_rfl⟩
theorem to119 : TyOK (119, ti119) := ⟨by kernel_rfl, by kernel_rfl⟩
theorem to120 : TyOK (120, ti120) := ⟨by kernel_rfl, by kernel_rfl⟩
theorem to121 : TyOK (121, ti121) := ⟨by kernel_rfl, by kernel_rfl⟩
theorem to122 : TyOK (122, ti122) := ⟨by kernel_rfl, by kernel_rfl⟩
theorem to123 : TyOK (123, ti123) := ⟨by kernel_rfl, by kernel_rfl⟩
theorem to124 : TyOK (124, ti124) := ⟨by kernel_rfl, by kernel_rfl⟩
theorem to125 : TyOK (125, ti125) := ⟨by kernel_rfl, by kernel_rfl⟩
theorem to126 : TyOK (126, ti126) := ⟨by kernel_rfl, by kernel_rfl⟩
theorem to127 : TyOK (127, ti127) := ⟨by kernel_rfl, by kernel_rfl⟩
theorem to128 : TyOK (128, ti128) := ⟨by kernel_rfl, by kernel_rfl⟩
theorem to129 : TyOK (129, ti129) := ⟨by kernel_rfl, by kernel_rfl⟩
theorem to130 : TyOK (130, ti130) := ⟨by kernel_rfl, by kernel_rfl⟩
theorem to131 : TyOK (131, ti131) := ⟨by kernel_rfl, by kernel_rfl⟩
theorem to132 : TyOK (132, ti132) := ⟨by kernel_rfl, by kernel_rfl⟩
theorem to133 : TyOK (133, ti133) := ⟨by kernel_rfl, by kernel_rfl⟩
theorem to134 : TyOK (134, ti134) := ⟨by kernel_rfl, by kernel_rfl⟩
theorem to135 : TyOK (135, ti135) := ⟨by kernel_rfl, by kernel_rfl⟩
theorem to136 : TyOK (136, ti136) := ⟨by kernel_rfl, by kernel_rfl⟩
theorem to137 : TyOK (137, ti137) := ⟨by kernel_rfl, by kernel_rfl⟩
theorem to138 : TyOK (138, ti138) := ⟨by kernel_rfl, by kernel_rfl⟩
theorem to139 : TyOK (139, ti139) := ⟨by kernel_rfl, by kernel_rfl⟩
theorem to140 : TyOK (140, ti140) := ⟨by kernel_rfl, by kernel_rfl⟩
theorem to141 : TyOK (141, ti141) := ⟨by kernel_rfl, by kernel_rfl⟩
theorem to142 : TyOK (142, ti142) := ⟨by kernel_rfl, by kernel_rfl⟩
theorem to143 : TyOK (143, ti143) := ⟨by kernel_rfl, by kernel_rfl⟩
theorem to144 : TyOK (144, ti144) := ⟨by kernel_rfl, by kernel_rfl⟩
theorem to145 : TyOK (145, ti145) := ⟨by kernel_rfl, by kernel_rfl⟩
theorem to146 : TyOK (146, ti146) := ⟨by kernel_rfl, by kernel_rfl⟩
theorem to147 : TyOK (147, ti147) := ⟨by kernel_rfl, by kernel_rfl⟩
theorem to148 : TyOK (148, ti148) := ⟨by kernel_rfl, by kernel_rfl⟩
theorem to149 : TyOK (149, ti149) := ⟨by kernel_rfl, by kernel_rfl⟩
theorem to150 : TyOK (150, ti150) := ⟨by kernel_rfl, by kernel_rfl⟩
theorem to151 : TyOK (151, ti151) := ⟨by kernel_rfl, by kernel_rfl⟩
theorem to152 : TyOK (152, ti152) := ⟨by kernel_rfl, by kernel_rfl⟩
theorem to153 : TyOK (153, ti153) := ⟨by kernel_rfl, by kernel_rfl⟩
theorem to154 : TyOK (154, ti154) := ⟨by kernel_rfl, by kernel_rfl⟩
theorem to155 : TyOK (155, ti155) := ⟨by kernel_rfl, by kernel_rfl⟩
theorem to156 : TyOK (156, ti156) := ⟨by kernel_rfl, by kernel_rfl⟩
theorem to157 : TyOK (157, ti157) := ⟨by kernel_rfl, by kernel_rfl⟩
theorem to158 : TyOK (158, ti158) := ⟨by kernel_rfl, by kernel_rfl⟩
theorem to159 : TyOK (159, ti159) := ⟨by kernel_rfl, by kernel_rfl⟩
theorem to160 : TyOK (160, ti160) := ⟨by kernel_rfl, by kernel_rfl⟩
theorem to161 : TyOK (161, ti161) := ⟨by kernel_rfl, by kernel_rfl⟩
theorem to162 : TyOK (162, ti162) := ⟨by kernel_rfl, by kernel_rfl⟩
theorem to163 : TyOK (163, ti163) := ⟨by kernel_rfl, by kernel_rfl⟩
theorem to164 : TyOK (164, ti164) := ⟨by kernel_rfl, by kernel_rfl⟩
theorem to165 : TyOK (165, ti165) := ⟨by kernel_rfl, by kernel_rfl⟩
theorem to166 : TyOK (166, ti166) := ⟨by kernel_rfl, by kernel_rfl⟩
theorem to167 : TyOK (167, ti167) := ⟨by kernel_rfl, by kernel_rfl⟩
theorem to168 : TyOK (168, ti168) := ⟨by kernel_rfl, by kernel_rfl⟩
theorem to169 : TyOK (169, ti169) := ⟨by kernel_rfl, by kernel_rfl⟩
theorem to170 : TyOK (170, ti170) := ⟨by kernel_rfl, by kernel_rfl⟩
theorem to171 : TyOK (171, ti171) := ⟨by kernel_rfl, by kernel_rfl⟩
theorem to172 : TyOK (172, ti172) := ⟨by kernel_rfl, by kernel_rfl⟩
theorem to173 : TyOK (173, ti173) := ⟨by kernel_rfl, by kernel_rfl⟩
theorem to174 : TyOK (174, ti174) := ⟨by kernel_rfl, by kernel_rfl⟩
set_option maxRecDepth 100000 in
theorem tyTab_ok : ∀ p ∈ tyTab, TyOK p := by
  intro p hp
  simp only [tyTab, List.mem_cons, List.not_mem_nil, or_false] at hp
  rcases hp with rfl | rfl | rfl | rfl | rfl | rfl | rfl | rfl | rfl | rfl | rfl | rfl | rfl | rfl | rfl | rfl | rfl | rfl | rfl | rfl | rfl | rfl | rfl | rfl | rfl | rfl | rfl | rfl | rfl | rfl | rfl | rfl | rfl | rfl | rfl | rfl | rfl | rfl | rfl | rfl | rfl | rfl | rfl | rfl | rfl | rfl | rfl | rfl | rfl | rfl | rfl | rfl | rfl | rfl | rfl | rfl | rfl | rfl | rfl | rfl | rfl | rfl | rfl | rfl | rfl | rfl | rfl | rfl | rfl | rfl | rfl | rfl | rfl | rfl | rfl | rfl | rfl | rfl | rfl | rfl | rfl | rfl | rfl | rfl | rfl | rfl | rfl | rfl | rfl | rfl | rfl | rfl | rfl | rfl | rfl | rfl | rfl | rfl | rfl | rfl | rfl | rfl | rfl | rfl | rfl | rfl | rfl | rfl | rfl | rfl | rfl | rfl | rfl | rfl | rfl | rfl | rfl | rfl | rfl | rfl | rfl | rfl | rfl | rfl | rfl | rfl | rfl | rfl | rfl | rfl | rfl | rfl | rfl | rfl | rfl | rfl | rfl | rfl | rfl | rfl | rfl | rfl | rfl | rfl | rfl | rfl | rfl | rfl | rfl | rfl | rfl | rfl | rfl | rfl | rfl | rfl | rfl | rfl | rfl | rfl | rfl | rfl | rfl | rfl | rfl | rfl | rfl | rfl | rfl | rfl | rfl | rfl | rfl | rfl | rfl
  · exact to0
  · exact to1
  · exact to2
  · exact to3
  · exact to4
  · exact to5
  · exact to6
  · exact to7
  · exact to8
  · exact to9
  · exact to10
  · exact to11
  · exact to12
  · exact to13
  · exact to14
  · exact to15
  · exact to16
  · exact to17
  · exact to18
  · exact to19
  · exact to20
  · exact to21
  · exact to22
  · exact to23
  · exact to24
  · exact to25
  · exact to26
  · exact to27
  · exact to28
  · exact to29
  · exact to30
  · exact to31
  · exact to32
  · exact to33
  · exact to34
  · exact to35
  · exact to36
  · exact to37
  · exact to38
  · exact to39
  · exact to40
  · exact to41
  · exact to42
  · exact to43
  · exact to44
  · exact to45
  · exact to46
  · exact to47
  · exact to48
  · exact to49
  · exact to50
  · exact to51
  · exact to52
  · exact to53
  · exact to54
  · exact to55
  · exact to56
  · exact to57
  · exact to58
  · exact to59
  · exact to60
  · exact to61
  · exact to62
  · exact to63
  · exact to64
  · exact to65
  · exact to66
  · exact to67
  · exact to68
  · exact to69
  · exact to70
  · exact to71
  · exact to72
  · exact to73
  · exact to74
  · exact to75
  · exact to76
  · exact to77
  · exact to78
  · exact to79
  · exact to80
  · exact to81
  · exact to82
  · exact to83
  · exact to84
  · exact to85
  · exact to86
  · exact to87
  · exact to88
  · exact to89
  · exact to90
  · exact to91
  · exact to92
  · exact to93
  · exact to94
  · exact to95
  · exact to96
  · exact to97
  · exact to98
  · exact to99
  · exact to100
  · exact to101
  · exact to102
  · exact to103
  · exact to104
  · exact to105
  · exact to106
  · exact to107
  · exact to108
  · exact to109
  · exact to110
  · exact to111
  · exact to112
  · exact to113
  · exact to114
  · exact to115
  · exact to116
  · exact to117
  · exact to118
  · exact to119
  · exact to120
  · exact to121
  · exact to122
  · exact to123
  · exact to124
  · exact to125
  · exact to126
  · exact to127
  · exact to128
  · exact to129
  · exact to130
  · exact to131
  · exact to132
  · exact to133
  · exact to134
  · exact to135
  · exact to136
  · exact to137
  · exact to138
  · exact to139
  · exact to140
  · exact to141
  · exact to142
  · exact to143
  · exact to144
  · exact to145
  · exact to146
  · exact to147
  · exact to148
  · exact to149
  · exact to150
  · exact to151
  · exact to152
  · exact to153
  · exact to154
  · exact to155
  · exact to156
  · exact to157
  · exact to158
  · exact to159
  · exact to160
  · exact to161
  · exact to162
  · exact to163
  · exact to164
  · exact to165
  · exact to166
  · exact to167
  · exact to168
  · exact to169
  · exact to170
  · exact to171
  · exact to172
  · exact to173
  · exact to174
def Ty : Tab Try.prog where
  tt := tyLook tyTab
  ok := by
    intro t i h
    obtain ⟨h1, h2⟩ := tyLook_ok tyTab tyTab_ok t i h
    refine ⟨h1, ?_⟩
    obtain ⟨I, hI, hE⟩ := Option.map_eq_some_iff.1 h2
    simp only [Prod.mk.injEq] at hE
    exact ⟨I, hI, hE.1, hE.2.1, hE.2.2.1, hE.2.2.2⟩
theorem nm3 : (Try.f3.name == "runtime.NumGoroutine") = false := by kernel_rfl
/-- ephemeris/ephemerislaw14.ModlForms -/
theorem in3 {ρ : Hp} {Hs : List HP} {Q : Value → HP} {args : List Value} {c : Code} (hb : Try.f3.body = some c) (hn : Nat.ble args.length Try.f3.ntmps = true) (h : W Try.prog Try.f3 ρ Q [.code c] (argEnv 0 args) Hs) : Fn Try.prog 3 args.toArray ρ Hs Q := Fn.of_code Try.func3 hb nm3 hn h
theorem nm4 : (Try.f4.name == "runtime.NumGoroutine") = false := by kernel_rfl
/-- ephemeris/ephemerislaw14.ModlEdges -/
theorem in4 {ρ : Hp} {Hs : List HP} {Q : Value → HP} {args : List Value} {c : Code} (hb : Try.f4.body = some c) (hn : Nat.ble args.length Try.f4.ntmps = true) (h : W Try.prog Try.f4 ρ Q [.code c] (argEnv 0 args) Hs) : Fn Try.prog 4 args.toArray ρ Hs Q := Fn.of_code Try.func4 hb nm4 hn h
theorem nm10 : (Try.f10.name == "runtime.NumGoroutine") = false := by kernel_rfl
/-- ephemeris/ephemerislaw25.HistOne -/
theorem in10 {ρ : Hp} {Hs : List HP} {Q : Value → HP} {args : List Value} {c : Code} (hb : Try.f10.body = some c) (hn : Nat.ble args.length Try.f10.ntmps = true) (h : W Try.prog Try.f10 ρ Q [.code c] (argEnv 0 args) Hs) : Fn Try.prog 10 args.toArray ρ Hs Q := Fn.of_code Try.func10 hb nm10 hn h
theorem nm15 : (Try.f15.name == "runtime.NumGoroutine") = false := by kernel_rfl
/-- ephemeris/modl.Do -/
theorem in15 {ρ : Hp} {Hs : List HP} {Q : Value → HP} {args : List Value} {c : Code} (hb : Try.f15.body = some c) (hn : Nat.ble args.length Try.f15.ntmps = true) (h : W Try.prog Try.f15 ρ Q [.code c] (argEnv 0 args) Hs) : Fn Try.prog 15 args.toArray ρ Hs Q := Fn.of_code Try.func15 hb nm15 hn h
theorem nm19 : (Try.f19.name == "runtime.NumGoroutine") = false := by kernel_rfl
/-- ephemeris/ephemerislaw14.Op -/
theorem in19 {ρ : Hp} {Hs : List HP} {Q : Value → HP} {args : List Value} {c : Code} (hb : Try.f19.body = some c) (hn : Nat.ble args.length Try.f19.ntmps = true) (h : W Try.prog Try.f19 ρ Q [.code c] (argEnv 0 args) Hs) : Fn Try.prog 19 args.toArray ρ Hs Q := Fn.of_code Try.func19 hb nm19 hn h
theorem nm20 : (Try.f20.name == "runtime.NumGoroutine") = false := by kernel_rfl
/-- ephemeris/ephemerisref14.Do -/
theorem in20 {ρ : Hp} {Hs : List HP} {Q : Value → HP} {args : List Value} {c : Code} (hb : Try.f20.body = some c) (hn : Nat.ble args.length Try.f20.ntmps = true) (h : W Try.prog Try.f20 ρ Q [.code c] (argEnv 0 args) Hs) : Fn Try.prog 20 args.toArray ρ Hs Q := Fn.of_code Try.func20 hb nm20 hn h
theorem nm23 : (Try.f23.name == "runtime.NumGoroutine") = false := by kernel_rfl
/-- ephemeris/modl.SameResult -/
theorem in23 {ρ : Hp} {Hs : List HP} {Q : Value → HP} {args : List Value} {c : Code} (hb : Try.f23.body = some c) (hn : Nat.ble args.length Try.f23.ntmps = true) (h : W Try.prog Try.f23 ρ Q [.code c] (argEnv 0 args) Hs) : Fn Try.prog 23 args.toArray ρ Hs Q := Fn.of_code Try.func23 hb nm23 hn h
theorem nm25 : (Try.f25.name == "runtime.NumGoroutine") = false := by kernel_rfl
/-- ephemeris/hist.Replay -/
theorem in25 {ρ : Hp} {Hs : List HP} {Q : Value → HP} {args : List Value} {c : Code} (hb : Try.f25.body = some c) (hn : Nat.ble args.length Try.f25.ntmps = true) (h : W Try.prog Try.f25 ρ Q [.code c] (argEnv 0 args) Hs) : Fn Try.prog 25 args.toArray ρ Hs Q := Fn.of_code Try.func25 hb nm25 hn h
theorem nm26 : (Try.f26.name == "runtime.NumGoroutine") = false := by kernel_rfl
/-- ephemeris/ephemerislaw25.awake -/
theorem in26 {ρ : Hp} {Hs : List HP} {Q : Value → HP} {args : List Value} {c : Code} (hb : Try.f26.body = some c) (hn : Nat.ble args.length Try.f26.ntmps = true) (h : W Try.prog Try.f26 ρ Q [.code c] (argEnv 0 args) Hs) : Fn Try.prog 26 args.toArray ρ Hs Q := Fn.of_code Try.func26 hb nm26 hn h
theorem nm28 : (Try.f28.name == "runtime.NumGoroutine") = false := by kernel_rfl
/-- ephemeris/hist.Check -/
theorem in28 {ρ : Hp} {Hs : List HP} {Q : Value → HP} {args : List Value} {c : Code} (hb : Try.f28.body = some c) (hn : Nat.ble args.length Try.f28.ntmps = true) (h : W Try.prog Try.f28 ρ Q [.code c] (argEnv 0 args) Hs) : Fn Try.prog 28 args.toArray ρ Hs Q := Fn.of_code Try.func28 hb nm28 hn h
theorem nm45 : (Try.f45.name == "runtime.NumGoroutine") = false := by kernel_rfl
/-- ephemeris/modl.Bad -/
theorem in45 {ρ : Hp} {Hs : List HP} {Q : Value → HP} {args : List Value} {c : Code} (hb : Try.f45.body = some c) (hn : Nat.ble args.length Try.f45.ntmps = true) (h : W Try.prog Try.f45 ρ Q [.code c] (argEnv 0 args) Hs) : Fn Try.prog 45 args.toArray ρ Hs Q := Fn.of_code Try.func45 hb nm45 hn h
theorem nm46 : (Try.f46.name == "runtime.NumGoroutine") = false := by kernel_rfl
/-- ephemeris/modl.Still -/
theorem in46 {ρ : Hp} {Hs : List HP} {Q : Value → HP} {args : List Value} {c : Code} (hb : Try.f46.body = some c) (hn : Nat.ble args.length Try.f46.ntmps = true) (h : W Try.prog Try.f46 ρ Q [.code c] (argEnv 0 args) Hs) : Fn Try.prog 46 args.toArray ρ Hs Q := Fn.of_code Try.func46 hb nm46 hn h
theorem nm47 : (Try.f47.name == "runtime.NumGoroutine") = false := by kernel_rfl
/-- ephemeris/modl.iters -/
theorem in47 {ρ : Hp} {Hs : List HP} {Q : Value → HP} {args : List Value} {c : Code} (hb : Try.f47.body = some c) (hn : Nat.ble args.length Try.f47.ntmps = true) (h : W Try.prog Try.f47 ρ Q [.code c] (argEnv 0 args) Hs) : Fn Try.prog 47 args.toArray ρ Hs Q := Fn.of_code Try.func47 hb nm47 hn h
theorem nm48 : (Try.f48.name == "runtime.NumGoroutine") = false := by kernel_rfl
/-- ephemeris/modl.series -/
theorem in48 {ρ : Hp} {Hs : List HP} {Q : Value → HP} {args : List Value} {c : Code} (hb : Try.f48.body = some c) (hn : Nat.ble args.length Try.f48.ntmps = true) (h : W Try.prog Try.f48 ρ Q [.code c] (argEnv 0 args) Hs) : Fn Try.prog 48 args.toArray ρ Hs Q := Fn.of_code Try.func48 hb nm48 hn h
theorem nm49 : (Try.f49.name == "runtime.NumGoroutine") = false := by kernel_rfl
/-- ephemeris/ephemerisref14.copied -/
theorem in49 {ρ : Hp} {Hs : List HP} {Q : Value → HP} {args : List Value} {c : Code} (hb : Try.f49.body = some c) (hn : Nat.ble args.length Try.f49.ntmps = true) (h : W Try.prog Try.f49 ρ Q [.code c] (argEnv 0 args) Hs) : Fn Try.prog 49 args.toArray ρ Hs Q := Fn.of_code Try.func49 hb nm49 hn h
theorem nm50 : (Try.f50.name == "runtime.NumGoroutine") = false := by kernel_rfl
/-- ephemeris/ephemerisref14.at -/
theorem in50 {ρ : Hp} {Hs : List HP} {Q : Value → HP} {args : List Value} {c : Code} (hb : Try.f50.body = some c) (hn : Nat.ble args.length Try.f50.ntmps = true) (h : W Try.prog Try.f50 ρ Q [.code c] (argEnv 0 args) Hs) : Fn Try.prog 50 args.toArray ρ Hs Q := Fn.of_code Try.func50 hb nm50 hn h
theorem nm51 : (Try.f51.name == "runtime.NumGoroutine") = false := by kernel_rfl
/-- ephemeris/ephemerisref14.iter -/
theorem in51 {ρ : Hp} {Hs : List HP} {Q : Value → HP} {args : List Value} {c : Code} (hb : Try.f51.body = some c) (hn : Nat.ble args.length Try.f51.ntmps = true) (h : W Try.prog Try.f51 ρ Q [.code c] (argEnv 0 args) Hs) : Fn Try.prog 51 args.toArray ρ Hs Q := Fn.of_code Try.func51 hb nm51 hn h
theorem nm52 : (Try.f52.name == "runtime.NumGoroutine") = false := by kernel_rfl
/-- ephemeris/ephemerisref14.begun -/
theorem in52 {ρ : Hp} {Hs : List HP} {Q : Value → HP} {args : List Value} {c : Code} (hb : Try.f52.body = some c) (hn : Nat.ble args.length Try.f52.ntmps = true) (h : W Try.prog Try.f52 ρ Q [.code c] (argEnv 0 args) Hs) : Fn Try.prog 52 args.toArray ρ Hs Q := Fn.of_code Try.func52 hb nm52 hn h
theorem nm53 : (Try.f53.name == "runtime.NumGoroutine") = false := by kernel_rfl
/-- ephemeris/ephemerisref14.own -/
theorem in53 {ρ : Hp} {Hs : List HP} {Q : Value → HP} {args : List Value} {c : Code} (hb : Try.f53.body = some c) (hn : Nat.ble args.length Try.f53.ntmps = true) (h : W Try.prog Try.f53 ρ Q [.code c] (argEnv 0 args) Hs) : Fn Try.prog 53 args.toArray ρ Hs Q := Fn.of_code Try.func53 hb nm53 hn h
theorem nm54 : (Try.f54.name == "runtime.NumGoroutine") = false := by kernel_rfl
/-- ephemeris/ephemerisref14.within -/
theorem in54 {ρ : Hp} {Hs : List HP} {Q : Value → HP} {args : List Value} {c : Code} (hb : Try.f54.body = some c) (hn : Nat.ble args.length Try.f54.ntmps = true) (h : W Try.prog Try.f54 ρ Q [.code c] (argEnv 0 args) Hs) : Fn Try.prog 54 args.toArray ρ Hs Q := Fn.of_code Try.func54 hb nm54 hn h
theorem nm56 : (Try.f56.name == "runtime.NumGoroutine") = false := by kernel_rfl
/-- slices.Equal[[]ephemeris/api.Sample,ephemeris/api.Sample] -/
theorem in56 {ρ : Hp} {Hs : List HP} {Q : Value → HP} {args : List Value} {c : Code} (hb : Try.f56.body = some c) (hn : Nat.ble args.length Try.f56.ntmps = true) (h : W Try.prog Try.f56 ρ Q [.code c] (argEnv 0 args) Hs) : Fn Try.prog 56 args.toArray ρ Hs Q := Fn.of_code Try.func56 hb nm56 hn h
theorem nm60 : (Try.f60.name == "runtime.NumGoroutine") = false := by kernel_rfl
/-- ephemeris/hist.calls -/
theorem in60 {ρ : Hp} {Hs : List HP} {Q : Value → HP} {args : List Value} {c : Code} (hb : Try.f60.body = some c) (hn : Nat.ble args.length Try.f60.ntmps = true) (h : W Try.prog Try.f60 ρ Q [.code c] (argEnv 0 args) Hs) : Fn Try.prog 60 args.toArray ρ Hs Q := Fn.of_code Try.func60 hb nm60 hn h
theorem nm62 : (Try.f62.name == "runtime.NumGoroutine") = false := by kernel_rfl
/-- ephemeris/hist.places -/
theorem in62 {ρ : Hp} {Hs : List HP} {Q : Value → HP} {args : List Value} {c : Code} (hb : Try.f62.body = some c) (hn : Nat.ble args.length Try.f62.ntmps = true) (h : W Try.prog Try.f62 ρ Q [.code c] (argEnv 0 args) Hs) : Fn Try.prog 62 args.toArray ρ Hs Q := Fn.of_code Try.func62 hb nm62 hn h
theorem nm63 : (Try.f63.name == "runtime.NumGoroutine") = false := by kernel_rfl
/-- ephemeris/hist.over -/
theorem in63 {ρ : Hp} {Hs : List HP} {Q : Value → HP} {args : List Value} {c : Code} (hb : Try.f63.body = some c) (hn : Nat.ble args.length Try.f63.ntmps = true) (h : W Try.prog Try.f63 ρ Q [.code c] (argEnv 0 args) Hs) : Fn Try.prog 63 args.toArray ρ Hs Q := Fn.of_code Try.func63 hb nm63 hn h
theorem nm82 : (Try.f82.name == "runtime.NumGoroutine") = false := by kernel_rfl
/-- slices.Clone[[]ephemeris/api.Series,ephemeris/api.Series] -/
theorem in82 {ρ : Hp} {Hs : List HP} {Q : Value → HP} {args : List Value} {c : Code} (hb : Try.f82.body = some c) (hn : Nat.ble args.length Try.f82.ntmps = true) (h : W Try.prog Try.f82 ρ Q [.code c] (argEnv 0 args) Hs) : Fn Try.prog 82 args.toArray ρ Hs Q := Fn.of_code Try.func82 hb nm82 hn h
theorem nm83 : (Try.f83.name == "runtime.NumGoroutine") = false := by kernel_rfl
/-- slices.Clone[[]ephemeris/api.Iter,ephemeris/api.Iter] -/
theorem in83 {ρ : Hp} {Hs : List HP} {Q : Value → HP} {args : List Value} {c : Code} (hb : Try.f83.body = some c) (hn : Nat.ble args.length Try.f83.ntmps = true) (h : W Try.prog Try.f83 ρ Q [.code c] (argEnv 0 args) Hs) : Fn Try.prog 83 args.toArray ρ Hs Q := Fn.of_code Try.func83 hb nm83 hn h
theorem nm84 : (Try.f84.name == "runtime.NumGoroutine") = false := by kernel_rfl
/-- slices.Clone[[]ephemeris/api.Sample,ephemeris/api.Sample] -/
theorem in84 {ρ : Hp} {Hs : List HP} {Q : Value → HP} {args : List Value} {c : Code} (hb : Try.f84.body = some c) (hn : Nat.ble args.length Try.f84.ntmps = true) (h : W Try.prog Try.f84 ρ Q [.code c] (argEnv 0 args) Hs) : Fn Try.prog 84 args.toArray ρ Hs Q := Fn.of_code Try.func84 hb nm84 hn h
theorem nm85 : (Try.f85.name == "runtime.NumGoroutine") = false := by kernel_rfl
/-- slices.IndexFunc[[]ephemeris/api.Iter,ephemeris/api.Iter] -/
theorem in85 {ρ : Hp} {Hs : List HP} {Q : Value → HP} {args : List Value} {c : Code} (hb : Try.f85.body = some c) (hn : Nat.ble args.length Try.f85.ntmps = true) (h : W Try.prog Try.f85 ρ Q [.code c] (argEnv 0 args) Hs) : Fn Try.prog 85 args.toArray ρ Hs Q := Fn.of_code Try.func85 hb nm85 hn h
theorem nm86 : (Try.f86.name == "runtime.NumGoroutine") = false := by kernel_rfl
/-- ephemeris/modl.iters$1 -/
theorem in86 {ρ : Hp} {Hs : List HP} {Q : Value → HP} {args : List Value} {c : Code} (hb : Try.f86.body = some c) (hn : Nat.ble args.length Try.f86.ntmps = true) (h : W Try.prog Try.f86 ρ Q [.code c] (argEnv 0 args) Hs) : Fn Try.prog 86 args.toArray ρ Hs Q := Fn.of_code Try.func86 hb nm86 hn h
theorem nm87 : (Try.f87.name == "runtime.NumGoroutine") = false := by kernel_rfl
/-- slices.Delete[[]ephemeris/api.Iter,ephemeris/api.Iter] -/
theorem in87 {ρ : Hp} {Hs : List HP} {Q : Value → HP} {args : List Value} {c : Code} (hb : Try.f87.body = some c) (hn : Nat.ble args.length Try.f87.ntmps = true) (h : W Try.prog Try.f87 ρ Q [.code c] (argEnv 0 args) Hs) : Fn Try.prog 87 args.toArray ρ Hs Q := Fn.of_code Try.func87 hb nm87 hn h
theorem nm88 : (Try.f88.name == "runtime.NumGoroutine") = false := by kernel_rfl
/-- ephemeris/modl.find -/
theorem in88 {ρ : Hp} {Hs : List HP} {Q : Value → HP} {args : List Value} {c : Code} (hb : Try.f88.body = some c) (hn : Nat.ble args.length Try.f88.ntmps = true) (h : W Try.prog Try.f88 ρ Q [.code c] (argEnv 0 args) Hs) : Fn Try.prog 88 args.toArray ρ Hs Q := Fn.of_code Try.func88 hb nm88 hn h
theorem nm89 : (Try.f89.name == "runtime.NumGoroutine") = false := by kernel_rfl
/-- ephemeris/modl.add -/
theorem in89 {ρ : Hp} {Hs : List HP} {Q : Value → HP} {args : List Value} {c : Code} (hb : Try.f89.body = some c) (hn : Nat.ble args.length Try.f89.ntmps = true) (h : W Try.prog Try.f89 ρ Q [.code c] (argEnv 0 args) Hs) : Fn Try.prog 89 args.toArray ρ Hs Q := Fn.of_code Try.func89 hb nm89 hn h
theorem nm90 : (Try.f90.name == "runtime.NumGoroutine") = false := by kernel_rfl
/-- ephemeris/modl.Within -/
theorem in90 {ρ : Hp} {Hs : List HP} {Q : Value → HP} {args : List Value} {c : Code} (hb : Try.f90.body = some c) (hn : Nat.ble args.length Try.f90.ntmps = true) (h : W Try.prog Try.f90 ρ Q [.code c] (argEnv 0 args) Hs) : Fn Try.prog 90 args.toArray ρ Hs Q := Fn.of_code Try.func90 hb nm90 hn h
theorem nm91 : (Try.f91.name == "runtime.NumGoroutine") = false := by kernel_rfl
/-- slices.Delete[[]ephemeris/api.Series,ephemeris/api.Series] -/
theorem in91 {ρ : Hp} {Hs : List HP} {Q : Value → HP} {args : List Value} {c : Code} (hb : Try.f91.body = some c) (hn : Nat.ble args.length Try.f91.ntmps = true) (h : W Try.prog Try.f91 ρ Q [.code c] (argEnv 0 args) Hs) : Fn Try.prog 91 args.toArray ρ Hs Q := Fn.of_code Try.func91 hb nm91 hn h
theorem nm111 : (Try.f111.name == "runtime.NumGoroutine") = false := by kernel_rfl
/-- slices.IndexFunc[[]ephemeris/api.Series,ephemeris/api.Series] -/
theorem in111 {ρ : Hp} {Hs : List HP} {Q : Value → HP} {args : List Value} {c : Code} (hb : Try.f111.body = some c) (hn : Nat.ble args.length Try.f111.ntmps = true) (h : W Try.prog Try.f111 ρ Q [.code c] (argEnv 0 args) Hs) : Fn Try.prog 111 args.toArray ρ Hs Q := Fn.of_code Try.func111 hb nm111 hn h
theorem nm112 : (Try.f112.name == "runtime.NumGoroutine") = false := by kernel_rfl
/-- ephemeris/modl.find$1 -/
theorem in112 {ρ : Hp} {Hs : List HP} {Q : Value → HP} {args : List Value} {c : Code} (hb : Try.f112.body = some c) (hn : Nat.ble args.length Try.f112.ntmps = true) (h : W Try.prog Try.f112 ρ Q [.code c] (argEnv 0 args) Hs) : Fn Try.prog 112 args.toArray ρ Hs Q := Fn.of_code Try.func112 hb nm112 hn h
theorem nm113 : (Try.f113.name == "runtime.NumGoroutine") = false := by kernel_rfl
/-- slices.Insert[[]ephemeris/api.Series,ephemeris/api.Series] -/
theorem in113 {ρ : Hp} {Hs : List HP} {Q : Value → HP} {args : List Value} {c : Code} (hb : Try.f113.body = some c) (hn : Nat.ble args.length Try.f113.ntmps = true) (h : W Try.prog Try.f113 ρ Q [.code c] (argEnv 0 args) Hs) : Fn Try.prog 113 args.toArray ρ Hs Q := Fn.of_code Try.func113 hb nm113 hn h
theorem nm114 : (Try.f114.name == "runtime.NumGoroutine") = false := by kernel_rfl
/-- slices.Clip[[]ephemeris/api.Sample,ephemeris/api.Sample] -/
theorem in114 {ρ : Hp} {Hs : List HP} {Q : Value → HP} {args : List Value} {c : Code} (hb : Try.f114.body = some c) (hn : Nat.ble args.length Try.f114.ntmps = true) (h : W Try.prog Try.f114 ρ Q [.code c] (argEnv 0 args) Hs) : Fn Try.prog 114 args.toArray ρ Hs Q := Fn.of_code Try.func114 hb nm114 hn h
end Go.Proofs.Ytbebhmdjnneimaa
