/- The types and functions of this translation, as the rules look them up. Written by wip/tab.py out of the translation's own rows. -/
import Derived.Test.YtlmhjkbbooghfaaMem
import Derived.Test.YtlmhjkbbooghfaaProg
import Derived.KernelRfl
set_option linter.unusedVariables false
namespace Go.Proofs.Ytlmhjkbbooghfaa
open Go
def ti0 : TyI := ⟨.tuple #[], 1, 0, .tuple #[], false⟩
def ti1 : TyI := ⟨.func #[] #[] false, 1, 8, .nilFunc, false⟩
def ti2 : TyI := ⟨.int .i64, 1, 8, .int .i64 0, true⟩
def ti3 : TyI := ⟨.int .i64, 1, 8, .int .i64 0, true⟩
def ti4 : TyI := ⟨.bool, 1, 1, .bool false, true⟩
def ti5 : TyI := ⟨.int .u8, 1, 1, .int .u8 0, true⟩
def ti6 : TyI := ⟨.int .u8, 1, 1, .int .u8 0, true⟩
def ti7 : TyI := ⟨.struct #[⟨ "x", 2, 0, false, "", "runtime", 0⟩, ⟨ "y", 3, 1, false, "", "runtime", 8⟩, ⟨ "signed", 4, 2, false, "", "runtime", 16⟩, ⟨ "code", 6, 3, false, "", "runtime", 17⟩], 4, 24, .agg #[.int .i64 0, .int .i64 0, .bool false, .int .u8 0], true⟩
def ti8 : TyI := ⟨.struct #[⟨ "x", 2, 0, false, "", "runtime", 0⟩, ⟨ "y", 3, 1, false, "", "runtime", 8⟩, ⟨ "signed", 4, 2, false, "", "runtime", 16⟩, ⟨ "code", 6, 3, false, "", "runtime", 17⟩], 4, 24, .agg #[.int .i64 0, .int .i64 0, .bool false, .int .u8 0], true⟩
def ti9 : TyI := ⟨.string, 1, 16, .string ByteArray.empty, true⟩
def ti10 : TyI := ⟨.string, 1, 16, .string ByteArray.empty, true⟩
def ti11 : TyI := ⟨.string, 1, 16, .string ByteArray.empty, true⟩
def ti12 : TyI := ⟨.int .u64, 1, 8, .int .u64 0, true⟩
def ti13 : TyI := ⟨.struct #[⟨ "msg", 9, 0, false, "", "runtime", 0⟩, ⟨ "addr", 12, 1, false, "", "runtime", 16⟩], 2, 24, .agg #[.string ByteArray.empty, .int .u64 0], true⟩
def ti14 : TyI := ⟨.struct #[⟨ "msg", 9, 0, false, "", "runtime", 0⟩, ⟨ "addr", 12, 1, false, "", "runtime", 16⟩], 2, 24, .agg #[.string ByteArray.empty, .int .u64 0], true⟩
def ti15 : TyI := ⟨.pointer 140, 1, 8, .pointer none, true⟩
def ti16 : TyI := ⟨.pointer 143, 1, 8, .pointer none, true⟩
def ti17 : TyI := ⟨.pointer 152, 1, 8, .pointer none, true⟩
def ti18 : TyI := ⟨.struct #[⟨ "typ", 17, 0, false, "", "internal/runtime/maps", 0⟩], 1, 8, .agg #[.pointer none], true⟩
def ti19 : TyI := ⟨.struct #[⟨ "typ", 17, 0, false, "", "internal/runtime/maps", 0⟩], 1, 8, .agg #[.pointer none], true⟩
def ti20 : TyI := ⟨.interface #[], 1, 16, .nilIface, true⟩
def ti21 : TyI := ⟨.int .i32, 1, 4, .int .i32 0, true⟩
def ti22 : TyI := ⟨.slice 3, 1, 24, .slice none 0 0, false⟩
def ti23 : TyI := ⟨.pointer 101, 1, 8, .pointer none, true⟩
def ti24 : TyI := ⟨.func #[] #[23] false, 1, 8, .nilFunc, false⟩
def ti25 : TyI := ⟨.array 16 3, 16, 128, .agg #[.int .i64 0, .int .i64 0, .int .i64 0, .int .i64 0, .int .i64 0, .int .i64 0, .int .i64 0, .int .i64 0, .int .i64 0, .int .i64 0, .int .i64 0, .int .i64 0, .int .i64 0, .int .i64 0, .int .i64 0, .int .i64 0], true⟩
def ti26 : TyI := ⟨.int .u64, 1, 8, .int .u64 0, true⟩
def ti27 : TyI := ⟨.slice 43, 1, 24, .slice none 0 0, false⟩
def ti28 : TyI := ⟨.struct #[⟨ "Any", 4, 0, false, "", "", 0⟩, ⟨ "Last", 2, 1, false, "", "", 8⟩, ⟨ "List", 27, 2, false, "", "", 16⟩], 3, 40, .agg #[.bool false, .int .i64 0, .slice none 0 0], false⟩
def ti29 : TyI := ⟨.struct #[⟨ "Any", 4, 0, false, "", "", 0⟩, ⟨ "Last", 2, 1, false, "", "", 8⟩, ⟨ "List", 27, 2, false, "", "", 16⟩], 3, 40, .agg #[.bool false, .int .i64 0, .slice none 0 0], false⟩
def ti30 : TyI := ⟨.slice 40, 1, 24, .slice none 0 0, false⟩
def ti31 : TyI := ⟨.struct #[⟨ "There", 4, 0, false, "", "", 0⟩, ⟨ "Sealed", 4, 1, false, "", "", 1⟩, ⟨ "Life", 3, 2, false, "", "", 8⟩, ⟨ "Ver", 3, 3, false, "", "", 16⟩, ⟨ "Open", 29, 4, false, "", "", 24⟩, ⟨ "Chunks", 30, 7, false, "", "", 64⟩], 8, 88, .agg #[.bool false, .bool false, .int .i64 0, .int .i64 0, .bool false, .int .i64 0, .slice none 0 0, .slice none 0 0], false⟩
def ti32 : TyI := ⟨.struct #[⟨ "There", 4, 0, false, "", "", 0⟩, ⟨ "Sealed", 4, 1, false, "", "", 1⟩, ⟨ "Life", 3, 2, false, "", "", 8⟩, ⟨ "Ver", 3, 3, false, "", "", 16⟩, ⟨ "Open", 29, 4, false, "", "", 24⟩, ⟨ "Chunks", 30, 7, false, "", "", 64⟩], 8, 88, .agg #[.bool false, .bool false, .int .i64 0, .int .i64 0, .bool false, .int .i64 0, .slice none 0 0, .slice none 0 0], false⟩
def ti33 : TyI := ⟨.tuple #[32, 4], 1, 0, .tuple #[.agg #[.bool false, .bool false, .int .i64 0, .int .i64 0, .bool false, .int .i64 0, .slice none 0 0, .slice none 0 0], .bool false], false⟩
def ti34 : TyI := ⟨.func #[3] #[32, 4] false, 1, 8, .nilFunc, false⟩
def ti35 : TyI := ⟨.func #[3, 3] #[4] false, 1, 8, .nilFunc, false⟩
def ti36 : TyI := ⟨.func #[3, 3, 32] #[4] false, 1, 8, .nilFunc, false⟩
def ti37 : TyI := ⟨.func #[] #[4] false, 1, 8, .nilFunc, false⟩
def ti38 : TyI := ⟨.func #[22] #[4] false, 1, 8, .nilFunc, false⟩
def ti39 : TyI := ⟨.struct #[⟨ "Blob", 3, 0, false, "", "", 0⟩, ⟨ "Tag", 3, 1, false, "", "", 8⟩, ⟨ "Count", 3, 2, false, "", "", 16⟩, ⟨ "From", 2, 3, false, "", "", 24⟩, ⟨ "To", 2, 4, false, "", "", 32⟩], 5, 40, .agg #[.int .i64 0, .int .i64 0, .int .i64 0, .int .i64 0, .int .i64 0], true⟩
def ti40 : TyI := ⟨.struct #[⟨ "Blob", 3, 0, false, "", "", 0⟩, ⟨ "Tag", 3, 1, false, "", "", 8⟩, ⟨ "Count", 3, 2, false, "", "", 16⟩, ⟨ "From", 2, 3, false, "", "", 24⟩, ⟨ "To", 2, 4, false, "", "", 32⟩], 5, 40, .agg #[.int .i64 0, .int .i64 0, .int .i64 0, .int .i64 0, .int .i64 0], true⟩
def ti41 : TyI := ⟨.int .u64, 1, 8, .int .u64 0, true⟩
def ti42 : TyI := ⟨.struct #[⟨ "T", 2, 0, false, "", "", 0⟩, ⟨ "V", 41, 1, false, "", "", 8⟩], 2, 16, .agg #[.int .i64 0, .int .u64 0], true⟩
def ti43 : TyI := ⟨.struct #[⟨ "T", 2, 0, false, "", "", 0⟩, ⟨ "V", 41, 1, false, "", "", 8⟩], 2, 16, .agg #[.int .i64 0, .int .u64 0], true⟩
def ti44 : TyI := ⟨.func #[32, 32] #[4] false, 1, 8, .nilFunc, false⟩
def ti45 : TyI := ⟨.func #[27] #[4] false, 1, 8, .nilFunc, false⟩
def ti46 : TyI := ⟨.func #[3] #[3] false, 1, 8, .nilFunc, false⟩
def ti47 : TyI := ⟨.tuple #[3, 4], 1, 0, .tuple #[.int .i64 0, .bool false], false⟩
def ti48 : TyI := ⟨.func #[3] #[3, 4] false, 1, 8, .nilFunc, false⟩
def ti49 : TyI := ⟨.func #[22, 3] #[4] false, 1, 8, .nilFunc, false⟩
def ti50 : TyI := ⟨.slice 27, 1, 24, .slice none 0 0, false⟩
def ti51 : TyI := ⟨.array 16 32, 128, 1408, .agg #[.bool false, .bool false, .int .i64 0, .int .i64 0, .bool false, .int .i64 0, .slice none 0 0, .slice none 0 0, .bool false, .bool false, .int .i64 0, .int .i64 0, .bool false, .int .i64 0, .slice none 0 0, .slice none 0 0, .bool false, .bool false, .int .i64 0, .int .i64 0, .bool false, .int .i64 0, .slice none 0 0, .slice none 0 0, .bool false, .bool false, .int .i64 0, .int .i64 0, .bool false, .int .i64 0, .slice none 0 0, .slice none 0 0, .bool false, .bool false, .int .i64 0, .int .i64 0, .bool false, .int .i64 0, .slice none 0 0, .slice none 0 0, .bool false, .bool false, .int .i64 0, .int .i64 0, .bool false, .int .i64 0, .slice none 0 0, .slice none 0 0, .bool false, .bool false, .int .i64 0, .int .i64 0, .bool false, .int .i64 0, .slice none 0 0, .slice none 0 0, .bool false, .bool false, .int .i64 0, .int .i64 0, .bool false, .int .i64 0, .slice none 0 0, .slice none 0 0, .bool false, .bool false, .int .i64 0, .int .i64 0, .bool false, .int .i64 0, .slice none 0 0, .slice none 0 0, .bool false, .bool false, .int .i64 0, .int .i64 0, .bool false, .int .i64 0, .slice none 0 0, .slice none 0 0, .bool false, .bool false, .int .i64 0, .int .i64 0, .bool false, .int .i64 0, .slice none 0 0, .slice none 0 0, .bool false, .bool false, .int .i64 0, .int .i64 0, .bool false, .int .i64 0, .slice none 0 0, .slice none 0 0, .bool false, .bool false, .int .i64 0, .int .i64 0, .bool false, .int .i64 0, .slice none 0 0, .slice none 0 0, .bool false, .bool false, .int .i64 0, .int .i64 0, .bool false, .int .i64 0, .slice none 0 0, .slice none 0 0, .bool false, .bool false, .int .i64 0, .int .i64 0, .bool false, .int .i64 0, .slice none 0 0, .slice none 0 0, .bool false, .bool false, .int .i64 0, .int .i64 0, .bool false, .int .i64 0, .slice none 0 0, .slice none 0 0], false⟩
def ti52 : TyI := ⟨.map 3 3, 1, 8, .map none, false⟩
def ti53 : TyI := ⟨.func #[22, 50] #[4] false, 1, 8, .nilFunc, false⟩
def ti54 : TyI := ⟨.struct #[⟨ "b", 9, 0, false, "", "ephemeris/ephemerislaw7", 0⟩, ⟨ "n", 3, 1, false, "", "ephemeris/ephemerislaw7", 16⟩, ⟨ "ok", 4, 2, false, "", "ephemeris/ephemerislaw7", 24⟩], 3, 32, .agg #[.string ByteArray.empty, .int .i64 0, .bool false], true⟩
def ti55 : TyI := ⟨.slice 54, 1, 24, .slice none 0 0, false⟩
def ti56 : TyI := ⟨.slice 41, 1, 24, .slice none 0 0, false⟩
def ti57 : TyI := ⟨.tuple #[56, 4], 1, 0, .tuple #[.slice none 0 0, .bool false], false⟩
def ti58 : TyI := ⟨.func #[59, 3] #[56, 4] false, 1, 8, .nilFunc, false⟩
def ti59 : TyI := ⟨.slice 5, 1, 24, .slice none 0 0, false⟩
def ti60 : TyI := ⟨.func #[56] #[59] false, 1, 8, .nilFunc, false⟩
def ti61 : TyI := ⟨.func #[3] #[4] false, 1, 8, .nilFunc, false⟩
def ti62 : TyI := ⟨.func #[56, 3] #[56] false, 1, 8, .nilFunc, false⟩
def ti63 : TyI := ⟨.slice 59, 1, 24, .slice none 0 0, false⟩
def ti64 : TyI := ⟨.func #[56, 56] #[4] false, 1, 8, .nilFunc, false⟩
def ti65 : TyI := ⟨.func #[56, 3, 59, 3, 5, 3] #[4] false, 1, 8, .nilFunc, false⟩
def ti66 : TyI := ⟨.func #[56, 3] #[4] false, 1, 8, .nilFunc, false⟩
def ti67 : TyI := ⟨.func #[56] #[56, 4] false, 1, 8, .nilFunc, false⟩
def ti68 : TyI := ⟨.slice 56, 1, 24, .slice none 0 0, false⟩
def ti69 : TyI := ⟨.func #[56, 3] #[56, 4] false, 1, 8, .nilFunc, false⟩
def ti70 : TyI := ⟨.func #[56, 3, 3, 3, 41, 3] #[4] false, 1, 8, .nilFunc, false⟩
def ti71 : TyI := ⟨.func #[56, 3, 3] #[4] false, 1, 8, .nilFunc, false⟩
def ti72 : TyI := ⟨.pointer 116, 1, 8, .pointer none, true⟩
def ti73 : TyI := ⟨.func #[] #[72] false, 1, 8, .nilFunc, false⟩
def ti74 : TyI := ⟨.func #[41, 3] #[] false, 1, 8, .nilFunc, false⟩
def ti75 : TyI := ⟨.pointer 119, 1, 8, .pointer none, true⟩
def ti76 : TyI := ⟨.func #[59] #[75] false, 1, 8, .nilFunc, false⟩
def ti77 : TyI := ⟨.func #[] #[59] false, 1, 8, .nilFunc, false⟩
def ti78 : TyI := ⟨.slice 2, 1, 24, .slice none 0 0, false⟩
def ti79 : TyI := ⟨.tuple #[78, 4], 1, 0, .tuple #[.slice none 0 0, .bool false], false⟩
def ti80 : TyI := ⟨.func #[75, 3] #[78, 4] false, 1, 8, .nilFunc, false⟩
def ti81 : TyI := ⟨.func #[78, 78] #[4] false, 1, 8, .nilFunc, false⟩
def ti82 : TyI := ⟨.func #[22, 4] #[78] false, 1, 8, .nilFunc, false⟩
def ti83 : TyI := ⟨.tuple #[72, 4], 1, 0, .tuple #[.pointer none, .bool false], false⟩
def ti84 : TyI := ⟨.func #[78] #[72, 4] false, 1, 8, .nilFunc, false⟩
def ti85 : TyI := ⟨.pointer 87, 1, 8, .pointer none, true⟩
def ti86 : TyI := ⟨.struct #[⟨ "L", 59, 0, false, "", "", 0⟩], 1, 24, .agg #[.slice none 0 0], false⟩
def ti87 : TyI := ⟨.struct #[⟨ "L", 59, 0, false, "", "", 0⟩], 1, 24, .agg #[.slice none 0 0], false⟩
def ti88 : TyI := ⟨.func #[85, 78] #[] false, 1, 8, .nilFunc, false⟩
def ti89 : TyI := ⟨.func #[] #[3] false, 1, 8, .nilFunc, false⟩
def ti90 : TyI := ⟨.pointer 92, 1, 8, .pointer none, true⟩
def ti91 : TyI := ⟨.struct #[⟨ "B", 59, 0, false, "", "", 0⟩, ⟨ "At", 3, 1, false, "", "", 24⟩, ⟨ "Bad", 4, 2, false, "", "", 32⟩], 3, 40, .agg #[.slice none 0 0, .int .i64 0, .bool false], false⟩
def ti92 : TyI := ⟨.struct #[⟨ "B", 59, 0, false, "", "", 0⟩, ⟨ "At", 3, 1, false, "", "", 24⟩, ⟨ "Bad", 4, 2, false, "", "", 32⟩], 3, 40, .agg #[.slice none 0 0, .int .i64 0, .bool false], false⟩
def ti93 : TyI := ⟨.func #[90, 3] #[78, 4] false, 1, 8, .nilFunc, false⟩
def ti94 : TyI := ⟨.func #[22, 4, 59, 3, 5, 3] #[4] false, 1, 8, .nilFunc, false⟩
def ti95 : TyI := ⟨.func #[3] #[41] false, 1, 8, .nilFunc, false⟩
def ti96 : TyI := ⟨.func #[22, 4, 41] #[4] false, 1, 8, .nilFunc, false⟩
def ti97 : TyI := ⟨.struct #[⟨ "s", 32, 0, false, "", "ephemeris/dire", 0⟩, ⟨ "taken", 4, 8, false, "", "ephemeris/dire", 88⟩, ⟨ "who", 3, 9, false, "", "ephemeris/dire", 96⟩], 10, 104, .agg #[.bool false, .bool false, .int .i64 0, .int .i64 0, .bool false, .int .i64 0, .slice none 0 0, .slice none 0 0, .bool false, .int .i64 0], false⟩
def ti98 : TyI := ⟨.struct #[⟨ "s", 32, 0, false, "", "ephemeris/dire", 0⟩, ⟨ "taken", 4, 8, false, "", "ephemeris/dire", 88⟩, ⟨ "who", 3, 9, false, "", "ephemeris/dire", 96⟩], 10, 104, .agg #[.bool false, .bool false, .int .i64 0, .int .i64 0, .bool false, .int .i64 0, .slice none 0 0, .slice none 0 0, .bool false, .int .i64 0], false⟩
def ti99 : TyI := ⟨.array 16 98, 160, 1664, .agg #[.bool false, .bool false, .int .i64 0, .int .i64 0, .bool false, .int .i64 0, .slice none 0 0, .slice none 0 0, .bool false, .int .i64 0, .bool false, .bool false, .int .i64 0, .int .i64 0, .bool false, .int .i64 0, .slice none 0 0, .slice none 0 0, .bool false, .int .i64 0, .bool false, .bool false, .int .i64 0, .int .i64 0, .bool false, .int .i64 0, .slice none 0 0, .slice none 0 0, .bool false, .int .i64 0, .bool false, .bool false, .int .i64 0, .int .i64 0, .bool false, .int .i64 0, .slice none 0 0, .slice none 0 0, .bool false, .int .i64 0, .bool false, .bool false, .int .i64 0, .int .i64 0, .bool false, .int .i64 0, .slice none 0 0, .slice none 0 0, .bool false, .int .i64 0, .bool false, .bool false, .int .i64 0, .int .i64 0, .bool false, .int .i64 0, .slice none 0 0, .slice none 0 0, .bool false, .int .i64 0, .bool false, .bool false, .int .i64 0, .int .i64 0, .bool false, .int .i64 0, .slice none 0 0, .slice none 0 0, .bool false, .int .i64 0, .bool false, .bool false, .int .i64 0, .int .i64 0, .bool false, .int .i64 0, .slice none 0 0, .slice none 0 0, .bool false, .int .i64 0, .bool false, .bool false, .int .i64 0, .int .i64 0, .bool false, .int .i64 0, .slice none 0 0, .slice none 0 0, .bool false, .int .i64 0, .bool false, .bool false, .int .i64 0, .int .i64 0, .bool false, .int .i64 0, .slice none 0 0, .slice none 0 0, .bool false, .int .i64 0, .bool false, .bool false, .int .i64 0, .int .i64 0, .bool false, .int .i64 0, .slice none 0 0, .slice none 0 0, .bool false, .int .i64 0, .bool false, .bool false, .int .i64 0, .int .i64 0, .bool false, .int .i64 0, .slice none 0 0, .slice none 0 0, .bool false, .int .i64 0, .bool false, .bool false, .int .i64 0, .int .i64 0, .bool false, .int .i64 0, .slice none 0 0, .slice none 0 0, .bool false, .int .i64 0, .bool false, .bool false, .int .i64 0, .int .i64 0, .bool false, .int .i64 0, .slice none 0 0, .slice none 0 0, .bool false, .int .i64 0, .bool false, .bool false, .int .i64 0, .int .i64 0, .bool false, .int .i64 0, .slice none 0 0, .slice none 0 0, .bool false, .int .i64 0, .bool false, .bool false, .int .i64 0, .int .i64 0, .bool false, .int .i64 0, .slice none 0 0, .slice none 0 0, .bool false, .int .i64 0], false⟩
def ti100 : TyI := ⟨.struct #[⟨ "l", 99, 0, false, "", "ephemeris/dire", 0⟩], 160, 1664, .agg #[.bool false, .bool false, .int .i64 0, .int .i64 0, .bool false, .int .i64 0, .slice none 0 0, .slice none 0 0, .bool false, .int .i64 0, .bool false, .bool false, .int .i64 0, .int .i64 0, .bool false, .int .i64 0, .slice none 0 0, .slice none 0 0, .bool false, .int .i64 0, .bool false, .bool false, .int .i64 0, .int .i64 0, .bool false, .int .i64 0, .slice none 0 0, .slice none 0 0, .bool false, .int .i64 0, .bool false, .bool false, .int .i64 0, .int .i64 0, .bool false, .int .i64 0, .slice none 0 0, .slice none 0 0, .bool false, .int .i64 0, .bool false, .bool false, .int .i64 0, .int .i64 0, .bool false, .int .i64 0, .slice none 0 0, .slice none 0 0, .bool false, .int .i64 0, .bool false, .bool false, .int .i64 0, .int .i64 0, .bool false, .int .i64 0, .slice none 0 0, .slice none 0 0, .bool false, .int .i64 0, .bool false, .bool false, .int .i64 0, .int .i64 0, .bool false, .int .i64 0, .slice none 0 0, .slice none 0 0, .bool false, .int .i64 0, .bool false, .bool false, .int .i64 0, .int .i64 0, .bool false, .int .i64 0, .slice none 0 0, .slice none 0 0, .bool false, .int .i64 0, .bool false, .bool false, .int .i64 0, .int .i64 0, .bool false, .int .i64 0, .slice none 0 0, .slice none 0 0, .bool false, .int .i64 0, .bool false, .bool false, .int .i64 0, .int .i64 0, .bool false, .int .i64 0, .slice none 0 0, .slice none 0 0, .bool false, .int .i64 0, .bool false, .bool false, .int .i64 0, .int .i64 0, .bool false, .int .i64 0, .slice none 0 0, .slice none 0 0, .bool false, .int .i64 0, .bool false, .bool false, .int .i64 0, .int .i64 0, .bool false, .int .i64 0, .slice none 0 0, .slice none 0 0, .bool false, .int .i64 0, .bool false, .bool false, .int .i64 0, .int .i64 0, .bool false, .int .i64 0, .slice none 0 0, .slice none 0 0, .bool false, .int .i64 0, .bool false, .bool false, .int .i64 0, .int .i64 0, .bool false, .int .i64 0, .slice none 0 0, .slice none 0 0, .bool false, .int .i64 0, .bool false, .bool false, .int .i64 0, .int .i64 0, .bool false, .int .i64 0, .slice none 0 0, .slice none 0 0, .bool false, .int .i64 0, .bool false, .bool false, .int .i64 0, .int .i64 0, .bool false, .int .i64 0, .slice none 0 0, .slice none 0 0, .bool false, .int .i64 0], false⟩
def ti101 : TyI := ⟨.struct #[⟨ "l", 99, 0, false, "", "ephemeris/dire", 0⟩], 160, 1664, .agg #[.bool false, .bool false, .int .i64 0, .int .i64 0, .bool false, .int .i64 0, .slice none 0 0, .slice none 0 0, .bool false, .int .i64 0, .bool false, .bool false, .int .i64 0, .int .i64 0, .bool false, .int .i64 0, .slice none 0 0, .slice none 0 0, .bool false, .int .i64 0, .bool false, .bool false, .int .i64 0, .int .i64 0, .bool false, .int .i64 0, .slice none 0 0, .slice none 0 0, .bool false, .int .i64 0, .bool false, .bool false, .int .i64 0, .int .i64 0, .bool false, .int .i64 0, .slice none 0 0, .slice none 0 0, .bool false, .int .i64 0, .bool false, .bool false, .int .i64 0, .int .i64 0, .bool false, .int .i64 0, .slice none 0 0, .slice none 0 0, .bool false, .int .i64 0, .bool false, .bool false, .int .i64 0, .int .i64 0, .bool false, .int .i64 0, .slice none 0 0, .slice none 0 0, .bool false, .int .i64 0, .bool false, .bool false, .int .i64 0, .int .i64 0, .bool false, .int .i64 0, .slice none 0 0, .slice none 0 0, .bool false, .int .i64 0, .bool false, .bool false, .int .i64 0, .int .i64 0, .bool false, .int .i64 0, .slice none 0 0, .slice none 0 0, .bool false, .int .i64 0, .bool false, .bool false, .int .i64 0, .int .i64 0, .bool false, .int .i64 0, .slice none 0 0, .slice none 0 0, .bool false, .int .i64 0, .bool false, .bool false, .int .i64 0, .int .i64 0, .bool false, .int .i64 0, .slice none 0 0, .slice none 0 0, .bool false, .int .i64 0, .bool false, .bool false, .int .i64 0, .int .i64 0, .bool false, .int .i64 0, .slice none 0 0, .slice none 0 0, .bool false, .int .i64 0, .bool false, .bool false, .int .i64 0, .int .i64 0, .bool false, .int .i64 0, .slice none 0 0, .slice none 0 0, .bool false, .int .i64 0, .bool false, .bool false, .int .i64 0, .int .i64 0, .bool false, .int .i64 0, .slice none 0 0, .slice none 0 0, .bool false, .int .i64 0, .bool false, .bool false, .int .i64 0, .int .i64 0, .bool false, .int .i64 0, .slice none 0 0, .slice none 0 0, .bool false, .int .i64 0, .bool false, .bool false, .int .i64 0, .int .i64 0, .bool false, .int .i64 0, .slice none 0 0, .slice none 0 0, .bool false, .int .i64 0, .bool false, .bool false, .int .i64 0, .int .i64 0, .bool false, .int .i64 0, .slice none 0 0, .slice none 0 0, .bool false, .int .i64 0], false⟩
def ti102 : TyI := ⟨.pointer 98, 1, 8, .pointer none, true⟩
def ti103 : TyI := ⟨.func #[3] #[102] false, 1, 8, .nilFunc, false⟩
def ti104 : TyI := ⟨.func #[32] #[32] false, 1, 8, .nilFunc, false⟩
def ti105 : TyI := ⟨.func #[29, 29] #[4] false, 1, 8, .nilFunc, false⟩
def ti106 : TyI := ⟨.tuple #[41, 3], 1, 0, .tuple #[.int .u64 0, .int .i64 0], false⟩
def ti107 : TyI := ⟨.func #[59] #[41, 3] false, 1, 8, .nilFunc, false⟩
def ti108 : TyI := ⟨.func #[56] #[3] false, 1, 8, .nilFunc, false⟩
def ti109 : TyI := ⟨.func #[59, 41] #[59] false, 1, 8, .nilFunc, false⟩
def ti110 : TyI := ⟨.slice 114, 1, 24, .slice none 0 0, false⟩
def ti111 : TyI := ⟨.func #[] #[110] false, 1, 8, .nilFunc, false⟩
def ti112 : TyI := ⟨.func #[110, 56] #[41, 3] false, 1, 8, .nilFunc, false⟩
def ti113 : TyI := ⟨.struct #[⟨ "count", 3, 0, false, "", "ephemeris/simp", 0⟩, ⟨ "bits", 3, 1, false, "", "ephemeris/simp", 8⟩], 2, 16, .agg #[.int .i64 0, .int .i64 0], true⟩
def ti114 : TyI := ⟨.struct #[⟨ "count", 3, 0, false, "", "ephemeris/simp", 0⟩, ⟨ "bits", 3, 1, false, "", "ephemeris/simp", 8⟩], 2, 16, .agg #[.int .i64 0, .int .i64 0], true⟩
def ti115 : TyI := ⟨.struct #[⟨ "b", 59, 0, false, "", "ephemeris/bits", 0⟩, ⟨ "n", 3, 1, false, "", "ephemeris/bits", 24⟩], 2, 32, .agg #[.slice none 0 0, .int .i64 0], false⟩
def ti116 : TyI := ⟨.struct #[⟨ "b", 59, 0, false, "", "ephemeris/bits", 0⟩, ⟨ "n", 3, 1, false, "", "ephemeris/bits", 24⟩], 2, 32, .agg #[.slice none 0 0, .int .i64 0], false⟩
def ti117 : TyI := ⟨.func #[59] #[59] false, 1, 8, .nilFunc, false⟩
def ti118 : TyI := ⟨.struct #[⟨ "b", 59, 0, false, "", "ephemeris/bits", 0⟩, ⟨ "at", 3, 1, false, "", "ephemeris/bits", 24⟩, ⟨ "bad", 4, 2, false, "", "ephemeris/bits", 32⟩], 3, 40, .agg #[.slice none 0 0, .int .i64 0, .bool false], false⟩
def ti119 : TyI := ⟨.struct #[⟨ "b", 59, 0, false, "", "ephemeris/bits", 0⟩, ⟨ "at", 3, 1, false, "", "ephemeris/bits", 24⟩, ⟨ "bad", 4, 2, false, "", "ephemeris/bits", 32⟩], 3, 40, .agg #[.slice none 0 0, .int .i64 0, .bool false], false⟩
def ti120 : TyI := ⟨.tuple #[2, 4], 1, 0, .tuple #[.int .i64 0, .bool false], false⟩
def ti121 : TyI := ⟨.func #[75] #[2, 4] false, 1, 8, .nilFunc, false⟩
def ti122 : TyI := ⟨.func #[72, 78] #[] false, 1, 8, .nilFunc, false⟩
def ti123 : TyI := ⟨.tuple #[3, 41, 3], 1, 0, .tuple #[.int .i64 0, .int .u64 0, .int .i64 0], false⟩
def ti124 : TyI := ⟨.func #[2] #[3, 41, 3] false, 1, 8, .nilFunc, false⟩
def ti125 : TyI := ⟨.func #[90] #[2, 4] false, 1, 8, .nilFunc, false⟩
def ti126 : TyI := ⟨.func #[29] #[29] false, 1, 8, .nilFunc, false⟩
def ti127 : TyI := ⟨.func #[30] #[30] false, 1, 8, .nilFunc, false⟩
def ti128 : TyI := ⟨.func #[27, 27] #[4] false, 1, 8, .nilFunc, false⟩
def ti129 : TyI := ⟨.func #[114, 56] #[3, 4] false, 1, 8, .nilFunc, false⟩
def ti130 : TyI := ⟨.func #[75] #[3] false, 1, 8, .nilFunc, false⟩
def ti131 : TyI := ⟨.struct #[⟨ "ahead", 41, 0, false, "", "ephemeris/time", 0⟩, ⟨ "long", 3, 1, false, "", "ephemeris/time", 8⟩, ⟨ "bits", 3, 2, false, "", "ephemeris/time", 16⟩], 3, 24, .agg #[.int .u64 0, .int .i64 0, .int .i64 0], true⟩
def ti132 : TyI := ⟨.struct #[⟨ "ahead", 41, 0, false, "", "ephemeris/time", 0⟩, ⟨ "long", 3, 1, false, "", "ephemeris/time", 8⟩, ⟨ "bits", 3, 2, false, "", "ephemeris/time", 16⟩], 3, 24, .agg #[.int .u64 0, .int .i64 0, .int .i64 0], true⟩
def ti133 : TyI := ⟨.func #[2] #[132] false, 1, 8, .nilFunc, false⟩
def ti134 : TyI := ⟨.func #[2, 3] #[4] false, 1, 8, .nilFunc, false⟩
def ti135 : TyI := ⟨.array 5 3, 5, 40, .agg #[.int .i64 0, .int .i64 0, .int .i64 0, .int .i64 0, .int .i64 0], true⟩
def ti136 : TyI := ⟨.func #[27] #[27] false, 1, 8, .nilFunc, false⟩
def ti137 : TyI := ⟨.func #[41] #[3] false, 1, 8, .nilFunc, false⟩
def ti138 : TyI := ⟨.func #[] #[9] false, 1, 8, .nilFunc, false⟩
def ti139 : TyI := ⟨.struct #[⟨ "_interface", 17, 0, false, "", "runtime", 0⟩, ⟨ "concrete", 17, 1, false, "", "runtime", 8⟩, ⟨ "asserted", 17, 2, false, "", "runtime", 16⟩, ⟨ "missingMethod", 9, 3, false, "", "runtime", 24⟩], 4, 40, .agg #[.pointer none, .pointer none, .pointer none, .string ByteArray.empty], true⟩
def ti140 : TyI := ⟨.struct #[⟨ "_interface", 17, 0, false, "", "runtime", 0⟩, ⟨ "concrete", 17, 1, false, "", "runtime", 8⟩, ⟨ "asserted", 17, 2, false, "", "runtime", 16⟩, ⟨ "missingMethod", 9, 3, false, "", "runtime", 24⟩], 4, 40, .agg #[.pointer none, .pointer none, .pointer none, .string ByteArray.empty], true⟩
def ti141 : TyI := ⟨.array 0 16, 0, 0, .agg #[], true⟩
def ti142 : TyI := ⟨.struct #[⟨ "_", 141, 0, false, "", "runtime", 0⟩], 0, 0, .agg #[], true⟩
def ti143 : TyI := ⟨.struct #[⟨ "_", 141, 0, false, "", "runtime", 0⟩], 0, 0, .agg #[], true⟩
def ti144 : TyI := ⟨.int .u32, 1, 4, .int .u32 0, true⟩
def ti145 : TyI := ⟨.int .u8, 1, 1, .int .u8 0, true⟩
def ti146 : TyI := ⟨.int .u8, 1, 1, .int .u8 0, true⟩
def ti147 : TyI := ⟨.func #[153, 153] #[4] false, 1, 8, .nilFunc, false⟩
def ti148 : TyI := ⟨.pointer 5, 1, 8, .pointer none, true⟩
def ti149 : TyI := ⟨.int .i32, 1, 4, .int .i32 0, true⟩
def ti150 : TyI := ⟨.int .i32, 1, 4, .int .i32 0, true⟩
def ti151 : TyI := ⟨.struct #[⟨ "Size_", 12, 0, false, "", "", 0⟩, ⟨ "PtrBytes", 12, 1, false, "", "", 8⟩, ⟨ "Hash", 144, 2, false, "", "", 16⟩, ⟨ "TFlag", 145, 3, false, "", "", 20⟩, ⟨ "Align_", 5, 4, false, "", "", 21⟩, ⟨ "FieldAlign_", 5, 5, false, "", "", 22⟩, ⟨ "Kind_", 146, 6, false, "", "", 23⟩, ⟨ "Equal", 147, 7, false, "", "", 24⟩, ⟨ "GCData", 148, 8, false, "", "", 32⟩, ⟨ "Str", 149, 9, false, "", "", 40⟩, ⟨ "PtrToThis", 150, 10, false, "", "", 44⟩], 11, 48, .agg #[.int .u64 0, .int .u64 0, .int .u32 0, .int .u8 0, .int .u8 0, .int .u8 0, .int .u8 0, .nilFunc, .pointer none, .int .i32 0, .int .i32 0], false⟩
def ti152 : TyI := ⟨.struct #[⟨ "Size_", 12, 0, false, "", "", 0⟩, ⟨ "PtrBytes", 12, 1, false, "", "", 8⟩, ⟨ "Hash", 144, 2, false, "", "", 16⟩, ⟨ "TFlag", 145, 3, false, "", "", 20⟩, ⟨ "Align_", 5, 4, false, "", "", 21⟩, ⟨ "FieldAlign_", 5, 5, false, "", "", 22⟩, ⟨ "Kind_", 146, 6, false, "", "", 23⟩, ⟨ "Equal", 147, 7, false, "", "", 24⟩, ⟨ "GCData", 148, 8, false, "", "", 32⟩, ⟨ "Str", 149, 9, false, "", "", 40⟩, ⟨ "PtrToThis", 150, 10, false, "", "", 44⟩], 11, 48, .agg #[.int .u64 0, .int .u64 0, .int .u32 0, .int .u8 0, .int .u8 0, .int .u8 0, .int .u8 0, .nilFunc, .pointer none, .int .i32 0, .int .i32 0], false⟩
def tyTab : List (Nat × TyI) := [(0, ti0), (1, ti1), (2, ti2), (3, ti3), (4, ti4), (5, ti5), (6, ti6), (7, ti7), (8, ti8), (9, ti9), (10, ti10), (11, ti11), (12, ti12), (13, ti13), (14, ti14), (15, ti15), (16, ti16), (17, ti17), (18, ti18), (19, ti19), (20, ti20), (21, ti21), (22, ti22), (23, ti23), (24, ti24), (25, ti25), (26, ti26), (27, ti27), (28, ti28), (29, ti29), (30, ti30), (31, ti31), (32, ti32), (33, ti33), (34, ti34), (35, ti35), (36, ti36), (37, ti37), (38, ti38), (39, ti39), (40, ti40), (41, ti41), (42, ti42), (43, ti43), (44, ti44), (45, ti45), (46, ti46), (47, ti47), (48, ti48), (49, ti49), (50, ti50), (51, ti51), (52, ti52), (53, ti53), (54, ti54), (55, ti55), (56, ti56), (57, ti57), (58, ti58), (59, ti59), (60, ti60), (61, ti61), (62, ti62), (63, ti63), (64, ti64), (65, ti65), (66, ti66), (67, ti67), (68, ti68), (69, ti69), (70, ti70), (71, ti71), (72, ti72), (73, ti73), (74, ti74), (75, ti75), (76, ti76), (77, ti77), (78, ti78), (79, ti79), (80, ti80), (81, ti81), (82, ti82), (83, ti83), (84, ti84), (85, ti85), (86, ti86), (87, ti87), (88, ti88), (89, ti89), (90, ti90), (91, ti91), (92, ti92), (93, ti93), (94, ti94), (95, ti95), (96, ti96), (97, ti97), (98, ti98), (99, ti99), (100, ti100), (101, ti101), (102, ti102), (103, ti103), (104, ti104), (105, ti105), (106, ti106), (107, ti107), (108, ti108), (109, ti109), (110, ti110), (111, ti111), (112, ti112), (113, ti113), (114, ti114), (115, ti115), (116, ti116), (117, ti117), (118, ti118), (119, ti119), (120, ti120), (121, ti121), (122, ti122), (123, ti123), (124, ti124), (125, ti125), (126, ti126), (127, ti127), (128, ti128), (129, ti129), (130, ti130), (131, ti131), (132, ti132), (133, ti133), (134, ti134), (135, ti135), (136, ti136), (137, ti137), (138, ti138), (139, ti139), (140, ti140), (141, ti141), (142, ti142), (143, ti143), (144, ti144), (145, ti145), (146, ti146), (147, ti147), (148, ti148), (149, ti149), (150, ti150), (151, ti151), (152, ti152)]
def tyLook : List (Nat × TyI) → Nat → Option TyI
  | [], _ => none
  | (s, i) :: l, t => bif Nat.beq s t then some i else tyLook l t
def TyOK (p : Nat × TyI) : Prop := Try.prog.underlying p.1 = some p.2.desc ∧ (Try.prog.info? p.1).map (fun i => (i.size, i.bytes, i.zero, i.comparable)) = some (p.2.size, p.2.bytes, some p.2.zero, p.2.comparable)
theorem tyLook_ok (l : List (Nat × TyI)) (h : ∀ p ∈ l, TyOK p) (t : Nat) (i : TyI) (e : tyLook l t = some i) : TyOK (t, i) := by
  induction l with
  | nil => cases e
  | cons p l ih =>
    simp only [tyLook] at e
    cases hb : Nat.beq p.1 t with
    | true =>
      have := Nat.eq_of_beq_eq_true hb
      simp [hb] at e
      subst e; subst this
      exact h p (by simp)
    | false =>
      simp [hb] at e
      exact ih (fun q hq => h q (by simp [hq])) e
theorem to0 : TyOK (0, ti0) := ⟨by kernel_rfl, by kernel_rfl⟩
theorem to1 : TyOK (1, ti1) := ⟨by kernel_rfl, by kernel_rfl⟩
theorem to2 : TyOK (2, ti2) := ⟨by kernel_rfl, by kernel_rfl⟩
theorem to3 : TyOK (3, ti3) := ⟨by kernel_rfl, by kernel_rfl⟩
theorem to4 : TyOK (4, ti4) := ⟨by kernel_rfl, by kernel_rfl⟩
theorem to5 : TyOK (5, ti5) := ⟨by kernel_rfl, by kernel_rfl⟩
theorem to6 : TyOK (6, ti6) := ⟨by kernel_rfl, by kernel_rfl⟩
theorem to7 : TyOK (7, ti7) := ⟨by kernel_rfl, by kernel_rfl⟩
theorem to8 : TyOK (8, ti8) := ⟨by kernel_rfl, by kernel_rfl⟩
theorem to9 : TyOK (9, ti9) := ⟨by kernel_rfl, by kernel_rfl⟩
theorem to10 : TyOK (10, ti10) := ⟨by kernel_rfl, by kernel_rfl⟩
theorem to11 : TyOK (11, ti11) := ⟨by kernel_rfl, by kernel_rfl⟩
theorem to12 : TyOK (12, ti12) := ⟨by kernel_rfl, by kernel_rfl⟩
theorem to13 : TyOK (13, ti13) := ⟨by kernel_rfl, by kernel_rfl⟩
theorem to14 : TyOK (14, ti14) := ⟨by kernel_rfl, by kernel_rfl⟩
theorem to15 : TyOK (15, ti15) := ⟨by kernel_rfl, by kernel_rfl⟩
theorem to16 : TyOK (16, ti16) := ⟨by kernel_rfl, by kernel_rfl⟩
theorem to17 : TyOK (17, ti17) := ⟨by kernel_rfl, by kernel_rfl⟩
theorem to18 : TyOK (18, ti18) := ⟨by kernel_rfl, by kernel_rfl⟩
theorem to19 : TyOK (19, ti19) := ⟨by kernel_rfl, by kernel_rfl⟩
theorem to20 : TyOK (20, ti20) := ⟨by kernel_rfl, by kernel_rfl⟩
theorem to21 : TyOK (21, ti21) := ⟨by kernel_rfl, by kernel_rfl⟩
theorem to22 : TyOK (22, ti22) := ⟨by kernel_rfl, by kernel_rfl⟩
theorem to23 : TyOK (23, ti23) := ⟨by kernel_rfl, by kernel_rfl⟩
theorem to24 : TyOK (24, ti24) := ⟨by kernel_rfl, by kernel_rfl⟩
theorem to25 : TyOK (25, ti25) := ⟨by kernel_rfl, by kernel_rfl⟩
theorem to26 : TyOK (26, ti26) := ⟨by kernel_rfl, by kernel_rfl⟩
theorem to27 : TyOK (27, ti27) := ⟨by kernel_rfl, by kernel_rfl⟩
theorem to28 : TyOK (28, ti28) := ⟨by kernel_rfl, by kernel_rfl⟩
theorem to29 : TyOK (29, ti29) := ⟨by kernel_rfl, by kernel_rfl⟩
theorem to30 : TyOK (30, ti30) := ⟨by kernel_rfl, by kernel_rfl⟩
theorem to31 : TyOK (31, ti31) := ⟨by kernel_rfl, by kernel_rfl⟩
theorem to32 : TyOK (32, ti32) := ⟨by kernel_rfl, by kernel_rfl⟩
theorem to33 : TyOK (33, ti33) := ⟨by kernel_rfl, by kernel_rfl⟩
theorem to34 : TyOK (34, ti34) := ⟨by kernel_rfl, by kernel_rfl⟩
theorem to35 : TyOK (35, ti35) := ⟨by kernel_rfl, by kernel_rfl⟩
theorem to36 : TyOK (36, ti36) := ⟨by kernel_rfl, by kernel_rfl⟩
theorem to37 : TyOK (37, ti37) := ⟨by kernel_rfl, by kernel_rfl⟩
theorem to38 : TyOK (38, ti38) := ⟨by kernel_rfl, by kernel_rfl⟩
theorem to39 : TyOK (39, ti39) := ⟨by kernel_rfl, by kernel_rfl⟩
theorem to40 : TyOK (40, ti40) := ⟨by kernel_rfl, by kernel_rfl⟩
theorem to41 : TyOK (41, ti41) := ⟨by kernel_rfl, by kernel_rfl⟩
theorem to42 : TyOK (42, ti42) := ⟨by kernel_rfl, by kernel_rfl⟩
theorem to43 : TyOK (43, ti43) := ⟨by kernel_rfl, by kernel_rfl⟩
theorem to44 : TyOK (44, ti44) := ⟨by kernel_rfl, by kernel_rfl⟩
theorem to45 : TyOK (45, ti45) := ⟨by kernel_rfl, by kernel_rfl⟩
theorem to46 : TyOK (46, ti46) := ⟨by kernel_rfl, by kernel_rfl⟩
theorem to47 : TyOK (47, ti47) := ⟨by kernel_rfl, by kernel_rfl⟩
theorem to48 : TyOK (48, ti48) := ⟨by kernel_rfl, by kernel_rfl⟩
theorem to49 : TyOK (49, ti49) := ⟨by kernel_rfl, by kernel_rfl⟩
theorem to50 : TyOK (50, ti50) := ⟨by kernel_rfl, by kernel_rfl⟩
theorem to51 : TyOK (51, ti51) := ⟨by kernel_rfl, by kernel_rfl⟩
theorem to52 : TyOK (52, ti52) := ⟨by kernel_rfl, by kernel_rfl⟩
theorem to53 : TyOK (53, ti53) := ⟨by kernel_rfl, by kernel_rfl⟩
theorem to54 : TyOK (54, ti54) := ⟨by kernel_rfl, by kernel_rfl⟩
theorem to55 : TyOK (55, ti55) := ⟨by kernel_rfl, by kernel_rfl⟩
theorem to56 : TyOK (56, ti56) := ⟨by kernel_rfl, by kernel_rfl⟩
theorem to57 : TyOK (57, ti57) := ⟨by kernel_rfl, by kernel_rfl⟩
theorem to58 : TyOK (58, ti58) := ⟨by kernel_rfl, by kernel_rfl⟩
theorem to59 : TyOK (59, ti59) := ⟨by kernel_rfl, by kernel_rfl⟩
theorem to60 : TyOK (60, ti60) := ⟨by kernel_rfl, by kernel_rfl⟩
theorem to61 : TyOK (61, ti61) := ⟨by kernel_rfl, by kernel_rfl⟩
theorem to62 : TyOK (62, ti62) := ⟨by kernel_rfl, by kernel_rfl⟩
theorem to63 : TyOK (63, ti63) := ⟨by kernel_rfl, by kernel_rfl⟩
theorem to64 : TyOK (64, ti64) := ⟨by kernel_rfl, by kernel_rfl⟩
theorem to65 : TyOK (65, ti65) := ⟨by kernel_rfl, by kernel_rfl⟩
theorem to66 : TyOK (66, ti66) := ⟨by kernel_rfl, by kernel_rfl⟩
theorem to67 : TyOK (67, ti67) := ⟨by kernel_rfl, by kernel_rfl⟩
theorem to68 : TyOK (68, ti68) := ⟨by kernel_rfl, by kernel_rfl⟩
theorem to69 : TyOK (69, ti69) := ⟨by kernel_rfl, by kernel_rfl⟩
theorem to70 : TyOK (70, ti70) := ⟨by kernel_rfl, by kernel_rfl⟩
theorem to71 : TyOK (71, ti71) := ⟨by kernel_rfl, by kernel_rfl⟩
theorem to72 : TyOK (72, ti72) := ⟨by kernel_rfl, by kernel_rfl⟩
theorem to73 : TyOK (73, ti73) := ⟨by kernel_rfl, by kernel_rfl⟩
theorem to74 : TyOK (74, ti74) := ⟨by kernel_rfl, by kernel_rfl⟩
theorem to75 : TyOK (75, ti75) := ⟨by kernel_rfl, by kernel_rfl⟩
theorem to76 : TyOK (76, ti76) := ⟨by kernel_rfl, by kernel_rfl⟩
theorem to77 : TyOK (77, ti77) := ⟨by kernel_rfl, by kernel_rfl⟩
theorem to78 : TyOK (78, ti78) := ⟨by kernel_rfl, by kernel_rfl⟩
theorem to79 : TyOK (79, ti79) := ⟨by kernel_rfl, by kernel_rfl⟩
theorem to80 : TyOK (80, ti80) := ⟨by kernel_rfl, by kernel_rfl⟩
theorem to81 : TyOK (81, ti81) := ⟨by kernel_rfl, by kernel_rfl⟩
theorem to82 : TyOK (82, ti82) := ⟨by kernel_rfl, by kernel_rfl⟩
theorem to83 : TyOK (83, ti83) := ⟨by kernel_rfl, by kernel_rfl⟩
theorem to84 : TyOK (84, ti84) := ⟨by kernel_rfl, by kernel_rfl⟩
theorem to85 : TyOK (85, ti85) := ⟨by kernel_rfl, by kernel_rfl⟩
theorem to86 : TyOK (86, ti86) := ⟨by kernel_rfl, by kernel_rfl⟩
theorem to87 : TyOK (87, ti87) := ⟨by kernel_rfl, by kernel_rfl⟩
theorem to88 : TyOK (88, ti88) := ⟨by kernel_rfl, by kernel_rfl⟩
theorem to89 : TyOK (89, ti89) := ⟨by kernel_rfl, by kernel_rfl⟩
theorem to90 : TyOK (90, ti90) := ⟨by kernel_rfl, by kernel_rfl⟩
theorem to91 : TyOK (91, ti91) := ⟨by kernel_rfl, by kernel_rfl⟩
theorem to92 : TyOK (92, ti92) := ⟨by kernel_rfl, by kernel_rfl⟩
theorem to93 : TyOK (93, ti93) := ⟨by kernel_rfl, by kernel_rfl⟩
theorem to94 : TyOK (94, ti94) := ⟨by kernel_rfl, by kernel_rfl⟩
theorem to95 : TyOK (95, ti95) := ⟨by kernel_rfl, by kernel_rfl⟩
theorem to96 : TyOK (96, ti96) := ⟨by kernel_rfl, by kernel_rfl⟩
theorem to97 : TyOK (97, ti97) := ⟨by kernel_rfl, by kernel_rfl⟩
theorem to98 : TyOK (98, ti98) := ⟨by kernel_rfl, by kernel_rfl⟩
theorem to99 : TyOK (99, ti99) := ⟨by kernel_rfl, by kernel_rfl⟩
theorem to100 : TyOK (100, ti100) := ⟨by kernel_rfl, by kernel_rfl⟩
theorem to101 : TyOK (101, ti101) := ⟨by kernel_rfl, by kernel_rfl⟩
theorem to102 : TyOK (102, ti102) := ⟨by kernel_rfl, by kernel_rfl⟩
theorem to103 : TyOK (103, ti103) := ⟨by kernel_rfl, by kernel_rfl⟩
theorem to104 : TyOK (104, ti104) := ⟨by kernel_rfl, by kernel_rfl⟩
theorem to105 : TyOK (105, ti105) := ⟨by kernel_rfl, by kernel_rfl⟩
theorem to106 : TyOK (106, ti106) := ⟨by kernel_rfl, by kernel_rfl⟩
theorem to107 : TyOK (107, ti107) := ⟨by kernel_rfl, by kernel_rfl⟩
theorem to108 : TyOK (108, ti108) := ⟨by kernel_rfl, by kernel_rfl⟩
theorem to109 : TyOK (109, ti109) := ⟨by kernel_rfl, by kernel_rfl⟩
theorem to110 : TyOK (110, ti110) := ⟨by kernel_rfl, by kernel_rfl⟩
theorem to111 : TyOK (111, ti111) := ⟨by kernel_rfl, by kernel_rfl⟩
theorem to112 : TyOK (112, ti112) := ⟨by kernel_rfl, by kernel_rfl⟩
theorem to113 : TyOK (113, ti113) := ⟨by kernel_rfl, by kernel_rfl⟩
theorem to114 : TyOK (114, ti114) := ⟨by kernel_rfl, by kernel_rfl⟩
theorem to115 : TyOK (115, ti115) := ⟨by kernel_rfl, by kernel_rfl⟩
theorem to116 : TyOK (116, ti116) := ⟨by kernel_rfl, by kernel_rfl⟩
theorem to117 : TyOK (117, ti117) := ⟨by kernel_rfl, by kernel_rfl⟩
theorem to118 : TyOK (118, ti118) := ⟨by kernel_rfl, by kernel_rfl⟩
theorem to119 : TyOK (119, ti119) := ⟨by kernel_rfl, by kernel_rfl⟩
theorem to120 : TyOK (120, ti120) := ⟨by kernel_rfl, by kernel_rfl⟩
theorem to121 : TyOK (121, ti121) := ⟨by kernel_rfl, by kernel_rfl⟩
theorem to122 : TyOK (122, ti122) := ⟨by kernel_rfl, by kernel_rfl⟩
theorem to123 : TyOK (123, ti123) := ⟨by kernel_rfl, by kernel_rfl⟩
theorem to124 : TyOK (124, ti124) := ⟨by kernel_rfl, by kernel_rfl⟩
theorem to125 : TyOK (125, ti125) := ⟨by kernel_rfl, by kernel_rfl⟩
theorem to126 : TyOK (126, ti126) := ⟨by kernel_rfl, by kernel_rfl⟩
theorem to127 : TyOK (127, ti127) := ⟨by kernel_rfl, by kernel_rfl⟩
theorem to128 : TyOK (128, ti128) := ⟨by kernel_rfl, by kernel_rfl⟩
theorem to129 : TyOK (129, ti129) := ⟨by kernel_rfl, by kernel_rfl⟩
theorem to130 : TyOK (130, ti130) := ⟨by kernel_rfl, by kernel_rfl⟩
theorem to131 : TyOK (131, ti131) := ⟨by kernel_rfl, by kernel_rfl⟩
theorem to132 : TyOK (132, ti132) := ⟨by kernel_rfl, by kernel_rfl⟩
theorem to133 : TyOK (133, ti133) := ⟨by kernel_rfl, by kernel_rfl⟩
theorem to134 : TyOK (134, ti134) := ⟨by kernel_rfl, by kernel_rfl⟩
theorem to135 : TyOK (135, ti135) := ⟨by kernel_rfl, by kernel_rfl⟩
theorem to136 : TyOK (136, ti136) := ⟨by kernel_rfl, by kernel_rfl⟩
theorem to137 : TyOK (137, ti137) := ⟨by kernel_rfl, by kernel_rfl⟩
theorem to138 : TyOK (138, ti138) := ⟨by kernel_rfl, by kernel_rfl⟩
theorem to139 : TyOK (139, ti139) := ⟨by kernel_rfl, by kernel_rfl⟩
theorem to140 : TyOK (140, ti140) := ⟨by kernel_rfl, by kernel_rfl⟩
theorem to141 : TyOK (141, ti141) := ⟨by kernel_rfl, by kernel_rfl⟩
theorem to142 : TyOK (142, ti142) := ⟨by kernel_rfl, by kernel_rfl⟩
theorem to143 : TyOK (143, ti143) := ⟨by kernel_rfl, by kernel_rfl⟩
theorem to144 : TyOK (144, ti144) := ⟨by kernel_rfl, by kernel_rfl⟩
theorem to145 : TyOK (145, ti145) := ⟨by kernel_rfl, by kernel_rfl⟩
theorem to146 : TyOK (146, ti146) := ⟨by kernel_rfl, by kernel_rfl⟩
theorem to147 : TyOK (147, ti147) := ⟨by kernel_rfl, by kernel_rfl⟩
theorem to148 : TyOK (148, ti148) := ⟨by kernel_rfl, by kernel_rfl⟩
theorem to149 : TyOK (149, ti149) := ⟨by kernel_rfl, by kernel_rfl⟩
theorem to150 : TyOK (150, ti150) := ⟨by kernel_rfl, by kernel_rfl⟩
theorem to151 : TyOK (151, ti151) := ⟨by kernel_rfl, by kernel_rfl⟩
theorem to152 : TyOK (152, ti152) := ⟨by kernel_rfl, by kernel_rfl⟩
theorem tyTab_ok : ∀ p ∈ tyTab, TyOK p := by
  intro p hp
  simp only [tyTab, List.mem_cons, List.not_mem_nil, or_false] at hp
  rcases hp with rfl | rfl | rfl | rfl | rfl | rfl | rfl | rfl | rfl | rfl | rfl | rfl | rfl | rfl | rfl | rfl | rfl | rfl | rfl | rfl | rfl | rfl | rfl | rfl | rfl | rfl | rfl | rfl | rfl | rfl | rfl | rfl | rfl | rfl | rfl | rfl | rfl | rfl | rfl | rfl | rfl | rfl | rfl | rfl | rfl | rfl | rfl | rfl | rfl | rfl | rfl | rfl | rfl | rfl | rfl | rfl | rfl | rfl | rfl | rfl | rfl | rfl | rfl | rfl | rfl | rfl | rfl | rfl | rfl | rfl | rfl | rfl | rfl | rfl | rfl | rfl | rfl | rfl | rfl | rfl | rfl | rfl | rfl | rfl | rfl | rfl | rfl | rfl | rfl | rfl | rfl | rfl | rfl | rfl | rfl | rfl | rfl | rfl | rfl | rfl | rfl | rfl | rfl | rfl | rfl | rfl | rfl | rfl | rfl | rfl | rfl | rfl | rfl | rfl | rfl | rfl | rfl | rfl | rfl | rfl | rfl | rfl | rfl | rfl | rfl | rfl | rfl | rfl | rfl | rfl | rfl | rfl | rfl | rfl | rfl | rfl | rfl | rfl | rfl | rfl | rfl | rfl | rfl | rfl | rfl | rfl | rfl | rfl | rfl | rfl | rfl | rfl | rfl
  · exact to0
  · exact to1
  · exact to2
  · exact to3
  · exact to4
  · exact to5
  · exact to6
  · exact to7
  · exact to8
  · exact to9
  · exact to10
  · exact to11
  · exact to12
  · exact to13
  · exact to14
  · exact to15
  · exact to16
  · exact to17
  · exact to18
  · exact to19
  · exact to20
  · exact to21
  · exact to22
  · exact to23
  · exact to24
  · exact to25
  · exact to26
  · exact to27
  · exact to28
  · exact to29
  · exact to30
  · exact to31
  · exact to32
  · exact to33
  · exact to34
  · exact to35
  · exact to36
  · exact to37
  · exact to38
  · exact to39
  · exact to40
  · exact to41
  · exact to42
  · exact to43
  · exact to44
  · exact to45
  · exact to46
  · exact to47
  · exact to48
  · exact to49
  · exact to50
  · exact to51
  · exact to52
  · exact to53
  · exact to54
  · exact to55
  · exact to56
  · exact to57
  · exact to58
  · exact to59
  · exact to60
  · exact to61
  · exact to62
  · exact to63
  · exact to64
  · exact to65
  · exact to66
  · exact to67
  · exact to68
  · exact to69
  · exact to70
  · exact to71
  · exact to72
  · exact to73
  · exact to74
  · exact to75
  · exact to76
  · exact to77
  · exact to78
  · exact to79
  · exact to80
  · exact to81
  · exact to82
  · exact to83
  · exact to84
  · exact to85
  · exact to86
  · exact to87
  · exact to88
  · exact to89
  · exact to90
  · exact to91
  · exact to92
  · exact to93
  · exact to94
  · exact to95
  · exact to96
  · exact to97
  · exact to98
  · exact to99
  · exact to100
  · exact to101
  · exact to102
  · exact to103
  · exact to104
  · exact to105
  · exact to106
  · exact to107
  · exact to108
  · exact to109
  · exact to110
  · exact to111
  · exact to112
  · exact to113
  · exact to114
  · exact to115
  · exact to116
  · exact to117
  · exact to118
  · exact to119
  · exact to120
  · exact to121
  · exact to122
  · exact to123
  · exact to124
  · exact to125
  · exact to126
  · exact to127
  · exact to128
  · exact to129
  · exact to130
  · exact to131
  · exact to132
  · exact to133
  · exact to134
  · exact to135
  · exact to136
  · exact to137
  · exact to138
  · exact to139
  · exact to140
  · exact to141
  · exact to142
  · exact to143
  · exact to144
  · exact to145
  · exact to146
  · exact to147
  · exact to148
  · exact to149
  · exact to150
  · exact to151
  · exact to152
def Ty : Tab Try.prog where
  tt := tyLook tyTab
  ok := by
    intro t i h
    obtain ⟨h1, h2⟩ := tyLook_ok tyTab tyTab_ok t i h
    refine ⟨h1, ?_⟩
    obtain ⟨I, hI, hE⟩ := Option.map_eq_some_iff.1 h2
    simp only [Prod.mk.injEq] at hE
    exact ⟨I, hI, hE.1, hE.2.1, hE.2.2.1, hE.2.2.2⟩
theorem nm3 : (Try.f3.name == "runtime.NumGoroutine") = false := by kernel_rfl
/-- ephemeris/ephemerislaw18.DireVers -/
theorem in3 {ρ : Hp} {Hs : List HP} {Q : Value → HP} {args : List Value} {c : Code} (hb : Try.f3.body = some c) (hn : Nat.ble args.length Try.f3.ntmps = true) (h : W Try.prog Try.f3 ρ Q [.code c] (argEnv 0 args) Hs) : Fn Try.prog 3 args.toArray ρ Hs Q := Fn.of_code Try.func3 hb nm3 hn h
theorem nm4 : (Try.f4.name == "runtime.NumGoroutine") = false := by kernel_rfl
/-- ephemeris/ephemerislaw18.DireOwn -/
theorem in4 {ρ : Hp} {Hs : List HP} {Q : Value → HP} {args : List Value} {c : Code} (hb : Try.f4.body = some c) (hn : Nat.ble args.length Try.f4.ntmps = true) (h : W Try.prog Try.f4 ρ Q [.code c] (argEnv 0 args) Hs) : Fn Try.prog 4 args.toArray ρ Hs Q := Fn.of_code Try.func4 hb nm4 hn h
theorem nm5 : (Try.f5.name == "runtime.NumGoroutine") = false := by kernel_rfl
/-- ephemeris/ephemerislaw18.DireMany -/
theorem in5 {ρ : Hp} {Hs : List HP} {Q : Value → HP} {args : List Value} {c : Code} (hb : Try.f5.body = some c) (hn : Nat.ble args.length Try.f5.ntmps = true) (h : W Try.prog Try.f5 ρ Q [.code c] (argEnv 0 args) Hs) : Fn Try.prog 5 args.toArray ρ Hs Q := Fn.of_code Try.func5 hb nm5 hn h
theorem nm6 : (Try.f6.name == "runtime.NumGoroutine") = false := by kernel_rfl
/-- ephemeris/ephemerislaw18.DirePlays -/
theorem in6 {ρ : Hp} {Hs : List HP} {Q : Value → HP} {args : List Value} {c : Code} (hb : Try.f6.body = some c) (hn : Nat.ble args.length Try.f6.ntmps = true) (h : W Try.prog Try.f6 ρ Q [.code c] (argEnv 0 args) Hs) : Fn Try.prog 6 args.toArray ρ Hs Q := Fn.of_code Try.func6 hb nm6 hn h
theorem nm7 : (Try.f7.name == "runtime.NumGoroutine") = false := by kernel_rfl
/-- ephemeris/ephemerislaw7.RunlForms -/
theorem in7 {ρ : Hp} {Hs : List HP} {Q : Value → HP} {args : List Value} {c : Code} (hb : Try.f7.body = some c) (hn : Nat.ble args.length Try.f7.ntmps = true) (h : W Try.prog Try.f7 ρ Q [.code c] (argEnv 0 args) Hs) : Fn Try.prog 7 args.toArray ρ Hs Q := Fn.of_code Try.func7 hb nm7 hn h
theorem nm8 : (Try.f8.name == "runtime.NumGoroutine") = false := by kernel_rfl
/-- ephemeris/ephemerislaw7.RunlTells -/
theorem in8 {ρ : Hp} {Hs : List HP} {Q : Value → HP} {args : List Value} {c : Code} (hb : Try.f8.body = some c) (hn : Nat.ble args.length Try.f8.ntmps = true) (h : W Try.prog Try.f8 ρ Q [.code c] (argEnv 0 args) Hs) : Fn Try.prog 8 args.toArray ρ Hs Q := Fn.of_code Try.func8 hb nm8 hn h
theorem nm9 : (Try.f9.name == "runtime.NumGoroutine") = false := by kernel_rfl
/-- ephemeris/ephemerislaw7.RunlBack -/
theorem in9 {ρ : Hp} {Hs : List HP} {Q : Value → HP} {args : List Value} {c : Code} (hb : Try.f9.body = some c) (hn : Nat.ble args.length Try.f9.ntmps = true) (h : W Try.prog Try.f9 ρ Q [.code c] (argEnv 0 args) Hs) : Fn Try.prog 9 args.toArray ρ Hs Q := Fn.of_code Try.func9 hb nm9 hn h
theorem nm10 : (Try.f10.name == "runtime.NumGoroutine") = false := by kernel_rfl
/-- ephemeris/ephemerislaw6.SimpTells -/
theorem in10 {ρ : Hp} {Hs : List HP} {Q : Value → HP} {args : List Value} {c : Code} (hb : Try.f10.body = some c) (hn : Nat.ble args.length Try.f10.ntmps = true) (h : W Try.prog Try.f10 ρ Q [.code c] (argEnv 0 args) Hs) : Fn Try.prog 10 args.toArray ρ Hs Q := Fn.of_code Try.func10 hb nm10 hn h
theorem nm11 : (Try.f11.name == "runtime.NumGoroutine") = false := by kernel_rfl
/-- ephemeris/ephemerislaw6.SimpBack -/
theorem in11 {ρ : Hp} {Hs : List HP} {Q : Value → HP} {args : List Value} {c : Code} (hb : Try.f11.body = some c) (hn : Nat.ble args.length Try.f11.ntmps = true) (h : W Try.prog Try.f11 ρ Q [.code c] (argEnv 0 args) Hs) : Fn Try.prog 11 args.toArray ρ Hs Q := Fn.of_code Try.func11 hb nm11 hn h
theorem nm12 : (Try.f12.name == "runtime.NumGoroutine") = false := by kernel_rfl
/-- ephemeris/ephemerislaw4.TimeLong -/
theorem in12 {ρ : Hp} {Hs : List HP} {Q : Value → HP} {args : List Value} {c : Code} (hb : Try.f12.body = some c) (hn : Nat.ble args.length Try.f12.ntmps = true) (h : W Try.prog Try.f12 ρ Q [.code c] (argEnv 0 args) Hs) : Fn Try.prog 12 args.toArray ρ Hs Q := Fn.of_code Try.func12 hb nm12 hn h
theorem nm13 : (Try.f13.name == "runtime.NumGoroutine") = false := by kernel_rfl
/-- ephemeris/ephemerislaw4.TimeTells -/
theorem in13 {ρ : Hp} {Hs : List HP} {Q : Value → HP} {args : List Value} {c : Code} (hb : Try.f13.body = some c) (hn : Nat.ble args.length Try.f13.ntmps = true) (h : W Try.prog Try.f13 ρ Q [.code c] (argEnv 0 args) Hs) : Fn Try.prog 13 args.toArray ρ Hs Q := Fn.of_code Try.func13 hb nm13 hn h
theorem nm14 : (Try.f14.name == "runtime.NumGoroutine") = false := by kernel_rfl
/-- ephemeris/ephemerislaw4.TimeBack -/
theorem in14 {ρ : Hp} {Hs : List HP} {Q : Value → HP} {args : List Value} {c : Code} (hb : Try.f14.body = some c) (hn : Nat.ble args.length Try.f14.ntmps = true) (h : W Try.prog Try.f14 ρ Q [.code c] (argEnv 0 args) Hs) : Fn Try.prog 14 args.toArray ρ Hs Q := Fn.of_code Try.func14 hb nm14 hn h
theorem nm15 : (Try.f15.name == "runtime.NumGoroutine") = false := by kernel_rfl
/-- ephemeris/dire.New -/
theorem in15 {ρ : Hp} {Hs : List HP} {Q : Value → HP} {args : List Value} {c : Code} (hb : Try.f15.body = some c) (hn : Nat.ble args.length Try.f15.ntmps = true) (h : W Try.prog Try.f15 ρ Q [.code c] (argEnv 0 args) Hs) : Fn Try.prog 15 args.toArray ρ Hs Q := Fn.of_code Try.func15 hb nm15 hn h
theorem nm16 : (Try.f16.name == "runtime.NumGoroutine") = false := by kernel_rfl
/-- (*ephemeris/dire.Dir).Look -/
theorem in16 {ρ : Hp} {Hs : List HP} {Q : Value → HP} {args : List Value} {c : Code} (hb : Try.f16.body = some c) (hn : Nat.ble args.length Try.f16.ntmps = true) (h : W Try.prog Try.f16 ρ Q [.code c] (argEnv 0 args) Hs) : Fn Try.prog 16 args.toArray ρ Hs Q := Fn.of_code Try.func16 hb nm16 hn h
theorem nm17 : (Try.f17.name == "runtime.NumGoroutine") = false := by kernel_rfl
/-- (*ephemeris/dire.Dir).Take -/
theorem in17 {ρ : Hp} {Hs : List HP} {Q : Value → HP} {args : List Value} {c : Code} (hb : Try.f17.body = some c) (hn : Nat.ble args.length Try.f17.ntmps = true) (h : W Try.prog Try.f17 ρ Q [.code c] (argEnv 0 args) Hs) : Fn Try.prog 17 args.toArray ρ Hs Q := Fn.of_code Try.func17 hb nm17 hn h
theorem nm18 : (Try.f18.name == "runtime.NumGoroutine") = false := by kernel_rfl
/-- (*ephemeris/dire.Dir).Leave -/
theorem in18 {ρ : Hp} {Hs : List HP} {Q : Value → HP} {args : List Value} {c : Code} (hb : Try.f18.body = some c) (hn : Nat.ble args.length Try.f18.ntmps = true) (h : W Try.prog Try.f18 ρ Q [.code c] (argEnv 0 args) Hs) : Fn Try.prog 18 args.toArray ρ Hs Q := Fn.of_code Try.func18 hb nm18 hn h
theorem nm19 : (Try.f19.name == "runtime.NumGoroutine") = false := by kernel_rfl
/-- ephemeris/ephemerislaw18.awake -/
theorem in19 {ρ : Hp} {Hs : List HP} {Q : Value → HP} {args : List Value} {c : Code} (hb : Try.f19.body = some c) (hn : Nat.ble args.length Try.f19.ntmps = true) (h : W Try.prog Try.f19 ρ Q [.code c] (argEnv 0 args) Hs) : Fn Try.prog 19 args.toArray ρ Hs Q := Fn.of_code Try.func19 hb nm19 hn h
theorem nm20 : (Try.f20.name == "runtime.NumGoroutine") = false := by kernel_rfl
/-- ephemeris/ephemerislaw18.SameSlot -/
theorem in20 {ρ : Hp} {Hs : List HP} {Q : Value → HP} {args : List Value} {c : Code} (hb : Try.f20.body = some c) (hn : Nat.ble args.length Try.f20.ntmps = true) (h : W Try.prog Try.f20 ρ Q [.code c] (argEnv 0 args) Hs) : Fn Try.prog 20 args.toArray ρ Hs Q := Fn.of_code Try.func20 hb nm20 hn h
theorem nm21 : (Try.f21.name == "runtime.NumGoroutine") = false := by kernel_rfl
/-- ephemeris/ephemerislaw18.DireMany$1 -/
theorem in21 {ρ : Hp} {Hs : List HP} {Q : Value → HP} {args : List Value} {c : Code} (hb : Try.f21.body = some c) (hn : Nat.ble args.length Try.f21.ntmps = true) (h : W Try.prog Try.f21 ρ Q [.code c] (argEnv 0 args) Hs) : Fn Try.prog 21 args.toArray ρ Hs Q := Fn.of_code Try.func21 hb nm21 hn h
theorem nm22 : (Try.f22.name == "runtime.NumGoroutine") = false := by kernel_rfl
/-- (*ephemeris/dire.Dir).Flag -/
theorem in22 {ρ : Hp} {Hs : List HP} {Q : Value → HP} {args : List Value} {c : Code} (hb : Try.f22.body = some c) (hn : Nat.ble args.length Try.f22.ntmps = true) (h : W Try.prog Try.f22 ρ Q [.code c] (argEnv 0 args) Hs) : Fn Try.prog 22 args.toArray ρ Hs Q := Fn.of_code Try.func22 hb nm22 hn h
theorem nm23 : (Try.f23.name == "runtime.NumGoroutine") = false := by kernel_rfl
/-- ephemeris/runl.Decode -/
theorem in23 {ρ : Hp} {Hs : List HP} {Q : Value → HP} {args : List Value} {c : Code} (hb : Try.f23.body = some c) (hn : Nat.ble args.length Try.f23.ntmps = true) (h : W Try.prog Try.f23 ρ Q [.code c] (argEnv 0 args) Hs) : Fn Try.prog 23 args.toArray ρ Hs Q := Fn.of_code Try.func23 hb nm23 hn h
theorem nm24 : (Try.f24.name == "runtime.NumGoroutine") = false := by kernel_rfl
/-- ephemeris/runl.Encode -/
theorem in24 {ρ : Hp} {Hs : List HP} {Q : Value → HP} {args : List Value} {c : Code} (hb : Try.f24.body = some c) (hn : Nat.ble args.length Try.f24.ntmps = true) (h : W Try.prog Try.f24 ρ Q [.code c] (argEnv 0 args) Hs) : Fn Try.prog 24 args.toArray ρ Hs Q := Fn.of_code Try.func24 hb nm24 hn h
theorem nm25 : (Try.f25.name == "runtime.NumGoroutine") = false := by kernel_rfl
/-- ephemeris/ephemerislaw7.awake -/
theorem in25 {ρ : Hp} {Hs : List HP} {Q : Value → HP} {args : List Value} {c : Code} (hb : Try.f25.body = some c) (hn : Nat.ble args.length Try.f25.ntmps = true) (h : W Try.prog Try.f25 ρ Q [.code c] (argEnv 0 args) Hs) : Fn Try.prog 25 args.toArray ρ Hs Q := Fn.of_code Try.func25 hb nm25 hn h
theorem nm26 : (Try.f26.name == "runtime.NumGoroutine") = false := by kernel_rfl
/-- ephemeris/ephemerislaw5.Values -/
theorem in26 {ρ : Hp} {Hs : List HP} {Q : Value → HP} {args : List Value} {c : Code} (hb : Try.f26.body = some c) (hn : Nat.ble args.length Try.f26.ntmps = true) (h : W Try.prog Try.f26 ρ Q [.code c] (argEnv 0 args) Hs) : Fn Try.prog 26 args.toArray ρ Hs Q := Fn.of_code Try.func26 hb nm26 hn h
theorem nm27 : (Try.f27.name == "runtime.NumGoroutine") = false := by kernel_rfl
/-- ephemeris/ephemerisref4.Runs -/
theorem in27 {ρ : Hp} {Hs : List HP} {Q : Value → HP} {args : List Value} {c : Code} (hb : Try.f27.body = some c) (hn : Nat.ble args.length Try.f27.ntmps = true) (h : W Try.prog Try.f27 ρ Q [.code c] (argEnv 0 args) Hs) : Fn Try.prog 27 args.toArray ρ Hs Q := Fn.of_code Try.func27 hb nm27 hn h
theorem nm28 : (Try.f28.name == "runtime.NumGoroutine") = false := by kernel_rfl
/-- ephemeris/ephemerisref4.GetRuns -/
theorem in28 {ρ : Hp} {Hs : List HP} {Q : Value → HP} {args : List Value} {c : Code} (hb : Try.f28.body = some c) (hn : Nat.ble args.length Try.f28.ntmps = true) (h : W Try.prog Try.f28 ρ Q [.code c] (argEnv 0 args) Hs) : Fn Try.prog 28 args.toArray ρ Hs Q := Fn.of_code Try.func28 hb nm28 hn h
theorem nm29 : (Try.f29.name == "runtime.NumGoroutine") = false := by kernel_rfl
/-- ephemeris/ephemerisref1.SameWords -/
theorem in29 {ρ : Hp} {Hs : List HP} {Q : Value → HP} {args : List Value} {c : Code} (hb : Try.f29.body = some c) (hn : Nat.ble args.length Try.f29.ntmps = true) (h : W Try.prog Try.f29 ρ Q [.code c] (argEnv 0 args) Hs) : Fn Try.prog 29 args.toArray ρ Hs Q := Fn.of_code Try.func29 hb nm29 hn h
theorem nm30 : (Try.f30.name == "runtime.NumGoroutine") = false := by kernel_rfl
/-- ephemeris/simp.Encode -/
theorem in30 {ρ : Hp} {Hs : List HP} {Q : Value → HP} {args : List Value} {c : Code} (hb : Try.f30.body = some c) (hn : Nat.ble args.length Try.f30.ntmps = true) (h : W Try.prog Try.f30 ρ Q [.code c] (argEnv 0 args) Hs) : Fn Try.prog 30 args.toArray ρ Hs Q := Fn.of_code Try.func30 hb nm30 hn h
theorem nm31 : (Try.f31.name == "runtime.NumGoroutine") = false := by kernel_rfl
/-- ephemeris/ephemerisref4.Simple -/
theorem in31 {ρ : Hp} {Hs : List HP} {Q : Value → HP} {args : List Value} {c : Code} (hb : Try.f31.body = some c) (hn : Nat.ble args.length Try.f31.ntmps = true) (h : W Try.prog Try.f31 ρ Q [.code c] (argEnv 0 args) Hs) : Fn Try.prog 31 args.toArray ρ Hs Q := Fn.of_code Try.func31 hb nm31 hn h
theorem nm32 : (Try.f32.name == "runtime.NumGoroutine") = false := by kernel_rfl
/-- ephemeris/simp.Decode -/
theorem in32 {ρ : Hp} {Hs : List HP} {Q : Value → HP} {args : List Value} {c : Code} (hb : Try.f32.body = some c) (hn : Nat.ble args.length Try.f32.ntmps = true) (h : W Try.prog Try.f32 ρ Q [.code c] (argEnv 0 args) Hs) : Fn Try.prog 32 args.toArray ρ Hs Q := Fn.of_code Try.func32 hb nm32 hn h
theorem nm33 : (Try.f33.name == "runtime.NumGoroutine") = false := by kernel_rfl
/-- ephemeris/ephemerisref4.GetSimple -/
theorem in33 {ρ : Hp} {Hs : List HP} {Q : Value → HP} {args : List Value} {c : Code} (hb : Try.f33.body = some c) (hn : Nat.ble args.length Try.f33.ntmps = true) (h : W Try.prog Try.f33 ρ Q [.code c] (argEnv 0 args) Hs) : Fn Try.prog 33 args.toArray ρ Hs Q := Fn.of_code Try.func33 hb nm33 hn h
theorem nm34 : (Try.f34.name == "runtime.NumGoroutine") = false := by kernel_rfl
/-- ephemeris/ephemerislaw6.awake -/
theorem in34 {ρ : Hp} {Hs : List HP} {Q : Value → HP} {args : List Value} {c : Code} (hb : Try.f34.body = some c) (hn : Nat.ble args.length Try.f34.ntmps = true) (h : W Try.prog Try.f34 ρ Q [.code c] (argEnv 0 args) Hs) : Fn Try.prog 34 args.toArray ρ Hs Q := Fn.of_code Try.func34 hb nm34 hn h
theorem nm35 : (Try.f35.name == "runtime.NumGoroutine") = false := by kernel_rfl
/-- ephemeris/bits.NewWriter -/
theorem in35 {ρ : Hp} {Hs : List HP} {Q : Value → HP} {args : List Value} {c : Code} (hb : Try.f35.body = some c) (hn : Nat.ble args.length Try.f35.ntmps = true) (h : W Try.prog Try.f35 ρ Q [.code c] (argEnv 0 args) Hs) : Fn Try.prog 35 args.toArray ρ Hs Q := Fn.of_code Try.func35 hb nm35 hn h
theorem nm36 : (Try.f36.name == "runtime.NumGoroutine") = false := by kernel_rfl
/-- (*ephemeris/bits.Writer).Put -/
theorem in36 {ρ : Hp} {Hs : List HP} {Q : Value → HP} {args : List Value} {c : Code} (hb : Try.f36.body = some c) (hn : Nat.ble args.length Try.f36.ntmps = true) (h : W Try.prog Try.f36 ρ Q [.code c] (argEnv 0 args) Hs) : Fn Try.prog 36 args.toArray ρ Hs Q := Fn.of_code Try.func36 hb nm36 hn h
theorem nm37 : (Try.f37.name == "runtime.NumGoroutine") = false := by kernel_rfl
/-- ephemeris/bits.NewReader -/
theorem in37 {ρ : Hp} {Hs : List HP} {Q : Value → HP} {args : List Value} {c : Code} (hb : Try.f37.body = some c) (hn : Nat.ble args.length Try.f37.ntmps = true) (h : W Try.prog Try.f37 ρ Q [.code c] (argEnv 0 args) Hs) : Fn Try.prog 37 args.toArray ρ Hs Q := Fn.of_code Try.func37 hb nm37 hn h
theorem nm38 : (Try.f38.name == "runtime.NumGoroutine") = false := by kernel_rfl
/-- (*ephemeris/bits.Writer).Bytes -/
theorem in38 {ρ : Hp} {Hs : List HP} {Q : Value → HP} {args : List Value} {c : Code} (hb : Try.f38.body = some c) (hn : Nat.ble args.length Try.f38.ntmps = true) (h : W Try.prog Try.f38 ρ Q [.code c] (argEnv 0 args) Hs) : Fn Try.prog 38 args.toArray ρ Hs Q := Fn.of_code Try.func38 hb nm38 hn h
theorem nm39 : (Try.f39.name == "runtime.NumGoroutine") = false := by kernel_rfl
/-- ephemeris/time.Decode -/
theorem in39 {ρ : Hp} {Hs : List HP} {Q : Value → HP} {args : List Value} {c : Code} (hb : Try.f39.body = some c) (hn : Nat.ble args.length Try.f39.ntmps = true) (h : W Try.prog Try.f39 ρ Q [.code c] (argEnv 0 args) Hs) : Fn Try.prog 39 args.toArray ρ Hs Q := Fn.of_code Try.func39 hb nm39 hn h
theorem nm40 : (Try.f40.name == "runtime.NumGoroutine") = false := by kernel_rfl
/-- ephemeris/ephemerisref1.SameTimes -/
theorem in40 {ρ : Hp} {Hs : List HP} {Q : Value → HP} {args : List Value} {c : Code} (hb : Try.f40.body = some c) (hn : Nat.ble args.length Try.f40.ntmps = true) (h : W Try.prog Try.f40 ρ Q [.code c] (argEnv 0 args) Hs) : Fn Try.prog 40 args.toArray ρ Hs Q := Fn.of_code Try.func40 hb nm40 hn h
theorem nm41 : (Try.f41.name == "runtime.NumGoroutine") = false := by kernel_rfl
/-- ephemeris/ephemerislaw4.awake -/
theorem in41 {ρ : Hp} {Hs : List HP} {Q : Value → HP} {args : List Value} {c : Code} (hb : Try.f41.body = some c) (hn : Nat.ble args.length Try.f41.ntmps = true) (h : W Try.prog Try.f41 ρ Q [.code c] (argEnv 0 args) Hs) : Fn Try.prog 41 args.toArray ρ Hs Q := Fn.of_code Try.func41 hb nm41 hn h
theorem nm42 : (Try.f42.name == "runtime.NumGoroutine") = false := by kernel_rfl
/-- ephemeris/ephemerislaw4.Times -/
theorem in42 {ρ : Hp} {Hs : List HP} {Q : Value → HP} {args : List Value} {c : Code} (hb : Try.f42.body = some c) (hn : Nat.ble args.length Try.f42.ntmps = true) (h : W Try.prog Try.f42 ρ Q [.code c] (argEnv 0 args) Hs) : Fn Try.prog 42 args.toArray ρ Hs Q := Fn.of_code Try.func42 hb nm42 hn h
theorem nm43 : (Try.f43.name == "runtime.NumGoroutine") = false := by kernel_rfl
/-- ephemeris/ephemerislaw4.written -/
theorem in43 {ρ : Hp} {Hs : List HP} {Q : Value → HP} {args : List Value} {c : Code} (hb : Try.f43.body = some c) (hn : Nat.ble args.length Try.f43.ntmps = true) (h : W Try.prog Try.f43 ρ Q [.code c] (argEnv 0 args) Hs) : Fn Try.prog 43 args.toArray ρ Hs Q := Fn.of_code Try.func43 hb nm43 hn h
theorem nm44 : (Try.f44.name == "runtime.NumGoroutine") = false := by kernel_rfl
/-- ephemeris/ephemerisref4.Times -/
theorem in44 {ρ : Hp} {Hs : List HP} {Q : Value → HP} {args : List Value} {c : Code} (hb : Try.f44.body = some c) (hn : Nat.ble args.length Try.f44.ntmps = true) (h : W Try.prog Try.f44 ρ Q [.code c] (argEnv 0 args) Hs) : Fn Try.prog 44 args.toArray ρ Hs Q := Fn.of_code Try.func44 hb nm44 hn h
theorem nm45 : (Try.f45.name == "runtime.NumGoroutine") = false := by kernel_rfl
/-- (*ephemeris/bits.Writer).Len -/
theorem in45 {ρ : Hp} {Hs : List HP} {Q : Value → HP} {args : List Value} {c : Code} (hb : Try.f45.body = some c) (hn : Nat.ble args.length Try.f45.ntmps = true) (h : W Try.prog Try.f45 ρ Q [.code c] (argEnv 0 args) Hs) : Fn Try.prog 45 args.toArray ρ Hs Q := Fn.of_code Try.func45 hb nm45 hn h
theorem nm46 : (Try.f46.name == "runtime.NumGoroutine") = false := by kernel_rfl
/-- (*ephemeris/ephemerisref1.Writer).Bytes -/
theorem in46 {ρ : Hp} {Hs : List HP} {Q : Value → HP} {args : List Value} {c : Code} (hb : Try.f46.body = some c) (hn : Nat.ble args.length Try.f46.ntmps = true) (h : W Try.prog Try.f46 ρ Q [.code c] (argEnv 0 args) Hs) : Fn Try.prog 46 args.toArray ρ Hs Q := Fn.of_code Try.func46 hb nm46 hn h
theorem nm47 : (Try.f47.name == "runtime.NumGoroutine") = false := by kernel_rfl
/-- ephemeris/ephemerisref4.GetTimes -/
theorem in47 {ρ : Hp} {Hs : List HP} {Q : Value → HP} {args : List Value} {c : Code} (hb : Try.f47.body = some c) (hn : Nat.ble args.length Try.f47.ntmps = true) (h : W Try.prog Try.f47 ρ Q [.code c] (argEnv 0 args) Hs) : Fn Try.prog 47 args.toArray ρ Hs Q := Fn.of_code Try.func47 hb nm47 hn h
theorem nm48 : (Try.f48.name == "runtime.NumGoroutine") = false := by kernel_rfl
/-- (*ephemeris/bits.Reader).Left -/
theorem in48 {ρ : Hp} {Hs : List HP} {Q : Value → HP} {args : List Value} {c : Code} (hb : Try.f48.body = some c) (hn : Nat.ble args.length Try.f48.ntmps = true) (h : W Try.prog Try.f48 ρ Q [.code c] (argEnv 0 args) Hs) : Fn Try.prog 48 args.toArray ρ Hs Q := Fn.of_code Try.func48 hb nm48 hn h
theorem nm49 : (Try.f49.name == "runtime.NumGoroutine") = false := by kernel_rfl
/-- (*ephemeris/ephemerisref1.Reader).Left -/
theorem in49 {ρ : Hp} {Hs : List HP} {Q : Value → HP} {args : List Value} {c : Code} (hb : Try.f49.body = some c) (hn : Nat.ble args.length Try.f49.ntmps = true) (h : W Try.prog Try.f49 ρ Q [.code c] (argEnv 0 args) Hs) : Fn Try.prog 49 args.toArray ρ Hs Q := Fn.of_code Try.func49 hb nm49 hn h
theorem nm50 : (Try.f50.name == "runtime.NumGoroutine") = false := by kernel_rfl
/-- (*ephemeris/bits.Reader).Get -/
theorem in50 {ρ : Hp} {Hs : List HP} {Q : Value → HP} {args : List Value} {c : Code} (hb : Try.f50.body = some c) (hn : Nat.ble args.length Try.f50.ntmps = true) (h : W Try.prog Try.f50 ρ Q [.code c] (argEnv 0 args) Hs) : Fn Try.prog 50 args.toArray ρ Hs Q := Fn.of_code Try.func50 hb nm50 hn h
theorem nm51 : (Try.f51.name == "runtime.NumGoroutine") = false := by kernel_rfl
/-- (*ephemeris/dire.Dir).at -/
theorem in51 {ρ : Hp} {Hs : List HP} {Q : Value → HP} {args : List Value} {c : Code} (hb : Try.f51.body = some c) (hn : Nat.ble args.length Try.f51.ntmps = true) (h : W Try.prog Try.f51 ρ Q [.code c] (argEnv 0 args) Hs) : Fn Try.prog 51 args.toArray ρ Hs Q := Fn.of_code Try.func51 hb nm51 hn h
theorem nm52 : (Try.f52.name == "runtime.NumGoroutine") = false := by kernel_rfl
/-- ephemeris/dire.Still -/
theorem in52 {ρ : Hp} {Hs : List HP} {Q : Value → HP} {args : List Value} {c : Code} (hb : Try.f52.body = some c) (hn : Nat.ble args.length Try.f52.ntmps = true) (h : W Try.prog Try.f52 ρ Q [.code c] (argEnv 0 args) Hs) : Fn Try.prog 52 args.toArray ρ Hs Q := Fn.of_code Try.func52 hb nm52 hn h
theorem nm53 : (Try.f53.name == "runtime.NumGoroutine") = false := by kernel_rfl
/-- ephemeris/ephemerisref14.SameOpen -/
theorem in53 {ρ : Hp} {Hs : List HP} {Q : Value → HP} {args : List Value} {c : Code} (hb : Try.f53.body = some c) (hn : Nat.ble args.length Try.f53.ntmps = true) (h : W Try.prog Try.f53 ρ Q [.code c] (argEnv 0 args) Hs) : Fn Try.prog 53 args.toArray ρ Hs Q := Fn.of_code Try.func53 hb nm53 hn h
theorem nm54 : (Try.f54.name == "runtime.NumGoroutine") = false := by kernel_rfl
/-- ephemeris/vint.Get -/
theorem in54 {ρ : Hp} {Hs : List HP} {Q : Value → HP} {args : List Value} {c : Code} (hb : Try.f54.body = some c) (hn : Nat.ble args.length Try.f54.ntmps = true) (h : W Try.prog Try.f54 ρ Q [.code c] (argEnv 0 args) Hs) : Fn Try.prog 54 args.toArray ρ Hs Q := Fn.of_code Try.func54 hb nm54 hn h
theorem nm55 : (Try.f55.name == "runtime.NumGoroutine") = false := by kernel_rfl
/-- ephemeris/runl.run -/
theorem in55 {ρ : Hp} {Hs : List HP} {Q : Value → HP} {args : List Value} {c : Code} (hb : Try.f55.body = some c) (hn : Nat.ble args.length Try.f55.ntmps = true) (h : W Try.prog Try.f55 ρ Q [.code c] (argEnv 0 args) Hs) : Fn Try.prog 55 args.toArray ρ Hs Q := Fn.of_code Try.func55 hb nm55 hn h
theorem nm56 : (Try.f56.name == "runtime.NumGoroutine") = false := by kernel_rfl
/-- ephemeris/vint.Put -/
theorem in56 {ρ : Hp} {Hs : List HP} {Q : Value → HP} {args : List Value} {c : Code} (hb : Try.f56.body = some c) (hn : Nat.ble args.length Try.f56.ntmps = true) (h : W Try.prog Try.f56 ρ Q [.code c] (argEnv 0 args) Hs) : Fn Try.prog 56 args.toArray ρ Hs Q := Fn.of_code Try.func56 hb nm56 hn h
theorem nm57 : (Try.f57.name == "runtime.NumGoroutine") = false := by kernel_rfl
/-- ephemeris/ephemerisref1.Put -/
theorem in57 {ρ : Hp} {Hs : List HP} {Q : Value → HP} {args : List Value} {c : Code} (hb : Try.f57.body = some c) (hn : Nat.ble args.length Try.f57.ntmps = true) (h : W Try.prog Try.f57 ρ Q [.code c] (argEnv 0 args) Hs) : Fn Try.prog 57 args.toArray ρ Hs Q := Fn.of_code Try.func57 hb nm57 hn h
theorem nm58 : (Try.f58.name == "runtime.NumGoroutine") = false := by kernel_rfl
/-- ephemeris/ephemerisref4.held -/
theorem in58 {ρ : Hp} {Hs : List HP} {Q : Value → HP} {args : List Value} {c : Code} (hb : Try.f58.body = some c) (hn : Nat.ble args.length Try.f58.ntmps = true) (h : W Try.prog Try.f58 ρ Q [.code c] (argEnv 0 args) Hs) : Fn Try.prog 58 args.toArray ρ Hs Q := Fn.of_code Try.func58 hb nm58 hn h
theorem nm59 : (Try.f59.name == "runtime.NumGoroutine") = false := by kernel_rfl
/-- ephemeris/ephemerisref1.Get -/
theorem in59 {ρ : Hp} {Hs : List HP} {Q : Value → HP} {args : List Value} {c : Code} (hb : Try.f59.body = some c) (hn : Nat.ble args.length Try.f59.ntmps = true) (h : W Try.prog Try.f59 ρ Q [.code c] (argEnv 0 args) Hs) : Fn Try.prog 59 args.toArray ρ Hs Q := Fn.of_code Try.func59 hb nm59 hn h
theorem nm60 : (Try.f60.name == "runtime.NumGoroutine") = false := by kernel_rfl
/-- ephemeris/simp.kinds -/
theorem in60 {ρ : Hp} {Hs : List HP} {Q : Value → HP} {args : List Value} {c : Code} (hb : Try.f60.body = some c) (hn : Nat.ble args.length Try.f60.ntmps = true) (h : W Try.prog Try.f60 ρ Q [.code c] (argEnv 0 args) Hs) : Fn Try.prog 60 args.toArray ρ Hs Q := Fn.of_code Try.func60 hb nm60 hn h
theorem nm61 : (Try.f61.name == "runtime.NumGoroutine") = false := by kernel_rfl
/-- ephemeris/simp.word -/
theorem in61 {ρ : Hp} {Hs : List HP} {Q : Value → HP} {args : List Value} {c : Code} (hb : Try.f61.body = some c) (hn : Nat.ble args.length Try.f61.ntmps = true) (h : W Try.prog Try.f61 ρ Q [.code c] (argEnv 0 args) Hs) : Fn Try.prog 61 args.toArray ρ Hs Q := Fn.of_code Try.func61 hb nm61 hn h
theorem nm62 : (Try.f62.name == "runtime.NumGoroutine") = false := by kernel_rfl
/-- ephemeris/ephemerisref4.fits -/
theorem in62 {ρ : Hp} {Hs : List HP} {Q : Value → HP} {args : List Value} {c : Code} (hb : Try.f62.body = some c) (hn : Nat.ble args.length Try.f62.ntmps = true) (h : W Try.prog Try.f62 ρ Q [.code c] (argEnv 0 args) Hs) : Fn Try.prog 62 args.toArray ρ Hs Q := Fn.of_code Try.func62 hb nm62 hn h
theorem nm63 : (Try.f63.name == "runtime.NumGoroutine") = false := by kernel_rfl
/-- ephemeris/ephemerisref4.numbers -/
theorem in63 {ρ : Hp} {Hs : List HP} {Q : Value → HP} {args : List Value} {c : Code} (hb : Try.f63.body = some c) (hn : Nat.ble args.length Try.f63.ntmps = true) (h : W Try.prog Try.f63 ρ Q [.code c] (argEnv 0 args) Hs) : Fn Try.prog 63 args.toArray ρ Hs Q := Fn.of_code Try.func63 hb nm63 hn h
theorem nm64 : (Try.f64.name == "runtime.NumGoroutine") = false := by kernel_rfl
/-- ephemeris/ephemerisref4.bits -/
theorem in64 {ρ : Hp} {Hs : List HP} {Q : Value → HP} {args : List Value} {c : Code} (hb : Try.f64.body = some c) (hn : Nat.ble args.length Try.f64.ntmps = true) (h : W Try.prog Try.f64 ρ Q [.code c] (argEnv 0 args) Hs) : Fn Try.prog 64 args.toArray ρ Hs Q := Fn.of_code Try.func64 hb nm64 hn h
theorem nm65 : (Try.f65.name == "runtime.NumGoroutine") = false := by kernel_rfl
/-- slices.Equal[[]uint64,uint64] -/
theorem in65 {ρ : Hp} {Hs : List HP} {Q : Value → HP} {args : List Value} {c : Code} (hb : Try.f65.body = some c) (hn : Nat.ble args.length Try.f65.ntmps = true) (h : W Try.prog Try.f65 ρ Q [.code c] (argEnv 0 args) Hs) : Fn Try.prog 65 args.toArray ρ Hs Q := Fn.of_code Try.func65 hb nm65 hn h
theorem nm66 : (Try.f66.name == "runtime.NumGoroutine") = false := by kernel_rfl
/-- ephemeris/bits.held -/
theorem in66 {ρ : Hp} {Hs : List HP} {Q : Value → HP} {args : List Value} {c : Code} (hb : Try.f66.body = some c) (hn : Nat.ble args.length Try.f66.ntmps = true) (h : W Try.prog Try.f66 ρ Q [.code c] (argEnv 0 args) Hs) : Fn Try.prog 66 args.toArray ρ Hs Q := Fn.of_code Try.func66 hb nm66 hn h
theorem nm67 : (Try.f67.name == "runtime.NumGoroutine") = false := by kernel_rfl
/-- slices.Clone[[]byte,byte] -/
theorem in67 {ρ : Hp} {Hs : List HP} {Q : Value → HP} {args : List Value} {c : Code} (hb : Try.f67.body = some c) (hn : Nat.ble args.length Try.f67.ntmps = true) (h : W Try.prog Try.f67 ρ Q [.code c] (argEnv 0 args) Hs) : Fn Try.prog 67 args.toArray ρ Hs Q := Fn.of_code Try.func67 hb nm67 hn h
theorem nm68 : (Try.f68.name == "runtime.NumGoroutine") = false := by kernel_rfl
/-- ephemeris/time.next -/
theorem in68 {ρ : Hp} {Hs : List HP} {Q : Value → HP} {args : List Value} {c : Code} (hb : Try.f68.body = some c) (hn : Nat.ble args.length Try.f68.ntmps = true) (h : W Try.prog Try.f68 ρ Q [.code c] (argEnv 0 args) Hs) : Fn Try.prog 68 args.toArray ρ Hs Q := Fn.of_code Try.func68 hb nm68 hn h
theorem nm69 : (Try.f69.name == "runtime.NumGoroutine") = false := by kernel_rfl
/-- (*ephemeris/bits.Reader).Ok -/
theorem in69 {ρ : Hp} {Hs : List HP} {Q : Value → HP} {args : List Value} {c : Code} (hb : Try.f69.body = some c) (hn : Nat.ble args.length Try.f69.ntmps = true) (h : W Try.prog Try.f69 ρ Q [.code c] (argEnv 0 args) Hs) : Fn Try.prog 69 args.toArray ρ Hs Q := Fn.of_code Try.func69 hb nm69 hn h
theorem nm70 : (Try.f70.name == "runtime.NumGoroutine") = false := by kernel_rfl
/-- ephemeris/time.Encode -/
theorem in70 {ρ : Hp} {Hs : List HP} {Q : Value → HP} {args : List Value} {c : Code} (hb : Try.f70.body = some c) (hn : Nat.ble args.length Try.f70.ntmps = true) (h : W Try.prog Try.f70 ρ Q [.code c] (argEnv 0 args) Hs) : Fn Try.prog 70 args.toArray ρ Hs Q := Fn.of_code Try.func70 hb nm70 hn h
theorem nm71 : (Try.f71.name == "runtime.NumGoroutine") = false := by kernel_rfl
/-- (*ephemeris/ephemerisref1.Writer).Put -/
theorem in71 {ρ : Hp} {Hs : List HP} {Q : Value → HP} {args : List Value} {c : Code} (hb : Try.f71.body = some c) (hn : Nat.ble args.length Try.f71.ntmps = true) (h : W Try.prog Try.f71 ρ Q [.code c] (argEnv 0 args) Hs) : Fn Try.prog 71 args.toArray ρ Hs Q := Fn.of_code Try.func71 hb nm71 hn h
theorem nm72 : (Try.f72.name == "runtime.NumGoroutine") = false := by kernel_rfl
/-- ephemeris/ephemerisref4.kind -/
theorem in72 {ρ : Hp} {Hs : List HP} {Q : Value → HP} {args : List Value} {c : Code} (hb : Try.f72.body = some c) (hn : Nat.ble args.length Try.f72.ntmps = true) (h : W Try.prog Try.f72 ρ Q [.code c] (argEnv 0 args) Hs) : Fn Try.prog 72 args.toArray ρ Hs Q := Fn.of_code Try.func72 hb nm72 hn h
theorem nm73 : (Try.f73.name == "runtime.NumGoroutine") = false := by kernel_rfl
/-- (*ephemeris/ephemerisref1.Reader).Get -/
theorem in73 {ρ : Hp} {Hs : List HP} {Q : Value → HP} {args : List Value} {c : Code} (hb : Try.f73.body = some c) (hn : Nat.ble args.length Try.f73.ntmps = true) (h : W Try.prog Try.f73 ρ Q [.code c] (argEnv 0 args) Hs) : Fn Try.prog 73 args.toArray ρ Hs Q := Fn.of_code Try.func73 hb nm73 hn h
theorem nm74 : (Try.f74.name == "runtime.NumGoroutine") = false := by kernel_rfl
/-- ephemeris/ephemerisref4.difference -/
theorem in74 {ρ : Hp} {Hs : List HP} {Q : Value → HP} {args : List Value} {c : Code} (hb : Try.f74.body = some c) (hn : Nat.ble args.length Try.f74.ntmps = true) (h : W Try.prog Try.f74 ρ Q [.code c] (argEnv 0 args) Hs) : Fn Try.prog 74 args.toArray ρ Hs Q := Fn.of_code Try.func74 hb nm74 hn h
theorem nm75 : (Try.f75.name == "runtime.NumGoroutine") = false := by kernel_rfl
/-- ephemeris/appd.Still -/
theorem in75 {ρ : Hp} {Hs : List HP} {Q : Value → HP} {args : List Value} {c : Code} (hb : Try.f75.body = some c) (hn : Nat.ble args.length Try.f75.ntmps = true) (h : W Try.prog Try.f75 ρ Q [.code c] (argEnv 0 args) Hs) : Fn Try.prog 75 args.toArray ρ Hs Q := Fn.of_code Try.func75 hb nm75 hn h
theorem nm76 : (Try.f76.name == "runtime.NumGoroutine") = false := by kernel_rfl
/-- slices.Clip[[]ephemeris/api.Part,ephemeris/api.Part] -/
theorem in76 {ρ : Hp} {Hs : List HP} {Q : Value → HP} {args : List Value} {c : Code} (hb : Try.f76.body = some c) (hn : Nat.ble args.length Try.f76.ntmps = true) (h : W Try.prog Try.f76 ρ Q [.code c] (argEnv 0 args) Hs) : Fn Try.prog 76 args.toArray ρ Hs Q := Fn.of_code Try.func76 hb nm76 hn h
theorem nm77 : (Try.f77.name == "runtime.NumGoroutine") = false := by kernel_rfl
/-- slices.Clone[[]ephemeris/api.Part,ephemeris/api.Part] -/
theorem in77 {ρ : Hp} {Hs : List HP} {Q : Value → HP} {args : List Value} {c : Code} (hb : Try.f77.body = some c) (hn : Nat.ble args.length Try.f77.ntmps = true) (h : W Try.prog Try.f77 ρ Q [.code c] (argEnv 0 args) Hs) : Fn Try.prog 77 args.toArray ρ Hs Q := Fn.of_code Try.func77 hb nm77 hn h
theorem nm78 : (Try.f78.name == "runtime.NumGoroutine") = false := by kernel_rfl
/-- ephemeris/ephemerisref10.Same -/
theorem in78 {ρ : Hp} {Hs : List HP} {Q : Value → HP} {args : List Value} {c : Code} (hb : Try.f78.body = some c) (hn : Nat.ble args.length Try.f78.ntmps = true) (h : W Try.prog Try.f78 ρ Q [.code c] (argEnv 0 args) Hs) : Fn Try.prog 78 args.toArray ρ Hs Q := Fn.of_code Try.func78 hb nm78 hn h
theorem nm79 : (Try.f79.name == "runtime.NumGoroutine") = false := by kernel_rfl
/-- slices.Clip[[]byte,byte] -/
theorem in79 {ρ : Hp} {Hs : List HP} {Q : Value → HP} {args : List Value} {c : Code} (hb : Try.f79.body = some c) (hn : Nat.ble args.length Try.f79.ntmps = true) (h : W Try.prog Try.f79 ρ Q [.code c] (argEnv 0 args) Hs) : Fn Try.prog 79 args.toArray ρ Hs Q := Fn.of_code Try.func79 hb nm79 hn h
theorem nm80 : (Try.f80.name == "runtime.NumGoroutine") = false := by kernel_rfl
/-- ephemeris/simp.fits -/
theorem in80 {ρ : Hp} {Hs : List HP} {Q : Value → HP} {args : List Value} {c : Code} (hb : Try.f80.body = some c) (hn : Nat.ble args.length Try.f80.ntmps = true) (h : W Try.prog Try.f80 ρ Q [.code c] (argEnv 0 args) Hs) : Fn Try.prog 80 args.toArray ρ Hs Q := Fn.of_code Try.func80 hb nm80 hn h
theorem nm81 : (Try.f81.name == "runtime.NumGoroutine") = false := by kernel_rfl
/-- ephemeris/time.ahead -/
theorem in81 {ρ : Hp} {Hs : List HP} {Q : Value → HP} {args : List Value} {c : Code} (hb : Try.f81.body = some c) (hn : Nat.ble args.length Try.f81.ntmps = true) (h : W Try.prog Try.f81 ρ Q [.code c] (argEnv 0 args) Hs) : Fn Try.prog 81 args.toArray ρ Hs Q := Fn.of_code Try.func81 hb nm81 hn h
theorem nm82 : (Try.f82.name == "runtime.NumGoroutine") = false := by kernel_rfl
/-- ephemeris/time.which -/
theorem in82 {ρ : Hp} {Hs : List HP} {Q : Value → HP} {args : List Value} {c : Code} (hb : Try.f82.body = some c) (hn : Nat.ble args.length Try.f82.ntmps = true) (h : W Try.prog Try.f82 ρ Q [.code c] (argEnv 0 args) Hs) : Fn Try.prog 82 args.toArray ρ Hs Q := Fn.of_code Try.func82 hb nm82 hn h
theorem nm83 : (Try.f83.name == "runtime.NumGoroutine") = false := by kernel_rfl
/-- ephemeris/ephemerisref4.within -/
theorem in83 {ρ : Hp} {Hs : List HP} {Q : Value → HP} {args : List Value} {c : Code} (hb : Try.f83.body = some c) (hn : Nat.ble args.length Try.f83.ntmps = true) (h : W Try.prog Try.f83 ρ Q [.code c] (argEnv 0 args) Hs) : Fn Try.prog 83 args.toArray ρ Hs Q := Fn.of_code Try.func83 hb nm83 hn h
theorem nm84 : (Try.f84.name == "runtime.NumGoroutine") = false := by kernel_rfl
/-- slices.Clip[[]ephemeris/api.Sample,ephemeris/api.Sample] -/
theorem in84 {ρ : Hp} {Hs : List HP} {Q : Value → HP} {args : List Value} {c : Code} (hb : Try.f84.body = some c) (hn : Nat.ble args.length Try.f84.ntmps = true) (h : W Try.prog Try.f84 ρ Q [.code c] (argEnv 0 args) Hs) : Fn Try.prog 84 args.toArray ρ Hs Q := Fn.of_code Try.func84 hb nm84 hn h
theorem nm85 : (Try.f85.name == "runtime.NumGoroutine") = false := by kernel_rfl
/-- slices.Clone[[]ephemeris/api.Sample,ephemeris/api.Sample] -/
theorem in85 {ρ : Hp} {Hs : List HP} {Q : Value → HP} {args : List Value} {c : Code} (hb : Try.f85.body = some c) (hn : Nat.ble args.length Try.f85.ntmps = true) (h : W Try.prog Try.f85 ρ Q [.code c] (argEnv 0 args) Hs) : Fn Try.prog 85 args.toArray ρ Hs Q := Fn.of_code Try.func85 hb nm85 hn h
theorem nm86 : (Try.f86.name == "runtime.NumGoroutine") = false := by kernel_rfl
/-- math/bits.Len64 -/
theorem in86 {ρ : Hp} {Hs : List HP} {Q : Value → HP} {args : List Value} {c : Code} (hb : Try.f86.body = some c) (hn : Nat.ble args.length Try.f86.ntmps = true) (h : W Try.prog Try.f86 ρ Q [.code c] (argEnv 0 args) Hs) : Fn Try.prog 86 args.toArray ρ Hs Q := Fn.of_code Try.func86 hb nm86 hn h
end Go.Proofs.Ytlmhjkbbooghfaa
