/- The types and functions of this translation, as the rules look them up. Written by wip/tab.py out of the translation's own rows. -/
import Derived.Test.YtdpnpipninggeaaDoorMem
import Derived.Test.YtdpnpipninggeaaDoorProg
import Derived.KernelRfl
set_option linter.unusedVariables false
namespace Go.Proofs.YtdpnpipninggeaaDoor
open Go
def ti0 : TyI := ⟨.tuple #[], 1, 0, .tuple #[], false⟩
def ti1 : TyI := ⟨.func #[] #[] false, 1, 8, .nilFunc, false⟩
def ti2 : TyI := ⟨.int .i64, 1, 8, .int .i64 0, true⟩
def ti3 : TyI := ⟨.int .i64, 1, 8, .int .i64 0, true⟩
def ti4 : TyI := ⟨.bool, 1, 1, .bool false, true⟩
def ti5 : TyI := ⟨.int .u8, 1, 1, .int .u8 0, true⟩
def ti6 : TyI := ⟨.int .u8, 1, 1, .int .u8 0, true⟩
def ti7 : TyI := ⟨.struct #[⟨ "x", 2, 0, false, "", "runtime", 0⟩, ⟨ "y", 3, 1, false, "", "runtime", 8⟩, ⟨ "signed", 4, 2, false, "", "runtime", 16⟩, ⟨ "code", 6, 3, false, "", "runtime", 17⟩], 4, 24, .agg #[.int .i64 0, .int .i64 0, .bool false, .int .u8 0], true⟩
def ti8 : TyI := ⟨.struct #[⟨ "x", 2, 0, false, "", "runtime", 0⟩, ⟨ "y", 3, 1, false, "", "runtime", 8⟩, ⟨ "signed", 4, 2, false, "", "runtime", 16⟩, ⟨ "code", 6, 3, false, "", "runtime", 17⟩], 4, 24, .agg #[.int .i64 0, .int .i64 0, .bool false, .int .u8 0], true⟩
def ti9 : TyI := ⟨.string, 1, 16, .string ByteArray.empty, true⟩
def ti10 : TyI := ⟨.string, 1, 16, .string ByteArray.empty, true⟩
def ti11 : TyI := ⟨.string, 1, 16, .string ByteArray.empty, true⟩
def ti12 : TyI := ⟨.int .u64, 1, 8, .int .u64 0, true⟩
def ti13 : TyI := ⟨.struct #[⟨ "msg", 9, 0, false, "", "runtime", 0⟩, ⟨ "addr", 12, 1, false, "", "runtime", 16⟩], 2, 24, .agg #[.string ByteArray.empty, .int .u64 0], true⟩
def ti14 : TyI := ⟨.struct #[⟨ "msg", 9, 0, false, "", "runtime", 0⟩, ⟨ "addr", 12, 1, false, "", "runtime", 16⟩], 2, 24, .agg #[.string ByteArray.empty, .int .u64 0], true⟩
def ti15 : TyI := ⟨.pointer 137, 1, 8, .pointer none, true⟩
def ti16 : TyI := ⟨.pointer 140, 1, 8, .pointer none, true⟩
def ti17 : TyI := ⟨.pointer 148, 1, 8, .pointer none, true⟩
def ti18 : TyI := ⟨.struct #[⟨ "typ", 17, 0, false, "", "internal/runtime/maps", 0⟩], 1, 8, .agg #[.pointer none], true⟩
def ti19 : TyI := ⟨.struct #[⟨ "typ", 17, 0, false, "", "internal/runtime/maps", 0⟩], 1, 8, .agg #[.pointer none], true⟩
def ti20 : TyI := ⟨.interface #[], 1, 16, .nilIface, true⟩
def ti21 : TyI := ⟨.int .i32, 1, 4, .int .i32 0, true⟩
def ti22 : TyI := ⟨.slice 26, 1, 24, .slice none 0 0, false⟩
def ti23 : TyI := ⟨.slice 28, 1, 24, .slice none 0 0, false⟩
def ti24 : TyI := ⟨.struct #[⟨ "Any", 4, 0, false, "", "", 0⟩, ⟨ "Last", 2, 1, false, "", "", 8⟩, ⟨ "List", 23, 2, false, "", "", 16⟩], 3, 40, .agg #[.bool false, .int .i64 0, .slice none 0 0], false⟩
def ti25 : TyI := ⟨.struct #[⟨ "Any", 4, 0, false, "", "", 0⟩, ⟨ "Last", 2, 1, false, "", "", 8⟩, ⟨ "List", 23, 2, false, "", "", 16⟩], 3, 40, .agg #[.bool false, .int .i64 0, .slice none 0 0], false⟩
def ti26 : TyI := ⟨.int .u64, 1, 8, .int .u64 0, true⟩
def ti27 : TyI := ⟨.struct #[⟨ "T", 2, 0, false, "", "", 0⟩, ⟨ "V", 26, 1, false, "", "", 8⟩], 2, 16, .agg #[.int .i64 0, .int .u64 0], true⟩
def ti28 : TyI := ⟨.struct #[⟨ "T", 2, 0, false, "", "", 0⟩, ⟨ "V", 26, 1, false, "", "", 8⟩], 2, 16, .agg #[.int .i64 0, .int .u64 0], true⟩
def ti29 : TyI := ⟨.int .i64, 1, 8, .int .i64 0, true⟩
def ti30 : TyI := ⟨.tuple #[25, 29], 1, 0, .tuple #[.agg #[.bool false, .int .i64 0, .slice none 0 0], .int .i64 0], false⟩
def ti31 : TyI := ⟨.func #[25, 28] #[25, 29] false, 1, 8, .nilFunc, false⟩
def ti32 : TyI := ⟨.func #[25] #[3] false, 1, 8, .nilFunc, false⟩
def ti33 : TyI := ⟨.func #[25] #[4] false, 1, 8, .nilFunc, false⟩
def ti34 : TyI := ⟨.slice 5, 1, 24, .slice none 0 0, false⟩
def ti35 : TyI := ⟨.tuple #[34, 25], 1, 0, .tuple #[.slice none 0 0, .agg #[.bool false, .int .i64 0, .slice none 0 0]], false⟩
def ti36 : TyI := ⟨.func #[25] #[34, 25] false, 1, 8, .nilFunc, false⟩
def ti37 : TyI := ⟨.tuple #[23, 3, 4], 1, 0, .tuple #[.slice none 0 0, .int .i64 0, .bool false], false⟩
def ti38 : TyI := ⟨.func #[34] #[23, 3, 4] false, 1, 8, .nilFunc, false⟩
def ti39 : TyI := ⟨.func #[] #[4] false, 1, 8, .nilFunc, false⟩
def ti40 : TyI := ⟨.func #[23, 23] #[4] false, 1, 8, .nilFunc, false⟩
def ti41 : TyI := ⟨.func #[3, 3, 22] #[4] false, 1, 8, .nilFunc, false⟩
def ti42 : TyI := ⟨.func #[23, 28] #[4] false, 1, 8, .nilFunc, false⟩
def ti43 : TyI := ⟨.func #[25] #[25] false, 1, 8, .nilFunc, false⟩
def ti44 : TyI := ⟨.tuple #[34, 4], 1, 0, .tuple #[.slice none 0 0, .bool false], false⟩
def ti45 : TyI := ⟨.func #[3, 23] #[34, 4] false, 1, 8, .nilFunc, false⟩
def ti46 : TyI := ⟨.struct #[⟨ "Tag", 3, 0, false, "", "", 0⟩, ⟨ "Count", 3, 1, false, "", "", 8⟩, ⟨ "From", 2, 2, false, "", "", 16⟩, ⟨ "To", 2, 3, false, "", "", 24⟩], 4, 32, .agg #[.int .i64 0, .int .i64 0, .int .i64 0, .int .i64 0], true⟩
def ti47 : TyI := ⟨.struct #[⟨ "Tag", 3, 0, false, "", "", 0⟩, ⟨ "Count", 3, 1, false, "", "", 8⟩, ⟨ "From", 2, 2, false, "", "", 16⟩, ⟨ "To", 2, 3, false, "", "", 24⟩], 4, 32, .agg #[.int .i64 0, .int .i64 0, .int .i64 0, .int .i64 0], true⟩
def ti48 : TyI := ⟨.tuple #[47, 3, 4], 1, 0, .tuple #[.agg #[.int .i64 0, .int .i64 0, .int .i64 0, .int .i64 0], .int .i64 0, .bool false], false⟩
def ti49 : TyI := ⟨.func #[34] #[47, 3, 4] false, 1, 8, .nilFunc, false⟩
def ti50 : TyI := ⟨.tuple #[23, 4], 1, 0, .tuple #[.slice none 0 0, .bool false], false⟩
def ti51 : TyI := ⟨.func #[3, 34, 3] #[23, 4] false, 1, 8, .nilFunc, false⟩
def ti52 : TyI := ⟨.func #[23] #[23] false, 1, 8, .nilFunc, false⟩
def ti53 : TyI := ⟨.func #[34, 26] #[34] false, 1, 8, .nilFunc, false⟩
def ti54 : TyI := ⟨.func #[2] #[26] false, 1, 8, .nilFunc, false⟩
def ti55 : TyI := ⟨.int .u32, 1, 4, .int .u32 0, true⟩
def ti56 : TyI := ⟨.func #[57, 34] #[55] false, 1, 8, .nilFunc, false⟩
def ti57 : TyI := ⟨.array 256 55, 256, 1024, .agg (List.replicate 256 (.int .u32 0)).toArray, true⟩
def ti58 : TyI := ⟨.func #[] #[57] false, 1, 8, .nilFunc, false⟩
def ti59 : TyI := ⟨.int .u64, 1, 8, .int .u64 0, true⟩
def ti60 : TyI := ⟨.tuple #[26, 3], 1, 0, .tuple #[.int .u64 0, .int .i64 0], false⟩
def ti61 : TyI := ⟨.func #[34] #[26, 3] false, 1, 8, .nilFunc, false⟩
def ti62 : TyI := ⟨.func #[26] #[2] false, 1, 8, .nilFunc, false⟩
def ti63 : TyI := ⟨.slice 2, 1, 24, .slice none 0 0, false⟩
def ti64 : TyI := ⟨.tuple #[63, 4], 1, 0, .tuple #[.slice none 0 0, .bool false], false⟩
def ti65 : TyI := ⟨.func #[66, 3] #[63, 4] false, 1, 8, .nilFunc, false⟩
def ti66 : TyI := ⟨.pointer 68, 1, 8, .pointer none, true⟩
def ti67 : TyI := ⟨.struct #[⟨ "B", 34, 0, false, "", "", 0⟩, ⟨ "At", 3, 1, false, "", "", 24⟩, ⟨ "Bad", 4, 2, false, "", "", 32⟩], 3, 40, .agg #[.slice none 0 0, .int .i64 0, .bool false], false⟩
def ti68 : TyI := ⟨.struct #[⟨ "B", 34, 0, false, "", "", 0⟩, ⟨ "At", 3, 1, false, "", "", 24⟩, ⟨ "Bad", 4, 2, false, "", "", 32⟩], 3, 40, .agg #[.slice none 0 0, .int .i64 0, .bool false], false⟩
def ti69 : TyI := ⟨.tuple #[22, 4], 1, 0, .tuple #[.slice none 0 0, .bool false], false⟩
def ti70 : TyI := ⟨.func #[3, 34, 3] #[22, 4] false, 1, 8, .nilFunc, false⟩
def ti71 : TyI := ⟨.func #[34] #[55] false, 1, 8, .nilFunc, false⟩
def ti72 : TyI := ⟨.func #[23] #[4] false, 1, 8, .nilFunc, false⟩
def ti73 : TyI := ⟨.func #[3, 22] #[34, 4] false, 1, 8, .nilFunc, false⟩
def ti74 : TyI := ⟨.pointer 98, 1, 8, .pointer none, true⟩
def ti75 : TyI := ⟨.func #[] #[74] false, 1, 8, .nilFunc, false⟩
def ti76 : TyI := ⟨.func #[74, 63] #[] false, 1, 8, .nilFunc, false⟩
def ti77 : TyI := ⟨.func #[] #[34] false, 1, 8, .nilFunc, false⟩
def ti78 : TyI := ⟨.func #[34] #[34] false, 1, 8, .nilFunc, false⟩
def ti79 : TyI := ⟨.func #[3] #[3] false, 1, 8, .nilFunc, false⟩
def ti80 : TyI := ⟨.func #[3] #[26] false, 1, 8, .nilFunc, false⟩
def ti81 : TyI := ⟨.tuple #[2, 4], 1, 0, .tuple #[.int .i64 0, .bool false], false⟩
def ti82 : TyI := ⟨.func #[66] #[2, 4] false, 1, 8, .nilFunc, false⟩
def ti83 : TyI := ⟨.func #[66, 3] #[22, 4] false, 1, 8, .nilFunc, false⟩
def ti84 : TyI := ⟨.func #[22, 3] #[22, 4] false, 1, 8, .nilFunc, false⟩
def ti85 : TyI := ⟨.func #[34, 3] #[22, 4] false, 1, 8, .nilFunc, false⟩
def ti86 : TyI := ⟨.func #[23] #[22] false, 1, 8, .nilFunc, false⟩
def ti87 : TyI := ⟨.pointer 89, 1, 8, .pointer none, true⟩
def ti88 : TyI := ⟨.struct #[⟨ "L", 34, 0, false, "", "", 0⟩], 1, 24, .agg #[.slice none 0 0], false⟩
def ti89 : TyI := ⟨.struct #[⟨ "L", 34, 0, false, "", "", 0⟩], 1, 24, .agg #[.slice none 0 0], false⟩
def ti90 : TyI := ⟨.func #[87, 63] #[] false, 1, 8, .nilFunc, false⟩
def ti91 : TyI := ⟨.func #[55] #[55] false, 1, 8, .nilFunc, false⟩
def ti92 : TyI := ⟨.func #[74, 22] #[] false, 1, 8, .nilFunc, false⟩
def ti93 : TyI := ⟨.func #[22] #[22, 4] false, 1, 8, .nilFunc, false⟩
def ti94 : TyI := ⟨.func #[22] #[22] false, 1, 8, .nilFunc, false⟩
def ti95 : TyI := ⟨.func #[22] #[34] false, 1, 8, .nilFunc, false⟩
def ti96 : TyI := ⟨.func #[22] #[34, 4] false, 1, 8, .nilFunc, false⟩
def ti97 : TyI := ⟨.struct #[⟨ "b", 34, 0, false, "", "ephemeris/bits", 0⟩, ⟨ "n", 3, 1, false, "", "ephemeris/bits", 24⟩], 2, 32, .agg #[.slice none 0 0, .int .i64 0], false⟩
def ti98 : TyI := ⟨.struct #[⟨ "b", 34, 0, false, "", "ephemeris/bits", 0⟩, ⟨ "n", 3, 1, false, "", "ephemeris/bits", 24⟩], 2, 32, .agg #[.slice none 0 0, .int .i64 0], false⟩
def ti99 : TyI := ⟨.func #[26, 3] #[] false, 1, 8, .nilFunc, false⟩
def ti100 : TyI := ⟨.struct #[⟨ "ahead", 26, 0, false, "", "ephemeris/time", 0⟩, ⟨ "long", 3, 1, false, "", "ephemeris/time", 8⟩, ⟨ "bits", 3, 2, false, "", "ephemeris/time", 16⟩], 3, 24, .agg #[.int .u64 0, .int .i64 0, .int .i64 0], true⟩
def ti101 : TyI := ⟨.struct #[⟨ "ahead", 26, 0, false, "", "ephemeris/time", 0⟩, ⟨ "long", 3, 1, false, "", "ephemeris/time", 8⟩, ⟨ "bits", 3, 2, false, "", "ephemeris/time", 16⟩], 3, 24, .agg #[.int .u64 0, .int .i64 0, .int .i64 0], true⟩
def ti102 : TyI := ⟨.func #[2] #[101] false, 1, 8, .nilFunc, false⟩
def ti103 : TyI := ⟨.func #[] #[3] false, 1, 8, .nilFunc, false⟩
def ti104 : TyI := ⟨.array 5 3, 5, 40, .agg #[.int .i64 0, .int .i64 0, .int .i64 0, .int .i64 0, .int .i64 0], true⟩
def ti105 : TyI := ⟨.tuple #[3, 26, 3], 1, 0, .tuple #[.int .i64 0, .int .u64 0, .int .i64 0], false⟩
def ti106 : TyI := ⟨.func #[2] #[3, 26, 3] false, 1, 8, .nilFunc, false⟩
def ti107 : TyI := ⟨.func #[87, 22] #[] false, 1, 8, .nilFunc, false⟩
def ti108 : TyI := ⟨.func #[22, 22] #[4] false, 1, 8, .nilFunc, false⟩
def ti109 : TyI := ⟨.func #[34, 3, 3] #[22] false, 1, 8, .nilFunc, false⟩
def ti110 : TyI := ⟨.func #[26] #[3] false, 1, 8, .nilFunc, false⟩
def ti111 : TyI := ⟨.struct #[⟨ "is", 4, 0, false, "", "ephemeris/xorv", 0⟩, ⟨ "lead", 3, 1, false, "", "ephemeris/xorv", 8⟩, ⟨ "trail", 3, 2, false, "", "ephemeris/xorv", 16⟩], 3, 24, .agg #[.bool false, .int .i64 0, .int .i64 0], true⟩
def ti112 : TyI := ⟨.struct #[⟨ "is", 4, 0, false, "", "ephemeris/xorv", 0⟩, ⟨ "lead", 3, 1, false, "", "ephemeris/xorv", 8⟩, ⟨ "trail", 3, 2, false, "", "ephemeris/xorv", 16⟩], 3, 24, .agg #[.bool false, .int .i64 0, .int .i64 0], true⟩
def ti113 : TyI := ⟨.func #[26] #[4] false, 1, 8, .nilFunc, false⟩
def ti114 : TyI := ⟨.func #[26] #[112] false, 1, 8, .nilFunc, false⟩
def ti115 : TyI := ⟨.slice 130, 1, 24, .slice none 0 0, false⟩
def ti116 : TyI := ⟨.func #[] #[115] false, 1, 8, .nilFunc, false⟩
def ti117 : TyI := ⟨.func #[115, 22] #[26, 3] false, 1, 8, .nilFunc, false⟩
def ti118 : TyI := ⟨.func #[22] #[3] false, 1, 8, .nilFunc, false⟩
def ti119 : TyI := ⟨.func #[22] #[26] false, 1, 8, .nilFunc, false⟩
def ti120 : TyI := ⟨.map 26 3, 1, 8, .map none, false⟩
def ti121 : TyI := ⟨.tuple #[22, 120, 4], 1, 0, .tuple #[.slice none 0 0, .map none, .bool false], false⟩
def ti122 : TyI := ⟨.func #[22] #[22, 120, 4] false, 1, 8, .nilFunc, false⟩
def ti123 : TyI := ⟨.func #[59] #[3] false, 1, 8, .nilFunc, false⟩
def ti124 : TyI := ⟨.func #[2, 3] #[4] false, 1, 8, .nilFunc, false⟩
def ti125 : TyI := ⟨.array 16 3, 16, 128, .agg #[.int .i64 0, .int .i64 0, .int .i64 0, .int .i64 0, .int .i64 0, .int .i64 0, .int .i64 0, .int .i64 0, .int .i64 0, .int .i64 0, .int .i64 0, .int .i64 0, .int .i64 0, .int .i64 0, .int .i64 0, .int .i64 0], true⟩
def ti126 : TyI := ⟨.func #[22, 3] #[4] false, 1, 8, .nilFunc, false⟩
def ti127 : TyI := ⟨.func #[34, 22, 3] #[34] false, 1, 8, .nilFunc, false⟩
def ti128 : TyI := ⟨.func #[22, 26] #[3] false, 1, 8, .nilFunc, false⟩
def ti129 : TyI := ⟨.struct #[⟨ "count", 3, 0, false, "", "ephemeris/simp", 0⟩, ⟨ "bits", 3, 1, false, "", "ephemeris/simp", 8⟩], 2, 16, .agg #[.int .i64 0, .int .i64 0], true⟩
def ti130 : TyI := ⟨.struct #[⟨ "count", 3, 0, false, "", "ephemeris/simp", 0⟩, ⟨ "bits", 3, 1, false, "", "ephemeris/simp", 8⟩], 2, 16, .agg #[.int .i64 0, .int .i64 0], true⟩
def ti131 : TyI := ⟨.tuple #[3, 4], 1, 0, .tuple #[.int .i64 0, .bool false], false⟩
def ti132 : TyI := ⟨.func #[130, 22] #[3, 4] false, 1, 8, .nilFunc, false⟩
def ti133 : TyI := ⟨.func #[55] #[3] false, 1, 8, .nilFunc, false⟩
def ti134 : TyI := ⟨.array 64 5, 64, 64, .agg (List.replicate 64 (.int .u8 0)).toArray, true⟩
def ti135 : TyI := ⟨.func #[] #[9] false, 1, 8, .nilFunc, false⟩
def ti136 : TyI := ⟨.struct #[⟨ "_interface", 17, 0, false, "", "runtime", 0⟩, ⟨ "concrete", 17, 1, false, "", "runtime", 8⟩, ⟨ "asserted", 17, 2, false, "", "runtime", 16⟩, ⟨ "missingMethod", 9, 3, false, "", "runtime", 24⟩], 4, 40, .agg #[.pointer none, .pointer none, .pointer none, .string ByteArray.empty], true⟩
def ti137 : TyI := ⟨.struct #[⟨ "_interface", 17, 0, false, "", "runtime", 0⟩, ⟨ "concrete", 17, 1, false, "", "runtime", 8⟩, ⟨ "asserted", 17, 2, false, "", "runtime", 16⟩, ⟨ "missingMethod", 9, 3, false, "", "runtime", 24⟩], 4, 40, .agg #[.pointer none, .pointer none, .pointer none, .string ByteArray.empty], true⟩
def ti138 : TyI := ⟨.array 0 16, 0, 0, .agg #[], true⟩
def ti139 : TyI := ⟨.struct #[⟨ "_", 138, 0, false, "", "runtime", 0⟩], 0, 0, .agg #[], true⟩
def ti140 : TyI := ⟨.struct #[⟨ "_", 138, 0, false, "", "runtime", 0⟩], 0, 0, .agg #[], true⟩
def ti141 : TyI := ⟨.int .u8, 1, 1, .int .u8 0, true⟩
def ti142 : TyI := ⟨.int .u8, 1, 1, .int .u8 0, true⟩
def ti143 : TyI := ⟨.func #[149, 149] #[4] false, 1, 8, .nilFunc, false⟩
def ti144 : TyI := ⟨.pointer 5, 1, 8, .pointer none, true⟩
def ti145 : TyI := ⟨.int .i32, 1, 4, .int .i32 0, true⟩
def ti146 : TyI := ⟨.int .i32, 1, 4, .int .i32 0, true⟩
def ti147 : TyI := ⟨.struct #[⟨ "Size_", 12, 0, false, "", "", 0⟩, ⟨ "PtrBytes", 12, 1, false, "", "", 8⟩, ⟨ "Hash", 55, 2, false, "", "", 16⟩, ⟨ "TFlag", 141, 3, false, "", "", 20⟩, ⟨ "Align_", 5, 4, false, "", "", 21⟩, ⟨ "FieldAlign_", 5, 5, false, "", "", 22⟩, ⟨ "Kind_", 142, 6, false, "", "", 23⟩, ⟨ "Equal", 143, 7, false, "", "", 24⟩, ⟨ "GCData", 144, 8, false, "", "", 32⟩, ⟨ "Str", 145, 9, false, "", "", 40⟩, ⟨ "PtrToThis", 146, 10, false, "", "", 44⟩], 11, 48, .agg #[.int .u64 0, .int .u64 0, .int .u32 0, .int .u8 0, .int .u8 0, .int .u8 0, .int .u8 0, .nilFunc, .pointer none, .int .i32 0, .int .i32 0], false⟩
def ti148 : TyI := ⟨.struct #[⟨ "Size_", 12, 0, false, "", "", 0⟩, ⟨ "PtrBytes", 12, 1, false, "", "", 8⟩, ⟨ "Hash", 55, 2, false, "", "", 16⟩, ⟨ "TFlag", 141, 3, false, "", "", 20⟩, ⟨ "Align_", 5, 4, false, "", "", 21⟩, ⟨ "FieldAlign_", 5, 5, false, "", "", 22⟩, ⟨ "Kind_", 142, 6, false, "", "", 23⟩, ⟨ "Equal", 143, 7, false, "", "", 24⟩, ⟨ "GCData", 144, 8, false, "", "", 32⟩, ⟨ "Str", 145, 9, false, "", "", 40⟩, ⟨ "PtrToThis", 146, 10, false, "", "", 44⟩], 11, 48, .agg #[.int .u64 0, .int .u64 0, .int .u32 0, .int .u8 0, .int .u8 0, .int .u8 0, .int .u8 0, .nilFunc, .pointer none, .int .i32 0, .int .i32 0], false⟩
def tyTab : List (Nat × TyI) := [(0, ti0), (1, ti1), (2, ti2), (3, ti3), (4, ti4), (5, ti5), (6, ti6), (7, ti7), (8, ti8), (9, ti9), (10, ti10), (11, ti11), (12, ti12), (13, ti13), (14, ti14), (15, ti15), (16, ti16), (17, ti17), (18, ti18), (19, ti19), (20, ti20), (21, ti21), (22, ti22), (23, ti23), (24, ti24), (25, ti25), (26, ti26), (27, ti27), (28, ti28), (29, ti29), (30, ti30), (31, ti31), (32, ti32), (33, ti33), (34, ti34), (35, ti35), (36, ti36), (37, ti37), (38, ti38), (39, ti39), (40, ti40), (41, ti41), (42, ti42), (43, ti43), (44, ti44), (45, ti45), (46, ti46), (47, ti47), (48, ti48), (49, ti49), (50, ti50), (51, ti51), (52, ti52), (53, ti53), (54, ti54), (55, ti55), (56, ti56), (57, ti57), (58, ti58), (59, ti59), (60, ti60), (61, ti61), (62, ti62), (63, ti63), (64, ti64), (65, ti65), (66, ti66), (67, ti67), (68, ti68), (69, ti69), (70, ti70), (71, ti71), (72, ti72), (73, ti73), (74, ti74), (75, ti75), (76, ti76), (77, ti77), (78, ti78), (79, ti79), (80, ti80), (81, ti81), (82, ti82), (83, ti83), (84, ti84), (85, ti85), (86, ti86), (87, ti87), (88, ti88), (89, ti89), (90, ti90), (91, ti91), (92, ti92), (93, ti93), (94, ti94), (95, ti95), (96, ti96), (97, ti97), (98, ti98), (99, ti99), (100, ti100), (101, ti101), (102, ti102), (103, ti103), (104, ti104), (105, ti105), (106, ti106), (107, ti107), (108, ti108), (109, ti109), (110, ti110), (111, ti111), (112, ti112), (113, ti113), (114, ti114), (115, ti115), (116, ti116), (117, ti117), (118, ti118), (119, ti119), (120, ti120), (121, ti121), (122, ti122), (123, ti123), (124, ti124), (125, ti125), (126, ti126), (127, ti127), (128, ti128), (129, ti129), (130, ti130), (131, ti131), (132, ti132), (133, ti133), (134, ti134), (135, ti135), (136, ti136), (137, ti137), (138, ti138), (139, ti139), (140, ti140), (141, ti141), (142, ti142), (143, ti143), (144, ti144), (145, ti145), (146, ti146), (147, ti147), (148, ti148)]
def tyLook : List (Nat × TyI) → Nat → Option TyI
  | [], _ => none
  | (s, i) :: l, t => bif Nat.beq s t then some i else tyLook l t
def TyOK (p : Nat × TyI) : Prop := Tryd.prog.underlying p.1 = some p.2.desc ∧ (Tryd.prog.info? p.1).map (fun i => (i.size, i.bytes, i.zero, i.comparable)) = some (p.2.size, p.2.bytes, some p.2.zero, p.2.comparable)
theorem tyLook_ok (l : List (Nat × TyI)) (h : ∀ p ∈ l, TyOK p) (t : Nat) (i : TyI) (e : tyLook l t = some i) : TyOK (t, i) := by
  induction l with
  | nil => cases e
  | cons p l ih =>
    simp only [tyLook] at e
    cases hb : Nat.beq p.1 t with
    | true =>
      have := Nat.eq_of_beq_eq_true hb
      simp [hb] at e
      subst e; subst this
      exact h p (by simp)
    | false =>
      simp [hb] at e
      exact ih (fun q hq => h q (by simp [hq])) e
theorem to0 : TyOK (0, ti0) := ⟨by kernel_rfl, by kernel_rfl⟩
theorem to1 : TyOK (1, ti1) := ⟨by kernel_rfl, by kernel_rfl⟩
theorem to2 : TyOK (2, ti2) := ⟨by kernel_rfl, by kernel_rfl⟩
theorem to3 : TyOK (3, ti3) := ⟨by kernel_rfl, by kernel_rfl⟩
theorem to4 : TyOK (4, ti4) := ⟨by kernel_rfl, by kernel_rfl⟩
theorem to5 : TyOK (5, ti5) := ⟨by kernel_rfl, by kernel_rfl⟩
theorem to6 : TyOK (6, ti6) := ⟨by kernel_rfl, by kernel_rfl⟩
theorem to7 : TyOK (7, ti7) := ⟨by kernel_rfl, by kernel_rfl⟩
theorem to8 : TyOK (8, ti8) := ⟨by kernel_rfl, by kernel_rfl⟩
theorem to9 : TyOK (9, ti9) := ⟨by kernel_rfl, by kernel_rfl⟩
theorem to10 : TyOK (10, ti10) := ⟨by kernel_rfl, by kernel_rfl⟩
theorem to11 : TyOK (11, ti11) := ⟨by kernel_rfl, by kernel_rfl⟩
theorem to12 : TyOK (12, ti12) := ⟨by kernel_rfl, by kernel_rfl⟩
theorem to13 : TyOK (13, ti13) := ⟨by kernel_rfl, by kernel_rfl⟩
theorem to14 : TyOK (14, ti14) := ⟨by kernel_rfl, by kernel_rfl⟩
theorem to15 : TyOK (15, ti15) := ⟨by kernel_rfl, by kernel_rfl⟩
theorem to16 : TyOK (16, ti16) := ⟨by kernel_rfl, by kernel_rfl⟩
theorem to17 : TyOK (17, ti17) := ⟨by kernel_rfl, by kernel_rfl⟩
theorem to18 : TyOK (18, ti18) := ⟨by kernel_rfl, by kernel_rfl⟩
theorem to19 : TyOK (19, ti19) := ⟨by kernel_rfl, by kernel_rfl⟩
theorem to20 : TyOK (20, ti20) := ⟨by kernel_rfl, by kernel_rfl⟩
theorem to21 : TyOK (21, ti21) := ⟨by kernel_rfl, by kernel_rfl⟩
theorem to22 : TyOK (22, ti22) := ⟨by kernel_rfl, by kernel_rfl⟩
theorem to23 : TyOK (23, ti23) := ⟨by kernel_rfl, by kernel_rfl⟩
theorem to24 : TyOK (24, ti24) := ⟨by kernel_rfl, by kernel_rfl⟩
theorem to25 : TyOK (25, ti25) := ⟨by kernel_rfl, by kernel_rfl⟩
theorem to26 : TyOK (26, ti26) := ⟨by kernel_rfl, by kernel_rfl⟩
theorem to27 : TyOK (27, ti27) := ⟨by kernel_rfl, by kernel_rfl⟩
theorem to28 : TyOK (28, ti28) := ⟨by kernel_rfl, by kernel_rfl⟩
theorem to29 : TyOK (29, ti29) := ⟨by kernel_rfl, by kernel_rfl⟩
theorem to30 : TyOK (30, ti30) := ⟨by kernel_rfl, by kernel_rfl⟩
theorem to31 : TyOK (31, ti31) := ⟨by kernel_rfl, by kernel_rfl⟩
theorem to32 : TyOK (32, ti32) := ⟨by kernel_rfl, by kernel_rfl⟩
theorem to33 : TyOK (33, ti33) := ⟨by kernel_rfl, by kernel_rfl⟩
theorem to34 : TyOK (34, ti34) := ⟨by kernel_rfl, by kernel_rfl⟩
theorem to35 : TyOK (35, ti35) := ⟨by kernel_rfl, by kernel_rfl⟩
theorem to36 : TyOK (36, ti36) := ⟨by kernel_rfl, by kernel_rfl⟩
theorem to37 : TyOK (37, ti37) := ⟨by kernel_rfl, by kernel_rfl⟩
theorem to38 : TyOK (38, ti38) := ⟨by kernel_rfl, by kernel_rfl⟩
theorem to39 : TyOK (39, ti39) := ⟨by kernel_rfl, by kernel_rfl⟩
theorem to40 : TyOK (40, ti40) := ⟨by kernel_rfl, by kernel_rfl⟩
theorem to41 : TyOK (41, ti41) := ⟨by kernel_rfl, by kernel_rfl⟩
theorem to42 : TyOK (42, ti42) := ⟨by kernel_rfl, by kernel_rfl⟩
theorem to43 : TyOK (43, ti43) := ⟨by kernel_rfl, by kernel_rfl⟩
theorem to44 : TyOK (44, ti44) := ⟨by kernel_rfl, by kernel_rfl⟩
theorem to45 : TyOK (45, ti45) := ⟨by kernel_rfl, by kernel_rfl⟩
theorem to46 : TyOK (46, ti46) := ⟨by kernel_rfl, by kernel_rfl⟩
theorem to47 : TyOK (47, ti47) := ⟨by kernel_rfl, by kernel_rfl⟩
theorem to48 : TyOK (48, ti48) := ⟨by kernel_rfl, by kernel_rfl⟩
theorem to49 : TyOK (49, ti49) := ⟨by kernel_rfl, by kernel_rfl⟩
theorem to50 : TyOK (50, ti50) := ⟨by kernel_rfl, by kernel_rfl⟩
theorem to51 : TyOK (51, ti51) := ⟨by kernel_rfl, by kernel_rfl⟩
theorem to52 : TyOK (52, ti52) := ⟨by kernel_rfl, by kernel_rfl⟩
theorem to53 : TyOK (53, ti53) := ⟨by kernel_rfl, by kernel_rfl⟩
theorem to54 : TyOK (54, ti54) := ⟨by kernel_rfl, by kernel_rfl⟩
theorem to55 : TyOK (55, ti55) := ⟨by kernel_rfl, by kernel_rfl⟩
theorem to56 : TyOK (56, ti56) := ⟨by kernel_rfl, by kernel_rfl⟩
theorem to57 : TyOK (57, ti57) := ⟨by kernel_rfl, by kernel_rfl⟩
theorem to58 : TyOK (58, ti58) := ⟨by kernel_rfl, by kernel_rfl⟩
theorem to59 : TyOK (59, ti59) := ⟨by kernel_rfl, by kernel_rfl⟩
theorem to60 : TyOK (60, ti60) := ⟨by kernel_rfl, by kernel_rfl⟩
theorem to61 : TyOK (61, ti61) := ⟨by kernel_rfl, by kernel_rfl⟩
theorem to62 : TyOK (62, ti62) := ⟨by kernel_rfl, by kernel_rfl⟩
theorem to63 : TyOK (63, ti63) := ⟨by kernel_rfl, by kernel_rfl⟩
theorem to64 : TyOK (64, ti64) := ⟨by kernel_rfl, by kernel_rfl⟩
theorem to65 : TyOK (65, ti65) := ⟨by kernel_rfl, by kernel_rfl⟩
theorem to66 : TyOK (66, ti66) := ⟨by kernel_rfl, by kernel_rfl⟩
theorem to67 : TyOK (67, ti67) := ⟨by kernel_rfl, by kernel_rfl⟩
theorem to68 : TyOK (68, ti68) := ⟨by kernel_rfl, by kernel_rfl⟩
theorem to69 : TyOK (69, ti69) := ⟨by kernel_rfl, by kernel_rfl⟩
theorem to70 : TyOK (70, ti70) := ⟨by kernel_rfl, by kernel_rfl⟩
theorem to71 : TyOK (71, ti71) := ⟨by kernel_rfl, by kernel_rfl⟩
theorem to72 : TyOK (72, ti72) := ⟨by kernel_rfl, by kernel_rfl⟩
theorem to73 : TyOK (73, ti73) := ⟨by kernel_rfl, by kernel_rfl⟩
theorem to74 : TyOK (74, ti74) := ⟨by kernel_rfl, by kernel_rfl⟩
theorem to75 : TyOK (75, ti75) := ⟨by kernel_rfl, by kernel_rfl⟩
theorem to76 : TyOK (76, ti76) := ⟨by kernel_rfl, by kernel_rfl⟩
theorem to77 : TyOK (77, ti77) := ⟨by kernel_rfl, by kernel_rfl⟩
theorem to78 : TyOK (78, ti78) := ⟨by kernel_rfl, by kernel_rfl⟩
theorem to79 : TyOK (79, ti79) := ⟨by kernel_rfl, by kernel_rfl⟩
theorem to80 : TyOK (80, ti80) := ⟨by kernel_rfl, by kernel_rfl⟩
theorem to81 : TyOK (81, ti81) := ⟨by kernel_rfl, by kernel_rfl⟩
theorem to82 : TyOK (82, ti82) := ⟨by kernel_rfl, by kernel_rfl⟩
theorem to83 : TyOK (83, ti83) := ⟨by kernel_rfl, by kernel_rfl⟩
theorem to84 : TyOK (84, ti84) := ⟨by kernel_rfl, by kernel_rfl⟩
theorem to85 : TyOK (85, ti85) := ⟨by kernel_rfl, by kernel_rfl⟩
theorem to86 : TyOK (86, ti86) := ⟨by kernel_rfl, by kernel_rfl⟩
theorem to87 : TyOK (87, ti87) := ⟨by kernel_rfl, by kernel_rfl⟩
theorem to88 : TyOK (88, ti88) := ⟨by kernel_rfl, by kernel_rfl⟩
theorem to89 : TyOK (89, ti89) := ⟨by kernel_rfl, by kernel_rfl⟩
theorem to90 : TyOK (90, ti90) := ⟨by kernel_rfl, by kernel_rfl⟩
theorem to91 : TyOK (91, ti91) := ⟨by kernel_rfl, by kernel_rfl⟩
theorem to92 : TyOK (92, ti92) := ⟨by kernel_rfl, by kernel_rfl⟩
theorem to93 : TyOK (93, ti93) := ⟨by kernel_rfl, by kernel_rfl⟩
theorem to94 : TyOK (94, ti94) := ⟨by kernel_rfl, by kernel_rfl⟩
theorem to95 : TyOK (95, ti95) := ⟨by kernel_rfl, by kernel_rfl⟩
theorem to96 : TyOK (96, ti96) := ⟨by kernel_rfl, by kernel_rfl⟩
theorem to97 : TyOK (97, ti97) := ⟨by kernel_rfl, by kernel_rfl⟩
theorem to98 : TyOK (98, ti98) := ⟨by kernel_rfl, by kernel_rfl⟩
theorem to99 : TyOK (99, ti99) := ⟨by kernel_rfl, by kernel_rfl⟩
theorem to100 : TyOK (100, ti100) := ⟨by kernel_rfl, by kernel_rfl⟩
theorem to101 : TyOK (101, ti101) := ⟨by kernel_rfl, by kernel_rfl⟩
theorem to102 : TyOK (102, ti102) := ⟨by kernel_rfl, by kernel_rfl⟩
theorem to103 : TyOK (103, ti103) := ⟨by kernel_rfl, by kernel_rfl⟩
theorem to104 : TyOK (104, ti104) := ⟨by kernel_rfl, by kernel_rfl⟩
theorem to105 : TyOK (105, ti105) := ⟨by kernel_rfl, by kernel_rfl⟩
theorem to106 : TyOK (106, ti106) := ⟨by kernel_rfl, by kernel_rfl⟩
theorem to107 : TyOK (107, ti107) := ⟨by kernel_rfl, by kernel_rfl⟩
theorem to108 : TyOK (108, ti108) := ⟨by kernel_rfl, by kernel_rfl⟩
theorem to109 : TyOK (109, ti109) := ⟨by kernel_rfl, by kernel_rfl⟩
theorem to110 : TyOK (110, ti110) := ⟨by kernel_rfl, by kernel_rfl⟩
theorem to111 : TyOK (111, ti111) := ⟨by kernel_rfl, by kernel_rfl⟩
theorem to112 : TyOK (112, ti112) := ⟨by kernel_rfl, by kernel_rfl⟩
theorem to113 : TyOK (113, ti113) := ⟨by kernel_rfl, by kernel_rfl⟩
theorem to114 : TyOK (114, ti114) := ⟨by kernel_rfl, by kernel_rfl⟩
theorem to115 : TyOK (115, ti115) := ⟨by kernel_rfl, by kernel_rfl⟩
theorem to116 : TyOK (116, ti116) := ⟨by kernel_rfl, by kernel_rfl⟩
theorem to117 : TyOK (117, ti117) := ⟨by kernel_rfl, by kernel_rfl⟩
theorem to118 : TyOK (118, ti118) := ⟨by kernel_rfl, by kernel_rfl⟩
theorem to119 : TyOK (119, ti119) := ⟨by kernel_rfl, by kernel_rfl⟩
theorem to120 : TyOK (120, ti120) := ⟨by kernel_rfl, by kernel_rfl⟩
theorem to121 : TyOK (121, ti121) := ⟨by kernel_rfl, by kernel_rfl⟩
theorem to122 : TyOK (122, ti122) := ⟨by kernel_rfl, by kernel_rfl⟩
theorem to123 : TyOK (123, ti123) := ⟨by kernel_rfl, by kernel_rfl⟩
theorem to124 : TyOK (124, ti124) := ⟨by kernel_rfl, by kernel_rfl⟩
theorem to125 : TyOK (125, ti125) := ⟨by kernel_rfl, by kernel_rfl⟩
theorem to126 : TyOK (126, ti126) := ⟨by kernel_rfl, by kernel_rfl⟩
theorem to127 : TyOK (127, ti127) := ⟨by kernel_rfl, by kernel_rfl⟩
theorem to128 : TyOK (128, ti128) := ⟨by kernel_rfl, by kernel_rfl⟩
theorem to129 : TyOK (129, ti129) := ⟨by kernel_rfl, by kernel_rfl⟩
theorem to130 : TyOK (130, ti130) := ⟨by kernel_rfl, by kernel_rfl⟩
theorem to131 : TyOK (131, ti131) := ⟨by kernel_rfl, by kernel_rfl⟩
theorem to132 : TyOK (132, ti132) := ⟨by kernel_rfl, by kernel_rfl⟩
theorem to133 : TyOK (133, ti133) := ⟨by kernel_rfl, by kernel_rfl⟩
theorem to134 : TyOK (134, ti134) := ⟨by kernel_rfl, by kernel_rfl⟩
theorem to135 : TyOK (135, ti135) := ⟨by kernel_rfl, by kernel_rfl⟩
theorem to136 : TyOK (136, ti136) := ⟨by kernel_rfl, by kernel_rfl⟩
theorem to137 : TyOK (137, ti137) := ⟨by kernel_rfl, by kernel_rfl⟩
theorem to138 : TyOK (138, ti138) := ⟨by kernel_rfl, by kernel_rfl⟩
theorem to139 : TyOK (139, ti139) := ⟨by kernel_rfl, by kernel_rfl⟩
theorem to140 : TyOK (140, ti140) := ⟨by kernel_rfl, by kernel_rfl⟩
theorem to141 : TyOK (141, ti141) := ⟨by kernel_rfl, by kernel_rfl⟩
theorem to142 : TyOK (142, ti142) := ⟨by kernel_rfl, by kernel_rfl⟩
theorem to143 : TyOK (143, ti143) := ⟨by kernel_rfl, by kernel_rfl⟩
theorem to144 : TyOK (144, ti144) := ⟨by kernel_rfl, by kernel_rfl⟩
theorem to145 : TyOK (145, ti145) := ⟨by kernel_rfl, by kernel_rfl⟩
theorem to146 : TyOK (146, ti146) := ⟨by kernel_rfl, by kernel_rfl⟩
theorem to147 : TyOK (147, ti147) := ⟨by kernel_rfl, by kernel_rfl⟩
theorem to148 : TyOK (148, ti148) := ⟨by kernel_rfl, by kernel_rfl⟩
set_option maxRecDepth 100000 in
theorem tyTab_ok : ∀ p ∈ tyTab, TyOK p := by
  intro p hp
  simp only [tyTab, List.mem_cons, List.not_mem_nil, or_false] at hp
  rcases hp with rfl | rfl | rfl | rfl | rfl | rfl | rfl | rfl | rfl | rfl | rfl | rfl | rfl | rfl | rfl | rfl | rfl | rfl | rfl | rfl | rfl | rfl | rfl | rfl | rfl | rfl | rfl | rfl | rfl | rfl | rfl | rfl | rfl | rfl | rfl | rfl | rfl | rfl | rfl | rfl | rfl | rfl | rfl | rfl | rfl | rfl | rfl | rfl | rfl | rfl | rfl | rfl | rfl | rfl | rfl | rfl | rfl | rfl | rfl | rfl | rfl | rfl | rfl | rfl | rfl | rfl | rfl | rfl | rfl | rfl | rfl | rfl | rfl | rfl | rfl | rfl | rfl | rfl | rfl | rfl | rfl | rfl | rfl | rfl | rfl | rfl | rfl | rfl | rfl | rfl | rfl | rfl | rfl | rfl | rfl | rfl | rfl | rfl | rfl | rfl | rfl | rfl | rfl | rfl | rfl | rfl | rfl | rfl | rfl | rfl | rfl | rfl | rfl | rfl | rfl | rfl | rfl | rfl | rfl | rfl | rfl | rfl | rfl | rfl | rfl | rfl | rfl | rfl | rfl | rfl | rfl | rfl | rfl | rfl | rfl | rfl | rfl | rfl | rfl | rfl | rfl | rfl | rfl | rfl | rfl | rfl | rfl | rfl | rfl
  · exact to0
  · exact to1
  · exact to2
  · exact to3
  · exact to4
  · exact to5
  · exact to6
  · exact to7
  · exact to8
  · exact to9
  · exact to10
  · exact to11
  · exact to12
  · exact to13
  · exact to14
  · exact to15
  · exact to16
  · exact to17
  · exact to18
  · exact to19
  · exact to20
  · exact to21
  · exact to22
  · exact to23
  · exact to24
  · exact to25
  · exact to26
  · exact to27
  · exact to28
  · exact to29
  · exact to30
  · exact to31
  · exact to32
  · exact to33
  · exact to34
  · exact to35
  · exact to36
  · exact to37
  · exact to38
  · exact to39
  · exact to40
  · exact to41
  · exact to42
  · exact to43
  · exact to44
  · exact to45
  · exact to46
  · exact to47
  · exact to48
  · exact to49
  · exact to50
  · exact to51
  · exact to52
  · exact to53
  · exact to54
  · exact to55
  · exact to56
  · exact to57
  · exact to58
  · exact to59
  · exact to60
  · exact to61
  · exact to62
  · exact to63
  · exact to64
  · exact to65
  · exact to66
  · exact to67
  · exact to68
  · exact to69
  · exact to70
  · exact to71
  · exact to72
  · exact to73
  · exact to74
  · exact to75
  · exact to76
  · exact to77
  · exact to78
  · exact to79
  · exact to80
  · exact to81
  · exact to82
  · exact to83
  · exact to84
  · exact to85
  · exact to86
  · exact to87
  · exact to88
  · exact to89
  · exact to90
  · exact to91
  · exact to92
  · exact to93
  · exact to94
  · exact to95
  · exact to96
  · exact to97
  · exact to98
  · exact to99
  · exact to100
  · exact to101
  · exact to102
  · exact to103
  · exact to104
  · exact to105
  · exact to106
  · exact to107
  · exact to108
  · exact to109
  · exact to110
  · exact to111
  · exact to112
  · exact to113
  · exact to114
  · exact to115
  · exact to116
  · exact to117
  · exact to118
  · exact to119
  · exact to120
  · exact to121
  · exact to122
  · exact to123
  · exact to124
  · exact to125
  · exact to126
  · exact to127
  · exact to128
  · exact to129
  · exact to130
  · exact to131
  · exact to132
  · exact to133
  · exact to134
  · exact to135
  · exact to136
  · exact to137
  · exact to138
  · exact to139
  · exact to140
  · exact to141
  · exact to142
  · exact to143
  · exact to144
  · exact to145
  · exact to146
  · exact to147
  · exact to148
def Ty : Tab Tryd.prog where
  tt := tyLook tyTab
  ok := by
    intro t i h
    obtain ⟨h1, h2⟩ := tyLook_ok tyTab tyTab_ok t i h
    refine ⟨h1, ?_⟩
    obtain ⟨I, hI, hE⟩ := Option.map_eq_some_iff.1 h2
    simp only [Prod.mk.injEq] at hE
    exact ⟨I, hI, hE.1, hE.2.1, hE.2.2.1, hE.2.2.2⟩
theorem nm4 : (Tryd.f4.name == "runtime.NumGoroutine") = false := by kernel_rfl
/-- ephemeris/ephemerislaw13.AppdOwn -/
theorem in4 {ρ : Hp} {Hs : List HP} {Q : Value → HP} {args : List Value} {c : Code} (hb : Tryd.f4.body = some c) (hn : Nat.ble args.length Tryd.f4.ntmps = true) (h : W Tryd.prog Tryd.f4 ρ Q [.code c] (argEnv 0 args) Hs) : Fn Tryd.prog 4 args.toArray ρ Hs Q := Fn.of_code Tryd.func4 hb nm4 hn h
theorem nm5 : (Tryd.f5.name == "runtime.NumGoroutine") = false := by kernel_rfl
/-- ephemeris/appd.Add -/
theorem in5 {ρ : Hp} {Hs : List HP} {Q : Value → HP} {args : List Value} {c : Code} (hb : Tryd.f5.body = some c) (hn : Nat.ble args.length Tryd.f5.ntmps = true) (h : W Tryd.prog Tryd.f5 ρ Q [.code c] (argEnv 0 args) Hs) : Fn Tryd.prog 5 args.toArray ρ Hs Q := Fn.of_code Tryd.func5 hb nm5 hn h
theorem nm6 : (Tryd.f6.name == "runtime.NumGoroutine") = false := by kernel_rfl
/-- ephemeris/appd.Size -/
theorem in6 {ρ : Hp} {Hs : List HP} {Q : Value → HP} {args : List Value} {c : Code} (hb : Tryd.f6.body = some c) (hn : Nat.ble args.length Tryd.f6.ntmps = true) (h : W Tryd.prog Tryd.f6 ρ Q [.code c] (argEnv 0 args) Hs) : Fn Tryd.prog 6 args.toArray ρ Hs Q := Fn.of_code Tryd.func6 hb nm6 hn h
theorem nm7 : (Tryd.f7.name == "runtime.NumGoroutine") = false := by kernel_rfl
/-- ephemeris/appd.Full -/
theorem in7 {ρ : Hp} {Hs : List HP} {Q : Value → HP} {args : List Value} {c : Code} (hb : Tryd.f7.body = some c) (hn : Nat.ble args.length Tryd.f7.ntmps = true) (h : W Tryd.prog Tryd.f7 ρ Q [.code c] (argEnv 0 args) Hs) : Fn Tryd.prog 7 args.toArray ρ Hs Q := Fn.of_code Tryd.func7 hb nm7 hn h
theorem nm8 : (Tryd.f8.name == "runtime.NumGoroutine") = false := by kernel_rfl
/-- ephemeris/appd.Close -/
theorem in8 {ρ : Hp} {Hs : List HP} {Q : Value → HP} {args : List Value} {c : Code} (hb : Tryd.f8.body = some c) (hn : Nat.ble args.length Tryd.f8.ntmps = true) (h : W Tryd.prog Tryd.f8 ρ Q [.code c] (argEnv 0 args) Hs) : Fn Tryd.prog 8 args.toArray ρ Hs Q := Fn.of_code Tryd.func8 hb nm8 hn h
theorem nm9 : (Tryd.f9.name == "runtime.NumGoroutine") = false := by kernel_rfl
/-- ephemeris/ephemerisref10.Open -/
theorem in9 {ρ : Hp} {Hs : List HP} {Q : Value → HP} {args : List Value} {c : Code} (hb : Tryd.f9.body = some c) (hn : Nat.ble args.length Tryd.f9.ntmps = true) (h : W Tryd.prog Tryd.f9 ρ Q [.code c] (argEnv 0 args) Hs) : Fn Tryd.prog 9 args.toArray ρ Hs Q := Fn.of_code Tryd.func9 hb nm9 hn h
theorem nm10 : (Tryd.f10.name == "runtime.NumGoroutine") = false := by kernel_rfl
/-- ephemeris/ephemerislaw13.awake -/
theorem in10 {ρ : Hp} {Hs : List HP} {Q : Value → HP} {args : List Value} {c : Code} (hb : Tryd.f10.body = some c) (hn : Nat.ble args.length Tryd.f10.ntmps = true) (h : W Tryd.prog Tryd.f10 ρ Q [.code c] (argEnv 0 args) Hs) : Fn Tryd.prog 10 args.toArray ρ Hs Q := Fn.of_code Tryd.func10 hb nm10 hn h
theorem nm11 : (Tryd.f11.name == "runtime.NumGoroutine") = false := by kernel_rfl
/-- ephemeris/ephemerisref10.Same -/
theorem in11 {ρ : Hp} {Hs : List HP} {Q : Value → HP} {args : List Value} {c : Code} (hb : Tryd.f11.body = some c) (hn : Nat.ble args.length Tryd.f11.ntmps = true) (h : W Tryd.prog Tryd.f11 ρ Q [.code c] (argEnv 0 args) Hs) : Fn Tryd.prog 11 args.toArray ρ Hs Q := Fn.of_code Tryd.func11 hb nm11 hn h
theorem nm12 : (Tryd.f12.name == "runtime.NumGoroutine") = false := by kernel_rfl
/-- ephemeris/appd.Still -/
theorem in12 {ρ : Hp} {Hs : List HP} {Q : Value → HP} {args : List Value} {c : Code} (hb : Tryd.f12.body = some c) (hn : Nat.ble args.length Tryd.f12.ntmps = true) (h : W Tryd.prog Tryd.f12 ρ Q [.code c] (argEnv 0 args) Hs) : Fn Tryd.prog 12 args.toArray ρ Hs Q := Fn.of_code Tryd.func12 hb nm12 hn h
theorem nm13 : (Tryd.f13.name == "runtime.NumGoroutine") = false := by kernel_rfl
/-- ephemeris/chnk.Make -/
theorem in13 {ρ : Hp} {Hs : List HP} {Q : Value → HP} {args : List Value} {c : Code} (hb : Tryd.f13.body = some c) (hn : Nat.ble args.length Tryd.f13.ntmps = true) (h : W Tryd.prog Tryd.f13 ρ Q [.code c] (argEnv 0 args) Hs) : Fn Tryd.prog 13 args.toArray ρ Hs Q := Fn.of_code Tryd.func13 hb nm13 hn h
theorem nm14 : (Tryd.f14.name == "runtime.NumGoroutine") = false := by kernel_rfl
/-- ephemeris/ephemerisref10.head -/
theorem in14 {ρ : Hp} {Hs : List HP} {Q : Value → HP} {args : List Value} {c : Code} (hb : Tryd.f14.body = some c) (hn : Nat.ble args.length Tryd.f14.ntmps = true) (h : W Tryd.prog Tryd.f14 ρ Q [.code c] (argEnv 0 args) Hs) : Fn Tryd.prog 14 args.toArray ρ Hs Q := Fn.of_code Tryd.func14 hb nm14 hn h
theorem nm15 : (Tryd.f15.name == "runtime.NumGoroutine") = false := by kernel_rfl
/-- ephemeris/ephemerisref10.Decode -/
theorem in15 {ρ : Hp} {Hs : List HP} {Q : Value → HP} {args : List Value} {c : Code} (hb : Tryd.f15.body = some c) (hn : Nat.ble args.length Tryd.f15.ntmps = true) (h : W Tryd.prog Tryd.f15 ρ Q [.code c] (argEnv 0 args) Hs) : Fn Tryd.prog 15 args.toArray ρ Hs Q := Fn.of_code Tryd.func15 hb nm15 hn h
theorem nm16 : (Tryd.f16.name == "runtime.NumGoroutine") = false := by kernel_rfl
/-- ephemeris/ephemerisref10.Make -/
theorem in16 {ρ : Hp} {Hs : List HP} {Q : Value → HP} {args : List Value} {c : Code} (hb : Tryd.f16.body = some c) (hn : Nat.ble args.length Tryd.f16.ntmps = true) (h : W Tryd.prog Tryd.f16 ρ Q [.code c] (argEnv 0 args) Hs) : Fn Tryd.prog 16 args.toArray ρ Hs Q := Fn.of_code Tryd.func16 hb nm16 hn h
theorem nm17 : (Tryd.f17.name == "runtime.NumGoroutine") = false := by kernel_rfl
/-- slices.Clip[[]ephemeris/api.Sample,ephemeris/api.Sample] -/
theorem in17 {ρ : Hp} {Hs : List HP} {Q : Value → HP} {args : List Value} {c : Code} (hb : Tryd.f17.body = some c) (hn : Nat.ble args.length Tryd.f17.ntmps = true) (h : W Tryd.prog Tryd.f17 ρ Q [.code c] (argEnv 0 args) Hs) : Fn Tryd.prog 17 args.toArray ρ Hs Q := Fn.of_code Tryd.func17 hb nm17 hn h
theorem nm18 : (Tryd.f18.name == "runtime.NumGoroutine") = false := by kernel_rfl
/-- slices.Clone[[]ephemeris/api.Sample,ephemeris/api.Sample] -/
theorem in18 {ρ : Hp} {Hs : List HP} {Q : Value → HP} {args : List Value} {c : Code} (hb : Tryd.f18.body = some c) (hn : Nat.ble args.length Tryd.f18.ntmps = true) (h : W Tryd.prog Tryd.f18 ρ Q [.code c] (argEnv 0 args) Hs) : Fn Tryd.prog 18 args.toArray ρ Hs Q := Fn.of_code Tryd.func18 hb nm18 hn h
theorem nm19 : (Tryd.f19.name == "runtime.NumGoroutine") = false := by kernel_rfl
/-- ephemeris/suit.Encode -/
theorem in19 {ρ : Hp} {Hs : List HP} {Q : Value → HP} {args : List Value} {c : Code} (hb : Tryd.f19.body = some c) (hn : Nat.ble args.length Tryd.f19.ntmps = true) (h : W Tryd.prog Tryd.f19 ρ Q [.code c] (argEnv 0 args) Hs) : Fn Tryd.prog 19 args.toArray ρ Hs Q := Fn.of_code Tryd.func19 hb nm19 hn h
theorem nm20 : (Tryd.f20.name == "runtime.NumGoroutine") = false := by kernel_rfl
/-- ephemeris/vint.Put -/
theorem in20 {ρ : Hp} {Hs : List HP} {Q : Value → HP} {args : List Value} {c : Code} (hb : Tryd.f20.body = some c) (hn : Nat.ble args.length Tryd.f20.ntmps = true) (h : W Tryd.prog Tryd.f20 ρ Q [.code c] (argEnv 0 args) Hs) : Fn Tryd.prog 20 args.toArray ρ Hs Q := Fn.of_code Tryd.func20 hb nm20 hn h
theorem nm21 : (Tryd.f21.name == "runtime.NumGoroutine") = false := by kernel_rfl
/-- ephemeris/vint.Zig -/
theorem in21 {ρ : Hp} {Hs : List HP} {Q : Value → HP} {args : List Value} {c : Code} (hb : Tryd.f21.body = some c) (hn : Nat.ble args.length Tryd.f21.ntmps = true) (h : W Tryd.prog Tryd.f21 ρ Q [.code c] (argEnv 0 args) Hs) : Fn Tryd.prog 21 args.toArray ρ Hs Q := Fn.of_code Tryd.func21 hb nm21 hn h
theorem nm22 : (Tryd.f22.name == "runtime.NumGoroutine") = false := by kernel_rfl
/-- ephemeris/crcc.Sum -/
theorem in22 {ρ : Hp} {Hs : List HP} {Q : Value → HP} {args : List Value} {c : Code} (hb : Tryd.f22.body = some c) (hn : Nat.ble args.length Tryd.f22.ntmps = true) (h : W Tryd.prog Tryd.f22 ρ Q [.code c] (argEnv 0 args) Hs) : Fn Tryd.prog 22 args.toArray ρ Hs Q := Fn.of_code Tryd.func22 hb nm22 hn h
theorem nm23 : (Tryd.f23.name == "runtime.NumGoroutine") = false := by kernel_rfl
/-- ephemeris/crcc.Table -/
theorem in23 {ρ : Hp} {Hs : List HP} {Q : Value → HP} {args : List Value} {c : Code} (hb : Tryd.f23.body = some c) (hn : Nat.ble args.length Tryd.f23.ntmps = true) (h : W Tryd.prog Tryd.f23 ρ Q [.code c] (argEnv 0 args) Hs) : Fn Tryd.prog 23 args.toArray ρ Hs Q := Fn.of_code Tryd.func23 hb nm23 hn h
theorem nm24 : (Tryd.f24.name == "runtime.NumGoroutine") = false := by kernel_rfl
/-- ephemeris/ephemerisref1.Get -/
theorem in24 {ρ : Hp} {Hs : List HP} {Q : Value → HP} {args : List Value} {c : Code} (hb : Tryd.f24.body = some c) (hn : Nat.ble args.length Tryd.f24.ntmps = true) (h : W Tryd.prog Tryd.f24 ρ Q [.code c] (argEnv 0 args) Hs) : Fn Tryd.prog 24 args.toArray ρ Hs Q := Fn.of_code Tryd.func24 hb nm24 hn h
theorem nm25 : (Tryd.f25.name == "runtime.NumGoroutine") = false := by kernel_rfl
/-- ephemeris/ephemerisref1.Zag -/
theorem in25 {ρ : Hp} {Hs : List HP} {Q : Value → HP} {args : List Value} {c : Code} (hb : Tryd.f25.body = some c) (hn : Nat.ble args.length Tryd.f25.ntmps = true) (h : W Tryd.prog Tryd.f25 ρ Q [.code c] (argEnv 0 args) Hs) : Fn Tryd.prog 25 args.toArray ρ Hs Q := Fn.of_code Tryd.func25 hb nm25 hn h
theorem nm26 : (Tryd.f26.name == "runtime.NumGoroutine") = false := by kernel_rfl
/-- ephemeris/ephemerisref4.GetTimes -/
theorem in26 {ρ : Hp} {Hs : List HP} {Q : Value → HP} {args : List Value} {c : Code} (hb : Tryd.f26.body = some c) (hn : Nat.ble args.length Tryd.f26.ntmps = true) (h : W Tryd.prog Tryd.f26 ρ Q [.code c] (argEnv 0 args) Hs) : Fn Tryd.prog 26 args.toArray ρ Hs Q := Fn.of_code Tryd.func26 hb nm26 hn h
theorem nm27 : (Tryd.f27.name == "runtime.NumGoroutine") = false := by kernel_rfl
/-- ephemeris/ephemerisref10.read -/
theorem in27 {ρ : Hp} {Hs : List HP} {Q : Value → HP} {args : List Value} {c : Code} (hb : Tryd.f27.body = some c) (hn : Nat.ble args.length Tryd.f27.ntmps = true) (h : W Tryd.prog Tryd.f27 ρ Q [.code c] (argEnv 0 args) Hs) : Fn Tryd.prog 27 args.toArray ρ Hs Q := Fn.of_code Tryd.func27 hb nm27 hn h
theorem nm28 : (Tryd.f28.name == "runtime.NumGoroutine") = false := by kernel_rfl
/-- ephemeris/ephemerisref10.Encode -/
theorem in28 {ρ : Hp} {Hs : List HP} {Q : Value → HP} {args : List Value} {c : Code} (hb : Tryd.f28.body = some c) (hn : Nat.ble args.length Tryd.f28.ntmps = true) (h : W Tryd.prog Tryd.f28 ρ Q [.code c] (argEnv 0 args) Hs) : Fn Tryd.prog 28 args.toArray ρ Hs Q := Fn.of_code Tryd.func28 hb nm28 hn h
theorem nm29 : (Tryd.f29.name == "runtime.NumGoroutine") = false := by kernel_rfl
/-- ephemeris/ephemerisref1.Put -/
theorem in29 {ρ : Hp} {Hs : List HP} {Q : Value → HP} {args : List Value} {c : Code} (hb : Tryd.f29.body = some c) (hn : Nat.ble args.length Tryd.f29.ntmps = true) (h : W Tryd.prog Tryd.f29 ρ Q [.code c] (argEnv 0 args) Hs) : Fn Tryd.prog 29 args.toArray ρ Hs Q := Fn.of_code Tryd.func29 hb nm29 hn h
theorem nm30 : (Tryd.f30.name == "runtime.NumGoroutine") = false := by kernel_rfl
/-- ephemeris/ephemerisref1.Zig -/
theorem in30 {ρ : Hp} {Hs : List HP} {Q : Value → HP} {args : List Value} {c : Code} (hb : Tryd.f30.body = some c) (hn : Nat.ble args.length Tryd.f30.ntmps = true) (h : W Tryd.prog Tryd.f30 ρ Q [.code c] (argEnv 0 args) Hs) : Fn Tryd.prog 30 args.toArray ρ Hs Q := Fn.of_code Tryd.func30 hb nm30 hn h
theorem nm31 : (Tryd.f31.name == "runtime.NumGoroutine") = false := by kernel_rfl
/-- ephemeris/ephemerisref1.Sum -/
theorem in31 {ρ : Hp} {Hs : List HP} {Q : Value → HP} {args : List Value} {c : Code} (hb : Tryd.f31.body = some c) (hn : Nat.ble args.length Tryd.f31.ntmps = true) (h : W Tryd.prog Tryd.f31 ρ Q [.code c] (argEnv 0 args) Hs) : Fn Tryd.prog 31 args.toArray ρ Hs Q := Fn.of_code Tryd.func31 hb nm31 hn h
theorem nm32 : (Tryd.f32.name == "runtime.NumGoroutine") = false := by kernel_rfl
/-- ephemeris/suit.Rising -/
theorem in32 {ρ : Hp} {Hs : List HP} {Q : Value → HP} {args : List Value} {c : Code} (hb : Tryd.f32.body = some c) (hn : Nat.ble args.length Tryd.f32.ntmps = true) (h : W Tryd.prog Tryd.f32 ρ Q [.code c] (argEnv 0 args) Hs) : Fn Tryd.prog 32 args.toArray ρ Hs Q := Fn.of_code Tryd.func32 hb nm32 hn h
theorem nm33 : (Tryd.f33.name == "runtime.NumGoroutine") = false := by kernel_rfl
/-- ephemeris/suit.values -/
theorem in33 {ρ : Hp} {Hs : List HP} {Q : Value → HP} {args : List Value} {c : Code} (hb : Tryd.f33.body = some c) (hn : Nat.ble args.length Tryd.f33.ntmps = true) (h : W Tryd.prog Tryd.f33 ρ Q [.code c] (argEnv 0 args) Hs) : Fn Tryd.prog 33 args.toArray ρ Hs Q := Fn.of_code Tryd.func33 hb nm33 hn h
theorem nm34 : (Tryd.f34.name == "runtime.NumGoroutine") = false := by kernel_rfl
/-- ephemeris/bits.NewWriter -/
theorem in34 {ρ : Hp} {Hs : List HP} {Q : Value → HP} {args : List Value} {c : Code} (hb : Tryd.f34.body = some c) (hn : Nat.ble args.length Tryd.f34.ntmps = true) (h : W Tryd.prog Tryd.f34 ρ Q [.code c] (argEnv 0 args) Hs) : Fn Tryd.prog 34 args.toArray ρ Hs Q := Fn.of_code Tryd.func34 hb nm34 hn h
theorem nm35 : (Tryd.f35.name == "runtime.NumGoroutine") = false := by kernel_rfl
/-- ephemeris/time.Encode -/
theorem in35 {ρ : Hp} {Hs : List HP} {Q : Value → HP} {args : List Value} {c : Code} (hb : Tryd.f35.body = some c) (hn : Nat.ble args.length Tryd.f35.ntmps = true) (h : W Tryd.prog Tryd.f35 ρ Q [.code c] (argEnv 0 args) Hs) : Fn Tryd.prog 35 args.toArray ρ Hs Q := Fn.of_code Tryd.func35 hb nm35 hn h
theorem nm36 : (Tryd.f36.name == "runtime.NumGoroutine") = false := by kernel_rfl
/-- (*ephemeris/bits.Writer).Bytes -/
theorem in36 {ρ : Hp} {Hs : List HP} {Q : Value → HP} {args : List Value} {c : Code} (hb : Tryd.f36.body = some c) (hn : Nat.ble args.length Tryd.f36.ntmps = true) (h : W Tryd.prog Tryd.f36 ρ Q [.code c] (argEnv 0 args) Hs) : Fn Tryd.prog 36 args.toArray ρ Hs Q := Fn.of_code Tryd.func36 hb nm36 hn h
theorem nm37 : (Tryd.f37.name == "runtime.NumGoroutine") = false := by kernel_rfl
/-- slices.Clip[[]byte,byte] -/
theorem in37 {ρ : Hp} {Hs : List HP} {Q : Value → HP} {args : List Value} {c : Code} (hb : Tryd.f37.body = some c) (hn : Nat.ble args.length Tryd.f37.ntmps = true) (h : W Tryd.prog Tryd.f37 ρ Q [.code c] (argEnv 0 args) Hs) : Fn Tryd.prog 37 args.toArray ρ Hs Q := Fn.of_code Tryd.func37 hb nm37 hn h
theorem nm38 : (Tryd.f38.name == "runtime.NumGoroutine") = false := by kernel_rfl
/-- slices.Clone[[]byte,byte] -/
theorem in38 {ρ : Hp} {Hs : List HP} {Q : Value → HP} {args : List Value} {c : Code} (hb : Tryd.f38.body = some c) (hn : Nat.ble args.length Tryd.f38.ntmps = true) (h : W Tryd.prog Tryd.f38 ρ Q [.code c] (argEnv 0 args) Hs) : Fn Tryd.prog 38 args.toArray ρ Hs Q := Fn.of_code Tryd.func38 hb nm38 hn h
theorem nm39 : (Tryd.f39.name == "runtime.NumGoroutine") = false := by kernel_rfl
/-- ephemeris/ephemerisref4.held -/
theorem in39 {ρ : Hp} {Hs : List HP} {Q : Value → HP} {args : List Value} {c : Code} (hb : Tryd.f39.body = some c) (hn : Nat.ble args.length Tryd.f39.ntmps = true) (h : W Tryd.prog Tryd.f39 ρ Q [.code c] (argEnv 0 args) Hs) : Fn Tryd.prog 39 args.toArray ρ Hs Q := Fn.of_code Tryd.func39 hb nm39 hn h
theorem nm40 : (Tryd.f40.name == "runtime.NumGoroutine") = false := by kernel_rfl
/-- (*ephemeris/ephemerisref1.Reader).Get -/
theorem in40 {ρ : Hp} {Hs : List HP} {Q : Value → HP} {args : List Value} {c : Code} (hb : Tryd.f40.body = some c) (hn : Nat.ble args.length Tryd.f40.ntmps = true) (h : W Tryd.prog Tryd.f40 ρ Q [.code c] (argEnv 0 args) Hs) : Fn Tryd.prog 40 args.toArray ρ Hs Q := Fn.of_code Tryd.func40 hb nm40 hn h
theorem nm41 : (Tryd.f41.name == "runtime.NumGoroutine") = false := by kernel_rfl
/-- ephemeris/ephemerisref4.difference -/
theorem in41 {ρ : Hp} {Hs : List HP} {Q : Value → HP} {args : List Value} {c : Code} (hb : Tryd.f41.body = some c) (hn : Nat.ble args.length Tryd.f41.ntmps = true) (h : W Tryd.prog Tryd.f41 ρ Q [.code c] (argEnv 0 args) Hs) : Fn Tryd.prog 41 args.toArray ρ Hs Q := Fn.of_code Tryd.func41 hb nm41 hn h
theorem nm42 : (Tryd.f42.name == "runtime.NumGoroutine") = false := by kernel_rfl
/-- ephemeris/ephemerisref4.GetValues -/
theorem in42 {ρ : Hp} {Hs : List HP} {Q : Value → HP} {args : List Value} {c : Code} (hb : Tryd.f42.body = some c) (hn : Nat.ble args.length Tryd.f42.ntmps = true) (h : W Tryd.prog Tryd.f42 ρ Q [.code c] (argEnv 0 args) Hs) : Fn Tryd.prog 42 args.toArray ρ Hs Q := Fn.of_code Tryd.func42 hb nm42 hn h
theorem nm47 : (Tryd.f47.name == "runtime.NumGoroutine") = false := by kernel_rfl
/-- ephemeris/ephemerisref10.told -/
theorem in47 {ρ : Hp} {Hs : List HP} {Q : Value → HP} {args : List Value} {c : Code} (hb : Tryd.f47.body = some c) (hn : Nat.ble args.length Tryd.f47.ntmps = true) (h : W Tryd.prog Tryd.f47 ρ Q [.code c] (argEnv 0 args) Hs) : Fn Tryd.prog 47 args.toArray ρ Hs Q := Fn.of_code Tryd.func47 hb nm47 hn h
theorem nm48 : (Tryd.f48.name == "runtime.NumGoroutine") = false := by kernel_rfl
/-- ephemeris/ephemerisref10.values -/
theorem in48 {ρ : Hp} {Hs : List HP} {Q : Value → HP} {args : List Value} {c : Code} (hb : Tryd.f48.body = some c) (hn : Nat.ble args.length Tryd.f48.ntmps = true) (h : W Tryd.prog Tryd.f48 ρ Q [.code c] (argEnv 0 args) Hs) : Fn Tryd.prog 48 args.toArray ρ Hs Q := Fn.of_code Tryd.func48 hb nm48 hn h
theorem nm49 : (Tryd.f49.name == "runtime.NumGoroutine") = false := by kernel_rfl
/-- ephemeris/ephemerisref10.Rising -/
theorem in49 {ρ : Hp} {Hs : List HP} {Q : Value → HP} {args : List Value} {c : Code} (hb : Tryd.f49.body = some c) (hn : Nat.ble args.length Tryd.f49.ntmps = true) (h : W Tryd.prog Tryd.f49 ρ Q [.code c] (argEnv 0 args) Hs) : Fn Tryd.prog 49 args.toArray ρ Hs Q := Fn.of_code Tryd.func49 hb nm49 hn h
theorem nm50 : (Tryd.f50.name == "runtime.NumGoroutine") = false := by kernel_rfl
/-- ephemeris/ephemerisref4.Times -/
theorem in50 {ρ : Hp} {Hs : List HP} {Q : Value → HP} {args : List Value} {c : Code} (hb : Tryd.f50.body = some c) (hn : Nat.ble args.length Tryd.f50.ntmps = true) (h : W Tryd.prog Tryd.f50 ρ Q [.code c] (argEnv 0 args) Hs) : Fn Tryd.prog 50 args.toArray ρ Hs Q := Fn.of_code Tryd.func50 hb nm50 hn h
theorem nm51 : (Tryd.f51.name == "runtime.NumGoroutine") = false := by kernel_rfl
/-- (*ephemeris/ephemerisref1.Writer).Bytes -/
theorem in51 {ρ : Hp} {Hs : List HP} {Q : Value → HP} {args : List Value} {c : Code} (hb : Tryd.f51.body = some c) (hn : Nat.ble args.length Tryd.f51.ntmps = true) (h : W Tryd.prog Tryd.f51 ρ Q [.code c] (argEnv 0 args) Hs) : Fn Tryd.prog 51 args.toArray ρ Hs Q := Fn.of_code Tryd.func51 hb nm51 hn h
theorem nm52 : (Tryd.f52.name == "runtime.NumGoroutine") = false := by kernel_rfl
/-- ephemeris/ephemerisref1.Entry -/
theorem in52 {ρ : Hp} {Hs : List HP} {Q : Value → HP} {args : List Value} {c : Code} (hb : Tryd.f52.body = some c) (hn : Nat.ble args.length Tryd.f52.ntmps = true) (h : W Tryd.prog Tryd.f52 ρ Q [.code c] (argEnv 0 args) Hs) : Fn Tryd.prog 52 args.toArray ρ Hs Q := Fn.of_code Tryd.func52 hb nm52 hn h
theorem nm53 : (Tryd.f53.name == "runtime.NumGoroutine") = false := by kernel_rfl
/-- ephemeris/xorv.Encode -/
theorem in53 {ρ : Hp} {Hs : List HP} {Q : Value → HP} {args : List Value} {c : Code} (hb : Tryd.f53.body = some c) (hn : Nat.ble args.length Tryd.f53.ntmps = true) (h : W Tryd.prog Tryd.f53 ρ Q [.code c] (argEnv 0 args) Hs) : Fn Tryd.prog 53 args.toArray ρ Hs Q := Fn.of_code Tryd.func53 hb nm53 hn h
theorem nm61 : (Tryd.f61.name == "runtime.NumGoroutine") = false := by kernel_rfl
/-- (*ephemeris/bits.Writer).Put -/
theorem in61 {ρ : Hp} {Hs : List HP} {Q : Value → HP} {args : List Value} {c : Code} (hb : Tryd.f61.body = some c) (hn : Nat.ble args.length Tryd.f61.ntmps = true) (h : W Tryd.prog Tryd.f61 ρ Q [.code c] (argEnv 0 args) Hs) : Fn Tryd.prog 61 args.toArray ρ Hs Q := Fn.of_code Tryd.func61 hb nm61 hn h
theorem nm62 : (Tryd.f62.name == "runtime.NumGoroutine") = false := by kernel_rfl
/-- ephemeris/time.which -/
theorem in62 {ρ : Hp} {Hs : List HP} {Q : Value → HP} {args : List Value} {c : Code} (hb : Tryd.f62.body = some c) (hn : Nat.ble args.length Tryd.f62.ntmps = true) (h : W Tryd.prog Tryd.f62 ρ Q [.code c] (argEnv 0 args) Hs) : Fn Tryd.prog 62 args.toArray ρ Hs Q := Fn.of_code Tryd.func62 hb nm62 hn h
theorem nm63 : (Tryd.f63.name == "runtime.NumGoroutine") = false := by kernel_rfl
/-- (*ephemeris/ephemerisref1.Reader).Left -/
theorem in63 {ρ : Hp} {Hs : List HP} {Q : Value → HP} {args : List Value} {c : Code} (hb : Tryd.f63.body = some c) (hn : Nat.ble args.length Tryd.f63.ntmps = true) (h : W Tryd.prog Tryd.f63 ρ Q [.code c] (argEnv 0 args) Hs) : Fn Tryd.prog 63 args.toArray ρ Hs Q := Fn.of_code Tryd.func63 hb nm63 hn h
theorem nm64 : (Tryd.f64.name == "runtime.NumGoroutine") = false := by kernel_rfl
/-- ephemeris/ephemerisref4.kind -/
theorem in64 {ρ : Hp} {Hs : List HP} {Q : Value → HP} {args : List Value} {c : Code} (hb : Tryd.f64.body = some c) (hn : Nat.ble args.length Tryd.f64.ntmps = true) (h : W Tryd.prog Tryd.f64 ρ Q [.code c] (argEnv 0 args) Hs) : Fn Tryd.prog 64 args.toArray ρ Hs Q := Fn.of_code Tryd.func64 hb nm64 hn h
theorem nm65 : (Tryd.f65.name == "runtime.NumGoroutine") = false := by kernel_rfl
/-- ephemeris/ephemerisref4.Values -/
theorem in65 {ρ : Hp} {Hs : List HP} {Q : Value → HP} {args : List Value} {c : Code} (hb : Tryd.f65.body = some c) (hn : Nat.ble args.length Tryd.f65.ntmps = true) (h : W Tryd.prog Tryd.f65 ρ Q [.code c] (argEnv 0 args) Hs) : Fn Tryd.prog 65 args.toArray ρ Hs Q := Fn.of_code Tryd.func65 hb nm65 hn h
theorem nm76 : (Tryd.f76.name == "runtime.NumGoroutine") = false := by kernel_rfl
/-- (*ephemeris/ephemerisref1.Writer).Put -/
theorem in76 {ρ : Hp} {Hs : List HP} {Q : Value → HP} {args : List Value} {c : Code} (hb : Tryd.f76.body = some c) (hn : Nat.ble args.length Tryd.f76.ntmps = true) (h : W Tryd.prog Tryd.f76 ρ Q [.code c] (argEnv 0 args) Hs) : Fn Tryd.prog 76 args.toArray ρ Hs Q := Fn.of_code Tryd.func76 hb nm76 hn h
theorem nm77 : (Tryd.f77.name == "runtime.NumGoroutine") = false := by kernel_rfl
/-- (ephemeris/xorv.window).fits -/
theorem in77 {ρ : Hp} {Hs : List HP} {Q : Value → HP} {args : List Value} {c : Code} (hb : Tryd.f77.body = some c) (hn : Nat.ble args.length Tryd.f77.ntmps = true) (h : W Tryd.prog Tryd.f77 ρ Q [.code c] (argEnv 0 args) Hs) : Fn Tryd.prog 77 args.toArray ρ Hs Q := Fn.of_code Tryd.func77 hb nm77 hn h
theorem nm78 : (Tryd.f78.name == "runtime.NumGoroutine") = false := by kernel_rfl
/-- ephemeris/xorv.of -/
theorem in78 {ρ : Hp} {Hs : List HP} {Q : Value → HP} {args : List Value} {c : Code} (hb : Tryd.f78.body = some c) (hn : Nat.ble args.length Tryd.f78.ntmps = true) (h : W Tryd.prog Tryd.f78 ρ Q [.code c] (argEnv 0 args) Hs) : Fn Tryd.prog 78 args.toArray ρ Hs Q := Fn.of_code Tryd.func78 hb nm78 hn h
theorem nm79 : (Tryd.f79.name == "runtime.NumGoroutine") = false := by kernel_rfl
/-- (ephemeris/xorv.window).long -/
theorem in79 {ρ : Hp} {Hs : List HP} {Q : Value → HP} {args : List Value} {c : Code} (hb : Tryd.f79.body = some c) (hn : Nat.ble args.length Tryd.f79.ntmps = true) (h : W Tryd.prog Tryd.f79 ρ Q [.code c] (argEnv 0 args) Hs) : Fn Tryd.prog 79 args.toArray ρ Hs Q := Fn.of_code Tryd.func79 hb nm79 hn h
theorem nm84 : (Tryd.f84.name == "runtime.NumGoroutine") = false := by kernel_rfl
/-- math/bits.Len64 -/
theorem in84 {ρ : Hp} {Hs : List HP} {Q : Value → HP} {args : List Value} {c : Code} (hb : Tryd.f84.body = some c) (hn : Nat.ble args.length Tryd.f84.ntmps = true) (h : W Tryd.prog Tryd.f84 ρ Q [.code c] (argEnv 0 args) Hs) : Fn Tryd.prog 84 args.toArray ρ Hs Q := Fn.of_code Tryd.func84 hb nm84 hn h
theorem nm88 : (Tryd.f88.name == "runtime.NumGoroutine") = false := by kernel_rfl
/-- ephemeris/bits.held -/
theorem in88 {ρ : Hp} {Hs : List HP} {Q : Value → HP} {args : List Value} {c : Code} (hb : Tryd.f88.body = some c) (hn : Nat.ble args.length Tryd.f88.ntmps = true) (h : W Tryd.prog Tryd.f88 ρ Q [.code c] (argEnv 0 args) Hs) : Fn Tryd.prog 88 args.toArray ρ Hs Q := Fn.of_code Tryd.func88 hb nm88 hn h
theorem nm89 : (Tryd.f89.name == "runtime.NumGoroutine") = false := by kernel_rfl
/-- ephemeris/ephemerisref4.within -/
theorem in89 {ρ : Hp} {Hs : List HP} {Q : Value → HP} {args : List Value} {c : Code} (hb : Tryd.f89.body = some c) (hn : Nat.ble args.length Tryd.f89.ntmps = true) (h : W Tryd.prog Tryd.f89 ρ Q [.code c] (argEnv 0 args) Hs) : Fn Tryd.prog 89 args.toArray ρ Hs Q := Fn.of_code Tryd.func89 hb nm89 hn h
theorem nm90 : (Tryd.f90.name == "runtime.NumGoroutine") = false := by kernel_rfl
/-- ephemeris/ephemerisref4.ahead -/
theorem in90 {ρ : Hp} {Hs : List HP} {Q : Value → HP} {args : List Value} {c : Code} (hb : Tryd.f90.body = some c) (hn : Nat.ble args.length Tryd.f90.ntmps = true) (h : W Tryd.prog Tryd.f90 ρ Q [.code c] (argEnv 0 args) Hs) : Fn Tryd.prog 90 args.toArray ρ Hs Q := Fn.of_code Tryd.func90 hb nm90 hn h
theorem nm91 : (Tryd.f91.name == "runtime.NumGoroutine") = false := by kernel_rfl
/-- ephemeris/ephemerisref4.behind -/
theorem in91 {ρ : Hp} {Hs : List HP} {Q : Value → HP} {args : List Value} {c : Code} (hb : Tryd.f91.body = some c) (hn : Nat.ble args.length Tryd.f91.ntmps = true) (h : W Tryd.prog Tryd.f91 ρ Q [.code c] (argEnv 0 args) Hs) : Fn Tryd.prog 91 args.toArray ρ Hs Q := Fn.of_code Tryd.func91 hb nm91 hn h
theorem nm95 : (Tryd.f95.name == "runtime.NumGoroutine") = false := by kernel_rfl
/-- math/bits.LeadingZeros64 -/
theorem in95 {ρ : Hp} {Hs : List HP} {Q : Value → HP} {args : List Value} {c : Code} (hb : Tryd.f95.body = some c) (hn : Nat.ble args.length Tryd.f95.ntmps = true) (h : W Tryd.prog Tryd.f95 ρ Q [.code c] (argEnv 0 args) Hs) : Fn Tryd.prog 95 args.toArray ρ Hs Q := Fn.of_code Tryd.func95 hb nm95 hn h
theorem nm96 : (Tryd.f96.name == "runtime.NumGoroutine") = false := by kernel_rfl
/-- math/bits.TrailingZeros64 -/
theorem in96 {ρ : Hp} {Hs : List HP} {Q : Value → HP} {args : List Value} {c : Code} (hb : Tryd.f96.body = some c) (hn : Nat.ble args.length Tryd.f96.ntmps = true) (h : W Tryd.prog Tryd.f96 ρ Q [.code c] (argEnv 0 args) Hs) : Fn Tryd.prog 96 args.toArray ρ Hs Q := Fn.of_code Tryd.func96 hb nm96 hn h
end Go.Proofs.YtdpnpipninggeaaDoor
