/- The types and functions of this translation, as the rules look them up. Written by wip/tab.py out of the translation's own rows. -/
import Derived.Test.YtdpnpipninggeaaGreatDoorMem
import Derived.Test.YtdpnpipninggeaaGreatDoorProg
import Derived.KernelRfl
set_option linter.unusedVariables false
namespace Go.Proofs.YtdpnpipninggeaaGreatDoor
open Go
def ti0 : TyI := ⟨.tuple #[], 1, 0, .tuple #[], false⟩
def ti1 : TyI := ⟨.func #[] #[] false, 1, 8, .nilFunc, false⟩
def ti2 : TyI := ⟨.int .i64, 1, 8, .int .i64 0, true⟩
def ti3 : TyI := ⟨.int .i64, 1, 8, .int .i64 0, true⟩
def ti4 : TyI := ⟨.bool, 1, 1, .bool false, true⟩
def ti5 : TyI := ⟨.int .u8, 1, 1, .int .u8 0, true⟩
def ti6 : TyI := ⟨.int .u8, 1, 1, .int .u8 0, true⟩
def ti7 : TyI := ⟨.struct #[⟨ "x", 2, 0, false, "", "runtime", 0⟩, ⟨ "y", 3, 1, false, "", "runtime", 8⟩, ⟨ "signed", 4, 2, false, "", "runtime", 16⟩, ⟨ "code", 6, 3, false, "", "runtime", 17⟩], 4, 24, .agg #[.int .i64 0, .int .i64 0, .bool false, .int .u8 0], true⟩
def ti8 : TyI := ⟨.struct #[⟨ "x", 2, 0, false, "", "runtime", 0⟩, ⟨ "y", 3, 1, false, "", "runtime", 8⟩, ⟨ "signed", 4, 2, false, "", "runtime", 16⟩, ⟨ "code", 6, 3, false, "", "runtime", 17⟩], 4, 24, .agg #[.int .i64 0, .int .i64 0, .bool false, .int .u8 0], true⟩
def ti9 : TyI := ⟨.string, 1, 16, .string ByteArray.empty, true⟩
def ti10 : TyI := ⟨.string, 1, 16, .string ByteArray.empty, true⟩
def ti11 : TyI := ⟨.string, 1, 16, .string ByteArray.empty, true⟩
def ti12 : TyI := ⟨.int .u64, 1, 8, .int .u64 0, true⟩
def ti13 : TyI := ⟨.struct #[⟨ "msg", 9, 0, false, "", "runtime", 0⟩, ⟨ "addr", 12, 1, false, "", "runtime", 16⟩], 2, 24, .agg #[.string ByteArray.empty, .int .u64 0], true⟩
def ti14 : TyI := ⟨.struct #[⟨ "msg", 9, 0, false, "", "runtime", 0⟩, ⟨ "addr", 12, 1, false, "", "runtime", 16⟩], 2, 24, .agg #[.string ByteArray.empty, .int .u64 0], true⟩
def ti15 : TyI := ⟨.pointer 138, 1, 8, .pointer none, true⟩
def ti16 : TyI := ⟨.pointer 141, 1, 8, .pointer none, true⟩
def ti17 : TyI := ⟨.pointer 149, 1, 8, .pointer none, true⟩
def ti18 : TyI := ⟨.struct #[⟨ "typ", 17, 0, false, "", "internal/runtime/maps", 0⟩], 1, 8, .agg #[.pointer none], true⟩
def ti19 : TyI := ⟨.struct #[⟨ "typ", 17, 0, false, "", "internal/runtime/maps", 0⟩], 1, 8, .agg #[.pointer none], true⟩
def ti20 : TyI := ⟨.interface #[], 1, 16, .nilIface, true⟩
def ti21 : TyI := ⟨.int .i32, 1, 4, .int .i32 0, true⟩
def ti22 : TyI := ⟨.slice 28, 1, 24, .slice none 0 0, false⟩
def ti23 : TyI := ⟨.slice 3, 1, 24, .slice none 0 0, false⟩
def ti24 : TyI := ⟨.struct #[⟨ "Any", 4, 0, false, "", "", 0⟩, ⟨ "Last", 2, 1, false, "", "", 8⟩, ⟨ "List", 22, 2, false, "", "", 16⟩], 3, 40, .agg #[.bool false, .int .i64 0, .slice none 0 0], false⟩
def ti25 : TyI := ⟨.struct #[⟨ "Any", 4, 0, false, "", "", 0⟩, ⟨ "Last", 2, 1, false, "", "", 8⟩, ⟨ "List", 22, 2, false, "", "", 16⟩], 3, 40, .agg #[.bool false, .int .i64 0, .slice none 0 0], false⟩
def ti26 : TyI := ⟨.int .u64, 1, 8, .int .u64 0, true⟩
def ti27 : TyI := ⟨.struct #[⟨ "T", 2, 0, false, "", "", 0⟩, ⟨ "V", 26, 1, false, "", "", 8⟩], 2, 16, .agg #[.int .i64 0, .int .u64 0], true⟩
def ti28 : TyI := ⟨.struct #[⟨ "T", 2, 0, false, "", "", 0⟩, ⟨ "V", 26, 1, false, "", "", 8⟩], 2, 16, .agg #[.int .i64 0, .int .u64 0], true⟩
def ti29 : TyI := ⟨.slice 5, 1, 24, .slice none 0 0, false⟩
def ti30 : TyI := ⟨.tuple #[29, 25], 1, 0, .tuple #[.slice none 0 0, .agg #[.bool false, .int .i64 0, .slice none 0 0]], false⟩
def ti31 : TyI := ⟨.func #[25] #[29, 25] false, 1, 8, .nilFunc, false⟩
def ti32 : TyI := ⟨.int .i64, 1, 8, .int .i64 0, true⟩
def ti33 : TyI := ⟨.tuple #[25, 32], 1, 0, .tuple #[.agg #[.bool false, .int .i64 0, .slice none 0 0], .int .i64 0], false⟩
def ti34 : TyI := ⟨.func #[25, 28] #[25, 32] false, 1, 8, .nilFunc, false⟩
def ti35 : TyI := ⟨.func #[25, 25] #[4] false, 1, 8, .nilFunc, false⟩
def ti36 : TyI := ⟨.func #[25] #[4] false, 1, 8, .nilFunc, false⟩
def ti37 : TyI := ⟨.func #[25] #[3] false, 1, 8, .nilFunc, false⟩
def ti38 : TyI := ⟨.func #[] #[4] false, 1, 8, .nilFunc, false⟩
def ti39 : TyI := ⟨.func #[22, 23, 4] #[4] false, 1, 8, .nilFunc, false⟩
def ti40 : TyI := ⟨.tuple #[29, 4], 1, 0, .tuple #[.slice none 0 0, .bool false], false⟩
def ti41 : TyI := ⟨.func #[3, 22] #[29, 4] false, 1, 8, .nilFunc, false⟩
def ti42 : TyI := ⟨.func #[25] #[25] false, 1, 8, .nilFunc, false⟩
def ti43 : TyI := ⟨.func #[22] #[22] false, 1, 8, .nilFunc, false⟩
def ti44 : TyI := ⟨.func #[22, 22] #[4] false, 1, 8, .nilFunc, false⟩
def ti45 : TyI := ⟨.tuple #[22, 3, 4], 1, 0, .tuple #[.slice none 0 0, .int .i64 0, .bool false], false⟩
def ti46 : TyI := ⟨.func #[29] #[22, 3, 4] false, 1, 8, .nilFunc, false⟩
def ti47 : TyI := ⟨.func #[29, 26] #[29] false, 1, 8, .nilFunc, false⟩
def ti48 : TyI := ⟨.func #[2] #[26] false, 1, 8, .nilFunc, false⟩
def ti49 : TyI := ⟨.int .u32, 1, 4, .int .u32 0, true⟩
def ti50 : TyI := ⟨.func #[51, 29] #[49] false, 1, 8, .nilFunc, false⟩
def ti51 : TyI := ⟨.array 256 49, 256, 1024, .agg (List.replicate 256 (.int .u32 0)).toArray, true⟩
def ti52 : TyI := ⟨.func #[] #[51] false, 1, 8, .nilFunc, false⟩
def ti53 : TyI := ⟨.int .u64, 1, 8, .int .u64 0, true⟩
def ti54 : TyI := ⟨.func #[29] #[49] false, 1, 8, .nilFunc, false⟩
def ti55 : TyI := ⟨.struct #[⟨ "Tag", 3, 0, false, "", "", 0⟩, ⟨ "Count", 3, 1, false, "", "", 8⟩, ⟨ "From", 2, 2, false, "", "", 16⟩, ⟨ "To", 2, 3, false, "", "", 24⟩], 4, 32, .agg #[.int .i64 0, .int .i64 0, .int .i64 0, .int .i64 0], true⟩
def ti56 : TyI := ⟨.struct #[⟨ "Tag", 3, 0, false, "", "", 0⟩, ⟨ "Count", 3, 1, false, "", "", 8⟩, ⟨ "From", 2, 2, false, "", "", 16⟩, ⟨ "To", 2, 3, false, "", "", 24⟩], 4, 32, .agg #[.int .i64 0, .int .i64 0, .int .i64 0, .int .i64 0], true⟩
def ti57 : TyI := ⟨.tuple #[56, 3, 4], 1, 0, .tuple #[.agg #[.int .i64 0, .int .i64 0, .int .i64 0, .int .i64 0], .int .i64 0, .bool false], false⟩
def ti58 : TyI := ⟨.func #[29] #[56, 3, 4] false, 1, 8, .nilFunc, false⟩
def ti59 : TyI := ⟨.tuple #[22, 4], 1, 0, .tuple #[.slice none 0 0, .bool false], false⟩
def ti60 : TyI := ⟨.func #[3, 29, 3] #[22, 4] false, 1, 8, .nilFunc, false⟩
def ti61 : TyI := ⟨.func #[22] #[4] false, 1, 8, .nilFunc, false⟩
def ti62 : TyI := ⟨.slice 2, 1, 24, .slice none 0 0, false⟩
def ti63 : TyI := ⟨.slice 26, 1, 24, .slice none 0 0, false⟩
def ti64 : TyI := ⟨.func #[3, 63] #[29, 4] false, 1, 8, .nilFunc, false⟩
def ti65 : TyI := ⟨.pointer 92, 1, 8, .pointer none, true⟩
def ti66 : TyI := ⟨.func #[] #[65] false, 1, 8, .nilFunc, false⟩
def ti67 : TyI := ⟨.func #[65, 62] #[] false, 1, 8, .nilFunc, false⟩
def ti68 : TyI := ⟨.func #[] #[29] false, 1, 8, .nilFunc, false⟩
def ti69 : TyI := ⟨.func #[29] #[29] false, 1, 8, .nilFunc, false⟩
def ti70 : TyI := ⟨.func #[22] #[63] false, 1, 8, .nilFunc, false⟩
def ti71 : TyI := ⟨.pointer 73, 1, 8, .pointer none, true⟩
def ti72 : TyI := ⟨.struct #[⟨ "L", 29, 0, false, "", "", 0⟩], 1, 24, .agg #[.slice none 0 0], false⟩
def ti73 : TyI := ⟨.struct #[⟨ "L", 29, 0, false, "", "", 0⟩], 1, 24, .agg #[.slice none 0 0], false⟩
def ti74 : TyI := ⟨.func #[71, 62] #[] false, 1, 8, .nilFunc, false⟩
def ti75 : TyI := ⟨.func #[49] #[49] false, 1, 8, .nilFunc, false⟩
def ti76 : TyI := ⟨.tuple #[26, 3], 1, 0, .tuple #[.int .u64 0, .int .i64 0], false⟩
def ti77 : TyI := ⟨.func #[29] #[26, 3] false, 1, 8, .nilFunc, false⟩
def ti78 : TyI := ⟨.func #[26] #[2] false, 1, 8, .nilFunc, false⟩
def ti79 : TyI := ⟨.tuple #[62, 4], 1, 0, .tuple #[.slice none 0 0, .bool false], false⟩
def ti80 : TyI := ⟨.func #[81, 3] #[62, 4] false, 1, 8, .nilFunc, false⟩
def ti81 : TyI := ⟨.pointer 83, 1, 8, .pointer none, true⟩
def ti82 : TyI := ⟨.struct #[⟨ "B", 29, 0, false, "", "", 0⟩, ⟨ "At", 3, 1, false, "", "", 24⟩, ⟨ "Bad", 4, 2, false, "", "", 32⟩], 3, 40, .agg #[.slice none 0 0, .int .i64 0, .bool false], false⟩
def ti83 : TyI := ⟨.struct #[⟨ "B", 29, 0, false, "", "", 0⟩, ⟨ "At", 3, 1, false, "", "", 24⟩, ⟨ "Bad", 4, 2, false, "", "", 32⟩], 3, 40, .agg #[.slice none 0 0, .int .i64 0, .bool false], false⟩
def ti84 : TyI := ⟨.tuple #[63, 4], 1, 0, .tuple #[.slice none 0 0, .bool false], false⟩
def ti85 : TyI := ⟨.func #[3, 29, 3] #[63, 4] false, 1, 8, .nilFunc, false⟩
def ti86 : TyI := ⟨.func #[65, 63] #[] false, 1, 8, .nilFunc, false⟩
def ti87 : TyI := ⟨.func #[63] #[63, 4] false, 1, 8, .nilFunc, false⟩
def ti88 : TyI := ⟨.func #[63] #[63] false, 1, 8, .nilFunc, false⟩
def ti89 : TyI := ⟨.func #[63] #[29] false, 1, 8, .nilFunc, false⟩
def ti90 : TyI := ⟨.func #[63] #[29, 4] false, 1, 8, .nilFunc, false⟩
def ti91 : TyI := ⟨.struct #[⟨ "b", 29, 0, false, "", "ephemeris/bits", 0⟩, ⟨ "n", 3, 1, false, "", "ephemeris/bits", 24⟩], 2, 32, .agg #[.slice none 0 0, .int .i64 0], false⟩
def ti92 : TyI := ⟨.struct #[⟨ "b", 29, 0, false, "", "ephemeris/bits", 0⟩, ⟨ "n", 3, 1, false, "", "ephemeris/bits", 24⟩], 2, 32, .agg #[.slice none 0 0, .int .i64 0], false⟩
def ti93 : TyI := ⟨.func #[26, 3] #[] false, 1, 8, .nilFunc, false⟩
def ti94 : TyI := ⟨.struct #[⟨ "ahead", 26, 0, false, "", "ephemeris/time", 0⟩, ⟨ "long", 3, 1, false, "", "ephemeris/time", 8⟩, ⟨ "bits", 3, 2, false, "", "ephemeris/time", 16⟩], 3, 24, .agg #[.int .u64 0, .int .i64 0, .int .i64 0], true⟩
def ti95 : TyI := ⟨.struct #[⟨ "ahead", 26, 0, false, "", "ephemeris/time", 0⟩, ⟨ "long", 3, 1, false, "", "ephemeris/time", 8⟩, ⟨ "bits", 3, 2, false, "", "ephemeris/time", 16⟩], 3, 24, .agg #[.int .u64 0, .int .i64 0, .int .i64 0], true⟩
def ti96 : TyI := ⟨.func #[2] #[95] false, 1, 8, .nilFunc, false⟩
def ti97 : TyI := ⟨.func #[71, 63] #[] false, 1, 8, .nilFunc, false⟩
def ti98 : TyI := ⟨.tuple #[3, 26, 3], 1, 0, .tuple #[.int .i64 0, .int .u64 0, .int .i64 0], false⟩
def ti99 : TyI := ⟨.func #[2] #[3, 26, 3] false, 1, 8, .nilFunc, false⟩
def ti100 : TyI := ⟨.func #[3] #[3] false, 1, 8, .nilFunc, false⟩
def ti101 : TyI := ⟨.func #[3] #[26] false, 1, 8, .nilFunc, false⟩
def ti102 : TyI := ⟨.tuple #[2, 4], 1, 0, .tuple #[.int .i64 0, .bool false], false⟩
def ti103 : TyI := ⟨.func #[81] #[2, 4] false, 1, 8, .nilFunc, false⟩
def ti104 : TyI := ⟨.func #[81, 3] #[63, 4] false, 1, 8, .nilFunc, false⟩
def ti105 : TyI := ⟨.func #[63, 3] #[63, 4] false, 1, 8, .nilFunc, false⟩
def ti106 : TyI := ⟨.func #[29, 3] #[63, 4] false, 1, 8, .nilFunc, false⟩
def ti107 : TyI := ⟨.struct #[⟨ "is", 4, 0, false, "", "ephemeris/xorv", 0⟩, ⟨ "lead", 3, 1, false, "", "ephemeris/xorv", 8⟩, ⟨ "trail", 3, 2, false, "", "ephemeris/xorv", 16⟩], 3, 24, .agg #[.bool false, .int .i64 0, .int .i64 0], true⟩
def ti108 : TyI := ⟨.struct #[⟨ "is", 4, 0, false, "", "ephemeris/xorv", 0⟩, ⟨ "lead", 3, 1, false, "", "ephemeris/xorv", 8⟩, ⟨ "trail", 3, 2, false, "", "ephemeris/xorv", 16⟩], 3, 24, .agg #[.bool false, .int .i64 0, .int .i64 0], true⟩
def ti109 : TyI := ⟨.func #[26] #[4] false, 1, 8, .nilFunc, false⟩
def ti110 : TyI := ⟨.func #[26] #[108] false, 1, 8, .nilFunc, false⟩
def ti111 : TyI := ⟨.func #[] #[3] false, 1, 8, .nilFunc, false⟩
def ti112 : TyI := ⟨.slice 130, 1, 24, .slice none 0 0, false⟩
def ti113 : TyI := ⟨.func #[] #[112] false, 1, 8, .nilFunc, false⟩
def ti114 : TyI := ⟨.func #[112, 63] #[26, 3] false, 1, 8, .nilFunc, false⟩
def ti115 : TyI := ⟨.func #[63] #[3] false, 1, 8, .nilFunc, false⟩
def ti116 : TyI := ⟨.func #[63] #[26] false, 1, 8, .nilFunc, false⟩
def ti117 : TyI := ⟨.func #[26] #[3] false, 1, 8, .nilFunc, false⟩
def ti118 : TyI := ⟨.map 26 3, 1, 8, .map none, false⟩
def ti119 : TyI := ⟨.tuple #[63, 118, 4], 1, 0, .tuple #[.slice none 0 0, .map none, .bool false], false⟩
def ti120 : TyI := ⟨.func #[63] #[63, 118, 4] false, 1, 8, .nilFunc, false⟩
def ti121 : TyI := ⟨.func #[53] #[3] false, 1, 8, .nilFunc, false⟩
def ti122 : TyI := ⟨.func #[63, 3] #[4] false, 1, 8, .nilFunc, false⟩
def ti123 : TyI := ⟨.func #[29, 63, 3] #[29] false, 1, 8, .nilFunc, false⟩
def ti124 : TyI := ⟨.func #[63, 26] #[3] false, 1, 8, .nilFunc, false⟩
def ti125 : TyI := ⟨.func #[2, 3] #[4] false, 1, 8, .nilFunc, false⟩
def ti126 : TyI := ⟨.array 5 3, 5, 40, .agg #[.int .i64 0, .int .i64 0, .int .i64 0, .int .i64 0, .int .i64 0], true⟩
def ti127 : TyI := ⟨.func #[63, 63] #[4] false, 1, 8, .nilFunc, false⟩
def ti128 : TyI := ⟨.func #[29, 3, 3] #[63] false, 1, 8, .nilFunc, false⟩
def ti129 : TyI := ⟨.struct #[⟨ "count", 3, 0, false, "", "ephemeris/simp", 0⟩, ⟨ "bits", 3, 1, false, "", "ephemeris/simp", 8⟩], 2, 16, .agg #[.int .i64 0, .int .i64 0], true⟩
def ti130 : TyI := ⟨.struct #[⟨ "count", 3, 0, false, "", "ephemeris/simp", 0⟩, ⟨ "bits", 3, 1, false, "", "ephemeris/simp", 8⟩], 2, 16, .agg #[.int .i64 0, .int .i64 0], true⟩
def ti131 : TyI := ⟨.tuple #[3, 4], 1, 0, .tuple #[.int .i64 0, .bool false], false⟩
def ti132 : TyI := ⟨.func #[130, 63] #[3, 4] false, 1, 8, .nilFunc, false⟩
def ti133 : TyI := ⟨.func #[49] #[3] false, 1, 8, .nilFunc, false⟩
def ti134 : TyI := ⟨.array 16 3, 16, 128, .agg #[.int .i64 0, .int .i64 0, .int .i64 0, .int .i64 0, .int .i64 0, .int .i64 0, .int .i64 0, .int .i64 0, .int .i64 0, .int .i64 0, .int .i64 0, .int .i64 0, .int .i64 0, .int .i64 0, .int .i64 0, .int .i64 0], true⟩
def ti135 : TyI := ⟨.array 64 5, 64, 64, .agg (List.replicate 64 (.int .u8 0)).toArray, true⟩
def ti136 : TyI := ⟨.func #[] #[9] false, 1, 8, .nilFunc, false⟩
def ti137 : TyI := ⟨.struct #[⟨ "_interface", 17, 0, false, "", "runtime", 0⟩, ⟨ "concrete", 17, 1, false, "", "runtime", 8⟩, ⟨ "asserted", 17, 2, false, "", "runtime", 16⟩, ⟨ "missingMethod", 9, 3, false, "", "runtime", 24⟩], 4, 40, .agg #[.pointer none, .pointer none, .pointer none, .string ByteArray.empty], true⟩
def ti138 : TyI := ⟨.struct #[⟨ "_interface", 17, 0, false, "", "runtime", 0⟩, ⟨ "concrete", 17, 1, false, "", "runtime", 8⟩, ⟨ "asserted", 17, 2, false, "", "runtime", 16⟩, ⟨ "missingMethod", 9, 3, false, "", "runtime", 24⟩], 4, 40, .agg #[.pointer none, .pointer none, .pointer none, .string ByteArray.empty], true⟩
def ti139 : TyI := ⟨.array 0 16, 0, 0, .agg #[], true⟩
def ti140 : TyI := ⟨.struct #[⟨ "_", 139, 0, false, "", "runtime", 0⟩], 0, 0, .agg #[], true⟩
def ti141 : TyI := ⟨.struct #[⟨ "_", 139, 0, false, "", "runtime", 0⟩], 0, 0, .agg #[], true⟩
def ti142 : TyI := ⟨.int .u8, 1, 1, .int .u8 0, true⟩
def ti143 : TyI := ⟨.int .u8, 1, 1, .int .u8 0, true⟩
def ti144 : TyI := ⟨.func #[150, 150] #[4] false, 1, 8, .nilFunc, false⟩
def ti145 : TyI := ⟨.pointer 5, 1, 8, .pointer none, true⟩
def ti146 : TyI := ⟨.int .i32, 1, 4, .int .i32 0, true⟩
def ti147 : TyI := ⟨.int .i32, 1, 4, .int .i32 0, true⟩
def ti148 : TyI := ⟨.struct #[⟨ "Size_", 12, 0, false, "", "", 0⟩, ⟨ "PtrBytes", 12, 1, false, "", "", 8⟩, ⟨ "Hash", 49, 2, false, "", "", 16⟩, ⟨ "TFlag", 142, 3, false, "", "", 20⟩, ⟨ "Align_", 5, 4, false, "", "", 21⟩, ⟨ "FieldAlign_", 5, 5, false, "", "", 22⟩, ⟨ "Kind_", 143, 6, false, "", "", 23⟩, ⟨ "Equal", 144, 7, false, "", "", 24⟩, ⟨ "GCData", 145, 8, false, "", "", 32⟩, ⟨ "Str", 146, 9, false, "", "", 40⟩, ⟨ "PtrToThis", 147, 10, false, "", "", 44⟩], 11, 48, .agg #[.int .u64 0, .int .u64 0, .int .u32 0, .int .u8 0, .int .u8 0, .int .u8 0, .int .u8 0, .nilFunc, .pointer none, .int .i32 0, .int .i32 0], false⟩
def ti149 : TyI := ⟨.struct #[⟨ "Size_", 12, 0, false, "", "", 0⟩, ⟨ "PtrBytes", 12, 1, false, "", "", 8⟩, ⟨ "Hash", 49, 2, false, "", "", 16⟩, ⟨ "TFlag", 142, 3, false, "", "", 20⟩, ⟨ "Align_", 5, 4, false, "", "", 21⟩, ⟨ "FieldAlign_", 5, 5, false, "", "", 22⟩, ⟨ "Kind_", 143, 6, false, "", "", 23⟩, ⟨ "Equal", 144, 7, false, "", "", 24⟩, ⟨ "GCData", 145, 8, false, "", "", 32⟩, ⟨ "Str", 146, 9, false, "", "", 40⟩, ⟨ "PtrToThis", 147, 10, false, "", "", 44⟩], 11, 48, .agg #[.int .u64 0, .int .u64 0, .int .u32 0, .int .u8 0, .int .u8 0, .int .u8 0, .int .u8 0, .nilFunc, .pointer none, .int .i32 0, .int .i32 0], false⟩
def tyTab : List (Nat × TyI) := [(0, ti0), (1, ti1), (2, ti2), (3, ti3), (4, ti4), (5, ti5), (6, ti6), (7, ti7), (8, ti8), (9, ti9), (10, ti10), (11, ti11), (12, ti12), (13, ti13), (14, ti14), (15, ti15), (16, ti16), (17, ti17), (18, ti18), (19, ti19), (20, ti20), (21, ti21), (22, ti22), (23, ti23), (24, ti24), (25, ti25), (26, ti26), (27, ti27), (28, ti28), (29, ti29), (30, ti30), (31, ti31), (32, ti32), (33, ti33), (34, ti34), (35, ti35), (36, ti36), (37, ti37), (38, ti38), (39, ti39), (40, ti40), (41, ti41), (42, ti42), (43, ti43), (44, ti44), (45, ti45), (46, ti46), (47, ti47), (48, ti48), (49, ti49), (50, ti50), (51, ti51), (52, ti52), (53, ti53), (54, ti54), (55, ti55), (56, ti56), (57, ti57), (58, ti58), (59, ti59), (60, ti60), (61, ti61), (62, ti62), (63, ti63), (64, ti64), (65, ti65), (66, ti66), (67, ti67), (68, ti68), (69, ti69), (70, ti70), (71, ti71), (72, ti72), (73, ti73), (74, ti74), (75, ti75), (76, ti76), (77, ti77), (78, ti78), (79, ti79), (80, ti80), (81, ti81), (82, ti82), (83, ti83), (84, ti84), (85, ti85), (86, ti86), (87, ti87), (88, ti88), (89, ti89), (90, ti90), (91, ti91), (92, ti92), (93, ti93), (94, ti94), (95, ti95), (96, ti96), (97, ti97), (98, ti98), (99, ti99), (100, ti100), (101, ti101), (102, ti102), (103, ti103), (104, ti104), (105, ti105), (106, ti106), (107, ti107), (108, ti108), (109, ti109), (110, ti110), (111, ti111), (112, ti112), (113, ti113), (114, ti114), (115, ti115), (116, ti116), (117, ti117), (118, ti118), (119, ti119), (120, ti120), (121, ti121), (122, ti122), (123, ti123), (124, ti124), (125, ti125), (126, ti126), (127, ti127), (128, ti128), (129, ti129), (130, ti130), (131, ti131), (132, ti132), (133, ti133), (134, ti134), (135, ti135), (136, ti136), (137, ti137), (138, ti138), (139, ti139), (140, ti140), (141, ti141), (142, ti142), (143, ti143), (144, ti144), (145, ti145), (146, ti146), (147, ti147), (148, ti148), (149, ti149)]
def tyLook : List (Nat × TyI) → Nat → Option TyI
  | [], _ => none
  | (s, i) :: l, t => bif Nat.beq s t then some i else tyLook l t
def TyOK (p : Nat × TyI) : Prop := Tryz.prog.underlying p.1 = some p.2.desc ∧ (Tryz.prog.info? p.1).map (fun i => (i.size, i.bytes, i.zero, i.comparable)) = some (p.2.size, p.2.bytes, some p.2.zero, p.2.comparable)
theorem tyLook_ok (l : List (Nat × TyI)) (h : ∀ p ∈ l, TyOK p) (t : Nat) (i : TyI) (e : tyLook l t = some i) : TyOK (t, i) := by
  induction l with
  | nil => cases e
  | cons p l ih =>
    simp only [tyLook] at e
    cases hb : Nat.beq p.1 t with
    | true =>
      have := Nat.eq_of_beq_eq_true hb
      simp [hb] at e
      subst e; subst this
      exact h p (by simp)
    | false =>
      simp [hb] at e
      exact ih (fun q hq => h q (by simp [hq])) e
theorem to0 : TyOK (0, ti0) := ⟨by kernel_rfl, by kernel_rfl⟩
theorem to1 : TyOK (1, ti1) := ⟨by kernel_rfl, by kernel_rfl⟩
theorem to2 : TyOK (2, ti2) := ⟨by kernel_rfl, by kernel_rfl⟩
theorem to3 : TyOK (3, ti3) := ⟨by kernel_rfl, by kernel_rfl⟩
theorem to4 : TyOK (4, ti4) := ⟨by kernel_rfl, by kernel_rfl⟩
theorem to5 : TyOK (5, ti5) := ⟨by kernel_rfl, by kernel_rfl⟩
theorem to6 : TyOK (6, ti6) := ⟨by kernel_rfl, by kernel_rfl⟩
theorem to7 : TyOK (7, ti7) := ⟨by kernel_rfl, by kernel_rfl⟩
theorem to8 : TyOK (8, ti8) := ⟨by kernel_rfl, by kernel_rfl⟩
theorem to9 : TyOK (9, ti9) := ⟨by kernel_rfl, by kernel_rfl⟩
theorem to10 : TyOK (10, ti10) := ⟨by kernel_rfl, by kernel_rfl⟩
theorem to11 : TyOK (11, ti11) := ⟨by kernel_rfl, by kernel_rfl⟩
theorem to12 : TyOK (12, ti12) := ⟨by kernel_rfl, by kernel_rfl⟩
theorem to13 : TyOK (13, ti13) := ⟨by kernel_rfl, by kernel_rfl⟩
theorem to14 : TyOK (14, ti14) := ⟨by kernel_rfl, by kernel_rfl⟩
theorem to15 : TyOK (15, ti15) := ⟨by kernel_rfl, by kernel_rfl⟩
theorem to16 : TyOK (16, ti16) := ⟨by kernel_rfl, by kernel_rfl⟩
theorem to17 : TyOK (17, ti17) := ⟨by kernel_rfl, by kernel_rfl⟩
theorem to18 : TyOK (18, ti18) := ⟨by kernel_rfl, by kernel_rfl⟩
theorem to19 : TyOK (19, ti19) := ⟨by kernel_rfl, by kernel_rfl⟩
theorem to20 : TyOK (20, ti20) := ⟨by kernel_rfl, by kernel_rfl⟩
theorem to21 : TyOK (21, ti21) := ⟨by kernel_rfl, by kernel_rfl⟩
theorem to22 : TyOK (22, ti22) := ⟨by kernel_rfl, by kernel_rfl⟩
theorem to23 : TyOK (23, ti23) := ⟨by kernel_rfl, by kernel_rfl⟩
theorem to24 : TyOK (24, ti24) := ⟨by kernel_rfl, by kernel_rfl⟩
theorem to25 : TyOK (25, ti25) := ⟨by kernel_rfl, by kernel_rfl⟩
theorem to26 : TyOK (26, ti26) := ⟨by kernel_rfl, by kernel_rfl⟩
theorem to27 : TyOK (27, ti27) := ⟨by kernel_rfl, by kernel_rfl⟩
theorem to28 : TyOK (28, ti28) := ⟨by kernel_rfl, by kernel_rfl⟩
theorem to29 : TyOK (29, ti29) := ⟨by kernel_rfl, by kernel_rfl⟩
theorem to30 : TyOK (30, ti30) := ⟨by kernel_rfl, by kernel_rfl⟩
theorem to31 : TyOK (31, ti31) := ⟨by kernel_rfl, by kernel_rfl⟩
theorem to32 : TyOK (32, ti32) := ⟨by kernel_rfl, by kernel_rfl⟩
theorem to33 : TyOK (33, ti33) := ⟨by kernel_rfl, by kernel_rfl⟩
theorem to34 : TyOK (34, ti34) := ⟨by kernel_rfl, by kernel_rfl⟩
theorem to35 : TyOK (35, ti35) := ⟨by kernel_rfl, by kernel_rfl⟩
theorem to36 : TyOK (36, ti36) := ⟨by kernel_rfl, by kernel_rfl⟩
theorem to37 : TyOK (37, ti37) := ⟨by kernel_rfl, by kernel_rfl⟩
theorem to38 : TyOK (38, ti38) := ⟨by kernel_rfl, by kernel_rfl⟩
theorem to39 : TyOK (39, ti39) := ⟨by kernel_rfl, by kernel_rfl⟩
theorem to40 : TyOK (40, ti40) := ⟨by kernel_rfl, by kernel_rfl⟩
theorem to41 : TyOK (41, ti41) := ⟨by kernel_rfl, by kernel_rfl⟩
theorem to42 : TyOK (42, ti42) := ⟨by kernel_rfl, by kernel_rfl⟩
theorem to43 : TyOK (43, ti43) := ⟨by kernel_rfl, by kernel_rfl⟩
theorem to44 : TyOK (44, ti44) := ⟨by kernel_rfl, by kernel_rfl⟩
theorem to45 : TyOK (45, ti45) := ⟨by kernel_rfl, by kernel_rfl⟩
theorem to46 : TyOK (46, ti46) := ⟨by kernel_rfl, by kernel_rfl⟩
theorem to47 : TyOK (47, ti47) := ⟨by kernel_rfl, by kernel_rfl⟩
theorem to48 : TyOK (48, ti48) := ⟨by kernel_rfl, by kernel_rfl⟩
theorem to49 : TyOK (49, ti49) := ⟨by kernel_rfl, by kernel_rfl⟩
theorem to50 : TyOK (50, ti50) := ⟨by kernel_rfl, by kernel_rfl⟩
theorem to51 : TyOK (51, ti51) := ⟨by kernel_rfl, by kernel_rfl⟩
theorem to52 : TyOK (52, ti52) := ⟨by kernel_rfl, by kernel_rfl⟩
theorem to53 : TyOK (53, ti53) := ⟨by kernel_rfl, by kernel_rfl⟩
theorem to54 : TyOK (54, ti54) := ⟨by kernel_rfl, by kernel_rfl⟩
theorem to55 : TyOK (55, ti55) := ⟨by kernel_rfl, by kernel_rfl⟩
theorem to56 : TyOK (56, ti56) := ⟨by kernel_rfl, by kernel_rfl⟩
theorem to57 : TyOK (57, ti57) := ⟨by kernel_rfl, by kernel_rfl⟩
theorem to58 : TyOK (58, ti58) := ⟨by kernel_rfl, by kernel_rfl⟩
theorem to59 : TyOK (59, ti59) := ⟨by kernel_rfl, by kernel_rfl⟩
theorem to60 : TyOK (60, ti60) := ⟨by kernel_rfl, by kernel_rfl⟩
theorem to61 : TyOK (61, ti61) := ⟨by kernel_rfl, by kernel_rfl⟩
theorem to62 : TyOK (62, ti62) := ⟨by kernel_rfl, by kernel_rfl⟩
theorem to63 : TyOK (63, ti63) := ⟨by kernel_rfl, by kernel_rfl⟩
theorem to64 : TyOK (64, ti64) := ⟨by kernel_rfl, by kernel_rfl⟩
theorem to65 : TyOK (65, ti65) := ⟨by kernel_rfl, by kernel_rfl⟩
theorem to66 : TyOK (66, ti66) := ⟨by kernel_rfl, by kernel_rfl⟩
theorem to67 : TyOK (67, ti67) := ⟨by kernel_rfl, by kernel_rfl⟩
theorem to68 : TyOK (68, ti68) := ⟨by kernel_rfl, by kernel_rfl⟩
theorem to69 : TyOK (69, ti69) := ⟨by kernel_rfl, by kernel_rfl⟩
theorem to70 : TyOK (70, ti70) := ⟨by kernel_rfl, by kernel_rfl⟩
theorem to71 : TyOK (71, ti71) := ⟨by kernel_rfl, by kernel_rfl⟩
theorem to72 : TyOK (72, ti72) := ⟨by kernel_rfl, by kernel_rfl⟩
theorem to73 : TyOK (73, ti73) := ⟨by kernel_rfl, by kernel_rfl⟩
theorem to74 : TyOK (74, ti74) := ⟨by kernel_rfl, by kernel_rfl⟩
theorem to75 : TyOK (75, ti75) := ⟨by kernel_rfl, by kernel_rfl⟩
theorem to76 : TyOK (76, ti76) := ⟨by kernel_rfl, by kernel_rfl⟩
theorem to77 : TyOK (77, ti77) := ⟨by kernel_rfl, by kernel_rfl⟩
theorem to78 : TyOK (78, ti78) := ⟨by kernel_rfl, by kernel_rfl⟩
theorem to79 : TyOK (79, ti79) := ⟨by kernel_rfl, by kernel_rfl⟩
theorem to80 : TyOK (80, ti80) := ⟨by kernel_rfl, by kernel_rfl⟩
theorem to81 : TyOK (81, ti81) := ⟨by kernel_rfl, by kernel_rfl⟩
theorem to82 : TyOK (82, ti82) := ⟨by kernel_rfl, by kernel_rfl⟩
theorem to83 : TyOK (83, ti83) := ⟨by kernel_rfl, by kernel_rfl⟩
theorem to84 : TyOK (84, ti84) := ⟨by kernel_rfl, by kernel_rfl⟩
theorem to85 : TyOK (85, ti85) := ⟨by kernel_rfl, by kernel_rfl⟩
theorem to86 : TyOK (86, ti86) := ⟨by kernel_rfl, by kernel_rfl⟩
theorem to87 : TyOK (87, ti87) := ⟨by kernel_rfl, by kernel_rfl⟩
theorem to88 : TyOK (88, ti88) := ⟨by kernel_rfl, by kernel_rfl⟩
theorem to89 : TyOK (89, ti89) := ⟨by kernel_rfl, by kernel_rfl⟩
theorem to90 : TyOK (90, ti90) := ⟨by kernel_rfl, by kernel_rfl⟩
theorem to91 : TyOK (91, ti91) := ⟨by kernel_rfl, by kernel_rfl⟩
theorem to92 : TyOK (92, ti92) := ⟨by kernel_rfl, by kernel_rfl⟩
theorem to93 : TyOK (93, ti93) := ⟨by kernel_rfl, by kernel_rfl⟩
theorem to94 : TyOK (94, ti94) := ⟨by kernel_rfl, by kernel_rfl⟩
theorem to95 : TyOK (95, ti95) := ⟨by kernel_rfl, by kernel_rfl⟩
theorem to96 : TyOK (96, ti96) := ⟨by kernel_rfl, by kernel_rfl⟩
theorem to97 : TyOK (97, ti97) := ⟨by kernel_rfl, by kernel_rfl⟩
theorem to98 : TyOK (98, ti98) := ⟨by kernel_rfl, by kernel_rfl⟩
theorem to99 : TyOK (99, ti99) := ⟨by kernel_rfl, by kernel_rfl⟩
theorem to100 : TyOK (100, ti100) := ⟨by kernel_rfl, by kernel_rfl⟩
theorem to101 : TyOK (101, ti101) := ⟨by kernel_rfl, by kernel_rfl⟩
theorem to102 : TyOK (102, ti102) := ⟨by kernel_rfl, by kernel_rfl⟩
theorem to103 : TyOK (103, ti103) := ⟨by kernel_rfl, by kernel_rfl⟩
theorem to104 : TyOK (104, ti104) := ⟨by kernel_rfl, by kernel_rfl⟩
theorem to105 : TyOK (105, ti105) := ⟨by kernel_rfl, by kernel_rfl⟩
theorem to106 : TyOK (106, ti106) := ⟨by kernel_rfl, by kernel_rfl⟩
theorem to107 : TyOK (107, ti107) := ⟨by kernel_rfl, by kernel_rfl⟩
theorem to108 : TyOK (108, ti108) := ⟨by kernel_rfl, by kernel_rfl⟩
theorem to109 : TyOK (109, ti109) := ⟨by kernel_rfl, by kernel_rfl⟩
theorem to110 : TyOK (110, ti110) := ⟨by kernel_rfl, by kernel_rfl⟩
theorem to111 : TyOK (111, ti111) := ⟨by kernel_rfl, by kernel_rfl⟩
theorem to112 : TyOK (112, ti112) := ⟨by kernel_rfl, by kernel_rfl⟩
theorem to113 : TyOK (113, ti113) := ⟨by kernel_rfl, by kernel_rfl⟩
theorem to114 : TyOK (114, ti114) := ⟨by kernel_rfl, by kernel_rfl⟩
theorem to115 : TyOK (115, ti115) := ⟨by kernel_rfl, by kernel_rfl⟩
theorem to116 : TyOK (116, ti116) := ⟨by kernel_rfl, by kernel_rfl⟩
theorem to117 : TyOK (117, ti117) := ⟨by kernel_rfl, by kernel_rfl⟩
theorem to118 : TyOK (118, ti118) := ⟨by kernel_rfl, by kernel_rfl⟩
theorem to119 : TyOK (119, ti119) := ⟨by kernel_rfl, by kernel_rfl⟩
theorem to120 : TyOK (120, ti120) := ⟨by kernel_rfl, by kernel_rfl⟩
theorem to121 : TyOK (121, ti121) := ⟨by kernel_rfl, by kernel_rfl⟩
theorem to122 : TyOK (122, ti122) := ⟨by kernel_rfl, by kernel_rfl⟩
theorem to123 : TyOK (123, ti123) := ⟨by kernel_rfl, by kernel_rfl⟩
theorem to124 : TyOK (124, ti124) := ⟨by kernel_rfl, by kernel_rfl⟩
theorem to125 : TyOK (125, ti125) := ⟨by kernel_rfl, by kernel_rfl⟩
theorem to126 : TyOK (126, ti126) := ⟨by kernel_rfl, by kernel_rfl⟩
theorem to127 : TyOK (127, ti127) := ⟨by kernel_rfl, by kernel_rfl⟩
theorem to128 : TyOK (128, ti128) := ⟨by kernel_rfl, by kernel_rfl⟩
theorem to129 : TyOK (129, ti129) := ⟨by kernel_rfl, by kernel_rfl⟩
theorem to130 : TyOK (130, ti130) := ⟨by kernel_rfl, by kernel_rfl⟩
theorem to131 : TyOK (131, ti131) := ⟨by kernel_rfl, by kernel_rfl⟩
theorem to132 : TyOK (132, ti132) := ⟨by kernel_rfl, by kernel_rfl⟩
theorem to133 : TyOK (133, ti133) := ⟨by kernel_rfl, by kernel_rfl⟩
theorem to134 : TyOK (134, ti134) := ⟨by kernel_rfl, by kernel_rfl⟩
theorem to135 : TyOK (135, ti135) := ⟨by kernel_rfl, by kernel_rfl⟩
theorem to136 : TyOK (136, ti136) := ⟨by kernel_rfl, by kernel_rfl⟩
theorem to137 : TyOK (137, ti137) := ⟨by kernel_rfl, by kernel_rfl⟩
theorem to138 : TyOK (138, ti138) := ⟨by kernel_rfl, by kernel_rfl⟩
theorem to139 : TyOK (139, ti139) := ⟨by kernel_rfl, by kernel_rfl⟩
theorem to140 : TyOK (140, ti140) := ⟨by kernel_rfl, by kernel_rfl⟩
theorem to141 : TyOK (141, ti141) := ⟨by kernel_rfl, by kernel_rfl⟩
theorem to142 : TyOK (142, ti142) := ⟨by kernel_rfl, by kernel_rfl⟩
theorem to143 : TyOK (143, ti143) := ⟨by kernel_rfl, by kernel_rfl⟩
theorem to144 : TyOK (144, ti144) := ⟨by kernel_rfl, by kernel_rfl⟩
theorem to145 : TyOK (145, ti145) := ⟨by kernel_rfl, by kernel_rfl⟩
theorem to146 : TyOK (146, ti146) := ⟨by kernel_rfl, by kernel_rfl⟩
theorem to147 : TyOK (147, ti147) := ⟨by kernel_rfl, by kernel_rfl⟩
theorem to148 : TyOK (148, ti148) := ⟨by kernel_rfl, by kernel_rfl⟩
theorem to149 : TyOK (149, ti149) := ⟨by kernel_rfl, by kernel_rfl⟩
set_option maxRecDepth 100000 in
theorem tyTab_ok : ∀ p ∈ tyTab, TyOK p := by
  intro p hp
  simp only [tyTab, List.mem_cons, List.not_mem_nil, or_false] at hp
  rcases hp with rfl | rfl | rfl | rfl | rfl | rfl | rfl | rfl | rfl | rfl | rfl | rfl | rfl | rfl | rfl | rfl | rfl | rfl | rfl | rfl | rfl | rfl | rfl | rfl | rfl | rfl | rfl | rfl | rfl | rfl | rfl | rfl | rfl | rfl | rfl | rfl | rfl | rfl | rfl | rfl | rfl | rfl | rfl | rfl | rfl | rfl | rfl | rfl | rfl | rfl | rfl | rfl | rfl | rfl | rfl | rfl | rfl | rfl | rfl | rfl | rfl | rfl | rfl | rfl | rfl | rfl | rfl | rfl | rfl | rfl | rfl | rfl | rfl | rfl | rfl | rfl | rfl | rfl | rfl | rfl | rfl | rfl | rfl | rfl | rfl | rfl | rfl | rfl | rfl | rfl | rfl | rfl | rfl | rfl | rfl | rfl | rfl | rfl | rfl | rfl | rfl | rfl | rfl | rfl | rfl | rfl | rfl | rfl | rfl | rfl | rfl | rfl | rfl | rfl | rfl | rfl | rfl | rfl | rfl | rfl | rfl | rfl | rfl | rfl | rfl | rfl | rfl | rfl | rfl | rfl | rfl | rfl | rfl | rfl | rfl | rfl | rfl | rfl | rfl | rfl | rfl | rfl | rfl | rfl | rfl | rfl | rfl | rfl | rfl | rfl
  · exact to0
  · exact to1
  · exact to2
  · exact to3
  · exact to4
  · exact to5
  · exact to6
  · exact to7
  · exact to8
  · exact to9
  · exact to10
  · exact to11
  · exact to12
  · exact to13
  · exact to14
  · exact to15
  · exact to16
  · exact to17
  · exact to18
  · exact to19
  · exact to20
  · exact to21
  · exact to22
  · exact to23
  · exact to24
  · exact to25
  · exact to26
  · exact to27
  · exact to28
  · exact to29
  · exact to30
  · exact to31
  · exact to32
  · exact to33
  · exact to34
  · exact to35
  · exact to36
  · exact to37
  · exact to38
  · exact to39
  · exact to40
  · exact to41
  · exact to42
  · exact to43
  · exact to44
  · exact to45
  · exact to46
  · exact to47
  · exact to48
  · exact to49
  · exact to50
  · exact to51
  · exact to52
  · exact to53
  · exact to54
  · exact to55
  · exact to56
  · exact to57
  · exact to58
  · exact to59
  · exact to60
  · exact to61
  · exact to62
  · exact to63
  · exact to64
  · exact to65
  · exact to66
  · exact to67
  · exact to68
  · exact to69
  · exact to70
  · exact to71
  · exact to72
  · exact to73
  · exact to74
  · exact to75
  · exact to76
  · exact to77
  · exact to78
  · exact to79
  · exact to80
  · exact to81
  · exact to82
  · exact to83
  · exact to84
  · exact to85
  · exact to86
  · exact to87
  · exact to88
  · exact to89
  · exact to90
  · exact to91
  · exact to92
  · exact to93
  · exact to94
  · exact to95
  · exact to96
  · exact to97
  · exact to98
  · exact to99
  · exact to100
  · exact to101
  · exact to102
  · exact to103
  · exact to104
  · exact to105
  · exact to106
  · exact to107
  · exact to108
  · exact to109
  · exact to110
  · exact to111
  · exact to112
  · exact to113
  · exact to114
  · exact to115
  · exact to116
  · exact to117
  · exact to118
  · exact to119
  · exact to120
  · exact to121
  · exact to122
  · exact to123
  · exact to124
  · exact to125
  · exact to126
  · exact to127
  · exact to128
  · exact to129
  · exact to130
  · exact to131
  · exact to132
  · exact to133
  · exact to134
  · exact to135
  · exact to136
  · exact to137
  · exact to138
  · exact to139
  · exact to140
  · exact to141
  · exact to142
  · exact to143
  · exact to144
  · exact to145
  · exact to146
  · exact to147
  · exact to148
  · exact to149
def Ty : Tab Tryz.prog where
  tt := tyLook tyTab
  ok := by
    intro t i h
    obtain ⟨h1, h2⟩ := tyLook_ok tyTab tyTab_ok t i h
    refine ⟨h1, ?_⟩
    obtain ⟨I, hI, hE⟩ := Option.map_eq_some_iff.1 h2
    simp only [Prod.mk.injEq] at hE
    exact ⟨I, hI, hE.1, hE.2.1, hE.2.2.1, hE.2.2.2⟩
theorem nm3 : (Tryz.f3.name == "runtime.NumGoroutine") = false := by kernel_rfl
/-- ephemeris/ephemerislaw13.AppdPlays -/
theorem in3 {ρ : Hp} {Hs : List HP} {Q : Value → HP} {args : List Value} {c : Code} (hb : Tryz.f3.body = some c) (hn : Nat.ble args.length Tryz.f3.ntmps = true) (h : W Tryz.prog Tryz.f3 ρ Q [.code c] (argEnv 0 args) Hs) : Fn Tryz.prog 3 args.toArray ρ Hs Q := Fn.of_code Tryz.func3 hb nm3 hn h
theorem nm4 : (Tryz.f4.name == "runtime.NumGoroutine") = false := by kernel_rfl
/-- ephemeris/appd.Close -/
theorem in4 {ρ : Hp} {Hs : List HP} {Q : Value → HP} {args : List Value} {c : Code} (hb : Tryz.f4.body = some c) (hn : Nat.ble args.length Tryz.f4.ntmps = true) (h : W Tryz.prog Tryz.f4 ρ Q [.code c] (argEnv 0 args) Hs) : Fn Tryz.prog 4 args.toArray ρ Hs Q := Fn.of_code Tryz.func4 hb nm4 hn h
theorem nm5 : (Tryz.f5.name == "runtime.NumGoroutine") = false := by kernel_rfl
/-- ephemeris/ephemerisref14.Close -/
theorem in5 {ρ : Hp} {Hs : List HP} {Q : Value → HP} {args : List Value} {c : Code} (hb : Tryz.f5.body = some c) (hn : Nat.ble args.length Tryz.f5.ntmps = true) (h : W Tryz.prog Tryz.f5 ρ Q [.code c] (argEnv 0 args) Hs) : Fn Tryz.prog 5 args.toArray ρ Hs Q := Fn.of_code Tryz.func5 hb nm5 hn h
theorem nm6 : (Tryz.f6.name == "runtime.NumGoroutine") = false := by kernel_rfl
/-- ephemeris/appd.Add -/
theorem in6 {ρ : Hp} {Hs : List HP} {Q : Value → HP} {args : List Value} {c : Code} (hb : Tryz.f6.body = some c) (hn : Nat.ble args.length Tryz.f6.ntmps = true) (h : W Tryz.prog Tryz.f6 ρ Q [.code c] (argEnv 0 args) Hs) : Fn Tryz.prog 6 args.toArray ρ Hs Q := Fn.of_code Tryz.func6 hb nm6 hn h
theorem nm7 : (Tryz.f7.name == "runtime.NumGoroutine") = false := by kernel_rfl
/-- ephemeris/ephemerisref14.Add -/
theorem in7 {ρ : Hp} {Hs : List HP} {Q : Value → HP} {args : List Value} {c : Code} (hb : Tryz.f7.body = some c) (hn : Nat.ble args.length Tryz.f7.ntmps = true) (h : W Tryz.prog Tryz.f7 ρ Q [.code c] (argEnv 0 args) Hs) : Fn Tryz.prog 7 args.toArray ρ Hs Q := Fn.of_code Tryz.func7 hb nm7 hn h
theorem nm8 : (Tryz.f8.name == "runtime.NumGoroutine") = false := by kernel_rfl
/-- ephemeris/ephemerisref14.SameOpen -/
theorem in8 {ρ : Hp} {Hs : List HP} {Q : Value → HP} {args : List Value} {c : Code} (hb : Tryz.f8.body = some c) (hn : Nat.ble args.length Tryz.f8.ntmps = true) (h : W Tryz.prog Tryz.f8 ρ Q [.code c] (argEnv 0 args) Hs) : Fn Tryz.prog 8 args.toArray ρ Hs Q := Fn.of_code Tryz.func8 hb nm8 hn h
theorem nm9 : (Tryz.f9.name == "runtime.NumGoroutine") = false := by kernel_rfl
/-- ephemeris/appd.Full -/
theorem in9 {ρ : Hp} {Hs : List HP} {Q : Value → HP} {args : List Value} {c : Code} (hb : Tryz.f9.body = some c) (hn : Nat.ble args.length Tryz.f9.ntmps = true) (h : W Tryz.prog Tryz.f9 ρ Q [.code c] (argEnv 0 args) Hs) : Fn Tryz.prog 9 args.toArray ρ Hs Q := Fn.of_code Tryz.func9 hb nm9 hn h
theorem nm10 : (Tryz.f10.name == "runtime.NumGoroutine") = false := by kernel_rfl
/-- ephemeris/appd.Size -/
theorem in10 {ρ : Hp} {Hs : List HP} {Q : Value → HP} {args : List Value} {c : Code} (hb : Tryz.f10.body = some c) (hn : Nat.ble args.length Tryz.f10.ntmps = true) (h : W Tryz.prog Tryz.f10 ρ Q [.code c] (argEnv 0 args) Hs) : Fn Tryz.prog 10 args.toArray ρ Hs Q := Fn.of_code Tryz.func10 hb nm10 hn h
theorem nm11 : (Tryz.f11.name == "runtime.NumGoroutine") = false := by kernel_rfl
/-- ephemeris/ephemerislaw13.awake -/
theorem in11 {ρ : Hp} {Hs : List HP} {Q : Value → HP} {args : List Value} {c : Code} (hb : Tryz.f11.body = some c) (hn : Nat.ble args.length Tryz.f11.ntmps = true) (h : W Tryz.prog Tryz.f11 ρ Q [.code c] (argEnv 0 args) Hs) : Fn Tryz.prog 11 args.toArray ρ Hs Q := Fn.of_code Tryz.func11 hb nm11 hn h
theorem nm12 : (Tryz.f12.name == "runtime.NumGoroutine") = false := by kernel_rfl
/-- ephemeris/chnk.Make -/
theorem in12 {ρ : Hp} {Hs : List HP} {Q : Value → HP} {args : List Value} {c : Code} (hb : Tryz.f12.body = some c) (hn : Nat.ble args.length Tryz.f12.ntmps = true) (h : W Tryz.prog Tryz.f12 ρ Q [.code c] (argEnv 0 args) Hs) : Fn Tryz.prog 12 args.toArray ρ Hs Q := Fn.of_code Tryz.func12 hb nm12 hn h
theorem nm13 : (Tryz.f13.name == "runtime.NumGoroutine") = false := by kernel_rfl
/-- ephemeris/ephemerisref10.Make -/
theorem in13 {ρ : Hp} {Hs : List HP} {Q : Value → HP} {args : List Value} {c : Code} (hb : Tryz.f13.body = some c) (hn : Nat.ble args.length Tryz.f13.ntmps = true) (h : W Tryz.prog Tryz.f13 ρ Q [.code c] (argEnv 0 args) Hs) : Fn Tryz.prog 13 args.toArray ρ Hs Q := Fn.of_code Tryz.func13 hb nm13 hn h
theorem nm14 : (Tryz.f14.name == "runtime.NumGoroutine") = false := by kernel_rfl
/-- ephemeris/appd.Still -/
theorem in14 {ρ : Hp} {Hs : List HP} {Q : Value → HP} {args : List Value} {c : Code} (hb : Tryz.f14.body = some c) (hn : Nat.ble args.length Tryz.f14.ntmps = true) (h : W Tryz.prog Tryz.f14 ρ Q [.code c] (argEnv 0 args) Hs) : Fn Tryz.prog 14 args.toArray ρ Hs Q := Fn.of_code Tryz.func14 hb nm14 hn h
theorem nm15 : (Tryz.f15.name == "runtime.NumGoroutine") = false := by kernel_rfl
/-- ephemeris/ephemerisref14.own -/
theorem in15 {ρ : Hp} {Hs : List HP} {Q : Value → HP} {args : List Value} {c : Code} (hb : Tryz.f15.body = some c) (hn : Nat.ble args.length Tryz.f15.ntmps = true) (h : W Tryz.prog Tryz.f15 ρ Q [.code c] (argEnv 0 args) Hs) : Fn Tryz.prog 15 args.toArray ρ Hs Q := Fn.of_code Tryz.func15 hb nm15 hn h
theorem nm16 : (Tryz.f16.name == "runtime.NumGoroutine") = false := by kernel_rfl
/-- ephemeris/ephemerisref10.Same -/
theorem in16 {ρ : Hp} {Hs : List HP} {Q : Value → HP} {args : List Value} {c : Code} (hb : Tryz.f16.body = some c) (hn : Nat.ble args.length Tryz.f16.ntmps = true) (h : W Tryz.prog Tryz.f16 ρ Q [.code c] (argEnv 0 args) Hs) : Fn Tryz.prog 16 args.toArray ρ Hs Q := Fn.of_code Tryz.func16 hb nm16 hn h
theorem nm17 : (Tryz.f17.name == "runtime.NumGoroutine") = false := by kernel_rfl
/-- ephemeris/ephemerisref10.Open -/
theorem in17 {ρ : Hp} {Hs : List HP} {Q : Value → HP} {args : List Value} {c : Code} (hb : Tryz.f17.body = some c) (hn : Nat.ble args.length Tryz.f17.ntmps = true) (h : W Tryz.prog Tryz.f17 ρ Q [.code c] (argEnv 0 args) Hs) : Fn Tryz.prog 17 args.toArray ρ Hs Q := Fn.of_code Tryz.func17 hb nm17 hn h
theorem nm18 : (Tryz.f18.name == "runtime.NumGoroutine") = false := by kernel_rfl
/-- ephemeris/suit.Encode -/
theorem in18 {ρ : Hp} {Hs : List HP} {Q : Value → HP} {args : List Value} {c : Code} (hb : Tryz.f18.body = some c) (hn : Nat.ble args.length Tryz.f18.ntmps = true) (h : W Tryz.prog Tryz.f18 ρ Q [.code c] (argEnv 0 args) Hs) : Fn Tryz.prog 18 args.toArray ρ Hs Q := Fn.of_code Tryz.func18 hb nm18 hn h
theorem nm19 : (Tryz.f19.name == "runtime.NumGoroutine") = false := by kernel_rfl
/-- ephemeris/vint.Put -/
theorem in19 {ρ : Hp} {Hs : List HP} {Q : Value → HP} {args : List Value} {c : Code} (hb : Tryz.f19.body = some c) (hn : Nat.ble args.length Tryz.f19.ntmps = true) (h : W Tryz.prog Tryz.f19 ρ Q [.code c] (argEnv 0 args) Hs) : Fn Tryz.prog 19 args.toArray ρ Hs Q := Fn.of_code Tryz.func19 hb nm19 hn h
theorem nm20 : (Tryz.f20.name == "runtime.NumGoroutine") = false := by kernel_rfl
/-- ephemeris/vint.Zig -/
theorem in20 {ρ : Hp} {Hs : List HP} {Q : Value → HP} {args : List Value} {c : Code} (hb : Tryz.f20.body = some c) (hn : Nat.ble args.length Tryz.f20.ntmps = true) (h : W Tryz.prog Tryz.f20 ρ Q [.code c] (argEnv 0 args) Hs) : Fn Tryz.prog 20 args.toArray ρ Hs Q := Fn.of_code Tryz.func20 hb nm20 hn h
theorem nm21 : (Tryz.f21.name == "runtime.NumGoroutine") = false := by kernel_rfl
/-- ephemeris/crcc.Sum -/
theorem in21 {ρ : Hp} {Hs : List HP} {Q : Value → HP} {args : List Value} {c : Code} (hb : Tryz.f21.body = some c) (hn : Nat.ble args.length Tryz.f21.ntmps = true) (h : W Tryz.prog Tryz.f21 ρ Q [.code c] (argEnv 0 args) Hs) : Fn Tryz.prog 21 args.toArray ρ Hs Q := Fn.of_code Tryz.func21 hb nm21 hn h
theorem nm22 : (Tryz.f22.name == "runtime.NumGoroutine") = false := by kernel_rfl
/-- ephemeris/crcc.Table -/
theorem in22 {ρ : Hp} {Hs : List HP} {Q : Value → HP} {args : List Value} {c : Code} (hb : Tryz.f22.body = some c) (hn : Nat.ble args.length Tryz.f22.ntmps = true) (h : W Tryz.prog Tryz.f22 ρ Q [.code c] (argEnv 0 args) Hs) : Fn Tryz.prog 22 args.toArray ρ Hs Q := Fn.of_code Tryz.func22 hb nm22 hn h
theorem nm23 : (Tryz.f23.name == "runtime.NumGoroutine") = false := by kernel_rfl
/-- ephemeris/ephemerisref10.Encode -/
theorem in23 {ρ : Hp} {Hs : List HP} {Q : Value → HP} {args : List Value} {c : Code} (hb : Tryz.f23.body = some c) (hn : Nat.ble args.length Tryz.f23.ntmps = true) (h : W Tryz.prog Tryz.f23 ρ Q [.code c] (argEnv 0 args) Hs) : Fn Tryz.prog 23 args.toArray ρ Hs Q := Fn.of_code Tryz.func23 hb nm23 hn h
theorem nm24 : (Tryz.f24.name == "runtime.NumGoroutine") = false := by kernel_rfl
/-- ephemeris/ephemerisref1.Put -/
theorem in24 {ρ : Hp} {Hs : List HP} {Q : Value → HP} {args : List Value} {c : Code} (hb : Tryz.f24.body = some c) (hn : Nat.ble args.length Tryz.f24.ntmps = true) (h : W Tryz.prog Tryz.f24 ρ Q [.code c] (argEnv 0 args) Hs) : Fn Tryz.prog 24 args.toArray ρ Hs Q := Fn.of_code Tryz.func24 hb nm24 hn h
theorem nm25 : (Tryz.f25.name == "runtime.NumGoroutine") = false := by kernel_rfl
/-- ephemeris/ephemerisref1.Zig -/
theorem in25 {ρ : Hp} {Hs : List HP} {Q : Value → HP} {args : List Value} {c : Code} (hb : Tryz.f25.body = some c) (hn : Nat.ble args.length Tryz.f25.ntmps = true) (h : W Tryz.prog Tryz.f25 ρ Q [.code c] (argEnv 0 args) Hs) : Fn Tryz.prog 25 args.toArray ρ Hs Q := Fn.of_code Tryz.func25 hb nm25 hn h
theorem nm26 : (Tryz.f26.name == "runtime.NumGoroutine") = false := by kernel_rfl
/-- ephemeris/ephemerisref1.Sum -/
theorem in26 {ρ : Hp} {Hs : List HP} {Q : Value → HP} {args : List Value} {c : Code} (hb : Tryz.f26.body = some c) (hn : Nat.ble args.length Tryz.f26.ntmps = true) (h : W Tryz.prog Tryz.f26 ρ Q [.code c] (argEnv 0 args) Hs) : Fn Tryz.prog 26 args.toArray ρ Hs Q := Fn.of_code Tryz.func26 hb nm26 hn h
theorem nm27 : (Tryz.f27.name == "runtime.NumGoroutine") = false := by kernel_rfl
/-- slices.Clip[[]ephemeris/api.Sample,ephemeris/api.Sample] -/
theorem in27 {ρ : Hp} {Hs : List HP} {Q : Value → HP} {args : List Value} {c : Code} (hb : Tryz.f27.body = some c) (hn : Nat.ble args.length Tryz.f27.ntmps = true) (h : W Tryz.prog Tryz.f27 ρ Q [.code c] (argEnv 0 args) Hs) : Fn Tryz.prog 27 args.toArray ρ Hs Q := Fn.of_code Tryz.func27 hb nm27 hn h
theorem nm28 : (Tryz.f28.name == "runtime.NumGoroutine") = false := by kernel_rfl
/-- slices.Clone[[]ephemeris/api.Sample,ephemeris/api.Sample] -/
theorem in28 {ρ : Hp} {Hs : List HP} {Q : Value → HP} {args : List Value} {c : Code} (hb : Tryz.f28.body = some c) (hn : Nat.ble args.length Tryz.f28.ntmps = true) (h : W Tryz.prog Tryz.f28 ρ Q [.code c] (argEnv 0 args) Hs) : Fn Tryz.prog 28 args.toArray ρ Hs Q := Fn.of_code Tryz.func28 hb nm28 hn h
theorem nm29 : (Tryz.f29.name == "runtime.NumGoroutine") = false := by kernel_rfl
/-- ephemeris/ephemerisref10.head -/
theorem in29 {ρ : Hp} {Hs : List HP} {Q : Value → HP} {args : List Value} {c : Code} (hb : Tryz.f29.body = some c) (hn : Nat.ble args.length Tryz.f29.ntmps = true) (h : W Tryz.prog Tryz.f29 ρ Q [.code c] (argEnv 0 args) Hs) : Fn Tryz.prog 29 args.toArray ρ Hs Q := Fn.of_code Tryz.func29 hb nm29 hn h
theorem nm30 : (Tryz.f30.name == "runtime.NumGoroutine") = false := by kernel_rfl
/-- ephemeris/ephemerisref10.Decode -/
theorem in30 {ρ : Hp} {Hs : List HP} {Q : Value → HP} {args : List Value} {c : Code} (hb : Tryz.f30.body = some c) (hn : Nat.ble args.length Tryz.f30.ntmps = true) (h : W Tryz.prog Tryz.f30 ρ Q [.code c] (argEnv 0 args) Hs) : Fn Tryz.prog 30 args.toArray ρ Hs Q := Fn.of_code Tryz.func30 hb nm30 hn h
theorem nm31 : (Tryz.f31.name == "runtime.NumGoroutine") = false := by kernel_rfl
/-- ephemeris/suit.Rising -/
theorem in31 {ρ : Hp} {Hs : List HP} {Q : Value → HP} {args : List Value} {c : Code} (hb : Tryz.f31.body = some c) (hn : Nat.ble args.length Tryz.f31.ntmps = true) (h : W Tryz.prog Tryz.f31 ρ Q [.code c] (argEnv 0 args) Hs) : Fn Tryz.prog 31 args.toArray ρ Hs Q := Fn.of_code Tryz.func31 hb nm31 hn h
theorem nm32 : (Tryz.f32.name == "runtime.NumGoroutine") = false := by kernel_rfl
/-- ephemeris/suit.values -/
theorem in32 {ρ : Hp} {Hs : List HP} {Q : Value → HP} {args : List Value} {c : Code} (hb : Tryz.f32.body = some c) (hn : Nat.ble args.length Tryz.f32.ntmps = true) (h : W Tryz.prog Tryz.f32 ρ Q [.code c] (argEnv 0 args) Hs) : Fn Tryz.prog 32 args.toArray ρ Hs Q := Fn.of_code Tryz.func32 hb nm32 hn h
theorem nm33 : (Tryz.f33.name == "runtime.NumGoroutine") = false := by kernel_rfl
/-- ephemeris/bits.NewWriter -/
theorem in33 {ρ : Hp} {Hs : List HP} {Q : Value → HP} {args : List Value} {c : Code} (hb : Tryz.f33.body = some c) (hn : Nat.ble args.length Tryz.f33.ntmps = true) (h : W Tryz.prog Tryz.f33 ρ Q [.code c] (argEnv 0 args) Hs) : Fn Tryz.prog 33 args.toArray ρ Hs Q := Fn.of_code Tryz.func33 hb nm33 hn h
theorem nm34 : (Tryz.f34.name == "runtime.NumGoroutine") = false := by kernel_rfl
/-- ephemeris/time.Encode -/
theorem in34 {ρ : Hp} {Hs : List HP} {Q : Value → HP} {args : List Value} {c : Code} (hb : Tryz.f34.body = some c) (hn : Nat.ble args.length Tryz.f34.ntmps = true) (h : W Tryz.prog Tryz.f34 ρ Q [.code c] (argEnv 0 args) Hs) : Fn Tryz.prog 34 args.toArray ρ Hs Q := Fn.of_code Tryz.func34 hb nm34 hn h
theorem nm35 : (Tryz.f35.name == "runtime.NumGoroutine") = false := by kernel_rfl
/-- (*ephemeris/bits.Writer).Bytes -/
theorem in35 {ρ : Hp} {Hs : List HP} {Q : Value → HP} {args : List Value} {c : Code} (hb : Tryz.f35.body = some c) (hn : Nat.ble args.length Tryz.f35.ntmps = true) (h : W Tryz.prog Tryz.f35 ρ Q [.code c] (argEnv 0 args) Hs) : Fn Tryz.prog 35 args.toArray ρ Hs Q := Fn.of_code Tryz.func35 hb nm35 hn h
theorem nm36 : (Tryz.f36.name == "runtime.NumGoroutine") = false := by kernel_rfl
/-- slices.Clip[[]byte,byte] -/
theorem in36 {ρ : Hp} {Hs : List HP} {Q : Value → HP} {args : List Value} {c : Code} (hb : Tryz.f36.body = some c) (hn : Nat.ble args.length Tryz.f36.ntmps = true) (h : W Tryz.prog Tryz.f36 ρ Q [.code c] (argEnv 0 args) Hs) : Fn Tryz.prog 36 args.toArray ρ Hs Q := Fn.of_code Tryz.func36 hb nm36 hn h
theorem nm37 : (Tryz.f37.name == "runtime.NumGoroutine") = false := by kernel_rfl
/-- slices.Clone[[]byte,byte] -/
theorem in37 {ρ : Hp} {Hs : List HP} {Q : Value → HP} {args : List Value} {c : Code} (hb : Tryz.f37.body = some c) (hn : Nat.ble args.length Tryz.f37.ntmps = true) (h : W Tryz.prog Tryz.f37 ρ Q [.code c] (argEnv 0 args) Hs) : Fn Tryz.prog 37 args.toArray ρ Hs Q := Fn.of_code Tryz.func37 hb nm37 hn h
theorem nm38 : (Tryz.f38.name == "runtime.NumGoroutine") = false := by kernel_rfl
/-- ephemeris/ephemerisref10.told -/
theorem in38 {ρ : Hp} {Hs : List HP} {Q : Value → HP} {args : List Value} {c : Code} (hb : Tryz.f38.body = some c) (hn : Nat.ble args.length Tryz.f38.ntmps = true) (h : W Tryz.prog Tryz.f38 ρ Q [.code c] (argEnv 0 args) Hs) : Fn Tryz.prog 38 args.toArray ρ Hs Q := Fn.of_code Tryz.func38 hb nm38 hn h
theorem nm39 : (Tryz.f39.name == "runtime.NumGoroutine") = false := by kernel_rfl
/-- ephemeris/ephemerisref10.values -/
theorem in39 {ρ : Hp} {Hs : List HP} {Q : Value → HP} {args : List Value} {c : Code} (hb : Tryz.f39.body = some c) (hn : Nat.ble args.length Tryz.f39.ntmps = true) (h : W Tryz.prog Tryz.f39 ρ Q [.code c] (argEnv 0 args) Hs) : Fn Tryz.prog 39 args.toArray ρ Hs Q := Fn.of_code Tryz.func39 hb nm39 hn h
theorem nm40 : (Tryz.f40.name == "runtime.NumGoroutine") = false := by kernel_rfl
/-- ephemeris/ephemerisref10.Rising -/
theorem in40 {ρ : Hp} {Hs : List HP} {Q : Value → HP} {args : List Value} {c : Code} (hb : Tryz.f40.body = some c) (hn : Nat.ble args.length Tryz.f40.ntmps = true) (h : W Tryz.prog Tryz.f40 ρ Q [.code c] (argEnv 0 args) Hs) : Fn Tryz.prog 40 args.toArray ρ Hs Q := Fn.of_code Tryz.func40 hb nm40 hn h
theorem nm41 : (Tryz.f41.name == "runtime.NumGoroutine") = false := by kernel_rfl
/-- ephemeris/ephemerisref4.Times -/
theorem in41 {ρ : Hp} {Hs : List HP} {Q : Value → HP} {args : List Value} {c : Code} (hb : Tryz.f41.body = some c) (hn : Nat.ble args.length Tryz.f41.ntmps = true) (h : W Tryz.prog Tryz.f41 ρ Q [.code c] (argEnv 0 args) Hs) : Fn Tryz.prog 41 args.toArray ρ Hs Q := Fn.of_code Tryz.func41 hb nm41 hn h
theorem nm42 : (Tryz.f42.name == "runtime.NumGoroutine") = false := by kernel_rfl
/-- (*ephemeris/ephemerisref1.Writer).Bytes -/
theorem in42 {ρ : Hp} {Hs : List HP} {Q : Value → HP} {args : List Value} {c : Code} (hb : Tryz.f42.body = some c) (hn : Nat.ble args.length Tryz.f42.ntmps = true) (h : W Tryz.prog Tryz.f42 ρ Q [.code c] (argEnv 0 args) Hs) : Fn Tryz.prog 42 args.toArray ρ Hs Q := Fn.of_code Tryz.func42 hb nm42 hn h
theorem nm43 : (Tryz.f43.name == "runtime.NumGoroutine") = false := by kernel_rfl
/-- ephemeris/ephemerisref1.Entry -/
theorem in43 {ρ : Hp} {Hs : List HP} {Q : Value → HP} {args : List Value} {c : Code} (hb : Tryz.f43.body = some c) (hn : Nat.ble args.length Tryz.f43.ntmps = true) (h : W Tryz.prog Tryz.f43 ρ Q [.code c] (argEnv 0 args) Hs) : Fn Tryz.prog 43 args.toArray ρ Hs Q := Fn.of_code Tryz.func43 hb nm43 hn h
theorem nm44 : (Tryz.f44.name == "runtime.NumGoroutine") = false := by kernel_rfl
/-- ephemeris/ephemerisref1.Get -/
theorem in44 {ρ : Hp} {Hs : List HP} {Q : Value → HP} {args : List Value} {c : Code} (hb : Tryz.f44.body = some c) (hn : Nat.ble args.length Tryz.f44.ntmps = true) (h : W Tryz.prog Tryz.f44 ρ Q [.code c] (argEnv 0 args) Hs) : Fn Tryz.prog 44 args.toArray ρ Hs Q := Fn.of_code Tryz.func44 hb nm44 hn h
theorem nm45 : (Tryz.f45.name == "runtime.NumGoroutine") = false := by kernel_rfl
/-- ephemeris/ephemerisref1.Zag -/
theorem in45 {ρ : Hp} {Hs : List HP} {Q : Value → HP} {args : List Value} {c : Code} (hb : Tryz.f45.body = some c) (hn : Nat.ble args.length Tryz.f45.ntmps = true) (h : W Tryz.prog Tryz.f45 ρ Q [.code c] (argEnv 0 args) Hs) : Fn Tryz.prog 45 args.toArray ρ Hs Q := Fn.of_code Tryz.func45 hb nm45 hn h
theorem nm46 : (Tryz.f46.name == "runtime.NumGoroutine") = false := by kernel_rfl
/-- ephemeris/ephemerisref4.GetTimes -/
theorem in46 {ρ : Hp} {Hs : List HP} {Q : Value → HP} {args : List Value} {c : Code} (hb : Tryz.f46.body = some c) (hn : Nat.ble args.length Tryz.f46.ntmps = true) (h : W Tryz.prog Tryz.f46 ρ Q [.code c] (argEnv 0 args) Hs) : Fn Tryz.prog 46 args.toArray ρ Hs Q := Fn.of_code Tryz.func46 hb nm46 hn h
theorem nm47 : (Tryz.f47.name == "runtime.NumGoroutine") = false := by kernel_rfl
/-- ephemeris/ephemerisref10.read -/
theorem in47 {ρ : Hp} {Hs : List HP} {Q : Value → HP} {args : List Value} {c : Code} (hb : Tryz.f47.body = some c) (hn : Nat.ble args.length Tryz.f47.ntmps = true) (h : W Tryz.prog Tryz.f47 ρ Q [.code c] (argEnv 0 args) Hs) : Fn Tryz.prog 47 args.toArray ρ Hs Q := Fn.of_code Tryz.func47 hb nm47 hn h
theorem nm48 : (Tryz.f48.name == "runtime.NumGoroutine") = false := by kernel_rfl
/-- ephemeris/xorv.Encode -/
theorem in48 {ρ : Hp} {Hs : List HP} {Q : Value → HP} {args : List Value} {c : Code} (hb : Tryz.f48.body = some c) (hn : Nat.ble args.length Tryz.f48.ntmps = true) (h : W Tryz.prog Tryz.f48 ρ Q [.code c] (argEnv 0 args) Hs) : Fn Tryz.prog 48 args.toArray ρ Hs Q := Fn.of_code Tryz.func48 hb nm48 hn h
theorem nm56 : (Tryz.f56.name == "runtime.NumGoroutine") = false := by kernel_rfl
/-- (*ephemeris/bits.Writer).Put -/
theorem in56 {ρ : Hp} {Hs : List HP} {Q : Value → HP} {args : List Value} {c : Code} (hb : Tryz.f56.body = some c) (hn : Nat.ble args.length Tryz.f56.ntmps = true) (h : W Tryz.prog Tryz.f56 ρ Q [.code c] (argEnv 0 args) Hs) : Fn Tryz.prog 56 args.toArray ρ Hs Q := Fn.of_code Tryz.func56 hb nm56 hn h
theorem nm57 : (Tryz.f57.name == "runtime.NumGoroutine") = false := by kernel_rfl
/-- ephemeris/time.which -/
theorem in57 {ρ : Hp} {Hs : List HP} {Q : Value → HP} {args : List Value} {c : Code} (hb : Tryz.f57.body = some c) (hn : Nat.ble args.length Tryz.f57.ntmps = true) (h : W Tryz.prog Tryz.f57 ρ Q [.code c] (argEnv 0 args) Hs) : Fn Tryz.prog 57 args.toArray ρ Hs Q := Fn.of_code Tryz.func57 hb nm57 hn h
theorem nm58 : (Tryz.f58.name == "runtime.NumGoroutine") = false := by kernel_rfl
/-- ephemeris/ephemerisref4.Values -/
theorem in58 {ρ : Hp} {Hs : List HP} {Q : Value → HP} {args : List Value} {c : Code} (hb : Tryz.f58.body = some c) (hn : Nat.ble args.length Tryz.f58.ntmps = true) (h : W Tryz.prog Tryz.f58 ρ Q [.code c] (argEnv 0 args) Hs) : Fn Tryz.prog 58 args.toArray ρ Hs Q := Fn.of_code Tryz.func58 hb nm58 hn h
theorem nm64 : (Tryz.f64.name == "runtime.NumGoroutine") = false := by kernel_rfl
/-- (*ephemeris/ephemerisref1.Writer).Put -/
theorem in64 {ρ : Hp} {Hs : List HP} {Q : Value → HP} {args : List Value} {c : Code} (hb : Tryz.f64.body = some c) (hn : Nat.ble args.length Tryz.f64.ntmps = true) (h : W Tryz.prog Tryz.f64 ρ Q [.code c] (argEnv 0 args) Hs) : Fn Tryz.prog 64 args.toArray ρ Hs Q := Fn.of_code Tryz.func64 hb nm64 hn h
theorem nm65 : (Tryz.f65.name == "runtime.NumGoroutine") = false := by kernel_rfl
/-- ephemeris/ephemerisref4.kind -/
theorem in65 {ρ : Hp} {Hs : List HP} {Q : Value → HP} {args : List Value} {c : Code} (hb : Tryz.f65.body = some c) (hn : Nat.ble args.length Tryz.f65.ntmps = true) (h : W Tryz.prog Tryz.f65 ρ Q [.code c] (argEnv 0 args) Hs) : Fn Tryz.prog 65 args.toArray ρ Hs Q := Fn.of_code Tryz.func65 hb nm65 hn h
theorem nm66 : (Tryz.f66.name == "runtime.NumGoroutine") = false := by kernel_rfl
/-- ephemeris/ephemerisref4.held -/
theorem in66 {ρ : Hp} {Hs : List HP} {Q : Value → HP} {args : List Value} {c : Code} (hb : Tryz.f66.body = some c) (hn : Nat.ble args.length Tryz.f66.ntmps = true) (h : W Tryz.prog Tryz.f66 ρ Q [.code c] (argEnv 0 args) Hs) : Fn Tryz.prog 66 args.toArray ρ Hs Q := Fn.of_code Tryz.func66 hb nm66 hn h
theorem nm67 : (Tryz.f67.name == "runtime.NumGoroutine") = false := by kernel_rfl
/-- (*ephemeris/ephemerisref1.Reader).Get -/
theorem in67 {ρ : Hp} {Hs : List HP} {Q : Value → HP} {args : List Value} {c : Code} (hb : Tryz.f67.body = some c) (hn : Nat.ble args.length Tryz.f67.ntmps = true) (h : W Tryz.prog Tryz.f67 ρ Q [.code c] (argEnv 0 args) Hs) : Fn Tryz.prog 67 args.toArray ρ Hs Q := Fn.of_code Tryz.func67 hb nm67 hn h
theorem nm68 : (Tryz.f68.name == "runtime.NumGoroutine") = false := by kernel_rfl
/-- ephemeris/ephemerisref4.difference -/
theorem in68 {ρ : Hp} {Hs : List HP} {Q : Value → HP} {args : List Value} {c : Code} (hb : Tryz.f68.body = some c) (hn : Nat.ble args.length Tryz.f68.ntmps = true) (h : W Tryz.prog Tryz.f68 ρ Q [.code c] (argEnv 0 args) Hs) : Fn Tryz.prog 68 args.toArray ρ Hs Q := Fn.of_code Tryz.func68 hb nm68 hn h
theorem nm69 : (Tryz.f69.name == "runtime.NumGoroutine") = false := by kernel_rfl
/-- ephemeris/ephemerisref4.GetValues -/
theorem in69 {ρ : Hp} {Hs : List HP} {Q : Value → HP} {args : List Value} {c : Code} (hb : Tryz.f69.body = some c) (hn : Nat.ble args.length Tryz.f69.ntmps = true) (h : W Tryz.prog Tryz.f69 ρ Q [.code c] (argEnv 0 args) Hs) : Fn Tryz.prog 69 args.toArray ρ Hs Q := Fn.of_code Tryz.func69 hb nm69 hn h
theorem nm74 : (Tryz.f74.name == "runtime.NumGoroutine") = false := by kernel_rfl
/-- (ephemeris/xorv.window).fits -/
theorem in74 {ρ : Hp} {Hs : List HP} {Q : Value → HP} {args : List Value} {c : Code} (hb : Tryz.f74.body = some c) (hn : Nat.ble args.length Tryz.f74.ntmps = true) (h : W Tryz.prog Tryz.f74 ρ Q [.code c] (argEnv 0 args) Hs) : Fn Tryz.prog 74 args.toArray ρ Hs Q := Fn.of_code Tryz.func74 hb nm74 hn h
theorem nm75 : (Tryz.f75.name == "runtime.NumGoroutine") = false := by kernel_rfl
/-- ephemeris/xorv.of -/
theorem in75 {ρ : Hp} {Hs : List HP} {Q : Value → HP} {args : List Value} {c : Code} (hb : Tryz.f75.body = some c) (hn : Nat.ble args.length Tryz.f75.ntmps = true) (h : W Tryz.prog Tryz.f75 ρ Q [.code c] (argEnv 0 args) Hs) : Fn Tryz.prog 75 args.toArray ρ Hs Q := Fn.of_code Tryz.func75 hb nm75 hn h
theorem nm76 : (Tryz.f76.name == "runtime.NumGoroutine") = false := by kernel_rfl
/-- (ephemeris/xorv.window).long -/
theorem in76 {ρ : Hp} {Hs : List HP} {Q : Value → HP} {args : List Value} {c : Code} (hb : Tryz.f76.body = some c) (hn : Nat.ble args.length Tryz.f76.ntmps = true) (h : W Tryz.prog Tryz.f76 ρ Q [.code c] (argEnv 0 args) Hs) : Fn Tryz.prog 76 args.toArray ρ Hs Q := Fn.of_code Tryz.func76 hb nm76 hn h
theorem nm81 : (Tryz.f81.name == "runtime.NumGoroutine") = false := by kernel_rfl
/-- math/bits.Len64 -/
theorem in81 {ρ : Hp} {Hs : List HP} {Q : Value → HP} {args : List Value} {c : Code} (hb : Tryz.f81.body = some c) (hn : Nat.ble args.length Tryz.f81.ntmps = true) (h : W Tryz.prog Tryz.f81 ρ Q [.code c] (argEnv 0 args) Hs) : Fn Tryz.prog 81 args.toArray ρ Hs Q := Fn.of_code Tryz.func81 hb nm81 hn h
theorem nm85 : (Tryz.f85.name == "runtime.NumGoroutine") = false := by kernel_rfl
/-- ephemeris/bits.held -/
theorem in85 {ρ : Hp} {Hs : List HP} {Q : Value → HP} {args : List Value} {c : Code} (hb : Tryz.f85.body = some c) (hn : Nat.ble args.length Tryz.f85.ntmps = true) (h : W Tryz.prog Tryz.f85 ρ Q [.code c] (argEnv 0 args) Hs) : Fn Tryz.prog 85 args.toArray ρ Hs Q := Fn.of_code Tryz.func85 hb nm85 hn h
theorem nm86 : (Tryz.f86.name == "runtime.NumGoroutine") = false := by kernel_rfl
/-- ephemeris/ephemerisref4.ahead -/
theorem in86 {ρ : Hp} {Hs : List HP} {Q : Value → HP} {args : List Value} {c : Code} (hb : Tryz.f86.body = some c) (hn : Nat.ble args.length Tryz.f86.ntmps = true) (h : W Tryz.prog Tryz.f86 ρ Q [.code c] (argEnv 0 args) Hs) : Fn Tryz.prog 86 args.toArray ρ Hs Q := Fn.of_code Tryz.func86 hb nm86 hn h
theorem nm87 : (Tryz.f87.name == "runtime.NumGoroutine") = false := by kernel_rfl
/-- ephemeris/ephemerisref4.behind -/
theorem in87 {ρ : Hp} {Hs : List HP} {Q : Value → HP} {args : List Value} {c : Code} (hb : Tryz.f87.body = some c) (hn : Nat.ble args.length Tryz.f87.ntmps = true) (h : W Tryz.prog Tryz.f87 ρ Q [.code c] (argEnv 0 args) Hs) : Fn Tryz.prog 87 args.toArray ρ Hs Q := Fn.of_code Tryz.func87 hb nm87 hn h
theorem nm94 : (Tryz.f94.name == "runtime.NumGoroutine") = false := by kernel_rfl
/-- ephemeris/ephemerisref4.within -/
theorem in94 {ρ : Hp} {Hs : List HP} {Q : Value → HP} {args : List Value} {c : Code} (hb : Tryz.f94.body = some c) (hn : Nat.ble args.length Tryz.f94.ntmps = true) (h : W Tryz.prog Tryz.f94 ρ Q [.code c] (argEnv 0 args) Hs) : Fn Tryz.prog 94 args.toArray ρ Hs Q := Fn.of_code Tryz.func94 hb nm94 hn h
theorem nm95 : (Tryz.f95.name == "runtime.NumGoroutine") = false := by kernel_rfl
/-- (*ephemeris/ephemerisref1.Reader).Left -/
theorem in95 {ρ : Hp} {Hs : List HP} {Q : Value → HP} {args : List Value} {c : Code} (hb : Tryz.f95.body = some c) (hn : Nat.ble args.length Tryz.f95.ntmps = true) (h : W Tryz.prog Tryz.f95 ρ Q [.code c] (argEnv 0 args) Hs) : Fn Tryz.prog 95 args.toArray ρ Hs Q := Fn.of_code Tryz.func95 hb nm95 hn h
theorem nm98 : (Tryz.f98.name == "runtime.NumGoroutine") = false := by kernel_rfl
/-- math/bits.LeadingZeros64 -/
theorem in98 {ρ : Hp} {Hs : List HP} {Q : Value → HP} {args : List Value} {c : Code} (hb : Tryz.f98.body = some c) (hn : Nat.ble args.length Tryz.f98.ntmps = true) (h : W Tryz.prog Tryz.f98 ρ Q [.code c] (argEnv 0 args) Hs) : Fn Tryz.prog 98 args.toArray ρ Hs Q := Fn.of_code Tryz.func98 hb nm98 hn h
theorem nm99 : (Tryz.f99.name == "runtime.NumGoroutine") = false := by kernel_rfl
/-- math/bits.TrailingZeros64 -/
theorem in99 {ρ : Hp} {Hs : List HP} {Q : Value → HP} {args : List Value} {c : Code} (hb : Tryz.f99.body = some c) (hn : Nat.ble args.length Tryz.f99.ntmps = true) (h : W Tryz.prog Tryz.f99 ρ Q [.code c] (argEnv 0 args) Hs) : Fn Tryz.prog 99 args.toArray ρ Hs Q := Fn.of_code Tryz.func99 hb nm99 hn h
end Go.Proofs.YtdpnpipninggeaaGreatDoor
