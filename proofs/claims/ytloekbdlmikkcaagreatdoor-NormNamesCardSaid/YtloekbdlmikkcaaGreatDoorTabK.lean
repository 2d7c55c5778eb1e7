/- The table of the functions that the law reaches. No condition. -/
import Derived.Test.YtloekbdlmikkcaaGreatDoorZvK6
import Derived.Test.YtloekbdlmikkcaaGreatDoorZvK7
import Derived.Test.YtloekbdlmikkcaaGreatDoorGlobK
import Derived.Test.YtloekbdlmikkcaaGreatDoorProg
import Derived.KernelRfl
set_option linter.unusedSimpArgs false
set_option linter.unusedVariables false
namespace Go.Proofs.YtloekbdlmikkcaaGreatDoor.G
open Go Go.Zv Go.Zv.G Go.Proofs Go.Proofs.YtloekbdlmikkcaaGreatDoor
set_option maxRecDepth 100000
set_option maxHeartbeats 0
noncomputable def ti3 : TI := ⟨.int .i64, 1, [.int .i64], [.int .i64 0], []⟩
noncomputable def ti4 : TI := ⟨.bool, 1, [.bool], [.bool false], []⟩
noncomputable def ti5 : TI := ⟨.int .u8, 1, [.int .u8], [.int .u8 0], []⟩
noncomputable def ti9 : TI := ⟨.str, 1, [.str], [.str []], []⟩
noncomputable def ti25 : TI := ⟨.slice 4 48, 1, [.slice 4 48], [.nilsl], [.str [], .bool false, .bool false, .sl 3 false []]⟩
noncomputable def ti26 : TI := ⟨.int .i64, 1, [.int .i64], [.int .i64 0], []⟩
noncomputable def ti34 : TI := ⟨.slice 1 1, 1, [.slice 1 1], [.nilsl], [.int .u8 0]⟩
noncomputable def ti37 : TI := ⟨.slice 3 56, 1, [.slice 3 56], [.nilsl], [.int .i64 0, .sl 1 false [], .sl 1 false []]⟩
noncomputable def ti39 : TI := ⟨.struct [(0, (9, 1)), (1, (4, 1)), (2, (4, 1)), (3, (37, 1))], 4, [.str, .bool, .bool, .slice 3 56], [.str [], .bool false, .bool false, .nilsl], []⟩
noncomputable def ti45 : TI := ⟨.arr 32 1 5, 32, [.int .u8, .int .u8, .int .u8, .int .u8, .int .u8, .int .u8, .int .u8, .int .u8, .int .u8, .int .u8, .int .u8, .int .u8, .int .u8, .int .u8, .int .u8, .int .u8, .int .u8, .int .u8, .int .u8, .int .u8, .int .u8, .int .u8, .int .u8, .int .u8, .int .u8, .int .u8, .int .u8, .int .u8, .int .u8, .int .u8, .int .u8, .int .u8], [.int .u8 0, .int .u8 0, .int .u8 0, .int .u8 0, .int .u8 0, .int .u8 0, .int .u8 0, .int .u8 0, .int .u8 0, .int .u8 0, .int .u8 0, .int .u8 0, .int .u8 0, .int .u8 0, .int .u8 0, .int .u8 0, .int .u8 0, .int .u8 0, .int .u8 0, .int .u8 0, .int .u8 0, .int .u8 0, .int .u8 0, .int .u8 0, .int .u8 0, .int .u8 0, .int .u8 0, .int .u8 0, .int .u8 0, .int .u8 0, .int .u8 0, .int .u8 0], [.int .u8 0]⟩
noncomputable def ti55 : TI := ⟨.slice 1 16, 1, [.slice 1 16], [.nilsl], [.str []]⟩
noncomputable def ti59 : TI := ⟨.struct [(0, (3, 1)), (1, (55, 1)), (2, (55, 1))], 3, [.int .i64, .slice 1 16, .slice 1 16], [.int .i64 0, .nilsl, .nilsl], []⟩
noncomputable def ti82 : TI := ⟨.fn, 1, [.fn], [.ud], []⟩
noncomputable def ti87 : TI := ⟨.int .i8, 1, [.int .i8], [.int .i8 0], []⟩
noncomputable def ti89 : TI := ⟨.struct [(0, (34, 1)), (1, (3, 1)), (2, (87, 1))], 3, [.slice 1 1, .int .i64, .int .i8], [.nilsl, .int .i64 0, .int .i8 0], []⟩
noncomputable def ti104 : TI := ⟨.int .u32, 1, [.int .u32], [.int .u32 0], []⟩
noncomputable def ti105 : TI := ⟨.arr 8 1 104, 8, [.int .u32, .int .u32, .int .u32, .int .u32, .int .u32, .int .u32, .int .u32, .int .u32], [.int .u32 0, .int .u32 0, .int .u32 0, .int .u32 0, .int .u32 0, .int .u32 0, .int .u32 0, .int .u32 0], [.int .u32 0]⟩
noncomputable def ti107 : TI := ⟨.struct [(0, (105, 8)), (8, (34, 1)), (9, (3, 1))], 10, [.int .u32, .int .u32, .int .u32, .int .u32, .int .u32, .int .u32, .int .u32, .int .u32, .slice 1 1, .int .i64], [.int .u32 0, .int .u32 0, .int .u32 0, .int .u32 0, .int .u32 0, .int .u32 0, .int .u32 0, .int .u32 0, .nilsl, .int .i64 0], []⟩
noncomputable def ti110 : TI := ⟨.fn, 1, [.fn], [.ud], []⟩
noncomputable def ti132 : TI := ⟨.fn, 1, [.fn], [.ud], []⟩
noncomputable def ti134 : TI := ⟨.ptr, 1, [.ptr], [.nilp], []⟩
noncomputable def ti136 : TI := ⟨.struct [(0, (134, 1)), (1, (34, 1))], 2, [.ptr, .slice 1 1], [.nilp, .nilsl], []⟩
noncomputable def ti146 : TI := ⟨.fn, 1, [.fn], [.ud], []⟩
noncomputable def ti147 : TI := ⟨.fn, 1, [.fn], [.ud], []⟩
noncomputable def ti165 : TI := ⟨.slice 1 8, 1, [.slice 1 8], [.nilsl], [.int .i64 0]⟩
noncomputable def ti171 : TI := ⟨.fn, 1, [.fn], [.ud], []⟩
noncomputable def ti174 : TI := ⟨.int .u64, 1, [.int .u64], [.int .u64 0], []⟩
noncomputable def ti180 : TI := ⟨.int .u64, 1, [.int .u64], [.int .u64 0], []⟩
noncomputable def ti181 : TI := ⟨.slice 1 24, 1, [.slice 1 24], [.nilsl], [.nilsl]⟩
noncomputable def ti182 : TI := ⟨.arr 64 1 104, 64, [.int .u32, .int .u32, .int .u32, .int .u32, .int .u32, .int .u32, .int .u32, .int .u32, .int .u32, .int .u32, .int .u32, .int .u32, .int .u32, .int .u32, .int .u32, .int .u32, .int .u32, .int .u32, .int .u32, .int .u32, .int .u32, .int .u32, .int .u32, .int .u32, .int .u32, .int .u32, .int .u32, .int .u32, .int .u32, .int .u32, .int .u32, .int .u32, .int .u32, .int .u32, .int .u32, .int .u32, .int .u32, .int .u32, .int .u32, .int .u32, .int .u32, .int .u32, .int .u32, .int .u32, .int .u32, .int .u32, .int .u32, .int .u32, .int .u32, .int .u32, .int .u32, .int .u32, .int .u32, .int .u32, .int .u32, .int .u32, .int .u32, .int .u32, .int .u32, .int .u32, .int .u32, .int .u32, .int .u32, .int .u32], [.int .u32 0, .int .u32 0, .int .u32 0, .int .u32 0, .int .u32 0, .int .u32 0, .int .u32 0, .int .u32 0, .int .u32 0, .int .u32 0, .int .u32 0, .int .u32 0, .int .u32 0, .int .u32 0, .int .u32 0, .int .u32 0, .int .u32 0, .int .u32 0, .int .u32 0, .int .u32 0, .int .u32 0, .int .u32 0, .int .u32 0, .int .u32 0, .int .u32 0, .int .u32 0, .int .u32 0, .int .u32 0, .int .u32 0, .int .u32 0, .int .u32 0, .int .u32 0, .int .u32 0, .int .u32 0, .int .u32 0, .int .u32 0, .int .u32 0, .int .u32 0, .int .u32 0, .int .u32 0, .int .u32 0, .int .u32 0, .int .u32 0, .int .u32 0, .int .u32 0, .int .u32 0, .int .u32 0, .int .u32 0, .int .u32 0, .int .u32 0, .int .u32 0, .int .u32 0, .int .u32 0, .int .u32 0, .int .u32 0, .int .u32 0, .int .u32 0, .int .u32 0, .int .u32 0, .int .u32 0, .int .u32 0, .int .u32 0, .int .u32 0, .int .u32 0], [.int .u32 0]⟩
noncomputable def ti184 : TI := ⟨.slice 1 4, 1, [.slice 1 4], [.nilsl], [.int .u32 0]⟩
noncomputable def fi5 : FnI := ⟨Tryz.f5, codeOf Tryz.f5, [], [1, 2, 7], [], [(4, [1, 2, 3, 4]), (10, [1, 2, 5, 6]), (16, [1, 2, 7, 8])], [(24, ⟨[1], [⟨0, false, [], [130], []⟩, ⟨2, true, [131], [132], []⟩, ⟨3, true, [130, 132], [133], [0, 2]⟩], [4, 5, 6, 7, 8]⟩)]⟩
noncomputable def fi15 : FnI := ⟨Tryz.f15, codeOf Tryz.f15, [], [], [], [(4, [0, 8, 9, 10])], []⟩
noncomputable def fi21 : FnI := ⟨Tryz.f21, codeOf Tryz.f21, [], [], [], [], []⟩
noncomputable def fi23 : FnI := ⟨Tryz.f23, codeOf Tryz.f23, [14, 31], [], [], [(6, [2, 5, 17, 18, 19])], [(11, ⟨[], [⟨0, true, [7], [33], []⟩, ⟨1, true, [7, 33], [34], [0]⟩, ⟨2, true, [34], [35], [0, 1]⟩, ⟨3, true, [7], [36], []⟩, ⟨4, true, [7, 36], [37], [3]⟩, ⟨5, true, [37], [38], [3, 4]⟩, ⟨6, true, [35, 38], [39], [0, 1, 2, 3, 4, 5]⟩, ⟨7, true, [39], [40], [0, 1, 2, 3, 4, 5, 6]⟩, ⟨8, true, [7], [41], []⟩, ⟨9, true, [7, 41], [42], [8]⟩, ⟨10, true, [42], [43], [3, 4, 5, 8, 9]⟩, ⟨11, true, [40, 43], [44], [0, 1, 2, 3, 4, 5, 6, 7, 8, 9, 10]⟩, ⟨12, true, [44], [45], [0, 1, 2, 3, 4, 5, 6, 7, 8, 9, 10, 11]⟩, ⟨13, true, [7], [46], []⟩, ⟨14, true, [7, 46], [47], [13]⟩, ⟨15, true, [47], [48], [13, 14]⟩, ⟨16, true, [48], [49], [3, 4, 5, 8, 9, 10, 13, 14, 15]⟩, ⟨17, true, [45, 49], [50], [0, 1, 2, 3, 4, 5, 6, 7, 8, 9, 10, 11, 12, 13, 14, 15, 16]⟩, ⟨18, true, [50], [51], [0, 1, 2, 3, 4, 5, 6, 7, 8, 9, 10, 11, 12, 13, 14, 15, 16, 17]⟩, ⟨19, false, [51], [5, 52], [0, 1, 2, 3, 4, 5, 6, 7, 8, 9, 10, 11, 12, 13, 14, 15, 16, 17, 18]⟩], []⟩)]⟩
noncomputable def fi25 : FnI := ⟨Tryz.f25, codeOf Tryz.f25, [], [], [], [], []⟩
noncomputable def fi27 : FnI := ⟨Tryz.f27, codeOf Tryz.f27, [], [], [], [(4, [0, 1, 5])], []⟩
noncomputable def fi28 : FnI := ⟨Tryz.f28, codeOf Tryz.f28, [], [], [], [(3, [0, 1, 5, 6])], []⟩
noncomputable def fi29 : FnI := ⟨Tryz.f29, codeOf Tryz.f29, [15], [], [], [], []⟩
noncomputable def fi30 : FnI := ⟨Tryz.f30, codeOf Tryz.f30, [], [], [], [], []⟩
noncomputable def fi31 : FnI := ⟨Tryz.f31, codeOf Tryz.f31, [7], [], [], [], []⟩
noncomputable def fi32 : FnI := ⟨Tryz.f32, codeOf Tryz.f32, [], [], [], [(9, [1, 3, 5, 7, 8, 9, 11, 13, 15])], []⟩
noncomputable def fi46 : FnI := ⟨Tryz.f46, codeOf Tryz.f46, [], [], [], [], []⟩
noncomputable def fi47 : FnI := ⟨Tryz.f47, codeOf Tryz.f47, [], [], [], [], []⟩
noncomputable def fi48 : FnI := ⟨Tryz.f48, codeOf Tryz.f48, [], [], [], [], []⟩
noncomputable def fi49 : FnI := ⟨Tryz.f49, codeOf Tryz.f49, [], [], [], [(3, [1]), (5, [1]), (7, [1])], []⟩
noncomputable def fi54 : FnI := ⟨Tryz.f54, codeOf Tryz.f54, [24], [], [], [(3, [3, 12, 13, 14]), (8, [3, 6, 7, 12, 13, 14, 26, 27, 28])], []⟩
noncomputable def fi56 : FnI := ⟨Tryz.f56, codeOf Tryz.f56, [], [], [], [(6, [5, 17, 18, 19]), (10, [5, 7, 17, 18, 19, 42, 43, 44]), (15, [5, 17, 18, 19, 54, 55, 56])], [(8, ⟨[], [⟨0, true, [7], [23], []⟩, ⟨1, true, [7, 23], [24], [0]⟩, ⟨2, true, [24], [25], [0, 1]⟩, ⟨3, true, [25], [26], [0, 1, 2]⟩, ⟨4, true, [26], [27], [0, 1, 2, 3]⟩, ⟨5, true, [7], [28], []⟩, ⟨6, true, [7, 28], [29], [5]⟩, ⟨7, true, [29], [30], [5, 6]⟩, ⟨8, true, [30], [31], [0, 1, 2, 5, 6, 7]⟩, ⟨9, true, [27, 31], [32], [0, 1, 2, 3, 4, 5, 6, 7, 8]⟩, ⟨10, true, [32], [33], [0, 1, 2, 3, 4, 5, 6, 7, 8, 9]⟩, ⟨11, true, [7], [34], []⟩, ⟨12, true, [7, 34], [35], [11]⟩, ⟨13, true, [35], [36], [11, 12]⟩, ⟨14, true, [36], [37], [0, 1, 2, 5, 6, 7, 8, 11, 12, 13]⟩, ⟨15, true, [33, 37], [38], [0, 1, 2, 3, 4, 5, 6, 7, 8, 9, 10, 11, 12, 13, 14]⟩, ⟨16, true, [38], [39], [0, 1, 2, 3, 4, 5, 6, 7, 8, 9, 10, 11, 12, 13, 14, 15]⟩, ⟨17, false, [39], [5, 40], [0, 1, 2, 3, 4, 5, 6, 7, 8, 9, 10, 11, 12, 13, 14, 15, 16]⟩], []⟩)]⟩
noncomputable def fi58 : FnI := ⟨Tryz.f58, codeOf Tryz.f58, [], [], [], [], []⟩
noncomputable def fi66 : FnI := ⟨Tryz.f66, codeOf Tryz.f66, [], [], [], [], []⟩
noncomputable def fi67 : FnI := ⟨Tryz.f67, codeOf Tryz.f67, [], [], [], [(4, [0, 1, 5])], [(6, ⟨[0, 1, 5, 6], [⟨2, true, [17, 18], [19], []⟩, ⟨3, true, [19], [20], [2]⟩, ⟨4, true, [20], [21], [2, 3]⟩, ⟨7, true, [22, 23], [24], []⟩, ⟨8, true, [24], [25], [7]⟩, ⟨9, true, [25], [26], [7, 8]⟩, ⟨10, true, [21, 26], [27], [2, 3, 4, 7, 8, 9]⟩, ⟨11, true, [27], [28], [2, 3, 4, 7, 8, 9, 10]⟩, ⟨12, true, [0, 28], [29], [2, 3, 4, 7, 8, 9, 10, 11]⟩, ⟨13, true, [5, 28], [30], [2, 3, 4, 7, 8, 9, 10, 11]⟩, ⟨14, true, [28, 29, 30], [31], [2, 3, 4, 7, 8, 9, 10, 11, 12, 13]⟩, ⟨15, true, [28, 31], [32], [2, 3, 4, 7, 8, 9, 10, 11, 12, 13, 14]⟩, ⟨16, true, [28, 32], [33], [2, 3, 4, 7, 8, 9, 10, 11, 12, 13, 14, 15]⟩, ⟨17, true, [1, 28], [34], [2, 3, 4, 7, 8, 9, 10, 11]⟩, ⟨18, true, [5, 28], [35], [2, 3, 4, 7, 8, 9, 10, 11]⟩, ⟨19, true, [28, 34, 35], [36], [2, 3, 4, 7, 8, 9, 10, 11, 17, 18]⟩, ⟨20, true, [28, 36], [37], [2, 3, 4, 7, 8, 9, 10, 11, 17, 18, 19]⟩, ⟨21, true, [28, 37], [38], [2, 3, 4, 7, 8, 9, 10, 11, 17, 18, 19, 20]⟩, ⟨22, true, [28, 33, 38], [39], [2, 3, 4, 7, 8, 9, 10, 11, 12, 13, 14, 15, 16, 17, 18, 19, 20, 21]⟩, ⟨23, true, [28, 39], [40], [2, 3, 4, 7, 8, 9, 10, 11, 12, 13, 14, 15, 16, 17, 18, 19, 20, 21, 22]⟩, ⟨24, true, [28, 40], [41], [2, 3, 4, 7, 8, 9, 10, 11, 12, 13, 14, 15, 16, 17, 18, 19, 20, 21, 22, 23]⟩, ⟨25, true, [41], [42], [2, 3, 4, 7, 8, 9, 10, 11, 12, 13, 14, 15, 16, 17, 18, 19, 20, 21, 22, 23, 24]⟩, ⟨26, true, [0, 42], [43], [2, 3, 4, 7, 8, 9, 10, 11, 12, 13, 14, 15, 16, 17, 18, 19, 20, 21, 22, 23, 24, 25]⟩, ⟨27, true, [5, 42], [44], [2, 3, 4, 7, 8, 9, 10, 11, 12, 13, 14, 15, 16, 17, 18, 19, 20, 21, 22, 23, 24, 25]⟩, ⟨28, true, [42, 43, 44], [45], [2, 3, 4, 7, 8, 9, 10, 11, 12, 13, 14, 15, 16, 17, 18, 19, 20, 21, 22, 23, 24, 25, 26, 27]⟩, ⟨29, true, [42, 45], [46], [2, 3, 4, 7, 8, 9, 10, 11, 12, 13, 14, 15, 16, 17, 18, 19, 20, 21, 22, 23, 24, 25, 26, 27, 28]⟩, ⟨30, true, [42, 46], [47], [2, 3, 4, 7, 8, 9, 10, 11, 12, 13, 14, 15, 16, 17, 18, 19, 20, 21, 22, 23, 24, 25, 26, 27, 28, 29]⟩, ⟨31, true, [1, 42], [48], [2, 3, 4, 7, 8, 9, 10, 11, 12, 13, 14, 15, 16, 17, 18, 19, 20, 21, 22, 23, 24, 25]⟩, ⟨32, true, [5, 42], [49], [2, 3, 4, 7, 8, 9, 10, 11, 12, 13, 14, 15, 16, 17, 18, 19, 20, 21, 22, 23, 24, 25]⟩, ⟨33, true, [42, 48, 49], [50], [2, 3, 4, 7, 8, 9, 10, 11, 12, 13, 14, 15, 16, 17, 18, 19, 20, 21, 22, 23, 24, 25, 31, 32]⟩, ⟨34, true, [42, 50], [51], [2, 3, 4, 7, 8, 9, 10, 11, 12, 13, 14, 15, 16, 17, 18, 19, 20, 21, 22, 23, 24, 25, 31, 32, 33]⟩, ⟨35, true, [42, 51], [52], [2, 3, 4, 7, 8, 9, 10, 11, 12, 13, 14, 15, 16, 17, 18, 19, 20, 21, 22, 23, 24, 25, 31, 32, 33, 34]⟩, ⟨36, true, [42, 47, 52], [53], [2, 3, 4, 7, 8, 9, 10, 11, 12, 13, 14, 15, 16, 17, 18, 19, 20, 21, 22, 23, 24, 25, 26, 27, 28, 29, 30, 31, 32, 33, 34, 35]⟩], [37, 38]⟩)]⟩
noncomputable def fi68 : FnI := ⟨Tryz.f68, codeOf Tryz.f68, [], [], [], [(3, [2, 12, 13]), (6, [2, 3, 4, 12, 13, 17])], [(1, ⟨[], [⟨0, true, [1], [6], []⟩, ⟨1, true, [1], [7], []⟩, ⟨2, true, [1, 7], [8], [1]⟩, ⟨3, false, [8], [9], [1, 2]⟩, ⟨4, false, [6], [9, 10], [0, 1, 2, 3]⟩, ⟨5, false, [10], [1], [0, 1, 2, 3, 4]⟩], []⟩)]⟩
noncomputable def fi69 : FnI := ⟨Tryz.f69, codeOf Tryz.f69, [], [5], [], [(3, [2, 4, 5])], []⟩
noncomputable def fi70 : FnI := ⟨Tryz.f70, codeOf Tryz.f70, [2], [], [], [], []⟩
noncomputable def fi82 : FnI := ⟨Tryz.f82, codeOf Tryz.f82, [], [], [], [(4, [0, 1, 12, 13])], []⟩
noncomputable def fi85 : FnI := ⟨Tryz.f85, codeOf Tryz.f85, [], [], [], [(5, [3, 9, 10, 11]), (9, [5, 9, 10, 11])], []⟩
noncomputable def fi87 : FnI := ⟨Tryz.f87, codeOf Tryz.f87, [], [], [], [(2, [0, 1, 7, 8])], []⟩
noncomputable def fi88 : FnI := ⟨Tryz.f88, codeOf Tryz.f88, [], [], [], [(3, [0])], []⟩
noncomputable def fi91 : FnI := ⟨Tryz.f91, codeOf Tryz.f91, [], [], [], [(1, [0, 1]), (2, [0, 1]), (3, [0, 1]), (4, [0, 1])], []⟩
noncomputable def fi104 : FnI := ⟨Tryz.f104, codeOf Tryz.f104, [], [], [], [(4, [1, 2, 15, 16, 17])], []⟩
noncomputable def fi105 : FnI := ⟨Tryz.f105, codeOf Tryz.f105, [], [], [], [], []⟩
noncomputable def fi106 : FnI := ⟨Tryz.f106, codeOf Tryz.f106, [], [], [], [(4, [1, 2, 15, 16, 17])], []⟩
noncomputable def fi107 : FnI := ⟨Tryz.f107, codeOf Tryz.f107, [], [], [], [], []⟩
noncomputable def fi108 : FnI := ⟨Tryz.f108, codeOf Tryz.f108, [], [], [], [(4, [0, 1, 5])], []⟩
noncomputable def fi109 : FnI := ⟨Tryz.f109, codeOf Tryz.f109, [], [], [], [(4, [0, 4, 13])], []⟩
noncomputable def fi110 : FnI := ⟨Tryz.f110, codeOf Tryz.f110, [], [], [], [(3, [0, 3, 9, 10, 11]), (11, [6, 25, 26, 27])], []⟩
noncomputable def fi111 : FnI := ⟨Tryz.f111, codeOf Tryz.f111, [131, 132, 133, 134, 135, 136], [], [], [(3, [1, 2, 4, 5, 19]), (6, [1, 2, 4, 5, 6, 19, 28, 29, 30]), (12, [2, 4, 5, 9]), (18, [2, 4, 5, 12, 83]), (27, [2, 4, 12, 147])], [(15, ⟨[0, 1, 5, 10, 13, 17, 20], [⟨2, true, [58], [59], []⟩, ⟨3, true, [5, 59], [60], [2]⟩, ⟨4, true, [5, 60], [61], [2, 3]⟩, ⟨6, true, [62], [63], []⟩, ⟨7, true, [5, 63], [64], [6]⟩, ⟨8, true, [5, 64], [65], [6, 7]⟩, ⟨9, true, [61, 65], [66], [2, 3, 4, 6, 7, 8]⟩, ⟨11, false, [], [68], []⟩, ⟨12, true, [67, 68], [69], [11]⟩, ⟨14, true, [70], [71], []⟩, ⟨15, true, [69, 71], [72], [11, 12, 14]⟩, ⟨16, true, [66, 72], [73], [2, 3, 4, 6, 7, 8, 9, 11, 12, 14, 15]⟩, ⟨18, false, [], [75], []⟩, ⟨19, true, [74, 75], [76], [11, 12, 18]⟩, ⟨21, true, [77], [78], []⟩, ⟨22, true, [76, 78], [79], [11, 12, 18, 19, 21]⟩, ⟨23, true, [73, 79], [80], [2, 3, 4, 6, 7, 8, 9, 11, 12, 14, 15, 16, 18, 19, 21, 22]⟩, ⟨24, true, [5, 57], [81], [2, 3, 4, 6, 7, 8, 9, 11, 12, 14, 15, 16, 18, 19, 21, 22, 23]⟩, ⟨25, false, [80, 81], [5], [2, 3, 4, 6, 7, 8, 9, 11, 12, 14, 15, 16, 18, 19, 21, 22, 23, 24]⟩], []⟩), (21, ⟨[2, 6, 10, 17, 21], [⟨0, true, [12], [90], []⟩, ⟨1, true, [12, 90], [91], [0]⟩, ⟨3, false, [], [93], []⟩, ⟨4, true, [92, 93], [94], [3]⟩, ⟨5, true, [91, 94], [95], [0, 1, 3, 4]⟩, ⟨7, true, [12], [97], []⟩, ⟨8, true, [12, 97], [98], [7]⟩, ⟨9, true, [96, 98], [99], [7, 8]⟩, ⟨11, true, [100], [101], []⟩, ⟨12, true, [12], [102], []⟩, ⟨13, true, [12, 102], [103], [12]⟩, ⟨14, true, [101, 103], [104], [11, 12, 13]⟩, ⟨15, true, [99, 104], [105], [7, 8, 9, 11, 12, 13, 14]⟩, ⟨16, true, [95, 105], [106], [0, 1, 3, 4, 5, 7, 8, 9, 11, 12, 13, 14, 15]⟩, ⟨18, true, [107], [108], []⟩, ⟨19, true, [108], [109], [18]⟩, ⟨20, true, [106, 109], [110], [0, 1, 3, 4, 5, 7, 8, 9, 11, 12, 13, 14, 15, 16, 18, 19]⟩, ⟨22, true, [5, 111], [112], []⟩, ⟨23, true, [5, 112], [113], [22]⟩, ⟨24, true, [110, 113], [114], [0, 1, 3, 4, 5, 7, 8, 9, 11, 12, 13, 14, 15, 16, 18, 19, 20, 22, 23]⟩, ⟨25, true, [114], [16], [0, 1, 3, 4, 5, 7, 8, 9, 11, 12, 13, 14, 15, 16, 18, 19, 20, 22, 23, 24]⟩], []⟩), (22, ⟨[0, 3, 7], [⟨1, false, [], [116], []⟩, ⟨2, true, [115, 116], [117], [1]⟩, ⟨4, true, [12], [119], []⟩, ⟨5, true, [12, 119], [120], [4]⟩, ⟨6, true, [118, 120], [121], [4, 5]⟩, ⟨8, true, [12], [123], []⟩, ⟨9, true, [12, 123], [124], [8]⟩, ⟨10, true, [122, 124], [125], [8, 9]⟩, ⟨11, true, [121, 125], [126], [4, 5, 6, 8, 9, 10]⟩, ⟨12, true, [12], [127], []⟩, ⟨13, true, [12, 127], [128], [12]⟩, ⟨14, true, [12], [129], []⟩, ⟨15, true, [12, 129], [130], [14]⟩, ⟨16, true, [128, 130], [131], [12, 13, 14, 15]⟩, ⟨17, true, [126, 131], [132], [4, 5, 6, 8, 9, 10, 11, 12, 13, 14, 15, 16]⟩, ⟨18, true, [117, 132], [133], [1, 2, 4, 5, 6, 8, 9, 10, 11, 12, 13, 14, 15, 16, 17]⟩, ⟨19, true, [133], [17], [1, 2, 4, 5, 6, 8, 9, 10, 11, 12, 13, 14, 15, 16, 17, 18]⟩], []⟩)]⟩
noncomputable def fi117 : FnI := ⟨Tryz.f117, codeOf Tryz.f117, [], [], [], [], []⟩
noncomputable def fi126 : FnI := ⟨Tryz.f126, codeOf Tryz.f126, [], [], [], [], []⟩
noncomputable def fi127 : FnI := ⟨Tryz.f127, codeOf Tryz.f127, [], [], [], [], []⟩
noncomputable def fi128 : FnI := ⟨Tryz.f128, codeOf Tryz.f128, [], [], [], [], []⟩
noncomputable def fi146 : FnI := ⟨Tryz.f146, codeOf Tryz.f146, [], [], [], [(3, [0, 5, 8, 9, 10])], []⟩
noncomputable def fi152 : FnI := ⟨Tryz.f152, codeOf Tryz.f152, [], [8], [], [(7, [0, 1, 2, 3]), (11, [0, 1, 2, 3, 9, 10]), (17, [0, 9, 10])], []⟩
noncomputable def fi158 : FnI := ⟨Tryz.f158, codeOf Tryz.f158, [], [], [], [], []⟩
noncomputable def fi159 : FnI := ⟨Tryz.f159, codeOf Tryz.f159, [], [], [], [(2, [0, 1, 7, 8])], []⟩
noncomputable def fi179 : FnI := ⟨Tryz.f179, codeOf Tryz.f179, [], [], [], [], []⟩
noncomputable def fi187 : FnI := ⟨Tryz.f187, codeOf Tryz.f187, [], [], [], [(6, [0, 1, 5])], []⟩
noncomputable def fi188 : FnI := ⟨Tryz.f188, codeOf Tryz.f188, [], [], [], [], []⟩
noncomputable def fi190 : FnI := ⟨Tryz.f190, codeOf Tryz.f190, [], [], [], [], []⟩
noncomputable def fi192 : FnI := ⟨Tryz.f192, codeOf Tryz.f192, [], [], [], [], []⟩
noncomputable def fi210 : FnI := ⟨Tryz.f210, codeOf Tryz.f210, [], [], [], [(10, [0, 1, 5]), (15, [0, 1, 5, 6, 7, 8, 9, 10]), (21, [0, 1, 5, 6, 7, 8, 9, 10]), (23, [0, 1, 5, 6, 7, 8, 9, 10])], []⟩
noncomputable def fi211 : FnI := ⟨Tryz.f211, codeOf Tryz.f211, [], [], [], [], []⟩
noncomputable def tys : Tr TI := (.node (.node (.node (.node (.node .leaf 3 ti3 .leaf) 4 ti4 (.node .leaf 5 ti5 .leaf)) 9 ti9 (.node (.node .leaf 25 ti25 .leaf) 26 ti26 (.node .leaf 34 ti34 .leaf))) 37 ti37 (.node (.node (.node .leaf 39 ti39 .leaf) 45 ti45 (.node .leaf 55 ti55 .leaf)) 59 ti59 (.node (.node .leaf 82 ti82 .leaf) 87 ti87 (.node .leaf 89 ti89 .leaf)))) 104 ti104 (.node (.node (.node (.node .leaf 105 ti105 .leaf) 107 ti107 (.node .leaf 110 ti110 .leaf)) 132 ti132 (.node (.node .leaf 134 ti134 .leaf) 136 ti136 (.node .leaf 146 ti146 .leaf))) 147 ti147 (.node (.node (.node .leaf 165 ti165 .leaf) 171 ti171 (.node .leaf 174 ti174 .leaf)) 180 ti180 (.node (.node .leaf 181 ti181 .leaf) 182 ti182 (.node .leaf 184 ti184 .leaf)))))
noncomputable def fns : Tr FnI := (.node (.node (.node (.node (.node (.node .leaf 5 fi5 .leaf) 15 fi15 (.node .leaf 21 fi21 .leaf)) 23 fi23 (.node (.node .leaf 25 fi25 .leaf) 27 fi27 .leaf)) 28 fi28 (.node (.node (.node .leaf 29 fi29 .leaf) 30 fi30 .leaf) 31 fi31 (.node (.node .leaf 32 fi32 .leaf) 46 fi46 .leaf))) 47 fi47 (.node (.node (.node (.node .leaf 48 fi48 .leaf) 49 fi49 (.node .leaf 54 fi54 .leaf)) 56 fi56 (.node (.node .leaf 58 fi58 .leaf) 66 fi66 .leaf)) 67 fi67 (.node (.node (.node .leaf 68 fi68 .leaf) 69 fi69 .leaf) 70 fi70 (.node (.node .leaf 82 fi82 .leaf) 85 fi85 .leaf)))) 87 fi87 (.node (.node (.node (.node (.node .leaf 88 fi88 .leaf) 91 fi91 (.node .leaf 104 fi104 .leaf)) 105 fi105 (.node (.node .leaf 106 fi106 .leaf) 107 fi107 .leaf)) 108 fi108 (.node (.node (.node .leaf 109 fi109 .leaf) 110 fi110 .leaf) 111 fi111 (.node (.node .leaf 117 fi117 .leaf) 126 fi126 .leaf))) 127 fi127 (.node (.node (.node (.node .leaf 128 fi128 .leaf) 146 fi146 (.node .leaf 152 fi152 .leaf)) 158 fi158 (.node (.node .leaf 159 fi159 .leaf) 179 fi179 .leaf)) 187 fi187 (.node (.node (.node .leaf 188 fi188 .leaf) 190 fi190 .leaf) 192 fi192 (.node (.node .leaf 210 fi210 .leaf) 211 fi211 .leaf)))))
noncomputable def globT : Tr (List V) := (.node (.node .leaf 0 (arrV 8 .u32 (litA glob0)) .leaf) 2 (arrV 64 .u32 (litA glob2)) .leaf)
noncomputable def takesT : Tr (List Nat) := (.node (.node (.node .leaf 44 [0] .leaf) 74 [0] .leaf) 83 [0] (.node (.node .leaf 92 [0] .leaf) 115 [0, 2] .leaf))
noncomputable def turnsT : Tr (List Nat) := (.node (.node .leaf 92 [0] .leaf) 161 [0] .leaf)
noncomputable def flatsT : Tr Unit := (.node (.node (.node (.node (.node (.node (.node (.node .leaf 0 () .leaf) 1 () .leaf) 2 () (.node (.node .leaf 3 () .leaf) 4 () .leaf)) 5 () (.node (.node (.node .leaf 6 () .leaf) 7 () .leaf) 8 () (.node (.node .leaf 9 () .leaf) 10 () .leaf))) 11 () (.node (.node (.node (.node .leaf 15 () .leaf) 16 () .leaf) 17 () (.node (.node .leaf 19 () .leaf) 23 () .leaf)) 24 () (.node (.node (.node .leaf 25 () .leaf) 26 () .leaf) 27 () (.node (.node .leaf 28 () .leaf) 31 () .leaf)))) 32 () (.node (.node (.node (.node (.node .leaf 33 () .leaf) 35 () .leaf) 38 () (.node (.node .leaf 39 () .leaf) 40 () .leaf)) 41 () (.node (.node (.node .leaf 46 () .leaf) 47 () .leaf) 48 () (.node (.node .leaf 49 () .leaf) 50 () .leaf))) 51 () (.node (.node (.node (.node .leaf 58 () .leaf) 59 () .leaf) 63 () (.node (.node .leaf 64 () .leaf) 65 () .leaf)) 66 () (.node (.node (.node .leaf 67 () .leaf) 68 () .leaf) 71 () (.node .leaf 72 () .leaf))))) 73 () (.node (.node (.node (.node (.node (.node .leaf 75 () .leaf) 76 () .leaf) 80 () (.node (.node .leaf 82 () .leaf) 85 () .leaf)) 87 () (.node (.node (.node .leaf 88 () .leaf) 89 () .leaf) 90 () (.node (.node .leaf 93 () .leaf) 94 () .leaf))) 101 () (.node (.node (.node (.node .leaf 102 () .leaf) 103 () .leaf) 104 () (.node (.node .leaf 105 () .leaf) 106 () .leaf)) 107 () (.node (.node (.node .leaf 108 () .leaf) 111 () .leaf) 114 () (.node .leaf 116 () .leaf)))) 119 () (.node (.node (.node (.node (.node .leaf 120 () .leaf) 121 () .leaf) 122 () (.node (.node .leaf 123 () .leaf) 124 () .leaf)) 126 () (.node (.node (.node .leaf 127 () .leaf) 128 () .leaf) 129 () (.node (.node .leaf 130 () .leaf) 131 () .leaf))) 132 () (.node (.node (.node (.node .leaf 133 () .leaf) 134 () .leaf) 135 () (.node (.node .leaf 140 () .leaf) 141 () .leaf)) 142 () (.node (.node (.node .leaf 143 () .leaf) 146 () .leaf) 147 () (.node .leaf 148 () .leaf)))))) 149 () (.node (.node (.node (.node (.node (.node (.node .leaf 150 () .leaf) 151 () .leaf) 153 () (.node (.node .leaf 155 () .leaf) 156 () .leaf)) 158 () (.node (.node (.node .leaf 159 () .leaf) 160 () .leaf) 162 () (.node (.node .leaf 163 () .leaf) 164 () .leaf))) 165 () (.node (.node (.node (.node .leaf 166 () .leaf) 167 () .leaf) 168 () (.node (.node .leaf 169 () .leaf) 170 () .leaf)) 171 () (.node (.node (.node .leaf 172 () .leaf) 173 () .leaf) 174 () (.node .leaf 175 () .leaf)))) 176 () (.node (.node (.node (.node (.node .leaf 178 () .leaf) 179 () .leaf) 180 () (.node (.node .leaf 181 () .leaf) 182 () .leaf)) 183 () (.node (.node (.node .leaf 184 () .leaf) 185 () .leaf) 187 () (.node (.node .leaf 188 () .leaf) 189 () .leaf))) 190 () (.node (.node (.node (.node .leaf 192 () .leaf) 193 () .leaf) 194 () (.node (.node .leaf 195 () .leaf) 196 () .leaf)) 197 () (.node (.node (.node .leaf 198 () .leaf) 199 () .leaf) 200 () (.node .leaf 201 () .leaf))))) 202 () (.node (.node (.node (.node (.node (.node .leaf 203 () .leaf) 205 () .leaf) 206 () (.node (.node .leaf 207 () .leaf) 208 () .leaf)) 209 () (.node (.node (.node .leaf 210 () .leaf) 211 () .leaf) 213 () (.node (.node .leaf 214 () .leaf) 215 () .leaf))) 216 () (.node (.node (.node (.node .leaf 217 () .leaf) 218 () .leaf) 219 () (.node (.node .leaf 220 () .leaf) 221 () .leaf)) 222 () (.node (.node (.node .leaf 223 () .leaf) 224 () .leaf) 225 () (.node .leaf 226 () .leaf)))) 227 () (.node (.node (.node (.node (.node .leaf 228 () .leaf) 229 () .leaf) 230 () (.node (.node .leaf 231 () .leaf) 232 () .leaf)) 233 () (.node (.node (.node .leaf 234 () .leaf) 235 () .leaf) 236 () (.node (.node .leaf 239 () .leaf) 240 () .leaf))) 242 () (.node (.node (.node (.node .leaf 243 () .leaf) 244 () .leaf) 245 () (.node (.node .leaf 246 () .leaf) 247 () .leaf)) 248 () (.node (.node (.node .leaf 249 () .leaf) 250 () .leaf) 251 () (.node .leaf 252 () .leaf)))))))
noncomputable def eqsT : Tr Unit := (.node .leaf 45 () .leaf)
noncomputable def u8sT : Tr Unit := (.node .leaf 34 () .leaf)
noncomputable def libsT : Tr (Nat × Nat) := (.node (.node .leaf 89 (1, 5) .leaf) 136 (0, 5) .leaf)
noncomputable def tab : Tab := ⟨tys, globT, fns, takesT, turnsT, flatsT, eqsT, u8sT, libsT⟩
theorem ty3 : TyOK Tryz.prog 3 ti3 := tyB_ok (by kernel_rfl)
theorem ty4 : TyOK Tryz.prog 4 ti4 := tyB_ok (by kernel_rfl)
theorem ty5 : TyOK Tryz.prog 5 ti5 := tyB_ok (by kernel_rfl)
theorem ty9 : TyOK Tryz.prog 9 ti9 := tyB_ok (by kernel_rfl)
theorem ty25 : TyOK Tryz.prog 25 ti25 := tyB_ok (by kernel_rfl)
theorem ty26 : TyOK Tryz.prog 26 ti26 := tyB_ok (by kernel_rfl)
theorem ty34 : TyOK Tryz.prog 34 ti34 := tyB_ok (by kernel_rfl)
theorem ty37 : TyOK Tryz.prog 37 ti37 := tyB_ok (by kernel_rfl)
theorem ty39 : TyOK Tryz.prog 39 ti39 := tyB_ok (by kernel_rfl)
theorem ty45 : TyOK Tryz.prog 45 ti45 := tyB_ok (by kernel_rfl)
theorem ty55 : TyOK Tryz.prog 55 ti55 := tyB_ok (by kernel_rfl)
theorem ty59 : TyOK Tryz.prog 59 ti59 := tyB_ok (by kernel_rfl)
theorem ty82 : TyOK Tryz.prog 82 ti82 := tyB_ok (by kernel_rfl)
theorem ty87 : TyOK Tryz.prog 87 ti87 := tyB_ok (by kernel_rfl)
theorem ty89 : TyOK Tryz.prog 89 ti89 := tyB_ok (by kernel_rfl)
theorem ty104 : TyOK Tryz.prog 104 ti104 := tyB_ok (by kernel_rfl)
theorem ty105 : TyOK Tryz.prog 105 ti105 := tyB_ok (by kernel_rfl)
theorem ty107 : TyOK Tryz.prog 107 ti107 := tyB_ok (by kernel_rfl)
theorem ty110 : TyOK Tryz.prog 110 ti110 := tyB_ok (by kernel_rfl)
theorem ty132 : TyOK Tryz.prog 132 ti132 := tyB_ok (by kernel_rfl)
theorem ty134 : TyOK Tryz.prog 134 ti134 := tyB_ok (by kernel_rfl)
theorem ty136 : TyOK Tryz.prog 136 ti136 := tyB_ok (by kernel_rfl)
theorem ty146 : TyOK Tryz.prog 146 ti146 := tyB_ok (by kernel_rfl)
theorem ty147 : TyOK Tryz.prog 147 ti147 := tyB_ok (by kernel_rfl)
theorem ty165 : TyOK Tryz.prog 165 ti165 := tyB_ok (by kernel_rfl)
theorem ty171 : TyOK Tryz.prog 171 ti171 := tyB_ok (by kernel_rfl)
theorem ty174 : TyOK Tryz.prog 174 ti174 := tyB_ok (by kernel_rfl)
theorem ty180 : TyOK Tryz.prog 180 ti180 := tyB_ok (by kernel_rfl)
theorem ty181 : TyOK Tryz.prog 181 ti181 := tyB_ok (by kernel_rfl)
theorem ty182 : TyOK Tryz.prog 182 ti182 := tyB_ok (by kernel_rfl)
theorem ty184 : TyOK Tryz.prog 184 ti184 := tyB_ok (by kernel_rfl)
theorem fn5 : FnOK Tryz.prog 5 fi5 := ⟨Tryz.func5, by kernel_rfl, by kernel_rfl, by kernel_rfl⟩
theorem fn15 : FnOK Tryz.prog 15 fi15 := ⟨Tryz.func15, by kernel_rfl, by kernel_rfl, by kernel_rfl⟩
theorem fn21 : FnOK Tryz.prog 21 fi21 := ⟨Tryz.func21, by kernel_rfl, by kernel_rfl, by kernel_rfl⟩
theorem fn23 : FnOK Tryz.prog 23 fi23 := ⟨Tryz.func23, by kernel_rfl, by kernel_rfl, by kernel_rfl⟩
theorem fn25 : FnOK Tryz.prog 25 fi25 := ⟨Tryz.func25, by kernel_rfl, by kernel_rfl, by kernel_rfl⟩
theorem fn27 : FnOK Tryz.prog 27 fi27 := ⟨Tryz.func27, by kernel_rfl, by kernel_rfl, by kernel_rfl⟩
theorem fn28 : FnOK Tryz.prog 28 fi28 := ⟨Tryz.func28, by kernel_rfl, by kernel_rfl, by kernel_rfl⟩
theorem fn29 : FnOK Tryz.prog 29 fi29 := ⟨Tryz.func29, by kernel_rfl, by kernel_rfl, by kernel_rfl⟩
theorem fn30 : FnOK Tryz.prog 30 fi30 := ⟨Tryz.func30, by kernel_rfl, by kernel_rfl, by kernel_rfl⟩
theorem fn31 : FnOK Tryz.prog 31 fi31 := ⟨Tryz.func31, by kernel_rfl, by kernel_rfl, by kernel_rfl⟩
theorem fn32 : FnOK Tryz.prog 32 fi32 := ⟨Tryz.func32, by kernel_rfl, by kernel_rfl, by kernel_rfl⟩
theorem fn46 : FnOK Tryz.prog 46 fi46 := ⟨Tryz.func46, by kernel_rfl, by kernel_rfl, by kernel_rfl⟩
theorem fn47 : FnOK Tryz.prog 47 fi47 := ⟨Tryz.func47, by kernel_rfl, by kernel_rfl, by kernel_rfl⟩
theorem fn48 : FnOK Tryz.prog 48 fi48 := ⟨Tryz.func48, by kernel_rfl, by kernel_rfl, by kernel_rfl⟩
theorem fn49 : FnOK Tryz.prog 49 fi49 := ⟨Tryz.func49, by kernel_rfl, by kernel_rfl, by kernel_rfl⟩
theorem fn54 : FnOK Tryz.prog 54 fi54 := ⟨Tryz.func54, by kernel_rfl, by kernel_rfl, by kernel_rfl⟩
theorem fn56 : FnOK Tryz.prog 56 fi56 := ⟨Tryz.func56, by kernel_rfl, by kernel_rfl, by kernel_rfl⟩
theorem fn58 : FnOK Tryz.prog 58 fi58 := ⟨Tryz.func58, by kernel_rfl, by kernel_rfl, by kernel_rfl⟩
theorem fn66 : FnOK Tryz.prog 66 fi66 := ⟨Tryz.func66, by kernel_rfl, by kernel_rfl, by kernel_rfl⟩
theorem fn67 : FnOK Tryz.prog 67 fi67 := ⟨Tryz.func67, by kernel_rfl, by kernel_rfl, by kernel_rfl⟩
theorem fn68 : FnOK Tryz.prog 68 fi68 := ⟨Tryz.func68, by kernel_rfl, by kernel_rfl, by kernel_rfl⟩
theorem fn69 : FnOK Tryz.prog 69 fi69 := ⟨Tryz.func69, by kernel_rfl, by kernel_rfl, by kernel_rfl⟩
theorem fn70 : FnOK Tryz.prog 70 fi70 := ⟨Tryz.func70, by kernel_rfl, by kernel_rfl, by kernel_rfl⟩
theorem fn82 : FnOK Tryz.prog 82 fi82 := ⟨Tryz.func82, by kernel_rfl, by kernel_rfl, by kernel_rfl⟩
theorem fn85 : FnOK Tryz.prog 85 fi85 := ⟨Tryz.func85, by kernel_rfl, by kernel_rfl, by kernel_rfl⟩
theorem fn87 : FnOK Tryz.prog 87 fi87 := ⟨Tryz.func87, by kernel_rfl, by kernel_rfl, by kernel_rfl⟩
theorem fn88 : FnOK Tryz.prog 88 fi88 := ⟨Tryz.func88, by kernel_rfl, by kernel_rfl, by kernel_rfl⟩
theorem fn91 : FnOK Tryz.prog 91 fi91 := ⟨Tryz.func91, by kernel_rfl, by kernel_rfl, by kernel_rfl⟩
theorem fn104 : FnOK Tryz.prog 104 fi104 := ⟨Tryz.func104, by kernel_rfl, by kernel_rfl, by kernel_rfl⟩
theorem fn105 : FnOK Tryz.prog 105 fi105 := ⟨Tryz.func105, by kernel_rfl, by kernel_rfl, by kernel_rfl⟩
theorem fn106 : FnOK Tryz.prog 106 fi106 := ⟨Tryz.func106, by kernel_rfl, by kernel_rfl, by kernel_rfl⟩
theorem fn107 : FnOK Tryz.prog 107 fi107 := ⟨Tryz.func107, by kernel_rfl, by kernel_rfl, by kernel_rfl⟩
theorem fn108 : FnOK Tryz.prog 108 fi108 := ⟨Tryz.func108, by kernel_rfl, by kernel_rfl, by kernel_rfl⟩
theorem fn109 : FnOK Tryz.prog 109 fi109 := ⟨Tryz.func109, by kernel_rfl, by kernel_rfl, by kernel_rfl⟩
theorem fn110 : FnOK Tryz.prog 110 fi110 := ⟨Tryz.func110, by kernel_rfl, by kernel_rfl, by kernel_rfl⟩
theorem fn111 : FnOK Tryz.prog 111 fi111 := ⟨Tryz.func111, by kernel_rfl, by kernel_rfl, by kernel_rfl⟩
theorem fn117 : FnOK Tryz.prog 117 fi117 := ⟨Tryz.func117, by kernel_rfl, by kernel_rfl, by kernel_rfl⟩
theorem fn126 : FnOK Tryz.prog 126 fi126 := ⟨Tryz.func126, by kernel_rfl, by kernel_rfl, by kernel_rfl⟩
theorem fn127 : FnOK Tryz.prog 127 fi127 := ⟨Tryz.func127, by kernel_rfl, by kernel_rfl, by kernel_rfl⟩
theorem fn128 : FnOK Tryz.prog 128 fi128 := ⟨Tryz.func128, by kernel_rfl, by kernel_rfl, by kernel_rfl⟩
theorem fn146 : FnOK Tryz.prog 146 fi146 := ⟨Tryz.func146, by kernel_rfl, by kernel_rfl, by kernel_rfl⟩
theorem fn152 : FnOK Tryz.prog 152 fi152 := ⟨Tryz.func152, by kernel_rfl, by kernel_rfl, by kernel_rfl⟩
theorem fn158 : FnOK Tryz.prog 158 fi158 := ⟨Tryz.func158, by kernel_rfl, by kernel_rfl, by kernel_rfl⟩
theorem fn159 : FnOK Tryz.prog 159 fi159 := ⟨Tryz.func159, by kernel_rfl, by kernel_rfl, by kernel_rfl⟩
theorem fn179 : FnOK Tryz.prog 179 fi179 := ⟨Tryz.func179, by kernel_rfl, by kernel_rfl, by kernel_rfl⟩
theorem fn187 : FnOK Tryz.prog 187 fi187 := ⟨Tryz.func187, by kernel_rfl, by kernel_rfl, by kernel_rfl⟩
theorem fn188 : FnOK Tryz.prog 188 fi188 := ⟨Tryz.func188, by kernel_rfl, by kernel_rfl, by kernel_rfl⟩
theorem fn190 : FnOK Tryz.prog 190 fi190 := ⟨Tryz.func190, by kernel_rfl, by kernel_rfl, by kernel_rfl⟩
theorem fn192 : FnOK Tryz.prog 192 fi192 := ⟨Tryz.func192, by kernel_rfl, by kernel_rfl, by kernel_rfl⟩
theorem fn210 : FnOK Tryz.prog 210 fi210 := ⟨Tryz.func210, by kernel_rfl, by kernel_rfl, by kernel_rfl⟩
theorem fn211 : FnOK Tryz.prog 211 fi211 := ⟨Tryz.func211, by kernel_rfl, by kernel_rfl, by kernel_rfl⟩
theorem tys_ok : tys.All (TyOK Tryz.prog) := ⟨⟨⟨⟨⟨trivial, ty3, trivial⟩, ty4, ⟨trivial, ty5, trivial⟩⟩, ty9, ⟨⟨trivial, ty25, trivial⟩, ty26, ⟨trivial, ty34, trivial⟩⟩⟩, ty37, ⟨⟨⟨trivial, ty39, trivial⟩, ty45, ⟨trivial, ty55, trivial⟩⟩, ty59, ⟨⟨trivial, ty82, trivial⟩, ty87, ⟨trivial, ty89, trivial⟩⟩⟩⟩, ty104, ⟨⟨⟨⟨trivial, ty105, trivial⟩, ty107, ⟨trivial, ty110, trivial⟩⟩, ty132, ⟨⟨trivial, ty134, trivial⟩, ty136, ⟨trivial, ty146, trivial⟩⟩⟩, ty147, ⟨⟨⟨trivial, ty165, trivial⟩, ty171, ⟨trivial, ty174, trivial⟩⟩, ty180, ⟨⟨trivial, ty181, trivial⟩, ty182, ⟨trivial, ty184, trivial⟩⟩⟩⟩⟩
theorem fns_ok : fns.All (FnOK Tryz.prog) := ⟨⟨⟨⟨⟨⟨trivial, fn5, trivial⟩, fn15, ⟨trivial, fn21, trivial⟩⟩, fn23, ⟨⟨trivial, fn25, trivial⟩, fn27, trivial⟩⟩, fn28, ⟨⟨⟨trivial, fn29, trivial⟩, fn30, trivial⟩, fn31, ⟨⟨trivial, fn32, trivial⟩, fn46, trivial⟩⟩⟩, fn47, ⟨⟨⟨⟨trivial, fn48, trivial⟩, fn49, ⟨trivial, fn54, trivial⟩⟩, fn56, ⟨⟨trivial, fn58, trivial⟩, fn66, trivial⟩⟩, fn67, ⟨⟨⟨trivial, fn68, trivial⟩, fn69, trivial⟩, fn70, ⟨⟨trivial, fn82, trivial⟩, fn85, trivial⟩⟩⟩⟩, fn87, ⟨⟨⟨⟨⟨trivial, fn88, trivial⟩, fn91, ⟨trivial, fn104, trivial⟩⟩, fn105, ⟨⟨trivial, fn106, trivial⟩, fn107, trivial⟩⟩, fn108, ⟨⟨⟨trivial, fn109, trivial⟩, fn110, trivial⟩, fn111, ⟨⟨trivial, fn117, trivial⟩, fn126, trivial⟩⟩⟩, fn127, ⟨⟨⟨⟨trivial, fn128, trivial⟩, fn146, ⟨trivial, fn152, trivial⟩⟩, fn158, ⟨⟨trivial, fn159, trivial⟩, fn179, trivial⟩⟩, fn187, ⟨⟨⟨trivial, fn188, trivial⟩, fn190, trivial⟩, fn192, ⟨⟨trivial, fn210, trivial⟩, fn211, trivial⟩⟩⟩⟩⟩
theorem uq34 : u8B Tryz.prog 34 = true := by kernel_rfl
theorem u8s_ok : u8sT.All fun t _ => ∃ e ie, Tryz.prog.underlying t = some (.slice e) ∧ Tryz.prog.underlying e = some (.int .u8) ∧ Tryz.prog.info? e = some ie ∧ ie.size = 1 := ⟨trivial, u8B_ok uq34, trivial⟩
theorem eq45 : ∀ i, tys.get 45 = some i → EqOK Tryz.prog 45 i := fun i hi => by
 obtain rfl : ti45 = i := Option.some.inj ((show tys.get 45 = some ti45 from rfl).symm.trans hi)
 obtain ⟨ie, hie⟩ : ∃ ie, Tryz.prog.info? 5 = some ie := Option.isSome_iff_exists.1 (by kernel_rfl)
 exact eqOK_arr Tryz.underlying45 Tryz.underlying5 (by kernel_rfl) hie rfl (by kernel_rfl)
theorem eqs_ok : eqsT.All fun t _ => ∀ i, tys.get t = some i → EqOK Tryz.prog t i := ⟨trivial, eq45, trivial⟩
theorem lib89 : ∃ ti z, Tryz.prog.info? 89 = some ti ∧ ti.zero = some z ∧ libZero 1 z := by
 obtain ⟨ti, h1, h2⟩ := Option.map_eq_some_iff.1 (show (Tryz.prog.info? 89).map (·.zero) = some (some (.agg #[.slice none 0 0, .int .i64 0, .int .i8 0])) by kernel_rfl)
 exact ⟨ti, _, h1, h2, .inr ⟨rfl, rfl⟩⟩
theorem lib136 : ∃ ti z, Tryz.prog.info? 136 = some ti ∧ ti.zero = some z ∧ libZero 0 z := by
 obtain ⟨ti, h1, h2⟩ := Option.map_eq_some_iff.1 (show (Tryz.prog.info? 136).map (·.zero) = some (some (.agg #[.pointer none, .slice none 0 0])) by kernel_rfl)
 exact ⟨ti, _, h1, h2, .inl ⟨rfl, rfl⟩⟩
theorem libs_ok : libsT.All fun t x => ∃ ti z, Tryz.prog.info? t = some ti ∧ ti.zero = some z ∧ libZero x.1 z := ⟨⟨trivial, lib89, trivial⟩, lib136, trivial⟩
theorem tab_ok : TabOK Tryz.prog tab := ⟨tys_ok, eqs_ok, u8s_ok, libs_ok, fns_ok⟩
#print axioms tab_ok
end Go.Proofs.YtloekbdlmikkcaaGreatDoor.G
