/- A part of the proof: no condition of its own. -/
import Derived.Test.YtkngkpofninhkaaPart1
import Derived.IntWalk
import Derived.Test.YtkngkpofninhkaaProg
namespace Go.Proofs
open Go Aw
@[go_sem] theorem ti1 : tinfo Try.prog 1 = some ⟨.func, 1, 8, some [.raw .nilFunc]⟩ := by kernel_rfl
@[go_sem] theorem ti2 : tinfo Try.prog 2 = some ⟨.int .i64, 1, 8, some [.int .i64 0]⟩ := by kernel_rfl
@[go_sem] theorem ti3 : tinfo Try.prog 3 = some ⟨.int .i64, 1, 8, some [.int .i64 0]⟩ := by kernel_rfl
@[go_sem] theorem ti4 : tinfo Try.prog 4 = some ⟨.bool, 1, 1, some [.bool false]⟩ := by kernel_rfl
@[go_sem] theorem ti5 : tinfo Try.prog 5 = some ⟨.int .u8, 1, 1, some [.int .u8 0]⟩ := by kernel_rfl
@[go_sem] theorem ti9 : tinfo Try.prog 9 = some ⟨.str, 1, 16, some [.str []]⟩ := by kernel_rfl
@[go_sem] theorem ti12 : tinfo Try.prog 12 = some ⟨.int .u64, 1, 8, some [.int .u64 0]⟩ := by kernel_rfl
@[go_sem] theorem ti13 : tinfo Try.prog 13 = some ⟨.struct [(0, 9), (1, 12)], 2, 24, some [.str [], .int .u64 0]⟩ := by kernel_rfl
@[go_sem high] theorem bl13 : blist Try.prog 13 = some [(0, 1), (1, 1)] := by kernel_rfl
@[go_sem] theorem ti20 : tinfo Try.prog 20 = some ⟨.iface, 1, 16, some [.raw .nilIface]⟩ := by kernel_rfl
@[go_sem] theorem ti21 : tinfo Try.prog 21 = some ⟨.int .i32, 1, 4, some [.int .i32 0]⟩ := by kernel_rfl
@[go_sem] theorem ti22 : tinfo Try.prog 22 = some ⟨.slice 36, 1, 24, some [.raw (.slice none 0 0)]⟩ := by kernel_rfl
@[go_sem] theorem ti23 : tinfo Try.prog 23 = some ⟨.slice 9, 1, 24, some [.raw (.slice none 0 0)]⟩ := by kernel_rfl
@[go_sem] theorem ti24 : tinfo Try.prog 24 = some ⟨.slice 26, 1, 24, some [.raw (.slice none 0 0)]⟩ := by kernel_rfl
@[go_sem] theorem ti25 : tinfo Try.prog 25 = some ⟨.struct [(0, 3), (1, 2), (2, 3), (3, 9), (4, 23), (5, 24)], 6, 88, some [.int .i64 0, .int .i64 0, .int .i64 0, .str [], .raw (.slice none 0 0), .raw (.slice none 0 0)]⟩ := by kernel_rfl
@[go_sem high] theorem bl25 : blist Try.prog 25 = some [(0, 1), (1, 1), (2, 1), (3, 1), (4, 1), (5, 1)] := by kernel_rfl
@[go_sem] theorem ti26 : tinfo Try.prog 26 = some ⟨.struct [(0, 3), (1, 2), (2, 3), (3, 9), (4, 23), (5, 24)], 6, 88, some [.int .i64 0, .int .i64 0, .int .i64 0, .str [], .raw (.slice none 0 0), .raw (.slice none 0 0)]⟩ := by kernel_rfl
@[go_sem high] theorem bl26 : blist Try.prog 26 = some [(0, 1), (1, 1), (2, 1), (3, 1), (4, 1), (5, 1)] := by kernel_rfl
@[go_sem] theorem ti27 : tinfo Try.prog 27 = some ⟨.struct [(0, 22), (1, 26)], 7, 112, some [.raw (.slice none 0 0), .int .i64 0, .int .i64 0, .int .i64 0, .str [], .raw (.slice none 0 0), .raw (.slice none 0 0)]⟩ := by kernel_rfl
@[go_sem high] theorem bl27 : blist Try.prog 27 = some [(0, 1), (1, 6)] := by kernel_rfl
@[go_sem] theorem ti28 : tinfo Try.prog 28 = some ⟨.struct [(0, 22), (1, 26)], 7, 112, some [.raw (.slice none 0 0), .int .i64 0, .int .i64 0, .int .i64 0, .str [], .raw (.slice none 0 0), .raw (.slice none 0 0)]⟩ := by kernel_rfl
@[go_sem high] theorem bl28 : blist Try.prog 28 = some [(0, 1), (1, 6)] := by kernel_rfl
@[go_sem] theorem ti29 : tinfo Try.prog 29 = some ⟨.func, 1, 8, some [.raw .nilFunc]⟩ := by kernel_rfl
@[go_sem] theorem ti30 : tinfo Try.prog 30 = some ⟨.func, 1, 8, some [.raw .nilFunc]⟩ := by kernel_rfl
@[go_sem] theorem ti31 : tinfo Try.prog 31 = some ⟨.int .i64, 1, 8, some [.int .i64 0]⟩ := by kernel_rfl
@[go_sem] theorem ti32 : tinfo Try.prog 32 = some ⟨.func, 1, 8, some [.raw .nilFunc]⟩ := by kernel_rfl
@[go_sem] theorem ti33 : tinfo Try.prog 33 = some ⟨.slice 3, 1, 24, some [.raw (.slice none 0 0)]⟩ := by kernel_rfl
@[go_sem] theorem ti34 : tinfo Try.prog 34 = some ⟨.func, 1, 8, some [.raw .nilFunc]⟩ := by kernel_rfl
@[go_sem] theorem ti35 : tinfo Try.prog 35 = some ⟨.struct [(0, 3), (1, 3), (2, 26)], 8, 104, some [.int .i64 0, .int .i64 0, .int .i64 0, .int .i64 0, .int .i64 0, .str [], .raw (.slice none 0 0), .raw (.slice none 0 0)]⟩ := by kernel_rfl
@[go_sem high] theorem bl35 : blist Try.prog 35 = some [(0, 1), (1, 1), (2, 6)] := by kernel_rfl
@[go_sem] theorem ti36 : tinfo Try.prog 36 = some ⟨.struct [(0, 3), (1, 3), (2, 26)], 8, 104, some [.int .i64 0, .int .i64 0, .int .i64 0, .int .i64 0, .int .i64 0, .str [], .raw (.slice none 0 0), .raw (.slice none 0 0)]⟩ := by kernel_rfl
@[go_sem high] theorem bl36 : blist Try.prog 36 = some [(0, 1), (1, 1), (2, 6)] := by kernel_rfl
@[go_sem] theorem ti37 : tinfo Try.prog 37 = some ⟨.func, 1, 8, some [.raw .nilFunc]⟩ := by kernel_rfl
@[go_sem] theorem ti38 : tinfo Try.prog 38 = some ⟨.func, 1, 8, some [.raw .nilFunc]⟩ := by kernel_rfl
@[go_sem] theorem ti39 : tinfo Try.prog 39 = some ⟨.func, 1, 8, some [.raw .nilFunc]⟩ := by kernel_rfl
@[go_sem] theorem ti40 : tinfo Try.prog 40 = some ⟨.func, 1, 8, some [.raw .nilFunc]⟩ := by kernel_rfl
@[go_sem] theorem ti42 : tinfo Try.prog 42 = some ⟨.func, 1, 8, some [.raw .nilFunc]⟩ := by kernel_rfl
@[go_sem] theorem ti43 : tinfo Try.prog 43 = some ⟨.func, 1, 8, some [.raw .nilFunc]⟩ := by kernel_rfl
@[go_sem] theorem ti44 : tinfo Try.prog 44 = some ⟨.func, 1, 8, some [.raw .nilFunc]⟩ := by kernel_rfl
@[go_sem] theorem ti45 : tinfo Try.prog 45 = some ⟨.func, 1, 8, some [.raw .nilFunc]⟩ := by kernel_rfl
@[go_sem] theorem ti46 : tinfo Try.prog 46 = some ⟨.func, 1, 8, some [.raw .nilFunc]⟩ := by kernel_rfl
@[go_sem] theorem ti48 : tinfo Try.prog 48 = some ⟨.func, 1, 8, some [.raw .nilFunc]⟩ := by kernel_rfl
@[go_sem] theorem ti49 : tinfo Try.prog 49 = some ⟨.func, 1, 8, some [.raw .nilFunc]⟩ := by kernel_rfl
@[go_sem] theorem ti50 : tinfo Try.prog 50 = some ⟨.func, 1, 8, some [.raw .nilFunc]⟩ := by kernel_rfl
@[go_sem] theorem ti51 : tinfo Try.prog 51 = some ⟨.func, 1, 8, some [.raw .nilFunc]⟩ := by kernel_rfl
@[go_sem] theorem ti52 : tinfo Try.prog 52 = some ⟨.map 3 36, 1, 8, some [.raw (.map none)]⟩ := by kernel_rfl
@[go_sem] theorem ti53 : tinfo Try.prog 53 = some ⟨.map 3 36, 1, 8, some [.raw (.map none)]⟩ := by kernel_rfl
@[go_sem] theorem ti55 : tinfo Try.prog 55 = some ⟨.func, 1, 8, some [.raw .nilFunc]⟩ := by kernel_rfl
@[go_sem] theorem ti56 : tinfo Try.prog 56 = some ⟨.map 3 4, 1, 8, some [.raw (.map none)]⟩ := by kernel_rfl
@[go_sem] theorem ti57 : tinfo Try.prog 57 = some ⟨.func, 1, 8, some [.raw .nilFunc]⟩ := by kernel_rfl
@[go_sem] theorem ti58 : tinfo Try.prog 58 = some ⟨.func, 1, 8, some [.raw .nilFunc]⟩ := by kernel_rfl
@[go_sem] theorem ti60 : tinfo Try.prog 60 = some ⟨.func, 1, 8, some [.raw .nilFunc]⟩ := by kernel_rfl
@[go_sem] theorem ti61 : tinfo Try.prog 61 = some ⟨.func, 1, 8, some [.raw .nilFunc]⟩ := by kernel_rfl
@[go_sem] theorem ti62 : tinfo Try.prog 62 = some ⟨.func, 1, 8, some [.raw .nilFunc]⟩ := by kernel_rfl
@[go_sem] theorem ti63 : tinfo Try.prog 63 = some ⟨.func, 1, 8, some [.raw .nilFunc]⟩ := by kernel_rfl
@[go_sem] theorem ti64 : tinfo Try.prog 64 = some ⟨.func, 1, 8, some [.raw .nilFunc]⟩ := by kernel_rfl
@[go_sem] theorem ti65 : tinfo Try.prog 65 = some ⟨.func, 1, 8, some [.raw .nilFunc]⟩ := by kernel_rfl
@[go_sem] theorem ti66 : tinfo Try.prog 66 = some ⟨.func, 1, 8, some [.raw .nilFunc]⟩ := by kernel_rfl
@[go_sem] theorem ti67 : tinfo Try.prog 67 = some ⟨.func, 1, 8, some [.raw .nilFunc]⟩ := by kernel_rfl
@[go_sem] theorem ti68 : tinfo Try.prog 68 = some ⟨.func, 1, 8, some [.raw .nilFunc]⟩ := by kernel_rfl
@[go_sem] theorem ti70 : tinfo Try.prog 70 = some ⟨.func, 1, 8, some [.raw .nilFunc]⟩ := by kernel_rfl
@[go_sem] theorem ti71 : tinfo Try.prog 71 = some ⟨.func, 1, 8, some [.raw .nilFunc]⟩ := by kernel_rfl
@[go_sem] theorem ti73 : tinfo Try.prog 73 = some ⟨.func, 1, 8, some [.raw .nilFunc]⟩ := by kernel_rfl
@[go_sem] theorem ti74 : tinfo Try.prog 74 = some ⟨.func, 1, 8, some [.raw .nilFunc]⟩ := by kernel_rfl
@[go_sem] theorem ti75 : tinfo Try.prog 75 = some ⟨.func, 1, 8, some [.raw .nilFunc]⟩ := by kernel_rfl
@[go_sem] theorem ti76 : tinfo Try.prog 76 = some ⟨.func, 1, 8, some [.raw .nilFunc]⟩ := by kernel_rfl
@[go_sem] theorem ti77 : tinfo Try.prog 77 = some ⟨.func, 1, 8, some [.raw .nilFunc]⟩ := by kernel_rfl
@[go_sem] theorem ti78 : tinfo Try.prog 78 = some ⟨.func, 1, 8, some [.raw .nilFunc]⟩ := by kernel_rfl
@[go_sem] theorem ti80 : tinfo Try.prog 80 = some ⟨.func, 1, 8, some [.raw .nilFunc]⟩ := by kernel_rfl
@[go_sem] theorem ti81 : tinfo Try.prog 81 = some ⟨.func, 1, 8, some [.raw .nilFunc]⟩ := by kernel_rfl
@[go_sem] theorem ti82 : tinfo Try.prog 82 = some ⟨.func, 1, 8, some [.raw .nilFunc]⟩ := by kernel_rfl
@[go_sem] theorem ti83 : tinfo Try.prog 83 = some ⟨.func, 1, 8, some [.raw .nilFunc]⟩ := by kernel_rfl
@[go_sem] theorem ti84 : tinfo Try.prog 84 = some ⟨.func, 1, 8, some [.raw .nilFunc]⟩ := by kernel_rfl
@[go_sem] theorem ti85 : tinfo Try.prog 85 = some ⟨.func, 1, 8, some [.raw .nilFunc]⟩ := by kernel_rfl
@[go_sem] theorem ti86 : tinfo Try.prog 86 = some ⟨.func, 1, 8, some [.raw .nilFunc]⟩ := by kernel_rfl
@[go_sem] theorem ti87 : tinfo Try.prog 87 = some ⟨.func, 1, 8, some [.raw .nilFunc]⟩ := by kernel_rfl
@[go_sem] theorem ti88 : tinfo Try.prog 88 = some ⟨.func, 1, 8, some [.raw .nilFunc]⟩ := by kernel_rfl
@[go_sem] theorem ti89 : tinfo Try.prog 89 = some ⟨.func, 1, 8, some [.raw .nilFunc]⟩ := by kernel_rfl
@[go_sem] theorem ti90 : tinfo Try.prog 90 = some ⟨.func, 1, 8, some [.raw .nilFunc]⟩ := by kernel_rfl
@[go_sem] theorem ti91 : tinfo Try.prog 91 = some ⟨.func, 1, 8, some [.raw .nilFunc]⟩ := by kernel_rfl
@[go_sem] theorem ti92 : tinfo Try.prog 92 = some ⟨.func, 1, 8, some [.raw .nilFunc]⟩ := by kernel_rfl
@[go_sem] theorem ti94 : tinfo Try.prog 94 = some ⟨.func, 1, 8, some [.raw .nilFunc]⟩ := by kernel_rfl
@[go_sem] theorem ti95 : tinfo Try.prog 95 = some ⟨.func, 1, 8, some [.raw .nilFunc]⟩ := by kernel_rfl
@[go_sem] theorem ti96 : tinfo Try.prog 96 = some ⟨.func, 1, 8, some [.raw .nilFunc]⟩ := by kernel_rfl
@[go_sem] theorem ti97 : tinfo Try.prog 97 = some ⟨.func, 1, 8, some [.raw .nilFunc]⟩ := by kernel_rfl
@[go_sem] theorem ti98 : tinfo Try.prog 98 = some ⟨.func, 1, 8, some [.raw .nilFunc]⟩ := by kernel_rfl
@[go_sem] theorem ti99 : tinfo Try.prog 99 = some ⟨.func, 1, 8, some [.raw .nilFunc]⟩ := by kernel_rfl
@[go_sem] theorem ti100 : tinfo Try.prog 100 = some ⟨.func, 1, 8, some [.raw .nilFunc]⟩ := by kernel_rfl
@[go_sem] theorem ti101 : tinfo Try.prog 101 = some ⟨.func, 1, 8, some [.raw .nilFunc]⟩ := by kernel_rfl
@[go_sem] theorem ti102 : tinfo Try.prog 102 = some ⟨.struct [(0, 31)], 1, 8, some [.int .i64 0]⟩ := by kernel_rfl
@[go_sem high] theorem bl102 : blist Try.prog 102 = some [(0, 1)] := by kernel_rfl
@[go_sem] theorem ti103 : tinfo Try.prog 103 = some ⟨.struct [(0, 31)], 1, 8, some [.int .i64 0]⟩ := by kernel_rfl
@[go_sem high] theorem bl103 : blist Try.prog 103 = some [(0, 1)] := by kernel_rfl
@[go_sem] theorem ti104 : tinfo Try.prog 104 = some ⟨.func, 1, 8, some [.raw .nilFunc]⟩ := by kernel_rfl
@[go_sem] theorem ti105 : tinfo Try.prog 105 = some ⟨.struct [(0, 4), (1, 4), (2, 4), (3, 4), (4, 4)], 5, 5, some [.bool false, .bool false, .bool false, .bool false, .bool false]⟩ := by kernel_rfl
@[go_sem high] theorem bl105 : blist Try.prog 105 = some [(0, 1), (1, 1), (2, 1), (3, 1), (4, 1)] := by kernel_rfl
@[go_sem] theorem ti106 : tinfo Try.prog 106 = some ⟨.struct [(0, 4), (1, 4), (2, 4), (3, 4), (4, 4)], 5, 5, some [.bool false, .bool false, .bool false, .bool false, .bool false]⟩ := by kernel_rfl
@[go_sem high] theorem bl106 : blist Try.prog 106 = some [(0, 1), (1, 1), (2, 1), (3, 1), (4, 1)] := by kernel_rfl
@[go_sem] theorem ti108 : tinfo Try.prog 108 = some ⟨.func, 1, 8, some [.raw .nilFunc]⟩ := by kernel_rfl
@[go_sem] theorem ti109 : tinfo Try.prog 109 = some ⟨.func, 1, 8, some [.raw .nilFunc]⟩ := by kernel_rfl
@[go_sem] theorem ti110 : tinfo Try.prog 110 = some ⟨.func, 1, 8, some [.raw .nilFunc]⟩ := by kernel_rfl
@[go_sem] theorem ti111 : tinfo Try.prog 111 = some ⟨.int .u64, 1, 8, some [.int .u64 0]⟩ := by kernel_rfl
@[go_sem] theorem ti112 : tinfo Try.prog 112 = some ⟨.func, 1, 8, some [.raw .nilFunc]⟩ := by kernel_rfl
@[go_sem] theorem ti113 : tinfo Try.prog 113 = some ⟨.func, 1, 8, some [.raw .nilFunc]⟩ := by kernel_rfl
@[go_sem] theorem ti114 : tinfo Try.prog 114 = some ⟨.func, 1, 8, some [.raw .nilFunc]⟩ := by kernel_rfl
@[go_sem] theorem ti115 : tinfo Try.prog 115 = some ⟨.func, 1, 8, some [.raw .nilFunc]⟩ := by kernel_rfl
@[go_sem] theorem ti116 : tinfo Try.prog 116 = some ⟨.func, 1, 8, some [.raw .nilFunc]⟩ := by kernel_rfl
@[go_sem] theorem ti117 : tinfo Try.prog 117 = some ⟨.func, 1, 8, some [.raw .nilFunc]⟩ := by kernel_rfl
@[go_sem] theorem ti118 : tinfo Try.prog 118 = some ⟨.func, 1, 8, some [.raw .nilFunc]⟩ := by kernel_rfl
@[go_sem] theorem ti119 : tinfo Try.prog 119 = some ⟨.func, 1, 8, some [.raw .nilFunc]⟩ := by kernel_rfl
@[go_sem] theorem ti120 : tinfo Try.prog 120 = some ⟨.func, 1, 8, some [.raw .nilFunc]⟩ := by kernel_rfl
@[go_sem] theorem ti121 : tinfo Try.prog 121 = some ⟨.func, 1, 8, some [.raw .nilFunc]⟩ := by kernel_rfl
@[go_sem] theorem ti122 : tinfo Try.prog 122 = some ⟨.func, 1, 8, some [.raw .nilFunc]⟩ := by kernel_rfl
@[go_sem] theorem ti123 : tinfo Try.prog 123 = some ⟨.func, 1, 8, some [.raw .nilFunc]⟩ := by kernel_rfl
@[go_sem] theorem ti124 : tinfo Try.prog 124 = some ⟨.func, 1, 8, some [.raw .nilFunc]⟩ := by kernel_rfl
@[go_sem] theorem ti125 : tinfo Try.prog 125 = some ⟨.int .i64, 1, 8, some [.int .i64 0]⟩ := by kernel_rfl
@[go_sem] theorem ti127 : tinfo Try.prog 127 = some ⟨.func, 1, 8, some [.raw .nilFunc]⟩ := by kernel_rfl
@[go_sem] theorem ti128 : tinfo Try.prog 128 = some ⟨.func, 1, 8, some [.raw .nilFunc]⟩ := by kernel_rfl
@[go_sem] theorem ti129 : tinfo Try.prog 129 = some ⟨.func, 1, 8, some [.raw .nilFunc]⟩ := by kernel_rfl
@[go_sem] theorem ti130 : tinfo Try.prog 130 = some ⟨.func, 1, 8, some [.raw .nilFunc]⟩ := by kernel_rfl
@[go_sem] theorem ti131 : tinfo Try.prog 131 = some ⟨.func, 1, 8, some [.raw .nilFunc]⟩ := by kernel_rfl
@[go_sem] theorem ti132 : tinfo Try.prog 132 = some ⟨.func, 1, 8, some [.raw .nilFunc]⟩ := by kernel_rfl
@[go_sem] theorem ti133 : tinfo Try.prog 133 = some ⟨.int .u32, 1, 4, some [.int .u32 0]⟩ := by kernel_rfl
@[go_sem] theorem ti134 : tinfo Try.prog 134 = some ⟨.func, 1, 8, some [.raw .nilFunc]⟩ := by kernel_rfl
@[go_sem] theorem ti135 : tinfo Try.prog 135 = some ⟨.int .u64, 1, 8, some [.int .u64 0]⟩ := by kernel_rfl
@[go_sem] theorem ti136 : tinfo Try.prog 136 = some ⟨.int .u64, 1, 8, some [.int .u64 0]⟩ := by kernel_rfl
@[go_sem] theorem ti137 : tinfo Try.prog 137 = some ⟨.func, 1, 8, some [.raw .nilFunc]⟩ := by kernel_rfl
@[go_sem] theorem ti138 : tinfo Try.prog 138 = some ⟨.func, 1, 8, some [.raw .nilFunc]⟩ := by kernel_rfl
@[go_sem] theorem ti139 : tinfo Try.prog 139 = some ⟨.func, 1, 8, some [.raw .nilFunc]⟩ := by kernel_rfl
@[go_sem] theorem ti140 : tinfo Try.prog 140 = some ⟨.ptr 3, 1, 8, some [.raw (.pointer none)]⟩ := by kernel_rfl
@[go_sem] theorem ti141 : tinfo Try.prog 141 = some ⟨.func, 1, 8, some [.raw .nilFunc]⟩ := by kernel_rfl
@[go_sem] theorem ti142 : tinfo Try.prog 142 = some ⟨.func, 1, 8, some [.raw .nilFunc]⟩ := by kernel_rfl
@[go_sem] theorem ti143 : tinfo Try.prog 143 = some ⟨.ptr 136, 1, 8, some [.raw (.pointer none)]⟩ := by kernel_rfl
@[go_sem] theorem ti145 : tinfo Try.prog 145 = some ⟨.func, 1, 8, some [.raw .nilFunc]⟩ := by kernel_rfl
@[go_sem] theorem ti146 : tinfo Try.prog 146 = some ⟨.func, 1, 8, some [.raw .nilFunc]⟩ := by kernel_rfl
@[go_sem] theorem ti152 : tinfo Try.prog 152 = some ⟨.func, 1, 8, some [.raw .nilFunc]⟩ := by kernel_rfl
@[go_sem] theorem ti156 : tinfo Try.prog 156 = some ⟨.ptr 5, 1, 8, some [.raw (.pointer none)]⟩ := by kernel_rfl
end Go.Proofs
