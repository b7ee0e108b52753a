/- A part of the proof of a law of the seat: no condition of its own. -/
import Derived.Test.YtahflphnoncnfaaCore12
import Derived.IntWalk
import Derived.Test.YtahflphnoncnfaaProg
namespace Go.Proofs
open Go Aw
@[go_sem] theorem ti1 : tinfo Try.prog 1 = some ⟨.func, 1, 8, some [.raw .nilFunc]⟩ := by kernel_rfl
@[go_sem] theorem ti2 : tinfo Try.prog 2 = some ⟨.int .i64, 1, 8, some [.int .i64 0]⟩ := by kernel_rfl
@[go_sem] theorem ti3 : tinfo Try.prog 3 = some ⟨.int .i64, 1, 8, some [.int .i64 0]⟩ := by kernel_rfl
@[go_sem] theorem ti4 : tinfo Try.prog 4 = some ⟨.bool, 1, 1, some [.bool false]⟩ := by kernel_rfl
@[go_sem] theorem ti5 : tinfo Try.prog 5 = some ⟨.int .u8, 1, 1, some [.int .u8 0]⟩ := by kernel_rfl
@[go_sem] theorem ti9 : tinfo Try.prog 9 = some ⟨.str, 1, 16, some [.str []]⟩ := by kernel_rfl
@[go_sem] theorem ti12 : tinfo Try.prog 12 = some ⟨.int .u64, 1, 8, some [.int .u64 0]⟩ := by kernel_rfl
@[go_sem] theorem ti13 : tinfo Try.prog 13 = some ⟨.struct [(0, 9), (1, 12)], 2, 24, some [.str [], .int .u64 0]⟩ := by kernel_rfl
@[go_sem] theorem ti20 : tinfo Try.prog 20 = some ⟨.iface, 1, 16, some [.raw .nilIface]⟩ := by kernel_rfl
@[go_sem] theorem ti21 : tinfo Try.prog 21 = some ⟨.int .i32, 1, 4, some [.int .i32 0]⟩ := by kernel_rfl
@[go_sem] theorem ti22 : tinfo Try.prog 22 = some ⟨.func, 1, 8, some [.raw .nilFunc]⟩ := by kernel_rfl
@[go_sem] theorem ti23 : tinfo Try.prog 23 = some ⟨.int .i64, 1, 8, some [.int .i64 0]⟩ := by kernel_rfl
@[go_sem] theorem ti25 : tinfo Try.prog 25 = some ⟨.func, 1, 8, some [.raw .nilFunc]⟩ := by kernel_rfl
@[go_sem] theorem ti26 : tinfo Try.prog 26 = some ⟨.func, 1, 8, some [.raw .nilFunc]⟩ := by kernel_rfl
@[go_sem] theorem ti27 : tinfo Try.prog 27 = some ⟨.func, 1, 8, some [.raw .nilFunc]⟩ := by kernel_rfl
@[go_sem] theorem ti28 : tinfo Try.prog 28 = some ⟨.func, 1, 8, some [.raw .nilFunc]⟩ := by kernel_rfl
@[go_sem] theorem ti29 : tinfo Try.prog 29 = some ⟨.func, 1, 8, some [.raw .nilFunc]⟩ := by kernel_rfl
@[go_sem] theorem ti30 : tinfo Try.prog 30 = some ⟨.func, 1, 8, some [.raw .nilFunc]⟩ := by kernel_rfl
@[go_sem] theorem ti31 : tinfo Try.prog 31 = some ⟨.func, 1, 8, some [.raw .nilFunc]⟩ := by kernel_rfl
@[go_sem] theorem ti32 : tinfo Try.prog 32 = some ⟨.func, 1, 8, some [.raw .nilFunc]⟩ := by kernel_rfl
@[go_sem] theorem ti33 : tinfo Try.prog 33 = some ⟨.func, 1, 8, some [.raw .nilFunc]⟩ := by kernel_rfl
@[go_sem] theorem ti34 : tinfo Try.prog 34 = some ⟨.func, 1, 8, some [.raw .nilFunc]⟩ := by kernel_rfl
@[go_sem] theorem ti35 : tinfo Try.prog 35 = some ⟨.struct [(0, 2), (1, 2), (2, 2), (3, 2), (4, 2), (5, 2)], 6, 48, some [.int .i64 0, .int .i64 0, .int .i64 0, .int .i64 0, .int .i64 0, .int .i64 0]⟩ := by kernel_rfl
@[go_sem] theorem ti36 : tinfo Try.prog 36 = some ⟨.struct [(0, 2), (1, 2), (2, 2), (3, 2), (4, 2), (5, 2)], 6, 48, some [.int .i64 0, .int .i64 0, .int .i64 0, .int .i64 0, .int .i64 0, .int .i64 0]⟩ := by kernel_rfl
@[go_sem] theorem ti37 : tinfo Try.prog 37 = some ⟨.struct [(0, 2), (1, 2)], 2, 16, some [.int .i64 0, .int .i64 0]⟩ := by kernel_rfl
@[go_sem] theorem ti38 : tinfo Try.prog 38 = some ⟨.struct [(0, 2), (1, 2)], 2, 16, some [.int .i64 0, .int .i64 0]⟩ := by kernel_rfl
@[go_sem] theorem ti40 : tinfo Try.prog 40 = some ⟨.func, 1, 8, some [.raw .nilFunc]⟩ := by kernel_rfl
@[go_sem] theorem ti41 : tinfo Try.prog 41 = some ⟨.func, 1, 8, some [.raw .nilFunc]⟩ := by kernel_rfl
@[go_sem] theorem ti42 : tinfo Try.prog 42 = some ⟨.func, 1, 8, some [.raw .nilFunc]⟩ := by kernel_rfl
@[go_sem] theorem ti44 : tinfo Try.prog 44 = some ⟨.func, 1, 8, some [.raw .nilFunc]⟩ := by kernel_rfl
@[go_sem] theorem ti45 : tinfo Try.prog 45 = some ⟨.func, 1, 8, some [.raw .nilFunc]⟩ := by kernel_rfl
@[go_sem] theorem ti46 : tinfo Try.prog 46 = some ⟨.slice 9, 1, 24, some [.raw (.slice none 0 0)]⟩ := by kernel_rfl
@[go_sem] theorem ti47 : tinfo Try.prog 47 = some ⟨.slice 49, 1, 24, some [.raw (.slice none 0 0)]⟩ := by kernel_rfl
@[go_sem] theorem ti48 : tinfo Try.prog 48 = some ⟨.struct [(0, 3), (1, 2), (2, 3), (3, 9), (4, 46), (5, 47)], 6, 88, some [.int .i64 0, .int .i64 0, .int .i64 0, .str [], .raw (.slice none 0 0), .raw (.slice none 0 0)]⟩ := by kernel_rfl
@[go_sem] theorem ti49 : tinfo Try.prog 49 = some ⟨.struct [(0, 3), (1, 2), (2, 3), (3, 9), (4, 46), (5, 47)], 6, 88, some [.int .i64 0, .int .i64 0, .int .i64 0, .str [], .raw (.slice none 0 0), .raw (.slice none 0 0)]⟩ := by kernel_rfl
@[go_sem] theorem ti50 : tinfo Try.prog 50 = some ⟨.func, 1, 8, some [.raw .nilFunc]⟩ := by kernel_rfl
@[go_sem] theorem ti51 : tinfo Try.prog 51 = some ⟨.func, 1, 8, some [.raw .nilFunc]⟩ := by kernel_rfl
@[go_sem] theorem ti52 : tinfo Try.prog 52 = some ⟨.slice 55, 1, 24, some [.raw (.slice none 0 0)]⟩ := by kernel_rfl
@[go_sem] theorem ti53 : tinfo Try.prog 53 = some ⟨.func, 1, 8, some [.raw .nilFunc]⟩ := by kernel_rfl
@[go_sem] theorem ti54 : tinfo Try.prog 54 = some ⟨.struct [(0, 3), (1, 3), (2, 3)], 3, 24, some [.int .i64 0, .int .i64 0, .int .i64 0]⟩ := by kernel_rfl
@[go_sem] theorem ti55 : tinfo Try.prog 55 = some ⟨.struct [(0, 3), (1, 3), (2, 3)], 3, 24, some [.int .i64 0, .int .i64 0, .int .i64 0]⟩ := by kernel_rfl
@[go_sem] theorem ti57 : tinfo Try.prog 57 = some ⟨.func, 1, 8, some [.raw .nilFunc]⟩ := by kernel_rfl
@[go_sem] theorem ti58 : tinfo Try.prog 58 = some ⟨.slice 5, 1, 24, some [.raw (.slice none 0 0)]⟩ := by kernel_rfl
@[go_sem] theorem ti59 : tinfo Try.prog 59 = some ⟨.func, 1, 8, some [.raw .nilFunc]⟩ := by kernel_rfl
@[go_sem] theorem ti60 : tinfo Try.prog 60 = some ⟨.int .u64, 1, 8, some [.int .u64 0]⟩ := by kernel_rfl
@[go_sem] theorem ti61 : tinfo Try.prog 61 = some ⟨.func, 1, 8, some [.raw .nilFunc]⟩ := by kernel_rfl
@[go_sem] theorem ti62 : tinfo Try.prog 62 = some ⟨.func, 1, 8, some [.raw .nilFunc]⟩ := by kernel_rfl
@[go_sem] theorem ti63 : tinfo Try.prog 63 = some ⟨.slice 3, 1, 24, some [.raw (.slice none 0 0)]⟩ := by kernel_rfl
@[go_sem] theorem ti64 : tinfo Try.prog 64 = some ⟨.func, 1, 8, some [.raw .nilFunc]⟩ := by kernel_rfl
@[go_sem] theorem ti65 : tinfo Try.prog 65 = some ⟨.func, 1, 8, some [.raw .nilFunc]⟩ := by kernel_rfl
@[go_sem] theorem ti66 : tinfo Try.prog 66 = some ⟨.ptr 23, 1, 8, some [.raw (.pointer none)]⟩ := by kernel_rfl
@[go_sem] theorem ti67 : tinfo Try.prog 67 = some ⟨.func, 1, 8, some [.raw .nilFunc]⟩ := by kernel_rfl
@[go_sem] theorem ti68 : tinfo Try.prog 68 = some ⟨.func, 1, 8, some [.raw .nilFunc]⟩ := by kernel_rfl
@[go_sem] theorem ti69 : tinfo Try.prog 69 = some ⟨.func, 1, 8, some [.raw .nilFunc]⟩ := by kernel_rfl
@[go_sem] theorem ti70 : tinfo Try.prog 70 = some ⟨.func, 1, 8, some [.raw .nilFunc]⟩ := by kernel_rfl
@[go_sem] theorem ti71 : tinfo Try.prog 71 = some ⟨.slice 2, 1, 24, some [.raw (.slice none 0 0)]⟩ := by kernel_rfl
@[go_sem] theorem ti72 : tinfo Try.prog 72 = some ⟨.func, 1, 8, some [.raw .nilFunc]⟩ := by kernel_rfl
@[go_sem] theorem ti73 : tinfo Try.prog 73 = some ⟨.ptr 2, 1, 8, some [.raw (.pointer none)]⟩ := by kernel_rfl
@[go_sem] theorem ti74 : tinfo Try.prog 74 = some ⟨.arr 6 73, 6, 48, some [.raw (.pointer none), .raw (.pointer none), .raw (.pointer none), .raw (.pointer none), .raw (.pointer none), .raw (.pointer none)]⟩ := by kernel_rfl
@[go_sem] theorem ti75 : tinfo Try.prog 75 = some ⟨.func, 1, 8, some [.raw .nilFunc]⟩ := by kernel_rfl
@[go_sem] theorem ti76 : tinfo Try.prog 76 = some ⟨.ptr 36, 1, 8, some [.raw (.pointer none)]⟩ := by kernel_rfl
@[go_sem] theorem ti78 : tinfo Try.prog 78 = some ⟨.func, 1, 8, some [.raw .nilFunc]⟩ := by kernel_rfl
@[go_sem] theorem ti79 : tinfo Try.prog 79 = some ⟨.func, 1, 8, some [.raw .nilFunc]⟩ := by kernel_rfl
@[go_sem] theorem ti80 : tinfo Try.prog 80 = some ⟨.func, 1, 8, some [.raw .nilFunc]⟩ := by kernel_rfl
@[go_sem] theorem ti81 : tinfo Try.prog 81 = some ⟨.func, 1, 8, some [.raw .nilFunc]⟩ := by kernel_rfl
@[go_sem] theorem ti82 : tinfo Try.prog 82 = some ⟨.func, 1, 8, some [.raw .nilFunc]⟩ := by kernel_rfl
@[go_sem] theorem ti83 : tinfo Try.prog 83 = some ⟨.ptr 111, 1, 8, some [.raw (.pointer none)]⟩ := by kernel_rfl
@[go_sem] theorem ti84 : tinfo Try.prog 84 = some ⟨.func, 1, 8, some [.raw .nilFunc]⟩ := by kernel_rfl
@[go_sem] theorem ti85 : tinfo Try.prog 85 = some ⟨.struct [(0, 83)], 1, 8, some [.raw (.pointer none)]⟩ := by kernel_rfl
@[go_sem] theorem ti86 : tinfo Try.prog 86 = some ⟨.struct [(0, 83)], 1, 8, some [.raw (.pointer none)]⟩ := by kernel_rfl
@[go_sem] theorem ti87 : tinfo Try.prog 87 = some ⟨.func, 1, 8, some [.raw .nilFunc]⟩ := by kernel_rfl
@[go_sem] theorem ti89 : tinfo Try.prog 89 = some ⟨.func, 1, 8, some [.raw .nilFunc]⟩ := by kernel_rfl
@[go_sem] theorem ti90 : tinfo Try.prog 90 = some ⟨.ptr 3, 1, 8, some [.raw (.pointer none)]⟩ := by kernel_rfl
@[go_sem] theorem ti91 : tinfo Try.prog 91 = some ⟨.func, 1, 8, some [.raw .nilFunc]⟩ := by kernel_rfl
@[go_sem] theorem ti92 : tinfo Try.prog 92 = some ⟨.ptr 55, 1, 8, some [.raw (.pointer none)]⟩ := by kernel_rfl
@[go_sem] theorem ti93 : tinfo Try.prog 93 = some ⟨.func, 1, 8, some [.raw .nilFunc]⟩ := by kernel_rfl
@[go_sem] theorem ti94 : tinfo Try.prog 94 = some ⟨.struct [], 0, 0, some []⟩ := by kernel_rfl
@[go_sem] theorem ti95 : tinfo Try.prog 95 = some ⟨.struct [], 0, 0, some []⟩ := by kernel_rfl
@[go_sem] theorem ti96 : tinfo Try.prog 96 = some ⟨.ptr 115, 1, 8, some [.raw (.pointer none)]⟩ := by kernel_rfl
@[go_sem] theorem ti97 : tinfo Try.prog 97 = some ⟨.func, 1, 8, some [.raw .nilFunc]⟩ := by kernel_rfl
@[go_sem] theorem ti98 : tinfo Try.prog 98 = some ⟨.struct [(0, 96)], 1, 8, some [.raw (.pointer none)]⟩ := by kernel_rfl
@[go_sem] theorem ti99 : tinfo Try.prog 99 = some ⟨.struct [(0, 96)], 1, 8, some [.raw (.pointer none)]⟩ := by kernel_rfl
@[go_sem] theorem ti100 : tinfo Try.prog 100 = some ⟨.func, 1, 8, some [.raw .nilFunc]⟩ := by kernel_rfl
@[go_sem] theorem ti101 : tinfo Try.prog 101 = some ⟨.struct [(0, 23)], 1, 8, some [.int .i64 0]⟩ := by kernel_rfl
@[go_sem] theorem ti102 : tinfo Try.prog 102 = some ⟨.struct [(0, 23)], 1, 8, some [.int .i64 0]⟩ := by kernel_rfl
@[go_sem] theorem ti104 : tinfo Try.prog 104 = some ⟨.func, 1, 8, some [.raw .nilFunc]⟩ := by kernel_rfl
@[go_sem] theorem ti105 : tinfo Try.prog 105 = some ⟨.func, 1, 8, some [.raw .nilFunc]⟩ := by kernel_rfl
@[go_sem] theorem ti106 : tinfo Try.prog 106 = some ⟨.func, 1, 8, some [.raw .nilFunc]⟩ := by kernel_rfl
@[go_sem] theorem ti107 : tinfo Try.prog 107 = some ⟨.func, 1, 8, some [.raw .nilFunc]⟩ := by kernel_rfl
@[go_sem] theorem ti108 : tinfo Try.prog 108 = some ⟨.struct [(0, 3), (1, 3)], 2, 16, some [.int .i64 0, .int .i64 0]⟩ := by kernel_rfl
@[go_sem] theorem ti109 : tinfo Try.prog 109 = some ⟨.struct [(0, 3), (1, 3)], 2, 16, some [.int .i64 0, .int .i64 0]⟩ := by kernel_rfl
@[go_sem] theorem ti110 : tinfo Try.prog 110 = some ⟨.struct [(0, 109), (2, 58)], 3, 40, some [.int .i64 0, .int .i64 0, .raw (.slice none 0 0)]⟩ := by kernel_rfl
@[go_sem] theorem ti111 : tinfo Try.prog 111 = some ⟨.struct [(0, 109), (2, 58)], 3, 40, some [.int .i64 0, .int .i64 0, .raw (.slice none 0 0)]⟩ := by kernel_rfl
@[go_sem] theorem ti112 : tinfo Try.prog 112 = some ⟨.func, 1, 8, some [.raw .nilFunc]⟩ := by kernel_rfl
@[go_sem] theorem ti113 : tinfo Try.prog 113 = some ⟨.func, 1, 8, some [.raw .nilFunc]⟩ := by kernel_rfl
@[go_sem] theorem ti114 : tinfo Try.prog 114 = some ⟨.struct [(0, 109), (2, 9), (3, 3)], 4, 40, some [.int .i64 0, .int .i64 0, .str [], .int .i64 0]⟩ := by kernel_rfl
@[go_sem] theorem ti115 : tinfo Try.prog 115 = some ⟨.struct [(0, 109), (2, 9), (3, 3)], 4, 40, some [.int .i64 0, .int .i64 0, .str [], .int .i64 0]⟩ := by kernel_rfl
@[go_sem] theorem ti116 : tinfo Try.prog 116 = some ⟨.func, 1, 8, some [.raw .nilFunc]⟩ := by kernel_rfl
@[go_sem] theorem ti117 : tinfo Try.prog 117 = some ⟨.arr 3 3, 3, 24, some [.int .i64 0, .int .i64 0, .int .i64 0]⟩ := by kernel_rfl
@[go_sem] theorem ti118 : tinfo Try.prog 118 = some ⟨.int .u32, 1, 4, some [.int .u32 0]⟩ := by kernel_rfl
@[go_sem] theorem ti120 : tinfo Try.prog 120 = some ⟨.func, 1, 8, some [.raw .nilFunc]⟩ := by kernel_rfl
@[go_sem] theorem ti121 : tinfo Try.prog 121 = some ⟨.func, 1, 8, some [.raw .nilFunc]⟩ := by kernel_rfl
@[go_sem] theorem ti122 : tinfo Try.prog 122 = some ⟨.func, 1, 8, some [.raw .nilFunc]⟩ := by kernel_rfl
@[go_sem] theorem ti123 : tinfo Try.prog 123 = some ⟨.func, 1, 8, some [.raw .nilFunc]⟩ := by kernel_rfl
@[go_sem] theorem ti124 : tinfo Try.prog 124 = some ⟨.func, 1, 8, some [.raw .nilFunc]⟩ := by kernel_rfl
@[go_sem] theorem ti125 : tinfo Try.prog 125 = some ⟨.func, 1, 8, some [.raw .nilFunc]⟩ := by kernel_rfl
@[go_sem] theorem ti126 : tinfo Try.prog 126 = some ⟨.func, 1, 8, some [.raw .nilFunc]⟩ := by kernel_rfl
@[go_sem] theorem ti127 : tinfo Try.prog 127 = some ⟨.func, 1, 8, some [.raw .nilFunc]⟩ := by kernel_rfl
@[go_sem] theorem ti129 : tinfo Try.prog 129 = some ⟨.func, 1, 8, some [.raw .nilFunc]⟩ := by kernel_rfl
@[go_sem] theorem ti130 : tinfo Try.prog 130 = some ⟨.int .i64, 1, 8, some [.int .i64 0]⟩ := by kernel_rfl
@[go_sem] theorem ti131 : tinfo Try.prog 131 = some ⟨.func, 1, 8, some [.raw .nilFunc]⟩ := by kernel_rfl
@[go_sem] theorem ti132 : tinfo Try.prog 132 = some ⟨.func, 1, 8, some [.raw .nilFunc]⟩ := by kernel_rfl
@[go_sem] theorem ti133 : tinfo Try.prog 133 = some ⟨.func, 1, 8, some [.raw .nilFunc]⟩ := by kernel_rfl
@[go_sem] theorem ti134 : tinfo Try.prog 134 = some ⟨.func, 1, 8, some [.raw .nilFunc]⟩ := by kernel_rfl
@[go_sem] theorem ti135 : tinfo Try.prog 135 = some ⟨.int .u64, 1, 8, some [.int .u64 0]⟩ := by kernel_rfl
@[go_sem] theorem ti136 : tinfo Try.prog 136 = some ⟨.func, 1, 8, some [.raw .nilFunc]⟩ := by kernel_rfl
@[go_sem] theorem ti137 : tinfo Try.prog 137 = some ⟨.ptr 109, 1, 8, some [.raw (.pointer none)]⟩ := by kernel_rfl
@[go_sem] theorem ti138 : tinfo Try.prog 138 = some ⟨.func, 1, 8, some [.raw .nilFunc]⟩ := by kernel_rfl
@[go_sem] theorem ti147 : tinfo Try.prog 147 = some ⟨.ptr 5, 1, 8, some [.raw (.pointer none)]⟩ := by kernel_rfl
end Go.Proofs
