/- A part of the proof: no condition of its own. -/
import Derived.Test.YtlamdhcfojligaaGreatCore46
import Derived.IntWalk
import Derived.Test.YtlamdhcfojligaaGreatProg
import Derived.Lib.Bytealg
import Derived.Shelf.Small.Strs
namespace Go.Proofs
open Go Aw
@[go_sem] theorem ti1 : tinfo Tryz.prog 1 = some ⟨.func,1,8,some [.raw .nilFunc]⟩:=by kernel_rfl
@[go_sem] theorem ti2 : tinfo Tryz.prog 2 = some ⟨.int .i64,1,8,some [.int .i64 0]⟩:=by kernel_rfl
@[go_sem] theorem ti3 : tinfo Tryz.prog 3 = some ⟨.int .i64,1,8,some [.int .i64 0]⟩:=by kernel_rfl
@[go_sem] theorem ti4 : tinfo Tryz.prog 4 = some ⟨.bool,1,1,some [.bool false]⟩:=by kernel_rfl
@[go_sem] theorem ti5 : tinfo Tryz.prog 5 = some ⟨.int .u8,1,1,some [.int .u8 0]⟩:=by kernel_rfl
@[go_sem] theorem ti9 : tinfo Tryz.prog 9 = some ⟨.str,1,16,some [.str []]⟩:=by kernel_rfl
@[go_sem] theorem ti12 : tinfo Tryz.prog 12 = some ⟨.int .u64,1,8,some [.int .u64 0]⟩:=by kernel_rfl
@[go_sem] theorem ti13 : tinfo Tryz.prog 13 = some ⟨.struct [(0,9),(1,12)],2,24,some [.str [],.int .u64 0]⟩:=by kernel_rfl
@[go_sem high] theorem bl13 : blist Tryz.prog 13 = some [(0,1),(1,1)]:=by kernel_rfl
@[go_sem] theorem ti20 : tinfo Tryz.prog 20 = some ⟨.iface,1,16,some [.raw .nilIface]⟩:=by kernel_rfl
@[go_sem] theorem ti21 : tinfo Tryz.prog 21 = some ⟨.int .i32,1,4,some [.int .i32 0]⟩:=by kernel_rfl
@[go_sem] theorem ti22 : tinfo Tryz.prog 22 = some ⟨.slice 45,1,24,some [.raw (.slice none 0 0)]⟩:=by kernel_rfl
@[go_sem] theorem ti23 : tinfo Tryz.prog 23 = some ⟨.slice 9,1,24,some [.raw (.slice none 0 0)]⟩:=by kernel_rfl
@[go_sem] theorem ti24 : tinfo Tryz.prog 24 = some ⟨.slice 26,1,24,some [.raw (.slice none 0 0)]⟩:=by kernel_rfl
@[go_sem] theorem ti25 : tinfo Tryz.prog 25 = some ⟨.struct [(0,3),(1,2),(2,3),(3,9),(4,23),(5,24)],6,88,some [.int .i64 0,.int .i64 0,.int .i64 0,.str [],.raw (.slice none 0 0),.raw (.slice none 0 0)]⟩:=by kernel_rfl
@[go_sem high] theorem bl25 : blist Tryz.prog 25 = some [(0,1),(1,1),(2,1),(3,1),(4,1),(5,1)]:=by kernel_rfl
@[go_sem] theorem ti26 : tinfo Tryz.prog 26 = some ⟨.struct [(0,3),(1,2),(2,3),(3,9),(4,23),(5,24)],6,88,some [.int .i64 0,.int .i64 0,.int .i64 0,.str [],.raw (.slice none 0 0),.raw (.slice none 0 0)]⟩:=by kernel_rfl
@[go_sem high] theorem bl26 : blist Tryz.prog 26 = some [(0,1),(1,1),(2,1),(3,1),(4,1),(5,1)]:=by kernel_rfl
@[go_sem] theorem ti27 : tinfo Tryz.prog 27 = some ⟨.struct [(0,22),(1,26)],7,112,some [.raw (.slice none 0 0),.int .i64 0,.int .i64 0,.int .i64 0,.str [],.raw (.slice none 0 0),.raw (.slice none 0 0)]⟩:=by kernel_rfl
@[go_sem high] theorem bl27 : blist Tryz.prog 27 = some [(0,1),(1,6)]:=by kernel_rfl
@[go_sem] theorem ti28 : tinfo Tryz.prog 28 = some ⟨.struct [(0,22),(1,26)],7,112,some [.raw (.slice none 0 0),.int .i64 0,.int .i64 0,.int .i64 0,.str [],.raw (.slice none 0 0),.raw (.slice none 0 0)]⟩:=by kernel_rfl
@[go_sem high] theorem bl28 : blist Tryz.prog 28 = some [(0,1),(1,6)]:=by kernel_rfl
@[go_sem] theorem ti29 : tinfo Tryz.prog 29 = some ⟨.slice 3,1,24,some [.raw (.slice none 0 0)]⟩:=by kernel_rfl
@[go_sem] theorem ti30 : tinfo Tryz.prog 30 = some ⟨.func,1,8,some [.raw .nilFunc]⟩:=by kernel_rfl
@[go_sem] theorem ti31 : tinfo Tryz.prog 31 = some ⟨.func,1,8,some [.raw .nilFunc]⟩:=by kernel_rfl
@[go_sem] theorem ti32 : tinfo Tryz.prog 32 = some ⟨.int .i64,1,8,some [.int .i64 0]⟩:=by kernel_rfl
@[go_sem] theorem ti34 : tinfo Tryz.prog 34 = some ⟨.func,1,8,some [.raw .nilFunc]⟩:=by kernel_rfl
@[go_sem] theorem ti35 : tinfo Tryz.prog 35 = some ⟨.func,1,8,some [.raw .nilFunc]⟩:=by kernel_rfl
@[go_sem] theorem ti36 : tinfo Tryz.prog 36 = some ⟨.func,1,8,some [.raw .nilFunc]⟩:=by kernel_rfl
@[go_sem] theorem ti37 : tinfo Tryz.prog 37 = some ⟨.func,1,8,some [.raw .nilFunc]⟩:=by kernel_rfl
@[go_sem] theorem ti38 : tinfo Tryz.prog 38 = some ⟨.func,1,8,some [.raw .nilFunc]⟩:=by kernel_rfl
@[go_sem] theorem ti40 : tinfo Tryz.prog 40 = some ⟨.func,1,8,some [.raw .nilFunc]⟩:=by kernel_rfl
@[go_sem] theorem ti41 : tinfo Tryz.prog 41 = some ⟨.func,1,8,some [.raw .nilFunc]⟩:=by kernel_rfl
@[go_sem] theorem ti42 : tinfo Tryz.prog 42 = some ⟨.func,1,8,some [.raw .nilFunc]⟩:=by kernel_rfl
@[go_sem] theorem ti43 : tinfo Tryz.prog 43 = some ⟨.func,1,8,some [.raw .nilFunc]⟩:=by kernel_rfl
@[go_sem] theorem ti44 : tinfo Tryz.prog 44 = some ⟨.struct [(0,3),(1,3),(2,26)],8,104,some [.int .i64 0,.int .i64 0,.int .i64 0,.int .i64 0,.int .i64 0,.str [],.raw (.slice none 0 0),.raw (.slice none 0 0)]⟩:=by kernel_rfl
@[go_sem high] theorem bl44 : blist Tryz.prog 44 = some [(0,1),(1,1),(2,6)]:=by kernel_rfl
@[go_sem] theorem ti45 : tinfo Tryz.prog 45 = some ⟨.struct [(0,3),(1,3),(2,26)],8,104,some [.int .i64 0,.int .i64 0,.int .i64 0,.int .i64 0,.int .i64 0,.str [],.raw (.slice none 0 0),.raw (.slice none 0 0)]⟩:=by kernel_rfl
@[go_sem high] theorem bl45 : blist Tryz.prog 45 = some [(0,1),(1,1),(2,6)]:=by kernel_rfl
@[go_sem] theorem ti46 : tinfo Tryz.prog 46 = some ⟨.func,1,8,some [.raw .nilFunc]⟩:=by kernel_rfl
@[go_sem] theorem ti47 : tinfo Tryz.prog 47 = some ⟨.func,1,8,some [.raw .nilFunc]⟩:=by kernel_rfl
@[go_sem] theorem ti48 : tinfo Tryz.prog 48 = some ⟨.func,1,8,some [.raw .nilFunc]⟩:=by kernel_rfl
@[go_sem] theorem ti49 : tinfo Tryz.prog 49 = some ⟨.func,1,8,some [.raw .nilFunc]⟩:=by kernel_rfl
@[go_sem] theorem ti50 : tinfo Tryz.prog 50 = some ⟨.func,1,8,some [.raw .nilFunc]⟩:=by kernel_rfl
@[go_sem] theorem ti51 : tinfo Tryz.prog 51 = some ⟨.func,1,8,some [.raw .nilFunc]⟩:=by kernel_rfl
@[go_sem] theorem ti52 : tinfo Tryz.prog 52 = some ⟨.func,1,8,some [.raw .nilFunc]⟩:=by kernel_rfl
@[go_sem] theorem ti53 : tinfo Tryz.prog 53 = some ⟨.func,1,8,some [.raw .nilFunc]⟩:=by kernel_rfl
@[go_sem] theorem ti54 : tinfo Tryz.prog 54 = some ⟨.map 3 45,1,8,some [.raw (.map none)]⟩:=by kernel_rfl
@[go_sem] theorem ti55 : tinfo Tryz.prog 55 = some ⟨.map 3 45,1,8,some [.raw (.map none)]⟩:=by kernel_rfl
@[go_sem] theorem ti57 : tinfo Tryz.prog 57 = some ⟨.func,1,8,some [.raw .nilFunc]⟩:=by kernel_rfl
@[go_sem] theorem ti58 : tinfo Tryz.prog 58 = some ⟨.func,1,8,some [.raw .nilFunc]⟩:=by kernel_rfl
@[go_sem] theorem ti59 : tinfo Tryz.prog 59 = some ⟨.func,1,8,some [.raw .nilFunc]⟩:=by kernel_rfl
@[go_sem] theorem ti60 : tinfo Tryz.prog 60 = some ⟨.func,1,8,some [.raw .nilFunc]⟩:=by kernel_rfl
@[go_sem] theorem ti61 : tinfo Tryz.prog 61 = some ⟨.func,1,8,some [.raw .nilFunc]⟩:=by kernel_rfl
@[go_sem] theorem ti63 : tinfo Tryz.prog 63 = some ⟨.func,1,8,some [.raw .nilFunc]⟩:=by kernel_rfl
@[go_sem] theorem ti64 : tinfo Tryz.prog 64 = some ⟨.func,1,8,some [.raw .nilFunc]⟩:=by kernel_rfl
@[go_sem] theorem ti65 : tinfo Tryz.prog 65 = some ⟨.func,1,8,some [.raw .nilFunc]⟩:=by kernel_rfl
@[go_sem] theorem ti66 : tinfo Tryz.prog 66 = some ⟨.func,1,8,some [.raw .nilFunc]⟩:=by kernel_rfl
@[go_sem] theorem ti67 : tinfo Tryz.prog 67 = some ⟨.func,1,8,some [.raw .nilFunc]⟩:=by kernel_rfl
@[go_sem] theorem ti68 : tinfo Tryz.prog 68 = some ⟨.arr 3 32,3,24,some [.int .i64 0,.int .i64 0,.int .i64 0]⟩:=by kernel_rfl
@[go_sem high] theorem bl68 : blist Tryz.prog 68 = some [(0,1),(1,1),(2,1)]:=by kernel_rfl
@[go_sem] theorem ti69 : tinfo Tryz.prog 69 = some ⟨.func,1,8,some [.raw .nilFunc]⟩:=by kernel_rfl
@[go_sem] theorem ti70 : tinfo Tryz.prog 70 = some ⟨.func,1,8,some [.raw .nilFunc]⟩:=by kernel_rfl
@[go_sem] theorem ti71 : tinfo Tryz.prog 71 = some ⟨.func,1,8,some [.raw .nilFunc]⟩:=by kernel_rfl
@[go_sem] theorem ti72 : tinfo Tryz.prog 72 = some ⟨.func,1,8,some [.raw .nilFunc]⟩:=by kernel_rfl
@[go_sem] theorem ti73 : tinfo Tryz.prog 73 = some ⟨.func,1,8,some [.raw .nilFunc]⟩:=by kernel_rfl
@[go_sem] theorem ti74 : tinfo Tryz.prog 74 = some ⟨.func,1,8,some [.raw .nilFunc]⟩:=by kernel_rfl
@[go_sem] theorem ti75 : tinfo Tryz.prog 75 = some ⟨.map 3 4,1,8,some [.raw (.map none)]⟩:=by kernel_rfl
@[go_sem] theorem ti76 : tinfo Tryz.prog 76 = some ⟨.func,1,8,some [.raw .nilFunc]⟩:=by kernel_rfl
@[go_sem] theorem ti77 : tinfo Tryz.prog 77 = some ⟨.func,1,8,some [.raw .nilFunc]⟩:=by kernel_rfl
@[go_sem] theorem ti78 : tinfo Tryz.prog 78 = some ⟨.func,1,8,some [.raw .nilFunc]⟩:=by kernel_rfl
@[go_sem] theorem ti79 : tinfo Tryz.prog 79 = some ⟨.func,1,8,some [.raw .nilFunc]⟩:=by kernel_rfl
@[go_sem] theorem ti80 : tinfo Tryz.prog 80 = some ⟨.func,1,8,some [.raw .nilFunc]⟩:=by kernel_rfl
@[go_sem] theorem ti81 : tinfo Tryz.prog 81 = some ⟨.func,1,8,some [.raw .nilFunc]⟩:=by kernel_rfl
@[go_sem] theorem ti82 : tinfo Tryz.prog 82 = some ⟨.func,1,8,some [.raw .nilFunc]⟩:=by kernel_rfl
@[go_sem] theorem ti83 : tinfo Tryz.prog 83 = some ⟨.func,1,8,some [.raw .nilFunc]⟩:=by kernel_rfl
@[go_sem] theorem ti84 : tinfo Tryz.prog 84 = some ⟨.func,1,8,some [.raw .nilFunc]⟩:=by kernel_rfl
@[go_sem] theorem ti85 : tinfo Tryz.prog 85 = some ⟨.func,1,8,some [.raw .nilFunc]⟩:=by kernel_rfl
@[go_sem] theorem ti86 : tinfo Tryz.prog 86 = some ⟨.ptr 88,1,8,some [.raw (.pointer none)]⟩:=by kernel_rfl
@[go_sem] theorem ti87 : tinfo Tryz.prog 87 = some ⟨.struct [(0,28),(7,75),(8,29)],9,144,some [.raw (.slice none 0 0),.int .i64 0,.int .i64 0,.int .i64 0,.str [],.raw (.slice none 0 0),.raw (.slice none 0 0),.raw (.map none),.raw (.slice none 0 0)]⟩:=by kernel_rfl
@[go_sem high] theorem bl87 : blist Tryz.prog 87 = some [(0,7),(7,1),(8,1)]:=by kernel_rfl
@[go_sem] theorem ti88 : tinfo Tryz.prog 88 = some ⟨.struct [(0,28),(7,75),(8,29)],9,144,some [.raw (.slice none 0 0),.int .i64 0,.int .i64 0,.int .i64 0,.str [],.raw (.slice none 0 0),.raw (.slice none 0 0),.raw (.map none),.raw (.slice none 0 0)]⟩:=by kernel_rfl
@[go_sem high] theorem bl88 : blist Tryz.prog 88 = some [(0,7),(7,1),(8,1)]:=by kernel_rfl
@[go_sem] theorem ti89 : tinfo Tryz.prog 89 = some ⟨.func,1,8,some [.raw .nilFunc]⟩:=by kernel_rfl
@[go_sem] theorem ti90 : tinfo Tryz.prog 90 = some ⟨.func,1,8,some [.raw .nilFunc]⟩:=by kernel_rfl
@[go_sem] theorem ti91 : tinfo Tryz.prog 91 = some ⟨.func,1,8,some [.raw .nilFunc]⟩:=by kernel_rfl
@[go_sem] theorem ti92 : tinfo Tryz.prog 92 = some ⟨.func,1,8,some [.raw .nilFunc]⟩:=by kernel_rfl
@[go_sem] theorem ti93 : tinfo Tryz.prog 93 = some ⟨.func,1,8,some [.raw .nilFunc]⟩:=by kernel_rfl
@[go_sem] theorem ti94 : tinfo Tryz.prog 94 = some ⟨.func,1,8,some [.raw .nilFunc]⟩:=by kernel_rfl
@[go_sem] theorem ti95 : tinfo Tryz.prog 95 = some ⟨.func,1,8,some [.raw .nilFunc]⟩:=by kernel_rfl
@[go_sem] theorem ti97 : tinfo Tryz.prog 97 = some ⟨.func,1,8,some [.raw .nilFunc]⟩:=by kernel_rfl
@[go_sem] theorem ti98 : tinfo Tryz.prog 98 = some ⟨.func,1,8,some [.raw .nilFunc]⟩:=by kernel_rfl
@[go_sem] theorem ti99 : tinfo Tryz.prog 99 = some ⟨.func,1,8,some [.raw .nilFunc]⟩:=by kernel_rfl
@[go_sem] theorem ti100 : tinfo Tryz.prog 100 = some ⟨.func,1,8,some [.raw .nilFunc]⟩:=by kernel_rfl
@[go_sem] theorem ti101 : tinfo Tryz.prog 101 = some ⟨.func,1,8,some [.raw .nilFunc]⟩:=by kernel_rfl
@[go_sem] theorem ti102 : tinfo Tryz.prog 102 = some ⟨.func,1,8,some [.raw .nilFunc]⟩:=by kernel_rfl
@[go_sem] theorem ti103 : tinfo Tryz.prog 103 = some ⟨.func,1,8,some [.raw .nilFunc]⟩:=by kernel_rfl
@[go_sem] theorem ti104 : tinfo Tryz.prog 104 = some ⟨.int .u64,1,8,some [.int .u64 0]⟩:=by kernel_rfl
@[go_sem] theorem ti105 : tinfo Tryz.prog 105 = some ⟨.func,1,8,some [.raw .nilFunc]⟩:=by kernel_rfl
@[go_sem] theorem ti106 : tinfo Tryz.prog 106 = some ⟨.struct [(0,32)],1,8,some [.int .i64 0]⟩:=by kernel_rfl
@[go_sem high] theorem bl106 : blist Tryz.prog 106 = some [(0,1)]:=by kernel_rfl
@[go_sem] theorem ti107 : tinfo Tryz.prog 107 = some ⟨.struct [(0,32)],1,8,some [.int .i64 0]⟩:=by kernel_rfl
@[go_sem high] theorem bl107 : blist Tryz.prog 107 = some [(0,1)]:=by kernel_rfl
@[go_sem] theorem ti108 : tinfo Tryz.prog 108 = some ⟨.func,1,8,some [.raw .nilFunc]⟩:=by kernel_rfl
@[go_sem] theorem ti109 : tinfo Tryz.prog 109 = some ⟨.struct [(0,4),(1,4),(2,4),(3,4),(4,4)],5,5,some [.bool false,.bool false,.bool false,.bool false,.bool false]⟩:=by kernel_rfl
@[go_sem high] theorem bl109 : blist Tryz.prog 109 = some [(0,1),(1,1),(2,1),(3,1),(4,1)]:=by kernel_rfl
@[go_sem] theorem ti110 : tinfo Tryz.prog 110 = some ⟨.struct [(0,4),(1,4),(2,4),(3,4),(4,4)],5,5,some [.bool false,.bool false,.bool false,.bool false,.bool false]⟩:=by kernel_rfl
@[go_sem high] theorem bl110 : blist Tryz.prog 110 = some [(0,1),(1,1),(2,1),(3,1),(4,1)]:=by kernel_rfl
@[go_sem] theorem ti112 : tinfo Tryz.prog 112 = some ⟨.func,1,8,some [.raw .nilFunc]⟩:=by kernel_rfl
@[go_sem] theorem ti113 : tinfo Tryz.prog 113 = some ⟨.func,1,8,some [.raw .nilFunc]⟩:=by kernel_rfl
@[go_sem] theorem ti114 : tinfo Tryz.prog 114 = some ⟨.func,1,8,some [.raw .nilFunc]⟩:=by kernel_rfl
@[go_sem] theorem ti115 : tinfo Tryz.prog 115 = some ⟨.func,1,8,some [.raw .nilFunc]⟩:=by kernel_rfl
@[go_sem] theorem ti116 : tinfo Tryz.prog 116 = some ⟨.func,1,8,some [.raw .nilFunc]⟩:=by kernel_rfl
@[go_sem] theorem ti117 : tinfo Tryz.prog 117 = some ⟨.func,1,8,some [.raw .nilFunc]⟩:=by kernel_rfl
@[go_sem] theorem ti118 : tinfo Tryz.prog 118 = some ⟨.int .i64,1,8,some [.int .i64 0]⟩:=by kernel_rfl
@[go_sem] theorem ti120 : tinfo Tryz.prog 120 = some ⟨.func,1,8,some [.raw .nilFunc]⟩:=by kernel_rfl
@[go_sem] theorem ti121 : tinfo Tryz.prog 121 = some ⟨.func,1,8,some [.raw .nilFunc]⟩:=by kernel_rfl
@[go_sem] theorem ti122 : tinfo Tryz.prog 122 = some ⟨.func,1,8,some [.raw .nilFunc]⟩:=by kernel_rfl
@[go_sem] theorem ti123 : tinfo Tryz.prog 123 = some ⟨.func,1,8,some [.raw .nilFunc]⟩:=by kernel_rfl
@[go_sem] theorem ti124 : tinfo Tryz.prog 124 = some ⟨.func,1,8,some [.raw .nilFunc]⟩:=by kernel_rfl
@[go_sem] theorem ti125 : tinfo Tryz.prog 125 = some ⟨.int .u32,1,4,some [.int .u32 0]⟩:=by kernel_rfl
@[go_sem] theorem ti126 : tinfo Tryz.prog 126 = some ⟨.func,1,8,some [.raw .nilFunc]⟩:=by kernel_rfl
@[go_sem] theorem ti127 : tinfo Tryz.prog 127 = some ⟨.int .u64,1,8,some [.int .u64 0]⟩:=by kernel_rfl
@[go_sem] theorem ti128 : tinfo Tryz.prog 128 = some ⟨.map 3 45,1,8,some [.raw (.map none)]⟩:=by kernel_rfl
@[go_sem] theorem ti130 : tinfo Tryz.prog 130 = some ⟨.func,1,8,some [.raw .nilFunc]⟩:=by kernel_rfl
@[go_sem] theorem ti131 : tinfo Tryz.prog 131 = some ⟨.func,1,8,some [.raw .nilFunc]⟩:=by kernel_rfl
@[go_sem] theorem ti132 : tinfo Tryz.prog 132 = some ⟨.func,1,8,some [.raw .nilFunc]⟩:=by kernel_rfl
@[go_sem] theorem ti133 : tinfo Tryz.prog 133 = some ⟨.func,1,8,some [.raw .nilFunc]⟩:=by kernel_rfl
@[go_sem] theorem ti134 : tinfo Tryz.prog 134 = some ⟨.func,1,8,some [.raw .nilFunc]⟩:=by kernel_rfl
@[go_sem] theorem ti135 : tinfo Tryz.prog 135 = some ⟨.func,1,8,some [.raw .nilFunc]⟩:=by kernel_rfl
@[go_sem] theorem ti136 : tinfo Tryz.prog 136 = some ⟨.func,1,8,some [.raw .nilFunc]⟩:=by kernel_rfl
@[go_sem] theorem ti137 : tinfo Tryz.prog 137 = some ⟨.int .u64,1,8,some [.int .u64 0]⟩:=by kernel_rfl
@[go_sem] theorem ti138 : tinfo Tryz.prog 138 = some ⟨.func,1,8,some [.raw .nilFunc]⟩:=by kernel_rfl
@[go_sem] theorem ti139 : tinfo Tryz.prog 139 = some ⟨.func,1,8,some [.raw .nilFunc]⟩:=by kernel_rfl
@[go_sem] theorem ti140 : tinfo Tryz.prog 140 = some ⟨.func,1,8,some [.raw .nilFunc]⟩:=by kernel_rfl
@[go_sem] theorem ti141 : tinfo Tryz.prog 141 = some ⟨.ptr 3,1,8,some [.raw (.pointer none)]⟩:=by kernel_rfl
@[go_sem] theorem ti142 : tinfo Tryz.prog 142 = some ⟨.func,1,8,some [.raw .nilFunc]⟩:=by kernel_rfl
@[go_sem] theorem ti143 : tinfo Tryz.prog 143 = some ⟨.func,1,8,some [.raw .nilFunc]⟩:=by kernel_rfl
@[go_sem] theorem ti144 : tinfo Tryz.prog 144 = some ⟨.func,1,8,some [.raw .nilFunc]⟩:=by kernel_rfl
@[go_sem] theorem ti145 : tinfo Tryz.prog 145 = some ⟨.func,1,8,some [.raw .nilFunc]⟩:=by kernel_rfl
@[go_sem] theorem ti146 : tinfo Tryz.prog 146 = some ⟨.func,1,8,some [.raw .nilFunc]⟩:=by kernel_rfl
@[go_sem] theorem ti147 : tinfo Tryz.prog 147 = some ⟨.func,1,8,some [.raw .nilFunc]⟩:=by kernel_rfl
@[go_sem] theorem ti148 : tinfo Tryz.prog 148 = some ⟨.func,1,8,some [.raw .nilFunc]⟩:=by kernel_rfl
@[go_sem] theorem ti149 : tinfo Tryz.prog 149 = some ⟨.func,1,8,some [.raw .nilFunc]⟩:=by kernel_rfl
@[go_sem] theorem ti150 : tinfo Tryz.prog 150 = some ⟨.func,1,8,some [.raw .nilFunc]⟩:=by kernel_rfl
@[go_sem] theorem ti151 : tinfo Tryz.prog 151 = some ⟨.ptr 137,1,8,some [.raw (.pointer none)]⟩:=by kernel_rfl
@[go_sem] theorem ti153 : tinfo Tryz.prog 153 = some ⟨.func,1,8,some [.raw .nilFunc]⟩:=by kernel_rfl
@[go_sem] theorem ti154 : tinfo Tryz.prog 154 = some ⟨.func,1,8,some [.raw .nilFunc]⟩:=by kernel_rfl
@[go_sem] theorem ti155 : tinfo Tryz.prog 155 = some ⟨.func,1,8,some [.raw .nilFunc]⟩:=by kernel_rfl
@[go_sem] theorem ti156 : tinfo Tryz.prog 156 = some ⟨.func,1,8,some [.raw .nilFunc]⟩:=by kernel_rfl
@[go_sem] theorem ti157 : tinfo Tryz.prog 157 = some ⟨.func,1,8,some [.raw .nilFunc]⟩:=by kernel_rfl
@[go_sem] theorem ti158 : tinfo Tryz.prog 158 = some ⟨.func,1,8,some [.raw .nilFunc]⟩:=by kernel_rfl
@[go_sem] theorem ti159 : tinfo Tryz.prog 159 = some ⟨.func,1,8,some [.raw .nilFunc]⟩:=by kernel_rfl
@[go_sem] theorem ti160 : tinfo Tryz.prog 160 = some ⟨.func,1,8,some [.raw .nilFunc]⟩:=by kernel_rfl
@[go_sem] theorem ti161 : tinfo Tryz.prog 161 = some ⟨.func,1,8,some [.raw .nilFunc]⟩:=by kernel_rfl
@[go_sem] theorem ti162 : tinfo Tryz.prog 162 = some ⟨.func,1,8,some [.raw .nilFunc]⟩:=by kernel_rfl
@[go_sem] theorem ti163 : tinfo Tryz.prog 163 = some ⟨.func,1,8,some [.raw .nilFunc]⟩:=by kernel_rfl
@[go_sem] theorem ti164 : tinfo Tryz.prog 164 = some ⟨.func,1,8,some [.raw .nilFunc]⟩:=by kernel_rfl
@[go_sem] theorem ti165 : tinfo Tryz.prog 165 = some ⟨.func,1,8,some [.raw .nilFunc]⟩:=by kernel_rfl
@[go_sem] theorem ti166 : tinfo Tryz.prog 166 = some ⟨.func,1,8,some [.raw .nilFunc]⟩:=by kernel_rfl
@[go_sem] theorem ti167 : tinfo Tryz.prog 167 = some ⟨.func,1,8,some [.raw .nilFunc]⟩:=by kernel_rfl
@[go_sem] theorem ti168 : tinfo Tryz.prog 168 = some ⟨.func,1,8,some [.raw .nilFunc]⟩:=by kernel_rfl
@[go_sem] theorem ti174 : tinfo Tryz.prog 174 = some ⟨.func,1,8,some [.raw .nilFunc]⟩:=by kernel_rfl
@[go_sem] theorem ti178 : tinfo Tryz.prog 178 = some ⟨.ptr 5,1,8,some [.raw (.pointer none)]⟩:=by kernel_rfl
end Go.Proofs

namespace Aw
open Go
def intO (n : Int) : Pob:=.mk 2 n 0 [] [] []
def refO (n g : Int) : Pob:=.mk 8 n g [] [] []
mutual
def Pob.depth : Pob → Nat
 | .mk _ _ _ _ _ l=>depths l + 1
def depths : List Pob → Nat
 | []=>0
 | o :: l=>max o.depth (depths l)
end
attribute [irreducible] Pob.depth depths
theorem bl_irrefl : ∀ a : List UInt8,Op.bytesLess a a = false
 | []=>rfl
 | a :: x=>by simp [Op.bytesLess,bl_irrefl x,UInt8.lt_irrefl]
theorem bl_trans : ∀ a b c : List UInt8,Op.bytesLess a b = true → Op.bytesLess b c = true → Op.bytesLess a c = true
 | a,[],c,h,_=>by cases a <;> simp [Op.bytesLess] at h
 | [],b :: y,[],_,h=>by simp [Op.bytesLess] at h
 | [],b :: y,c :: z,_,_=>by simp [Op.bytesLess]
 | a :: x,b :: y,[],_,h=>by simp [Op.bytesLess] at h
 | a :: x,b :: y,c :: z,h,h'=>by
  simp only [Op.bytesLess,Bool.or_eq_true,decide_eq_true_eq,Bool.and_eq_true,beq_iff_eq] at h h' ⊢
  rcases h with h | ⟨rfl,h⟩
  ·rcases h' with h' | ⟨rfl,h'⟩
   ·exact .inl (UInt8.lt_trans h h')
   ·exact .inl h
  ·rcases h' with h' | ⟨rfl,h'⟩
   ·exact .inl h'
   ·exact .inr ⟨rfl,bl_trans x y z h h'⟩
theorem bl_total : ∀ a b : List UInt8,a = b ∨ Op.bytesLess a b = true ∨ Op.bytesLess b a = true
 | [],[]=>.inl rfl
 | [],_ :: _=>.inr (.inl rfl)
 | _ :: _,[]=>.inr (.inr rfl)
 | a :: x,b :: y=>by
  simp only [Op.bytesLess,Bool.or_eq_true,decide_eq_true_eq,Bool.and_eq_true,beq_iff_eq,List.cons.injEq]
  rcases UInt8.lt_or_lt_of_ne (a:=a) (b:=b) |> fun h=>Classical.em (a = b) |>.elim (fun e=>Or.inl e) (fun e=>Or.inr (h e)) with h | h | h
  ·subst h
   rcases bl_total x y with h | h | h
   ·exact .inl ⟨rfl,h⟩
   ·exact .inr (.inl (.inr ⟨rfl,h⟩))
   ·exact .inr (.inr (.inr ⟨rfl,h⟩))
  ·exact .inr (.inl (.inl h))
  ·exact .inr (.inr (.inl h))
theorem bl_asymm {a b : List UInt8} (h : Op.bytesLess a b = true) : Op.bytesLess b a = false:=by
 cases h' : Op.bytesLess b a with
 | false=>rfl
 | true=>have:=bl_trans a b a h h'; rw [bl_irrefl] at this; cases this
def incr (ks : List (List UInt8)) : Prop:=∀ a b,a < b → b < ks.length → Op.bytesLess (ks.getD a []) (ks.getD b []) = true
theorem incr_of_next {ks : List (List UInt8)} (h : ∀ i,i + 1 < ks.length → Op.bytesLess (ks.getD i []) (ks.getD (i + 1) []) = true) : incr ks:=by
 intro a b hab hb
 induction b with
 | zero=>omega
 | succ b ih =>
  by_cases e : a = b
  ·subst e; exact h a hb
  ·exact bl_trans _ _ _ (ih (by omega) (by omega)) (h b hb)
def kplace (ks : List (List UInt8)) (key : List UInt8) : Nat:=ks.findIdx (fun k=>!Op.bytesLess k key)
def kthere (ks : List (List UInt8)) (key : List UInt8) : Bool:=decide (kplace ks key < ks.length) && decide (ks.getD (kplace ks key) [] = key)
def insAt {α : Type} (l : List α) (i : Nat) (x : α) : List α:=l.take i ++ x :: l.drop i
def delAt {α : Type} (l : List α) (i : Nat) : List α:=l.take i ++ l.drop (i + 1)
def Pob.withK (o : Pob) (key : List UInt8) (v : Pob) : Pob :=
 if kthere o.keys key = true then .mk o.kind o.num o.gen o.str o.keys (o.kids.set (kplace o.keys key) v)
 else .mk o.kind o.num o.gen o.str (insAt o.keys (kplace o.keys key) key) (insAt o.kids (kplace o.keys key) v)
def Pob.lessK (o : Pob) (i : Nat) : Pob:=.mk o.kind o.num o.gen o.str (delAt o.keys i) (delAt o.kids i)
theorem bulks_append (a b : List Pob) : bulks (a ++ b) = bulks a + bulks b:=by
 induction a with
 | nil=>simp [bulks]
 | cons x a ih=>simp only [List.cons_append,bulks,ih]; omega
theorem headD_nil' {α : Type} (d : α) : ([] : List α).headD d = d:=rfl
attribute [go_sem] headD_nil'
attribute [irreducible] kplace
end Aw

namespace Aw
open Go
set_option linter.unusedVariables false
theorem nil_strs {ks : List (List UInt8)} {b : Bool} (h : strsAV ks ≠ [] → b = false) (hb : b = true) : ks = []:=by
 subst hb
 cases ks with
 | nil=>rfl
 | cons a l=>exact absurd (h (by simp [strsAV])) (by simp)
def keyedB (k : Int) : Bool:=decide (k = 7) || decide (k = 9)
def kidx (ks : List (List UInt8)) (k : List UInt8) : Nat:=ks.findIdx (fun x=>decide (x = k))
def kidxI (ks : List (List UInt8)) (k : List UInt8) : Int:=if kidx ks k < ks.length then kidx ks k else -1
theorem kidx_hit {ks : List (List UInt8)} {k : List UInt8} {i : Nat} (h : i < ks.length) (hs : ∀ j,j < i → ks.getD j [] ≠ k) (hk : k = ks.getD i []) : kidxI ks k = i:=by
 have : kidx ks k = i:=by
  unfold kidx
  rw [List.findIdx_eq h]
  refine ⟨by simp [hk,List.getD,h],fun j hj=>?_⟩
  have:=hs j hj
  simp only [List.getD,List.getElem?_eq_getElem (Nat.lt_trans hj h),Option.getD_some] at this
  simpa using this
 simp [kidxI,this,h]
theorem kidx_miss {ks : List (List UInt8)} {k : List UInt8} (hs : ∀ j,j < ks.length → ks.getD j [] ≠ k) : kidxI ks k = -1:=by
 have : ¬ kidx ks k < ks.length:=by
  intro h
  have h2 : decide (ks[kidx ks k] = k) = true:=List.findIdx_getElem (p:=fun x=>decide (x = k)) (w:=h)
  have e : ks.getD (kidx ks k) [] = ks[kidx ks k]:=by simp [List.getD,h]
  exact hs _ h (e.trans (of_decide_eq_true h2))
 simp [kidxI,this]
def getB (o : Pob) (key : List UInt8) : Bool:=keyedB o.kind && decide (0 ≤ kidxI o.keys key) && decide (kidxI o.keys key < o.kids.length)
def getO (o : Pob) (key : List UInt8) : Pob:=if getB o key = true then o.kids.getD (kidxI o.keys key).toNat Pob.null else Pob.null
theorem get_unkeyed {o : Pob} {key : List UInt8} (h : keyedB o.kind = false) : getB o key = false ∧ getO o key = Pob.null:=by
 simp [getO,getB,h]
theorem get_miss {o : Pob} {key : List UInt8} (h : kidxI o.keys key < 0 ∨ (o.kids.length : Int) ≤ kidxI o.keys key) : getB o key = false ∧ getO o key = Pob.null:=by
 have : getB o key = false:=by simp only [getB,Bool.and_eq_false_iff,decide_eq_false_iff_not]; omega
 exact ⟨this,by simp [getO,this]⟩
theorem get_hit {o : Pob} {key : List UInt8} (h : keyedB o.kind = true) (h' : 0 ≤ kidxI o.keys key ∧ kidxI o.keys key < o.kids.length) : getB o key = true ∧ getO o key = o.kids.getD (kidxI o.keys key).toNat Pob.null:=by
 have : getB o key = true:=by simp [getB,h,h']
 exact ⟨this,by simp [getO,this]⟩
theorem takeS_succ {a b : List (List UInt8)} {i : Nat} (h : i < a.length) (hl : a.length = b.length) (he : a.take i = b.take i) (hg : a.getD i [] = b.getD i []) : a.take (i + 1) = b.take (i + 1):=by
 rw [List.take_succ_eq_append_getElem h,List.take_succ_eq_append_getElem (hl ▸ h),he]
 simp only [List.getD,List.getElem?_eq_getElem h,List.getElem?_eq_getElem (hl ▸ h),Option.getD_some] at hg
 rw [hg]
theorem Pob_eq (a b : Pob) : a = b ↔ a.kind = b.kind ∧ a.num = b.num ∧ a.gen = b.gen ∧ a.str = b.str ∧ a.keys = b.keys ∧ a.kids = b.kids:=by
 cases a; cases b; simp [Pob.kind,Pob.num,Pob.gen,Pob.str,Pob.keys,Pob.kids]
theorem takeO_succ {a b : List Pob} {i : Nat} (h : i < a.length) (hl : a.length = b.length) (he : a.take i = b.take i) (hg : a.getD i Pob.null = b.getD i Pob.null) : a.take (i + 1) = b.take (i + 1):=by
 rw [List.take_succ_eq_append_getElem h,List.take_succ_eq_append_getElem (hl ▸ h),he]
 simp only [List.getD,List.getElem?_eq_getElem h,List.getElem?_eq_getElem (hl ▸ h),Option.getD_some] at hg
 rw [hg]
def fitsB (o : Pob) : Bool :=
 if o.kind = 1 then decide (0 ≤ o.num) && decide (o.num ≤ 1)
 else if o.kind = 2 then decide (-2147483647 ≤ o.num) && decide (o.num ≤ 2147483647)
 else if o.kind = 3 then decide (-1073741824 ≤ o.num) && decide (o.num ≤ 1073741824)
 else if o.kind = 8 then (decide (1 ≤ o.num) && decide (o.num ≤ 8191)) && (decide (0 ≤ o.gen) && decide (o.gen ≤ 65535))
 else true
def shortB (o : Pob) : Bool :=
 if o.kind = 4 then decide ((o.str.length : Int) ≤ 32767) else if o.kind = 5 then decide ((o.str.length : Int) ≤ 127) else decide ((o.str.length : Int) ≤ 1048576)
def uN (k : Int) : Bool:=decide (k = 1) || decide (k = 2) || decide (k = 3) || decide (k = 8)
def uG (k : Int) : Bool:=decide (k = 8)
def uS (k : Int) : Bool:=decide (k = 4) || decide (k = 5) || decide (k = 9)
def uKeys (k : Int) : Bool:=decide (k = 7) || decide (k = 9)
def uKids (k : Int) : Bool:=decide (k = 6) || decide (k = 7) || decide (k = 9)
def uOk (k : Int) : Bool:=decide (0 ≤ k) && decide (k ≤ 9)
theorem used_eq {k : Int} {a b c d e f : Bool} (h1 : uN k = a) (h2 : uG k = b) (h3 : uS k = c) (h4 : uKeys k = d) (h5 : uKids k = e) (h6 : uOk k = f) :
  AE.ret (.tup [.agg [.bool a,.bool b,.bool c,.bool d,.bool e],.bool f]) = AE.ret (.tup [.agg [.bool (uN k),.bool (uG k),.bool (uS k),.bool (uKeys k),.bool (uKids k)],.bool (uOk k)]):=by
 subst h1 h2 h3 h4 h5 h6; rfl
def nameB (s : List UInt8) : Bool:=decide ((s.length : Int) ≤ 127) && decide (Lib.indexByte s 0 < 0)
def okKey (o : Pob) (i : Nat) : Prop :=
 nameB (o.keys.getD i []) = true ∧ (0 < i → Op.bytesLess (o.keys.getD (i - 1) []) (o.keys.getD i []) = true) ∧ ¬ (o.kind = 9 ∧ o.keys.getD i [] = [76,101,110,103,116,104]) ∧ (o.kids.getD i Pob.null).kind ≠ 0
def risingP (o : Pob) : Prop:=o.keys.length = o.kids.length ∧ ∀ i,i < o.keys.length → okKey o i
instance (o : Pob) (i : Nat) : Decidable (okKey o i):=by unfold okKey; infer_instance
instance (o : Pob) : Decidable (risingP o):=by unfold risingP; infer_instance
def risingB (o : Pob) : Bool:=decide (risingP o)
theorem rising_no {o : Pob} (h : ¬ risingP o) : risingB o = false:=by simp [risingB,h]
theorem rising_yes {o : Pob} (h : risingP o) : risingB o = true:=by simp [risingB,h]
def useB (o : Pob) (d : Int) : Bool :=
 bif bif bif bif bif bif uOk o.kind then bif uN o.kind then true else decide (o.num = 0) else false then bif uG o.kind then true else decide (o.gen = 0) else false then bif uS o.kind then true else decide (o.str = []) else false
  then bif uKeys o.kind then true else decide ((o.keys.length : Int) = 0) else false then bif uKids o.kind then true else decide ((o.kids.length : Int) = 0) else false then bif decide (d = 1) then true else !decide (o.kind = 9) else false
def formB (o : Pob) : Bool:=bif bif !decide (o.kind = 5) then true else nameB o.str then bif !uKeys o.kind then true else risingB o else false
def ownE (o : Pob) (d : Int) : Int :=
 if ¬ d ≤ 24 then 7 else if useB o d = false then 10 else if fitsB o = false then 2 else if shortB o = false then 5 else if ¬ (o.kids.length : Int) ≤ 8191 then 6 else if formB o = false then 3 else 0
mutual
def chk : Pob → Int → Int
 | .mk k n g s ks l,d=>if ownE (.mk k n g s ks l) d = 0 then chkL l (d + 1) else ownE (.mk k n g s ks l) d
def chkL : List Pob → Int → Int
 | [],_=>0
 | o :: l,d=>if chk o d = 0 then chkL l d else chk o d
end
theorem chk_eq (o : Pob) (d : Int) : chk o d = if ownE o d = 0 then chkL o.kids (d + 1) else ownE o d:=by cases o; simp only [chk,Pob.kids]
theorem chk_bad {o : Pob} {d e : Int} (h : ownE o d = e) (he : e ≠ 0) : chk o d = e:=by rw [chk_eq,if_neg (by omega),h]
theorem chkL_drop {l : List Pob} {i : Nat} {d : Int} (h : i < l.length) : chkL (l.drop i) d = if chk (l.getD i Pob.null) d = 0 then chkL (l.drop (i + 1)) d else chk (l.getD i Pob.null) d:=by
 rw [List.drop_eq_getElem_cons h]
 have : l.getD i Pob.null = l[i]:=by simp [List.getD,h]
 rw [this]
 simp only [chkL]
attribute [irreducible] chk chkL ownE

/-! what validity gives -/
theorem chk_own {o : Pob} {d : Int} (h : chk o d = 0) : ownE o d = 0:=by
 rw [chk_eq] at h
 split at h
 ·assumption
 ·exact absurd h (by assumption)
theorem ownE_spec {o : Pob} {d : Int} (h : ownE o d = 0) : d ≤ 24 ∧ useB o d = true ∧ fitsB o = true ∧ shortB o = true ∧ (o.kids.length : Int) ≤ 8191 ∧ formB o = true:=by
 unfold ownE at h
 repeat' split at h
 all_goals first | omega | simp_all
theorem chk_rising {o : Pob} {d : Int} (h : chk o d = 0) (hk : keyedB o.kind = true) : risingP o:=by
 have h1:=(ownE_spec (chk_own h)).2.2.2.2.2
 have h2 : uKeys o.kind = true:=hk
 unfold formB at h1
 rw [h2] at h1
 cases h3 : risingB o with
 | true=>simpa [risingB] using h3
 | false=>rw [h3] at h1; revert h1; cases (bif !decide (o.kind = 5) then true else nameB o.str) <;> simp
theorem rising_incr {o : Pob} (h : risingP o) : incr o.keys:=by
 refine incr_of_next fun i hi=>?_
 have:=(h.2 (i + 1) hi).2.1 (by omega)
 simpa using this
end Aw

namespace Go.Proofs
open Go Aw
set_option linter.unusedSimpArgs false
set_option maxRecDepth 100000
set_option maxHeartbeats 4000000
theorem c_slices_Clone_string_string (gl : List (Nat × AV)) (ks : List (List UInt8)) (hk : ks.length ≤ 16777216:=by first | omega | exact u8_le _ | assumption | (simp; done) | (simp; omega)) : FnP Tryz.prog (gl) 104 [.sl (strsAV ks)] fun r=>r = .ret (.sl (strsAV ks)):=by
 refine FnP.intro Tryz.func104 rfl rfl (by simp [Tryz.ntmps104]) ?_
 simp only [argEnv,Tryz.ntmps104,Tryz.results104]
 refine AW.rS ?_
 refine AW.seq ?_
 refine AW.rSC ?_
 refine awOps.cons (awGuard.nS ?_)
 intro b4 hb4
 simp only [nilBool]
 refine awOps.rn ?_
 refine AW.c2 ?_ ?_
 ·intro h6
  refine AW.rS ?_
  refine AW.pre (St.le.nilrow 2 1 (by (simp only [go_sem,seval]; iterate 2 try (simp (disch:=omega) only [zq]; try simp only [go_sem,seval])))) ?_
  refine wk ?_
  refine AW.rt ?_
  rw [nil_strs hb4 h6,strsAV_nil]
 ·intro h6
  refine AW.skip ?_
  refine AW.rS ?_
  refine AW.rt ?_
  all_goals first | contradiction | rfl | (simp; done) | (simp; omega)
theorem c_value_Clone_1 (gl : List (Nat × AV)) (o : Pob) : FnP Tryz.prog (gl) 79 [.agg o.cells] fun r=>r = .ret (.agg o.cells):=by
 refine FnP.intro Tryz.func79 rfl rfl (by simp [Tryz.ntmps79]) ?_
 simp only [argEnv,Tryz.ntmps79,Tryz.results79]
 refine AW.rS ?_
 refine AW.rS ?_
 refine AW.rt ?_
 all_goals first | contradiction | rfl | (simp; done) | (simp; omega)
theorem changed_step (gl : List (Nat × AV)) (N : Nat) (hN : N ≤ 16777216) (ih : ∀ o' : Pob,o'.bulk < N → FnP Tryz.prog gl 78 [.agg o'.cells,.clos 79 []] fun r=>r = .ret (.agg o'.cells)) (o : Pob) (_ : o.bulk ≤ N) (hk : o.keys.length ≤ N) (hl : o.kids.length ≤ N) (hb : ∀ i,i < o.kids.length → (o.kids.getD i Pob.null).bulk < N) : FnP Tryz.prog (gl) 78 [.agg o.cells,.clos 79 []] fun r=>r = .ret (.agg o.cells):=by
 refine FnP.intro Tryz.func78 rfl rfl (by simp [Tryz.ntmps78]) ?_
 simp only [argEnv,Tryz.ntmps78,Tryz.results78]
 refine AW.rS ?_
 refine AW.rSC ?_
 refine awOps.cons (awGuard.c1 (c_value_Clone_1 _ o) ?_)
 refine awOps.rn ?_
 refine AW.rSC ?_
 refine awOps.cons (awGuard.c1 (c_slices_Clone_string_string _ o.keys) ?_)
 refine awOps.rn ?_
 refine AW.seq ?_
 refine AW.rSC ?_
 refine awOps.cons (awGuard.nS ?_)
 intro b10 hb10
 simp only [nilBool]
 refine awOps.rn ?_
 refine AW.c2 ?_ ?_
 ·intro h12
  refine AW.rS ?_
  refine AW.seq ?_
  refine AW.rS ?_
  refine AW.block ?_
  refine AW.lk (S:={ i : Nat // i ≤ o.kids.length }) [1,2,4,5,23,24] (fun s_=>[(25,.int .i64 s_.1)]) (fun s_=>[(0,.cells [.int .i64 o.kind,.int .i64 o.num,.int .i64 o.gen,.str o.str,.sl (strsAV o.keys),.sl (objsAV o.kids)]),(1,.cells [.int .i64 0,.int .i64 0,.int .i64 0,.str [],.raw (.slice none 0 0),.raw (.slice none 0 0)]),(2,.row 6 (fillO o.kids s_.1) true)]) 3 (fun s_=>o.kids.length - s_.1) ⟨0,Nat.zero_le _⟩ ?_ ?_
  ·refine St.le.vw [0,1,2]
  rintro ⟨i,hi⟩
  try dsimp only at hi
  refine AW.rS ?_
  refine AW.seq ?_
  refine AW.c2 ?_ ?_
  ·intro h20
   refine AW.skip ?_
   refine AW.seq ?_
   refine AW.block ?_
   refine AW.rS ?_
   refine AW.rLC ?_
   refine awOps.cons (awGuard.c1 (ih (o.kids.getD i Pob.null) (hb i (by omega))) ?_)
   refine awOps.rn ?_
   refine AW.rL ?_
   refine ⟨⟨i + 1,by omega⟩,?_,?_⟩
   ·refine St.le.vw [0,1,2]
   ·simp only []; omega
  ·intro h20
   refine AW.exit ?_
   refine AW.rL ?_
   refine AW.rS ?_
   refine AW.rt ?_
   rw [fillO_all hi h20,objsAV_take_len]
 ·intro h12
  refine AW.skip ?_
  refine AW.rS ?_
  refine AW.rt ?_
  all_goals first | contradiction | rfl | (simp; done) | (simp; omega)
theorem changed_clone (gl : List (Nat × AV)) (N : Nat) : N ≤ 16777216 → ∀ o : Pob,o.bulk ≤ N → FnP Tryz.prog gl 78 [.agg o.cells,.clos 79 []] fun r=>r = .ret (.agg o.cells):=by
 induction N using Nat.strongRecOn with
 | ind N IH =>
  intro hN o ho
  have hb:=Pob.bulk_eq o
  exact changed_step gl N hN (fun o' h=>IH o'.bulk h (by omega) o' (Nat.le_refl _)) o ho (by omega) (by omega) (fun i hi=>Nat.lt_of_lt_of_le (Pob.bulk_kid hi) ho)
theorem c_value_changed (gl : List (Nat × AV)) (o : Pob) (h : o.bulk ≤ 16777216:=by assumption) : FnP Tryz.prog gl 78 [.agg o.cells,.clos 79 []] fun r=>r = .ret (.agg o.cells):=changed_clone gl 16777216 (Nat.le_refl _) o h
theorem c_value_Clone (gl : List (Nat × AV)) (o : Pob) (h : o.bulk ≤ 16777216:=by first | omega | exact u8_le _ | assumption | (simp; done) | (simp; omega)) : FnP Tryz.prog (gl) 48 [.agg o.cells] fun r=>r = .ret (.agg o.cells):=by
 refine FnP.intro Tryz.func48 rfl rfl (by simp [Tryz.ntmps48]) ?_
 simp only [argEnv,Tryz.ntmps48,Tryz.results48]
 refine AW.rS ?_
 refine AW.rSC ?_
 refine awOps.cons (awGuard.c1 (c_value_changed _ o) ?_)
 refine awOps.rn ?_
 refine AW.rt ?_
 all_goals first | contradiction | rfl | (simp; done) | (simp; omega)
theorem c_value_keyed (gl : List (Nat × AV)) (o : Pob) : FnP Tryz.prog (gl) 110 [.agg o.cells] fun r=>r = .ret (.bool (keyedB o.kind)):=by
 refine FnP.intro Tryz.func110 rfl rfl (by simp [Tryz.ntmps110]) ?_
 simp only [argEnv,Tryz.ntmps110,Tryz.results110]
 refine AW.rS ?_
 refine AW.rS ?_
 refine AW.rt ?_
 all_goals first | contradiction | rfl | (simp; done) | (simp; omega)
theorem c_slices_Index_string_string (gl : List (Nat × AV)) (ks : List (List UInt8)) (k : List UInt8) (hk : ks.length ≤ 16777216:=by first | omega | exact u8_le _ | assumption | (simp; done) | (simp; omega)) : FnP Tryz.prog (gl) 109 [.sl (strsAV ks),.str k] fun r=>r = .ret (.int .i64 (kidxI ks k)):=by
 refine FnP.intro Tryz.func109 rfl rfl (by simp [Tryz.ntmps109]) ?_
 simp only [argEnv,Tryz.ntmps109,Tryz.results109]
 refine AW.rS ?_
 refine AW.seq ?_
 refine AW.rS ?_
 refine AW.block ?_
 refine AW.lk (S:={ i : Nat // i ≤ ks.length ∧ ∀ j,j < i → ks.getD j [] ≠ k }) [0,1,7] (fun s_=>[(8,.int .i64 s_.1)]) (fun s_=>[]) 0 (fun s_=>ks.length - s_.1) ⟨0,Nat.zero_le _,fun j h=>absurd h (by omega)⟩ ?_ ?_
 ·refine St.le.vw []
 rintro ⟨i,hi,hs⟩
 try dsimp only at hi
 try dsimp only at hs
 refine AW.rS ?_
 refine AW.seq ?_
 refine AW.c2 ?_ ?_
 ·intro h8
  refine AW.skip ?_
  refine AW.seq ?_
  refine AW.block ?_
  refine AW.rS ?_
  refine AW.rS ?_
  refine AW.c2 ?_ ?_
  ·intro h14
   refine AW.rS ?_
   refine AW.rt ?_
   rw [kidx_hit h8 hs h14]
  ·intro h14
   refine AW.skip ?_
   refine AW.rL ?_
   refine ⟨⟨i + 1,by omega,fun j hj=>by rcases Nat.lt_succ_iff_lt_or_eq.1 hj with h | rfl; exact hs j h; exact fun e=>h14 e.symm⟩,?_,?_⟩
   ·refine St.le.vw []
   ·simp only []; omega
 ·intro h8
  refine AW.exit ?_
  refine AW.rS ?_
  refine AW.rt ?_
  rw [kidx_miss (fun j hj=>hs j (by omega))]
theorem c_value_Get (gl : List (Nat × AV)) (o : Pob) (key : List UInt8) (h : o.bulk ≤ 16777216:=by first | omega | exact u8_le _ | assumption | (simp; done) | (simp; omega)) : FnP Tryz.prog (gl) 90 [.agg o.cells,.str key] fun r=>r = .ret (.tup [.agg (getO o key).cells,.bool (getB o key)]):=by
 refine FnP.intro Tryz.func90 rfl rfl (by simp [Tryz.ntmps90]) ?_
 simp only [argEnv,Tryz.ntmps90,Tryz.results90]
 have hb:=Pob.bulk_eq o
 refine AW.rS ?_
 refine AW.seq ?_
 refine AW.rSC ?_
 refine awOps.cons (awGuard.c1 (c_value_keyed _ o) ?_)
 refine awOps.rn ?_
 refine AW.c2 ?_ ?_
 ·intro h6
  refine AW.rS ?_
  refine AW.rt ?_
  rw [(get_unkeyed h6).1,(get_unkeyed h6).2] <;> rfl
 ·intro h6
  refine AW.skip ?_
  refine AW.rSC ?_
  refine awOps.cons (awGuard.c1 (c_slices_Index_string_string _ o.keys key (by omega)) ?_)
  refine awOps.rn ?_
  refine AW.seq ?_
  refine AW.rS ?_
  refine AW.c2 ?_ ?_
  ·intro h16
   refine AW.rS ?_
   refine AW.rt ?_
   rw [(get_miss h16).1,(get_miss h16).2] <;> rfl
  ·intro h16
   refine AW.skip ?_
   refine AW.rSC ?_
   refine awOps.cons (awGuard.c1 (c_value_Clone _ (o.kids.getD (kidxI o.keys key).toNat Pob.null) (by have:=Pob.bulk_kid (o:=o) (i:=(kidxI o.keys key).toNat) (by omega); omega)) ?_)
   refine awOps.rn ?_
   refine AW.rt ?_
   rw [(get_hit h6 h16).1,(get_hit h6 h16).2,← Pob.cells_eq]
theorem c_slices_Equal_string_string (gl : List (Nat × AV)) (a b : List (List UInt8)) (ha : a.length ≤ 16777216:=by first | omega | exact u8_le _ | assumption | (simp; done) | (simp; omega)) : FnP Tryz.prog (gl) 94 [.sl (strsAV a),.sl (strsAV b)] fun r=>r = .ret (.bool (decide (a = b))):=by
 refine FnP.intro Tryz.func94 rfl rfl (by simp [Tryz.ntmps94]) ?_
 simp only [argEnv,Tryz.ntmps94,Tryz.results94]
 refine AW.rS ?_
 refine AW.seq ?_
 refine AW.rS ?_
 refine AW.c2 ?_ ?_
 ·intro h4
  refine AW.rS ?_
  refine AW.rt ?_
  rw [decide_eq_false (fun e=>h4 (by rw [e]))]
 ·intro h4
  refine AW.skip ?_
  refine AW.seq ?_
  refine AW.rS ?_
  refine AW.block ?_
  refine AW.lk (S:={ i : Nat // i ≤ a.length ∧ a.take i = b.take i }) [0,1,12] (fun s_=>[(13,.int .i64 s_.1)]) (fun s_=>[]) 0 (fun s_=>a.length - s_.1) ⟨0,Nat.zero_le _,rfl⟩ ?_ ?_
  ·refine St.le.vw []
  rintro ⟨i,hi,hs⟩
  try dsimp only at hi
  try dsimp only at hs
  refine AW.rS ?_
  refine AW.seq ?_
  refine AW.c2 ?_ ?_
  ·intro h15
   refine AW.skip ?_
   refine AW.seq ?_
   refine AW.block ?_
   refine AW.rS ?_
   refine AW.dS [(0,0),(1,0),(2,1),(3,1),(4,0),(5,0),(6,1),(7,1),(8,0)] ?_
   refine AW.c2 ?_ ?_
   ·intro h21
    refine AW.rS ?_
    refine AW.rt ?_
    rw [decide_eq_false (fun e=>h21 (by rw [e]))]
   ·intro h21
    refine AW.skip ?_
    refine AW.rL ?_
    refine ⟨⟨i + 1,by omega,takeS_succ h15 (by omega) hs h21⟩,?_,?_⟩
    ·refine St.le.vw []
    ·simp only []; omega
  ·intro h15
   refine AW.exit ?_
   refine AW.rS ?_
   refine AW.rt ?_
   rw [List.take_of_length_le (by omega),List.take_of_length_le (by omega)] at hs
   simp [hs]
end Go.Proofs

namespace Go.Proofs
open Go Aw
set_option linter.unusedSimpArgs false
set_option linter.unusedVariables false
set_option maxRecDepth 100000
set_option maxHeartbeats 4000000
theorem equalObjs_step (gl : List (Nat × AV)) (N : Nat) (ih : ∀ x y : Pob,x.bulk < N → FnP Tryz.prog gl 71 [.agg x.cells,.agg y.cells] fun r=>r = .ret (.bool (decide (x = y)))) (a b : List Pob) (ha : a.length ≤ 16777216) (hb : ∀ i,i < a.length → (a.getD i Pob.null).bulk < N) : FnP Tryz.prog (gl) 95 [.sl (objsAV a),.sl (objsAV b),.clos 71 []] fun r=>r = .ret (.bool (decide (a = b))):=by
 refine FnP.intro Tryz.func95 rfl rfl (by simp [Tryz.ntmps95]) ?_
 simp only [argEnv,Tryz.ntmps95,Tryz.results95]
 refine AW.rS ?_
 refine AW.seq ?_
 refine AW.rS ?_
 refine AW.c2 ?_ ?_
 ·intro h4
  refine AW.rS ?_
  refine AW.rt ?_
  rw [decide_eq_false (fun e=>h4 (by rw [e]))]
 ·intro h4
  refine AW.skip ?_
  refine AW.seq ?_
  refine AW.rS ?_
  refine AW.block ?_
  refine AW.lk (S:={ i : Nat // i ≤ a.length ∧ a.take i = b.take i }) [1,2,15,16] (fun s_=>[(17,.int .i64 s_.1)]) (fun s_=>[]) 0 (fun s_=>a.length - s_.1) ⟨0,Nat.zero_le _,rfl⟩ ?_ ?_
  ·refine St.le.vw []
  rintro ⟨i,hi,hs⟩
  try dsimp only at hi
  try dsimp only at hs
  refine AW.rS ?_
  refine AW.seq ?_
  refine AW.c2 ?_ ?_
  ·intro h15
   refine AW.skip ?_
   refine AW.seq ?_
   refine AW.block ?_
   refine AW.rS ?_
   refine AW.rS ?_
   refine AW.rSC ?_
   refine awOps.cons (awGuard.c1 (ih (a.getD i Pob.null) (b.getD i Pob.null) (hb i (by omega))) ?_)
   refine awOps.rn ?_
   refine AW.c2 ?_ ?_
   ·intro h24
    refine AW.rS ?_
    refine AW.rt ?_
    rw [decide_eq_false (fun e=>h24 (by rw [e]))]
   ·intro h24
    refine AW.skip ?_
    refine AW.rL ?_
    refine ⟨⟨i + 1,by omega,takeO_succ h15 (by omega) hs h24⟩,?_,?_⟩
    ·refine St.le.vw []
    ·simp only []; omega
  ·intro h15
   refine AW.exit ?_
   refine AW.rS ?_
   refine AW.rt ?_
   rw [List.take_of_length_le (by omega),List.take_of_length_le (by omega)] at hs
   simp [hs]
theorem same_step (gl : List (Nat × AV)) (N : Nat) (hN : N ≤ 16777216) (ih : ∀ x y : Pob,x.bulk < N → FnP Tryz.prog gl 71 [.agg x.cells,.agg y.cells] fun r=>r = .ret (.bool (decide (x = y)))) (a b : Pob) (ha : a.bulk ≤ N) : FnP Tryz.prog (gl) 71 [.agg a.cells,.agg b.cells] fun r=>r = .ret (.bool (decide (a = b))):=by
 refine FnP.intro Tryz.func71 rfl rfl (by simp [Tryz.ntmps71]) ?_
 simp only [argEnv,Tryz.ntmps71,Tryz.results71]
 have hbulk:=Pob.bulk_eq a
 refine AW.rS ?_
 refine AW.rSC ?_
 refine awOps.cons (awGuard.cG (fun hg=>c_slices_Equal_string_string _ a.keys b.keys (by omega)) ?_)
 refine awOps.rn ?_
 refine awOps.cons (awGuard.cG (fun hg=>equalObjs_step _ N ih a.kids b.kids (by omega) (fun i hi=>Nat.lt_of_lt_of_le (Pob.bulk_kid hi) ha)) ?_)
 refine awOps.rn ?_
 refine AW.rt ?_
 rw [show ∀ x y : Bool,x = y → AE.ret (.bool x) = AE.ret (.bool y) from fun _ _ h=>by rw [h]]
 rw [Bool.eq_iff_iff]
 simp only [decide_eq_true_eq,Bool.cond_false_right,Bool.and_eq_true,Pob_eq a b,and_assoc]
theorem same_all (gl : List (Nat × AV)) (N : Nat) : N ≤ 16777216 → ∀ a b : Pob,a.bulk ≤ N → FnP Tryz.prog gl 71 [.agg a.cells,.agg b.cells] fun r=>r = .ret (.bool (decide (a = b))):=by
 induction N using Nat.strongRecOn with
 | ind N IH=>exact fun hN a b ha=>same_step gl N hN (fun x y h=>IH x.bulk h (by omega) x y (Nat.le_refl _)) a b ha
theorem c_value_Same (gl : List (Nat × AV)) (a b : Pob) (h : a.bulk ≤ 16777216:=by assumption) : FnP Tryz.prog gl 71 [.agg a.cells,.agg b.cells] fun r=>r = .ret (.bool (decide (a = b))):=same_all gl 16777216 (Nat.le_refl _) a b h
theorem c_docs_numbers (gl : List (Nat × AV)) (i : Itm) : FnP Tryz.prog (gl) 86 [.agg i.cells] fun r=>r = .ret (.bool (decide (1 ≤ i.num) && decide (i.num ≤ 8191) && decide (0 ≤ i.gen) && decide (i.gen ≤ 65535))):=by
 refine FnP.intro Tryz.func86 rfl rfl (by simp [Tryz.ntmps86]) ?_
 simp only [argEnv,Tryz.ntmps86,Tryz.results86]
 refine AW.rS ?_
 refine AW.rS ?_
 refine AW.rt ?_
 simp only [Bool.cond_false_right]
theorem c_docs_same (gl : List (Nat × AV)) (a b : Itm) (h : a.obj.bulk ≤ 16777216:=by first | omega | exact u8_le _ | assumption | (simp; done) | (simp; omega)) : FnP Tryz.prog (gl) 70 [.agg a.cells,.agg b.cells] fun r=>r = .ret (.bool (decide (a = b))):=by
 refine FnP.intro Tryz.func70 rfl rfl (by simp [Tryz.ntmps70]) ?_
 simp only [argEnv,Tryz.ntmps70,Tryz.results70]
 refine AW.rS ?_
 refine AW.rSC ?_
 refine awOps.cons (awGuard.cG (fun hg=>c_value_Same _ a.obj b.obj) ?_)
 refine awOps.rn ?_
 refine AW.rt ?_
 rw [show ∀ x y : Bool,x = y → AE.ret (.bool x) = AE.ret (.bool y) from fun _ _ h=>by rw [h]]
 rw [Bool.eq_iff_iff]
 simp only [decide_eq_true_eq,Bool.cond_false_right,Bool.and_eq_true,Itm_eq a b,and_assoc]
theorem c_docs_copied (gl : List (Nat × AV)) (i : Itm) (h : i.obj.bulk ≤ 16777216:=by first | omega | exact u8_le _ | assumption | (simp; done) | (simp; omega)) : FnP Tryz.prog (gl) 59 [.agg i.cells] fun r=>r = .ret (.agg i.cells):=by
 refine FnP.intro Tryz.func59 rfl rfl (by simp [Tryz.ntmps59]) ?_
 simp only [argEnv,Tryz.ntmps59,Tryz.results59]
 refine AW.rS ?_
 refine AW.rSC ?_
 refine awOps.cons (awGuard.c1 (c_value_Clone _ i.obj) ?_)
 refine awOps.rn ?_
 refine AW.rS ?_
 refine AW.rt ?_
 all_goals first | contradiction | rfl | (simp; done) | (simp; omega)
def badAV (e : Int) : AV:=.iface 107 (.agg [.int .i64 e])
attribute [go_sem] badAV
theorem c_value_must (gl : List (Nat × AV)) (b : Bool) (e : Int) : FnP Tryz.prog (gl) 98 [.bool b,.int .i64 e] fun r=>r = if b = true then .ret (.tup []) else .panic (badAV e):=by
 refine FnP.intro Tryz.func98 rfl rfl (by simp [Tryz.ntmps98]) ?_
 simp only [argEnv,Tryz.ntmps98,Tryz.results98]
 refine AW.rS ?_
 refine AW.c2 ?_ ?_
 ·intro h2
  refine AW.rLC ?_
  refine awOps.cons (awGuard.pn ?_)
  refine wk ?_
  rw [if_neg (by simp [h2])]
 ·intro h2
  refine AW.skip ?_
  refine wk ?_
  rw [if_pos h2]
theorem c_value_within_int64 (gl : List (Nat × AV)) (n a b : Int) : FnP Tryz.prog (gl) 125 [.int .i64 n,.int .i64 a,.int .i64 b] fun r=>r = .ret (.bool (decide (a ≤ n) && decide (n ≤ b))):=by
 refine FnP.intro Tryz.func125 rfl rfl (by simp [Tryz.ntmps125]) ?_
 simp only [argEnv,Tryz.ntmps125,Tryz.results125]
 refine AW.rS ?_
 refine AW.rS ?_
 refine AW.rt ?_
 simp only [Bool.cond_false_right]
theorem c_value_within_int (gl : List (Nat × AV)) (n a b : Int) : FnP Tryz.prog (gl) 126 [.int .i64 n,.int .i64 a,.int .i64 b] fun r=>r = .ret (.bool (decide (a ≤ n) && decide (n ≤ b))):=by
 refine FnP.intro Tryz.func126 rfl rfl (by simp [Tryz.ntmps126]) ?_
 simp only [argEnv,Tryz.ntmps126,Tryz.results126]
 refine AW.rS ?_
 refine AW.rS ?_
 refine AW.rt ?_
 simp only [Bool.cond_false_right]
theorem c_value_fits (gl : List (Nat × AV)) (o : Pob) : FnP Tryz.prog (gl) 100 [.agg o.cells] fun r=>r = .ret (.bool (fitsB o)):=by
 refine FnP.intro Tryz.func100 rfl rfl (by simp [Tryz.ntmps100]) ?_
 simp only [argEnv,Tryz.ntmps100,Tryz.results100]
 refine AW.rS ?_
 refine AW.seq ?_
 refine AW.rS ?_
 refine AW.block ?_
 refine AW.rS ?_
 refine AW.c2 ?_ ?_
 ·intro h6
  refine AW.rSC ?_
  refine awOps.cons (awGuard.c1 (c_value_within_int64 _ o.num 0 1) ?_)
  refine awOps.rn ?_
  refine AW.rt ?_
  simp_all [fitsB]
 ·intro h6
  refine AW.rS ?_
  refine AW.c2 ?_ ?_
  ·intro h13
   refine AW.rSC ?_
   refine awOps.cons (awGuard.c1 (c_value_within_int64 _ o.num (-2147483647) 2147483647) ?_)
   refine awOps.rn ?_
   refine AW.rt ?_
   simp_all [fitsB]
  ·intro h13
   refine AW.rS ?_
   refine AW.c2 ?_ ?_
   ·intro h20
    refine AW.rSC ?_
    refine awOps.cons (awGuard.c1 (c_value_within_int64 _ o.num (-1073741824) 1073741824) ?_)
    refine awOps.rn ?_
    refine AW.rt ?_
    simp_all [fitsB]
   ·intro h20
    refine AW.rS ?_
    refine AW.c2 ?_ ?_
    ·intro h27
     refine AW.rSC ?_
     refine awOps.cons (awGuard.c1 (c_value_within_int64 _ o.num 1 8191) ?_)
     refine awOps.rn ?_
     refine awOps.cons (awGuard.cG (fun hg=>c_value_within_int _ o.gen 0 65535) ?_)
     refine awOps.rn ?_
     refine AW.rt ?_
     simp_all [fitsB]
    ·intro h27
     refine AW.skip ?_
     refine AW.rS ?_
     refine AW.rt ?_
     simp_all [fitsB]
theorem c_value_short (gl : List (Nat × AV)) (o : Pob) : FnP Tryz.prog (gl) 101 [.agg o.cells] fun r=>r = .ret (.bool (shortB o)):=by
 refine FnP.intro Tryz.func101 rfl rfl (by simp [Tryz.ntmps101]) ?_
 simp only [argEnv,Tryz.ntmps101,Tryz.results101]
 refine AW.rS ?_
 refine AW.seq ?_
 refine AW.rS ?_
 refine AW.block ?_
 refine AW.rS ?_
 refine AW.c2 ?_ ?_
 ·intro h6
  refine AW.rS ?_
  refine AW.rt ?_
  simp_all [shortB]
 ·intro h6
  refine AW.rS ?_
  refine AW.c2 ?_ ?_
  ·intro h11
   refine AW.rS ?_
   refine AW.rt ?_
   simp_all [shortB]
  ·intro h11
   refine AW.skip ?_
   refine AW.rS ?_
   refine AW.rt ?_
   simp_all [shortB]
theorem c_value_used (gl : List (Nat × AV)) (k : Int) : FnP Tryz.prog (gl) 99 [.int .i64 k] fun r=>r = .ret (.tup [.agg [.bool (uN k),.bool (uG k),.bool (uS k),.bool (uKeys k),.bool (uKids k)],.bool (uOk k)]):=by
 refine FnP.intro Tryz.func99 rfl rfl (by simp [Tryz.ntmps99]) ?_
 simp only [argEnv,Tryz.ntmps99,Tryz.results99]
 refine AW.rS ?_
 refine AW.seq ?_
 refine AW.rS ?_
 refine AW.block ?_
 refine AW.rS ?_
 refine AW.c2 ?_ ?_
 ·intro h6
  refine AW.rS ?_
  refine AW.rt ?_
  first | (exfalso; omega) | (refine used_eq ?_ ?_ ?_ ?_ ?_ ?_ <;> simp only [uN,uG,uS,uKeys,uKids,uOk] <;> first | (subst_vars; rfl) | grind)
 ·intro h6
  refine AW.seq ?_
  refine AW.rS ?_
  refine AW.c2 ?_ ?_
  ·intro h12
   refine AW.skip ?_
   refine AW.c2 ?_ ?_
   ·intro h14
    refine AW.rS ?_
    refine AW.rt ?_
    first | (exfalso; omega) | (refine used_eq ?_ ?_ ?_ ?_ ?_ ?_ <;> simp only [uN,uG,uS,uKeys,uKids,uOk] <;> first | (subst_vars; rfl) | grind)
   ·intro h14
    refine AW.seq ?_
    refine AW.rS ?_
    refine AW.c2 ?_ ?_
    ·intro h20
     refine AW.skip ?_
     refine AW.c2 ?_ ?_
     ·intro h22
      refine AW.rS ?_
      refine AW.rt ?_
      first | (exfalso; omega) | (refine used_eq ?_ ?_ ?_ ?_ ?_ ?_ <;> simp only [uN,uG,uS,uKeys,uKids,uOk] <;> first | (subst_vars; rfl) | grind)
     ·intro h22
      refine AW.rS ?_
      refine AW.c2 ?_ ?_
      ·intro h27
       refine AW.rS ?_
       refine AW.rt ?_
       first | (exfalso; omega) | (refine used_eq ?_ ?_ ?_ ?_ ?_ ?_ <;> simp only [uN,uG,uS,uKeys,uKids,uOk] <;> first | (subst_vars; rfl) | grind)
      ·intro h27
       refine AW.rS ?_
       refine AW.c2 ?_ ?_
       ·intro h32
        refine AW.rS ?_
        refine AW.rt ?_
        first | (exfalso; omega) | (refine used_eq ?_ ?_ ?_ ?_ ?_ ?_ <;> simp only [uN,uG,uS,uKeys,uKids,uOk] <;> first | (subst_vars; rfl) | grind)
       ·intro h32
        refine AW.rS ?_
        refine AW.c2 ?_ ?_
        ·intro h37
         refine AW.rS ?_
         refine AW.rt ?_
         first | (exfalso; omega) | (refine used_eq ?_ ?_ ?_ ?_ ?_ ?_ <;> simp only [uN,uG,uS,uKeys,uKids,uOk] <;> first | (subst_vars; rfl) | grind)
        ·intro h37
         refine AW.rS ?_
         refine AW.c2 ?_ ?_
         ·intro h42
          refine AW.rS ?_
          refine AW.rt ?_
          first | (exfalso; omega) | (refine used_eq ?_ ?_ ?_ ?_ ?_ ?_ <;> simp only [uN,uG,uS,uKeys,uKids,uOk] <;> first | (subst_vars; rfl) | grind)
         ·intro h42
          refine AW.skip ?_
          refine AW.rS ?_
          refine AW.rt ?_
          first | (exfalso; omega) | (refine used_eq ?_ ?_ ?_ ?_ ?_ ?_ <;> simp only [uN,uG,uS,uKeys,uKids,uOk] <;> first | (subst_vars; rfl) | grind)
    ·intro h20
     refine AW.rL ?_
     refine AW.c2 ?_ ?_
     ·intro h51
      refine AW.rS ?_
      refine AW.rt ?_
      first | (exfalso; omega) | (refine used_eq ?_ ?_ ?_ ?_ ?_ ?_ <;> simp only [uN,uG,uS,uKeys,uKids,uOk] <;> first | (subst_vars; rfl) | grind)
     ·intro h51
      refine AW.rS ?_
      refine AW.c2 ?_ ?_
      ·intro h56
       refine AW.rS ?_
       refine AW.rt ?_
       first | (exfalso; omega) | (refine used_eq ?_ ?_ ?_ ?_ ?_ ?_ <;> simp only [uN,uG,uS,uKeys,uKids,uOk] <;> first | (subst_vars; rfl) | grind)
      ·intro h56
       refine AW.rS ?_
       refine AW.c2 ?_ ?_
       ·intro h61
        refine AW.rS ?_
        refine AW.rt ?_
        first | (exfalso; omega) | (refine used_eq ?_ ?_ ?_ ?_ ?_ ?_ <;> simp only [uN,uG,uS,uKeys,uKids,uOk] <;> first | (subst_vars; rfl) | grind)
       ·intro h61
        refine AW.rS ?_
        refine AW.c2 ?_ ?_
        ·intro h66
         refine AW.rS ?_
         refine AW.rt ?_
         first | (exfalso; omega) | (refine used_eq ?_ ?_ ?_ ?_ ?_ ?_ <;> simp only [uN,uG,uS,uKeys,uKids,uOk] <;> first | (subst_vars; rfl) | grind)
        ·intro h66
         refine AW.rS ?_
         refine AW.c2 ?_ ?_
         ·intro h71
          refine AW.rS ?_
          refine AW.rt ?_
          first | (exfalso; omega) | (refine used_eq ?_ ?_ ?_ ?_ ?_ ?_ <;> simp only [uN,uG,uS,uKeys,uKids,uOk] <;> first | (subst_vars; rfl) | grind)
         ·intro h71
          refine AW.skip ?_
          refine AW.rS ?_
          refine AW.rt ?_
          first | (exfalso; omega) | (refine used_eq ?_ ?_ ?_ ?_ ?_ ?_ <;> simp only [uN,uG,uS,uKeys,uKids,uOk] <;> first | (subst_vars; rfl) | grind)
  ·intro h12
   refine AW.rS ?_
   refine AW.c2 ?_ ?_
   ·intro h80
    refine AW.skip ?_
    refine AW.c2 ?_ ?_
    ·intro h82
     refine AW.rS ?_
     refine AW.rt ?_
     first | (exfalso; omega) | (refine used_eq ?_ ?_ ?_ ?_ ?_ ?_ <;> simp only [uN,uG,uS,uKeys,uKids,uOk] <;> first | (subst_vars; rfl) | grind)
    ·intro h82
     refine AW.seq ?_
     refine AW.rS ?_
     refine AW.c2 ?_ ?_
     ·intro h88
      refine AW.skip ?_
      refine AW.c2 ?_ ?_
      ·intro h90
       refine AW.rS ?_
       refine AW.rt ?_
       first | (exfalso; omega) | (refine used_eq ?_ ?_ ?_ ?_ ?_ ?_ <;> simp only [uN,uG,uS,uKeys,uKids,uOk] <;> first | (subst_vars; rfl) | grind)
      ·intro h90
       refine AW.rS ?_
       refine AW.c2 ?_ ?_
       ·intro h95
        refine AW.rS ?_
        refine AW.rt ?_
        first | (exfalso; omega) | (refine used_eq ?_ ?_ ?_ ?_ ?_ ?_ <;> simp only [uN,uG,uS,uKeys,uKids,uOk] <;> first | (subst_vars; rfl) | grind)
       ·intro h95
        refine AW.rS ?_
        refine AW.c2 ?_ ?_
        ·intro h100
         refine AW.rS ?_
         refine AW.rt ?_
         first | (exfalso; omega) | (refine used_eq ?_ ?_ ?_ ?_ ?_ ?_ <;> simp only [uN,uG,uS,uKeys,uKids,uOk] <;> first | (subst_vars; rfl) | grind)
        ·intro h100
         refine AW.rS ?_
         refine AW.c2 ?_ ?_
         ·intro h105
          refine AW.rS ?_
          refine AW.rt ?_
          first | (exfalso; omega) | (refine used_eq ?_ ?_ ?_ ?_ ?_ ?_ <;> simp only [uN,uG,uS,uKeys,uKids,uOk] <;> first | (subst_vars; rfl) | grind)
         ·intro h105
          refine AW.rS ?_
          refine AW.c2 ?_ ?_
          ·intro h110
           refine AW.rS ?_
           refine AW.rt ?_
           first | (exfalso; omega) | (refine used_eq ?_ ?_ ?_ ?_ ?_ ?_ <;> simp only [uN,uG,uS,uKeys,uKids,uOk] <;> first | (subst_vars; rfl) | grind)
          ·intro h110
           refine AW.skip ?_
           refine AW.rS ?_
           refine AW.rt ?_
           first | (exfalso; omega) | (refine used_eq ?_ ?_ ?_ ?_ ?_ ?_ <;> simp only [uN,uG,uS,uKeys,uKids,uOk] <;> first | (subst_vars; rfl) | grind)
     ·intro h88
      refine AW.rL ?_
      refine AW.c2 ?_ ?_
      ·intro h119
       refine AW.rS ?_
       refine AW.rt ?_
       first | (exfalso; omega) | (refine used_eq ?_ ?_ ?_ ?_ ?_ ?_ <;> simp only [uN,uG,uS,uKeys,uKids,uOk] <;> first | (subst_vars; rfl) | grind)
      ·intro h119
       refine AW.rS ?_
       refine AW.c2 ?_ ?_
       ·intro h124
        refine AW.rS ?_
        refine AW.rt ?_
        first | (exfalso; omega) | (refine used_eq ?_ ?_ ?_ ?_ ?_ ?_ <;> simp only [uN,uG,uS,uKeys,uKids,uOk] <;> first | (subst_vars; rfl) | grind)
       ·intro h124
        refine AW.rS ?_
        refine AW.c2 ?_ ?_
        ·intro h129
         refine AW.rS ?_
         refine AW.rt ?_
         first | (exfalso; omega) | (refine used_eq ?_ ?_ ?_ ?_ ?_ ?_ <;> simp only [uN,uG,uS,uKeys,uKids,uOk] <;> first | (subst_vars; rfl) | grind)
        ·intro h129
         refine AW.rS ?_
         refine AW.c2 ?_ ?_
         ·intro h134
          refine AW.rS ?_
          refine AW.rt ?_
          first | (exfalso; omega) | (refine used_eq ?_ ?_ ?_ ?_ ?_ ?_ <;> simp only [uN,uG,uS,uKeys,uKids,uOk] <;> first | (subst_vars; rfl) | grind)
         ·intro h134
          refine AW.rS ?_
          refine AW.c2 ?_ ?_
          ·intro h139
           refine AW.rS ?_
           refine AW.rt ?_
           first | (exfalso; omega) | (refine used_eq ?_ ?_ ?_ ?_ ?_ ?_ <;> simp only [uN,uG,uS,uKeys,uKids,uOk] <;> first | (subst_vars; rfl) | grind)
          ·intro h139
           refine AW.skip ?_
           refine AW.rS ?_
           refine AW.rt ?_
           first | (exfalso; omega) | (refine used_eq ?_ ?_ ?_ ?_ ?_ ?_ <;> simp only [uN,uG,uS,uKeys,uKids,uOk] <;> first | (subst_vars; rfl) | grind)
   ·intro h80
    refine AW.rL ?_
    refine AW.c2 ?_ ?_
    ·intro h148
     refine AW.rS ?_
     refine AW.rt ?_
     first | (exfalso; omega) | (refine used_eq ?_ ?_ ?_ ?_ ?_ ?_ <;> simp only [uN,uG,uS,uKeys,uKids,uOk] <;> first | (subst_vars; rfl) | grind)
    ·intro h148
     refine AW.seq ?_
     refine AW.rS ?_
     refine AW.c2 ?_ ?_
     ·intro h154
      refine AW.skip ?_
      refine AW.c2 ?_ ?_
      ·intro h156
       refine AW.rS ?_
       refine AW.rt ?_
       first | (exfalso; omega) | (refine used_eq ?_ ?_ ?_ ?_ ?_ ?_ <;> simp only [uN,uG,uS,uKeys,uKids,uOk] <;> first | (subst_vars; rfl) | grind)
      ·intro h156
       refine AW.rS ?_
       refine AW.c2 ?_ ?_
       ·intro h161
        refine AW.rS ?_
        refine AW.rt ?_
        first | (exfalso; omega) | (refine used_eq ?_ ?_ ?_ ?_ ?_ ?_ <;> simp only [uN,uG,uS,uKeys,uKids,uOk] <;> first | (subst_vars; rfl) | grind)
       ·intro h161
        refine AW.rS ?_
        refine AW.c2 ?_ ?_
        ·intro h166
         refine AW.rS ?_
         refine AW.rt ?_
         first | (exfalso; omega) | (refine used_eq ?_ ?_ ?_ ?_ ?_ ?_ <;> simp only [uN,uG,uS,uKeys,uKids,uOk] <;> first | (subst_vars; rfl) | grind)
        ·intro h166
         refine AW.rS ?_
         refine AW.c2 ?_ ?_
         ·intro h171
          refine AW.rS ?_
          refine AW.rt ?_
          first | (exfalso; omega) | (refine used_eq ?_ ?_ ?_ ?_ ?_ ?_ <;> simp only [uN,uG,uS,uKeys,uKids,uOk] <;> first | (subst_vars; rfl) | grind)
         ·intro h171
          refine AW.rS ?_
          refine AW.c2 ?_ ?_
          ·intro h176
           refine AW.rS ?_
           refine AW.rt ?_
           first | (exfalso; omega) | (refine used_eq ?_ ?_ ?_ ?_ ?_ ?_ <;> simp only [uN,uG,uS,uKeys,uKids,uOk] <;> first | (subst_vars; rfl) | grind)
          ·intro h176
           refine AW.skip ?_
           refine AW.rS ?_
           refine AW.rt ?_
           first | (exfalso; omega) | (refine used_eq ?_ ?_ ?_ ?_ ?_ ?_ <;> simp only [uN,uG,uS,uKeys,uKids,uOk] <;> first | (subst_vars; rfl) | grind)
     ·intro h154
      refine AW.rL ?_
      refine AW.c2 ?_ ?_
      ·intro h185
       refine AW.rS ?_
       refine AW.rt ?_
       first | (exfalso; omega) | (refine used_eq ?_ ?_ ?_ ?_ ?_ ?_ <;> simp only [uN,uG,uS,uKeys,uKids,uOk] <;> first | (subst_vars; rfl) | grind)
      ·intro h185
       refine AW.rS ?_
       refine AW.c2 ?_ ?_
       ·intro h190
        refine AW.rS ?_
        refine AW.rt ?_
        first | (exfalso; omega) | (refine used_eq ?_ ?_ ?_ ?_ ?_ ?_ <;> simp only [uN,uG,uS,uKeys,uKids,uOk] <;> first | (subst_vars; rfl) | grind)
       ·intro h190
        refine AW.rS ?_
        refine AW.c2 ?_ ?_
        ·intro h195
         refine AW.rS ?_
         refine AW.rt ?_
         first | (exfalso; omega) | (refine used_eq ?_ ?_ ?_ ?_ ?_ ?_ <;> simp only [uN,uG,uS,uKeys,uKids,uOk] <;> first | (subst_vars; rfl) | grind)
        ·intro h195
         refine AW.rS ?_
         refine AW.c2 ?_ ?_
         ·intro h200
          refine AW.rS ?_
          refine AW.rt ?_
          first | (exfalso; omega) | (refine used_eq ?_ ?_ ?_ ?_ ?_ ?_ <;> simp only [uN,uG,uS,uKeys,uKids,uOk] <;> first | (subst_vars; rfl) | grind)
         ·intro h200
          refine AW.rS ?_
          refine AW.c2 ?_ ?_
          ·intro h205
           refine AW.rS ?_
           refine AW.rt ?_
           first | (exfalso; omega) | (refine used_eq ?_ ?_ ?_ ?_ ?_ ?_ <;> simp only [uN,uG,uS,uKeys,uKids,uOk] <;> first | (subst_vars; rfl) | grind)
          ·intro h205
           refine AW.skip ?_
           refine AW.rS ?_
           refine AW.rt ?_
           first | (exfalso; omega) | (refine used_eq ?_ ?_ ?_ ?_ ?_ ?_ <;> simp only [uN,uG,uS,uKeys,uKids,uOk] <;> first | (subst_vars; rfl) | grind)
end Go.Proofs

namespace Go.Proofs
open Go.Shelf
def Tryz.lays137_ren : Go.Shelf.Ren:=⟨fun | 137=>127 | 217=>138 | 266=>145 | n=>n,fun | 9=>9 | 5=>5 | 3=>3 | n=>n,fun | n=>n⟩
theorem Tryz.lays137 : Go.Proofs.Lays.n137 Tryz.prog Tryz.lays137_ren:={
 mixed:=by kernel_rfl
 f137:=Tryz.func127.trans (congrArg some (by kernel_rfl))
 f217:=Tryz.func138.trans (congrArg some (by kernel_rfl))
 f266:=Tryz.func145.trans (congrArg some (by kernel_rfl))
 t3:=Tryz.underlying3
 a3:=Tryz.isAgg3
 z3:=Tryz.sizeOf3
 v3:=Tryz.zeroValue3
 t5:=Tryz.underlying5
 a5:=Tryz.isAgg5
 z5:=Tryz.sizeOf5
 v5:=Tryz.zeroValue5
 t9:=Tryz.underlying9
 a9:=Tryz.isAgg9
 z9:=Tryz.sizeOf9
 v9:=Tryz.zeroValue9 }
open Go.RowKit in
theorem Tryz.strings_IndexByte (s : ByteArray) (c : Int) (w : World) :
  Calls Tryz.prog 127 #[.string s,.int .u8 c] w fun e w'=>e = .returned (.int .i64 (Lib.indexByte s.data.toList c.toNat.toUInt8)) ∧ w' = w:=Any.strings_IndexByte Tryz.lays137 s c w
end Go.Proofs

namespace Go.Proofs
open Go Aw
set_option linter.unusedSimpArgs false
set_option linter.unusedVariables false
set_option maxRecDepth 100000
set_option maxHeartbeats 4000000
theorem c_strings_IndexByte (gl : List (Nat × AV)) (s : List UInt8) (c : Int) : FnP Tryz.prog gl 127 [.str s,.int .u8 c] fun r=>r = .ret (.int .i64 (Lib.indexByte s c.toNat.toUInt8)):=by
 refine FnP.same (enters_of Tryz.func127 rfl rfl) ?_
 intro m vs _ hv
 simp only [RepL,Rep] at hv
 obtain ⟨_,_,rfl,rfl,_,_,rfl,rfl,rfl⟩:=hv
 refine (Tryz.strings_IndexByte ⟨s.toArray⟩ c m.w).mono ?_
 rintro e w' ⟨rfl,rfl⟩
 exact ⟨⟨_,rfl,fun m=>by simp only [Rep]⟩,rfl⟩
theorem c_value_key (gl : List (Nat × AV)) (s : List UInt8) : FnP Tryz.prog (gl) 102 [.str s] fun r=>r = .ret (.bool (nameB s)):=by
 refine FnP.intro Tryz.func102 rfl rfl (by simp [Tryz.ntmps102]) ?_
 simp only [argEnv,Tryz.ntmps102,Tryz.results102]
 refine AW.rS ?_
 refine AW.rSC ?_
 refine awOps.cons (awGuard.cG (fun hg=>c_strings_IndexByte _ s 0) ?_)
 refine awOps.rn ?_
 refine AW.rt ?_
 simp only [nameB,Bool.cond_false_right]; rfl
theorem c_value_rising (gl : List (Nat × AV)) (o : Pob) (hk : o.keys.length ≤ 16777216:=by first | omega | exact u8_le _ | assumption | (simp; done) | (simp; omega)) : FnP Tryz.prog (gl) 103 [.agg o.cells] fun r=>r = .ret (.bool (risingB o)):=by
 refine FnP.intro Tryz.func103 rfl rfl (by simp [Tryz.ntmps103]) ?_
 simp only [argEnv,Tryz.ntmps103,Tryz.results103]
 refine AW.rS ?_
 refine AW.seq ?_
 refine AW.rS ?_
 refine AW.c2 ?_ ?_
 ·intro h4
  refine AW.rS ?_
  refine AW.rt ?_
  rw [rising_no (fun h=>by have:=h.1; omega)]
 ·intro h4
  refine AW.skip ?_
  refine AW.seq ?_
  refine AW.rS ?_
  refine AW.block ?_
  refine AW.lk (S:={ i : Nat // i ≤ o.keys.length ∧ ∀ j,j < i → okKey o j }) [1,13,14] (fun s_=>[(15,.int .i64 s_.1)]) (fun s_=>[(0,.cells [.int .i64 o.kind,.int .i64 o.num,.int .i64 o.gen,.str o.str,.sl (strsAV o.keys),.sl (objsAV o.kids)])]) 1 (fun s_=>o.keys.length - s_.1) ⟨0,Nat.zero_le _,fun j h=>absurd h (by omega)⟩ ?_ ?_
  ·refine St.le.vw [0]
  rintro ⟨i,hi,hs⟩
  try dsimp only at hi
  try dsimp only at hs
  refine AW.rS ?_
  refine AW.seq ?_
  refine AW.c2 ?_ ?_
  ·intro h15
   refine AW.skip ?_
   refine AW.seq ?_
   refine AW.block ?_
   refine AW.rS ?_
   refine AW.rSC ?_
   refine awOps.cons (awGuard.c1 (c_value_key _ (o.keys.getD i [])) ?_)
   refine awOps.rn ?_
   refine AW.c2 ?_ ?_
   ·intro h23
    refine AW.rS ?_
    refine AW.rt ?_
    rw [rising_no (fun h=>by have:=h.2 i h15; simp only [okKey] at this; grind)]
   ·intro h23
    refine AW.skip ?_
    have hok : okKey o i:=by simp only [okKey]; grind
    refine AW.rL ?_
    refine ⟨⟨i + 1,by omega,fun j hj=>by rcases Nat.lt_succ_iff_lt_or_eq.1 hj with h | rfl; exact hs j h; exact hok⟩,?_,?_⟩
    ·refine St.le.vw [0]
    ·simp only []; omega
  ·intro h15
   refine AW.exit ?_
   refine AW.rS ?_
   refine AW.rt ?_
   rw [rising_yes ⟨by omega,fun j hj=>hs j (by omega)⟩]
theorem check_step (gl : List (Nat × AV)) (N : Nat) (hN : N ≤ 16777216) (ih : ∀ (o' : Pob) (d : Int),o'.bulk < N → 0 ≤ d → FnP Tryz.prog gl 77 [.agg o'.cells,.int .i64 d] fun r=>r = if decide (chk o' d = 0) = true then .ret (.tup []) else .panic (badAV (chk o' d))) (o : Pob) (d : Int) (ho : o.bulk ≤ N) (hd : 0 ≤ d) : FnP Tryz.prog (gl) 77 [.agg o.cells,.int .i64 d] fun r=>r = if decide (chk o d = 0) = true then .ret (.tup []) else .panic (badAV (chk o d)):=by
 refine FnP.intro Tryz.func77 rfl rfl (by simp [Tryz.ntmps77]) ?_
 simp only [argEnv,Tryz.ntmps77,Tryz.results77]
 have hbulk:=Pob.bulk_eq o
 refine AW.rS ?_
 refine AW.rSC ?_
 refine awOps.cons (awGuard.cM (c_value_must _ (decide (d ≤ 24)) 7) ?_ ?_)
 ·intro hp3
  refine wk ?_
  rw [chk_bad (e:=7) (by simp [ownE,hp3]) (by omega)]; simp
 intro hm3
 refine awOps.rn ?_
 refine AW.rSC ?_
 refine awOps.cons (awGuard.c1 (c_value_used _ o.kind) ?_)
 refine awOps.rn ?_
 refine AW.rSC ?_
 refine awOps.cons (awGuard.cM (c_value_must _ (useB o d) 10) ?_ ?_)
 ·intro hp9
  refine wk ?_
  rw [chk_bad (e:=10) (by simp [ownE,hm3,hp9]) (by omega)]; simp
 intro hm9
 refine awOps.rn ?_
 refine AW.rSC ?_
 refine awOps.cons (awGuard.c1 (c_value_fits _ o) ?_)
 refine awOps.rn ?_
 refine awOps.cons (awGuard.cM (c_value_must _ (fitsB o) 2) ?_ ?_)
 ·intro hp14
  refine wk ?_
  rw [chk_bad (e:=2) (by simp [ownE,hm3,hm9,hp14]) (by omega)]; simp
 intro hm14
 refine awOps.rn ?_
 refine AW.rSC ?_
 refine awOps.cons (awGuard.c1 (c_value_short _ o) ?_)
 refine awOps.rn ?_
 refine awOps.cons (awGuard.cM (c_value_must _ (shortB o) 5) ?_ ?_)
 ·intro hp19
  refine wk ?_
  rw [chk_bad (e:=5) (by simp [ownE,hm3,hm9,hm14,hp19]) (by omega)]; simp
 intro hm19
 refine awOps.rn ?_
 refine AW.rSC ?_
 refine awOps.cons (awGuard.cM (c_value_must _ (decide ((o.kids.length : Int) ≤ 8191)) 6) ?_ ?_)
 ·intro hp22
  refine wk ?_
  rw [chk_bad (e:=6) (by simp [ownE,hm3,hm9,hm14,hm19,hp22]) (by omega)]; simp
 intro hm22
 refine awOps.rn ?_
 refine AW.rSC ?_
 refine awOps.cons (awGuard.cG (fun hg=>c_value_key _ o.str) ?_)
 refine awOps.rn ?_
 refine awOps.cons (awGuard.cG (fun hg=>c_value_rising _ o (by omega)) ?_)
 refine awOps.rn ?_
 refine awOps.cons (awGuard.cM (c_value_must _ (formB o) 3) ?_ ?_)
 ·intro hp29
  refine wk ?_
  rw [chk_bad (e:=3) (by simp [ownE,hm3,hm9,hm14,hm19,hm22,hp29]) (by omega)]; simp
 intro hm29
 refine awOps.rn ?_
 refine AW.rS ?_
 refine AW.block ?_
 have hown : ownE o d = 0:=by simp [ownE,hm3,hm9,hm14,hm19,hm22,hm29]
 refine AW.lk (S:={ i : Nat // i ≤ o.kids.length ∧ chkL o.kids (d + 1) = chkL (o.kids.drop i) (d + 1) }) [1,105,106] (fun s_=>[(107,.int .i64 s_.1)]) (fun s_=>[]) 0 (fun s_=>o.kids.length - s_.1) ⟨0,Nat.zero_le _,rfl⟩ ?_ ?_
 ·refine St.le.vw []
 rintro ⟨i,hi,hs⟩
 try dsimp only at hi
 try dsimp only at hs
 refine AW.rS ?_
 refine AW.seq ?_
 refine AW.c2 ?_ ?_
 ·intro h36
  refine AW.skip ?_
  refine AW.seq ?_
  refine AW.block ?_
  refine AW.rS ?_
  refine AW.rLC ?_
  refine awOps.cons (awGuard.cM (ih (o.kids.getD i Pob.null) (d + 1) (Nat.lt_of_lt_of_le (Pob.bulk_kid (by omega)) ho) (by omega)) ?_ ?_)
  ·intro hp42
   refine wk ?_
   rw [chk_eq o d,hown,if_pos rfl,hs,chkL_drop (by omega),if_neg hp42,decide_eq_false hp42] <;> rfl
  intro hm42
  refine awOps.rn ?_
  refine AW.rL ?_
  refine ⟨⟨i + 1,by omega,by rw [hs,chkL_drop (by omega),if_pos hm42]⟩,?_,?_⟩
  ·refine St.le.vw []
  ·simp only []; omega
 ·intro h36
  refine AW.exit ?_
  refine wk ?_
  rw [chk_eq o d,hown,if_pos rfl,hs,List.drop_of_length_le (by omega)]; simp [chkL]
theorem check_all (gl : List (Nat × AV)) (N : Nat) : N ≤ 16777216 → ∀ (o : Pob) (d : Int),0 ≤ d → o.bulk ≤ N → FnP Tryz.prog gl 77 [.agg o.cells,.int .i64 d] fun r=>r = if decide (chk o d = 0) = true then .ret (.tup []) else .panic (badAV (chk o d)):=by
 induction N using Nat.strongRecOn with
 | ind N IH=>exact fun hN o d hd ho=>check_step gl N hN (fun o' d' h hd'=>IH o'.bulk h (by omega) o' d' hd' (Nat.le_refl _)) o d ho hd
theorem c_value_check (gl : List (Nat × AV)) (o : Pob) (d : Int) (hd : 0 ≤ d) (h : o.bulk ≤ 16777216:=by assumption) : FnP Tryz.prog gl 77 [.agg o.cells,.int .i64 d] fun r=>r = if decide (chk o d = 0) = true then .ret (.tup []) else .panic (badAV (chk o d)):=check_all gl 16777216 (Nat.le_refl _) o d hd h
theorem d_caught_ret (gl : List (Nat × AV)) (e : Int) : FnD Tryz.prog gl 97 [.ptr 0 0] [(0,.cells [.int .i64 e])] 1 .ret (fun u hp nx=>u = .ret ∧ hp = [(0,.cells [.int .i64 e])] ∧ nx = 1):=by
 refine FnD.intro Tryz.func97 rfl rfl (by simp [Tryz.ntmps97]) ?_
 simp only [argEnv,Tryz.ntmps97,Tryz.results97]
 refine AWD.seq (AWD.regRecover rfl rfl rfl rfl (by simp only [go_sem,seval]) ?_)
 refine awOps.rn ?_
 refine AWD.of ?_
 refine AW.block ?_
 refine AW.rS ?_
 refine AW.c2 ?_ ?_
 ·intro h4
  refine AW.rL ?_
  refine wk ?_
  trivial
 ·intro h4
  simp at h4
theorem d_caught_pan (gl : List (Nat × AV)) (e0 e : Int) : FnD Tryz.prog gl 97 [.ptr 0 0] [(0,.cells [.int .i64 e0])] 1 (.pan (badAV e)) (fun u hp nx=>u = .ret ∧ hp = [(0,.cells [.int .i64 e]),(1,.cells [.int .i64 e])] ∧ nx = 2):=by
 refine FnD.intro Tryz.func97 rfl rfl (by simp [Tryz.ntmps97]) ?_
 simp only [argEnv,Tryz.ntmps97,Tryz.results97]
 refine AWD.seq (AWD.regRecover rfl rfl rfl rfl (by simp only [go_sem,seval]) ?_)
 refine awOps.rn ?_
 refine AWD.of ?_
 refine AW.block ?_
 simp only [badAV]
 refine AW.rS ?_
 refine AW.c2 ?_ ?_
 ·intro h4
  simp at h4
 ·intro h4
  refine AW.rS ?_
  refine AW.c2 ?_ ?_
  ·intro h9
   refine AW.rS ?_
   refine AW.rL ?_
   refine wk ?_
   trivial
  ·intro h9
   simp at h9
theorem c_value_caught (gl : List (Nat × AV)) (f : FuncId) (cs : List AV) (e : Int) (hc : FnP Tryz.prog gl f [.tptr cs] fun r=>r = if decide (e = 0) = true then .ret (.tup []) else .panic (badAV e)) : FnP Tryz.prog (gl) 75 [.clos f [.tptr cs]] fun r=>r = .ret (.int .i64 e):=by
 refine FnP.introD Tryz.func75 rfl rfl (by simp [Tryz.ntmps75]) ?_
 simp only [argEnv,Tryz.ntmps75]
 refine AW.rS ?_
 refine AW.df ?_
 refine AW.rSC ?_
 refine awOps.cons (awGuard.cM (hc) ?_ ?_)
 ·intro hp4
  refine wk ?_
  refine finD_pan ?_
  refine LeaveS.c1 [0] (d_caught_pan _ 0 e) ?_
  refine LeaveS.rt Tryz.results75 ?_
  trivial
 intro hm4
 refine awOps.rn ?_
 refine AW.rS ?_
 refine AW.rt ?_
 refine LeaveS.c1 [0] (d_caught_ret _ 0) ?_
 refine LeaveS.rt Tryz.results75 ?_
 rw [hm4]
theorem c_value_Check_1 (gl : List (Nat × AV)) (o : Pob) (h : o.bulk ≤ 16777216:=by first | omega | exact u8_le _ | assumption | (simp; done) | (simp; omega)) : FnP Tryz.prog (gl) 76 [.tptr o.cells] fun r=>r = if decide (chk o 1 = 0) = true then .ret (.tup []) else .panic (badAV (chk o 1)):=by
 refine FnP.intro Tryz.func76 rfl rfl (by simp [Tryz.ntmps76]) ?_
 simp only [argEnv,Tryz.ntmps76,Tryz.results76]
 refine AW.rLC ?_
 refine awOps.cons (awGuard.cM (c_value_check _ o 1 (by omega)) ?_ ?_)
 ·intro hp2
  refine wk ?_
  rw [decide_eq_false hp2]; simp
 intro hm2
 refine awOps.rn ?_
 refine wk ?_
 rw [decide_eq_true hm2]; simp
theorem c_value_Check (gl : List (Nat × AV)) (o : Pob) (h : o.bulk ≤ 16777216:=by first | omega | exact u8_le _ | assumption | (simp; done) | (simp; omega)) : FnP Tryz.prog (gl) 47 [.agg o.cells] fun r=>r = .ret (.int .i64 (chk o 1)):=by
 refine FnP.intro Tryz.func47 rfl rfl (by simp [Tryz.ntmps47]) ?_
 simp only [argEnv,Tryz.ntmps47,Tryz.results47]
 refine AW.rS ?_
 refine AW.rSC ?_
 refine awOps.cons (awGuard.c1 (c_value_caught _ 76 o.cells (chk o 1) (c_value_Check_1 _ o)) ?_)
 refine awOps.rn ?_
 refine AW.rt ?_
 all_goals first | contradiction | rfl | (simp; done) | (simp; omega)
theorem c_value_Null (gl : List (Nat × AV))  : FnP Tryz.prog (gl) 64 [] fun r=>r = .ret (.agg Pob.null.cells):=by
 refine FnP.intro Tryz.func64 rfl rfl (by simp [Tryz.ntmps64]) ?_
 simp only [argEnv,Tryz.ntmps64,Tryz.results64]
 refine AW.rS ?_
 refine AW.rS ?_
 refine AW.rt ?_
 all_goals first | contradiction | rfl | (simp; done) | (simp; omega)
theorem c_value_Ref (gl : List (Nat × AV)) (n g : Int) (hn : -9223372036854775808 ≤ n ∧ n ≤ 9223372036854775807:=by first | omega | exact u8_le _ | assumption | (simp; done) | (simp; omega)) : FnP Tryz.prog (gl) 65 [.int .i64 n,.int .i64 g] fun r=>r = .ret (.agg (refO n g).cells):=by
 refine FnP.intro Tryz.func65 rfl rfl (by simp [Tryz.ntmps65]) ?_
 simp only [argEnv,Tryz.ntmps65,Tryz.results65]
 refine AW.rS ?_
 refine AW.rS ?_
 refine AW.rt ?_
 all_goals first | contradiction | rfl | (simp; done) | (simp; omega)
end Go.Proofs

namespace Aw
open Go
def dropB (o : Pob) (key : List UInt8) : Bool:=keyedB o.kind && decide (chk o 1 = 0) && kthere o.keys key
def dropO (o : Pob) (key : List UInt8) : Pob:=if dropB o key = true then o.lessK (kplace o.keys key) else o
def setE (o : Pob) (key : List UInt8) (v : Pob) : Int:=if keyedB o.kind = false then 10 else if chk o 1 ≠ 0 then chk o 1 else if v.kind = 0 then 0 else chk (o.withK key v) 1
def setO (o : Pob) (key : List UInt8) (v : Pob) : Pob:=if setE o key v ≠ 0 then Pob.null else if v.kind = 0 then dropO o key else o.withK key v
def Pob.strm (o : Pob) (s : List UInt8) : Pob:=.mk 9 o.num o.gen s o.keys o.kids
def lengthK : List UInt8:=[76,101,110,103,116,104]
def streamE (o : Pob) (s : List UInt8) : Int:=if o.kind ≠ 7 then 10 else if chk o 1 ≠ 0 then chk o 1 else chk ((dropO o lengthK).strm s) 1
def streamO (o : Pob) (s : List UInt8) : Pob:=if streamE o s ≠ 0 then Pob.null else (dropO o lengthK).strm s
attribute [irreducible] setE setO streamE streamO dropO
end Aw

namespace Go.Proofs
open Go Aw
set_option linter.unusedSimpArgs false
set_option linter.unusedVariables false
set_option maxRecDepth 100000
set_option maxHeartbeats 4000000
end Go.Proofs

namespace Aw
open Go
def dict0 : Pob:=.mk 7 0 0 [] [] []
def dictL : List Pob → List (List UInt8) → Pob → Option Pob
 | k :: v :: r,met,o=>if k.str ∈ met then none else dictL r (setAdd met k.str) (if v.kind ≠ 0 then o.withK k.str v else o)
 | _,_,o=>some o
def dictArg (ps : List Pob) : Bool:=decide (ps.length % 2 = 0) && decide (∀ i,i < ps.length → i % 2 = 0 → (ps.getD i Pob.null).kind = 5)
def dictE (ps : List Pob) : Int:=if dictArg ps = false then 1 else match dictL ps [] dict0 with
 | none=>9
 | some o=>chk o 1
def dictO (ps : List Pob) : Pob:=if dictArg ps = false then Pob.null else match dictL ps [] dict0 with
 | none=>Pob.null
 | some o=>if chk o 1 = 0 then o else Pob.null
attribute [go_sem] dict0
attribute [irreducible] dictL dictE dictO
end Aw

namespace Go.Proofs
open Go Aw
set_option linter.unusedSimpArgs false
set_option linter.unusedVariables false
set_option maxRecDepth 100000
set_option maxHeartbeats 4000000
end Go.Proofs

namespace Aw
open Go
def nidx (l : List Int) (n : Int) : Nat:=l.findIdx (fun x=>decide (x = n))
def nidxI (l : List Int) (n : Int) : Int:=if nidx l n < l.length then nidx l n else -1
theorem nidx_hit {l : List Int} {n : Int} {i : Nat} (h : i < l.length) (hs : ∀ j,j < i → l.getD j 0 ≠ n) (hk : l.getD i 0 = n) : nidxI l n = i:=by
 have : nidx l n = i:=by
  unfold nidx
  rw [List.findIdx_eq h]
  refine ⟨by simpa [List.getD,h] using hk,fun j hj=>?_⟩
  have:=hs j hj
  simp only [List.getD,List.getElem?_eq_getElem (Nat.lt_trans hj h),Option.getD_some] at this
  simpa using this
 simp [nidxI,this,h]
theorem nidx_miss {l : List Int} {n : Int} (hs : ∀ j,j < l.length → l.getD j 0 ≠ n) : nidxI l n = -1:=by
 have : ¬ nidx l n < l.length:=by
  intro h
  have h2 : decide (l[nidx l n] = n) = true:=List.findIdx_getElem (p:=fun x=>decide (x = n)) (w:=h)
  have e : l.getD (nidx l n) 0 = l[nidx l n]:=by simp [List.getD,h]
  exact hs _ h (e.trans (of_decide_eq_true h2))
 simp [nidxI,this]
def swB (fr to : List Int) (k n : Int) : Bool:=decide (k = 8) && (decide (0 ≤ nidxI fr n) && decide (nidxI fr n < to.length))
def swN (fr to : List Int) (k n : Int) : Int:=if swB fr to k n = true then to.getD (nidxI fr n).toNat 0 else n
def swG (fr to : List Int) (k n g : Int) : Int:=if swB fr to k n = true then 0 else g
mutual
def Pob.swap (fr to : List Int) : Pob → Pob
 | .mk k n g s ks l=>.mk k (swN fr to k n) (swG fr to k n g) s ks (swaps fr to l)
def swaps (fr to : List Int) : List Pob → List Pob
 | []=>[]
 | o :: l=>o.swap fr to :: swaps fr to l
end
attribute [irreducible] Pob.swap swaps nidxI
end Aw

namespace Go.Proofs
open Go Aw
set_option linter.unusedSimpArgs false
set_option linter.unusedVariables false
set_option maxRecDepth 100000
set_option maxHeartbeats 4000000
end Go.Proofs

namespace Aw
open Go
def typeK : List UInt8:=[84,121,112,101]
def docKind (o : Pob) : List UInt8:=if (getO o typeK).kind = 5 then (getO o typeK).str else []
def holdsB (o : Pob) : Bool:=bif decide (o.kind = 9) then bif decide (docKind o = [79,98,106,83,116,109]) then true else decide (docKind o = [88,82,101,102]) else false
def numsB (i : Itm) : Bool:=decide (1 ≤ i.num) && decide (i.num ≤ 8191) && decide (0 ≤ i.gen) && decide (i.gen ≤ 65535)
theorem nums_no {i : Itm} (h : ((i.num < 1 ∨ 8191 < i.num) ∨ i.gen < 0) ∨ 65535 < i.gen) : numsB i = false:=by
 simp only [numsB,Bool.and_eq_false_iff,decide_eq_false_iff_not]; omega
theorem nums_yes {i : Itm} (h : ((1 ≤ i.num ∧ i.num ≤ 8191) ∧ 0 ≤ i.gen) ∧ i.gen ≤ 65535) : numsB i = true:=by
 simp only [numsB,Bool.and_eq_true,decide_eq_true_eq]; omega
def contentE (i : Itm) : Int:=if chk i.obj 1 ≠ 0 then chk i.obj 1 else if i.obj.kind = 8 ∨ holdsB i.obj = true then 10 else 0
def aloneE (i : Itm) : Int:=if numsB i = false then 2 else contentE i
theorem content_bad {i : Itm} (h : ¬ chk i.obj 1 = 0) : contentE i = chk i.obj 1:=by simp [contentE,h]
def itemsFrom (l : List Itm) (k : Nat) : Nat → Int
 | 0=>0
 | f + 1=>if k < l.length then (if numsB (l.getD k Itm.zero) = false then 2 else if 0 < k ∧ (l.getD k Itm.zero).num ≤ (l.getD (k - 1) Itm.zero).num then 9 else if contentE (l.getD k Itm.zero) ≠ 0 then contentE (l.getD k Itm.zero) else itemsFrom l (k + 1) f) else 0
def itemsE (l : List Itm) : Int:=itemsFrom l 0 l.length
theorem itemsFrom_step {l : List Itm} {k : Nat} (h : k < l.length) : itemsFrom l k (l.length - k) = if numsB (l.getD k Itm.zero) = false then 2 else if 0 < k ∧ (l.getD k Itm.zero).num ≤ (l.getD (k - 1) Itm.zero).num then 9 else if contentE (l.getD k Itm.zero) ≠ 0 then contentE (l.getD k Itm.zero) else itemsFrom l (k + 1) (l.length - (k + 1)):=by
 rw [show l.length - k = (l.length - (k + 1)) + 1 from by omega,itemsFrom,if_pos h]
def ibulk (l : List Itm) : Nat:=(l.map fun i=>i.obj.bulk + 1).sum
theorem ibulk_get {l : List Itm} {i : Nat} (h : i < l.length) : (l.getD i Itm.zero).obj.bulk + 1 ≤ ibulk l:=by
 induction l generalizing i with
 | nil=>simp at h
 | cons x l ih =>
  simp only [ibulk,List.map_cons,List.sum_cons]
  cases i with
  | zero=>simp only [List.getD_cons_zero]; omega
  | succ i =>
   have:=ih (i:=i) (by simpa using h)
   simp only [List.getD_cons_succ,ibulk] at this ⊢
   omega
theorem ibulk_len (l : List Itm) : l.length ≤ ibulk l:=by
 induction l with
 | nil=>simp [ibulk]
 | cons x l ih=>simp only [ibulk,List.map_cons,List.sum_cons,List.length_cons] at ih ⊢; omega
attribute [irreducible] itemsFrom contentE holdsB docKind
structure Dc where
 items : List Itm
 trailer : Pob
def Dc.cells (d : Dc) : List AV:=[.sl (itemsAV d.items),.int .i64 d.trailer.kind,.int .i64 d.trailer.num,.int .i64 d.trailer.gen,.str d.trailer.str,.sl (strsAV d.trailer.keys),.sl (objsAV d.trailer.kids)]
def Dc.bulk (d : Dc) : Nat:=ibulk d.items + d.trailer.bulk
attribute [go_sem] Dc.cells
def iidx (l : List Itm) (n : Int) : Nat:=l.findIdx (fun x=>decide (x.num = n))
def iidxI (l : List Itm) (n : Int) : Int:=if iidx l n < l.length then iidx l n else -1
theorem iidx_hit {l : List Itm} {n : Int} {i : Nat} (h : i < l.length) (hs : ∀ j,j < i → (l.getD j Itm.zero).num ≠ n) (hk : (l.getD i Itm.zero).num = n) : iidxI l n = i:=by
 have : iidx l n = i:=by
  unfold iidx
  rw [List.findIdx_eq h]
  refine ⟨by simpa [List.getD,h] using hk,fun j hj=>?_⟩
  have:=hs j hj
  simp only [List.getD,List.getElem?_eq_getElem (Nat.lt_trans hj h),Option.getD_some] at this
  simpa using this
 simp [iidxI,this,h]
theorem iidx_miss {l : List Itm} {n : Int} (hs : ∀ j,j < l.length → (l.getD j Itm.zero).num ≠ n) : iidxI l n = -1:=by
 have : ¬ iidx l n < l.length:=by
  intro h
  have h2 : decide (l[iidx l n].num = n) = true:=List.findIdx_getElem (p:=fun x : Itm=>decide (x.num = n)) (w:=h)
  have e : l.getD (iidx l n) Itm.zero = l[iidx l n]:=by simp [List.getD,h]
  exact hs _ h (by rw [e]; exact of_decide_eq_true h2)
 simp [iidxI,this]
theorem iidxI_lt {l : List Itm} {n : Int} : iidxI l n < l.length:=by
 unfold iidxI
 split <;> omega
attribute [irreducible] iidxI
def followO (d : Dc) (o : Pob) : Pob :=
 if o.kind ≠ 8 then o else if iidxI d.items o.num < 0 then Pob.null else if (d.items.getD (iidxI d.items o.num).toNat Itm.zero).gen ≠ o.gen then Pob.null else (d.items.getD (iidxI d.items o.num).toNat Itm.zero).obj
def rootK : List UInt8:=[82,111,111,116]
def trailK : List (List UInt8):=[[73,68],[73,110,102,111],[82,111,111,116]]
def trailOk (ks : List (List UInt8)) : Prop:=∀ i,i < ks.length → 0 ≤ kidxI trailK (ks.getD i [])
instance (ks : List (List UInt8)) : Decidable (trailOk ks):=by unfold trailOk; infer_instance
def trailE (d : Dc) : Int:=if chk d.trailer 1 ≠ 0 then chk d.trailer 1 else if d.trailer.kind ≠ 7 then 10 else if ¬ trailOk d.trailer.keys then 3
 else if (getO d.trailer rootK).kind ≠ 8 ∨ (followO d (getO d.trailer rootK)).kind ≠ 7 then 22 else 0
def docE (d : Dc) : Int:=if itemsE d.items ≠ 0 then itemsE d.items else trailE d
theorem trail_bad {d : Dc} (h : ¬ chk d.trailer 1 = 0) : trailE d = chk d.trailer 1:=by rw [trailE,if_pos h]
theorem trail_kind {d : Dc} (h : chk d.trailer 1 = 0) (h' : ¬ d.trailer.kind = 7) : trailE d = 10:=by rw [trailE,if_neg (by simpa using h),if_pos h']
theorem trail_key {d : Dc} (h : chk d.trailer 1 = 0) (h' : d.trailer.kind = 7) (h2 : ¬ trailOk d.trailer.keys) : trailE d = 3:=by rw [trailE,if_neg (by simpa using h),if_neg (by simpa using h'),if_pos h2]
theorem trail_root {d : Dc} (h : chk d.trailer 1 = 0) (h' : d.trailer.kind = 7) (h2 : trailOk d.trailer.keys) : trailE d = if (getO d.trailer rootK).kind ≠ 8 ∨ (followO d (getO d.trailer rootK)).kind ≠ 7 then 22 else 0:=by
 rw [trailE,if_neg (by simpa using h),if_neg (by simpa using h'),if_neg (by simpa using h2)]
theorem doc_bad {d : Dc} (h : ¬ itemsE d.items = 0) : docE d = itemsE d.items:=by rw [docE,if_pos h]
theorem doc_trail {d : Dc} (h : itemsE d.items = 0) : docE d = trailE d:=by rw [docE,if_neg (by simpa using h)]
theorem docE_items {d : Dc} (h : docE d = 0) : itemsE d.items = 0:=by
 unfold docE at h
 split at h
 ·assumption
 ·rename_i h'; simpa using h'
theorem docE_trail {d : Dc} (h : docE d = 0) : trailE d = 0:=by
 have h1:=docE_items h
 rwa [doc_trail h1] at h
def okItm (l : List Itm) (i : Nat) : Prop:=numsB (l.getD i Itm.zero) = true ∧ (0 < i → (l.getD (i - 1) Itm.zero).num < (l.getD i Itm.zero).num) ∧ contentE (l.getD i Itm.zero) = 0
theorem itemsFrom_ok {l : List Itm} : ∀ (f k : Nat),l.length - k = f → k ≤ l.length → (itemsFrom l k f = 0 ↔ ∀ i,k ≤ i → i < l.length → okItm l i)
 | 0,k,hf,hk=>by
  simp only [itemsFrom,true_iff]
  intro i h1 h2
  omega
 | f + 1,k,hf,hk=>by
  have hkl : k < l.length:=by omega
  have hs:=itemsFrom_step hkl
  rw [hf] at hs
  rw [hs]
  have ih:=itemsFrom_ok (l:=l) f (k + 1) (by omega) (by omega)
  rw [show l.length - (k + 1) = f from by omega]
  constructor
  ·intro h i h1 h2
   split at h
   ·omega
   ·rename_i g1
    split at h
    ·omega
    ·rename_i g2
     split at h
     ·rename_i g3; exact absurd h g3
     ·rename_i g3
      by_cases e : i = k
      ·subst e
       exact ⟨by simpa using g1,fun h0=>by omega,by simpa using g3⟩
      ·exact ih.1 h i (by omega) h2
  ·intro h
   have hk':=h k (Nat.le_refl _) hkl
   rw [if_neg (by rw [hk'.1]; simp),if_neg (by intro hh; have:=hk'.2.1 hh.1; omega),if_neg (by simpa using hk'.2.2)]
   exact ih.2 fun i h1 h2=>h i (by omega) h2
theorem items_ok {l : List Itm} : itemsE l = 0 ↔ ∀ i,i < l.length → okItm l i:=by
 unfold itemsE
 rw [itemsFrom_ok l.length 0 (by omega) (by omega)]
 exact ⟨fun h i hi=>h i (Nat.zero_le _) hi,fun h i _ hi=>h i hi⟩
def incrN (l : List Itm) : Prop:=∀ a b,a < b → b < l.length → (l.getD a Itm.zero).num < (l.getD b Itm.zero).num
theorem incrN_of_next {l : List Itm} (h : ∀ i,i + 1 < l.length → (l.getD i Itm.zero).num < (l.getD (i + 1) Itm.zero).num) : incrN l:=by
 intro a b hab hb
 induction b with
 | zero=>omega
 | succ b ih =>
  by_cases e : a = b
  ·subst e; exact h a hb
  ·exact Int.lt_trans (ih (by omega) (by omega)) (h b hb)
theorem items_incr {l : List Itm} (h : itemsE l = 0) : incrN l :=
 incrN_of_next fun i hi=>by
  have:=((items_ok.1 h) (i + 1) hi).2.1 (by omega)
  simpa using this
def iplace (l : List Itm) (n : Int) : Nat:=l.findIdx (fun x=>decide (n ≤ x.num))
def ithere (l : List Itm) (n : Int) : Bool:=decide (iplace l n < l.length) && decide ((l.getD (iplace l n) Itm.zero).num = n)
def layI (l : List Itm) (i : Itm) : List Itm:=if ithere l i.num = true then l.set (iplace l i.num) i else insAt l (iplace l i.num) i
def takeI (l : List Itm) (n : Int) : List Itm:=if ithere l n = true then delAt l (iplace l n) else l
theorem ibulk_cons (i : Itm) (l : List Itm) : ibulk (i :: l) = i.obj.bulk + 1 + ibulk l:=by simp [ibulk]
def Dc.zero : Dc:=⟨[],Pob.null⟩
def putE (d : Dc) (i : Itm) : Int:=if docE d ≠ 0 then docE d else if aloneE i ≠ 0 then aloneE i else docE ⟨layI d.items i,d.trailer⟩
def putO (d : Dc) (i : Itm) : Dc:=if putE d i ≠ 0 then Dc.zero else ⟨layI d.items i,d.trailer⟩
def dropE (d : Dc) (n : Int) : Int:=if docE d ≠ 0 then docE d else if ithere d.items n = false then 8 else docE ⟨takeI d.items n,d.trailer⟩
def dropD (d : Dc) (n : Int) : Dc:=if dropE d n ≠ 0 then Dc.zero else ⟨takeI d.items n,d.trailer⟩
def lastN (l : List Itm) : Int:=if l.length = 0 then 1 else (l.getD (l.length - 1) Itm.zero).num + 1
def freeE (d : Dc) : Int:=if docE d ≠ 0 then docE d else if 8191 < lastN d.items then 30 else 0
def freeN (d : Dc) : Int:=if freeE d ≠ 0 then 0 else lastN d.items
def addE (d : Dc) (o : Pob) : Int:=if freeE d ≠ 0 then freeE d else putE d ⟨freeN d,0,o⟩
def addO (d : Dc) (o : Pob) : Dc:=if addE d o ≠ 0 then Dc.zero else putO d ⟨freeN d,0,o⟩
def addN (d : Dc) (o : Pob) : Int:=if addE d o ≠ 0 then 0 else freeN d
attribute [irreducible] iplace docE trailE putE putO dropE dropD freeE freeN addE addO addN
end Aw
namespace Aw
open Go
theorem itemsAV_set (k : Nat) (i : Itm) (l : List Itm) : (itemsAV l).set k i.cells = itemsAV (l.set k i):=by simp [itemsAV,List.map_set]
theorem itemsAV_set' (k : Nat) (i : Itm) (l : List Itm) : (itemsAV l).set k [.int .i64 i.num,.int .i64 i.gen,.int .i64 i.obj.kind,.int .i64 i.obj.num,.int .i64 i.obj.gen,.str i.obj.str,.sl (strsAV i.obj.keys),.sl (objsAV i.obj.kids)] = itemsAV (l.set k i):=itemsAV_set k i l
def lookI (l : List Itm) (n : Int) : Option Itm:=if iidxI l n < 0 then none else some (l.getD (iidxI l n).toNat Itm.zero)
theorem look_miss {l : List Itm} {n : Int} (h : iidxI l n < 0) : lookI l n = none:=by unfold lookI; rw [if_pos h]
theorem look_hit {l : List Itm} {n : Int} (h : 0 ≤ iidxI l n) : lookI l n = some (l.getD (iidxI l n).toNat Itm.zero):=by unfold lookI; rw [if_neg (by omega)]
theorem get_bulk (o : Pob) (k : List UInt8) : (getO o k).bulk ≤ o.bulk:=by
 unfold getO
 split
 ·rename_i h
  simp only [getB,Bool.and_eq_true,decide_eq_true_eq] at h
  have:=Pob.bulk_kid (o:=o) (i:=(kidxI o.keys k).toNat) (by omega)
  omega
 ·have : Pob.null.bulk = 1:=by simp [Pob.null,Pob.bulk,bulks]
  rw [this,Pob.bulk_eq]
  omega
def pathL (d : Dc) : Pob → List (List UInt8) → Pob
 | o,[]=>o
 | o,k :: r=>if getB o k = false then Pob.null else pathL d (followO d (getO o k)) r
def diffB (a : List Itm) (i : Itm) : Bool:=!(ithere a i.num && decide (a.getD (iplace a i.num) Itm.zero = i))
def diffL (a b : Dc) : List Itm:=if docE a ≠ 0 ∨ docE b ≠ 0 then [] else b.items.filter (diffB a.items)
def goneB (b : List Itm) (i : Itm) : Bool:=!ithere b i.num
def diffG (a b : Dc) : List Int:=if docE a ≠ 0 ∨ docE b ≠ 0 then [] else (a.items.filter (goneB b.items)).map Itm.num
def applyT : List Itm → List Int → Option (List Itm)
 | l,[]=>some l
 | l,n :: r=>if ithere l n = true then applyT (takeI l n) r else none
def aloneL : List Itm → Int
 | []=>0
 | i :: r=>if aloneE i ≠ 0 then aloneE i else aloneL r
def applyE (d : Dc) (l : List Itm) (ns : List Int) : Int:=if docE d ≠ 0 then docE d else match applyT d.items ns with
 | none=>8
 | some x=>if aloneL l ≠ 0 then aloneL l else docE ⟨l.foldl layI x,d.trailer⟩
def applyD (d : Dc) (l : List Itm) (ns : List Int) : Dc:=if applyE d l ns ≠ 0 then Dc.zero else match applyT d.items ns with
 | none=>Dc.zero
 | some x=>⟨l.foldl layI x,d.trailer⟩
theorem sum_take {α : Type} {l : List α} {i : Nat} {f : α → Nat} {d : α} (h : i < l.length) : ((l.take (i + 1)).map f).sum = ((l.take i).map f).sum + f (l.getD i d):=by
 rw [List.take_succ_eq_append_getElem h,List.map_append,List.sum_append]
 simp [List.getD,h]
theorem sum_take_le {α : Type} (l : List α) (i : Nat) (f : α → Nat) : ((l.take i).map f).sum ≤ (l.map f).sum:=by
 have h : ((l.take i ++ l.drop i).map f).sum = ((l.take i).map f).sum + ((l.drop i).map f).sum:=by rw [List.map_append,List.sum_append]
 rw [List.take_append_drop] at h
 omega
def ksize (ks : List (List UInt8)) : Nat:=(ks.map fun k=>k.length / 50).sum
mutual
def Pob.psize : Pob → Nat
 | .mk _ _ _ s ks l=>1 + s.length / 50 + ksize ks + psizes l
def psizes : List Pob → Nat
 | []=>0
 | o :: l=>o.psize + psizes l
end
theorem Pob.psize_eq (o : Pob) : o.psize = 1 + o.str.length / 50 + ksize o.keys + psizes o.kids:=by cases o; simp only [Pob.psize,Pob.str,Pob.keys,Pob.kids]
theorem ksize_take {ks : List (List UInt8)} {i : Nat} (h : i < ks.length) : ksize (ks.take (i + 1)) = ksize (ks.take i) + (ks.getD i []).length / 50:=by
 exact sum_take h
theorem psizes_append (a b : List Pob) : psizes (a ++ b) = psizes a + psizes b:=by
 induction a with
 | nil=>simp [psizes]
 | cons x a ih=>simp only [List.cons_append,psizes,ih]; omega
theorem psizes_take {l : List Pob} {i : Nat} (h : i < l.length) : psizes (l.take (i + 1)) = psizes (l.take i) + (l.getD i Pob.null).psize:=by
 rw [List.take_succ_eq_append_getElem h,psizes_append]
 simp [psizes,List.getD,h]
theorem psizes_take_le (l : List Pob) (i : Nat) : psizes (l.take i) ≤ psizes l:=by
 have:=psizes_append (l.take i) (l.drop i)
 rw [List.take_append_drop] at this
 omega
theorem ksize_take_le (l : List (List UInt8)) (i : Nat) : ksize (l.take i) ≤ ksize l:=by
 exact sum_take_le l i _
theorem psizes_get {l : List Pob} {i : Nat} (h : i < l.length) : (l.getD i Pob.null).psize ≤ psizes l:=by
 have h1:=psizes_take h
 have h2:=psizes_take_le l (i + 1)
 omega
def isize (l : List Itm) : Nat:=(l.map fun i=>i.obj.psize).sum
theorem isize_take {l : List Itm} {i : Nat} (h : i < l.length) : isize (l.take (i + 1)) = isize (l.take i) + (l.getD i Itm.zero).obj.psize:=by
 exact sum_take (f:=fun i : Itm=>i.obj.psize) (d:=Itm.zero) h
theorem isize_take_le (l : List Itm) (i : Nat) : isize (l.take i) ≤ isize l:=by
 exact sum_take_le l i _
def Dc.size (d : Dc) : Nat:=d.trailer.psize + isize d.items
theorem ksize_nil : ksize [] = 0:=rfl
theorem psizes_nil : psizes [] = 0:=by simp only [psizes]
theorem isize_nil : isize [] = 0:=rfl
attribute [irreducible] Pob.psize psizes ksize isize pathL applyT aloneL applyE applyD diffL diffG
end Aw

namespace Go.Proofs
open Go Aw
set_option linter.unusedSimpArgs false
set_option linter.unusedVariables false
set_option maxRecDepth 100000
set_option maxHeartbeats 4000000
theorem c_foliantref05_Texts (gl : List (Nat × AV)) (a b : List (List UInt8)) (ha : a.length ≤ 16777216:=by first | omega | exact u8_le _ | assumption | (simp; done) | (simp; omega)) : FnP Tryz.prog (gl) 49 [.sl (strsAV a),.sl (strsAV b)] fun r=>r = .ret (.bool (decide (a = b))):=by
 refine FnP.intro Tryz.func49 rfl rfl (by simp [Tryz.ntmps49]) ?_
 simp only [argEnv,Tryz.ntmps49,Tryz.results49]
 refine AW.rS ?_
 refine AW.seq ?_
 refine AW.rS ?_
 refine AW.c2 ?_ ?_
 ·intro h4
  refine AW.rS ?_
  refine AW.rt ?_
  rw [decide_eq_false (fun e=>h4 (by rw [e]))]
 ·intro h4
  refine AW.skip ?_
  refine AW.seq ?_
  refine AW.rS ?_
  refine AW.block ?_
  refine AW.lk (S:={ i : Nat // i ≤ a.length ∧ a.take i = b.take i }) [0,1,12] (fun s_=>[(13,.int .i64 s_.1)]) (fun s_=>[]) 0 (fun s_=>a.length - s_.1) ⟨0,Nat.zero_le _,rfl⟩ ?_ ?_
  ·refine St.le.vw []
  rintro ⟨i,hi,hs⟩
  try dsimp only at hi
  try dsimp only at hs
  refine AW.rS ?_
  refine AW.seq ?_
  refine AW.c2 ?_ ?_
  ·intro h15
   refine AW.skip ?_
   refine AW.seq ?_
   refine AW.block ?_
   refine AW.rS ?_
   refine AW.dS [(0,0),(1,0),(2,1),(3,1),(4,0),(5,0),(6,1),(7,1),(8,0)] ?_
   refine AW.c2 ?_ ?_
   ·intro h21
    refine AW.rS ?_
    refine AW.rt ?_
    rw [decide_eq_false (fun e=>h21 (by rw [e]))]
   ·intro h21
    refine AW.skip ?_
    refine AW.rL ?_
    refine ⟨⟨i + 1,by omega,takeS_succ h15 (by omega) hs h21⟩,?_,?_⟩
    ·refine St.le.vw []
    ·simp only []; omega
  ·intro h15
   refine AW.exit ?_
   refine AW.rS ?_
   refine AW.rt ?_
   rw [List.take_of_length_le (by omega),List.take_of_length_le (by omega)] at hs
   simp [hs]
theorem rlist_step (gl : List (Nat × AV)) (N : Nat) (ih : ∀ x y : Pob,x.bulk < N → FnP Tryz.prog gl 20 [.agg x.cells,.agg y.cells] fun r=>r = .ret (.bool (decide (x = y)))) (a b : List Pob) (ha : a.length ≤ 16777216) (hb : ∀ i,i < a.length → (a.getD i Pob.null).bulk < N) : FnP Tryz.prog (gl) 50 [.sl (objsAV a),.sl (objsAV b)] fun r=>r = .ret (.bool (decide (a = b))):=by
 refine FnP.intro Tryz.func50 rfl rfl (by simp [Tryz.ntmps50]) ?_
 simp only [argEnv,Tryz.ntmps50,Tryz.results50]
 refine AW.rS ?_
 refine AW.seq ?_
 refine AW.rS ?_
 refine AW.c2 ?_ ?_
 ·intro h4
  refine AW.rS ?_
  refine AW.rt ?_
  rw [decide_eq_false (fun e=>h4 (by rw [e]))]
 ·intro h4
  refine AW.skip ?_
  refine AW.seq ?_
  refine AW.rS ?_
  refine AW.block ?_
  refine AW.lk (S:={ i : Nat // i ≤ a.length ∧ a.take i = b.take i }) [0,1,12] (fun s_=>[(13,.int .i64 s_.1)]) (fun s_=>[]) 0 (fun s_=>a.length - s_.1) ⟨0,Nat.zero_le _,rfl⟩ ?_ ?_
  ·refine St.le.vw []
  rintro ⟨i,hi,hs⟩
  try dsimp only at hi
  try dsimp only at hs
  refine AW.rS ?_
  refine AW.seq ?_
  refine AW.c2 ?_ ?_
  ·intro h15
   refine AW.skip ?_
   refine AW.seq ?_
   refine AW.block ?_
   refine AW.rS ?_
   refine AW.dSC [(0,0),(1,0),(2,0),(3,1),(4,0),(5,0),(6,0),(7,1),(8,2),(9,0)] ?_
   refine awPlan.only rfl ?_
   refine awGuard.c1 (ih (a.getD i Pob.null) (b.getD i Pob.null) (hb i (by omega))) ?_
   refine awPlan.rn ?_
   refine AW.c2 ?_ ?_
   ·intro h23
    refine AW.rS ?_
    refine AW.rt ?_
    rw [decide_eq_false (fun e=>h23 (by rw [e]))]
   ·intro h23
    refine AW.skip ?_
    refine AW.rL ?_
    refine ⟨⟨i + 1,by omega,takeO_succ h15 (by omega) hs h23⟩,?_,?_⟩
    ·refine St.le.vw []
    ·simp only []; omega
  ·intro h15
   refine AW.exit ?_
   refine AW.rS ?_
   refine AW.rt ?_
   rw [List.take_of_length_le (by omega),List.take_of_length_le (by omega)] at hs
   simp [hs]
theorem rsame_step (gl : List (Nat × AV)) (N : Nat) (hN : N ≤ 16777216) (ih : ∀ x y : Pob,x.bulk < N → FnP Tryz.prog gl 20 [.agg x.cells,.agg y.cells] fun r=>r = .ret (.bool (decide (x = y)))) (a b : Pob) (ha : a.bulk ≤ N) : FnP Tryz.prog (gl) 20 [.agg a.cells,.agg b.cells] fun r=>r = .ret (.bool (decide (a = b))):=by
 refine FnP.intro Tryz.func20 rfl rfl (by simp [Tryz.ntmps20]) ?_
 simp only [argEnv,Tryz.ntmps20,Tryz.results20]
 have hbulk:=Pob.bulk_eq a
 refine AW.rS ?_
 refine AW.rSC ?_
 refine awOps.cons (awGuard.cG (fun hg=>c_foliantref05_Texts _ a.keys b.keys (by omega)) ?_)
 refine awOps.rn ?_
 refine awOps.cons (awGuard.cG (fun hg=>rlist_step _ N ih a.kids b.kids (by omega) (fun i hi=>Nat.lt_of_lt_of_le (Pob.bulk_kid hi) ha)) ?_)
 refine awOps.rn ?_
 refine AW.rt ?_
 rw [show ∀ x y : Bool,x = y → AE.ret (.bool x) = AE.ret (.bool y) from fun _ _ h=>by rw [h]]
 rw [Bool.eq_iff_iff]
 simp only [decide_eq_true_eq,Bool.cond_false_right,Bool.and_eq_true,Pob_eq a b,and_assoc]
theorem rsame_all (gl : List (Nat × AV)) (N : Nat) : N ≤ 16777216 → ∀ x y : Pob,x.bulk ≤ N → FnP Tryz.prog gl 20 [.agg x.cells,.agg y.cells] fun r=>r = .ret (.bool (decide (x = y))):=by
 induction N using Nat.strongRecOn with
 | ind N IH=>exact fun hN x y hx=>rsame_step gl N hN (fun x' y' h=>IH x'.bulk h (by omega) x' y' (Nat.le_refl _)) x y hx
theorem c_foliantref05_Same (gl : List (Nat × AV)) (x y : Pob) (h : x.bulk ≤ 16777216:=by first | assumption | omega) : FnP Tryz.prog gl 20 [.agg x.cells,.agg y.cells] fun r=>r = .ret (.bool (decide (x = y))):=rsame_all gl 16777216 (Nat.le_refl _) x y h
theorem size_step (gl : List (Nat × AV)) (N : Nat) (hN : N ≤ 16777216) (ih : ∀ o' : Pob,o'.bulk < N → o'.psize ≤ 4611686018427387904 → FnP Tryz.prog gl 17 [.agg o'.cells] fun r=>r = .ret (.int .i64 o'.psize)) (o : Pob) (ho : o.bulk ≤ N) (hp : o.psize ≤ 4611686018427387904) : FnP Tryz.prog (gl) 17 [.agg o.cells] fun r=>r = .ret (.int .i64 o.psize):=by
 refine FnP.intro Tryz.func17 rfl rfl (by simp [Tryz.ntmps17]) ?_
 simp only [argEnv,Tryz.ntmps17,Tryz.results17]
 have hb:=Pob.bulk_eq o
 have hpe:=Pob.psize_eq o
 have hk0:=ksize_nil
 have hp0:=psizes_nil
 refine AW.rS ?_
 refine AW.rS ?_
 refine AW.seq ?_
 refine AW.rS ?_
 refine AW.block ?_
 refine AW.lk (S:={ i : Nat // i ≤ o.keys.length }) [1,14,15] (fun s_=>[(3,.int .i64 ((1 + o.str.length / 50 + ksize (o.keys.take s_.1) : Nat) : Int)),(16,.int .i64 s_.1)]) (fun s_=>[(0,.cells o.cells)]) 1 (fun s_=>o.keys.length - s_.1) ⟨0,Nat.zero_le _⟩ ?_ ?_
 ·refine St.le.vw [0]
 rintro ⟨i,hi⟩
 try dsimp only at hi
 refine AW.rS ?_
 refine AW.seq ?_
 refine AW.c2 ?_ ?_
 ·intro h9
  have h1:=ksize_take h9
  have h2:=ksize_take_le o.keys (i + 1)
  refine AW.skip ?_
  refine AW.seq ?_
  refine AW.block ?_
  refine AW.rS ?_
  refine AW.rL ?_
  refine AW.rL ?_
  refine ⟨⟨i + 1,by omega⟩,?_,?_⟩
  ·refine St.le.vw [0]
  ·simp only []; omega
 ·intro h9
  refine AW.exit ?_
  obtain rfl : i = o.keys.length:=by omega
  rw [List.take_length]
  refine AW.seq ?_
  refine AW.rS ?_
  refine AW.block ?_
  refine AW.lk (S:={ i : Nat // i ≤ o.kids.length }) [27,28] (fun s_=>[(3,.int .i64 ((1 + o.str.length / 50 + ksize o.keys + psizes (o.kids.take s_.1) : Nat) : Int)),(29,.int .i64 s_.1)]) (fun s_=>[(0,.cells o.cells)]) 1 (fun s_=>o.kids.length - s_.1) ⟨0,Nat.zero_le _⟩ ?_ ?_
  ·refine St.le.vw [0]
  rintro ⟨j,hj⟩
  try dsimp only at hj
  refine AW.rS ?_
  refine AW.seq ?_
  refine AW.c2 ?_ ?_
  ·intro h24
   have h1:=psizes_take h24
   have h2:=psizes_take_le o.kids (j + 1)
   have h3:=psizes_get h24
   refine AW.skip ?_
   refine AW.seq ?_
   refine AW.block ?_
   refine AW.rS ?_
   refine AW.rLC ?_
   refine awOps.cons (awGuard.c1 (ih (o.kids.getD j Pob.null) (Nat.lt_of_lt_of_le (Pob.bulk_kid (by omega)) ho) (by omega)) ?_)
   refine awOps.rn ?_
   refine AW.rL ?_
   refine ⟨⟨j + 1,by omega⟩,?_,?_⟩
   ·refine St.le.vw [0]
   ·simp only []; omega
  ·intro h24
   refine AW.exit ?_
   refine AW.rS ?_
   refine AW.rt ?_
   obtain rfl : j = o.kids.length:=by omega
   rw [List.take_length,hpe]
theorem size_all (gl : List (Nat × AV)) (N : Nat) : N ≤ 16777216 → ∀ o : Pob,o.bulk ≤ N → o.psize ≤ 4611686018427387904 → FnP Tryz.prog gl 17 [.agg o.cells] fun r=>r = .ret (.int .i64 o.psize):=by
 induction N using Nat.strongRecOn with
 | ind N IH=>exact fun hN x hx hp=>size_step gl N hN (fun x' h hp'=>IH x'.bulk h (by omega) x' (Nat.le_refl _) hp') x hx hp
theorem c_foliantref05_Size (gl : List (Nat × AV)) (o : Pob) (h : o.bulk ≤ 16777216) (hp : o.psize ≤ 4611686018427387904) : FnP Tryz.prog gl 17 [.agg o.cells] fun r=>r = .ret (.int .i64 o.psize):=size_all gl 16777216 (Nat.le_refl _) o h hp
end Go.Proofs

namespace Aw
open Go
mutual
def Pob.pre : Pob → List Pob
 | .mk k n g s ks l=>.mk k n g s ks l :: pres l
def pres : List Pob → List Pob
 | []=>[]
 | o :: l=>o.pre ++ pres l
end
theorem pres_nil : pres [] = []:=by simp only [pres]
theorem Pob.pre_eq (o : Pob) : o.pre = o :: pres o.kids:=by cases o; simp only [Pob.pre,Pob.kids]
theorem pres_append (a b : List Pob) : pres (a ++ b) = pres a ++ pres b:=by
 induction a with
 | nil=>simp [pres]
 | cons x a ih=>simp only [List.cons_append,pres,ih,List.append_assoc]
theorem pres_take {l : List Pob} {i : Nat} (h : i < l.length) : pres (l.take (i + 1)) = pres (l.take i) ++ (l.getD i Pob.null).pre:=by
 rw [List.take_succ_eq_append_getElem h,pres_append]
 simp [pres,List.getD,h]
mutual
theorem Pob.pre_le : ∀ o : Pob,o.pre.length ≤ o.bulk
 | .mk k n g s ks l=>by simp only [Pob.pre,Pob.bulk,List.length_cons]; have:=pres_le l; omega
theorem pres_le : ∀ l : List Pob,(pres l).length ≤ bulks l
 | []=>by simp [pres]
 | o :: l=>by simp only [pres,bulks,List.length_append]; have:=Pob.pre_le o; have:=pres_le l; omega
end
attribute [irreducible] Pob.pre pres
def Pob.has (o : Pob) (k : List UInt8) (v : Pob) : Prop:=∃ i,i < o.keys.length ∧ o.keys.getD i [] = k ∧ o.kids.getD i Pob.null = v
def Pob.kvOk (o : Pob) : Prop:=incr o.keys ∧ o.keys.length = o.kids.length
theorem incr_inj {ks : List (List UInt8)} (hs : incr ks) {i j : Nat} (hi : i < ks.length) (hj : j < ks.length) (h : ks.getD i [] = ks.getD j []) : i = j:=by
 rcases Nat.lt_trichotomy i j with g | g | g
 ·have:=hs i j g hj; rw [h,bl_irrefl] at this; cases this
 ·exact g
 ·have:=hs j i g hi; rw [h,bl_irrefl] at this; cases this
theorem kvOk_of_chk {o : Pob} {d : Int} (h : chk o d = 0) (hk : keyedB o.kind = true) : o.kvOk:=⟨rising_incr (chk_rising h hk),(chk_rising h hk).1⟩
theorem incr_keys_ext : ∀ {a b : List (List UInt8)},incr a → incr b → (∀ k,(∃ i,i < a.length ∧ a.getD i [] = k) ↔ ∃ i,i < b.length ∧ b.getD i [] = k) → a = b
 | [],[],_,_,_=>rfl
 | [],y :: b,_,_,h=>by
  obtain ⟨i,hi,_⟩:=(h y).2 ⟨0,by simp,rfl⟩
  simp at hi
 | x :: a,[],_,_,h=>by
  obtain ⟨i,hi,_⟩:=(h x).1 ⟨0,by simp,rfl⟩
  simp at hi
 | x :: a,y :: b,ha,hb,h=>by
  have hxy : x = y:=by
   obtain ⟨i,hi,e1⟩:=(h x).1 ⟨0,by simp,rfl⟩
   obtain ⟨j,hj,e2⟩:=(h y).2 ⟨0,by simp,rfl⟩
   rcases Nat.eq_zero_or_pos i with rfl | g1
   ·simpa using e1.symm
   ·rcases Nat.eq_zero_or_pos j with rfl | g2
    ·simpa using e2
    ·have l1:=hb 0 i g1 hi
     have l2:=ha 0 j g2 hj
     rw [e1] at l1
     rw [e2] at l2
     simp only [List.getD_cons_zero] at l1 l2
     rw [bl_asymm l1] at l2
     cases l2
  subst hxy
  have tl : ∀ {l : List (List UInt8)},incr (x :: l) → incr l:=fun hl a b hab hb=>by
   have:=hl (a + 1) (b + 1) (by omega) (by simpa using hb)
   simpa using this
  congr 1
  refine incr_keys_ext (tl ha) (tl hb) fun k=>?_
  have half : ∀ {l m : List (List UInt8)},incr (x :: l) → incr (x :: m) → ((∃ i,i < (x :: l).length ∧ (x :: l).getD i [] = k) → ∃ i,i < (x :: m).length ∧ (x :: m).getD i [] = k) → (∃ i,i < l.length ∧ l.getD i [] = k) → ∃ i,i < m.length ∧ m.getD i [] = k:=by
   rintro l m hl hm hh ⟨i,hi,e⟩
   obtain ⟨j,hj,e2⟩:=hh ⟨i + 1,by simpa using hi,by simpa using e⟩
   cases j with
   | zero =>
    have:=hl 0 (i + 1) (by omega) (by simpa using hi)
    simp only [List.getD_cons_zero,List.getD_cons_succ] at this e2
    rw [e,← e2,bl_irrefl] at this
    cases this
   | succ j=>exact ⟨j,by simpa using hj,by simpa using e2⟩
  exact ⟨half ha hb (h k).1,half hb ha (h k).2⟩
theorem has_key {o : Pob} {k : List UInt8} : (∃ v,o.has k v) ↔ ∃ i,i < o.keys.length ∧ o.keys.getD i [] = k :=
 ⟨fun ⟨_,i,hi,e,_⟩=>⟨i,hi,e⟩,fun ⟨i,hi,e⟩=>⟨_,i,hi,e,rfl⟩⟩
theorem kv_ext {a b : Pob} (ha : a.kvOk) (hb : b.kvOk) (h1 : a.kind = b.kind) (h2 : a.num = b.num) (h3 : a.gen = b.gen) (h4 : a.str = b.str) (h : ∀ k v,a.has k v ↔ b.has k v) : a = b:=by
 have hk : a.keys = b.keys:=incr_keys_ext ha.1 hb.1 fun k=>by
  rw [← has_key,← has_key]
  exact ⟨fun ⟨v,hv⟩=>⟨v,(h k v).1 hv⟩,fun ⟨v,hv⟩=>⟨v,(h k v).2 hv⟩⟩
 have hl : a.kids.length = b.kids.length:=by rw [← ha.2,← hb.2,hk]
 refine (Pob_eq a b).2 ⟨h1,h2,h3,h4,hk,?_⟩
 apply List.ext_getElem hl
 intro i hi hi'
 obtain ⟨j,hj,e1,e2⟩:=(h (a.keys.getD i []) (a.kids.getD i Pob.null)).1 ⟨i,by have:=ha.2; omega,rfl,rfl⟩
 rw [hk] at e1
 have:=incr_inj hb.1 hj (by have:=hb.2; omega) e1
 subst this
 simp only [List.getD,List.getElem?_eq_getElem hi',List.getElem?_eq_getElem hi,Option.getD_some] at e2
 exact e2.symm
theorem kidxI_cases (ks : List (List UInt8)) (k : List UInt8) : (∃ i : Nat,i < ks.length ∧ kidxI ks k = i ∧ ks.getD i [] = k) ∨ (kidxI ks k = -1 ∧ ∀ j,j < ks.length → ks.getD j [] ≠ k):=by
 by_cases h : kidx ks k < ks.length
 ·left
  refine ⟨kidx ks k,h,by simp [kidxI,h],?_⟩
  have h2 : decide (ks[kidx ks k] = k) = true:=List.findIdx_getElem (p:=fun x=>decide (x = k)) (w:=h)
  simpa [List.getD,h] using h2
 ·right
  refine ⟨by simp [kidxI,h],fun j hj e=>h ?_⟩
  unfold kidx
  rw [List.findIdx_lt_length]
  refine ⟨ks[j],List.getElem_mem hj,?_⟩
  simpa [List.getD,hj] using e
theorem get_has {o : Pob} (hs : o.kvOk) (hk : keyedB o.kind = true) {k : List UInt8} {v : Pob} : (getB o k = true ∧ getO o k = v) ↔ o.has k v:=by
 rcases kidxI_cases o.keys k with ⟨i,hi,e,e2⟩ | ⟨e,h⟩
 ·have hg:=get_hit (o:=o) (key:=k) hk (by rw [e]; have:=hs.2; omega)
  rw [hg.1,hg.2,e]
  simp only [true_and,Int.toNat_natCast]
  constructor
  ·intro h; exact ⟨i,hi,e2,h⟩
  ·rintro ⟨j,hj,e3,rfl⟩
   rw [incr_inj hs.1 hi hj (e2.trans e3.symm)]
 ·have hg:=get_miss (o:=o) (key:=k) (.inl (by omega))
  rw [hg.1]
  simp only [Bool.false_eq_true,false_and,false_iff]
  rintro ⟨j,hj,e3,_⟩
  exact h j hj e3
theorem get_no {o : Pob} (hs : o.kvOk) (hk : keyedB o.kind = true) {k : List UInt8} (h : ∀ v,¬ o.has k v) : getB o k = false ∧ getO o k = Pob.null:=by
 cases hb : getB o k with
 | true=>exact absurd ((get_has hs hk).1 ⟨hb,rfl⟩) (h _)
 | false=>exact ⟨rfl,by simp [getO,hb]⟩
theorem chkL_iff {l : List Pob} {d : Int} : chkL l d = 0 ↔ ∀ x ∈ l,chk x d = 0:=by
 induction l with
 | nil=>simp [chkL]
 | cons o l ih =>
  simp only [chkL,List.mem_cons]
  constructor
  ·intro h
   split at h
   ·rename_i h1
    rintro x (rfl | hx)
    ·exact h1
    ·exact ih.1 h x hx
   ·rename_i h1; exact absurd h h1
  ·intro h
   rw [if_pos (h o (.inl rfl))]
   exact ih.2 fun x hx=>h x (.inr hx)
theorem chk_iff {o : Pob} {d : Int} : chk o d = 0 ↔ ownE o d = 0 ∧ ∀ x ∈ o.kids,chk x (d + 1) = 0:=by
 rw [chk_eq]
 constructor
 ·intro h
  split at h
  ·rename_i h1; exact ⟨h1,chkL_iff.1 h⟩
  ·rename_i h1; exact absurd h h1
 ·rintro ⟨h1,h2⟩
  rw [if_pos h1,chkL_iff.2 h2]
theorem ownE_iff {o : Pob} {d : Int} : ownE o d = 0 ↔ d ≤ 24 ∧ useB o d = true ∧ fitsB o = true ∧ shortB o = true ∧ (o.kids.length : Int) ≤ 8191 ∧ formB o = true:=by
 refine ⟨ownE_spec,fun ⟨h1,h2,h3,h4,h5,h6⟩=>?_⟩
 unfold ownE
 simp [h1,h2,h3,h4,h5,h6]
theorem rising_iff {o : Pob} : risingP o ↔ o.kvOk ∧ ∀ k v,o.has k v → nameB k = true ∧ ¬ (o.kind = 9 ∧ k = lengthK) ∧ v.kind ≠ 0:=by
 constructor
 ·intro h
  refine ⟨⟨rising_incr h,h.1⟩,?_⟩
  rintro k v ⟨i,hi,rfl,rfl⟩
  have:=h.2 i hi
  exact ⟨this.1,this.2.2.1,this.2.2.2⟩
 ·rintro ⟨h1,h2⟩
  refine ⟨h1.2,fun i hi=>?_⟩
  have:=h2 _ _ ⟨i,hi,rfl,rfl⟩
  exact ⟨this.1,fun h0=>h1.1 (i - 1) i (by omega) hi,this.2.1,this.2.2⟩
theorem has_kid {o : Pob} (hs : o.kvOk) {x : Pob} : x ∈ o.kids ↔ ∃ k,o.has k x:=by
 constructor
 ·intro h
  obtain ⟨i,hi,rfl⟩:=List.getElem_of_mem h
  exact ⟨o.keys.getD i [],i,by have:=hs.2; omega,rfl,by simp [List.getD,hi]⟩
 ·rintro ⟨k,i,hi,_,rfl⟩
  have hi' : i < o.kids.length:=by have:=hs.2; omega
  simp only [List.getD,List.getElem?_eq_getElem hi',Option.getD_some]
  exact List.getElem_mem hi'
theorem keyed_cases {k : Int} (h : keyedB k = true) : k = 7 ∨ k = 9:=by simpa [keyedB] using h
theorem useB_keyed {o : Pob} (hk : keyedB o.kind = true) {d : Int} : useB o d = true ↔ o.num = 0 ∧ o.gen = 0 ∧ (o.kind = 9 ∨ o.str = []) ∧ (d = 1 ∨ o.kind = 7):=by
 rcases keyed_cases hk with h | h <;> simp [useB,uOk,uN,uG,uS,uKeys,uKids,h] <;> grind
theorem formB_keyed {o : Pob} (hk : keyedB o.kind = true) : formB o = true ↔ risingP o:=by
 rcases keyed_cases hk with h | h <;> simp [formB,uKeys,h,risingB]
theorem fitsB_keyed {o : Pob} (hk : keyedB o.kind = true) : fitsB o = true:=by
 rcases keyed_cases hk with h | h <;> simp [fitsB,h]
theorem shortB_keyed {o : Pob} (hk : keyedB o.kind = true) : shortB o = true ↔ (o.str.length : Int) ≤ 1048576:=by
 rcases keyed_cases hk with h | h <;> simp [shortB,h]
theorem chk_keyed {o : Pob} (hk : keyedB o.kind = true) {d : Int} : chk o d = 0 ↔ (d ≤ 24 ∧ o.num = 0 ∧ o.gen = 0 ∧ (o.kind = 9 ∨ o.str = []) ∧ (d = 1 ∨ o.kind = 7) ∧ (o.str.length : Int) ≤ 1048576 ∧ (o.kids.length : Int) ≤ 8191) ∧ o.kvOk ∧
  ∀ k v,o.has k v → nameB k = true ∧ ¬ (o.kind = 9 ∧ k = lengthK) ∧ v.kind ≠ 0 ∧ chk v (d + 1) = 0:=by
 rw [chk_iff,ownE_iff,useB_keyed hk,formB_keyed hk,shortB_keyed hk,rising_iff]
 constructor
 ·rintro ⟨⟨h1,⟨h2,h3,h4,h5⟩,_,h6,h7,hs,h8⟩,h9⟩
  refine ⟨⟨h1,h2,h3,h4,h5,h6,h7⟩,hs,fun k v hv=>?_⟩
  obtain ⟨g1,g2,g3⟩:=h8 k v hv
  exact ⟨g1,g2,g3,h9 v ((has_kid hs).2 ⟨k,hv⟩)⟩
 ·rintro ⟨⟨h1,h2,h3,h4,h5,h6,h7⟩,hs,h8⟩
  refine ⟨⟨h1,⟨h2,h3,h4,h5⟩,fitsB_keyed hk,h6,h7,hs,fun k v hv=>?_⟩,fun v hv=>?_⟩
  ·obtain ⟨g1,g2,g3,_⟩:=h8 k v hv
   exact ⟨g1,g2,g3⟩
  ·obtain ⟨k,hk'⟩:=(has_kid hs).1 hv
   exact (h8 k v hk').2.2.2
def refB (o : Pob) : Bool:=decide (o.kind = 8) && (decide (1 ≤ o.num) && decide (o.num ≤ 8191))
def refStp (s : List Int) (o : Pob) : List Int:=if refB o = true then setAdd s o.num else s
def sortI (s : List Int) : List Int:=s.mergeSort fun x y=>decide (x ≤ y)
def refsO (o : Pob) : List Int:=sortI (o.pre.foldl refStp [])
theorem refStp_len (l : List Pob) : ∀ (s : List Int),(l.foldl refStp s).length ≤ s.length + l.length:=by
 induction l with
 | nil=>intro s; simp
 | cons o l ih =>
  intro s
  have h1:=ih (refStp s o)
  have h2 : (refStp s o).length ≤ s.length + 1:=by
   simp only [refStp,setAdd]
   split
   ·split <;> simp
   ·omega
  simp only [List.foldl_cons,List.length_cons]
  omega
theorem refStp_mem (l : List Pob) : ∀ (s : List Int) (n : Int),n ∈ l.foldl refStp s ↔ n ∈ s ∨ ∃ p ∈ l,refB p = true ∧ p.num = n:=by
 induction l with
 | nil=>intro s n; simp
 | cons o l ih =>
  intro s n
  rw [List.foldl_cons,ih]
  have h1 : n ∈ refStp s o ↔ n ∈ s ∨ (refB o = true ∧ o.num = n):=by
   simp only [refStp,setAdd]
   split
   ·rename_i h
    split
    ·rename_i h2
     constructor
     ·exact .inl
     ·rintro (g | ⟨_,rfl⟩)
      ·exact g
      ·exact h2
    ·simp only [List.mem_append,List.mem_singleton]
     constructor
     ·rintro (g | rfl)
      ·exact .inl g
      ·exact .inr ⟨h,rfl⟩
     ·rintro (g | ⟨_,rfl⟩)
      ·exact .inl g
      ·exact .inr rfl
   ·rename_i h
    simp [h]
  rw [h1]
  simp only [List.mem_cons,exists_eq_or_imp]
  grind
theorem refStp_nodup (l : List Pob) : ∀ (s : List Int),s.Nodup → (l.foldl refStp s).Nodup:=by
 induction l with
 | nil=>exact fun s h=>h
 | cons o l ih =>
  intro s h
  refine ih _ ?_
  simp only [refStp,setAdd]
  split
  ·split
   ·exact h
   ·rename_i h2
    rw [List.nodup_append]
    refine ⟨h,by simp,?_⟩
    intro a ha b hb e
    simp only [List.mem_singleton] at hb
    subst hb
    subst e
    exact h2 ha
  ·exact h
theorem refs_mem {o : Pob} {n : Int} : n ∈ refsO o ↔ ∃ p ∈ o.pre,refB p = true ∧ p.num = n:=by
 unfold refsO sortI
 rw [(List.mergeSort_perm _ _).mem_iff,refStp_mem]
 simp
theorem refs_len (o : Pob) : (refsO o).length ≤ o.bulk:=by
 unfold refsO sortI
 rw [(List.mergeSort_perm _ _).length_eq]
 have h1:=refStp_len o.pre []
 have h2:=Pob.pre_le o
 simp only [List.length_nil] at h1
 omega
theorem sortI_pairwise (s : List Int) : (sortI s).Pairwise (· ≤ ·):=by
 have:=List.pairwise_mergeSort (le:=fun x y : Int=>decide (x ≤ y)) (fun a b c h1 h2=>by simp only [decide_eq_true_eq] at h1 h2 ⊢; omega) (fun a b=>by simp only [Bool.or_eq_true,decide_eq_true_eq]; omega) s
 exact this.imp fun h=>by simpa using h
theorem refs_lt (o : Pob) : (refsO o).Pairwise (· < ·):=by
 have h1:=sortI_pairwise (o.pre.foldl refStp [])
 have h2 : (refsO o).Nodup:=by
  unfold refsO sortI
  exact (List.mergeSort_perm _ _).nodup_iff.2 (refStp_nodup _ _ List.nodup_nil)
 have h3:=List.Pairwise.and h1 h2
 exact h3.imp fun ⟨a,b⟩=>by omega
theorem lt_ext : ∀ {a b : List Int},a.Pairwise (· < ·) → b.Pairwise (· < ·) → (∀ n,n ∈ a ↔ n ∈ b) → a = b
 | [],[],_,_,_=>rfl
 | [],y :: b,_,_,h=>by have:=(h y).2 (by simp); simp at this
 | x :: a,[],_,_,h=>by have:=(h x).1 (by simp); simp at this
 | x :: a,y :: b,ha,hb,h=>by
  rw [List.pairwise_cons] at ha hb
  have hxy : x = y:=by
   have h1:=(h x).1 (by simp)
   have h2:=(h y).2 (by simp)
   rcases List.mem_cons.1 h1 with g | g
   ·exact g
   ·rcases List.mem_cons.1 h2 with g' | g'
    ·exact g'.symm
    ·have:=hb.1 x g; have:=ha.1 y g'; omega
  subst hxy
  congr 1
  refine lt_ext ha.2 hb.2 fun n=>?_
  have h1:=h n
  simp only [List.mem_cons] at h1
  constructor
  ·intro g
   rcases h1.1 (.inr g) with rfl | g'
   ·have:=ha.1 n g; omega
   ·exact g'
  ·intro g
   rcases h1.2 (.inr g) with rfl | g'
   ·have:=hb.1 n g; omega
   ·exact g'
theorem nidxI_cases (l : List Int) (n : Int) : (∃ i : Nat,i < l.length ∧ nidxI l n = i ∧ l.getD i 0 = n) ∨ (nidxI l n = -1 ∧ n ∉ l):=by
 unfold nidxI
 by_cases h : nidx l n < l.length
 ·left
  refine ⟨nidx l n,h,by simp [h],?_⟩
  have h2 : decide (l[nidx l n] = n) = true:=List.findIdx_getElem (p:=fun x=>decide (x = n)) (w:=h)
  simpa [List.getD,h] using h2
 ·right
  refine ⟨by simp [h],fun hm=>h ?_⟩
  unfold nidx
  rw [List.findIdx_lt_length]
  exact ⟨n,hm,by simp⟩
end Aw

set_option linter.unusedVariables false
namespace Aw
open Go
end Aw
