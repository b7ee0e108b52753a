/- A part of the proof: no condition of its own. -/
import Derived.Test.YtldekaaiippfkaaGreatPart3
import Derived.Shelf.SlIterI.Sorted
import Derived.Shelf.Sort.Plain
import Derived.Shelf.Slices.In.SortNone
import Derived.Test.YtldekaaiippfkaaGreatProg
namespace Go.Proofs
open Go.RowKit Go.Maps Go.Sort Go.Shelf
def Tryz.lays189_ren : Go.Shelf.Ren := ⟨fun | 189 => 122 | 125 => 129 | 257 => 128 | 128 => 139 | 129 => 140 | 294 => 130 | 295 => 131 | 296 => 132 | 297 => 133 | 298 => 134 | 299 => 135 | 216 => 136 | 300 => 137 | 301 => 138 | 328 => 141 | 329 => 142 | 330 => 143 | 331 => 144 | 332 => 145 | 215 => 146 | 343 => 147 | n => n, fun | 28 => 41 | 3 => 3 | 46 => 101 | 0 => 0 | 51 => 141 | 53 => 143 | 4 => 4 | 183 => 134 | 182 => 133 | 131 => 80 | 5 => 5 | 9 => 9 | 218 => 144 | 222 => 148 | 228 => 150 | 229 => 151 | n => n, fun | n => n⟩
theorem Tryz.lays189 : Go.Proofs.Lays.n189 Tryz.prog Tryz.lays189_ren := {
 mixed := by kernel_rfl
 f125 := Tryz.func129.trans (congrArg some (by kernel_rfl))
 f128 := Tryz.func139.trans (congrArg some (by kernel_rfl))
 f129 := Tryz.func140.trans (congrArg some (by kernel_rfl))
 f189 := Tryz.func122.trans (congrArg some (by kernel_rfl))
 f215 := Tryz.func146.trans (congrArg some (by kernel_rfl))
 f216 := Tryz.func136.trans (congrArg some (by kernel_rfl))
 f257 := Tryz.func128.trans (congrArg some (by kernel_rfl))
 f294 := Tryz.func130.trans (congrArg some (by kernel_rfl))
 f295 := Tryz.func131.trans (congrArg some (by kernel_rfl))
 f296 := Tryz.func132.trans (congrArg some (by kernel_rfl))
 f297 := Tryz.func133.trans (congrArg some (by kernel_rfl))
 f298 := Tryz.func134.trans (congrArg some (by kernel_rfl))
 f299 := Tryz.func135.trans (congrArg some (by kernel_rfl))
 f300 := Tryz.func137.trans (congrArg some (by kernel_rfl))
 f301 := Tryz.func138.trans (congrArg some (by kernel_rfl))
 f328 := Tryz.func141.trans (congrArg some (by kernel_rfl))
 f329 := Tryz.func142.trans (congrArg some (by kernel_rfl))
 f330 := Tryz.func143.trans (congrArg some (by kernel_rfl))
 f331 := Tryz.func144.trans (congrArg some (by kernel_rfl))
 f332 := Tryz.func145.trans (congrArg some (by kernel_rfl))
 f343 := Tryz.func147.trans (congrArg some (by kernel_rfl))
 t0 := Tryz.underlying0
 a0 := Tryz.isAgg0
 z0 := Tryz.sizeOf0
 v0 := Tryz.zeroValue0
 t3 := Tryz.underlying3
 a3 := Tryz.isAgg3
 z3 := Tryz.sizeOf3
 v3 := Tryz.zeroValue3
 t4 := Tryz.underlying4
 a4 := Tryz.isAgg4
 z4 := Tryz.sizeOf4
 v4 := Tryz.zeroValue4
 t5 := Tryz.underlying5
 a5 := Tryz.isAgg5
 z5 := Tryz.sizeOf5
 v5 := Tryz.zeroValue5
 t9 := Tryz.underlying9
 a9 := Tryz.isAgg9
 z9 := Tryz.sizeOf9
 v9 := Tryz.zeroValue9
 t28 := Tryz.underlying41
 a28 := Tryz.isAgg41
 z28 := Tryz.sizeOf41
 v28 := Tryz.zeroValue41
 t46 := Tryz.underlying101
 a46 := Tryz.isAgg101
 z46 := Tryz.sizeOf101
 v46 := Tryz.zeroValue101
 t51 := Tryz.underlying141
 a51 := Tryz.isAgg141
 z51 := Tryz.sizeOf141
 v51 := Tryz.zeroValue141
 t53 := Tryz.underlying143
 a53 := Tryz.isAgg143
 z53 := Tryz.sizeOf143
 v53 := Tryz.zeroValue143
 t131 := Tryz.underlying80
 a131 := Tryz.isAgg80
 z131 := Tryz.sizeOf80
 v131 := Tryz.zeroValue80
 t182 := Tryz.underlying133
 a182 := Tryz.isAgg133
 z182 := Tryz.sizeOf133
 v182 := Tryz.zeroValue133
 t183 := Tryz.underlying134
 a183 := Tryz.isAgg134
 z183 := Tryz.sizeOf134
 v183 := Tryz.zeroValue134
 t218 := Tryz.underlying144
 a218 := Tryz.isAgg144
 z218 := Tryz.sizeOf144
 v218 := Tryz.zeroValue144
 t222 := Tryz.underlying148
 a222 := Tryz.isAgg148
 z222 := Tryz.sizeOf148
 v222 := Tryz.zeroValue148
 t228 := Tryz.underlying150
 a228 := Tryz.isAgg150
 z228 := Tryz.sizeOf150
 v228 := Tryz.zeroValue150
 t229 := Tryz.underlying151
 a229 := Tryz.isAgg151
 z229 := Tryz.sizeOf151
 v229 := Tryz.zeroValue151 }
open Go.Sort Go.RowKit in
theorem Tryz.slices_Sort_int (blk off cap : Nat) (zs : List Int) (w : World) (hH : Holds (Value.int .i64) w blk off zs.toArray) (hblk : blk < w.heap.size) (hsz : zs.length < 4611686018427387904) :
  Calls Tryz.prog 122 #[.slice (some ⟨blk, off, none⟩) zs.length cap] w fun e w' =>
   e = .returned (.tuple #[]) ∧ ∃ n os, w' = grow (putRow (Value.int .i64) (Sort.ahead w n) blk off (zs.mergeSort fun x y => decide (x ≤ y)).toArray) os := Any.slices_Sort_int Tryz.lays189 blk off cap zs w hH hblk hsz
theorem Tryz.slices_Sort_int_none (p : Option Addr) (cap : Nat) (w : World) :
  Calls Tryz.prog 122 #[.slice p 0 cap] w fun e w' => e = .returned (.tuple #[]) ∧ w' = w := Any.slices_Sort_int_none Tryz.lays189 p cap w
def Tryz.keysA_ren : Go.Shelf.Ren := ⟨fun | 7 => 116 | 10 => 123 | n => n, fun | 23 => 65 | 26 => 3 | 3 => 4 | 28 => 119 | 0 => 0 | 27 => 118 | 33 => 127 | 4 => 4 | n => n, fun n => n⟩
def Tryz.sortedA_ren : Go.Shelf.Ren := ⟨fun | 6 => 115 | 8 => 121 | 9 => 122 | 11 => 127 | 13 => 129 | 12 => 128 | 23 => 139 | 24 => 140 | 14 => 130 | 15 => 131 | 16 => 132 | 17 => 133 | 18 => 134 | 19 => 135 | 20 => 136 | 21 => 137 | 22 => 138 | 25 => 141 | 26 => 142 | 27 => 143 | 28 => 144 | 29 => 145 | 30 => 146 | 31 => 147 | n => n, fun | 26 => 3 | 28 => 119 | 24 => 41 | 0 => 0 | 3 => 3 | 37 => 101 | 48 => 141 | 50 => 143 | 4 => 4 | 40 => 134 | 39 => 133 | 45 => 80 | 5 => 5 | 9 => 9 | 51 => 144 | 55 => 148 | 57 => 150 | 58 => 151 | 33 => 127 | n => n, fun n => n⟩
theorem Tryz.keysA : SlLaysZI.n7 Tryz.prog Tryz.keysA_ren := {
 mixed := by kernel_rfl
 f7 := ⟨"maps.Keys[map[int]bool,int,bool]", by decide, Tryz.func116.trans (congrArg some (by kernel_rfl))⟩
 f10 := ⟨"maps.Keys[map[int]bool,int,bool]$1", by decide, Tryz.func123.trans (congrArg some (by kernel_rfl))⟩
 t0 := Tryz.underlying0
 a0 := Tryz.isAgg0
 z0 := Tryz.sizeOf0
 v0 := Tryz.zeroValue0
 t4 := Tryz.underlying4
 a4 := Tryz.isAgg4
 z4 := Tryz.sizeOf4
 v4 := Tryz.zeroValue4
 t23 := Tryz.underlying65
 a23 := Tryz.isAgg65
 z23 := Tryz.sizeOf65
 v23 := Tryz.zeroValue65
 t26 := Tryz.underlying3
 a26 := Tryz.isAgg3
 z26 := Tryz.sizeOf3
 v26 := Tryz.zeroValue3
 t27 := Tryz.underlying118
 a27 := Tryz.isAgg118
 z27 := Tryz.sizeOf118
 v27 := Tryz.zeroValue118
 t28 := Tryz.underlying119
 a28 := Tryz.isAgg119
 z28 := Tryz.sizeOf119
 v28 := Tryz.zeroValue119
 t33 := Tryz.underlying127
 a33 := Tryz.isAgg127
 z33 := Tryz.sizeOf127
 v33 := Tryz.zeroValue127 }
theorem Tryz.sortedA : SlLaysZI.n6 Tryz.prog Tryz.sortedA_ren := {
 mixed := by kernel_rfl
 f6 := ⟨"slices.Sorted[int]", by decide, Tryz.func115.trans (congrArg some (by kernel_rfl))⟩
 f8 := ⟨"slices.Collect[int]", by decide, Tryz.func121.trans (congrArg some (by kernel_rfl))⟩
 f11 := ⟨"slices.AppendSeq[[]int,int]", by decide, Tryz.func127.trans (congrArg some (by kernel_rfl))⟩
 t0 := Tryz.underlying0
 a0 := Tryz.isAgg0
 z0 := Tryz.sizeOf0
 v0 := Tryz.zeroValue0
 t24 := Tryz.underlying41
 a24 := Tryz.isAgg41
 z24 := Tryz.sizeOf41
 v24 := Tryz.zeroValue41
 t26 := Tryz.underlying3
 a26 := Tryz.isAgg3
 z26 := Tryz.sizeOf3
 v26 := Tryz.zeroValue3
 t28 := Tryz.underlying119
 a28 := Tryz.isAgg119
 z28 := Tryz.sizeOf119
 v28 := Tryz.zeroValue119
 i26 := by kernel_rfl }

/-- slices.Sort at int: what slices.Sorted asks for -/
theorem Tryz.sortsA (m : Nat) : AnyZI.SortsIn Tryz.prog Tryz.sortedA_ren Fence.wide m :=
 ⟨fun blk off cap ss W hH hblk hsz => callsIn_wide.2 (Tryz.slices_Sort_int blk off cap ss W hH hblk hsz),
  fun p cap W => callsIn_wide.2 (Tryz.slices_Sort_int_none p cap W)⟩
/-- slices.Sorted(maps.Keys(m)): the second call -/
theorem Tryz.sortedKeys {H : Type} (bm b nn : Nat) (D0 : DataW H) (R : Value → Option (DataW H × List MemPlace)) (w : World) (hbm : bm < w.heap.size) (hm : w.cell? ⟨bm, 0, none⟩ = some (.map (some b))) (hown : w.ownsMap Tryz.prog 3 R b nn D0) (hmax : Maps.size D0 ≤ maxLen) (hbytes : Maps.size D0 * 8 ≤ 140737488355328) :
  Calls Tryz.prog 115 #[.func (.func 123) #[] #[.pointer (some ⟨bm, 0, none⟩)]] w fun e w' => ∃ (v : Value) (ss : List Int), e = .returned v ∧ ss.Perm (intKeys D0) ∧
   w'.ownsRow w.heap.size 3 1 v ss.length ((ss.mergeSort (fun x y => decide (x ≤ y))).map encZ) ∧ (v = .slice none 0 0 ↔ ss = []) ∧ Below w.heap.size w w' := by
 have hseq : SeqGives Fence.wide 2 Tryz.prog 123 #[.pointer (some ⟨bm, 0, none⟩)] encZ (fun ss => ss.Perm (intKeys D0)) (Maps.size D0) w :=
  AnyZI.keys_gives (ρ := Tryz.keysA_ren) { Tryz.keysA with } Fence.wide _ trivial rfl (by omega) bm b nn D0 _ hbm hm hown
 have cS := AnyZI.sorted_in Tryz.sortedA Fence.wide 5 trivial trivial trivial trivial rfl (by omega) (Tryz.sortsA _) (enters_of Tryz.func122 (by kernel_rfl) rfl) 123 #[.pointer (some ⟨bm, 0, none⟩)] trivial (enters_of Tryz.func123 (by kernel_rfl) rfl) _ _ hmax hbytes _ hseq
 exact callsIn_wide.1 cS
end Go.Proofs

namespace Go.Proofs
open Go Aw Go.WideElems Go.Maps Go.RowKit
set_option linter.unusedSimpArgs false
set_option linter.unusedVariables false
set_option maxRecDepth 100000
set_option maxHeartbeats 4000000

def intV : Value → Int
 | .int _ n => n
 | _ => 0
theorem set_owns {m : Mem} {ri : RI} {s : List Int} (hb : BlkRep m ri (setOf (fun n => AV.int .i64 n) s)) (hwf : ∀ x ∈ s, (Lit.int .i64 x).wf = true) (hl : s.length ≤ 16777216) :
  ∃ D0 : DataW Unit, m.w.ownsMap Tryz.prog 3 (plainElem Tryz.prog 4) ri.b s.length D0 ∧ (intKeys D0).Perm s ∧ Maps.size D0 = s.length := by
 obtain ⟨h1, h2, h3, es, clock, h4, h5, h6, h7⟩ := set_blk (keyOk_int .i64) hb
 have hlen : es.size = s.length := by
  have := congrArg List.length h5
  simpa using this
 have hkey : ∀ x ∈ es.toList, x.key = .int .i64 (intV x.key) ∧ (Lit.int .i64 (intV x.key)).wf = true := by
  intro x hx
  have : x.key ∈ s.map (fun n : Int => Value.int .i64 n) := by rw [← h5]; exact List.mem_map_of_mem hx
  obtain ⟨n, hn, e⟩ := List.mem_map.1 this
  rw [← e]
  exact ⟨rfl, hwf n hn⟩
 have hval : ∀ x ∈ es.toList, x.val = .bool true := by
  intro x hx
  have : x.val ∈ s.map (fun _ : Int => Value.bool true) := by rw [← h6]; exact List.mem_map_of_mem hx
  obtain ⟨n, hn, e⟩ := List.mem_map.1 this
  exact e.symm
 have hrd : ∀ x ∈ es.toList, rd Tryz.prog 3 (plainElem (H := Unit) Tryz.prog 4) x = some (.int .i64 (intV x.key), .lit (.bool true)) := by
  intro x hx
  obtain ⟨k1, k2⟩ := hkey x hx
  have hk : keyOf Tryz.prog 3 x.key = some (.int .i64 (intV x.key)) := by
   generalize intV x.key = n at k1 k2
   rw [k1]
   simp [keyOf, Tryz.underlying3, mapKey, k2]
  have hv : plainElem (H := Unit) Tryz.prog 4 x.val = some (.lit (.bool true), []) := by rw [hval x hx]; exact plainElem_bool Tryz.underlying4 true
  exact rd_mk (born := x.born) hk hv
 refine ⟨.map ((es.toList.map (rg Tryz.prog 3 (plainElem Tryz.prog 4))).foldr DataW.insert []), ⟨es, clock, h4, ⟨by rw [hlen]; simp only [maxLen]; omega, h7, fun x hx => ⟨_, hrd x hx⟩⟩, by rw [hlen]; exact Nat.le_refl _, rfl⟩, ?_, ?_⟩
 ·simp only [intKeys]
  refine ((Go.WideShapes.sorted_perm _).map _).trans ?_
  rw [List.map_map]
  have : es.toList.map ((fun p : Lit × DataW Unit => Go.intOf p.1) ∘ rg Tryz.prog 3 (plainElem Tryz.prog 4)) = s := by
   have e1 : es.toList.map ((fun p : Lit × DataW Unit => Go.intOf p.1) ∘ rg Tryz.prog 3 (plainElem Tryz.prog 4)) = (es.toList.map (·.key)).map intV := by
    rw [List.map_map]
    refine List.map_congr_left fun x hx => ?_
    simp only [Function.comp, rg_of (hrd x hx), Go.intOf]
   rw [e1, h5, List.map_map]
   have : (intV ∘ fun n : Int => Value.int .i64 n) = id := rfl
   rw [this, List.map_id]
  rw [this]
 ·simp only [Maps.size, length_sorted, List.length_map]
  simpa using hlen
end Go.Proofs

namespace Go.Proofs
open Go Aw
set_option linter.unusedSimpArgs false
set_option linter.unusedVariables false
set_option maxRecDepth 100000
set_option maxHeartbeats 2000000
theorem noTL_VI : ∀ l : List (Int × Itm), noTL (l.map fun p => VI p.2) = true
 | [] => rfl
 | p :: l => by simp only [List.map_cons, noTL, VI, noT, Itm.cells, Bool.and_self, Bool.true_and]; exact noTL_VI l
theorem noTL_KI : ∀ l : List (Int × Itm), noTL (l.map fun p => KI p.1) = true
 | [] => rfl
 | p :: l => by simp only [List.map_cons, noTL, noT, Bool.true_and]; exact noTL_KI l
theorem noTBm_net (l : List (Int × Itm)) : noTBm (mapOf KI VI l) = true := by simp only [mapOf, noTBm, noTL_VI, noTL_KI, Bool.and_self]
attribute [local go_sem ↓ high] noTBm_net
attribute [local go_sem] mres netL_nil VI leadI leadB
theorem c_graph_leads (gl : List (Nat × AV)) (l : List Itm) (o : Pob) : FnP Tryz.prog (gl) 118 [cmapOf KI VI (netL l), .agg o.cells] fun r => r = .ret (.tup [.agg (leadI l o).cells, .bool (leadB l o)]) := by
 refine FnP.intro Tryz.func118 rfl rfl (by simp [Tryz.ntmps118]) ?_
 simp only [argEnv, Tryz.ntmps118, Tryz.results118]
 refine AW.rS ?_
 refine AW.rSC ?_
 refine awOps.cons ?_
 refine awGuard.lkC (keyOk_int .i64) Itm.zero zero_itm rfl ?_
 refine awOps.rn ?_
 refine AW.sS [0, 1, 2, 3, 4, 5, 6, 7, 8] 9 [(10, 2)] [(0, .cells o.cells), (1, .cells (leadI l o).cells), (2, .cells (leadI l o).cells)] ?_
 refine awFunE.p ?_
 refine awFunE.p ?_
 refine awFunE.p ?_
 refine awFunE.p ?_
 refine awFunE.p ?_
 refine awFunE.p ?_
 refine awFunE.p ?_
 refine awFunE.p ?_
 refine awFunE.p ?_
 rw [Aw.awFunE_nil]
 refine ⟨EffAt.of [4, 15], ?_⟩
 refine awPlan.rn ?_
 refine AW.rt ?_
 simp only [Bool.cond_false_right]; rfl
theorem h_graph_refs (gl : List (Nat × AV)) (o : Pob) : FnH Tryz.prog (gl) 117 [.agg o.cells] ([]) 0 (fun r h n => r = .ret (.clos 124 [.ptr 0 0]) ∧ h = [(0, .cells o.cells)] ∧ n = 1) := by
 refine FnH.intro Tryz.func117 rfl rfl (by simp [Tryz.ntmps117]) ?_
 simp only [argEnv, Tryz.ntmps117, Tryz.results117]
 refine AW.rS ?_
 refine AW.rS ?_
 refine AW.rt ?_
 all_goals first | contradiction | rfl | (simp; done) | (simp; omega)
theorem h_graph_of (gl : List (Nat × AV)) (d : Dc) (hv : docE d = 0) (h : d.bulk ≤ 16777216) : FnH Tryz.prog (gl) 102 [.agg d.cells] ([]) 0 (fun r h n => r = .ret (.tup [.map 0, .bool true]) ∧ h = [(0, mapOf KI VI (netL d.items))] ∧ n = 1) := by
 refine FnH.intro Tryz.func102 rfl rfl (by simp [Tryz.ntmps102]) ?_
 simp only [argEnv, Tryz.ntmps102, Tryz.results102]
 have hs := items_incr (docE_items hv)
 have hb : d.bulk = ibulk d.items + d.trailer.bulk := rfl
 have hl := ibulk_len d.items
 refine AW.rS ?_
 refine AW.seq ?_
 refine AW.rSC ?_
 refine awOps.cons (awGuard.c1 (c_docs_Check _ d h) ?_)
 refine awOps.rn ?_
 refine AW.c2 ?_ ?_
 ·intro h6
  exact absurd hv h6
 ·intro h6
  refine AW.skip ?_
  refine AW.rSC ?_
  refine awOps.cons ?_
  refine awGuard.mkM VI (keyOk_int .i64) ?_
  refine awOps.rn ?_
  refine AW.seq ?_
  refine AW.rS ?_
  refine AW.block ?_
  refine AW.lk (S := { k : Nat // k ≤ d.items.length }) [4, 15, 16] (fun s_ => [(17, .int .i64 s_.1)]) (fun s_ => [(0, .cells d.cells), (1, mapOf KI VI (netL (d.items.take s_.1)))]) 2 (fun s_ => d.items.length - s_.1) ⟨0, Nat.zero_le _⟩ ?_ ?_
  ·refine St.le.vw [0, 1]
  rintro ⟨k, hk⟩
  try dsimp only at hk
  refine AW.rS ?_
  refine AW.seq ?_
  refine AW.c2 ?_ ?_
  ·intro h20
   refine AW.skip ?_
   refine AW.seq ?_
   refine AW.block ?_
   refine AW.rS ?_
   refine AW.rLC ?_
   refine awOps.cons ?_
   refine awGuard.upM (keyOk_int .i64) (d.items.getD k Itm.zero) ?_
   refine awOps.rn ?_
   refine AW.rL ?_
   refine ⟨⟨k + 1, by omega⟩, ?_, ?_⟩
   ·refine St.le.vx [0, 1] ?_
    rw [netL_new hs (by omega)]
   ·simp only []; omega
  ·intro h20
   refine AW.exit ?_
   obtain rfl : k = d.items.length := by omega
   rw [List.take_length]
   refine AW.rS ?_
   refine AW.pre (σ' := ⟨27, [(2, .map 0), (3, .bool true)], [(0, mapOf KI VI (netL d.items))], 1, gl, 0, []⟩) (St.le.vw [1]) ?_
   refine AW.rt ?_
   all_goals first | contradiction | rfl | (simp; done) | (simp; omega)
end Go.Proofs

namespace Go.Proofs
open Go Aw
theorem noTL_dcells (z : Dc) : noTL z.cells = true := by cases z; rfl
end Go.Proofs

namespace Go.Proofs
open Go Aw
set_option linter.unusedSimpArgs false
set_option linter.unusedVariables false
set_option maxRecDepth 100000
set_option maxHeartbeats 1000000
attribute [local go_sem ↓ high] noTBm_net
end Go.Proofs

namespace Go.Proofs
open Go Aw
set_option linter.unusedSimpArgs false
set_option linter.unusedVariables false
set_option maxRecDepth 100000
set_option maxHeartbeats 1000000
attribute [local go_sem ↓ high] noTBm_net
end Go.Proofs

namespace Go.Proofs
open Go Aw
set_option linter.unusedSimpArgs false
set_option linter.unusedVariables false
set_option maxRecDepth 100000
set_option maxHeartbeats 1000000
attribute [local go_sem ↓ high] noTBm_net
theorem wr_step (gl : List (Nat × AV)) (l : List Itm) (o0 : Pob) (stp : (List Int × List Pob) → Pob → (List Int × List Pob) × Bool) (c0 : Code) (I : (List Int × List Pob) → Prop) (hI : ∀ s o, I s → I (stp s o).1) (lq : Nat) (rc : Option Code → Loop) {Ω : Mem → Prop} [LastsU Ω]
  (hY : ∀ s o, I s → RoundU Ω Tryz.prog gl lq [.agg (Pob.cells o)] ([(0, .cells [.map 1]), (1, mapOf KI VI (netL l)), (2, .cells [.map 3]), (3, setOf (fun n => AV.int .i64 n) (s).1), (4, .cells [.row 7 0 (s).2.length]), (5, .cells (Pob.cells o0)), (7, .row 6 (objsAV (s).2) true), (6, .lp lq (rc none))]) 8 7 fun r h n => r = .ret (.bool (!(stp s o).2)) ∧ h = [(0, .cells [.map 1]), (1, mapOf KI VI (netL l)), (2, .cells [.map 3]), (3, setOf (fun n => AV.int .i64 n) ((stp s o).1).1), (4, .cells [.row 7 0 ((stp s o).1).2.length]), (5, .cells (Pob.cells o0)), (7, .row 6 (objsAV ((stp s o).1).2) true), (6, .lp lq (rc (if (stp s o).2 then some c0 else none)))] ∧ n = 8)
  (N : Nat) (hN : N ≤ 16777216) (ih : ∀ s (o' : Pob), I s → o'.bulk < N → FnU Ω Tryz.prog gl 125 [.agg (Pob.cells o'), .raw (.func (.yield lq) #[] #[])] ([(0, .cells [.map 1]), (1, mapOf KI VI (netL l)), (2, .cells [.map 3]), (3, setOf (fun n => AV.int .i64 n) (s).1), (4, .cells [.row 7 0 (s).2.length]), (5, .cells (Pob.cells o0)), (7, .row 6 (objsAV (s).2) true), (6, .lp lq (rc none))]) 8 7 (fun r h n => r = .ret (.bool (!(walkR stp s (Pob.pre o')).2)) ∧ h = [(0, .cells [.map 1]), (1, mapOf KI VI (netL l)), (2, .cells [.map 3]), (3, setOf (fun n => AV.int .i64 n) ((walkR stp s (Pob.pre o')).1).1), (4, .cells [.row 7 0 ((walkR stp s (Pob.pre o')).1).2.length]), (5, .cells (Pob.cells o0)), (7, .row 6 (objsAV ((walkR stp s (Pob.pre o')).1).2) true), (6, .lp lq (rc (if (walkR stp s (Pob.pre o')).2 then some c0 else none)))] ∧ n = 8))
  (s : (List Int × List Pob)) (hs : I s) (o : Pob) (hl : o.kids.length ≤ 16777216) (hb : ∀ i, i < o.kids.length → (o.kids.getD i Pob.null).bulk < N) :
  FnU Ω Tryz.prog gl 125 [.agg (Pob.cells o), .raw (.func (.yield lq) #[] #[])] ([(0, .cells [.map 1]), (1, mapOf KI VI (netL l)), (2, .cells [.map 3]), (3, setOf (fun n => AV.int .i64 n) (s).1), (4, .cells [.row 7 0 (s).2.length]), (5, .cells (Pob.cells o0)), (7, .row 6 (objsAV (s).2) true), (6, .lp lq (rc none))]) 8 7 (fun r h n => r = .ret (.bool (!(walkR stp s (Pob.pre o)).2)) ∧ h = [(0, .cells [.map 1]), (1, mapOf KI VI (netL l)), (2, .cells [.map 3]), (3, setOf (fun n => AV.int .i64 n) ((walkR stp s (Pob.pre o)).1).1), (4, .cells [.row 7 0 ((walkR stp s (Pob.pre o)).1).2.length]), (5, .cells (Pob.cells o0)), (7, .row 6 (objsAV ((walkR stp s (Pob.pre o)).1).2) true), (6, .lp lq (rc (if (walkR stp s (Pob.pre o)).2 then some c0 else none)))] ∧ n = 8) := by
 have hpre := Pob.pre_eq o
 refine FnU.intro Tryz.func125 rfl rfl (by simp [Tryz.ntmps125]) ?_ ?_
 ·rintro q hp' nx' ⟨rfl, rfl, rfl⟩
  exact ⟨by simp only [↓noTHm_cons, noTHm, ↓noTBm_ints, ↓noTBm_net, noTBm, noTL, noT, noTL_cells, Bool.and_self], _, rfl, rfl⟩
 intro B_
 simp only [argEnv, Tryz.ntmps125, Tryz.results125]
 refine AWT.rS ?_
 refine AWT.seq ?_
 refine AWT.rSC ?_
 by_cases hk : o.kind = 8
 ·have hy := hY s o hs
  cases hst : (stp s o).2
  ·simp only [hst, Bool.not_false, Bool.false_eq_true, if_false] at hy
   have hw_stop : ∀ i, i < o.kids.length → (walkR stp (stp s o).1 (pres (o.kids.take i))).2 = false → (walkR stp (walkR stp (stp s o).1 (pres (o.kids.take i))).1 (o.kids.getD i Pob.null).pre).2 = true → walkR stp s (o :: pres o.kids) = ((walkR stp (walkR stp (stp s o).1 (pres (o.kids.take i))).1 (o.kids.getD i Pob.null).pre).1, true) := fun i hi hg hh => by rw [walkR_go hk hst]; exact walkR_kid hi hg hh
   have hw_end : ∀ i, ¬ i < o.kids.length → (walkR stp (stp s o).1 (pres (o.kids.take i))).2 = false → walkR stp s (o :: pres o.kids) = ((walkR stp (stp s o).1 (pres (o.kids.take i))).1, false) := fun i hi hg => by rw [walkR_go hk hst, ← hg]; rw [List.take_of_length_le (by omega)]
   refine OpsT.cYG [0, 1, 2, 3, 4, 5, 6, 7] hy (hgv := by simp only [go_sem, seval]; simp [hk]) ?_
   refine OpsT.rn ?_
   refine OpsT.nil ?_
   refine AWT.c2 ?_ ?_
   ·intro h
    simp at h
   ·intro _
    refine AWT.skip ?_
    refine AWT.seq ?_
    refine AWT.rS ?_
    refine AWT.block ?_
    refine AWT.lk (S := { i : Nat // i ≤ o.kids.length ∧ (walkR stp (stp s o).1 (pres (o.kids.take i))).2 = false }) [1, 17, 18] (fun s_ => [(19, .int .i64 s_.1)]) (fun s_ => [(0, .cells [.map 1]), (1, mapOf KI VI (netL l)), (2, .cells [.map 3]), (3, setOf (fun n => AV.int .i64 n) ((walkR stp (stp s o).1 (pres (o.kids.take s_.1))).1).1), (4, .cells [.row 7 0 ((walkR stp (stp s o).1 (pres (o.kids.take s_.1))).1).2.length]), (5, .cells (Pob.cells o0)), (7, .row 6 (objsAV ((walkR stp (stp s o).1 (pres (o.kids.take s_.1))).1).2) true), (6, .lp lq (rc none))]) 8 (fun s_ => o.kids.length - s_.1) ⟨0, Nat.zero_le _, by simp [pres_nil, walkR_nil]⟩ ?_ ?_
    ·refine St.le.vx [0, 1, 2, 3, 4, 5, 6, 9] (hpre := (by decide : ∀ i, i < 7 → nth [0, 1, 2, 3, 4, 5, 6, 9] i = some i)) ?_
     simp [pres_nil, walkR_nil]
    rintro ⟨i, hi, hgo⟩
    try dsimp only at hi
    try dsimp only at hgo
    have hsi : I (walkR stp (stp s o).1 (pres (o.kids.take i))).1 := walkR_inv hI _ _ (hI _ _ hs)
    refine AWT.rS ?_
    refine AWT.seq ?_
    refine AWT.c2 ?_ ?_
    ·intro h17
     refine AWT.skip ?_
     refine AWT.seq ?_
     refine AWT.block ?_
     refine AWT.rS ?_
     refine AWT.rSC ?_
     have hc := ih _ (o.kids.getD i Pob.null) hsi (hb i (by omega))
     have htk := pres_take (l := o.kids) (i := i) (by omega)
     cases hst : (walkR stp (walkR stp (stp s o).1 (pres (o.kids.take i))).1 (o.kids.getD i Pob.null).pre).2
     ·simp only [hst, Bool.not_false, Bool.false_eq_true, if_false] at hc
      refine OpsT.cTU [0, 1, 2, 3, 4, 5, 6, 7] hc ?_
      refine OpsT.rn ?_
      refine OpsT.nil ?_
      refine AWT.c2 ?_ ?_
      ·intro h
       simp at h
      ·intro _
       refine AWT.skip ?_
       refine AWT.rL ?_
       have e1 : walkR stp (stp s o).1 (pres (o.kids.take (i + 1))) = ((walkR stp (walkR stp (stp s o).1 (pres (o.kids.take i))).1 (o.kids.getD i Pob.null).pre).1, false) := walkR_more (by omega) hgo hst
       refine ⟨⟨i + 1, by omega, by rw [e1]⟩, ?_, ?_⟩
       ·refine St.le.vx [0, 1, 2, 3, 4, 5, 6, 9] (hpre := (by decide : ∀ i, i < 7 → nth [0, 1, 2, 3, 4, 5, 6, 9] i = some i)) ?_
        rw [e1]
        all_goals simp
       ·simp only []; omega
     ·simp only [hst, Bool.not_true, if_true] at hc
      refine OpsT.cTU [0, 1, 2, 3, 4, 5, 6, 7] hc ?_
      refine OpsT.rn ?_
      refine OpsT.nil ?_
      refine AWT.c2 ?_ ?_
      ·intro h
       refine AWT.rS ?_
       refine AWT.pre (σ' := ⟨28, [(4, .bool false)], [(0, .cells [.map 1]), (1, mapOf KI VI (netL l)), (2, .cells [.map 3]), (3, setOf (fun n => AV.int .i64 n) ((walkR stp (walkR stp (stp s o).1 (pres (o.kids.take i))).1 (o.kids.getD i Pob.null).pre).1).1), (4, .cells [.row 7 0 ((walkR stp (walkR stp (stp s o).1 (pres (o.kids.take i))).1 (o.kids.getD i Pob.null).pre).1).2.length]), (5, .cells (Pob.cells o0)), (7, .row 6 (objsAV ((walkR stp (walkR stp (stp s o).1 (pres (o.kids.take i))).1 (o.kids.getD i Pob.null).pre).1).2) true), (6, .lp lq (rc (some c0)))], 8, gl, 7, []⟩) (St.le.vw [0, 1, 2, 3, 4, 5, 6, 9] (hpre := (by decide : ∀ i, i < 7 → nth [0, 1, 2, 3, 4, 5, 6, 9] i = some i))) ?_
       refine AWT.rt ?_
       have e := hw_stop  i (by omega) hgo hst
       rw [hpre, e]
       simp
      ·intro h
       simp at h
    ·intro h17
     refine AWT.exit ?_
     refine AWT.rS ?_
     refine AWT.pre (σ' := ⟨28, [(4, .bool true)], [(0, .cells [.map 1]), (1, mapOf KI VI (netL l)), (2, .cells [.map 3]), (3, setOf (fun n => AV.int .i64 n) ((walkR stp (stp s o).1 (pres (o.kids.take i))).1).1), (4, .cells [.row 7 0 ((walkR stp (stp s o).1 (pres (o.kids.take i))).1).2.length]), (5, .cells (Pob.cells o0)), (7, .row 6 (objsAV ((walkR stp (stp s o).1 (pres (o.kids.take i))).1).2) true), (6, .lp lq (rc none))], 8, gl, 7, []⟩) (St.le.vw [0, 1, 2, 3, 4, 5, 6, 7] (hpre := (by decide : ∀ i, i < 7 → nth [0, 1, 2, 3, 4, 5, 6, 7] i = some i))) ?_
     refine AWT.rt ?_
     have e := hw_end i (by omega) hgo
     rw [hpre, e]
     simp
  ·simp only [hst, Bool.not_true, if_true] at hy
   refine OpsT.cYG [0, 1, 2, 3, 4, 5, 6, 7] hy (hgv := by simp only [go_sem, seval]; simp [hk]) ?_
   refine OpsT.rn ?_
   refine OpsT.nil ?_
   refine AWT.c2 ?_ ?_
   ·intro h
    refine AWT.rS ?_
    refine AWT.pre (σ' := ⟨28, [(4, .bool false)], [(0, .cells [.map 1]), (1, mapOf KI VI (netL l)), (2, .cells [.map 3]), (3, setOf (fun n => AV.int .i64 n) ((stp s o).1).1), (4, .cells [.row 7 0 ((stp s o).1).2.length]), (5, .cells (Pob.cells o0)), (7, .row 6 (objsAV ((stp s o).1).2) true), (6, .lp lq (rc (some c0)))], 8, gl, 7, []⟩) (St.le.vw [0, 1, 2, 3, 4, 5, 6, 9] (hpre := (by decide : ∀ i, i < 7 → nth [0, 1, 2, 3, 4, 5, 6, 9] i = some i))) ?_
    refine AWT.rt ?_
    rw [hpre, walkR_stop hk hst]
    simp
   ·intro h
    simp [hk] at h
 ·skip
  have hw_stop : ∀ i, i < o.kids.length → (walkR stp s (pres (o.kids.take i))).2 = false → (walkR stp (walkR stp s (pres (o.kids.take i))).1 (o.kids.getD i Pob.null).pre).2 = true → walkR stp s (o :: pres o.kids) = ((walkR stp (walkR stp s (pres (o.kids.take i))).1 (o.kids.getD i Pob.null).pre).1, true) := fun i hi hg hh => by rw [walkR_no hk]; exact walkR_kid hi hg hh
  have hw_end : ∀ i, ¬ i < o.kids.length → (walkR stp s (pres (o.kids.take i))).2 = false → walkR stp s (o :: pres o.kids) = ((walkR stp s (pres (o.kids.take i))).1, false) := fun i hi hg => by rw [walkR_no hk, ← hg]; rw [List.take_of_length_le (by omega)]
  refine OpsT.gN (.bool true) ?_ (hgv := by simp only [go_sem, seval]; simp [hk])
  refine OpsT.rn ?_
  refine OpsT.nil ?_
  refine AWT.c2 ?_ ?_
  ·intro h
   simp [hk] at h
  ·intro _
   refine AWT.skip ?_
   refine AWT.seq ?_
   refine AWT.rS ?_
   refine AWT.block ?_
   refine AWT.lk (S := { i : Nat // i ≤ o.kids.length ∧ (walkR stp s (pres (o.kids.take i))).2 = false }) [1, 17, 18] (fun s_ => [(19, .int .i64 s_.1)]) (fun s_ => [(0, .cells [.map 1]), (1, mapOf KI VI (netL l)), (2, .cells [.map 3]), (3, setOf (fun n => AV.int .i64 n) ((walkR stp s (pres (o.kids.take s_.1))).1).1), (4, .cells [.row 7 0 ((walkR stp s (pres (o.kids.take s_.1))).1).2.length]), (5, .cells (Pob.cells o0)), (7, .row 6 (objsAV ((walkR stp s (pres (o.kids.take s_.1))).1).2) true), (6, .lp lq (rc none))]) 8 (fun s_ => o.kids.length - s_.1) ⟨0, Nat.zero_le _, by simp [pres_nil, walkR_nil]⟩ ?_ ?_
   ·refine St.le.vx [0, 1, 2, 3, 4, 5, 6, 7] (hpre := (by decide : ∀ i, i < 7 → nth [0, 1, 2, 3, 4, 5, 6, 7] i = some i)) ?_
    simp [pres_nil, walkR_nil]
   rintro ⟨i, hi, hgo⟩
   try dsimp only at hi
   try dsimp only at hgo
   have hsi : I (walkR stp s (pres (o.kids.take i))).1 := walkR_inv hI _ _ hs
   refine AWT.rS ?_
   refine AWT.seq ?_
   refine AWT.c2 ?_ ?_
   ·intro h17
    refine AWT.skip ?_
    refine AWT.seq ?_
    refine AWT.block ?_
    refine AWT.rS ?_
    refine AWT.rSC ?_
    have hc := ih _ (o.kids.getD i Pob.null) hsi (hb i (by omega))
    have htk := pres_take (l := o.kids) (i := i) (by omega)
    cases hst : (walkR stp (walkR stp s (pres (o.kids.take i))).1 (o.kids.getD i Pob.null).pre).2
    ·simp only [hst, Bool.not_false, Bool.false_eq_true, if_false] at hc
     refine OpsT.cTU [0, 1, 2, 3, 4, 5, 6, 7] hc ?_
     refine OpsT.rn ?_
     refine OpsT.nil ?_
     refine AWT.c2 ?_ ?_
     ·intro h
      simp at h
     ·intro _
      refine AWT.skip ?_
      refine AWT.rL ?_
      have e1 : walkR stp s (pres (o.kids.take (i + 1))) = ((walkR stp (walkR stp s (pres (o.kids.take i))).1 (o.kids.getD i Pob.null).pre).1, false) := walkR_more (by omega) hgo hst
      refine ⟨⟨i + 1, by omega, by rw [e1]⟩, ?_, ?_⟩
      ·refine St.le.vx [0, 1, 2, 3, 4, 5, 6, 9] (hpre := (by decide : ∀ i, i < 7 → nth [0, 1, 2, 3, 4, 5, 6, 9] i = some i)) ?_
       rw [e1]
       all_goals simp
      ·simp only []; omega
    ·simp only [hst, Bool.not_true, if_true] at hc
     refine OpsT.cTU [0, 1, 2, 3, 4, 5, 6, 7] hc ?_
     refine OpsT.rn ?_
     refine OpsT.nil ?_
     refine AWT.c2 ?_ ?_
     ·intro h
      refine AWT.rS ?_
      refine AWT.pre (σ' := ⟨28, [(4, .bool false)], [(0, .cells [.map 1]), (1, mapOf KI VI (netL l)), (2, .cells [.map 3]), (3, setOf (fun n => AV.int .i64 n) ((walkR stp (walkR stp s (pres (o.kids.take i))).1 (o.kids.getD i Pob.null).pre).1).1), (4, .cells [.row 7 0 ((walkR stp (walkR stp s (pres (o.kids.take i))).1 (o.kids.getD i Pob.null).pre).1).2.length]), (5, .cells (Pob.cells o0)), (7, .row 6 (objsAV ((walkR stp (walkR stp s (pres (o.kids.take i))).1 (o.kids.getD i Pob.null).pre).1).2) true), (6, .lp lq (rc (some c0)))], 8, gl, 7, []⟩) (St.le.vw [0, 1, 2, 3, 4, 5, 6, 9] (hpre := (by decide : ∀ i, i < 7 → nth [0, 1, 2, 3, 4, 5, 6, 9] i = some i))) ?_
      refine AWT.rt ?_
      have e := hw_stop  i (by omega) hgo hst
      rw [hpre, e]
      simp
     ·intro h
      simp at h
   ·intro h17
    refine AWT.exit ?_
    refine AWT.rS ?_
    refine AWT.pre (σ' := ⟨28, [(4, .bool true)], [(0, .cells [.map 1]), (1, mapOf KI VI (netL l)), (2, .cells [.map 3]), (3, setOf (fun n => AV.int .i64 n) ((walkR stp s (pres (o.kids.take i))).1).1), (4, .cells [.row 7 0 ((walkR stp s (pres (o.kids.take i))).1).2.length]), (5, .cells (Pob.cells o0)), (7, .row 6 (objsAV ((walkR stp s (pres (o.kids.take i))).1).2) true), (6, .lp lq (rc none))], 8, gl, 7, []⟩) (St.le.vw [0, 1, 2, 3, 4, 5, 6, 7] (hpre := (by decide : ∀ i, i < 7 → nth [0, 1, 2, 3, 4, 5, 6, 7] i = some i))) ?_
    refine AWT.rt ?_
    have e := hw_end i (by omega) hgo
    rw [hpre, e]
    simp
theorem wr_all (gl : List (Nat × AV)) (l : List Itm) (o0 : Pob) (stp : (List Int × List Pob) → Pob → (List Int × List Pob) × Bool) (c0 : Code) (I : (List Int × List Pob) → Prop) (hI : ∀ s o, I s → I (stp s o).1) (lq : Nat) (rc : Option Code → Loop) {Ω : Mem → Prop} [LastsU Ω]
  (hY : ∀ s o, I s → RoundU Ω Tryz.prog gl lq [.agg (Pob.cells o)] ([(0, .cells [.map 1]), (1, mapOf KI VI (netL l)), (2, .cells [.map 3]), (3, setOf (fun n => AV.int .i64 n) (s).1), (4, .cells [.row 7 0 (s).2.length]), (5, .cells (Pob.cells o0)), (7, .row 6 (objsAV (s).2) true), (6, .lp lq (rc none))]) 8 7 fun r h n => r = .ret (.bool (!(stp s o).2)) ∧ h = [(0, .cells [.map 1]), (1, mapOf KI VI (netL l)), (2, .cells [.map 3]), (3, setOf (fun n => AV.int .i64 n) ((stp s o).1).1), (4, .cells [.row 7 0 ((stp s o).1).2.length]), (5, .cells (Pob.cells o0)), (7, .row 6 (objsAV ((stp s o).1).2) true), (6, .lp lq (rc (if (stp s o).2 then some c0 else none)))] ∧ n = 8) (N : Nat) :
  N ≤ 16777216 → ∀ s (o : Pob), I s → o.bulk ≤ N → FnU Ω Tryz.prog gl 125 [.agg (Pob.cells o), .raw (.func (.yield lq) #[] #[])] ([(0, .cells [.map 1]), (1, mapOf KI VI (netL l)), (2, .cells [.map 3]), (3, setOf (fun n => AV.int .i64 n) (s).1), (4, .cells [.row 7 0 (s).2.length]), (5, .cells (Pob.cells o0)), (7, .row 6 (objsAV (s).2) true), (6, .lp lq (rc none))]) 8 7 (fun r h n => r = .ret (.bool (!(walkR stp s (Pob.pre o)).2)) ∧ h = [(0, .cells [.map 1]), (1, mapOf KI VI (netL l)), (2, .cells [.map 3]), (3, setOf (fun n => AV.int .i64 n) ((walkR stp s (Pob.pre o)).1).1), (4, .cells [.row 7 0 ((walkR stp s (Pob.pre o)).1).2.length]), (5, .cells (Pob.cells o0)), (7, .row 6 (objsAV ((walkR stp s (Pob.pre o)).1).2) true), (6, .lp lq (rc (if (walkR stp s (Pob.pre o)).2 then some c0 else none)))] ∧ n = 8) := by
 induction N using Nat.strongRecOn with
 | ind N IH =>
  intro hN s o hs ho
  have hb := Pob.bulk_eq o
  exact wr_step gl l o0 stp c0 I hI lq rc hY N hN (fun s o' hs h => IH o'.bulk h (by omega) s o' hs (Nat.le_refl _)) s hs o (by omega) (fun i hi => Nat.lt_of_lt_of_le (Pob.bulk_kid hi) ho)

theorem wr_refs (gl : List (Nat × AV)) (l : List Itm) (o0 : Pob) (stp : (List Int × List Pob) → Pob → (List Int × List Pob) × Bool) (c0 : Code) (I : (List Int × List Pob) → Prop) (hI : ∀ s o, I s → I (stp s o).1) (lq : Nat) (rc : Option Code → Loop) {Ω : Mem → Prop} [LastsU Ω]
  (hY : ∀ s o, I s → RoundU Ω Tryz.prog gl lq [.agg (Pob.cells o)] ([(0, .cells [.map 1]), (1, mapOf KI VI (netL l)), (2, .cells [.map 3]), (3, setOf (fun n => AV.int .i64 n) (s).1), (4, .cells [.row 7 0 (s).2.length]), (5, .cells (Pob.cells o0)), (7, .row 6 (objsAV (s).2) true), (6, .lp lq (rc none))]) 8 7 fun r h n => r = .ret (.bool (!(stp s o).2)) ∧ h = [(0, .cells [.map 1]), (1, mapOf KI VI (netL l)), (2, .cells [.map 3]), (3, setOf (fun n => AV.int .i64 n) ((stp s o).1).1), (4, .cells [.row 7 0 ((stp s o).1).2.length]), (5, .cells (Pob.cells o0)), (7, .row 6 (objsAV ((stp s o).1).2) true), (6, .lp lq (rc (if (stp s o).2 then some c0 else none)))] ∧ n = 8)
  (s : (List Int × List Pob)) (hs : I s) (h : (Pob.bulk o0) ≤ 16777216) : FnU Ω Tryz.prog gl 124 [.raw (.func (.yield lq) #[] #[]), .ptr 5 0] ([(0, .cells [.map 1]), (1, mapOf KI VI (netL l)), (2, .cells [.map 3]), (3, setOf (fun n => AV.int .i64 n) (s).1), (4, .cells [.row 7 0 (s).2.length]), (5, .cells (Pob.cells o0)), (7, .row 6 (objsAV (s).2) true), (6, .lp lq (rc none))]) 8 7 (fun r h n => r = .ret (.tup []) ∧ h = [(0, .cells [.map 1]), (1, mapOf KI VI (netL l)), (2, .cells [.map 3]), (3, setOf (fun n => AV.int .i64 n) ((walkR stp s (Pob.pre o0)).1).1), (4, .cells [.row 7 0 ((walkR stp s (Pob.pre o0)).1).2.length]), (5, .cells (Pob.cells o0)), (7, .row 6 (objsAV ((walkR stp s (Pob.pre o0)).1).2) true), (6, .lp lq (rc (if (walkR stp s (Pob.pre o0)).2 then some c0 else none)))] ∧ n = 8) := by
 refine FnU.intro Tryz.func124 rfl rfl (by simp [Tryz.ntmps124]) ?_ ?_
 ·rintro q hp' nx' ⟨rfl, rfl, rfl⟩
  exact ⟨by simp only [↓noTHm_cons, noTHm, ↓noTBm_ints, ↓noTBm_net, noTBm, noTL, noT, noTL_cells, noTL_dcells, Bool.and_self], _, rfl, rfl⟩
 intro B_
 simp only [argEnv, Tryz.ntmps124, Tryz.results124]
 refine AWT.post ?_
 refine AWT.rLC ?_
 refine OpsT.cTU [0, 1, 2, 3, 4, 5, 6, 7] (wr_all gl l o0 stp c0 I hI lq rc hY 16777216 (Nat.le_refl _) s o0 hs h) ?_
 refine OpsT.rn ?_
 refine OpsT.nil ?_
 refine ⟨rfl, ⟨6, [], [(0, .cells [.map 1]), (1, mapOf KI VI (netL l)), (2, .cells [.map 3]), (3, setOf (fun n => AV.int .i64 n) ((walkR stp s (Pob.pre o0)).1).1), (4, .cells [.row 7 0 ((walkR stp s (Pob.pre o0)).1).2.length]), (5, .cells (Pob.cells o0)), (7, .row 6 (objsAV ((walkR stp s (Pob.pre o0)).1).2) true), (6, .lp lq (rc (if (walkR stp s (Pob.pre o0)).2 then some c0 else none)))], 8, gl, 7, []⟩, (St.le.vw [0, 1, 2, 3, 4, 5, 6, 8] (hpre := (by decide : ∀ i, i < 7 → nth [0, 1, 2, 3, 4, 5, 6, 8] i = some i))), ?_⟩
 refine wk ?_
 all_goals first | contradiction | rfl | (simp; done) | (simp; omega)

end Go.Proofs

namespace Go.Proofs
open Go Aw
set_option linter.unusedSimpArgs false
set_option linter.unusedVariables false
set_option maxRecDepth 100000
set_option maxHeartbeats 1000000
attribute [local go_sem ↓ high] noTBm_net
attribute [local go_sem] mres netL_nil
end Go.Proofs

namespace Go.Proofs
open Go Aw
set_option linter.unusedSimpArgs false
set_option linter.unusedVariables false
set_option maxRecDepth 100000
set_option maxHeartbeats 1000000
attribute [local go_sem ↓ high] noTBm_net
attribute [local go_sem] mres netL_nil ebuildC acellsC partsC List.length_append List.length_cons List.length_nil
theorem h_graph_reach (gl : List (Nat × AV)) (l : List Itm) (o : Pob) (hl : l.length ≤ 8000000) (hb : ∀ i ∈ l, i.obj.bulk ≤ 16777216) (ho : o.bulk ≤ 16777216) :
  FnT (fun _ => True) Tryz.prog gl 104 [.map 0, .agg o.cells] [(0, mapOf KI VI (netL l))] 1 fun r h n => r = .ret (.map 1) ∧ h = [(0, mapOf KI VI (netL l)), (1, setOf (fun n => AV.int .i64 n) (reachS l o))] ∧ n = 2 := by
 refine FnT.intro Tryz.func104 rfl rfl (by simp [Tryz.ntmps104]) ?_ ?_
 ·rintro q hp' nx' ⟨rfl, rfl, rfl⟩
  exact ⟨by simp only [↓noTHm_cons, noTHm, ↓noTBm_ints, ↓noTBm_net, Bool.and_self], _, rfl, rfl⟩
 intro B_
 simp only [argEnv, Tryz.ntmps104, Tryz.results104]
 refine AWT.rS ?_
 refine AWT.rSC ?_
 refine OpsT.cs (awGuard.mkS (keyOk_int .i64) ?_)
 refine OpsT.rn ?_
 refine OpsT.nil ?_
 refine AWT.rS ?_
 refine AWT.seq ?_
 refine AWT.block ?_
 refine AWT.lk (S := { p : (List Int × List Pob) × Pob // reachJ l o p.1 ∧ reachK 16777216 p.1 }) [2, 3, 5, 6] (fun s_ => []) (fun s_ => [(0, mapOf KI VI (netL l)), (1, .cells [.map 0]), (2, .cells (Pob.cells s_.1.2)), (3, setOf (fun n => AV.int .i64 n) s_.1.1.1), (4, .cells [.map 3]), (5, .row 6 (objsAV s_.1.1.2) true), (6, .cells [.row 5 0 s_.1.1.2.length])]) 7 (fun s_ => reachM l s_.1.1) ⟨(([], [o]), o), reachJ_top l o, by intro p hp; simp only [List.mem_singleton] at hp; subst hp; exact ho⟩ ?_ ?_
 ·refine St.le.vx [0, 1, 2, 3, 4, 5, 6] (hpre := (by decide : ∀ i, i < 1 → nth [0, 1, 2, 3, 4, 5, 6] i = some i)) ?_
  simp [objsAV_map]
  rw [← objsAV_map]
  cases o
  rfl
 rintro ⟨⟨s, cur⟩, hj, hk⟩
 try dsimp only at hj
 try dsimp only at hk
 have hlen := reachI_len hj.1
 refine AWT.seq ?_
 refine AWT.rS ?_
 refine AWT.c2 ?_ ?_
 ·intro h15
  have hn : 0 < s.2.length := by omega
  have hel := reachK_at hk hn
  refine AWT.skip ?_
  refine AWT.block ?_
  refine AWT.sS [0, 1, 2, 3, 4, 5, 6, 7, 8, 9, 10] 11 [(12, 2)] [(0, mapOf KI VI (netL l)), (1, .cells [.map 0]), (2, .cells (Pob.cells (s.2.getD (s.2.length - 1) Pob.null))), (3, setOf (fun n => AV.int .i64 n) s.1), (4, .cells [.map 3]), (5, .row 6 (objsAV s.2) true), (6, .cells [.row 5 0 s.2.length])] ?_
  iterate 11 refine awFunE.p ?_
  rw [Aw.awFunE_nil]
  refine ⟨EffAt.of [3, 21], ?_⟩
  refine awPlan.rn ?_
  refine AWT.pre (St.le.rowTake 5 (s.2.length - 1) rfl) ?_
  refine AWT.trim [2, 3, 5, 6] ?_
  rw [objsAV_take]
  have hpop : popS l s = (walkR (reachStp l) (s.1, (s.2.take (s.2.length - 1))) (Pob.pre (s.2.getD (s.2.length - 1) Pob.null))).1 := rfl
  have hmm := popS_M hj.1 hn
  have hpj := reachJ_pop hj hn
  have hpk := popS_K hb hk
  have hpi := pop_inv hj.1
  generalize hps : popS l s = ps at hpop hmm hpj hpk
  generalize (s.2.getD (s.2.length - 1) Pob.null) = el at hel hpop ⊢
  have htl : s.2.length - 1 = (s.2.take (s.2.length - 1)).length := by simp
  generalize (s.2.take (s.2.length - 1)) = td at hpop hpi htl ⊢
  rw [htl]
  refine AWT.rSC ?_
  refine OpsT.cN [] (FnT.ofH (h_graph_refs _ el)) ?_
  refine OpsT.rn ?_
  refine OpsT.nil ?_
  refine AWT.block ?_
  refine AWT.rU [1, 0, 4, 3, 6, 7] [5] [(2, .ptr 0 0), (5, .ptr 2 0), (6, .ptr 4 0)] (fun j h k => j = none ∧ (∃ rl lq, h = [(0, .cells [.map 1]), (1, mapOf KI VI (netL l)), (2, .cells [.map 3]), (3, setOf (fun n => AV.int .i64 n) ps.1), (4, .cells [.row 7 0 (ps.2).length]), (5, .cells (Pob.cells el)), (7, .row 6 (objsAV ps.2) true), (6, .lp lq rl)]) ∧ k = 8) (xs := [.ptr 5 0]) (hp0 := [(0, .cells [.map 1]), (1, mapOf KI VI (netL l)), (2, .cells [.map 3]), (3, setOf (fun n => AV.int .i64 n) s.1), (4, .cells [.row 7 0 (td).length]), (5, .cells (Pob.cells el)), (7, .row 6 (objsAV td) true)]) ?_ ?_
  ·intro Ω _ lq rb rc hr
   refine (wr_refs gl l el (reachStp l) .skip (fun s => reachI l s) (fun s o h => reachI_stp s o h) lq rc (fun s1 o1 hs1 => ?_) (s.1, td) hpi hel).mono (fun q hp nx hh => ?_)
   ·have hl1 := reachI_len hs1
    refine hr [_] _ 8 _ rfl rfl ?_
    refine AWT.rL ?_
    refine ⟨rfl, rfl, ?_⟩
    refine AWT.block ?_
    refine AWT.rSC ?_
    refine OpsT.cs (awGuard.c1 (c_graph_leads _ l o1) ?_)
    refine OpsT.rn ?_
    refine OpsT.nil ?_
    refine AWT.seq ?_
    refine AWT.rSC ?_
    refine OpsT.cs (awGuard.lkG (keyOk_int .i64) ?_)
    refine OpsT.rn ?_
    refine OpsT.nil ?_
    refine AWT.c2 ?_ ?_
    ·intro hq
     have hb1 : reachB l s1.1 o1 = false := by
      cases hb1 : reachB l s1.1 o1
      ·rfl
      ·exfalso
       simp [reachB] at hb1
       simp [hb1.1, hb1.2] at hq
     refine AWT.exit ?_
     refine ⟨none, rfl, ⟨55, [], [(0, .cells [.map 1]), (1, mapOf KI VI (netL l)), (2, .cells [.map 3]), (3, setOf (fun n => AV.int .i64 n) (reachStp l s1 o1).1.1), (4, .cells [.row 7 0 ((reachStp l s1 o1).1.2).length]), (5, .cells (Pob.cells el)), (7, .row 6 (objsAV (reachStp l s1 o1).1.2) true), (6, .lp lq rb)], 8, gl, 7, []⟩, ?_, rfl, by simp only [go_sem, seval], rfl, rfl, rfl⟩
     refine St.le.vx [0, 1, 2, 3, 4, 5, 6, 7] (hpre := (by decide : ∀ i, i < 7 → nth [0, 1, 2, 3, 4, 5, 6, 7] i = some i)) ?_
     simp [reachStp, hb1]
    ·intro hq
     have hb1 : reachB l s1.1 o1 = true := by
      cases hb1 : reachB l s1.1 o1
      ·exfalso
       simp only [reachB, Bool.and_eq_false_iff, Bool.not_eq_false', decide_eq_true_eq] at hb1
       rcases hb1 with hb1 | hb1
       ·simp [hb1] at hq
       ·simp [hb1] at hq
      ·rfl
     refine AWT.skip ?_
     refine AWT.rSC ?_
     refine OpsT.cs (awGuard.upS (keyOk_int .i64) ?_)
     refine OpsT.rn ?_
     refine OpsT.nil ?_
     refine AWT.trim [6, 8] ?_
     refine AWT.tGL (σf := ?sf10) (.take 1 0 (.fork 0 (.fork 2 (.fork 3 (.fork 4 (.fork 5 (.fork 6 (.fork 7 (.fork 8 .done .stop) (.fork 8 (.fork 7 .done .stop) .stop)) (.fork 8 (.fork 6 (.fork 7 .done .stop) .stop) .stop)) .stop) .stop) (.fork 4 (.fork 3 (.fork 5 (.fork 6 (.fork 7 (.fork 8 .done .stop) (.fork 8 (.fork 7 .done .stop) .stop)) (.fork 8 (.fork 6 (.fork 7 .done .stop) .stop) .stop)) .stop) .stop) .stop)) (.fork 3 (.fork 2 (.fork 4 (.fork 5 (.fork 6 (.fork 7 (.fork 8 .done .stop) (.fork 8 (.fork 7 .done .stop) .stop)) (.fork 8 (.fork 6 (.fork 7 .done .stop) .stop) .stop)) .stop) .stop) (.fork 4 (.fork 2 (.fork 5 (.fork 6 (.fork 7 (.fork 8 .done .stop) (.fork 8 (.fork 7 .done .stop) .stop)) (.fork 8 (.fork 6 (.fork 7 .done .stop) .stop) .stop)) .stop) .stop) .stop)) (.fork 4 (.fork 2 (.fork 3 (.fork 5 (.fork 6 (.fork 7 (.fork 8 .done .stop) (.fork 8 (.fork 7 .done .stop) .stop)) (.fork 8 (.fork 6 (.fork 7 .done .stop) .stop) .stop)) .stop) .stop) (.fork 3 (.fork 2 (.fork 5 (.fork 6 (.fork 7 (.fork 8 .done .stop) (.fork 8 (.fork 7 .done .stop) .stop)) (.fork 8 (.fork 6 (.fork 7 .done .stop) .stop) .stop)) .stop) .stop) .stop)) .stop))) (.fork 2 (.fork 0 (.fork 3 (.fork 4 (.fork 5 (.fork 6 (.fork 7 (.fork 8 .done .stop) (.fork 8 (.fork 7 .done .stop) .stop)) (.fork 8 (.fork 6 (.fork 7 .done .stop) .stop) .stop)) .stop) .stop) (.fork 4 (.fork 3 (.fork 5 (.fork 6 (.fork 7 (.fork 8 .done .stop) (.fork 8 (.fork 7 .done .stop) .stop)) (.fork 8 (.fork 6 (.fork 7 .done .stop) .stop) .stop)) .stop) .stop) .stop)) (.fork 4 (.fork 0 (.fork 3 (.fork 5 (.fork 6 (.fork 7 (.fork 8 .done .stop) (.fork 8 (.fork 7 .done .stop) .stop)) (.fork 8 (.fork 6 (.fork 7 .done .stop) .stop) .stop)) .stop) .stop) .stop) .stop)) (.fork 4 (.fork 0 (.fork 2 (.fork 3 (.fork 5 (.fork 6 (.fork 7 (.fork 8 .done .stop) (.fork 8 (.fork 7 .done .stop) .stop)) (.fork 8 (.fork 6 (.fork 7 .done .stop) .stop) .stop)) .stop) .stop) (.fork 3 (.fork 2 (.fork 5 (.fork 6 (.fork 7 (.fork 8 .done .stop) (.fork 8 (.fork 7 .done .stop) .stop)) (.fork 8 (.fork 6 (.fork 7 .done .stop) .stop) .stop)) .stop) .stop) .stop)) (.fork 2 (.fork 0 (.fork 3 (.fork 5 (.fork 6 (.fork 7 (.fork 8 .done .stop) (.fork 8 (.fork 7 .done .stop) .stop)) (.fork 8 (.fork 6 (.fork 7 .done .stop) .stop) .stop)) .stop) .stop) .stop) .stop)) .stop)))) ?tree10 ?rest10
     case tree10 =>
      refine awTree.tk ?_
      refine awTree.fA ?_ ?_
      ·refine awTree.fA ?_ ?_
       ·refine awTree.fA ?_ ?_
        ·refine awTree.fK ?_ ?_
         ·refine awTree.fA ?_ ?_
          ·refine awTree.fA ?_ ?_
           ·refine awTree.fA ?_ ?_
            ·refine awTree.fA ?_ ?_
             ·exact awTree.dn
             ·exact trivial
            ·refine awTree.fA ?_ ?_
             ·refine awTree.fA ?_ ?_
              ·exact awTree.dn
              ·exact trivial
             ·exact trivial
           ·refine awTree.fA ?_ ?_
            ·refine awTree.fA ?_ ?_
             ·refine awTree.fA ?_ ?_
              ·exact awTree.dn
              ·exact trivial
             ·exact trivial
            ·exact trivial
          ·exact trivial
         ·exact trivial
        ·refine awTree.fK ?_ ?_
         ·refine awTree.fA ?_ ?_
          ·refine awTree.fA ?_ ?_
           ·refine awTree.fA ?_ ?_
            ·refine awTree.fA ?_ ?_
             ·refine awTree.fA ?_ ?_
              ·exact awTree.dn
              ·exact trivial
             ·refine awTree.fA ?_ ?_
              ·refine awTree.fA ?_ ?_
               ·exact awTree.dn
               ·exact trivial
              ·exact trivial
            ·refine awTree.fA ?_ ?_
             ·refine awTree.fA ?_ ?_
              ·refine awTree.fA ?_ ?_
               ·exact awTree.dn
               ·exact trivial
              ·exact trivial
             ·exact trivial
           ·exact trivial
          ·exact trivial
         ·exact trivial
       ·refine awTree.fA ?_ ?_
        ·refine awTree.fA ?_ ?_
         ·refine awTree.fK ?_ ?_
          ·refine awTree.fA ?_ ?_
           ·refine awTree.fA ?_ ?_
            ·refine awTree.fA ?_ ?_
             ·refine awTree.fA ?_ ?_
              ·exact awTree.dn
              ·exact trivial
             ·refine awTree.fA ?_ ?_
              ·refine awTree.fA ?_ ?_
               ·exact awTree.dn
               ·exact trivial
              ·exact trivial
            ·refine awTree.fA ?_ ?_
             ·refine awTree.fA ?_ ?_
              ·refine awTree.fA ?_ ?_
               ·exact awTree.dn
               ·exact trivial
              ·exact trivial
             ·exact trivial
           ·exact trivial
          ·exact trivial
         ·refine awTree.fK ?_ ?_
          ·refine awTree.fA ?_ ?_
           ·refine awTree.fA ?_ ?_
            ·refine awTree.fA ?_ ?_
             ·refine awTree.fA ?_ ?_
              ·refine awTree.fA ?_ ?_
               ·exact awTree.dn
               ·exact trivial
              ·refine awTree.fA ?_ ?_
               ·refine awTree.fA ?_ ?_
                ·exact awTree.dn
                ·exact trivial
               ·exact trivial
             ·refine awTree.fA ?_ ?_
              ·refine awTree.fA ?_ ?_
               ·refine awTree.fA ?_ ?_
                ·exact awTree.dn
                ·exact trivial
               ·exact trivial
              ·exact trivial
            ·exact trivial
           ·exact trivial
          ·exact trivial
        ·refine awTree.fK ?_ ?_
         ·refine awTree.fA ?_ ?_
          ·refine awTree.fA ?_ ?_
           ·refine awTree.fA ?_ ?_
            ·refine awTree.fA ?_ ?_
             ·refine awTree.fA ?_ ?_
              ·refine awTree.fA ?_ ?_
               ·exact awTree.dn
               ·exact trivial
              ·refine awTree.fA ?_ ?_
               ·refine awTree.fA ?_ ?_
                ·exact awTree.dn
                ·exact trivial
               ·exact trivial
             ·refine awTree.fA ?_ ?_
              ·refine awTree.fA ?_ ?_
               ·refine awTree.fA ?_ ?_
                ·exact awTree.dn
                ·exact trivial
               ·exact trivial
              ·exact trivial
            ·exact trivial
           ·exact trivial
          ·refine awTree.fA ?_ ?_
           ·refine awTree.fA ?_ ?_
            ·refine awTree.fA ?_ ?_
             ·refine awTree.fA ?_ ?_
              ·refine awTree.fA ?_ ?_
               ·refine awTree.fA ?_ ?_
                ·exact awTree.dn
                ·exact trivial
               ·refine awTree.fA ?_ ?_
                ·refine awTree.fA ?_ ?_
                 ·exact awTree.dn
                 ·exact trivial
                ·exact trivial
              ·refine awTree.fA ?_ ?_
               ·refine awTree.fA ?_ ?_
                ·refine awTree.fA ?_ ?_
                 ·exact awTree.dn
                 ·exact trivial
                ·exact trivial
               ·exact trivial
             ·exact trivial
            ·exact trivial
           ·exact trivial
         ·exact trivial
      ·refine awTree.fA ?_ ?_
       ·refine awTree.fA ?_ ?_
        ·refine awTree.fA ?_ ?_
         ·refine awTree.fK ?_ ?_
          ·refine awTree.fA ?_ ?_
           ·refine awTree.fA ?_ ?_
            ·refine awTree.fA ?_ ?_
             ·refine awTree.fA ?_ ?_
              ·exact awTree.dn
              ·exact trivial
             ·refine awTree.fA ?_ ?_
              ·refine awTree.fA ?_ ?_
               ·exact awTree.dn
               ·exact trivial
              ·exact trivial
            ·refine awTree.fA ?_ ?_
             ·refine awTree.fA ?_ ?_
              ·refine awTree.fA ?_ ?_
               ·exact awTree.dn
               ·exact trivial
              ·exact trivial
             ·exact trivial
           ·exact trivial
          ·exact trivial
         ·refine awTree.fK ?_ ?_
          ·refine awTree.fA ?_ ?_
           ·refine awTree.fA ?_ ?_
            ·refine awTree.fA ?_ ?_
             ·refine awTree.fA ?_ ?_
              ·refine awTree.fA ?_ ?_
               ·exact awTree.dn
               ·exact trivial
              ·refine awTree.fA ?_ ?_
               ·refine awTree.fA ?_ ?_
                ·exact awTree.dn
                ·exact trivial
               ·exact trivial
             ·refine awTree.fA ?_ ?_
              ·refine awTree.fA ?_ ?_
               ·refine awTree.fA ?_ ?_
                ·exact awTree.dn
                ·exact trivial
               ·exact trivial
              ·exact trivial
            ·exact trivial
           ·exact trivial
          ·exact trivial
        ·refine awTree.fK ?_ ?_
         ·refine awTree.fA ?_ ?_
          ·refine awTree.fA ?_ ?_
           ·refine awTree.fA ?_ ?_
            ·refine awTree.fA ?_ ?_
             ·refine awTree.fA ?_ ?_
              ·refine awTree.fA ?_ ?_
               ·exact awTree.dn
               ·exact trivial
              ·refine awTree.fA ?_ ?_
               ·refine awTree.fA ?_ ?_
                ·exact awTree.dn
                ·exact trivial
               ·exact trivial
             ·refine awTree.fA ?_ ?_
              ·refine awTree.fA ?_ ?_
               ·refine awTree.fA ?_ ?_
                ·exact awTree.dn
                ·exact trivial
               ·exact trivial
              ·exact trivial
            ·exact trivial
           ·exact trivial
          ·exact trivial
         ·exact trivial
       ·refine awTree.fK ?_ ?_
        ·refine awTree.fA ?_ ?_
         ·refine awTree.fA ?_ ?_
          ·refine awTree.fA ?_ ?_
           ·refine awTree.fA ?_ ?_
            ·refine awTree.fA ?_ ?_
             ·refine awTree.fA ?_ ?_
              ·refine awTree.fA ?_ ?_
               ·exact awTree.dn
               ·exact trivial
              ·refine awTree.fA ?_ ?_
               ·refine awTree.fA ?_ ?_
                ·exact awTree.dn
                ·exact trivial
               ·exact trivial
             ·refine awTree.fA ?_ ?_
              ·refine awTree.fA ?_ ?_
               ·refine awTree.fA ?_ ?_
                ·exact awTree.dn
                ·exact trivial
               ·exact trivial
              ·exact trivial
            ·exact trivial
           ·exact trivial
          ·refine awTree.fA ?_ ?_
           ·refine awTree.fA ?_ ?_
            ·refine awTree.fA ?_ ?_
             ·refine awTree.fA ?_ ?_
              ·refine awTree.fA ?_ ?_
               ·refine awTree.fA ?_ ?_
                ·exact awTree.dn
                ·exact trivial
               ·refine awTree.fA ?_ ?_
                ·refine awTree.fA ?_ ?_
                 ·exact awTree.dn
                 ·exact trivial
                ·exact trivial
              ·refine awTree.fA ?_ ?_
               ·refine awTree.fA ?_ ?_
                ·refine awTree.fA ?_ ?_
                 ·exact awTree.dn
                 ·exact trivial
                ·exact trivial
               ·exact trivial
             ·exact trivial
            ·exact trivial
           ·exact trivial
         ·refine awTree.fA ?_ ?_
          ·refine awTree.fA ?_ ?_
           ·refine awTree.fA ?_ ?_
            ·refine awTree.fA ?_ ?_
             ·refine awTree.fA ?_ ?_
              ·refine awTree.fA ?_ ?_
               ·refine awTree.fA ?_ ?_
                ·exact awTree.dn
                ·exact trivial
               ·refine awTree.fA ?_ ?_
                ·refine awTree.fA ?_ ?_
                 ·exact awTree.dn
                 ·exact trivial
                ·exact trivial
              ·refine awTree.fA ?_ ?_
               ·refine awTree.fA ?_ ?_
                ·refine awTree.fA ?_ ?_
                 ·exact awTree.dn
                 ·exact trivial
                ·exact trivial
               ·exact trivial
             ·exact trivial
            ·exact trivial
           ·exact trivial
          ·exact trivial
        ·exact trivial
     case rest10 =>
      refine ⟨none, rfl, ⟨55, [], [(0, .cells [.map 1]), (1, mapOf KI VI (netL l)), (2, .cells [.map 3]), (3, setOf (fun n => AV.int .i64 n) (reachStp l s1 o1).1.1), (4, .cells [.row 7 0 ((reachStp l s1 o1).1.2).length]), (5, .cells (Pob.cells el)), (7, .row 6 (objsAV (reachStp l s1 o1).1.2) true), (6, .lp lq rb)], 8, gl, 7, []⟩, ?_, rfl, by simp only [go_sem, seval], rfl, rfl, rfl⟩
      refine St.le.vx [0, 1, 2, 3, 4, 5, 6, 10] (hpre := (by decide : ∀ i, i < 7 → nth [0, 1, 2, 3, 4, 5, 6, 10] i = some i)) ?_
      simp [reachStp, hb1, objsAV_map]
      rw [← objsAV_map]
      generalize (leadI l o1).obj = oo
      cases oo
      rfl
   ·have hlast := walkR_last (reach_last l) (Pob.pre el) (s.1, td)
    refine ⟨⟨_, hh.1⟩, none, ?_, rfl, ?_, hh.2.2⟩
    ·rw [hh.2.1, hlast] <;> rfl
    ·rw [hpop]; exact ⟨_, _, hh.2.1⟩
  ·rintro j hp' nx' ⟨rfl, ⟨rl, lq, rfl⟩, rfl⟩
   refine ⟨by simp only [go_sem, seval], ?_⟩
   refine ⟨⟨(ps, el), hpj, hpk⟩, ?_, hmm⟩
   exact St.le.vw [0, 1, 2, 3, 4, 9, 6] (hpre := (by decide : ∀ i, i < 1 → nth [0, 1, 2, 3, 4, 9, 6] i = some i))
 ·intro h15
  refine AWT.exit ?_
  refine AWT.rS ?_
  refine AWT.pre (σ' := ⟨55, [(4, .map 1)], [(0, mapOf KI VI (netL l)), (1, setOf (fun n => AV.int .i64 n) (reachS l o))], 2, gl, 1, []⟩) ?_ ?_
  ·rw [← reachJ_end hj (by omega)]
   exact St.le.vw [0, 3] (hpre := (by decide : ∀ i, i < 1 → nth [0, 3] i = some i))
  ·refine AWT.rt ?_
   trivial
end Go.Proofs

namespace Go.Proofs
open Go Aw
set_option linter.unusedSimpArgs false
set_option linter.unusedVariables false
set_option maxRecDepth 100000
set_option maxHeartbeats 1000000
attribute [local go_sem ↓ high] noTBm_net
attribute [local go_sem] mres netL_nil
theorem repY_ints {m : Mem} {g : Nat} : ∀ (l : List Int) (o : Nat), (∀ i, i < l.length → m.w.cell? ⟨g, o + i, none⟩ = some (.int .i64 (l.getD i 0))) → RepY m (intsAV l) g o 1
 | [], _, _ => by simp [intsAV, RepY]
 | x :: l, o, h => by
  simp only [intsAV, List.map_cons, RepY, RepX]
  refine ⟨rfl, ⟨⟨_, h 0 (by simp), by simp only [Rep]; rfl⟩, trivial⟩, ?_⟩
  refine repY_ints l (o + 1) fun i hi => ?_
  have := h (i + 1) (by simp; omega)
  rw [show o + (i + 1) = o + 1 + i from by omega] at this
  simpa using this
theorem h_slices_SortedR (gl : List (Nat × AV)) (s : List Int) (hwf : ∀ x ∈ s, (Lit.int .i64 x).wf = true) (hl : s.length ≤ 16777216) :
  FnT (fun _ => True) Tryz.prog gl 115 [.clos 123 [.ptr 1 0]] [(0, setOf (fun n => AV.int .i64 n) s), (1, .cells [.map 0])] 2 fun r h n => r = .ret (.row 2 0 (sortI s).length) ∧ h = [(0, setOf (fun n => AV.int .i64 n) s), (1, .cells [.map 0]), (2, .row 1 (intsAV (sortI s)) true)] ∧ n = 3 := by
 refine ⟨Aw.enters_of Tryz.func115 rfl rfl, fun m vs hm _ hv => ?_⟩
 obtain ⟨ri0, r0, b0⟩ := hm.h.blk 0 _ rfl
 obtain ⟨ri1, r1, b1⟩ := hm.h.blk 1 _ rfl
 obtain ⟨n1, _, f1, c, T, hc, hcl⟩ := b1
 simp only [RepL, Rep] at hcl hv
 obtain ⟨v0, rest0, hc0, ⟨_, ri0', r0', rfl⟩, rfl⟩ := hcl
 rw [r0] at r0'
 injection r0' with r0'
 subst r0'
 obtain ⟨v, rest, rfl, ⟨cv, rfl, v1, rest1, hcv, ⟨_, ri1', r1', rfl⟩, rfl⟩, rfl⟩ := hv
 rw [r1] at r1'
 injection r1' with r1'
 subst r1'
 have hcv' : cv = #[.pointer (some ⟨ri1.b, 0, none⟩)] := by
  apply Array.ext'
  exact hcv
 subst hcv'
 have hc' : c = #[.map (some ri0.b)] := by
  apply Array.ext'
  exact hc0
 subst hc'
 obtain ⟨D0, hown, hperm, hsize⟩ := set_owns b0 hwf hl
 have hb1 : ri1.b < m.w.heap.size := lt_of_getElem? hc
 have hcell : m.w.cell? ⟨ri1.b, 0, none⟩ = some (.map (some ri0.b)) := by simp [World.cell?, hc]
 have hcall := Tryz.sortedKeys ri1.b ri0.b s.length D0 (plainElem Tryz.prog 4) m.w hb1 hcell hown (by rw [hsize]; simp only [maxLen]; omega) (by rw [hsize]; omega)
 refine hcall.mono ?_
 rintro e w' ⟨v, ss, rfl, hp, hrow, _, hbel⟩
 have hss : ss.mergeSort (fun x y => decide (x ≤ y)) = sortI s := mergeSort_of_perm_i (hp.trans hperm)
 have hsl : ss.length = s.length := (hp.trans hperm).length_eq
 rw [hss] at hrow
 have hlen : (sortI s).length = ss.length := by rw [← hss]; exact (List.mergeSort_perm _ _).length_eq
 obtain ⟨_, ⟨rfl, h0⟩ | ⟨g, cap, cur, rfl, hgb, hgc, hcap, _, hcs, hct⟩⟩ := hrow
 ·have hnil : sortI s = [] := List.eq_nil_of_length_eq_zero (by omega)
  have hle := withRow_le (w' := w') (ri := ⟨0, 0, 0, 1, true⟩) hm.h hbel.block hbel.size hbel.os hbel.tape hbel.output
  have hsim := withRow_simH (w' := w') (ri := ⟨0, 0, 0, 1, true⟩) (x := .row 1 (intsAV (sortI s)) true) hm.h hbel.block hbel.size (fun h => by cases h) (by rw [hnil]; exact .inl ⟨rfl, rfl⟩)
  refine ⟨_, .ret (.row 2 0 (sortI s).length), _, _, rfl, hle, hsim, ⟨_, rfl, ?_⟩, rfl, rfl, rfl⟩
  simp only [Rep]
  exact ⟨trivial, _, rfl, .inl ⟨rfl, rfl, by rw [hnil]; rfl, rfl⟩⟩
 ·have hil : (intsAV (sortI s)).length = ss.length := by rw [← hlen]; simp [intsAV]
  have hle := withRow_le (w' := w') (ri := ⟨g, 0, cap, 1, false⟩) hm.h hbel.block hbel.size hbel.os hbel.tape hbel.output
  have hsim := withRow_simH (w' := w') (ri := ⟨g, 0, cap, 1, false⟩) (x := .row 1 (intsAV (sortI s)) true) hm.h hbel.block hbel.size (fun _ => hgb) (by
   refine .inr ⟨rfl, fun hp => ?_, ⟨Nat.le_refl _, rfl⟩, by rw [hil]; exact hcap, ⟨cur, _, 0, 0, hgc, fun i _ => by omega, by rw [hcs]; simp⟩, ?_⟩
   ·have := hm.h.Pold g hp
    omega
   ·rw [if_pos rfl]
    refine ⟨repY_ints _ 0 fun i hi => ?_, fun i _ hf => ?_⟩
    ·have hcur : cur[i]? = some (.int .i64 ((sortI s).getD i 0)) := by
      have e : (cur.toList.take (ss.length * 1))[i]? = ((sortI s).map encZ)[i]? := by rw [hct]
      rw [List.getElem?_take_of_lt (by omega), Array.getElem?_toList, List.getElem?_map, List.getElem?_eq_getElem hi] at e
      rw [e]
      simp [List.getD, hi]
     show w'.cell? ⟨g, 0 + i, none⟩ = _
     simp [World.cell?, hgc, hcur]
    ·have := hm.h.Fold g i hf
     omega)
  refine ⟨_, .ret (.row 2 0 (sortI s).length), _, _, rfl, hle, hsim, ⟨_, rfl, ?_⟩, rfl, rfl, rfl⟩
  simp only [Rep]
  refine ⟨trivial, _, rfl, ?_⟩
  rcases Nat.eq_zero_or_pos cap with h0 | h0
  ·subst h0
   obtain rfl : ss = [] := List.eq_nil_of_length_eq_zero (by omega)
   exact .inr (.inr ⟨rfl, rfl, by rw [hlen]; rfl, _, rfl⟩)
  ·exact .inr (.inl ⟨rfl, by rw [hlen]; simpa using hcap, h0, by rw [hlen]; simp⟩)
theorem h_graph_risingR (gl : List (Nat × AV)) (s : List Int) (hwf : ∀ x ∈ s, (Lit.int .i64 x).wf = true) (hl : s.length ≤ 16777216) :
  FnT (fun _ => True) Tryz.prog gl 103 [.map 0] [(0, setOf (fun n => AV.int .i64 n) s)] 1 fun r h n => r = .ret (.row 1 0 (sortI s).length) ∧ h = [(0, setOf (fun n => AV.int .i64 n) s), (1, .row 1 (intsAV (sortI s)) true)] ∧ n = 2 := by
 refine FnT.intro Tryz.func103 rfl rfl (by simp [Tryz.ntmps103]) ?_ ?_
 ·rintro q hp' nx' ⟨rfl, rfl, rfl⟩
  exact ⟨by simp only [↓noTHm_cons, noTHm, ↓noTBm_ints, noTBm, Bool.and_self], _, rfl, rfl⟩
 intro B_
 simp only [argEnv, Tryz.ntmps103, Tryz.results103]
 refine AWT.rS ?_
 refine AWT.rSC ?_
 refine OpsT.cN [0] (FnT.ofH (h_maps_Keys _ _)) ?_
 refine OpsT.rn ?_
 refine OpsT.cN [0, 1] (h_slices_SortedR _ s hwf hl) ?_
 refine OpsT.rn ?_
 refine OpsT.nil ?_
 refine AWT.pre (σ' := ⟨6, [(2, .row 1 0 (sortI s).length)], [(0, setOf (fun n => AV.int .i64 n) s), (1, .row 1 (intsAV (sortI s)) true)], 2, gl, 1, []⟩) (St.le.vw [0, 2] (hpre := (by decide : ∀ i, i < 1 → nth [0, 2] i = some i))) ?_
 refine AWT.rt ?_
 trivial
theorem h_graph_From (gl : List (Nat × AV)) (d : Dc) (o : Pob) (hv : docE d = 0) (hc : chk o 1 = 0) (h : d.bulk ≤ 16777216) (ho : o.bulk ≤ 16777216) : FnH Tryz.prog gl 69 [.agg d.cells, .agg o.cells] [] 0 fun r h n => r = .ret (.row 0 0 (fromP d o).length) ∧ h = [(0, .row 1 (intsAV (fromP d o)) true)] ∧ n = 1 := by
 refine FnH.ofT (FnT.intro Tryz.func69 rfl rfl (by simp [Tryz.ntmps69]) (by rintro q hp' nx' ⟨rfl, rfl, rfl⟩; exact ⟨rfl, _, rfl, rfl⟩) ?_)
 intro B_
 simp only [argEnv, Tryz.ntmps69, Tryz.results69]
 refine AWT.rS ?_
 refine AWT.rSC ?_
 refine OpsT.cN [] (FnT.ofH (h_graph_of _ d hv h)) ?_
 refine OpsT.rn ?_
 refine OpsT.nil ?_
 refine AWT.seq ?_
 refine AWT.rSC ?_
 refine OpsT.cs (awGuard.cG (fun hg => c_value_Check _ o ho) ?_)
 refine OpsT.rn ?_
 refine OpsT.nil ?_
 refine AWT.c2 ?_ ?_
 ·intro h17
  exfalso
  simp [hc] at h17
 ·intro h17
  refine AWT.skip ?_
  refine AWT.rSC ?_
  refine OpsT.cN [2] (h_graph_reach _ d.items o (Nat.le_trans (items_len hv) (by omega)) (items_bulk h) ho) ?_
  refine OpsT.rn ?_
  refine OpsT.cN [3] (h_graph_risingR _ (reachS d.items o) (fun x hx => litwf (reachS_wf hv _ x hx)) (Nat.le_trans (reachS_len d.items o) (Nat.le_trans (items_len hv) (by omega)))) ?_
  refine OpsT.rn ?_
  refine OpsT.nil ?_
  refine AWT.pre (σ' := ⟨23, [(4, .row 0 0 (fromP d o).length)], [(0, .row 1 (intsAV (fromP d o)) true)], 1, gl, 0, []⟩) (by
   rw [fromP, if_pos ⟨hv, hc⟩]
   exact St.le.vw [4]) ?_
  refine AWT.rt ?_
  trivial
theorem h_graph_Reach (gl : List (Nat × AV)) (d : Dc) (hv : docE d = 0) (h : d.bulk ≤ 16777216) : FnH Tryz.prog (gl) 43 [.agg d.cells] ([]) 0 (fun r h n => r = .ret (.row 0 0 (fromP d d.trailer).length) ∧ h = [(0, .row 1 (intsAV (fromP d d.trailer)) true)] ∧ n = 1) := by
 refine FnH.intro Tryz.func43 rfl rfl (by simp [Tryz.ntmps43]) ?_
 simp only [argEnv, Tryz.ntmps43, Tryz.results43]
 refine AW.rS ?_
 refine AW.rSC ?_
 refine awOps.cons (awGuard.cH [] (h_graph_From _ d d.trailer hv (chk_top hv) h (Nat.le_trans (Nat.le_add_left _ _) h)) ?_)
 refine awOps.rn ?_
 refine AW.vw [1] [(2, .row 0 0 (fromP d d.trailer).length)] [(0, .row 1 (intsAV (fromP d d.trailer)) true)] ?_
 refine AW.rt ?_
 trivial
end Go.Proofs

namespace Aw
open Go
def cleanKs : List (List UInt8) := [cInfoK, cIdK]
def cutN (u : List (List UInt8)) (t : Pob) : Nat → Pob
 | 0 => t
 | 1 => cut1 u t cInfoK
 | _ + 2 => cleanT u t
variable {u : List (List UInt8)} {t : Pob}
theorem cutN_yes {k : Nat} (h : k < cleanKs.length) (hm : cleanKs.getD k [] ∈ u) : cutN u t (k + 1) = dropO (cutN u t k) (cleanKs.getD k []) := by
 have h2 : k < 2 := h
 match k, h2 with
 | 0, _ => exact if_pos hm
 | 1, _ => exact if_pos hm
theorem cutN_no {k : Nat} (h : k < cleanKs.length) (hm : ¬ cleanKs.getD k [] ∈ u) : cutN u t (k + 1) = cutN u t k := by
 have h2 : k < 2 := h
 match k, h2 with
 | 0, _ => exact if_neg hm
 | 1, _ => exact if_neg hm
theorem cutN_bulk (k : Nat) : (cutN u t k).bulk ≤ t.bulk := by
 match k with
 | 0 => exact Nat.le_refl _
 | 1 =>
  show (cut1 u t cInfoK).bulk ≤ t.bulk
  have := dropO_bulk t cInfoK
  rw [cut1]
  split <;> omega
 | k + 2 => exact cleanT_bulk t
theorem cutN_end : cutN u t cleanKs.length = cleanT u t := rfl
theorem stripI_take {l : List Itm} {i : Nat} (h : i < l.length) : (l.take (i + 1)).map (stripI u) = (l.take i).map (stripI u) ++ [stripI u (l.getD i Itm.zero)] := by
 rw [List.take_succ_eq_append_getElem h, List.map_append, getD_zero h]
 rfl
theorem cutN_zero : cutN u t 0 = t := rfl
theorem cleanKs_len : cleanKs.length = 2 := rfl
theorem cleanKs_av : strsAV cleanKs = [[.str [73, 110, 102, 111]], [.str [73, 68]]] := rfl
theorem cleanX_bulk (d : Dc) : (cleanX u d).bulk ≤ d.bulk := by
 have h2 := cleanT_bulk (u := u) d.trailer
 have h3 := stripI_bulk (u := u) d.items
 show ibulk (d.items.map (stripI u)) + (cleanT u d.trailer).bulk ≤ ibulk d.items + d.trailer.bulk
 omega
theorem cleanD_bulk (d : Dc) : (cleanD u d).bulk ≤ d.bulk + 1 := by
 unfold cleanD
 split
 ·show 0 + Pob.null.bulk ≤ d.bulk + 1
  have : Pob.null.bulk = 1 := rfl
  omega
 ·have h1 := cleanX_bulk (u := u) d
  have h2 := ibulk_filter (cleanX u d).items fun i => decide (i.num ∈ cleanR u d)
  have h3 : (cleanX u d).bulk = ibulk (cleanX u d).items + (cleanX u d).trailer.bulk := rfl
  have h4 : (cleanC u d).bulk = ibulk ((cleanX u d).items.filter fun i => decide (i.num ∈ cleanR u d)) + (cleanX u d).trailer.bulk := rfl
  omega
theorem left_take {l : List Itm} {p : Itm → Bool} {i : Nat} (h : i < l.length) : ((l.take (i + 1)).filter p).map (·.num) = ((l.take i).filter p).map (·.num) ++ if p (l.getD i Itm.zero) = true then [(l.getD i Itm.zero).num] else [] := by
 rw [List.take_succ_eq_append_getElem h, List.filter_append, List.map_append, getD_zero h]
 congr 1
 rw [List.filter_cons]
 split <;> simp
theorem left_len (l : List Itm) (p : Itm → Bool) (i : Nat) : (((l.take i).filter p).map (·.num)).length ≤ l.length := by
 rw [List.length_map]
 exact Nat.le_trans (List.length_filter_le _ _) (List.length_take_le' _ _)
attribute [irreducible] cutN cleanKs
end Aw

namespace Go.Proofs
open Go Aw
set_option linter.unusedSimpArgs false
set_option linter.unusedVariables false
set_option maxRecDepth 100000
set_option maxHeartbeats 2000000
attribute [local go_sem] take_itemsAV app_itemsAV itemsAV_length
attribute [local go_sem ↓ high] noTBm_nums noTBm_keys renHp_cons noTHm_cons
theorem c_clean_Doc (gl : List (Nat × AV)) (d : Dc) (ks : List (List UInt8)) (h : d.bulk ≤ 16777000) (hl : ks.length ≤ 16777216) : FnP Tryz.prog (gl) 14 [.agg d.cells, .sl (strsAV ks)] fun r => r = .ret (.tup [.agg (cleanD ks d).cells, .int .i64 (docE d)]) := by
 refine FnP.intro Tryz.func14 rfl rfl (by simp [Tryz.ntmps14]) ?_
 simp only [argEnv, Tryz.ntmps14, Tryz.results14]
 have hb8 : d.bulk = ibulk d.items + d.trailer.bulk := rfl
 have hb9 := ibulk_len d.items
 have hkl := cleanKs_len
 have hxs := cleanX_bulk (u := ks) d
 have hfl := fromP_len (cleanX ks d) (cleanX ks d).trailer
 refine AW.rS ?_
 refine AW.seq ?_
 refine AW.rSC ?_
 refine awOps.cons (awGuard.c1 (c_docs_Check _ d (by omega)) ?_)
 refine awOps.rn ?_
 refine AW.rS ?_
 refine AW.c2 ?_ ?_
 ·intro h7
  refine AW.rS ?_
  refine AW.rt ?_
  rw [cleanD, if_pos h7] <;> rfl
 ·intro h7
  have hxv := cleanX_ok (u := ks) h7
  have hfa := clean_facts (u := ks) h7 (by omega)
  refine AW.skip ?_
  refine AW.rSC ?_
  refine awOps.cons (awGuard.cHm [] (h_clean_set _ ks hl) ?_)
  refine awOps.rn ?_
  refine AW.rSC ?_
  refine awOps.cons (awGuard.c1 (c_value_Clone _ d.trailer (by omega)) ?_)
  refine awOps.rn ?_
  refine AW.seq ?_
  refine AW.rS ?_
  refine AW.block ?_
  refine AW.lk (S := { k : Nat // k ≤ cleanKs.length }) [2, 4, 7, 8, 28, 29] (fun s_ => [(30, .int .i64 s_.1)]) (fun s_ => [(0, .cells d.cells), (1, .cells [.raw (.slice none 0 0), .int .i64 0, .int .i64 0, .int .i64 0, .str [], .raw (.slice none 0 0), .raw (.slice none 0 0)]), (2, mapOf AV.str VB (keySet ks)), (3, .cells [.raw (.slice none 0 0), .int .i64 (cutN ks d.trailer s_.1).kind, .int .i64 (cutN ks d.trailer s_.1).num, .int .i64 (cutN ks d.trailer s_.1).gen, .str (cutN ks d.trailer s_.1).str, .sl (strsAV (cutN ks d.trailer s_.1).keys), .sl (objsAV (cutN ks d.trailer s_.1).kids)]), (4, .row 1 (strsAV cleanKs) true)]) 5 (fun s_ => cleanKs.length - s_.1) ⟨0, Nat.zero_le _⟩ ?_ ?_
  ·refine St.le.vx [0, 1, 2, 3, 4] ?_; rw [cutN_zero, cleanKs_av] <;> first | exact ⟨rfl, rfl⟩ | rfl
  rintro ⟨k, hk⟩
  try dsimp only at hk
  refine AW.rS ?_
  refine AW.seq ?_
  refine AW.c2 ?_ ?_
  ·intro h24
   have hk2 : k < cleanKs.length := by rw [cleanKs_len]; omega
   have hcb := cutN_bulk (u := ks) (t := d.trailer) k
   refine AW.skip ?_
   refine AW.seq ?_
   refine AW.block ?_
   refine AW.rS ?_
   refine AW.rSC ?_
   refine awOps.cons ?_
   refine awGuard.lkM keyOk_str false zero_vb (mres_key _ _) ?_
   refine awOps.rn ?_
   refine AW.c2 ?_ ?_
   ·intro h32
    have hcs := cutN_yes (t := d.trailer) hk2 h32
    refine AW.rLC ?_
    refine awOps.cons (awGuard.c1 (c_value_Drop _ (cutN ks d.trailer k) (cleanKs.getD k []) (by omega)) ?_)
    refine awOps.rn ?_
    refine AW.rL ?_
    refine ⟨⟨k + 1, by omega⟩, ?_, ?_⟩
    ·refine St.le.vx [0, 1, 2, 3, 4] ?_
     rw [hcs]
    ·simp only []; omega
   ·intro h32
    have hcs := cutN_no (t := d.trailer) hk2 h32
    refine AW.skip ?_
    refine AW.rL ?_
    refine ⟨⟨k + 1, by omega⟩, ?_, ?_⟩
    ·refine St.le.vx [0, 1, 2, 3, 4] ?_
     rw [hcs]
    ·simp only []; omega
  ·intro h24
   obtain rfl : k = cleanKs.length := by rw [cleanKs_len] at *; omega
   rw [cutN_end]
   refine AW.exit ?_
   refine AW.seq ?_
   refine AW.rS ?_
   refine AW.block ?_
   refine AW.pre (St.le.nilcell 3 0 8 (by (simp only [go_sem, seval]; try (simp (disch := omega) only [zq]; try (simp only [go_sem, seval]; try (simp (disch := omega) only [zq]; try simp only [go_sem, seval])))); exact rfl) (by exact rfl)) ?_
   refine wk ?_
   refine AW.lk (S := { i : Nat // i ≤ d.items.length }) [4, 7, 8, 44, 45] (fun s_ => [(46, .int .i64 s_.1)]) (fun s_ => [(0, .cells d.cells), (1, .cells [.raw (.slice none 0 0), .int .i64 0, .int .i64 0, .int .i64 0, .str [], .raw (.slice none 0 0), .raw (.slice none 0 0)]), (2, mapOf AV.str VB (keySet ks)), (3, .cells [.row 4 0 ((d.items.take s_.1).map (stripI ks)).length, .int .i64 (cleanT ks d.trailer).kind, .int .i64 (cleanT ks d.trailer).num, .int .i64 (cleanT ks d.trailer).gen, .str (cleanT ks d.trailer).str, .sl (strsAV (cleanT ks d.trailer).keys), .sl (objsAV (cleanT ks d.trailer).kids)]), (4, .row 8 (itemsAV ((d.items.take s_.1).map (stripI ks))) true)]) 5 (fun s_ => d.items.length - s_.1) ⟨0, Nat.zero_le _⟩ ?_ ?_
   ·refine St.le.vw [0, 1, 2, 3, 5]
   rintro ⟨i, hi⟩
   try dsimp only at hi
   refine AW.rS ?_
   refine AW.seq ?_
   refine AW.c2 ?_ ?_
   ·intro h48
    have hib := ibulk_get (l := d.items) (i := i) h48
    have hit := stripI_take (u := ks) (l := d.items) (i := i) h48
    have hic := (content_parts ((items_iff.1 (docE_items h7)).2 (d.items.getD i Itm.zero) (by rw [getD_zero h48]; exact List.getElem_mem _)).2).1
    refine AW.skip ?_
    refine AW.seq ?_
    refine AW.block ?_
    refine AW.rS ?_
    refine AW.rSC ?_
    refine awOps.cons (awGuard.c1 (c_clean_strip _ ks (d.items.getD i Itm.zero).obj 1 (by omega) hic) ?_)
    refine awOps.rn ?_
    refine AW.rL ?_
    refine AW.rL ?_
    refine ⟨⟨i + 1, by omega⟩, ?_, ?_⟩
    ·refine St.le.vx [0, 1, 2, 3, 7] ?_
     rw [hit]; exact ⟨by rw [List.length_append]; rfl, by rw [← app_itemsAV]; rfl⟩
    ·simp only []; omega
   ·intro h48
    obtain rfl : i = d.items.length := by omega
    rw [List.take_length]
    refine AW.exit ?_
    refine AW.rSC ?_
    refine awOps.cons ?_
    refine awGuard.mkM0 VB (keyOk_int .i64) ?_
    refine awOps.rn ?_
    refine AW.seq ?_
    refine AW.rSC ?_
    refine awOps.cons (awGuard.cL (h_graph_Reach _ (cleanX ks d) hxv (by omega)) ?_)
    refine awOps.rn ?_
    refine AW.block ?_
    refine AW.lk (S := { j : Nat // j ≤ (fromP (cleanX ks d) (cleanX ks d).trailer).length }) [4, 8, 13, 64, 65] (fun s_ => [(66, .int .i64 s_.1)]) (fun s_ => [(0, .cells d.cells), (1, .cells [.raw (.slice none 0 0), .int .i64 0, .int .i64 0, .int .i64 0, .str [], .raw (.slice none 0 0), .raw (.slice none 0 0)]), (2, mapOf AV.str VB (keySet ks)), (3, .cells [.row 4 0 (d.items.map (stripI ks)).length, .int .i64 (cleanT ks d.trailer).kind, .int .i64 (cleanT ks d.trailer).num, .int .i64 (cleanT ks d.trailer).gen, .str (cleanT ks d.trailer).str, .sl (strsAV (cleanT ks d.trailer).keys), .sl (objsAV (cleanT ks d.trailer).kids)]), (4, .row 8 (itemsAV (d.items.map (stripI ks))) true), (5, mapOf (AV.int .i64) VB (keySet ((fromP (cleanX ks d) (cleanX ks d).trailer).take s_.1))), (6, .cells [.map 5]), (7, .row 1 (intsAV (fromP (cleanX ks d) (cleanX ks d).trailer)) true)]) 8 (fun s_ => (fromP (cleanX ks d) (cleanX ks d).trailer).length - s_.1) ⟨0, Nat.zero_le _⟩ ?_ ?_
    ·refine St.le.vw [0, 1, 2, 3, 4, 5, 6, 7]
    rintro ⟨j, hj⟩
    try dsimp only at hj
    refine AW.rS ?_
    refine AW.seq ?_
    refine AW.c2 ?_ ?_
    ·intro h71
     have hkt := keySet_take (d := (0 : Int)) h71
     refine AW.skip ?_
     refine AW.seq ?_
     refine AW.block ?_
     refine AW.rS ?_
     refine AW.rLC ?_
     refine awOps.cons ?_
     refine awGuard.upM (keyOk_int .i64) true ?_
     refine awOps.rn ?_
     refine AW.rL ?_
     refine ⟨⟨j + 1, by omega⟩, ?_, ?_⟩
     ·refine St.le.vx [0, 1, 2, 3, 4, 5, 6, 7] ?_
      rw [hkt]
     ·simp only []; omega
    ·intro h71
     obtain rfl : j = (fromP (cleanX ks d) (cleanX ks d).trailer).length := by omega
     rw [List.take_length]
     refine AW.exit ?_
     refine AW.rSC ?_
     refine awOps.cons (awGuard.cHm [4, 6, 5] (h_DeleteFunc_gone _ (fromP (cleanX ks d) (cleanX ks d).trailer) (d.items.map (stripI ks)) (by rw [List.length_map]; omega)) ?_)
     refine awOps.rn ?_
     refine AW.rS ?_
     refine AW.rt ?_
     rw [hfa.e, h7, goneP_filter] <;> rfl
theorem c_clean_Left (gl : List (Nat × AV)) (d : Dc) (ks : List (List UInt8)) (h : d.bulk ≤ 16777000) (hl : ks.length ≤ 16777216) : FnP Tryz.prog (gl) 18 [.agg d.cells, .sl (strsAV ks)] fun r => r = .ret (.sl (intsAV (leftP ks d))) := by
 refine FnP.intro Tryz.func18 rfl rfl (by simp [Tryz.ntmps18]) ?_
 simp only [argEnv, Tryz.ntmps18, Tryz.results18]
 have hb8 : d.bulk = ibulk d.items + d.trailer.bulk := rfl
 have hb9 := ibulk_len d.items
 have hcb := cleanD_bulk (u := ks) d
 refine AW.rS ?_
 refine AW.rSC ?_
 refine awOps.cons (awGuard.c1 (c_clean_Doc _ d ks (by omega) hl) ?_)
 refine awOps.rn ?_
 refine AW.seq ?_
 refine AW.rS ?_
 refine AW.c2 ?_ ?_
 ·intro h7
  refine AW.rS ?_
  refine AW.rt ?_
  rw [leftP, if_pos h7] <;> rfl
 ·intro h7
  have hd0 : docE d = 0 := by simpa using h7
  refine AW.skip ?_
  refine AW.rS ?_
  refine AW.seq ?_
  refine AW.rS ?_
  refine AW.block ?_
  refine AW.pre (St.le.nilrow 7 1 (by (simp only [go_sem, seval]; try (simp (disch := omega) only [zq]; try (simp only [go_sem, seval]; try (simp (disch := omega) only [zq]; try simp only [go_sem, seval])))))) ?_
  refine wk ?_
  refine AW.lk (S := { i : Nat // i ≤ d.items.length }) [5, 21, 22] (fun s_ => [(7, .row 2 0 (((d.items.take s_.1).filter (leftI ks d)).map (·.num)).length), (23, .int .i64 s_.1)]) (fun s_ => [(0, .cells d.cells), (1, .cells (cleanD ks d).cells), (2, .row 1 (intsAV (((d.items.take s_.1).filter (leftI ks d)).map (·.num))) true)]) 3 (fun s_ => d.items.length - s_.1) ⟨0, Nat.zero_le _⟩ ?_ ?_
  ·refine St.le.vw [0, 1, 2]
  rintro ⟨i, hi⟩
  try dsimp only at hi
  refine AW.rS ?_
  refine AW.seq ?_
  refine AW.c2 ?_ ?_
  ·intro h19
   have hlt := left_take (p := leftI ks d) (l := d.items) h19
   have hll := left_len d.items (leftI ks d) i
   refine AW.skip ?_
   refine AW.seq ?_
   refine AW.block ?_
   refine AW.rS ?_
   refine AW.rSC ?_
   refine awOps.cons (awGuard.c1 (c_docs_Get _ (cleanD ks d) (d.items.getD i Itm.zero).num (by omega)) ?_)
   refine awOps.rn ?_
   refine AW.rS ?_
   refine AW.c2 ?_ ?_
   ·intro h28
    rw [if_pos (by unfold leftI; rw [h28]; rfl)] at hlt
    have hf2 := congrArg List.length hlt
    rw [List.length_append, List.length_cons, List.length_nil] at hf2
    refine AW.rL ?_
    refine AW.rL ?_
    refine ⟨⟨i + 1, by omega⟩, ?_, ?_⟩
    ·refine St.le.vx [0, 1, 6] ?_
     rw [hlt, take_intsAV, List.take_length, app1_intsAV]
    ·simp only []; omega
   ·intro h28
    rw [if_neg (by unfold leftI; rw [h28]; decide), List.append_nil] at hlt
    have hf2 := congrArg List.length hlt
    refine AW.skip ?_
    refine AW.rL ?_
    refine ⟨⟨i + 1, by omega⟩, ?_, ?_⟩
    ·refine St.le.vx [0, 1, 2] ?_; rw [hlt]
    ·simp only []; omega
  ·intro h19
   refine AW.exit ?_
   obtain rfl : i = d.items.length := by omega
   rw [List.take_length]
   refine AW.rS ?_
   refine AW.rt ?_
   rw [leftP, if_neg (by simpa using hd0), take_intsAV, List.take_length]
end Go.Proofs

namespace Go.Proofs
open Go Aw
set_option linter.unusedSimpArgs false
set_option linter.unusedVariables false
set_option maxRecDepth 100000
set_option maxHeartbeats 2000000

attribute [local go_sem] take_strsAV app1_strsAV take_intsAV drop_intsAV app_intsAV app1_intsAV take_objsAV drop_objsAV app_objsAV app1_objsAV
end Go.Proofs

namespace Go.Proofs
open Go Aw
set_option linter.unusedSimpArgs false
set_option linter.unusedVariables false
set_option maxRecDepth 100000
set_option maxHeartbeats 2000000

theorem c_foliantref05_Name (gl : List (Nat × AV)) (s : List UInt8) (hl : s.length ≤ 16777216 := by first | omega | exact u8_le _ | assumption | (simp; done) | (simp; omega)) : FnP Tryz.prog (gl) 110 [.str s] fun r => r = .ret (.bool (nameB s)) := by
 refine FnP.intro Tryz.func110 rfl rfl (by simp [Tryz.ntmps110]) ?_
 simp only [argEnv, Tryz.ntmps110, Tryz.results110]
 refine AW.rS ?_
 refine AW.seq ?_
 refine AW.rS ?_
 refine AW.block ?_
 refine AW.lk (S := { i : Nat // i ≤ s.length ∧ ∀ j, j < i → s.getD j 0 ≠ 0 }) [0] (fun s_ => [(3, .int .i64 s_.1)]) (fun s_ => []) 0 (fun s_ => s.length - s_.1) ⟨0, Nat.zero_le _, fun j h => absurd h (by omega)⟩ ?_ ?_
 ·refine St.le.vw []
 rintro ⟨i, hi, hs⟩
 try dsimp only at hi
 try dsimp only at hs
 refine AW.seq ?_
 refine AW.rS ?_
 refine AW.c2 ?_ ?_
 ·intro h8
  refine AW.skip ?_
  refine AW.seq ?_
  refine AW.block ?_
  refine AW.rS ?_
  refine AW.c2 ?_ ?_
  ·intro h13
   refine AW.rS ?_
   refine AW.rt ?_
   rw [nameB_no h8 (by simpa [← UInt8.toNat_inj] using h13)]
  ·intro h13
   refine AW.skip ?_
   refine AW.rL ?_
   refine ⟨⟨i + 1, by omega, fun j hj => (Nat.lt_or_ge j i).elim (hs j) (fun h => (show j = i by omega) ▸ (by simpa [← UInt8.toNat_inj] using h13))⟩, ?_, ?_⟩
   ·refine St.le.vw []
   ·simp only []; omega
 ·intro h8
  refine AW.exit ?_
  refine AW.rS ?_
  refine AW.rt ?_
  rw [nameB_all (fun j hj => hs j (by omega))]
theorem c_foliantref05_zero (gl : List (Nat × AV)) (o : Pob) (n g s l : Bool) : FnP Tryz.prog (gl) 109 [.agg o.cells, .bool n, .bool g, .bool s, .bool l] fun r => r = .ret (.bool ((n || decide (o.num = 0)) && (g || decide (o.gen = 0)) && (s || decide (o.str = [])) && (l || (decide ((o.keys.length : Int) = 0) && decide ((o.kids.length : Int) = 0))))) := by
 refine FnP.intro Tryz.func109 rfl rfl (by simp [Tryz.ntmps109]) ?_
 simp only [argEnv, Tryz.ntmps109, Tryz.results109]
 refine AW.rS ?_
 refine AW.rS ?_
 refine AW.rt ?_
 cases n <;> cases g <;> cases s <;> cases l <;> simp
theorem c_foliantref05_uses (gl : List (Nat × AV)) (o : Pob) : FnP Tryz.prog (gl) 87 [.agg o.cells] fun r => r = .ret (.bool (useB o 1)) := by
 refine FnP.intro Tryz.func87 rfl rfl (by simp [Tryz.ntmps87]) ?_
 simp only [argEnv, Tryz.ntmps87, Tryz.results87]
 refine AW.rS ?_
 refine AW.seq ?_
 refine AW.rS ?_
 refine AW.block ?_
 refine AW.rS ?_
 refine AW.c2 ?_ ?_
 ·intro h6
  refine AW.rSC ?_
  refine awOps.cons (awGuard.c1 (c_foliantref05_zero _ o false false false false) ?_)
  refine awOps.rn ?_
  refine AW.rt ?_
  first | (simp_all [useB, uN, uG, uS, uKeys, uKids, uOk, Bool.and_assoc]; done) | (simp_all [useB, uN, uG, uS, uKeys, uKids, uOk]; omega)
 ·intro h6
  refine AW.seq ?_
  refine AW.rS ?_
  refine AW.c2 ?_ ?_
  ·intro h14
   refine AW.skip ?_
   refine AW.c2 ?_ ?_
   ·intro h16
    refine AW.rSC ?_
    refine awOps.cons (awGuard.c1 (c_foliantref05_zero _ o true false false false) ?_)
    refine awOps.rn ?_
    refine AW.rt ?_
    first | (simp_all [useB, uN, uG, uS, uKeys, uKids, uOk, Bool.and_assoc]; done) | (simp_all [useB, uN, uG, uS, uKeys, uKids, uOk]; omega)
   ·intro h16
    refine AW.seq ?_
    refine AW.rS ?_
    refine AW.c2 ?_ ?_
    ·intro h24
     refine AW.skip ?_
     refine AW.c2 ?_ ?_
     ·intro h26
      refine AW.rSC ?_
      refine awOps.cons (awGuard.c1 (c_foliantref05_zero _ o false false true false) ?_)
      refine awOps.rn ?_
      refine AW.rt ?_
      first | (simp_all [useB, uN, uG, uS, uKeys, uKids, uOk, Bool.and_assoc]; done) | (simp_all [useB, uN, uG, uS, uKeys, uKids, uOk]; omega)
     ·intro h26
      refine AW.rS ?_
      refine AW.c2 ?_ ?_
      ·intro h33
       refine AW.rSC ?_
       refine awOps.cons (awGuard.c1 (c_foliantref05_zero _ o false false false true) ?_)
       refine awOps.rn ?_
       refine AW.rt ?_
       first | (simp_all [useB, uN, uG, uS, uKeys, uKids, uOk, Bool.and_assoc]; done) | (simp_all [useB, uN, uG, uS, uKeys, uKids, uOk]; omega)
      ·intro h33
       refine AW.rS ?_
       refine AW.c2 ?_ ?_
       ·intro h40
        refine AW.rSC ?_
        refine awOps.cons (awGuard.c1 (c_foliantref05_zero ..) ?_)
        refine awOps.rn ?_
        refine AW.rt ?_
        first | (simp_all [useB, uN, uG, uS, uKeys, uKids, uOk, Bool.and_assoc]; done) | (simp_all [useB, uN, uG, uS, uKeys, uKids, uOk]; omega)
       ·intro h40
        refine AW.rS ?_
        refine AW.c2 ?_ ?_
        ·intro h47
         refine AW.rSC ?_
         refine awOps.cons (awGuard.c1 (c_foliantref05_zero ..) ?_)
         refine awOps.rn ?_
         refine AW.rt ?_
         first | (simp_all [useB, uN, uG, uS, uKeys, uKids, uOk, Bool.and_assoc]; done) | (simp_all [useB, uN, uG, uS, uKeys, uKids, uOk]; omega)
        ·intro h47
         refine AW.rS ?_
         refine AW.c2 ?_ ?_
         ·intro h54
          refine AW.rSC ?_
          refine awOps.cons (awGuard.c1 (c_foliantref05_zero ..) ?_)
          refine awOps.rn ?_
          refine AW.rt ?_
          first | (simp_all [useB, uN, uG, uS, uKeys, uKids, uOk, Bool.and_assoc]; done) | (simp_all [useB, uN, uG, uS, uKeys, uKids, uOk]; omega)
         ·intro h54
          refine AW.skip ?_
          refine AW.rS ?_
          refine AW.rt ?_
          first | (simp_all [useB, uN, uG, uS, uKeys, uKids, uOk, Bool.and_assoc]; done) | (simp_all [useB, uN, uG, uS, uKeys, uKids, uOk]; omega)
    ·intro h24
     refine AW.rL ?_
     refine AW.c2 ?_ ?_
     ·intro h65
      refine AW.rSC ?_
      refine awOps.cons (awGuard.c1 (c_foliantref05_zero ..) ?_)
      refine awOps.rn ?_
      refine AW.rt ?_
      first | (simp_all [useB, uN, uG, uS, uKeys, uKids, uOk, Bool.and_assoc]; done) | (simp_all [useB, uN, uG, uS, uKeys, uKids, uOk]; omega)
     ·intro h65
      refine AW.rS ?_
      refine AW.c2 ?_ ?_
      ·intro h72
       refine AW.rSC ?_
       refine awOps.cons (awGuard.c1 (c_foliantref05_zero ..) ?_)
       refine awOps.rn ?_
       refine AW.rt ?_
       first | (simp_all [useB, uN, uG, uS, uKeys, uKids, uOk, Bool.and_assoc]; done) | (simp_all [useB, uN, uG, uS, uKeys, uKids, uOk]; omega)
      ·intro h72
       refine AW.rS ?_
       refine AW.c2 ?_ ?_
       ·intro h79
        refine AW.rSC ?_
        refine awOps.cons (awGuard.c1 (c_foliantref05_zero ..) ?_)
        refine awOps.rn ?_
        refine AW.rt ?_
        first | (simp_all [useB, uN, uG, uS, uKeys, uKids, uOk, Bool.and_assoc]; done) | (simp_all [useB, uN, uG, uS, uKeys, uKids, uOk]; omega)
       ·intro h79
        refine AW.rS ?_
        refine AW.c2 ?_ ?_
        ·intro h86
         refine AW.rSC ?_
         refine awOps.cons (awGuard.c1 (c_foliantref05_zero ..) ?_)
         refine awOps.rn ?_
         refine AW.rt ?_
         first | (simp_all [useB, uN, uG, uS, uKeys, uKids, uOk, Bool.and_assoc]; done) | (simp_all [useB, uN, uG, uS, uKeys, uKids, uOk]; omega)
        ·intro h86
         refine AW.rS ?_
         refine AW.c2 ?_ ?_
         ·intro h93
          refine AW.rSC ?_
          refine awOps.cons (awGuard.c1 (c_foliantref05_zero ..) ?_)
          refine awOps.rn ?_
          refine AW.rt ?_
          first | (simp_all [useB, uN, uG, uS, uKeys, uKids, uOk, Bool.and_assoc]; done) | (simp_all [useB, uN, uG, uS, uKeys, uKids, uOk]; omega)
         ·intro h93
          refine AW.skip ?_
          refine AW.rS ?_
          refine AW.rt ?_
          first | (simp_all [useB, uN, uG, uS, uKeys, uKids, uOk, Bool.and_assoc]; done) | (simp_all [useB, uN, uG, uS, uKeys, uKids, uOk]; omega)
  ·intro h14
   refine AW.rS ?_
   refine AW.c2 ?_ ?_
   ·intro h104
    refine AW.skip ?_
    refine AW.c2 ?_ ?_
    ·intro h106
     refine AW.rSC ?_
     refine awOps.cons (awGuard.c1 (c_foliantref05_zero ..) ?_)
     refine awOps.rn ?_
     refine AW.rt ?_
     first | (simp_all [useB, uN, uG, uS, uKeys, uKids, uOk, Bool.and_assoc]; done) | (simp_all [useB, uN, uG, uS, uKeys, uKids, uOk]; omega)
    ·intro h106
     refine AW.seq ?_
     refine AW.rS ?_
     refine AW.c2 ?_ ?_
     ·intro h114
      refine AW.skip ?_
      refine AW.c2 ?_ ?_
      ·intro h116
       refine AW.rSC ?_
       refine awOps.cons (awGuard.c1 (c_foliantref05_zero ..) ?_)
       refine awOps.rn ?_
       refine AW.rt ?_
       first | (simp_all [useB, uN, uG, uS, uKeys, uKids, uOk, Bool.and_assoc]; done) | (simp_all [useB, uN, uG, uS, uKeys, uKids, uOk]; omega)
      ·intro h116
       refine AW.rS ?_
       refine AW.c2 ?_ ?_
       ·intro h123
        refine AW.rSC ?_
        refine awOps.cons (awGuard.c1 (c_foliantref05_zero ..) ?_)
        refine awOps.rn ?_
        refine AW.rt ?_
        first | (simp_all [useB, uN, uG, uS, uKeys, uKids, uOk, Bool.and_assoc]; done) | (simp_all [useB, uN, uG, uS, uKeys, uKids, uOk]; omega)
       ·intro h123
        refine AW.rS ?_
        refine AW.c2 ?_ ?_
        ·intro h130
         refine AW.rSC ?_
         refine awOps.cons (awGuard.c1 (c_foliantref05_zero ..) ?_)
         refine awOps.rn ?_
         refine AW.rt ?_
         first | (simp_all [useB, uN, uG, uS, uKeys, uKids, uOk, Bool.and_assoc]; done) | (simp_all [useB, uN, uG, uS, uKeys, uKids, uOk]; omega)
        ·intro h130
         refine AW.rS ?_
         refine AW.c2 ?_ ?_
         ·intro h137
          refine AW.rSC ?_
          refine awOps.cons (awGuard.c1 (c_foliantref05_zero ..) ?_)
          refine awOps.rn ?_
          refine AW.rt ?_
          first | (simp_all [useB, uN, uG, uS, uKeys, uKids, uOk, Bool.and_assoc]; done) | (simp_all [useB, uN, uG, uS, uKeys, uKids, uOk]; omega)
         ·intro h137
          refine AW.rS ?_
          refine AW.c2 ?_ ?_
          ·intro h144
           refine AW.rSC ?_
           refine awOps.cons (awGuard.c1 (c_foliantref05_zero ..) ?_)
           refine awOps.rn ?_
           refine AW.rt ?_
           first | (simp_all [useB, uN, uG, uS, uKeys, uKids, uOk, Bool.and_assoc]; done) | (simp_all [useB, uN, uG, uS, uKeys, uKids, uOk]; omega)
          ·intro h144
           refine AW.skip ?_
           refine AW.rS ?_
           refine AW.rt ?_
           first | (simp_all [useB, uN, uG, uS, uKeys, uKids, uOk, Bool.and_assoc]; done) | (simp_all [useB, uN, uG, uS, uKeys, uKids, uOk]; omega)
     ·intro h114
      refine AW.rL ?_
      refine AW.c2 ?_ ?_
      ·intro h155
       refine AW.rSC ?_
       refine awOps.cons (awGuard.c1 (c_foliantref05_zero ..) ?_)
       refine awOps.rn ?_
       refine AW.rt ?_
       first | (simp_all [useB, uN, uG, uS, uKeys, uKids, uOk, Bool.and_assoc]; done) | (simp_all [useB, uN, uG, uS, uKeys, uKids, uOk]; omega)
      ·intro h155
       refine AW.rS ?_
       refine AW.c2 ?_ ?_
       ·intro h162
        refine AW.rSC ?_
        refine awOps.cons (awGuard.c1 (c_foliantref05_zero ..) ?_)
        refine awOps.rn ?_
        refine AW.rt ?_
        first | (simp_all [useB, uN, uG, uS, uKeys, uKids, uOk, Bool.and_assoc]; done) | (simp_all [useB, uN, uG, uS, uKeys, uKids, uOk]; omega)
       ·intro h162
        refine AW.rS ?_
        refine AW.c2 ?_ ?_
        ·intro h169
         refine AW.rSC ?_
         refine awOps.cons (awGuard.c1 (c_foliantref05_zero ..) ?_)
         refine awOps.rn ?_
         refine AW.rt ?_
         first | (simp_all [useB, uN, uG, uS, uKeys, uKids, uOk, Bool.and_assoc]; done) | (simp_all [useB, uN, uG, uS, uKeys, uKids, uOk]; omega)
        ·intro h169
         refine AW.rS ?_
         refine AW.c2 ?_ ?_
         ·intro h176
          refine AW.rSC ?_
          refine awOps.cons (awGuard.c1 (c_foliantref05_zero ..) ?_)
          refine awOps.rn ?_
          refine AW.rt ?_
          first | (simp_all [useB, uN, uG, uS, uKeys, uKids, uOk, Bool.and_assoc]; done) | (simp_all [useB, uN, uG, uS, uKeys, uKids, uOk]; omega)
         ·intro h176
          refine AW.rS ?_
          refine AW.c2 ?_ ?_
          ·intro h183
           refine AW.rSC ?_
           refine awOps.cons (awGuard.c1 (c_foliantref05_zero ..) ?_)
           refine awOps.rn ?_
           refine AW.rt ?_
           first | (simp_all [useB, uN, uG, uS, uKeys, uKids, uOk, Bool.and_assoc]; done) | (simp_all [useB, uN, uG, uS, uKeys, uKids, uOk]; omega)
          ·intro h183
           refine AW.skip ?_
           refine AW.rS ?_
           refine AW.rt ?_
           first | (simp_all [useB, uN, uG, uS, uKeys, uKids, uOk, Bool.and_assoc]; done) | (simp_all [useB, uN, uG, uS, uKeys, uKids, uOk]; omega)
   ·intro h104
    refine AW.rL ?_
    refine AW.c2 ?_ ?_
    ·intro h194
     refine AW.rSC ?_
     refine awOps.cons (awGuard.c1 (c_foliantref05_zero ..) ?_)
     refine awOps.rn ?_
     refine AW.rt ?_
     first | (simp_all [useB, uN, uG, uS, uKeys, uKids, uOk, Bool.and_assoc]; done) | (simp_all [useB, uN, uG, uS, uKeys, uKids, uOk]; omega)
    ·intro h194
     refine AW.seq ?_
     refine AW.rS ?_
     refine AW.c2 ?_ ?_
     ·intro h202
      refine AW.skip ?_
      refine AW.c2 ?_ ?_
      ·intro h204
       refine AW.rSC ?_
       refine awOps.cons (awGuard.c1 (c_foliantref05_zero ..) ?_)
       refine awOps.rn ?_
       refine AW.rt ?_
       first | (simp_all [useB, uN, uG, uS, uKeys, uKids, uOk, Bool.and_assoc]; done) | (simp_all [useB, uN, uG, uS, uKeys, uKids, uOk]; omega)
      ·intro h204
       refine AW.rS ?_
       refine AW.c2 ?_ ?_
       ·intro h211
        refine AW.rSC ?_
        refine awOps.cons (awGuard.c1 (c_foliantref05_zero ..) ?_)
        refine awOps.rn ?_
        refine AW.rt ?_
        first | (simp_all [useB, uN, uG, uS, uKeys, uKids, uOk, Bool.and_assoc]; done) | (simp_all [useB, uN, uG, uS, uKeys, uKids, uOk]; omega)
       ·intro h211
        refine AW.rS ?_
        refine AW.c2 ?_ ?_
        ·intro h218
         refine AW.rSC ?_
         refine awOps.cons (awGuard.c1 (c_foliantref05_zero ..) ?_)
         refine awOps.rn ?_
         refine AW.rt ?_
         first | (simp_all [useB, uN, uG, uS, uKeys, uKids, uOk, Bool.and_assoc]; done) | (simp_all [useB, uN, uG, uS, uKeys, uKids, uOk]; omega)
        ·intro h218
         refine AW.rS ?_
         refine AW.c2 ?_ ?_
         ·intro h225
          refine AW.rSC ?_
          refine awOps.cons (awGuard.c1 (c_foliantref05_zero ..) ?_)
          refine awOps.rn ?_
          refine AW.rt ?_
          first | (simp_all [useB, uN, uG, uS, uKeys, uKids, uOk, Bool.and_assoc]; done) | (simp_all [useB, uN, uG, uS, uKeys, uKids, uOk]; omega)
         ·intro h225
          refine AW.rS ?_
          refine AW.c2 ?_ ?_
          ·intro h232
           refine AW.rSC ?_
           refine awOps.cons (awGuard.c1 (c_foliantref05_zero ..) ?_)
           refine awOps.rn ?_
           refine AW.rt ?_
           first | (simp_all [useB, uN, uG, uS, uKeys, uKids, uOk, Bool.and_assoc]; done) | (simp_all [useB, uN, uG, uS, uKeys, uKids, uOk]; omega)
          ·intro h232
           refine AW.skip ?_
           refine AW.rS ?_
           refine AW.rt ?_
           first | (simp_all [useB, uN, uG, uS, uKeys, uKids, uOk, Bool.and_assoc]; done) | (simp_all [useB, uN, uG, uS, uKeys, uKids, uOk]; omega)
     ·intro h202
      refine AW.rL ?_
      refine AW.c2 ?_ ?_
      ·intro h243
       refine AW.rSC ?_
       refine awOps.cons (awGuard.c1 (c_foliantref05_zero ..) ?_)
       refine awOps.rn ?_
       refine AW.rt ?_
       first | (simp_all [useB, uN, uG, uS, uKeys, uKids, uOk, Bool.and_assoc]; done) | (simp_all [useB, uN, uG, uS, uKeys, uKids, uOk]; omega)
      ·intro h243
       refine AW.rS ?_
       refine AW.c2 ?_ ?_
       ·intro h250
        refine AW.rSC ?_
        refine awOps.cons (awGuard.c1 (c_foliantref05_zero ..) ?_)
        refine awOps.rn ?_
        refine AW.rt ?_
        first | (simp_all [useB, uN, uG, uS, uKeys, uKids, uOk, Bool.and_assoc]; done) | (simp_all [useB, uN, uG, uS, uKeys, uKids, uOk]; omega)
       ·intro h250
        refine AW.rS ?_
        refine AW.c2 ?_ ?_
        ·intro h257
         refine AW.rSC ?_
         refine awOps.cons (awGuard.c1 (c_foliantref05_zero ..) ?_)
         refine awOps.rn ?_
         refine AW.rt ?_
         first | (simp_all [useB, uN, uG, uS, uKeys, uKids, uOk, Bool.and_assoc]; done) | (simp_all [useB, uN, uG, uS, uKeys, uKids, uOk]; omega)
        ·intro h257
         refine AW.rS ?_
         refine AW.c2 ?_ ?_
         ·intro h264
          refine AW.rSC ?_
          refine awOps.cons (awGuard.c1 (c_foliantref05_zero ..) ?_)
          refine awOps.rn ?_
          refine AW.rt ?_
          first | (simp_all [useB, uN, uG, uS, uKeys, uKids, uOk, Bool.and_assoc]; done) | (simp_all [useB, uN, uG, uS, uKeys, uKids, uOk]; omega)
         ·intro h264
          refine AW.rS ?_
          refine AW.c2 ?_ ?_
          ·intro h271
           refine AW.rSC ?_
           refine awOps.cons (awGuard.c1 (c_foliantref05_zero ..) ?_)
           refine awOps.rn ?_
           refine AW.rt ?_
           first | (simp_all [useB, uN, uG, uS, uKeys, uKids, uOk, Bool.and_assoc]; done) | (simp_all [useB, uN, uG, uS, uKeys, uKids, uOk]; omega)
          ·intro h271
           refine AW.skip ?_
           refine AW.rS ?_
           refine AW.rt ?_
           first | (simp_all [useB, uN, uG, uS, uKeys, uKids, uOk, Bool.and_assoc]; done) | (simp_all [useB, uN, uG, uS, uKeys, uKids, uOk]; omega)
theorem c_foliantref05_fits (gl : List (Nat × AV)) (o : Pob) : FnP Tryz.prog (gl) 88 [.agg o.cells] fun r => r = .ret (.bool (fitsB o)) := by
 refine FnP.intro Tryz.func88 rfl rfl (by simp [Tryz.ntmps88]) ?_
 simp only [argEnv, Tryz.ntmps88, Tryz.results88]
 refine AW.rS ?_
 refine AW.seq ?_
 refine AW.rS ?_
 refine AW.block ?_
 refine AW.rS ?_
 refine AW.c2 ?_ ?_
 ·intro h6
  refine AW.rS ?_
  refine AW.rt ?_
  first | (simp_all [fitsB, Bool.and_assoc]; done) | (simp_all only [fitsB]; simp; rw [Bool.eq_iff_iff]; simp; omega)
 ·intro h6
  refine AW.rS ?_
  refine AW.c2 ?_ ?_
  ·intro h11
   refine AW.rS ?_
   refine AW.rt ?_
   first | (simp_all [fitsB, Bool.and_assoc]; done) | (simp_all only [fitsB]; simp; rw [Bool.eq_iff_iff]; simp; omega)
  ·intro h11
   refine AW.rS ?_
   refine AW.c2 ?_ ?_
   ·intro h16
    refine AW.rS ?_
    refine AW.rt ?_
    first | (simp_all [fitsB, Bool.and_assoc]; done) | (simp_all only [fitsB]; simp; rw [Bool.eq_iff_iff]; simp; omega)
   ·intro h16
    refine AW.rS ?_
    refine AW.c2 ?_ ?_
    ·intro h21
     refine AW.rS ?_
     refine AW.rt ?_
     first | (simp_all [fitsB, Bool.and_assoc]; done) | (simp_all only [fitsB]; simp; rw [Bool.eq_iff_iff]; simp; omega)
    ·intro h21
     refine AW.skip ?_
     refine AW.rS ?_
     refine AW.rt ?_
     first | (simp_all [fitsB, Bool.and_assoc]; done) | (simp_all only [fitsB]; simp; rw [Bool.eq_iff_iff]; simp; omega)
theorem c_foliantref05_long (gl : List (Nat × AV)) (k : Int) : FnP Tryz.prog (gl) 89 [.int .i64 k] fun r => r = .ret (.int .i64 (longN k)) := by
 refine FnP.intro Tryz.func89 rfl rfl (by simp [Tryz.ntmps89]) ?_
 simp only [argEnv, Tryz.ntmps89, Tryz.results89]
 refine AW.rS ?_
 refine AW.seq ?_
 refine AW.rS ?_
 refine AW.c2 ?_ ?_
 ·intro h4
  refine AW.rS ?_
  refine AW.rt ?_
  simp_all [longN]
 ·intro h4
  refine AW.skip ?_
  refine AW.seq ?_
  refine AW.rS ?_
  refine AW.c2 ?_ ?_
  ·intro h11
   refine AW.rS ?_
   refine AW.rt ?_
   simp_all [longN]
  ·intro h11
   refine AW.skip ?_
   refine AW.rS ?_
   refine AW.rt ?_
   simp_all [longN]
end Go.Proofs

namespace Go.Proofs
open Go Aw
set_option linter.unusedSimpArgs false
set_option linter.unusedVariables false
set_option maxRecDepth 100000
set_option maxHeartbeats 2000000
attribute [local go_sem] take_strsAV app1_strsAV take_intsAV drop_intsAV app_intsAV app1_intsAV take_objsAV drop_objsAV app_objsAV app1_objsAV
theorem c_foliantref05_keys (gl : List (Nat × AV)) (o : Pob) (h : o.tot ≤ 16777216) : FnP Tryz.prog (gl) 90 [.agg o.cells] fun r => r = .ret (.bool (formB o)) := by
 refine FnP.intro Tryz.func90 rfl rfl (by simp [Tryz.ntmps90]) ?_
 simp only [argEnv, Tryz.ntmps90, Tryz.results90]
 have hb := Pob.bulk_tot o
 have hbe := Pob.bulk_eq o
 have hts := Pob.tot_str o
 refine AW.rS ?_
 refine AW.seq ?_
 refine AW.rS ?_
 refine AW.c2 ?_ ?_
 ·intro h4
  refine AW.rSC ?_
  refine awOps.cons (awGuard.c1 (c_foliantref05_Name _ o.str (by omega)) ?_)
  refine awOps.rn ?_
  refine AW.rt ?_
  rw [form_name h4]
 ·intro h4
  refine AW.skip ?_
  refine AW.seq ?_
  refine AW.rS ?_
  refine AW.c2 ?_ ?_
  ·intro h13
   refine AW.rS ?_
   refine AW.rt ?_
   ·rw [form_none h4 h13.1 h13.2]
   all_goals first | contradiction | rfl | (simp; done) | (simp; omega)
  ·intro h13
   have h79 : o.kind = 7 ∨ o.kind = 9 := by omega
   rw [form_keys h79]
   refine AW.skip ?_
   refine AW.seq ?_
   refine AW.rS ?_
   refine AW.c2 ?_ ?_
   ·intro h20
    refine AW.rS ?_
    refine AW.rt ?_
    rw [rising_no (fun h' => h20 (by have := h'.1; omega))]
   ·intro h20
    refine AW.skip ?_
    refine AW.seq ?_
    refine AW.rS ?_
    refine AW.block ?_
    refine AW.lk (S := { i : Nat // i ≤ o.keys.length ∧ ∀ j, j < i → okKey o j }) [1, 27, 28] (fun s_ => [(29, .int .i64 s_.1)]) (fun s_ => [(0, .cells o.cells)]) 1 (fun s_ => o.keys.length - s_.1) ⟨0, Nat.zero_le _, fun j h => absurd h (by omega)⟩ ?_ ?_
    ·refine St.le.vw [0]
    rintro ⟨i, hi, hs⟩
    try dsimp only at hi
    try dsimp only at hs
    refine AW.rS ?_
    refine AW.seq ?_
    refine AW.c2 ?_ ?_
    ·intro h31
     have hkt := Pob.tot_key (o := o) h31
     refine AW.skip ?_
     refine AW.seq ?_
     refine AW.block ?_
     refine AW.rS ?_
     refine AW.rSC ?_
     refine awOps.cons (awGuard.c1 (c_foliantref05_Name _ (o.keys.getD i []) (by omega)) ?_)
     refine awOps.rn ?_
     refine AW.c2 ?_ ?_
     ·intro h39
      refine AW.rS ?_
      refine AW.rt ?_
      rw [rising_no (fun h' => ?_)]
      obtain ⟨k1, k2, k3, k4⟩ := h'.2 i h31
      rcases h39 with ((h | ⟨hi0, h | h⟩) | ⟨h, h9⟩) | h
      ·rw [k1] at h; cases h
      ·have := bl_asymm (k2 (by omega)); rw [h] at this; cases this
      ·have := k2 (by omega); rw [← h, bl_irrefl] at this; cases this
      ·exact k3 ⟨h9, h⟩
      ·exact k4 h
     ·intro h39
      have hok : okKey o i := by
       refine ⟨h39.1.1.1, fun hi0 => ?_, ?_, h39.2⟩
       ·rcases h39.1.1.2 with h | ⟨h, h'⟩
        ·omega
        ·rcases bl_total (o.keys.getD (i - 1) []) (o.keys.getD i []) with e | e | e
         ·exact absurd e.symm h'
         ·exact e
         ·rw [h] at e; cases e
       ·rintro ⟨h9, hL⟩
        rcases h39.1.2 with h | h
        ·exact h hL
        ·exact h h9
      refine AW.skip ?_
      refine AW.rL ?_
      refine ⟨⟨i + 1, by omega, fun j hj => (Nat.lt_or_ge j i).elim (hs j) (fun h => (show j = i by omega) ▸ hok)⟩, ?_, ?_⟩
      ·refine St.le.vw [0]
      ·simp only []; omega
    ·intro h31
     refine AW.exit ?_
     refine AW.rS ?_
     refine AW.rt ?_
     rw [rising_yes ⟨by omega, fun j hj => hs j (by omega)⟩]
theorem rcheck_step (gl : List (Nat × AV)) (N : Nat) (hN : N ≤ 16777216) (ih : ∀ (o' : Pob) (d' : Int), o'.tot < N → 1 ≤ d' → d' ≤ 25 → FnP Tryz.prog gl 63 [.agg o'.cells, .int .i64 d'] fun r => r = .ret (.int .i64 (chk o' d'))) (o : Pob) (d : Int) (ho : o.tot ≤ N) (hd : 1 ≤ d) (hd2 : d ≤ 25) : FnP Tryz.prog (gl) 63 [.agg o.cells, .int .i64 d] fun r => r = .ret (.int .i64 (chk o d)) := by
 refine FnP.intro Tryz.func63 rfl rfl (by simp [Tryz.ntmps63]) ?_
 simp only [argEnv, Tryz.ntmps63, Tryz.results63]
 have hb := Pob.bulk_tot o
 have hbe := Pob.bulk_eq o
 have hts := Pob.tot_str o
 refine AW.rS ?_
 refine AW.seq ?_
 refine AW.rS ?_
 refine AW.c2 ?_ ?_
 ·intro h4
  refine AW.rS ?_
  refine AW.rt ?_
  rw [own_deep (by omega)]
 ·intro h4
  refine AW.skip ?_
  refine AW.seq ?_
  refine AW.rSC ?_
  refine awOps.cons (awGuard.c1 (c_foliantref05_uses _ o) ?_)
  refine awOps.rn ?_
  refine AW.c2 ?_ ?_
  ·intro h13
   refine AW.rS ?_
   refine AW.rt ?_
   rw [own_use (by omega) (by rw [use_split]; rcases h13 with h | ⟨h, h'⟩; simp [h]; simp [h, show ¬ d = 1 by omega])]
  ·intro h13
   have hu : useB o d = true := by rw [use_split, h13.1]; rcases h13.2 with h | h; simp [h]; simp [show d = 1 by omega]
   have hu1 : useB o 1 = true := h13.1
   refine AW.skip ?_
   refine AW.seq ?_
   refine AW.rSC ?_
   refine awOps.cons (awGuard.c1 (c_foliantref05_fits _ o) ?_)
   refine awOps.rn ?_
   refine AW.c2 ?_ ?_
   ·intro h22
    refine AW.rS ?_
    refine AW.rt ?_
    rw [own_fits (by omega) hu h22]
   ·intro h22
    have hf : fitsB o = true := h22
    refine AW.skip ?_
    refine AW.seq ?_
    refine AW.fS [0, 1, 2, 3, 4, 5, 6] [] ?_
    refine awFun.rn ?_
    refine awFun.c1 [29] (c_foliantref05_long _ o.kind) ?_
    refine awFun.rn ?_
    rw [Aw.awFun_nil, Aw.awPlan_nil]
    refine AW.c2 ?_ ?_
    ·intro h33
     refine AW.rS ?_
     refine AW.rt ?_
     rw [own_long (by omega) hu hf (by rw [short_ref hu1]; simp; omega)]
    ·intro h33
     have hsh : shortB o = true := by rw [short_ref hu1]; simpa using h33
     refine AW.skip ?_
     refine AW.seq ?_
     refine AW.rS ?_
     refine AW.c2 ?_ ?_
     ·intro h40
      refine AW.rS ?_
      refine AW.rt ?_
      rw [own_many (by omega) hu hf hsh (by omega)]
     ·intro h40
      refine AW.skip ?_
      refine AW.seq ?_
      refine AW.rSC ?_
      refine awOps.cons (awGuard.c1 (c_foliantref05_keys _ o (by omega)) ?_)
      refine awOps.rn ?_
      refine AW.c2 ?_ ?_
      ·intro h49
       refine AW.rS ?_
       refine AW.rt ?_
       rw [own_form (by omega) hu hf hsh (by omega) h49]
      ·intro h49
       have hfo : formB o = true := h49
       refine AW.skip ?_
       refine AW.seq ?_
       refine AW.rS ?_
       refine AW.block ?_
       refine AW.lk (S := { i : Nat // i ≤ o.kids.length ∧ chkL o.kids (d + 1) = chkL (o.kids.drop i) (d + 1) }) [1, 40, 41] (fun s_ => [(42, .int .i64 s_.1)]) (fun s_ => [(0, .cells o.cells)]) 1 (fun s_ => o.kids.length - s_.1) ⟨0, Nat.zero_le _, rfl⟩ ?_ ?_
       ·refine St.le.vw [0]
       rintro ⟨i, hi, hs⟩
       try dsimp only at hi
       try dsimp only at hs
       refine AW.rS ?_
       refine AW.seq ?_
       refine AW.c2 ?_ ?_
       ·intro h60
        have hkt := Pob.tot_kid (o := o) h60
        refine AW.skip ?_
        refine AW.seq ?_
        refine AW.block ?_
        refine AW.rS ?_
        refine AW.rSC ?_
        refine awOps.cons (awGuard.c1 (ih (o.kids.getD i Pob.null) (d + 1) (by omega) (by omega) (by omega)) ?_)
        refine awOps.rn ?_
        refine AW.rS ?_
        refine AW.c2 ?_ ?_
        ·intro h69
         refine AW.rS ?_
         refine AW.rt ?_
         rw [own_ok (by omega) hu hf hsh (by omega) hfo, hs, chkL_drop h60, if_neg h69]
        ·intro h69
         refine AW.skip ?_
         refine AW.rL ?_
         refine ⟨⟨i + 1, by omega, by rw [hs, chkL_drop h60, if_pos h69]⟩, ?_, ?_⟩
         ·refine St.le.vw [0]
         ·simp only []; omega
       ·intro h60
        refine AW.exit ?_
        refine AW.rS ?_
        refine AW.rt ?_
        rw [own_ok (by omega) hu hf hsh (by omega) hfo, hs, List.drop_of_length_le (by omega)]
        with_unfolding_all rfl
theorem rcheck_all (gl : List (Nat × AV)) (N : Nat) : N ≤ 16777216 → ∀ (o : Pob) (d : Int), o.tot ≤ N → 1 ≤ d → d ≤ 25 → FnP Tryz.prog gl 63 [.agg o.cells, .int .i64 d] fun r => r = .ret (.int .i64 (chk o d)) := by
 induction N using Nat.strongRecOn with
 | ind N IH => exact fun hN o d ho hd hd2 => rcheck_step gl N hN (fun o' d' h h1 h2 => IH o'.tot h (by omega) o' d' (Nat.le_refl _) h1 h2) o d ho hd hd2
theorem c_foliantref05_Check (gl : List (Nat × AV)) (o : Pob) (h : o.tot ≤ 16777216) : FnP Tryz.prog (gl) 38 [.agg o.cells] fun r => r = .ret (.int .i64 (chk o 1)) := by
 refine FnP.intro Tryz.func38 rfl rfl (by simp [Tryz.ntmps38]) ?_
 simp only [argEnv, Tryz.ntmps38, Tryz.results38]
 refine AW.rS ?_
 refine AW.rSC ?_
 refine awOps.cons (awGuard.c1 (rcheck_all _ 16777216 (Nat.le_refl _) o 1 h (by omega) (by omega)) ?_)
 refine awOps.rn ?_
 refine AW.rt ?_
 all_goals first | contradiction | rfl | (simp; done) | (simp; omega)
end Go.Proofs

namespace Go.Proofs
open Go Aw
set_option linter.unusedSimpArgs false
set_option linter.unusedVariables false
set_option maxRecDepth 100000
set_option maxHeartbeats 2000000
attribute [local go_sem] take_strsAV app1_strsAV take_intsAV drop_intsAV app_intsAV app1_intsAV take_objsAV drop_objsAV app_objsAV app1_objsAV
theorem c_foliantref05_Get (gl : List (Nat × AV)) (o : Pob) (key : List UInt8) (h : o.bulk ≤ 16777216) : FnP Tryz.prog (gl) 77 [.agg o.cells, .str key] fun r => r = .ret (.tup [.agg (getO o key).cells, .bool (getB o key)]) := by
 refine FnP.intro Tryz.func77 rfl rfl (by simp [Tryz.ntmps77]) ?_
 simp only [argEnv, Tryz.ntmps77, Tryz.results77]
 have hbe := Pob.bulk_eq o
 refine AW.rS ?_
 refine AW.seq ?_
 refine AW.rS ?_
 refine AW.c2 ?_ ?_
 ·intro h4
  refine AW.rS ?_
  refine AW.rt ?_
  have hg := get_unkeyed (o := o) (key := key) (by simp [keyedB, h4.1, h4.2])
  rw [hg.1, hg.2] <;> rfl
 ·intro h4
  refine AW.skip ?_
  refine AW.seq ?_
  refine AW.rS ?_
  refine AW.block ?_
  refine AW.lk (S := { i : Nat // i ≤ o.keys.length ∧ ∀ j, j < i → o.keys.getD j [] ≠ key }) [1, 2, 4, 18, 19] (fun s_ => [(20, .int .i64 s_.1)]) (fun s_ => [(0, .cells o.cells), (1, .cells [.int .i64 0, .int .i64 0, .int .i64 0, .str [], .raw (.slice none 0 0), .raw (.slice none 0 0)])]) 2 (fun s_ => o.keys.length - s_.1) ⟨0, Nat.zero_le _, fun j h => absurd h (by omega)⟩ ?_ ?_
  ·refine St.le.vw [0, 1]
  rintro ⟨i, hi, hs⟩
  try dsimp only at hi
  try dsimp only at hs
  refine AW.rS ?_
  refine AW.seq ?_
  refine AW.c2 ?_ ?_
  ·intro h15
   refine AW.skip ?_
   refine AW.seq ?_
   refine AW.block ?_
   refine AW.rS ?_
   refine AW.rS ?_
   refine AW.c2 ?_ ?_
   ·intro h21
    have hkx := kidx_hit h15 hs h21.symm
    refine AW.seq ?_
    refine AW.rS ?_
    refine AW.c2 ?_ ?_
    ·intro h24
     refine AW.rS ?_
     refine AW.rt ?_
     have hg := get_miss (o := o) (key := key) (by rw [hkx]; omega)
     rw [hg.1, hg.2] <;> rfl
    ·intro h24
     refine AW.skip ?_
     refine AW.rS ?_
     refine AW.rt ?_
     have hg := get_hit (o := o) (key := key) (by simp only [keyedB]; simp; omega) (by rw [hkx]; omega)
     rw [hg.1, hg.2, hkx]
     rfl
   ·intro h21
    refine AW.skip ?_
    refine AW.rL ?_
    refine ⟨⟨i + 1, by omega, fun j hj => (Nat.lt_or_ge j i).elim (hs j) (fun h => (show j = i by omega) ▸ h21)⟩, ?_, ?_⟩
    ·refine St.le.vw [0, 1]
    ·simp only []; omega
  ·intro h15
   refine AW.exit ?_
   refine AW.rS ?_
   refine AW.rt ?_
   have hg := get_miss (o := o) (key := key) (by rw [kidx_miss (fun j hj => hs j (by omega))]; omega)
   rw [hg.1, hg.2] <;> rfl
end Go.Proofs
