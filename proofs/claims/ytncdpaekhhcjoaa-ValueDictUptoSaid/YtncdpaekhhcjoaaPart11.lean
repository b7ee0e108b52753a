/- A part of the proof of a law of the seat: no condition of its own. -/
import Derived.Test.YtncdpaekhhcjoaaPart10
import Derived.Shelf.SlIterI.Sorted
import Derived.Shelf.Sort.Plain
import Derived.Shelf.Slices.In.SortNone
import Derived.Test.YtncdpaekhhcjoaaProg
namespace Go.Proofs
open Go Aw
set_option linter.unusedSimpArgs false
set_option linter.unusedVariables false
set_option maxRecDepth 100000
set_option maxHeartbeats 4000000

theorem noTL_cells (z : Pob) : noTL z.cells = true := by cases z; rfl
theorem walk_step (gl : List (Nat × AV)) (stp : List Int → Pob → List Int) (z : Pob) (l : Nat) {Ω : Mem → Prop} [LastsIn Ω]
    (hY : ∀ s o, RoundT Ω Try.prog gl l [.agg (Pob.cells o)] [(0, .cells [.map 1]), (1, setOf (fun n => AV.int .i64 n) s), (2, .cells z.cells)] 3 fun r h n => r = .ret (.bool true) ∧ h = [(0, .cells [.map 1]), (1, setOf (fun n => AV.int .i64 n) (stp s o)), (2, .cells z.cells)] ∧ n = 3) (N : Nat)
    (ih : ∀ s (o' : Pob), o'.bulk < N → FnT Ω Try.prog gl 131 [.agg o'.cells, .raw (.func (.yield l) #[] #[])] [(0, .cells [.map 1]), (1, setOf (fun n => AV.int .i64 n) s), (2, .cells z.cells)] 3 fun r h n => r = .ret (.bool true) ∧ h = [(0, .cells [.map 1]), (1, setOf (fun n => AV.int .i64 n) (o'.pre.foldl stp s)), (2, .cells z.cells)] ∧ n = 3)
    (s : List Int) (o : Pob) (hl : o.kids.length ≤ 16777216) (hb : ∀ i, i < o.kids.length → (o.kids.getD i Pob.null).bulk < N) :
    FnT Ω Try.prog gl 131 [.agg o.cells, .raw (.func (.yield l) #[] #[])] [(0, .cells [.map 1]), (1, setOf (fun n => AV.int .i64 n) s), (2, .cells z.cells)] 3 fun r h n => r = .ret (.bool true) ∧ h = [(0, .cells [.map 1]), (1, setOf (fun n => AV.int .i64 n) (o.pre.foldl stp s)), (2, .cells z.cells)] ∧ n = 3 := by
  have hpre := Pob.pre_eq o
  refine FnT.intro Try.func131 rfl rfl (by simp [Try.ntmps131]) ?_ ?_
  · rintro q hp' nx' ⟨rfl, rfl, rfl⟩
    exact ⟨by simp only [↓noTHm_cons, noTHm, ↓noTBm_ints, noTBm, noTL, noT, noTL_cells, Bool.and_self], _, rfl, rfl⟩
  intro B_
  simp only [argEnv, Try.ntmps131, Try.results131]
  refine AWT.rS ?_
  refine AWT.seq ?_
  refine AWT.rSC ?_
  refine OpsT.cY [0, 1, 2] (hY s o) ?_
  refine OpsT.rn ?_
  refine OpsT.nil ?_
  refine AWT.c2 ?_ ?_
  · intro h
    simp at h
  · intro _
    refine AWT.skip ?_
    refine AWT.seq ?_
    refine AWT.rS ?_
    refine AWT.block ?_
    refine AWT.lk (S := { i : Nat // i ≤ o.kids.length }) [1, 12, 13] (fun s_ => [(14, .int .i64 s_.1)]) (fun s_ => [(0, .cells [.map 1]), (1, setOf (fun n => AV.int .i64 n) ((pres (o.kids.take s_.1)).foldl stp (stp s o))), (2, .cells z.cells)]) 3 (fun s_ => o.kids.length - s_.1) ⟨0, Nat.zero_le _⟩ ?_ ?_
    · refine St.le.vx [0, 1, 2] (hpre := lt3) ?_
      simp [pres_nil]
    rintro ⟨i, hi⟩
    try dsimp only at hi
    refine AWT.rS ?_
    refine AWT.seq ?_
    refine AWT.c2 ?_ ?_
    · intro h17
      refine AWT.skip ?_
      refine AWT.seq ?_
      refine AWT.block ?_
      refine AWT.rS ?_
      refine AWT.rSC ?_
      refine OpsT.cT [0, 1, 2] (ih _ (o.kids.getD i Pob.null) (hb i (by omega))) ?_
      refine OpsT.rn ?_
      refine OpsT.nil ?_
      refine AWT.c2 ?_ ?_
      · intro h
        simp at h
      · intro _
        refine AWT.skip ?_
        refine AWT.rL ?_
        refine ⟨⟨i + 1, by omega⟩, ?_, ?_⟩
        · refine St.le.vx [0, 1, 2] (hpre := lt3) ?_
          simp [pres_take (show i < o.kids.length by omega), List.foldl_append]
        · simp only []; omega
    · intro h17
      refine AWT.exit ?_
      refine AWT.rS ?_
      refine AWT.rt ?_
      rw [hpre, List.foldl_cons, List.take_of_length_le (by omega)]
theorem walk_all (gl : List (Nat × AV)) (stp : List Int → Pob → List Int) (z : Pob) (l : Nat) {Ω : Mem → Prop} [LastsIn Ω]
    (hY : ∀ s o, RoundT Ω Try.prog gl l [.agg (Pob.cells o)] [(0, .cells [.map 1]), (1, setOf (fun n => AV.int .i64 n) s), (2, .cells z.cells)] 3 fun r h n => r = .ret (.bool true) ∧ h = [(0, .cells [.map 1]), (1, setOf (fun n => AV.int .i64 n) (stp s o)), (2, .cells z.cells)] ∧ n = 3) (N : Nat) :
    N ≤ 16777216 → ∀ s (o : Pob), o.bulk ≤ N → FnT Ω Try.prog gl 131 [.agg o.cells, .raw (.func (.yield l) #[] #[])] [(0, .cells [.map 1]), (1, setOf (fun n => AV.int .i64 n) s), (2, .cells z.cells)] 3 fun r h n => r = .ret (.bool true) ∧ h = [(0, .cells [.map 1]), (1, setOf (fun n => AV.int .i64 n) (o.pre.foldl stp s)), (2, .cells z.cells)] ∧ n = 3 := by
  induction N using Nat.strongRecOn with
  | ind N IH =>
    intro hN s o ho
    have hb := Pob.bulk_eq o
    exact walk_step gl stp z l hY N (fun s o' h => IH o'.bulk h (by omega) s o' (Nat.le_refl _)) s o (by omega) (fun i hi => Nat.lt_of_lt_of_le (Pob.bulk_kid hi) ho)
theorem each_walk (gl : List (Nat × AV)) (stp : List Int → Pob → List Int) (o : Pob) (l : Nat) {Ω : Mem → Prop} [LastsIn Ω]
    (hY : ∀ s o', RoundT Ω Try.prog gl l [.agg (Pob.cells o')] [(0, .cells [.map 1]), (1, setOf (fun n => AV.int .i64 n) s), (2, .cells o.cells)] 3 fun r h n => r = .ret (.bool true) ∧ h = [(0, .cells [.map 1]), (1, setOf (fun n => AV.int .i64 n) (stp s o')), (2, .cells o.cells)] ∧ n = 3)
    (s : List Int) (h : o.bulk ≤ 16777216) : FnT Ω Try.prog gl 130 [.raw (.func (.yield l) #[] #[]), .ptr 2 0] [(0, .cells [.map 1]), (1, setOf (fun n => AV.int .i64 n) s), (2, .cells o.cells)] 3 fun r h n => r = .ret (.tup []) ∧ h = [(0, .cells [.map 1]), (1, setOf (fun n => AV.int .i64 n) (o.pre.foldl stp s)), (2, .cells o.cells)] ∧ n = 3 := by
  refine FnT.intro Try.func130 rfl rfl (by simp [Try.ntmps130]) ?_ ?_
  · rintro q hp' nx' ⟨rfl, rfl, rfl⟩
    exact ⟨by simp only [↓noTHm_cons, noTHm, ↓noTBm_ints, noTBm, noTL, noT, noTL_cells, Bool.and_self], _, rfl, rfl⟩
  intro B_
  simp only [argEnv, Try.ntmps130, Try.results130]
  refine AWT.rLC ?_
  refine OpsT.cT [0, 1, 2] (walk_all gl stp o l hY 16777216 (Nat.le_refl _) s o h) ?_
  refine OpsT.rn ?_
  refine OpsT.nil ?_
  refine wk ?_
  all_goals first | contradiction | rfl | (simp; done) | (simp; omega)
theorem h_value_each (gl : List (Nat × AV)) (o : Pob) : FnH Try.prog (gl) 94 [.agg o.cells] ([]) 0 (fun r h n => r = .ret (.clos 130 [.ptr 0 0]) ∧ h = [(0, .cells o.cells)] ∧ n = 1) := by
  refine FnH.intro Try.func94 rfl rfl (by simp [Try.ntmps94]) ?_
  simp only [argEnv, Try.ntmps94, Try.results94]
  refine AW.rS ?_
  refine AW.rS ?_
  refine AW.rt ?_
  all_goals first | contradiction | rfl | (simp; done) | (simp; omega)
theorem h_maps_Keys (gl : List (Nat × AV)) (s : List Int) : FnH Try.prog (gl) 97 [.map 0] ([(0, setOf (fun n => AV.int .i64 n) s)]) 1 (fun r h n => r = .ret (.clos 134 [.ptr 1 0]) ∧ h = [(0, setOf (fun n => AV.int .i64 n) s), (1, .cells [.map 0])] ∧ n = 2) := by
  refine FnH.intro Try.func97 rfl rfl (by simp [Try.ntmps97]) ?_
  simp only [argEnv, Try.ntmps97, Try.results97]
  refine AW.rS ?_
  refine AW.rS ?_
  refine AW.rt ?_
  all_goals first | contradiction | rfl | (simp; done) | (simp; omega)
theorem c_value_Refs_of (gl : List (Nat × AV)) (o : Pob) (h : o.bulk ≤ 16777216)
    (hsort : FnT (fun _ => True) Try.prog gl 96 [.clos 134 [.ptr 1 0]] [(0, setOf (fun n => AV.int .i64 n) (o.pre.foldl refStp [])), (1, .cells [.map 0])] 2 fun r h n => r = .ret (.sl (intsAV (sortI (o.pre.foldl refStp [])))) ∧ h = [(0, setOf (fun n => AV.int .i64 n) (o.pre.foldl refStp [])), (1, .cells [.map 0])] ∧ n = 2) :
    FnP Try.prog gl 43 [.agg o.cells] fun r => r = .ret (.sl (intsAV (sortI (o.pre.foldl refStp [])))) := by
  refine FnP.introM Try.func43 rfl rfl (by simp [Try.ntmps43]) (by rintro q rfl; exact ⟨_, rfl⟩) ?_
  intro B_
  simp only [argEnv, Try.ntmps43, Try.results43]
  refine AWT.rS ?_
  refine AWT.rSC ?_
  refine OpsT.cs (awGuard.mkS (keyOk_int .i64) ?_)
  refine OpsT.rn ?_
  refine OpsT.nil ?_
  refine AWT.seq ?_
  refine AWT.rSC ?_
  refine OpsT.cN [] (FnT.ofH (h_value_each _ o)) ?_
  refine OpsT.rn ?_
  refine OpsT.nil ?_
  refine AWT.block ?_
  refine AWT.rg [2, 1, 3] [(3, .ptr 0 0)] [(0, .cells [.map 1]), (1, setOf (fun n => AV.int .i64 n) (o.pre.foldl refStp [])), (2, .cells o.cells)] (xs := [.ptr 2 0]) (hp0 := [(0, .cells [.map 1]), (1, setOf (fun n => AV.int .i64 n) []), (2, .cells o.cells)]) (n1 := 3) ?_ ?_
  · intro Ω _ l hr
    refine (each_walk _ refStp o l (fun s o' => ?_) [] h).mono (fun q hp nx hh => ⟨⟨_, hh.1⟩, hh.2⟩)
    refine hr (.agg o'.cells) _ 3 _ ?_
    refine AWT.rL ?_
    refine ⟨rfl, ?_⟩
    refine AWT.block ?_
    refine AWT.rSC ?_
    refine OpsT.cs (awGuard.cG (fun _ => c_value_within_int64 _ o'.num 1 8191) ?_)
    refine OpsT.rn ?_
    refine OpsT.nil ?_
    refine AWT.c2 ?_ ?_
    · intro h4
      refine AWT.rLC ?_
      refine OpsT.cs (awGuard.upS (keyOk_int .i64) ?_)
      refine OpsT.rn ?_
      refine OpsT.nil ?_
      refine ⟨rfl, ⟨23, [], [(0, .cells [.map 1]), (1, setOf (fun n => AV.int .i64 n) (refStp s o')), (2, .cells o.cells)], 3, gl, 3, []⟩, ?_, ?_, rfl, rfl, rfl⟩
      · refine St.le.vx [0, 1, 2] (hpre := lt3) ?_
        rw [show refStp s o' = setAdd s o'.num from by simp [refStp, refB, h4]]
      · simp only [↓noTHm_cons, noTHm, ↓noTBm_ints, noTBm, noTL, noT, noTL_cells, Bool.and_self]
    · intro h4
      refine AWT.skip ?_
      refine ⟨rfl, ⟨23, [], [(0, .cells [.map 1]), (1, setOf (fun n => AV.int .i64 n) (refStp s o')), (2, .cells o.cells)], 3, gl, 3, []⟩, ?_, ?_, rfl, rfl, rfl⟩
      · refine St.le.vx [0, 1, 2] (hpre := lt3) ?_
        rw [show refStp s o' = s from by
          have hn : refB o' = false := by
            simp only [refB, Bool.and_eq_false_iff, decide_eq_false_iff_not]
            omega
          simp [refStp, hn]]
      · simp only [↓noTHm_cons, noTHm, ↓noTBm_ints, noTBm, noTL, noT, noTL_cells, Bool.and_self]
  · refine AWT.rSC ?_
    refine OpsT.cN [1] (FnT.ofH (h_maps_Keys _ _)) ?_
    refine OpsT.rn ?_
    refine OpsT.cN [1, 4] hsort ?_
    refine OpsT.rn ?_
    refine OpsT.nil ?_
    refine AWT.rt ?_
    trivial
end Go.Proofs

namespace Go.Proofs
open Go.RowKit Go.Maps Go.Sort Go.Shelf
def Try.lays189_ren : Go.Shelf.Ren := ⟨fun | 189 => 133 | 125 => 148 | 257 => 147 | 128 => 163 | 129 => 164 | 294 => 154 | 295 => 155 | 296 => 156 | 297 => 157 | 298 => 158 | 299 => 159 | 216 => 160 | 300 => 161 | 301 => 162 | 328 => 169 | 329 => 170 | 330 => 171 | 331 => 172 | 332 => 173 | 215 => 136 | 343 => 174 | n => n, fun | 28 => 33 | 3 => 3 | 46 => 138 | 0 => 0 | 51 => 180 | 53 => 182 | 4 => 4 | 183 => 173 | 182 => 172 | 131 => 83 | 5 => 5 | 9 => 9 | 218 => 186 | 222 => 190 | 228 => 192 | 229 => 193 | n => n, fun | n => n⟩
theorem Try.lays189 : Go.Proofs.Lays.n189 Try.prog Try.lays189_ren := {
  mixed := by kernel_rfl
  f125 := Try.func148.trans (congrArg some (by kernel_rfl))
  f128 := Try.func163.trans (congrArg some (by kernel_rfl))
  f129 := Try.func164.trans (congrArg some (by kernel_rfl))
  f189 := Try.func133.trans (congrArg some (by kernel_rfl))
  f215 := Try.func136.trans (congrArg some (by kernel_rfl))
  f216 := Try.func160.trans (congrArg some (by kernel_rfl))
  f257 := Try.func147.trans (congrArg some (by kernel_rfl))
  f294 := Try.func154.trans (congrArg some (by kernel_rfl))
  f295 := Try.func155.trans (congrArg some (by kernel_rfl))
  f296 := Try.func156.trans (congrArg some (by kernel_rfl))
  f297 := Try.func157.trans (congrArg some (by kernel_rfl))
  f298 := Try.func158.trans (congrArg some (by kernel_rfl))
  f299 := Try.func159.trans (congrArg some (by kernel_rfl))
  f300 := Try.func161.trans (congrArg some (by kernel_rfl))
  f301 := Try.func162.trans (congrArg some (by kernel_rfl))
  f328 := Try.func169.trans (congrArg some (by kernel_rfl))
  f329 := Try.func170.trans (congrArg some (by kernel_rfl))
  f330 := Try.func171.trans (congrArg some (by kernel_rfl))
  f331 := Try.func172.trans (congrArg some (by kernel_rfl))
  f332 := Try.func173.trans (congrArg some (by kernel_rfl))
  f343 := Try.func174.trans (congrArg some (by kernel_rfl))
  t0 := Try.underlying0
  a0 := Try.isAgg0
  z0 := Try.sizeOf0
  v0 := Try.zeroValue0
  t3 := Try.underlying3
  a3 := Try.isAgg3
  z3 := Try.sizeOf3
  v3 := Try.zeroValue3
  t4 := Try.underlying4
  a4 := Try.isAgg4
  z4 := Try.sizeOf4
  v4 := Try.zeroValue4
  t5 := Try.underlying5
  a5 := Try.isAgg5
  z5 := Try.sizeOf5
  v5 := Try.zeroValue5
  t9 := Try.underlying9
  a9 := Try.isAgg9
  z9 := Try.sizeOf9
  v9 := Try.zeroValue9
  t28 := Try.underlying33
  a28 := Try.isAgg33
  z28 := Try.sizeOf33
  v28 := Try.zeroValue33
  t46 := Try.underlying138
  a46 := Try.isAgg138
  z46 := Try.sizeOf138
  v46 := Try.zeroValue138
  t51 := Try.underlying180
  a51 := Try.isAgg180
  z51 := Try.sizeOf180
  v51 := Try.zeroValue180
  t53 := Try.underlying182
  a53 := Try.isAgg182
  z53 := Try.sizeOf182
  v53 := Try.zeroValue182
  t131 := Try.underlying83
  a131 := Try.isAgg83
  z131 := Try.sizeOf83
  v131 := Try.zeroValue83
  t182 := Try.underlying172
  a182 := Try.isAgg172
  z182 := Try.sizeOf172
  v182 := Try.zeroValue172
  t183 := Try.underlying173
  a183 := Try.isAgg173
  z183 := Try.sizeOf173
  v183 := Try.zeroValue173
  t218 := Try.underlying186
  a218 := Try.isAgg186
  z218 := Try.sizeOf186
  v218 := Try.zeroValue186
  t222 := Try.underlying190
  a222 := Try.isAgg190
  z222 := Try.sizeOf190
  v222 := Try.zeroValue190
  t228 := Try.underlying192
  a228 := Try.isAgg192
  z228 := Try.sizeOf192
  v228 := Try.zeroValue192
  t229 := Try.underlying193
  a229 := Try.isAgg193
  z229 := Try.sizeOf193
  v229 := Try.zeroValue193 }
open Go.Sort Go.RowKit in
theorem Try.slices_Sort_int (blk off cap : Nat) (zs : List Int) (w : World) (hH : Holds (Value.int .i64) w blk off zs.toArray) (hblk : blk < w.heap.size) (hsz : zs.length < 4611686018427387904) :
    Calls Try.prog 133 #[.slice (some ⟨blk, off, none⟩) zs.length cap] w fun e w' =>
      e = .returned (.tuple #[]) ∧ ∃ n os, w' = grow (putRow (Value.int .i64) (Sort.ahead w n) blk off (zs.mergeSort fun x y => decide (x ≤ y)).toArray) os := Any.slices_Sort_int Try.lays189 blk off cap zs w hH hblk hsz
theorem Try.slices_Sort_int_none (p : Option Addr) (cap : Nat) (w : World) :
    Calls Try.prog 133 #[.slice p 0 cap] w fun e w' => e = .returned (.tuple #[]) ∧ w' = w := Any.slices_Sort_int_none Try.lays189 p cap w
def Try.keysA_ren : Go.Shelf.Ren := ⟨fun | 7 => 97 | 10 => 134 | n => n, fun | 23 => 102 | 26 => 3 | 3 => 4 | 28 => 130 | 0 => 0 | 27 => 129 | 33 => 134 | 4 => 4 | n => n, fun n => n⟩
def Try.sortedA_ren : Go.Shelf.Ren := ⟨fun | 6 => 96 | 8 => 132 | 9 => 133 | 11 => 146 | 13 => 148 | 12 => 147 | 23 => 163 | 24 => 164 | 14 => 154 | 15 => 155 | 16 => 156 | 17 => 157 | 18 => 158 | 19 => 159 | 20 => 160 | 21 => 161 | 22 => 162 | 25 => 169 | 26 => 170 | 27 => 171 | 28 => 172 | 29 => 173 | 30 => 136 | 31 => 174 | n => n, fun | 26 => 3 | 28 => 130 | 24 => 33 | 0 => 0 | 3 => 3 | 37 => 138 | 48 => 180 | 50 => 182 | 4 => 4 | 40 => 173 | 39 => 172 | 45 => 83 | 5 => 5 | 9 => 9 | 51 => 186 | 55 => 190 | 57 => 192 | 58 => 193 | 33 => 134 | n => n, fun n => n⟩
theorem Try.keysA : SlLaysZI.n7 Try.prog Try.keysA_ren := {
  mixed := by kernel_rfl
  f7 := ⟨"maps.Keys[map[int]bool,int,bool]", by decide, Try.func97.trans (congrArg some (by kernel_rfl))⟩
  f10 := ⟨"maps.Keys[map[int]bool,int,bool]$1", by decide, Try.func134.trans (congrArg some (by kernel_rfl))⟩
  t0 := Try.underlying0
  a0 := Try.isAgg0
  z0 := Try.sizeOf0
  v0 := Try.zeroValue0
  t4 := Try.underlying4
  a4 := Try.isAgg4
  z4 := Try.sizeOf4
  v4 := Try.zeroValue4
  t23 := Try.underlying102
  a23 := Try.isAgg102
  z23 := Try.sizeOf102
  v23 := Try.zeroValue102
  t26 := Try.underlying3
  a26 := Try.isAgg3
  z26 := Try.sizeOf3
  v26 := Try.zeroValue3
  t27 := Try.underlying129
  a27 := Try.isAgg129
  z27 := Try.sizeOf129
  v27 := Try.zeroValue129
  t28 := Try.underlying130
  a28 := Try.isAgg130
  z28 := Try.sizeOf130
  v28 := Try.zeroValue130
  t33 := Try.underlying134
  a33 := Try.isAgg134
  z33 := Try.sizeOf134
  v33 := Try.zeroValue134 }
theorem Try.sortedA : SlLaysZI.n6 Try.prog Try.sortedA_ren := {
  mixed := by kernel_rfl
  f6 := ⟨"slices.Sorted[int]", by decide, Try.func96.trans (congrArg some (by kernel_rfl))⟩
  f8 := ⟨"slices.Collect[int]", by decide, Try.func132.trans (congrArg some (by kernel_rfl))⟩
  f11 := ⟨"slices.AppendSeq[[]int,int]", by decide, Try.func146.trans (congrArg some (by kernel_rfl))⟩
  t0 := Try.underlying0
  a0 := Try.isAgg0
  z0 := Try.sizeOf0
  v0 := Try.zeroValue0
  t24 := Try.underlying33
  a24 := Try.isAgg33
  z24 := Try.sizeOf33
  v24 := Try.zeroValue33
  t26 := Try.underlying3
  a26 := Try.isAgg3
  z26 := Try.sizeOf3
  v26 := Try.zeroValue3
  t28 := Try.underlying130
  a28 := Try.isAgg130
  z28 := Try.sizeOf130
  v28 := Try.zeroValue130
  i26 := by kernel_rfl }

/-- slices.Sort at int: what slices.Sorted asks for -/
theorem Try.sortsA (m : Nat) : AnyZI.SortsIn Try.prog Try.sortedA_ren Fence.wide m :=
  ⟨fun blk off cap ss W hH hblk hsz => callsIn_wide.2 (Try.slices_Sort_int blk off cap ss W hH hblk hsz),
   fun p cap W => callsIn_wide.2 (Try.slices_Sort_int_none p cap W)⟩
/-- slices.Sorted(maps.Keys(m)): the second call -/
theorem Try.sortedKeys {H : Type} (bm b nn : Nat) (D0 : DataW H) (R : Value → Option (DataW H × List MemPlace)) (w : World) (hbm : bm < w.heap.size) (hm : w.cell? ⟨bm, 0, none⟩ = some (.map (some b))) (hown : w.ownsMap Try.prog 3 R b nn D0) (hmax : Maps.size D0 ≤ maxLen) (hbytes : Maps.size D0 * 8 ≤ 140737488355328) :
    Calls Try.prog 96 #[.func (.func 134) #[] #[.pointer (some ⟨bm, 0, none⟩)]] w fun e w' => ∃ (v : Value) (ss : List Int), e = .returned v ∧ ss.Perm (intKeys D0) ∧
      w'.ownsRow w.heap.size 3 1 v ss.length ((ss.mergeSort (fun x y => decide (x ≤ y))).map encZ) ∧ (v = .slice none 0 0 ↔ ss = []) ∧ Below w.heap.size w w' := by
  have hseq : SeqGives Fence.wide 2 Try.prog 134 #[.pointer (some ⟨bm, 0, none⟩)] encZ (fun ss => ss.Perm (intKeys D0)) (Maps.size D0) w :=
    AnyZI.keys_gives (ρ := Try.keysA_ren) { Try.keysA with } Fence.wide _ trivial rfl (by omega) bm b nn D0 _ hbm hm hown
  have cS := AnyZI.sorted_in Try.sortedA Fence.wide 5 trivial trivial trivial trivial rfl (by omega) (Try.sortsA _) (enters_of Try.func133 (by kernel_rfl) rfl) 134 #[.pointer (some ⟨bm, 0, none⟩)] trivial (enters_of Try.func134 (by kernel_rfl) rfl) _ _ hmax hbytes _ hseq
  exact callsIn_wide.1 cS
end Go.Proofs

namespace Go.Proofs
open Go Aw Go.WideElems Go.Maps Go.RowKit
set_option linter.unusedSimpArgs false
set_option linter.unusedVariables false
set_option maxRecDepth 100000
set_option maxHeartbeats 4000000

def intV : Value → Int
  | .int _ n => n
  | _ => 0
theorem set_owns {m : Mem} {ri : RI} {s : List Int} (hb : BlkRep m ri (setOf (fun n => AV.int .i64 n) s)) (hwf : ∀ x ∈ s, (Lit.int .i64 x).wf = true) (hl : s.length ≤ 16777216) :
    ∃ D0 : DataW Unit, m.w.ownsMap Try.prog 3 (plainElem Try.prog 4) ri.b s.length D0 ∧ (intKeys D0).Perm s ∧ Maps.size D0 = s.length := by
  obtain ⟨h1, h2, h3, es, clock, h4, h5, h6, h7⟩ := set_blk (keyOk_int .i64) hb
  have hlen : es.size = s.length := by
    have := congrArg List.length h5
    simpa using this
  have hkey : ∀ x ∈ es.toList, x.key = .int .i64 (intV x.key) ∧ (Lit.int .i64 (intV x.key)).wf = true := by
    intro x hx
    have : x.key ∈ s.map (fun n : Int => Value.int .i64 n) := by rw [← h5]; exact List.mem_map_of_mem hx
    obtain ⟨n, hn, e⟩ := List.mem_map.1 this
    rw [← e]
    exact ⟨rfl, hwf n hn⟩
  have hval : ∀ x ∈ es.toList, x.val = .bool true := by
    intro x hx
    have : x.val ∈ s.map (fun _ : Int => Value.bool true) := by rw [← h6]; exact List.mem_map_of_mem hx
    obtain ⟨n, hn, e⟩ := List.mem_map.1 this
    exact e.symm
  have hrd : ∀ x ∈ es.toList, rd Try.prog 3 (plainElem (H := Unit) Try.prog 4) x = some (.int .i64 (intV x.key), .lit (.bool true)) := by
    intro x hx
    obtain ⟨k1, k2⟩ := hkey x hx
    have hk : keyOf Try.prog 3 x.key = some (.int .i64 (intV x.key)) := by
      generalize intV x.key = n at k1 k2
      rw [k1]
      simp [keyOf, Try.underlying3, mapKey, k2]
    have hv : plainElem (H := Unit) Try.prog 4 x.val = some (.lit (.bool true), []) := by rw [hval x hx]; exact plainElem_bool Try.underlying4 true
    exact rd_mk (born := x.born) hk hv
  refine ⟨.map ((es.toList.map (rg Try.prog 3 (plainElem Try.prog 4))).foldr DataW.insert []), ⟨es, clock, h4, ⟨by rw [hlen]; simp only [maxLen]; omega, h7, fun x hx => ⟨_, hrd x hx⟩⟩, by rw [hlen]; exact Nat.le_refl _, rfl⟩, ?_, ?_⟩
  · simp only [intKeys]
    refine ((Go.WideShapes.sorted_perm _).map _).trans ?_
    rw [List.map_map]
    have : es.toList.map ((fun p : Lit × DataW Unit => Go.intOf p.1) ∘ rg Try.prog 3 (plainElem Try.prog 4)) = s := by
      have e1 : es.toList.map ((fun p : Lit × DataW Unit => Go.intOf p.1) ∘ rg Try.prog 3 (plainElem Try.prog 4)) = (es.toList.map (·.key)).map intV := by
        rw [List.map_map]
        refine List.map_congr_left fun x hx => ?_
        simp only [Function.comp, rg_of (hrd x hx), Go.intOf]
      rw [e1, h5, List.map_map]
      have : (intV ∘ fun n : Int => Value.int .i64 n) = id := rfl
      rw [this, List.map_id]
    rw [this]
  · simp only [Maps.size, length_sorted, List.length_map]
    simpa using hlen
theorem repE_ints {m : Mem} {g : Nat} : ∀ (l : List Int) (o : Nat), (∀ i, i < l.length → m.F g (o + i) ∧ m.w.cell? ⟨g, o + i, none⟩ = some (.int .i64 (l.getD i 0))) → RepE m (intsAV l) g o 1
  | [], _, _ => by simp only [intsAV, List.map_nil, RepE]
  | x :: l, o, h => by
    simp only [intsAV, List.map_cons, RepE, RepC, Rep]
    have h0 := h 0 (by simp)
    refine ⟨rfl, ⟨by simpa using h0.1, ⟨_, by simpa using h0.2, rfl⟩, trivial⟩, ?_⟩
    refine repE_ints l (o + 1) fun i hi => ?_
    have := h (i + 1) (by simp; omega)
    rw [show o + (i + 1) = o + 1 + i from by omega] at this
    simpa using this
/-- the world behind a call that laid a new row at 'g' -/
def Mem.rowed (m : Mem) (w' : World) (g len : Nat) : Mem := { m with w := w', F := fun b o => m.F b o ∨ (b = g ∧ o < len) }
theorem rowed_ok {m : Mem} {hp : List (Nat × ABlk)} {nx : Nat} {w' : World} {g len : Nat} (hH : SimH m hp nx) (hbel : Below m.w.heap.size m.w w') (hg : 0 < len → m.w.heap.size ≤ g ∧ g < w'.heap.size) :
    m.le (Mem.rowed m w' g len) ∧ SimH (Mem.rowed m w' g len) hp nx := by
  have hcell : ∀ b o, m.F b o → w'.cell? ⟨b, o, none⟩ = m.w.cell? ⟨b, o, none⟩ := fun b o hf => cell?_of_block (hbel.block b (hH.Fold b o hf))
  refine ⟨⟨hbel.os, hbel.tape, hbel.output, hbel.size, rfl, fun b hb => hbel.block b (hH.Pold b hb), fun _ _ h => .inl h, hcell, fun b o hb hf => ?_, rfl, fun _ _ _ h => h⟩, ?_⟩
  · rcases hf with hf | ⟨rfl, ho⟩
    · exact hf
    · have := hH.Pold _ hb
      have := hg (by omega)
      omega
  · refine ⟨fun id x hx => ?_, hH.apart, hH.fresh, fun b o hf => ?_, fun b hb => Nat.lt_of_lt_of_le (hH.Pold b hb) hbel.size⟩
    · obtain ⟨ri, h1, h2⟩ := hH.blk id x hx
      refine ⟨ri, h1, ?_⟩
      have hm : MapOk m (Mem.rowed m w' g len) (fun i => i) := ⟨fun _ h => h, fun b hb => hbel.block b (hH.Pold b hb), fun _ _ h => .inl h, hcell, fun _ _ h => h⟩
      have := BlkRep.map hm (fun hn => hbel.block ri.b (h2.lt hn)) (fun hn => h2.noPr hn) (fun hn o hf => by
        rcases hf with hf | ⟨e, ho⟩
        · exact hf
        · have := h2.lt hn
          have := hg (by omega)
          omega) h2
      rw [renB_id] at this
      exact this
    · rcases hf with hf | ⟨rfl, ho⟩
      · exact Nat.lt_of_lt_of_le (hH.Fold b o hf) hbel.size
      · exact (hg (by omega)).2
theorem h_slices_Sorted (gl : List (Nat × AV)) (s : List Int) (hwf : ∀ x ∈ s, (Lit.int .i64 x).wf = true) (hl : s.length ≤ 16777216) :
    FnT (fun _ => True) Try.prog gl 96 [.clos 134 [.ptr 1 0]] [(0, setOf (fun n => AV.int .i64 n) s), (1, .cells [.map 0])] 2 fun r h n => r = .ret (.sl (intsAV (sortI s))) ∧ h = [(0, setOf (fun n => AV.int .i64 n) s), (1, .cells [.map 0])] ∧ n = 2 := by
  refine ⟨Aw.enters_of Try.func96 rfl rfl, fun m vs hm _ hv => ?_⟩
  obtain ⟨ri0, r0, b0⟩ := hm.h.blk 0 _ rfl
  obtain ⟨ri1, r1, b1⟩ := hm.h.blk 1 _ rfl
  obtain ⟨n1, _, f1, c, T, hc, hcl⟩ := b1
  simp only [RepL, Rep] at hcl hv
  obtain ⟨v0, rest0, hc0, ⟨_, ri0', r0', rfl⟩, rfl⟩ := hcl
  rw [r0] at r0'
  injection r0' with r0'
  subst r0'
  obtain ⟨v, rest, rfl, ⟨cv, rfl, v1, rest1, hcv, ⟨_, ri1', r1', rfl⟩, rfl⟩, rfl⟩ := hv
  rw [r1] at r1'
  injection r1' with r1'
  subst r1'
  have hcv' : cv = #[.pointer (some ⟨ri1.b, 0, none⟩)] := by
    apply Array.ext'
    exact hcv
  subst hcv'
  have hc' : c = #[.map (some ri0.b)] := by
    apply Array.ext'
    exact hc0
  subst hc'
  obtain ⟨D0, hown, hperm, hsize⟩ := set_owns b0 hwf hl
  have hb1 : ri1.b < m.w.heap.size := lt_of_getElem? hc
  have hcell : m.w.cell? ⟨ri1.b, 0, none⟩ = some (.map (some ri0.b)) := by simp [World.cell?, hc]
  have hcall := Try.sortedKeys ri1.b ri0.b s.length D0 (plainElem Try.prog 4) m.w hb1 hcell hown (by rw [hsize]; simp only [maxLen]; omega) (by rw [hsize]; omega)
  refine hcall.mono ?_
  rintro e w' ⟨v, ss, rfl, hp, hrow, _, hbel⟩
  have hss : ss.mergeSort (fun x y => decide (x ≤ y)) = sortI s := mergeSort_of_perm_i (hp.trans hperm)
  have hsl : ss.length = s.length := (hp.trans hperm).length_eq
  rw [hss] at hrow
  have hlen : (sortI s).length = ss.length := by rw [← hss]; exact (List.mergeSort_perm _ _).length_eq
  obtain ⟨_, ⟨rfl, h0⟩ | ⟨g, cap, cur, rfl, hgb, hgc, hcap, _, hcs, hct⟩⟩ := hrow
  · obtain ⟨h1, h2⟩ := rowed_ok (g := 0) (len := 0) hm.h hbel (fun h => by omega)
    have hnil : sortI s = [] := List.eq_nil_of_length_eq_zero (by omega)
    refine ⟨_, .ret (.sl (intsAV (sortI s))), _, _, rfl, h1, h2, ⟨_, rfl, ?_⟩, rfl, rfl, rfl⟩
    rw [hnil]
    simp only [Rep]
    exact .inl ⟨rfl, none, 0, rfl⟩
  · obtain ⟨h1, h2⟩ := rowed_ok (g := g) (len := ss.length) hm.h hbel (fun _ => ⟨hgb, lt_of_getElem? hgc⟩)
    refine ⟨_, .ret (.sl (intsAV (sortI s))), _, _, rfl, h1, h2, ⟨_, rfl, ?_⟩, rfl, rfl, rfl⟩
    simp only [Rep]
    refine .inr ⟨g, 0, cap, 1, by rw [show (intsAV (sortI s)).length = ss.length from by rw [← hlen]; simp [intsAV]], by rw [show (intsAV (sortI s)).length = ss.length from by rw [← hlen]; simp [intsAV]]; exact hcap, ?_⟩
    refine repE_ints _ 0 fun i hi => ⟨.inr ⟨rfl, by omega⟩, ?_⟩
    have hcur : cur[i]? = some (.int .i64 ((sortI s).getD i 0)) := by
      have e : (cur.toList.take (ss.length * 1))[i]? = ((sortI s).map encZ)[i]? := by rw [hct]
      rw [List.getElem?_take_of_lt (by omega), Array.getElem?_toList, List.getElem?_map, List.getElem?_eq_getElem hi] at e
      rw [e]
      simp [List.getD, hi]
    show w'.cell? ⟨g, 0 + i, none⟩ = _
    simp [World.cell?, hgc, hcur]
theorem c_value_Refs (gl : List (Nat × AV)) (o : Pob) (h : o.bulk ≤ 16777216 := by first | omega | assumption) : FnP Try.prog gl 43 [.agg o.cells] fun r => r = .ret (.sl (intsAV (refsO o))) := by
  refine c_value_Refs_of gl o h (h_slices_Sorted gl _ (fun x hx => ?_) ?_)
  · have := refStp_wf o.pre [] (fun _ h => by cases h) x hx
    have e1 : IntKind.i64.min = -9223372036854775808 := by decide
    have e2 : IntKind.i64.max = 9223372036854775807 := by decide
    simp only [Lit.wf, e1, e2, Bool.and_eq_true, decide_eq_true_eq]
    omega
  · have h1 := refStp_len o.pre []
    have h2 := Pob.pre_le o
    rw [List.length_nil, Nat.zero_add] at h1
    omega
end Go.Proofs
