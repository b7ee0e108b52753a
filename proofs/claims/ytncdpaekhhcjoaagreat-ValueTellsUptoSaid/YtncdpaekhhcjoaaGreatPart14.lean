/- A part of the proof of a law of the seat: no condition of its own. -/
import Derived.Test.YtncdpaekhhcjoaaGreatPart13
namespace Go.Proofs
open Go Aw
set_option linter.unusedSimpArgs false
set_option linter.unusedVariables false
set_option maxRecDepth 100000
set_option maxHeartbeats 4000000

theorem c_law_ValueTells (gl : List (Nat × AV)) (o v : Pob) (ps : List Pob) (key s : List UInt8) (fr to : List Int) (ho : o.tot ≤ 1048576) (hv : v.tot ≤ 1048576) (hp : tots ps ≤ 1048576) (hk : key.length ≤ 1048576) (hs : s.length ≤ 1048576) (hf : fr.length ≤ 1048576) (ht : to.length ≤ 1048576) (hn : -9223372036854775808 ≤ o.num ∧ o.num ≤ 9223372036854775807) : FnP Tryz.prog (gl) 5 [.agg o.cells, .agg v.cells, .sl (objsAV ps), .str key, .str s, .sl (intsAV fr), .sl (intsAV to)] fun r => r = .ret (.bool true) := by
  refine FnP.intro Tryz.func5 rfl rfl (by simp [Tryz.ntmps5]) ?_
  simp only [argEnv, Tryz.ntmps5, Tryz.results5]
  have hb1 := Pob.bulk_tot o
  have hp1 := Pob.psize_tot o
  have hb2 := Pob.bulk_tot v
  have hp2 := Pob.psize_tot v
  have hbp := bulks_tots ps
  have hx := setO_bulk o key v
  have hd := dropO_bulk o key
  have hg := get_bulk o key
  have hst := streamO_bulk o s
  have hdi := dictO_bulk ps
  have hw := Pob.swap_bulk fr to o
  have hrl := refs_len o
  refine AW.rS ?_
  refine AW.trim [2, 3, 4, 5, 6, 7, 8] ?_
  refine AW.seq ?_
  refine AW.fS [0, 2, 1, 3, 4, 5, 6, 7, 8, 9, 10, 11, 12, 13, 14, 15, 16, 17, 18, 19, 20] [] ?_
  refine awFun.rn ?_
  refine awFun.c1 [35] (c_foliantref05_Size _ o (by omega) (by omega)) ?_
  refine awFun.rn ?_
  refine awFun.c1 [37] (c_foliantref05_Size _ v (by omega) (by omega)) ?_
  refine awFun.rn ?_
  rw [Aw.awFun_nil, Aw.awPlan_nil]
  refine AW.trim [2, 3, 4, 5, 6, 7, 8, 55] ?_
  refine AW.c2 ?_ ?_
  · intro h10
    refine AW.rSC ?_
    refine awOps.cons (awGuard.c1 (c_law05_lives _) ?_)
    refine awOps.rn ?_
    refine AW.trim [14] ?_
    refine AW.rt ?_
    all_goals first | contradiction | rfl | (simp; done) | (simp; omega)
  · intro h10
    refine AW.skip ?_
    refine AW.rSC ?_
    refine awOps.cons (awGuard.c1 (c_value_Dict _ ps (by omega)) ?_)
    refine awOps.rn ?_
    refine AW.trim [2, 3, 4, 5, 6, 7, 8, 15, 16] ?_
    refine AW.rSC ?_
    refine awOps.cons (awGuard.c1 (c_foliantref05_Dict _ ps (by omega)) ?_)
    refine awOps.rn ?_
    refine AW.trim [3, 4, 5, 6, 7, 8, 15, 16, 17, 18] ?_
    refine AW.rSC ?_
    refine awOps.cons (awGuard.c1 (c_value_Stream _ o s (by omega)) ?_)
    refine awOps.rn ?_
    refine AW.trim [3, 4, 5, 6, 7, 8, 15, 16, 17, 18, 19, 20] ?_
    refine AW.rSC ?_
    refine awOps.cons (awGuard.c1 (c_foliantref05_Stream _ o s (by omega)) ?_)
    refine awOps.rn ?_
    refine AW.trim [3, 5, 6, 7, 8, 15, 16, 17, 18, 19, 20, 21, 22] ?_
    refine AW.rSC ?_
    refine awOps.cons (awGuard.c1 (c_value_Set _ o key v (by omega)) ?_)
    refine awOps.rn ?_
    refine AW.trim [3, 5, 6, 7, 8, 15, 16, 17, 18, 19, 20, 21, 22, 23, 24] ?_
    refine AW.rSC ?_
    refine awOps.cons (awGuard.c1 (c_foliantref05_Set _ o key v (by omega)) ?_)
    refine awOps.rn ?_
    refine AW.trim [3, 5, 6, 7, 8, 15, 16, 17, 18, 19, 20, 21, 22, 23, 24, 25, 26] ?_
    refine AW.rSC ?_
    refine awOps.cons (awGuard.c1 (c_value_Get _ o key (by omega)) ?_)
    refine awOps.rn ?_
    refine AW.trim [3, 5, 6, 7, 8, 15, 16, 17, 18, 19, 20, 21, 22, 23, 24, 25, 26, 27, 28] ?_
    refine AW.rSC ?_
    refine awOps.cons (awGuard.c1 (c_foliantref05_Get _ o key (by omega)) ?_)
    refine awOps.rn ?_
    refine AW.trim [3, 5, 6, 7, 8, 15, 16, 17, 18, 19, 20, 21, 22, 23, 24, 25, 26, 27, 28, 29, 30] ?_
    refine AW.rSC ?_
    refine awOps.cons (awGuard.c1 (c_value_Number _ o hn) ?_)
    refine awOps.rn ?_
    refine AW.trim [3, 5, 6, 7, 8, 15, 16, 17, 18, 19, 20, 21, 22, 23, 24, 25, 26, 27, 28, 29, 30, 31, 32] ?_
    refine AW.rSC ?_
    refine awOps.cons (awGuard.c1 (c_foliantref05_Number _ o hn) ?_)
    refine awOps.rn ?_
    refine AW.trim [3, 5, 6, 7, 8, 15, 16, 17, 18, 19, 20, 21, 22, 23, 24, 25, 26, 27, 28, 29, 30, 31, 32, 33, 34] ?_
    refine AW.seq ?_
    refine AW.rSC ?_
    refine awOps.cons (awGuard.c1 (c_foliantref05_Same _ (dictO ps) (dictO ps) (by omega)) ?_)
    refine awOps.rn ?_
    refine awOps.cons (awGuard.cG (fun hg => c_foliantref05_Same _ (streamO o s) (streamO o s) (by omega)) ?_)
    refine awOps.rn ?_
    refine awOps.cons (awGuard.cG (fun hg => c_foliantref05_Same _ (setO o key v) (setO o key v) (by omega)) ?_)
    refine awOps.rn ?_
    refine awOps.cons (awGuard.cG (fun hg => c_foliantref05_Same _ (getO o key) (getO o key) (by omega)) ?_)
    refine awOps.rn ?_
    refine AW.trim [3, 5, 6, 7, 8, 166] ?_
    refine AW.c2 ?_ ?_
    · intro h57
      exfalso
      simp at h57
    · intro h57
      refine AW.skip ?_
      refine AW.fS [0, 2, 1, 3, 4, 5, 6, 7, 9, 10, 8, 11, 12, 13, 14, 15, 17, 16, 18, 19, 20, 21, 22, 23, 25, 26, 24, 27, 28, 29, 30, 31, 33, 32, 34, 35, 36, 37, 38, 39, 40, 42, 43, 44, 41, 45, 46, 47, 48, 49, 51, 50, 52, 53, 54, 55, 56, 57] [] ?_
      refine awFun.rn ?_
      refine awFun.c1 [167] (c_value_Check _ o (by omega)) ?_
      refine awFun.rn ?_
      refine awFun.c1 [169] (c_foliantref05_Check _ o (by omega)) ?_
      refine awFun.rn ?_
      refine awFun.cG [172, 173, 174] (fun hg => c_value_Same _ o v (by omega)) ?_
      refine awFun.rn ?_
      refine awFun.cG [172, 176, 177] (fun hg => c_foliantref05_Same _ o v (by omega)) ?_
      refine awFun.rn ?_
      refine awFun.cG [181, 182] (fun hg => c_value_Depth _ o (by omega)) ?_
      refine awFun.rn ?_
      refine awFun.cG [181, 184] (fun hg => c_foliantref05_Depth _ o (by omega)) ?_
      refine awFun.rn ?_
      refine awFun.cG [188, 189, 190] (fun hg => c_value_Drop _ o key (by omega)) ?_
      refine awFun.rn ?_
      refine awFun.cG [188, 192, 193] (fun hg => c_foliantref05_Drop _ o key (by omega)) ?_
      refine awFun.rn ?_
      refine awFun.cG [188, 191, 194] (fun hg => c_foliantref05_Same _ (dropO o key) (dropO o key) (by omega)) ?_
      refine awFun.rn ?_
      refine awFun.cG [197, 198] (fun hg => c_value_Refs _ o (by omega)) ?_
      refine awFun.rn ?_
      refine awFun.cG [197, 200] (fun hg => c_foliantref05_Refs _ o (by omega)) ?_
      refine awFun.rn ?_
      refine awFun.cG [197, 199, 201] (fun hg => c_foliantref05_Ints _ (refsO o) (refsO o) (by omega)) ?_
      refine awFun.rn ?_
      refine awFun.cG [204, 205, 206, 207] (fun hg => c_value_Swap _ o fr to (by omega) (by omega) (by omega)) ?_
      refine awFun.rn ?_
      refine awFun.cG [204, 209, 210, 211] (fun hg => c_foliantref05_Swap _ o fr to (by omega) (by omega) (by omega)) ?_
      refine awFun.rn ?_
      refine awFun.cG [204, 208, 212] (fun hg => c_foliantref05_Same _ (o.swap fr to) (o.swap fr to) (by omega)) ?_
      refine awFun.rn ?_
      refine awFun.cG [215, 216] (fun hg => c_value_Clone _ o (by omega)) ?_
      refine awFun.rn ?_
      refine awFun.cG [215, 217, 218] (fun hg => c_foliantref05_Same _ o o (by omega)) ?_
      refine awFun.rn ?_
      refine awFun.cG [221] (fun hg => c_law05_lives _) ?_
      refine awFun.rn ?_
      rw [Aw.awFun_nil, Aw.awPlan_nil]
      refine AW.trim [14] ?_
      refine AW.rt ?_
      simp
end Go.Proofs
