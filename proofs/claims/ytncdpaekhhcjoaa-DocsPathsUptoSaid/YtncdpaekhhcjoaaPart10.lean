/- A part of the proof of a law of the seat: no condition of its own. -/
import Derived.Test.YtncdpaekhhcjoaaPart9
namespace Go.Proofs
open Go Aw
set_option linter.unusedSimpArgs false
set_option linter.unusedVariables false
set_option maxRecDepth 100000
set_option maxHeartbeats 4000000

theorem lv1 : docE leastD = 0 := by decide +kernel
theorem lv2 : docE Dc.zero = 10 := by decide +kernel
theorem lv3 : lookI leastD.items 5 = some ⟨5, 1, .mk 2 7 0 [] [] []⟩ := by decide +kernel
theorem lv4 : lookI leastD.items 4 = none := by decide +kernel
theorem lv5 : (putO leastD lvI3).items.length = 3 := by decide +kernel
theorem lv6 : ((putO leastD lvI3).items.getD 1 Itm.zero).num = 3 := by decide +kernel
theorem lv7 : putE leastD lvI3 = 0 := by decide +kernel
theorem lv8 : putE leastD lvI2 = 22 := by decide +kernel
theorem lv9 : putE leastD lvI9 = 10 := by decide +kernel
theorem lv10 : putE leastD Itm.zero = 2 := by decide +kernel
theorem lv11 : putE leastD lvX3 = 10 := by decide +kernel
theorem lv12 : dropD lvA 3 = leastD := by decide +kernel
theorem lv13 : dropE lvA 3 = 0 := by decide +kernel
theorem lv14 : dropE leastD 3 = 8 := by decide +kernel
theorem lv15 : dropE leastD 2 = 22 := by decide +kernel
theorem lv16 : freeN leastD = 6 := by decide +kernel
theorem lv17 : freeE leastD = 0 := by decide +kernel
theorem lv18 : addN leastD lvN = 6 := by decide +kernel
theorem lv19 : addE leastD lvN = 0 := by decide +kernel
theorem lv20 : (addO leastD lvN).items.length = 3 := by decide +kernel
theorem lv21 : freeE Dc.zero = 10 := by decide +kernel
theorem lv22 : (diffL lvA lvC).length = 1 := by decide +kernel
theorem lv23 : ((diffL lvA lvC).getD 0 Itm.zero).num = 6 := by decide +kernel
theorem lv24 : (diffG lvA lvC).length = 1 := by decide +kernel
theorem lv25 : (diffG lvA lvC).getD 0 0 = 3 := by decide +kernel
theorem lv26 : applyD lvA (diffL lvA lvC) (diffG lvA lvC) = lvC := by decide +kernel
theorem lv27 : applyE lvA (diffL lvA lvC) (diffG lvA lvC) = 0 := by decide +kernel
theorem lv28 : (pathO leastD (refO 2 0) [[65]]).num = 7 := by decide +kernel
theorem lv29 : (followO leastD (refO 5 0)).kind = 0 := by decide +kernel
theorem lv30 : (trailerO lvT).keys.length = 1 := by decide +kernel
theorem lv31 : (trailerO lvT).keys.getD 0 [] = [82, 111, 111, 116] := by decide +kernel
theorem lv32 : ¬ lvA = leastD := by decide +kernel
theorem c_law19_lives (gl : List (Nat × AV))  : FnP Try.prog (gl) 12 [] fun r => r = .ret (.bool true) := by
  refine FnP.intro Try.func12 rfl rfl (by simp [Try.ntmps12]) ?_
  simp only [argEnv, Try.ntmps12, Try.results12]
  have hal := lv5
  have hcl := lv20
  have hdl := lv22
  have hdg := lv24
  have htk := lv30
  refine AW.rS ?_
  refine AW.trim [] ?_
  refine AW.rSC ?_
  refine awOps.cons (awGuard.c1 (c_foliantlaw19_Least ..) ?_)
  refine awOps.rn ?_
  refine AW.trim [1] ?_
  refine AW.rSC ?_
  refine awOps.cons (awGuard.c1 (c_docs_Get _ leastD 5 (by decide +kernel)) ?_)
  refine awOps.rn ?_
  refine AW.trim [1, 2, 3] ?_
  refine AW.rSC ?_
  refine awOps.cons (awGuard.c1 (c_docs_Get _ leastD 4 (by decide +kernel)) ?_)
  refine awOps.rn ?_
  refine AW.trim [1, 2, 3, 5] ?_
  refine AW.rSC ?_
  refine awOps.cons (awGuard.c1 (c_docs_Put _ leastD lvI3 (by decide +kernel)) ?_)
  refine awOps.rn ?_
  refine AW.trim [1, 2, 3, 5, 6, 7] ?_
  refine AW.rSC ?_
  refine awOps.cons (awGuard.c1 (c_docs_Put _ leastD lvI2 (by decide +kernel)) ?_)
  refine awOps.rn ?_
  refine AW.trim [1, 2, 3, 5, 6, 7, 9] ?_
  refine AW.rSC ?_
  refine awOps.cons (awGuard.c1 (c_docs_Put _ leastD lvI9 (by decide +kernel)) ?_)
  refine awOps.rn ?_
  refine AW.trim [1, 2, 3, 5, 6, 7, 9, 11] ?_
  refine AW.rSC ?_
  refine awOps.cons (awGuard.c1 (c_docs_Put _ leastD Itm.zero (by decide +kernel)) ?_)
  refine awOps.rn ?_
  refine AW.trim [1, 2, 3, 5, 6, 7, 9, 11, 13] ?_
  refine AW.rSC ?_
  refine awOps.cons (awGuard.c1 (c_docs_Put _ leastD lvX3 (by decide +kernel)) ?_)
  refine awOps.rn ?_
  refine AW.trim [1, 2, 3, 5, 6, 7, 9, 11, 13, 15] ?_
  refine AW.rSC ?_
  refine awOps.cons (awGuard.c1 (c_docs_Drop _ lvA 3 (by decide +kernel)) ?_)
  refine awOps.rn ?_
  refine AW.trim [1, 2, 3, 5, 6, 7, 9, 11, 13, 15, 16, 17] ?_
  refine AW.rSC ?_
  refine awOps.cons (awGuard.c1 (c_docs_Drop _ leastD 3 (by decide +kernel)) ?_)
  refine awOps.rn ?_
  refine AW.trim [1, 2, 3, 5, 6, 7, 9, 11, 13, 15, 16, 17, 19] ?_
  refine AW.rSC ?_
  refine awOps.cons (awGuard.c1 (c_docs_Drop _ leastD 2 (by decide +kernel)) ?_)
  refine awOps.rn ?_
  refine AW.trim [1, 2, 3, 5, 6, 7, 9, 11, 13, 15, 16, 17, 19, 21] ?_
  refine AW.rSC ?_
  refine awOps.cons (awGuard.c1 (c_docs_Free _ leastD (by decide +kernel)) ?_)
  refine awOps.rn ?_
  refine AW.trim [1, 2, 3, 5, 6, 7, 9, 11, 13, 15, 16, 17, 19, 21, 22, 23] ?_
  refine AW.rSC ?_
  refine awOps.cons (awGuard.c1 (c_docs_Add _ leastD lvN (by decide +kernel)) ?_)
  refine awOps.rn ?_
  refine AW.trim [1, 2, 3, 5, 6, 7, 9, 11, 13, 15, 16, 17, 19, 21, 22, 23, 24, 25, 26] ?_
  refine AW.rSC ?_
  refine awOps.cons (awGuard.c1 (c_docs_Free _ Dc.zero (by decide +kernel)) ?_)
  refine awOps.rn ?_
  refine AW.trim [1, 2, 3, 5, 6, 7, 9, 11, 13, 15, 16, 17, 19, 21, 22, 23, 24, 25, 26, 28] ?_
  refine AW.rSC ?_
  refine awOps.cons (awGuard.c1 (c_docs_Diff _ lvA lvC (by decide +kernel) (by decide +kernel)) ?_)
  refine awOps.rn ?_
  refine AW.trim [1, 2, 3, 5, 6, 7, 9, 11, 13, 15, 16, 17, 19, 21, 22, 23, 24, 25, 26, 28, 29, 30] ?_
  refine AW.rSC ?_
  refine awOps.cons (awGuard.c1 (c_docs_Apply _ lvA (diffL lvA lvC) (diffG lvA lvC) (by decide +kernel) (by decide +kernel)) ?_)
  refine awOps.rn ?_
  refine AW.trim [1, 2, 3, 5, 6, 7, 9, 11, 13, 15, 16, 17, 19, 21, 22, 23, 24, 25, 26, 28, 29, 30, 31, 32] ?_
  refine AW.rSC ?_
  refine awOps.cons (awGuard.c1 (c_docs_Path _ leastD (refO 2 0) [[65]] (by decide +kernel) (by decide +kernel) (by decide +kernel)) ?_)
  refine awOps.rn ?_
  refine AW.trim [1, 2, 3, 5, 6, 7, 9, 11, 13, 15, 16, 17, 19, 21, 22, 23, 24, 25, 26, 28, 29, 30, 31, 32, 33] ?_
  refine AW.seq ?_
  refine AW.rSC ?_
  refine awOps.cons (awGuard.c1 (c_docs_Check _ leastD (by decide +kernel)) ?_)
  refine awOps.rn ?_
  refine awOps.cons (awGuard.gT ?_)
  refine awOps.rn ?_
  refine awOps.cons (awGuard.cG (fun hg => c_docs_Check _ Dc.zero (by decide +kernel)) ?_)
  refine awOps.rn ?_
  refine awOps.cons (awGuard.cG (fun hg => c_docs_Same _ (dropD lvA 3) leastD (by decide +kernel)) ?_)
  refine awOps.rn ?_
  refine AW.trim [1, 6, 22, 23, 24, 25, 26, 28, 29, 30, 31, 32, 33, 205] ?_
  refine AW.c2 ?_ ?_
  · intro h61
    exfalso
    simp only [lv1, lv2, lv3, lv4, lv5, lv6, lv7, lv8, lv9, lv10, lv11, lv12, lv13, lv14, lv15] at h61
    revert h61
    decide
  · intro h61
    refine AW.skip ?_
    refine AW.seq ?_
    refine AW.rSC ?_
    refine awOps.cons (awGuard.cG (fun hg => c_docs_Same _ (applyD lvA (diffL lvA lvC) (diffG lvA lvC)) lvC (by decide +kernel)) ?_)
    refine awOps.rn ?_
    refine AW.trim [1, 6, 267] ?_
    refine AW.c2 ?_ ?_
    · intro h70
      exfalso
      simp only [lv16, lv17, lv18, lv19, lv20, lv21, lv22, lv23, lv24, lv25, lv26, lv27, lv28] at h70
      revert h70
      decide
    · intro h70
      refine AW.skip ?_
      refine AW.rSC ?_
      refine awOps.cons (awGuard.c1 (c_docs_Follow _ leastD (refO 5 0) (by decide +kernel) (by decide +kernel)) ?_)
      refine awOps.rn ?_
      refine AW.trim [1, 6, 34] ?_
      refine AW.rSC ?_
      refine awOps.cons (awGuard.c1 (c_docs_Trailer _ lvT (by decide +kernel)) ?_)
      refine awOps.rn ?_
      refine AW.trim [1, 6, 34, 35] ?_
      refine AW.rSC ?_
      refine awOps.cons (awGuard.cG (fun hg => c_docs_Same _ lvA leastD (by decide +kernel)) ?_)
      refine awOps.rn ?_
      refine AW.trim [0] ?_
      refine AW.rt ?_
      rw [lv29, lv30, lv31, decide_eq_false lv32]
      rfl
end Go.Proofs

namespace Go.Proofs
open Go Aw
set_option linter.unusedSimpArgs false
set_option linter.unusedVariables false
set_option maxRecDepth 100000
set_option maxHeartbeats 2000000

theorem c_law_DocsPaths (gl : List (Nat × AV)) (d : Dc) (o : Pob) (ks ms : List (List UInt8)) (hd : d.tot ≤ 1048576) (ho : o.tot ≤ 1048576) (hk : ks.length ≤ 1048576) (hm : ms.length ≤ 1048576) : FnP Try.prog (gl) 4 [.agg d.cells, .agg o.cells, .sl (strsAV ks), .sl (strsAV ms)] fun r => r = .ret (.bool true) := by
  refine FnP.intro Try.func4 rfl rfl (by simp [Try.ntmps4]) ?_
  simp only [argEnv, Try.ntmps4, Try.results4]
  have h1 := Dc.bulk_tot d
  have h2 := Dc.size_tot d
  have h3 := Pob.bulk_tot o
  have h4 := Pob.psize_tot o
  have hb1 : d.bulk ≤ 16777216 := by omega
  have hb2 : o.bulk ≤ 16777216 := by omega
  have hb3 := pathO_bulk hb1 hb2 ks
  have hb4 := pathO_bulk hb1 hb2 (ks ++ ms)
  have hb5 := pathO_bulk hb1 hb2 []
  have hb6 := follow_bulk hb1 hb2
  refine AW.rS ?_
  refine AW.trim [2, 3, 4, 5] ?_
  refine AW.seq ?_
  refine AW.rSC ?_
  refine awOps.cons (awGuard.c1 (c_law19_lives _) ?_)
  refine awOps.rn ?_
  refine AW.trim [2, 3, 4, 5, 14] ?_
  refine AW.c2 ?_ ?_
  · intro h6
    simp at h6
  · intro h6
    refine AW.skip ?_
    refine AW.seq ?_
    refine AW.fS [0, 2, 1, 3, 4, 5, 6, 7, 8, 9, 10, 11, 12, 13, 14, 15, 16, 17, 18] [] ?_
    refine awFun.rn ?_
    refine awFun.c1 [15] (c_foliantref19_Size _ d (by omega) (by omega)) ?_
    refine awFun.rn ?_
    refine awFun.c1 [17] (c_foliantref05_Size _ o (by omega) (by omega)) ?_
    refine awFun.rn ?_
    refine awFun.cG [29, 30] (fun hg => c_docs_Check _ d hb1) ?_
    refine awFun.rn ?_
    rw [Aw.awFun_nil, Aw.awPlan_nil]
    refine AW.trim [2, 3, 4, 5, 33] ?_
    refine AW.c2 ?_ ?_
    · intro h21
      refine AW.rS ?_
      refine AW.trim [8] ?_
      refine AW.rt ?_
      all_goals first | contradiction | rfl | (simp; done) | (simp; omega)
    · intro h21
      refine AW.skip ?_
      refine AW.rSC ?_
      refine awOps.cons (awGuard.c1 (c_docs_Path _ d o ks hb1 hb2 (by omega)) ?_)
      refine awOps.rn ?_
      refine AW.trim [2, 3, 4, 5, 9] ?_
      refine AW.rSC ?_
      refine awOps.cons (awGuard.c1 (c_docs_Path _ d (pathO d o ks) ms hb1 hb3 (by omega)) ?_)
      refine awOps.rn ?_
      refine AW.trim [2, 3, 4, 5, 9, 10] ?_
      refine AW.rS ?_
      refine AW.trim [4, 5, 9, 10, 11] ?_
      refine AW.rSC ?_
      refine awOps.cons (awGuard.c1 (c_docs_Follow _ d o hb1 hb2) ?_)
      refine awOps.rn ?_
      refine AW.trim [4, 5, 9, 10, 11, 12] ?_
      rw [← strsAV_app, ← List.length_append]
      refine AW.clo 11 ?_
      refine wk ?_
      refine AW.fS [0, 1, 2, 3, 4, 5, 6, 7, 8, 9, 10, 11, 13, 12, 14, 15, 16, 17, 18, 20, 19, 21, 22, 23, 24, 25, 26, 27, 28, 29, 30, 31, 32, 33] [] ?_
      refine awFun.rn ?_
      refine awFun.cG [58, 59, 60, 61] (fun hg => c_docs_Path _ d o (ks ++ ms) hb1 hb2 (by rw [List.length_append]; omega)) ?_
      refine awFun.rn ?_
      refine awFun.cG [58, 62, 63] (fun hg => c_value_Same _ (pathO d o (ks ++ ms)) (pathO d (pathO d o ks) ms) hb4) ?_
      refine awFun.rn ?_
      refine awFun.cG [66, 67, 68] (fun hg => c_docs_Path _ d o [] hb1 hb2 (by simp)) ?_
      refine awFun.rn ?_
      refine awFun.cG [66, 69, 70] (fun hg => c_value_Same _ (pathO d o []) (followO d o) hb5) ?_
      refine awFun.rn ?_
      refine awFun.cG [77, 78, 79] (fun hg => c_value_Same _ (followO d o) o hb6) ?_
      refine awFun.rn ?_
      rw [Aw.awFun_nil, Aw.awPlan_nil]
      refine AW.trim [8] ?_
      refine AW.rt ?_
      have hp := pathO_kind h21.2 o ks
      have hf := follow_kind h21.2 o
      rw [pathO_append h21.2, pathO_nil]
      by_cases hk8 : o.kind = 8
      · simp [hp, hf, hk8]
      · simp [hp, follow_other hk8, hk8]
end Go.Proofs
