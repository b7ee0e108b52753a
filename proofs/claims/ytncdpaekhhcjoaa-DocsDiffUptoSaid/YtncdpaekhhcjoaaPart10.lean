/- A part of the proof of a law of the seat: no condition of its own. -/
import Derived.Test.YtncdpaekhhcjoaaPart9
namespace Go.Proofs
open Go Aw
set_option linter.unusedSimpArgs false
set_option linter.unusedVariables false
set_option maxRecDepth 100000
set_option maxHeartbeats 4000000

theorem lv1 : docE leastD = 0 := by decide +kernel
theorem lv2 : docE Dc.zero = 10 := by decide +kernel
theorem lv3 : lookI leastD.items 5 = some ⟨5, 1, .mk 2 7 0 [] [] []⟩ := by decide +kernel
theorem lv4 : lookI leastD.items 4 = none := by decide +kernel
theorem lv5 : (putO leastD lvI3).items.length = 3 := by decide +kernel
theorem lv6 : ((putO leastD lvI3).items.getD 1 Itm.zero).num = 3 := by decide +kernel
theorem lv7 : putE leastD lvI3 = 0 := by decide +kernel
theorem lv8 : putE leastD lvI2 = 22 := by decide +kernel
theorem lv9 : putE leastD lvI9 = 10 := by decide +kernel
theorem lv10 : putE leastD Itm.zero = 2 := by decide +kernel
theorem lv11 : putE leastD lvX3 = 10 := by decide +kernel
theorem lv12 : dropD lvA 3 = leastD := by decide +kernel
theorem lv13 : dropE lvA 3 = 0 := by decide +kernel
theorem lv14 : dropE leastD 3 = 8 := by decide +kernel
theorem lv15 : dropE leastD 2 = 22 := by decide +kernel
theorem lv16 : freeN leastD = 6 := by decide +kernel
theorem lv17 : freeE leastD = 0 := by decide +kernel
theorem lv18 : addN leastD lvN = 6 := by decide +kernel
theorem lv19 : addE leastD lvN = 0 := by decide +kernel
theorem lv20 : (addO leastD lvN).items.length = 3 := by decide +kernel
theorem lv21 : freeE Dc.zero = 10 := by decide +kernel
theorem lv22 : (diffL lvA lvC).length = 1 := by decide +kernel
theorem lv23 : ((diffL lvA lvC).getD 0 Itm.zero).num = 6 := by decide +kernel
theorem lv24 : (diffG lvA lvC).length = 1 := by decide +kernel
theorem lv25 : (diffG lvA lvC).getD 0 0 = 3 := by decide +kernel
theorem lv26 : applyD lvA (diffL lvA lvC) (diffG lvA lvC) = lvC := by decide +kernel
theorem lv27 : applyE lvA (diffL lvA lvC) (diffG lvA lvC) = 0 := by decide +kernel
theorem lv28 : (pathO leastD (refO 2 0) [[65]]).num = 7 := by decide +kernel
theorem lv29 : (followO leastD (refO 5 0)).kind = 0 := by decide +kernel
theorem lv30 : (trailerO lvT).keys.length = 1 := by decide +kernel
theorem lv31 : (trailerO lvT).keys.getD 0 [] = [82, 111, 111, 116] := by decide +kernel
theorem lv32 : ¬ lvA = leastD := by decide +kernel
theorem c_law19_lives (gl : List (Nat × AV))  : FnP Try.prog (gl) 12 [] fun r => r = .ret (.bool true) := by
  refine FnP.intro Try.func12 rfl rfl (by simp [Try.ntmps12]) ?_
  simp only [argEnv, Try.ntmps12, Try.results12]
  have hal := lv5
  have hcl := lv20
  have hdl := lv22
  have hdg := lv24
  have htk := lv30
  refine AW.rS ?_
  refine AW.trim [] ?_
  refine AW.rSC ?_
  refine awOps.cons (awGuard.c1 (c_foliantlaw19_Least ..) ?_)
  refine awOps.rn ?_
  refine AW.trim [1] ?_
  refine AW.rSC ?_
  refine awOps.cons (awGuard.c1 (c_docs_Get _ leastD 5 (by decide +kernel)) ?_)
  refine awOps.rn ?_
  refine AW.trim [1, 2, 3] ?_
  refine AW.rSC ?_
  refine awOps.cons (awGuard.c1 (c_docs_Get _ leastD 4 (by decide +kernel)) ?_)
  refine awOps.rn ?_
  refine AW.trim [1, 2, 3, 5] ?_
  refine AW.rSC ?_
  refine awOps.cons (awGuard.c1 (c_docs_Put _ leastD lvI3 (by decide +kernel)) ?_)
  refine awOps.rn ?_
  refine AW.trim [1, 2, 3, 5, 6, 7] ?_
  refine AW.rSC ?_
  refine awOps.cons (awGuard.c1 (c_docs_Put _ leastD lvI2 (by decide +kernel)) ?_)
  refine awOps.rn ?_
  refine AW.trim [1, 2, 3, 5, 6, 7, 9] ?_
  refine AW.rSC ?_
  refine awOps.cons (awGuard.c1 (c_docs_Put _ leastD lvI9 (by decide +kernel)) ?_)
  refine awOps.rn ?_
  refine AW.trim [1, 2, 3, 5, 6, 7, 9, 11] ?_
  refine AW.rSC ?_
  refine awOps.cons (awGuard.c1 (c_docs_Put _ leastD Itm.zero (by decide +kernel)) ?_)
  refine awOps.rn ?_
  refine AW.trim [1, 2, 3, 5, 6, 7, 9, 11, 13] ?_
  refine AW.rSC ?_
  refine awOps.cons (awGuard.c1 (c_docs_Put _ leastD lvX3 (by decide +kernel)) ?_)
  refine awOps.rn ?_
  refine AW.trim [1, 2, 3, 5, 6, 7, 9, 11, 13, 15] ?_
  refine AW.rSC ?_
  refine awOps.cons (awGuard.c1 (c_docs_Drop _ lvA 3 (by decide +kernel)) ?_)
  refine awOps.rn ?_
  refine AW.trim [1, 2, 3, 5, 6, 7, 9, 11, 13, 15, 16, 17] ?_
  refine AW.rSC ?_
  refine awOps.cons (awGuard.c1 (c_docs_Drop _ leastD 3 (by decide +kernel)) ?_)
  refine awOps.rn ?_
  refine AW.trim [1, 2, 3, 5, 6, 7, 9, 11, 13, 15, 16, 17, 19] ?_
  refine AW.rSC ?_
  refine awOps.cons (awGuard.c1 (c_docs_Drop _ leastD 2 (by decide +kernel)) ?_)
  refine awOps.rn ?_
  refine AW.trim [1, 2, 3, 5, 6, 7, 9, 11, 13, 15, 16, 17, 19, 21] ?_
  refine AW.rSC ?_
  refine awOps.cons (awGuard.c1 (c_docs_Free _ leastD (by decide +kernel)) ?_)
  refine awOps.rn ?_
  refine AW.trim [1, 2, 3, 5, 6, 7, 9, 11, 13, 15, 16, 17, 19, 21, 22, 23] ?_
  refine AW.rSC ?_
  refine awOps.cons (awGuard.c1 (c_docs_Add _ leastD lvN (by decide +kernel)) ?_)
  refine awOps.rn ?_
  refine AW.trim [1, 2, 3, 5, 6, 7, 9, 11, 13, 15, 16, 17, 19, 21, 22, 23, 24, 25, 26] ?_
  refine AW.rSC ?_
  refine awOps.cons (awGuard.c1 (c_docs_Free _ Dc.zero (by decide +kernel)) ?_)
  refine awOps.rn ?_
  refine AW.trim [1, 2, 3, 5, 6, 7, 9, 11, 13, 15, 16, 17, 19, 21, 22, 23, 24, 25, 26, 28] ?_
  refine AW.rSC ?_
  refine awOps.cons (awGuard.c1 (c_docs_Diff _ lvA lvC (by decide +kernel) (by decide +kernel)) ?_)
  refine awOps.rn ?_
  refine AW.trim [1, 2, 3, 5, 6, 7, 9, 11, 13, 15, 16, 17, 19, 21, 22, 23, 24, 25, 26, 28, 29, 30] ?_
  refine AW.rSC ?_
  refine awOps.cons (awGuard.c1 (c_docs_Apply _ lvA (diffL lvA lvC) (diffG lvA lvC) (by decide +kernel) (by decide +kernel)) ?_)
  refine awOps.rn ?_
  refine AW.trim [1, 2, 3, 5, 6, 7, 9, 11, 13, 15, 16, 17, 19, 21, 22, 23, 24, 25, 26, 28, 29, 30, 31, 32] ?_
  refine AW.rSC ?_
  refine awOps.cons (awGuard.c1 (c_docs_Path _ leastD (refO 2 0) [[65]] (by decide +kernel) (by decide +kernel) (by decide +kernel)) ?_)
  refine awOps.rn ?_
  refine AW.trim [1, 2, 3, 5, 6, 7, 9, 11, 13, 15, 16, 17, 19, 21, 22, 23, 24, 25, 26, 28, 29, 30, 31, 32, 33] ?_
  refine AW.seq ?_
  refine AW.rSC ?_
  refine awOps.cons (awGuard.c1 (c_docs_Check _ leastD (by decide +kernel)) ?_)
  refine awOps.rn ?_
  refine awOps.cons (awGuard.gT ?_)
  refine awOps.rn ?_
  refine awOps.cons (awGuard.cG (fun hg => c_docs_Check _ Dc.zero (by decide +kernel)) ?_)
  refine awOps.rn ?_
  refine awOps.cons (awGuard.cG (fun hg => c_docs_Same _ (dropD lvA 3) leastD (by decide +kernel)) ?_)
  refine awOps.rn ?_
  refine AW.trim [1, 6, 22, 23, 24, 25, 26, 28, 29, 30, 31, 32, 33, 205] ?_
  refine AW.c2 ?_ ?_
  · intro h61
    exfalso
    simp only [lv1, lv2, lv3, lv4, lv5, lv6, lv7, lv8, lv9, lv10, lv11, lv12, lv13, lv14, lv15] at h61
    revert h61
    decide
  · intro h61
    refine AW.skip ?_
    refine AW.seq ?_
    refine AW.rSC ?_
    refine awOps.cons (awGuard.cG (fun hg => c_docs_Same _ (applyD lvA (diffL lvA lvC) (diffG lvA lvC)) lvC (by decide +kernel)) ?_)
    refine awOps.rn ?_
    refine AW.trim [1, 6, 267] ?_
    refine AW.c2 ?_ ?_
    · intro h70
      exfalso
      simp only [lv16, lv17, lv18, lv19, lv20, lv21, lv22, lv23, lv24, lv25, lv26, lv27, lv28] at h70
      revert h70
      decide
    · intro h70
      refine AW.skip ?_
      refine AW.rSC ?_
      refine awOps.cons (awGuard.c1 (c_docs_Follow _ leastD (refO 5 0) (by decide +kernel) (by decide +kernel)) ?_)
      refine awOps.rn ?_
      refine AW.trim [1, 6, 34] ?_
      refine AW.rSC ?_
      refine awOps.cons (awGuard.c1 (c_docs_Trailer _ lvT (by decide +kernel)) ?_)
      refine awOps.rn ?_
      refine AW.trim [1, 6, 34, 35] ?_
      refine AW.rSC ?_
      refine awOps.cons (awGuard.cG (fun hg => c_docs_Same _ lvA leastD (by decide +kernel)) ?_)
      refine awOps.rn ?_
      refine AW.trim [0] ?_
      refine AW.rt ?_
      rw [lv29, lv30, lv31, decide_eq_false lv32]
      rfl
end Go.Proofs

namespace Aw
open Go
theorem ibulk_filter (l : List Itm) (p : Itm → Bool) : ibulk (l.filter p) ≤ ibulk l := by
  induction l with
  | nil => simp [ibulk]
  | cons x l ih =>
    rw [List.filter_cons]
    split
    · rw [ibulk_cons, ibulk_cons]; omega
    · rw [ibulk_cons]; omega
theorem diffL_bulk (d e : Dc) : ibulk (diffL d e) ≤ ibulk e.items := by
  unfold diffL
  split
  · simp [ibulk]
  · exact ibulk_filter _ _
theorem diffG_len (d e : Dc) : (diffG d e).length ≤ d.items.length := by
  unfold diffG
  split
  · simp
  · rw [List.length_map]; exact List.length_filter_le _ _
theorem len_sum_zero {α β : Type} (l : List α) (m : List β) : decide (((l.length : Int) + (m.length : Int)) = 0) = decide (l = [] ∧ m = []) := by
  cases l <;> cases m <;> simp <;> omega
end Aw

namespace Go.Proofs
open Go Aw
set_option linter.unusedSimpArgs false
set_option linter.unusedVariables false
set_option maxRecDepth 100000
set_option maxHeartbeats 2000000

theorem c_law_DocsDiff (gl : List (Nat × AV)) (d e : Dc) (hd : d.tot ≤ 1048576) (he : e.tot ≤ 1048576) : FnP Try.prog (gl) 3 [.agg d.cells, .agg e.cells] fun r => r = .ret (.bool true) := by
  refine FnP.intro Try.func3 rfl rfl (by simp [Try.ntmps3]) ?_
  simp only [argEnv, Try.ntmps3, Try.results3]
  have h1 := Dc.bulk_tot d
  have h2 := Dc.size_tot d
  have h3 := Dc.bulk_tot e
  have h4 := Dc.size_tot e
  have hb1 : d.bulk ≤ 16777000 := by omega
  have hb2 : e.bulk ≤ 16777000 := by omega
  have hb3 := diffL_bulk d e
  have hb4 := diffG_len d e
  have hb5 := ibulk_len d.items
  have hb6 : d.bulk = ibulk d.items + d.trailer.bulk := rfl
  have hb7 : e.bulk = ibulk e.items + e.trailer.bulk := rfl
  refine AW.rS ?_
  refine AW.trim [2, 3] ?_
  refine AW.seq ?_
  refine AW.rSC ?_
  refine awOps.cons (awGuard.c1 (c_law19_lives _) ?_)
  refine awOps.rn ?_
  refine AW.trim [2, 3, 13] ?_
  refine AW.c2 ?_ ?_
  · intro h6
    simp at h6
  · intro h6
    refine AW.skip ?_
    refine AW.seq ?_
    refine AW.fS [0, 2, 1, 3, 4, 5, 6, 7, 8, 9, 10, 11, 12, 13, 14, 15] [] ?_
    refine awFun.rn ?_
    refine awFun.c1 [14] (c_foliantref19_Size _ d (by omega) (by omega)) ?_
    refine awFun.rn ?_
    refine awFun.c1 [16] (c_foliantref19_Size _ e (by omega) (by omega)) ?_
    refine awFun.rn ?_
    refine awFun.cG [20, 21] (fun hg => c_docs_Check _ d (by omega)) ?_
    refine awFun.rn ?_
    refine awFun.cG [25, 26] (fun hg => c_docs_Check _ e (by omega)) ?_
    refine awFun.rn ?_
    rw [Aw.awFun_nil, Aw.awPlan_nil]
    refine AW.trim [2, 3, 29] ?_
    refine AW.c2 ?_ ?_
    · intro h23
      refine AW.rS ?_
      refine AW.trim [4] ?_
      refine AW.rt ?_
      all_goals first | contradiction | rfl | (simp; done) | (simp; omega)
    · intro h23
      have hed : docE d = 0 := h23.1.2
      have hee : docE e = 0 := h23.2
      have hda := diff_apply hed hee
      refine AW.skip ?_
      refine AW.rSC ?_
      refine awOps.cons (awGuard.c1 (c_docs_Diff _ d e (by omega) (by omega)) ?_)
      refine awOps.rn ?_
      refine AW.trim [2, 3, 5, 6] ?_
      refine AW.rSC ?_
      refine awOps.cons (awGuard.c1 (c_docs_Apply _ d (diffL d e) (diffG d e) (by omega) (by omega)) ?_)
      refine awOps.rn ?_
      refine AW.trim [2, 3, 5, 6, 7, 8] ?_
      refine AW.rS ?_
      refine AW.trim [2, 5, 6, 7, 8, 9] ?_
      refine AW.rS ?_
      refine AW.trim [2, 5, 6, 7, 8, 9] ?_
      refine AW.seq ?_
      refine AW.rSC ?_
      refine awOps.cons (awGuard.c1 (c_docs_Check _ ⟨e.items, d.trailer⟩ (by simp only [Dc.bulk]; omega)) ?_)
      refine awOps.rn ?_
      refine AW.trim [2, 5, 6, 7, 8, 9, 49] ?_
      refine AW.c2 ?_ ?_
      · intro h40
        refine AW.rS ?_
        refine AW.trim [4] ?_
        refine AW.rt ?_
        have hs := doc_swap hed hee
        rw [hda.1]
        rcases hs with hs | hs
        · exact absurd hs h40
        · rw [hs]; rfl
      · intro h40
        have hdo := hda.2 h40
        have hdf := diff_self hed
        refine AW.skip ?_
        refine AW.rSC ?_
        refine awOps.cons (awGuard.c1 (c_docs_Diff _ d d (by omega) (by omega)) ?_)
        refine awOps.rn ?_
        refine AW.trim [2, 5, 6, 7, 8, 9, 10, 11] ?_
        refine AW.rSC ?_
        refine awOps.cons (awGuard.cG (fun hg => c_docs_Same _ (applyD d (diffL d e) (diffG d e)) ⟨e.items, d.trailer⟩ (by rw [hdo]; simp only [Dc.bulk]; omega)) ?_)
        refine awOps.rn ?_
        refine awOps.cons (awGuard.cG (fun hg => c_docs_Same _ d ⟨e.items, d.trailer⟩ (by omega)) ?_)
        refine awOps.rn ?_
        refine AW.trim [4] ?_
        refine AW.rt ?_
        have hn := diff_none hed hee
        have hll := ibulk_len (diffL d e)
        have hw : ∀ a b : Nat, a ≤ 20000000 → b ≤ 20000000 → IntKind.i64.wrap ((a : Int) + (b : Int)) = (a : Int) + (b : Int) := fun a b ha hb => wrap_i64 (by omega) (by omega)
        have hw0 : IntKind.i64.wrap (((([] : List Itm).length : Nat) : Int) + ((([] : List Int).length : Nat) : Int)) = 0 := rfl
        rw [hda.1, h40, hdo, hdf.1, hdf.2, hw0, hw (diffL d e).length (diffG d e).length (by omega) (by omega), len_sum_zero]
        have hk : (diffL d e = [] ∧ diffG d e = []) ↔ d = ⟨e.items, d.trailer⟩ := by
          rw [hn, Dc_eq]
          simp
        by_cases hx : d = ⟨e.items, d.trailer⟩
        · simp [hk.2 hx, ← hx]
        · have hx2 : ¬ (diffL d e = [] ∧ diffG d e = []) := fun h => hx (hk.1 h)
          simp [hx, hx2]
end Go.Proofs
