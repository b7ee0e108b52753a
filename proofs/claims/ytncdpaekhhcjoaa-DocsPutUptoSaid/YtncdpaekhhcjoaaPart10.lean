/- A part of the proof of a law of the seat: no condition of its own. -/
import Derived.Test.YtncdpaekhhcjoaaPart9
namespace Go.Proofs
open Go Aw
set_option linter.unusedSimpArgs false
set_option linter.unusedVariables false
set_option maxRecDepth 100000
set_option maxHeartbeats 4000000

theorem lv1 : docE leastD = 0 := by decide +kernel
theorem lv2 : docE Dc.zero = 10 := by decide +kernel
theorem lv3 : lookI leastD.items 5 = some ⟨5, 1, .mk 2 7 0 [] [] []⟩ := by decide +kernel
theorem lv4 : lookI leastD.items 4 = none := by decide +kernel
theorem lv5 : (putO leastD lvI3).items.length = 3 := by decide +kernel
theorem lv6 : ((putO leastD lvI3).items.getD 1 Itm.zero).num = 3 := by decide +kernel
theorem lv7 : putE leastD lvI3 = 0 := by decide +kernel
theorem lv8 : putE leastD lvI2 = 22 := by decide +kernel
theorem lv9 : putE leastD lvI9 = 10 := by decide +kernel
theorem lv10 : putE leastD Itm.zero = 2 := by decide +kernel
theorem lv11 : putE leastD lvX3 = 10 := by decide +kernel
theorem lv12 : dropD lvA 3 = leastD := by decide +kernel
theorem lv13 : dropE lvA 3 = 0 := by decide +kernel
theorem lv14 : dropE leastD 3 = 8 := by decide +kernel
theorem lv15 : dropE leastD 2 = 22 := by decide +kernel
theorem lv16 : freeN leastD = 6 := by decide +kernel
theorem lv17 : freeE leastD = 0 := by decide +kernel
theorem lv18 : addN leastD lvN = 6 := by decide +kernel
theorem lv19 : addE leastD lvN = 0 := by decide +kernel
theorem lv20 : (addO leastD lvN).items.length = 3 := by decide +kernel
theorem lv21 : freeE Dc.zero = 10 := by decide +kernel
theorem lv22 : (diffL lvA lvC).length = 1 := by decide +kernel
theorem lv23 : ((diffL lvA lvC).getD 0 Itm.zero).num = 6 := by decide +kernel
theorem lv24 : (diffG lvA lvC).length = 1 := by decide +kernel
theorem lv25 : (diffG lvA lvC).getD 0 0 = 3 := by decide +kernel
theorem lv26 : applyD lvA (diffL lvA lvC) (diffG lvA lvC) = lvC := by decide +kernel
theorem lv27 : applyE lvA (diffL lvA lvC) (diffG lvA lvC) = 0 := by decide +kernel
theorem lv28 : (pathO leastD (refO 2 0) [[65]]).num = 7 := by decide +kernel
theorem lv29 : (followO leastD (refO 5 0)).kind = 0 := by decide +kernel
theorem lv30 : (trailerO lvT).keys.length = 1 := by decide +kernel
theorem lv31 : (trailerO lvT).keys.getD 0 [] = [82, 111, 111, 116] := by decide +kernel
theorem lv32 : ¬ lvA = leastD := by decide +kernel
theorem c_law19_lives (gl : List (Nat × AV))  : FnP Try.prog (gl) 12 [] fun r => r = .ret (.bool true) := by
  refine FnP.intro Try.func12 rfl rfl (by simp [Try.ntmps12]) ?_
  simp only [argEnv, Try.ntmps12, Try.results12]
  have hal := lv5
  have hcl := lv20
  have hdl := lv22
  have hdg := lv24
  have htk := lv30
  refine AW.rS ?_
  refine AW.trim [] ?_
  refine AW.rSC ?_
  refine awOps.cons (awGuard.c1 (c_foliantlaw19_Least ..) ?_)
  refine awOps.rn ?_
  refine AW.trim [1] ?_
  refine AW.rSC ?_
  refine awOps.cons (awGuard.c1 (c_docs_Get _ leastD 5 (by decide +kernel)) ?_)
  refine awOps.rn ?_
  refine AW.trim [1, 2, 3] ?_
  refine AW.rSC ?_
  refine awOps.cons (awGuard.c1 (c_docs_Get _ leastD 4 (by decide +kernel)) ?_)
  refine awOps.rn ?_
  refine AW.trim [1, 2, 3, 5] ?_
  refine AW.rSC ?_
  refine awOps.cons (awGuard.c1 (c_docs_Put _ leastD lvI3 (by decide +kernel)) ?_)
  refine awOps.rn ?_
  refine AW.trim [1, 2, 3, 5, 6, 7] ?_
  refine AW.rSC ?_
  refine awOps.cons (awGuard.c1 (c_docs_Put _ leastD lvI2 (by decide +kernel)) ?_)
  refine awOps.rn ?_
  refine AW.trim [1, 2, 3, 5, 6, 7, 9] ?_
  refine AW.rSC ?_
  refine awOps.cons (awGuard.c1 (c_docs_Put _ leastD lvI9 (by decide +kernel)) ?_)
  refine awOps.rn ?_
  refine AW.trim [1, 2, 3, 5, 6, 7, 9, 11] ?_
  refine AW.rSC ?_
  refine awOps.cons (awGuard.c1 (c_docs_Put _ leastD Itm.zero (by decide +kernel)) ?_)
  refine awOps.rn ?_
  refine AW.trim [1, 2, 3, 5, 6, 7, 9, 11, 13] ?_
  refine AW.rSC ?_
  refine awOps.cons (awGuard.c1 (c_docs_Put _ leastD lvX3 (by decide +kernel)) ?_)
  refine awOps.rn ?_
  refine AW.trim [1, 2, 3, 5, 6, 7, 9, 11, 13, 15] ?_
  refine AW.rSC ?_
  refine awOps.cons (awGuard.c1 (c_docs_Drop _ lvA 3 (by decide +kernel)) ?_)
  refine awOps.rn ?_
  refine AW.trim [1, 2, 3, 5, 6, 7, 9, 11, 13, 15, 16, 17] ?_
  refine AW.rSC ?_
  refine awOps.cons (awGuard.c1 (c_docs_Drop _ leastD 3 (by decide +kernel)) ?_)
  refine awOps.rn ?_
  refine AW.trim [1, 2, 3, 5, 6, 7, 9, 11, 13, 15, 16, 17, 19] ?_
  refine AW.rSC ?_
  refine awOps.cons (awGuard.c1 (c_docs_Drop _ leastD 2 (by decide +kernel)) ?_)
  refine awOps.rn ?_
  refine AW.trim [1, 2, 3, 5, 6, 7, 9, 11, 13, 15, 16, 17, 19, 21] ?_
  refine AW.rSC ?_
  refine awOps.cons (awGuard.c1 (c_docs_Free _ leastD (by decide +kernel)) ?_)
  refine awOps.rn ?_
  refine AW.trim [1, 2, 3, 5, 6, 7, 9, 11, 13, 15, 16, 17, 19, 21, 22, 23] ?_
  refine AW.rSC ?_
  refine awOps.cons (awGuard.c1 (c_docs_Add _ leastD lvN (by decide +kernel)) ?_)
  refine awOps.rn ?_
  refine AW.trim [1, 2, 3, 5, 6, 7, 9, 11, 13, 15, 16, 17, 19, 21, 22, 23, 24, 25, 26] ?_
  refine AW.rSC ?_
  refine awOps.cons (awGuard.c1 (c_docs_Free _ Dc.zero (by decide +kernel)) ?_)
  refine awOps.rn ?_
  refine AW.trim [1, 2, 3, 5, 6, 7, 9, 11, 13, 15, 16, 17, 19, 21, 22, 23, 24, 25, 26, 28] ?_
  refine AW.rSC ?_
  refine awOps.cons (awGuard.c1 (c_docs_Diff _ lvA lvC (by decide +kernel) (by decide +kernel)) ?_)
  refine awOps.rn ?_
  refine AW.trim [1, 2, 3, 5, 6, 7, 9, 11, 13, 15, 16, 17, 19, 21, 22, 23, 24, 25, 26, 28, 29, 30] ?_
  refine AW.rSC ?_
  refine awOps.cons (awGuard.c1 (c_docs_Apply _ lvA (diffL lvA lvC) (diffG lvA lvC) (by decide +kernel) (by decide +kernel)) ?_)
  refine awOps.rn ?_
  refine AW.trim [1, 2, 3, 5, 6, 7, 9, 11, 13, 15, 16, 17, 19, 21, 22, 23, 24, 25, 26, 28, 29, 30, 31, 32] ?_
  refine AW.rSC ?_
  refine awOps.cons (awGuard.c1 (c_docs_Path _ leastD (refO 2 0) [[65]] (by decide +kernel) (by decide +kernel) (by decide +kernel)) ?_)
  refine awOps.rn ?_
  refine AW.trim [1, 2, 3, 5, 6, 7, 9, 11, 13, 15, 16, 17, 19, 21, 22, 23, 24, 25, 26, 28, 29, 30, 31, 32, 33] ?_
  refine AW.seq ?_
  refine AW.rSC ?_
  refine awOps.cons (awGuard.c1 (c_docs_Check _ leastD (by decide +kernel)) ?_)
  refine awOps.rn ?_
  refine awOps.cons (awGuard.gT ?_)
  refine awOps.rn ?_
  refine awOps.cons (awGuard.cG (fun hg => c_docs_Check _ Dc.zero (by decide +kernel)) ?_)
  refine awOps.rn ?_
  refine awOps.cons (awGuard.cG (fun hg => c_docs_Same _ (dropD lvA 3) leastD (by decide +kernel)) ?_)
  refine awOps.rn ?_
  refine AW.trim [1, 6, 22, 23, 24, 25, 26, 28, 29, 30, 31, 32, 33, 205] ?_
  refine AW.c2 ?_ ?_
  · intro h61
    exfalso
    simp only [lv1, lv2, lv3, lv4, lv5, lv6, lv7, lv8, lv9, lv10, lv11, lv12, lv13, lv14, lv15] at h61
    revert h61
    decide
  · intro h61
    refine AW.skip ?_
    refine AW.seq ?_
    refine AW.rSC ?_
    refine awOps.cons (awGuard.cG (fun hg => c_docs_Same _ (applyD lvA (diffL lvA lvC) (diffG lvA lvC)) lvC (by decide +kernel)) ?_)
    refine awOps.rn ?_
    refine AW.trim [1, 6, 267] ?_
    refine AW.c2 ?_ ?_
    · intro h70
      exfalso
      simp only [lv16, lv17, lv18, lv19, lv20, lv21, lv22, lv23, lv24, lv25, lv26, lv27, lv28] at h70
      revert h70
      decide
    · intro h70
      refine AW.skip ?_
      refine AW.rSC ?_
      refine awOps.cons (awGuard.c1 (c_docs_Follow _ leastD (refO 5 0) (by decide +kernel) (by decide +kernel)) ?_)
      refine awOps.rn ?_
      refine AW.trim [1, 6, 34] ?_
      refine AW.rSC ?_
      refine awOps.cons (awGuard.c1 (c_docs_Trailer _ lvT (by decide +kernel)) ?_)
      refine awOps.rn ?_
      refine AW.trim [1, 6, 34, 35] ?_
      refine AW.rSC ?_
      refine awOps.cons (awGuard.cG (fun hg => c_docs_Same _ lvA leastD (by decide +kernel)) ?_)
      refine awOps.rn ?_
      refine AW.trim [0] ?_
      refine AW.rt ?_
      rw [lv29, lv30, lv31, decide_eq_false lv32]
      rfl
end Go.Proofs

namespace Aw
open Go
theorem ibulk_filter (l : List Itm) (p : Itm → Bool) : ibulk (l.filter p) ≤ ibulk l := by
  induction l with
  | nil => simp [ibulk]
  | cons x l ih =>
    rw [List.filter_cons]
    split
    · rw [ibulk_cons, ibulk_cons]; omega
    · rw [ibulk_cons]; omega
theorem diffL_bulk (d e : Dc) : ibulk (diffL d e) ≤ ibulk e.items := by
  unfold diffL
  split
  · simp [ibulk]
  · exact ibulk_filter _ _
theorem diffG_len (d e : Dc) : (diffG d e).length ≤ d.items.length := by
  unfold diffG
  split
  · simp
  · rw [List.length_map]; exact List.length_filter_le _ _
theorem len_sum_zero {α β : Type} (l : List α) (m : List β) : decide (((l.length : Int) + (m.length : Int)) = 0) = decide (l = [] ∧ m = []) := by
  cases l <;> cases m <;> simp <;> omega
end Aw

namespace Aw
open Go
theorem zero_bulk : Dc.zero.bulk = 1 := by simp [Dc.zero, Dc.bulk, ibulk, Pob.null, Pob.bulk, bulks]
theorem putO_bulk (d : Dc) (i : Itm) : (putO d i).bulk ≤ d.bulk + i.obj.bulk + 1 := by
  unfold putO
  split
  · rw [zero_bulk]; omega
  · have := layI_bulk d.items i
    simp only [Dc.bulk]
    omega
theorem dropD_bulk (d : Dc) (n : Int) : (dropD d n).bulk ≤ d.bulk + 1 := by
  unfold dropD
  split
  · rw [zero_bulk]; omega
  · have := takeI_bulk d.items n
    simp only [Dc.bulk]
    omega
theorem addO_bulk (d : Dc) (o : Pob) : (addO d o).bulk ≤ d.bulk + o.bulk + 1 := by
  unfold addO
  split
  · rw [zero_bulk]; omega
  · exact putO_bulk d ⟨freeN d, 0, o⟩
theorem look_bulk (l : List Itm) (n : Int) : ((lookI l n).getD Itm.zero).obj.bulk ≤ ibulk l + 1 := by
  have hz : Itm.zero.obj.bulk = 1 := by simp [Itm.zero, Pob.null, Pob.bulk, bulks]
  unfold lookI
  split
  · rw [Option.getD_none, hz]; omega
  · rw [Option.getD_some]
    by_cases h : (iidxI l n).toNat < l.length
    · have := ibulk_get h; omega
    · have : l.getD (iidxI l n).toNat Itm.zero = Itm.zero := by simp [List.getD, h]
      rw [this, hz]; omega
theorem freeN_range (d : Dc) : 0 ≤ freeN d ∧ freeN d ≤ 8191 := by
  by_cases h : freeE d = 0
  · have hp := free_parts h
    have := last_pos (docE_items hp.1)
    rw [hp.2.2]; omega
  · unfold freeN; rw [if_pos h]; omega
theorem addN_range (d : Dc) (o : Pob) : 0 ≤ addN d o ∧ addN d o ≤ 8191 := by
  unfold addN
  split
  · omega
  · exact freeN_range d
end Aw

namespace Go.Proofs
open Go Aw
set_option linter.unusedSimpArgs false
set_option linter.unusedVariables false
set_option maxRecDepth 100000
set_option maxHeartbeats 2000000

theorem c_law_DocsPut (gl : List (Nat × AV)) (d : Dc) (i : Itm) (q : Int) (hd : d.tot ≤ 1048576) (hi : i.obj.tot ≤ 1048576) : FnP Try.prog (gl) 5 [.agg d.cells, .agg i.cells, .int .i64 q] fun r => r = .ret (.bool true) := by
  refine FnP.intro Try.func5 rfl rfl (by simp [Try.ntmps5]) ?_
  simp only [argEnv, Try.ntmps5, Try.results5]
  have h1 := Dc.bulk_tot d
  have h2 := Dc.size_tot d
  have h3 := Pob.bulk_tot i.obj
  have h4 := Pob.psize_tot i.obj
  have hb1 := putO_bulk d i
  have hb2 := dropD_bulk (putO d i) i.num
  have hb3 := addO_bulk (putO d i) i.obj
  have hb4 := look_bulk (putO d i).items i.num
  have hb5 := look_bulk (putO d i).items q
  have hb6 : (putO d i).bulk = ibulk (putO d i).items + (putO d i).trailer.bulk := rfl
  have hb7 := addN_range (putO d i) i.obj
  refine AW.rS ?_
  refine AW.trim [2, 3, 4] ?_
  refine AW.seq ?_
  refine AW.rSC ?_
  refine awOps.cons (awGuard.c1 (c_law19_lives _) ?_)
  refine awOps.rn ?_
  refine AW.trim [2, 3, 4, 27] ?_
  refine AW.c2 ?_ ?_
  · intro h6
    simp at h6
  · intro h6
    refine AW.skip ?_
    refine AW.seq ?_
    refine AW.fS [0, 2, 3, 1, 4, 5, 6] [] ?_
    refine awFun.rn ?_
    refine awFun.c1 [28] (c_foliantref19_Size _ d (by omega) (by omega)) ?_
    refine awFun.rn ?_
    refine awFun.c1 [31] (c_foliantref05_Size _ i.obj (by omega) (by omega)) ?_
    refine awFun.rn ?_
    rw [Aw.awFun_nil, Aw.awPlan_nil]
    refine AW.trim [2, 3, 4, 34] ?_
    refine AW.c2 ?_ ?_
    · intro h19
      refine AW.rS ?_
      refine AW.trim [6] ?_
      refine AW.rt ?_
      all_goals first | contradiction | rfl | (simp; done) | (simp; omega)
    · intro h19
      refine AW.skip ?_
      refine AW.rSC ?_
      refine awOps.cons (awGuard.c1 (c_docs_Put _ d i (by omega)) ?_)
      refine awOps.rn ?_
      refine AW.trim [2, 3, 4, 7, 8] ?_
      refine AW.seq ?_
      refine AW.rS ?_
      refine AW.trim [2, 3, 4, 7, 42] ?_
      refine AW.c2 ?_ ?_
      · intro h29
        refine AW.rS ?_
        refine AW.trim [6] ?_
        refine AW.rt ?_
        rw [put_bad h29]; rfl
      · intro h29
        have hl := put_look h29
        have hl1 : lookI (putO d i).items i.num = some i := by rw [hl, if_pos rfl]
        have hx0 := put_doc0 h29
        have hxt := put_trailer h29
        refine AW.skip ?_
        refine AW.rSC ?_
        refine awOps.cons (awGuard.c1 (c_docs_Get _ (putO d i) i.num (by omega)) ?_)
        refine awOps.rn ?_
        refine AW.trim [2, 3, 4, 7, 9, 10] ?_
        refine AW.rSC ?_
        refine awOps.cons (awGuard.c1 (c_docs_Get _ (putO d i) q (by omega)) ?_)
        refine awOps.rn ?_
        refine AW.trim [2, 3, 4, 7, 9, 10, 11, 12] ?_
        refine AW.rSC ?_
        refine awOps.cons (awGuard.c1 (c_docs_Get _ d q (by omega)) ?_)
        refine awOps.rn ?_
        refine AW.trim [2, 3, 4, 7, 9, 10, 11, 12, 13, 14] ?_
        refine AW.seq ?_
        refine AW.rSC ?_
        refine awOps.cons (awGuard.cG (fun hg => c_foliantref19_SameItem _ ((lookI (putO d i).items i.num).getD Itm.zero) i (by omega)) ?_)
        refine awOps.rn ?_
        refine awOps.cons (awGuard.cG (fun hg => c_foliantref19_SameItem _ ((lookI (putO d i).items q).getD Itm.zero) ((lookI d.items q).getD Itm.zero) (by omega)) ?_)
        refine awOps.rn ?_
        refine awOps.cons (awGuard.cG (fun hg => c_docs_Check _ (putO d i) (by omega)) ?_)
        refine awOps.rn ?_
        refine awOps.cons (awGuard.cG (fun hg => c_value_Same _ (putO d i).trailer d.trailer (by omega)) ?_)
        refine awOps.rn ?_
        refine AW.trim [4, 7, 103] ?_
        refine AW.c2 ?_ ?_
        · intro h53
          exfalso
          rw [hl1, hx0, hxt, hl q] at h53
          by_cases hq : q = i.num
          · simp [hq] at h53
          · simp [hq] at h53
        · intro h53
          refine AW.skip ?_
          refine AW.seq ?_
          refine AW.rSC ?_
          refine awOps.cons (awGuard.c1 (c_docs_Drop _ (putO d i) i.num (by omega)) ?_)
          refine awOps.rn ?_
          refine AW.trim [4, 7, 15, 16] ?_
          refine AW.rS ?_
          refine AW.trim [4, 7, 15, 112] ?_
          refine AW.c2 ?_ ?_
          · intro h63
            have hdf := drop_facts h63
            refine AW.rSC ?_
            refine awOps.cons (awGuard.c1 (c_docs_Get _ (dropD (putO d i) i.num) i.num (by omega)) ?_)
            refine awOps.rn ?_
            refine AW.trim [4, 7, 15, 18] ?_
            refine AW.rSC ?_
            refine awOps.cons (awGuard.cG (fun hg => c_docs_Check _ (dropD (putO d i) i.num) (by omega)) ?_)
            refine awOps.rn ?_
            refine AW.trim [4, 7, 135] ?_
            refine AW.c2 ?_ ?_
            · intro h70
              exfalso
              rw [hdf.1, hdf.2.1] at h70
              have hln := ibulk_len (putO d i).items
              have hw : IntKind.i64.wrap (((putO d i).items.length : Int) - 1) = ((putO d i).items.length : Int) - 1 := wrap_i64 (by omega) (by omega)
              rw [hw] at h70
              simp at h70
              omega
            · intro h70
              refine AW.skip ?_
              refine AW.rSC ?_
              refine awOps.cons (awGuard.c1 (c_docs_Free _ (putO d i) (by omega)) ?_)
              refine awOps.rn ?_
              refine AW.trim [4, 7, 19, 20] ?_
              refine AW.rSC ?_
              refine awOps.cons (awGuard.c1 (c_docs_Add _ (putO d i) i.obj (by omega)) ?_)
              refine awOps.rn ?_
              refine AW.trim [4, 7, 19, 20, 21, 22, 23] ?_
              refine AW.seq ?_
              refine AW.rS ?_
              refine AW.trim [4, 7, 19, 20, 21, 22, 23, 150] ?_
              refine AW.c2 ?_ ?_
              · intro h83
                refine AW.rS ?_
                refine AW.trim [6] ?_
                refine AW.rt ?_
                rw [(add_free h83).1]; simp
              · intro h83
                have hco : contentE ⟨0, 0, i.obj⟩ = 0 := by rw [content_obj _ _ i.num i.gen]; exact (alone_iff.1 (put_parts h29).2.1).2
                have haf := add_facts (o := i.obj) h83 hco
                refine AW.skip ?_
                refine AW.rSC ?_
                refine awOps.cons (awGuard.c1 (c_docs_Get _ (putO d i) (freeN (putO d i)) (by omega)) ?_)
                refine awOps.rn ?_
                refine AW.trim [4, 19, 21, 22, 23, 25] ?_
                refine AW.fS [0, 1, 2, 3, 4, 5, 6, 7, 8, 9, 10, 11, 12, 13, 16, 17, 14, 15, 18, 19, 20] [] ?_
                refine awFun.rn ?_
                refine awFun.cG [171, 173] (fun hg => c_value_Ref _ (addN (putO d i) i.obj) 0 (by omega)) ?_
                refine awFun.rn ?_
                refine awFun.cG [171, 172, 174] (fun hg => c_docs_Follow _ (addO (putO d i) i.obj) (refO (addN (putO d i) i.obj) 0) (by omega) (by simp [refO, Pob.bulk, bulks])) ?_
                refine awFun.rn ?_
                refine awFun.cG [171, 175, 177] (fun hg => c_value_Same _ (followO (addO (putO d i) i.obj) (refO (addN (putO d i) i.obj) 0)) i.obj (by rw [haf.2.1, haf.2.2]; omega)) ?_
                refine awFun.rn ?_
                rw [Aw.awFun_nil, Aw.awPlan_nil]
                refine AW.trim [6] ?_
                refine AW.rt ?_
                rw [free_none h83, haf.2.1, haf.1, haf.2.2]; simp
          · intro h63
            refine AW.skip ?_
            refine AW.rSC ?_
            refine awOps.cons (awGuard.c1 (c_docs_Free _ (putO d i) (by omega)) ?_)
            refine awOps.rn ?_
            refine AW.trim [4, 7, 19, 20] ?_
            refine AW.rSC ?_
            refine awOps.cons (awGuard.c1 (c_docs_Add _ (putO d i) i.obj (by omega)) ?_)
            refine awOps.rn ?_
            refine AW.trim [4, 7, 19, 20, 21, 22, 23] ?_
            refine AW.seq ?_
            refine AW.rS ?_
            refine AW.trim [4, 7, 19, 20, 21, 22, 23, 150] ?_
            refine AW.c2 ?_ ?_
            · intro h111
              refine AW.rS ?_
              refine AW.trim [6] ?_
              refine AW.rt ?_
              rw [(add_free h111).1]; simp
            · intro h111
              have hco : contentE ⟨0, 0, i.obj⟩ = 0 := by rw [content_obj _ _ i.num i.gen]; exact (alone_iff.1 (put_parts h29).2.1).2
              have haf := add_facts (o := i.obj) h111 hco
              refine AW.skip ?_
              refine AW.rSC ?_
              refine awOps.cons (awGuard.c1 (c_docs_Get _ (putO d i) (freeN (putO d i)) (by omega)) ?_)
              refine awOps.rn ?_
              refine AW.trim [4, 19, 21, 22, 23, 25] ?_
              refine AW.fS [0, 1, 2, 3, 4, 5, 6, 7, 8, 9, 10, 11, 12, 13, 16, 17, 14, 15, 18, 19, 20] [] ?_
              refine awFun.rn ?_
              refine awFun.cG [171, 173] (fun hg => c_value_Ref _ (addN (putO d i) i.obj) 0 (by omega)) ?_
              refine awFun.rn ?_
              refine awFun.cG [171, 172, 174] (fun hg => c_docs_Follow _ (addO (putO d i) i.obj) (refO (addN (putO d i) i.obj) 0) (by omega) (by simp [refO, Pob.bulk, bulks])) ?_
              refine awFun.rn ?_
              refine awFun.cG [171, 175, 177] (fun hg => c_value_Same _ (followO (addO (putO d i) i.obj) (refO (addN (putO d i) i.obj) 0)) i.obj (by rw [haf.2.1, haf.2.2]; omega)) ?_
              refine awFun.rn ?_
              rw [Aw.awFun_nil, Aw.awPlan_nil]
              refine AW.trim [6] ?_
              refine AW.rt ?_
              rw [free_none h111, haf.2.1, haf.1, haf.2.2]; simp
end Go.Proofs
