/- A part of the proof of a law of the seat: no condition of its own. -/
import Derived.Test.YtncdpaekhhcjoaaPart12
namespace Go.Proofs
open Go Aw
set_option linter.unusedSimpArgs false
set_option linter.unusedVariables false
set_option maxRecDepth 100000
set_option maxHeartbeats 2000000

theorem intsAV_all (l : List Int) : (intsAV l).take l.length = intsAV l := by
  rw [List.take_of_length_le (by simp [intsAV])]
attribute [go_sem] intsAV_all
theorem takeInt_succ {a b : List Int} {i : Nat} (h : i < a.length) (hl : a.length = b.length) (he : a.take i = b.take i) (hg : a.getD i 0 = b.getD i 0) : a.take (i + 1) = b.take (i + 1) := by
  rw [List.take_add_one, List.take_add_one, he]
  rw [List.getD, List.getD] at hg
  rw [List.getElem?_eq_getElem h, List.getElem?_eq_getElem (show i < b.length by omega)] at hg ⊢
  simp only [Option.getD_some] at hg
  rw [hg]
theorem c_foliantref05_Ints (gl : List (Nat × AV)) (a b : List Int) (ha : a.length ≤ 16777216 := by first | omega | exact u8_le _ | assumption | (simp; done) | (simp; omega)) : FnP Try.prog (gl) 37 [.sl (intsAV a), .sl (intsAV b)] fun r => r = .ret (.bool (decide (a = b))) := by
  refine FnP.intro Try.func37 rfl rfl (by simp [Try.ntmps37]) ?_
  simp only [argEnv, Try.ntmps37, Try.results37]
  refine AW.rS ?_
  refine AW.seq ?_
  refine AW.rS ?_
  refine AW.c2 ?_ ?_
  · intro h4
    refine AW.rS ?_
    refine AW.rt ?_
    rw [decide_eq_false (fun e => h4 (by rw [e]))]
  · intro h4
    refine AW.skip ?_
    refine AW.seq ?_
    refine AW.rS ?_
    refine AW.block ?_
    refine AW.lk (S := { i : Nat // i ≤ a.length ∧ a.take i = b.take i }) [0, 1, 12] (fun s_ => [(13, .int .i64 s_.1)]) (fun s_ => []) 0 (fun s_ => a.length - s_.1) ⟨0, Nat.zero_le _, rfl⟩ ?_ ?_
    · refine St.le.vw []
    rintro ⟨i, hi, hs⟩
    try dsimp only at hi
    try dsimp only at hs
    refine AW.rS ?_
    refine AW.seq ?_
    refine AW.c2 ?_ ?_
    · intro h15
      refine AW.skip ?_
      refine AW.seq ?_
      refine AW.block ?_
      refine AW.rS ?_
      refine AW.dS [(0, 0), (1, 0), (2, 1), (3, 1), (4, 0), (5, 0), (6, 1), (7, 1), (8, 0)] ?_
      refine AW.c2 ?_ ?_
      · intro h21
        refine AW.rS ?_
        refine AW.rt ?_
        rw [decide_eq_false (fun e => h21 (by rw [e]))]
      · intro h21
        refine AW.skip ?_
        refine AW.rL ?_
        refine ⟨⟨i + 1, by omega, takeInt_succ h15 (by omega) hs h21⟩, ?_, ?_⟩
        · refine St.le.vw []
        · simp only []; omega
    · intro h15
      refine AW.exit ?_
      refine AW.rS ?_
      refine AW.rt ?_
      rw [List.take_of_length_le (by omega), List.take_of_length_le (by omega)] at hs
      simp [hs]
theorem c_law_ValueSwaps (gl : List (Nat × AV)) (o : Pob) (q : Int) (ho : o.tot ≤ 1048576) : FnP Try.prog (gl) 9 [.agg o.cells, .int .i64 q] fun r => r = .ret (.bool true) := by
  refine FnP.intro Try.func9 rfl rfl (by simp [Try.ntmps9]) ?_
  simp only [argEnv, Try.ntmps9, Try.results9]
  have hb := Pob.bulk_tot o
  have hps := Pob.psize_tot o
  have hrl := refs_len o
  refine AW.rS ?_
  refine AW.trim [1, 2] ?_
  refine AW.seq ?_
  refine AW.rSC ?_
  refine awOps.cons (awGuard.c1 (c_law05_lives _) ?_)
  refine awOps.rn ?_
  refine AW.trim [1, 2, 12] ?_
  refine AW.c2 ?_ ?_
  · intro h6
    simp at h6
  · intro h6
    refine AW.skip ?_
    refine AW.seq ?_
    refine AW.rSC ?_
    refine awOps.cons (awGuard.c1 (c_foliantref05_Size _ o (by omega) (by omega)) ?_)
    refine awOps.rn ?_
    refine awOps.cons (awGuard.cG (fun hg => c_value_Check _ o (by omega)) ?_)
    refine awOps.rn ?_
    refine AW.trim [1, 2, 28] ?_
    refine AW.c2 ?_ ?_
    · intro h17
      refine AW.rS ?_
      refine AW.trim [4] ?_
      refine AW.rt ?_
      all_goals first | contradiction | rfl | (simp; done) | (simp; omega)
    · intro h17
      refine AW.skip ?_
      refine AW.rSC ?_
      refine awOps.cons (awGuard.c1 (c_value_Refs _ o (by omega)) ?_)
      refine awOps.rn ?_
      refine AW.trim [1, 2, 5] ?_
      refine AW.rS ?_
      refine AW.trim [1, 2, 5, 6] ?_
      refine AW.seq ?_
      refine AW.rS ?_
      refine AW.trim [1, 2, 5, 6, 31, 32, 33] ?_
      refine AW.block ?_
      refine AW.pre (St.le.nilrow 6 1 (by (simp only [go_sem, seval]; try (simp (disch := omega) only [wrap_i64, wrap_u8, wrap_u64, tdiv_nn, tmod_nn, Int.toNat_natCast_add_one, toNat_sub1, Int.toNat_sub, Int.toNat_natCast, intsAV_getD, strsAV_getD, objsAV_getD, itemsAV_getD, intsAV_out, strsAV_out, objsAV_out, itemsAV_out, fillO_length, fillO_set]; try (simp only [go_sem, seval]; try (simp (disch := omega) only [wrap_i64, wrap_u8, wrap_u64, tdiv_nn, tmod_nn, Int.toNat_natCast_add_one, toNat_sub1, Int.toNat_sub, Int.toNat_natCast, intsAV_getD, strsAV_getD, objsAV_getD, itemsAV_getD, intsAV_out, strsAV_out, objsAV_out, itemsAV_out, fillO_length, fillO_set]; try simp only [go_sem, seval])))))) ?_
      refine wk ?_
      refine AW.lk (S := { i : Nat // i ≤ (refsO o).length ∧ ∀ n ∈ (refsO o).take i, n ≤ 4000 }) [1, 2, 5, 31, 32] (fun s_ => [(6, .row 1 0 (upI q ((refsO o).take s_.1)).length), (33, .int .i64 s_.1)]) (fun s_ => [(0, .cells o.cells), (1, .row 1 (intsAV (upI q ((refsO o).take s_.1))) true)]) 2 (fun s_ => (refsO o).length - s_.1) ⟨0, Nat.zero_le _, by simp⟩ ?_ ?_
      · refine St.le.vw [0, 1]
      rintro ⟨i, hi, hs⟩
      try dsimp only at hi
      try dsimp only at hs
      refine AW.rS ?_
      refine AW.trim [1, 2, 5, 6, 31, 32, 33, 34] ?_
      refine AW.seq ?_
      refine AW.c2 ?_ ?_
      · intro h32
        have hll : (upI q ((refsO o).take i)).length ≤ 16777216 := by rw [upI_length, List.length_take]; omega
        have hft := upI_succ (q := q) h32
        have hf2 := congrArg List.length hft
        rw [List.length_append, List.length_singleton] at hf2
        refine AW.skip ?_
        refine AW.seq ?_
        refine AW.block ?_
        refine AW.rS ?_
        refine AW.trim [1, 2, 5, 6, 8, 31, 32, 33] ?_
        refine AW.seq ?_
        refine AW.rS ?_
        refine AW.trim [1, 2, 5, 6, 8, 31, 32, 33, 38] ?_
        refine AW.c2 ?_ ?_
        · intro h39
          refine AW.rS ?_
          refine AW.trim [4] ?_
          refine AW.rt ?_
          all_goals first | contradiction | rfl | (simp; done) | (simp; omega)
        · intro h39
          have hin : (refsO o).getD i 0 ∈ refsO o := by rw [List.getD, List.getElem?_eq_getElem h32]; exact List.getElem_mem h32
          have hrn := refs_rng hin
          have hnx : ∀ n ∈ (refsO o).take (i + 1), n ≤ 4000 := by
            intro n hn
            rw [List.take_add_one, List.mem_append] at hn
            rcases hn with hn | hn
            · exact hs n hn
            · rw [List.getElem?_eq_getElem h32] at hn
              rw [List.getD, List.getElem?_eq_getElem h32] at h39
              simp only [Option.getD_some, Option.toList_some, List.mem_singleton] at h39 hn
              omega
          refine AW.skip ?_
          refine AW.rL ?_
          refine AW.rL ?_
          refine ⟨⟨i + 1, by omega, hnx⟩, ?_, ?_⟩
          · refine St.le.vx [0, 3] ?_
            rw [hft]; simp only [intsAV, List.map_append, List.map_cons, List.map_nil]
          · simp only []; omega
      · intro h32
        have htk : (refsO o).take i = refsO o := List.take_of_length_le (by omega)
        rw [htk] at hs
        have hL := swap_law (o := o) (by' := q) h17.1.1.2 h17.1.2 h17.2 hs rfl
        have hul := upI_length q (refsO o)
        have hb2 := Pob.swap_bulk (refsO o) (upI q (refsO o)) o
        have hb3 := Pob.swap_bulk (upI q (refsO o)) (refsO o) (o.swap (refsO o) (upI q (refsO o)))
        refine AW.exit ?_
        simp only [htk]
        refine AW.clo 6 ?_
        refine wk ?_
        refine AW.rSC ?_
        refine awOps.cons (awGuard.c1 (c_value_Swap _ o (refsO o) (upI q (refsO o)) (by omega) (by omega) (by omega)) ?_)
        refine awOps.rn ?_
        refine AW.trim [2, 5, 6, 9] ?_
        refine AW.rSC ?_
        refine awOps.cons (awGuard.c1 (c_value_Swap _ (o.swap (refsO o) (upI q (refsO o))) (upI q (refsO o)) (refsO o) (by omega) (by omega) (by omega)) ?_)
        refine awOps.rn ?_
        refine AW.trim [2, 5, 6, 9, 10] ?_
        refine AW.fS [0, 2, 1, 3, 4, 5, 7, 6, 8, 9, 10, 11, 12, 13, 14, 15, 16, 18, 17, 19, 20, 21, 22, 23, 24, 25, 27, 26, 28, 29, 30, 31, 33, 32, 34, 35, 36] [] ?_
        refine awFun.rn ?_
        refine awFun.c1 [54] (c_value_Refs _ (o.swap (refsO o) (upI q (refsO o))) (by omega)) ?_
        refine awFun.rn ?_
        refine awFun.c1 [55, 56] (c_foliantref05_Ints _ (refsO (o.swap (refsO o) (upI q (refsO o)))) (upI q (refsO o)) (by rw [hL.1]; omega)) ?_
        refine awFun.rn ?_
        refine awFun.cG [58, 59] (fun hg => c_value_Refs _ ((o.swap (refsO o) (upI q (refsO o))).swap (upI q (refsO o)) (refsO o)) (by omega)) ?_
        refine awFun.rn ?_
        refine awFun.cG [58, 60, 61] (fun hg => c_foliantref05_Ints _ (refsO ((o.swap (refsO o) (upI q (refsO o))).swap (upI q (refsO o)) (refsO o))) (refsO o) (by rw [hL.2.1]; omega)) ?_
        refine awFun.rn ?_
        refine awFun.cG [64, 65] (fun hg => c_value_Check _ (o.swap (refsO o) (upI q (refsO o))) (by omega)) ?_
        refine awFun.rn ?_
        refine awFun.cG [69, 70] (fun hg => c_value_Depth _ (o.swap (refsO o) (upI q (refsO o))) (by omega)) ?_
        refine awFun.rn ?_
        refine awFun.cG [69, 72] (fun hg => c_value_Depth _ o (by omega)) ?_
        refine awFun.rn ?_
        refine awFun.cG [76, 77, 78, 79] (fun hg => c_value_Swap _ ((o.swap (refsO o) (upI q (refsO o))).swap (upI q (refsO o)) (refsO o)) (refsO o) (upI q (refsO o)) (by omega) (by omega) (by omega)) ?_
        refine awFun.rn ?_
        refine awFun.cG [76, 80, 81] (fun hg => c_value_Same _ (((o.swap (refsO o) (upI q (refsO o))).swap (upI q (refsO o)) (refsO o)).swap (refsO o) (upI q (refsO o))) (o.swap (refsO o) (upI q (refsO o))) (by rw [Pob.swap_bulk]; omega)) ?_
        refine awFun.rn ?_
        refine awFun.cG [84, 85] (fun hg => c_value_Swap _ o [] [] (by omega) (by simp) (by simp)) ?_
        refine awFun.rn ?_
        refine awFun.cG [84, 86, 87] (fun hg => c_value_Same _ (o.swap [] []) o (by rw [Pob.swap_bulk]; omega)) ?_
        refine awFun.rn ?_
        rw [Aw.awFun_nil, Aw.awPlan_nil]
        refine AW.trim [4] ?_
        refine AW.rt ?_
        rw [hL.1, hL.2.1, hL.2.2.1, hL.2.2.2.1, hL.2.2.2.2, Pob.swap_none]; simp
end Go.Proofs
