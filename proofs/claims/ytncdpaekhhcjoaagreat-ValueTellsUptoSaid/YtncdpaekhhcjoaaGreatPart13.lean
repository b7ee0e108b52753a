/- A part of the proof of a law of the seat: no condition of its own. -/
import Derived.Test.YtncdpaekhhcjoaaGreatPart12
namespace Go.Proofs
open Go Aw
set_option linter.unusedSimpArgs false
set_option linter.unusedVariables false
set_option maxRecDepth 100000
set_option maxHeartbeats 2000000
attribute [local go_sem] take_strsAV drop_strsAV app_strsAV app1_strsAV take_intsAV drop_intsAV app_intsAV app1_intsAV take_objsAV drop_objsAV app_objsAV app1_objsAV

theorem c_foliantref05_Get (gl : List (Nat × AV)) (o : Pob) (key : List UInt8) (h : o.bulk ≤ 16777216) : FnP Tryz.prog (gl) 56 [.agg o.cells, .str key] fun r => r = .ret (.tup [.agg (getO o key).cells, .bool (getB o key)]) := by
  refine FnP.intro Tryz.func56 rfl rfl (by simp [Tryz.ntmps56]) ?_
  simp only [argEnv, Tryz.ntmps56, Tryz.results56]
  have hbe := Pob.bulk_eq o
  refine AW.rS ?_
  refine AW.seq ?_
  refine AW.rS ?_
  refine AW.c2 ?_ ?_
  · intro h4
    refine AW.rS ?_
    refine AW.rt ?_
    have hg := get_unkeyed (o := o) (key := key) (by simp [keyedB, h4.1, h4.2])
    rw [hg.1, hg.2]; rfl
  · intro h4
    refine AW.skip ?_
    refine AW.seq ?_
    refine AW.rS ?_
    refine AW.block ?_
    refine AW.lk (S := { i : Nat // i ≤ o.keys.length ∧ ∀ j, j < i → o.keys.getD j [] ≠ key }) [1, 2, 4, 18, 19] (fun s_ => [(20, .int .i64 s_.1)]) (fun s_ => [(0, .cells o.cells), (1, .cells [.int .i64 0, .int .i64 0, .int .i64 0, .str [], .raw (.slice none 0 0), .raw (.slice none 0 0)])]) 2 (fun s_ => o.keys.length - s_.1) ⟨0, Nat.zero_le _, fun j h => absurd h (by omega)⟩ ?_ ?_
    · refine St.le.vw [0, 1]
    rintro ⟨i, hi, hs⟩
    try dsimp only at hi
    try dsimp only at hs
    refine AW.rS ?_
    refine AW.seq ?_
    refine AW.c2 ?_ ?_
    · intro h15
      refine AW.skip ?_
      refine AW.seq ?_
      refine AW.block ?_
      refine AW.rS ?_
      refine AW.rS ?_
      refine AW.c2 ?_ ?_
      · intro h21
        have hkx := kidx_hit h15 hs h21.symm
        refine AW.seq ?_
        refine AW.rS ?_
        refine AW.c2 ?_ ?_
        · intro h24
          refine AW.rS ?_
          refine AW.rt ?_
          have hg := get_miss (o := o) (key := key) (by rw [hkx]; omega)
          rw [hg.1, hg.2]; rfl
        · intro h24
          refine AW.skip ?_
          refine AW.rS ?_
          refine AW.rt ?_
          have hg := get_hit (o := o) (key := key) (by simp only [keyedB]; simp; omega) (by rw [hkx]; omega)
          rw [hg.1, hg.2, hkx]
          rfl
      · intro h21
        refine AW.skip ?_
        refine AW.rL ?_
        refine ⟨⟨i + 1, by omega, fun j hj => (Nat.lt_or_ge j i).elim (hs j) (fun h => (show j = i by omega) ▸ h21)⟩, ?_, ?_⟩
        · refine St.le.vw [0, 1]
        · simp only []; omega
    · intro h15
      refine AW.exit ?_
      refine AW.rS ?_
      refine AW.rt ?_
      have hg := get_miss (o := o) (key := key) (by rw [kidx_miss (fun j hj => hs j (by omega))]; omega)
      rw [hg.1, hg.2]; rfl
theorem c_ref_lessO (gl : List (Nat × AV)) (o : Pob) (key : List UInt8) (h : o.bulk ≤ 16777000) (hk : keyedB o.kind = true) (hc : chk o 1 = 0) : FnP Tryz.prog gl 121 [.agg o.cells, .str key] fun r => r = .ret (.agg (dropO o key).cells) := by
  rw [← woK_all (key := key) (kvOk_of_chk hc hk) (by simp [dropB, hk, hc])]
  exact c_foliantref05_without gl o key h (kvOk_of_chk hc hk)
theorem c_foliantref05_Drop (gl : List (Nat × AV)) (o : Pob) (key : List UInt8) (h : o.tot ≤ 16777000) : FnP Tryz.prog (gl) 65 [.agg o.cells, .str key] fun r => r = .ret (.agg (dropO o key).cells) := by
  refine FnP.intro Tryz.func65 rfl rfl (by simp [Tryz.ntmps65]) ?_
  simp only [argEnv, Tryz.ntmps65, Tryz.results65]
  have hb := Pob.bulk_tot o
  refine AW.rS ?_
  refine AW.seq ?_
  refine AW.rSC ?_
  refine awOps.cons (awGuard.cG (fun hg => c_foliantref05_Check _ o (by omega)) ?_)
  refine awOps.rn ?_
  refine AW.c2 ?_ ?_
  · intro h6
    refine AW.rS ?_
    refine AW.rt ?_
    rw [dropO_no (by rcases h6 with h | h; simp [dropB, keyedB, h.1, h.2]; simp [dropB, h])]
  · intro h6
    have hk : keyedB o.kind = true := by simp only [keyedB]; simp; exact h6.1
    refine AW.skip ?_
    refine AW.rSC ?_
    refine awOps.cons (awGuard.c1 (c_ref_lessO _ o key (by omega) hk h6.2) ?_)
    refine awOps.rn ?_
    refine AW.rt ?_
    all_goals first | contradiction | rfl | (simp; done) | (simp; omega)
theorem c_foliantref05_Set (gl : List (Nat × AV)) (o : Pob) (key : List UInt8) (v : Pob) (h : o.tot + v.tot + key.length ≤ 16777000) : FnP Tryz.prog (gl) 54 [.agg o.cells, .str key, .agg v.cells] fun r => r = .ret (.tup [.agg (setO o key v).cells, .int .i64 (setE o key v)]) := by
  refine FnP.intro Tryz.func54 rfl rfl (by simp [Tryz.ntmps54]) ?_
  simp only [argEnv, Tryz.ntmps54, Tryz.results54]
  have hb := Pob.bulk_tot o
  have hwt := withK_tot o key v
  refine AW.rS ?_
  refine AW.seq ?_
  refine AW.rS ?_
  refine AW.c2 ?_ ?_
  · intro h4
    refine AW.rS ?_
    refine AW.rt ?_
    have hu := set_unkeyed (o := o) (v := v) (key := key) (by simp [keyedB, h4.1, h4.2])
    rw [hu.1, hu.2]; rfl
  · intro h4
    have hk : keyedB o.kind = true := by simp only [keyedB]; simp; omega
    refine AW.skip ?_
    refine AW.seq ?_
    refine AW.rSC ?_
    refine awOps.cons (awGuard.c1 (c_foliantref05_Check _ o (by omega)) ?_)
    refine awOps.rn ?_
    refine AW.rS ?_
    refine AW.c2 ?_ ?_
    · intro h14
      refine AW.rS ?_
      refine AW.rt ?_
      have hu := set_bad (v := v) (key := key) hk h14
      rw [hu.1, hu.2]; rfl
    · intro h14
      have hs := kvOk_of_chk h14 hk
      refine AW.skip ?_
      refine AW.seq ?_
      refine AW.rS ?_
      refine AW.c2 ?_ ?_
      · intro h21
        refine AW.rSC ?_
        refine awOps.cons (awGuard.c1 (c_ref_lessO _ o key (by omega) hk h14) ?_)
        refine awOps.rn ?_
        refine AW.rt ?_
        have hu := set_null (v := v) (key := key) hk h14 h21
        rw [hu.1, hu.2]
      · intro h21
        refine AW.skip ?_
        refine AW.rSC ?_
        refine awOps.cons (awGuard.c1 (c_foliantref05_put _ o key v (by omega) hs.2) ?_)
        refine awOps.rn ?_
        refine awOps.cons (awGuard.c1 (c_foliantref05_right _ (o.withK key v) (by omega)) ?_)
        refine awOps.rn ?_
        refine AW.rt ?_
        have hu := set_val (key := key) hk h14 h21
        rw [hu.1, hu.2]
theorem c_foliantref05_Stream (gl : List (Nat × AV)) (o : Pob) (s : List UInt8) (h : o.tot + s.length ≤ 16777000) : FnP Tryz.prog (gl) 52 [.agg o.cells, .str s] fun r => r = .ret (.tup [.agg (streamO o s).cells, .int .i64 (streamE o s)]) := by
  refine FnP.intro Tryz.func52 rfl rfl (by simp [Tryz.ntmps52]) ?_
  simp only [argEnv, Tryz.ntmps52, Tryz.results52]
  have hb := Pob.bulk_tot o
  have hst := strm_tot o s
  refine AW.rS ?_
  refine AW.seq ?_
  refine AW.rS ?_
  refine AW.c2 ?_ ?_
  · intro h4
    refine AW.rS ?_
    refine AW.rt ?_
    have hu := stream_kind (s := s) h4
    rw [hu.1, hu.2]; rfl
  · intro h4
    have hk : keyedB o.kind = true := by simp [keyedB, h4]
    refine AW.skip ?_
    refine AW.seq ?_
    refine AW.rSC ?_
    refine awOps.cons (awGuard.c1 (c_foliantref05_Check _ o (by omega)) ?_)
    refine awOps.rn ?_
    refine AW.rS ?_
    refine AW.c2 ?_ ?_
    · intro h14
      refine AW.rS ?_
      refine AW.rt ?_
      have hu := stream_bad (s := s) h4 h14
      rw [hu.1, hu.2]; rfl
    · intro h14
      obtain ⟨g1, g2, g3, g4⟩ := dropO_frame o lengthK
      obtain ⟨⟨_, n1, n2, _⟩, _⟩ := (chk_keyed hk).1 h14
      have hstm : (dropO o lengthK).strm s = .mk 9 0 0 s (dropO o lengthK).keys (dropO o lengthK).kids := by unfold Pob.strm; rw [g2, g3, n1, n2]
      rw [hstm] at hst
      refine AW.skip ?_
      refine AW.rSC ?_
      refine awOps.cons (awGuard.c1 (c_ref_lessO _ o lengthK (by omega) hk h14) ?_)
      refine awOps.rn ?_
      refine AW.rSC ?_
      refine awOps.cons (awGuard.c1 (c_foliantref05_right _ (.mk 9 0 0 s (dropO o lengthK).keys (dropO o lengthK).kids) (by omega)) ?_)
      refine awOps.rn ?_
      refine AW.rt ?_
      have hu := stream_ok (s := s) h4 h14
      rw [hu.1, hu.2, hstm]
end Go.Proofs

namespace Go.Proofs
open Go Aw
set_option linter.unusedSimpArgs false
set_option linter.unusedVariables false
set_option maxRecDepth 100000
set_option maxHeartbeats 2000000
attribute [local go_sem] take_strsAV drop_strsAV app_strsAV app1_strsAV take_intsAV drop_intsAV app_intsAV app1_intsAV take_objsAV drop_objsAV app_objsAV app1_objsAV

theorem rdepth_step (gl : List (Nat × AV)) (N : Nat) (hN : N ≤ 16777216) (ih : ∀ o' : Pob, o'.bulk < N → FnP Tryz.prog gl 63 [.agg o'.cells] fun r => r = .ret (.int .i64 o'.depth)) (o : Pob) (ho : o.bulk ≤ N) : FnP Tryz.prog (gl) 63 [.agg o.cells] fun r => r = .ret (.int .i64 o.depth) := by
  refine FnP.intro Tryz.func63 rfl rfl (by simp [Tryz.ntmps63]) ?_
  simp only [argEnv, Tryz.ntmps63, Tryz.results63]
  have hb := Pob.bulk_eq o
  have hdp := Pob.depth_le o
  have hde := Pob.depth_eq o
  refine AW.rS ?_
  refine AW.rS ?_
  refine AW.seq ?_
  refine AW.rS ?_
  refine AW.block ?_
  refine AW.lk (S := { i : Nat // i ≤ o.kids.length }) [7, 8] (fun s_ => [(3, .int .i64 (depths (o.kids.take s_.1))), (9, .int .i64 s_.1)]) (fun s_ => []) 0 (fun s_ => o.kids.length - s_.1) ⟨0, Nat.zero_le _⟩ ?_ ?_
  · refine St.le.vw []
  rintro ⟨i, hi⟩
  try dsimp only at hi
  refine AW.rS ?_
  refine AW.seq ?_
  refine AW.c2 ?_ ?_
  · intro h9
    refine AW.skip ?_
    refine AW.seq ?_
    refine AW.block ?_
    refine AW.rS ?_
    refine AW.rLC ?_
    refine awOps.cons (awGuard.c1 (ih (o.kids.getD i Pob.null) (Nat.lt_of_lt_of_le (Pob.bulk_kid (by omega)) ho)) ?_)
    refine awOps.rn ?_
    refine AW.rL ?_
    have hdt := depths_take h9
    refine ⟨⟨i + 1, by omega⟩, ?_, ?_⟩
    · refine St.le.vw []
    · simp only []; omega
  · intro h9
    have htk : List.take i o.kids = o.kids := List.take_of_length_le (by omega)
    rw [htk]
    refine AW.exit ?_
    refine AW.rS ?_
    refine AW.rt ?_
    all_goals first | contradiction | rfl | (simp; done) | (simp; omega)
theorem rdepth_all (gl : List (Nat × AV)) (N : Nat) : N ≤ 16777216 → ∀ o : Pob, o.bulk ≤ N → FnP Tryz.prog gl 63 [.agg o.cells] fun r => r = .ret (.int .i64 o.depth) := by
  induction N using Nat.strongRecOn with
  | ind N IH => exact fun hN o ho => rdepth_step gl N hN (fun o' h => IH o'.bulk h (by omega) o' (Nat.le_refl _)) o ho
theorem c_foliantref05_Depth (gl : List (Nat × AV)) (o : Pob) (h : o.bulk ≤ 16777216 := by first | assumption | omega) : FnP Tryz.prog gl 63 [.agg o.cells] fun r => r = .ret (.int .i64 o.depth) := rdepth_all gl 16777216 (Nat.le_refl _) o h
theorem kidR_zero (l : List Pob) (s : List Int) : kidR (l.take 0) s = s := rfl
theorem intsAV_one (n : Int) : intsAV [n] = [[.int .i64 n]] := rfl
attribute [local go_sem] kidR_zero intsAV_one
theorem rrefs_step (gl : List (Nat × AV)) (N : Nat) (hN : N ≤ 8000000) (ih : ∀ o' : Pob, o'.bulk < N → FnP Tryz.prog gl 67 [.agg o'.cells] fun r => r = .ret (.sl (intsAV (refsO o')))) (o : Pob) (ho : o.bulk ≤ N) : FnP Tryz.prog (gl) 67 [.agg o.cells] fun r => r = .ret (.sl (intsAV (refsO o))) := by
  refine FnP.intro Tryz.func67 rfl rfl (by simp [Tryz.ntmps67]) ?_
  simp only [argEnv, Tryz.ntmps67, Tryz.results67]
  have hb := Pob.bulk_eq o
  refine AW.rS ?_
  refine AW.rS ?_
  refine AW.seq ?_
  refine AW.rS ?_
  refine AW.c2 ?_ ?_
  · intro h5
    have hro : refB o = true := by simp [refB, h5.1.1, h5.1.2, h5.2]
    have how : ownR o = [o.num] := by rw [ownR, if_pos hro]
    refine AW.rL ?_
    refine AW.seq ?_
    refine AW.rS ?_
    refine AW.block ?_
    refine AW.clo 3 ?_
    refine wk ?_
    refine AW.lk (S := { i : Nat // i ≤ o.kids.length }) [25, 26] (fun s_ => [(3, .sl (intsAV (kidR (o.kids.take s_.1) [o.num]))), (27, .int .i64 s_.1)]) (fun s_ => []) 0 (fun s_ => o.kids.length - s_.1) ⟨0, Nat.zero_le _⟩ ?_ ?_
    · refine St.le.vw []
    rintro ⟨i, hi⟩
    try dsimp only at hi
    refine AW.rS ?_
    refine AW.seq ?_
    refine AW.c2 ?_ ?_
    · intro h13
      have hkb := Pob.bulk_kid (o := o) (i := i) (by omega)
      have hrl := refs_len (o.kids.getD i Pob.null)
      have hkl := kidR_len (o.kids.take i) [o.num]
      have hbt := bulks_takele o.kids i
      have hol : [o.num].length ≤ 1 := by simp
      have hks := kidR_succ (l := o.kids) (i := i) (by omega) [o.num]
      refine AW.skip ?_
      refine AW.seq ?_
      refine AW.block ?_
      refine AW.rS ?_
      refine AW.rSC ?_
      refine awOps.cons (awGuard.c1 (ih (o.kids.getD i Pob.null) (Nat.lt_of_lt_of_le hkb ho)) ?_)
      refine awOps.rn ?_
      refine AW.block ?_
      refine AW.lk (S := { j : Nat // j ≤ (refsO (o.kids.getD i Pob.null)).length }) [25, 26, 27, 32, 33] (fun s_ => [(3, .sl (intsAV (((refsO (o.kids.getD i Pob.null)).take s_.1).foldl numIns (kidR (o.kids.take i) [o.num])))), (34, .int .i64 s_.1)]) (fun s_ => []) 0 (fun s_ => (refsO (o.kids.getD i Pob.null)).length - s_.1) ⟨0, Nat.zero_le _⟩ ?_ ?_
      · refine St.le.vw []
      rintro ⟨j, hj⟩
      try dsimp only at hj
      refine AW.rS ?_
      refine AW.seq ?_
      refine AW.c2 ?_ ?_
      · intro h25
        have hfl := foldN_len ((refsO (o.kids.getD i Pob.null)).take j) (kidR (o.kids.take i) [o.num])
        have hfs := foldN_succ (l := refsO (o.kids.getD i Pob.null)) (i := j) (by omega) (kidR (o.kids.take i) [o.num])
        have htl : ((refsO (o.kids.getD i Pob.null)).take j).length ≤ (refsO (o.kids.getD i Pob.null)).length := by rw [List.length_take]; omega
        refine AW.skip ?_
        refine AW.seq ?_
        refine AW.block ?_
        refine AW.rS ?_
        refine AW.rLC ?_
        refine awOps.cons (awGuard.c1 (c_foliantref05_Num _ (((refsO (o.kids.getD i Pob.null)).take j).foldl numIns (kidR (o.kids.take i) [o.num])) ((refsO (o.kids.getD i Pob.null)).getD j 0) (by omega)) ?_)
        refine awOps.rn ?_
        refine AW.rL ?_
        rw [← hfs]
        refine ⟨⟨j + 1, by omega⟩, ?_, ?_⟩
        · refine St.le.vw []
        · simp only []; omega
      · intro h25
        refine AW.exit ?_
        refine AW.rL ?_
        obtain rfl : j = (refsO (o.kids.getD i Pob.null)).length := by omega
        rw [List.take_length, ← hks]
        refine ⟨⟨i + 1, by omega⟩, ?_, ?_⟩
        · refine St.le.vw []
        · simp only []; omega
    · intro h13
      refine AW.exit ?_
      refine AW.rS ?_
      refine AW.rt ?_
      obtain rfl : i = o.kids.length := by omega
      rw [List.take_length, ← how, kidR_all]
  · intro h5
    have hro : refB o = false := by
      simp only [refB, Bool.and_eq_false_iff, decide_eq_false_iff_not]
      omega
    have how : ownR o = [] := by rw [ownR, if_neg (by simp [hro])]
    refine AW.skip ?_
    refine AW.seq ?_
    refine AW.rS ?_
    refine AW.block ?_
    refine AW.pre (St.le.nilrow 3 1 (by (simp only [go_sem, seval]; try (simp (disch := omega) only [wrap_i64, wrap_u8, wrap_u64, tdiv_nn, tmod_nn, Int.toNat_natCast_add_one, toNat_sub1, Int.toNat_sub, Int.toNat_natCast, intsAV_getD, strsAV_getD, objsAV_getD, itemsAV_getD, intsAV_out, strsAV_out, objsAV_out, itemsAV_out, fillO_length, fillO_set]; try (simp only [go_sem, seval]; try (simp (disch := omega) only [wrap_i64, wrap_u8, wrap_u64, tdiv_nn, tmod_nn, Int.toNat_natCast_add_one, toNat_sub1, Int.toNat_sub, Int.toNat_natCast, intsAV_getD, strsAV_getD, objsAV_getD, itemsAV_getD, intsAV_out, strsAV_out, objsAV_out, itemsAV_out, fillO_length, fillO_set]; try simp only [go_sem, seval])))))) ?_
    refine wk ?_
    refine AW.clo 3 ?_
    refine wk ?_
    refine AW.lk (S := { i : Nat // i ≤ o.kids.length }) [25, 26] (fun s_ => [(3, .sl (intsAV (kidR (o.kids.take s_.1) ([] : List Int)))), (27, .int .i64 s_.1)]) (fun s_ => []) 0 (fun s_ => o.kids.length - s_.1) ⟨0, Nat.zero_le _⟩ ?_ ?_
    · refine St.le.vw []
    rintro ⟨i, hi⟩
    try dsimp only at hi
    refine AW.rS ?_
    refine AW.seq ?_
    refine AW.c2 ?_ ?_
    · intro h49
      have hkb := Pob.bulk_kid (o := o) (i := i) (by omega)
      have hrl := refs_len (o.kids.getD i Pob.null)
      have hkl := kidR_len (o.kids.take i) ([] : List Int)
      have hbt := bulks_takele o.kids i
      have hol : ([] : List Int).length ≤ 1 := by simp
      have hks := kidR_succ (l := o.kids) (i := i) (by omega) ([] : List Int)
      refine AW.skip ?_
      refine AW.seq ?_
      refine AW.block ?_
      refine AW.rS ?_
      refine AW.rSC ?_
      refine awOps.cons (awGuard.c1 (ih (o.kids.getD i Pob.null) (Nat.lt_of_lt_of_le hkb ho)) ?_)
      refine awOps.rn ?_
      refine AW.block ?_
      refine AW.lk (S := { j : Nat // j ≤ (refsO (o.kids.getD i Pob.null)).length }) [25, 26, 27, 32, 33] (fun s_ => [(3, .sl (intsAV (((refsO (o.kids.getD i Pob.null)).take s_.1).foldl numIns (kidR (o.kids.take i) ([] : List Int))))), (34, .int .i64 s_.1)]) (fun s_ => []) 0 (fun s_ => (refsO (o.kids.getD i Pob.null)).length - s_.1) ⟨0, Nat.zero_le _⟩ ?_ ?_
      · refine St.le.vw []
      rintro ⟨j, hj⟩
      try dsimp only at hj
      refine AW.rS ?_
      refine AW.seq ?_
      refine AW.c2 ?_ ?_
      · intro h61
        have hfl := foldN_len ((refsO (o.kids.getD i Pob.null)).take j) (kidR (o.kids.take i) ([] : List Int))
        have hfs := foldN_succ (l := refsO (o.kids.getD i Pob.null)) (i := j) (by omega) (kidR (o.kids.take i) ([] : List Int))
        have htl : ((refsO (o.kids.getD i Pob.null)).take j).length ≤ (refsO (o.kids.getD i Pob.null)).length := by rw [List.length_take]; omega
        refine AW.skip ?_
        refine AW.seq ?_
        refine AW.block ?_
        refine AW.rS ?_
        refine AW.rLC ?_
        refine awOps.cons (awGuard.c1 (c_foliantref05_Num _ (((refsO (o.kids.getD i Pob.null)).take j).foldl numIns (kidR (o.kids.take i) ([] : List Int))) ((refsO (o.kids.getD i Pob.null)).getD j 0) (by omega)) ?_)
        refine awOps.rn ?_
        refine AW.rL ?_
        rw [← hfs]
        refine ⟨⟨j + 1, by omega⟩, ?_, ?_⟩
        · refine St.le.vw []
        · simp only []; omega
      · intro h61
        refine AW.exit ?_
        refine AW.rL ?_
        obtain rfl : j = (refsO (o.kids.getD i Pob.null)).length := by omega
        rw [List.take_length, ← hks]
        refine ⟨⟨i + 1, by omega⟩, ?_, ?_⟩
        · refine St.le.vw []
        · simp only []; omega
    · intro h49
      refine AW.exit ?_
      refine AW.rS ?_
      refine AW.rt ?_
      obtain rfl : i = o.kids.length := by omega
      rw [List.take_length, ← how, kidR_all]
theorem rrefs_all (gl : List (Nat × AV)) (N : Nat) : N ≤ 8000000 → ∀ o : Pob, o.bulk ≤ N → FnP Tryz.prog gl 67 [.agg o.cells] fun r => r = .ret (.sl (intsAV (refsO o))) := by
  induction N using Nat.strongRecOn with
  | ind N IH => exact fun hN o ho => rrefs_step gl N hN (fun o' h => IH o'.bulk h (by omega) o' (Nat.le_refl _)) o ho
theorem c_foliantref05_Refs (gl : List (Nat × AV)) (o : Pob) (h : o.bulk ≤ 8000000 := by first | assumption | omega) : FnP Tryz.prog gl 67 [.agg o.cells] fun r => r = .ret (.sl (intsAV (refsO o))) := rrefs_all gl 8000000 (Nat.le_refl _) o h
end Go.Proofs

namespace Go.Proofs
open Go Aw
set_option linter.unusedSimpArgs false
set_option linter.unusedVariables false
set_option maxRecDepth 100000
set_option maxHeartbeats 2000000
attribute [local go_sem] take_strsAV drop_strsAV app_strsAV app1_strsAV take_intsAV drop_intsAV app_intsAV app1_intsAV take_objsAV drop_objsAV app_objsAV app1_objsAV

theorem swaps_snoc (fr to : List Int) {l : List Pob} {i : Nat} (h : i < l.length) : swaps fr to (l.take (i + 1)) = swaps fr to (l.take i) ++ [(l.getD i Pob.null).swap fr to] := by
  rw [swaps_map, swaps_map, List.take_add_one, List.map_append, List.getElem?_eq_getElem h]
  simp [List.getD, List.getElem?_eq_getElem h]
theorem swaps_nil (fr to : List Int) : swaps fr to [] = [] := by rw [swaps_map]; rfl
attribute [local go_sem] swaps_nil
theorem rswap_step (gl : List (Nat × AV)) (N : Nat) (fr to : List Int) (hf : fr.length ≤ 16777216) (ht : to.length ≤ 16777216) (hN : N ≤ 16777216) (ih : ∀ o' : Pob, o'.bulk < N → FnP Tryz.prog gl 69 [.agg o'.cells, .sl (intsAV fr), .sl (intsAV to)] fun r => r = .ret (.agg (o'.swap fr to).cells)) (o : Pob) (ho : o.bulk ≤ N) : FnP Tryz.prog (gl) 69 [.agg o.cells, .sl (intsAV fr), .sl (intsAV to)] fun r => r = .ret (.agg (o.swap fr to).cells) := by
  refine FnP.intro Tryz.func69 rfl rfl (by simp [Tryz.ntmps69]) ?_
  simp only [argEnv, Tryz.ntmps69, Tryz.results69]
  have hb := Pob.bulk_eq o
  refine AW.rS ?_
  refine AW.seq ?_
  refine AW.rS ?_
  refine AW.c2 ?_ ?_
  · intro h4
    refine AW.rS ?_
    refine AW.block ?_
    refine AW.lk (S := { i : Nat // i ≤ fr.length ∧ ∀ j, j < i → fr.getD j 0 ≠ o.num }) [1, 2, 3, 6, 15, 16] (fun s_ => [(17, .int .i64 s_.1)]) (fun s_ => [(0, .cells o.cells), (1, .cells [.int .i64 0, .int .i64 0, .int .i64 0, .str [], .raw (.slice none 0 0), .raw (.slice none 0 0)])]) 2 (fun s_ => fr.length - s_.1) ⟨0, Nat.zero_le _, fun j h => absurd h (by omega)⟩ ?_ ?_
    · refine St.le.vw [0, 1]
    rintro ⟨p, hp, hs⟩
    try dsimp only at hp
    try dsimp only at hs
    refine AW.rS ?_
    refine AW.seq ?_
    refine AW.c2 ?_ ?_
    · intro h10
      refine AW.skip ?_
      refine AW.seq ?_
      refine AW.block ?_
      refine AW.rS ?_
      refine AW.rS ?_
      refine AW.c2 ?_ ?_
      · intro h16
        have hni := nidx_hit h10 hs h16
        refine AW.seq ?_
        refine AW.rS ?_
        refine AW.c2 ?_ ?_
        · intro h19
          have hw := sw_yes (fr := fr) (to := to) (k := o.kind) (n := o.num) (g := o.gen) (by simp only [swB, h4, hni]; simp; omega)
          rw [hni] at hw
          refine AW.rS ?_
          refine AW.rL ?_
          refine AW.exit ?_
          refine AW.rS ?_
          refine AW.seq ?_
          refine AW.rS ?_
          refine AW.block ?_
          refine AW.pre (St.le.nilrow 9 6 (by (simp only [go_sem, seval]; try (simp (disch := omega) only [wrap_i64, wrap_u8, wrap_u64, tdiv_nn, tmod_nn, Int.toNat_natCast_add_one, toNat_sub1, Int.toNat_sub, Int.toNat_natCast, intsAV_getD, strsAV_getD, objsAV_getD, itemsAV_getD, intsAV_out, strsAV_out, objsAV_out, itemsAV_out, fillO_length, fillO_set]; try (simp only [go_sem, seval]; try (simp (disch := omega) only [wrap_i64, wrap_u8, wrap_u64, tdiv_nn, tmod_nn, Int.toNat_natCast_add_one, toNat_sub1, Int.toNat_sub, Int.toNat_natCast, intsAV_getD, strsAV_getD, objsAV_getD, itemsAV_getD, intsAV_out, strsAV_out, objsAV_out, itemsAV_out, fillO_length, fillO_set]; try simp only [go_sem, seval])))))) ?_
          refine wk ?_
          refine AW.lk (S := { i : Nat // i ≤ o.kids.length }) [1, 2, 3, 6, 38, 39] (fun s_ => [(9, .row 2 0 (swaps fr to (o.kids.take s_.1)).length), (40, .int .i64 s_.1)]) (fun s_ => [(0, .cells [.int .i64 o.kind, .int .i64 (to.getD p 0), .int .i64 (0), .str o.str, .sl (strsAV o.keys), .sl (objsAV o.kids)]), (1, .cells [.int .i64 0, .int .i64 0, .int .i64 0, .str [], .raw (.slice none 0 0), .raw (.slice none 0 0)]), (2, .row 6 (objsAV (swaps fr to (o.kids.take s_.1))) true)]) 3 (fun s_ => o.kids.length - s_.1) ⟨0, Nat.zero_le _⟩ ?_ ?_
          · refine St.le.vw [0, 1, 2]
          rintro ⟨i, hi⟩
          try dsimp only at hi
          refine AW.rS ?_
          refine AW.seq ?_
          refine AW.c2 ?_ ?_
          · intro h30
            have hkb := Pob.bulk_kid (o := o) (i := i) (by omega)
            have hsl := swaps_length fr to (o.kids.take i)
            have hss := swaps_snoc fr to (l := o.kids) (i := i) (by omega)
            have hs2 := congrArg List.length hss
            rw [List.length_append, List.length_singleton] at hs2
            have htl : (o.kids.take i).length ≤ o.kids.length := by rw [List.length_take]; omega
            refine AW.skip ?_
            refine AW.seq ?_
            refine AW.block ?_
            refine AW.rS ?_
            refine AW.rLC ?_
            refine awOps.cons (awGuard.c1 (ih (o.kids.getD i Pob.null) (Nat.lt_of_lt_of_le hkb ho)) ?_)
            refine awOps.rn ?_
            refine AW.rL ?_
            refine ⟨⟨i + 1, by omega⟩, ?_, ?_⟩
            · refine St.le.vx [0, 1, 5] ?_
              rw [hss]
            · simp only []; omega
          · intro h30
            refine AW.exit ?_
            refine AW.rS ?_
            refine AW.rS ?_
            refine AW.rt ?_
            obtain rfl : i = o.kids.length := by omega
            rw [List.take_length, Pob.swap_eq, hw.1, hw.2]
            first | exact ⟨by omega, rfl⟩ | rfl
        · intro h19
          have hw := sw_no (fr := fr) (to := to) (k := o.kind) (n := o.num) (g := o.gen) (by simp only [swB, h4, hni]; simp; omega)
          refine AW.skip ?_
          refine AW.exit ?_
          refine AW.rS ?_
          refine AW.seq ?_
          refine AW.rS ?_
          refine AW.block ?_
          refine AW.pre (St.le.nilrow 9 6 (by (simp only [go_sem, seval]; try (simp (disch := omega) only [wrap_i64, wrap_u8, wrap_u64, tdiv_nn, tmod_nn, Int.toNat_natCast_add_one, toNat_sub1, Int.toNat_sub, Int.toNat_natCast, intsAV_getD, strsAV_getD, objsAV_getD, itemsAV_getD, intsAV_out, strsAV_out, objsAV_out, itemsAV_out, fillO_length, fillO_set]; try (simp only [go_sem, seval]; try (simp (disch := omega) only [wrap_i64, wrap_u8, wrap_u64, tdiv_nn, tmod_nn, Int.toNat_natCast_add_one, toNat_sub1, Int.toNat_sub, Int.toNat_natCast, intsAV_getD, strsAV_getD, objsAV_getD, itemsAV_getD, intsAV_out, strsAV_out, objsAV_out, itemsAV_out, fillO_length, fillO_set]; try simp only [go_sem, seval])))))) ?_
          refine wk ?_
          refine AW.lk (S := { i : Nat // i ≤ o.kids.length }) [1, 2, 3, 6, 38, 39] (fun s_ => [(9, .row 2 0 (swaps fr to (o.kids.take s_.1)).length), (40, .int .i64 s_.1)]) (fun s_ => [(0, .cells [.int .i64 o.kind, .int .i64 (o.num), .int .i64 (o.gen), .str o.str, .sl (strsAV o.keys), .sl (objsAV o.kids)]), (1, .cells [.int .i64 0, .int .i64 0, .int .i64 0, .str [], .raw (.slice none 0 0), .raw (.slice none 0 0)]), (2, .row 6 (objsAV (swaps fr to (o.kids.take s_.1))) true)]) 3 (fun s_ => o.kids.length - s_.1) ⟨0, Nat.zero_le _⟩ ?_ ?_
          · refine St.le.vw [0, 1, 2]
          rintro ⟨i, hi⟩
          try dsimp only at hi
          refine AW.rS ?_
          refine AW.seq ?_
          refine AW.c2 ?_ ?_
          · intro h54
            have hkb := Pob.bulk_kid (o := o) (i := i) (by omega)
            have hsl := swaps_length fr to (o.kids.take i)
            have hss := swaps_snoc fr to (l := o.kids) (i := i) (by omega)
            have hs2 := congrArg List.length hss
            rw [List.length_append, List.length_singleton] at hs2
            have htl : (o.kids.take i).length ≤ o.kids.length := by rw [List.length_take]; omega
            refine AW.skip ?_
            refine AW.seq ?_
            refine AW.block ?_
            refine AW.rS ?_
            refine AW.rLC ?_
            refine awOps.cons (awGuard.c1 (ih (o.kids.getD i Pob.null) (Nat.lt_of_lt_of_le hkb ho)) ?_)
            refine awOps.rn ?_
            refine AW.rL ?_
            refine ⟨⟨i + 1, by omega⟩, ?_, ?_⟩
            · refine St.le.vx [0, 1, 5] ?_
              rw [hss]
            · simp only []; omega
          · intro h54
            refine AW.exit ?_
            refine AW.rS ?_
            refine AW.rS ?_
            refine AW.rt ?_
            obtain rfl : i = o.kids.length := by omega
            rw [List.take_length, Pob.swap_eq, hw.1, hw.2]
            first | exact ⟨by omega, rfl⟩ | rfl
      · intro h16
        refine AW.skip ?_
        refine AW.rL ?_
        refine ⟨⟨p + 1, by omega, fun j hj => (Nat.lt_or_ge j p).elim (hs j) (fun h => (show j = p by omega) ▸ h16)⟩, ?_, ?_⟩
        · refine St.le.vw [0, 1]
        · simp only []; omega
    · intro h10
      have hni := nidx_miss (l := fr) (n := o.num) (fun j hj => hs j (by omega))
      have hw := sw_no (fr := fr) (to := to) (k := o.kind) (n := o.num) (g := o.gen) (by simp only [swB, h4, hni]; simp)
      refine AW.exit ?_
      refine AW.rS ?_
      refine AW.seq ?_
      refine AW.rS ?_
      refine AW.block ?_
      refine AW.pre (St.le.nilrow 9 6 (by (simp only [go_sem, seval]; try (simp (disch := omega) only [wrap_i64, wrap_u8, wrap_u64, tdiv_nn, tmod_nn, Int.toNat_natCast_add_one, toNat_sub1, Int.toNat_sub, Int.toNat_natCast, intsAV_getD, strsAV_getD, objsAV_getD, itemsAV_getD, intsAV_out, strsAV_out, objsAV_out, itemsAV_out, fillO_length, fillO_set]; try (simp only [go_sem, seval]; try (simp (disch := omega) only [wrap_i64, wrap_u8, wrap_u64, tdiv_nn, tmod_nn, Int.toNat_natCast_add_one, toNat_sub1, Int.toNat_sub, Int.toNat_natCast, intsAV_getD, strsAV_getD, objsAV_getD, itemsAV_getD, intsAV_out, strsAV_out, objsAV_out, itemsAV_out, fillO_length, fillO_set]; try simp only [go_sem, seval])))))) ?_
      refine wk ?_
      refine AW.lk (S := { i : Nat // i ≤ o.kids.length }) [1, 2, 3, 6, 38, 39] (fun s_ => [(9, .row 2 0 (swaps fr to (o.kids.take s_.1)).length), (40, .int .i64 s_.1)]) (fun s_ => [(0, .cells [.int .i64 o.kind, .int .i64 (o.num), .int .i64 (o.gen), .str o.str, .sl (strsAV o.keys), .sl (objsAV o.kids)]), (1, .cells [.int .i64 0, .int .i64 0, .int .i64 0, .str [], .raw (.slice none 0 0), .raw (.slice none 0 0)]), (2, .row 6 (objsAV (swaps fr to (o.kids.take s_.1))) true)]) 3 (fun s_ => o.kids.length - s_.1) ⟨0, Nat.zero_le _⟩ ?_ ?_
      · refine St.le.vw [0, 1, 2]
      rintro ⟨i, hi⟩
      try dsimp only at hi
      refine AW.rS ?_
      refine AW.seq ?_
      refine AW.c2 ?_ ?_
      · intro h80
        have hkb := Pob.bulk_kid (o := o) (i := i) (by omega)
        have hsl := swaps_length fr to (o.kids.take i)
        have hss := swaps_snoc fr to (l := o.kids) (i := i) (by omega)
        have hs2 := congrArg List.length hss
        rw [List.length_append, List.length_singleton] at hs2
        have htl : (o.kids.take i).length ≤ o.kids.length := by rw [List.length_take]; omega
        refine AW.skip ?_
        refine AW.seq ?_
        refine AW.block ?_
        refine AW.rS ?_
        refine AW.rLC ?_
        refine awOps.cons (awGuard.c1 (ih (o.kids.getD i Pob.null) (Nat.lt_of_lt_of_le hkb ho)) ?_)
        refine awOps.rn ?_
        refine AW.rL ?_
        refine ⟨⟨i + 1, by omega⟩, ?_, ?_⟩
        · refine St.le.vx [0, 1, 5] ?_
          rw [hss]
        · simp only []; omega
      · intro h80
        refine AW.exit ?_
        refine AW.rS ?_
        refine AW.rS ?_
        refine AW.rt ?_
        obtain rfl : i = o.kids.length := by omega
        rw [List.take_length, Pob.swap_eq, hw.1, hw.2]
        first | exact ⟨by omega, rfl⟩ | rfl
  · intro h4
    have hw := sw_no (fr := fr) (to := to) (k := o.kind) (n := o.num) (g := o.gen) (by simp [swB, h4])
    refine AW.skip ?_
    refine AW.rS ?_
    refine AW.seq ?_
    refine AW.rS ?_
    refine AW.block ?_
    refine AW.pre (St.le.nilrow 9 6 (by (simp only [go_sem, seval]; try (simp (disch := omega) only [wrap_i64, wrap_u8, wrap_u64, tdiv_nn, tmod_nn, Int.toNat_natCast_add_one, toNat_sub1, Int.toNat_sub, Int.toNat_natCast, intsAV_getD, strsAV_getD, objsAV_getD, itemsAV_getD, intsAV_out, strsAV_out, objsAV_out, itemsAV_out, fillO_length, fillO_set]; try (simp only [go_sem, seval]; try (simp (disch := omega) only [wrap_i64, wrap_u8, wrap_u64, tdiv_nn, tmod_nn, Int.toNat_natCast_add_one, toNat_sub1, Int.toNat_sub, Int.toNat_natCast, intsAV_getD, strsAV_getD, objsAV_getD, itemsAV_getD, intsAV_out, strsAV_out, objsAV_out, itemsAV_out, fillO_length, fillO_set]; try simp only [go_sem, seval])))))) ?_
    refine wk ?_
    refine AW.lk (S := { i : Nat // i ≤ o.kids.length }) [1, 2, 3, 6, 38, 39] (fun s_ => [(9, .row 2 0 (swaps fr to (o.kids.take s_.1)).length), (40, .int .i64 s_.1)]) (fun s_ => [(0, .cells [.int .i64 o.kind, .int .i64 (o.num), .int .i64 (o.gen), .str o.str, .sl (strsAV o.keys), .sl (objsAV o.kids)]), (1, .cells [.int .i64 0, .int .i64 0, .int .i64 0, .str [], .raw (.slice none 0 0), .raw (.slice none 0 0)]), (2, .row 6 (objsAV (swaps fr to (o.kids.take s_.1))) true)]) 3 (fun s_ => o.kids.length - s_.1) ⟨0, Nat.zero_le _⟩ ?_ ?_
    · refine St.le.vw [0, 1, 2]
    rintro ⟨i, hi⟩
    try dsimp only at hi
    refine AW.rS ?_
    refine AW.seq ?_
    refine AW.c2 ?_ ?_
    · intro h103
      have hkb := Pob.bulk_kid (o := o) (i := i) (by omega)
      have hsl := swaps_length fr to (o.kids.take i)
      have hss := swaps_snoc fr to (l := o.kids) (i := i) (by omega)
      have hs2 := congrArg List.length hss
      rw [List.length_append, List.length_singleton] at hs2
      have htl : (o.kids.take i).length ≤ o.kids.length := by rw [List.length_take]; omega
      refine AW.skip ?_
      refine AW.seq ?_
      refine AW.block ?_
      refine AW.rS ?_
      refine AW.rLC ?_
      refine awOps.cons (awGuard.c1 (ih (o.kids.getD i Pob.null) (Nat.lt_of_lt_of_le hkb ho)) ?_)
      refine awOps.rn ?_
      refine AW.rL ?_
      refine ⟨⟨i + 1, by omega⟩, ?_, ?_⟩
      · refine St.le.vx [0, 1, 5] ?_
        rw [hss]
      · simp only []; omega
    · intro h103
      refine AW.exit ?_
      refine AW.rS ?_
      refine AW.rS ?_
      refine AW.rt ?_
      obtain rfl : i = o.kids.length := by omega
      rw [List.take_length, Pob.swap_eq, hw.1, hw.2]
      first | exact ⟨by omega, rfl⟩ | rfl
theorem rswap_all (gl : List (Nat × AV)) (fr to : List Int) (hf : fr.length ≤ 16777216) (ht : to.length ≤ 16777216) (N : Nat) : N ≤ 16777216 → ∀ o : Pob, o.bulk ≤ N → FnP Tryz.prog gl 69 [.agg o.cells, .sl (intsAV fr), .sl (intsAV to)] fun r => r = .ret (.agg (o.swap fr to).cells) := by
  induction N using Nat.strongRecOn with
  | ind N IH => exact fun hN o ho => rswap_step gl N fr to hf ht hN (fun o' h => IH o'.bulk h (by omega) o' (Nat.le_refl _)) o ho
theorem c_foliantref05_Swap (gl : List (Nat × AV)) (o : Pob) (fr to : List Int) (h : o.bulk ≤ 16777216) (hf : fr.length ≤ 16777216) (ht : to.length ≤ 16777216) : FnP Tryz.prog gl 69 [.agg o.cells, .sl (intsAV fr), .sl (intsAV to)] fun r => r = .ret (.agg (o.swap fr to).cells) := rswap_all gl fr to hf ht 16777216 (Nat.le_refl _) o h
end Go.Proofs

namespace Go.Proofs
open Go Aw
set_option linter.unusedSimpArgs false
set_option linter.unusedVariables false
set_option maxRecDepth 100000
set_option maxHeartbeats 4000000
attribute [local go_sem] take_strsAV drop_strsAV app_strsAV app1_strsAV take_intsAV drop_intsAV app_intsAV app1_intsAV take_objsAV drop_objsAV app_objsAV app1_objsAV

theorem c_foliantref05_Dict (gl : List (Nat × AV)) (ps : List Pob) (h : ps.length + tots ps ≤ 4000000) : FnP Tryz.prog (gl) 50 [.sl (objsAV ps)] fun r => r = .ret (.tup [.agg (dictO ps).cells, .int .i64 (dictE ps)]) := by
  refine FnP.intro Tryz.func50 rfl rfl (by simp [Tryz.ntmps50]) ?_
  simp only [argEnv, Tryz.ntmps50, Tryz.results50]
  have hbts := bulks_tots ps
  refine AW.rS ?_
  refine AW.seq ?_
  refine AW.rS ?_
  refine AW.c2 ?_ ?_
  · intro h4
    refine AW.rS ?_
    refine AW.rt ?_
    have ha := dict_arg (ps := ps) (by simp only [dictArg, Bool.and_eq_false_iff, decide_eq_false_iff_not]; exact .inl (by omega))
    rw [ha.1, ha.2]; rfl
  · intro h4
    refine AW.skip ?_
    refine AW.seq ?_
    refine AW.rS ?_
    refine AW.block ?_
    refine AW.lk (S := { i : Nat // i % 2 = 0 ∧ i ≤ ps.length ∧ ∀ j, j < i → j % 2 = 0 → (ps.getD j Pob.null).kind = 5 }) [0, 2] (fun s_ => [(4, .int .i64 s_.1)]) (fun s_ => [(0, .cells [.int .i64 0, .int .i64 0, .int .i64 0, .str [], .raw (.slice none 0 0), .raw (.slice none 0 0)])]) 1 (fun s_ => ps.length - s_.1) ⟨0, rfl, Nat.zero_le _, fun j h => absurd h (by omega)⟩ ?_ ?_
    · refine St.le.vw [0]
    rintro ⟨i, hi0, hi, hs⟩
    try dsimp only at hi0
    try dsimp only at hi
    try dsimp only at hs
    refine AW.seq ?_
    refine AW.rS ?_
    refine AW.c2 ?_ ?_
    · intro h15
      refine AW.skip ?_
      refine AW.seq ?_
      refine AW.block ?_
      refine AW.rS ?_
      refine AW.c2 ?_ ?_
      · intro h20
        refine AW.rS ?_
        refine AW.rt ?_
        have ha := dict_arg (ps := ps) (by simp only [dictArg, Bool.and_eq_false_iff, decide_eq_false_iff_not]; exact .inr (fun hh => h20 (hh i h15 hi0)))
        rw [ha.1, ha.2]; rfl
      · intro h20
        refine AW.skip ?_
        refine AW.rL ?_
        refine ⟨⟨i + 2, by omega, by omega, fun j hj h2 => by exact (Nat.lt_or_ge j i).elim (fun h => hs j h h2) (fun h => (show j = i by omega) ▸ h20)⟩, ?_, ?_⟩
        · refine St.le.vw [0]
        · simp only []; omega
    · intro h15
      refine AW.exit ?_
      refine AW.rS ?_
      refine AW.seq ?_
      refine AW.rS ?_
      refine AW.block ?_
      refine AW.nilc 1 4 ?_
      refine AW.nilc 1 5 ?_
      refine wk ?_
      have harg : dictArg ps = true := by
        simp only [dictArg, Bool.and_eq_true, decide_eq_true_eq]
        exact ⟨by omega, fun j hj h2 => hs j (by omega) h2⟩
      refine AW.lk (S := { p : Nat × List (List UInt8) × Pob // p.1 % 2 = 0 ∧ p.1 ≤ ps.length ∧ p.2.2.keys.length = p.2.2.kids.length ∧ p.2.2.tot ≤ 7 + tots (ps.take p.1) ∧ dictL ps [] dict0 = dictL (ps.drop p.1) p.2.1 p.2.2 ∧ ∀ x, x ∈ p.2.1 ↔ ∃ j, j < p.1 ∧ j % 2 = 0 ∧ (ps.getD j Pob.null).str = x }) [0, 2, 5] (fun s_ => [(6, .int .i64 s_.1.1)]) (fun s_ => [(0, .cells [.int .i64 0, .int .i64 0, .int .i64 0, .str [], .raw (.slice none 0 0), .raw (.slice none 0 0)]), (1, .cells [.int .i64 s_.1.2.2.kind, .int .i64 s_.1.2.2.num, .int .i64 s_.1.2.2.gen, .str s_.1.2.2.str, .sl (strsAV s_.1.2.2.keys), .sl (objsAV s_.1.2.2.kids)])]) 2 (fun s_ => ps.length - s_.1.1) ⟨(0, [], dict0), rfl, Nat.zero_le _, rfl, by simp [dict0, Pob.tot, tots], rfl, fun x => ⟨fun h => (by cases h), fun ⟨j, h, _⟩ => absurd h (by omega)⟩⟩ ?_ ?_
      · refine St.le.vw [0, 1]
      rintro ⟨⟨i, met, q⟩, hk0, hk1, hk3, hk4, hk5, hk6⟩
      try dsimp only at hk0
      try dsimp only at hk1
      try dsimp only at hk3
      try dsimp only at hk4
      try dsimp only at hk5
      try dsimp only at hk6
      refine AW.seq ?_
      refine AW.rS ?_
      refine AW.c2 ?_ ?_
      · intro h35
        have hb2 := tots_take2 (ps := ps) (i := i) (by omega)
        have hb3 := tots_takele ps (i + 2)
        have hts := Pob.tot_str (ps.getD i Pob.null)
        have hbq := Pob.bulk_tot q
        have hw := withK_tot q (ps.getD i Pob.null).str (ps.getD (i + 1) Pob.null)
        have hn := withK_len (key := (ps.getD i Pob.null).str) (v := ps.getD (i + 1) Pob.null) hk3
        have hmem : ∀ x, x ∈ setAdd met (ps.getD i Pob.null).str ↔ ∃ j, j < i + 2 ∧ j % 2 = 0 ∧ (ps.getD j Pob.null).str = x := by
          intro x
          rw [setAdd_mem, hk6]
          constructor
          · rintro (⟨j, h1, h2, h3⟩ | rfl)
            · exact ⟨j, by omega, h2, h3⟩
            · exact ⟨i, by omega, hk0, rfl⟩
          · rintro ⟨j, h1, h2, h3⟩
            by_cases e : j < i
            · exact .inl ⟨j, e, h2, h3⟩
            · obtain rfl : j = i := by omega
              exact .inr h3.symm
        refine AW.skip ?_
        refine AW.seq ?_
        refine AW.block ?_
        refine AW.seq ?_
        refine AW.rS ?_
        refine AW.block ?_
        refine AW.lk (S := { k : Nat // k % 2 = 0 ∧ k ≤ i ∧ ∀ j, j < k → j % 2 = 0 → (ps.getD j Pob.null).str ≠ (ps.getD i Pob.null).str }) [0, 2, 5, 6] (fun s_ => [(7, .int .i64 s_.1)]) (fun s_ => [(0, .cells [.int .i64 0, .int .i64 0, .int .i64 0, .str [], .raw (.slice none 0 0), .raw (.slice none 0 0)]), (1, .cells [.int .i64 q.kind, .int .i64 q.num, .int .i64 q.gen, .str q.str, .sl (strsAV q.keys), .sl (objsAV q.kids)])]) 2 (fun s_ => i - s_.1) ⟨0, rfl, Nat.zero_le _, fun j h => absurd h (by omega)⟩ ?_ ?_
        · refine St.le.vw [0, 1]
        rintro ⟨k, hm0, hm1, hm2⟩
        try dsimp only at hm0
        try dsimp only at hm1
        try dsimp only at hm2
        refine AW.seq ?_
        refine AW.rS ?_
        refine AW.c2 ?_ ?_
        · intro h45
          refine AW.skip ?_
          refine AW.seq ?_
          refine AW.block ?_
          refine AW.fS [0, 1, 2, 3, 4, 5, 6, 7, 8, 9, 10] [] ?_
          refine awFun.rn ?_
          rw [Aw.awFun_nil, Aw.awPlan_nil]
          refine AW.c2 ?_ ?_
          · intro h52
            refine AW.rS ?_
            refine AW.rt ?_
            have hd := dict_twice harg (by rw [hk5, dictL_drop (by omega), if_pos ((hk6 _).2 ⟨k, by omega, hm0, h52⟩)])
            rw [hd.1, hd.2]; rfl
          · intro h52
            refine AW.skip ?_
            refine AW.rL ?_
            refine ⟨⟨k + 2, by omega, by omega, fun j hj h2 => by exact (Nat.lt_or_ge j k).elim (fun h => hm2 j h h2) (fun h => (show j = k by omega) ▸ h52)⟩, ?_, ?_⟩
            · refine St.le.vw [0, 1]
            · simp only []; omega
        · intro h45
          have hnm : (ps.getD i Pob.null).str ∉ met := fun hx => by
            obtain ⟨j, h1, h2, h3⟩ := (hk6 _).1 hx
            exact hm2 j (by omega) h2 h3
          refine AW.exit ?_
          refine AW.rS ?_
          refine AW.c2 ?_ ?_
          · intro h61
            refine AW.fL [0, 1, 2, 3, 4, 5, 6, 7, 8, 9, 10, 11] [(12, 2)] ?_
            refine awFun.rn ?_
            refine awFun.c1 [57, 62, 67] (c_foliantref05_put _ q (ps.getD i Pob.null).str (ps.getD (i + 1) Pob.null) (by omega) hk3) ?_
            refine awFun.rn ?_
            rw [Aw.awFun_nil]
            refine awPlan.rn ?_
            refine AW.rL ?_
            refine ⟨⟨(i + 2, setAdd met (ps.getD i Pob.null).str, q.withK (ps.getD i Pob.null).str (ps.getD (i + 1) Pob.null)), by dsimp only; omega, by dsimp only; omega, hn, by dsimp only; omega, by rw [hk5, dictL_drop (by omega), if_neg hnm, if_pos h61], hmem⟩, ?_, ?_⟩
            · refine St.le.vw [0, 1]
            · simp only []; omega
          · intro h61
            refine AW.skip ?_
            refine AW.rL ?_
            refine ⟨⟨(i + 2, setAdd met (ps.getD i Pob.null).str, q), by dsimp only; omega, by dsimp only; omega, hk3, by dsimp only; omega, by rw [hk5, dictL_drop (by omega), if_neg hnm, if_neg (by simpa using h61)], hmem⟩, ?_, ?_⟩
            · refine St.le.vw [0, 1]
            · simp only []; omega
      · intro h35
        refine AW.exit ?_
        have hd := dict_some harg (o := q) (by rw [hk5, List.drop_of_length_le (by omega)]; simp [dictL])
        refine AW.rSC ?_
        refine awOps.cons (awGuard.c1 (c_foliantref05_right _ q (by have := tots_takele ps i; omega)) ?_)
        refine awOps.rn ?_
        refine AW.rt ?_
        rw [hd.1, hd.2]
end Go.Proofs
