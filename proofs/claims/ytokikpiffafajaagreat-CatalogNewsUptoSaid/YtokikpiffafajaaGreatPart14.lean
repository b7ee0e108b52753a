/- A part of the proof of a law of the seat: no condition of its own. -/
import Derived.Test.YtokikpiffafajaaGreatPart13
namespace Go.Proofs
open Go Aw
set_option linter.unusedSimpArgs false
set_option linter.unusedVariables false
set_option maxRecDepth 100000
set_option maxHeartbeats 2000000
attribute [local go_sem] take_strsAV drop_strsAV app_strsAV app1_strsAV take_intsAV drop_intsAV app_intsAV app1_intsAV take_objsAV drop_objsAV app_objsAV app1_objsAV

theorem kidR_zero (l : List Pob) (s : List Int) : kidR (l.take 0) s = s := rfl
theorem intsAV_one (n : Int) : intsAV [n] = [[.int .i64 n]] := rfl
attribute [local go_sem] kidR_zero intsAV_one
theorem rrefs_step (gl : List (Nat × AV)) (N : Nat) (hN : N ≤ 8000000) (ih : ∀ o' : Pob, o'.bulk < N → FnP Tryz.prog gl 63 [.agg o'.cells] fun r => r = .ret (.sl (intsAV (refsO o')))) (o : Pob) (ho : o.bulk ≤ N) : FnP Tryz.prog (gl) 63 [.agg o.cells] fun r => r = .ret (.sl (intsAV (refsO o))) := by
  refine FnP.intro Tryz.func63 rfl rfl (by simp [Tryz.ntmps63]) ?_
  simp only [argEnv, Tryz.ntmps63, Tryz.results63]
  have hb := Pob.bulk_eq o
  refine AW.rS ?_
  refine AW.rS ?_
  refine AW.seq ?_
  refine AW.rS ?_
  refine AW.c2 ?_ ?_
  · intro h5
    have hro : refB o = true := by simp [refB, h5.1.1, h5.1.2, h5.2]
    have how : ownR o = [o.num] := by rw [ownR, if_pos hro]
    refine AW.rL ?_
    refine AW.seq ?_
    refine AW.rS ?_
    refine AW.block ?_
    refine AW.clo 3 ?_
    refine wk ?_
    refine AW.lk (S := { i : Nat // i ≤ o.kids.length }) [25, 26] (fun s_ => [(3, .sl (intsAV (kidR (o.kids.take s_.1) [o.num]))), (27, .int .i64 s_.1)]) (fun s_ => []) 0 (fun s_ => o.kids.length - s_.1) ⟨0, Nat.zero_le _⟩ ?_ ?_
    · refine St.le.vw []
    rintro ⟨i, hi⟩
    try dsimp only at hi
    refine AW.rS ?_
    refine AW.seq ?_
    refine AW.c2 ?_ ?_
    · intro h13
      have hkb := Pob.bulk_kid (o := o) (i := i) (by omega)
      have hrl := refs_len (o.kids.getD i Pob.null)
      have hkl := kidR_len (o.kids.take i) [o.num]
      have hbt := bulks_takele o.kids i
      have hol : [o.num].length ≤ 1 := by simp
      have hks := kidR_succ (l := o.kids) (i := i) (by omega) [o.num]
      refine AW.skip ?_
      refine AW.seq ?_
      refine AW.block ?_
      refine AW.rS ?_
      refine AW.rSC ?_
      refine awOps.cons (awGuard.c1 (ih (o.kids.getD i Pob.null) (Nat.lt_of_lt_of_le hkb ho)) ?_)
      refine awOps.rn ?_
      refine AW.block ?_
      refine AW.lk (S := { j : Nat // j ≤ (refsO (o.kids.getD i Pob.null)).length }) [25, 26, 27, 32, 33] (fun s_ => [(3, .sl (intsAV (((refsO (o.kids.getD i Pob.null)).take s_.1).foldl numIns (kidR (o.kids.take i) [o.num])))), (34, .int .i64 s_.1)]) (fun s_ => []) 0 (fun s_ => (refsO (o.kids.getD i Pob.null)).length - s_.1) ⟨0, Nat.zero_le _⟩ ?_ ?_
      · refine St.le.vw []
      rintro ⟨j, hj⟩
      try dsimp only at hj
      refine AW.rS ?_
      refine AW.seq ?_
      refine AW.c2 ?_ ?_
      · intro h25
        have hfl := foldN_len ((refsO (o.kids.getD i Pob.null)).take j) (kidR (o.kids.take i) [o.num])
        have hfs := foldN_succ (l := refsO (o.kids.getD i Pob.null)) (i := j) (by omega) (kidR (o.kids.take i) [o.num])
        have htl : ((refsO (o.kids.getD i Pob.null)).take j).length ≤ (refsO (o.kids.getD i Pob.null)).length := by rw [List.length_take]; omega
        refine AW.skip ?_
        refine AW.seq ?_
        refine AW.block ?_
        refine AW.rS ?_
        refine AW.rLC ?_
        refine awOps.cons (awGuard.c1 (c_foliantref05_Num _ (((refsO (o.kids.getD i Pob.null)).take j).foldl numIns (kidR (o.kids.take i) [o.num])) ((refsO (o.kids.getD i Pob.null)).getD j 0) (by omega)) ?_)
        refine awOps.rn ?_
        refine AW.rL ?_
        rw [← hfs]
        refine ⟨⟨j + 1, by omega⟩, ?_, ?_⟩
        · refine St.le.vw []
        · simp only []; omega
      · intro h25
        refine AW.exit ?_
        refine AW.rL ?_
        obtain rfl : j = (refsO (o.kids.getD i Pob.null)).length := by omega
        rw [List.take_length, ← hks]
        refine ⟨⟨i + 1, by omega⟩, ?_, ?_⟩
        · refine St.le.vw []
        · simp only []; omega
    · intro h13
      refine AW.exit ?_
      refine AW.rS ?_
      refine AW.rt ?_
      obtain rfl : i = o.kids.length := by omega
      rw [List.take_length, ← how, kidR_all]
  · intro h5
    have hro : refB o = false := by
      simp only [refB, Bool.and_eq_false_iff, decide_eq_false_iff_not]
      omega
    have how : ownR o = [] := by rw [ownR, if_neg (by simp [hro])]
    refine AW.skip ?_
    refine AW.seq ?_
    refine AW.rS ?_
    refine AW.block ?_
    refine AW.pre (St.le.nilrow 3 1 (by (simp only [go_sem, seval]; try (simp (disch := omega) only [zqa, zqb, zqc, zqd, zqe, zqf, zqg, zqh, zqi, zqj, zqk, zql, zqm, zqn, zqo, zqp, zqq, zqr, zqs]; try (simp only [go_sem, seval]; try (simp (disch := omega) only [zqa, zqb, zqc, zqd, zqe, zqf, zqg, zqh, zqi, zqj, zqk, zql, zqm, zqn, zqo, zqp, zqq, zqr, zqs]; try simp only [go_sem, seval])))))) ?_
    refine wk ?_
    refine AW.clo 3 ?_
    refine wk ?_
    refine AW.lk (S := { i : Nat // i ≤ o.kids.length }) [25, 26] (fun s_ => [(3, .sl (intsAV (kidR (o.kids.take s_.1) ([] : List Int)))), (27, .int .i64 s_.1)]) (fun s_ => []) 0 (fun s_ => o.kids.length - s_.1) ⟨0, Nat.zero_le _⟩ ?_ ?_
    · refine St.le.vw []
    rintro ⟨i, hi⟩
    try dsimp only at hi
    refine AW.rS ?_
    refine AW.seq ?_
    refine AW.c2 ?_ ?_
    · intro h49
      have hkb := Pob.bulk_kid (o := o) (i := i) (by omega)
      have hrl := refs_len (o.kids.getD i Pob.null)
      have hkl := kidR_len (o.kids.take i) ([] : List Int)
      have hbt := bulks_takele o.kids i
      have hol : ([] : List Int).length ≤ 1 := by simp
      have hks := kidR_succ (l := o.kids) (i := i) (by omega) ([] : List Int)
      refine AW.skip ?_
      refine AW.seq ?_
      refine AW.block ?_
      refine AW.rS ?_
      refine AW.rSC ?_
      refine awOps.cons (awGuard.c1 (ih (o.kids.getD i Pob.null) (Nat.lt_of_lt_of_le hkb ho)) ?_)
      refine awOps.rn ?_
      refine AW.block ?_
      refine AW.lk (S := { j : Nat // j ≤ (refsO (o.kids.getD i Pob.null)).length }) [25, 26, 27, 32, 33] (fun s_ => [(3, .sl (intsAV (((refsO (o.kids.getD i Pob.null)).take s_.1).foldl numIns (kidR (o.kids.take i) ([] : List Int))))), (34, .int .i64 s_.1)]) (fun s_ => []) 0 (fun s_ => (refsO (o.kids.getD i Pob.null)).length - s_.1) ⟨0, Nat.zero_le _⟩ ?_ ?_
      · refine St.le.vw []
      rintro ⟨j, hj⟩
      try dsimp only at hj
      refine AW.rS ?_
      refine AW.seq ?_
      refine AW.c2 ?_ ?_
      · intro h61
        have hfl := foldN_len ((refsO (o.kids.getD i Pob.null)).take j) (kidR (o.kids.take i) ([] : List Int))
        have hfs := foldN_succ (l := refsO (o.kids.getD i Pob.null)) (i := j) (by omega) (kidR (o.kids.take i) ([] : List Int))
        have htl : ((refsO (o.kids.getD i Pob.null)).take j).length ≤ (refsO (o.kids.getD i Pob.null)).length := by rw [List.length_take]; omega
        refine AW.skip ?_
        refine AW.seq ?_
        refine AW.block ?_
        refine AW.rS ?_
        refine AW.rLC ?_
        refine awOps.cons (awGuard.c1 (c_foliantref05_Num _ (((refsO (o.kids.getD i Pob.null)).take j).foldl numIns (kidR (o.kids.take i) ([] : List Int))) ((refsO (o.kids.getD i Pob.null)).getD j 0) (by omega)) ?_)
        refine awOps.rn ?_
        refine AW.rL ?_
        rw [← hfs]
        refine ⟨⟨j + 1, by omega⟩, ?_, ?_⟩
        · refine St.le.vw []
        · simp only []; omega
      · intro h61
        refine AW.exit ?_
        refine AW.rL ?_
        obtain rfl : j = (refsO (o.kids.getD i Pob.null)).length := by omega
        rw [List.take_length, ← hks]
        refine ⟨⟨i + 1, by omega⟩, ?_, ?_⟩
        · refine St.le.vw []
        · simp only []; omega
    · intro h49
      refine AW.exit ?_
      refine AW.rS ?_
      refine AW.rt ?_
      obtain rfl : i = o.kids.length := by omega
      rw [List.take_length, ← how, kidR_all]
theorem rrefs_all (gl : List (Nat × AV)) (N : Nat) : N ≤ 8000000 → ∀ o : Pob, o.bulk ≤ N → FnP Tryz.prog gl 63 [.agg o.cells] fun r => r = .ret (.sl (intsAV (refsO o))) := by
  induction N using Nat.strongRecOn with
  | ind N IH => exact fun hN o ho => rrefs_step gl N hN (fun o' h => IH o'.bulk h (by omega) o' (Nat.le_refl _)) o ho
theorem c_foliantref05_Refs (gl : List (Nat × AV)) (o : Pob) (h : o.bulk ≤ 8000000 := by first | assumption | omega) : FnP Tryz.prog gl 63 [.agg o.cells] fun r => r = .ret (.sl (intsAV (refsO o))) := rrefs_all gl 8000000 (Nat.le_refl _) o h
end Go.Proofs

namespace Go.Proofs
open Go Aw
set_option linter.unusedSimpArgs false
set_option linter.unusedVariables false
set_option maxRecDepth 100000
set_option maxHeartbeats 2000000
attribute [local go_sem] take_strsAV drop_strsAV app_strsAV app1_strsAV take_intsAV drop_intsAV app_intsAV app1_intsAV take_objsAV drop_objsAV app_objsAV app1_objsAV

theorem c_foliantref19_Hold (gl : List (Nat × AV)) (o : Pob) (h : o.bulk ≤ 16777216) : FnP Tryz.prog (gl) 102 [.agg o.cells] fun r => r = .ret (.bool (holdsB o)) := by
  refine FnP.intro Tryz.func102 rfl rfl (by simp [Tryz.ntmps102]) ?_
  simp only [argEnv, Tryz.ntmps102, Tryz.results102]
  refine AW.rS ?_
  refine AW.rSC ?_
  refine awOps.cons (awGuard.c1 (c_foliantref05_Get _ o typeK h) ?_)
  refine awOps.rn ?_
  refine AW.rS ?_
  refine AW.rt ?_
  rw [hold_ref]
  simp [Bool.cond_false_right, Bool.and_assoc]
theorem c_foliantref19_obj (gl : List (Nat × AV)) (i : Itm) (h : i.obj.tot ≤ 16777216) : FnP Tryz.prog (gl) 70 [.agg i.cells] fun r => r = .ret (.int .i64 (contentE i)) := by
  refine FnP.intro Tryz.func70 rfl rfl (by simp [Tryz.ntmps70]) ?_
  simp only [argEnv, Tryz.ntmps70, Tryz.results70]
  have hb := Pob.bulk_tot i.obj
  refine AW.rS ?_
  refine AW.seq ?_
  refine AW.rSC ?_
  refine awOps.cons (awGuard.c1 (c_foliantref05_Check _ i.obj h) ?_)
  refine awOps.rn ?_
  refine AW.rS ?_
  refine AW.c2 ?_ ?_
  · intro h7
    refine AW.rS ?_
    refine AW.rt ?_
    rw [content_bad h7]
  · intro h7
    refine AW.skip ?_
    refine AW.seq ?_
    refine AW.rSC ?_
    refine awOps.cons (awGuard.cG (fun hg => c_foliantref19_Hold _ i.obj (by omega)) ?_)
    refine awOps.rn ?_
    refine AW.c2 ?_ ?_
    · intro h16
      refine AW.rS ?_
      refine AW.rt ?_
      rw [content_knd h7 h16]
    · intro h16
      refine AW.skip ?_
      refine AW.rS ?_
      refine AW.rt ?_
      rw [content_fine h7 (by rintro (h' | h'); exact h16.1 h'; rw [h16.2] at h'; cases h')]
theorem c_foliantref19_item (gl : List (Nat × AV)) (i : Itm) (h : i.obj.tot ≤ 16777216) : FnP Tryz.prog (gl) 86 [.agg i.cells] fun r => r = .ret (.int .i64 (aloneE i)) := by
  refine FnP.intro Tryz.func86 rfl rfl (by simp [Tryz.ntmps86]) ?_
  simp only [argEnv, Tryz.ntmps86, Tryz.results86]
  refine AW.rS ?_
  refine AW.seq ?_
  refine AW.rS ?_
  refine AW.c2 ?_ ?_
  · intro h4
    refine AW.rS ?_
    refine AW.rt ?_
    rw [aloneE, if_pos (nums_no h4)]
  · intro h4
    refine AW.skip ?_
    refine AW.rSC ?_
    refine awOps.cons (awGuard.c1 (c_foliantref19_obj _ i h) ?_)
    refine awOps.rn ?_
    refine AW.rt ?_
    rw [aloneE, if_neg (by rw [nums_yes h4]; simp)]
theorem c_foliantref19_Items (gl : List (Nat × AV)) (l : List Itm) (h : itots l ≤ 16777216) : FnP Tryz.prog (gl) 38 [.sl (itemsAV l)] fun r => r = .ret (.int .i64 (itemsE l)) := by
  refine FnP.intro Tryz.func38 rfl rfl (by simp [Tryz.ntmps38]) ?_
  simp only [argEnv, Tryz.ntmps38, Tryz.results38]
  have hlen := itots_len l
  refine AW.rS ?_
  refine AW.seq ?_
  refine AW.rS ?_
  refine AW.block ?_
  refine AW.lk (S := { k : Nat // k ≤ l.length ∧ itemsE l = itemsFrom l k (l.length - k) }) [0, 6, 7] (fun s_ => [(8, .int .i64 s_.1)]) (fun s_ => []) 0 (fun s_ => l.length - s_.1) ⟨0, Nat.zero_le _, rfl⟩ ?_ ?_
  · refine St.le.vw []
  rintro ⟨k, hk, hs⟩
  try dsimp only at hk
  try dsimp only at hs
  refine AW.rS ?_
  refine AW.seq ?_
  refine AW.c2 ?_ ?_
  · intro h8
    have hgb := itots_get (l := l) (i := k) (by omega)
    refine AW.skip ?_
    refine AW.seq ?_
    refine AW.block ?_
    refine AW.rS ?_
    refine AW.seq ?_
    refine AW.rS ?_
    refine AW.c2 ?_ ?_
    · intro h15
      refine AW.rS ?_
      refine AW.rt ?_
      rw [hs, itemsFrom_step h8, if_pos (nums_no h15)]
    · intro h15
      refine AW.skip ?_
      refine AW.seq ?_
      refine AW.dS [(0, 0), (1, 0), (2, 0), (3, 0), (4, 1), (5, 0), (6, 0), (7, 0), (8, 1), (9, 0), (10, 1), (11, 0), (12, 0)] ?_
      refine AW.c2 ?_ ?_
      · intro h22
        refine AW.rS ?_
        refine AW.rt ?_
        rw [hs, itemsFrom_step h8, if_neg (by rw [nums_yes h15]; simp), if_pos (by omega)]
      · intro h22
        refine AW.skip ?_
        refine AW.rSC ?_
        refine awOps.cons (awGuard.c1 (c_foliantref19_obj _ (l.getD k Itm.zero) (by omega)) ?_)
        refine awOps.rn ?_
        refine AW.rS ?_
        refine AW.c2 ?_ ?_
        · intro h31
          refine AW.rS ?_
          refine AW.rt ?_
          rw [hs, itemsFrom_step h8, if_neg (by rw [nums_yes h15]; simp), if_neg (by omega), if_pos h31]
        · intro h31
          refine AW.skip ?_
          refine AW.rL ?_
          refine ⟨⟨k + 1, by omega, by rw [hs, itemsFrom_step (by omega), if_neg (by rw [nums_yes h15]; simp), if_neg (by omega), if_neg (by simpa using h31)]⟩, ?_, ?_⟩
          · refine St.le.vw []
          · simp only []; omega
  · intro h8
    refine AW.exit ?_
    refine AW.rS ?_
    refine AW.rt ?_
    rw [hs, show l.length - k = 0 from by omega, itemsFrom]
theorem c_foliantref19_Get (gl : List (Nat × AV)) (d : Dc) (n : Int) (h : d.bulk ≤ 16777216) : FnP Tryz.prog (gl) 44 [.agg d.cells, .int .i64 n] fun r => r = .ret (.tup [.agg ((lookI d.items n).getD Itm.zero).cells, .bool (lookI d.items n).isSome]) := by
  refine FnP.intro Tryz.func44 rfl rfl (by simp [Tryz.ntmps44]) ?_
  simp only [argEnv, Tryz.ntmps44, Tryz.results44]
  have hlen := ibulk_len d.items
  have hdb : d.bulk = ibulk d.items + d.trailer.bulk := rfl
  refine AW.rS ?_
  refine AW.seq ?_
  refine AW.rS ?_
  refine AW.block ?_
  refine AW.lk (S := { i : Nat // i ≤ d.items.length ∧ ∀ j, j < i → (d.items.getD j Itm.zero).num ≠ n }) [1, 4, 9, 10] (fun s_ => [(11, .int .i64 s_.1)]) (fun s_ => [(0, .cells d.cells), (1, .cells [.int .i64 0, .int .i64 0, .int .i64 0, .int .i64 0, .int .i64 0, .str [], .raw (.slice none 0 0), .raw (.slice none 0 0)])]) 2 (fun s_ => d.items.length - s_.1) ⟨0, Nat.zero_le _, fun j h => absurd h (by omega)⟩ ?_ ?_
  · refine St.le.vw [0, 1]
  rintro ⟨i, hi, hs⟩
  try dsimp only at hi
  try dsimp only at hs
  refine AW.rS ?_
  refine AW.seq ?_
  refine AW.c2 ?_ ?_
  · intro h8
    refine AW.skip ?_
    refine AW.seq ?_
    refine AW.block ?_
    refine AW.rS ?_
    refine AW.rS ?_
    refine AW.c2 ?_ ?_
    · intro h14
      have hix := iidx_hit h8 hs h14
      refine AW.rS ?_
      refine AW.rt ?_
      rw [look_hit (by omega), hix]
      rfl
    · intro h14
      refine AW.skip ?_
      refine AW.rL ?_
      refine ⟨⟨i + 1, by omega, fun j hj => (Nat.lt_or_ge j i).elim (hs j) (fun h => (show j = i by omega) ▸ h14)⟩, ?_, ?_⟩
      · refine St.le.vw [0, 1]
      · simp only []; omega
  · intro h8
    refine AW.exit ?_
    refine AW.rS ?_
    refine AW.rt ?_
    have hix := iidx_miss (l := d.items) (n := n) (fun j hj => hs j (by omega))
    rw [look_miss (by omega)]
    rfl
theorem c_foliantref19_Follow (gl : List (Nat × AV)) (d : Dc) (o : Pob) (h : d.bulk ≤ 16777216) : FnP Tryz.prog (gl) 60 [.agg d.cells, .agg o.cells] fun r => r = .ret (.agg (followO d o).cells) := by
  refine FnP.intro Tryz.func60 rfl rfl (by simp [Tryz.ntmps60]) ?_
  simp only [argEnv, Tryz.ntmps60, Tryz.results60]
  have hlen := ibulk_len d.items
  have hdb : d.bulk = ibulk d.items + d.trailer.bulk := rfl
  refine AW.rS ?_
  refine AW.seq ?_
  refine AW.rS ?_
  refine AW.c2 ?_ ?_
  · intro h4
    refine AW.rS ?_
    refine AW.rt ?_
    rw [followO, if_pos h4]
  · intro h4
    refine AW.skip ?_
    refine AW.seq ?_
    refine AW.rS ?_
    refine AW.block ?_
    refine AW.lk (S := { i : Nat // i ≤ d.items.length ∧ ∀ j, j < i → (d.items.getD j Itm.zero).num ≠ o.num }) [3, 4, 12, 13] (fun s_ => [(14, .int .i64 s_.1)]) (fun s_ => [(0, .cells d.cells), (1, .cells o.cells), (2, .cells [.int .i64 0, .int .i64 0, .int .i64 0, .str [], .raw (.slice none 0 0), .raw (.slice none 0 0)])]) 3 (fun s_ => d.items.length - s_.1) ⟨0, Nat.zero_le _, fun j h => absurd h (by omega)⟩ ?_ ?_
    · refine St.le.vw [0, 1, 2]
    rintro ⟨i, hi, hs⟩
    try dsimp only at hi
    try dsimp only at hs
    refine AW.rS ?_
    refine AW.seq ?_
    refine AW.c2 ?_ ?_
    · intro h15
      refine AW.skip ?_
      refine AW.seq ?_
      refine AW.block ?_
      refine AW.rS ?_
      refine AW.rS ?_
      refine AW.c2 ?_ ?_
      · intro h21
        have hix := iidx_hit h15 hs h21
        refine AW.seq ?_
        refine AW.rS ?_
        refine AW.c2 ?_ ?_
        · intro h24
          refine AW.rS ?_
          refine AW.rt ?_
          rw [followO, if_neg (by simp [h4]), if_neg (by omega), hix]
          rw [if_pos (by simpa using h24)]
          rfl
        · intro h24
          refine AW.skip ?_
          refine AW.rS ?_
          refine AW.rt ?_
          rw [followO, if_neg (by simp [h4]), if_neg (by omega), hix]
          rw [if_neg (by simpa using h24)]
          rfl
      · intro h21
        refine AW.skip ?_
        refine AW.rL ?_
        refine ⟨⟨i + 1, by omega, fun j hj => (Nat.lt_or_ge j i).elim (hs j) (fun h => (show j = i by omega) ▸ h21)⟩, ?_, ?_⟩
        · refine St.le.vw [0, 1, 2]
        · simp only []; omega
    · intro h15
      refine AW.exit ?_
      refine AW.rS ?_
      refine AW.rt ?_
      have hix := iidx_miss (l := d.items) (n := o.num) (fun j hj => hs j (by omega))
      rw [followO, if_neg (by simp [h4]), if_pos (by omega)]
      rfl
theorem c_foliantref19_trail (gl : List (Nat × AV)) (d : Dc) (h : d.tot ≤ 16777216) : FnP Tryz.prog (gl) 39 [.agg d.cells] fun r => r = .ret (.int .i64 (trailE d)) := by
  refine FnP.intro Tryz.func39 rfl rfl (by simp [Tryz.ntmps39]) ?_
  simp only [argEnv, Tryz.ntmps39, Tryz.results39]
  have h0 := Dc.bulk_tot d
  have h1 : d.tot = itots d.items + d.trailer.tot := rfl
  have h2 := Pob.bulk_tot d.trailer
  have hkb := Pob.bulk_eq d.trailer
  have hrb := get_bulk d.trailer rootK
  refine AW.rS ?_
  refine AW.rS ?_
  refine AW.seq ?_
  refine AW.rSC ?_
  refine awOps.cons (awGuard.c1 (c_foliantref05_Check _ d.trailer (by omega)) ?_)
  refine awOps.rn ?_
  refine AW.rS ?_
  refine AW.c2 ?_ ?_
  · intro h8
    refine AW.rS ?_
    refine AW.rt ?_
    · rw [trail_bad h8]
    all_goals first | contradiction | rfl | (simp; done) | (simp; omega)
  · intro h8
    refine AW.skip ?_
    refine AW.seq ?_
    refine AW.rS ?_
    refine AW.c2 ?_ ?_
    · intro h15
      refine AW.rS ?_
      refine AW.rt ?_
      rw [trail_kind h8 h15]
    · intro h15
      refine AW.skip ?_
      refine AW.seq ?_
      refine AW.rS ?_
      refine AW.block ?_
      refine AW.lk (S := { i : Nat // i ≤ d.trailer.keys.length ∧ ∀ j, j < i → 0 ≤ kidxI trailK (d.trailer.keys.getD j []) }) [1, 3, 20, 21] (fun s_ => [(22, .int .i64 s_.1)]) (fun s_ => [(0, .cells d.cells), (1, .cells d.trailer.cells)]) 2 (fun s_ => d.trailer.keys.length - s_.1) ⟨0, Nat.zero_le _, fun j h => absurd h (by omega)⟩ ?_ ?_
      · refine St.le.vw [0, 1]
      rintro ⟨i, hi, hs⟩
      try dsimp only at hi
      try dsimp only at hs
      refine AW.rS ?_
      refine AW.seq ?_
      refine AW.c2 ?_ ?_
      · intro h26
        refine AW.skip ?_
        refine AW.seq ?_
        refine AW.block ?_
        refine AW.rS ?_
        refine AW.rS ?_
        refine AW.c2 ?_ ?_
        · intro h32
          refine AW.rS ?_
          refine AW.rt ?_
          rw [trail_key h8 h15 (fun hh => by have := (trail_idx _).1 (hh i h26); rcases this with e | e | e; exact h32.1.1 e; exact h32.1.2 e; exact h32.2 e)]
        · intro h32
          have hkx : 0 ≤ kidxI trailK (d.trailer.keys.getD i []) := (trail_idx _).2 (by rcases h32 with (e | e) | e; exact .inl e; exact .inr (.inl e); exact .inr (.inr e))
          refine AW.skip ?_
          refine AW.rL ?_
          refine ⟨⟨i + 1, by omega, fun j hj => (Nat.lt_or_ge j i).elim (hs j) (fun h => (show j = i by omega) ▸ hkx)⟩, ?_, ?_⟩
          · refine St.le.vw [0, 1]
          · simp only []; omega
      · intro h26
        refine AW.exit ?_
        have htk : trailOk d.trailer.keys := fun j hj => hs j (by omega)
        refine AW.rSC ?_
        refine awOps.cons (awGuard.c1 (c_foliantref05_Get _ d.trailer rootK (by omega)) ?_)
        refine awOps.rn ?_
        refine AW.seq ?_
        refine AW.rSC ?_
        refine awOps.cons (awGuard.cG (fun hg => c_foliantref19_Follow _ d (getO d.trailer rootK) (by omega)) ?_)
        refine awOps.rn ?_
        refine AW.c2 ?_ ?_
        · intro h47
          refine AW.rS ?_
          refine AW.rt ?_
          rw [trail_root h8 h15 htk, if_pos h47]
        · intro h47
          refine AW.skip ?_
          refine AW.rS ?_
          refine AW.rt ?_
          rw [trail_root h8 h15 htk, if_neg (by simp [h47])]
theorem c_foliantref19_Check (gl : List (Nat × AV)) (d : Dc) (h : d.tot ≤ 16777216) : FnP Tryz.prog (gl) 11 [.agg d.cells] fun r => r = .ret (.int .i64 (docE d)) := by
  refine FnP.intro Tryz.func11 rfl rfl (by simp [Tryz.ntmps11]) ?_
  simp only [argEnv, Tryz.ntmps11, Tryz.results11]
  have h1 : d.tot = itots d.items + d.trailer.tot := rfl
  refine AW.rS ?_
  refine AW.seq ?_
  refine AW.rSC ?_
  refine awOps.cons (awGuard.c1 (c_foliantref19_Items _ d.items (by omega)) ?_)
  refine awOps.rn ?_
  refine AW.rS ?_
  refine AW.c2 ?_ ?_
  · intro h7
    refine AW.rS ?_
    refine AW.rt ?_
    rw [doc_bad h7]
  · intro h7
    refine AW.skip ?_
    refine AW.rSC ?_
    refine awOps.cons (awGuard.c1 (c_foliantref19_trail _ d h) ?_)
    refine awOps.rn ?_
    refine AW.rt ?_
    rw [doc_trail h7]
end Go.Proofs

namespace Go.Proofs
open Go Aw
set_option linter.unusedSimpArgs false
set_option linter.unusedVariables false
set_option maxRecDepth 100000
set_option maxHeartbeats 2000000
attribute [local go_sem] take_strsAV drop_strsAV app_strsAV app1_strsAV take_intsAV drop_intsAV app_intsAV app1_intsAV take_objsAV drop_objsAV app_objsAV app1_objsAV

theorem app1_itemsAV (a : List Itm) (i : Itm) : itemsAV a ++ [[.int .i64 i.num, .int .i64 i.gen, .int .i64 i.obj.kind, .int .i64 i.obj.num, .int .i64 i.obj.gen, .str i.obj.str, .sl (strsAV i.obj.keys), .sl (objsAV i.obj.kids)]] = itemsAV (a ++ [i]) := by
  simp only [itemsAV, List.map_append, List.map_cons, List.map_nil]
  rfl
attribute [local go_sem] take_itemsAV drop_itemsAV app_itemsAV app1_itemsAV
theorem c_foliantref19_SameItems (gl : List (Nat × AV)) (a b : List Itm) (ha : ibulk a ≤ 16777216) : FnP Tryz.prog (gl) 37 [.sl (itemsAV a), .sl (itemsAV b)] fun r => r = .ret (.bool (decide (a = b))) := by
  refine FnP.intro Tryz.func37 rfl rfl (by simp [Tryz.ntmps37]) ?_
  simp only [argEnv, Tryz.ntmps37, Tryz.results37]
  have hla := ibulk_len a
  refine AW.rS ?_
  refine AW.seq ?_
  refine AW.rS ?_
  refine AW.c2 ?_ ?_
  · intro h4
    refine AW.rS ?_
    refine AW.rt ?_
    rw [decide_eq_false (fun e => h4 (by rw [e]))]
  · intro h4
    refine AW.skip ?_
    refine AW.seq ?_
    refine AW.rS ?_
    refine AW.block ?_
    refine AW.lk (S := { i : Nat // i ≤ a.length ∧ a.take i = b.take i }) [0, 1, 12] (fun s_ => [(13, .int .i64 s_.1)]) (fun s_ => []) 0 (fun s_ => a.length - s_.1) ⟨0, Nat.zero_le _, rfl⟩ ?_ ?_
    · refine St.le.vw []
    rintro ⟨i, hi, hs⟩
    try dsimp only at hi
    try dsimp only at hs
    refine AW.rS ?_
    refine AW.seq ?_
    refine AW.c2 ?_ ?_
    · intro h15
      have hga := ibulk_get (l := a) (i := i) (by omega)
      refine AW.skip ?_
      refine AW.seq ?_
      refine AW.block ?_
      refine AW.rS ?_
      refine AW.fS [0, 1, 2, 3, 4, 5, 6, 7, 8, 9] [] ?_
      refine awFun.rn ?_
      refine awFun.c1 [19, 23] (c_foliantref19_SameItem _ (a.getD i Itm.zero) (b.getD i Itm.zero) (by omega)) ?_
      refine awFun.rn ?_
      rw [Aw.awFun_nil, Aw.awPlan_nil]
      refine AW.c2 ?_ ?_
      · intro h25
        refine AW.rS ?_
        refine AW.rt ?_
        rw [decide_eq_false (fun e => h25 (by rw [e]))]
      · intro h25
        refine AW.skip ?_
        refine AW.rL ?_
        refine ⟨⟨i + 1, by omega, takeItm_succ h15 (by omega) hs h25⟩, ?_, ?_⟩
        · refine St.le.vw []
        · simp only []; omega
    · intro h15
      refine AW.exit ?_
      refine AW.rS ?_
      refine AW.rt ?_
      rw [List.take_of_length_le (by omega), List.take_of_length_le (by omega)] at hs
      simp [hs]
theorem c_foliantref19_Same (gl : List (Nat × AV)) (a b : Dc) (h : a.bulk ≤ 16777216) : FnP Tryz.prog (gl) 10 [.agg a.cells, .agg b.cells] fun r => r = .ret (.bool (decide (a = b))) := by
  refine FnP.intro Tryz.func10 rfl rfl (by simp [Tryz.ntmps10]) ?_
  simp only [argEnv, Tryz.ntmps10, Tryz.results10]
  simp only [Dc.bulk] at h
  refine AW.rS ?_
  refine AW.rSC ?_
  refine awOps.cons (awGuard.c1 (c_foliantref19_SameItems _ a.items b.items (by omega)) ?_)
  refine awOps.rn ?_
  refine awOps.cons (awGuard.cG (fun hg => c_foliantref05_Same _ a.trailer b.trailer (by omega)) ?_)
  refine awOps.rn ?_
  refine AW.rt ?_
  rw [show ∀ x y : Bool, x = y → AE.ret (.bool x) = AE.ret (.bool y) from fun _ _ h => by rw [h]]
  rw [Bool.eq_iff_iff]
  simp only [decide_eq_true_eq, Bool.cond_false_right, Bool.and_eq_true, Dc_eq a b]
theorem c_foliantref19_right (gl : List (Nat × AV)) (d : Dc) (h : d.tot ≤ 16777216) : FnP Tryz.prog (gl) 88 [.agg d.cells] fun r => r = .ret (.tup [.agg (if docE d = 0 then d else Dc.zero).cells, .int .i64 (docE d)]) := by
  refine FnP.intro Tryz.func88 rfl rfl (by simp [Tryz.ntmps88]) ?_
  simp only [argEnv, Tryz.ntmps88, Tryz.results88]
  refine AW.rS ?_
  refine AW.seq ?_
  refine AW.rSC ?_
  refine awOps.cons (awGuard.c1 (c_foliantref19_Check _ d h) ?_)
  refine awOps.rn ?_
  refine AW.rS ?_
  refine AW.c2 ?_ ?_
  · intro h7
    refine AW.rS ?_
    refine AW.rt ?_
    rw [if_neg h7]; rfl
  · intro h7
    refine AW.skip ?_
    refine AW.rS ?_
    refine AW.rt ?_
    rw [if_pos h7, h7]
theorem c_foliantref19_lay (gl : List (Nat × AV)) (l : List Itm) (i : Itm) (h : ibulk l ≤ 16777000) : FnP Tryz.prog (gl) 87 [.sl (itemsAV l), .agg i.cells] fun r => r = .ret (.sl (itemsAV (layI l i))) := by
  refine FnP.intro Tryz.func87 rfl rfl (by simp [Tryz.ntmps87]) ?_
  simp only [argEnv, Tryz.ntmps87, Tryz.results87]
  have hlen := ibulk_len l
  refine AW.rS ?_
  refine AW.rS ?_
  refine AW.seq ?_
  refine AW.block ?_
  refine AW.lk (S := { k : Nat // k ≤ l.length ∧ ∀ j, j < k → (l.getD j Itm.zero).num < i.num }) [0, 3] (fun s_ => [(5, .int .i64 s_.1)]) (fun s_ => [(0, .cells i.cells)]) 1 (fun s_ => l.length - s_.1) ⟨0, Nat.zero_le _, fun j h => absurd h (by omega)⟩ ?_ ?_
  · refine St.le.vw [0]
  rintro ⟨k, hk, hs⟩
  try dsimp only at hk
  try dsimp only at hs
  refine AW.seq ?_
  by_cases hs7 : k < l.length
  · skip
    refine AW.dS [(0, 0), (1, 0), (2, 1), (3, 0), (4, 0), (5, 0), (6, 0), (7, 1), (8, 0), (9, 1), (10, 0), (11, 1), (12, 0), (13, 0)] ?_
    refine AW.c2 ?_ ?_
    · intro h8
      refine AW.skip ?_
      refine AW.block ?_
      refine AW.rL ?_
      refine ⟨⟨k + 1, by omega, fun j hj => (Nat.lt_or_ge j k).elim (hs j) (fun h => (show j = k by omega) ▸ (by have := h8; simp at this; simpa using this.2))⟩, ?_, ?_⟩
      · refine St.le.vw [0]
      · simp only []; omega
    · intro h8
      have hp := iplace_eq (l := l) (n := i.num) hk hs (fun _ => by have := h8.elim (fun h => absurd hs7 h) id; omega)
      refine AW.exit ?_
      refine AW.tV (.take 1 0 (.take 2 0 (.take 3 0 (.fork 0 (.fork 4 (.fork 5 (.fork 6 (.fork 7 (.take 8 0 .done) .stop) .stop) .stop) (.fork 5 (.fork 4 (.fork 6 (.fork 7 (.take 8 0 .done) .stop) .stop) (.fork 6 (.fork 4 (.fork 7 (.take 8 0 .done) .stop) .stop) .stop)) .stop)) (.fork 5 (.fork 0 (.fork 4 (.fork 6 (.fork 7 (.take 8 0 .done) .stop) .stop) (.fork 6 (.fork 4 (.fork 7 (.take 8 0 .done) .stop) .stop) .stop)) (.fork 6 (.fork 0 (.fork 4 (.fork 7 (.take 8 0 .done) .stop) .stop) .stop) .stop)) .stop))))) ⟨52, [(0, .sl (itemsAV l)), (3, .ptr 0 0), (5, .int .i64 k), (6, .row 1 0 (k + 1))], [(0, .cells i.cells), (1, .row 8 (itemsAV (l.take k ++ [i])) true)], 2, gl, 0, []⟩ ?_ ?_
      · intro σ' hσ
        simp only [List.map_cons, List.map_nil, List.mem_cons, List.not_mem_nil, or_false] at hσ
        rcases hσ with rfl | rfl | rfl | rfl | rfl | rfl
        all_goals simp only [St.norm, sortE, insE]
        all_goals refine St.le.vw [0, 4]
      skip
      skip
      skip
      refine AW.seq ?_
      refine AW.dS [(0, 0), (1, 0), (2, 1), (3, 0), (4, 0), (5, 0), (6, 0), (7, 1), (8, 0), (9, 1), (10, 0), (11, 1), (12, 0), (13, 0)] ?_
      refine AW.c2 ?_ ?_
      · intro h20
        have ht : ithere l i.num = true := by rw [ithere_eq hp]; simp only [Bool.and_eq_true, decide_eq_true_eq]; exact h20
        refine AW.rL ?_
        refine AW.rS ?_
        refine AW.rt ?_
        rw [lay_there ht, hp]
        have e1 : List.take (k + 1) (List.take k l ++ [i]) = List.take k l ++ [i] := List.take_of_length_le (by simp; omega)
        rw [e1]
        refine ⟨by simp; omega, ?_⟩
        rw [List.take_of_length_le (by simp; omega)]
      · intro h20
        have ht : ithere l i.num = false := by rw [ithere_eq hp]; simp only [Bool.and_eq_false_iff, decide_eq_false_iff_not]; exact h20
        refine AW.skip ?_
        refine AW.rS ?_
        refine AW.rt ?_
        rw [lay_new ht, hp]
        have e1 : List.take (k + 1) (List.take k l ++ [i]) = List.take k l ++ [i] := List.take_of_length_le (by simp; omega)
        rw [e1]
        refine ⟨by simp; omega, ?_⟩
        rw [List.take_of_length_le (by simp; omega)]
  · skip
    refine AW.dS [(0, 0), (1, 0), (2, 1), (3, 0), (4, 0), (5, 0), (6, 0), (7, 1), (8, 0), (9, 1), (10, 0), (11, 1), (12, 0), (13, 0)] ?_
    refine AW.c2 ?_ ?_
    · intro h8
      exfalso
      simp at h8
      try omega
    · intro h8
      have hp := iplace_eq (l := l) (n := i.num) hk hs (fun h => absurd h (by omega))
      refine AW.exit ?_
      refine AW.tV (.take 1 0 (.take 2 0 (.take 3 0 (.fork 0 (.fork 4 (.fork 5 (.fork 6 (.fork 7 (.take 8 0 .done) .stop) .stop) .stop) (.fork 5 (.fork 4 (.fork 6 (.fork 7 (.take 8 0 .done) .stop) .stop) (.fork 6 (.fork 4 (.fork 7 (.take 8 0 .done) .stop) .stop) .stop)) .stop)) (.fork 5 (.fork 0 (.fork 4 (.fork 6 (.fork 7 (.take 8 0 .done) .stop) .stop) (.fork 6 (.fork 4 (.fork 7 (.take 8 0 .done) .stop) .stop) .stop)) (.fork 6 (.fork 0 (.fork 4 (.fork 7 (.take 8 0 .done) .stop) .stop) .stop) .stop)) .stop))))) ⟨52, [(0, .sl (itemsAV l)), (3, .ptr 0 0), (5, .int .i64 k), (6, .row 1 0 (k + 1))], [(0, .cells i.cells), (1, .row 8 (itemsAV (l.take k ++ [i])) true)], 2, gl, 0, []⟩ ?_ ?_
      · intro σ' hσ
        simp only [List.map_cons, List.map_nil, List.mem_cons, List.not_mem_nil, or_false] at hσ
        rcases hσ with rfl | rfl | rfl | rfl | rfl | rfl
        all_goals simp only [St.norm, sortE, insE]
        all_goals refine St.le.vw [0, 4]
      skip
      skip
      skip
      refine AW.seq ?_
      refine AW.dS [(0, 0), (1, 0), (2, 1), (3, 0), (4, 0), (5, 0), (6, 0), (7, 1), (8, 0), (9, 1), (10, 0), (11, 1), (12, 0), (13, 0)] ?_
      refine AW.c2 ?_ ?_
      · intro h20
        exfalso
        simp at h20
        try omega
      · intro h20
        have ht : ithere l i.num = false := by rw [ithere_eq hp]; simp only [Bool.and_eq_false_iff, decide_eq_false_iff_not]; exact .inl hs7
        refine AW.skip ?_
        refine AW.rS ?_
        refine AW.rt ?_
        rw [lay_new ht, hp]
        have e1 : List.take (k + 1) (List.take k l ++ [i]) = List.take k l ++ [i] := List.take_of_length_le (by simp; omega)
        rw [e1]
        refine ⟨by simp; omega, ?_⟩
        rw [List.take_of_length_le (by simp; omega)]
theorem c_foliantref19_Put (gl : List (Nat × AV)) (d : Dc) (i : Itm) (h : d.tot + i.tot ≤ 16777000) : FnP Tryz.prog (gl) 51 [.agg d.cells, .agg i.cells] fun r => r = .ret (.tup [.agg (putO d i).cells, .int .i64 (putE d i)]) := by
  refine FnP.intro Tryz.func51 rfl rfl (by simp [Tryz.ntmps51]) ?_
  simp only [argEnv, Tryz.ntmps51, Tryz.results51]
  have h1 : d.tot = itots d.items + d.trailer.tot := rfl
  have h2 : i.tot = i.obj.tot + 3 := rfl
  have hb := ibulk_tot d.items
  have hl := itots_lay d.items i
  have hlt : (Dc.mk (layI d.items i) d.trailer).tot = itots (layI d.items i) + d.trailer.tot := rfl
  refine AW.rS ?_
  refine AW.seq ?_
  refine AW.rSC ?_
  refine awOps.cons (awGuard.c1 (c_foliantref19_Check _ d (by omega)) ?_)
  refine awOps.rn ?_
  refine AW.rS ?_
  refine AW.c2 ?_ ?_
  · intro h7
    refine AW.rS ?_
    refine AW.rt ?_
    have hp := put_doc (i := i) h7
    rw [hp.1, hp.2]; rfl
  · intro h7
    refine AW.skip ?_
    refine AW.seq ?_
    refine AW.rSC ?_
    refine awOps.cons (awGuard.c1 (c_foliantref19_item _ i (by omega)) ?_)
    refine awOps.rn ?_
    refine AW.rS ?_
    refine AW.c2 ?_ ?_
    · intro h17
      refine AW.rS ?_
      refine AW.rt ?_
      have hp := put_alone h7 h17
      rw [hp.1, hp.2]; rfl
    · intro h17
      refine AW.skip ?_
      refine AW.rSC ?_
      refine awOps.cons (awGuard.c1 (c_foliantref19_lay _ d.items i (by omega)) ?_)
      refine awOps.rn ?_
      refine AW.rSC ?_
      refine awOps.cons (awGuard.c1 (c_foliantref19_right _ ⟨layI d.items i, d.trailer⟩ (by omega)) ?_)
      refine awOps.rn ?_
      refine AW.rt ?_
      have hp := put_ok h7 h17
      rw [hp.1, hp.2]
theorem c_foliantref19_Free (gl : List (Nat × AV)) (d : Dc) (h : d.tot ≤ 16777000) : FnP Tryz.prog (gl) 98 [.agg d.cells] fun r => r = .ret (.tup [.int .i64 (freeN d), .int .i64 (freeE d)]) := by
  refine FnP.intro Tryz.func98 rfl rfl (by simp [Tryz.ntmps98]) ?_
  simp only [argEnv, Tryz.ntmps98, Tryz.results98]
  have h1 : d.tot = itots d.items + d.trailer.tot := rfl
  have hlen := itots_len d.items
  refine AW.rS ?_
  refine AW.seq ?_
  refine AW.rSC ?_
  refine awOps.cons (awGuard.c1 (c_foliantref19_Check _ d (by omega)) ?_)
  refine awOps.rn ?_
  refine AW.rS ?_
  refine AW.c2 ?_ ?_
  · intro h7
    refine AW.rS ?_
    refine AW.rt ?_
    have hp := free_doc h7
    rw [hp.1, hp.2]
  · intro h7
    refine AW.skip ?_
    refine AW.rS ?_
    refine AW.seq ?_
    refine AW.rS ?_
    refine AW.c2 ?_ ?_
    · intro h15
      have hln : lastN d.items = (d.items.getD (d.items.length - 1) Itm.zero).num + 1 := by unfold lastN; rw [if_neg (by omega)]
      have hnu := (items_ok.1 (docE_items h7) (d.items.length - 1) (by omega)).1
      simp only [numsB, Bool.and_eq_true, decide_eq_true_eq] at hnu
      refine AW.rL ?_
      refine AW.seq ?_
      refine AW.rS ?_
      refine AW.c2 ?_ ?_
      · intro h19
        refine AW.rS ?_
        refine AW.rt ?_
        have hp := free_full h7 (by omega)
        rw [hp.1, hp.2]
      · intro h19
        refine AW.skip ?_
        refine AW.rS ?_
        refine AW.rt ?_
        have hp := free_ok h7 (by omega)
        rw [hp.1, hp.2, hln]
    · intro h15
      have hln : lastN d.items = 1 := by unfold lastN; rw [if_pos (by omega)]
      refine AW.skip ?_
      refine AW.seq ?_
      refine AW.rS ?_
      refine AW.c2 ?_ ?_
      · intro h30
        refine AW.rS ?_
        refine AW.rt ?_
        first | contradiction | (exfalso; omega) | (simp at h30; done) | exact absurd h30 (by decide)
      · intro h30
        refine AW.skip ?_
        refine AW.rS ?_
        refine AW.rt ?_
        have hp := free_ok h7 (by omega)
        rw [hp.1, hp.2, hln]
theorem c_foliantref19_Add (gl : List (Nat × AV)) (d : Dc) (o : Pob) (h : d.tot + o.tot ≤ 16776000) : FnP Tryz.prog (gl) 61 [.agg d.cells, .agg o.cells] fun r => r = .ret (.tup [.agg (addO d o).cells, .int .i64 (addN d o), .int .i64 (addE d o)]) := by
  refine FnP.intro Tryz.func61 rfl rfl (by simp [Tryz.ntmps61]) ?_
  simp only [argEnv, Tryz.ntmps61, Tryz.results61]
  refine AW.rS ?_
  refine AW.rSC ?_
  refine awOps.cons (awGuard.c1 (c_foliantref19_Free _ d (by omega)) ?_)
  refine awOps.rn ?_
  refine AW.seq ?_
  refine AW.rS ?_
  refine AW.c2 ?_ ?_
  · intro h7
    refine AW.rS ?_
    refine AW.rt ?_
    have hp := add_free (o := o) h7
    rw [hp.1, hp.2.1, hp.2.2]; rfl
  · intro h7
    refine AW.skip ?_
    refine AW.rSC ?_
    refine awOps.cons (awGuard.c1 (c_foliantref19_Put _ d ⟨freeN d, 0, o⟩ (by simp only [Itm.tot]; omega)) ?_)
    refine awOps.rn ?_
    refine AW.seq ?_
    refine AW.rS ?_
    refine AW.c2 ?_ ?_
    · intro h17
      refine AW.rS ?_
      refine AW.rt ?_
      have hp := add_put h7 h17
      rw [hp.1, hp.2.1, hp.2.2]; rfl
    · intro h17
      refine AW.skip ?_
      refine AW.rS ?_
      refine AW.rt ?_
      have hp := add_ok h7 h17
      rw [hp.1, hp.2.1, hp.2.2]
end Go.Proofs

set_option linter.unusedVariables false
set_option linter.unusedSimpArgs false
namespace Aw
open Go
theorem incr_iff {ks : List (List UInt8)} : incr ks ↔ ks.Pairwise fun a b => Op.bytesLess a b = true := by
  rw [List.pairwise_iff_getElem]
  constructor
  · intro h i j hi hj hij
    have := h i j hij hj
    simpa [List.getD, hi, hj] using this
  · intro h a b hab hb
    have := h a b (by omega) hb hab
    simpa [List.getD, hb, show a < ks.length by omega] using this
theorem has_pairs {l : List (List UInt8 × Pob)} {k : List UInt8} {v : Pob} : (Pob.mk 7 0 0 [] (l.map (·.1)) (l.map (·.2))).has k v ↔ (k, v) ∈ l := by
  unfold Pob.has
  simp only [Pob.keys_mk, Pob.kids_mk, List.length_map]
  constructor
  · rintro ⟨i, hi, h1, h2⟩
    rw [List.getD, List.getElem?_map, List.getElem?_eq_getElem hi] at h1 h2
    simp only [Option.map_some, Option.getD_some] at h1 h2
    have : (k, v) = l[i] := by rw [← h1, ← h2]
    rw [this]
    exact List.getElem_mem hi
  · intro h
    obtain ⟨i, hi, he⟩ := List.getElem_of_mem h
    refine ⟨i, hi, ?_, ?_⟩ <;> rw [List.getD, List.getElem?_map, List.getElem?_eq_getElem hi, he] <;> rfl
def allP (o : Pob) (i : Nat) : List (List UInt8 × Pob) := (List.range i).map fun j => (o.keys.getD j [], o.kids.getD j Pob.null)
def trP (o : Pob) (i : Nat) : List (List UInt8 × Pob) := (allP o i).filter fun p => decide (0 ≤ kidxI trailK p.1)
theorem trP_yes {o : Pob} {i : Nat} (h : 0 ≤ kidxI trailK (o.keys.getD i [])) : trP o (i + 1) = trP o i ++ [(o.keys.getD i [], o.kids.getD i Pob.null)] := by
  unfold trP allP
  rw [List.range_succ, List.map_append, List.filter_append]
  simp only [List.map_cons, List.map_nil, List.filter_cons, h, decide_true, if_true, List.filter_nil]
theorem trP_no {o : Pob} {i : Nat} (h : ¬ 0 ≤ kidxI trailK (o.keys.getD i [])) : trP o (i + 1) = trP o i := by
  unfold trP allP
  rw [List.range_succ, List.map_append, List.filter_append]
  simp only [List.map_cons, List.map_nil, List.filter_cons, h, decide_false, List.filter_nil]
  simp
theorem trP_len (o : Pob) (i : Nat) : (trP o i).length ≤ i := by
  have := List.length_filter_le (fun p : List UInt8 × Pob => decide (0 ≤ kidxI trailK p.1)) (allP o i)
  unfold trP
  have h2 : (allP o i).length = i := by simp [allP]
  omega
theorem trP_zero (o : Pob) : trP o 0 = [] := rfl
theorem allP_keys (o : Pob) : (allP o o.keys.length).map (·.1) = o.keys := by
  refine List.ext_getElem (by simp [allP]) fun i h1 h2 => ?_
  simp [allP, List.getD, h2]
theorem allP_mem {o : Pob} {k : List UInt8} {v : Pob} : (k, v) ∈ allP o o.keys.length ↔ o.has k v := by
  unfold allP Pob.has
  simp only [List.mem_map, List.mem_range, Prod.mk.injEq]
theorem trail_mem {k : List UInt8} : 0 ≤ kidxI trailK k ↔ k ∈ trailK := by
  rw [trail_idx]
  simp [trailK]
theorem trailer_ref {o : Pob} (h : chk o 1 = 0) (hk : keyedB o.kind = true) : Pob.mk 7 0 0 [] ((trP o o.keys.length).map (·.1)) ((trP o o.keys.length).map (·.2)) = trailerO o := by
  have hs := kvOk_of_chk h hk
  have hb : trailerB o = true := by simp [trailerB, hk, h]
  rw [trailerO, if_pos hb]
  have e1 : trailerK o 3 = ((trailerK o 3).map fun k => (k, getO o k)).map (·.1) := by simp [List.map_map, Function.comp_def]
  have e2 : (trailerK o 3).map (getO o) = ((trailerK o 3).map fun k => (k, getO o k)).map (·.2) := by simp [List.map_map, Function.comp_def]
  rw [e2]
  conv => rhs; rw [e1]
  have e3 : (((trailerK o 3).map fun k => (k, getO o k)).map (·.1)).map (fun k => (k, getO o k)) = (trailerK o 3).map fun k => (k, getO o k) := by rw [← e1]
  rw [e3]
  refine kv_ext ⟨?_, by simp only [Pob.keys_mk, Pob.kids_mk, List.length_map]⟩ ⟨?_, by simp only [Pob.keys_mk, Pob.kids_mk, List.length_map]⟩ rfl rfl rfl rfl fun k v => ?_
  · rw [incr_iff]
    show ((trP o o.keys.length).map (·.1)).Pairwise _
    have : (trP o o.keys.length).map (·.1) = o.keys.filter fun k => decide (0 ≤ kidxI trailK k) := by
      conv => rhs; rw [← allP_keys o]
      rw [List.filter_map]
      rfl
    rw [this]
    exact (incr_iff.1 hs.1).filter _
  · rw [incr_iff]
    show (((trailerK o 3).map fun k => (k, getO o k)).map (·.1)).Pairwise _
    rw [← e1]
    unfold trailerK
    refine List.Pairwise.filter _ ?_
    decide
  · rw [has_pairs, has_pairs]
    unfold trP
    rw [List.mem_filter, allP_mem]
    simp only [decide_eq_true_eq, List.mem_map, Prod.mk.injEq]
    rw [trail_mem]
    unfold trailerK
    simp only [List.mem_filter]
    have e4 : trailK.take 3 = trailK := rfl
    rw [e4]
    constructor
    · rintro ⟨h1, h2⟩
      obtain ⟨g1, g2⟩ := (get_has hs hk).2 h1
      exact ⟨k, ⟨h2, g1⟩, rfl, g2⟩
    · rintro ⟨k', ⟨h2, g1⟩, rfl, g2⟩
      exact ⟨(get_has hs hk).1 ⟨g1, g2⟩, h2⟩
end Aw
